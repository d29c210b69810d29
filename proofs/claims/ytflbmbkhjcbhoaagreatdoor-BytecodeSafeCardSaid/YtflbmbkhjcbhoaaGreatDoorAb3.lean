/- An abstract state over the worlds of the model, what each operation does to it, and the verification condition of code over it: proved for every program, without conditions. -/
import Derived.Test.YtflbmbkhjcbhoaaGreatDoorAb2
namespace Go.Ab
open Go Go.RowKit
variable {P:Program} {W:World}
theorem ReadAt.weak {n:Nat} {t:TypeId} {R R':List D→Prop} (h:ReadAt P W n t R) (k:∀ (hG:G0 W) ds vs,R ds→RepL (ctx0 W hG) ds vs→∃ ds',R' ds'∧RepL (ctx0 W hG) ds' vs):ReadAt P W n t R' := by
  intro hG H enc cs d ps hd hw
  obtain ⟨⟨ds,h1,h2⟩,h3⟩ := h hG H enc cs d ps hd hw
  exact ⟨k hG _ _ h1 h2,h3⟩
def RSliceA (w:Nat) (R:List D→Prop):List D→Prop := fun ds => ∃ l:List (List D),(∀ x ∈ l,R x)∧l.length ≤ maxB∧ds = [.sl w l.length (fun i => l.getD i []) .any]
theorem read_sliceA {t e:TypeId} {w:Nat} {R:List D→Prop} (ht:P.underlying t = some (.slice e)) (hw:P.cellsOf e = w) (hc:0 < w) (hby:0 < P.bytesOf e) {n:Nat} (he:ReadAt P W n e R):ReadAt P W (n + 1) t (RSliceA w R) := by
  refine (read_slice ht hw hc hby he).weak ?_
  rintro hG ds vs (rfl | ⟨l,h1,hl,rfl⟩) h
  · refine ⟨_,⟨[],by simp,by simp [maxB],rfl⟩,?_⟩
    refine weakL_weak _ _ ?_ _ _ h
    simp [weakL,weakD,chk,weakM]
  · exact ⟨_,⟨l,h1,hl,rfl⟩,h⟩
theorem rows_of {α:Type} {R:List D→Prop} {g:α→List D} {Q:α→Prop} (hR:∀ x,R x→∃ a,Q a∧x = g a):∀ (l:List (List D)),(∀ x ∈ l,R x)→∃ l':List α,(∀ a ∈ l',Q a)∧l = l'.map g
  | [],_ => ⟨[],by simp,rfl⟩
  | x :: l,h => by
    obtain ⟨a,q,e⟩ := hR x (h x (by simp))
    obtain ⟨l',q',e'⟩ := rows_of hR l fun y hy => h y (by simp [hy])
    refine ⟨a :: l',?_,by rw [e,e']; rfl⟩
    intro b hb
    rcases List.mem_cons.1 hb with rfl | hb
    · exact q
    · exact q' b hb
end Go.Ab
