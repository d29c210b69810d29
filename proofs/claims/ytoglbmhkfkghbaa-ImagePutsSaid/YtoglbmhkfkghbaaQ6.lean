/- ImagePuts: for every compiled program that is small as the law's Few says, Put and the reference's Put answer the same error and the same bytes; no other condition. -/
import Derived.Test.YtoglbmhkfkghbaaQ5
import Derived.Test.YtoglbmhkfkghbaaRows
namespace Go.Proofs.Ytoglbmhkfkghbaa
open Go Go.Ab Go.RowKit

theorem own : ownKnob Try.prog.godebug = none := by kernel_rfl
theorem laid : laidOutB Try.prog = true := by kernel_rfl
theorem lifted2 (os : Os) (started : os.Started) (H : Type) (enc : TypeId × Value → H) :
    ReturnsInHanded {} Try.checked os 4 .any (Rows.imagePutsSpec.pre6 enc Try.prog Try.f4 Rows.imagePutsRow.domain false) (Rows.imagePutsSpec.post enc Try.prog Try.f4 false true false false) := by
  refine law_lifted (C := Try.checked) own started (by kernel_rfl) Try.func4
    (ChangeSpec.witness6 (enc := enc) (C := Try.checked) false ⟨#[], #[.agg #[.slice none 0 0, .slice none 0 0, .slice none 0 0, .slice none 0 0]], []⟩ 8 (by kernel_rfl) (by kernel_rfl) (by kernel_rfl) (by kernel_rfl))
    laid (by kernel_rfl) rfl ?_ (rt := 4) rfl Try.underlying4 (rs := [(32, fun ds => ∃ c : CodD, c.ok ∧ ds = c.row)]) rfl ?_ ?_
  · intro ds hds
    match ds, hds with
    | [_], _ => exact ⟨rfl, rfl, rfl⟩
  · intro r hr
    simp only [List.mem_cons, List.not_mem_nil, or_false] at hr
    subst hr
    exact read_code
  · intro Ds h
    obtain ⟨cs, _, rfl, h1, h⟩ := h.agg (by kernel_rfl)
    obtain rfl := h.nil
    obtain ⟨c, hc, rfl⟩ := h1
    exact (law_puts c hc).mono fun r S' ⟨_, _, hr, _⟩ => hr
theorem over2 : Rows.imagePutsRow.holds Try.pinned (OpenSpec.ofChange Rows.imagePutsSpec) :=
  OpenClaim.holds_of_wide 4 Try.f4 rfl rfl rfl rfl rfl rfl rfl ⟨rfl, rfl, rfl, rfl, rfl⟩ rfl rfl rfl rfl rfl (by kernel_rfl) Try.func4 (by kernel_rfl)
    (of_decide_eq_true (by kernel_rfl)) (by unfold Func.isWrapper; first | (rw [if_pos (by decide +kernel)]; kernel_rfl) | (rw [if_neg (by decide +kernel)]; exact ⟨rfl, rfl⟩))
    (fun os started H enc _ => lifted2 os started H enc)
theorem provedPuts : Rows.ImagePutsSaid := over2
end Go.Proofs.Ytoglbmhkfkghbaa
