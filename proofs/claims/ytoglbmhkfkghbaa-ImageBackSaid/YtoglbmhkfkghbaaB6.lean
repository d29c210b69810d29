/- The law ImageBack of chapter 53 returns true at every program; there are no conditions. -/
import Derived.Test.YtoglbmhkfkghbaaB5
import Derived.Test.YtoglbmhkfkghbaaRows
namespace Go.Proofs.Ytoglbmhkfkghbaa
open Go Go.Ab Go.RowKit
theorem own : ownKnob Try.prog.godebug = none := by kernel_rfl
theorem laid : laidOutB Try.prog = true := by kernel_rfl
theorem lifted6 (os : Os) (started : os.Started) (H : Type) (enc : TypeId × Value → H) :
    ReturnsInHanded {} Try.checked os 7 .any (Rows.imageBackSpec.pre6 enc Try.prog Try.f7 Rows.imageBackRow.domain false) (Rows.imageBackSpec.post enc Try.prog Try.f7 false true false false) := by
  refine law_lifted (C := Try.checked) own started (by kernel_rfl) Try.func7
    (ChangeSpec.witness6 (enc := enc) (C := Try.checked) false ⟨#[], #[.agg #[.slice none 0 0, .slice none 0 0, .slice none 0 0, .slice none 0 0]], []⟩ 8 (by kernel_rfl) (by kernel_rfl) (by kernel_rfl) (by kernel_rfl))
    laid (by kernel_rfl) rfl ?_ (rt := 4) rfl Try.underlying4 (rs := [(32, fun ds => ∃ c : CodD, c.ok ∧ ds = c.row)]) rfl ?_ ?_
  · intro ds hds
    match ds, hds with
    | [_], _ => exact ⟨rfl, rfl, rfl⟩
  · intro r hr
    simp only [List.mem_cons, List.not_mem_nil, or_false] at hr
    subst hr
    exact read_code
  · intro Ds h
    obtain ⟨cs, _, rfl, h1, h⟩ := h.agg (by kernel_rfl)
    obtain rfl := h.nil
    obtain ⟨c, hc, rfl⟩ := h1
    exact (law_back c hc).mono fun r S' ⟨_, _, hr, _⟩ => hr
theorem over6 : Rows.imageBackRow.holds Try.pinned (OpenSpec.ofChange Rows.imageBackSpec) :=
  OpenClaim.holds_of_wide 7 Try.f7 rfl rfl rfl rfl rfl rfl rfl ⟨rfl, rfl, rfl, rfl, rfl⟩ rfl rfl rfl rfl rfl (by kernel_rfl) Try.func7 (by kernel_rfl)
    (of_decide_eq_true (by kernel_rfl)) (by unfold Func.isWrapper; first | (rw [if_pos (by decide +kernel)]; kernel_rfl) | (rw [if_neg (by decide +kernel)]; exact ⟨rfl, rfl⟩))
    (fun os started H enc _ => lifted6 os started H enc)
theorem provedBack : Rows.ImageBackSaid := over6
end Go.Proofs.Ytoglbmhkfkghbaa
