/- The law's row. -/
import Derived.Test.YtoglbmhkfkghbaaW2
import Derived.Test.YtoglbmhkfkghbaaRows
namespace Go.Proofs.Ytoglbmhkfkghbaa
open Go Go.Ab Go.RowKit

theorem own : ownKnob Try.prog.godebug = none := by kernel_rfl
theorem laid : laidOutB Try.prog = true := by kernel_rfl
theorem byte_row : ∀ x, RInt .u8 x → ∃ b : UInt8, True ∧ x = [.int .u8 (b.toNat : Int)] := by
  rintro x ⟨n, rfl, h1, h2⟩
  simp only [IntKind.min, IntKind.max, IntKind.signed, IntKind.bits] at h1 h2
  refine ⟨UInt8.ofNat n.toNat, trivial, ?_⟩
  rw [UInt8.toNat_ofNat']
  congr 2
  simp at h1 h2
  omega
theorem lifted1 (os : Os) (started : os.Started) (H : Type) (enc : TypeId × Value → H) :
    ReturnsInHanded {} Try.checked os 3 .any (Rows.imageSumsSpec.pre6 enc Try.prog Try.f3 Rows.imageSumsRow.domain false) (Rows.imageSumsSpec.post enc Try.prog Try.f3 false true false false) := by
  refine law_lifted (C := Try.checked) own started (by kernel_rfl) Try.func3
    (ChangeSpec.witness6 (enc := enc) (C := Try.checked) false ⟨#[], #[.slice none 0 0], []⟩ 8 (by kernel_rfl) (by kernel_rfl) (by kernel_rfl) (by kernel_rfl))
    laid (by kernel_rfl) rfl ?_ (rt := 4) rfl Try.underlying4 (rs := [(22, RSlice 1 (RInt .u8))]) rfl ?_ ?_
  · intro ds hds
    match ds, hds with
    | [_], _ => exact ⟨rfl, rfl, rfl⟩
  · intro r hr
    simp only [List.mem_cons, List.not_mem_nil, or_false] at hr
    subst hr
    intro W n
    cases n with
    | zero => exact .zero _ _
    | succ n => exact read_slice Try.underlying22 (by kernel_rfl) (by decide) (read_int Try.underlying5 W n)
  · intro Ds h
    obtain ⟨d1, _, rfl, h1, h⟩ := h.flat (by kernel_rfl)
    obtain rfl := h.nil
    obtain ⟨l, _, hw⟩ := slice_list (0 : UInt8) byte_row h1
    exact ((law_sums l).weakArgs (ds := [d1]) (by simp only [weakL]; exact ⟨hw, trivial⟩)).mono fun r S' hr => hr
theorem over1 : Rows.imageSumsRow.holds Try.pinned (OpenSpec.ofChange Rows.imageSumsSpec) :=
  OpenClaim.holds_of_wide 3 Try.f3 rfl rfl rfl rfl rfl rfl rfl ⟨rfl, rfl, rfl, rfl, rfl⟩ rfl rfl rfl rfl rfl (by kernel_rfl) Try.func3 (by kernel_rfl)
    (of_decide_eq_true (by kernel_rfl)) (by unfold Func.isWrapper; first | (rw [if_pos (by decide +kernel)]; kernel_rfl) | (rw [if_neg (by decide +kernel)]; exact ⟨rfl, rfl⟩))
    (fun os started H enc _ => lifted1 os started H enc)
theorem provedSums : Rows.ImageSumsSaid := over1
end Go.Proofs.Ytoglbmhkfkghbaa
