/- ImageChanged: for every compiled program that is small as the law's Few says, every place and every byte, Take answers a fault of form or of checksum for an image with one changed byte; no other condition. -/
import Derived.Test.YtoglbmhkfkghbaaC5
import Derived.Test.YtoglbmhkfkghbaaRows
namespace Go.Proofs.Ytoglbmhkfkghbaa
open Go Go.Ab Go.RowKit

theorem own : ownKnob Try.prog.godebug = none := by kernel_rfl
theorem laid : laidOutB Try.prog = true := by kernel_rfl
theorem byte_row : ∀ x, RInt .u8 x → ∃ b : UInt8, True ∧ x = [.int .u8 (b.toNat : Int)] := by
  rintro x ⟨n, rfl, h1, h2⟩
  simp only [IntKind.min, IntKind.max, IntKind.signed, IntKind.bits] at h1 h2
  refine ⟨UInt8.ofNat n.toNat, trivial, ?_⟩
  rw [UInt8.toNat_ofNat']
  congr 2
  simp at h1 h2
  omega
theorem lifted5 (os : Os) (started : os.Started) (H : Type) (enc : TypeId × Value → H) :
    ReturnsInHanded {} Try.checked os 8 .any (Rows.imageChangedSpec.pre6 enc Try.prog Try.f8 Rows.imageChangedRow.domain false) (Rows.imageChangedSpec.post enc Try.prog Try.f8 false true false false) := by
  refine law_lifted (C := Try.checked) own started (by kernel_rfl) Try.func8
    (ChangeSpec.witness6 (enc := enc) (C := Try.checked) false ⟨#[], #[.agg #[.slice none 0 0, .slice none 0 0, .slice none 0 0, .slice none 0 0], .int .i64 0, .int .u8 0], []⟩ 8 (by kernel_rfl) (by kernel_rfl) (by kernel_rfl) (by kernel_rfl))
    laid (by kernel_rfl) rfl ?_ (rt := 4) rfl Try.underlying4 (rs := [(32, fun ds => ∃ c : CodD, c.ok ∧ ds = c.row), (3, RInt .i64), (5, RInt .u8)]) rfl ?_ ?_
  · intro ds hds
    match ds, hds with
    | [_, _, _], _ => exact ⟨rfl, rfl, rfl⟩
  · intro r hr
    simp only [List.mem_cons, List.not_mem_nil, or_false] at hr
    rcases hr with rfl | rfl | rfl
    · exact read_code
    · exact fun W n => read_int Try.underlying3 W n
    · exact fun W n => read_int Try.underlying5 W n
  · intro Ds h
    obtain ⟨cs, _, rfl, h1, h⟩ := h.agg (by kernel_rfl)
    obtain ⟨d2, _, rfl, h2, h⟩ := h.flat (by kernel_rfl)
    obtain ⟨d3, _, rfl, h3, h⟩ := h.flat (by kernel_rfl)
    obtain rfl := h.nil
    obtain ⟨c, hc, rfl⟩ := h1
    obtain ⟨z, hz, e2⟩ := int_row _ h2
    obtain ⟨x, _, e3⟩ := byte_row _ h3
    injection e2 with e2 _
    injection e3 with e3 _
    subst e2 e3
    exact (law_changed c hc z hz x).mono fun r S' ⟨_, _, hr, _⟩ => hr
theorem over5 : Rows.imageChangedRow.holds Try.pinned (OpenSpec.ofChange Rows.imageChangedSpec) :=
  OpenClaim.holds_of_wide 8 Try.f8 rfl rfl rfl rfl rfl rfl rfl ⟨rfl, rfl, rfl, rfl, rfl⟩ rfl rfl rfl rfl rfl (by kernel_rfl) Try.func8 (by kernel_rfl)
    (of_decide_eq_true (by kernel_rfl)) (by unfold Func.isWrapper; first | (rw [if_pos (by decide +kernel)]; kernel_rfl) | (rw [if_neg (by decide +kernel)]; exact ⟨rfl, rfl⟩))
    (fun os started H enc _ => lifted5 os started H enc)
theorem provedChanged : Rows.ImageChangedSaid := over5
end Go.Proofs.Ytoglbmhkfkghbaa
