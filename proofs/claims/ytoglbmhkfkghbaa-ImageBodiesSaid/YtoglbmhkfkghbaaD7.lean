/- The law ImageBodies of chapter 53 returns true at every body; there are no conditions. -/
import Derived.Test.YtoglbmhkfkghbaaD6
import Derived.Test.YtoglbmhkfkghbaaRows
namespace Go.Proofs.Ytoglbmhkfkghbaa
open Go Go.Ab Go.RowKit
theorem own:ownKnob Try.prog.godebug = none := by kernel_rfl
theorem laid:laidOutB Try.prog = true := by kernel_rfl
theorem byte_row:∀ x,RInt .u8 x→∃ b:UInt8,True∧x = [.int .u8 (b.toNat:Int)] := by
  rintro x ⟨n,rfl,h1,h2⟩
  simp only [IntKind.min,IntKind.max,IntKind.signed,IntKind.bits] at h1 h2
  refine ⟨UInt8.ofNat n.toNat,trivial,?_⟩
  rw [UInt8.toNat_ofNat']
  congr 2
  simp at h1 h2
  omega
theorem lifted4 (os : Os) (started : os.Started) (H : Type) (enc : TypeId × Value → H) :
    ReturnsInHanded {} Try.checked os 6 .any (Rows.imageBodiesSpec.pre6 enc Try.prog Try.f6 Rows.imageBodiesRow.domain false) (Rows.imageBodiesSpec.post enc Try.prog Try.f6 false true false false) := by
  refine law_lifted (C := Try.checked) own started (by kernel_rfl) Try.func6
    (ChangeSpec.witness6 (enc := enc) (C := Try.checked) false ⟨#[],#[.slice none 0 0],[]⟩ 8 (by kernel_rfl) (by kernel_rfl) (by kernel_rfl) (by kernel_rfl))
    laid (by kernel_rfl) rfl ?_ (rt := 4) rfl Try.underlying4 (rs := [(22,RSliceA 1 (RInt .u8))]) rfl ?_ ?_
  · intro ds hds
    match ds,hds with
    | [_],_ => exact ⟨rfl,rfl,rfl⟩
  · intro r hr
    simp only [List.mem_cons,List.not_mem_nil,or_false] at hr
    subst hr
    intro W n
    cases n with
    | zero => exact .zero _ _
    | succ n => exact read_sliceA Try.underlying22 (by kernel_rfl) (by decide) (read_int Try.underlying5 W n)
  · intro Ds h
    obtain ⟨d1,_,rfl,h1,h⟩ := h.flat (by kernel_rfl)
    obtain rfl := h.nil
    obtain ⟨rs,hr,hlen,e⟩ := h1
    injection e with e _
    subst e
    obtain ⟨l,_,rfl⟩ := rows_of (g := fun b:UInt8 => [D.int .u8 (b.toNat:Int)]) byte_row rs hr
    have hw:weakL [.sl 1 (l.map fun b:UInt8 => [D.int .u8 (b.toNat:Int)]).length (fun i => (l.map fun b:UInt8 => [D.int .u8 (b.toNat:Int)]).getD i []) .any] [bsl l .any] := by
      refine ⟨chk_iff.2 ⟨rfl,by simp,fun i hi => ?_,trivial⟩,trivial⟩
      have hi:i < l.length := by simpa using hi
      simp [List.getD_eq_getElem?_getD,hi]
    refine ((law_bodies l (by simpa using hlen)).weakArgs hw).mono fun r S' ⟨_,_,hr,_⟩ => hr
theorem over4:Rows.imageBodiesRow.holds Try.pinned (OpenSpec.ofChange Rows.imageBodiesSpec) :=
  OpenClaim.holds_of_wide 6 Try.f6 rfl rfl rfl rfl rfl rfl rfl ⟨rfl,rfl,rfl,rfl,rfl⟩ rfl rfl rfl rfl rfl (by kernel_rfl) Try.func6 (by kernel_rfl)
    (of_decide_eq_true (by kernel_rfl)) (by unfold Func.isWrapper; first | (rw [if_pos (by decide +kernel)]; kernel_rfl) | (rw [if_neg (by decide +kernel)]; exact ⟨rfl,rfl⟩))
    (fun os started H enc _ => lifted4 os started H enc)
theorem provedBodies:Rows.ImageBodiesSaid := over4
end Go.Proofs.Ytoglbmhkfkghbaa
