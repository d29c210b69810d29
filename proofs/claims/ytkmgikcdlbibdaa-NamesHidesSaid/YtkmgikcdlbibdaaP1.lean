/- NamesHides and NamesOrder return true for every input and leave their arguments as they were; no conditions. -/
import Derived.Test.YtkmgikcdlbibdaaW1
import Derived.Test.YtkmgikcdlbibdaaRows
namespace Go.Proofs.Ytkmgikcdlbibdaa
open Go Go.Ab Go.RowKit

theorem own : ownKnob Try.prog.godebug = none := by kernel_rfl
theorem laid : laidOutB Try.prog = true := by kernel_rfl
theorem und9 : Try.prog.underlying 9 = some .string := by kernel_rfl
theorem und30 : Try.prog.underlying 30 = some (.int .i64) := by kernel_rfl
theorem und39 : Try.prog.underlying 39 = some (.slice 9) := by kernel_rfl
theorem und4 : Try.prog.underlying 4 = some .bool := by kernel_rfl
theorem SpecR.simple {A : FnSpec} {x : A.β} {d : D} (h : ∀ y, A.res x y = .ret d) : ∀ r S', SpecR A x r S' → r = .ret d := by
  rintro r S' ⟨y, _, rfl, _⟩; exact h y

theorem liftedH (os : Os) (started : os.Started) (H : Type) (enc : TypeId × Value → H) :
    ReturnsInHanded {} Try.checked os 4 .any (Rows.namesHidesSpec.pre6 enc Try.prog Try.f4 Rows.namesHidesRow.domain false) (Rows.namesHidesSpec.post enc Try.prog Try.f4 false true false false) := by
  refine law_lifted (C := Try.checked) own started (by kernel_rfl) Try.func4
    (ChangeSpec.witness6 (enc := enc) (C := Try.checked) false ⟨#[], #[.string ⟨#[]⟩, .string ⟨#[]⟩, .int .i64 0, .int .i64 0], []⟩ 8 (by kernel_rfl) (by kernel_rfl) (by kernel_rfl) (by kernel_rfl))
    laid (by kernel_rfl) rfl ?_ (rt := 4) rfl und4 (rs := [(9, RStr), (9, RStr), (30, RInt .i64), (30, RInt .i64)]) rfl ?_ ?_
  · intro ds hds
    match ds, hds with
    | [_, _, _, _], _ => exact ⟨rfl, rfl, rfl⟩
  · intro r hr
    simp only [List.mem_cons, List.not_mem_nil, or_false] at hr
    rcases hr with rfl | rfl | rfl | rfl
    · exact read_string und9
    · exact read_string und9
    · exact read_int und30
    · exact read_int und30
  · intro Ds h
    obtain ⟨d1, _, rfl, ⟨s1, h1, _⟩, h⟩ := h.flat (by kernel_rfl)
    obtain ⟨d2, _, rfl, ⟨s2, h2, _⟩, h⟩ := h.flat (by kernel_rfl)
    obtain ⟨d3, _, rfl, ⟨n3, h3, _⟩, h⟩ := h.flat (by kernel_rfl)
    obtain ⟨d4, _, rfl, ⟨n4, h4, _⟩, h⟩ := h.flat (by kernel_rfl)
    obtain rfl := h.nil
    cases h1; cases h2; cases h3; cases h4
    exact (hides_ok s1 s2 n3 n4).mono (SpecR.simple fun _ => rfl)

theorem overH : Rows.namesHidesRow.holds Try.pinned (OpenSpec.ofChange Rows.namesHidesSpec) :=
  OpenClaim.holds_of_wide 4 Try.f4 rfl rfl rfl rfl rfl rfl rfl ⟨rfl, rfl, rfl, rfl, rfl⟩ rfl rfl rfl rfl rfl (by kernel_rfl) Try.func4 (by kernel_rfl)
    (of_decide_eq_true (by kernel_rfl)) (by unfold Func.isWrapper; first | (rw [if_pos (by decide +kernel)]; kernel_rfl) | (rw [if_neg (by decide +kernel)]; exact ⟨rfl, rfl⟩))
    (fun os started H enc _ => liftedH os started H enc)
theorem provedHides : Rows.NamesHidesSaid := overH

theorem liftedO (os : Os) (started : os.Started) (H : Type) (enc : TypeId × Value → H) :
    ReturnsInHanded {} Try.checked os 5 .any (Rows.namesOrderSpec.pre6 enc Try.prog Try.f5 Rows.namesOrderRow.domain false) (Rows.namesOrderSpec.post enc Try.prog Try.f5 false true false false) := by
  refine law_lifted (C := Try.checked) own started (by kernel_rfl) Try.func5
    (ChangeSpec.witness6 (enc := enc) (C := Try.checked) false ⟨#[], #[.slice none 0 0], []⟩ 8 (by kernel_rfl) (by kernel_rfl) (by kernel_rfl) (by kernel_rfl))
    laid (by kernel_rfl) rfl ?_ (rt := 4) rfl und4 (rs := [(39, RSlice 1 RStr)]) rfl ?_ ?_
  · intro ds hds
    match ds, hds with
    | [_], _ => exact ⟨rfl, rfl, rfl⟩
  · intro r hr
    simp only [List.mem_cons, List.not_mem_nil, or_false] at hr
    subst hr
    intro W n
    cases n with
    | zero => exact .zero _ _
    | succ n => exact read_slice und39 (by kernel_rfl) (by decide) (read_string und9 W n)
  · intro Ds h
    obtain ⟨d1, _, rfl, h1, h⟩ := h.flat (by kernel_rfl)
    obtain rfl := h.nil
    obtain ⟨l, _, hw⟩ := slice_list (α := List UInt8) (Q := fun _ => True) (g := fun s => [.str s]) [] (fun x ⟨s, e, _⟩ => ⟨s, trivial, e⟩) h1
    exact ((order_ok l).weakArgs (by simp only [sOrder, weakL]; exact ⟨hw, trivial⟩)).mono (SpecR.simple fun _ => rfl)

theorem overO : Rows.namesOrderRow.holds Try.pinned (OpenSpec.ofChange Rows.namesOrderSpec) :=
  OpenClaim.holds_of_wide 5 Try.f5 rfl rfl rfl rfl rfl rfl rfl ⟨rfl, rfl, rfl, rfl, rfl⟩ rfl rfl rfl rfl rfl (by kernel_rfl) Try.func5 (by kernel_rfl)
    (of_decide_eq_true (by kernel_rfl)) (by unfold Func.isWrapper; first | (rw [if_pos (by decide +kernel)]; kernel_rfl) | (rw [if_neg (by decide +kernel)]; exact ⟨rfl, rfl⟩))
    (fun os started H enc _ => liftedO os started H enc)
theorem provedOrder : Rows.NamesOrderSaid := overO
end Go.Proofs.Ytkmgikcdlbibdaa
