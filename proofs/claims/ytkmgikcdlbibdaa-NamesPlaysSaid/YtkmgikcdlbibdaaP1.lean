/- The law's row. -/
import Derived.Test.YtkmgikcdlbibdaaW2
import Derived.Test.YtkmgikcdlbibdaaRows
namespace Go.Proofs.Ytkmgikcdlbibdaa
open Go Go.Ab Go.RowKit

theorem own : ownKnob Try.prog.godebug = none := by kernel_rfl
theorem laid : laidOutB Try.prog = true := by kernel_rfl
theorem SpecR.simple {A : FnSpec} {x : A.β} {d : D} (h : ∀ y, A.res x y = .ret d) : ∀ r S', SpecR A x r S' → r = .ret d := by
  rintro r S' ⟨y, _, rfl, _⟩; exact h y
def RO : List D → Prop := RSeq [RInt .i64, RInt .i64, RStr, RInt .i64]
theorem read_op : Reads Try.prog 32 RO := by
  intro W n
  cases n with
  | zero => exact .zero _ _
  | succ n =>
    exact read_struct Try.underlying32 (by kernel_rfl) ⟨read_int Try.underlying3 W n, read_int Try.underlying3 W n, read_string Try.underlying9 W n, read_int Try.underlying30 W n, trivial⟩
theorem ro_row : ∀ x, RO x → ∃ o : OpR, True ∧ x = [.int .i64 o.kind, .int .i64 o.scope, .str o.nm, .int .i64 o.c] := by
  intro x hx
  obtain ⟨_, _, ⟨k, rfl, _⟩, ⟨_, _, ⟨s, rfl, _⟩, ⟨_, _, ⟨nm, rfl, _⟩, ⟨_, _, ⟨c, rfl, _⟩, h, rfl⟩, rfl⟩, rfl⟩, rfl⟩ := hx
  cases h
  exact ⟨⟨k, s, nm, c⟩, trivial, rfl⟩
theorem liftedP (os : Os) (started : os.Started) (H : Type) (enc : TypeId × Value → H) :
    ReturnsInHanded {} Try.checked os 3 .any (Rows.namesPlaysSpec.pre6 enc Try.prog Try.f3 Rows.namesPlaysRow.domain false) (Rows.namesPlaysSpec.post enc Try.prog Try.f3 false true false false) := by
  refine law_lifted (C := Try.checked) own started (by kernel_rfl) Try.func3
    (ChangeSpec.witness6 (enc := enc) (C := Try.checked) false ⟨#[], #[.slice none 0 0], []⟩ 8 (by kernel_rfl) (by kernel_rfl) (by kernel_rfl) (by kernel_rfl))
    laid (by kernel_rfl) rfl ?_ (rt := 4) rfl Try.underlying4 (rs := [(22, RSlice 4 RO)]) rfl ?_ ?_
  · intro ds hds
    match ds, hds with
    | [_], _ => exact ⟨rfl, rfl, rfl⟩
  · intro r hr
    simp only [List.mem_cons, List.not_mem_nil, or_false] at hr
    subst hr
    intro W n
    cases n with
    | zero => exact .zero _ _
    | succ n => exact read_slice Try.underlying22 (by kernel_rfl) (by decide) (read_op W n)
  · intro Ds h
    obtain ⟨d1, _, rfl, h1, h⟩ := h.flat (by kernel_rfl)
    obtain rfl := h.nil
    obtain ⟨l, _, hw⟩ := slice_list (α := OpR) (Q := fun _ => True) (g := fun o => [.int .i64 o.kind, .int .i64 o.scope, .str o.nm, .int .i64 o.c]) default ro_row h1
    exact ((plays_ok l).weakArgs (by simp only [sPlays, weakL]; exact ⟨hw, trivial⟩)).mono (SpecR.simple fun _ => rfl)

theorem overP : Rows.namesPlaysRow.holds Try.pinned (OpenSpec.ofChange Rows.namesPlaysSpec) :=
  OpenClaim.holds_of_wide 3 Try.f3 rfl rfl rfl rfl rfl rfl rfl ⟨rfl, rfl, rfl, rfl, rfl⟩ rfl rfl rfl rfl rfl (by kernel_rfl) Try.func3 (by kernel_rfl)
    (of_decide_eq_true (by kernel_rfl)) (by unfold Func.isWrapper; first | (rw [if_pos (by decide +kernel)]; kernel_rfl) | (rw [if_neg (by decide +kernel)]; exact ⟨rfl, rfl⟩))
    (fun os started H enc _ => liftedP os started H enc)
theorem provedPlays : Rows.NamesPlaysSaid := overP
end Go.Proofs.Ytkmgikcdlbibdaa
