/- Functions of the given program and what each of them computes: lemmas towards the statement, their conditions stated with each of them. -/
import Derived.Test.YtpgepjefbhgblaaDoorN3
import Derived.Test.YtpgepjefbhgblaaDoorCards
import Derived.Test.YtpgepjefbhgblaaDoorTie
import Derived.WalkKit
import Derived.ProofKit
import Derived.OpenShut
import Derived.Deep.DeepHandedRow
import Derived.Lib.LaidTab
import Derived.Stop.LaidErr
namespace Go.Proofs.YtpgepjefbhgblaaDoor
open Go Go.Ab Go.RowKit
set_option maxRecDepth 100000
theorem own : ownKnob Tryd.prog.godebug = none := by kernel_rfl
theorem laid : laidOutB Tryd.prog = true := by kernel_rfl
theorem g32 : Tryd.prog.globalNamed "math/bits.deBruijn32tab" = some 2 := by kernel_rfl
theorem gPow : Tryd.prog.globalNamed "internal/strconv.uint64pow10" = some 1 := by kernel_rfl
theorem tab32 : (Tryd.prog.globals[2]?).map (·.type) = some 101 := by kernel_rfl
theorem tab64 : (Tryd.prog.globals[3]?).map (·.type) = some 102 := by kernel_rfl
theorem tabPow : (Tryd.prog.globals[1]?).map (·.type) = some 97 := by kernel_rfl
def laidL : List (String × DataW Unit) := [("math/bits.deBruijn32tab", Rows.laid_math_bits_deBruijn32tab), ("math/bits.deBruijn64tab", Rows.laid_math_bits_deBruijn64tab), ("internal/strconv.uint64pow10", Rows.laid_internal_strconv_uint64pow10)]
theorem g0_laid {W : World} (h : laidMetH Tryd.prog laidL W) : G0 W := by
  have h0 : laidMet Tryd.prog laidL W := h
  have h1 := h0.tail
  have h2 := h1.tail
  exact ⟨Lib.tabIs_of_head (rest := []) gPow tabPow Tryd.underlying97 Tryd.underlying86 (by kernel_rfl) (by kernel_rfl) h2,
    Lib.tabIs_of_head gTz tab64 Tryd.underlying102 Tryd.underlying5 (by kernel_rfl) (by kernel_rfl) h1,
    Lib.tabIs_of_head g32 tab32 Tryd.underlying101 Tryd.underlying5 (by kernel_rfl) (by kernel_rfl) h0⟩
noncomputable def layT (l : Array Value) : Obj → Obj
  | .cells _ t frozen => .cells l t frozen
  | o => o
noncomputable def laidWorld (os : Os) : World :=
  { World.holding Tryd.prog os ⟨#[], #[], []⟩ with heap := (((World.holding Tryd.prog os ⟨#[], #[], []⟩).heap.modify 1 (layT (Lib.pow10Tab.map fun z => Value.int .u64 z).toArray)).modify 2 (layT (Lib.deBruijn32tab.map fun z => Value.int .u8 (Int.ofNat z)).toArray)).modify 3 (layT (Lib.deBruijn64tab.map fun z => Value.int .u8 (Int.ofNat z)).toArray) }
noncomputable def arr0 : Value := .agg #[.int .i64 0, .slice none 0 0, .slice none 0 0, .slice none 0 0]
theorem laid_met1 (os : Os) : laidMet Tryd.prog laidL ((laidWorld os).forCall (fun _ _ => 0) ⟨#[], #[arr0], []⟩).memory :=
  laidMet_of_run' 8 (by kernel_rfl) (by kernel_rfl)
theorem reads1 (os : Os) {H : Type} (enc : TypeId × Value → H) : ∃ x, DataW.whole enc Tryd.prog ((laidWorld os).forCall (fun _ _ => 0) ⟨#[], #[arr0], []⟩).memory [26] [] false #[arr0].toList 8 = some x :=
  Option.isSome_iff_exists.1 (by kernel_rfl)
theorem contract1 {k : FuncId} {fn : Func} {s : ChangeSpec} {H : Type} {enc : TypeId × Value → H} (hp : fn.params = #[26]) (hrt : fn.resultTypes = #[4]) (hvars : s.vars = []) (hs : ∀ ds : List (DataW H), ds.length = 1 → (s.fn H ds).results = [.lit (.bool true)] ∧ (s.fn H ds).args = ds ∧ (s.fn H ds).vars = [])
    (law : ∀ a : Arr, a.ok → ACalls Tryd.prog k [.agg a.row1] ⟨[], []⟩ (SpecR (sC [.agg a.row1] (.bool true)) ()))
    (W : World) (base : Nat) (args : Array Value) (ds gs : List (DataW H)) (before : List MemPlace)
    (hval : ∀ (j : Nat) t v, fn.params[j]? = some t → args[j]? = some v → Value.okWide Tryd.prog W .any base t v)
    (hW : DataW.Whole enc Tryd.prog fn.params.toList s.vars false W args.toList ds gs before) (hL : laidMetH Tryd.prog laidL W) :
    Calls Tryd.prog k args W fun e W' => ∃ v, e = .returned v ∧ s.post enc Tryd.prog fn false true false false W args v W' := by
  refine law_contract (rs := [(26, RArr)]) laid (by rw [hp]; kernel_rfl) hvars (fun ds hd => hs ds (by rw [hp] at hd; exact hd)) hrt Tryd.underlying4 (by rw [hp]; rfl) ?_ W (g0_laid hL) base args ds gs before hval hW ?_
  · intro r hr
    simp only [List.mem_cons, List.not_mem_nil, or_false] at hr
    subst hr
    exact fun W n hG => read_arr W n hG
  · intro Ds h
    obtain ⟨cs, _, rfl, h1, h⟩ := h.agg (by kernel_rfl)
    obtain rfl := h.nil
    obtain ⟨a, ha, rfl⟩ := h1
    have h2 := ACalls.wkArgs (ds := [.agg a.row]) (law a ha) (by simp only [wkL, wkD]; exact ⟨row_wk _, trivial⟩)
    exact h2.mono fun r S' ⟨_, _, hr, _⟩ => hr
end Go.Proofs.YtpgepjefbhgblaaDoor
