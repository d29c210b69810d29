/- Functions of the given program and what each of them computes: lemmas towards the statement, their conditions stated with each of them. -/
import Derived.Test.YtoglbmhkfkghbaaC4
namespace Go.Proofs.Ytoglbmhkfkghbaa
open Go Go.Ab

/-! ### law53.Few -/
def fewC (c : CodD) : Bool :=
  decide ((c.consts.length : Int) ≤ 40) && decide ((c.funs.length : Int) ≤ 20) && decide ((c.kers.length : Int) ≤ 20) && decide ((c.lanes.length : Int) ≤ 20) &&
  !(c.consts.any fun a => !fewA a 100) && !(c.funs.any fun f => decide (300 < (f.code.length : Int))) && !(c.kers.any fun f => decide (300 < (f.ops.length : Int))) && !(c.lanes.any fun f => decide (300 < (f.code.length : Int)))
def conFc (c : CodD) : Con := fun k _ _ => match k with
  | 19 => some (sFw Arr.row (fun b => b ∈ c.consts))
  | _ => none
theorem conFc_ok {c : CodD} (hc : c.ok) : ConOk Try.prog (conFc c) := by
  intro k ds S A h
  unfold conFc at h
  split at h
  · injection h with h; subst h
    refine ConOk.plain (fun b hb => ?_) rfl rfl
    obtain ⟨a, z⟩ := b
    refine ((fw_ok a (hc.1 a hb) z).wkArgs ?_).mono fun _ _ ⟨y, h1, h2, h3⟩ => ⟨y, h1, h2, h3⟩
    simp only [sFw, wkL, wkD]
    exact ⟨row_wk a, by simp [weakD, chk_iff, kEq]⟩
  · cases h
noncomputable def Efc (c : CodD) : Senv := { EC (conFc c) 88 7 [28, 33, 42, 47, 57, 62, 72, 77, 87] (fun _ => ([], [])) with
  ann := fun b _ S => match b with
    | 0 => some { slots := [3], keep := [0, 1, 2], α := Nat, st := fun i => ([.int .i64 i], S), inv := fun i => IdxG (fun a => !fewA a 100) c.consts i, mu := fun i => c.consts.length - i }
    | 2 => some { slots := [4], keep := [0, 1, 2], α := Nat, st := fun i => ([.int .i64 i], S), inv := fun i => IdxG (fun f => decide (300 < (f.code.length : Int))) c.funs i, mu := fun i => c.funs.length - i }
    | 4 => some { slots := [5], keep := [0, 1, 2], α := Nat, st := fun i => ([.int .i64 i], S), inv := fun i => IdxG (fun f => decide (300 < (f.ops.length : Int))) c.kers i, mu := fun i => c.kers.length - i }
    | 6 => some { slots := [6], keep := [0, 1, 2], α := Nat, st := fun i => ([.int .i64 i], S), inv := fun i => IdxG (fun f => decide (300 < (f.code.length : Int))) c.lanes i, mu := fun i => c.lanes.length - i }
    | _ => none }
theorem fc_ok (c : CodD) (hc : c.ok) : ACalls Try.prog 12 [.agg c.row] ⟨[], []⟩ (SpecR (sC [.agg c.row] (.bool (fewC c))) ()) := by
  refine con_of (A := sC _ _) (x := ()) (E := Efc c) (eOk (conFc_ok hc) rfl) Try.func12 rfl (by kernel_rfl) rfl (by simp [sC, Efc, EC, E0]) ?_
  refine vc_eq (T :=
      ∀ (x : Nat), True → (SM x ∧ ifB (decide ((40 : Int) < (LI (CodD.consts c)))) ((true = bif bif bif decide ((40 : Int) < (LI (CodD.consts c))) then true else decide ((20 : Int) < (LI (CodD.funs c))) then true else
      decide ((20 : Int) < (LI (CodD.kers c))) then true else decide ((20 : Int) < (LI (CodD.lanes c)))) ∧ True) (SM x ∧ ifB (decide ((20 : Int) < (LI (CodD.funs c)))) ((true = bif bif bif decide ((40 : Int) < (LI
      (CodD.consts c))) then true else decide ((20 : Int) < (LI (CodD.funs c))) then true else decide ((20 : Int) < (LI (CodD.kers c))) then true else decide ((20 : Int) < (LI (CodD.lanes c)))) ∧ True) (SM x ∧ ifB
      (decide ((20 : Int) < (LI (CodD.kers c)))) ((true = bif bif bif decide ((40 : Int) < (LI (CodD.consts c))) then true else decide ((20 : Int) < (LI (CodD.funs c))) then true else decide ((20 : Int) < (LI (CodD.kers
      c))) then true else decide ((20 : Int) < (LI (CodD.lanes c)))) ∧ True) (SM x ∧ (decide ((20 : Int) < (LI (CodD.lanes c))) = bif bif bif decide ((40 : Int) < (LI (CodD.consts c))) then true else decide ((20 : Int) <
      (LI (CodD.funs c))) then true else decide ((20 : Int) < (LI (CodD.kers c))) then true else decide ((20 : Int) < (LI (CodD.lanes c)))) ∧ True)))) ∧ ifB (bif bif bif decide ((40 : Int) < (LI (CodD.consts c))) then
      true else decide ((20 : Int) < (LI (CodD.funs c))) then true else decide ((20 : Int) < (LI (CodD.kers c))) then true else decide ((20 : Int) < (LI (CodD.lanes c)))) (True ∧ ∃ (y : Unit), True ∧ false = fewC c ∧
      True ∧ True) ((∃ (x_1 : Nat), IdxG (fun (a : Arr) => !fewA a (100 : Int)) (CodD.consts c) x_1 ∧ (Z0 = (↑x_1 : Int) ∧ True) ∧ (SM x ∧ ((SM (LN (CodD.consts c)) ∧ (∀ (i : Nat), i < LN (CodD.consts c) → SM (Arr.row
      (GC c i))) ∧ True) ∧ (SM (LN (CodD.funs c)) ∧ (∀ (i : Nat), i < LN (CodD.funs c) → SM [ZI (FnD.slots (GF c i)), S4 (FnD.code (GF c i))]) ∧ True) ∧ (SM (LN (CodD.kers c)) ∧ (∀ (i : Nat), i < LN (CodD.kers c) → SM
      [ZI (KeD.inputs (GK c i)), S4 (KeD.ops (GK c i)), ZI (KeD.reduce (GK c i)), ZI (KeD.at_ (GK c i))]) ∧ True) ∧ (SM (LN (CodD.lanes c)) ∧ (∀ (i : Nat), i < LN (CodD.lanes c) → SM [ZI (LaD.regs (GL c i)), S6 (LaD.code
      (GL c i))]) ∧ True) ∧ True) ∧ True) ∧ True) ∧ ∀ (x_1 : Nat), IdxG (fun (a : Arr) => !fewA a (100 : Int)) (CodD.consts c) x_1 → SM x ∧ ifB (decide ((↑x_1 : Int) < (LI (CodD.consts c)))) (SM x ∧ side (Z0 ≤ (↑x_1 :
      Int) ∧ (↑x_1 : Int) < (LI (CodD.consts c))) (side (N4 ≤ LN (Arr.row (GC c (Int.toNat (↑x_1 : Int))))) (∃ (x_2 : Arr × Int), (weakL (List.take N4 (List.drop N0 (Arr.row (GC c (Int.toNat (↑x_1 : Int)))))) (Arr.row
      x_2.1) ∧ (100 : Int) = x_2.2 ∧ True) ∧ (True ∧ True) ∧ x_2.1 ∈ CodD.consts c ∧ ∀ (y : Unit), True → ifB (!fewA x_2.1 x_2.2) (True ∧ ∃ (y : Unit), True ∧ false = fewC c ∧ True ∧ True) ((SM (D.agg [D.sl N4 (LN
      (CodD.consts c)) (fun (i : Nat) => Arr.row (GC c i)) Mode.any, D.sl N2 (LN (CodD.funs c)) (fun (i : Nat) => [ZI (FnD.slots (GF c i)), S4 (FnD.code (GF c i))]) Mode.any, D.sl N4 (LN (CodD.kers c)) (fun (i : Nat) =>
      [ZI (KeD.inputs (GK c i)), S4 (KeD.ops (GK c i)), ZI (KeD.reduce (GK c i)), ZI (KeD.at_ (GK c i))]) Mode.any, D.sl N2 (LN (CodD.lanes c)) (fun (i : Nat) => [ZI (LaD.regs (GL c i)), S6 (LaD.code (GL c i))])
      Mode.any]) ∧ SM (D.ref N0 x N0) ∧ SM (D.bool false) ∧ True) ∧ ∃ (y : Nat), IdxG (fun (a : Arr) => !fewA a (100 : Int)) (CodD.consts c) y ∧ LN (CodD.consts c) - y < LN (CodD.consts c) - x_1 ∧ (IntKind.wrap
      IntKind.i64 ((↑x_1 : Int) + Z1) = (↑y : Int) ∧ True) ∧ (SM x ∧ ((SM (LN (CodD.consts c)) ∧ (∀ (i : Nat), i < LN (CodD.consts c) → SM (Arr.row (GC c i))) ∧ True) ∧ (SM (LN (CodD.funs c)) ∧ (∀ (i : Nat), i < LN
      (CodD.funs c) → SM [ZI (FnD.slots (GF c i)), S4 (FnD.code (GF c i))]) ∧ True) ∧ (SM (LN (CodD.kers c)) ∧ (∀ (i : Nat), i < LN (CodD.kers c) → SM [ZI (KeD.inputs (GK c i)), S4 (KeD.ops (GK c i)), ZI (KeD.reduce (GK
      c i)), ZI (KeD.at_ (GK c i))]) ∧ True) ∧ (SM (LN (CodD.lanes c)) ∧ (∀ (i : Nat), i < LN (CodD.lanes c) → SM [ZI (LaD.regs (GL c i)), S6 (LaD.code (GL c i))]) ∧ True) ∧ True) ∧ True) ∧ True)))) ((∃ (x_2 : Nat), IdxG
      (fun (f : FnD) => decide ((300 : Int) < (LI (FnD.code f)))) (CodD.funs c) x_2 ∧ (Z0 = (↑x_2 : Int) ∧ True) ∧ (SM x ∧ ((SM (LN (CodD.consts c)) ∧ (∀ (i : Nat), i < LN (CodD.consts c) → SM (Arr.row (GC c i))) ∧ True)
      ∧ (SM (LN (CodD.funs c)) ∧ (∀ (i : Nat), i < LN (CodD.funs c) → SM [ZI (FnD.slots (GF c i)), S4 (FnD.code (GF c i))]) ∧ True) ∧ (SM (LN (CodD.kers c)) ∧ (∀ (i : Nat), i < LN (CodD.kers c) → SM [ZI (KeD.inputs (GK c
      i)), S4 (KeD.ops (GK c i)), ZI (KeD.reduce (GK c i)), ZI (KeD.at_ (GK c i))]) ∧ True) ∧ (SM (LN (CodD.lanes c)) ∧ (∀ (i : Nat), i < LN (CodD.lanes c) → SM [ZI (LaD.regs (GL c i)), S6 (LaD.code (GL c i))]) ∧ True) ∧
      True) ∧ True) ∧ True) ∧ ∀ (x_2 : Nat), IdxG (fun (f : FnD) => decide ((300 : Int) < (LI (FnD.code f)))) (CodD.funs c) x_2 → SM x ∧ ifB (decide ((↑x_2 : Int) < (LI (CodD.funs c)))) (SM x ∧ side (Z0 ≤ (↑x_2 : Int) ∧
      (↑x_2 : Int) < (LI (CodD.funs c))) (ifB (decide ((300 : Int) < (LI (FnD.code (GF c (Int.toNat (↑x_2 : Int))))))) (True ∧ ∃ (y : Unit), True ∧ false = fewC c ∧ True ∧ True) ((SM (D.agg [D.sl N4 (LN (CodD.consts c))
      (fun (i : Nat) => Arr.row (GC c i)) Mode.any, D.sl N2 (LN (CodD.funs c)) (fun (i : Nat) => [ZI (FnD.slots (GF c i)), S4 (FnD.code (GF c i))]) Mode.any, D.sl N4 (LN (CodD.kers c)) (fun (i : Nat) => [ZI (KeD.inputs
      (GK c i)), S4 (KeD.ops (GK c i)), ZI (KeD.reduce (GK c i)), ZI (KeD.at_ (GK c i))]) Mode.any, D.sl N2 (LN (CodD.lanes c)) (fun (i : Nat) => [ZI (LaD.regs (GL c i)), S6 (LaD.code (GL c i))]) Mode.any]) ∧ SM (D.ref
      N0 x N0) ∧ SM (D.bool false) ∧ True) ∧ ∃ (y : Nat), IdxG (fun (f : FnD) => decide ((300 : Int) < (LI (FnD.code f)))) (CodD.funs c) y ∧ LN (CodD.funs c) - y < LN (CodD.funs c) - x_2 ∧ (IntKind.wrap IntKind.i64
      ((↑x_2 : Int) + Z1) = (↑y : Int) ∧ True) ∧ (SM x ∧ ((SM (LN (CodD.consts c)) ∧ (∀ (i : Nat), i < LN (CodD.consts c) → SM (Arr.row (GC c i))) ∧ True) ∧ (SM (LN (CodD.funs c)) ∧ (∀ (i : Nat), i < LN (CodD.funs c) →
      SM [ZI (FnD.slots (GF c i)), S4 (FnD.code (GF c i))]) ∧ True) ∧ (SM (LN (CodD.kers c)) ∧ (∀ (i : Nat), i < LN (CodD.kers c) → SM [ZI (KeD.inputs (GK c i)), S4 (KeD.ops (GK c i)), ZI (KeD.reduce (GK c i)), ZI
      (KeD.at_ (GK c i))]) ∧ True) ∧ (SM (LN (CodD.lanes c)) ∧ (∀ (i : Nat), i < LN (CodD.lanes c) → SM [ZI (LaD.regs (GL c i)), S6 (LaD.code (GL c i))]) ∧ True) ∧ True) ∧ True) ∧ True))) ((∃ (x_3 : Nat), IdxG (fun (f :
      KeD) => decide ((300 : Int) < (LI (KeD.ops f)))) (CodD.kers c) x_3 ∧ (Z0 = (↑x_3 : Int) ∧ True) ∧ (SM x ∧ ((SM (LN (CodD.consts c)) ∧ (∀ (i : Nat), i < LN (CodD.consts c) → SM (Arr.row (GC c i))) ∧ True) ∧ (SM (LN
      (CodD.funs c)) ∧ (∀ (i : Nat), i < LN (CodD.funs c) → SM [ZI (FnD.slots (GF c i)), S4 (FnD.code (GF c i))]) ∧ True) ∧ (SM (LN (CodD.kers c)) ∧ (∀ (i : Nat), i < LN (CodD.kers c) → SM [ZI (KeD.inputs (GK c i)), S4
      (KeD.ops (GK c i)), ZI (KeD.reduce (GK c i)), ZI (KeD.at_ (GK c i))]) ∧ True) ∧ (SM (LN (CodD.lanes c)) ∧ (∀ (i : Nat), i < LN (CodD.lanes c) → SM [ZI (LaD.regs (GL c i)), S6 (LaD.code (GL c i))]) ∧ True) ∧ True) ∧
      True) ∧ True) ∧ ∀ (x_3 : Nat), IdxG (fun (f : KeD) => decide ((300 : Int) < (LI (KeD.ops f)))) (CodD.kers c) x_3 → SM x ∧ ifB (decide ((↑x_3 : Int) < (LI (CodD.kers c)))) (SM x ∧ side (Z0 ≤ (↑x_3 : Int) ∧ (↑x_3 :
      Int) < (LI (CodD.kers c))) (ifB (decide ((300 : Int) < (LI (KeD.ops (GK c (Int.toNat (↑x_3 : Int))))))) (True ∧ ∃ (y : Unit), True ∧ false = fewC c ∧ True ∧ True) ((SM (D.agg [D.sl N4 (LN (CodD.consts c)) (fun (i :
      Nat) => Arr.row (GC c i)) Mode.any, D.sl N2 (LN (CodD.funs c)) (fun (i : Nat) => [ZI (FnD.slots (GF c i)), S4 (FnD.code (GF c i))]) Mode.any, D.sl N4 (LN (CodD.kers c)) (fun (i : Nat) => [ZI (KeD.inputs (GK c i)),
      S4 (KeD.ops (GK c i)), ZI (KeD.reduce (GK c i)), ZI (KeD.at_ (GK c i))]) Mode.any, D.sl N2 (LN (CodD.lanes c)) (fun (i : Nat) => [ZI (LaD.regs (GL c i)), S6 (LaD.code (GL c i))]) Mode.any]) ∧ SM (D.ref N0 x N0) ∧
      SM (D.bool false) ∧ True) ∧ ∃ (y : Nat), IdxG (fun (f : KeD) => decide ((300 : Int) < (LI (KeD.ops f)))) (CodD.kers c) y ∧ LN (CodD.kers c) - y < LN (CodD.kers c) - x_3 ∧ (IntKind.wrap IntKind.i64 ((↑x_3 : Int) +
      Z1) = (↑y : Int) ∧ True) ∧ (SM x ∧ ((SM (LN (CodD.consts c)) ∧ (∀ (i : Nat), i < LN (CodD.consts c) → SM (Arr.row (GC c i))) ∧ True) ∧ (SM (LN (CodD.funs c)) ∧ (∀ (i : Nat), i < LN (CodD.funs c) → SM [ZI (FnD.slots
      (GF c i)), S4 (FnD.code (GF c i))]) ∧ True) ∧ (SM (LN (CodD.kers c)) ∧ (∀ (i : Nat), i < LN (CodD.kers c) → SM [ZI (KeD.inputs (GK c i)), S4 (KeD.ops (GK c i)), ZI (KeD.reduce (GK c i)), ZI (KeD.at_ (GK c i))]) ∧
      True) ∧ (SM (LN (CodD.lanes c)) ∧ (∀ (i : Nat), i < LN (CodD.lanes c) → SM [ZI (LaD.regs (GL c i)), S6 (LaD.code (GL c i))]) ∧ True) ∧ True) ∧ True) ∧ True))) ((∃ (x_4 : Nat), IdxG (fun (f : LaD) => decide ((300 :
      Int) < (LI (LaD.code f)))) (CodD.lanes c) x_4 ∧ (Z0 = (↑x_4 : Int) ∧ True) ∧ (SM x ∧ ((SM (LN (CodD.consts c)) ∧ (∀ (i : Nat), i < LN (CodD.consts c) → SM (Arr.row (GC c i))) ∧ True) ∧ (SM (LN (CodD.funs c)) ∧ (∀
      (i : Nat), i < LN (CodD.funs c) → SM [ZI (FnD.slots (GF c i)), S4 (FnD.code (GF c i))]) ∧ True) ∧ (SM (LN (CodD.kers c)) ∧ (∀ (i : Nat), i < LN (CodD.kers c) → SM [ZI (KeD.inputs (GK c i)), S4 (KeD.ops (GK c i)),
      ZI (KeD.reduce (GK c i)), ZI (KeD.at_ (GK c i))]) ∧ True) ∧ (SM (LN (CodD.lanes c)) ∧ (∀ (i : Nat), i < LN (CodD.lanes c) → SM [ZI (LaD.regs (GL c i)), S6 (LaD.code (GL c i))]) ∧ True) ∧ True) ∧ True) ∧ True) ∧ ∀
      (x_4 : Nat), IdxG (fun (f : LaD) => decide ((300 : Int) < (LI (LaD.code f)))) (CodD.lanes c) x_4 → SM x ∧ ifB (decide ((↑x_4 : Int) < (LI (CodD.lanes c)))) (SM x ∧ side (Z0 ≤ (↑x_4 : Int) ∧ (↑x_4 : Int) < (LI
      (CodD.lanes c))) (ifB (decide ((300 : Int) < (LI (LaD.code (GL c (Int.toNat (↑x_4 : Int))))))) (True ∧ ∃ (y : Unit), True ∧ false = fewC c ∧ True ∧ True) ((SM (D.agg [D.sl N4 (LN (CodD.consts c)) (fun (i : Nat) =>
      Arr.row (GC c i)) Mode.any, D.sl N2 (LN (CodD.funs c)) (fun (i : Nat) => [ZI (FnD.slots (GF c i)), S4 (FnD.code (GF c i))]) Mode.any, D.sl N4 (LN (CodD.kers c)) (fun (i : Nat) => [ZI (KeD.inputs (GK c i)), S4
      (KeD.ops (GK c i)), ZI (KeD.reduce (GK c i)), ZI (KeD.at_ (GK c i))]) Mode.any, D.sl N2 (LN (CodD.lanes c)) (fun (i : Nat) => [ZI (LaD.regs (GL c i)), S6 (LaD.code (GL c i))]) Mode.any]) ∧ SM (D.ref N0 x N0) ∧ SM
      (D.bool false) ∧ True) ∧ ∃ (y : Nat), IdxG (fun (f : LaD) => decide ((300 : Int) < (LI (LaD.code f)))) (CodD.lanes c) y ∧ LN (CodD.lanes c) - y < LN (CodD.lanes c) - x_4 ∧ (IntKind.wrap IntKind.i64 ((↑x_4 : Int) +
      Z1) = (↑y : Int) ∧ True) ∧ (SM x ∧ ((SM (LN (CodD.consts c)) ∧ (∀ (i : Nat), i < LN (CodD.consts c) → SM (Arr.row (GC c i))) ∧ True) ∧ (SM (LN (CodD.funs c)) ∧ (∀ (i : Nat), i < LN (CodD.funs c) → SM [ZI (FnD.slots
      (GF c i)), S4 (FnD.code (GF c i))]) ∧ True) ∧ (SM (LN (CodD.kers c)) ∧ (∀ (i : Nat), i < LN (CodD.kers c) → SM [ZI (KeD.inputs (GK c i)), S4 (KeD.ops (GK c i)), ZI (KeD.reduce (GK c i)), ZI (KeD.at_ (GK c i))]) ∧
      True) ∧ (SM (LN (CodD.lanes c)) ∧ (∀ (i : Nat), i < LN (CodD.lanes c) → SM [ZI (LaD.regs (GL c i)), S6 (LaD.code (GL c i))]) ∧ True) ∧ True) ∧ True) ∧ True))) (True ∧ ∃ (y : Unit), True ∧ true = fewC c ∧ True ∧
      True)))))) (by kernel_rfl) ?_
  delta D4 D6 DA DF DK DL G4 G6 GC GF GK GL LI LN N0 N2 N4 N6 R4 R6 S4 S6 SM Z0 Z1 ZI
  intro x _
  simp only [eq_self, ne_eq, implies_true, weakL_refl, Int.toNat_natCast, ifB_iff, side_iff, decide_eq_true_eq, decide_eq_false_iff_not, true_and, and_true, beq_iff_eq, Bool.cond_false_right, Bool.cond_true_left, Bool.and_eq_true, Bool.and_eq_false_iff, Bool.or_eq_true, Bool.or_eq_false_iff, beq_eq_false_iff_ne, exists_const, forall_const]
  have da : (default : Arr) = Arr.mk 0 [] [] [] := rfl
  rw [← da]
  refine ⟨⟨fun h => by simp [h], fun h => ⟨fun h2 => by simp [h2], fun h2 => ⟨fun h3 => by simp [h3], fun h3 => by simp [h, h2, h3]⟩⟩⟩, fun h => ?_, fun h => ⟨⟨0, ⟨Nat.zero_le _, by simp⟩, rfl⟩, fun a ha => ⟨fun al => ⟨⟨by omega, al⟩, ?_⟩, fun ag => ?_⟩⟩⟩
  · symm
    simp only [fewC, Bool.and_eq_false_iff, decide_eq_false_iff_not]
    omega
  · have al' : a < c.consts.length := by omega
    have r4 := row_four (c.consts.getD a default)
    obtain ⟨s1, s2⟩ := ha.step al'
    refine ⟨Nat.le_of_eq r4.symm, (c.consts.getD a default, 100), ⟨?_, rfl⟩, mem_getD al', fun e => ?_, fun e => ⟨a + 1, s2 e, by omega, wrap_i64' (by omega) (by omega)⟩⟩
    · rw [List.drop_zero, List.take_of_length_le (Nat.le_of_eq r4)]
      exact weakL_refl _
    · have h5 : (c.consts.any fun a => !fewA a 100) = true := List.any_eq_true.2 ⟨_, mem_getD al', e⟩
      simp only [fewC, h5, Bool.not_true, Bool.and_false, Bool.false_and]
  have na : (c.consts.any fun a => !fewA a 100) = false := by
    rw [← idxG_any _ _ 0 (Int.le_refl _), ha.done ag]; rfl
  refine ⟨⟨0, ⟨Nat.zero_le _, by simp⟩, rfl⟩, fun f hf => ⟨fun lf => ⟨⟨by omega, lf⟩, fun e => ?_, fun e => ⟨f + 1, (hf.step (by omega)).2 (decide_eq_false e), by omega, wrap_i64' (by omega) (by omega)⟩⟩, fun gf => ?_⟩⟩
  · have h5 : (c.funs.any fun f => decide (300 < (f.code.length : Int))) = true := List.any_eq_true.2 ⟨_, mem_getD (by omega), decide_eq_true e⟩
    simp only [fewC, h5, Bool.not_true, Bool.and_false, Bool.false_and]
  have nf : (c.funs.any fun f => decide (300 < (f.code.length : Int))) = false := by
    rw [← idxG_any _ _ 0 (Int.le_refl _), hf.done gf]; rfl
  refine ⟨⟨0, ⟨Nat.zero_le _, by simp⟩, rfl⟩, fun k hk => ⟨fun lk => ⟨⟨by omega, lk⟩, fun e => ?_, fun e => ⟨k + 1, (hk.step (by omega)).2 (decide_eq_false e), by omega, wrap_i64' (by omega) (by omega)⟩⟩, fun gk => ?_⟩⟩
  · have h5 : (c.kers.any fun f => decide (300 < (f.ops.length : Int))) = true := List.any_eq_true.2 ⟨_, mem_getD (by omega), decide_eq_true e⟩
    simp only [fewC, h5, Bool.not_true, Bool.and_false, Bool.false_and]
  have nk : (c.kers.any fun f => decide (300 < (f.ops.length : Int))) = false := by
    rw [← idxG_any _ _ 0 (Int.le_refl _), hk.done gk]; rfl
  refine ⟨⟨0, ⟨Nat.zero_le _, by simp⟩, rfl⟩, fun p hp => ⟨fun lp => ⟨⟨by omega, lp⟩, fun e => ?_, fun e => ⟨p + 1, (hp.step (by omega)).2 (decide_eq_false e), by omega, wrap_i64' (by omega) (by omega)⟩⟩, fun gp => ?_⟩⟩
  · have h5 : (c.lanes.any fun f => decide (300 < (f.code.length : Int))) = true := List.any_eq_true.2 ⟨_, mem_getD (by omega), decide_eq_true e⟩
    simp only [fewC, h5, Bool.not_true, Bool.and_false, Bool.false_and]
  have np : (c.lanes.any fun f => decide (300 < (f.code.length : Int))) = false := by
    rw [← idxG_any _ _ 0 (Int.le_refl _), hp.done gp]; rfl
  simp only [fewC, na, nf, nk, np, Bool.not_false, Bool.and_true]
  symm
  simp only [Bool.and_eq_true, decide_eq_true_eq]
  omega
end Go.Proofs.Ytoglbmhkfkghbaa
namespace Go.Proofs.Ytoglbmhkfkghbaa
open Go Go.Ab

/-! ### small programs have small images -/
theorem form_len {k : Int} {s : List Int} {nn ni : Nat} (h : formS k s nn ni = 0) : s.length ≤ 8 := by
  unfold formS at h
  by_cases hk : k = 1 ∨ k = 2 ∨ k = 3
  · rw [if_pos hk] at h
    by_cases hd : dimsS s ≠ 0
    · rw [if_pos hd] at h; exact (hd h).elim
    · have hd : dimsS s = 0 := by simpa using hd
      unfold dimsS at hd
      by_cases h8 : 8 < s.length
      · rw [if_pos h8] at hd; omega
      · omega
  · rw [if_neg hk] at h; omega
theorem szL_chk : ∀ (l : List Arr) (d w d' w' : Int), chkL l d w = some (d', w') → w' ≤ 262144 → (∀ x ∈ l, (chkA x).1 = 0 → (szA x : Int) ≤ 20 * (1 + (chkA x).2.2)) → (szL l : Int) ≤ 20 * (l.length : Int) + 20 * (w' - w)
  | [], d, w, d', w', h, _, _ => by
    rw [chkL] at h; injection h with h; injection h with e1 e2
    simp only [szL, List.length_nil]; omega
  | x :: r, d, w, d', w', h, hw, h3 => by
    rw [chkL] at h
    split at h
    · cases h
    · rename_i hx
      have hx : (chkA x).1 = 0 := by simpa using hx
      have h5 := h3 x (by simp) hx
      by_cases hs : 262145 < w + (chkA x).2.2
      · rw [if_pos hs] at h
        have := chkL_sat r _ _ _ h
        omega
      · rw [if_neg hs] at h
        have ih := szL_chk r _ _ d' w' h hw fun y hy => h3 y (by simp [hy])
        simp only [szL, List.length_cons]
        omega
theorem szA_chk : ∀ (a : Arr), (chkA a).1 = 0 → (szA a : Int) ≤ 20 * (1 + (chkA a).2.2)
  | .mk k s n is, h => by
    have ih : ∀ x ∈ is, (chkA x).1 = 0 → (szA x : Int) ≤ 20 * (1 + (chkA x).2.2) := fun x hx => szA_chk x
    rw [chkA] at h ⊢
    by_cases h0 : formS k s n.length is.length ≠ 0
    · rw [if_pos h0] at h; exact (h0 h).elim
    · rw [if_neg h0] at h ⊢
      have h0 : formS k s n.length is.length = 0 := by simpa using h0
      have hl := form_len h0
      by_cases hb : n.any (badK k) = true
      · rw [if_pos hb] at h; simp at h
      · rw [if_neg hb] at h ⊢
        cases hr : chkL is 0 ((n.length : Int) + is.length) with
        | none => rw [hr] at h; simp at h
        | some r =>
          rw [hr] at h
          simp only at h ⊢
          by_cases hg : 16 < r.1 ∨ 262144 < r.2
          · rw [if_pos hg] at h; simp at h
          · rw [if_neg hg]
            have := szL_chk is 0 _ r.1 r.2 hr (by omega) ih
            simp only [szA]
            omega
termination_by a => SizeOf.sizeOf a
decreasing_by
  have := List.sizeOf_lt_of_mem hx
  simp; omega
theorem flat_len {α : Type} (f : α → List UInt8) (m : Nat) : ∀ (l : List α), (∀ x ∈ l, (f x).length ≤ m) → (l.flatMap f).length ≤ l.length * m
  | [], _ => by simp
  | x :: r, h => by
    have h1 := h x (by simp)
    have h2 := flat_len f m r fun y hy => h y (by simp [hy])
    rw [List.flatMap_cons, List.length_append, List.length_cons, Nat.succ_mul]
    omega
theorem arrBL_bound (m : Nat) : ∀ (l : List Arr), (∀ x ∈ l, 10 * szA x ≤ m) → (arrBL l).length ≤ l.length * m
  | [], _ => by simp [arrBL]
  | x :: r, h => by
    have h1 := h x (by simp)
    have h2 := arrBL_bound m r fun y hy => h y (by simp [hy])
    have h3 := arrB_len x
    rw [arrBL, List.length_append, List.length_cons, Nat.succ_mul]
    omega
theorem few_code {c : CodD} (h : fewC c = true) : c.consts.length ≤ 40 ∧ c.funs.length ≤ 20 ∧ c.kers.length ≤ 20 ∧ c.lanes.length ≤ 20 ∧ (∀ f ∈ c.funs, f.code.length ≤ 300) ∧ (∀ f ∈ c.kers, f.ops.length ≤ 300) ∧ (∀ f ∈ c.lanes, f.code.length ≤ 300) := by
  simp only [fewC, Bool.and_eq_true, decide_eq_true_eq, Bool.not_eq_true', List.any_eq_false] at h
  obtain ⟨⟨⟨⟨⟨⟨⟨h1, h2⟩, h3⟩, h4⟩, _⟩, h6⟩, h7⟩, h8⟩ := h
  refine ⟨by omega, by omega, by omega, by omega, fun f hf => ?_, fun f hf => ?_, fun f hf => ?_⟩
  · have := h6 f hf; omega
  · have := h7 f hf; omega
  · have := h8 f hf; omega
theorem right_consts {c : CodD} (h : rightC c = 0) : ∀ a ∈ c.consts, (chkA a).1 = 0 := by
  unfold rightC at h
  by_cases h1 : 1024 < c.funs.length ∨ 65536 < totI c.funs 0 ∨ 65536 < c.consts.length ∨ 4096 < c.kers.length
  · rw [if_pos h1] at h; omega
  · rw [if_neg h1] at h
    by_cases h2 : (c.consts.any fun a => (chkA a).1 != 0) = true
    · rw [if_pos h2] at h; omega
    · intro a ha
      simp only [List.any_eq_true, not_exists, not_and] at h2
      have := h2 a ha
      simpa using this
theorem few_sz {c : CodD} (hf : fewC c = true) (hr : rightC c = 0) : szOk c := by
  obtain ⟨f1, f2, f3, f4, f5, f6, f7⟩ := few_code hf
  have hs : ∀ a ∈ c.consts, 10 * szA a ≤ 52429000 := fun a ha => by
    have h1 := szA_chk a (right_consts hr a ha)
    have h2 := (chkA_bounds a).2.2
    omega
  refine ⟨?_, fun a ha => by have := hs a ha; omega⟩
  have a1 := arrBL_bound 52429000 c.consts hs
  have n1 : ∀ z : Int, (numsB [z]).length ≤ 10 := fun z => by simpa using numsB_len [z]
  have n2 : ∀ y z : Int, (numsB [y, z]).length ≤ 20 := fun y z => by simpa using numsB_len [y, z]
  have b4 : ∀ (l : List I4), l.length ≤ 300 → (l.flatMap i4B).length ≤ 12000 := fun l hl => by
    have := flat_len i4B 40 l (fun x _ => by simpa [i4B] using numsB_len [x.a, x.b, x.c, x.d])
    omega
  have b6 : ∀ (l : List I6), l.length ≤ 300 → (l.flatMap i6B).length ≤ 18000 := fun l hl => by
    have := flat_len i6B 60 l (fun x _ => by simpa [i6B] using numsB_len [x.a, x.b, x.c, x.d, x.e, x.f])
    omega
  have a2 := flat_len funB 12020 c.funs fun f hf => by
    have := b4 f.code (f5 f hf); have := n2 f.slots f.code.length
    rw [funB, List.length_append]; omega
  have a3 := flat_len kerY 12040 c.kers fun f hf => by
    have := b4 f.ops (f6 f hf); have := n2 f.inputs f.ops.length; have := n2 f.reduce f.at_
    rw [kerY, List.length_append, List.length_append]; omega
  have a4 := flat_len lanB 18020 c.lanes fun f hf => by
    have := b6 f.code (f7 f hf); have := n2 f.regs f.code.length
    rw [lanB, List.length_append]; omega
  have m1 := n1 c.consts.length
  have m2 := n1 c.funs.length
  have m3 := n1 c.kers.length
  have m4 := n1 c.lanes.length
  simp only [codeB, tl2, tl3, tl4, List.length_append]
  have k1 := Nat.mul_le_mul_right 52429000 f1
  have k2 := Nat.mul_le_mul_right 12020 f2
  have k3 := Nat.mul_le_mul_right 12040 f3
  have k4 := Nat.mul_le_mul_right 18020 f4
  omega
theorem few_hs {c : CodD} (hf : fewC c = true) : ∀ f, f < c.funs.length → (c.funs.getD f default).code.length ≤ 65536 := fun f hf' => by
  have := (few_code hf).2.2.2.2.1 _ (mem_getD hf')
  omega
end Go.Proofs.Ytoglbmhkfkghbaa
namespace Go.Proofs.Ytoglbmhkfkghbaa
open Go Go.Ab
set_option maxRecDepth 100000

theorem right_c0 (m m' : Ab.Mode) : ACalls Try.prog 20 [c0 m m'] ⟨[], []⟩ (fun r _ => weakEnd r (.ret (.int .i64 0))) := by
  refine inlS conS_ok _ _ _ _ ?_
  refine vc_eq (T :=
      ∀ (x : Nat), True → SM x ∧ ∀ (x_1 : Nat), x ≠ x_1 ∧ True → SM x_1 ∧ SM x_1 ∧ SM x ∧ SM x ∧ SM x ∧ SM x ∧ True ∧ True ∧ SM x ∧ SM x ∧ SM x ∧ True ∧ True ∧ SM x ∧ SM x ∧ ∀ (x_2 : Nat), x_1 ≠ x_2 ∧ x ≠ x_2 ∧ True → SM
      x_2 ∧ ∀ (x_3 : Nat), x_2 ≠ x_3 ∧ x_1 ≠ x_3 ∧ x ≠ x_3 ∧ True → SM x_3 ∧ SM x_3 ∧ SM x_3 ∧ True ∧ SM x_3 ∧ ∀ (x_4 : Nat), x_3 ≠ x_4 ∧ x_2 ≠ x_4 ∧ x_1 ≠ x_4 ∧ x ≠ x_4 ∧ True → SM x_3 ∧ ∀ (x_5 : Nat), x_4 ≠ x_5 ∧ x_3 ≠
      x_5 ∧ x_2 ≠ x_5 ∧ x_1 ≠ x_5 ∧ x ≠ x_5 ∧ True → SM x_5 ∧ SM x_4 ∧ SM x_2 ∧ SM x_5 ∧ ∀ (x_6 : Nat), x_5 ≠ x_6 ∧ x_4 ≠ x_6 ∧ x_3 ≠ x_6 ∧ x_2 ≠ x_6 ∧ x_1 ≠ x_6 ∧ x ≠ x_6 ∧ True → ∀ (x_7 : Nat), x_6 ≠ x_7 ∧ x_5 ≠ x_7 ∧
      x_4 ≠ x_7 ∧ x_3 ≠ x_7 ∧ x_2 ≠ x_7 ∧ x_1 ≠ x_7 ∧ x ≠ x_7 ∧ True → ∀ (x_8 : Nat), x_7 ≠ x_8 ∧ x_6 ≠ x_8 ∧ x_5 ≠ x_8 ∧ x_4 ≠ x_8 ∧ x_3 ≠ x_8 ∧ x_2 ≠ x_8 ∧ x_1 ≠ x_8 ∧ x ≠ x_8 ∧ True → SM x_7 ∧ ∀ (x_9 : Nat), x_8 ≠ x_9
      ∧ x_7 ≠ x_9 ∧ x_6 ≠ x_9 ∧ x_5 ≠ x_9 ∧ x_4 ≠ x_9 ∧ x_3 ≠ x_9 ∧ x_2 ≠ x_9 ∧ x_1 ≠ x_9 ∧ x ≠ x_9 ∧ True → SM x_7 ∧ SM x_7 ∧ ∀ (x_10 : Nat), x_9 ≠ x_10 ∧ x_8 ≠ x_10 ∧ x_7 ≠ x_10 ∧ x_6 ≠ x_10 ∧ x_5 ≠ x_10 ∧ x_4 ≠ x_10 ∧
      x_3 ≠ x_10 ∧ x_2 ≠ x_10 ∧ x_1 ≠ x_10 ∧ x ≠ x_10 ∧ True → ∀ (x_11 : Nat), x_10 ≠ x_11 ∧ x_9 ≠ x_11 ∧ x_8 ≠ x_11 ∧ x_7 ≠ x_11 ∧ x_6 ≠ x_11 ∧ x_5 ≠ x_11 ∧ x_4 ≠ x_11 ∧ x_3 ≠ x_11 ∧ x_2 ≠ x_11 ∧ x_1 ≠ x_11 ∧ x ≠ x_11 ∧
      True → SM x_10 ∧ SM x_10 ∧ SM x_10 ∧ SM x_11 ∧ (SM x_11 ∧ True) ∧ SM x_8 ∧ (SM x_8 ∧ True) ∧ ∀ (x_12 : Nat), x_11 ≠ x_12 ∧ x_10 ≠ x_12 ∧ x_9 ≠ x_12 ∧ x_8 ≠ x_12 ∧ x_7 ≠ x_12 ∧ x_6 ≠ x_12 ∧ x_5 ≠ x_12 ∧ x_4 ≠ x_12 ∧
      x_3 ≠ x_12 ∧ x_2 ≠ x_12 ∧ x_1 ≠ x_12 ∧ x ≠ x_12 ∧ True → SM x_12 ∧ SM x_12 ∧ SM x_5 ∧ SM x_12 ∧ ∀ (x_13 : Nat), x_12 ≠ x_13 ∧ x_11 ≠ x_13 ∧ x_10 ≠ x_13 ∧ x_9 ≠ x_13 ∧ x_8 ≠ x_13 ∧ x_7 ≠ x_13 ∧ x_6 ≠ x_13 ∧ x_5 ≠
      x_13 ∧ x_4 ≠ x_13 ∧ x_3 ≠ x_13 ∧ x_2 ≠ x_13 ∧ x_1 ≠ x_13 ∧ x ≠ x_13 ∧ True → SM x_13 ∧ SM x_13 ∧ SM x_13 ∧ SM x_13 ∧ SM x_13 ∧ ∀ (t : Nat), True ∧ SM x_5 ∧ SM x_5 ∧ SM x_3 ∧ ∀ (x_14 : Nat), x_13 ≠ x_14 ∧ x_12 ≠
      x_14 ∧ x_11 ≠ x_14 ∧ x_10 ≠ x_14 ∧ x_9 ≠ x_14 ∧ x_8 ≠ x_14 ∧ x_7 ≠ x_14 ∧ x_6 ≠ x_14 ∧ x_5 ≠ x_14 ∧ x_4 ≠ x_14 ∧ x_3 ≠ x_14 ∧ x_2 ≠ x_14 ∧ x_1 ≠ x_14 ∧ x ≠ x_14 ∧ True → SM x_14 ∧ SM x_14 ∧ True ∧ True ∧ SM Z0) (by kernel_rfl) ?_
  delta SM Z0
  repeat' (first | exact trivial | refine And.intro ?_ ?_ | exact rows_eq (by kernel_rfl) | intro _ | kernel_rfl | exact weakM_refl _ | exact Nat.le_of_ble_eq_true (by kernel_rfl))
def conA1 (k : Nat) (ds : List D) (S : St) : Option FnSpec :=
  match k with
  | 20 => match ds with
    | [.agg [_, .sl 2 1 f m, _, _]] => match f 0 with
      | [_, .sl 4 1 _ m'] => some (sC [c0 m m'] (.int .i64 0))
      | _ => none
    | _ => none
  | _ => conS k ds S
theorem conA1_ok : ConOk Try.prog conA1 := by
  intro k ds S A h
  unfold conA1 at h
  split at h
  · split at h
    · split at h
      · injection h with h; subst h
        exact ConOk.closed (right_c0 _ _)
      · cases h
    · cases h
  · exact conS_ok _ _ _ _ h
end Go.Proofs.Ytoglbmhkfkghbaa
namespace Go.Proofs.Ytoglbmhkfkghbaa
open Go Go.Ab
set_option maxRecDepth 100000
theorem tokIs_one (a : Nat) : tokIs [(0, a)] 0 a := rfl
theorem put0 (m m' : Ab.Mode) : ACalls Try.prog 13 [c0 m m'] ⟨[], []⟩ (fun r _ => weakEnd r (.ret (.tup [d0 .any, .int .i64 0]))) := by
  refine inlS (conW_ok conA1_ok) _ _ _ _ ?_
  refine vc_eq (T :=
      ∀ (x : Nat), True → SM x ∧ ∃ (x_1 : Unit), (((SM N0 ∧ (∀ (i : Nat), i < N0 → eqOf (List D) [] []) ∧ True) ∧ (SM N1 ∧ (∀ (i : Nat), i < N1 → SM (List.getD [[ZI Z0, D.sl N4 N1 (fun (i : Nat) => List.getD [[ZI (25 :
      Int), ZI Z0, ZI Z0, ZI Z0]] i []) m']] i [])) ∧ weakM m m) ∧ (SM N0 ∧ (∀ (i : Nat), i < N0 → eqOf (List D) [] []) ∧ True) ∧ (SM N0 ∧ (∀ (i : Nat), i < N0 → eqOf (List D) [] []) ∧ True) ∧ True) ∧ True) ∧ (True ∧
      True) ∧ True ∧ ∀ (y : Unit), True → True ∧ ∀ (x_2 : Nat), x ≠ x_2 ∧ True → SM x ∧ ∀ (x_3 : Nat), x_2 ≠ x_3 ∧ x ≠ x_3 ∧ True → SM x_3 ∧ ((SM x_2 ∧ fitP N4 (fun (i : Nat) => List.getD [[ZB (65 : Int)], [ZB (76 :
      Int)], [ZB (67 : Int)], [ZB (49 : Int)]] i []) N1 fun (i : Nat) => List.getD [[ZI Z0]] i []) ∧ True) ∧ ∀ (y : Nat × List UInt8), y.2 = [(65 : UInt8), (76 : UInt8), (67 : UInt8), (49 : UInt8), U0] → SM x_3 ∧ SM x_3
      ∧ ((SM x_2 ∧ tokIs [(N0, y.1)] N0 y.1 ∧ fitP (LN y.2) (fun (i : Nat) => [ZB (BI y.2 i)]) N1 fun (i : Nat) => List.getD [[ZI Z1]] i []) ∧ True) ∧ ∀ (y_1 : Nat × List UInt8), y_1.2 = (bytesOf (LN y.2) fun (i : Nat)
      => [ZB (BI y.2 i)]) ++ [(2 : UInt8)] → SM x_3 ∧ ∀ (x_4 : Nat), x_2 ≠ x_4 ∧ x_3 ≠ x_4 ∧ x ≠ x_4 ∧ True → SM x_4 ∧ SM x_4 ∧ SM x_4 ∧ ((SM x_2 ∧ tokIs [(N0, y_1.1)] N0 y_1.1 ∧ fitP (LN y_1.2) (fun (i : Nat) => [ZB (BI
      y_1.2 i)]) N2 fun (i : Nat) => List.getD [[ZI Z0], [ZI Z1]] i []) ∧ True) ∧ ∀ (y : Nat × List UInt8), y.2 = (bytesOf (LN y_1.2) fun (i : Nat) => [ZB (BI y_1.2 i)]) ++ [U0, (2 : UInt8)] → SM x_4 ∧ ∀ (x_5 : Nat), x_2
      ≠ x_5 ∧ x_4 ≠ x_5 ∧ x_3 ≠ x_5 ∧ x ≠ x_5 ∧ True → SM x_5 ∧ SM x_5 ∧ SM x_5 ∧ SM x_5 ∧ SM x_5 ∧ ((SM x_2 ∧ tokIs [(N0, y.1)] N0 y.1 ∧ fitP (LN y.2) (fun (i : Nat) => [ZB (BI y.2 i)]) N4 fun (i : Nat) => List.getD
      [[ZI (25 : Int)], [ZI Z0], [ZI Z0], [ZI Z0]] i []) ∧ True) ∧ ∀ (y_2 : Nat × List UInt8), y_2.2 = (bytesOf (LN y.2) fun (i : Nat) => [ZB (BI y.2 i)]) ++ [(50 : UInt8), U0, U0, U0] → SM x_3 ∧ ((SM x_2 ∧ tokIs [(N0,
      y_2.1)] N0 y_2.1 ∧ fitP (LN y_2.2) (fun (i : Nat) => [ZB (BI y_2.2 i)]) N1 fun (i : Nat) => List.getD [[ZI Z0]] i []) ∧ True) ∧ ∀ (y : Nat × List UInt8), y.2 = (bytesOf (LN y_2.2) fun (i : Nat) => [ZB (BI y_2.2
      i)]) ++ [U0] → SM x_3 ∧ SM x_3 ∧ ((SM x_2 ∧ tokIs [(N0, y.1)] N0 y.1 ∧ fitP (LN y.2) (fun (i : Nat) => [ZB (BI y.2 i)]) N1 fun (i : Nat) => List.getD [[ZI Z0]] i []) ∧ True) ∧ ∀ (y_3 : Nat × List UInt8), y_3.2 =
      (bytesOf (LN y.2) fun (i : Nat) => [ZB (BI y.2 i)]) ++ [U0] → SM x_3 ∧ True ∧ SM x_2 ∧ ((rowsB (LN y_3.2) fun (i : Nat) => [ZB (BI y_3.2 i)]) = true ∧ LN (bytesOf (LN y_3.2) fun (i : Nat) => [ZB (BI y_3.2 i)]) ≤
      (9223372036854775807 : Nat)) ∧ ∀ (y : Unit), True → SM x_2 ∧ (SM x_2 ∧ SM (D.sl N1 (LN y_3.2) (fun (i : Nat) => [ZB (BI y_3.2 i)]) (Mode.tok N0 y_3.1))) ∧ (SM x_2 ∧ SM (D.sl N1 (LN y_3.2) (fun (i : Nat) => [ZB (BI
      y_3.2 i)]) (Mode.tok N0 y_3.1))) ∧ SM y_3.1 ∧ side ((LN y_3.2 + N1) * N1 ≤ (140737488355328 : Nat) ∧ LN y_3.2 + N1 ≤ (9223372036854775807 : Nat)) (∀ (t : Nat), SM x_2 ∧ SM x_2 ∧ (SM x_2 ∧ SM (D.sl N1 (LN y_3.2 +
      N1) (appF (LN y_3.2) (fun (i : Nat) => [ZB (BI y_3.2 i)]) fun (i : Nat) => List.getD [[ZB (IntKind.wrap IntKind.u8 (Int.fdiv (NI (sumN (bytesOf (LN y_3.2) fun (i : Nat) => [ZB (BI y_3.2 i)]))) (16777216 : Int)))]]
      i []) (Mode.tok N0 t))) ∧ (SM x_2 ∧ SM (D.sl N1 (LN y_3.2 + N1) (appF (LN y_3.2) (fun (i : Nat) => [ZB (BI y_3.2 i)]) fun (i : Nat) => List.getD [[ZB (IntKind.wrap IntKind.u8 (Int.fdiv (NI (sumN (bytesOf (LN y_3.2)
      fun (i : Nat) => [ZB (BI y_3.2 i)]))) (16777216 : Int)))]] i []) (Mode.tok N0 t))) ∧ SM t ∧ side ((LN y_3.2 + N1 + N1) * N1 ≤ (140737488355328 : Nat) ∧ LN y_3.2 + N1 + N1 ≤ (9223372036854775807 : Nat)) (∀ (t :
      Nat), SM x_2 ∧ SM x_2 ∧ (SM x_2 ∧ SM (D.sl N1 (LN y_3.2 + N1 + N1) (appF (LN y_3.2 + N1) (appF (LN y_3.2) (fun (i : Nat) => [ZB (BI y_3.2 i)]) fun (i : Nat) => List.getD [[ZB (IntKind.wrap IntKind.u8 (Int.fdiv (NI
      (sumN (bytesOf (LN y_3.2) fun (i : Nat) => [ZB (BI y_3.2 i)]))) (16777216 : Int)))]] i []) fun (i : Nat) => List.getD [[ZB (IntKind.wrap IntKind.u8 (Int.fdiv (NI (sumN (bytesOf (LN y_3.2) fun (i : Nat) => [ZB (BI
      y_3.2 i)]))) (65536 : Int)))]] i []) (Mode.tok N0 t))) ∧ (SM x_2 ∧ SM (D.sl N1 (LN y_3.2 + N1 + N1) (appF (LN y_3.2 + N1) (appF (LN y_3.2) (fun (i : Nat) => [ZB (BI y_3.2 i)]) fun (i : Nat) => List.getD [[ZB
      (IntKind.wrap IntKind.u8 (Int.fdiv (NI (sumN (bytesOf (LN y_3.2) fun (i : Nat) => [ZB (BI y_3.2 i)]))) (16777216 : Int)))]] i []) fun (i : Nat) => List.getD [[ZB (IntKind.wrap IntKind.u8 (Int.fdiv (NI (sumN
      (bytesOf (LN y_3.2) fun (i : Nat) => [ZB (BI y_3.2 i)]))) (65536 : Int)))]] i []) (Mode.tok N0 t))) ∧ SM t ∧ side ((LN y_3.2 + N1 + N1 + N1) * N1 ≤ (140737488355328 : Nat) ∧ LN y_3.2 + N1 + N1 + N1 ≤
      (9223372036854775807 : Nat)) (∀ (t : Nat), SM x_2 ∧ SM x_2 ∧ (SM x_2 ∧ SM (D.sl N1 (LN y_3.2 + N1 + N1 + N1) (appF (LN y_3.2 + N1 + N1) (appF (LN y_3.2 + N1) (appF (LN y_3.2) (fun (i : Nat) => [ZB (BI y_3.2 i)])
      fun (i : Nat) => List.getD [[ZB (IntKind.wrap IntKind.u8 (Int.fdiv (NI (sumN (bytesOf (LN y_3.2) fun (i : Nat) => [ZB (BI y_3.2 i)]))) (16777216 : Int)))]] i []) fun (i : Nat) => List.getD [[ZB (IntKind.wrap
      IntKind.u8 (Int.fdiv (NI (sumN (bytesOf (LN y_3.2) fun (i : Nat) => [ZB (BI y_3.2 i)]))) (65536 : Int)))]] i []) fun (i : Nat) => List.getD [[ZB (IntKind.wrap IntKind.u8 (Int.fdiv (NI (sumN (bytesOf (LN y_3.2) fun
      (i : Nat) => [ZB (BI y_3.2 i)]))) (256 : Int)))]] i []) (Mode.tok N0 t))) ∧ (SM x_2 ∧ SM (D.sl N1 (LN y_3.2 + N1 + N1 + N1) (appF (LN y_3.2 + N1 + N1) (appF (LN y_3.2 + N1) (appF (LN y_3.2) (fun (i : Nat) => [ZB
      (BI y_3.2 i)]) fun (i : Nat) => List.getD [[ZB (IntKind.wrap IntKind.u8 (Int.fdiv (NI (sumN (bytesOf (LN y_3.2) fun (i : Nat) => [ZB (BI y_3.2 i)]))) (16777216 : Int)))]] i []) fun (i : Nat) => List.getD [[ZB
      (IntKind.wrap IntKind.u8 (Int.fdiv (NI (sumN (bytesOf (LN y_3.2) fun (i : Nat) => [ZB (BI y_3.2 i)]))) (65536 : Int)))]] i []) fun (i : Nat) => List.getD [[ZB (IntKind.wrap IntKind.u8 (Int.fdiv (NI (sumN (bytesOf
      (LN y_3.2) fun (i : Nat) => [ZB (BI y_3.2 i)]))) (256 : Int)))]] i []) (Mode.tok N0 t))) ∧ SM t ∧ side ((LN y_3.2 + N1 + N1 + N1 + N1) * N1 ≤ (140737488355328 : Nat) ∧ LN y_3.2 + N1 + N1 + N1 + N1 ≤
      (9223372036854775807 : Nat)) (∀ (t : Nat), SM x_2 ∧ SM x_2 ∧ ifB (decide ((1048576 : Int) < (NI (LN y_3.2 + N1 + N1 + N1 + N1)))) (True ∧ (N0 = (18 : Nat) ∧ (∀ (i : Nat), i < N0 → eqOf (List D) [] (List.getD [[ZB
      (65 : Int)], [ZB (76 : Int)], [ZB (67 : Int)], [ZB (49 : Int)], [ZB Z0], [ZB (2 : Int)], [ZB Z0], [ZB (2 : Int)], [ZB (50 : Int)], [ZB Z0], [ZB Z0], [ZB Z0], [ZB Z0], [ZB Z0], [ZB (116 : Int)], [ZB (248 : Int)],
      [ZB (41 : Int)], [ZB (197 : Int)]] i [])) ∧ True) ∧ (21 : Int) = Z0 ∧ True) (SM x_2 ∧ True ∧ (LN y_3.2 + N1 + N1 + N1 + N1 = (18 : Nat) ∧ (∀ (i : Nat), i < LN y_3.2 + N1 + N1 + N1 + N1 → appF (LN y_3.2 + N1 + N1 +
      N1) (appF (LN y_3.2 + N1 + N1) (appF (LN y_3.2 + N1) (appF (LN y_3.2) (fun (i : Nat) => [ZB (BI y_3.2 i)]) fun (i : Nat) => List.getD [[ZB (IntKind.wrap IntKind.u8 (Int.fdiv (NI (sumN (bytesOf (LN y_3.2) fun (i :
      Nat) => [ZB (BI y_3.2 i)]))) (16777216 : Int)))]] i []) fun (i : Nat) => List.getD [[ZB (IntKind.wrap IntKind.u8 (Int.fdiv (NI (sumN (bytesOf (LN y_3.2) fun (i : Nat) => [ZB (BI y_3.2 i)]))) (65536 : Int)))]] i [])
      fun (i : Nat) => List.getD [[ZB (IntKind.wrap IntKind.u8 (Int.fdiv (NI (sumN (bytesOf (LN y_3.2) fun (i : Nat) => [ZB (BI y_3.2 i)]))) (256 : Int)))]] i []) (fun (i : Nat) => List.getD [[ZB (IntKind.wrap IntKind.u8
      (Int.fdiv (NI (sumN (bytesOf (LN y_3.2) fun (i : Nat) => [ZB (BI y_3.2 i)]))) Z1))]] i []) i = List.getD [[ZB (65 : Int)], [ZB (76 : Int)], [ZB (67 : Int)], [ZB (49 : Int)], [ZB Z0], [ZB (2 : Int)], [ZB Z0], [ZB (2
      : Int)], [ZB (50 : Int)], [ZB Z0], [ZB Z0], [ZB Z0], [ZB Z0], [ZB Z0], [ZB (116 : Int)], [ZB (248 : Int)], [ZB (41 : Int)], [ZB (197 : Int)]] i []) ∧ True) ∧ SM Z0 ∧ True)))))) (by kernel_rfl) ?_
  delta BI LN N0 N1 N2 N4 NI SM U0 Z0 Z1 ZB ZI
  simp only [Prod.forall, forall_eq, bytesOf_bsl, rowsB_bsl, side_iff, ifB_iff, true_and, and_true, fitP, List.cons_append, List.nil_append, List.length_cons, List.length_nil, Nat.reduceAdd, Nat.reduceMul, Int.cast_ofNat_Int, Int.reduceLT, decide_eq_true_eq, decide_eq_false_iff_not, false_implies, not_false_eq_true, true_implies, forall_const]
  repeat' (first | exact trivial | exact tokIs_one _ | refine Exists.intro () ?_ | refine And.intro ?_ ?_ | exact rows_eq (by kernel_rfl) | intro _ | kernel_rfl | exact weakM_refl _ | exact Nat.le_of_ble_eq_true (by kernel_rfl))
  all_goals trace_state
end Go.Proofs.Ytoglbmhkfkghbaa
namespace Go.Proofs.Ytoglbmhkfkghbaa
open Go Go.Ab
set_option maxRecDepth 100000
theorem takeN (m : Ab.Mode) : ACalls Try.prog 15 [.sl 1 0 (fun _ => []) m] ⟨[], []⟩ (fun r _ => weakEnd r (.ret (.tup [.agg [nils, nils, nils, nils], .int .i64 7]))) := by
  refine inlS conA1_ok _ _ _ _ ?_
  refine vc_eq (T :=
      ∀ (x : Nat), True → SM x ∧ (SM x ∧ True) ∧ ((SM N0 ∧ (∀ (i : Nat), i < N0 → eqOf (List D) [] []) ∧ True) ∧ (SM N0 ∧ (∀ (i : Nat), i < N0 → eqOf (List D) [] []) ∧ True) ∧ (SM N0 ∧ (∀ (i : Nat), i < N0 → eqOf (List
      D) [] []) ∧ True) ∧ (SM N0 ∧ (∀ (i : Nat), i < N0 → eqOf (List D) [] []) ∧ True) ∧ True) ∧ SM (7 : Int) ∧ True) (by kernel_rfl) ?_
  delta N0 SM
  simp only [true_and, and_true]
  repeat' (first | exact trivial | refine Exists.intro () ?_ | refine And.intro ?_ ?_ | exact rows_eq (by kernel_rfl) | intro _ | kernel_rfl | exact weakM_refl _ | exact Nat.le_of_ble_eq_true (by kernel_rfl))
theorem take0 : ACalls Try.prog 15 [d0 .any] ⟨[], []⟩ (fun r _ => ∃ t, weakEnd r (.ret (.tup [c0 .any (.tok 0 t), .int .i64 0]))) := by
  refine inlS conA1_ok _ _ _ _ ?_
  refine vc_eq (T :=
      ∀ (x : Nat), True → True ∧ (SM true ∧ (14 : Nat) ≤ (9223372036854775807 : Nat)) ∧ ∀ (y : Unit), True → True ∧ ∀ (x_1 : Nat), x ≠ x_1 ∧ True → ∀ (x_2 : Nat), x_1 ≠ x_2 ∧ x ≠ x_2 ∧ True → ∀ (x_3 : Nat), x_2 ≠ x_3 ∧
      x_1 ≠ x_3 ∧ x ≠ x_3 ∧ True → ∀ (x_4 : Nat), x_3 ≠ x_4 ∧ x_2 ≠ x_4 ∧ x_1 ≠ x_4 ∧ x ≠ x_4 ∧ True → ∀ (x_5 : Nat), x_4 ≠ x_5 ∧ x_3 ≠ x_5 ∧ x_2 ≠ x_5 ∧ x_1 ≠ x_5 ∧ x ≠ x_5 ∧ True → SM x_3 ∧ True ∧ SM x_3 ∧ SM x_3 ∧ SM
      x_3 ∧ True ∧ True ∧ True ∧ SM x_3 ∧ True ∧ True ∧ SM x_3 ∧ True ∧ SM x_3 ∧ SM x_3 ∧ SM x_3 ∧ True ∧ True ∧ True ∧ SM x_3 ∧ True ∧ True ∧ SM x_3 ∧ True ∧ SM x_3 ∧ SM x_3 ∧ SM x_3 ∧ True ∧ True ∧ True ∧ ∀ (x_6 :
      Nat), x_5 ≠ x_6 ∧ x_4 ≠ x_6 ∧ x_3 ≠ x_6 ∧ x_2 ≠ x_6 ∧ x_1 ≠ x_6 ∧ x ≠ x_6 ∧ True → SM x_6 ∧ SM x_3 ∧ True ∧ SM x_3 ∧ SM x_3 ∧ SM x_3 ∧ True ∧ True ∧ True ∧ SM x_3 ∧ True ∧ True ∧ SM x_6 ∧ SM x_3 ∧ True ∧ SM x_3 ∧
      SM x_3 ∧ SM x_3 ∧ True ∧ True ∧ True ∧ (SM x_6 ∧ SM (D.sl N1 N0 (fun (x : Nat) => []) Mode.nil)) ∧ SM x_3 ∧ True ∧ SM x_3 ∧ SM x_3 ∧ SM x_3 ∧ True ∧ True ∧ True ∧ (SM x_6 ∧ SM (D.sl N1 N0 (fun (x : Nat) => [])
      Mode.nil)) ∧ SM x_3 ∧ True ∧ SM x_3 ∧ SM x_3 ∧ SM x_3 ∧ True ∧ True ∧ True ∧ (SM x_6 ∧ SM (D.sl N1 N0 (fun (x : Nat) => []) Mode.nil)) ∧ SM x_3 ∧ True ∧ SM x_3 ∧ SM x_3 ∧ SM x_3 ∧ True ∧ True ∧ True ∧ (SM x_6 ∧ SM
      (D.sl N1 N0 (fun (x : Nat) => []) Mode.nil)) ∧ (SM x_6 ∧ SM (D.sl N1 N0 (fun (x : Nat) => []) Mode.nil)) ∧ ∀ (t : Nat), SM x_6 ∧ SM x_5 ∧ SM x_6 ∧ ∀ (t_1 : Nat), SM x_5 ∧ SM x_3 ∧ True ∧ SM x_3 ∧ SM x_3 ∧ SM x_3 ∧
      True ∧ True ∧ True ∧ SM x_3 ∧ True ∧ True ∧ SM x_3 ∧ True ∧ SM x_3 ∧ SM x_3 ∧ SM x_3 ∧ True ∧ True ∧ True ∧ SM x_3 ∧ True ∧ True ∧ SM x_3 ∧ True ∧ SM x_5 ∧ SM x_4 ∧ (SM x_4 ∧ True) ∧ SM x_1 ∧ SM x_2 ∧ (SM x_1 ∧ SM
      x_2 ∧ True) ∧ ∀ (x_7 : Nat), x_6 ≠ x_7 ∧ x_5 ≠ x_7 ∧ x_4 ≠ x_7 ∧ x_3 ≠ x_7 ∧ x_2 ≠ x_7 ∧ x_1 ≠ x_7 ∧ x ≠ x_7 ∧ True → SM x_7 ∧ SM x_7 ∧ ∃ (x_8 : Unit), (((SM N0 ∧ (∀ (i : Nat), i < N0 → eqOf (List D) [] []) ∧ True)
      ∧ (SM N1 ∧ (∀ (i : Nat), i < N1 → appF N0 (fun (x : Nat) => []) (fun (i : Nat) => List.getD [[ZI Z0, D.sl N4 N1 (fun (i : Nat) => List.getD [[ZI (25 : Int), ZI Z0, ZI Z0, ZI Z0]] (i - N0) []) (Mode.tok N0 t)]] i
      []) i = List.getD [[ZI Z0, D.sl N4 N1 (fun (i : Nat) => List.getD [[ZI (25 : Int), ZI Z0, ZI Z0, ZI Z0]] i []) (Mode.tok N0 t)]] i []) ∧ SM t_1) ∧ (SM N0 ∧ (∀ (i : Nat), i < N0 → eqOf (List D) [] []) ∧ True) ∧ (SM
      N0 ∧ (∀ (i : Nat), i < N0 → eqOf (List D) [] []) ∧ True) ∧ True) ∧ True) ∧ (True ∧ True) ∧ True ∧ ∀ (y : Unit), True → SM x_7 ∧ SM x_7 ∧ SM x ∧ (SM x ∧ True) ∧ ∃ (t_2 : Nat), ((SM N0 ∧ (∀ (i : Nat), i < N0 → eqOf
      (List D) [] []) ∧ True) ∧ (SM N1 ∧ (∀ (i : Nat), i < N1 → appF N0 (fun (x : Nat) => []) (fun (i : Nat) => List.getD [[ZI Z0, D.sl N4 N1 (fun (i : Nat) => List.getD [[ZI (25 : Int), ZI Z0, ZI Z0, ZI Z0]] (i - N0)
      []) (Mode.tok N0 t)]] i []) i = List.getD [[ZI Z0, D.sl N4 N1 (fun (i : Nat) => List.getD [[ZI (25 : Int), ZI Z0, ZI Z0, ZI Z0]] i []) (Mode.tok N0 t_2)]] i []) ∧ True) ∧ (SM N0 ∧ (∀ (i : Nat), i < N0 → eqOf (List
      D) [] []) ∧ True) ∧ (SM N0 ∧ (∀ (i : Nat), i < N0 → eqOf (List D) [] []) ∧ True) ∧ True) ∧ SM Z0 ∧ True) (by kernel_rfl) ?_
  delta N0 N1 N4 SM Z0 ZI
  simp only [true_and, and_true]
  repeat' (first | exact trivial | refine Exists.intro () ?_ | refine And.intro ?_ ?_ | exact rows_eq (by kernel_rfl) | intro _ | kernel_rfl | exact weakM_refl _ | exact Nat.le_of_ble_eq_true (by kernel_rfl))
  rename_i t1 t2 x7 h1 u h2
  refine ⟨t1, ?_⟩
  repeat' (first | exact trivial | refine Exists.intro () ?_ | refine And.intro ?_ ?_ | exact rows_eq (by kernel_rfl) | intro _ | kernel_rfl | exact weakM_refl _ | exact Nat.le_of_ble_eq_true (by kernel_rfl))
end Go.Proofs.Ytoglbmhkfkghbaa
namespace Go.Proofs.Ytoglbmhkfkghbaa
open Go Go.Ab
set_option maxRecDepth 100000
theorem same0 (t : Nat) : ACalls Try.prog 17 [c0 .any .full, c0 .any (.tok 0 t)] ⟨[], []⟩ (fun r _ => weakEnd r (.ret (.bool true))) := by
  refine inlS conS_ok _ _ _ _ ?_
  refine vc_eq (T :=
      ∀ (x : Nat), True → ∀ (x_1 : Nat), x ≠ x_1 ∧ True → SM x ∧ SM x_1 ∧ SM x ∧ SM x ∧ SM x_1 ∧ True ∧ SM x ∧ SM x_1 ∧ True ∧ SM x ∧ SM x_1 ∧ True ∧ True ∧ SM true) (by kernel_rfl) ?_
  delta SM
  simp only [true_and, and_true]
  repeat' (first | exact trivial | refine Exists.intro () ?_ | refine And.intro ?_ ?_ | exact rows_eq (by kernel_rfl) | intro _ | kernel_rfl | exact weakM_refl _ | exact Nat.le_of_ble_eq_true (by kernel_rfl))
end Go.Proofs.Ytoglbmhkfkghbaa
namespace Go.Proofs.Ytoglbmhkfkghbaa
open Go Go.Ab
set_option maxRecDepth 100000

def sTake : FnSpec where
  β := Unit
  α := Nat
  args := fun _ => [d0 .any]
  st := fun _ => ⟨[], []⟩
  pre := fun _ => True
  post := fun _ _ => True
  res := fun _ t => .ret (.tup [c0 .any (.tok 0 t), .int .i64 0])
  out := fun _ _ => ⟨[], []⟩
def b9 : List (List D) := [[.int .u8 49], [.int .u8 50], [.int .u8 51], [.int .u8 52], [.int .u8 53], [.int .u8 54], [.int .u8 55], [.int .u8 56], [.int .u8 57]]
theorem sum9 : ACalls Try.prog 10 [.sl 1 9 (fun i => b9.getD i []) .any] ⟨[], []⟩ (fun r _ => weakEnd r (.ret (.int .u32 3421780262))) := by
  refine (sum_ok [49, 50, 51, 52, 53, 54, 55, 56, 57] .any (by simp)).respec (A' := sC [.sl 1 9 (fun i => b9.getD i []) .any] (.int .u32 3421780262)) (x' := ()) ?_ ?_ (fun y _ => ⟨(), trivial, ?_, ?_⟩) |>.mono ?_
  · exact ⟨⟨rfl, rows_eq rfl, trivial⟩, trivial⟩
  · simp [sC, sSum, posS, posO, posT]
  · show (sumN [49, 50, 51, 52, 53, 54, 55, 56, 57] : Int) = 3421780262
    kernel_rfl
  · simp [sC, sSum, posS, posO, posT]
  · rintro r S' ⟨_, _, rfl, _⟩
    exact weakD_refl _
def conK (k : Nat) (ds : List D) (S : St) : Option FnSpec :=
  match k with
  | 10 => match ds with
    | [.sl 1 9 _ _] => some (sC [.sl 1 9 (fun i => b9.getD i []) .any] (.int .u32 3421780262))
    | _ => none
  | 13 => match ds with
    | [.agg [_, .sl 2 1 f m, _, _]] => match f 0 with
      | [_, .sl 4 1 _ m'] => some (sC [c0 m m'] (.tup [d0 .any, .int .i64 0]))
      | _ => none
    | _ => none
  | 15 => match ds with
    | [.sl 1 18 _ _] => some sTake
    | [.sl 1 0 _ m] => some (sC [.sl 1 0 (fun _ => []) m] (.tup [.agg [nils, nils, nils, nils], .int .i64 7]))
    | _ => none
  | 17 => match ds with
    | [_, .agg [_, .sl 2 1 f _, _, _]] => match f 0 with
      | [_, .sl 4 1 _ (.tok 0 t)] => some (sC [c0 .any .full, c0 .any (.tok 0 t)] (.bool true))
      | _ => none
    | _ => none
  | _ => conS k ds S
theorem conK_ok : ConOk Try.prog conK := by
  intro k ds S A h
  unfold conK at h
  split at h
  · split at h
    · injection h with h; subst h
      exact ConOk.closed sum9
    · cases h
  · split at h
    · split at h
      · injection h with h; subst h
        exact ConOk.closed (put0 _ _)
      · cases h
    · cases h
  · split at h
    · injection h with h; subst h
      refine ConOk.plain (A := sTake) (fun _ _ => take0.weaken ?_) rfl rfl
      rintro r S' ⟨t, hw⟩
      exact ⟨_, ⟨[], []⟩, hw, .none S', t, trivial, rfl, rfl⟩
    · injection h with h; subst h
      exact ConOk.closed (takeN _)
    · cases h
  · split at h
    · split at h
      · injection h with h; subst h
        exact ConOk.closed (same0 _)
      · cases h
    · cases h
  · exact conS_ok _ _ _ _ h
theorem awake0 : ACalls Try.prog 9 [] ⟨[], []⟩ (fun r _ => weakEnd r (.ret (.bool true))) := by
  refine inlS conK_ok _ _ _ _ ?_
  refine vc_eq (T :=
      ∀ (x : Nat), True → SM x ∧ SM x ∧ ∃ (x_1 : Unit), (((SM N0 ∧ (∀ (i : Nat), i < N0 → eqOf (List D) [] []) ∧ True) ∧ (SM N1 ∧ (∀ (i : Nat), i < N1 → SM (List.getD [[ZI Z0, D.sl N4 N1 (fun (i : Nat) => List.getD [[ZI
      (25 : Int), ZI Z0, ZI Z0, ZI Z0]] i []) Mode.full]] i [])) ∧ True) ∧ (SM N0 ∧ (∀ (i : Nat), i < N0 → eqOf (List D) [] []) ∧ True) ∧ (SM N0 ∧ (∀ (i : Nat), i < N0 → eqOf (List D) [] []) ∧ True) ∧ True) ∧ True) ∧
      (True ∧ True) ∧ True ∧ ∀ (y : Unit), True → ∃ (x_2 : Unit), ((SM (18 : Nat) ∧ (∀ (i : Nat), i < (18 : Nat) → SM (List.getD [[ZB (65 : Int)], [ZB (76 : Int)], [ZB (67 : Int)], [ZB (49 : Int)], [ZB Z0], [ZB (2 :
      Int)], [ZB Z0], [ZB (2 : Int)], [ZB (50 : Int)], [ZB Z0], [ZB Z0], [ZB Z0], [ZB Z0], [ZB Z0], [ZB (116 : Int)], [ZB (248 : Int)], [ZB (41 : Int)], [ZB (197 : Int)]] i [])) ∧ True) ∧ True) ∧ (True ∧ True) ∧ True ∧ ∀
      (y : Nat), True → ∀ (x_3 : Nat), x ≠ x_3 ∧ True → SM x_3 ∧ ∃ (x_4 : Unit), ((SM N0 ∧ (∀ (i : Nat), i < N0 → eqOf (List D) [] []) ∧ True) ∧ True) ∧ (True ∧ True) ∧ True ∧ ∀ (y_1 : Unit), True → ∀ (x_5 : Nat), x_3 ≠
      x_5 ∧ x ≠ x_5 ∧ True → SM x_5 ∧ True ∧ SM x ∧ SM x_3 ∧ ∃ (x : Unit), (((SM N0 ∧ (∀ (i : Nat), i < N0 → eqOf (List D) [] []) ∧ True) ∧ (SM N1 ∧ (∀ (i : Nat), i < N1 → SM (List.getD [[ZI Z0, D.sl N4 N1 (fun (i : Nat)
      => List.getD [[ZI (25 : Int), ZI Z0, ZI Z0, ZI Z0]] i []) Mode.full]] i [])) ∧ True) ∧ (SM N0 ∧ (∀ (i : Nat), i < N0 → eqOf (List D) [] []) ∧ True) ∧ (SM N0 ∧ (∀ (i : Nat), i < N0 → eqOf (List D) [] []) ∧ True) ∧
      True) ∧ ((SM N0 ∧ (∀ (i : Nat), i < N0 → eqOf (List D) [] []) ∧ True) ∧ (SM N1 ∧ (∀ (i : Nat), i < N1 → SM (List.getD [[ZI Z0, D.sl N4 N1 (fun (i : Nat) => List.getD [[ZI (25 : Int), ZI Z0, ZI Z0, ZI Z0]] i [])
      (Mode.tok N0 y)]] i [])) ∧ True) ∧ (SM N0 ∧ (∀ (i : Nat), i < N0 → eqOf (List D) [] []) ∧ True) ∧ (SM N0 ∧ (∀ (i : Nat), i < N0 → eqOf (List D) [] []) ∧ True) ∧ True) ∧ True) ∧ (True ∧ True) ∧ True ∧ ∀ (y : Unit),
      True → True ∧ ∃ (x : Unit), ((SM (9 : Nat) ∧ (∀ (i : Nat), i < (9 : Nat) → SM (List.getD [[ZB (49 : Int)], [ZB (50 : Int)], [ZB (51 : Int)], [ZB (52 : Int)], [ZB (53 : Int)], [ZB (54 : Int)], [ZB (55 : Int)], [ZB
      (56 : Int)], [ZB (57 : Int)]] i [])) ∧ True) ∧ True) ∧ (True ∧ True) ∧ True ∧ ∀ (y : Unit), True → True ∧ SM true) (by kernel_rfl) ?_
  delta N0 N1 N4 SM Z0 ZB ZI
  simp only [true_and, and_true]
  repeat' (first | exact trivial | refine Exists.intro () ?_ | refine And.intro ?_ ?_ | exact rows_eq (by kernel_rfl) | intro _ | kernel_rfl | exact weakM_refl _ | exact Nat.le_of_ble_eq_true (by kernel_rfl))
  all_goals trace_state
end Go.Proofs.Ytoglbmhkfkghbaa
namespace Go.Proofs.Ytoglbmhkfkghbaa
open Go Go.Ab
set_option maxRecDepth 100000

/-! ### ImagePuts -/
def conAw : Con := fun k ds S => match k with
  | 9 => some (sC [] (.bool true))
  | k => conS k ds S
theorem conAw_ok : ConOk Try.prog conAw := by
  intro k ds S A h
  unfold conAw at h
  split at h
  · injection h with h; subst h
    exact ConOk.closed awake0
  · exact conS_ok _ _ _ _ h
def conPt (c : CodD) : Con := fun k ds S => match k with
  | 12 => some (pC ds (.bool (fewC c)) (weakL ds [.agg c.row]))
  | 13 => some (pC ds (.tup [bsl (putL c) .any, .int .i64 (putE c)]) (weakL ds [.agg c.row] ∧ fewC c = true))
  | 14 => some (pC ds (.tup [bsl (putL c) .any, .int .i64 (putE c)]) (weakL ds [.agg c.row] ∧ fewC c = true))
  | k => conAw k ds S
theorem conPt_ok {c : CodD} (hc : c.ok) : ConOk Try.prog (conPt c) := by
  intro k ds S A h
  unfold conPt at h
  split at h
  · injection h with h; subst h
    exact pC_ok fun e => ⟨weakL_refl _, sC_weak e (fc_ok c hc)⟩
  · injection h with h; subst h
    exact pC_ok fun e => ⟨weakL_refl _, sC_weak e.1 (pu_ok c hc (few_hs e.2) (few_sz e.2))⟩
  · injection h with h; subst h
    exact pC_ok fun e => ⟨weakL_refl _, sC_weak e.1 (rp_ok c hc (few_hs e.2) (few_sz e.2))⟩
  · exact conAw_ok _ _ _ _ h
noncomputable def Ept (c : CodD) : Senv := EC (conPt c) 34 7 [9] (fun _ => ([], []))
theorem law_puts (c : CodD) (hc : c.ok) : ACalls Try.prog 4 [.agg c.row] ⟨[], []⟩ (SpecR (sC [.agg c.row] (.bool true)) ()) := by
  refine con_of (A := sC _ _) (x := ()) (E := Ept c) (eOk (conPt_ok hc) rfl) Try.func4 rfl (by kernel_rfl) rfl (by simp [sC, Ept, EC, E0]) ?_
  refine vc_eq (T :=
      ∀ (x : Nat), True → SM x ∧ (((SM (LN (CodD.consts c)) ∧ (∀ (i : Nat), i < LN (CodD.consts c) → SM (Arr.row (GC c i))) ∧ True) ∧ (SM (LN (CodD.funs c)) ∧ (∀ (i : Nat), i < LN (CodD.funs c) → SM [ZI (FnD.slots (GF c
      i)), S4 (FnD.code (GF c i))]) ∧ True) ∧ (SM (LN (CodD.kers c)) ∧ (∀ (i : Nat), i < LN (CodD.kers c) → SM [ZI (KeD.inputs (GK c i)), S4 (KeD.ops (GK c i)), ZI (KeD.reduce (GK c i)), ZI (KeD.at_ (GK c i))]) ∧ True) ∧
      (SM (LN (CodD.lanes c)) ∧ (∀ (i : Nat), i < LN (CodD.lanes c) → SM [ZI (LaD.regs (GL c i)), S6 (LaD.code (GL c i))]) ∧ True) ∧ True) ∧ True) ∧ ∀ (y : Unit), True → ifB (!fewC c) (∃ (x : Unit), True ∧ (True ∧ True)
      ∧ True ∧ ∀ (y : Unit), True → True ∧ ∃ (y : Unit), True ∧ SM true ∧ True ∧ True) (SM x ∧ ((((SM (LN (CodD.consts c)) ∧ (∀ (i : Nat), i < LN (CodD.consts c) → SM (Arr.row (GC c i))) ∧ True) ∧ (SM (LN (CodD.funs c))
      ∧ (∀ (i : Nat), i < LN (CodD.funs c) → SM [ZI (FnD.slots (GF c i)), S4 (FnD.code (GF c i))]) ∧ True) ∧ (SM (LN (CodD.kers c)) ∧ (∀ (i : Nat), i < LN (CodD.kers c) → SM [ZI (KeD.inputs (GK c i)), S4 (KeD.ops (GK c
      i)), ZI (KeD.reduce (GK c i)), ZI (KeD.at_ (GK c i))]) ∧ True) ∧ (SM (LN (CodD.lanes c)) ∧ (∀ (i : Nat), i < LN (CodD.lanes c) → SM [ZI (LaD.regs (GL c i)), S6 (LaD.code (GL c i))]) ∧ True) ∧ True) ∧ True) ∧ fewC c
      = true) ∧ ∀ (y : Unit), True → SM x ∧ ((((SM (LN (CodD.consts c)) ∧ (∀ (i : Nat), i < LN (CodD.consts c) → SM (Arr.row (GC c i))) ∧ True) ∧ (SM (LN (CodD.funs c)) ∧ (∀ (i : Nat), i < LN (CodD.funs c) → SM [ZI
      (FnD.slots (GF c i)), S4 (FnD.code (GF c i))]) ∧ True) ∧ (SM (LN (CodD.kers c)) ∧ (∀ (i : Nat), i < LN (CodD.kers c) → SM [ZI (KeD.inputs (GK c i)), S4 (KeD.ops (GK c i)), ZI (KeD.reduce (GK c i)), ZI (KeD.at_ (GK
      c i))]) ∧ True) ∧ (SM (LN (CodD.lanes c)) ∧ (∀ (i : Nat), i < LN (CodD.lanes c) → SM [ZI (LaD.regs (GL c i)), S6 (LaD.code (GL c i))]) ∧ True) ∧ True) ∧ True) ∧ fewC c = true) ∧ ∀ (y : Unit), True → ifB (putE c ==
      putE c) (True ∧ chk (true && rowsB (LN (putL c)) fun (i : Nat) => [ZB (BI (putL c) i)]) (True ∧ chk (true && rowsB (LN (putL c)) fun (i : Nat) => [ZB (BI (putL c) i)]) (ifB ((bytesOf (LN (putL c)) fun (i : Nat) =>
      [ZB (BI (putL c) i)]) == bytesOf (LN (putL c)) fun (i : Nat) => [ZB (BI (putL c) i)]) (∃ (x : Unit), True ∧ (True ∧ True) ∧ True ∧ ∀ (y : Unit), True → True ∧ ∃ (y : Unit), True ∧ SM true ∧ True ∧ True) (True ∧ ∃
      (y : Unit), True ∧ false = true ∧ True ∧ True)))) (True ∧ ∃ (y : Unit), True ∧ false = true ∧ True ∧ True))) (by kernel_rfl) ?_
  delta BI D4 D6 DA DF DK DL G4 G6 GC GF GK GL LN N4 N6 R4 R6 S4 S6 SM U0 Z0 ZB ZI
  simp only [eq_self, ne_eq, implies_true, weakL_refl, Int.toNat_natCast, ifB_iff, side_iff, decide_eq_true_eq, decide_eq_false_iff_not, true_and, and_true, beq_iff_eq, Bool.cond_false_right, Bool.cond_true_left, Bool.and_eq_true, Bool.and_eq_false_iff, Bool.or_eq_true, Bool.or_eq_false_iff, beq_eq_false_iff_ne, exists_const, forall_const, Prod.forall, forall_eq, bytesOf_bsl, rowsB_bsl]
  intro h
  have h : fewC c = true := by simpa using h
  exact ⟨h, h, fun h => (h trivial).elim, fun h => (h trivial).elim⟩
end Go.Proofs.Ytoglbmhkfkghbaa
namespace Go.Proofs.Ytoglbmhkfkghbaa
open Go Go.Ab
set_option maxRecDepth 100000

/-! ### slices.Equal of bytes -/
noncomputable def Eeq (a b : List UInt8) : Senv := { EC con0 26 2 [4, 5, 10, 12, 13, 14, 24] (fun id => match id with | 6 => ([0, 1, 2, 3, 4, 5, 6, 7, 8], []) | _ => ([], [])) with
  ann := fun k _ S => match k with
    | 0 => some { slots := [13], keep := [0, 1, 12], α := Nat, st := fun i => ([.int .i64 i], S), inv := fun i => i ≤ a.length ∧ a.take i = b.take i, mu := fun i => a.length - i }
    | _ => none }
theorem getD_nat {a b : List UInt8} {i : Nat} : (((a.getD i 0).toNat : Int) = ((b.getD i 0).toNat : Int)) ↔ a.getD i 0 = b.getD i 0 :=
  ⟨fun h => UInt8.toNat_inj.1 (by omega), fun h => by rw [h]⟩
theorem equal_ok (a b : List UInt8) (m m' : Ab.Mode) (ha : a.length ≤ maxLen) (hb : b.length ≤ maxLen) : ACalls Try.prog 24 [bsl a m, bsl b m'] ⟨[], []⟩ (SpecR (sC [bsl a m, bsl b m'] (.bool (a == b))) ()) := by
  refine con_of (A := sC _ _) (x := ()) (E := Eeq a b) (eOk con0_ok rfl) Try.func24 rfl (by kernel_rfl) rfl (by simp [sC, Eeq, EC, E0]) ?_
  refine vc_eq (T :=
      ifB ((LI a) != (LI b)) (True ∧ ∃ (y : Unit), True ∧ false = (a == b) ∧ True ∧ True) ((∃ (x : Nat), (x ≤ LN a ∧ List.take x a = List.take x b) ∧ (Z0 = (↑x : Int) ∧ True) ∧ True ∧ True) ∧ ∀ (x : Nat), x ≤ LN a ∧
      List.take x a = List.take x b → ifB (decide ((↑x : Int) < (LI a))) (side (Z0 ≤ (↑x : Int) ∧ (↑x : Int) < (LI a)) (side (Z0 ≤ (↑x : Int) ∧ (↑x : Int) < (LI b)) (ifB ((BI a (Int.toNat (↑x : Int))) != (BI b (Int.toNat
      (↑x : Int)))) (True ∧ ∃ (y : Unit), True ∧ false = (a == b) ∧ True ∧ True) ((SM (D.sl N1 (LN a) (fun (i : Nat) => [ZB (BI a i)]) m) ∧ SM (D.sl N1 (LN b) (fun (i : Nat) => [ZB (BI b i)]) m') ∧ SM (ZI (LI a)) ∧ True)
      ∧ ∃ (y : Nat), (y ≤ LN a ∧ List.take y a = List.take y b) ∧ LN a - y < LN a - x ∧ (IntKind.wrap IntKind.i64 ((↑x : Int) + Z1) = (↑y : Int) ∧ True) ∧ True ∧ True)))) (True ∧ ∃ (y : Unit), True ∧ true = (a == b) ∧
      True ∧ True))) (by kernel_rfl) ?_
  delta BI LI LN N1 SM U0 Z0 Z1 ZB ZI
  simp only [eq_self, ne_eq, implies_true, weakL_refl, Int.toNat_natCast, ifB_iff, side_iff, decide_eq_true_eq, decide_eq_false_iff_not, true_and, and_true, beq_iff_eq, Bool.not_eq_true', Bool.not_eq_false', beq_eq_false_iff_ne, exists_const, forall_const]
  simp only [maxLen] at ha hb
  refine ⟨fun h => ?_, fun h => ⟨⟨0, ⟨Nat.zero_le _, rfl⟩, rfl⟩, fun i hi => ⟨fun hlt => ⟨⟨by omega, hlt⟩, ?_, fun hn => ?_, fun hn => ⟨i + 1, ⟨by omega, ?_⟩, by omega, wrap_i64' (by omega) (by omega)⟩⟩, fun hge => ?_⟩⟩⟩
  · symm
    rw [beq_eq_false_iff_ne]
    intro e
    subst e
    simp at h
  all_goals have hl : a.length = b.length := Int.ofNat.inj (by simpa using h)
  · omega
  · symm
    rw [beq_eq_false_iff_ne]
    intro e
    subst e
    simp at hn
  · have hn : (a.getD i 0) = (b.getD i 0) := getD_nat.1 (by simpa using hn)
    rw [take_step (show i < a.length by omega), take_step (show i < b.length by omega), hi.2]
    exact congrArg (fun z => b.take i ++ [z]) hn
  · symm
    rw [beq_iff_eq]
    have e : i = a.length := by omega
    have := hi.2
    rw [e, List.take_length, hl, List.take_length] at this
    exact this
end Go.Proofs.Ytoglbmhkfkghbaa
namespace Go.Proofs.Ytoglbmhkfkghbaa
open Go Go.Ab
set_option maxRecDepth 100000

/-! ### image.Take, up to the checksum -/
theorem part_rows (b : List UInt8) (o n : Nat) (h : o + n ≤ b.length) : ∀ i, i < n → [D.int .u8 ((b.getD (o + i) 0).toNat : Int)] = [D.int .u8 ((((b.drop o).take n).getD i 0).toNat : Int)] := by
  intro i hi
  simp [List.getD_eq_getElem?_getD, List.getElem?_take_of_lt hi, List.getElem?_drop]
theorem part_len (b : List UInt8) (o n : Nat) (h : o + n ≤ b.length) : n = ((b.drop o).take n).length := by simp; omega
theorem bytesOf_part (b : List UInt8) (o n : Nat) (h : o + n ≤ b.length) : bytesOf n (fun i => [D.int .u8 ((b.getD (o + i) 0).toNat : Int)]) = (b.drop o).take n := bytesOf_eq (part_len b o n h) (part_rows b o n h)
theorem rowsB_part (b : List UInt8) (o n : Nat) (h : o + n ≤ b.length) : rowsB n (fun i => [D.int .u8 ((b.getD (o + i) 0).toNat : Int)]) = true := rowsB_eq (part_len b o n h) (part_rows b o n h)
theorem sum4 (s : Nat) : ∀ i, i < 4 → ([[D.int .u8 (IntKind.u8.wrap ((s : Int).fdiv 16777216))], [D.int .u8 (IntKind.u8.wrap ((s : Int).fdiv 65536))], [D.int .u8 (IntKind.u8.wrap ((s : Int).fdiv 256))], [D.int .u8 (IntKind.u8.wrap (s : Int))]] : List (List D)).getD i [] = [D.int .u8 (((sumB s).getD i 0).toNat : Int)] := by
  intro i hi
  match i, hi with
  | 0, _ => simp only [List.getD_cons_zero, sumB]; exact congrArg (fun z => [D.int .u8 z]) (wrapD _ 16777216)
  | 1, _ => simp only [List.getD_cons_zero, List.getD_cons_succ, sumB]; exact congrArg (fun z => [D.int .u8 z]) (wrapD _ 65536)
  | 2, _ => simp only [List.getD_cons_zero, List.getD_cons_succ, sumB]; exact congrArg (fun z => [D.int .u8 z]) (wrapD _ 256)
  | 3, _ =>
    simp only [List.getD_cons_zero, List.getD_cons_succ, sumB]
    rw [IntKind.wrap_u8, UInt8.toNat_ofNat']
    congr 2
    try omega
theorem bytesOf_sum4 (s : Nat) : bytesOf 4 (fun i => ([[D.int .u8 (IntKind.u8.wrap ((s : Int).fdiv 16777216))], [D.int .u8 (IntKind.u8.wrap ((s : Int).fdiv 65536))], [D.int .u8 (IntKind.u8.wrap ((s : Int).fdiv 256))], [D.int .u8 (IntKind.u8.wrap (s : Int))]] : List (List D)).getD i []) = sumB s := bytesOf_eq rfl (sum4 s)
theorem rowsB_sum4 (s : Nat) : rowsB 4 (fun i => ([[D.int .u8 (IntKind.u8.wrap ((s : Int).fdiv 16777216))], [D.int .u8 (IntKind.u8.wrap ((s : Int).fdiv 65536))], [D.int .u8 (IntKind.u8.wrap ((s : Int).fdiv 256))], [D.int .u8 (IntKind.u8.wrap (s : Int))]] : List (List D)).getD i []) = true := rowsB_eq rfl (sum4 s)
def ekB (b : List UInt8) : Int :=
  if 1048576 < b.length then 2 else if b.length < 8 then 7 else if b.take 4 ≠ [65, 76, 67, 49] then 25
  else if sumB (sumN (b.take (b.length - 4))) ≠ b.drop (b.length - 4) then 27 else 0
def nilC : D := .agg [nils, nils, nils, nils]
def conEa : Con := fun k ds S => match k with
  | 24 => match ds with
    | [.sl 1 n f m, .sl 1 n' f' m'] => some (pC [bsl (bytesOf n f) m, bsl (bytesOf n' f') m'] (.bool (bytesOf n f == bytesOf n' f')) (rowsB n f = true ∧ rowsB n' f' = true ∧ n ≤ maxLen ∧ n' ≤ maxLen))
    | _ => none
  | k => conS k ds S
theorem conEa_ok : ConOk Try.prog conEa := by
  intro k ds S A h
  unfold conEa at h
  split at h
  · split at h
    · injection h with h; subst h
      refine pC_ok fun e => ⟨⟨bsl_weak e.1, bsl_weak e.2.1, trivial⟩, equal_ok _ _ _ _ ?_ ?_⟩
      · simpa [bytesOf] using e.2.2.1
      · simpa [bytesOf] using e.2.2.2
    · cases h
  · exact conS_ok _ _ _ _ h
def conTk : Con := fun k ds S => match k with
  | 25 => some (pC ds (.tup [nilC, .int .i64 25]) False)
  | k => conEa k ds S
theorem conTk_ok : ConOk Try.prog conTk := by
  intro k ds S A h
  unfold conTk at h
  split at h
  · injection h with h; subst h
    exact pC_ok fun e => e.elim
  · exact conEa_ok _ _ _ _ h
noncomputable def Etk : Senv := EC conTk 86 1 [2, 3, 4, 5, 6, 7, 8, 9, 10, 15, 20, 51, 63, 68, 71, 72, 73, 74] (fun id => match id with | 19 => ([0, 1, 2, 3, 4, 5, 6], [4, 6]) | _ => ([], []))
theorem tk_early (b : List UInt8) (hb : ekB b ≠ 0) : ACalls Try.prog 15 [bsl b .any] ⟨[], []⟩ (SpecR (sC [bsl b .any] (.tup [nilC, .int .i64 (ekB b)])) ()) := by
  refine con_of (A := sC _ _) (x := ()) (E := Etk) (eOk conTk_ok rfl) Try.func15 rfl (by kernel_rfl) rfl (by simp [sC, Etk, EC, E0]) ?_
  refine vc_eq (T :=
      ∀ (x : Nat), True → ifB (decide ((1048576 : Int) < (LI b))) (SM x ∧ (SM x ∧ True) ∧ ∃ (y : Unit), True ∧ (((SM N0 ∧ (∀ (i : Nat), i < N0 → eqOf (List D) [] []) ∧ True) ∧ (SM N0 ∧ (∀ (i : Nat), i < N0 → eqOf (List
      D) [] []) ∧ True) ∧ (SM N0 ∧ (∀ (i : Nat), i < N0 → eqOf (List D) [] []) ∧ True) ∧ (SM N0 ∧ (∀ (i : Nat), i < N0 → eqOf (List D) [] []) ∧ True) ∧ True) ∧ (2 : Int) = ekB b ∧ True) ∧ True ∧ True) (ifB (decide ((LI
      b) < (8 : Int))) (SM x ∧ (SM x ∧ True) ∧ ∃ (y : Unit), True ∧ (((SM N0 ∧ (∀ (i : Nat), i < N0 → eqOf (List D) [] []) ∧ True) ∧ (SM N0 ∧ (∀ (i : Nat), i < N0 → eqOf (List D) [] []) ∧ True) ∧ (SM N0 ∧ (∀ (i : Nat), i
      < N0 → eqOf (List D) [] []) ∧ True) ∧ (SM N0 ∧ (∀ (i : Nat), i < N0 → eqOf (List D) [] []) ∧ True) ∧ True) ∧ (7 : Int) = ekB b ∧ True) ∧ True ∧ True) (side (Z0 ≤ Z0 ∧ Z0 ≤ (4 : Int) ∧ (4 : Int) ≤ (LI b)) (True ∧
      chk (true && rowsB N4 fun (i : Nat) => [ZB (BI b (N0 + i))]) (ifB ((bytesOf N4 fun (i : Nat) => [ZB (BI b (N0 + i))]) != [(65 : UInt8), (76 : UInt8), (67 : UInt8), (49 : UInt8)]) (SM x ∧ (SM x ∧ True) ∧ ∃ (y :
      Unit), True ∧ (((SM N0 ∧ (∀ (i : Nat), i < N0 → eqOf (List D) [] []) ∧ True) ∧ (SM N0 ∧ (∀ (i : Nat), i < N0 → eqOf (List D) [] []) ∧ True) ∧ (SM N0 ∧ (∀ (i : Nat), i < N0 → eqOf (List D) [] []) ∧ True) ∧ (SM N0 ∧
      (∀ (i : Nat), i < N0 → eqOf (List D) [] []) ∧ True) ∧ True) ∧ (25 : Int) = ekB b ∧ True) ∧ True ∧ True) (side (Z0 ≤ Z0 ∧ Z0 ≤ IntKind.wrap IntKind.i64 ((LI b) - (4 : Int)) ∧ IntKind.wrap IntKind.i64 ((LI b) - (4 :
      Int)) ≤ (LI b)) (((rowsB (Int.toNat (IntKind.wrap IntKind.i64 ((LI b) - (4 : Int))) - N0) fun (i : Nat) => [ZB (BI b (N0 + i))]) = true ∧ LN (bytesOf (Int.toNat (IntKind.wrap IntKind.i64 ((LI b) - (4 : Int))) - N0)
      fun (i : Nat) => [ZB (BI b (N0 + i))]) ≤ (9223372036854775807 : Nat)) ∧ ∀ (y : Unit), True → side (Z0 ≤ IntKind.wrap IntKind.i64 ((LI b) - (4 : Int)) ∧ IntKind.wrap IntKind.i64 ((LI b) - (4 : Int)) ≤ (LI b) ∧ (LI
      b) ≤ (LI b)) (((rowsB N4 fun (i : Nat) => List.getD [[ZB (IntKind.wrap IntKind.u8 (Int.fdiv (NI (sumN (bytesOf (Int.toNat (IntKind.wrap IntKind.i64 ((LI b) - (4 : Int))) - N0) fun (i : Nat) => [ZB (BI b (N0 +
      i))]))) (16777216 : Int)))], [ZB (IntKind.wrap IntKind.u8 (Int.fdiv (NI (sumN (bytesOf (Int.toNat (IntKind.wrap IntKind.i64 ((LI b) - (4 : Int))) - N0) fun (i : Nat) => [ZB (BI b (N0 + i))]))) (65536 : Int)))], [ZB
      (IntKind.wrap IntKind.u8 (Int.fdiv (NI (sumN (bytesOf (Int.toNat (IntKind.wrap IntKind.i64 ((LI b) - (4 : Int))) - N0) fun (i : Nat) => [ZB (BI b (N0 + i))]))) (256 : Int)))], [ZB (IntKind.wrap IntKind.u8 (NI (sumN
      (bytesOf (Int.toNat (IntKind.wrap IntKind.i64 ((LI b) - (4 : Int))) - N0) fun (i : Nat) => [ZB (BI b (N0 + i))]))))]] i []) = true ∧ (rowsB (TL b - Int.toNat (IntKind.wrap IntKind.i64 ((LI b) - (4 : Int)))) fun (i
      : Nat) => [ZB (BI b (Int.toNat (IntKind.wrap IntKind.i64 ((LI b) - (4 : Int))) + i))]) = true ∧ N4 ≤ (9223372036854775807 : Nat) ∧ TL b - Int.toNat (IntKind.wrap IntKind.i64 ((LI b) - (4 : Int))) ≤
      (9223372036854775807 : Nat)) ∧ ∀ (y : Unit), True → ifB (! (bytesOf N4 fun (i : Nat) => List.getD [[ZB (IntKind.wrap IntKind.u8 (Int.fdiv (NI (sumN (bytesOf (Int.toNat (IntKind.wrap IntKind.i64 ((LI b) - (4 :
      Int))) - N0) fun (i : Nat) => [ZB (BI b (N0 + i))]))) (16777216 : Int)))], [ZB (IntKind.wrap IntKind.u8 (Int.fdiv (NI (sumN (bytesOf (Int.toNat (IntKind.wrap IntKind.i64 ((LI b) - (4 : Int))) - N0) fun (i : Nat) =>
      [ZB (BI b (N0 + i))]))) (65536 : Int)))], [ZB (IntKind.wrap IntKind.u8 (Int.fdiv (NI (sumN (bytesOf (Int.toNat (IntKind.wrap IntKind.i64 ((LI b) - (4 : Int))) - N0) fun (i : Nat) => [ZB (BI b (N0 + i))]))) (256 :
      Int)))], [ZB (IntKind.wrap IntKind.u8 (NI (sumN (bytesOf (Int.toNat (IntKind.wrap IntKind.i64 ((LI b) - (4 : Int))) - N0) fun (i : Nat) => [ZB (BI b (N0 + i))]))))]] i []) == bytesOf (TL b - Int.toNat (IntKind.wrap
      IntKind.i64 ((LI b) - (4 : Int)))) fun (i : Nat) => [ZB (BI b (Int.toNat (IntKind.wrap IntKind.i64 ((LI b) - (4 : Int))) + i))]) (SM x ∧ (SM x ∧ True) ∧ ∃ (y : Unit), True ∧ (((SM N0 ∧ (∀ (i : Nat), i < N0 → eqOf
      (List D) [] []) ∧ True) ∧ (SM N0 ∧ (∀ (i : Nat), i < N0 → eqOf (List D) [] []) ∧ True) ∧ (SM N0 ∧ (∀ (i : Nat), i < N0 → eqOf (List D) [] []) ∧ True) ∧ (SM N0 ∧ (∀ (i : Nat), i < N0 → eqOf (List D) [] []) ∧ True) ∧
      True) ∧ (27 : Int) = ekB b ∧ True) ∧ True ∧ True) (side (Z0 ≤ (4 : Int) ∧ (4 : Int) ≤ IntKind.wrap IntKind.i64 ((LI b) - (4 : Int)) ∧ IntKind.wrap IntKind.i64 ((LI b) - (4 : Int)) ≤ (LI b)) (False ∧ ∀ (y : Unit),
      True → ∀ (x_1 : Nat), x ≠ x_1 ∧ True → SM x_1 ∧ SM x ∧ (SM x ∧ True) ∧ ∃ (y : Unit), True ∧ (((SM N0 ∧ (∀ (i : Nat), i < N0 → eqOf (List D) [] []) ∧ True) ∧ (SM N0 ∧ (∀ (i : Nat), i < N0 → eqOf (List D) [] []) ∧
      True) ∧ (SM N0 ∧ (∀ (i : Nat), i < N0 → eqOf (List D) [] []) ∧ True) ∧ (SM N0 ∧ (∀ (i : Nat), i < N0 → eqOf (List D) [] []) ∧ True) ∧ True) ∧ (25 : Int) = ekB b ∧ True) ∧ True ∧ True)))))))))) (by kernel_rfl) ?_
  delta BI LI LN N0 N4 NI SM TL U0 Z0 ZB
  simp only [eq_self, ne_eq, implies_true, weakL_refl, Int.toNat_natCast, ifB_iff, side_iff, decide_eq_true_eq, decide_eq_false_iff_not, true_and, and_true, beq_iff_eq, Bool.not_eq_true', Bool.not_eq_false', beq_eq_false_iff_ne, exists_const, forall_const]
  intro x
  refine ⟨fun h1 => ?_, fun h1 => ⟨fun h2 => ?_, fun h2 => ?_⟩⟩
  · unfold ekB; rw [if_pos (by omega)]
  · unfold ekB; rw [if_neg (by omega), if_pos (by omega)]
  have hw : (IntKind.i64.wrap ((b.length : Int) - 4)).toNat = b.length - 4 := by rw [wrap_i64' (by omega) (by omega)]; omega
  have e1 := bytesOf_part b 0 4 (by omega)
  have e2 := rowsB_part b 0 4 (by omega)
  have e3 := bytesOf_part b 0 (b.length - 4) (by omega)
  have e4 := rowsB_part b 0 (b.length - 4) (by omega)
  have e5 := bytesOf_part b (b.length - 4) (b.length - (b.length - 4)) (by omega)
  have e6 := rowsB_part b (b.length - 4) (b.length - (b.length - 4)) (by omega)
  rw [List.take_of_length_le (by rw [List.length_drop]; exact Nat.le_refl _)] at e5
  simp only [List.drop_zero] at e1 e3
  simp only [hw, Nat.sub_zero, e1, e2, e3, e4, e5, e6, bytesOf_sum4, rowsB_sum4]
  have hw2 : IntKind.i64.wrap ((b.length : Int) - 4) = (b.length : Int) - 4 := wrap_i64' (by omega) (by omega)
  simp only [hw2]
  refine ⟨by omega, fun hm => ?_, fun hm => ⟨by omega, ⟨trivial, by rw [List.length_take]; omega⟩, by omega, ⟨trivial, trivial, by omega, by omega⟩, fun hs => ?_, fun hs => ?_⟩⟩
  · have hm' : ¬ b.take 4 = [65, 76, 67, 49] := by simpa using hm
    unfold ekB; rw [if_neg (by omega), if_neg (by omega), if_pos hm']
  · have hm' : b.take 4 = [65, 76, 67, 49] := by simpa using hm
    unfold ekB; rw [if_neg (by omega), if_neg (by omega), if_neg (by simpa using hm'), if_pos hs]
  · have hm' : b.take 4 = [65, 76, 67, 49] := by simpa using hm
    exfalso
    apply hb
    unfold ekB; rw [if_neg (by omega), if_neg (by omega), if_neg (by simpa using hm'), if_neg (by simpa using hs)]
end Go.Proofs.Ytoglbmhkfkghbaa
namespace Go.Proofs.Ytoglbmhkfkghbaa
open Go Go.Ab

/-! ### a changed byte changes the checksum -/
theorem bit1_inj {a b : Nat} (ha : a < 4294967296) (hb : b < 4294967296) (h : bit1 a = bit1 b) : a = b := by
  have key : ∀ c : Nat, c < 4294967296 → Nat.testBit (bit1 c) 31 = decide (c % 2 = 1) := by
    intro c hc
    have h0 : Nat.testBit (c / 2) 31 = false := Nat.testBit_lt_two_pow (by omega)
    unfold bit1
    rcases Nat.mod_two_eq_zero_or_one c with e | e <;> rw [e]
    · show Nat.testBit (c / 2) 31 = _
      rw [h0]; simp
    · show Nat.testBit (c / 2 ^^^ 3988292384) 31 = _
      rw [Nat.testBit_xor, h0, show Nat.testBit 3988292384 31 = true from by decide]
      simp
  have k1 := key a ha
  have k2 := key b hb
  rw [h, k2] at k1
  have hm : a % 2 = b % 2 := by
    by_cases e : a % 2 = 1
    · simp [e] at k1; omega
    · by_cases e2 : b % 2 = 1
      · simp [e2] at k1; omega
      · omega
  have hd : a / 2 = b / 2 := by
    unfold bit1 at h
    rw [hm] at h
    split at h
    · exact h
    · have := congrArg (· ^^^ 3988292384) h
      simpa [Nat.xor_assoc] using this
  omega
theorem bits_inj {a b : Nat} (ha : a < 4294967296) (hb : b < 4294967296) : ∀ k, bits k a = bits k b → a = b
  | 0, h => h
  | k + 1, h => bits_inj ha hb k (bit1_inj (bits_lt ha k) (bits_lt hb k) h)
theorem crc_inj : ∀ (l : List UInt8) {a b : Nat}, a < 4294967296 → b < 4294967296 → crc l a = crc l b → a = b
  | [], _, _, _, _, h => h
  | x :: l, a, b, ha, hb, h => by
    have h1 := crc_inj l (bits_lt (byte_xor ha x) 8) (bits_lt (byte_xor hb x) 8) h
    have h2 := bits_inj (byte_xor ha x) (byte_xor hb x) 8 h1
    have := congrArg (· ^^^ x.toNat) h2
    simpa [Nat.xor_assoc] using this
theorem sum_change (p r : List UInt8) (x y : UInt8) (h : sumN (p ++ x :: r) = sumN (p ++ y :: r)) : x = y := by
  unfold sumN at h
  have h1 := congrArg (· ^^^ 4294967295) h
  simp only [Nat.xor_assoc, Nat.xor_self, Nat.xor_zero] at h1
  rw [crc_app, crc_app] at h1
  have hp := crc_lt p (c := 4294967295) (by omega)
  have h2 := crc_inj r (bits_lt (byte_xor hp x) 8) (bits_lt (byte_xor hp y) 8) h1
  have h3 := bits_inj (byte_xor hp x) (byte_xor hp y) 8 h2
  have h4 := congrArg (crc p 4294967295 ^^^ ·) h3
  simp only [← Nat.xor_assoc, Nat.xor_self, Nat.zero_xor] at h4
  exact UInt8.toNat_inj.1 h4
theorem sum_lt (l : List UInt8) : sumN l < 4294967296 := by
  unfold sumN
  exact Nat.xor_lt_two_pow (n := 32) (crc_lt l (by omega)) (by omega)
end Go.Proofs.Ytoglbmhkfkghbaa
namespace Go.Proofs.Ytoglbmhkfkghbaa
open Go Go.Ab
set_option maxRecDepth 100000

/-! ### ImageChanged -/
theorem bsl_weakA {n : Nat} {g : Nat → List D} {m : Ab.Mode} (h : rowsB n g = true) : weakD (.sl 1 n g m) (bsl (bytesOf n g) .any) := by
  have := bsl_weak (m := m) h
  simp only [bsl, weakD, chk_iff] at this ⊢
  exact ⟨this.1, this.2.1, this.2.2.1, by cases m <;> simp [weakM]⟩
theorem sumB_inj {s t : Nat} (hs : s < 4294967296) (ht : t < 4294967296) (h : sumB s = sumB t) : s = t := by
  simp only [sumB, List.cons.injEq, and_true] at h
  obtain ⟨h1, h2, h3, h4⟩ := h
  have k1 := congrArg UInt8.toNat h1
  have k2 := congrArg UInt8.toNat h2
  have k3 := congrArg UInt8.toNat h3
  have k4 := congrArg UInt8.toNat h4
  simp only [UInt8.toNat_ofNat'] at k1 k2 k3 k4
  omega
theorem xor_ne {a x : UInt8} (hx : x ≠ 0) : a ^^^ x ≠ a := by
  intro h
  have := congrArg (a ^^^ ·) h
  simp only [← UInt8.xor_assoc, UInt8.xor_self, UInt8.zero_xor] at this
  exact hx this
theorem ek_change (B : List UInt8) (x : UInt8) (hx : x ≠ 0) {k : Nat} (hl : (sealB B).length ≤ 1048576) (hk : k < (sealB B).length) :
    ekB ((sealB B).set k ((sealB B).getD k 0 ^^^ x)) = 25 ∨ ekB ((sealB B).set k ((sealB B).getD k 0 ^^^ x)) = 27 := by
  have h8 : 8 ≤ (sealB B).length := by simp [sealB, sumB]
  have hA : (sealB B).length - 4 = ([65, 76, 67, 49] ++ B : List UInt8).length := by simp [sealB, sumB]
  have hS : sealB B = ([65, 76, 67, 49] ++ B) ++ sumB (sumN ([65, 76, 67, 49] ++ B)) := rfl
  unfold ekB
  rw [List.length_set, if_neg (by omega), if_neg (by omega)]
  split
  · exact .inl rfl
  right
  rw [if_pos]
  intro hsum
  rw [hA] at hsum
  by_cases hc : k < ([65, 76, 67, 49] ++ B : List UInt8).length
  · have hg : (sealB B).getD k 0 = ([65, 76, 67, 49] ++ B : List UInt8).getD k 0 := by
      rw [hS, List.getD_eq_getElem?_getD, List.getD_eq_getElem?_getD, List.getElem?_append_left hc]
    rw [hg, hS, List.set_append_left _ _ hc, List.take_left' (by simp), List.drop_left' (by simp)] at hsum
    have h1 := sumB_inj (sum_lt _) (sum_lt _) hsum
    have h2 : ([65, 76, 67, 49] ++ B : List UInt8) = ([65, 76, 67, 49] ++ B : List UInt8).take k ++ ([65, 76, 67, 49] ++ B : List UInt8).getD k 0 :: ([65, 76, 67, 49] ++ B : List UInt8).drop (k + 1) := by
      conv => lhs; rw [← List.take_append_drop k ([65, 76, 67, 49] ++ B : List UInt8)]
      congr 1
      rw [List.drop_eq_getElem_cons hc]
      congr 1
      rw [List.getD_eq_getElem?_getD, List.getElem?_eq_getElem hc]; rfl
    rw [List.set_eq_take_append_cons_drop, if_pos hc] at h1
    have h3 : sumN (([65, 76, 67, 49] ++ B : List UInt8).take k ++ (([65, 76, 67, 49] ++ B : List UInt8).getD k 0 ^^^ x) :: ([65, 76, 67, 49] ++ B : List UInt8).drop (k + 1)) = sumN (([65, 76, 67, 49] ++ B : List UInt8).take k ++ ([65, 76, 67, 49] ++ B : List UInt8).getD k 0 :: ([65, 76, 67, 49] ++ B : List UInt8).drop (k + 1)) := by
      rw [h1]; exact congrArg sumN h2
    exact xor_ne hx (sum_change _ _ _ _ h3)
  · have hc' : ([65, 76, 67, 49] ++ B : List UInt8).length ≤ k := Nat.le_of_not_lt hc
    have hk4 : k - ([65, 76, 67, 49] ++ B : List UInt8).length < (sumB (sumN ([65, 76, 67, 49] ++ B))).length := by
      have : (sumB (sumN ([65, 76, 67, 49] ++ B))).length = 4 := rfl
      omega
    have hg : (sealB B).getD k 0 = (sumB (sumN ([65, 76, 67, 49] ++ B))).getD (k - ([65, 76, 67, 49] ++ B : List UInt8).length) 0 := by
      rw [hS, List.getD_eq_getElem?_getD, List.getD_eq_getElem?_getD, List.getElem?_append_right hc']
    rw [hg, hS, List.set_append_right _ _ hc', List.take_left' rfl, List.drop_left' rfl] at hsum
    have h1 := congrArg (fun l => l.getD (k - ([65, 76, 67, 49] ++ B : List UInt8).length) 0) hsum
    simp only [List.getD_eq_getElem?_getD, List.getElem?_set_self hk4, Option.getD_some] at h1
    exact xor_ne hx h1.symm
def conCh (c : CodD) : Con := fun k ds S => match k with
  | 12 => some (pC ds (.bool (fewC c)) (weakL ds [.agg c.row]))
  | 13 => some (pC ds (.tup [bsl (putL c) .any, .int .i64 (putE c)]) (weakL ds [.agg c.row] ∧ fewC c = true))
  | 15 => match ds with
    | [.sl 1 n f _] => some (pC [bsl (bytesOf n f) .any] (.tup [nilC, .int .i64 (ekB (bytesOf n f))]) (rowsB n f = true ∧ ekB (bytesOf n f) ≠ 0))
    | _ => none
  | k => conAw k ds S
theorem conCh_ok {c : CodD} (hc : c.ok) : ConOk Try.prog (conCh c) := by
  intro k ds S A h
  unfold conCh at h
  split at h
  · injection h with h; subst h
    exact pC_ok fun e => ⟨weakL_refl _, sC_weak e (fc_ok c hc)⟩
  · injection h with h; subst h
    exact pC_ok fun e => ⟨weakL_refl _, sC_weak e.1 (pu_ok c hc (few_hs e.2) (few_sz e.2))⟩
  · split at h
    · injection h with h; subst h
      exact pC_ok fun e => ⟨⟨bsl_weakA e.1, trivial⟩, tk_early _ e.2⟩
    · cases h
  · exact conAw_ok _ _ _ _ h
noncomputable def Ech (c : CodD) : Senv := { EC (conCh c) 67 4 [6, 7, 8, 9, 10, 12, 15, 32] (fun _ => ([], [])) with
  own := fun t => Nat.beq t 22
  gz := fun r => match r with
    | 9 => [.slot 10]
    | _ => [] }
theorem law_changed (c : CodD) (hc : c.ok) (at_ : Int) (hat : inI64 at_) (x : UInt8) : ACalls Try.prog 8 [.agg c.row, .int .i64 at_, .int .u8 (x.toNat : Int)] ⟨[], []⟩ (SpecR (sC [.agg c.row, .int .i64 at_, .int .u8 (x.toNat : Int)] (.bool true)) ()) := by
  refine con_of (A := sC _ _) (x := ()) (E := Ech c) (eOk (conCh_ok hc) rfl) Try.func8 rfl (by kernel_rfl) rfl (by simp [sC, Ech, EC, E0]) ?_
  refine vc_eq (T :=
      ∀ (x_1 : Nat), True → SM x_1 ∧ (((SM (LN (CodD.consts c)) ∧ (∀ (i : Nat), i < LN (CodD.consts c) → SM (Arr.row (GC c i))) ∧ True) ∧ (SM (LN (CodD.funs c)) ∧ (∀ (i : Nat), i < LN (CodD.funs c) → SM [ZI (FnD.slots
      (GF c i)), S4 (FnD.code (GF c i))]) ∧ True) ∧ (SM (LN (CodD.kers c)) ∧ (∀ (i : Nat), i < LN (CodD.kers c) → SM [ZI (KeD.inputs (GK c i)), S4 (KeD.ops (GK c i)), ZI (KeD.reduce (GK c i)), ZI (KeD.at_ (GK c i))]) ∧
      True) ∧ (SM (LN (CodD.lanes c)) ∧ (∀ (i : Nat), i < LN (CodD.lanes c) → SM [ZI (LaD.regs (GL c i)), S6 (LaD.code (GL c i))]) ∧ True) ∧ True) ∧ True) ∧ ∀ (y : Unit), True → ifB (!fewC c) (∃ (x : Unit), True ∧ (True
      ∧ True) ∧ True ∧ ∀ (y : Unit), True → True ∧ ∃ (y : Unit), True ∧ SM true ∧ True ∧ True) (SM x_1 ∧ ((((SM (LN (CodD.consts c)) ∧ (∀ (i : Nat), i < LN (CodD.consts c) → SM (Arr.row (GC c i))) ∧ True) ∧ (SM (LN
      (CodD.funs c)) ∧ (∀ (i : Nat), i < LN (CodD.funs c) → SM [ZI (FnD.slots (GF c i)), S4 (FnD.code (GF c i))]) ∧ True) ∧ (SM (LN (CodD.kers c)) ∧ (∀ (i : Nat), i < LN (CodD.kers c) → SM [ZI (KeD.inputs (GK c i)), S4
      (KeD.ops (GK c i)), ZI (KeD.reduce (GK c i)), ZI (KeD.at_ (GK c i))]) ∧ True) ∧ (SM (LN (CodD.lanes c)) ∧ (∀ (i : Nat), i < LN (CodD.lanes c) → SM [ZI (LaD.regs (GL c i)), S6 (LaD.code (GL c i))]) ∧ True) ∧ True) ∧
      True) ∧ fewC c = true) ∧ ∀ (y : Unit), True → ifB (putE c != Z0) ((true = bif bif putE c != Z0 then true else (LI (putL c)) == Z0 then true else (NI (UInt8.toNat x)) == Z0) ∧ True) (ifB ((LI (putL c)) == Z0) ((true
      = bif bif putE c != Z0 then true else (LI (putL c)) == Z0 then true else (NI (UInt8.toNat x)) == Z0) ∧ True) ((((NI (UInt8.toNat x)) == Z0) = bif bif putE c != Z0 then true else (LI (putL c)) == Z0 then true else
      (NI (UInt8.toNat x)) == Z0) ∧ True)) ∧ ifB (bif bif putE c != Z0 then true else (LI (putL c)) == Z0 then true else (NI (UInt8.toNat x)) == Z0) (∃ (x : Unit), True ∧ (True ∧ True) ∧ True ∧ ∀ (y : Unit), True → True
      ∧ ∃ (y : Unit), True ∧ SM true ∧ True ∧ True) (side (IntKind.wrap IntKind.u64 (LI (putL c)) ≠ Z0) (side (N0 < LN (putL c) ∧ LN (putL c) * N1 ≤ (140737488355328 : Nat) ∧ LN (putL c) ≤ (9223372036854775807 : Nat)) (∀
      (y cap' : Nat), x_1 ≠ y ∧ True → LN (putL c) ≤ cap' → side (Z0 ≤ IntKind.wrap IntKind.i64 (Int.tmod (IntKind.wrap IntKind.u64 at_) (IntKind.wrap IntKind.u64 (LI (putL c)))) ∧ IntKind.wrap IntKind.i64 (Int.tmod
      (IntKind.wrap IntKind.u64 at_) (IntKind.wrap IntKind.u64 (LI (putL c)))) < (LI (putL c))) (SM y ∧ side (Int.toNat (IntKind.wrap IntKind.i64 (Int.tmod (IntKind.wrap IntKind.u64 at_) (IntKind.wrap IntKind.u64 (LI
      (putL c))))) < LN (putL c)) (side (Z0 ≤ IntKind.wrap IntKind.i64 (Int.tmod (IntKind.wrap IntKind.u64 at_) (IntKind.wrap IntKind.u64 (LI (putL c)))) ∧ IntKind.wrap IntKind.i64 (Int.tmod (IntKind.wrap IntKind.u64
      at_) (IntKind.wrap IntKind.u64 (LI (putL c)))) < (LI (putL c))) (SM y ∧ side (Int.toNat (IntKind.wrap IntKind.i64 (Int.tmod (IntKind.wrap IntKind.u64 at_) (IntKind.wrap IntKind.u64 (LI (putL c))))) < LN (putL c))
      (SM y ∧ SM cap' ∧ side (LN (putL c) ≤ LN (putL c)) ((∀ (i : Nat), i < LN (putL c) → (List.all (updF (fun (i : Nat) => [ZB (BI (putL c) i)]) (Int.toNat (IntKind.wrap IntKind.i64 (Int.tmod (IntKind.wrap IntKind.u64
      at_) (IntKind.wrap IntKind.u64 (LI (putL c)))))) [ZB (xorI IntKind.u8 (BI (putL c) (Int.toNat (IntKind.wrap IntKind.i64 (Int.tmod (IntKind.wrap IntKind.u64 at_) (IntKind.wrap IntKind.u64 (LI (putL c))))))) (NI
      (UInt8.toNat x)))] i) fun (x : D) => match x with | D.unk => false | D.agg cs => false | D.tup ds => false | x => true) = true) ∧ ∀ (t : Nat), (rowsB (LN (putL c)) (updF (fun (i : Nat) => [ZB (BI (putL c) i)])
      (Int.toNat (IntKind.wrap IntKind.i64 (Int.tmod (IntKind.wrap IntKind.u64 at_) (IntKind.wrap IntKind.u64 (LI (putL c)))))) [ZB (xorI IntKind.u8 (BI (putL c) (Int.toNat (IntKind.wrap IntKind.i64 (Int.tmod
      (IntKind.wrap IntKind.u64 at_) (IntKind.wrap IntKind.u64 (LI (putL c))))))) (NI (UInt8.toNat x)))]) = true ∧ ekB (bytesOf (LN (putL c)) (updF (fun (i : Nat) => [ZB (BI (putL c) i)]) (Int.toNat (IntKind.wrap
      IntKind.i64 (Int.tmod (IntKind.wrap IntKind.u64 at_) (IntKind.wrap IntKind.u64 (LI (putL c)))))) [ZB (xorI IntKind.u8 (BI (putL c) (Int.toNat (IntKind.wrap IntKind.i64 (Int.tmod (IntKind.wrap IntKind.u64 at_)
      (IntKind.wrap IntKind.u64 (LI (putL c))))))) (NI (UInt8.toNat x)))])) ≠ Z0) ∧ ∀ (y : Unit), True → ∀ (x_2 : Nat), x_1 ≠ x_2 ∧ True → SM x_2 ∧ ifB (ekB (bytesOf (LN (putL c)) (updF (fun (i : Nat) => [ZB (BI (putL c)
      i)]) (Int.toNat (IntKind.wrap IntKind.i64 (Int.tmod (IntKind.wrap IntKind.u64 at_) (IntKind.wrap IntKind.u64 (LI (putL c)))))) [ZB (xorI IntKind.u8 (BI (putL c) (Int.toNat (IntKind.wrap IntKind.i64 (Int.tmod
      (IntKind.wrap IntKind.u64 at_) (IntKind.wrap IntKind.u64 (LI (putL c))))))) (NI (UInt8.toNat x)))])) == (25 : Int)) (∃ (x : Unit), True ∧ (True ∧ True) ∧ True ∧ ∀ (y : Unit), True → True ∧ ∃ (y : Unit), True ∧ SM
      true ∧ True ∧ True) (ifB (ekB (bytesOf (LN (putL c)) (updF (fun (i : Nat) => [ZB (BI (putL c) i)]) (Int.toNat (IntKind.wrap IntKind.i64 (Int.tmod (IntKind.wrap IntKind.u64 at_) (IntKind.wrap IntKind.u64 (LI (putL
      c)))))) [ZB (xorI IntKind.u8 (BI (putL c) (Int.toNat (IntKind.wrap IntKind.i64 (Int.tmod (IntKind.wrap IntKind.u64 at_) (IntKind.wrap IntKind.u64 (LI (putL c))))))) (NI (UInt8.toNat x)))])) == (27 : Int)) (∃ (x :
      Unit), True ∧ (True ∧ True) ∧ True ∧ ∀ (y : Unit), True → True ∧ ∃ (y : Unit), True ∧ SM true ∧ True ∧ True) (True ∧ ∃ (y : Unit), True ∧ false = true ∧ True ∧ True)))))))))))) (by kernel_rfl) ?_
  delta BI D4 D6 DA DF DK DL G4 G6 GC GF GK GL LI LN N0 N1 N4 N6 NI R4 R6 S4 S6 SM U0 Z0 ZB ZI
  simp only [eq_self, ne_eq, implies_true, weakL_refl, Int.toNat_natCast, ifB_iff, side_iff, decide_eq_true_eq, decide_eq_false_iff_not, true_and, and_true, beq_iff_eq, Bool.cond_false_right, Bool.cond_true_left, Bool.and_eq_true, Bool.and_eq_false_iff, Bool.or_eq_true, Bool.or_eq_false_iff, beq_eq_false_iff_ne, exists_const, forall_const, Prod.forall, forall_eq, bytesOf_bsl, rowsB_bsl]
  refine fun x1 hf => ⟨by simpa using hf, ⟨fun h => by simp [h], fun h => ⟨fun h2 => by simp [h2], fun h2 => ?_⟩⟩, ?_⟩
  · have h3 : (((putL c).length : Int) == 0) = false := by simpa using h2
    rw [h, h3]; simp
  rintro ⟨⟨he, hl⟩, hx⟩
  have he0 : putE c = 0 := by simpa using he
  have hl0 : (putL c).length ≠ 0 := by omega
  have hput : putL c = sealB (codeB c) := by unfold putL; rw [if_neg (by rw [he0]; simp)]
  have hlen : (putL c).length ≤ 1048576 := by
    rw [hput]
    unfold putE at he0
    by_cases e1 : rightC c ≠ 0
    · rw [if_pos e1] at he0; exact (e1 he0).elim
    · rw [if_neg e1] at he0
      by_cases e2 : 1048576 < (sealB (codeB c)).length
      · rw [if_pos e2] at he0; omega
      · omega
  have hwl : IntKind.u64.wrap ((putL c).length : Int) = ((putL c).length : Int) := by rw [IntKind.wrap_u64]; omega
  have hx0 : x ≠ 0 := fun e => hx (by rw [e]; rfl)
  obtain ⟨k, hk, hkl⟩ : ∃ k : Nat, IntKind.i64.wrap ((IntKind.u64.wrap at_).tmod ((putL c).length : Int)) = (k : Int) ∧ k < (putL c).length := by
    have h0 : 0 ≤ IntKind.u64.wrap at_ := by rw [IntKind.wrap_u64]; omega
    have h1 := Int.emod_nonneg (IntKind.u64.wrap at_) (b := ((putL c).length : Int)) (by omega)
    have h2 := Int.emod_lt_of_pos (IntKind.u64.wrap at_) (b := ((putL c).length : Int)) (by omega)
    refine ⟨((IntKind.u64.wrap at_) % ((putL c).length : Int)).toNat, ?_, by omega⟩
    rw [Int.tmod_eq_emod_of_nonneg h0, wrap_i64' (by omega) (by omega)]
    omega
  simp only [hwl, hk, Int.toNat_natCast]
  have hrow : ∀ i, i < (putL c).length → updF (fun i => [D.int .u8 (((putL c).getD i 0).toNat : Int)]) k [D.int .u8 (xorI .u8 (((putL c).getD k 0).toNat : Int) (x.toNat : Int))] i = [D.int .u8 ((((putL c).set k ((putL c).getD k 0 ^^^ x)).getD i 0).toNat : Int)] := by
    intro i hi
    simp only [updF]
    have hlen' : i < ((putL c).set k ((putL c).getD k 0 ^^^ x)).length := by simpa using hi
    by_cases e : i = k
    · subst e
      have hx8 : xorI .u8 (((putL c).getD i 0).toNat : Int) (x.toNat : Int) = ((((putL c).getD i 0) ^^^ x).toNat : Int) := by
        have a1 := ((putL c).getD i 0).toNat_lt
        have a2 := x.toNat_lt
        rw [xorI_nat (k := .u8) rfl (by simpa [IntKind.bits] using a1) (by simpa [IntKind.bits] using a2), UInt8.toNat_xor]
      rw [hx8]
      simp [List.getD_eq_getElem?_getD, hi]
    · have e' : ¬ k = i := fun h => e h.symm
      simp [e, e', List.getD_eq_getElem?_getD, List.getElem?_set]
  have hsl : (putL c).length = ((putL c).set k ((putL c).getD k 0 ^^^ x)).length := by simp
  have e1 := bytesOf_eq hsl hrow
  have e2 := rowsB_eq hsl hrow
  simp only [e1, e2]
  have hch : ekB ((putL c).set k ((putL c).getD k 0 ^^^ x)) = 25 ∨ ekB ((putL c).set k ((putL c).getD k 0 ^^^ x)) = 27 := by
    rw [hput] at hkl hlen ⊢
    exact ek_change (codeB c) x hx0 hlen hkl
  refine ⟨by omega, ⟨by omega, by omega, by omega⟩, fun y cap' _ _ => ⟨by omega, hkl, by omega, hkl, Nat.le_refl _, fun i hi => ?_, ⟨trivial, by omega⟩, fun _ _ h25 h27 => ?_⟩⟩
  · rw [hrow i hi]; rfl
  · exfalso
    rcases hch with h | h
    · exact h25 h
    · exact h27 h
end Go.Proofs.Ytoglbmhkfkghbaa
