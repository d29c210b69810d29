/- Functions of the given program and what each of them computes: lemmas towards the statement, their conditions stated with each of them. -/
import Derived.Test.YtoglbmhkfkghbaaT5
namespace Go.Proofs.Ytoglbmhkfkghbaa
open Go Go.Ab
set_option maxRecDepth 100000
def conTa : Con := fun k ds S => match k with
  | 15 => match ds with
    | [.sl 1 n f _] => some (pC [bsl (bytesOf n f) .any] (.tup [.agg (takeC (bytesOf n f)).row, .int .i64 (takeE (bytesOf n f))]) (rowsB n f = true ∧ n ≤ 65536))
    | _ => none
  | 16 => match ds with
    | [.sl 1 n f _] => some (pC [bsl (bytesOf n f) .any] (.tup [.agg (takeC (bytesOf n f)).row, .int .i64 (takeE (bytesOf n f))]) (rowsB n f = true ∧ n ≤ 65536))
    | _ => none
  | k => conAw k ds S
theorem conTa_ok : ConOk Try.prog conTa := by
  intro k ds S A h
  unfold conTa at h
  split at h
  · split at h
    · rename_i n f m
      injection h with h; subst h
      refine pC_ok fun e => ⟨⟨bsl_weakA e.1, trivial⟩, ?_⟩
      have hl : (bytesOf n f).length ≤ 65536 := by simpa [bytesOf] using e.2
      exact take_j _ (by omega) (body_okC (Nat.le_trans (midB_len _) hl))
    · cases h
  · split at h
    · rename_i n f m
      injection h with h; subst h
      refine pC_ok fun e => ⟨⟨bsl_weakA e.1, trivial⟩, ?_⟩
      have hl : (bytesOf n f).length ≤ 65536 := by simpa [bytesOf] using e.2
      exact rtake_j _ (by omega) (body_okC (Nat.le_trans (midB_len _) hl))
    · cases h
  · exact conAw_ok _ _ _ _ h
def conTb (c : CodD) : Con := fun k ds S => match k with
  | 17 => some (pC ds (.bool true) (weakL ds [.agg c.row, .agg c.row]))
  | k => conTa k ds S
theorem conTb_ok {c : CodD} (hc : c.ok) : ConOk Try.prog (conTb c) := by
  intro k ds S A h
  unfold conTb at h
  split at h
  · injection h with h; subst h
    exact pC_ok fun e => ⟨weakL_refl _, sC_weak e (same_ok c hc)⟩
  · exact conTa_ok _ _ _ _ h
theorem nilCode_ok : nilCode.ok := by
  simp [CodD.ok, nilCode]
theorem takeC_ok {b : List UInt8} (hb : b.length ≤ maxLen) : (takeC b).ok := by
  unfold takeC
  split
  · cases hc : bodyP (midB b) with
    | none => exact nilCode_ok
    | some c => exact bodyP_ok (Nat.le_trans (midB_len _) hb) hc
  · exact nilCode_ok
noncomputable def Elt (b : List UInt8) : Senv := EC (conTb (takeC b)) 32 1 [2, 3, 4, 5, 6, 9] (fun _ => ([], []))
noncomputable section
def lt1q0 : Prop :=
  ∃ (_x : Unit), True ∧ (True ∧ True) ∧ True ∧ ∀ (_y : Unit), True → True ∧ ∃ (_y : Unit), True ∧ SM true ∧ True ∧ True
def lt1q1 (p0 : List UInt8) : Prop :=
  (rowsB (LN p0) fun (i : Nat) => [ZB (BI p0 i)]) = true ∧ LN p0 ≤ (65536 : Nat)
def lt1q2 (p0 : List UInt8) : List UInt8 :=
  bytesOf (LN p0) fun (i : Nat) => [ZB (BI p0 i)]
def lt1q3 (p0 : List UInt8) : Int :=
  takeE (lt1q2 p0)
def lt1q4 (p0 : List UInt8) : CodD :=
  takeC (lt1q2 p0)
def lt1q5 (p0 : List UInt8) : List Arr :=
  CodD.consts (lt1q4 p0)
def lt1q6 (p0 : List UInt8) : Nat :=
  LN (lt1q5 p0)
def lt1q7 (p0 : List UInt8) : CodD :=
  takeC p0
def lt1q8 : Arr :=
  DA
def lt1q9 (p0 : List UInt8) : List FnD :=
  CodD.funs (lt1q4 p0)
def lt1q10 (p0 : List UInt8) : Nat :=
  LN (lt1q9 p0)
def lt1q11 (p0 : List UInt8) (p1 : Nat) : FnD :=
  List.getD (lt1q9 p0) p1 DF
def lt1q12 (p0 : List UInt8) (p1 : Nat) : List I4 :=
  FnD.code (lt1q11 p0 p1)
def lt1q13 : I4 :=
  D4
def lt1q14 (p0 : List UInt8) (p1 p2 : Nat) : I4 :=
  List.getD (lt1q12 p0 p1) p2 lt1q13
def lt1q15 (p0 : List UInt8) (p1 : Nat) : FnD :=
  GF (lt1q7 p0) p1
def lt1q16 (p0 : List UInt8) (p1 : Nat) : List I4 :=
  FnD.code (lt1q15 p0 p1)
def lt1q17 (p0 : List UInt8) (p1 p2 : Nat) : I4 :=
  List.getD (lt1q16 p0 p1) p2 lt1q13
def lt1q18 (p0 : List UInt8) : List KeD :=
  CodD.kers (lt1q4 p0)
def lt1q19 (p0 : List UInt8) : Nat :=
  LN (lt1q18 p0)
def lt1q20 : KeD :=
  DK
def lt1q21 (p0 : List UInt8) (p1 : Nat) : KeD :=
  List.getD (lt1q18 p0) p1 lt1q20
def lt1q22 (p0 : List UInt8) (p1 : Nat) : List I4 :=
  KeD.ops (lt1q21 p0 p1)
def lt1q23 (p0 : List UInt8) (p1 p2 : Nat) : I4 :=
  List.getD (lt1q22 p0 p1) p2 lt1q13
def lt1q24 (p0 : List UInt8) (p1 : Nat) : KeD :=
  List.getD (CodD.kers (lt1q7 p0)) p1 lt1q20
def lt1q25 (p0 : List UInt8) (p1 : Nat) : List I4 :=
  KeD.ops (lt1q24 p0 p1)
def lt1q26 (p0 : List UInt8) (p1 p2 : Nat) : I4 :=
  List.getD (lt1q25 p0 p1) p2 lt1q13
def lt1q27 (p0 : List UInt8) : List LaD :=
  CodD.lanes (lt1q4 p0)
def lt1q28 (p0 : List UInt8) : Nat :=
  LN (lt1q27 p0)
def lt1q29 (p0 : List UInt8) (p1 : Nat) : LaD :=
  List.getD (lt1q27 p0) p1 DL
def lt1q30 (p0 : List UInt8) (p1 : Nat) : List I6 :=
  LaD.code (lt1q29 p0 p1)
def lt1q31 : I6 :=
  D6
def lt1q32 (p0 : List UInt8) (p1 p2 : Nat) : I6 :=
  List.getD (lt1q30 p0 p1) p2 lt1q31
def lt1q33 (p0 : List UInt8) (p1 : Nat) : LaD :=
  GL (lt1q7 p0) p1
def lt1q34 (p0 : List UInt8) (p1 : Nat) : List I6 :=
  LaD.code (lt1q33 p0 p1)
def lt1q35 (p0 : List UInt8) (p1 p2 : Nat) : I6 :=
  List.getD (lt1q34 p0 p1) p2 lt1q31
def lt1q36 (p0 : List UInt8) : Prop :=
  (lt1q6 p0 = LN (CodD.consts (lt1q7 p0)) ∧ (∀ (i : Nat), i < lt1q6 p0 → Arr.row (List.getD (lt1q5 p0) i lt1q8) = Arr.row (List.getD (CodD.consts (lt1q7 p0)) i lt1q8)) ∧ True) ∧ (lt1q10 p0 = LN (CodD.funs (lt1q7 p0)) ∧
  (∀ (i : Nat), i < lt1q10 p0 → [ZI (FnD.slots (lt1q11 p0 i)), D.sl N4 (LN (lt1q12 p0 i)) (fun (i_1 : Nat) => (R4 (lt1q14 p0 i i_1))) Mode.any] = [ZI (FnD.slots (lt1q15 p0 i)), D.sl N4 (LN (lt1q16 p0 i)) (fun (i_1 : Nat)
  => (R4 (lt1q17 p0 i i_1))) Mode.any]) ∧ True) ∧ (lt1q19 p0 = LN (CodD.kers (lt1q7 p0)) ∧ (∀ (i : Nat), i < lt1q19 p0 → [ZI (KeD.inputs (lt1q21 p0 i)), D.sl N4 (LN (lt1q22 p0 i)) (fun (i_1 : Nat) => (R4 (lt1q23 p0 i
  i_1))) Mode.any, ZI (KeD.reduce (lt1q21 p0 i)), ZI (KeD.at_ (lt1q21 p0 i))] = [ZI (KeD.inputs (lt1q24 p0 i)), D.sl N4 (LN (lt1q25 p0 i)) (fun (i_1 : Nat) => (R4 (lt1q26 p0 i i_1))) Mode.any, ZI (KeD.reduce (lt1q24 p0
  i)), ZI (KeD.at_ (lt1q24 p0 i))]) ∧ True) ∧ (lt1q28 p0 = LN (CodD.lanes (lt1q7 p0)) ∧ (∀ (i : Nat), i < lt1q28 p0 → [ZI (LaD.regs (lt1q29 p0 i)), D.sl N6 (LN (lt1q30 p0 i)) (fun (i_1 : Nat) => (R6 (lt1q32 p0 i i_1)))
  Mode.any] = [ZI (LaD.regs (lt1q33 p0 i)), D.sl N6 (LN (lt1q34 p0 i)) (fun (i_1 : Nat) => (R6 (lt1q35 p0 i i_1))) Mode.any]) ∧ True) ∧ True
end
theorem law_takes (b : List UInt8) (hb : b.length ≤ maxLen) : ACalls Try.prog 5 [bsl b .any] ⟨[], []⟩ (SpecR (sC [bsl b .any] (.bool true)) ()) := by
  refine con_of (A := sC _ _) (x := ()) (E := Elt b) (eOk (conTb_ok (takeC_ok hb)) rfl) Try.func5 rfl (by kernel_rfl) rfl (by simp [sC, Elt, EC, E0]) ?_
  refine vc_eq (T :=
      ifB (decide ((3000 : Int) < (LI b))) lt1q0 (lt1q1 b ∧ ∀ (y : Unit), True → ∀ (x : Nat), True → SM x ∧ lt1q1 b ∧ ∀ (y : Unit), True → ∀ (x_1 : Nat), x ≠ x_1 ∧ True → SM x_1 ∧ ifB (lt1q3 b == lt1q3 b) (SM x ∧ SM x_1
      ∧ (lt1q36 b ∧ lt1q36 b ∧ True) ∧ ∀ (y : Unit), True → lt1q0) (True ∧ ∃ (y : Unit), True ∧ false = true ∧ True ∧ True))) (by kernel_rfl) ?_
  delta BI D4 D6 DA DF DK DL GF GL LI LN N4 N6 R4 R6 SM U0 Z0 ZB ZI lt1q0 lt1q1 lt1q10 lt1q11 lt1q12 lt1q13 lt1q14 lt1q15 lt1q16 lt1q17 lt1q18 lt1q19 lt1q2 lt1q20 lt1q21 lt1q22 lt1q23 lt1q24 lt1q25 lt1q26 lt1q27 lt1q28 lt1q29 lt1q3 lt1q30 lt1q31 lt1q32 lt1q33 lt1q34 lt1q35 lt1q36 lt1q4 lt1q5 lt1q6 lt1q7 lt1q8 lt1q9
  simp only [eq_self, ne_eq, implies_true, ifB_iff, decide_eq_true_eq, decide_eq_false_iff_not, true_and, and_true, beq_self_eq_true, exists_const, forall_const, bytesOf_bsl, rowsB_bsl]
  exact fun h => ⟨by omega, fun _ => ⟨by omega, fun _ _ h => h.symm⟩⟩
end Go.Proofs.Ytoglbmhkfkghbaa
