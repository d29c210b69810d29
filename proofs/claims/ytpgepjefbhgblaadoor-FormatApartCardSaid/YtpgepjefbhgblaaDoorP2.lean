/- Functions of the given program and what each of them computes: lemmas towards the statement, their conditions stated with each of them. -/
import Derived.Test.YtpgepjefbhgblaaDoorP1
import Derived.Shelf.Strconv.Itoa4
import Derived.Lib.AppendIntMem
import Derived.Lib.ItoaLen
import Derived.WalkKit
import Derived.ProofKit
import Derived.Lib.Join
import Derived.Lib.Builder
import Derived.Lib.UnsafeStr
namespace Go.Proofs.YtpgepjefbhgblaaDoor
open Go Go.Ab
set_option maxRecDepth 100000
theorem itoa_ok (n : Int) (h : inI64 n) : ACalls Tryd.prog 63 [.int .i64 n] ⟨[], []⟩ (SpecR (sC [.int .i64 n] (.str (Lib.itoa n))) ()) := by
  refine ACalls.of_shelf_g ⟨_, Tryd.func63, by kernel_rfl, by kernel_rfl⟩ fun C args w ha hG hb => ?_
  obtain ⟨u, e, hu⟩ := repL_one' ha
  have e2 : args = [u].toArray := by rw [← e]
  subst e2
  simp only [Rep] at hu; subst hu
  have := Tryd.strconv_Itoa n h.1 h.2 w (var_below hG.1 hb)
  exact this.mono fun e w' ⟨h1, k, os, h2⟩ => ⟨⟨_, h1, by simp [Rep]⟩, by subst h2; exact Lib.below_grow _ _ (Nat.le_refl _) _ _⟩
def conIt : Con := fun k ds S => match k with
  | 63 => match ds with
    | [.int .i64 n] => some (pC [.int .i64 n] (.str (Lib.itoa n)) (inI64 n))
    | _ => none
  | k => conAr k ds S
theorem conIt_ok : ConOk Tryd.prog conIt := by
  intro k ds S A h
  unfold conIt at h
  split at h
  · split at h
    · injection h with h; subst h
      exact pC_ok fun h1 => ⟨weakL_refl _, itoa_ok _ h1⟩
    · cases h
  · exact conAr_ok _ _ _ _ h
theorem itoa_len {n : Int} (h : inI64 n) : 1 ≤ (Lib.itoa n).length ∧ (Lib.itoa n).length ≤ 21 := by
  have k : ∀ u, u < 18446744073709551616 → 1 ≤ (Lib.decDigits u).length ∧ (Lib.decDigits u).length ≤ 20 := fun u hu => by
    rw [Lib.decDigits_length]; exact ⟨Lib.nDigits_pos u, Lib.nDigits_le20 u hu⟩
  unfold inI64 at h
  unfold Lib.itoa
  split
  · have := k n.natAbs (by omega); simp only [List.length_cons]; omega
  · have := k n.toNat (by omega); omega
theorem dec_first : ∀ u, 48 ≤ ((Lib.decDigits u).getD 0 0).toNat ∧ ((Lib.decDigits u).getD 0 0).toNat ≤ 57
  | u => by
    rw [Lib.decDigits]
    by_cases hu : u < 10
    · rw [dif_pos hu, List.getD_cons_zero, UInt8.toNat_ofNat']; omega
    · rw [dif_neg hu]
      have := dec_first (u / 10)
      have hl : 1 ≤ (Lib.decDigits (u / 10)).length := by rw [Lib.decDigits_length]; exact Lib.nDigits_pos _
      rw [List.getD_eq_getElem?_getD, List.getElem?_append_left (l₁ := Lib.decDigits (u / 10)) (i := 0) (by omega), ← List.getD_eq_getElem?_getD]
      exact this
termination_by u => u
decreasing_by omega
theorem itoa_sign {n : Int} (_ : inI64 n) (e : (((Lib.itoa n).getD 0 0).toNat : Int) = 45) : n < 0 := by
  unfold Lib.itoa at e
  split at e
  · assumption
  · have := dec_first n.toNat
    omega
def showI (n : Int) : List UInt8 := if n < 0 then 95 :: Lib.decDigits n.natAbs else Lib.decDigits n.toNat
noncomputable def Esh (_n : Int) : Senv := EC conIt 13 1 [2, 3, 8] (fun _ => ([], []))
noncomputable section
def fm1q0 (p0 : Int) : List UInt8 := List.drop N1 (List.take (TL (Lib.itoa p0)) (Lib.itoa p0))
end
theorem show_ok (n : Int) (h : inI64 n) : ACalls Tryd.prog 37 [.int .i64 n] ⟨[], []⟩ (SpecR (sC [.int .i64 n] (.str (showI n))) ()) := by
  refine con_of (A := sC _ _) (x := ()) (E := Esh n) (eOk conIt_ok rfl) Tryd.func37 rfl (by kernel_rfl) rfl (by simp [sC, Esh, EC, E0]) ?_
  refine vc_eq (T :=
    inI64 n ∧ ∀ (y : Unit), True → side (Z0 ≤ Z0 ∧ Z0 < (LI (Lib.itoa n))) (ifB ((BI (Lib.itoa n) N0) == (45 : Int)) (side (Z0 ≤ Z1 ∧ Z1 ≤ (LI (Lib.itoa n)) ∧ (LI (Lib.itoa n)) ≤ (LI (Lib.itoa n))) (side (N1 + LN (fm1q0 n) ≤ (9223372036854775807 : Nat)) (True ∧ ∃ (y : Unit), True ∧ (95 : UInt8) :: List.append [] (fm1q0 n) = showI n ∧ True ∧ True))) (True ∧ ∃ (y : Unit), True ∧ Lib.itoa n = showI n ∧ True ∧ True))) (by kernel_rfl) ?_
  delta BI LI LN N0 N1 TL U0 Z0 Z1 fm1q0
  refine ⟨h, fun _ _ => ?_⟩
  have hl := itoa_len h
  rw [side_iff]
  refine ⟨by omega, ?_⟩
  simp only [side_iff, ifB_iff, beq_iff_eq, beq_eq_false_iff_ne, Int.toNat_natCast, List.take_length, true_and, and_true, exists_const]
  refine ⟨fun e => ⟨by omega, ?_, ?_⟩, fun e => ?_⟩
  · rw [List.length_drop]; omega
  · have hn : n < 0 := itoa_sign h (by omega)
    simp only [showI, Lib.itoa, if_pos hn]; rfl
  · have hn : ¬ n < 0 := fun hn => by
      have : ((Lib.itoa n).getD 0 0).toNat = 45 := by simp [Lib.itoa, if_pos hn]
      have e : ¬ (((Lib.itoa n).getD 0 0).toNat : Int) = 45 := by simpa using e
      omega
    simp only [showI, Lib.itoa, if_neg hn]
theorem showI_len {n : Int} (h : inI64 n) : 1 ≤ (showI n).length ∧ (showI n).length ≤ 21 := by
  have := itoa_len h
  unfold showI; unfold Lib.itoa at this
  split <;> simp_all
theorem tdiv10 (n : Int) : n.tdiv 10 = if n < 0 then -((n.natAbs / 10 : Nat) : Int) else ((n.natAbs / 10 : Nat) : Int) := by
  cases n with
  | ofNat k => rw [if_neg (by simp)]; rfl
  | negSucc k => rw [if_pos (Int.negSucc_lt_zero k)]; rfl
theorem tmod10 (n : Int) : n.tmod 10 = if n < 0 then -((n.natAbs % 10 : Nat) : Int) else ((n.natAbs % 10 : Nat) : Int) := by
  cases n with
  | ofNat k => rw [if_neg (by simp)]; rfl
  | negSucc k => rw [if_pos (Int.negSucc_lt_zero k)]; rfl
theorem dig10 : ∀ k, k < 10 → List.drop k (List.take (k + 1) [48, 49, 50, 51, 52, 53, 54, 55, 56, 57]) = [UInt8.ofNat (48 + k)] := by decide
theorem showI_step {n : Int} (h : 10 ≤ n.natAbs) : showI n = showI (n.tdiv 10) ++ [UInt8.ofNat (48 + n.natAbs % 10)] := by
  have e : ∀ u, 10 ≤ u → Lib.decDigits u = Lib.decDigits (u / 10) ++ [UInt8.ofNat (48 + u % 10)] := fun u hu => by
    rw [Lib.decDigits, dif_neg (by omega)]
  unfold showI
  by_cases hn : n < 0
  · have h2 : n.tdiv 10 = -((n.natAbs / 10 : Nat) : Int) := by rw [tdiv10, if_pos hn]
    have h1 : n.tdiv 10 < 0 := by omega
    rw [if_pos hn, if_pos h1, e _ h, show (n.tdiv 10).natAbs = n.natAbs / 10 by omega]; rfl
  · have h2 : n.tdiv 10 = ((n.natAbs / 10 : Nat) : Int) := by rw [tdiv10, if_neg hn]
    have h1 : ¬ n.tdiv 10 < 0 := by omega
    rw [if_neg hn, if_neg h1, e n.toNat (by omega), show (n.tdiv 10).toNat = n.toNat / 10 by omega, show n.toNat = n.natAbs by omega]
def conRs (z : Nat) : Con := fun k ds _S => match k with
  | 67 => match ds with
    | [.int .i64 n] => some (pC [.int .i64 n] (.str (showI n)) (inI64 n ∧ n.natAbs < z))
    | _ => none
  | _k => none
noncomputable def Ers (z : Nat) : Senv := EC (conRs z) 41 1 [2, 3, 4, 10, 23] (fun id => match id with | 7 => ([0, 1, 3, 4, 5, 6, 7, 2, 8, 9], [2]) | _ => ([], []))
noncomputable section
def fm1q1 (p0 : Int) : Bool := bif decide ((-10 : Int) < p0) then decide (p0 < Z0) else false
def fm1q2 : List UInt8 := [(48 : UInt8), (49 : UInt8), (50 : UInt8), (51 : UInt8), (52 : UInt8), (53 : UInt8), (54 : UInt8), (55 : UInt8), (56 : UInt8), (57 : UInt8)]
def fm1q3 (p0 : Int) : List UInt8 := List.drop (Int.toNat (IntKind.wrap IntKind.i64 (Z0 - p0))) (List.take (Int.toNat (IntKind.wrap IntKind.i64 (Z1 - p0))) fm1q2)
def fm1q4 (p0 : Int) : List UInt8 := showI p0
def fm1q5 (p0 : Int) : Bool := bif decide (Z0 ≤ p0) then decide (p0 < (10 : Int)) else false
def fm1q6 (p0 : Int) : Int := IntKind.wrap IntKind.i64 (Z0 - Int.tmod p0 (10 : Int))
def fm1q7 (p0 : Int) : Int := IntKind.wrap IntKind.i64 (fm1q6 p0 + Z1)
def fm1q8 (p0 : Int) : Prop := inI64 (IntKind.wrap IntKind.i64 (Int.tdiv p0 (10 : Int))) ∧ Int.natAbs (IntKind.wrap IntKind.i64 (Int.tdiv p0 (10 : Int))) < Int.natAbs p0
def fm1q9 (p0 : Int) : List UInt8 := showI (IntKind.wrap IntKind.i64 (Int.tdiv p0 (10 : Int)))
def fm1q10 (p0 : Int) : Nat := LN (fm1q9 p0)
def fm1q11 (p0 : Int) : List UInt8 := List.drop (Int.toNat (fm1q6 p0)) (List.take (Int.toNat (fm1q7 p0)) fm1q2)
def fm1q12 (p0 : Int) : Int := IntKind.wrap IntKind.i64 (Int.tmod p0 (10 : Int) + Z1)
def fm1q13 (p0 : Int) : List UInt8 := List.drop (Int.toNat (Int.tmod p0 (10 : Int))) (List.take (Int.toNat (fm1q12 p0)) fm1q2)
end
theorem rs_step (n : Int) (h : inI64 n) (hc : ConOk Tryd.prog (conRs n.natAbs)) : ACalls Tryd.prog 67 [.int .i64 n] ⟨[], []⟩ (SpecR (sC [.int .i64 n] (.str (showI n))) ()) := by
  refine con_of (A := sC _ _) (x := ()) (E := Ers n.natAbs) (eOk hc rfl) Tryd.func67 rfl (by kernel_rfl) rfl (by simp [sC, Ers, EC, E0]) ?_
  refine vc_eq (T :=
    ifB (decide ((-10 : Int) < n)) (decide (n < Z0) = fm1q1 n ∧ True) (false = fm1q1 n ∧ True) ∧ ifB (fm1q1 n) (side (Z0 ≤ IntKind.wrap IntKind.i64 (Z0 - n) ∧ IntKind.wrap IntKind.i64 (Z0 - n) ≤ IntKind.wrap IntKind.i64 (Z1 - n) ∧ IntKind.wrap IntKind.i64 (Z1 - n) ≤ (10 : Int)) (side (N1 + LN (fm1q3 n) ≤ (9223372036854775807 : Nat)) (True ∧ ∃ (y : Unit), True ∧ (95 : UInt8) :: List.append [] (fm1q3 n) = fm1q4 n ∧ True ∧ True))) (ifB (decide (Z0 ≤ n)) (decide (n < (10 : Int)) = fm1q5 n ∧ True) (false = fm1q5 n ∧ True) ∧ ifB (fm1q5 n) (side (Z0 ≤ n ∧ n ≤ IntKind.wrap IntKind.i64 (n + Z1) ∧ IntKind.wrap IntKind.i64 (n + Z1) ≤ (10 : Int)) (True ∧ ∃ (y : Unit), True ∧ List.drop (Int.toNat n) (List.take (Int.toNat (IntKind.wrap IntKind.i64 (n + Z1))) fm1q2) = fm1q4 n ∧ True ∧ True)) (ifB (decide (Int.tmod n (10 : Int) < Z0)) (True ∧ side (Z0 ≤ fm1q6 n ∧ fm1q6 n ≤ fm1q7 n ∧ fm1q7 n ≤ (10 : Int)) (fm1q8 n ∧ ∀ (y : Unit), True → side (fm1q10 n + LN (fm1q11 n) ≤ (9223372036854775807 : Nat)) (True ∧ ∃ (y : Unit), True ∧ fm1q9 n ++ fm1q11 n = fm1q4 n ∧ True ∧ True))) (True ∧ side (Z0 ≤ Int.tmod n (10 : Int) ∧ Int.tmod n (10 : Int) ≤ fm1q12 n ∧ fm1q12 n ≤ (10 : Int)) (fm1q8 n ∧ ∀ (y : Unit), True → side (fm1q10 n + LN (fm1q13 n) ≤ (9223372036854775807 : Nat)) (True ∧ ∃ (y : Unit), True ∧ fm1q9 n ++ fm1q13 n = fm1q4 n ∧ True ∧ True)))))) (by kernel_rfl) ?_
  delta LN N1 Z0 Z1 fm1q1 fm1q10 fm1q11 fm1q12 fm1q13 fm1q2 fm1q3 fm1q4 fm1q5 fm1q6 fm1q7 fm1q8 fm1q9
  have h' := h
  unfold inI64 at h'
  have hd := tdiv10 n
  have ho := tmod10 n
  simp only [ifB_iff, Bool.cond_false_right, Bool.and_eq_true, Bool.and_eq_false_iff, decide_eq_true_eq, decide_eq_false_iff_not, true_and, and_true, exists_const, forall_const]
  refine ⟨⟨fun h => by simp [h], fun h => by simp [h]⟩, fun ⟨h1, h2⟩ => ?_, fun h1 => ⟨⟨fun h => by simp [h], fun h => by simp [h]⟩, fun ⟨h2, h3⟩ => ?_, fun h2 => ?_⟩⟩
  · have e1 : IntKind.i64.wrap (0 - n) = (n.natAbs : Int) := by rw [wrap_i64' (by omega) (by omega)]; omega
    have e2 : IntKind.i64.wrap (1 - n) = ((n.natAbs + 1 : Nat) : Int) := by rw [wrap_i64' (by omega) (by omega)]; omega
    rw [e1, e2]
    rw [side_iff]
    refine ⟨by omega, ?_⟩
    rw [Int.toNat_natCast, Int.toNat_natCast, dig10 _ (by omega)]
    rw [side_iff]
    refine ⟨by simp, ?_⟩
    unfold showI
    rw [if_pos h2, Lib.decDigits_one (by omega)]; rfl
  · have e2 : IntKind.i64.wrap (n + 1) = n + 1 := wrap_i64' (by omega) (by omega)
    rw [e2]
    rw [side_iff]
    refine ⟨by omega, ?_⟩
    rw [show (n + 1).toNat = n.toNat + 1 by omega, dig10 _ (by omega)]
    unfold showI
    rw [if_neg (by omega), Lib.decDigits_one (by omega)]
  · have hb : 10 ≤ n.natAbs := by omega
    have e0 : IntKind.i64.wrap (n.tdiv 10) = n.tdiv 10 := by
      refine wrap_i64' ?_ ?_ <;> (rw [hd]; split <;> omega)
    have i0 : inI64 (n.tdiv 10) ∧ (n.tdiv 10).natAbs < n.natAbs := by
      unfold inI64; rw [hd]; split <;> omega
    have hl := (showI_len i0.1).2
    refine ⟨fun h3 => ?_, fun h3 => ?_⟩
    · have hn : n < 0 := by
        by_cases hn : n < 0
        · exact hn
        · rw [ho, if_neg hn] at h3; omega
      rw [if_pos hn] at ho
      have e1 : IntKind.i64.wrap (0 - n.tmod 10) = ((n.natAbs % 10 : Nat) : Int) := by rw [wrap_i64' (by omega) (by omega)]; omega
      have e2 : IntKind.i64.wrap (((n.natAbs % 10 : Nat) : Int) + 1) = ((n.natAbs % 10 + 1 : Nat) : Int) := by rw [wrap_i64' (by omega) (by omega)]; omega
      rw [e1, e2, e0]
      rw [side_iff]
      refine ⟨by omega, i0, ?_⟩
      rw [Int.toNat_natCast, Int.toNat_natCast, dig10 _ (by omega)]
      rw [side_iff]
      exact ⟨by simp only [List.length_cons, List.length_nil]; omega, (showI_step hb).symm⟩
    · have e1 : n.tmod 10 = ((n.natAbs % 10 : Nat) : Int) := by
        rw [ho]; split
        · rename_i hn; rw [ho, if_pos hn] at h3; omega
        · rfl
      have e2 : IntKind.i64.wrap (((n.natAbs % 10 : Nat) : Int) + 1) = ((n.natAbs % 10 + 1 : Nat) : Int) := by rw [wrap_i64' (by omega) (by omega)]; omega
      rw [e1, e2, e0]
      rw [side_iff]
      refine ⟨by omega, i0, ?_⟩
      rw [Int.toNat_natCast, Int.toNat_natCast, dig10 _ (by omega)]
      rw [side_iff]
      exact ⟨by simp only [List.length_cons, List.length_nil]; omega, (showI_step hb).symm⟩
theorem rs_ok : ∀ (z : Nat) (n : Int), inI64 n → n.natAbs < z → ACalls Tryd.prog 67 [.int .i64 n] ⟨[], []⟩ (SpecR (sC [.int .i64 n] (.str (showI n))) ())
  | 0, _, _, hz => absurd hz (by omega)
  | z + 1, n, h, hz => rs_step n h (by
    intro k ds S A hk
    unfold conRs at hk
    split at hk
    · split at hk
      · injection hk with hk; subst hk
        exact pC_ok fun ⟨h1, h2⟩ => ⟨weakL_refl _, rs_ok z _ h1 (by omega)⟩
      · cases hk
    · cases hk)
theorem rshow_ok (n : Int) (h : inI64 n) : ACalls Tryd.prog 67 [.int .i64 n] ⟨[], []⟩ (SpecR (sC [.int .i64 n] (.str (showI n))) ()) := rs_ok _ n h (Nat.lt_succ_self _)
def conNu : Con := fun k ds S => match k with
  | 37 => match ds with
    | [.int .i64 n] => some (pC [.int .i64 n] (.str (showI n)) (inI64 n))
    | _ => none
  | 67 => match ds with
    | [.int .i64 n] => some (pC [.int .i64 n] (.str (showI n)) (inI64 n))
    | _ => none
  | k => conIt k ds S
theorem conNu_ok : ConOk Tryd.prog conNu := by
  intro k ds S A h
  unfold conNu at h
  split at h
  · split at h
    · injection h with h; subst h
      exact pC_ok fun h1 => ⟨weakL_refl _, show_ok _ h1⟩
    · cases h
  · split at h
    · injection h with h; subst h
      exact pC_ok fun h1 => ⟨weakL_refl _, rshow_ok _ h1⟩
    · cases h
  · exact conIt_ok _ _ _ _ h
end Go.Proofs.YtpgepjefbhgblaaDoor
namespace Go.Proofs.YtpgepjefbhgblaaDoor
open Go Go.Ab
set_option maxRecDepth 100000
theorem gTz : Tryd.prog.globalNamed "math/bits.deBruijn64tab" = some 3 := by kernel_rfl
theorem tz_walk (w : World) (hc : w.cell? ⟨3, (IntKind.u64.wrap (bits BinOp.and IntKind.u64 16 (IntKind.u64.wrap (-16)) * 285870213051353865) / 288230376151711744).toNat, none⟩ = some (.int .u8 4)) : Calls Tryd.prog 97 #[.int .u64 16] w fun e w' => e = .returned (.int .i64 4) ∧ Go.RowKit.Below w.heap.size w w' := by
  go_enter Tryd.func97, Tryd.ntmps97
  go_wp2
  all_goals go_ret
  all_goals exact ⟨rfl, Go.RowKit.Below.refl _ _⟩
theorem tz_ok : ACalls Tryd.prog 97 [.int .u64 16] ⟨[], []⟩ (SpecR (sC [.int .u64 16] (.int .i64 4)) ()) := by
  refine ACalls.of_shelf_g ⟨_, Tryd.func97, by kernel_rfl, by kernel_rfl⟩ fun C args w ha hG hb => ?_
  obtain ⟨u, e, hu⟩ := repL_one' ha
  have e2 : args = [u].toArray := by rw [← e]
  subst e2
  simp only [Rep] at hu; subst hu
  have ht : Lib.TabIs Tryd.prog w "math/bits.deBruijn64tab" .u8 (Lib.deBruijn64tab.map Int.ofNat) := var_below hG.2.1 hb
  have hc := ht.cell gTz 15 (by decide)
  exact (tz_walk w hc).mono fun e w' ⟨h1, h2⟩ => ⟨⟨_, h1, by simp [Rep]⟩, h2⟩
def conTz : Con := fun k ds S => match k with
  | 97 => some (pC ds (.int .i64 4) (weakL ds [.int .u64 16]))
  | k => conIt k ds S
theorem conTz_ok : ConOk Tryd.prog conTz := by
  intro k ds S A h
  unfold conTz at h
  split at h
  · injection h with h; subst h
    exact pC_ok fun h1 => ⟨weakL_refl _, sC_weak h1 tz_ok⟩
  · exact conIt_ok _ _ _ _ h
def digU (k : Nat) : UInt8 := [48, 49, 50, 51, 52, 53, 54, 55, 56, 57, 97, 98, 99, 100, 101, 102].getD k 0
def hexN (n : Nat) : List UInt8 := if n < 16 then [digU n] else [digU (n / 16), digU (n % 16)]
noncomputable def Ehb : Senv := { EC conTz 102 5 [10, 11, 12, 13, 14, 15, 16, 17, 18, 28, 30, 34, 46, 68, 89, 94] (fun _ => ([], [])) with unr := fun b => match b with | 0 => 2 | _ => 0 }
noncomputable section
def fm2q0 : List UInt8 := [(48 : UInt8), (49 : UInt8), (50 : UInt8), (51 : UInt8), (52 : UInt8), (53 : UInt8), (54 : UInt8), (55 : UInt8), (56 : UInt8), (57 : UInt8), (97 : UInt8), (98 : UInt8), (99 : UInt8), (100 : UInt8), (101 : UInt8), (102 : UInt8), (103 : UInt8), (104 : UInt8), (105 : UInt8), (106 : UInt8), (107 : UInt8), (108 : UInt8), (109 : UInt8), (110 : UInt8), (111 : UInt8), (112 : UInt8), (113 : UInt8), (114 : UInt8), (115 : UInt8), (116 : UInt8), (117 : UInt8), (118 : UInt8), (119 : UInt8), (120 : UInt8), (121 : UInt8), (122 : UInt8)]
def fm2q1 (p0 : Int) : Int := (BI fm2q0 (Int.toNat (Int.fdiv p0 (16 : Int))))
def fm2q2 (p0 : Int) : Int := (BI fm2q0 (Int.toNat (andI IntKind.u64 p0 (15 : Int))))
def fm2q3 (p0 : Int) : List D := [ZB (fm2q1 p0), ZB (fm2q2 p0)]
def fm2q4 : D := ZB Z0
def fm2q5 : Prop := SM N0 ∧ (∀ (i : Nat), i < N0 → eqOf (List D) [] []) ∧ True
def fm2q6 (p0 : Int) : Int := (BI fm2q0 (Int.toNat p0))
def fm2q7 (p0 : Int) : List D := [ZB (fm2q6 p0)]
end
theorem hexb_ok (n : Int) (h : 0 ≤ n ∧ n < 128) : ACalls Tryd.prog 92 [.sl 1 0 (fun _ => []) .nil, .int .u64 n, .int .i64 16, .bool false, .bool false] ⟨[], []⟩ (SpecR (sC [.sl 1 0 (fun _ => []) .nil, .int .u64 n, .int .i64 16, .bool false, .bool false] (.tup [.sl 1 0 (fun _ => []) .nil, .str (hexN n.toNat)])) ()) := by
  refine con_of (A := sC _ _) (x := ()) (E := Ehb) (eOk conTz_ok rfl) Tryd.func92 rfl (by kernel_rfl) rfl (by simp [sC, Ehb, EC, E0]) ?_
  refine vc_eq (T :=
    (SM false ∧ True) ∧ ∀ (x : Nat), True → True ∧ (SM (16 : Int) ∧ True) ∧ ∀ (y : Unit), True → ifB (decide ((16 : Int) ≤ n)) (side (Z0 ≤ andI IntKind.u64 n (15 : Int) ∧ andI IntKind.u64 n (15 : Int) < (36 : Int)) (SM x ∧ ifB (decide ((16 : Int) ≤ Int.fdiv n (16 : Int))) (side (Z0 ≤ andI IntKind.u64 (Int.fdiv n (16 : Int)) (15 : Int) ∧ andI IntKind.u64 (Int.fdiv n (16 : Int)) (15 : Int) < (36 : Int)) (SM x ∧ False)) (side (Z0 ≤ Int.fdiv n (16 : Int) ∧ Int.fdiv n (16 : Int) < (36 : Int)) (SM x ∧ True ∧ SM x ∧ chk (List.all (fm2q3 n) byteB && decide (LN (List.take N2 (List.drop (63 : Nat) (fm2q4 :: fm2q4 :: fm2q4 :: fm2q4 :: fm2q4 :: fm2q4 :: fm2q4 :: fm2q4 :: fm2q4 :: fm2q4 :: fm2q4 :: fm2q4 :: fm2q4 :: fm2q4 :: fm2q4 :: fm2q4 :: fm2q4 :: fm2q4 :: fm2q4 :: fm2q4 :: fm2q4 :: fm2q4 :: fm2q4 :: fm2q4 :: fm2q4 :: fm2q4 :: fm2q4 :: fm2q4 :: fm2q4 :: fm2q4 :: fm2q4 :: fm2q4 :: fm2q4 :: fm2q4 :: fm2q4 :: fm2q4 :: fm2q4 :: fm2q4 :: fm2q4 :: fm2q4 :: fm2q4 :: fm2q4 :: fm2q4 :: fm2q4 :: fm2q4 :: fm2q4 :: fm2q4 :: fm2q4 :: fm2q4 :: fm2q4 :: fm2q4 :: fm2q4 :: fm2q4 :: fm2q4 :: fm2q4 :: fm2q4 :: fm2q4 :: fm2q4 :: fm2q4 :: fm2q4 :: fm2q4 :: fm2q4 :: fm2q4 :: fm2q3 n))) = N2)) (True ∧ ∃ (y : Unit), True ∧ (fm2q5 ∧ [UInt8.ofNat (Int.toNat (fm2q1 n)), UInt8.ofNat (Int.toNat (fm2q2 n))] = hexN (Int.toNat n) ∧ True) ∧ True ∧ True))))) (side (Z0 ≤ n ∧ n < (36 : Int)) (SM x ∧ True ∧ SM x ∧ chk (List.all (fm2q7 n) byteB && decide (LN (List.take N1 (List.drop (64 : Nat) (fm2q4 :: fm2q4 :: fm2q4 :: fm2q4 :: fm2q4 :: fm2q4 :: fm2q4 :: fm2q4 :: fm2q4 :: fm2q4 :: fm2q4 :: fm2q4 :: fm2q4 :: fm2q4 :: fm2q4 :: fm2q4 :: fm2q4 :: fm2q4 :: fm2q4 :: fm2q4 :: fm2q4 :: fm2q4 :: fm2q4 :: fm2q4 :: fm2q4 :: fm2q4 :: fm2q4 :: fm2q4 :: fm2q4 :: fm2q4 :: fm2q4 :: fm2q4 :: fm2q4 :: fm2q4 :: fm2q4 :: fm2q4 :: fm2q4 :: fm2q4 :: fm2q4 :: fm2q4 :: fm2q4 :: fm2q4 :: fm2q4 :: fm2q4 :: fm2q4 :: fm2q4 :: fm2q4 :: fm2q4 :: fm2q4 :: fm2q4 :: fm2q4 :: fm2q4 :: fm2q4 :: fm2q4 :: fm2q4 :: fm2q4 :: fm2q4 :: fm2q4 :: fm2q4 :: fm2q4 :: fm2q4 :: fm2q4 :: fm2q4 :: fm2q4 :: fm2q7 n))) = N1)) (True ∧ ∃ (y : Unit), True ∧ (fm2q5 ∧ [UInt8.ofNat (Int.toNat (fm2q6 n))] = hexN (Int.toNat n) ∧ True) ∧ True ∧ True)))) (by kernel_rfl) ?_
  delta BI LN N0 N1 N2 SM U0 Z0 ZB fm2q0 fm2q1 fm2q2 fm2q3 fm2q4 fm2q5 fm2q6 fm2q7
  obtain ⟨m, rfl⟩ : ∃ m : Nat, n = m := ⟨n.toNat, by omega⟩
  have hm : m < 128 := by omega
  refine ⟨⟨rfl, trivial⟩, fun x _ => ⟨trivial, ⟨rfl, trivial⟩, fun _ _ => ?_⟩⟩
  simp only [ifB_iff, side_iff, chk_iff, true_and, and_true, exists_const, decide_eq_true_eq, decide_eq_false_iff_not, Bool.and_eq_true, Int.toNat_natCast, and_false, implies_true]
  have ha : andI .u64 (m : Int) 15 = ((m % 16 : Nat) : Int) := by
    have h1 : andI .u64 (m : Int) ((15 : Nat) : Int) = ((m &&& 15 : Nat) : Int) := andI_nat rfl (by simp only [IntKind.bits]; omega) (by simp only [IntKind.bits]; omega)
    rw [show ((15 : Nat) : Int) = 15 from rfl] at h1
    rw [h1, show (15 : Nat) = 2 ^ 4 - 1 from rfl, Nat.and_two_pow_sub_one_eq_mod]
  have hf : (m : Int).fdiv 16 = ((m / 16 : Nat) : Int) := fdiv_nat m 16
  have hd : ∀ k, k < 16 → ([48, 49, 50, 51, 52, 53, 54, 55, 56, 57, 97, 98, 99, 100, 101, 102, 103, 104, 105, 106, 107, 108, 109, 110, 111, 112, 113, 114, 115, 116, 117, 118, 119, 120, 121, 122] : List UInt8).getD k 0 = digU k := by decide
  have hb : ∀ b : UInt8, byteB (.int .u8 (b.toNat : Int)) = true := fun b => by
    have := b.toNat_lt
    simp only [byteB, Bool.and_eq_true, decide_eq_true_eq]; omega
  simp only [ha, hf, Int.toNat_natCast]
  refine ⟨fun h16 => ⟨by omega, by omega, fun _ => ⟨by omega, ⟨?_, rfl⟩, ?_⟩⟩, fun h16 => ⟨by omega, ⟨?_, rfl⟩, ?_⟩⟩
  · rw [hd _ (by omega), hd _ (by omega)]; simp only [List.all_cons, List.all_nil, hb]; rfl
  · rw [hd _ (by omega), hd _ (by omega)]; simp only [UInt8.ofNat_toNat]; unfold hexN; rw [if_neg (by omega)]
  · rw [hd _ (by omega)]; simp only [List.all_cons, List.all_nil, hb]; rfl
  · rw [hd _ (by omega)]; simp only [UInt8.ofNat_toNat]; unfold hexN; rw [if_pos (by omega)]
def conHb : Con := fun k ds S => match k with
  | 92 => match ds with
    | [_, .int .u64 n, _, _, _] => some (pC ds (.tup [.sl 1 0 (fun _ => []) .nil, .str (hexN n.toNat)]) (weakL ds [.sl 1 0 (fun _ => []) .nil, .int .u64 n, .int .i64 16, .bool false, .bool false] ∧ 0 ≤ n ∧ n < 128))
    | _ => none
  | k => conNu k ds S
theorem conHb_ok : ConOk Tryd.prog conHb := by
  intro k ds S A h
  unfold conHb at h
  split at h
  · split at h
    · injection h with h; subst h
      exact pC_ok fun h1 => ⟨weakL_refl _, sC_weak h1.1 (hexb_ok _ h1.2)⟩
    · cases h
  · exact conNu_ok _ _ _ _ h
noncomputable def Ehx : Senv := EC conHb 8 2 [4] (fun _ => ([], []))
theorem hex_ok (n : Int) (h : 0 ≤ n ∧ n < 128) : ACalls Tryd.prog 79 [.int .i64 n, .int .i64 16] ⟨[], []⟩ (SpecR (sC [.int .i64 n, .int .i64 16] (.str (hexN n.toNat))) ()) := by
  refine con_of (A := sC _ _) (x := ()) (E := Ehx) (eOk conHb_ok rfl) Tryd.func79 rfl (by kernel_rfl) rfl (by simp [sC, Ehx, EC, E0]) ?_
  refine vc_eq (T :=
    (((SM N0 ∧ (∀ (i : Nat), i < N0 → eqOf (List D) [] []) ∧ True) ∧ SM (IntKind.wrap IntKind.u64 n) ∧ SM (16 : Int) ∧ decide (n < Z0) = false ∧ SM false ∧ True) ∧ Z0 ≤ IntKind.wrap IntKind.u64 n ∧ IntKind.wrap IntKind.u64 n < (128 : Int)) ∧ ∀ (y : Unit), True → True ∧ True ∧ ∃ (y : Unit), True ∧ hexN (Int.toNat (IntKind.wrap IntKind.u64 n)) = hexN (Int.toNat n) ∧ True ∧ True) (by kernel_rfl) ?_
  delta N0 SM Z0
  have e : IntKind.u64.wrap n = n := by rw [IntKind.wrap_u64]; omega
  have e1 : decide (n < 0) = false := by simp; omega
  simp only [e, e1]
  simpa using h
end Go.Proofs.YtpgepjefbhgblaaDoor
namespace Go.Proofs.YtpgepjefbhgblaaDoor
open Go Go.Ab
set_option maxRecDepth 100000
def utf8 (c : Int) : List UInt8 := (Utf8.encode c).data.toList
def escB (c q : Int) : List UInt8 :=
  if c = 10 then [92, 110] else if c = 9 then [92, 116] else if c = 13 then [92, 114] else if c = 92 ∨ c = q then 92 :: utf8 c
  else if c < 32 ∨ c = 127 then [92, 117, 123] ++ hexN c.toNat ++ [125] else utf8 c
theorem utf8_len (c : Int) : (utf8 c).length ≤ 4 := by
  have : ∀ c : Nat, ((if c < 0x80 then ⟨#[UInt8.ofNat c]⟩
      else if c < 0x800 then ⟨#[UInt8.ofNat (0xC0 + c / 64), UInt8.ofNat (0x80 + c % 64)]⟩
      else if c < 0x10000 then ⟨#[UInt8.ofNat (0xE0 + c / 4096), UInt8.ofNat (0x80 + c / 64 % 64), UInt8.ofNat (0x80 + c % 64)]⟩
      else ⟨#[UInt8.ofNat (0xF0 + c / 262144), UInt8.ofNat (0x80 + c / 4096 % 64), UInt8.ofNat (0x80 + c / 64 % 64), UInt8.ofNat (0x80 + c % 64)]⟩ : ByteArray).data.toList).length ≤ 4 := fun c => by
    (repeat' split) <;> simp
  exact this _
theorem hexN_len (n : Nat) : (hexN n).length ≤ 2 := by unfold hexN; split <;> simp
def conEs0 : Con := fun k ds S => match k with
  | 79 => match ds with
    | [.int .i64 n, .int .i64 16] => some (pC [.int .i64 n, .int .i64 16] (.str (hexN n.toNat)) (0 ≤ n ∧ n < 128))
    | _ => none
  | k => conNu k ds S
theorem conEs0_ok : ConOk Tryd.prog conEs0 := by
  intro k ds S A h
  unfold conEs0 at h
  split at h
  · split at h
    · injection h with h; subst h
      exact pC_ok fun h1 => ⟨weakL_refl _, hex_ok _ h1⟩
    · cases h
  · exact conNu_ok _ _ _ _ h
noncomputable def Ees : Senv := EC conEs0 32 2 [4, 5, 6, 8, 10, 12, 24] (fun _ => ([], []))
noncomputable section
def fm3q0 (p0 p1 : Int) : List UInt8 := escB p0 p1
def fm3q1 (p0 : Int) : List UInt8 := Array.toList (ByteArray.data (Utf8.encode p0))
def fm3q2 (p0 p1 : Int) : Prop := side (N1 + LN (fm3q1 p0) ≤ (9223372036854775807 : Nat)) (True ∧ ∃ (_y : Unit), True ∧ (92 : UInt8) :: List.append [] (fm3q1 p0) = fm3q0 p0 p1 ∧ True ∧ True)
def fm3q3 (p0 : Int) : Bool := bif decide (p0 < (32 : Int)) then true else p0 == (127 : Int)
def fm3q4 (p0 : Int) : List UInt8 := hexN (Int.toNat (IntKind.wrap IntKind.i64 p0))
def fm3q5 (p0 : Int) : List UInt8 := List.append [] (fm3q4 p0)
def fm3q6 (p0 p1 : Int) : Prop := ifB (decide (p0 < (32 : Int))) (true = fm3q3 p0 ∧ True) ((p0 == (127 : Int)) = fm3q3 p0 ∧ True) ∧ ifB (fm3q3 p0) ((Z0 ≤ IntKind.wrap IntKind.i64 p0 ∧ IntKind.wrap IntKind.i64 p0 < (128 : Int)) ∧ ∀ (_y : Unit), True → side ((3 : Nat) + LN (fm3q4 p0) ≤ (9223372036854775807 : Nat)) (side (LN ((92 : UInt8) :: (117 : UInt8) :: (123 : UInt8) :: fm3q5 p0) + N1 ≤ (9223372036854775807 : Nat)) (True ∧ ∃ (_y : Unit), True ∧ (92 : UInt8) :: (117 : UInt8) :: (123 : UInt8) :: List.append (fm3q5 p0) [(125 : UInt8)] = fm3q0 p0 p1 ∧ True ∧ True))) (True ∧ ∃ (_y : Unit), True ∧ fm3q1 p0 = fm3q0 p0 p1 ∧ True ∧ True)
end
theorem esc_ok (c q : Int) (h : 0 ≤ c ∧ c ≤ 1114111) : ACalls Tryd.prog 64 [.int .i32 c, .int .i32 q] ⟨[], []⟩ (SpecR (sC [.int .i32 c, .int .i32 q] (.str (escB c q))) ()) := by
  refine con_of (A := sC _ _) (x := ()) (E := Ees) (eOk conEs0_ok rfl) Tryd.func64 rfl (by kernel_rfl) rfl (by simp [sC, Ees, EC, E0]) ?_
  refine vc_eq (T :=
    ifB (c == (10 : Int)) (True ∧ ∃ (y : Unit), True ∧ [(92 : UInt8), (110 : UInt8)] = fm3q0 c q ∧ True ∧ True) (ifB (c == (9 : Int)) (True ∧ ∃ (y : Unit), True ∧ [(92 : UInt8), (116 : UInt8)] = fm3q0 c q ∧ True ∧ True) (ifB (c == (13 : Int)) (True ∧ ∃ (y : Unit), True ∧ [(92 : UInt8), (114 : UInt8)] = fm3q0 c q ∧ True ∧ True) (ifB (c == (92 : Int)) (ifB (c == (92 : Int)) (fm3q2 c q) (fm3q6 c q)) (ifB (c == q) (fm3q2 c q) (fm3q6 c q)))))) (by kernel_rfl) ?_
  delta LN N1 Z0 fm3q0 fm3q1 fm3q2 fm3q3 fm3q4 fm3q5 fm3q6
  have e : IntKind.i64.wrap c = c := wrap_i64' (by omega) (by omega)
  have l1 := utf8_len c
  have l2 := hexN_len c.toNat
  unfold utf8 at l1
  have a1 : ∀ l : List UInt8, [].append l = l := fun _ => rfl
  have a2 : ∀ l r : List UInt8, l.append r = l ++ r := fun _ _ => rfl
  simp only [a1, a2, ifB_iff, side_iff, e, beq_iff_eq, beq_eq_false_iff_ne, decide_eq_true_eq, decide_eq_false_iff_not, Bool.cond_true_left, Bool.or_eq_true, Bool.or_eq_false_iff, true_and, and_true, exists_const, forall_const, List.length_cons]
  refine ⟨fun h => by subst h; rfl, fun h1 => ⟨fun h => by subst h; rfl, fun h2 => ⟨fun h => by subst h; rfl, fun h3 => ⟨fun h4 => ⟨fun _ => ⟨by omega, ?_⟩, fun hh => (hh h4).elim⟩, fun h4 => ⟨fun h5 => ⟨by omega, ?_⟩, fun h5 => ⟨⟨fun h => by simp [h], fun h => by simp [h]⟩, fun h6 => ⟨by omega, by omega, by omega, ?_⟩, fun h6 => ?_⟩⟩⟩⟩⟩⟩
  · unfold escB; rw [if_neg h1, if_neg h2, if_neg h3, if_pos (.inl h4)]; rfl
  · unfold escB; rw [if_neg h1, if_neg h2, if_neg h3, if_pos (.inr h5)]; rfl
  · unfold escB; rw [if_neg h1, if_neg h2, if_neg h3, if_neg (by omega), if_pos h6]; rfl
  · unfold escB; rw [if_neg h1, if_neg h2, if_neg h3, if_neg (by omega), if_neg (by omega)]; rfl
theorem dig16 : ∀ k, k < 16 → List.drop k (List.take (k + 1) ([48, 49, 50, 51, 52, 53, 54, 55, 56, 57, 97, 98, 99, 100, 101, 102] : List UInt8)) = [digU k] := by decide
noncomputable def Erh1 : Senv := EC con0 22 1 [2, 3, 5] (fun id => match id with | 4 => ([0, 1, 3, 4, 5, 6, 7, 8, 9, 2, 10, 11], [2]) | _ => ([], []))
theorem rhex1 (n : Int) (h : 0 ≤ n ∧ n < 16) : ACalls Tryd.prog 81 [.int .i64 n] ⟨[], []⟩ (SpecR (sC [.int .i64 n] (.str [digU n.toNat])) ()) := by
  refine con_of (A := sC _ _) (x := ()) (E := { Erh1 with inl := fun _ _ _ _ => False }) ⟨tab_ok, con0_ok, mix, fun _ _ _ _ h => h.elim, eqs_ok⟩ Tryd.func81 rfl (by kernel_rfl) rfl (by simp [sC, Erh1, EC, E0]) ?_
  refine vc_eq (T :=
    ifB (decide (n < (16 : Int))) (side (Z0 ≤ n ∧ n ≤ IntKind.wrap IntKind.i64 (n + Z1) ∧ IntKind.wrap IntKind.i64 (n + Z1) ≤ (16 : Int)) (True ∧ ∃ (y : Unit), True ∧ List.drop (Int.toNat n) (List.take (Int.toNat (IntKind.wrap IntKind.i64 (n + Z1))) [(48 : UInt8), (49 : UInt8), (50 : UInt8), (51 : UInt8), (52 : UInt8), (53 : UInt8), (54 : UInt8), (55 : UInt8), (56 : UInt8), (57 : UInt8), (97 : UInt8), (98 : UInt8), (99 : UInt8), (100 : UInt8), (101 : UInt8), (102 : UInt8)]) = [digU (Int.toNat n)] ∧ True ∧ True)) (side (Z0 ≤ Int.tmod n (16 : Int) ∧ Int.tmod n (16 : Int) ≤ IntKind.wrap IntKind.i64 (Int.tmod n (16 : Int) + Z1) ∧ IntKind.wrap IntKind.i64 (Int.tmod n (16 : Int) + Z1) ≤ (16 : Int)) False)) (by kernel_rfl) ?_
  delta Z0 Z1
  rw [ifB_iff]
  refine ⟨fun _ => ?_, fun h1 => absurd h.2 (by simpa using h1)⟩
  rw [side_iff, wrap_i64' (by omega) (by omega)]
  refine ⟨by omega, trivial, (), trivial, ?_, trivial, trivial⟩
  rw [show (n + 1).toNat = n.toNat + 1 by omega]
  exact dig16 _ (by omega)
def conRh : Con := fun k ds S => match k with
  | 81 => match ds with
    | [.int .i64 n] => some (pC [.int .i64 n] (.str [digU n.toNat]) (0 ≤ n ∧ n < 16))
    | _ => none
  | k => conEs0 k ds S
theorem conRh_ok : ConOk Tryd.prog conRh := by
  intro k ds S A h
  unfold conRh at h
  split at h
  · split at h
    · injection h with h; subst h
      exact pC_ok fun h1 => ⟨weakL_refl _, rhex1 _ h1⟩
    · cases h
  · exact conEs0_ok _ _ _ _ h
noncomputable def Erh2 : Senv := EC conRh 22 1 [2, 3, 5] (fun id => match id with | 4 => ([0, 1, 3, 4, 5, 6, 7, 8, 9, 2, 10, 11], [2]) | _ => ([], []))
noncomputable section
def fm3q7 : List UInt8 := [(48 : UInt8), (49 : UInt8), (50 : UInt8), (51 : UInt8), (52 : UInt8), (53 : UInt8), (54 : UInt8), (55 : UInt8), (56 : UInt8), (57 : UInt8), (97 : UInt8), (98 : UInt8), (99 : UInt8), (100 : UInt8), (101 : UInt8), (102 : UInt8)]
def fm3q8 (p0 : Int) : Int := IntKind.wrap IntKind.i64 (Int.tmod p0 (16 : Int) + Z1)
def fm3q9 (p0 : Int) : List UInt8 := List.drop (Int.toNat (Int.tmod p0 (16 : Int))) (List.take (Int.toNat (fm3q8 p0)) fm3q7)
end
theorem rhex_ok (n : Int) (h : 0 ≤ n ∧ n < 128) : ACalls Tryd.prog 81 [.int .i64 n] ⟨[], []⟩ (SpecR (sC [.int .i64 n] (.str (hexN n.toNat))) ()) := by
  refine con_of (A := sC _ _) (x := ()) (E := Erh2) (eOk conRh_ok rfl) Tryd.func81 rfl (by kernel_rfl) rfl (by simp [sC, Erh2, EC, E0]) ?_
  refine vc_eq (T :=
    ifB (decide (n < (16 : Int))) (side (Z0 ≤ n ∧ n ≤ IntKind.wrap IntKind.i64 (n + Z1) ∧ IntKind.wrap IntKind.i64 (n + Z1) ≤ (16 : Int)) (True ∧ ∃ (y : Unit), True ∧ List.drop (Int.toNat n) (List.take (Int.toNat (IntKind.wrap IntKind.i64 (n + Z1))) fm3q7) = hexN (Int.toNat n) ∧ True ∧ True)) (side (Z0 ≤ Int.tmod n (16 : Int) ∧ Int.tmod n (16 : Int) ≤ fm3q8 n ∧ fm3q8 n ≤ (16 : Int)) ((Z0 ≤ IntKind.wrap IntKind.i64 (Int.tdiv n (16 : Int)) ∧ IntKind.wrap IntKind.i64 (Int.tdiv n (16 : Int)) < (16 : Int)) ∧ ∀ (y : Unit), True → side (N1 + LN (fm3q9 n) ≤ (9223372036854775807 : Nat)) (True ∧ ∃ (y : Unit), True ∧ digU (Int.toNat (IntKind.wrap IntKind.i64 (Int.tdiv n (16 : Int)))) :: List.append [] (fm3q9 n) = hexN (Int.toNat n) ∧ True ∧ True)))) (by kernel_rfl) ?_
  delta LN N1 Z0 Z1 fm3q7 fm3q8 fm3q9
  rw [ifB_iff]
  have ho : n.tmod 16 = ((n.toNat % 16 : Nat) : Int) := by
    obtain ⟨m, rfl⟩ : ∃ m : Nat, n = m := ⟨n.toNat, by omega⟩
    rfl
  have hd : n.tdiv 16 = ((n.toNat / 16 : Nat) : Int) := by
    obtain ⟨m, rfl⟩ : ∃ m : Nat, n = m := ⟨n.toNat, by omega⟩
    rfl
  refine ⟨fun h1 => ?_, fun h1 => ?_⟩
  · have h1 : n < 16 := by simpa using h1
    rw [side_iff, wrap_i64' (by omega) (by omega)]
    refine ⟨by omega, trivial, (), trivial, ?_, trivial, trivial⟩
    rw [show (n + 1).toNat = n.toNat + 1 by omega, dig16 _ (by omega)]
    unfold hexN; rw [if_pos (by omega)]
  · have h1 : ¬ n < 16 := by simpa using h1
    have e1 : IntKind.i64.wrap (((n.toNat % 16 : Nat) : Int) + 1) = ((n.toNat % 16 + 1 : Nat) : Int) := by rw [wrap_i64' (by omega) (by omega)]; omega
    have e2 : IntKind.i64.wrap ((n.toNat / 16 : Nat) : Int) = ((n.toNat / 16 : Nat) : Int) := wrap_i64' (by omega) (by omega)
    rw [ho, hd, e1, e2, side_iff]
    refine ⟨by omega, by omega, fun _ _ => ?_⟩
    rw [Int.toNat_natCast, Int.toNat_natCast, Int.toNat_natCast, dig16 _ (by omega), side_iff]
    refine ⟨by simp, trivial, (), trivial, ?_, trivial, trivial⟩
    unfold hexN; rw [if_neg (by omega)]; rfl
def conEs : Con := fun k ds S => match k with
  | 81 => match ds with
    | [.int .i64 n] => some (pC [.int .i64 n] (.str (hexN n.toNat)) (0 ≤ n ∧ n < 128))
    | _ => none
  | 64 => match ds with
    | [.int .i32 c, .int .i32 q] => some (pC [.int .i32 c, .int .i32 q] (.str (escB c q)) (0 ≤ c ∧ c ≤ 1114111))
    | _ => none
  | k => conEs0 k ds S
theorem conEs_ok : ConOk Tryd.prog conEs := by
  intro k ds S A h
  unfold conEs at h
  split at h
  · split at h
    · injection h with h; subst h
      exact pC_ok fun h1 => ⟨weakL_refl _, rhex_ok _ h1⟩
    · cases h
  · split at h
    · injection h with h; subst h
      exact pC_ok fun h1 => ⟨weakL_refl _, esc_ok _ _ h1⟩
    · cases h
  · exact conEs0_ok _ _ _ _ h
noncomputable def Erx : Senv := EC conEs 33 2 [4, 5, 6, 8, 10, 12, 25] (fun _ => ([], []))
noncomputable section
def fm3q10 (p0 p1 : Int) : List UInt8 := escB p0 p1
def fm3q11 (p0 : Int) : List UInt8 := Array.toList (ByteArray.data (Utf8.encode (IntKind.wrap IntKind.i32 p0)))
def fm3q12 (p0 p1 : Int) : Prop := side (N1 + LN (fm3q11 p0) ≤ (9223372036854775807 : Nat)) (True ∧ ∃ (_y : Unit), True ∧ (92 : UInt8) :: List.append [] (fm3q11 p0) = fm3q10 p0 p1 ∧ True ∧ True)
def fm3q13 (p0 : Int) : Bool := bif decide (p0 < (32 : Int)) then true else p0 == (127 : Int)
def fm3q14 (p0 : Int) : List UInt8 := List.append [] (hexN (Int.toNat p0))
def fm3q15 (p0 p1 : Int) : Prop := ifB (decide (p0 < (32 : Int))) (true = fm3q13 p0 ∧ True) ((p0 == (127 : Int)) = fm3q13 p0 ∧ True) ∧ ifB (fm3q13 p0) ((Z0 ≤ p0 ∧ p0 < (128 : Int)) ∧ ∀ (_y : Unit), True → side ((3 : Nat) + LN (hexN (Int.toNat p0)) ≤ (9223372036854775807 : Nat)) (side (LN ((92 : UInt8) :: (117 : UInt8) :: (123 : UInt8) :: fm3q14 p0) + N1 ≤ (9223372036854775807 : Nat)) (True ∧ ∃ (_y : Unit), True ∧ (92 : UInt8) :: (117 : UInt8) :: (123 : UInt8) :: List.append (fm3q14 p0) [(125 : UInt8)] = fm3q10 p0 p1 ∧ True ∧ True))) (True ∧ ∃ (_y : Unit), True ∧ fm3q11 p0 = fm3q10 p0 p1 ∧ True ∧ True)
end
theorem rchar_ok (c q : Int) (h : 0 ≤ c ∧ c ≤ 1114111) : ACalls Tryd.prog 68 [.int .i64 c, .int .i64 q] ⟨[], []⟩ (SpecR (sC [.int .i64 c, .int .i64 q] (.str (escB c q))) ()) := by
  refine con_of (A := sC _ _) (x := ()) (E := Erx) (eOk conEs_ok rfl) Tryd.func68 rfl (by kernel_rfl) rfl (by simp [sC, Erx, EC, E0]) ?_
  refine vc_eq (T :=
    ifB (c == (10 : Int)) (True ∧ ∃ (y : Unit), True ∧ [(92 : UInt8), (110 : UInt8)] = fm3q10 c q ∧ True ∧ True) (ifB (c == (9 : Int)) (True ∧ ∃ (y : Unit), True ∧ [(92 : UInt8), (116 : UInt8)] = fm3q10 c q ∧ True ∧ True) (ifB (c == (13 : Int)) (True ∧ ∃ (y : Unit), True ∧ [(92 : UInt8), (114 : UInt8)] = fm3q10 c q ∧ True ∧ True) (ifB (c == (92 : Int)) (ifB (c == (92 : Int)) (fm3q12 c q) (fm3q15 c q)) (ifB (c == q) (fm3q12 c q) (fm3q15 c q)))))) (by kernel_rfl) ?_
  delta LN N1 Z0 fm3q10 fm3q11 fm3q12 fm3q13 fm3q14 fm3q15
  have e : IntKind.i32.wrap c = c := by rw [IntKind.wrap_i32]; omega
  have l1 := utf8_len c
  have l2 := hexN_len c.toNat
  unfold utf8 at l1
  have a1 : ∀ l : List UInt8, [].append l = l := fun _ => rfl
  have a2 : ∀ l r : List UInt8, l.append r = l ++ r := fun _ _ => rfl
  simp only [a1, a2, ifB_iff, side_iff, e, beq_iff_eq, beq_eq_false_iff_ne, decide_eq_true_eq, decide_eq_false_iff_not, Bool.cond_true_left, Bool.or_eq_true, Bool.or_eq_false_iff, true_and, and_true, exists_const, forall_const, List.length_cons]
  refine ⟨fun h => by subst h; rfl, fun h1 => ⟨fun h => by subst h; rfl, fun h2 => ⟨fun h => by subst h; rfl, fun h3 => ⟨fun h4 => ⟨fun _ => ⟨by omega, ?_⟩, fun hh => (hh h4).elim⟩, fun h4 => ⟨fun h5 => ⟨by omega, ?_⟩, fun h5 => ⟨⟨fun h => by simp [h], fun h => by simp [h]⟩, fun h6 => ⟨by omega, by omega, by omega, ?_⟩, fun h6 => ?_⟩⟩⟩⟩⟩⟩
  · unfold escB; rw [if_neg h1, if_neg h2, if_neg h3, if_pos (.inl h4)]; rfl
  · unfold escB; rw [if_neg h1, if_neg h2, if_neg h3, if_pos (.inr h5)]; rfl
  · unfold escB; rw [if_neg h1, if_neg h2, if_neg h3, if_neg (by omega), if_pos h6]; rfl
  · unfold escB; rw [if_neg h1, if_neg h2, if_neg h3, if_neg (by omega), if_neg (by omega)]; rfl
end Go.Proofs.YtpgepjefbhgblaaDoor
namespace Go.Proofs.YtpgepjefbhgblaaDoor
open Go Go.Ab
theorem bytesOf_bsl (l : List UInt8) : bytesOf l.length (fun i => [.int .u8 ((l.getD i 0).toNat : Int)]) = l := by
  apply List.ext_getElem
  · simp [bytesOf]
  · intro i h1 h2
    simp only [bytesOf, List.getElem_map, List.getElem_range, rowByte, Ab.byteOf, List.getD_eq_getElem?_getD, List.getElem?_eq_getElem h2, Option.getD_some, Int.toNat_natCast, UInt8.ofNat_toNat]
theorem rowsB_bsl (l : List UInt8) : rowsB l.length (fun i => [.int .u8 ((l.getD i 0).toNat : Int)]) = true := by
  simp only [rowsB, List.all_eq_true, List.mem_range]
  intro i _
  have := (l.getD i 0).toNat_lt
  simp only [rowB, Ab.byteB, Bool.and_eq_true, decide_eq_true_eq]; omega
theorem bsl_weak {n : Nat} {g : Nat → List D} {m : Ab.Mode} (h : rowsB n g = true) : weakD (.sl 1 n g m) (bsl (bytesOf n g) m) := by
  simp only [bsl, weakD, chk_iff]
  refine ⟨by simp, by simp [bytesOf], fun i hi => ?_, weakM_refl m⟩
  have hb : rowB (g i) = true := List.all_eq_true.1 h i (List.mem_range.2 hi)
  have hg : (bytesOf n g).getD i 0 = rowByte (g i) := by simp [bytesOf, List.getD_eq_getElem?_getD, hi]
  rw [hg]
  unfold rowB at hb
  split at hb
  · rename_i d hd
    rw [hd]
    have := byteB_eq hb
    simp only [rowByte]
    rw [← this]
  · cases hb
theorem app_bsl (l r : List UInt8) {i : Nat} (_hi : i < l.length + r.length) : appF l.length (fun i => [D.int .u8 ((l.getD i 0).toNat : Int)]) (fun i => [D.int .u8 ((r.getD i 0).toNat : Int)]) i = [D.int .u8 (((l ++ r).getD i 0).toNat : Int)] := by
  simp only [appF]
  split
  · rename_i hlt
    simp [List.getD_eq_getElem?_getD, List.getElem?_append_left hlt]
  · rename_i hge
    simp [List.getD_eq_getElem?_getD, List.getElem?_append_right (Nat.le_of_not_lt hge)]
theorem app_gen {n : Nat} {l r : List UInt8} {F G : Nat → List D} (hn : n = l.length) (hF : ∀ i, i < n → F i = [D.int .u8 ((l.getD i 0).toNat : Int)]) (hG : ∀ i, i < r.length → G i = [D.int .u8 ((r.getD i 0).toNat : Int)]) :
    ∀ i, i < n + r.length → appF n F G i = [D.int .u8 (((l ++ r).getD i 0).toNat : Int)] := by
  intro i hi
  subst hn
  rw [← app_bsl l r hi]
  simp only [appF]
  split
  · exact hF i (by assumption)
  · exact hG _ (by omega)
theorem bytesOf_eq {n : Nat} {l : List UInt8} {F : Nat → List D} (hn : n = l.length) (hF : ∀ i, i < n → F i = [D.int .u8 ((l.getD i 0).toNat : Int)]) : bytesOf n F = l := by
  subst hn
  conv => rhs; rw [← bytesOf_bsl l]
  unfold bytesOf
  exact List.map_congr_left fun i hi => by rw [hF i (List.mem_range.1 hi)]
theorem rowsB_eq {n : Nat} {l : List UInt8} {F : Nat → List D} (hn : n = l.length) (hF : ∀ i, i < n → F i = [D.int .u8 ((l.getD i 0).toNat : Int)]) : rowsB n F = true := by
  subst hn
  have h := rowsB_bsl l
  simp only [rowsB, List.all_eq_true, List.mem_range] at h ⊢
  intro i hi
  rw [hF i hi]; exact h i hi
theorem app_row' {n : Nat} {l : List UInt8} {F : Nat → List D} {z : Int} {b : UInt8} (hn : n = l.length) (hF : ∀ i, i < n → F i = [D.int .u8 ((l.getD i 0).toNat : Int)]) (h : z = (b.toNat : Int)) :
    ∀ i, i < n + 1 → appF n F (fun i => [[D.int .u8 z]].getD i []) i = [D.int .u8 (((l ++ [b]).getD i 0).toNat : Int)] := by
  intro i hi
  subst hn
  simp only [appF]
  split
  · rename_i hlt
    rw [hF i hlt]
    simp [List.getD_eq_getElem?_getD, List.getElem?_append_left hlt]
  · have : i = l.length := by omega
    subst this
    simp [List.getD_eq_getElem?_getD, h]
end Go.Proofs.YtpgepjefbhgblaaDoor
namespace Go.Proofs.YtpgepjefbhgblaaDoor
open Go Go.Ab
set_option maxRecDepth 100000
def escL (q : Int) (l : List Int) : List UInt8 := l.flatMap fun c => escB c q
def quoB (q : Int) (l : List Int) : List UInt8 := utf8 q ++ escL q l ++ utf8 q
theorem escB_len (c q : Int) : (escB c q).length ≤ 6 := by
  have h1 := utf8_len c
  have h2 := hexN_len c.toNat
  unfold escB
  (repeat' split) <;> (try simp only [List.length_cons, List.length_nil, List.length_append]) <;> omega
theorem escL_len (q : Int) : ∀ l : List Int, (escL q l).length ≤ 6 * l.length
  | [] => by simp [escL]
  | c :: l => by
    have h1 := escB_len c q
    have h2 := escL_len q l
    simp only [escL, List.flatMap_cons, List.length_append, List.length_cons] at h2 ⊢
    omega
theorem escL_cons (q c : Int) (l : List Int) : escL q (c :: l) = escB c q ++ escL q l := by simp [escL]
theorem escL_nil (q : Int) : escL q [] = [] := rfl
theorem memI {l : List Int} {i : Nat} (h : i < l.length) : l.getD i 0 ∈ l := by
  rw [List.getD_eq_getElem?_getD, List.getElem?_eq_getElem h]; simp
structure QHd (q : Int) (l : List Int) (i : Nat) (pre out : List UInt8) : Prop where
  hi : i ≤ l.length
  ho : out ++ escL q (l.drop i) = pre ++ escL q l
theorem QHd.init (q : Int) (l : List Int) (pre : List UInt8) : QHd q l 0 pre pre := ⟨Nat.zero_le _, by simp⟩
theorem QHd.step {q : Int} {l : List Int} {i : Nat} {pre out : List UInt8} (h : QHd q l i pre out) (hlt : i < l.length) : QHd q l (i + 1) pre (out ++ escB (l.getD i 0) q) := by
  refine ⟨by omega, ?_⟩
  rw [← h.ho, drop_stepI hlt, escL_cons, List.append_assoc]
theorem QHd.len {q : Int} {l : List Int} {i : Nat} {pre out : List UInt8} (h : QHd q l i pre out) : out.length ≤ pre.length + 6 * l.length := by
  have := congrArg List.length h.ho
  have := escL_len q l
  simp only [List.length_append] at *; omega
theorem QHd.done {q : Int} {l : List Int} {i : Nat} {pre out : List UInt8} (h : QHd q l i pre out) (hge : ¬ i < l.length) : out = pre ++ escL q l := by
  have := h.ho
  rw [List.drop_of_length_le (by omega), escL_nil, List.append_nil] at this
  exact this
noncomputable def Equ (q : Int) (l : List Int) : Senv := { EC conEs 27 2 [4, 5, 7, 10, 11, 12, 13] (fun _ => ([], [])) with
  ann := fun b _ _ => match b with
    | 0 => some { slots := [12, 5], keep := [0, 1, 10, 11], α := Nat × List UInt8, st := fun y => ([.int .i64 y.1, .str y.2], ⟨[], []⟩), inv := fun y => QHd q l y.1 (utf8 q) y.2, mu := fun y => l.length - y.1 }
    | _ => none }
noncomputable section
def fm4q0 (p0 : Int) (p1 : List Int) (p2 : Nat) (p3 : List UInt8) : Prop := QHd p0 p1 p2 (utf8 p0) p3
def fm4q1 (p0 : Int) : List UInt8 := Array.toList (ByteArray.data (Utf8.encode p0))
def fm4q2 (p0 : List Int) (p1 : Nat) : Int := IntKind.wrap IntKind.i32 (GI p0 (Int.toNat (↑p1 : Int)))
def fm4q3 (p0 : List Int) : D := SI p0
def fm4q4 (p0 : List Int) : Prop := SM (fm4q3 p0)
end
theorem quo_ok (q : Int) (l : List Int) (hl : l.length ≤ 1099511627776) (hc : ∀ c ∈ l, 0 ≤ c ∧ c ≤ 1114111) : ACalls Tryd.prog 38 [.int .i32 q, isl l .any] ⟨[], []⟩ (SpecR (sC [.int .i32 q, isl l .any] (.str (quoB q l))) ()) := by
  refine con_of (A := sC _ _) (x := ()) (E := Equ q l) (eOk conEs_ok rfl) Tryd.func38 rfl (by kernel_rfl) rfl (by simp [sC, Equ, EC, E0]) ?_
  refine vc_eq (T :=
    (∃ (x : Nat × List UInt8), fm4q0 q l x.1 x.2 ∧ (Z0 = (NI x.1) ∧ fm4q1 q = x.2 ∧ True) ∧ True ∧ True) ∧ ∀ (x : Nat × List UInt8), fm4q0 q l x.1 x.2 → ifB (decide ((NI x.1) < (LI l))) (side (Z0 ≤ (NI x.1) ∧ (NI x.1) < (LI l)) ((Z0 ≤ fm4q2 l x.1 ∧ fm4q2 l x.1 ≤ (1114111 : Int)) ∧ ∀ (y : Unit), True → side (LN x.2 + LN (escB (fm4q2 l x.1) q) ≤ (9223372036854775807 : Nat)) ((SM (D.int IntKind.i32 q) ∧ fm4q4 l ∧ fm4q4 l ∧ SM (ZI (LI l)) ∧ True) ∧ ∃ (y : Nat × List UInt8), fm4q0 q l y.1 y.2 ∧ LN l - y.1 < LN l - x.1 ∧ (IntKind.wrap IntKind.i64 ((NI x.1) + Z1) = (NI y.1) ∧ x.2 ++ escB (fm4q2 l x.1) q = y.2 ∧ True) ∧ True ∧ True))) (side (LN x.2 + LN (fm4q1 q) ≤ (9223372036854775807 : Nat)) (True ∧ ∃ (y : Unit), True ∧ x.2 ++ fm4q1 q = quoB q l ∧ True ∧ True))) (by kernel_rfl) ?_
  delta GI LI LN N1 NI SI SM Z0 Z1 ZI fm4q0 fm4q1 fm4q2 fm4q3 fm4q4
  have hu : ∀ c, (Utf8.encode c).data.toList = utf8 c := fun _ => rfl
  simp only [hu, ifB_iff, side_iff, decide_eq_true_eq, true_and, and_true, exists_const, forall_const, Int.toNat_natCast, eq_self]
  refine ⟨⟨(0, utf8 q), QHd.init _ _ _, rfl, rfl⟩, ?_⟩
  rintro ⟨i, out⟩ hh
  simp only at hh ⊢
  have h1 := hh.len
  have h2 := utf8_len q
  refine ⟨fun hlt => ?_, fun hge => ?_⟩
  · have hlt' : i < l.length := by omega
    have hci := hc (l.getD i 0) (memI hlt')
    have e : IntKind.i32.wrap (l.getD i 0) = l.getD i 0 := by rw [IntKind.wrap_i32]; omega
    have h3 := escB_len (l.getD i 0) q
    rw [e]
    exact ⟨by omega, hci, by omega, (i + 1, out ++ escB (l.getD i 0) q), hh.step hlt', by simp only; omega, wrap_i64' (by omega) (by omega), rfl⟩
  · have hge' : ¬ i < l.length := by simpa using hge
    have h3 := escL_len q l
    rw [hh.done hge']
    exact ⟨by simp only [List.length_append]; omega, rfl⟩
def conRc : Con := fun k ds S => match k with
  | 68 => match ds with
    | [.int .i64 c, .int .i64 q] => some (pC [.int .i64 c, .int .i64 q] (.str (escB c q)) (0 ≤ c ∧ c ≤ 1114111))
    | _ => none
  | k => conEs k ds S
theorem conRc_ok : ConOk Tryd.prog conRc := by
  intro k ds S A h
  unfold conRc at h
  split at h
  · split at h
    · injection h with h; subst h
      exact pC_ok fun h1 => ⟨weakL_refl _, rchar_ok _ _ h1⟩
    · cases h
  · exact conEs_ok _ _ _ _ h
noncomputable def Erq (l : List Int) : Senv := { EC conRc 25 5 [10] (fun _ => ([], [])) with
  gh := fun b => match b with
    | 0 => [.slot 3]
    | _ => []
  ann := fun b _ S => match b with
    | 0 => some { slots := [4, 3], keep := [0, 1], α := Nat × Nat × List UInt8, st := fun y => ([.int .i64 y.1, bsl y.2.2 (.tok 0 y.2.1)], ⟨S.objs, [(0, y.2.1)]⟩), inv := fun y => QHd 34 l y.1 [34] y.2.2, mu := fun y => l.length - y.1 }
    | _ => none }
noncomputable section
def fm4q5 (p0 : List UInt8) (p1 : Nat) : List D := [ZB (BI p0 p1)]
def fm4q6 (p0 : Nat) (p1 : Int) (p2 : Nat) (p3 : Nat → List D) (p4 : List Int) (p5 : Nat) (p6 : Nat → List D) (p7 p8 : Nat) : Prop := (SM p0 ∧ (SM p1 ∧ (SM p2 ∧ (∀ (i : Nat), i < p2 → SM (p3 i)) ∧ True) ∧ (SM (LN p4) ∧ (∀ (i : Nat), i < LN p4 → SM [ZI (GI p4 i)]) ∧ True) ∧ (SM p5 ∧ (∀ (i : Nat), i < p5 → SM (p6 i)) ∧ True) ∧ True) ∧ True) ∧ p7 = p8 ∧ True
def fm4q7 (p0 : List UInt8) (p1 : List Int) (p2 : Nat) : Nat := LN p0 + LN (escB (GI p1 (Int.toNat (↑p2 : Int))) (34 : Int))
end
theorem rquo_ok (k : Int) (n1 n2 : Nat) (f1 f2 : Nat → List D) (l : List Int) (hl : l.length ≤ 1099511627776) (hc : ∀ c ∈ l, 0 ≤ c ∧ c ≤ 1114111) : ACalls Tryd.prog 45 [.agg [.int .i64 k, .sl 1 n1 f1 .any, isl l .any, .sl 4 n2 f2 .any]] ⟨[], []⟩ (SpecR (sC [.agg [.int .i64 k, .sl 1 n1 f1 .any, isl l .any, .sl 4 n2 f2 .any]] (.str (quoB 34 l))) ()) := by
  refine con_of (A := sC _ _) (x := ()) (E := Erq l) (eOk conRc_ok rfl) Tryd.func45 rfl (by kernel_rfl) rfl (by simp [sC, Erq, EC, E0]) ?_
  refine vc_eq (T :=
    ∀ (x : Nat), True → ∀ (t : Nat), (∃ (x_1 : Nat × Nat × List UInt8), QHd (34 : Int) l x_1.1 [(34 : UInt8)] x_1.2.2 ∧ (Z0 = (NI x_1.1) ∧ (N1 = LN x_1.2.2 ∧ (∀ (i : Nat), i < N1 → List.getD [[ZB (34 : Int)]] i [] = fm4q5 x_1.2.2 i) ∧ t = x_1.2.1) ∧ True) ∧ fm4q6 x k n1 f1 l n2 f2 t x_1.2.1) ∧ ∀ (x_1 : Nat × Nat × List UInt8), QHd (34 : Int) l x_1.1 [(34 : UInt8)] x_1.2.2 → SM x ∧ ifB (decide ((NI x_1.1) < (LI l))) (SM x ∧ side (Z0 ≤ (NI x_1.1) ∧ (NI x_1.1) < (LI l)) ((Z0 ≤ GI l (TN x_1.1) ∧ GI l (TN x_1.1) ≤ (1114111 : Int)) ∧ ∀ (y : Unit), True → SM x_1.2.1 ∧ side (fm4q7 x_1.2.2 l x_1.1 * N1 ≤ (140737488355328 : Nat) ∧ fm4q7 x_1.2.2 l x_1.1 ≤ (9223372036854775807 : Nat)) (∀ (t : Nat), (SM (D.agg [ZI k, D.sl N1 n1 f1 Mode.any, SI l, D.sl N4 n2 f2 Mode.any]) ∧ SM (D.ref N0 x N0) ∧ True) ∧ ∃ (y : Nat × Nat × List UInt8), QHd (34 : Int) l y.1 [(34 : UInt8)] y.2.2 ∧ LN l - y.1 < LN l - x_1.1 ∧ (IntKind.wrap IntKind.i64 ((NI x_1.1) + Z1) = (NI y.1) ∧ (fm4q7 x_1.2.2 l x_1.1 = LN y.2.2 ∧ (∀ (i : Nat), i < fm4q7 x_1.2.2 l x_1.1 → appF (LN x_1.2.2) (fun (i : Nat) => fm4q5 x_1.2.2 i) (fun (i : Nat) => [ZB (BI (escB (GI l (TN x_1.1)) (34 : Int)) i)]) i = fm4q5 y.2.2 i) ∧ t = y.2.1) ∧ True) ∧ fm4q6 x k n1 f1 l n2 f2 t y.2.1))) (SM x_1.2.1 ∧ side ((LN x_1.2.2 + N1) * N1 ≤ (140737488355328 : Nat) ∧ LN x_1.2.2 + N1 ≤ (9223372036854775807 : Nat)) (∀ (t : Nat), True ∧ chk (true && rowsB (LN x_1.2.2 + N1) (appF (LN x_1.2.2) (fun (i : Nat) => fm4q5 x_1.2.2 i) fun (i : Nat) => List.getD [[ZB (34 : Int)]] i [])) (True ∧ ∃ (y : Unit), True ∧ bytesOf (LN x_1.2.2 + N1) (appF (LN x_1.2.2) (fun (i : Nat) => fm4q5 x_1.2.2 i) fun (i : Nat) => List.getD [[ZB (34 : Int)]] i []) = quoB (34 : Int) l ∧ True ∧ True)))) (by kernel_rfl) ?_
  delta BI GI LI LN N0 N1 N4 NI SI SM TN U0 Z0 Z1 ZB ZI fm4q5 fm4q6 fm4q7
  simp only [ifB_iff, side_iff, decide_eq_true_eq, true_and, and_true, exists_const, forall_const, Int.toNat_natCast, eq_self, implies_true]
  have hr : ∀ i, i < 1 → ([[D.int .u8 34]] : List (List D)).getD i [] = [D.int .u8 (([34] : List UInt8).getD i 0).toNat] := fun i hi => by
    have : i = 0 := by omega
    subst this; rfl
  intro t
  refine ⟨⟨(0, t, [34]), QHd.init _ _ _, ⟨rfl, rfl, hr, rfl⟩, rfl⟩, ?_⟩
  rintro ⟨i, t1, out⟩ hh
  simp only at hh ⊢
  have h1 := hh.len
  have h0 : ([34] : List UInt8).length = 1 := rfl
  refine ⟨fun hlt => ?_, fun hge => ?_⟩
  · have hlt' : i < l.length := by omega
    have h3 := escB_len (l.getD i 0) 34
    refine ⟨by omega, hc _ (memI hlt'), by omega, fun t2 => ⟨(i + 1, t2, _), hh.step hlt', by omega, ⟨wrap_i64' (by omega) (by omega), by rw [List.length_append], ?_, rfl⟩, rfl⟩⟩
    exact app_gen rfl (fun _ _ => rfl) (fun _ _ => rfl)
  · have hge' : ¬ i < l.length := by simpa using hge
    have hd := hh.done hge'
    have ha := app_row' (l := out) (b := 34) (z := 34) rfl (fun _ _ => rfl) rfl
    refine ⟨by omega, ?_⟩
    rw [chk_iff, Bool.true_and]
    refine ⟨rowsB_eq (l := out ++ [34]) (by simp) ha, ?_⟩
    rw [bytesOf_eq (l := out ++ [34]) (by simp) ha, hd]; rfl
end Go.Proofs.YtpgepjefbhgblaaDoor
namespace Go.Proofs.YtpgepjefbhgblaaDoor
open Go Go.Ab
set_option maxRecDepth 100000
def ssl (l : List (List UInt8)) (m : Ab.Mode) : D := .sl 1 l.length (fun i => [.str (l.getD i [])]) m
theorem join_ok (l : List (List UInt8)) (sep : List UInt8) (hl : l.length ≤ 140737488355328) (hj : (Lib.join l sep).length ≤ 140737488355328) :
    ACalls Tryd.prog 51 [ssl l .any, .str sep] ⟨[], []⟩ (SpecR (sC [ssl l .any, .str sep] (.str (Lib.join l sep))) ()) := by
  refine ⟨⟨_, Tryd.func51, by kernel_rfl, by kernel_rfl⟩, fun C F args w ha hs => ?_⟩
  obtain ⟨u, v, e, hu, hv⟩ := repL_two' ha
  have e2 : args = [u, v].toArray := by rw [← e]
  subst e2
  simp only [Rep] at hv; subst hv
  simp only [ssl, Rep] at hu
  obtain ⟨a, len, cap, rfl, hh, hr⟩ := hu
  have hlen : len = l.length := hh.1
  subst hlen
  have hF : Sat C F w := by simpa [St.add] using hs
  have fin : ∀ w' e, e = Ending.returned (.string ⟨(Lib.join l sep).toArray⟩) → Go.RowKit.Below w.heap.size w w' → ∃ C' r S', C.le C' ∧ Sat C' (S'.add F) w' ∧ RepEnd C' r e ∧ SpecR (sC [ssl l .any, .str sep] (.str (Lib.join l sep))) () r S' := fun w' e he h =>
    ⟨C, .ret (.str (Lib.join l sep)), ⟨[], []⟩, .refl C, by simpa [St.add] using hF.kept h, by subst he; simp [RepEnd, Rep], (), trivial, rfl, rfl⟩
  by_cases h0 : l = []
  · subst h0
    refine (Tryd.strings_Join_none a cap _ w).mono fun e w' ⟨he, hw⟩ => fin w' e he ?_
    subst hw; exact Go.RowKit.Below.refl _ _
  · have hpos : 0 < l.length := List.length_pos_iff.2 h0
    have ha : ∃ x, a = some x := by
      cases a with
      | none => have := hh.2.2.2.1 rfl; omega
      | some x => exact ⟨x, rfl⟩
    obtain ⟨⟨bk, o, sp⟩, rfl⟩ := ha
    have hsp : sp = none := hh.2.2.2.2.1 _ rfl (by have := hh.2.1; omega)
    subst hsp
    have hcell : ∀ i x, l[i]? = some x → w.cell? ⟨bk, o + i, none⟩ = some (.string ⟨x.toArray⟩) := by
      intro i x hx
      have hi : i < l.length := (List.getElem?_eq_some_iff.1 hx).1
      have hrow := (hr _ rfl i hi).2
      simp only [RepCells] at hrow
      obtain ⟨⟨v, i1, i2⟩, _⟩ := hrow
      simp only [Rep] at i2
      subst i2
      have := hs.imm _ _ _ i1
      have e : l.getD i [] = x := by rw [List.getD_eq_getElem?_getD, hx]; rfl
      rw [e] at this
      simpa using this
    have hsz : bk < w.heap.size := by
      have := hcell 0 (l.getD 0 []) (by rw [List.getD_eq_getElem?_getD, List.getElem?_eq_getElem hpos]; rfl)
      unfold World.cell? at this
      by_cases hb : bk < w.heap.size
      · exact hb
      · rw [Array.getElem?_eq_none (Nat.le_of_not_lt hb)] at this
        cases this
    have hm : (l.map fun s => (⟨s.toArray⟩ : ByteArray)).map (·.data.toList) = l := by simp [Function.comp_def]
    have key := Tryd.strings_Join bk o cap (l.map fun s => (⟨s.toArray⟩ : ByteArray)) ⟨sep.toArray⟩ w (fun i x hx => by
      rw [List.getElem?_map, Option.map_eq_some_iff] at hx
      obtain ⟨y, h1, h2⟩ := hx
      subst h2
      exact hcell i y h1) hsz (by simpa using hl) (by simpa using hh.2.1) (by rw [hm]; exact hj)
    rw [hm, List.length_map] at key
    exact key.mono fun e w' ⟨he, hb⟩ => fin w' e he hb
def rowStr : List D → List UInt8
  | [.str s] => s
  | _ => []
def rowSB : List D → Bool
  | [.str _] => true
  | _ => false
def strsOf (n : Nat) (f : Nat → List D) : List (List UInt8) := (List.range n).map fun i => rowStr (f i)
def strsB (n : Nat) (f : Nat → List D) : Bool := (List.range n).all fun i => rowSB (f i)
theorem ssl_weak {n : Nat} {f : Nat → List D} {m : Ab.Mode} (h : strsB n f = true) : weakD (.sl 1 n f m) (ssl (strsOf n f) .any) := by
  simp only [ssl, weakD, chk_iff]
  refine ⟨by simp, by simp [strsOf], fun i hi => ?_, by cases m <;> simp [weakM]⟩
  have hb : rowSB (f i) = true := List.all_eq_true.1 h i (List.mem_range.2 hi)
  have hg : (strsOf n f).getD i [] = rowStr (f i) := by simp [strsOf, List.getD_eq_getElem?_getD, hi]
  rw [hg]
  unfold rowSB at hb
  split at hb
  · rename_i s hd; rw [hd]; rfl
  · cases hb
theorem strsOf_eq {n : Nat} {l : List (List UInt8)} {F : Nat → List D} (hn : n = l.length) (hF : ∀ i, i < n → F i = [D.str (l.getD i [])]) : strsOf n F = l := by
  subst hn
  apply List.ext_getElem
  · simp [strsOf]
  · intro i h1 h2
    simp only [strsOf, List.getElem_map, List.getElem_range, hF i h2, rowStr, List.getD_eq_getElem?_getD, List.getElem?_eq_getElem h2, Option.getD_some]
theorem strsB_eq {n : Nat} {l : List (List UInt8)} {F : Nat → List D} (hn : n = l.length) (hF : ∀ i, i < n → F i = [D.str (l.getD i [])]) : strsB n F = true := by
  subst hn
  simp only [strsB, List.all_eq_true, List.mem_range]
  intro i hi
  rw [hF i hi]; rfl
def joinOk (l : List (List UInt8)) (sep : List UInt8) : Prop := l.length ≤ 140737488355328 ∧ (Lib.join l sep).length ≤ 140737488355328
def conJn : Con := fun k ds S => match k with
  | 51 => match ds with
    | [.sl 1 n f m, .str sep] => some (pC [.sl 1 n f m, .str sep] (.str (Lib.join (strsOf n f) sep)) (strsB n f = true ∧ joinOk (strsOf n f) sep))
    | _ => none
  | 38 => match ds with
    | [.int .i32 q, .sl 1 n f m] => some (pC [.int .i32 q, .sl 1 n f m] (.str (quoB q (intsD n f))) (n ≤ 1099511627776 ∧ IntsP n f ∧ ∀ c ∈ intsD n f, 0 ≤ c ∧ c ≤ 1114111))
    | _ => none
  | k => conRc k ds S
theorem conJn_ok : ConOk Tryd.prog conJn := by
  intro k ds S A h
  unfold conJn at h
  split at h
  · split at h
    · injection h with h; subst h
      exact pC_ok fun ⟨h1, h2⟩ => ⟨weakL_refl _, sC_weak (us := [ssl (strsOf _ _) .any, _]) ⟨ssl_weak h1, weakD_refl _, trivial⟩ (join_ok _ _ h2.1 h2.2)⟩
    · cases h
  · split at h
    · injection h with h; subst h
      exact pC_ok fun ⟨h1, h2, h3⟩ => ⟨weakL_refl _, sC_weak (us := [_, isl (intsD _ _) .any]) ⟨weakD_refl _, (isl_weak h2).1, trivial⟩ (quo_ok _ _ (by rw [intsD_len]; exact h1) h3)⟩
    · cases h
  · exact conRc_ok _ _ _ _ h
end Go.Proofs.YtpgepjefbhgblaaDoor
namespace Go.Proofs.YtpgepjefbhgblaaDoor
open Go Go.Ab
set_option maxRecDepth 100000
def jT (sep : List UInt8) (l : List (List UInt8)) : List UInt8 := l.flatMap fun x => sep ++ x
theorem join_cons (x : List UInt8) (l : List (List UInt8)) (sep : List UInt8) : Lib.join (x :: l) sep = x ++ jT sep l := by
  unfold Lib.join
  induction l generalizing x with
  | nil => simp [jT, List.intercalate]
  | cons y l ih =>
    have := ih y
    simp only [List.intercalate, List.intersperse_cons_cons, List.flatten_cons] at this ⊢
    rw [this]
    simp [jT]
theorem join_nil (sep : List UInt8) : Lib.join [] sep = [] := by simp [Lib.join, List.intercalate]
def jR (sep : List UInt8) (i : Nat) (l : List (List UInt8)) : List UInt8 := if i = 0 then Lib.join l sep else jT sep l
structure JHd (sep : List UInt8) (l : List (List UInt8)) (i : Nat) (out : List UInt8) : Prop where
  hi : i ≤ l.length
  ho : out ++ jR sep i (l.drop i) = Lib.join l sep
theorem JHd.init (sep : List UInt8) (l : List (List UInt8)) : JHd sep l 0 [] := ⟨Nat.zero_le _, by simp [jR]⟩
theorem drop_stepS {l : List (List UInt8)} {i : Nat} (h : i < l.length) : l.drop i = l.getD i [] :: l.drop (i + 1) := by
  rw [List.drop_eq_getElem_cons h, List.getD_eq_getElem?_getD, List.getElem?_eq_getElem h]; rfl
theorem JHd.step0 {sep : List UInt8} {l : List (List UInt8)} {out : List UInt8} (h : JHd sep l 0 out) (hlt : 0 < l.length) : JHd sep l (0 + 1) (out ++ l.getD 0 []) := by
  refine ⟨by omega, ?_⟩
  have := h.ho
  rw [drop_stepS hlt, jR, if_pos rfl, join_cons] at this
  rw [← this, jR, if_neg (by omega), List.append_assoc]
theorem JHd.step {sep : List UInt8} {l : List (List UInt8)} {i : Nat} {out : List UInt8} (h : JHd sep l i out) (h0 : i ≠ 0) (hlt : i < l.length) : JHd sep l (i + 1) (out ++ sep ++ l.getD i []) := by
  refine ⟨by omega, ?_⟩
  have := h.ho
  rw [drop_stepS hlt, jR, if_neg h0] at this
  rw [← this, jR, if_neg (by omega)]
  simp [jT]
theorem JHd.len {sep : List UInt8} {l : List (List UInt8)} {i : Nat} {out : List UInt8} (h : JHd sep l i out) : out.length ≤ (Lib.join l sep).length := by
  have := congrArg List.length h.ho
  simp only [List.length_append] at this; omega
theorem JHd.done {sep : List UInt8} {l : List (List UInt8)} {i : Nat} {out : List UInt8} (h : JHd sep l i out) (hge : ¬ i < l.length) : out = Lib.join l sep := by
  have := h.ho
  rw [List.drop_of_length_le (by omega)] at this
  have e : jR sep i [] = [] := by unfold jR; split <;> simp [jT, join_nil]
  rw [e, List.append_nil] at this
  exact this
def dimsB (l : List Int) : List UInt8 := Lib.join (l.map showI) [32]
theorem jT_len (sep : List UInt8) (b : Nat) : ∀ l : List (List UInt8), (∀ x ∈ l, x.length ≤ b) → (jT sep l).length ≤ (sep.length + b) * l.length
  | [], _ => by simp [jT]
  | x :: l, h => by
    have h1 := jT_len sep b l fun y hy => h y (List.mem_cons_of_mem _ hy)
    have h2 := h x List.mem_cons_self
    simp only [jT, List.flatMap_cons, List.length_append, List.length_cons, Nat.mul_succ] at h1 ⊢
    omega
theorem join_len (sep : List UInt8) (b : Nat) (l : List (List UInt8)) (h : ∀ x ∈ l, x.length ≤ b) : (Lib.join l sep).length ≤ (sep.length + b) * l.length := by
  cases l with
  | nil => simp [join_nil]
  | cons x l =>
    have h1 := jT_len sep b l fun y hy => h y (List.mem_cons_of_mem _ hy)
    have h2 := h x List.mem_cons_self
    rw [join_cons]
    simp only [List.length_append, List.length_cons, Nat.mul_succ]
    omega
theorem dimsB_len {l : List Int} (h : ∀ z ∈ l, inI64 z) : (dimsB l).length ≤ 22 * l.length := by
  have := join_len [32] 21 (l.map showI) (fun x hx => by
    obtain ⟨z, hz, rfl⟩ := List.mem_map.1 hx
    exact (showI_len (h z hz)).2)
  simpa [dimsB] using this
theorem mapS {l : List Int} {i : Nat} (h : i < l.length) : (l.map showI).getD i [] = showI (l.getD i 0) := by
  simp [List.getD_eq_getElem?_getD, List.getElem?_map, List.getElem?_eq_getElem h]
noncomputable def Erd (l : List Int) : Senv := { EC conJn 26 1 [2, 3, 4, 9, 13] (fun _ => ([], [])) with
  gh := fun b => match b with
    | 0 => [.slot 3]
    | _ => []
  ann := fun b _ S => match b with
    | 0 => some { slots := [4, 3], keep := [0, 1], α := Nat × Nat × List UInt8, st := fun y => ([.int .i64 y.1, bsl y.2.2 (.tok 0 y.2.1)], ⟨S.objs, [(0, y.2.1)]⟩), inv := fun y => JHd [32] (l.map showI) y.1 y.2.2, mu := fun y => l.length - y.1 }
    | _ => none }
noncomputable section
def fm6q0 (p0 : List Int) (p1 : Nat) (p2 : List UInt8) : Prop := JHd [(32 : UInt8)] (List.map showI p0) p1 p2
def fm6q1 (p0 : List UInt8) (p1 : Nat) : List D := [ZB (BI p0 p1)]
def fm6q2 (p0 : List UInt8) (p1 : List Int) (p2 : Nat) : Nat := LN p0 + N1 + LN (showI (GI p1 (Int.toNat (↑p2 : Int))))
def fm6q3 (p0 : List Int) : D := SI p0
def fm6q4 (p0 : List Int) : Prop := SM (fm6q3 p0) ∧ SM D.unk ∧ True
def fm6q5 (p0 : List Int) (p1 p2 : Nat) : List D := [ZB (BI (showI (GI p0 (Int.toNat (↑p1 : Int)))) p2)]
def fm6q6 (p0 : List UInt8) (p1 : List Int) (p2 : Nat) : Nat := LN p0 + LN (showI (GI p1 (Int.toNat (↑p2 : Int))))
end
theorem rdims_ok (l : List Int) (hl : l.length ≤ 1099511627776) (hc : ∀ z ∈ l, inI64 z) : ACalls Tryd.prog 47 [isl l .any] ⟨[], []⟩ (SpecR (sC [isl l .any] (.str (dimsB l))) ()) := by
  refine con_of (A := sC _ _) (x := ()) (E := Erd l) (eOk conJn_ok rfl) Tryd.func47 rfl (by kernel_rfl) rfl (by simp [sC, Erd, EC, E0]) ?_
  refine vc_eq (T :=
    ∀ (t : Nat), (∃ (x : Nat × Nat × List UInt8), fm6q0 l x.1 x.2.2 ∧ (Z0 = (NI x.1) ∧ (N0 = LN x.2.2 ∧ (∀ (i : Nat), i < N0 → eqOf (List D) [] (fm6q1 x.2.2 i)) ∧ t = x.2.1) ∧ True) ∧ True ∧ t = x.2.1 ∧ True) ∧ ∀ (x : Nat × Nat × List UInt8), fm6q0 l x.1 x.2.2 → ifB (decide ((NI x.1) < (LI l))) (ifB (decide (Z0 < (NI x.1))) (SM x.2.1 ∧ side ((LN x.2.2 + N1) * N1 ≤ (140737488355328 : Nat) ∧ LN x.2.2 + N1 ≤ (9223372036854775807 : Nat)) (∀ (t : Nat), side (Z0 ≤ (NI x.1) ∧ (NI x.1) < (LI l)) (inI64 (GI l (TN x.1)) ∧ ∀ (y : Unit), True → SM t ∧ side (fm6q2 x.2.2 l x.1 * N1 ≤ (140737488355328 : Nat) ∧ fm6q2 x.2.2 l x.1 ≤ (9223372036854775807 : Nat)) (∀ (t : Nat), fm6q4 l ∧ ∃ (y : Nat × Nat × List UInt8), fm6q0 l y.1 y.2.2 ∧ LN l - y.1 < LN l - x.1 ∧ (IntKind.wrap IntKind.i64 ((NI x.1) + Z1) = (NI y.1) ∧ (fm6q2 x.2.2 l x.1 = LN y.2.2 ∧ (∀ (i : Nat), i < fm6q2 x.2.2 l x.1 → appF (LN x.2.2 + N1) (appF (LN x.2.2) (fun (i : Nat) => fm6q1 x.2.2 i) fun (i : Nat) => List.getD [[ZB (32 : Int)]] i []) (fun (i : Nat) => fm6q5 l x.1 i) i = fm6q1 y.2.2 i) ∧ t = y.2.1) ∧ True) ∧ True ∧ t = y.2.1 ∧ True)))) (side (Z0 ≤ (NI x.1) ∧ (NI x.1) < (LI l)) (inI64 (GI l (TN x.1)) ∧ ∀ (y : Unit), True → SM x.2.1 ∧ side (fm6q6 x.2.2 l x.1 * N1 ≤ (140737488355328 : Nat) ∧ fm6q6 x.2.2 l x.1 ≤ (9223372036854775807 : Nat)) (∀ (t : Nat), fm6q4 l ∧ ∃ (y : Nat × Nat × List UInt8), fm6q0 l y.1 y.2.2 ∧ LN l - y.1 < LN l - x.1 ∧ (IntKind.wrap IntKind.i64 ((NI x.1) + Z1) = (NI y.1) ∧ (fm6q6 x.2.2 l x.1 = LN y.2.2 ∧ (∀ (i : Nat), i < fm6q6 x.2.2 l x.1 → appF (LN x.2.2) (fun (i : Nat) => fm6q1 x.2.2 i) (fun (i : Nat) => fm6q5 l x.1 i) i = fm6q1 y.2.2 i) ∧ t = y.2.1) ∧ True) ∧ True ∧ t = y.2.1 ∧ True)))) (True ∧ chk (true && rowsB (LN x.2.2) fun (i : Nat) => fm6q1 x.2.2 i) (True ∧ ∃ (y : Unit), True ∧ (bytesOf (LN x.2.2) fun (i : Nat) => fm6q1 x.2.2 i) = dimsB l ∧ True ∧ True))) (by kernel_rfl) ?_
  delta BI GI LI LN N0 N1 NI SI SM TN U0 Z0 Z1 ZB ZI fm6q0 fm6q1 fm6q2 fm6q3 fm6q4 fm6q5 fm6q6
  simp only [ifB_iff, side_iff, decide_eq_true_eq, true_and, and_true, exists_const, forall_const, Int.toNat_natCast, eq_self]
  intro t
  refine ⟨⟨(0, t, []), JHd.init _ _, ⟨rfl, rfl, fun i hi => absurd hi (by omega), rfl⟩, rfl⟩, ?_⟩
  rintro ⟨i, t1, out⟩ hh
  simp only at hh ⊢
  have h1 := hh.len
  have hd := dimsB_len hc
  have hdd : Lib.join (l.map showI) [32] = dimsB l := rfl
  rw [hdd] at h1
  refine ⟨fun hlt => ?_, fun hge => ?_⟩
  · have hlt' : i < l.length := by omega
    have hz := hc _ (memI hlt')
    have hs := showI_len hz
    refine ⟨fun h0 => ⟨⟨by omega, by omega⟩, ⟨by omega, by omega⟩, hz, ⟨by omega, by omega⟩, fun t2 => ⟨(i + 1, t2, out ++ [32] ++ showI (l.getD i 0)), ?_, by simp only; omega, ⟨wrap_i64' (by omega) (by omega), by simp only [List.length_append, List.length_cons, List.length_nil], ?_, rfl⟩, rfl⟩⟩, fun h0 => ⟨⟨by omega, by omega⟩, hz, ⟨by omega, by omega⟩, fun t2 => ⟨(i + 1, t2, out ++ showI (l.getD i 0)), ?_, by simp only; omega, ⟨wrap_i64' (by omega) (by omega), by simp only [List.length_append], ?_, rfl⟩, rfl⟩⟩⟩
    · have := hh.step (by omega) (by simpa using hlt')
      rw [mapS hlt'] at this
      exact this
    · exact app_gen (l := out ++ [32]) (by simp) (app_row' (b := 32) rfl (fun _ _ => rfl) rfl) (fun _ _ => rfl)
    · have e : i = 0 := by simpa using h0
      subst e
      have := hh.step0 (by simpa using hlt')
      rw [mapS hlt'] at this
      exact this
    · exact app_gen rfl (fun _ _ => rfl) (fun _ _ => rfl)
  · have hge' : ¬ i < l.length := by simpa using hge
    have hd := hh.done (by simpa using hge')
    rw [chk_iff, Bool.true_and]
    refine ⟨rowsB_bsl _, ?_⟩
    rw [bytesOf_bsl, hd]; rfl
noncomputable def Ejn : Senv := EC conJn 5 1 [2] (fun _ => ([], []))
noncomputable section
def fm6q7 (p0 : List (List UInt8)) : List (List UInt8) := strsOf (LN p0) fun (i : Nat) => [D.str (List.getD p0 i [])]
end
theorem fjoin_ok (l : List (List UInt8)) (h : joinOk l [32]) : ACalls Tryd.prog 39 [ssl l .any] ⟨[], []⟩ (SpecR (sC [ssl l .any] (.str (Lib.join l [32]))) ()) := by
  refine con_of (A := sC _ _) (x := ()) (E := Ejn) (eOk conJn_ok rfl) Tryd.func39 rfl (by kernel_rfl) rfl (by simp [sC, Ejn, EC, E0]) ?_
  refine vc_eq (T :=
    ((strsB (LN l) fun (i : Nat) => [D.str (List.getD l i [])]) = true ∧ joinOk (fm6q7 l) [(32 : UInt8)]) ∧ ∀ (y : Unit), True → True ∧ ∃ (y : Unit), True ∧ Lib.join (fm6q7 l) [(32 : UInt8)] = Lib.join l [(32 : UInt8)] ∧ True ∧ True) (by kernel_rfl) ?_
  delta LN fm6q7
  simp only [strsOf_eq (l := l) rfl (fun _ _ => rfl), strsB_eq (l := l) rfl (fun _ _ => rfl), h, and_true, exists_const, implies_true]
end Go.Proofs.YtpgepjefbhgblaaDoor
namespace Go.Proofs.YtpgepjefbhgblaaDoor
open Go Go.Ab
set_option maxRecDepth 100000
theorem tyB : Tryd.prog.underlying 41 = some (.pointer 44) := Tryd.underlying41
theorem tyU : Tryd.prog.underlying 78 = some .unsafePointer := Tryd.underlying78
theorem infoB : ∃ j, Tryd.prog.info? 44 = some j ∧ j.size = 2 := Option.map_eq_some_iff.1 (show (Tryd.prog.info? 44).map (·.size) = some 2 by kernel_rfl)
theorem liesB : liesAt Tryd.prog Tryd.prog.depth 44 (2 / Tryd.prog.cellsOf 44) 0 44 1 = true := by kernel_rfl
theorem cc_used (b : Nat) (w : World) (h0 : w.cell? ⟨b, 0, none⟩ = some (.pointer (some ⟨b, 0, none⟩))) :
    Calls Tryd.prog 56 #[.pointer (some ⟨b, 0, none⟩)] w fun e w' => e = .returned (.tuple #[]) ∧ w' = w := by
  obtain ⟨j, hj, hjs⟩ := infoB
  go_enter Tryd.func56, Tryd.ntmps56
  go_wp2
  rw [Lib.run_neq_ptr_same w _ tyB hj]
  go_wp2
  go_end0
  exact ⟨rfl, rfl⟩
theorem cc_fresh (b : Nat) (w : World) (h0 : w.cell? ⟨b, 0, none⟩ = some (.pointer none)) (hsh : w.shape? b = some (44, 2)) (hfz : w.frozen? ⟨b, 0, none⟩ = false) :
    Calls Tryd.prog 56 #[.pointer (some ⟨b, 0, none⟩)] w fun e w' => e = .returned (.tuple #[]) ∧ w' = w.setCell ⟨b, 0, none⟩ (.pointer (some ⟨b, 0, none⟩)) := by
  obtain ⟨j, hj, hjs⟩ := infoB
  go_enter Tryd.func56, Tryd.ntmps56
  go_wp2
  rw [Lib.run_to_unsafe w ⟨b, 0, none⟩ tyB tyU hj (by rw [hjs]; decide) hsh (Nat.zero_lt_succ 1)]
  simp only [Result.andThen]
  rw [Oper.upon_value]
  go_wp2
  rw [run_callFunc_extern Tryd.func75 (by kernel_rfl) (by kernel_rfl) (by kernel_rfl) (e := Extern.AbiNoEscape.same) (by kernel_rfl)]
  rw [Lib.run_noEscape]
  simp only [Result.andThen]
  rw [Oper.upon_value]
  go_wp2
  rw [Lib.run_from_unsafe w ⟨b, 0, none⟩ tyU tyB hj hsh liesB]
  simp only [Result.andThen]
  rw [Oper.upon_value]
  go_wp2
  go_end0
  exact ⟨rfl, rfl⟩
def sCc (k x E : Nat) (d : D) : FnSpec where
  β := Unit
  α := Unit
  args := fun _ => [.ref k x 0]
  st := fun _ => ⟨[(k, x, .bld 44 E d)], []⟩
  pre := fun _ => True
  post := fun _ _ => True
  res := fun _ _ => .ret (.tup [])
  out := fun _ _ => ⟨[(k, x, .bld 44 E d)], []⟩
theorem cc_ok (k x E : Nat) (d : D) : ACalls Tryd.prog 56 ((sCc k x E d).args ()) ((sCc k x E d).st ()) (SpecR (sCc k x E d) ()) := by
  refine ⟨⟨_, Tryd.func56, by kernel_rfl, by kernel_rfl⟩, fun C F args w ha hs => ?_⟩
  obtain ⟨u, e, hu⟩ := repL_one' ha
  have e2 : args = [u].toArray := by rw [← e]
  subst e2
  simp only [Rep] at hu
  subst hu
  have hg : getO ((sCc k x E d).st ()).objs k = some (x, .bld 44 E d) := by simp [sCc, getO]
  obtain ⟨c1, c2, v0, v1, fz, h1, h2, h3, h4, h5⟩ := hs.obj_of hg
  have fin : ∀ w', Sat C (((sCc k x E d).st ()).add F) w' → ∃ C' r S', C.le C' ∧ Sat C' (S'.add F) w' ∧ RepEnd C' r (.returned (.tuple #[])) ∧ SpecR (sCc k x E d) () r S' := fun w' h =>
    ⟨C, .ret (.tup []), _, .refl C, h, by simp [RepEnd, Rep, RepL], (), trivial, rfl, rfl⟩
  rcases h3 with rfl | rfl
  · have hc : w.cell? ⟨x, 0, none⟩ = some (.pointer none) := by rw [cell_of_heap h1]; rfl
    have hsh : w.shape? x = some (44, 2) := by simp [World.shape?, h1]
    have hfz : w.frozen? ⟨x, 0, none⟩ = false := frozen_of_heap h1 h2 (by simp)
    refine (cc_fresh x w hc hsh hfz).mono fun e w' ⟨he, hw⟩ => ?_
    subst he hw
    refine fin _ ?_
    have hr := setCell_heap h1 (o := 0) (.pointer (some ⟨x, 0, none⟩))
    have := hs.replace (o' := .bld 44 E d) (w' := w.setCell ⟨x, 0, none⟩ (.pointer (some ⟨x, 0, none⟩))) hg (by simp) (fun j hj => Go.RowKit.Below.heap_setCell _ _ _ _ hj) rfl rfl rfl ⟨.pointer (some ⟨x, 0, none⟩), v1, fz, by simpa using hr, by simpa using h2.set 0 (.pointer (some ⟨x, 0, none⟩)), .inr rfl, h4, h5⟩
    simpa [sCc, St.set, setO] using this
  · have hc : w.cell? ⟨x, 0, none⟩ = some (.pointer (some ⟨x, 0, none⟩)) := by rw [cell_of_heap h1]; rfl
    refine (cc_used x w hc).mono fun e w' ⟨he, hw⟩ => ?_
    subst he hw
    exact fin _ hs
end Go.Proofs.YtpgepjefbhgblaaDoor
namespace Go.Proofs.YtpgepjefbhgblaaDoor
open Go Go.Ab
set_option maxRecDepth 100000
def conCc : Con := fun k ds S => match k with
  | 56 => match ds with
    | [.ref k x 0] => match getO S.objs k with
      | some (y, .bld T E d) => some ((sCc k x E d).fits () (y = x ∧ T = 44 ∧ tokD d = true))
      | _ => none
    | _ => none
  | _ => none
theorem conCc_ok : ConOk Tryd.prog conCc := by
  intro k ds S A h
  unfold conCc at h
  split at h
  · split at h
    · rename_i k x
      split at h
      · rename_i y T E d hg
        injection h with h; subst h
        refine ⟨fun _ _ => cc_ok k x E d, fun _ _ hy => ?_, fun h => nomatch h⟩
        obtain ⟨⟨rfl, rfl, ht⟩, _⟩ := hy
        refine ⟨⟨by simp [weakD, chk], trivial⟩, chk_iff.2 ⟨rfl, ?_, trivial⟩⟩
        simp only [FnSpec.fits, sCc, leO, hg]
        exact ⟨trivial, chk_iff.2 ⟨by simp [ht], weakD_refl _⟩, trivial⟩
      · cases h
    · cases h
  · cases h
def sWs (f : List UInt8) (E x t : Nat) (l : List UInt8) (r : AEnd) (ar : List D) : FnSpec where
  β := Unit
  α := Nat
  args := fun _ => .ref 0 x 0 :: ar
  st := fun _ => ⟨[(0, x, .bld 44 E (bsl l (.tok 0 t)))], [(0, t)]⟩
  pre := fun _ => True
  post := fun _ _ => True
  res := fun _ _ => r
  out := fun _ t' => ⟨[(0, x, .bld 44 E (bsl (l ++ f) (.tok 0 t')))], [(0, t')]⟩
noncomputable def Ews : Senv := { EC conCc 19 2 [4, 5] (fun _ => ([], [])) with own := fun t => Nat.beq t 42 }
theorem ws_ok (x t : Nat) (l s : List UInt8) (hl : l.length + s.length ≤ 140737488355328) :
    ACalls Tryd.prog 28 ((sWs s 5 x t l (.ret (.tup [.int .i64 s.length, .nili])) [.str s]).args ()) ((sWs s 5 x t l (.ret (.tup [.int .i64 s.length, .nili])) [.str s]).st ()) (SpecR (sWs s 5 x t l (.ret (.tup [.int .i64 s.length, .nili])) [.str s]) ()) := by
  refine con_of (A := sWs s 5 x t l (.ret (.tup [.int .i64 s.length, .nili])) [.str s]) (x := ()) (E := Ews) (eOk conCc_ok rfl) Tryd.func28 rfl (by kernel_rfl) rfl (by simp [sWs, Ews, EC, E0]) ?_
  refine vc_eq (T :=
    ((SM x ∧ SM (44 : Nat) ∧ SM true) ∧ True) ∧ ∀ (y : Unit), True → SM x ∧ SM t ∧ side ((LN l + LN s) * N1 ≤ (140737488355328 : Nat) ∧ LN l + LN s ≤ (9223372036854775807 : Nat)) (∀ (t1 : Nat), (t % (1000003 : Nat) = N6 → t1 % (1000003 : Nat) = N6) → SM x ∧ (t % (1000003 : Nat) = N6 → t1 % (1000003 : Nat) = N6) ∧ True ∧ ∃ (y : Nat), True ∧ (SM (LI s) ∧ True ∧ True) ∧ (SM x ∧ (LN l + LN s = LN (l ++ s) ∧ (∀ (i : Nat), i < LN l + LN s → appF (LN l) (fun (i : Nat) => [ZB (BI l i)]) (fun (i : Nat) => [ZB (BI s i)]) i = [ZB (BI (l ++ s) i)]) ∧ t1 = y) ∧ True) ∧ t1 = y ∧ True)) (by kernel_rfl) ?_
  delta BI LI LN N1 N6 SM U0 ZB
  refine ⟨⟨⟨rfl, rfl, rfl⟩, trivial⟩, fun _ _ => ⟨rfl, rfl, ?_⟩⟩
  rw [side_iff]
  exact ⟨by omega, fun t1 ht => ⟨rfl, ht, trivial, t1, trivial, ⟨rfl, trivial, trivial⟩, ⟨rfl, ⟨by rw [List.length_append], app_gen rfl (fun _ _ => rfl) (fun _ _ => rfl), rfl⟩, trivial⟩, rfl, trivial⟩⟩
noncomputable def Ewb : Senv := { EC conCc 17 2 [4] (fun _ => ([], [])) with own := fun t => Nat.beq t 42 }
theorem wb_ok (x t : Nat) (l : List UInt8) (b : UInt8) (hl : l.length + 1 ≤ 140737488355328) :
    ACalls Tryd.prog 29 ((sWs [b] 5 x t l (.ret .nili) [.int .u8 (b.toNat : Int)]).args ()) ((sWs [b] 5 x t l (.ret .nili) [.int .u8 (b.toNat : Int)]).st ()) (SpecR (sWs [b] 5 x t l (.ret .nili) [.int .u8 (b.toNat : Int)]) ()) := by
  refine con_of (A := sWs [b] 5 x t l (.ret .nili) [.int .u8 (b.toNat : Int)]) (x := ()) (E := Ewb) (eOk conCc_ok rfl) Tryd.func29 rfl (by kernel_rfl) rfl (by simp [sWs, Ewb, EC, E0]) ?_
  refine vc_eq (T :=
    ((SM x ∧ SM (44 : Nat) ∧ SM true) ∧ True) ∧ ∀ (y : Unit), True → SM x ∧ SM t ∧ side ((LN l + N1) * N1 ≤ (140737488355328 : Nat) ∧ LN l + N1 ≤ (9223372036854775807 : Nat)) (∀ (t1 : Nat), (t % (1000003 : Nat) = N6 → t1 % (1000003 : Nat) = N6) → SM x ∧ (t % (1000003 : Nat) = N6 → t1 % (1000003 : Nat) = N6) ∧ True ∧ ∃ (y : Nat), True ∧ True ∧ (SM x ∧ (LN l + N1 = LN (l ++ [b]) ∧ (∀ (i : Nat), i < LN l + N1 → appF (LN l) (fun (i : Nat) => [ZB (BI l i)]) (fun (i : Nat) => List.getD [[ZB (NI (UInt8.toNat b))]] i []) i = [ZB (BI (l ++ [b]) i)]) ∧ t1 = y) ∧ True) ∧ t1 = y ∧ True)) (by kernel_rfl) ?_
  delta BI LN N1 N6 NI SM U0 ZB
  refine ⟨⟨⟨rfl, rfl, rfl⟩, trivial⟩, fun _ _ => ⟨rfl, rfl, ?_⟩⟩
  rw [side_iff]
  exact ⟨by omega, fun t1 ht => ⟨rfl, ht, trivial, t1, trivial, trivial, ⟨rfl, ⟨by simp, app_row' rfl (fun _ _ => rfl) rfl, rfl⟩, trivial⟩, rfl, trivial⟩⟩
def sBw (f : List UInt8) (k kt x t : Nat) (l : List UInt8) (r : AEnd) (ar : List D) : FnSpec where
  β := Unit
  α := Nat
  args := fun _ => .ref k x 0 :: ar
  st := fun _ => ⟨[(k, x, .bld 44 5 (bsl l (.tok kt t)))], [(kt, t)]⟩
  pre := fun _ => True
  post := fun _ _ => True
  res := fun _ _ => r
  out := fun _ t' => ⟨[(k, x, .bld 44 5 (bsl (l ++ f) (.tok kt t')))], [(kt, t')]⟩
theorem bw_of {g : Nat} {f : List UInt8} (k kt x t : Nat) {l : List UInt8} {r : AEnd} {ar : List D} (h : ACalls Tryd.prog g ((sWs f 5 x t l r ar).args ()) ((sWs f 5 x t l r ar).st ()) (SpecR (sWs f 5 x t l r ar) ())) :
    ACalls Tryd.prog g ((sBw f k kt x t l r ar).args ()) ((sBw f k kt x t l r ar).st ()) (SpecR (sBw f k kt x t l r ar) ()) := by
  refine h.respec (A' := sBw f k kt x t l r ar) (x' := ()) ?_ ?_ fun y _ => ⟨y, trivial, ?_, ?_⟩
  · simp [sBw, sWs, weakL, weakD, chk, weakL_refl]
  · simp [sBw, sWs, posS, posO, posT, weakO, weakD, chk, bsl, weakM, tokD]
  · simp only [sBw, sWs]; cases r <;> simp [weakEnd, weakD_refl]
  · simp [sBw, sWs, posS, posO, posT, weakO, weakD, chk, bsl, weakM, tokD]; rfl
end Go.Proofs.YtpgepjefbhgblaaDoor
namespace Go.Proofs.YtpgepjefbhgblaaDoor
open Go Go.Ab
set_option maxRecDepth 100000
theorem str_some (b g cap cs : Nat) (p : Value) (fz : Nat × Nat) (arr : Array Value) (fg : Nat × Nat) (l : List UInt8) (w : World) (h0 : l ≠ []) (hn : l.length ≤ cap) (hcs : l.length ≤ arr.size) (h63 : l.length ≤ 9223372036854775807)
    (hbk : w.heap[b]? = some (.cells #[p, .slice (some ⟨g, 0, none⟩) l.length cap] cs fz)) (hg : w.heap[g]? = some (.cells arr 5 fg))
    (hcell : ∀ j x, l[j]? = some x → w.cell? ⟨g, j, none⟩ = some (.int .u8 x.toNat)) :
    Calls Tryd.prog 30 #[.pointer (some ⟨b, 0, none⟩)] w fun e w' => e = .returned (.string ⟨l.toArray⟩) ∧ w' = w.drew.freeze ⟨g, 0, none⟩ l.length := by
  have hl0 : l.length ≠ 0 := by simpa using h0
  have c1 : w.drew.cell? ⟨b, 1, none⟩ = some (.slice (some ⟨g, 0, none⟩) l.length cap) := by
    have : w.drew.heap[b]? = some (.cells #[p, .slice (some ⟨g, 0, none⟩) l.length cap] cs fz) := hbk
    rw [cell_of_heap this]; rfl
  have hSD : (Builtin.unsafeSliceData_ #[42] 66 #[.slice (some ⟨g, 0, none⟩) l.length cap]).run Tryd.prog w.drew = .ok (.pointer (some ⟨g, 0, none⟩)) w.drew :=
    Lib.run_unsafeSliceData_row _ _ _ _ _ _ (by omega)
  have hUS : (Builtin.unsafeString_ #[66, 3] 9 #[.pointer (some ⟨g, 0, none⟩), .int .i64 l.length]).run Tryd.prog w.drew = .ok (.string ⟨l.toArray⟩) (w.drew.freeze ⟨g, 0, none⟩ l.length) := by
    refine Lib.run_unsafeString_row w.drew 66 3 9 5 Tryd.underlying66 (by kernel_rfl) g arr.size (by have hg' : w.drew.heap[g]? = some (.cells arr 5 fg) := hg; simp [World.shape?, hg']) l h0 hcs h63 ?_
    intro j x hx
    have e : w.drew.cell? ⟨g, j, none⟩ = some (.int .u8 x.toNat) := hcell j x hx
    have e2 : (if j = 0 then (⟨g, 0, none⟩ : Addr) else ⟨g, j, none⟩) = ⟨g, j, none⟩ := by split <;> simp_all
    simpa [Addr.add, e2] using e
  have mixed : Tryd.prog.follows .mixedOrders = true := by kernel_rfl
  go_enter Tryd.func30, Tryd.ntmps30
  go_wp2
  go_region_o
  all_goals (go_wp2; go_ret; exact ⟨rfl, rfl⟩)
theorem str_nil (b cs : Nat) (p : Value) (fz : Nat × Nat) (w : World) (hbk : w.heap[b]? = some (.cells #[p, .slice none 0 0] cs fz)) :
    Calls Tryd.prog 30 #[.pointer (some ⟨b, 0, none⟩)] w fun e w' => e = .returned (.string ⟨#[]⟩) ∧ Go.RowKit.Below w.heap.size w w' := by
  have hUS : ∀ W, (Builtin.unsafeString_ #[66, 3] 9 #[.pointer none, .int .i64 0]).run Tryd.prog W = .ok (.string .empty) W := fun W => Lib.run_unsafeString_none W _ _ _ none
  have c1 : w.drew.cell? ⟨b, 1, none⟩ = some (.slice none 0 0) := by
    have : w.drew.heap[b]? = some (.cells #[p, .slice none 0 0] cs fz) := hbk
    rw [cell_of_heap this]; rfl
  have hSD : (Builtin.unsafeSliceData_ #[42] 66 #[.slice none 0 0]).run Tryd.prog w.drew = .ok (.pointer none) w.drew := Lib.run_unsafeSliceData_nil _ _ _ _ _
  have mixed : Tryd.prog.follows .mixedOrders = true := by kernel_rfl
  go_enter Tryd.func30, Tryd.ntmps30
  go_wp2
  go_region_o
  all_goals (go_wp2; go_ret; exact ⟨rfl, Go.RowKit.Below.drew (Go.RowKit.Below.refl _ w)⟩)
theorem str_room (b g cap cs : Nat) (p : Value) (fz : Nat × Nat) (w : World) (hc0 : cap ≠ 0) (hbk : w.heap[b]? = some (.cells #[p, .slice (some ⟨g, 0, none⟩) 0 cap] cs fz)) :
    Calls Tryd.prog 30 #[.pointer (some ⟨b, 0, none⟩)] w fun e w' => e = .returned (.string ⟨#[]⟩) ∧ Go.RowKit.Below w.heap.size w w' := by
  have hUS : ∀ W, (Builtin.unsafeString_ #[66, 3] 9 #[.pointer (some ⟨g, 0, none⟩), .int .i64 0]).run Tryd.prog W = .ok (.string .empty) W := fun W => Lib.run_unsafeString_none W _ _ _ _
  have c1 : w.drew.cell? ⟨b, 1, none⟩ = some (.slice (some ⟨g, 0, none⟩) 0 cap) := by
    have : w.drew.heap[b]? = some (.cells #[p, .slice (some ⟨g, 0, none⟩) 0 cap] cs fz) := hbk
    rw [cell_of_heap this]; rfl
  have hSD : (Builtin.unsafeSliceData_ #[42] 66 #[.slice (some ⟨g, 0, none⟩) 0 cap]).run Tryd.prog w.drew = .ok (.pointer (some ⟨g, 0, none⟩)) w.drew :=
    Lib.run_unsafeSliceData_row _ _ _ _ _ _ hc0
  clear hc0
  have mixed : Tryd.prog.follows .mixedOrders = true := by kernel_rfl
  go_enter Tryd.func30, Tryd.ntmps30
  go_wp2
  go_region_o
  all_goals (go_wp2; go_ret; exact ⟨rfl, Go.RowKit.Below.drew (Go.RowKit.Below.refl _ w)⟩)
theorem str_noroom (b g cs : Nat) (p : Value) (fz fg : Nat × Nat) (arr : Array Value) (E : Nat) (w : World) (hg : w.heap[g]? = some (.cells arr E fg)) (hbk : w.heap[b]? = some (.cells #[p, .slice (some ⟨g, 0, none⟩) 0 0] cs fz)) :
    Calls Tryd.prog 30 #[.pointer (some ⟨b, 0, none⟩)] w fun e w' => e = .returned (.string ⟨#[]⟩) ∧ Go.RowKit.Below w.heap.size w w' := by
  have hUS : ∀ W q, (Builtin.unsafeString_ #[66, 3] 9 #[.pointer q, .int .i64 0]).run Tryd.prog W = .ok (.string .empty) W := fun W q => Lib.run_unsafeString_none W _ _ _ q
  have hb : b < w.heap.size := (Array.getElem?_eq_some_iff.1 hbk).1
  have c1 : w.drew.cell? ⟨b, 1, none⟩ = some (.slice (some ⟨g, 0, none⟩) 0 0) := by
    have : w.drew.heap[b]? = some (.cells #[p, .slice (some ⟨g, 0, none⟩) 0 0] cs fz) := hbk
    rw [cell_of_heap this]; rfl
  have c0 : w.cell? ⟨b, 1, none⟩ = some (.slice (some ⟨g, 0, none⟩) 0 0) := c1
  have hSD : (Builtin.unsafeSliceData_ #[42] 66 #[.slice (some ⟨g, 0, none⟩) 0 0]).run Tryd.prog w.drew = .ok (.pointer (some ⟨w.drew.heap.size, 0, none⟩)) (w.drew.alloc (.view ⟨g, 0, none⟩ 5)) :=
    Lib.run_unsafeSliceData_zero _ _ _ _ Tryd.underlying66 _ _ (E, arr.size) (by have hg' : w.drew.heap[g]? = some (.cells arr E fg) := hg; simp [World.shape?, hg'])
  have hSD0 : (Builtin.unsafeSliceData_ #[42] 66 #[.slice (some ⟨g, 0, none⟩) 0 0]).run Tryd.prog w = .ok (.pointer (some ⟨w.heap.size, 0, none⟩)) (w.alloc (.view ⟨g, 0, none⟩ 5)) :=
    Lib.run_unsafeSliceData_zero _ _ _ _ Tryd.underlying66 _ _ (E, arr.size) (by simp [World.shape?, hg])
  have c2 : (w.drew.alloc (.view ⟨g, 0, none⟩ 5)).cell? ⟨b, 1, none⟩ = some (.slice (some ⟨g, 0, none⟩) 0 0) := by
    rw [World.cell?_alloc_lt _ _ _ hb]; exact c1
  have c3 : (w.alloc (.view ⟨g, 0, none⟩ 5)).drew.cell? ⟨b, 1, none⟩ = some (.slice (some ⟨g, 0, none⟩) 0 0) := c2
  have mixed : Tryd.prog.follows .mixedOrders = true := by kernel_rfl
  go_enter Tryd.func30, Tryd.ntmps30
  go_wp2
  go_region_o
  all_goals (go_wp2; go_ret; exact ⟨rfl, (Go.RowKit.Below.drew (Go.RowKit.Below.refl _ w)).alloc (Nat.le_refl _) _⟩)
theorem sat_freeze {C : Ctx} {S : St} {w : World} {g n : Nat} (H : Sat C S w) (hg : C.w0.heap.size ≤ g) (ho : ∀ p ∈ S.objs, p.2.1 ≠ g) (ht : ∀ t ∈ S.toks, ∀ x, C.tok t.2 = some x → ¬ x.clash g) : Sat C S (w.freeze ⟨g, 0, none⟩ n) := by
  have hne : ∀ k, k ≠ g → (w.freeze ⟨g, 0, none⟩ n).heap[k]? = w.heap[k]? := by
    intro k hk
    unfold World.freeze; split <;> simp [Array.getElem?_modify, Ne.symm hk]
  have hcell : ∀ a, (w.freeze ⟨g, 0, none⟩ n).cell? a = w.cell? a := by
    intro a
    unfold World.cell?
    by_cases e : a.block = g
    · rw [e]
      unfold World.freeze
      by_cases h0 : n = 0
      · rw [if_pos h0]
      · rw [if_neg h0]
        simp only [Array.getElem?_modify, if_true]
        cases w.heap[g]? with
        | none => rfl
        | some o => cases o <;> rfl
    · rw [hne _ e]
  refine ⟨H.below.trans ⟨by unfold World.freeze; split <;> rfl, by unfold World.freeze; split <;> rfl, by unfold World.freeze; split <;> rfl, by unfold World.freeze; split <;> simp, fun k hk => hne k (by omega)⟩, fun b o v h => (hcell _).trans (H.imm b o v h), H.one, fun p hp => ?_, H.nodup, fun t htm => ?_, H.tnodup, H.tfin, H.tdist⟩
  · obtain ⟨h1, h2, h3⟩ := H.objs p hp
    exact ⟨h1, h2, h3.of_heap (hne _ (ho p hp))⟩
  · obtain ⟨x, h1, h2, h3⟩ := H.toks t htm
    exact ⟨x, h1, h2.of_heap fun b hb => hne b fun e => ht t htm x h1 (e ▸ hb), h3⟩
def sBs (k kt x t : Nat) (l : List UInt8) : FnSpec where
  β := Unit
  α := Unit
  args := fun _ => [.ref k x 0]
  st := fun _ => ⟨[(k, x, .bld 44 5 (bsl l (.tok kt t)))], [(kt, t)]⟩
  pre := fun _ => True
  post := fun _ _ => True
  res := fun _ _ => .ret (.str l)
  out := fun _ _ => ⟨[], []⟩
theorem bstr_ok (k kt x t : Nat) (l : List UInt8) (h63 : l.length ≤ 9223372036854775807) : ACalls Tryd.prog 30 ((sBs k kt x t l).args ()) ((sBs k kt x t l).st ()) (SpecR (sBs k kt x t l) ()) := by
  refine ⟨⟨_, Tryd.func30, by kernel_rfl, by kernel_rfl⟩, fun C F args w ha hs => ?_⟩
  obtain ⟨u, e, hu⟩ := repL_one' ha
  have e2 : args = [u].toArray := by rw [← e]
  subst e2
  simp only [Rep] at hu
  subst hu
  have hg : getO ((sBs k kt x t l).st ()).objs k = some (x, .bld 44 5 (bsl l (.tok kt t))) := by simp [sBs, getO]
  obtain ⟨c1, c2, v0, v1, fz, h1, h2, h3, h4, h5⟩ := hs.obj_of hg
  have h5 : tokE t = 5 + 1 := h5
  simp only [bsl, Rep] at h4
  obtain ⟨a, len, cap, rfl, hh, hr⟩ := h4
  have hlen : len = l.length := hh.1
  subst hlen
  have hF : Sat C F w := by
    have h := hs.le (S' := ⟨[], []⟩) ⟨List.nil_sublist _, List.nil_sublist _⟩
    simpa [St.add] using h
  have fin : ∀ w', Sat C F w' → ∃ C' r S', C.le C' ∧ Sat C' (S'.add F) w' ∧ RepEnd C' r (.returned (.string ⟨l.toArray⟩)) ∧ SpecR (sBs k kt x t l) () r S' := fun w' h =>
    ⟨C, .ret (.str l), ⟨[], []⟩, .refl C, h, by simp [RepEnd, Rep], (), trivial, rfl, rfl⟩
  have h6 := hh.2.2.2.2.2
  have hcap : l.length ≤ cap := hh.2.1
  simp only at h6
  have hmem : (kt, t) ∈ (((sBs k kt x t l).st ()).add F).toks := by simp [sBs, St.add]
  obtain ⟨q, q1, q2, q3⟩ := hs.toks (kt, t) hmem
  simp only at q1
  rw [q1] at h6
  cases q with
  | no =>
    simp only at h6
    have ha0 : a = none := h6.2 (by rw [h5]; omega)
    subst ha0
    have hl0 := (hh.2.2.2.1 rfl)
    have hl : l = [] := List.length_eq_zero_iff.1 hl0.1
    subst hl
    obtain rfl : cap = 0 := hl0.2
    refine (str_nil x _ v0 fz w h1).mono fun e w' ⟨he, hb⟩ => ?_
    subst he
    exact fin w' (hF.kept hb)
  | «at» g n cp wd =>
    obtain ⟨rfl, rfl, rfl, rfl⟩ := h6
    obtain ⟨p1, p2, arr, E, fg, p3, p4, p5, p6⟩ := q2
    have hE : E = 5 := Nat.succ.inj ((p6 (by simp only; rw [h5]; omega)).trans h5)
    subst hE
    by_cases hl : l = []
    · subst hl
      by_cases hc : cp = 0
      · subst hc
        refine (str_noroom x g _ v0 fz fg arr _ w p3 h1).mono fun e w' ⟨he, hb⟩ => ?_
        subst he
        exact fin w' (hF.kept hb)
      · refine (str_room x g cp _ v0 fz w hc h1).mono fun e w' ⟨he, hb⟩ => ?_
        subst he
        exact fin w' (hF.kept hb)
    · refine (str_some x g cp _ v0 fz arr fg l w hl hcap (by rw [p5]; omega) h63 h1 p3 fun j y hy => ?_).mono fun e w' ⟨he, hw⟩ => ?_
      · have hj : j < l.length := (List.getElem?_eq_some_iff.1 hy).1
        have hrow := (hr ⟨g, 0, none⟩ rfl j hj).2
        simp only [RepCells] at hrow
        obtain ⟨⟨v, i1, i2⟩, _⟩ := hrow
        simp only [Rep] at i2
        subst i2
        have := hs.imm _ _ _ i1
        have e : l.getD j 0 = y := by rw [List.getD_eq_getElem?_getD, hy]; rfl
        rw [e] at this
        simpa using this
      · subst he hw
        refine fin _ (sat_freeze hF.drew p1 (fun p hp e => q3 p (by simp [St.add, hp]) e.symm) fun s hs2 y hy hcl => ?_)
        cases y with
        | no => exact hcl
        | «at» b' n' c' wd' =>
          have hcl : b' = g := hcl
          have hnd := hs.tnodup
          simp only [St.add, sBs, List.cons_append, List.nil_append, List.map_cons, List.nodup_cons] at hnd
          have hne : t ≠ s.2 := fun e => hnd.1 (e ▸ List.mem_map_of_mem hs2)
          exact hs.tdist (kt, t) s _ _ _ _ _ _ _ _ hmem (by simp [St.add, hs2]) hne q1 hy hcl.symm
end Go.Proofs.YtpgepjefbhgblaaDoor
namespace Go.Proofs.YtpgepjefbhgblaaDoor
open Go Go.Ab
set_option maxRecDepth 100000
def tokIs (ts : List (Nat × Nat)) (kt t : Nat) : Prop :=
  match getT ts kt with
  | some t' => t' = t
  | none => False
def bFit (ts : List (Nat × Nat)) (x y T E kt t n : Nat) (g : Nat → List D) : Prop := y = x ∧ T = 44 ∧ E = 5 ∧ tokIs ts kt t ∧ rowsB n g = true
def byteU (z : Int) : UInt8 := UInt8.ofNat z.toNat
def conBd : Con := fun k ds S => match k with
  | 28 => match ds with
    | [.ref k x 0, .str s] => match getO S.objs k with
      | some (y, .bld T E (.sl 1 n g (.tok kt t))) => some ((sBw s k kt x t (bytesOf n g) (.ret (.tup [.int .i64 s.length, .nili])) [.str s]).fits () (bFit S.toks x y T E kt t n g ∧ n + s.length ≤ 140737488355328))
      | _ => none
    | _ => none
  | 29 => match ds with
    | [.ref k x 0, .int .u8 z] => match getO S.objs k with
      | some (y, .bld T E (.sl 1 n g (.tok kt t))) => some ((sBw [byteU z] k kt x t (bytesOf n g) (.ret .nili) [.int .u8 z]).fits () (bFit S.toks x y T E kt t n g ∧ (0 ≤ z ∧ z ≤ 255) ∧ n + 1 ≤ 140737488355328))
      | _ => none
    | _ => none
  | 30 => match ds with
    | [.ref k x 0] => match getO S.objs k with
      | some (y, .bld T E (.sl 1 n g (.tok kt t))) => some ((sBs k kt x t (bytesOf n g)).fits () (bFit S.toks x y T E kt t n g ∧ n ≤ 140737488355328))
      | _ => none
    | _ => none
  | k => conJn k ds S
theorem byteU_nat {z : Int} (h : 0 ≤ z ∧ z ≤ 255) : ((byteU z).toNat : Int) = z := by
  unfold byteU
  rw [UInt8.toNat_ofNat']; omega
theorem leO_bld {os : List (Nat × Nat × AObj)} {k x y T E n kt t : Nat} {g : Nat → List D} (hg : getO os k = some (y, .bld T E (.sl 1 n g (.tok kt t)))) (h1 : y = x) (h2 : T = 44) (h3 : E = 5) (hr : rowsB n g = true) :
    leO [(k, x, .bld 44 5 (bsl (bytesOf n g) (.tok kt t)))] os := by
  subst h1 h2 h3
  simp only [leO, hg, weakO]
  exact ⟨trivial, chk_iff.2 ⟨by simp [tokD, bsl], bsl_weak hr⟩, trivial⟩
theorem leT_tok {ts : List (Nat × Nat)} {kt t : Nat} (h : tokIs ts kt t) : leT [(kt, t)] ts := by
  unfold tokIs at h
  simp only [leT]
  split at h
  · rename_i t' e; rw [e]; exact ⟨h, trivial⟩
  · exact h.elim
theorem conBd_ok : ConOk Tryd.prog conBd := by
  intro k ds S A h
  unfold conBd at h
  split at h
  · split at h
    · split at h
      · rename_i k x s _ y T E n g kt t hg
        injection h with h; subst h
        have key : ∀ p : n + s.length ≤ 140737488355328, ACalls Tryd.prog 28 ((sBw s k kt x t (bytesOf n g) (.ret (.tup [.int .i64 s.length, .nili])) [.str s]).args ()) ((sBw s k kt x t (bytesOf n g) (.ret (.tup [.int .i64 s.length, .nili])) [.str s]).st ()) (SpecR (sBw s k kt x t (bytesOf n g) (.ret (.tup [.int .i64 s.length, .nili])) [.str s]) ()) := fun p =>
          bw_of k kt x t (ws_ok x t (bytesOf n g) s (by simpa [bytesOf] using p))
        refine ⟨fun _ hy => key hy.1.2, fun _ _ hy => ?_, fun h => nomatch h⟩
        obtain ⟨⟨⟨h1, h2, h3, h4, h5⟩, _⟩, _⟩ := hy
        exact ⟨⟨by simp [weakD, chk], by simp [weakD], trivial⟩, chk_iff.2 ⟨rfl, leO_bld hg h1 h2 h3 h5, leT_tok h4⟩⟩
      · cases h
    · cases h
  · split at h
    · split at h
      · rename_i k x z _ y T E n g kt t hg
        injection h with h; subst h
        have key : ∀ p : (0 ≤ z ∧ z ≤ 255) ∧ n + 1 ≤ 140737488355328, ACalls Tryd.prog 29 ((sBw [byteU z] k kt x t (bytesOf n g) (.ret .nili) [.int .u8 z]).args ()) ((sBw [byteU z] k kt x t (bytesOf n g) (.ret .nili) [.int .u8 z]).st ()) (SpecR (sBw [byteU z] k kt x t (bytesOf n g) (.ret .nili) [.int .u8 z]) ()) := fun p => by
          have := bw_of k kt x t (wb_ok x t (bytesOf n g) (byteU z) (by simpa [bytesOf] using p.2))
          rw [byteU_nat p.1] at this
          exact this
        refine ⟨fun _ hy => key hy.1.2, fun _ _ hy => ?_, fun h => nomatch h⟩
        obtain ⟨⟨⟨h1, h2, h3, h4, h5⟩, _⟩, _⟩ := hy
        exact ⟨⟨by simp [weakD, chk], weakD_refl _, trivial⟩, chk_iff.2 ⟨rfl, leO_bld hg h1 h2 h3 h5, leT_tok h4⟩⟩
      · cases h
    · cases h
  · split at h
    · split at h
      · rename_i k x _ y T E n g kt t hg
        injection h with h; subst h
        refine ⟨fun _ hy => bstr_ok k kt x t (bytesOf n g) (by have := hy.1.2; simp [bytesOf]; omega), fun _ _ hy => ?_, fun h => nomatch h⟩
        obtain ⟨⟨⟨h1, h2, h3, h4, h5⟩, _⟩, _⟩ := hy
        exact ⟨⟨by simp [weakD, chk], trivial⟩, chk_iff.2 ⟨rfl, leO_bld hg h1 h2 h3 h5, leT_tok h4⟩⟩
      · cases h
    · cases h
  · exact conJn_ok _ _ _ _ h
end Go.Proofs.YtpgepjefbhgblaaDoor
namespace Go.Proofs.YtpgepjefbhgblaaDoor
open Go Go.Ab
set_option maxRecDepth 100000
theorem bfit_ok (t y : Nat) (l : List UInt8) : bFit [(0, t)] y y 44 5 0 t l.length (fun i => [.int .u8 ((l.getD i 0).toNat : Int)]) := ⟨rfl, rfl, rfl, rfl, rowsB_bsl l⟩
theorem showI_neg {n : Int} (h : n < 0) : showI n = 95 :: (Lib.itoa n).drop 1 := by
  simp only [showI, Lib.itoa, if_pos h]; rfl
theorem showI_pos {n : Int} (h : ¬ n < 0) : showI n = Lib.itoa n := by
  simp only [showI, Lib.itoa, if_neg h]
theorem app_nil' (l : List UInt8) : [].append l = l := rfl
noncomputable def Ess (l : List Int) : Senv := { EC conBd 28 1 [2, 3, 4, 5, 6, 7, 8, 9, 10, 15, 20] (fun _ => ([], [])) with
  bd := fun t => match t with
    | 44 => some 5
    | _ => none
  ann := fun b _ S => match b with
    | 0 => some { slots := [9], keep := [0, 1, 3, 7, 8], α := Nat × Nat × List UInt8, st := fun y => ([.int .i64 y.1], ⟨setO S.objs 0 (.bld 44 5 (bsl y.2.2 (.tok 0 y.2.1))), [(0, y.2.1)]⟩), inv := fun y => JHd [32] (l.map showI) y.1 y.2.2, mu := fun y => l.length - y.1 }
    | _ => none }
noncomputable section
def fm8q0 (p0 : List Int) (p1 : Nat) (p2 : List UInt8) : Prop := JHd [(32 : UInt8)] (List.map showI p0) p1 p2
def fm8q1 (p0 : List UInt8) (p1 : Nat) : List D := [ZB (BI p0 p1)]
def fm8q2 (p0 p1 : Nat) (p2 : List UInt8) : Prop := bFit [(N0, p0)] p1 p1 (44 : Nat) (5 : Nat) N0 p0 (LN p2) fun (i : Nat) => fm8q1 p2 i
def fm8q3 (p0 : List Int) (p1 : Nat) : List UInt8 := Lib.itoa (GI p0 (Int.toNat (↑p1 : Int)))
def fm8q4 (p0 : List Int) (p1 : Nat) : Nat := LN (fm8q3 p0 p1)
def fm8q5 (p0 : List Int) (p1 : Nat) : Int := (NI (fm8q4 p0 p1))
def fm8q6 (p0 : List Int) (p1 : Nat) : List UInt8 := List.drop N1 (List.take (Int.toNat (fm8q5 p0 p1)) (fm8q3 p0 p1))
def fm8q7 (p0 : List Int) (p1 : Nat) : Nat := N1 + LN (fm8q6 p0 p1)
def fm8q8 (p0 : List UInt8) : List UInt8 := bytesOf (LN p0) fun (i : Nat) => fm8q1 p0 i
def fm8q9 (p0 : List UInt8) : List UInt8 := fm8q8 p0 ++ [byteU (32 : Int)]
def fm8q10 (p0 : List UInt8) : Nat := LN (fm8q9 p0)
def fm8q11 (p0 : List UInt8) (p1 : Nat) : List D := [ZB (BI (fm8q9 p0) p1)]
def fm8q12 (p0 p1 : Nat) (p2 : List UInt8) : Prop := bFit [(N0, p0)] p1 p1 (44 : Nat) (5 : Nat) N0 p0 (fm8q10 p2) fun (i : Nat) => fm8q11 p2 i
def fm8q13 (p0 : List Int) (p1 : Nat) : List UInt8 := (95 : UInt8) :: List.append [] (fm8q6 p0 p1)
def fm8q14 (p0 : List Int) (p1 : Nat) : Nat := LN (fm8q13 p0 p1)
def fm8q15 (p0 : List Int) : D := SI p0
def fm8q16 (p0 : List Int) : Prop := SM (fm8q15 p0)
def fm8q17 (p0 : List Int) (p1 : Nat) : Prop := fm8q16 p0 ∧ SM D.unk ∧ SM (D.ref N0 p1 N0) ∧ fm8q16 p0 ∧ SM (ZI (LI p0)) ∧ True
def fm8q18 (p0 p1 : Nat) : Prop := IntKind.wrap IntKind.i64 ((↑p0 : Int) + Z1) = (↑p1 : Int) ∧ True
def fm8q19 (p0 : List UInt8) : List UInt8 := bytesOf (fm8q10 p0) fun (i : Nat) => fm8q11 p0 i
def fm8q20 (p0 : List UInt8) (p1 : List Int) (p2 : Nat) : List UInt8 := fm8q19 p0 ++ fm8q13 p1 p2
def fm8q21 (p0 : List UInt8) (p1 : List Int) (p2 : Nat) : Nat := LN (fm8q20 p0 p1 p2)
def fm8q22 (p0 : List UInt8) (p1 : List Int) (p2 : Nat) : List UInt8 := fm8q19 p0 ++ fm8q3 p1 p2
def fm8q23 (p0 : List UInt8) (p1 : List Int) (p2 : Nat) : Nat := LN (fm8q22 p0 p1 p2)
def fm8q24 (p0 : List UInt8) (p1 : List Int) (p2 : Nat) : List UInt8 := fm8q8 p0 ++ fm8q13 p1 p2
def fm8q25 (p0 : List UInt8) (p1 : List Int) (p2 : Nat) : Nat := LN (fm8q24 p0 p1 p2)
def fm8q26 (p0 : List UInt8) (p1 : List Int) (p2 : Nat) : List UInt8 := fm8q8 p0 ++ fm8q3 p1 p2
def fm8q27 (p0 : List UInt8) (p1 : List Int) (p2 : Nat) : Nat := LN (fm8q26 p0 p1 p2)
end
theorem sshow_ok (l : List Int) (hl : l.length ≤ 1099511627776) (hc : ∀ z ∈ l, inI64 z) : ACalls Tryd.prog 43 [isl l .any] ⟨[], []⟩ (SpecR (sC [isl l .any] (.str (dimsB l))) ()) := by
  refine con_of (A := sC _ _) (x := ()) (E := Ess l) (eOk conBd_ok rfl) Tryd.func43 rfl (by kernel_rfl) rfl (by simp [sC, Ess, EC, E0]) ?_
  refine vc_eq (T :=
    ∀ (y t : Nat), True → (∃ (x : Nat × Nat × List UInt8), fm8q0 l x.1 x.2.2 ∧ (Z0 = (NI x.1) ∧ True) ∧ (SM y ∧ (N0 = LN x.2.2 ∧ (∀ (i : Nat), i < N0 → eqOf (List D) [] (fm8q1 x.2.2 i)) ∧ t = x.2.1) ∧ True) ∧ t = x.2.1 ∧ True) ∧ ∀ (x : Nat × Nat × List UInt8), fm8q0 l x.1 x.2.2 → ifB (decide ((NI x.1) < (LI l))) (side (Z0 ≤ (NI x.1) ∧ (NI x.1) < (LI l)) (ifB (decide (Z0 < (NI x.1))) (((fm8q2 x.2.1 y x.2.2 ∧ (Z0 ≤ (32 : Int) ∧ (32 : Int) ≤ (255 : Int)) ∧ LN x.2.2 + N1 ≤ (140737488355328 : Nat)) ∧ True) ∧ ∀ (y_1 : Nat), True → inI64 (GI l (TN x.1)) ∧ ∀ (y_2 : Unit), True → ifB (decide (GI l (TN x.1) < Z0)) (side (Z0 ≤ Z1 ∧ Z1 ≤ fm8q5 l x.1 ∧ fm8q5 l x.1 ≤ fm8q5 l x.1) (side (fm8q7 l x.1 ≤ (9223372036854775807 : Nat)) (((fm8q12 y_1 y x.2.2 ∧ fm8q10 x.2.2 + fm8q14 l x.1 ≤ (140737488355328 : Nat)) ∧ True) ∧ ∀ (y_3 : Nat), True → fm8q17 l y ∧ ∃ (y_4 : Nat × Nat × List UInt8), fm8q0 l y_4.1 y_4.2.2 ∧ LN l - y_4.1 < LN l - x.1 ∧ fm8q18 x.1 y_4.1 ∧ (SM y ∧ (fm8q21 x.2.2 l x.1 = LN y_4.2.2 ∧ (∀ (i : Nat), i < fm8q21 x.2.2 l x.1 → [ZB (BI (fm8q20 x.2.2 l x.1) i)] = fm8q1 y_4.2.2 i) ∧ y_3 = y_4.2.1) ∧ True) ∧ y_3 = y_4.2.1 ∧ True))) (((fm8q12 y_1 y x.2.2 ∧ fm8q10 x.2.2 + fm8q4 l x.1 ≤ (140737488355328 : Nat)) ∧ True) ∧ ∀ (y_3 : Nat), True → fm8q17 l y ∧ ∃ (y_4 : Nat × Nat × List UInt8), fm8q0 l y_4.1 y_4.2.2 ∧ LN l - y_4.1 < LN l - x.1 ∧ fm8q18 x.1 y_4.1 ∧ (SM y ∧ (fm8q23 x.2.2 l x.1 = LN y_4.2.2 ∧ (∀ (i : Nat), i < fm8q23 x.2.2 l x.1 → [ZB (BI (fm8q22 x.2.2 l x.1) i)] = fm8q1 y_4.2.2 i) ∧ y_3 = y_4.2.1) ∧ True) ∧ y_3 = y_4.2.1 ∧ True)) (inI64 (GI l (TN x.1)) ∧ ∀ (y_1 : Unit), True → ifB (decide (GI l (TN x.1) < Z0)) (side (Z0 ≤ Z1 ∧ Z1 ≤ fm8q5 l x.1 ∧ fm8q5 l x.1 ≤ fm8q5 l x.1) (side (fm8q7 l x.1 ≤ (9223372036854775807 : Nat)) (((fm8q2 x.2.1 y x.2.2 ∧ LN x.2.2 + fm8q14 l x.1 ≤ (140737488355328 : Nat)) ∧ True) ∧ ∀ (y_2 : Nat), True → fm8q17 l y ∧ ∃ (y_3 : Nat × Nat × List UInt8), fm8q0 l y_3.1 y_3.2.2 ∧ LN l - y_3.1 < LN l - x.1 ∧ fm8q18 x.1 y_3.1 ∧ (SM y ∧ (fm8q25 x.2.2 l x.1 = LN y_3.2.2 ∧ (∀ (i : Nat), i < fm8q25 x.2.2 l x.1 → [ZB (BI (fm8q24 x.2.2 l x.1) i)] = fm8q1 y_3.2.2 i) ∧ y_2 = y_3.2.1) ∧ True) ∧ y_2 = y_3.2.1 ∧ True))) (((fm8q2 x.2.1 y x.2.2 ∧ LN x.2.2 + fm8q4 l x.1 ≤ (140737488355328 : Nat)) ∧ True) ∧ ∀ (y_2 : Nat), True → fm8q17 l y ∧ ∃ (y_3 : Nat × Nat × List UInt8), fm8q0 l y_3.1 y_3.2.2 ∧ LN l - y_3.1 < LN l - x.1 ∧ fm8q18 x.1 y_3.1 ∧ (SM y ∧ (fm8q27 x.2.2 l x.1 = LN y_3.2.2 ∧ (∀ (i : Nat), i < fm8q27 x.2.2 l x.1 → [ZB (BI (fm8q26 x.2.2 l x.1) i)] = fm8q1 y_3.2.2 i) ∧ y_2 = y_3.2.1) ∧ True) ∧ y_2 = y_3.2.1 ∧ True)))) (((fm8q2 x.2.1 y x.2.2 ∧ LN x.2.2 ≤ (140737488355328 : Nat)) ∧ True) ∧ ∀ (y : Unit), True → True ∧ ∃ (y : Unit), True ∧ fm8q8 x.2.2 = dimsB l ∧ True ∧ True)) (by kernel_rfl) ?_
  delta BI GI LI LN N0 N1 NI SI SM TN U0 Z0 Z1 ZB ZI fm8q0 fm8q1 fm8q10 fm8q11 fm8q12 fm8q13 fm8q14 fm8q15 fm8q16 fm8q17 fm8q18 fm8q19 fm8q2 fm8q20 fm8q21 fm8q22 fm8q23 fm8q24 fm8q25 fm8q26 fm8q27 fm8q3 fm8q4 fm8q5 fm8q6 fm8q7 fm8q8 fm8q9
  simp only [ifB_iff, side_iff, decide_eq_true_eq, true_and, and_true, exists_const, forall_const, Int.toNat_natCast, eq_self, bytesOf_bsl, bfit_ok, List.take_length, app_nil']
  intro t
  refine ⟨⟨(0, t, []), JHd.init _ _, rfl, ⟨rfl, fun i hi => absurd hi (by omega), rfl⟩, rfl⟩, ?_⟩
  rintro ⟨i, t1, out⟩ hh
  simp only at hh ⊢
  have h1 := hh.len
  have hd := dimsB_len hc
  have hdd : Lib.join (l.map showI) [32] = dimsB l := rfl
  rw [hdd] at h1
  refine ⟨fun hlt => ?_, fun hge => ?_⟩
  · have hlt' : i < l.length := by omega
    have hz := hc _ (memI hlt')
    have hi := itoa_len hz
    have hb : byteU 32 = 32 := rfl
    have hm : i < (l.map showI).length := by simpa using hlt'
    have st : i ≠ 0 → JHd [32] (l.map showI) (i + 1) (out ++ [byteU 32] ++ showI (l.getD i 0)) := fun h0 => by
      have := hh.step h0 hm
      rw [mapS hlt'] at this
      exact this
    have st0 : i = 0 → JHd [32] (l.map showI) (i + 1) (out ++ showI (l.getD i 0)) := fun h0 => by
      subst h0
      have := hh.step0 hm
      rw [mapS hlt'] at this
      exact this
    refine ⟨⟨by omega, by omega⟩, fun h0 => ⟨⟨⟨by omega, by omega⟩, by omega⟩, hz, fun hn => ⟨⟨by omega, by omega, by omega⟩, by rw [List.length_drop]; omega, ?_, fun t3 => ⟨(i + 1, t3, out ++ [byteU 32] ++ 95 :: List.drop 1 (Lib.itoa (l.getD i 0))), ?_, by simp only; omega, wrap_i64' (by omega) (by omega), ⟨rfl, fun _ _ => rfl, rfl⟩, rfl⟩⟩, fun hn => ⟨?_, fun t3 => ⟨(i + 1, t3, out ++ [byteU 32] ++ Lib.itoa (l.getD i 0)), ?_, by simp only; omega, wrap_i64' (by omega) (by omega), ⟨rfl, fun _ _ => rfl, rfl⟩, rfl⟩⟩⟩,
      fun h0 => ⟨hz, fun hn => ⟨⟨by omega, by omega, by omega⟩, by rw [List.length_drop]; omega, ?_, fun t3 => ⟨(i + 1, t3, out ++ 95 :: List.drop 1 (Lib.itoa (l.getD i 0))), ?_, by simp only; omega, wrap_i64' (by omega) (by omega), ⟨rfl, fun _ _ => rfl, rfl⟩, rfl⟩⟩, fun hn => ⟨?_, fun t3 => ⟨(i + 1, t3, out ++ Lib.itoa (l.getD i 0)), ?_, by simp only; omega, wrap_i64' (by omega) (by omega), ⟨rfl, fun _ _ => rfl, rfl⟩, rfl⟩⟩⟩⟩
    · simp only [List.length_append, List.length_cons, List.length_nil, List.length_drop]; omega
    · rw [← showI_neg hn]; exact st (by omega)
    · simp only [List.length_append, List.length_cons, List.length_nil]; omega
    · rw [← showI_pos (n := l.getD i 0) (by simpa using hn)]; exact st (by omega)
    · simp only [List.length_cons, List.length_drop]; omega
    · rw [← showI_neg hn]; exact st0 (by simpa using h0)
    · omega
    · rw [← showI_pos (n := l.getD i 0) (by simpa using hn)]; exact st0 (by simpa using h0)
  · have hge' : ¬ i < l.length := by simpa using hge
    have hd := hh.done (by simpa using hge')
    exact ⟨by omega, hd⟩
end Go.Proofs.YtpgepjefbhgblaaDoor
namespace Go.Proofs.YtpgepjefbhgblaaDoor
open Go Go.Ab
def boxW : List UInt8 := [98, 111, 120, 32]
def reshW : List UInt8 := [32, 114, 101, 115, 104, 97, 112, 101, 32]
def scalK (k : Int) (n : List Int) (ls : List (List UInt8)) : List UInt8 :=
  if k = 1 then showI (n.getD 0 0) else if k = 2 then quoB 39 [n.getD 0 0] else boxW ++ ls.getD 0 []
def itemB (l : List UInt8) : List UInt8 := 40 :: (boxW ++ l ++ [41])
def vecK (k : Int) (n : List Int) (ls : List (List UInt8)) : List UInt8 :=
  if k = 2 then quoB 34 n else Lib.join (n.map showI ++ ls.map itemB) [32]
def fillL (k : Int) : List UInt8 := if k = 1 then showI 0 else if k = 2 then quoB 39 [32] else boxW ++ (dimsB [0] ++ reshW ++ showI 0)
def litK (k : Int) (s n : List Int) (ls : List (List UInt8)) : List UInt8 :=
  if s.length = 0 then scalK k n ls
  else if s.length = 1 ∧ (k = 2 ∨ 1 < n.length + ls.length) then vecK k n ls
  else dimsB s ++ reshW ++ (if n.length + ls.length = 0 then fillL k else if n.length + ls.length = 1 then scalK k n ls else vecK k n ls)
mutual
def litA : Arr → List UInt8
  | .mk k s n is => litK k s n (litsL is)
def litsL : List Arr → List (List UInt8)
  | [] => []
  | a :: r => litA a :: litsL r
end
theorem litsL_map : ∀ l : List Arr, litsL l = l.map litA
  | [] => rfl
  | a :: l => by simp only [litsL, List.map_cons, litsL_map l]
theorem litA_eq (a : Arr) : litA a = litK a.k a.sh a.nu (a.it.map litA) := by
  cases a with
  | mk k s n is => rw [litA, litsL_map]; rfl
def sumL : List (List UInt8) → Nat
  | [] => 0
  | x :: l => x.length + sumL l
theorem sumL_getD : ∀ l : List (List UInt8), (l.getD 0 []).length ≤ sumL l
  | [] => by simp [sumL]
  | x :: l => by simp [sumL]
theorem sumL_append : ∀ l r : List (List UInt8), sumL (l ++ r) = sumL l + sumL r
  | [], r => by simp [sumL]
  | x :: l, r => by simp only [List.cons_append, sumL, sumL_append l r]; omega
theorem jT_sum (sep : List UInt8) : ∀ l : List (List UInt8), (jT sep l).length = sep.length * l.length + sumL l
  | [] => by simp [jT, sumL]
  | x :: l => by
    have := jT_sum sep l
    simp only [jT, List.flatMap_cons, List.length_append, List.length_cons, Nat.mul_succ, sumL] at this ⊢
    omega
theorem join_sum (sep : List UInt8) (l : List (List UInt8)) : (Lib.join l sep).length ≤ sep.length * l.length + sumL l := by
  cases l with
  | nil => simp [join_nil]
  | cons x l =>
    rw [join_cons]
    have := jT_sum sep l
    simp only [List.length_append, List.length_cons, Nat.mul_succ, sumL]
    omega
theorem sum_show : ∀ l : List Int, (∀ z ∈ l, inI64 z) → sumL (l.map showI) ≤ 21 * l.length
  | [], _ => by simp [sumL]
  | x :: l, h => by
    have h1 := sum_show l fun y hy => h y (List.mem_cons_of_mem _ hy)
    have h2 := showI_len (h x List.mem_cons_self)
    simp only [List.map_cons, sumL, List.length_cons]; omega
theorem sum_item : ∀ l : List (List UInt8), sumL (l.map itemB) = 6 * l.length + sumL l
  | [] => by simp [sumL]
  | x :: l => by
    have := sum_item l
    simp only [List.map_cons, sumL, List.length_cons, this, itemB, boxW, List.length_append, List.length_nil]; omega
theorem quoB_len (q : Int) (l : List Int) : (quoB q l).length ≤ 8 + 6 * l.length := by
  have h1 := utf8_len q
  have h2 := escL_len q l
  simp only [quoB, List.length_append]; omega
theorem show_len' {z : Int} (h : inI64 z) : (showI z).length ≤ 21 := (showI_len h).2
theorem getD_i64 {l : List Int} (h : ∀ z ∈ l, inI64 z) : inI64 (l.getD 0 0) := by
  cases l with
  | nil => exact ⟨by decide, by decide⟩
  | cons x l => exact h x List.mem_cons_self
theorem scalK_len (k : Int) {n : List Int} (hn : ∀ z ∈ n, inI64 z) (ls : List (List UInt8)) : (scalK k n ls).length ≤ 21 + sumL ls := by
  have h1 := show_len' (getD_i64 hn)
  have h2 := quoB_len 39 [n.getD 0 0]
  have h3 := sumL_getD ls
  simp only [List.length_cons, List.length_nil] at h2
  unfold scalK boxW
  split
  · omega
  split
  · omega
  · simp only [List.length_append, List.length_cons, List.length_nil]; omega
theorem vecK_len (k : Int) {n : List Int} (hn : ∀ z ∈ n, inI64 z) (ls : List (List UInt8)) : (vecK k n ls).length ≤ 8 + 22 * n.length + 7 * ls.length + sumL ls := by
  have h1 := quoB_len 34 n
  have h2 := join_sum [32] (n.map showI ++ ls.map itemB)
  have h3 := sum_show n hn
  have h4 := sum_item ls
  rw [sumL_append] at h2
  simp only [List.length_append, List.length_map, List.length_cons, List.length_nil] at h2
  unfold vecK
  split <;> omega
theorem fillL_len (k : Int) : (fillL k).length ≤ 60 := by
  have h0 : inI64 0 := ⟨by decide, by decide⟩
  have h1 := show_len' h0
  have h2 := quoB_len 39 [32]
  have h3 := dimsB_len (l := [0]) (by simpa using h0)
  simp only [List.length_cons, List.length_nil] at h2 h3
  unfold fillL boxW reshW
  split
  · omega
  split
  · omega
  · simp only [List.length_append, List.length_cons, List.length_nil]; omega
theorem litK_len (k : Int) {s n : List Int} (hs8 : s.length ≤ 8) (hs : ∀ z ∈ s, inI64 z) (hn : ∀ z ∈ n, inI64 z) (ls : List (List UInt8)) :
    (litK k s n ls).length ≤ 300 + 22 * n.length + 7 * ls.length + sumL ls := by
  have h1 := scalK_len k hn ls
  have h2 := vecK_len k hn ls
  have h3 := fillL_len k
  have h4 := dimsB_len hs
  unfold litK reshW
  split
  · omega
  split
  · omega
  · simp only [List.length_append, List.length_cons, List.length_nil]
    split
    · omega
    split <;> omega
mutual
def totA : Arr → Nat
  | .mk _ _ n is => n.length + totL is
def totL : List Arr → Nat
  | [] => 0
  | a :: r => 1 + totA a + totL r
end
theorem litA_len : ∀ a : Arr, a.ok → (chkA a).1 = 0 → (litA a).length ≤ 600 * totA a + 300
  | .mk k s n is, ho, h => by
    obtain ⟨h1, _, _, h4⟩ := chkA_zero h
    simp only [Arr.ok] at ho
    obtain ⟨_, hs, hn, _, _, _, hi⟩ := ho
    have hi := (okL_iff _).1 hi
    have key : ∀ l : List Arr, (∀ x ∈ l, x ∈ is) → 7 * l.length + sumL (litsL l) ≤ 600 * totL l := fun l => by
      induction l with
      | nil => simp [litsL, sumL, totL]
      | cons x l ih =>
        intro hl
        have h5 := ih fun y hy => hl y (List.mem_cons_of_mem _ hy)
        have hx : x ∈ is := hl x List.mem_cons_self
        have h6 := litA_len x (hi x hx) (h4 x hx)
        simp only [litsL, sumL, totL, List.length_cons]; omega
    have hk := key is fun x hx => hx
    have h7 := litK_len k h1 hs hn (litsL is)
    have h8 : (litsL is).length = is.length := by rw [litsL_map, List.length_map]
    simp only [litA, totA]
    omega
termination_by a => SizeOf.sizeOf a
decreasing_by
  have := List.sizeOf_lt_of_mem hx
  simp; omega
theorem chkL_big : ∀ (l : List Arr) (d w : Int) (r : Int × Int), chkL l d w = some r → 262145 ≤ w → 262145 ≤ r.2
  | [], d, w, r, h, hw => by rw [chkL] at h; injection h with h; subst h; exact hw
  | x :: l, d, w, r, h, hw => by
    rw [chkL] at h
    split at h
    · cases h
    · have hb := (chkA_bounds x).2.1
      refine chkL_big l _ _ r h ?_
      split <;> omega
theorem chkL_tot : ∀ (l : List Arr), (∀ x ∈ l, (chkA x).1 = 0 → (chkA x).2.2 = totA x) → ∀ (d w : Int) (r : Int × Int), chkL l d w = some r → r.2 ≤ 262144 → r.2 = w + totL l - l.length
  | [], _, d, w, r, h, _ => by rw [chkL] at h; injection h with h; subst h; simp [totL]
  | x :: l, hx, d, w, r, h, hr => by
    rw [chkL] at h
    split at h
    · cases h
    · rename_i h0
      have h0 : (chkA x).1 = 0 := Decidable.not_not.1 h0
      have h1 := hx x List.mem_cons_self h0
      by_cases hb : 262145 < w + (chkA x).2.2
      · rw [if_pos hb] at h
        have := chkL_big l _ _ r h (Int.le_refl _)
        omega
      · rw [if_neg hb] at h
        have := chkL_tot l (fun y hy => hx y (List.mem_cons_of_mem _ hy)) _ _ r h hr
        simp only [totL, List.length_cons]
        omega
theorem chkA_tot : ∀ a : Arr, (chkA a).1 = 0 → (chkA a).2.2 = totA a
  | .mk k s n is, h => by
    have hx : ∀ x ∈ is, (chkA x).1 = 0 → (chkA x).2.2 = totA x := fun x hx h => chkA_tot x h
    rw [chkA] at h ⊢
    by_cases h0 : formS k s n.length is.length ≠ 0
    · rw [if_pos h0] at h; exact (h0 h).elim
    · rw [if_neg h0] at h ⊢
      by_cases hb : n.any (badK k) = true
      · rw [if_pos hb] at h; simp at h
      · rw [if_neg hb] at h ⊢
        cases hr : chkL is 0 ((n.length : Int) + is.length) with
        | none => rw [hr] at h; simp at h
        | some r =>
          rw [hr] at h
          simp only at h ⊢
          by_cases hc : 16 < r.1 ∨ 262144 < r.2
          · rw [if_pos hc] at h; simp at h
          · rw [if_neg hc]
            have := chkL_tot is hx _ _ r hr (by omega)
            simp only [totA]
            omega
termination_by a => SizeOf.sizeOf a
decreasing_by
  have := List.sizeOf_lt_of_mem hx
  simp; omega
theorem tot_le {a : Arr} (h : (chkA a).1 = 0) : totA a ≤ 262144 := by
  have h1 := chkA_tot a h
  have h2 := chkA_bounds a
  omega
end Go.Proofs.YtpgepjefbhgblaaDoor
namespace Go.Proofs.YtpgepjefbhgblaaDoor
open Go Go.Ab
set_option maxRecDepth 100000
def conVc (its : List Arr) : Con := fun k ds S => match k with
  | 19 => some (sRc Arr.row1 (fun b => b ∈ its) (fun b => .str (litA b)))
  | 39 => match ds with
    | [.sl 1 n f m] => some (pC [.sl 1 n f m] (.str (Lib.join (strsOf n f) [32])) (strsB n f = true ∧ joinOk (strsOf n f) [32]))
    | _ => none
  | k => conJn k ds S
theorem conVc_ok {its : List Arr} (ih : ∀ b ∈ its, ACalls Tryd.prog 19 ((sRc Arr.row2 (fun _ => True) (fun b => .str (litA b))).args b) ⟨[], []⟩ (SpecR (sRc Arr.row2 (fun _ => True) (fun b => .str (litA b))) b)) : ConOk Tryd.prog (conVc its) := by
  intro k ds S A h
  unfold conVc at h
  split at h
  · injection h with h; subst h
    exact ConOk.plain (fun b hb => sRc_row (ih b hb)) rfl rfl
  · split at h
    · injection h with h; subst h
      exact pC_ok fun ⟨h1, h2⟩ => ⟨weakL_refl _, sC_weak (us := [ssl (strsOf _ _) .any]) ⟨ssl_weak h1, trivial⟩ (fjoin_ok _ h2)⟩
    · cases h
  · exact conJn_ok _ _ _ _ h
noncomputable def Evc (a : Arr) : Senv := { EC (conVc a.it) 44 4 [5, 7, 10, 15, 16, 17, 18, 28, 29, 30, 31] (fun _ => ([], [])) with
  gh := fun b => match b with
    | 0 => [.slot 3]
    | _ => []
  ann := fun b _ S => match b with
    | 0 => some { slots := [17, 3], keep := [1, 15, 16], α := Nat × Nat × List (List UInt8), st := fun y => ([.int .i64 y.1, ssl y.2.2 (.tok 0 y.2.1)], ⟨S.objs, [(0, y.2.1)]⟩), inv := fun y => y.1 ≤ a.nu.length ∧ y.2.2 = (a.nu.take y.1).map showI, mu := fun y => a.nu.length - y.1 }
    | 2 => some { slots := [30, 3], keep := [1, 28, 29], α := Nat × Nat × List (List UInt8), st := fun y => ([.int .i64 y.1, ssl y.2.2 (.tok 0 y.2.1)], ⟨S.objs, [(0, y.2.1)]⟩), inv := fun y => y.1 ≤ a.it.length ∧ y.2.2 = a.nu.map showI ++ (a.it.take y.1).map (fun b => itemB (litA b)), mu := fun y => a.it.length - y.1 }
    | _ => none }
theorem app_str {l : List (List UInt8)} {s : List UInt8} :
    ∀ i, i < l.length + 1 → appF l.length (fun i => [D.str (l.getD i [])]) (fun i => [[D.str s]].getD i []) i = [D.str ((l ++ [s]).getD i [])] := by
  intro i hi
  simp only [appF]
  split
  · rename_i hlt
    simp [List.getD_eq_getElem?_getD, List.getElem?_append_left hlt]
  · have : i = l.length := by omega
    subst this
    simp [List.getD_eq_getElem?_getD]
theorem take_st {α : Type} {l : List α} {i : Nat} (d : α) (h : i < l.length) : l.take (i + 1) = l.take i ++ [l.getD i d] := by
  rw [List.take_add_one, List.getElem?_eq_getElem h, List.getD_eq_getElem?_getD, List.getElem?_eq_getElem h]; rfl
theorem chk_chr {a : Arr} (h : (chkA a).1 = 0) (h2 : a.k = 2) : ∀ c ∈ a.nu, 0 ≤ c ∧ c ≤ 1114111 := by
  cases a with
  | mk k s n is =>
    have h2 : k = 2 := h2
    subst h2
    rw [chkA] at h
    by_cases h0 : formS 2 s n.length is.length ≠ 0
    · rw [if_pos h0] at h; exact (h0 h).elim
    · rw [if_neg h0] at h
      by_cases hb : n.any (badK 2) = true
      · rw [if_pos hb] at h; simp at h
      · intro c hc
        have hb : ¬ badK 2 c = true := fun h => hb (List.any_eq_true.2 ⟨c, hc, h⟩)
        have : chrB c = true := by simpa [badK] using hb
        simp only [chrB, Bool.and_eq_true, decide_eq_true_eq] at this
        omega
theorem items_len {a : Arr} (ho : a.ok) (h : (chkA a).1 = 0) : 7 * a.it.length + sumL (a.it.map litA) ≤ 157286400 := by
  have ht := tot_le h
  cases a with
  | mk k s n is =>
    obtain ⟨_, _, _, h4⟩ := chkA_zero h
    simp only [Arr.ok] at ho
    have hi := (okL_iff _).1 ho.2.2.2.2.2.2
    have key : ∀ l : List Arr, (∀ x ∈ l, x ∈ is) → 7 * l.length + sumL (l.map litA) ≤ 600 * totL l := fun l => by
      induction l with
      | nil => simp [sumL, totL]
      | cons x l ih =>
        intro hl
        have h5 := ih fun y hy => hl y (List.mem_cons_of_mem _ hy)
        have hx : x ∈ is := hl x List.mem_cons_self
        have h6 := litA_len x (hi x hx) (h4 x hx)
        simp only [List.map_cons, sumL, totL, List.length_cons]; omega
    have hk := key is fun x hx => hx
    simp only [totA] at ht
    show 7 * is.length + sumL (is.map litA) ≤ _
    omega
theorem mem_sum : ∀ {l : List Arr} {x : Arr}, x ∈ l → (litA x).length ≤ sumL (l.map litA)
  | y :: l, x, h => by
    simp only [List.map_cons, sumL]
    rcases List.mem_cons.1 h with rfl | h
    · omega
    · have := mem_sum h; omega
theorem arr_dims {a : Arr} (ho : a.ok) (h : (chkA a).1 = 0) : a.sh.length ≤ 8 ∧ a.nu.length ≤ 65536 ∧ a.it.length ≤ 65536 ∧ (∀ z ∈ a.sh, inI64 z) ∧ ∀ z ∈ a.nu, inI64 z := by
  cases a with
  | mk k s n is =>
    obtain ⟨h1, h2, h3, _⟩ := chkA_zero h
    simp only [Arr.ok] at ho
    exact ⟨h1, h2, h3, ho.2.1, ho.2.2.1⟩
structure LOk (a : Arr) : Prop where
  kd : a.k = 1 ∨ a.k = 2 ∨ a.k = 3
  s8 : a.sh.length ≤ 8
  n6 : a.nu.length ≤ 65536
  i6 : a.it.length ≤ 65536
  si : ∀ z ∈ a.sh, inI64 z
  ni : ∀ z ∈ a.nu, inI64 z
  sum : 7 * a.it.length + sumL (a.it.map litA) ≤ 157286400
  chr : a.k = 2 → ∀ c ∈ a.nu, 0 ≤ c ∧ c ≤ 1114111
  no : a.k ≠ 3 → a.it = []
  bx : a.k = 3 → a.nu = []
  sc : a.sh.length = 0 → a.nu.length + a.it.length = 1
noncomputable section
def ve1q0 (p0 : Arr) : Int := Arr.k p0
def ve1q1 (p0 : Arr) : List Int := Arr.nu p0
def ve1q2 (p0 : Arr) : Nat := LN (ve1q1 p0)
def ve1q3 (p0 : Arr) (p1 : Nat) : List D := [ZI (GI (ve1q1 p0) p1)]
def ve1q4 (p0 : Arr) : List Int := intsD (ve1q2 p0) fun (i : Nat) => ve1q3 p0 i
def ve1q5 (p0 : Arr) : List Arr := Arr.it p0
def ve1q6 (p0 : Arr) : List UInt8 := vecK (ve1q0 p0) (ve1q1 p0) (List.map litA (ve1q5 p0))
def ve1q7 (p0 : Nat) (p1 : Arr) (p2 : List (List UInt8)) : Prop := p0 ≤ ve1q2 p1 ∧ p2 = List.map showI (List.take p0 (ve1q1 p1))
def ve1q8 (p0 : List (List UInt8)) (p1 : Nat) : List D := [D.str (List.getD p0 p1 [])]
def ve1q9 (p0 : Arr) : Nat := LN (Arr.sh p0)
def ve1q10 (p0 : Arr) (p1 : Nat) : List D := [ZI (GI (Arr.sh p0) p1)]
def ve1q11 (p0 : Arr) : Nat := LN (ve1q5 p0)
def ve1q12 : Arr := DA
def ve1q13 (p0 : Arr) (p1 : Nat) : Arr := List.getD (ve1q5 p0) p1 ve1q12
def ve1q14 (p0 : Arr) (p1 : Nat) : List Int := Arr.sh (ve1q13 p0 p1)
def ve1q15 (p0 : Arr) (p1 : Nat) : List Int := Arr.nu (ve1q13 p0 p1)
def ve1q16 (p0 : Arr) (p1 : Nat) : List Arr := Arr.it (ve1q13 p0 p1)
def ve1q17 (p0 : Arr) (p1 : Nat) : List D := [ZI (Arr.k (ve1q13 p0 p1)), SI (ve1q14 p0 p1), SI (ve1q15 p0 p1), D.sl N4 (LN (ve1q16 p0 p1)) (fun (i : Nat) => Arr.row (List.getD (ve1q16 p0 p1) i ve1q12)) Mode.any]
def ve1q18 (p0 : Nat) (p1 : Arr) (p2 p3 : Nat) : Prop := (SM p0 ∧ (SM (ve1q0 p1) ∧ (SM (ve1q9 p1) ∧ (∀ (i : Nat), i < ve1q9 p1 → SM (ve1q10 p1 i)) ∧ True) ∧ (SM (ve1q2 p1) ∧ (∀ (i : Nat), i < ve1q2 p1 → SM (ve1q3 p1 i)) ∧ True) ∧ (SM (ve1q11 p1) ∧ (∀ (i : Nat), i < ve1q11 p1 → SM (ve1q17 p1 i)) ∧ True) ∧ True) ∧ True) ∧ p2 = p3 ∧ True
def ve1q19 (p0 : Arr) : Int := (NI (ve1q2 p0))
def ve1q20 (p0 : Arr) : D := D.sl N1 (ve1q2 p0) (fun (i : Nat) => ve1q3 p0 i) Mode.any
def ve1q21 (p0 : Nat) (p1 : Arr) (p2 : List (List UInt8)) : Prop := p0 ≤ ve1q11 p1 ∧ p2 = List.map showI (ve1q1 p1) ++ List.map (fun (b : Arr) => itemB (litA b)) (List.take p0 (ve1q5 p1))
def ve1q22 (p0 : Arr) : Int := (NI (ve1q11 p0))
def ve1q23 (p0 : Arr) (p1 : Nat) : Arr := List.getD (ve1q5 p0) (Int.toNat (↑p1 : Int)) ve1q12
def ve1q24 (p0 : Arr) (p1 : Nat) : List Int := Arr.sh (ve1q23 p0 p1)
def ve1q25 (p0 : Arr) (p1 : Nat) : Nat := LN (ve1q24 p0 p1)
def ve1q26 (p0 : Arr) (p1 : Nat) : List Int := Arr.nu (ve1q23 p0 p1)
def ve1q27 (p0 : Arr) (p1 : Nat) : Nat := LN (ve1q26 p0 p1)
def ve1q28 (p0 : Arr) (p1 : Nat) : List Arr := Arr.it (ve1q23 p0 p1)
def ve1q29 (p0 : Arr) (p1 : Nat) : Nat := LN (ve1q28 p0 p1)
def ve1q30 (p0 : Arr) : D := D.sl N4 (ve1q11 p0) (fun (i : Nat) => ve1q17 p0 i) Mode.any
def ve1q31 (p0 : List (List UInt8)) : List (List UInt8) := strsOf (LN p0) fun (i : Nat) => ve1q8 p0 i
end
theorem vec_step (a : Arr) (ho : LOk a) (hc : ConOk Tryd.prog (conVc a.it)) :
    ACalls Tryd.prog 40 ((sRc Arr.row2 (fun _ => True) (fun a => .str (vecK a.k a.nu (a.it.map litA)))).args a) ⟨[], []⟩ (SpecR (sRc Arr.row2 (fun _ => True) (fun a => .str (vecK a.k a.nu (a.it.map litA)))) a) := by
  refine con_of (A := sRc Arr.row2 (fun _ => True) (fun a => .str (vecK a.k a.nu (a.it.map litA)))) (x := a) (E := Evc a) (eOk hc rfl) Tryd.func40 rfl (by kernel_rfl) rfl (by simp [sRc, Evc, EC, E0]) ?_
  refine vc_eq (T :=
    ∀ (x : Nat), True → SM x ∧ ifB (ve1q0 a == (2 : Int)) (SM x ∧ (ve1q2 a ≤ (1099511627776 : Nat) ∧ (IntsP (ve1q2 a) fun (i : Nat) => ve1q3 a i) ∧ ∀ (c : Int), c ∈ ve1q4 a → Z0 ≤ c ∧ c ≤ (1114111 : Int)) ∧ ∀ (y : Unit), True → True ∧ ∃ (y : Unit), True ∧ quoB (34 : Int) (ve1q4 a) = ve1q6 a ∧ True ∧ True) (SM x ∧ ∀ (t : Nat), (∃ (x_1 : Nat × Nat × List (List UInt8)), ve1q7 x_1.1 a x_1.2.2 ∧ (Z0 = (NI x_1.1) ∧ (N0 = LN x_1.2.2 ∧ (∀ (i : Nat), i < N0 → eqOf (List D) [] (ve1q8 x_1.2.2 i)) ∧ t = x_1.2.1) ∧ True) ∧ ve1q18 x a t x_1.2.1) ∧ ∀ (x_1 : Nat × Nat × List (List UInt8)), ve1q7 x_1.1 a x_1.2.2 → ifB (decide ((NI x_1.1) < ve1q19 a)) (side (Z0 ≤ (NI x_1.1) ∧ (NI x_1.1) < ve1q19 a) (inI64 (GI (ve1q1 a) (TN x_1.1)) ∧ ∀ (y : Unit), True → SM x_1.2.1 ∧ side ((LN x_1.2.2 + N1) * (16 : Nat) ≤ (140737488355328 : Nat) ∧ LN x_1.2.2 + N1 ≤ (9223372036854775807 : Nat)) (∀ (t : Nat), (SM (D.ref N0 x N0) ∧ SM (ve1q20 a) ∧ SM (ZI (ve1q19 a)) ∧ True) ∧ ∃ (y : Nat × Nat × List (List UInt8)), ve1q7 y.1 a y.2.2 ∧ ve1q2 a - y.1 < ve1q2 a - x_1.1 ∧ (IntKind.wrap IntKind.i64 ((NI x_1.1) + Z1) = (NI y.1) ∧ (LN x_1.2.2 + N1 = LN y.2.2 ∧ (∀ (i : Nat), i < LN x_1.2.2 + N1 → appF (LN x_1.2.2) (fun (i : Nat) => ve1q8 x_1.2.2 i) (fun (i : Nat) => List.getD [[D.str (showI (GI (ve1q1 a) (TN x_1.1)))]] i []) i = ve1q8 y.2.2 i) ∧ t = y.2.1) ∧ True) ∧ ve1q18 x a t y.2.1))) (SM x ∧ (∃ (x_2 : Nat × Nat × List (List UInt8)), ve1q21 x_2.1 a x_2.2.2 ∧ (Z0 = (NI x_2.1) ∧ (LN x_1.2.2 = LN x_2.2.2 ∧ (∀ (i : Nat), i < LN x_1.2.2 → ve1q8 x_1.2.2 i = ve1q8 x_2.2.2 i) ∧ x_1.2.1 = x_2.2.1) ∧ True) ∧ ve1q18 x a x_1.2.1 x_2.2.1) ∧ ∀ (x_2 : Nat × Nat × List (List UInt8)), ve1q21 x_2.1 a x_2.2.2 → ifB (decide ((NI x_2.1) < ve1q22 a)) (side (Z0 ≤ (NI x_2.1) ∧ (NI x_2.1) < ve1q22 a) (∀ (x_3 : Nat), x ≠ x_3 ∧ True → SM x_3 ∧ SM x_3 ∧ ∃ (x_4 : Arr), ((Arr.k (ve1q23 a x_2.1) = ve1q0 x_4 ∧ (ve1q25 a x_2.1 = ve1q9 x_4 ∧ (∀ (i : Nat), i < ve1q25 a x_2.1 → [ZI (GI (ve1q24 a x_2.1) i)] = ve1q10 x_4 i) ∧ True) ∧ (ve1q27 a x_2.1 = ve1q2 x_4 ∧ (∀ (i : Nat), i < ve1q27 a x_2.1 → [ZI (GI (ve1q26 a x_2.1) i)] = ve1q3 x_4 i) ∧ True) ∧ (ve1q29 a x_2.1 = ve1q11 x_4 ∧ (∀ (i : Nat), i < ve1q29 a x_2.1 → Arr.row (List.getD (ve1q28 a x_2.1) i ve1q12) = Arr.row (ve1q13 x_4 i)) ∧ True) ∧ True) ∧ True) ∧ (True ∧ True) ∧ x_4 ∈ ve1q5 a ∧ ∀ (y : Unit), True → side ((5 : Nat) + LN (litA x_4) ≤ (9223372036854775807 : Nat)) (side (LN ((40 : UInt8) :: (98 : UInt8) :: (111 : UInt8) :: (120 : UInt8) :: (32 : UInt8) :: List.append [] (litA x_4)) + N1 ≤ (9223372036854775807 : Nat)) (SM x_2.2.1 ∧ side ((LN x_2.2.2 + N1) * (16 : Nat) ≤ (140737488355328 : Nat) ∧ LN x_2.2.2 + N1 ≤ (9223372036854775807 : Nat)) (∀ (t : Nat), (SM (D.ref N0 x N0) ∧ SM (ve1q30 a) ∧ SM (ZI (ve1q22 a)) ∧ True) ∧ ∃ (y : Nat × Nat × List (List UInt8)), ve1q21 y.1 a y.2.2 ∧ ve1q11 a - y.1 < ve1q11 a - x_2.1 ∧ (IntKind.wrap IntKind.i64 ((NI x_2.1) + Z1) = (NI y.1) ∧ (LN x_2.2.2 + N1 = LN y.2.2 ∧ (∀ (i : Nat), i < LN x_2.2.2 + N1 → appF (LN x_2.2.2) (fun (i : Nat) => ve1q8 x_2.2.2 i) (fun (i : Nat) => List.getD [[D.str ((40 : UInt8) :: (98 : UInt8) :: (111 : UInt8) :: (120 : UInt8) :: (32 : UInt8) :: List.append (List.append [] (litA x_4)) [(41 : UInt8)])]] i []) i = ve1q8 y.2.2 i) ∧ t = y.2.1) ∧ True) ∧ ve1q18 x a t y.2.1))))) (((strsB (LN x_2.2.2) fun (i : Nat) => ve1q8 x_2.2.2 i) = true ∧ joinOk (ve1q31 x_2.2.2) [(32 : UInt8)]) ∧ ∀ (y : Unit), True → True ∧ ∃ (y : Unit), True ∧ Lib.join (ve1q31 x_2.2.2) [(32 : UInt8)] = ve1q6 a ∧ True ∧ True)))) (by kernel_rfl) ?_
  delta DA GI LN N0 N1 N4 NI SI SM TN Z0 Z1 ZI ve1q0 ve1q1 ve1q10 ve1q11 ve1q12 ve1q13 ve1q14 ve1q15 ve1q16 ve1q17 ve1q18 ve1q19 ve1q2 ve1q20 ve1q21 ve1q22 ve1q23 ve1q24 ve1q25 ve1q26 ve1q27 ve1q28 ve1q29 ve1q3 ve1q30 ve1q31 ve1q4 ve1q5 ve1q6 ve1q7 ve1q8 ve1q9
  have da : (default : Arr) = Arr.mk 0 [] [] [] := rfl
  simp only [← da, ifB_iff, side_iff, decide_eq_true_eq, decide_eq_false_iff_not, true_and, and_true, beq_iff_eq, beq_eq_false_iff_ne, ne_eq, exists_const, forall_const, Int.toNat_natCast]
  simp only [intsD_isl]
  obtain ⟨_, l1, l2, l3, l4, l5, hsum, hchr, _, _, _⟩ := ho
  have tt : (∀ i : Nat, i < a.sh.length → True) ∧ (∀ i : Nat, i < a.nu.length → True) ∧ ∀ i : Nat, i < a.it.length → True := ⟨fun _ _ => trivial, fun _ _ => trivial, fun _ _ => trivial⟩
  intro x
  refine ⟨fun h2 => ⟨⟨by omega, intsP_isl _, hchr h2⟩, by rw [vecK, if_pos h2]⟩, fun h2 t => ⟨⟨(0, t, []), ⟨Nat.zero_le _, rfl⟩, ⟨rfl, rfl, fun i hi => absurd hi (by omega), rfl⟩, tt, rfl⟩, ?_⟩⟩
  rintro ⟨i, t1, out⟩ ⟨hi, he⟩
  simp only at hi he ⊢
  have ho1 : out.length = i := by rw [he, List.length_map, List.length_take]; omega
  refine ⟨fun hlt => ?_, fun hge => ⟨⟨(0, t1, out), ⟨Nat.zero_le _, ?_⟩, ⟨rfl, rfl, fun _ _ => rfl, rfl⟩, tt, rfl⟩, ?_⟩⟩
  · have hlt' : i < a.nu.length := by omega
    refine ⟨⟨by omega, by omega⟩, l5 _ (memI hlt'), ⟨by omega, by omega⟩, fun t2 => ⟨(i + 1, t2, out ++ [showI (a.nu.getD i 0)]), ⟨by simp only; omega, ?_⟩, by simp only; omega, ⟨wrap_i64' (by omega) (by omega), by simp, app_str, rfl⟩, tt, rfl⟩⟩
    simp only
    rw [take_st 0 hlt', List.map_append, he]; rfl
  · have : i = a.nu.length := by omega
    subst this
    rw [he]; simp
  rintro ⟨j, t3, o2⟩ ⟨hj, he2⟩
  simp only at hj he2 ⊢
  have ho2 : o2.length = a.nu.length + j := by rw [he2, List.length_append, List.length_map, List.length_map, List.length_take]; omega
  refine ⟨fun hlt => ⟨⟨by omega, by omega⟩, fun x3 _ => ?_⟩, fun hge => ?_⟩
  · have hlt' : j < a.it.length := by omega
    have hm := mem_getD hlt'
    have hl := mem_sum hm
    refine ⟨a.it.getD j default, ⟨rfl, ⟨rfl, fun _ _ => rfl⟩, ⟨rfl, fun _ _ => rfl⟩, rfl, fun _ _ => rfl⟩, hm, by omega, ?_, ⟨by omega, by omega⟩, fun t4 => ⟨(j + 1, t4, o2 ++ [itemB (litA (a.it.getD j default))]), ⟨by simp only; omega, ?_⟩, by simp only; omega, ⟨wrap_i64' (by omega) (by omega), by simp, app_str, rfl⟩, tt, rfl⟩⟩
    · simp only [List.length_cons, app_nil']; omega
    · simp only
      rw [take_st default hlt', List.map_append, he2, List.append_assoc]; rfl
  · have hj' : j = a.it.length := by omega
    subst hj'
    rw [List.take_length] at he2
    have hv : Lib.join o2 [32] = vecK a.k a.nu (a.it.map litA) := by
      rw [vecK, if_neg h2, he2, List.map_map]; rfl
    have hvl := vecK_len a.k l5 (a.it.map litA)
    rw [List.length_map] at hvl
    rw [strsOf_eq (l := o2) rfl (fun _ _ => rfl)]
    exact ⟨⟨strsB_eq (l := o2) rfl (fun _ _ => rfl), by omega, by rw [hv]; omega⟩, hv⟩
end Go.Proofs.YtpgepjefbhgblaaDoor
namespace Go.Proofs.YtpgepjefbhgblaaDoor
open Go Go.Ab
set_option maxRecDepth 100000
def sAt (q : Arr → Prop) : FnSpec where
  β := Arr
  α := Unit
  args := fun a => [.agg a.row2, .int .i64 0]
  st := fun _ => ⟨[], []⟩
  pre := q
  post := fun _ _ => True
  res := fun a _ => .ret (.agg (atA a 0).row1)
  out := fun _ _ => ⟨[], []⟩
def conLf (a : Arr) (q : Arr → Prop) : Con := fun k ds S => match k with
  | 19 => some (sRc Arr.row1 q (fun b => .str (litA b)))
  | 40 => some (sRc Arr.row2 (fun b => b = a) (fun b => .str (vecK b.k b.nu (b.it.map litA))))
  | 41 => some (sRc Arr.row2 (fun b => b = a) (fun b => .agg (fillA b.k).row1))
  | 42 => some (sAt (fun b => b = a ∧ a.nu.length + a.it.length = 1))
  | 43 => match ds with
    | [.sl 1 n f m] => some (pC [.sl 1 n f m] (.str (dimsB (intsD n f))) (IntsP n f ∧ n ≤ 1099511627776 ∧ ∀ z ∈ intsD n f, inI64 z))
    | _ => none
  | 39 => match ds with
    | [.sl 1 n f m] => some (pC [.sl 1 n f m] (.str (Lib.join (strsOf n f) [32])) (strsB n f = true ∧ joinOk (strsOf n f) [32]))
    | _ => none
  | k => conJn k ds S
theorem join2 (x y : List UInt8) : Lib.join [x, y] [32] = x ++ 32 :: y := by rw [join_cons]; simp [jT]
theorem join3 (x y z : List UInt8) : Lib.join [x, y, z] [32] = x ++ (32 :: (y ++ 32 :: z)) := by rw [join_cons]; simp [jT]
theorem strs2 (x y : List UInt8) : strsOf 2 (fun i => [[D.str x], [D.str y]].getD i []) = [x, y] := rfl
theorem strs3 (x y z : List UInt8) : strsOf 3 (fun i => [[D.str x], [D.str y], [D.str z]].getD i []) = [x, y, z] := rfl
theorem strsB2 (x y : List UInt8) : strsB 2 (fun i => [[D.str x], [D.str y]].getD i []) = true := rfl
theorem strsB3 (x y z : List UInt8) : strsB 3 (fun i => [[D.str x], [D.str y], [D.str z]].getD i []) = true := rfl
theorem ints1 (z : Int) : intsD 1 (fun i => [[D.int .i64 z]].getD i []) = [z] := rfl
theorem intsP1 (z : Int) : IntsP 1 (fun i => [[D.int .i64 z]].getD i []) := fun i hi => by
  have : i = 0 := by omega
  subst this; rfl
theorem fill_lit {k : Int} (h : k = 1 ∨ k = 2 ∨ k = 3) : litA (fillA k) = fillL k := by
  rcases h with rfl | rfl | rfl
  · rfl
  · rfl
  · rfl
theorem litA_scal (k : Int) (n : List Int) (is : List Arr) : litA (.mk k [] n is) = scalK k n (is.map litA) := by
  rw [litA, litsL_map, litK, if_pos List.length_nil]
theorem at_lit {a : Arr} (kd : a.k = 1 ∨ a.k = 2 ∨ a.k = 3) (bx : a.k = 3 → a.nu = []) (h : a.nu.length + a.it.length = 1) : litA (atA a 0) = scalK a.k a.nu (a.it.map litA) := by
  unfold atA
  by_cases h3 : a.k = 3
  · rw [if_pos h3, litA_scal, h3]
    cases hi : a.it with
    | nil => rw [bx h3, hi] at h; simp at h
    | cons x l => rfl
  · rw [if_neg h3, litA_scal, scalK, scalK]
    by_cases h1 : a.k = 1
    · rw [if_pos h1, if_pos h1]; rfl
    · rw [if_neg h1, if_neg h1, if_pos (by omega), if_pos (by omega)]; rfl
noncomputable def Elf (a : Arr) (q : Arr → Prop) : Senv := EC (conLf a q) 90 5 [12, 27, 43, 55, 71, 74, 79] (fun _ => ([], []))
noncomputable section
def lf1q0 (p0 : Arr) : Nat := LN (Arr.sh p0)
def lf1q1 (p0 : Arr) : Bool := (NI (lf1q0 p0)) == Z0
def lf1q2 (p0 : Arr) : Int := Arr.k p0
def lf1q3 (p0 : Arr) : Bool := bif lf1q1 p0 then lf1q2 p0 == Z1 else false
def lf1q4 (p0 : Arr) : List Int := Arr.nu p0
def lf1q5 (p0 : Arr) : Nat := LN (lf1q4 p0)
def lf1q6 (p0 : Arr) : Int := (NI (lf1q5 p0))
def lf1q7 (p0 : Arr) : Int := GI (lf1q4 p0) N0
def lf1q8 (p0 : Arr) : List UInt8 := litA p0
def lf1q9 (p0 : Arr) : Bool := lf1q2 p0 == (2 : Int)
def lf1q10 (p0 : Arr) : Bool := bif lf1q1 p0 then lf1q9 p0 else false
def lf1q11 (p0 : Arr) (p1 : Nat) : List D := List.getD [[ZI (lf1q7 p0)]] p1 []
def lf1q12 (p0 : Arr) : List Int := intsD N1 fun (i : Nat) => lf1q11 p0 i
def lf1q13 (p0 : Arr) : List Arr := Arr.it p0
def lf1q14 (p0 : Arr) : Nat := LN (lf1q13 p0)
def lf1q15 : Arr := DA
def lf1q16 (p0 : Arr) : Arr := List.getD (lf1q13 p0) N0 lf1q15
def lf1q17 (p0 : Arr) : List Int := Arr.sh (lf1q16 p0)
def lf1q18 (p0 : Arr) : Nat := LN (lf1q17 p0)
def lf1q19 (p0 : Arr) (p1 : Nat) : List D := [ZI (GI (Arr.sh p0) p1)]
def lf1q20 (p0 : Arr) : List Int := Arr.nu (lf1q16 p0)
def lf1q21 (p0 : Arr) : Nat := LN (lf1q20 p0)
def lf1q22 (p0 : Arr) (p1 : Nat) : List D := [ZI (GI (lf1q4 p0) p1)]
def lf1q23 (p0 : Arr) : List Arr := Arr.it (lf1q16 p0)
def lf1q24 (p0 : Arr) : Nat := LN (lf1q23 p0)
def lf1q25 (p0 : Arr) (p1 : Nat) : Arr := List.getD (lf1q13 p0) p1 lf1q15
def lf1q26 (p0 : Arr) (p1 : Nat) : List D := Arr.row (lf1q25 p0 p1)
def lf1q27 (p0 : Arr) (p1 : Nat) : List D := List.getD [[D.str [(98 : UInt8), (111 : UInt8), (120 : UInt8)]], [D.str (lf1q8 p0)]] p1 []
def lf1q28 (p0 : Arr) : List (List UInt8) := strsOf N2 fun (i : Nat) => lf1q27 p0 i
def lf1q29 (p0 : Arr) : Int := IntKind.wrap IntKind.i64 (lf1q6 p0 + (NI (lf1q14 p0)))
def lf1q30 (p0 : Arr) : Bool := decide (Z1 < lf1q29 p0)
def lf1q31 (p0 : Arr) : Bool := bif (NI (lf1q0 p0)) == Z1 then bif lf1q9 p0 then true else lf1q30 p0 else false
def lf1q32 (p0 : Arr) (p1 : Nat) : List Int := Arr.sh (lf1q25 p0 p1)
def lf1q33 (p0 : Arr) (p1 : Nat) : List Int := Arr.nu (lf1q25 p0 p1)
def lf1q34 (p0 : Arr) (p1 : Nat) : List Arr := Arr.it (lf1q25 p0 p1)
def lf1q35 (p0 : Arr) (p1 : Nat) : List D := [ZI (Arr.k (lf1q25 p0 p1)), SI (lf1q32 p0 p1), SI (lf1q33 p0 p1), D.sl N4 (LN (lf1q34 p0 p1)) (fun (i : Nat) => Arr.row (List.getD (lf1q34 p0 p1) i lf1q15)) Mode.any]
def lf1q36 (p0 p1 : Arr) : Prop := lf1q2 p0 = lf1q2 p1 ∧ (lf1q0 p0 = lf1q0 p1 ∧ (∀ (i : Nat), i < lf1q0 p0 → lf1q19 p0 i = lf1q19 p1 i) ∧ True) ∧ (lf1q5 p0 = lf1q5 p1 ∧ (∀ (i : Nat), i < lf1q5 p0 → lf1q22 p0 i = lf1q22 p1 i) ∧ True) ∧ (lf1q14 p0 = lf1q14 p1 ∧ (∀ (i : Nat), i < lf1q14 p0 → lf1q35 p0 i = lf1q35 p1 i) ∧ True) ∧ True
def lf1q37 (p0 p1 : Arr) : Prop := lf1q36 p0 p1 ∧ True
def lf1q38 (p0 : Arr) : List UInt8 := vecK (lf1q2 p0) (lf1q4 p0) (List.map litA (lf1q13 p0))
def lf1q39 (p0 : Arr) : Arr := fillA (lf1q2 p0)
def lf1q40 (p0 : Arr) : List Int := Arr.sh (lf1q39 p0)
def lf1q41 (p0 : Arr) : Nat := LN (lf1q40 p0)
def lf1q42 (p0 : Arr) : List Int := Arr.nu (lf1q39 p0)
def lf1q43 (p0 : Arr) : Nat := LN (lf1q42 p0)
def lf1q44 (p0 : Arr) : List Arr := Arr.it (lf1q39 p0)
def lf1q45 (p0 : Arr) : Nat := LN (lf1q44 p0)
def lf1q46 (p0 : Arr) : List Int := intsD (lf1q0 p0) fun (i : Nat) => lf1q19 p0 i
def lf1q47 (p0 : Arr) : Prop := (IntsP (lf1q0 p0) fun (i : Nat) => lf1q19 p0 i) ∧ lf1q0 p0 ≤ (1099511627776 : Nat) ∧ ∀ (z : Int), z ∈ lf1q46 p0 → inI64 z
def lf1q48 (p0 : Arr) : List D := [D.str (dimsB (lf1q46 p0))]
def lf1q49 : List D := [D.str [(114 : UInt8), (101 : UInt8), (115 : UInt8), (104 : UInt8), (97 : UInt8), (112 : UInt8), (101 : UInt8)]]
def lf1q50 (p0 p1 : Arr) (p2 : Nat) : List D := List.getD [lf1q48 p0, lf1q49, [D.str (lf1q8 p1)]] p2 []
def lf1q51 (p0 p1 : Arr) : List (List UInt8) := strsOf (3 : Nat) fun (i : Nat) => lf1q50 p0 p1 i
def lf1q52 (p0 : Arr → Prop) (p1 : Arr) (p2 : Nat) (p3 : Arr) : Prop := (True ∧ True) ∧ p0 p1 ∧ ∀ (_y : Unit), True → SM p2 ∧ lf1q47 p3 ∧ ∀ (_y : Unit), True → ((strsB (3 : Nat) fun (i : Nat) => lf1q50 p3 p1 i) = true ∧ joinOk (lf1q51 p3 p1) [(32 : UInt8)]) ∧ ∀ (_y : Unit), True → True ∧ ∃ (_y : Unit), True ∧ Lib.join (lf1q51 p3 p1) [(32 : UInt8)] = lf1q8 p3 ∧ True ∧ True
def lf1q53 (p0 : Arr) : Arr := atA p0 N0
def lf1q54 (p0 : Arr) : List Int := Arr.sh (lf1q53 p0)
def lf1q55 (p0 : Arr) : Nat := LN (lf1q54 p0)
def lf1q56 (p0 : Arr) : List Int := Arr.nu (lf1q53 p0)
def lf1q57 (p0 : Arr) : Nat := LN (lf1q56 p0)
def lf1q58 (p0 : Arr) : List Arr := Arr.it (lf1q53 p0)
def lf1q59 (p0 : Arr) : Nat := LN (lf1q58 p0)
def lf1q60 (p0 p1 : Arr) (p2 : Nat) : List D := List.getD [lf1q48 p0, lf1q49, [D.str (lf1q38 p1)]] p2 []
def lf1q61 (p0 p1 : Arr) : List (List UInt8) := strsOf (3 : Nat) fun (i : Nat) => lf1q60 p0 p1 i
end
theorem lit_step (a : Arr) (q : Arr → Prop) (ho : LOk a) (hi : ∀ b ∈ a.it, q b) (h0 : a.sh.length ≠ 0 → a.nu.length + a.it.length = 0 → q (fillA a.k)) (h1 : a.sh.length ≠ 0 → a.nu.length + a.it.length = 1 → q (atA a 0)) (hc : ConOk Tryd.prog (conLf a q)) :
    ACalls Tryd.prog 19 ((sRc Arr.row2 (fun _ => True) (fun b => .str (litA b))).args a) ⟨[], []⟩ (SpecR (sRc Arr.row2 (fun _ => True) (fun b => .str (litA b))) a) := by
  refine con_of (A := sRc Arr.row2 (fun _ => True) (fun b => .str (litA b))) (x := a) (E := Elf a q) (eOk hc rfl) Tryd.func19 rfl (by kernel_rfl) rfl (by simp [sRc, Elf, EC, E0]) ?_
  refine vc_eq (T :=
    ∀ (x : Nat), True → SM x ∧ SM x ∧ (SM x ∧ ifB (lf1q1 a) (SM x ∧ (lf1q2 a == Z1) = lf1q3 a ∧ True) (false = lf1q3 a ∧ True)) ∧ ifB (lf1q3 a) (SM x ∧ side (Z0 ≤ Z0 ∧ Z0 < lf1q6 a) (inI64 (lf1q7 a) ∧ ∀ (y : Unit), True → True ∧ ∃ (y : Unit), True ∧ showI (lf1q7 a) = lf1q8 a ∧ True ∧ True)) ((SM x ∧ ifB (lf1q1 a) (SM x ∧ lf1q9 a = lf1q10 a ∧ True) (false = lf1q10 a ∧ True)) ∧ ifB (lf1q10 a) (SM x ∧ side (Z0 ≤ Z0 ∧ Z0 < lf1q6 a) ((N1 ≤ (1099511627776 : Nat) ∧ (IntsP N1 fun (i : Nat) => lf1q11 a i) ∧ ∀ (c : Int), c ∈ lf1q12 a → Z0 ≤ c ∧ c ≤ (1114111 : Int)) ∧ ∀ (y : Unit), True → True ∧ ∃ (y : Unit), True ∧ quoB (39 : Int) (lf1q12 a) = lf1q8 a ∧ True ∧ True)) (SM x ∧ ifB (lf1q1 a) (SM x ∧ side (Z0 ≤ Z0 ∧ Z0 < (NI (lf1q14 a))) (∃ (x : Arr), ((Arr.k (lf1q16 a) = lf1q2 x ∧ (lf1q18 a = lf1q0 x ∧ (∀ (i : Nat), i < lf1q18 a → [ZI (GI (lf1q17 a) i)] = lf1q19 x i) ∧ True) ∧ (lf1q21 a = lf1q5 x ∧ (∀ (i : Nat), i < lf1q21 a → [ZI (GI (lf1q20 a) i)] = lf1q22 x i) ∧ True) ∧ (lf1q24 a = lf1q14 x ∧ (∀ (i : Nat), i < lf1q24 a → Arr.row (List.getD (lf1q23 a) i lf1q15) = lf1q26 x i) ∧ True) ∧ True) ∧ True) ∧ (True ∧ True) ∧ q x ∧ ∀ (y : Unit), True → ((strsB N2 fun (i : Nat) => lf1q27 x i) = true ∧ joinOk (lf1q28 x) [(32 : UInt8)]) ∧ ∀ (y : Unit), True → True ∧ ∃ (y : Unit), True ∧ Lib.join (lf1q28 x) [(32 : UInt8)] = lf1q8 a ∧ True ∧ True)) ((SM x ∧ ifB ((NI (lf1q0 a)) == Z1) (SM x ∧ ifB (lf1q9 a) (true = lf1q31 a ∧ True) (lf1q30 a = lf1q31 a ∧ True)) (false = lf1q31 a ∧ True)) ∧ ifB (lf1q31 a) (SM x ∧ ∃ (x : Arr), lf1q37 a x ∧ (True ∧ True) ∧ x = a ∧ ∀ (y : Unit), True → True ∧ ∃ (y : Unit), True ∧ lf1q38 x = lf1q8 a ∧ True ∧ True) (ifB (lf1q29 a == Z0) (SM x ∧ ∃ (x_1 : Arr), lf1q37 a x_1 ∧ (True ∧ True) ∧ x_1 = a ∧ ∀ (y : Unit), True → ∃ (x_2 : Arr), ((Arr.k (lf1q39 x_1) = lf1q2 x_2 ∧ (lf1q41 x_1 = lf1q0 x_2 ∧ (∀ (i : Nat), i < lf1q41 x_1 → [ZI (GI (lf1q40 x_1) i)] = lf1q19 x_2 i) ∧ True) ∧ (lf1q43 x_1 = lf1q5 x_2 ∧ (∀ (i : Nat), i < lf1q43 x_1 → [ZI (GI (lf1q42 x_1) i)] = lf1q22 x_2 i) ∧ True) ∧ (lf1q45 x_1 = lf1q14 x_2 ∧ (∀ (i : Nat), i < lf1q45 x_1 → Arr.row (List.getD (lf1q44 x_1) i lf1q15) = lf1q26 x_2 i) ∧ True) ∧ True) ∧ True) ∧ lf1q52 q x_2 x a) (ifB (lf1q29 a == Z1) (SM x ∧ ∃ (x_1 : Arr), (lf1q36 a x_1 ∧ SM Z0 ∧ True) ∧ (True ∧ True) ∧ (x_1 = a ∧ lf1q5 a + lf1q14 a = N1) ∧ ∀ (y : Unit), True → ∃ (x_2 : Arr), ((Arr.k (lf1q53 x_1) = lf1q2 x_2 ∧ (lf1q55 x_1 = lf1q0 x_2 ∧ (∀ (i : Nat), i < lf1q55 x_1 → [ZI (GI (lf1q54 x_1) i)] = lf1q19 x_2 i) ∧ True) ∧ (lf1q57 x_1 = lf1q5 x_2 ∧ (∀ (i : Nat), i < lf1q57 x_1 → [ZI (GI (lf1q56 x_1) i)] = lf1q22 x_2 i) ∧ True) ∧ (lf1q59 x_1 = lf1q14 x_2 ∧ (∀ (i : Nat), i < lf1q59 x_1 → Arr.row (List.getD (lf1q58 x_1) i lf1q15) = lf1q26 x_2 i) ∧ True) ∧ True) ∧ True) ∧ lf1q52 q x_2 x a) (SM x ∧ ∃ (x_1 : Arr), lf1q37 a x_1 ∧ (True ∧ True) ∧ x_1 = a ∧ ∀ (y : Unit), True → SM x ∧ lf1q47 a ∧ ∀ (y : Unit), True → ((strsB (3 : Nat) fun (i : Nat) => lf1q60 a x_1 i) = true ∧ joinOk (lf1q61 a x_1) [(32 : UInt8)]) ∧ ∀ (y : Unit), True → True ∧ ∃ (y : Unit), True ∧ Lib.join (lf1q61 a x_1) [(32 : UInt8)] = lf1q8 a ∧ True ∧ True))))))) (by kernel_rfl) ?_
  delta DA GI LN N0 N1 N2 N4 NI SI SM Z0 Z1 ZI lf1q0 lf1q1 lf1q10 lf1q11 lf1q12 lf1q13 lf1q14 lf1q15 lf1q16 lf1q17 lf1q18 lf1q19 lf1q2 lf1q20 lf1q21 lf1q22 lf1q23 lf1q24 lf1q25 lf1q26 lf1q27 lf1q28 lf1q29 lf1q3 lf1q30 lf1q31 lf1q32 lf1q33 lf1q34 lf1q35 lf1q36 lf1q37 lf1q38 lf1q39 lf1q4 lf1q40 lf1q41 lf1q42 lf1q43 lf1q44 lf1q45 lf1q46 lf1q47 lf1q48 lf1q49 lf1q5 lf1q50 lf1q51 lf1q52 lf1q53 lf1q54 lf1q55 lf1q56 lf1q57 lf1q58 lf1q59 lf1q6 lf1q60 lf1q61 lf1q7 lf1q8 lf1q9
  have da : (default : Arr) = Arr.mk 0 [] [] [] := rfl
  simp only [← da, ifB_iff, side_iff, decide_eq_true_eq, decide_eq_false_iff_not, true_and, and_true, beq_iff_eq, Bool.cond_false_right, Bool.cond_true_left, Bool.and_eq_true, Bool.and_eq_false_iff, Bool.or_eq_true, Bool.or_eq_false_iff, beq_eq_false_iff_ne, ne_eq, exists_const, forall_const, intsD_isl]
  obtain ⟨kd, s8, n6, i6, si, ni, hsum, hchr, hno, hbx, hsc⟩ := ho
  have hw : IntKind.i64.wrap ((a.nu.length : Int) + (a.it.length : Int)) = (a.nu.length : Int) + (a.it.length : Int) := wrap_i64' (by omega) (by omega)
  have tt : (∀ i : Nat, i < a.sh.length → True) ∧ (∀ i : Nat, i < a.nu.length → True) ∧ ∀ i : Nat, i < a.it.length → True := ⟨fun _ _ => trivial, fun _ _ => trivial, fun _ _ => trivial⟩
  simp only [hw, litA_eq a]
  simp only [strs2, strs3, strsB2, strsB3, ints1, joinOk, join2, join3, true_and]
  have hnu : a.sh.length = 0 → a.k ≠ 3 → a.nu.length = 1 := fun h1 h2 => by
    have := hsc h1
    rw [hno h2] at this
    simpa using this
  have hit : a.sh.length = 0 → a.k = 3 → a.it.length = 1 := fun h1 h2 => by
    have := hsc h1
    rw [hbx h2] at this
    simpa using this
  refine ⟨⟨fun h => by rw [h]; rfl, fun h => by rw [beq_eq_false_iff_ne.2 h]; rfl⟩, fun ⟨hs, hk⟩ => ?_, fun hn1 => ⟨⟨fun h => by rw [h]; rfl, fun h => by rw [beq_eq_false_iff_ne.2 h]; rfl⟩, fun ⟨hs, hk⟩ => ?_, fun hn2 => ⟨fun hs => ?_, fun hs => ?_⟩⟩⟩
  · have := hnu (by omega) (by omega)
    exact ⟨⟨by omega, by omega⟩, getD_i64 ni, by rw [litK, if_pos (by omega), scalK, if_pos hk]⟩
  · have := hnu (by omega) (by omega)
    refine ⟨⟨by omega, by omega⟩, ⟨by omega, intsP1 _, ?_⟩, by rw [litK, if_pos (by omega), scalK, if_neg (by omega), if_pos hk]⟩
    intro c hc
    rw [List.mem_singleton] at hc
    subst hc
    exact hchr hk _ (memI (by omega))
  · have hk : a.k = 3 := by omega
    have h1 := hit (by omega) hk
    have hm := mem_getD (l := a.it) (i := 0) (by omega)
    have hl := mem_sum hm
    refine ⟨⟨by omega, by omega⟩, a.it.getD 0 default, ⟨rfl, ⟨rfl, fun _ _ => rfl⟩, ⟨rfl, fun _ _ => rfl⟩, rfl, fun _ _ => rfl⟩, hi _ hm, ⟨by simp, ?_⟩, ?_⟩
    · simp only [List.length_append, List.length_cons, List.length_nil]; omega
    · rw [litK, if_pos (by omega), scalK, if_neg (by omega), if_neg (by omega)]
      have : (a.it.map litA).getD 0 [] = litA (a.it.getD 0 default) := by
        simp [List.getD_eq_getElem?_getD, List.getElem?_map, List.getElem?_eq_getElem (show 0 < a.it.length by omega)]
      rw [this]; rfl
  · have hd := dimsB_len si
    have hfl := fillL_len a.k
    have hsl := scalK_len a.k ni (a.it.map litA)
    have hvl := vecK_len a.k ni (a.it.map litA)
    rw [List.length_map] at hvl
    have len : ∀ e : List UInt8, e.length ≤ 200000000 → [dimsB a.sh, [114, 101, 115, 104, 97, 112, 101], e].length ≤ 140737488355328 ∧ (dimsB a.sh ++ 32 :: ([114, 101, 115, 104, 97, 112, 101] ++ 32 :: e)).length ≤ 140737488355328 := fun e he => by
      refine ⟨by simp, ?_⟩
      simp only [List.length_append, List.length_cons, List.length_nil]; omega
    have eqn : ∀ e : List UInt8, dimsB a.sh ++ 32 :: ([114, 101, 115, 104, 97, 112, 101] ++ 32 :: e) = dimsB a.sh ++ reshW ++ e := fun e => by simp [reshW]
    refine ⟨⟨fun h => ⟨fun h2 => by rw [h, h2]; rfl, fun h2 => by rw [h, beq_eq_false_iff_ne.2 h2]; rfl⟩, fun h => by rw [beq_eq_false_iff_ne.2 h]; rfl⟩, fun ⟨h2, h3⟩ => ⟨a, ⟨rfl, ⟨rfl, fun _ _ => rfl⟩, ⟨rfl, fun _ _ => rfl⟩, rfl, fun _ _ => rfl⟩, rfl, ?_⟩, fun hn => ?_⟩
    · rw [litK, if_neg (by omega), if_pos ⟨by omega, by rw [List.length_map]; omega⟩]
    have hlk : litK a.k a.sh a.nu (a.it.map litA) = dimsB a.sh ++ reshW ++ (if a.nu.length + a.it.length = 0 then fillL a.k else if a.nu.length + a.it.length = 1 then scalK a.k a.nu (a.it.map litA) else vecK a.k a.nu (a.it.map litA)) := by
      rw [litK, if_neg (by omega), if_neg (by rw [List.length_map]; omega), List.length_map]
    rw [hlk]
    refine ⟨fun hz => ⟨a, ⟨rfl, ⟨rfl, fun _ _ => rfl⟩, ⟨rfl, fun _ _ => rfl⟩, rfl, fun _ _ => rfl⟩, rfl, fillA a.k, ⟨rfl, ⟨rfl, fun _ _ => rfl⟩, ⟨rfl, fun _ _ => rfl⟩, rfl, fun _ _ => rfl⟩, h0 (by omega) (by omega), ⟨intsP_isl _, by omega, si⟩, ?_, ?_⟩, fun hz => ⟨fun h2 => ⟨a, ⟨rfl, ⟨rfl, fun _ _ => rfl⟩, ⟨rfl, fun _ _ => rfl⟩, rfl, fun _ _ => rfl⟩, ⟨rfl, by omega⟩, atA a 0, ⟨rfl, ⟨rfl, fun _ _ => rfl⟩, ⟨rfl, fun _ _ => rfl⟩, rfl, fun _ _ => rfl⟩, h1 (by omega) (by omega), ⟨intsP_isl _, by omega, si⟩, ?_, ?_⟩, fun h2 => ⟨a, ⟨rfl, ⟨rfl, fun _ _ => rfl⟩, ⟨rfl, fun _ _ => rfl⟩, rfl, fun _ _ => rfl⟩, rfl, ⟨intsP_isl _, by omega, si⟩, ?_, ?_⟩⟩⟩
    · rw [fill_lit kd]; exact len _ (by omega)
    · rw [fill_lit kd, eqn, if_pos (by omega)]
    · rw [at_lit kd hbx (by omega)]; exact len _ (by omega)
    · rw [at_lit kd hbx (by omega), eqn, if_neg (by omega), if_pos (by omega)]
    · exact len _ (by omega)
    · rw [eqn, if_neg (by omega), if_neg (by omega)]
end Go.Proofs.YtpgepjefbhgblaaDoor
namespace Go.Proofs.YtpgepjefbhgblaaDoor
open Go Go.Ab
set_option maxRecDepth 100000
def Lit (a : Arr) : Prop := ACalls Tryd.prog 19 ((sRc Arr.row2 (fun _ => True) (fun b => .str (litA b))).args a) ⟨[], []⟩ (SpecR (sRc Arr.row2 (fun _ => True) (fun b => .str (litA b))) a)
theorem fill_row2 (a : Arr) : ACalls Tryd.prog 41 [.agg a.row2] ⟨[], []⟩ (SpecR (sC [.agg a.row2] (.agg (fillA a.k).row1)) ()) := wkRet (fill_ok a.k _ _ _ _ _ _) (fill_wk a.k)
theorem conLf_ok {a : Arr} {q : Arr → Prop} (hq : ∀ b, q b → Lit b) (hv : ∀ b ∈ a.it, Lit b) (ho : LOk a) (hcl : a.nu.length + a.it.length = 1 → ConOk Tryd.prog (conCl a.it)) : ConOk Tryd.prog (conLf a q) := by
  intro k ds S A h
  unfold conLf at h
  split at h
  · injection h with h; subst h
    exact ConOk.plain (fun b hb => sRc_row (hq b hb)) rfl rfl
  · injection h with h; subst h
    refine ConOk.plain (fun b hb => ?_) rfl rfl
    have hb : b = a := hb
    rw [hb]
    exact (vec_step a ho (conVc_ok hv)).mono fun _ _ ⟨y, q1, q2, q3⟩ => ⟨y, q1, q2, q3⟩
  · injection h with h; subst h
    refine ConOk.plain (fun b hb => ?_) rfl rfl
    have hb : b = a := hb
    rw [hb]
    exact (fill_row2 a).mono fun _ _ ⟨y, q1, q2, q3⟩ => ⟨y, q1, q2, q3⟩
  · injection h with h; subst h
    refine ConOk.plain (fun b hb => ?_) rfl rfl
    obtain ⟨hb, h1⟩ : b = a ∧ a.nu.length + a.it.length = 1 := hb
    rw [hb]
    have hsz : ((0 : Nat) : Int) < sizeR a.k a.nu.length a.it.length := by
      unfold sizeR
      by_cases h3 : a.k = 3
      · rw [if_neg (by omega), if_pos h3]
        have := ho.bx h3
        rw [this] at h1
        simp at h1
        omega
      · rw [if_pos (by have := ho.kd; omega)]
        have := ho.no h3
        rw [this] at h1
        simp at h1
        omega
    exact (wkRet (at_step a 0 ho.kd hsz (hcl h1)) (at_wk a 0)).mono fun _ _ ⟨y, q1, q2, q3⟩ => ⟨y, q1, q2, q3⟩
  · split at h
    · injection h with h; subst h
      exact pC_ok fun ⟨h1, h2, h3⟩ => ⟨weakL_refl _, sC_weak (isl_weak h1) (sshow_ok _ (by rw [intsD_len]; exact h2) h3)⟩
    · cases h
  · split at h
    · injection h with h; subst h
      exact pC_ok fun ⟨h1, h2⟩ => ⟨weakL_refl _, sC_weak (us := [ssl (strsOf _ _) .any]) ⟨ssl_weak h1, trivial⟩ (fjoin_ok _ h2)⟩
    · cases h
  · exact conJn_ok _ _ _ _ h
theorem conCl_of {its : List Arr} (h : ∀ b ∈ its, (chkA b).1 = 0) : ConOk Tryd.prog (conCl its) := by
  intro k' ds S A hk
  unfold conCl at hk
  split at hk
  · injection hk with hk; subst hk
    exact ConOk.plain (fun (b : Arr) hb => (cl_all b (h b hb)).mono fun _ _ ⟨y, q1, q2, q3⟩ => ⟨y, q1, q2, q3⟩) rfl rfl
  · cases hk
theorem lit_sc {a : Arr} (ho : LOk a) (hs : a.sh.length = 0) (ih : ∀ b ∈ a.it, Lit b) (hv : ∀ b ∈ a.it, (chkA b).1 = 0) : Lit a :=
  lit_step a (· ∈ a.it) ho (fun _ hb => hb) (fun h => absurd hs h) (fun h => absurd hs h) (conLf_ok ih ih ho fun _ => conCl_of hv)
theorem lok_fill1 : LOk (.mk 1 [] [0] []) := ⟨.inl rfl, by decide, by decide, by decide, by simp [Arr.sh], by simp [Arr.nu, inI64], by simp [Arr.it, sumL], fun h => absurd h (by decide), fun _ => rfl, fun h => absurd h (by decide), fun _ => rfl⟩
theorem lit_fill1 : Lit (.mk 1 [] [0] []) := lit_sc lok_fill1 rfl (fun b hb => by cases hb) (fun b hb => by cases hb)
theorem lok_fill2 : LOk (.mk 2 [] [32] []) := ⟨.inr (.inl rfl), by decide, by decide, by decide, by simp [Arr.sh], by simp [Arr.nu, inI64], by simp [Arr.it, sumL], by simp [Arr.nu], fun _ => rfl, fun h => absurd h (by decide), fun _ => rfl⟩
theorem lit_fill2 : Lit (.mk 2 [] [32] []) := lit_sc lok_fill2 rfl (fun b hb => by cases hb) (fun b hb => by cases hb)
theorem lok_e : LOk (.mk 1 [0] [] []) := ⟨.inl rfl, by decide, by decide, by decide, by simp [Arr.sh, inI64], by simp [Arr.nu], by simp [Arr.it, sumL], fun h => absurd h (by decide), fun _ => rfl, fun h => absurd h (by decide), fun h => absurd h (by decide)⟩
theorem lit_e : Lit (.mk 1 [0] [] []) := by
  refine lit_step _ (· = .mk 1 [] [0] []) lok_e (fun b hb => by cases hb) (fun _ _ => rfl) (fun _ h => by cases h) ?_
  refine conLf_ok (fun b hb => ?_) (fun b hb => by cases hb) lok_e (fun h => by cases h)
  subst hb
  exact lit_fill1
theorem chk_e : (chkA (.mk 1 [0] [] [])).1 = 0 := by decide
theorem len_e : (litA (.mk 1 [0] [] [])).length ≤ 600 := by
  have := litK_len 1 (s := [0]) (n := []) (by decide) (by simp [inI64]) (by simp) []
  rw [litA]
  simp only [litsL, sumL, List.length_nil] at this ⊢
  omega
theorem lok_fill3 : LOk (.mk 3 [] [] [.mk 1 [0] [] []]) := ⟨.inr (.inr rfl), by decide, by decide, by decide, by simp [Arr.sh], by simp [Arr.nu], by have := len_e; simp only [Arr.it, sumL, List.map_cons, List.map_nil, List.length_cons, List.length_nil]; omega, fun h => absurd h (by decide), fun h => absurd rfl h, fun _ => rfl, fun _ => rfl⟩
theorem lit_fill3 : Lit (.mk 3 [] [] [.mk 1 [0] [] []]) := by
  refine lit_sc lok_fill3 rfl (fun b hb => ?_) (fun b hb => ?_)
  · have : b = .mk 1 [0] [] [] := List.mem_singleton.1 hb
    subst this; exact lit_e
  · have : b = .mk 1 [0] [] [] := List.mem_singleton.1 hb
    subst this; exact chk_e
theorem lit_fill {k : Int} (h : k = 1 ∨ k = 2 ∨ k = 3) : Lit (fillA k) := by
  rcases h with rfl | rfl | rfl
  · exact lit_fill1
  · exact lit_fill2
  · exact lit_fill3
end Go.Proofs.YtpgepjefbhgblaaDoor
namespace Go.Proofs.YtpgepjefbhgblaaDoor
open Go Go.Ab
set_option maxRecDepth 100000
theorem form_parts {k : Int} {s : List Int} {nn ni : Nat} (h : formS k s nn ni = 0) : (k ≠ 3 → ni = 0 ∧ (nn : Int) = sizeS s) ∧ (k = 3 → nn = 0 ∧ (ni : Int) = sizeS s) := by
  have hk := form_kind h
  unfold formS at h
  rw [if_pos hk] at h
  by_cases hd : dimsS s ≠ 0
  · rw [if_pos hd] at h; exact (hd h).elim
  · rw [if_neg hd] at h
    by_cases hc : ((if k = 3 then (ni : Int) else nn) ≠ sizeS s) ∨ ((if k = 3 then (nn : Int) else ni) ≠ 0)
    · rw [if_pos hc] at h; simp at h
    · have h1 : (if k = 3 then (ni : Int) else nn) = sizeS s := Decidable.not_not.1 fun h => hc (.inl h)
      have h2 : (if k = 3 then (nn : Int) else ni) = 0 := Decidable.not_not.1 fun h => hc (.inr h)
      refine ⟨fun h3 => ?_, fun h3 => ?_⟩
      · rw [if_neg h3] at h1 h2
        exact ⟨by omega, h1⟩
      · rw [if_pos h3] at h1 h2
        exact ⟨by omega, h1⟩
theorem lok_of {a : Arr} (ho : a.ok) (h : (chkA a).1 = 0) : LOk a := by
  have hf := chk_form h
  obtain ⟨p1, p2⟩ := form_parts hf
  obtain ⟨l1, l2, l3, l4, l5⟩ := arr_dims ho h
  refine ⟨form_kind hf, l1, l2, l3, l4, l5, items_len ho h, chk_chr h, fun h3 => List.length_eq_zero_iff.1 (p1 h3).1, fun h3 => List.length_eq_zero_iff.1 (p2 h3).1, fun hs => ?_⟩
  have hs : a.sh = [] := List.length_eq_zero_iff.1 hs
  have h1 : sizeS a.sh = 1 := by rw [hs]; rfl
  by_cases h3 : a.k = 3
  · have := p2 h3; omega
  · have := p1 h3; omega
theorem lok_at {a : Arr} (lo : LOk a) (h1 : a.nu.length + a.it.length = 1) : LOk (atA a 0) := by
  unfold atA
  by_cases h3 : a.k = 3
  · rw [if_pos h3]
    have h2 : a.it.length = 1 := by have := lo.bx h3; rw [this] at h1; simpa using h1
    have hm := mem_getD (l := a.it) (i := 0) (by omega)
    have hl := mem_sum hm
    have hs := lo.sum
    exact ⟨.inr (.inr rfl), by simp [Arr.sh], by simp [Arr.nu], by simp [Arr.it], by simp [Arr.sh], by simp [Arr.nu], by show 7 * 1 + ((litA (a.it.getD 0 default)).length + 0) ≤ _; omega, fun h => absurd h (by show ¬ (3 : Int) = 2; decide), fun h => absurd rfl h, fun _ => rfl, fun _ => rfl⟩
  · rw [if_neg h3]
    have h2 : a.nu.length = 1 := by have := lo.no h3; rw [this] at h1; simpa using h1
    have hm : a.nu.getD 0 0 ∈ a.nu := memI (by omega)
    refine ⟨lo.kd, by simp [Arr.sh], by simp [Arr.nu], by simp [Arr.it], by simp [Arr.sh], ?_, by simp [Arr.it, sumL], ?_, fun _ => rfl, fun h => absurd h h3, fun _ => rfl⟩
    · intro z hz
      have : z = a.nu.getD 0 0 := List.mem_singleton.1 hz
      rw [this]; exact lo.ni _ hm
    · intro h z hz
      have : z = a.nu.getD 0 0 := List.mem_singleton.1 hz
      rw [this]; exact lo.chr h _ hm
theorem lit_all : ∀ (a : Arr), a.ok → (chkA a).1 = 0 → Lit a
  | .mk k s n is, ho, h => by
    have lo := lok_of ho h
    have hv := (chkA_zero h).2.2.2
    have hok : ∀ b ∈ is, b.ok := by
      simp only [Arr.ok] at ho
      exact (okL_iff _).1 ho.2.2.2.2.2.2
    have ih : ∀ b ∈ is, Lit b := fun b hb => lit_all b (hok b hb) (hv b hb)
    refine lit_step (.mk k s n is) (fun b => b ∈ is ∨ b = fillA k ∨ (b = atA (.mk k s n is) 0 ∧ n.length + is.length = 1)) lo (fun b hb => .inl hb) (fun _ _ => .inr (.inl rfl)) (fun _ h1 => .inr (.inr ⟨rfl, h1⟩)) (conLf_ok (fun b hb => ?_) ih lo fun _ => conCl_ok h)
    rcases hb with hb | hb | ⟨hb, h1⟩
    · exact ih b hb
    · rw [hb]; exact lit_fill lo.kd
    · rw [hb]
      have hsub : ∀ c ∈ (atA (.mk k s n is) 0).it, c ∈ is := by
        intro c hc
        unfold atA at hc
        by_cases h3 : (Arr.mk k s n is).k = 3
        · rw [if_pos h3] at hc
          have h2 : is.length = 1 := by
            have h4 : n = [] := lo.bx h3
            rw [h4] at h1; simpa using h1
          have : c = is.getD 0 default := List.mem_singleton.1 hc
          rw [this]; exact mem_getD (by omega)
        · rw [if_neg h3] at hc; cases hc
      refine lit_sc (lok_at lo h1) ?_ (fun c hc => ih c (hsub c hc)) (fun c hc => hv c (hsub c hc))
      unfold atA
      split <;> rfl
termination_by a => SizeOf.sizeOf a
decreasing_by
  have := List.sizeOf_lt_of_mem hb
  simp; omega
def litF (a : Arr) : List UInt8 := if (chkA a).1 = 0 then litA a else []
def conLt (a : Arr) : Con := fun k _ _ => match k with
  | 18 => some (sRc Arr.row1 (fun b => b = a) (fun b => .int .i64 (chkA b).1))
  | 19 => some (sRc Arr.row1 (fun b => b = a ∧ (chkA a).1 = 0) (fun b => .str (litA b)))
  | _ => none
theorem conLt_ok {a : Arr} (ho : a.ok) : ConOk Tryd.prog (conLt a) := by
  intro k ds S A h
  unfold conLt at h
  split at h
  · injection h with h; subst h
    refine ConOk.plain (fun b hb => ?_) rfl rfl
    have hb : b = a := hb
    rw [hb]
    exact (ri_ok a ho).mono fun _ _ ⟨y, q1, q2, q3⟩ => ⟨y, q1, q2, q3⟩
  · injection h with h; subst h
    refine ConOk.plain (fun b hb => ?_) rfl rfl
    obtain ⟨hb, h1⟩ : b = a ∧ (chkA a).1 = 0 := hb
    rw [hb]
    exact sRc_row (lit_all a ho h1)
  · cases h
noncomputable def Elt (a : Arr) : Senv := EC (conLt a) 8 3 [5] (fun _ => ([], []))
noncomputable section
def lf3q0 (p0 : Arr) : Nat := LN (Arr.sh p0)
def lf3q1 (p0 : Arr) : Nat := LN (Arr.nu p0)
def lf3q2 (p0 : Arr) : Nat := LN (Arr.it p0)
def lf3q3 (p0 : Arr) (p1 : Nat) : List D := Arr.row (GA (Arr.it p0) p1)
def lf3q4 (p0 p1 : Arr) : Prop := (Arr.k p0 = Arr.k p1 ∧ (lf3q0 p0 = lf3q0 p1 ∧ (∀ (i : Nat), i < lf3q0 p0 → [ZI (GI (Arr.sh p0) i)] = [ZI (GI (Arr.sh p1) i)]) ∧ True) ∧ (lf3q1 p0 = lf3q1 p1 ∧ (∀ (i : Nat), i < lf3q1 p0 → [ZI (GI (Arr.nu p0) i)] = [ZI (GI (Arr.nu p1) i)]) ∧ True) ∧ (lf3q2 p0 = lf3q2 p1 ∧ (∀ (i : Nat), i < lf3q2 p0 → lf3q3 p0 i = lf3q3 p1 i) ∧ True) ∧ True) ∧ True
end
theorem litF_ok (a : Arr) (ho : a.ok) :
    ACalls Tryd.prog 9 ((sRc Arr.row1 (fun _ => True) (fun b => .str (litF b))).args a) ⟨[], []⟩ (SpecR (sRc Arr.row1 (fun _ => True) (fun b => .str (litF b))) a) := by
  refine con_of (A := sRc Arr.row1 (fun _ => True) (fun b => .str (litF b))) (x := a) (E := Elt a) (eOk (conLt_ok ho) rfl) Tryd.func9 rfl (by kernel_rfl) rfl (by simp [sRc, Elt, EC, E0]) ?_
  refine vc_eq (T :=
    ∀ (x : Nat), True → SM x ∧ ∃ (x_1 : Arr), lf3q4 a x_1 ∧ (True ∧ True) ∧ x_1 = a ∧ ∀ (y : Unit), True → ifB (Prod.fst (chkA x_1) != Z0) (True ∧ ∃ (y : Unit), True ∧ eqOf (List UInt8) [] (litF a) ∧ True ∧ True) (SM x ∧ ∃ (x : Arr), lf3q4 a x ∧ (True ∧ True) ∧ (x = a ∧ Prod.fst (chkA a) = Z0) ∧ ∀ (y : Unit), True → True ∧ ∃ (y : Unit), True ∧ litA x = litF a ∧ True ∧ True)) (by kernel_rfl) ?_
  delta DA GA GI LN SM Z0 ZI lf3q0 lf3q1 lf3q2 lf3q3 lf3q4
  have da : (default : Arr) = Arr.mk 0 [] [] [] := rfl
  simp only [← da, ifB_iff, true_and, and_true, bne_iff_ne, ne_eq, exists_const, forall_const]
  refine ⟨a, ⟨rfl, ⟨rfl, fun _ _ => rfl⟩, ⟨rfl, fun _ _ => rfl⟩, rfl, fun _ _ => rfl⟩, rfl, fun h => by rw [litF, if_neg h], fun h => ?_⟩
  have h : (chkA a).1 = 0 := by simpa using h
  exact ⟨a, ⟨rfl, ⟨rfl, fun _ _ => rfl⟩, ⟨rfl, fun _ _ => rfl⟩, rfl, fun _ _ => rfl⟩, ⟨rfl, h⟩, by rw [litF, if_pos h]⟩
end Go.Proofs.YtpgepjefbhgblaaDoor
namespace Go.Proofs.YtpgepjefbhgblaaDoor
open Go Go.Ab
set_option maxRecDepth 100000
def conRe (q : Arr → Prop) : Con := fun k ds S => match k with
  | 20 => some (sRc Arr.row1 q (fun b => .str (litA b)))
  | 47 => match ds with
    | [.sl 1 n f m] => some (pC [.sl 1 n f m] (.str (dimsB (intsD n f))) (IntsP n f ∧ n ≤ 1099511627776 ∧ ∀ z ∈ intsD n f, inI64 z))
    | _ => none
  | k => conJn k ds S
def RLit (a : Arr) : Prop := ACalls Tryd.prog 20 ((sRc Arr.row2 (fun _ => True) (fun b => .str (litA b))).args a) ⟨[], []⟩ (SpecR (sRc Arr.row2 (fun _ => True) (fun b => .str (litA b))) a)
theorem conRe_ok {q : Arr → Prop} (hq : ∀ b, q b → RLit b) : ConOk Tryd.prog (conRe q) := by
  intro k ds S A h
  unfold conRe at h
  split at h
  · injection h with h; subst h
    exact ConOk.plain (fun b hb => sRc_row (hq b hb)) rfl rfl
  · split at h
    · injection h with h; subst h
      exact pC_ok fun ⟨h1, h2, h3⟩ => ⟨weakL_refl _, sC_weak (isl_weak h1) (rdims_ok _ (by rw [intsD_len]; exact h2) h3)⟩
    · cases h
  · exact conJn_ok _ _ _ _ h
noncomputable def Ersc (q : Arr → Prop) : Senv := EC (conRe q) 27 3 [4, 11, 18] (fun _ => ([], []))
noncomputable section
def le1q0 (p0 : Arr) : Int := Arr.k p0
def le1q1 (p0 : Arr) : List Int := Arr.nu p0
def le1q2 (p0 : Arr) : Int := GI (le1q1 p0) N0
def le1q3 (p0 : Arr) : List Arr := Arr.it p0
def le1q4 (p0 : Arr) : List UInt8 := scalK (le1q0 p0) (le1q1 p0) (List.map litA (le1q3 p0))
def le1q5 (p0 : Arr) : List UInt8 := escB (le1q2 p0) (39 : Int)
def le1q6 (p0 : Arr) : List UInt8 := List.append [] (le1q5 p0)
def le1q7 : Arr := DA
def le1q8 (p0 : Arr) : Arr := List.getD (le1q3 p0) N0 le1q7
def le1q9 (p0 : Arr) : List Int := Arr.sh (le1q8 p0)
def le1q10 (p0 : Arr) : Nat := LN (le1q9 p0)
def le1q11 (p0 : Arr) : List Int := Arr.nu (le1q8 p0)
def le1q12 (p0 : Arr) : Nat := LN (le1q11 p0)
def le1q13 (p0 : Arr) : List Arr := Arr.it (le1q8 p0)
def le1q14 (p0 : Arr) : Nat := LN (le1q13 p0)
end
theorem rsc_step (a : Arr) (q : Arr → Prop) (lo : LOk a) (h1 : a.k ≠ 3 → 0 < a.nu.length) (h3 : a.k = 3 → 0 < a.it.length) (hi : ∀ b ∈ a.it, q b) (hc : ConOk Tryd.prog (conRe q)) :
    ACalls Tryd.prog 44 ((sRc Arr.row2 (fun _ => True) (fun a => .str (scalK a.k a.nu (a.it.map litA)))).args a) ⟨[], []⟩ (SpecR (sRc Arr.row2 (fun _ => True) (fun a => .str (scalK a.k a.nu (a.it.map litA)))) a) := by
  refine con_of (A := sRc Arr.row2 (fun _ => True) (fun a => .str (scalK a.k a.nu (a.it.map litA)))) (x := a) (E := Ersc q) (eOk hc rfl) Tryd.func44 rfl (by kernel_rfl) rfl (by simp [sRc, Ersc, EC, E0]) ?_
  refine vc_eq (T :=
    ∀ (x : Nat), True → SM x ∧ ifB (le1q0 a == Z1) (SM x ∧ side (Z0 ≤ Z0 ∧ Z0 < (LI (le1q1 a))) (inI64 (le1q2 a) ∧ ∀ (y : Unit), True → True ∧ ∃ (y : Unit), True ∧ showI (le1q2 a) = le1q4 a ∧ True ∧ True)) (ifB (le1q0 a == (2 : Int)) (SM x ∧ side (Z0 ≤ Z0 ∧ Z0 < (LI (le1q1 a))) ((Z0 ≤ le1q2 a ∧ le1q2 a ≤ (1114111 : Int)) ∧ ∀ (y : Unit), True → side (N1 + LN (le1q5 a) ≤ (9223372036854775807 : Nat)) (side (LN ((39 : UInt8) :: le1q6 a) + N1 ≤ (9223372036854775807 : Nat)) (True ∧ ∃ (y : Unit), True ∧ (39 : UInt8) :: List.append (le1q6 a) [(39 : UInt8)] = le1q4 a ∧ True ∧ True)))) (SM x ∧ side (Z0 ≤ Z0 ∧ Z0 < (LI (le1q3 a))) (∃ (x : Arr), ((Arr.k (le1q8 a) = le1q0 x ∧ (le1q10 a = LN (Arr.sh x) ∧ (∀ (i : Nat), i < le1q10 a → [ZI (GI (le1q9 a) i)] = [ZI (GI (Arr.sh x) i)]) ∧ True) ∧ (le1q12 a = LN (le1q1 x) ∧ (∀ (i : Nat), i < le1q12 a → [ZI (GI (le1q11 a) i)] = [ZI (GI (le1q1 x) i)]) ∧ True) ∧ (le1q14 a = LN (le1q3 x) ∧ (∀ (i : Nat), i < le1q14 a → Arr.row (List.getD (le1q13 a) i le1q7) = Arr.row (List.getD (le1q3 x) i le1q7)) ∧ True) ∧ True) ∧ True) ∧ (True ∧ True) ∧ q x ∧ ∀ (y : Unit), True → side (N4 + LN (litA x) ≤ (9223372036854775807 : Nat)) (True ∧ ∃ (y : Unit), True ∧ (98 : UInt8) :: (111 : UInt8) :: (120 : UInt8) :: (32 : UInt8) :: List.append [] (litA x) = le1q4 a ∧ True ∧ True))))) (by kernel_rfl) ?_
  delta DA GI LI LN N0 N1 N4 SM Z0 Z1 ZI le1q0 le1q1 le1q10 le1q11 le1q12 le1q13 le1q14 le1q2 le1q3 le1q4 le1q5 le1q6 le1q7 le1q8 le1q9
  have da : (default : Arr) = Arr.mk 0 [] [] [] := rfl
  simp only [← da, ifB_iff, side_iff, true_and, and_true, beq_iff_eq, beq_eq_false_iff_ne, ne_eq, exists_const, forall_const]
  have kd := lo.kd
  have hsum := lo.sum
  refine ⟨fun hk => ?_, fun hk1 => ⟨fun hk => ?_, fun hk2 => ?_⟩⟩
  · have := h1 (by omega)
    exact ⟨⟨by omega, by omega⟩, getD_i64 lo.ni, by rw [scalK, if_pos hk]⟩
  · have := h1 (by omega)
    have he := escB_len (a.nu.getD 0 0) 39
    refine ⟨⟨by omega, by omega⟩, lo.chr hk _ (memI (by omega)), by omega, by simp only [List.length_cons, app_nil']; omega, ?_⟩
    rw [scalK, if_neg hk1, if_pos hk]
    simp [quoB, escL]
    rfl
  · have := h3 (by omega)
    have hm := mem_getD (l := a.it) (i := 0) (by omega)
    have hl := mem_sum hm
    refine ⟨⟨by omega, by omega⟩, a.it.getD 0 default, ⟨rfl, ⟨rfl, fun _ _ => rfl⟩, ⟨rfl, fun _ _ => rfl⟩, rfl, fun _ _ => rfl⟩, hi _ hm, by omega, ?_⟩
    rw [scalK, if_neg hk1, if_neg hk2]
    have : (a.it.map litA).getD 0 [] = litA (a.it.getD 0 default) := by
      simp [List.getD_eq_getElem?_getD, List.getElem?_map, List.getElem?_eq_getElem (show 0 < a.it.length by omega)]
    rw [this]; rfl
noncomputable def Erel (a : Arr) (q : Arr → Prop) : Senv := { EC (conRe q) 36 5 [7, 16, 20] (fun _ => ([], [])) with
  gh := fun b => match b with
    | 0 => [.slot 3]
    | _ => []
  ann := fun b _ S => match b with
    | 0 => some { slots := [4, 3], keep := [0, 1], α := Nat × Nat × List UInt8, st := fun y => ([.int .i64 y.1, bsl y.2.2 (.tok 0 y.2.1)], ⟨S.objs, [(0, y.2.1)]⟩), inv := fun y => JHd [32] (a.it.map fun b => itemB (litA b)) y.1 y.2.2, mu := fun y => a.it.length - y.1 }
    | _ => none }
noncomputable section
def le1q15 (p0 : Arr) : Int := Arr.k p0
def le1q16 (p0 : Arr) : Nat := LN (Arr.nu p0)
def le1q17 (p0 : Arr) (p1 : Nat) : List D := [ZI (GI (Arr.nu p0) p1)]
def le1q18 (p0 : Arr) : List Int := intsD (le1q16 p0) fun (i : Nat) => le1q17 p0 i
def le1q19 (p0 : Arr) : List Arr := Arr.it p0
def le1q20 (p0 : Arr) : List UInt8 := vecK (le1q15 p0) (Arr.nu p0) (List.map litA (le1q19 p0))
def le1q21 (p0 : Arr) (p1 : Nat) (p2 : List UInt8) : Prop := JHd [(32 : UInt8)] (List.map (fun (b : Arr) => itemB (litA b)) (le1q19 p0)) p1 p2
def le1q22 (p0 : List UInt8) (p1 : Nat) : List D := [ZB (BI p0 p1)]
def le1q23 (p0 : Arr) : Nat := LN (Arr.sh p0)
def le1q24 (p0 : Arr) (p1 : Nat) : List D := [ZI (GI (Arr.sh p0) p1)]
def le1q25 (p0 : Arr) : Nat := LN (le1q19 p0)
def le1q26 : Arr := DA
def le1q27 (p0 : Arr) (p1 : Nat) : Arr := List.getD (le1q19 p0) p1 le1q26
def le1q28 (p0 : Arr) (p1 : Nat) : List Int := Arr.sh (le1q27 p0 p1)
def le1q29 (p0 : Arr) (p1 : Nat) : List Int := Arr.nu (le1q27 p0 p1)
def le1q30 (p0 : Arr) (p1 : Nat) : List Arr := Arr.it (le1q27 p0 p1)
def le1q31 (p0 : Arr) (p1 : Nat) : List D := [ZI (Arr.k (le1q27 p0 p1)), SI (le1q28 p0 p1), SI (le1q29 p0 p1), D.sl N4 (LN (le1q30 p0 p1)) (fun (i : Nat) => Arr.row (List.getD (le1q30 p0 p1) i le1q26)) Mode.any]
def le1q32 (p0 : Nat) (p1 : Arr) (p2 p3 : Nat) : Prop := (SM p0 ∧ (SM (le1q15 p1) ∧ (SM (le1q23 p1) ∧ (∀ (i : Nat), i < le1q23 p1 → SM (le1q24 p1 i)) ∧ True) ∧ (SM (le1q16 p1) ∧ (∀ (i : Nat), i < le1q16 p1 → SM (le1q17 p1 i)) ∧ True) ∧ (SM (le1q25 p1) ∧ (∀ (i : Nat), i < le1q25 p1 → SM (le1q31 p1 i)) ∧ True) ∧ True) ∧ True) ∧ p2 = p3 ∧ True
def le1q33 (p0 : Arr) : Int := (NI (le1q25 p0))
def le1q34 (p0 : Arr) (p1 : Nat) : Arr := List.getD (le1q19 p0) (Int.toNat (↑p1 : Int)) le1q26
def le1q35 (p0 : Arr) (p1 : Nat) : List Int := Arr.sh (le1q34 p0 p1)
def le1q36 (p0 : Arr) (p1 : Nat) : Nat := LN (le1q35 p0 p1)
def le1q37 (p0 : Arr) (p1 : Nat) : List Int := Arr.nu (le1q34 p0 p1)
def le1q38 (p0 : Arr) (p1 : Nat) : Nat := LN (le1q37 p0 p1)
def le1q39 (p0 : Arr) (p1 : Nat) : List Arr := Arr.it (le1q34 p0 p1)
def le1q40 (p0 : Arr) (p1 : Nat) : Nat := LN (le1q39 p0 p1)
def le1q41 (p0 : Arr) (p1 : Nat) (p2 : Arr) : Prop := (Arr.k (le1q34 p0 p1) = le1q15 p2 ∧ (le1q36 p0 p1 = le1q23 p2 ∧ (∀ (i : Nat), i < le1q36 p0 p1 → [ZI (GI (le1q35 p0 p1) i)] = le1q24 p2 i) ∧ True) ∧ (le1q38 p0 p1 = le1q16 p2 ∧ (∀ (i : Nat), i < le1q38 p0 p1 → [ZI (GI (le1q37 p0 p1) i)] = le1q17 p2 i) ∧ True) ∧ (le1q40 p0 p1 = le1q25 p2 ∧ (∀ (i : Nat), i < le1q40 p0 p1 → Arr.row (List.getD (le1q39 p0 p1) i le1q26) = Arr.row (le1q27 p2 i)) ∧ True) ∧ True) ∧ True
def le1q42 (p0 : Arr) : Nat := LN ((40 : UInt8) :: (98 : UInt8) :: (111 : UInt8) :: (120 : UInt8) :: (32 : UInt8) :: List.append [] (litA p0)) + N1
def le1q43 (p0 : Arr) : List UInt8 := (40 : UInt8) :: (98 : UInt8) :: (111 : UInt8) :: (120 : UInt8) :: (32 : UInt8) :: List.append (List.append [] (litA p0)) [(41 : UInt8)]
def le1q44 (p0 : Arr) : Nat := LN (le1q43 p0)
def le1q45 (p0 : List UInt8) (p1 : Arr) : Nat := LN p0 + N1 + le1q44 p1
def le1q46 (p0 : Arr) : D := D.agg [ZI (le1q15 p0), D.sl N1 (le1q23 p0) (fun (i : Nat) => le1q24 p0 i) Mode.any, D.sl N1 (le1q16 p0) (fun (i : Nat) => le1q17 p0 i) Mode.any, D.sl N4 (le1q25 p0) (fun (i : Nat) => le1q31 p0 i) Mode.any]
def le1q47 (p0 : Arr) (p1 : Nat) : Prop := SM (le1q46 p0) ∧ SM (D.ref N0 p1 N0) ∧ True
def le1q48 (p0 : Arr) (p1 p2 : Nat) : Prop := le1q25 p0 - p1 < le1q25 p0 - p2
def le1q49 (p0 : Arr) (p1 : Nat) : List D := [ZB (BI (le1q43 p0) p1)]
def le1q50 (p0 : List UInt8) (p1 : Arr) : Nat := LN p0 + le1q44 p1
end
theorem rel_step (a : Arr) (q : Arr → Prop) (lo : LOk a) (hk : a.k ≠ 2) (hi : ∀ b ∈ a.it, q b) (hc : ConOk Tryd.prog (conRe q)) :
    ACalls Tryd.prog 46 ((sRc Arr.row2 (fun _ => True) (fun a => .str (vecK a.k a.nu (a.it.map litA)))).args a) ⟨[], []⟩ (SpecR (sRc Arr.row2 (fun _ => True) (fun a => .str (vecK a.k a.nu (a.it.map litA)))) a) := by
  refine con_of (A := sRc Arr.row2 (fun _ => True) (fun a => .str (vecK a.k a.nu (a.it.map litA)))) (x := a) (E := Erel a q) (eOk hc rfl) Tryd.func46 rfl (by kernel_rfl) rfl (by simp [sRc, Erel, EC, E0]) ?_
  refine vc_eq (T :=
    ∀ (x : Nat), True → SM x ∧ ifB (le1q15 a == Z1) (SM x ∧ ((IntsP (le1q16 a) fun (i : Nat) => le1q17 a i) ∧ le1q16 a ≤ (1099511627776 : Nat) ∧ ∀ (z : Int), z ∈ le1q18 a → inI64 z) ∧ ∀ (y : Unit), True → True ∧ ∃ (y : Unit), True ∧ dimsB (le1q18 a) = le1q20 a ∧ True ∧ True) (∀ (t : Nat), (∃ (x_1 : Nat × Nat × List UInt8), le1q21 a x_1.1 x_1.2.2 ∧ (Z0 = (NI x_1.1) ∧ (N0 = LN x_1.2.2 ∧ (∀ (i : Nat), i < N0 → eqOf (List D) [] (le1q22 x_1.2.2 i)) ∧ t = x_1.2.1) ∧ True) ∧ le1q32 x a t x_1.2.1) ∧ ∀ (x_1 : Nat × Nat × List UInt8), le1q21 a x_1.1 x_1.2.2 → SM x ∧ ifB (decide ((NI x_1.1) < le1q33 a)) (ifB (decide (Z0 < (NI x_1.1))) (SM x_1.2.1 ∧ side ((LN x_1.2.2 + N1) * N1 ≤ (140737488355328 : Nat) ∧ LN x_1.2.2 + N1 ≤ (9223372036854775807 : Nat)) (∀ (t : Nat), SM x ∧ side (Z0 ≤ (NI x_1.1) ∧ (NI x_1.1) < le1q33 a) (∃ (x_2 : Arr), le1q41 a x_1.1 x_2 ∧ (True ∧ True) ∧ q x_2 ∧ ∀ (y : Unit), True → side ((5 : Nat) + LN (litA x_2) ≤ (9223372036854775807 : Nat)) (side (le1q42 x_2 ≤ (9223372036854775807 : Nat)) (SM t ∧ side (le1q45 x_1.2.2 x_2 * N1 ≤ (140737488355328 : Nat) ∧ le1q45 x_1.2.2 x_2 ≤ (9223372036854775807 : Nat)) (∀ (t : Nat), le1q47 a x ∧ ∃ (y : Nat × Nat × List UInt8), le1q21 a y.1 y.2.2 ∧ le1q48 a y.1 x_1.1 ∧ (IntKind.wrap IntKind.i64 ((NI x_1.1) + Z1) = (NI y.1) ∧ (le1q45 x_1.2.2 x_2 = LN y.2.2 ∧ (∀ (i : Nat), i < le1q45 x_1.2.2 x_2 → appF (LN x_1.2.2 + N1) (appF (LN x_1.2.2) (fun (i : Nat) => le1q22 x_1.2.2 i) fun (i : Nat) => List.getD [[ZB (32 : Int)]] i []) (fun (i : Nat) => le1q49 x_2 i) i = le1q22 y.2.2 i) ∧ t = y.2.1) ∧ True) ∧ le1q32 x a t y.2.1)))))) (SM x ∧ side (Z0 ≤ (NI x_1.1) ∧ (NI x_1.1) < le1q33 a) (∃ (x_2 : Arr), le1q41 a x_1.1 x_2 ∧ (True ∧ True) ∧ q x_2 ∧ ∀ (y : Unit), True → side ((5 : Nat) + LN (litA x_2) ≤ (9223372036854775807 : Nat)) (side (le1q42 x_2 ≤ (9223372036854775807 : Nat)) (SM x_1.2.1 ∧ side (le1q50 x_1.2.2 x_2 * N1 ≤ (140737488355328 : Nat) ∧ le1q50 x_1.2.2 x_2 ≤ (9223372036854775807 : Nat)) (∀ (t : Nat), le1q47 a x ∧ ∃ (y : Nat × Nat × List UInt8), le1q21 a y.1 y.2.2 ∧ le1q48 a y.1 x_1.1 ∧ (IntKind.wrap IntKind.i64 ((NI x_1.1) + Z1) = (NI y.1) ∧ (le1q50 x_1.2.2 x_2 = LN y.2.2 ∧ (∀ (i : Nat), i < le1q50 x_1.2.2 x_2 → appF (LN x_1.2.2) (fun (i : Nat) => le1q22 x_1.2.2 i) (fun (i : Nat) => le1q49 x_2 i) i = le1q22 y.2.2 i) ∧ t = y.2.1) ∧ True) ∧ le1q32 x a t y.2.1)))))) (True ∧ chk (true && rowsB (LN x_1.2.2) fun (i : Nat) => le1q22 x_1.2.2 i) (True ∧ ∃ (y : Unit), True ∧ (bytesOf (LN x_1.2.2) fun (i : Nat) => le1q22 x_1.2.2 i) = le1q20 a ∧ True ∧ True)))) (by kernel_rfl) ?_
  delta BI DA GI LN N0 N1 N4 NI SI SM U0 Z0 Z1 ZB ZI le1q15 le1q16 le1q17 le1q18 le1q19 le1q20 le1q21 le1q22 le1q23 le1q24 le1q25 le1q26 le1q27 le1q28 le1q29 le1q30 le1q31 le1q32 le1q33 le1q34 le1q35 le1q36 le1q37 le1q38 le1q39 le1q40 le1q41 le1q42 le1q43 le1q44 le1q45 le1q46 le1q47 le1q48 le1q49 le1q50
  have da : (default : Arr) = Arr.mk 0 [] [] [] := rfl
  simp only [← da, ifB_iff, side_iff, decide_eq_true_eq, decide_eq_false_iff_not, true_and, and_true, beq_iff_eq, beq_eq_false_iff_ne, ne_eq, exists_const, forall_const, Int.toNat_natCast, intsD_isl]
  have hib : ∀ x : Arr, (40 :: 98 :: 111 :: 120 :: 32 :: (litA x).append [41]) = itemB (litA x) := fun _ => rfl
  simp only [app_nil', hib]
  have kd := lo.kd
  have hsum := lo.sum
  have l2 := lo.n6
  have l3 := lo.i6
  have tt : (∀ i : Nat, i < a.sh.length → True) ∧ (∀ i : Nat, i < a.nu.length → True) ∧ ∀ i : Nat, i < a.it.length → True := ⟨fun _ _ => trivial, fun _ _ => trivial, fun _ _ => trivial⟩
  refine ⟨fun h1 => ⟨⟨intsP_isl _, by omega, lo.ni⟩, ?_⟩, fun h1 t => ⟨⟨(0, t, []), JHd.init _ _, ⟨rfl, rfl, fun i hi => absurd hi (by omega), rfl⟩, tt, rfl⟩, ?_⟩⟩
  · rw [vecK, if_neg hk, lo.no (by omega)]
    simp [dimsB]
  have hnu := lo.bx (by omega)
  have hv : Lib.join (a.it.map fun b => itemB (litA b)) [32] = vecK a.k a.nu (a.it.map litA) := by
    rw [vecK, if_neg hk, hnu, List.map_map]; rfl
  have hvl := vecK_len a.k lo.ni (a.it.map litA)
  rw [List.length_map] at hvl
  rintro ⟨i, t1, out⟩ hh
  simp only at hh ⊢
  have hl := hh.len
  rw [hv] at hl
  refine ⟨fun hlt => ?_, fun hge => ?_⟩
  · have hlt' : i < a.it.length := by omega
    have hm := mem_getD hlt'
    have hml := mem_sum hm
    have hmi : i < (a.it.map fun b => itemB (litA b)).length := by simpa using hlt'
    have hg : (a.it.map fun b => itemB (litA b)).getD i [] = itemB (litA (a.it.getD i default)) := by
      simp [List.getD_eq_getElem?_getD, List.getElem?_map, List.getElem?_eq_getElem hlt']
    have hil : (itemB (litA (a.it.getD i default))).length = 6 + (litA (a.it.getD i default)).length := by
      simp only [itemB, boxW, List.length_append, List.length_cons, List.length_nil]; omega
    refine ⟨fun h0 => ⟨⟨by omega, by omega⟩, ⟨by omega, by omega⟩, a.it.getD i default, ⟨rfl, ⟨rfl, fun _ _ => rfl⟩, ⟨rfl, fun _ _ => rfl⟩, rfl, fun _ _ => rfl⟩, hi _ hm, by omega, by simp only [List.length_cons]; omega, ⟨by omega, by omega⟩, fun t2 => ⟨(i + 1, t2, out ++ [32] ++ itemB (litA (a.it.getD i default))), ?_, by simp only; omega, ⟨wrap_i64' (by omega) (by omega), by simp only [List.length_append, List.length_cons, List.length_nil], ?_, rfl⟩, tt, rfl⟩⟩, fun h0 => ⟨⟨by omega, by omega⟩, a.it.getD i default, ⟨rfl, ⟨rfl, fun _ _ => rfl⟩, ⟨rfl, fun _ _ => rfl⟩, rfl, fun _ _ => rfl⟩, hi _ hm, by omega, by simp only [List.length_cons]; omega, ⟨by omega, by omega⟩, fun t2 => ⟨(i + 1, t2, out ++ itemB (litA (a.it.getD i default))), ?_, by simp only; omega, ⟨wrap_i64' (by omega) (by omega), by simp only [List.length_append], ?_, rfl⟩, tt, rfl⟩⟩⟩
    · have := hh.step (by omega) hmi
      rw [hg] at this
      exact this
    · exact app_gen (l := out ++ [32]) (by simp) (app_row' (b := 32) rfl (fun _ _ => rfl) rfl) (fun _ _ => rfl)
    · have e : i = 0 := by omega
      subst e
      have := hh.step0 hmi
      rw [hg] at this
      exact this
    · exact app_gen rfl (fun _ _ => rfl) (fun _ _ => rfl)
  · have hd := hh.done (by simpa using hge)
    rw [chk_iff, Bool.true_and]
    refine ⟨rowsB_bsl _, ?_⟩
    rw [bytesOf_bsl, hd, hv]
end Go.Proofs.YtpgepjefbhgblaaDoor
namespace Go.Proofs.YtpgepjefbhgblaaDoor
open Go Go.Ab
set_option maxRecDepth 100000
def sAt1 (q : Arr → Prop) : FnSpec where
  β := Arr
  α := Unit
  args := fun a => [.agg a.row1, .int .i64 0]
  st := fun _ => ⟨[], []⟩
  pre := q
  post := fun _ _ => True
  res := fun a _ => .ret (.agg (atA a 0).row1)
  out := fun _ _ => ⟨[], []⟩
def lineA (a : Arr) : Arr := .mk a.k [sizeR a.k a.nu.length a.it.length] a.nu a.it
def conRl (a : Arr) : Con := fun k ds S => match k with
  | 20 => some (sRc Arr.row1 (fun b => b = lineA a ∧ 1 < a.nu.length + a.it.length ∧ a.sh.length ≠ 1) (fun b => .str (litA b)))
  | 44 => some (sRc Arr.row1 (fun b => (b = a ∧ a.sh.length = 0) ∨ b = fillA a.k ∨ (b = atA a 0 ∧ a.nu.length + a.it.length = 1)) (fun b => .str (scalK b.k b.nu (b.it.map litA))))
  | 45 => some (sRc Arr.row1 (fun b => b = a ∧ a.k = 2) (fun b => .str (quoB 34 b.nu)))
  | 46 => some (sRc Arr.row1 (fun b => b = a ∧ a.k ≠ 2) (fun b => .str (vecK b.k b.nu (b.it.map litA))))
  | 48 => some (sRc Arr.row1 (fun b => b = a) (fun b => .agg (fillA b.k).row1))
  | 49 => some (sAt1 (fun b => b = a ∧ a.nu.length + a.it.length = 1))
  | 47 => match ds with
    | [.sl 1 n f m] => some (pC [.sl 1 n f m] (.str (dimsB (intsD n f))) (IntsP n f ∧ n ≤ 1099511627776 ∧ ∀ z ∈ intsD n f, inI64 z))
    | _ => none
  | k => conRf k ds S
theorem fill_sc {k : Int} (h : k = 1 ∨ k = 2 ∨ k = 3) : scalK (fillA k).k (fillA k).nu ((fillA k).it.map litA) = fillL k := by
  rcases h with rfl | rfl | rfl
  · rfl
  · rfl
  · rfl
theorem at_sc {a : Arr} (kd : a.k = 1 ∨ a.k = 2 ∨ a.k = 3) (bx : a.k = 3 → a.nu = []) (h : a.nu.length + a.it.length = 1) : scalK (atA a 0).k (atA a 0).nu ((atA a 0).it.map litA) = scalK a.k a.nu (a.it.map litA) := by
  have h1 := at_lit kd bx h
  have h2 : (atA a 0).sh.length = 0 := by unfold atA; split <;> rfl
  rw [litA_eq (atA a 0), litK, if_pos h2] at h1
  exact h1
theorem line_lit {a : Arr} (h : 1 < a.nu.length + a.it.length) : litA (lineA a) = vecK a.k a.nu (a.it.map litA) := by
  rw [litA_eq, litK, if_neg (by show ¬ 1 = 0; omega), if_pos ⟨rfl, .inr (by rw [List.length_map]; exact h)⟩]
  rfl
noncomputable def Erl (a : Arr) : Senv := EC (conRl a) 64 5 [8, 19, 31, 39, 46] (fun _ => ([], []))
noncomputable section
def le2q0 (p0 : Arr) : Nat := LN (Arr.sh p0)
def le2q1 (p0 : Arr) : Int := Arr.k p0
def le2q2 (p0 : Arr) (p1 : Nat) : List D := [ZI (GI (Arr.sh p0) p1)]
def le2q3 (p0 : Arr) : List Int := Arr.nu p0
def le2q4 (p0 : Arr) : Nat := LN (le2q3 p0)
def le2q5 (p0 : Arr) (p1 : Nat) : List D := [ZI (GI (le2q3 p0) p1)]
def le2q6 (p0 : Arr) : Nat := LN (Arr.it p0)
def le2q7 : Arr := DA
def le2q8 (p0 : Arr) (p1 : Nat) : List D := Arr.row (List.getD (Arr.it p0) p1 le2q7)
def le2q9 (p0 p1 : Arr) : Prop := (le2q4 p0 = le2q4 p1 ∧ (∀ (i : Nat), i < le2q4 p0 → le2q5 p0 i = le2q5 p1 i) ∧ True) ∧ (le2q6 p0 = le2q6 p1 ∧ (∀ (i : Nat), i < le2q6 p0 → le2q8 p0 i = le2q8 p1 i) ∧ True) ∧ True
def le2q10 (p0 p1 : Arr) : Prop := le2q1 p0 = le2q1 p1 ∧ (le2q0 p0 = le2q0 p1 ∧ (∀ (i : Nat), i < le2q0 p0 → le2q2 p0 i = le2q2 p1 i) ∧ True) ∧ le2q9 p0 p1
def le2q11 (p0 p1 : Arr) : Prop := le2q10 p0 p1 ∧ True
def le2q12 (p0 : Arr) : Arr := fillA (le2q1 p0)
def le2q13 (p0 : Arr) : Arr := atA p0 N0
def le2q14 (p0 : Arr) : Nat := le2q4 p0 + le2q6 p0
def le2q15 (p0 : Arr) : Prop := le2q14 p0 = N1
def le2q16 (p0 p1 : Arr) : Prop := p0 = p1 ∧ le2q0 p1 = N0 ∨ p0 = le2q12 p1 ∨ p0 = le2q13 p1 ∧ le2q15 p1
def le2q17 (p0 : Arr) : List UInt8 := scalK (le2q1 p0) (le2q3 p0) (List.map litA (Arr.it p0))
def le2q18 (p0 : Arr) : List UInt8 := litA p0
def le2q19 (p0 : Arr) : Bool := (NI (le2q0 p0)) == Z1
def le2q20 (p0 : Arr) : Bool := bif le2q19 p0 then le2q1 p0 == (2 : Int) else false
def le2q21 (p0 : Arr) : Int := sizeR (le2q1 p0) (le2q4 p0) (le2q6 p0)
def le2q22 (p0 : Arr) : Bool := decide ((2 : Int) ≤ le2q21 p0)
def le2q23 (p0 : Arr) : Bool := bif le2q19 p0 then le2q22 p0 else false
def le2q24 (p0 : Arr) : List Int := intsD (le2q0 p0) fun (i : Nat) => le2q2 p0 i
def le2q25 (p0 : Arr) : List UInt8 := dimsB (le2q24 p0)
def le2q26 (p0 : Arr) : List Int := Arr.sh (le2q12 p0)
def le2q27 (p0 : Arr) : Nat := LN (le2q26 p0)
def le2q28 (p0 : Arr) : List Int := Arr.nu (le2q12 p0)
def le2q29 (p0 : Arr) : Nat := LN (le2q28 p0)
def le2q30 (p0 : Arr) : List Arr := Arr.it (le2q12 p0)
def le2q31 (p0 : Arr) : Nat := LN (le2q30 p0)
def le2q32 (p0 : Arr) : List UInt8 := le2q25 p0 ++ [(32 : UInt8), (114 : UInt8), (101 : UInt8), (115 : UInt8), (104 : UInt8), (97 : UInt8), (112 : UInt8), (101 : UInt8), (32 : UInt8)]
def le2q33 (p0 : Arr) : Nat := LN (le2q32 p0)
def le2q34 (p0 p1 : Arr) : Prop := (True ∧ True) ∧ le2q16 p0 p1 ∧ ∀ (_y : Unit), True → side (le2q33 p1 + LN (le2q17 p0) ≤ (9223372036854775807 : Nat)) (True ∧ ∃ (_y : Unit), True ∧ le2q32 p1 ++ le2q17 p0 = le2q18 p1 ∧ True ∧ True)
def le2q35 (p0 : Arr) : List Int := Arr.sh (le2q13 p0)
def le2q36 (p0 : Arr) : Nat := LN (le2q35 p0)
def le2q37 (p0 : Arr) : List Int := Arr.nu (le2q13 p0)
def le2q38 (p0 : Arr) : Nat := LN (le2q37 p0)
def le2q39 (p0 : Arr) : List Arr := Arr.it (le2q13 p0)
def le2q40 (p0 : Arr) : Nat := LN (le2q39 p0)
end
theorem rlit_step (a : Arr) (lo : LOk a) (hc : ConOk Tryd.prog (conRl a)) :
    ACalls Tryd.prog 20 ((sRc Arr.row1 (fun _ => True) (fun b => .str (litA b))).args a) ⟨[], []⟩ (SpecR (sRc Arr.row1 (fun _ => True) (fun b => .str (litA b))) a) := by
  refine con_of (A := sRc Arr.row1 (fun _ => True) (fun b => .str (litA b))) (x := a) (E := Erl a) (eOk hc rfl) Tryd.func20 rfl (by kernel_rfl) rfl (by simp [sRc, Erl, EC, E0]) ?_
  refine vc_eq (T :=
    ∀ (x : Nat), True → SM x ∧ ifB ((NI (le2q0 a)) == Z0) (SM x ∧ ∃ (x : Arr), le2q11 a x ∧ (True ∧ True) ∧ le2q16 x a ∧ ∀ (y : Unit), True → True ∧ ∃ (y : Unit), True ∧ le2q17 x = le2q18 a ∧ True ∧ True) ((SM x ∧ ifB (le2q19 a) (SM x ∧ (le2q1 a == (2 : Int)) = le2q20 a ∧ True) (false = le2q20 a ∧ True)) ∧ ifB (le2q20 a) (SM x ∧ ∃ (x : Arr), le2q11 a x ∧ (True ∧ True) ∧ (x = a ∧ le2q1 a = (2 : Int)) ∧ ∀ (y : Unit), True → True ∧ ∃ (y : Unit), True ∧ quoB (34 : Int) (le2q3 x) = le2q18 a ∧ True ∧ True) (SM x ∧ True ∧ ∀ (y : Unit), True → (SM x ∧ ifB (le2q19 a) (le2q22 a = le2q23 a ∧ True) (false = le2q23 a ∧ True)) ∧ ifB (le2q23 a) (SM x ∧ ∃ (x : Arr), le2q11 a x ∧ (True ∧ True) ∧ (x = a ∧ le2q1 a ≠ (2 : Int)) ∧ ∀ (y : Unit), True → True ∧ ∃ (y : Unit), True ∧ vecK (le2q1 x) (le2q3 x) (List.map litA (Arr.it x)) = le2q18 a ∧ True ∧ True) (SM x ∧ ((IntsP (le2q0 a) fun (i : Nat) => le2q2 a i) ∧ le2q0 a ≤ (1099511627776 : Nat) ∧ ∀ (z : Int), z ∈ le2q24 a → inI64 z) ∧ ∀ (y : Unit), True → side (LN (le2q25 a) + (9 : Nat) ≤ (9223372036854775807 : Nat)) (ifB (le2q21 a == Z0) (SM x ∧ ∃ (x : Arr), le2q11 a x ∧ (True ∧ True) ∧ x = a ∧ ∀ (y : Unit), True → ∃ (x_1 : Arr), ((Arr.k (le2q12 x) = le2q1 x_1 ∧ (le2q27 x = le2q0 x_1 ∧ (∀ (i : Nat), i < le2q27 x → [ZI (GI (le2q26 x) i)] = le2q2 x_1 i) ∧ True) ∧ (le2q29 x = le2q4 x_1 ∧ (∀ (i : Nat), i < le2q29 x → [ZI (GI (le2q28 x) i)] = le2q5 x_1 i) ∧ True) ∧ (le2q31 x = le2q6 x_1 ∧ (∀ (i : Nat), i < le2q31 x → Arr.row (List.getD (le2q30 x) i le2q7) = le2q8 x_1 i) ∧ True) ∧ True) ∧ True) ∧ le2q34 x_1 a) (ifB (le2q21 a == Z1) (SM x ∧ ∃ (x : Arr), (le2q10 a x ∧ SM Z0 ∧ True) ∧ (True ∧ True) ∧ (x = a ∧ le2q15 a) ∧ ∀ (y : Unit), True → ∃ (x_1 : Arr), ((Arr.k (le2q13 x) = le2q1 x_1 ∧ (le2q36 x = le2q0 x_1 ∧ (∀ (i : Nat), i < le2q36 x → [ZI (GI (le2q35 x) i)] = le2q2 x_1 i) ∧ True) ∧ (le2q38 x = le2q4 x_1 ∧ (∀ (i : Nat), i < le2q38 x → [ZI (GI (le2q37 x) i)] = le2q5 x_1 i) ∧ True) ∧ (le2q40 x = le2q6 x_1 ∧ (∀ (i : Nat), i < le2q40 x → Arr.row (List.getD (le2q39 x) i le2q7) = le2q8 x_1 i) ∧ True) ∧ True) ∧ True) ∧ le2q34 x_1 a) (SM x ∧ SM x ∧ SM x ∧ ∃ (x : Arr), ((le2q1 a = le2q1 x ∧ (N1 = le2q0 x ∧ (∀ (i : Nat), i < N1 → List.getD [[ZI (le2q21 a)]] i [] = le2q2 x i) ∧ True) ∧ le2q9 a x) ∧ True) ∧ (True ∧ True) ∧ (x = lineA a ∧ N1 < le2q14 a ∧ le2q0 a ≠ N1) ∧ ∀ (y : Unit), True → side (le2q33 a + LN (le2q18 x) ≤ (9223372036854775807 : Nat)) (True ∧ ∃ (y : Unit), True ∧ le2q32 a ++ le2q18 x = le2q18 a ∧ True ∧ True)))))))) (by kernel_rfl) ?_
  delta DA GI LN N0 N1 NI SM Z0 Z1 ZI le2q0 le2q1 le2q10 le2q11 le2q12 le2q13 le2q14 le2q15 le2q16 le2q17 le2q18 le2q19 le2q2 le2q20 le2q21 le2q22 le2q23 le2q24 le2q25 le2q26 le2q27 le2q28 le2q29 le2q3 le2q30 le2q31 le2q32 le2q33 le2q34 le2q35 le2q36 le2q37 le2q38 le2q39 le2q4 le2q40 le2q5 le2q6 le2q7 le2q8 le2q9
  have da : (default : Arr) = Arr.mk 0 [] [] [] := rfl
  simp only [← da, ifB_iff, side_iff, decide_eq_true_eq, decide_eq_false_iff_not, true_and, and_true, beq_iff_eq, Bool.cond_false_right, Bool.and_eq_true, Bool.and_eq_false_iff, beq_eq_false_iff_ne, ne_eq, exists_const, forall_const, intsD_isl]
  obtain ⟨kd, s8, n6, i6, si, ni, hsum, hchr, hno, hbx, hsc⟩ := lo
  have hz : sizeR a.k a.nu.length a.it.length = ((a.nu.length + a.it.length : Nat) : Int) := by
    unfold sizeR
    by_cases h3 : a.k = 3
    · rw [if_neg (by omega), if_pos h3, hbx h3]; simp
    · rw [if_pos (by omega), hno h3]; simp
  have hd := dimsB_len si
  have hfl := fillL_len a.k
  have hsl := scalK_len a.k ni (a.it.map litA)
  have hvl := vecK_len a.k ni (a.it.map litA)
  rw [List.length_map] at hvl
  have len : ∀ e : List UInt8, e.length ≤ 200000000 → (dimsB a.sh ++ [32, 114, 101, 115, 104, 97, 112, 101, 32]).length + e.length ≤ 9223372036854775807 := fun e he => by
    simp only [List.length_append, List.length_cons, List.length_nil]; omega
  have hlk : a.sh.length ≠ 0 → (¬ a.sh.length = 1 ∨ ¬ a.k = 2) → (¬ a.sh.length = 1 ∨ a.nu.length + a.it.length < 2) → litA a = dimsB a.sh ++ [32, 114, 101, 115, 104, 97, 112, 101, 32] ++ (if a.nu.length + a.it.length = 0 then fillL a.k else if a.nu.length + a.it.length = 1 then scalK a.k a.nu (a.it.map litA) else vecK a.k a.nu (a.it.map litA)) := fun h1 h2 h3 => by
    rw [litA_eq, litK, if_neg h1, if_neg (by rw [List.length_map]; omega), List.length_map]; rfl
  have hvk : a.sh.length = 1 → (a.k = 2 ∨ 1 < a.nu.length + a.it.length) → litA a = vecK a.k a.nu (a.it.map litA) := fun h1 h2 => by
    rw [litA_eq, litK, if_neg (by omega), if_pos ⟨h1, by rw [List.length_map]; exact h2⟩]
  simp only [hz]
  refine ⟨fun hs => ⟨a, ⟨rfl, ⟨rfl, fun _ _ => rfl⟩, ⟨rfl, fun _ _ => rfl⟩, rfl, fun _ _ => rfl⟩, .inl ⟨rfl, by omega⟩, by rw [litA_eq a, litK, if_pos (by omega)]⟩, fun hs => ⟨⟨fun h => by rw [h]; rfl, fun h => by rw [beq_eq_false_iff_ne.2 h]; rfl⟩, fun ⟨h1, h2⟩ => ⟨a, ⟨rfl, ⟨rfl, fun _ _ => rfl⟩, ⟨rfl, fun _ _ => rfl⟩, rfl, fun _ _ => rfl⟩, ⟨rfl, h2⟩, by rw [hvk (by omega) (.inl h2), vecK, if_pos h2]⟩, fun hn => ⟨⟨fun h => by rw [h]; rfl, fun h => by rw [beq_eq_false_iff_ne.2 h]; rfl⟩, fun ⟨h1, h2⟩ => ⟨a, ⟨rfl, ⟨rfl, fun _ _ => rfl⟩, ⟨rfl, fun _ _ => rfl⟩, rfl, fun _ _ => rfl⟩, ⟨rfl, by omega⟩, by rw [hvk (by omega) (.inr (by omega))]⟩, fun hn2 => ⟨⟨intsP_isl _, by omega, si⟩, by omega, fun h0 => ?_, fun h0 => ⟨fun h1 => ?_, fun h1 => ?_⟩⟩⟩⟩⟩
  · refine ⟨a, ⟨rfl, ⟨rfl, fun _ _ => rfl⟩, ⟨rfl, fun _ _ => rfl⟩, rfl, fun _ _ => rfl⟩, rfl, fillA a.k, ⟨rfl, ⟨rfl, fun _ _ => rfl⟩, ⟨rfl, fun _ _ => rfl⟩, rfl, fun _ _ => rfl⟩, .inr (.inl rfl), ?_, ?_⟩
    · rw [fill_sc kd]; exact len _ (by omega)
    · rw [fill_sc kd, hlk (by omega) (by omega) (by omega), if_pos (by omega)]
  · refine ⟨a, ⟨rfl, ⟨rfl, fun _ _ => rfl⟩, ⟨rfl, fun _ _ => rfl⟩, rfl, fun _ _ => rfl⟩, ⟨rfl, by omega⟩, atA a 0, ⟨rfl, ⟨rfl, fun _ _ => rfl⟩, ⟨rfl, fun _ _ => rfl⟩, rfl, fun _ _ => rfl⟩, .inr (.inr ⟨rfl, by omega⟩), ?_, ?_⟩
    · rw [at_sc kd hbx (by omega)]; exact len _ (by omega)
    · rw [at_sc kd hbx (by omega), hlk (by omega) (by omega) (by omega), if_neg (by omega), if_pos (by omega)]
  · refine ⟨lineA a, ⟨rfl, ⟨rfl, fun i hi => ?_⟩, ⟨rfl, fun _ _ => rfl⟩, rfl, fun _ _ => rfl⟩, ⟨rfl, by omega, by omega⟩, ?_, ?_⟩
    · have : i = 0 := by omega
      subst this
      simp only [lineA, Arr.sh, hz]; rfl
    · rw [line_lit (by omega)]; exact len _ (by omega)
    · rw [line_lit (by omega), hlk (by omega) (by omega) (by omega), if_neg (by omega), if_neg (by omega)]
end Go.Proofs.YtpgepjefbhgblaaDoor
namespace Go.Proofs.YtpgepjefbhgblaaDoor
open Go Go.Ab
set_option maxRecDepth 100000
def conCr (its : List Arr) : Con := fun k ds S => match k with
  | 69 => some (sCl Arr.row1 Arr.row1 (fun b => b ∈ its))
  | k => conRf k ds S
noncomputable def Era (a : Arr) : Senv := EC (conCr a.it) 34 3 [4, 12, 16] (fun id => match id with | 5 => ([0, 1, 2, 3, 4, 5, 6, 7, 8, 9], [7, 9]) | _ => ([], []))
noncomputable section
def at2q0 (p0 : Arr) : Int := Arr.k p0
def at2q1 (p0 : Arr) : Nat := LN (Arr.nu p0)
def at2q2 (p0 : Arr) : List Arr := Arr.it p0
def at2q3 (p0 : Arr) : Nat := LN (at2q2 p0)
def at2q4 : D := D.sl N1 N0 (fun (_x : Nat) => []) Mode.nil
def at2q5 : List D := [at2q4]
def at2q6 : Arr := DA
def at2q7 (p0 : Arr) (p1 : Nat) : Arr := List.getD (at2q2 p0) (Int.toNat (↑p1 : Int)) at2q6
def at2q8 (p0 : Arr) (p1 : Nat) : List Int := Arr.sh (at2q7 p0 p1)
def at2q9 (p0 : Arr) (p1 : Nat) : Nat := LN (at2q8 p0 p1)
def at2q10 (p0 : Arr) (p1 : Nat) : List Int := Arr.nu (at2q7 p0 p1)
def at2q11 (p0 : Arr) (p1 : Nat) : Nat := LN (at2q10 p0 p1)
def at2q12 (p0 : Arr) (p1 : Nat) : List Arr := Arr.it (at2q7 p0 p1)
def at2q13 (p0 : Arr) (p1 : Nat) : Nat := LN (at2q12 p0 p1)
def at2q14 (p0 : Arr) (p1 : Nat) : List D := Arr.row (List.getD (at2q2 p0) p1 at2q6)
def at2q15 (p0 : Arr) : D := ZI (at2q0 p0)
end
theorem rat_step (a : Arr) (i : Nat) (hk : a.k = 1 ∨ a.k = 2 ∨ a.k = 3) (hi : (i : Int) < sizeR a.k a.nu.length a.it.length) (hc : ConOk Tryd.prog (conCr a.it)) :
    ACalls Tryd.prog 49 [.agg a.row2, .int .i64 i] ⟨[], []⟩ (SpecR (sC [.agg a.row2, .int .i64 i] (atD a i)) ()) := by
  refine con_of (A := sC _ _) (x := ()) (E := Era a) (eOk hc rfl) Tryd.func49 rfl (by kernel_rfl) rfl (by simp [sC, Era, EC, E0]) ?_
  refine vc_eq (T :=
    ∀ (x : Nat), True → ∀ (x_1 : Nat), x ≠ x_1 ∧ True → SM x ∧ True ∧ ∀ (y : Unit), True → ifB (decide (sizeR (at2q0 a) (at2q1 a) (at2q3 a) ≤ (↑i : Int))) (SM x_1 ∧ (SM x_1 ∧ True) ∧ ∃ (y : Unit), True ∧ weakD (D.agg (ZI Z0 :: at2q4 :: at2q4 :: at2q5)) (atD a i) ∧ True ∧ True) (SM x ∧ ifB (at2q0 a == (3 : Int)) (SM x ∧ side (Z0 ≤ (↑i : Int) ∧ (↑i : Int) < (NI (at2q3 a))) (∃ (x : Arr), ((Arr.k (at2q7 a i) = at2q0 x ∧ (at2q9 a i = LN (Arr.sh x) ∧ (∀ (i_1 : Nat), i_1 < at2q9 a i → [ZI (GI (at2q8 a i) i_1)] = [ZI (GI (Arr.sh x) i_1)]) ∧ True) ∧ (at2q11 a i = at2q1 x ∧ (∀ (i_1 : Nat), i_1 < at2q11 a i → [ZI (GI (at2q10 a i) i_1)] = [ZI (GI (Arr.nu x) i_1)]) ∧ True) ∧ (at2q13 a i = at2q3 x ∧ (∀ (i_1 : Nat), i_1 < at2q13 a i → Arr.row (List.getD (at2q12 a i) i_1 at2q6) = at2q14 x i_1) ∧ True) ∧ True) ∧ True) ∧ (True ∧ True) ∧ x ∈ at2q2 a ∧ ∀ (y : Unit), True → SM x_1 ∧ (SM x_1 ∧ True) ∧ ∃ (y : Unit), True ∧ weakD (D.agg [ZI (3 : Int), at2q4, at2q4, D.sl N4 N1 (fun (i : Nat) => List.getD [[at2q15 x, SI (Arr.sh x), D.sl N1 (at2q1 x) (fun (i : Nat) => [ZI (GI (Arr.nu x) i)]) Mode.any, D.sl N4 (at2q3 x) (fun (i : Nat) => at2q14 x i) Mode.any]] i []) Mode.full]) (atD a i) ∧ True ∧ True)) (SM x ∧ SM x ∧ side (Z0 ≤ (↑i : Int) ∧ (↑i : Int) < (NI (at2q1 a))) ((SM x ∧ SM (at2q15 a)) ∧ SM x_1 ∧ (SM x_1 ∧ True) ∧ ∃ (y : Unit), True ∧ weakD (D.agg (at2q15 a :: at2q4 :: D.sl N1 N1 (fun (i_1 : Nat) => List.getD [[ZI (GI (Arr.nu a) (Int.toNat (↑i : Int)))]] i_1 []) Mode.full :: at2q5)) (atD a i) ∧ True ∧ True)))) (by kernel_rfl) ?_
  delta DA GI LN N0 N1 N4 NI SI SM Z0 ZI at2q0 at2q1 at2q10 at2q11 at2q12 at2q13 at2q14 at2q15 at2q2 at2q3 at2q4 at2q5 at2q6 at2q7 at2q8 at2q9
  have da : (default : Arr) = Arr.mk 0 [] [] [] := rfl
  simp only [← da, ifB_iff, side_iff, decide_eq_true_eq, decide_eq_false_iff_not, true_and, and_true, beq_iff_eq, beq_eq_false_iff_ne, ne_eq, exists_const, forall_const, Int.toNat_natCast]
  have h12 : a.k ≠ 3 → i < a.nu.length := fun h3 => by
    have h : a.k = 1 ∨ a.k = 2 := by omega
    rw [sizeR, if_pos h] at hi; omega
  have h3 : a.k = 3 → i < a.it.length := fun h3 => by
    rw [sizeR, if_neg (by omega), if_pos h3] at hi; omega
  repeat' (first | intro _ | refine And.intro ?_ ?_)
  all_goals first
    | omega
    | (exfalso; omega)
    | exact ⟨a.it.getD i default, ⟨rfl, ⟨rfl, fun _ _ => rfl⟩, ⟨rfl, fun _ _ => rfl⟩, rfl, fun _ _ => rfl⟩, mem_getD (by omega), by rw [atD, if_pos (by assumption), (by assumption : a.k = 3)]; exact weakD_refl _⟩
    | (rw [atD, if_neg (by omega)]; exact weakD_refl _)
end Go.Proofs.YtpgepjefbhgblaaDoor
namespace Go.Proofs.YtpgepjefbhgblaaDoor
open Go Go.Ab
set_option maxRecDepth 100000
def RSc (a : Arr) : Prop := ACalls Tryd.prog 44 ((sRc Arr.row2 (fun _ => True) (fun a => .str (scalK a.k a.nu (a.it.map litA)))).args a) ⟨[], []⟩ (SpecR (sRc Arr.row2 (fun _ => True) (fun a => .str (scalK a.k a.nu (a.it.map litA)))) a)
theorem rsc_of {a : Arr} (lo : LOk a) (hs : a.nu.length + a.it.length = 1) (ih : ∀ b ∈ a.it, RLit b) : RSc a := by
  refine rsc_step a (· ∈ a.it) lo (fun h3 => ?_) (fun h3 => ?_) (fun _ h => h) (conRe_ok ih)
  · have := lo.no h3; rw [this] at hs; simp at hs; omega
  · have := lo.bx h3; rw [this] at hs; simp at hs; omega
theorem size_of {a : Arr} (lo : LOk a) (h1 : a.nu.length + a.it.length = 1) : ((0 : Nat) : Int) < sizeR a.k a.nu.length a.it.length := by
  unfold sizeR
  by_cases h3 : a.k = 3
  · rw [if_neg (by omega), if_pos h3]
    have := lo.bx h3
    rw [this] at h1
    simp at h1
    omega
  · rw [if_pos (by have := lo.kd; omega)]
    have := lo.no h3
    rw [this] at h1
    simp at h1
    omega
theorem conRl_ok {a : Arr} (lo : LOk a) (ih : ∀ b ∈ a.it, RLit b) (hf : RSc (fillA a.k)) (ha : a.nu.length + a.it.length = 1 → RSc (atA a 0)) (hcl : a.nu.length + a.it.length = 1 → ConOk Tryd.prog (conCr a.it)) (hl : 1 < a.nu.length + a.it.length → a.sh.length ≠ 1 → RLit (lineA a)) : ConOk Tryd.prog (conRl a) := by
  intro k ds S A h
  unfold conRl at h
  split at h
  · injection h with h; subst h
    refine ConOk.plain (fun b hb => ?_) rfl rfl
    obtain ⟨hb, h1, h2⟩ : b = lineA a ∧ 1 < a.nu.length + a.it.length ∧ a.sh.length ≠ 1 := hb
    rw [hb]
    exact sRc_row (hl h1 h2)
  · injection h with h; subst h
    refine ConOk.plain (fun b hb => ?_) rfl rfl
    rcases (hb : (b = a ∧ a.sh.length = 0) ∨ b = fillA a.k ∨ (b = atA a 0 ∧ a.nu.length + a.it.length = 1)) with ⟨hb, h1⟩ | hb | ⟨hb, h1⟩
    · rw [hb]; exact sRc_row (rsc_of lo (lo.sc h1) ih)
    · rw [hb]; exact sRc_row hf
    · rw [hb]; exact sRc_row (ha h1)
  · injection h with h; subst h
    refine ConOk.plain (fun b hb => ?_) rfl rfl
    obtain ⟨hb, h1⟩ : b = a ∧ a.k = 2 := hb
    rw [hb]
    have hn := lo.n6
    exact (rquo_ok a.k _ _ _ _ a.nu (by omega) (lo.chr h1)).mono fun _ _ ⟨y, q1, q2, q3⟩ => ⟨y, q1, q2, q3⟩
  · injection h with h; subst h
    refine ConOk.plain (fun b hb => ?_) rfl rfl
    obtain ⟨hb, h1⟩ : b = a ∧ a.k ≠ 2 := hb
    rw [hb]
    exact sRc_row (rel_step a (· ∈ a.it) lo h1 (fun _ h => h) (conRe_ok ih))
  · injection h with h; subst h
    refine ConOk.plain (fun b hb => ?_) rfl rfl
    have hb : b = a := hb
    rw [hb]
    exact (rfill_arr a).mono fun _ _ ⟨y, q1, q2, q3⟩ => ⟨y, q1, q2, q3⟩
  · injection h with h; subst h
    refine ConOk.plain (fun b hb => ?_) rfl rfl
    obtain ⟨hb, h1⟩ : b = a ∧ a.nu.length + a.it.length = 1 := hb
    rw [hb]
    have := ACalls.wkArgs (ds := [.agg a.row1, .int .i64 0]) (wkRet (rat_step a 0 lo.kd (size_of lo h1) (hcl h1)) (at_wk a 0)) (by
      simp only [wkL, wkD]
      exact ⟨row1_wk a, weakD_refl _, trivial⟩)
    exact this.mono fun _ _ ⟨y, q1, q2, q3⟩ => ⟨y, q1, q2, q3⟩
  · split at h
    · injection h with h; subst h
      exact pC_ok fun ⟨h1, h2, h3⟩ => ⟨weakL_refl _, sC_weak (isl_weak h1) (rdims_ok _ (by rw [intsD_len]; exact h2) h3)⟩
    · cases h
  · exact conRf_ok _ _ _ _ h
theorem rlit_row2 {a : Arr} (h : ACalls Tryd.prog 20 ((sRc Arr.row1 (fun _ => True) (fun b => .str (litA b))).args a) ⟨[], []⟩ (SpecR (sRc Arr.row1 (fun _ => True) (fun b => .str (litA b))) a)) : RLit a := by
  refine (h.wkArgs ?_).mono fun _ _ ⟨y, h1, h2, h3⟩ => ⟨y, h1, h2, h3⟩
  simp only [sRc, wkL, wkD]
  exact ⟨row2_row1 a, trivial⟩
theorem lok_line {a : Arr} (lo : LOk a) (_h : 1 < a.nu.length + a.it.length) : LOk (lineA a) := by
  have h6 := lo.n6
  have h7 := lo.i6
  refine ⟨lo.kd, by show 1 ≤ 8; omega, lo.n6, lo.i6, ?_, lo.ni, lo.sum, lo.chr, lo.no, lo.bx, fun h => absurd h (by show ¬ 1 = 0; omega)⟩
  intro z hz
  have : z = sizeR a.k a.nu.length a.it.length := List.mem_singleton.1 hz
  rw [this]
  unfold sizeR inI64
  split
  · omega
  split <;> omega
theorem rlit_line {a : Arr} (lo : LOk a) (ih : ∀ b ∈ a.it, RLit b) (hf : RSc (fillA a.k)) (h : 1 < a.nu.length + a.it.length) : RLit (lineA a) :=
  rlit_row2 (rlit_step (lineA a) (lok_line lo h) (conRl_ok (lok_line lo h) ih hf (fun h1 => absurd h1 (by show ¬ a.nu.length + a.it.length = 1; omega)) (fun h1 => absurd h1 (by show ¬ a.nu.length + a.it.length = 1; omega)) (fun _ h2 => absurd rfl h2)))
theorem rfs1 : RSc (.mk 1 [] [0] []) := rsc_of lok_fill1 rfl (fun b hb => by cases hb)
theorem rfs2 : RSc (.mk 2 [] [32] []) := rsc_of lok_fill2 rfl (fun b hb => by cases hb)
theorem rlit_e : RLit (.mk 1 [0] [] []) :=
  rlit_row2 (rlit_step _ lok_e (conRl_ok lok_e (fun b hb => by cases hb) rfs1 (fun h => by cases h) (fun h => by cases h) (fun h => absurd h (by show ¬ 1 < 0; omega))))
theorem rfs3 : RSc (.mk 3 [] [] [.mk 1 [0] [] []]) := rsc_of lok_fill3 rfl (fun b hb => by
  have : b = .mk 1 [0] [] [] := List.mem_singleton.1 hb
  subst this; exact rlit_e)
theorem rfs {k : Int} (h : k = 1 ∨ k = 2 ∨ k = 3) : RSc (fillA k) := by
  rcases h with rfl | rfl | rfl
  · exact rfs1
  · exact rfs2
  · exact rfs3
end Go.Proofs.YtpgepjefbhgblaaDoor
