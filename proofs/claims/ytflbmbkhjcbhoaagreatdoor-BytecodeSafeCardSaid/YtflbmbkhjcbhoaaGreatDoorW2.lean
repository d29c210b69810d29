/- Functions of the given program and what each of them computes: lemmas towards the statement, their conditions stated with each of them. -/
import Derived.Test.YtflbmbkhjcbhoaaGreatDoorW1
import Derived.Shelf.Strconv.Itoa4
import Derived.Lib.AppendIntMem
import Derived.Lib.ItoaLen
import Derived.WalkKit
import Derived.ProofKit
import Derived.Test.YtflbmbkhjcbhoaaGreatDoorCards
import Derived.Test.YtflbmbkhjcbhoaaGreatDoorTie
import Derived.OpenShut
import Derived.Deep.DeepHandedRow
import Derived.Lib.LaidTab
import Derived.Stop.LaidErr
import Derived.Test.YtflbmbkhjcbhoaaGreatDoorProg
import Derived.Lib.ItoaNum
import Derived.Lib.TrailingZeros
import Derived.Calls
import Derived.Below
import Derived.Laws.Entries
import Derived.Laws.Build
import Derived.Laws.Concat
import Derived.Laws.AppendOwn
import Derived.Laws.IdiomStrings
import Derived.Laws.BytesString
import Derived.Laws.NewFold
import Derived.Laws.MakeOwn
import Derived.Laws.IdiomCopy
import Derived.Laws.Shifts
import Derived.Laws.Strings
import Derived.Laws.Strings2
import Derived.Laws.Strings3
import Derived.Laws.RangeString
import Derived.MapKept
import Derived.Laws.StructEq
import Derived.Orders
import Derived.Scope
import Derived.Recover
import Derived.KernelRfl
import Derived.Shelf.Strings.Builder1
import Derived.Shelf.Strings.Builder2
import Derived.Shelf.Strings.OnBuilder
import Derived.Shelf.Strings.BuilderF
import Derived.Shelf.Strconv.Itoa0
import Derived.Shelf.Strconv.Itoa1
import Derived.Shelf.LaysM
import Derived.Shelf.Strconv.Itoa2
import Derived.Shelf.Strconv.Itoa3
import Derived.Shelf.Strings.Prefix
import Derived.Shelf.Bits.Mul64
import Derived.Shelf.Strings.Repeat
import Derived.Lib.Repeat
import Derived.Lib.Join
import Derived.Lib.Builder
import Derived.Lib.UnsafeStr
import Derived.Laws.BitsLemmas
namespace Go.Proofs.YtflbmbkhjcbhoaaGreatDoor
open Go Go.Ab
set_option maxRecDepth 100000
theorem itoa_ok (n:Int) (h:inI64 n):ACalls Tryz.prog 76 [.int .i64 n] ⟨[],[]⟩ (SpecR (sC [.int .i64 n] (.str (Lib.itoa n))) ()) := by
  refine ACalls.of_shelf_g ⟨_,Tryz.func76,by kernel_rfl,by kernel_rfl⟩ fun C args w ha hG hb => ?_
  obtain ⟨u,e,hu⟩ := repL_one' ha
  have e2:args = [u].toArray := by rw [← e]
  subst e2
  simp only [Rep] at hu; subst hu
  have := Tryz.strconv_Itoa n h.1 h.2 w (var_below hG.1 hb)
  exact this.mono fun e w' ⟨h1,k,os,h2⟩ => ⟨⟨_,h1,by simp [Rep]⟩,by subst h2; exact Lib.below_grow _ _ (Nat.le_refl _) _ _⟩
def conIt:Con := fun k ds S => match k with
  | 76 => match ds with
    | [.int .i64 n] => some (pC [.int .i64 n] (.str (Lib.itoa n)) (inI64 n))
    | _ => none
  | k => conAr k ds S
theorem conIt_ok:ConOk Tryz.prog conIt := by
  intro k ds S A h
  unfold conIt at h
  split at h
  · split at h
    · injection h with h; subst h
      exact pC_ok fun h1 => ⟨weakL_refl _,itoa_ok _ h1⟩
    · cases h
  · exact conAr_ok _ _ _ _ h
theorem itoa_len {n:Int} (h:inI64 n):1 ≤ (Lib.itoa n).length∧(Lib.itoa n).length ≤ 21 := by
  have k:∀ u,u < 18446744073709551616→1 ≤ (Lib.decDigits u).length∧(Lib.decDigits u).length ≤ 20 := fun u hu => by
    rw [Lib.decDigits_length]; exact ⟨Lib.nDigits_pos u,Lib.nDigits_le20 u hu⟩
  unfold inI64 at h
  unfold Lib.itoa
  split
  · have := k n.natAbs (by omega); simp only [List.length_cons]; omega
  · have := k n.toNat (by omega); omega
theorem dec_first:∀ u,48 ≤ ((Lib.decDigits u).getD 0 0).toNat∧((Lib.decDigits u).getD 0 0).toNat ≤ 57
  | u => by
    rw [Lib.decDigits]
    by_cases hu:u < 10
    · rw [dif_pos hu,List.getD_cons_zero,UInt8.toNat_ofNat']; omega
    · rw [dif_neg hu]
      have := dec_first (u / 10)
      have hl:1 ≤ (Lib.decDigits (u / 10)).length := by rw [Lib.decDigits_length]; exact Lib.nDigits_pos _
      rw [List.getD_eq_getElem?_getD,List.getElem?_append_left (l₁ := Lib.decDigits (u / 10)) (i := 0) (by omega),← List.getD_eq_getElem?_getD]
      exact this
termination_by u => u
decreasing_by omega
theorem itoa_sign {n:Int} (_:inI64 n) (e:(((Lib.itoa n).getD 0 0).toNat:Int) = 45):n < 0 := by
  unfold Lib.itoa at e
  split at e
  · assumption
  · have := dec_first n.toNat
    omega
def showI (n:Int):List UInt8 := if n < 0 then 95 :: Lib.decDigits n.natAbs else Lib.decDigits n.toNat
noncomputable def Esh (_n:Int):Senv := EC conIt 13 1 [2,3,8] (fun _ => ([],[]))
noncomputable section
def fm1q0 (p0:Int):List UInt8 := List.drop N1 (List.take (TL (Lib.itoa p0)) (Lib.itoa p0))
end
theorem show_ok (n:Int) (h:inI64 n):ACalls Tryz.prog 35 [.int .i64 n] ⟨[],[]⟩ (SpecR (sC [.int .i64 n] (.str (showI n))) ()) := by
  refine con_of (A := sC _ _) (x := ()) (E := Esh n) (eOk conIt_ok rfl) Tryz.func35 rfl (by kernel_rfl) rfl (by simp [sC,Esh,EC,E0]) ?_
  refine vc_eq (T :=
    inI64 n∧∀ (y:Unit),True→side (Z0 ≤ Z0∧Z0 < (LI (Lib.itoa n))) (ifB ((BI (Lib.itoa n) N0) == (45:Int)) (side (Z0 ≤ Z1∧Z1 ≤ (LI (Lib.itoa n))∧(LI (Lib.itoa n)) ≤ (LI (Lib.itoa n))) (side (N1 + LN (fm1q0 n) ≤ (9223372036854775807:Nat)) (True∧∃ (y:Unit),True∧(95:UInt8) :: List.append [] (fm1q0 n) = showI n∧True∧True))) (True∧∃ (y:Unit),True∧Lib.itoa n = showI n∧True∧True))) (by kernel_rfl) ?_
  delta BI LI LN N0 N1 TL U0 Z0 Z1 fm1q0
  refine ⟨h,fun _ _ => ?_⟩
  have hl := itoa_len h
  rw [side_iff]
  refine ⟨by omega,?_⟩
  simp only [side_iff,ifB_iff,beq_iff_eq,beq_eq_false_iff_ne,Int.toNat_natCast,List.take_length,true_and,and_true,exists_const]
  refine ⟨fun e => ⟨by omega,?_,?_⟩,fun e => ?_⟩
  · rw [List.length_drop]; omega
  · have hn:n < 0 := itoa_sign h (by omega)
    simp only [showI,Lib.itoa,if_pos hn]; rfl
  · have hn:¬ n < 0 := fun hn => by
      have:((Lib.itoa n).getD 0 0).toNat = 45 := by simp [Lib.itoa,if_pos hn]
      have e:¬ (((Lib.itoa n).getD 0 0).toNat:Int) = 45 := by simpa using e
      omega
    simp only [showI,Lib.itoa,if_neg hn]
theorem showI_len {n:Int} (h:inI64 n):1 ≤ (showI n).length∧(showI n).length ≤ 21 := by
  have := itoa_len h
  unfold showI; unfold Lib.itoa at this
  split <;> simp_all
theorem tdiv10 (n:Int):n.tdiv 10 = if n < 0 then -((n.natAbs / 10:Nat):Int) else ((n.natAbs / 10:Nat):Int) := by
  cases n with
  | ofNat k => rw [if_neg (by simp)]; rfl
  | negSucc k => rw [if_pos (Int.negSucc_lt_zero k)]; rfl
theorem tmod10 (n:Int):n.tmod 10 = if n < 0 then -((n.natAbs % 10:Nat):Int) else ((n.natAbs % 10:Nat):Int) := by
  cases n with
  | ofNat k => rw [if_neg (by simp)]; rfl
  | negSucc k => rw [if_pos (Int.negSucc_lt_zero k)]; rfl
theorem dig10:∀ k,k < 10→List.drop k (List.take (k + 1) [48,49,50,51,52,53,54,55,56,57]) = [UInt8.ofNat (48 + k)] := by decide
theorem showI_step {n:Int} (h:10 ≤ n.natAbs):showI n = showI (n.tdiv 10) ++ [UInt8.ofNat (48 + n.natAbs % 10)] := by
  have e:∀ u,10 ≤ u→Lib.decDigits u = Lib.decDigits (u / 10) ++ [UInt8.ofNat (48 + u % 10)] := fun u hu => by
    rw [Lib.decDigits,dif_neg (by omega)]
  unfold showI
  by_cases hn:n < 0
  · have h2:n.tdiv 10 = -((n.natAbs / 10:Nat):Int) := by rw [tdiv10,if_pos hn]
    have h1:n.tdiv 10 < 0 := by omega
    rw [if_pos hn,if_pos h1,e _ h,show (n.tdiv 10).natAbs = n.natAbs / 10 by omega]; rfl
  · have h2:n.tdiv 10 = ((n.natAbs / 10:Nat):Int) := by rw [tdiv10,if_neg hn]
    have h1:¬ n.tdiv 10 < 0 := by omega
    rw [if_neg hn,if_neg h1,e n.toNat (by omega),show (n.tdiv 10).toNat = n.toNat / 10 by omega,show n.toNat = n.natAbs by omega]
def conRs (z:Nat):Con := fun k ds _S => match k with
  | 119 => match ds with
    | [.int .i64 n] => some (pC [.int .i64 n] (.str (showI n)) (inI64 n∧n.natAbs < z))
    | _ => none
  | _k => none
noncomputable def Ers (z:Nat):Senv := EC (conRs z) 41 1 [2,3,4,10,23] (fun id => match id with | 7 => ([0,1,3,4,5,6,7,2,8,9],[2]) | _ => ([],[]))
noncomputable section
def fm1q1 (p0:Int):Bool := bif decide ((-10:Int) < p0) then decide (p0 < Z0) else false
def fm1q2:List UInt8 := [(48:UInt8),(49:UInt8),(50:UInt8),(51:UInt8),(52:UInt8),(53:UInt8),(54:UInt8),(55:UInt8),(56:UInt8),(57:UInt8)]
def fm1q3 (p0:Int):List UInt8 := List.drop (Int.toNat (IntKind.wrap IntKind.i64 (Z0 - p0))) (List.take (Int.toNat (IntKind.wrap IntKind.i64 (Z1 - p0))) fm1q2)
def fm1q4 (p0:Int):List UInt8 := showI p0
def fm1q5 (p0:Int):Bool := bif decide (Z0 ≤ p0) then decide (p0 < (10:Int)) else false
def fm1q6 (p0:Int):Int := IntKind.wrap IntKind.i64 (Z0 - Int.tmod p0 (10:Int))
def fm1q7 (p0:Int):Int := IntKind.wrap IntKind.i64 (fm1q6 p0 + Z1)
def fm1q8 (p0:Int):Prop := inI64 (IntKind.wrap IntKind.i64 (Int.tdiv p0 (10:Int)))∧Int.natAbs (IntKind.wrap IntKind.i64 (Int.tdiv p0 (10:Int))) < Int.natAbs p0
def fm1q9 (p0:Int):List UInt8 := showI (IntKind.wrap IntKind.i64 (Int.tdiv p0 (10:Int)))
def fm1q10 (p0:Int):Nat := LN (fm1q9 p0)
def fm1q11 (p0:Int):List UInt8 := List.drop (Int.toNat (fm1q6 p0)) (List.take (Int.toNat (fm1q7 p0)) fm1q2)
def fm1q12 (p0:Int):Int := IntKind.wrap IntKind.i64 (Int.tmod p0 (10:Int) + Z1)
def fm1q13 (p0:Int):List UInt8 := List.drop (Int.toNat (Int.tmod p0 (10:Int))) (List.take (Int.toNat (fm1q12 p0)) fm1q2)
end
theorem rs_step (n:Int) (h:inI64 n) (hc:ConOk Tryz.prog (conRs n.natAbs)):ACalls Tryz.prog 119 [.int .i64 n] ⟨[],[]⟩ (SpecR (sC [.int .i64 n] (.str (showI n))) ()) := by
  refine con_of (A := sC _ _) (x := ()) (E := Ers n.natAbs) (eOk hc rfl) Tryz.func119 rfl (by kernel_rfl) rfl (by simp [sC,Ers,EC,E0]) ?_
  refine vc_eq (T :=
    ifB (decide ((-10:Int) < n)) (decide (n < Z0) = fm1q1 n∧True) (false = fm1q1 n∧True)∧ifB (fm1q1 n) (side (Z0 ≤ IntKind.wrap IntKind.i64 (Z0 - n)∧IntKind.wrap IntKind.i64 (Z0 - n) ≤ IntKind.wrap IntKind.i64 (Z1 - n)∧IntKind.wrap IntKind.i64 (Z1 - n) ≤ (10:Int)) (side (N1 + LN (fm1q3 n) ≤ (9223372036854775807:Nat)) (True∧∃ (y:Unit),True∧(95:UInt8) :: List.append [] (fm1q3 n) = fm1q4 n∧True∧True))) (ifB (decide (Z0 ≤ n)) (decide (n < (10:Int)) = fm1q5 n∧True) (false = fm1q5 n∧True)∧ifB (fm1q5 n) (side (Z0 ≤ n∧n ≤ IntKind.wrap IntKind.i64 (n + Z1)∧IntKind.wrap IntKind.i64 (n + Z1) ≤ (10:Int)) (True∧∃ (y:Unit),True∧List.drop (Int.toNat n) (List.take (Int.toNat (IntKind.wrap IntKind.i64 (n + Z1))) fm1q2) = fm1q4 n∧True∧True)) (ifB (decide (Int.tmod n (10:Int) < Z0)) (True∧side (Z0 ≤ fm1q6 n∧fm1q6 n ≤ fm1q7 n∧fm1q7 n ≤ (10:Int)) (fm1q8 n∧∀ (y:Unit),True→side (fm1q10 n + LN (fm1q11 n) ≤ (9223372036854775807:Nat)) (True∧∃ (y:Unit),True∧fm1q9 n ++ fm1q11 n = fm1q4 n∧True∧True))) (True∧side (Z0 ≤ Int.tmod n (10:Int)∧Int.tmod n (10:Int) ≤ fm1q12 n∧fm1q12 n ≤ (10:Int)) (fm1q8 n∧∀ (y:Unit),True→side (fm1q10 n + LN (fm1q13 n) ≤ (9223372036854775807:Nat)) (True∧∃ (y:Unit),True∧fm1q9 n ++ fm1q13 n = fm1q4 n∧True∧True)))))) (by kernel_rfl) ?_
  delta LN N1 Z0 Z1 fm1q1 fm1q10 fm1q11 fm1q12 fm1q13 fm1q2 fm1q3 fm1q4 fm1q5 fm1q6 fm1q7 fm1q8 fm1q9
  have h' := h
  unfold inI64 at h'
  have hd := tdiv10 n
  have ho := tmod10 n
  simp only [ifB_iff,Bool.cond_false_right,Bool.and_eq_true,Bool.and_eq_false_iff,decide_eq_true_eq,decide_eq_false_iff_not,true_and,and_true,exists_const,forall_const]
  refine ⟨⟨fun h => by simp [h],fun h => by simp [h]⟩,fun ⟨h1,h2⟩ => ?_,fun h1 => ⟨⟨fun h => by simp [h],fun h => by simp [h]⟩,fun ⟨h2,h3⟩ => ?_,fun h2 => ?_⟩⟩
  · have e1:IntKind.i64.wrap (0 - n) = (n.natAbs:Int) := by rw [wrap_i64' (by omega) (by omega)]; omega
    have e2:IntKind.i64.wrap (1 - n) = ((n.natAbs + 1:Nat):Int) := by rw [wrap_i64' (by omega) (by omega)]; omega
    rw [e1,e2]
    rw [side_iff]
    refine ⟨by omega,?_⟩
    rw [Int.toNat_natCast,Int.toNat_natCast,dig10 _ (by omega)]
    rw [side_iff]
    refine ⟨by simp,?_⟩
    unfold showI
    rw [if_pos h2,Lib.decDigits_one (by omega)]; rfl
  · have e2:IntKind.i64.wrap (n + 1) = n + 1 := wrap_i64' (by omega) (by omega)
    rw [e2]
    rw [side_iff]
    refine ⟨by omega,?_⟩
    rw [show (n + 1).toNat = n.toNat + 1 by omega,dig10 _ (by omega)]
    unfold showI
    rw [if_neg (by omega),Lib.decDigits_one (by omega)]
  · have hb:10 ≤ n.natAbs := by omega
    have e0:IntKind.i64.wrap (n.tdiv 10) = n.tdiv 10 := by
      refine wrap_i64' ?_ ?_ <;> (rw [hd]; split <;> omega)
    have i0:inI64 (n.tdiv 10)∧(n.tdiv 10).natAbs < n.natAbs := by
      unfold inI64; rw [hd]; split <;> omega
    have hl := (showI_len i0.1).2
    refine ⟨fun h3 => ?_,fun h3 => ?_⟩
    · have hn:n < 0 := by
        by_cases hn:n < 0
        · exact hn
        · rw [ho,if_neg hn] at h3; omega
      rw [if_pos hn] at ho
      have e1:IntKind.i64.wrap (0 - n.tmod 10) = ((n.natAbs % 10:Nat):Int) := by rw [wrap_i64' (by omega) (by omega)]; omega
      have e2:IntKind.i64.wrap (((n.natAbs % 10:Nat):Int) + 1) = ((n.natAbs % 10 + 1:Nat):Int) := by rw [wrap_i64' (by omega) (by omega)]; omega
      rw [e1,e2,e0]
      rw [side_iff]
      refine ⟨by omega,i0,?_⟩
      rw [Int.toNat_natCast,Int.toNat_natCast,dig10 _ (by omega)]
      rw [side_iff]
      exact ⟨by simp only [List.length_cons,List.length_nil]; omega,(showI_step hb).symm⟩
    · have e1:n.tmod 10 = ((n.natAbs % 10:Nat):Int) := by
        rw [ho]; split
        · rename_i hn; rw [ho,if_pos hn] at h3; omega
        · rfl
      have e2:IntKind.i64.wrap (((n.natAbs % 10:Nat):Int) + 1) = ((n.natAbs % 10 + 1:Nat):Int) := by rw [wrap_i64' (by omega) (by omega)]; omega
      rw [e1,e2,e0]
      rw [side_iff]
      refine ⟨by omega,i0,?_⟩
      rw [Int.toNat_natCast,Int.toNat_natCast,dig10 _ (by omega)]
      rw [side_iff]
      exact ⟨by simp only [List.length_cons,List.length_nil]; omega,(showI_step hb).symm⟩
theorem rs_ok:∀ (z:Nat) (n:Int),inI64 n→n.natAbs < z→ACalls Tryz.prog 119 [.int .i64 n] ⟨[],[]⟩ (SpecR (sC [.int .i64 n] (.str (showI n))) ())
  | 0,_,_,hz => absurd hz (by omega)
  | z + 1,n,h,hz => rs_step n h (by
    intro k ds S A hk
    unfold conRs at hk
    split at hk
    · split at hk
      · injection hk with hk; subst hk
        exact pC_ok fun ⟨h1,h2⟩ => ⟨weakL_refl _,rs_ok z _ h1 (by omega)⟩
      · cases hk
    · cases hk)
theorem rshow_ok (n:Int) (h:inI64 n):ACalls Tryz.prog 119 [.int .i64 n] ⟨[],[]⟩ (SpecR (sC [.int .i64 n] (.str (showI n))) ()) := rs_ok _ n h (Nat.lt_succ_self _)
def conNu:Con := fun k ds S => match k with
  | 35 => match ds with
    | [.int .i64 n] => some (pC [.int .i64 n] (.str (showI n)) (inI64 n))
    | _ => none
  | 119 => match ds with
    | [.int .i64 n] => some (pC [.int .i64 n] (.str (showI n)) (inI64 n))
    | _ => none
  | k => conIt k ds S
theorem conNu_ok:ConOk Tryz.prog conNu := by
  intro k ds S A h
  unfold conNu at h
  split at h
  · split at h
    · injection h with h; subst h
      exact pC_ok fun h1 => ⟨weakL_refl _,show_ok _ h1⟩
    · cases h
  · split at h
    · injection h with h; subst h
      exact pC_ok fun h1 => ⟨weakL_refl _,rshow_ok _ h1⟩
    · cases h
  · exact conIt_ok _ _ _ _ h
end Go.Proofs.YtflbmbkhjcbhoaaGreatDoor
namespace Go.Proofs.YtflbmbkhjcbhoaaGreatDoor
open Go Go.Ab
set_option maxRecDepth 100000
theorem gTz : Tryz.prog.globalNamed "math/bits.deBruijn64tab" = some 3 := by kernel_rfl
theorem tz_walk (w:World) (hc:w.cell? ⟨3,(IntKind.u64.wrap (bits BinOp.and IntKind.u64 16 (IntKind.u64.wrap (-16)) * 285870213051353865) / 288230376151711744).toNat,none⟩ = some (.int .u8 4)):Calls Tryz.prog 143 #[.int .u64 16] w fun e w' => e = .returned (.int .i64 4)∧Go.RowKit.Below w.heap.size w w' := by
  go_enter Tryz.func143,Tryz.ntmps143
  go_wp2
  all_goals go_ret
  all_goals exact ⟨rfl,Go.RowKit.Below.refl _ _⟩
theorem tz_ok:ACalls Tryz.prog 143 [.int .u64 16] ⟨[],[]⟩ (SpecR (sC [.int .u64 16] (.int .i64 4)) ()) := by
  refine ACalls.of_shelf_g ⟨_,Tryz.func143,by kernel_rfl,by kernel_rfl⟩ fun C args w ha hG hb => ?_
  obtain ⟨u,e,hu⟩ := repL_one' ha
  have e2:args = [u].toArray := by rw [← e]
  subst e2
  simp only [Rep] at hu; subst hu
  have ht : Lib.TabIs Tryz.prog w "math/bits.deBruijn64tab" .u8 (Lib.deBruijn64tab.map Int.ofNat) := var_below hG.2.1 hb
  have hc := ht.cell gTz 15 (by decide)
  exact (tz_walk w hc).mono fun e w' ⟨h1,h2⟩ => ⟨⟨_,h1,by simp [Rep]⟩,h2⟩
def conTz:Con := fun k ds S => match k with
  | 143 => some (pC ds (.int .i64 4) (weakL ds [.int .u64 16]))
  | k => conIt k ds S
theorem conTz_ok:ConOk Tryz.prog conTz := by
  intro k ds S A h
  unfold conTz at h
  split at h
  · injection h with h; subst h
    exact pC_ok fun h1 => ⟨weakL_refl _,sC_weak h1 tz_ok⟩
  · exact conIt_ok _ _ _ _ h
def digU (k:Nat):UInt8 := [48,49,50,51,52,53,54,55,56,57,97,98,99,100,101,102].getD k 0
def hexN (n:Nat):List UInt8 := if n < 16 then [digU n] else [digU (n / 16),digU (n % 16)]
noncomputable def Ehb:Senv := { EC conTz 102 5 [10,11,12,13,14,15,16,17,18,28,30,34,46,68,89,94] (fun _ => ([],[])) with unr := fun b => match b with | 0 => 2 | _ => 0 }
noncomputable section
def fm2q0:List UInt8 := [(48:UInt8),(49:UInt8),(50:UInt8),(51:UInt8),(52:UInt8),(53:UInt8),(54:UInt8),(55:UInt8),(56:UInt8),(57:UInt8),(97:UInt8),(98:UInt8),(99:UInt8),(100:UInt8),(101:UInt8),(102:UInt8),(103:UInt8),(104:UInt8),(105:UInt8),(106:UInt8),(107:UInt8),(108:UInt8),(109:UInt8),(110:UInt8),(111:UInt8),(112:UInt8),(113:UInt8),(114:UInt8),(115:UInt8),(116:UInt8),(117:UInt8),(118:UInt8),(119:UInt8),(120:UInt8),(121:UInt8),(122:UInt8)]
def fm2q1 (p0:Int):Int := (BI fm2q0 (Int.toNat (Int.fdiv p0 (16:Int))))
def fm2q2 (p0:Int):Int := (BI fm2q0 (Int.toNat (andI IntKind.u64 p0 (15:Int))))
def fm2q3 (p0:Int):List D := [ZB (fm2q1 p0),ZB (fm2q2 p0)]
def fm2q4:D := ZB Z0
def fm2q5:Prop := SM N0∧(∀ (i:Nat),i < N0→eqOf (List D) [] [])∧True
def fm2q6 (p0:Int):Int := (BI fm2q0 (Int.toNat p0))
def fm2q7 (p0:Int):List D := [ZB (fm2q6 p0)]
end
theorem hexb_ok (n:Int) (h:0 ≤ n∧n < 128):ACalls Tryz.prog 131 [.sl 1 0 (fun _ => []) .nil,.int .u64 n,.int .i64 16,.bool false,.bool false] ⟨[],[]⟩ (SpecR (sC [.sl 1 0 (fun _ => []) .nil,.int .u64 n,.int .i64 16,.bool false,.bool false] (.tup [.sl 1 0 (fun _ => []) .nil,.str (hexN n.toNat)])) ()) := by
  refine con_of (A := sC _ _) (x := ()) (E := Ehb) (eOk conTz_ok rfl) Tryz.func131 rfl (by kernel_rfl) rfl (by simp [sC,Ehb,EC,E0]) ?_
  refine vc_eq (T :=
    (SM false∧True)∧∀ (x:Nat),True→True∧(SM (16:Int)∧True)∧∀ (y:Unit),True→ifB (decide ((16:Int) ≤ n)) (side (Z0 ≤ andI IntKind.u64 n (15:Int)∧andI IntKind.u64 n (15:Int) < (36:Int)) (SM x∧ifB (decide ((16:Int) ≤ Int.fdiv n (16:Int))) (side (Z0 ≤ andI IntKind.u64 (Int.fdiv n (16:Int)) (15:Int)∧andI IntKind.u64 (Int.fdiv n (16:Int)) (15:Int) < (36:Int)) (SM x∧False)) (side (Z0 ≤ Int.fdiv n (16:Int)∧Int.fdiv n (16:Int) < (36:Int)) (SM x∧True∧SM x∧chk (List.all (fm2q3 n) byteB && decide (LN (List.take N2 (List.drop (63:Nat) (fm2q4 :: fm2q4 :: fm2q4 :: fm2q4 :: fm2q4 :: fm2q4 :: fm2q4 :: fm2q4 :: fm2q4 :: fm2q4 :: fm2q4 :: fm2q4 :: fm2q4 :: fm2q4 :: fm2q4 :: fm2q4 :: fm2q4 :: fm2q4 :: fm2q4 :: fm2q4 :: fm2q4 :: fm2q4 :: fm2q4 :: fm2q4 :: fm2q4 :: fm2q4 :: fm2q4 :: fm2q4 :: fm2q4 :: fm2q4 :: fm2q4 :: fm2q4 :: fm2q4 :: fm2q4 :: fm2q4 :: fm2q4 :: fm2q4 :: fm2q4 :: fm2q4 :: fm2q4 :: fm2q4 :: fm2q4 :: fm2q4 :: fm2q4 :: fm2q4 :: fm2q4 :: fm2q4 :: fm2q4 :: fm2q4 :: fm2q4 :: fm2q4 :: fm2q4 :: fm2q4 :: fm2q4 :: fm2q4 :: fm2q4 :: fm2q4 :: fm2q4 :: fm2q4 :: fm2q4 :: fm2q4 :: fm2q4 :: fm2q4 :: fm2q3 n))) = N2)) (True∧∃ (y:Unit),True∧(fm2q5∧[UInt8.ofNat (Int.toNat (fm2q1 n)),UInt8.ofNat (Int.toNat (fm2q2 n))] = hexN (Int.toNat n)∧True)∧True∧True))))) (side (Z0 ≤ n∧n < (36:Int)) (SM x∧True∧SM x∧chk (List.all (fm2q7 n) byteB && decide (LN (List.take N1 (List.drop (64:Nat) (fm2q4 :: fm2q4 :: fm2q4 :: fm2q4 :: fm2q4 :: fm2q4 :: fm2q4 :: fm2q4 :: fm2q4 :: fm2q4 :: fm2q4 :: fm2q4 :: fm2q4 :: fm2q4 :: fm2q4 :: fm2q4 :: fm2q4 :: fm2q4 :: fm2q4 :: fm2q4 :: fm2q4 :: fm2q4 :: fm2q4 :: fm2q4 :: fm2q4 :: fm2q4 :: fm2q4 :: fm2q4 :: fm2q4 :: fm2q4 :: fm2q4 :: fm2q4 :: fm2q4 :: fm2q4 :: fm2q4 :: fm2q4 :: fm2q4 :: fm2q4 :: fm2q4 :: fm2q4 :: fm2q4 :: fm2q4 :: fm2q4 :: fm2q4 :: fm2q4 :: fm2q4 :: fm2q4 :: fm2q4 :: fm2q4 :: fm2q4 :: fm2q4 :: fm2q4 :: fm2q4 :: fm2q4 :: fm2q4 :: fm2q4 :: fm2q4 :: fm2q4 :: fm2q4 :: fm2q4 :: fm2q4 :: fm2q4 :: fm2q4 :: fm2q4 :: fm2q7 n))) = N1)) (True∧∃ (y:Unit),True∧(fm2q5∧[UInt8.ofNat (Int.toNat (fm2q6 n))] = hexN (Int.toNat n)∧True)∧True∧True)))) (by kernel_rfl) ?_
  delta BI LN N0 N1 N2 SM U0 Z0 ZB fm2q0 fm2q1 fm2q2 fm2q3 fm2q4 fm2q5 fm2q6 fm2q7
  obtain ⟨m,rfl⟩:∃ m:Nat,n = m := ⟨n.toNat,by omega⟩
  have hm:m < 128 := by omega
  refine ⟨⟨rfl,trivial⟩,fun x _ => ⟨trivial,⟨rfl,trivial⟩,fun _ _ => ?_⟩⟩
  simp only [ifB_iff,side_iff,chk_iff,true_and,and_true,exists_const,decide_eq_true_eq,decide_eq_false_iff_not,Bool.and_eq_true,Int.toNat_natCast,and_false,implies_true]
  have ha:andI .u64 (m:Int) 15 = ((m % 16:Nat):Int) := by
    have h1:andI .u64 (m:Int) ((15:Nat):Int) = ((m &&& 15:Nat):Int) := andI_nat rfl (by simp only [IntKind.bits]; omega) (by simp only [IntKind.bits]; omega)
    rw [show ((15:Nat):Int) = 15 from rfl] at h1
    rw [h1,show (15:Nat) = 2 ^ 4 - 1 from rfl,Nat.and_two_pow_sub_one_eq_mod]
  have hf:(m:Int).fdiv 16 = ((m / 16:Nat):Int) := fdiv_nat m 16
  have hd:∀ k,k < 16→([48,49,50,51,52,53,54,55,56,57,97,98,99,100,101,102,103,104,105,106,107,108,109,110,111,112,113,114,115,116,117,118,119,120,121,122]:List UInt8).getD k 0 = digU k := by decide
  have hb:∀ b:UInt8,byteB (.int .u8 (b.toNat:Int)) = true := fun b => by
    have := b.toNat_lt
    simp only [byteB,Bool.and_eq_true,decide_eq_true_eq]; omega
  simp only [ha,hf,Int.toNat_natCast]
  refine ⟨fun h16 => ⟨by omega,by omega,fun _ => ⟨by omega,⟨?_,rfl⟩,?_⟩⟩,fun h16 => ⟨by omega,⟨?_,rfl⟩,?_⟩⟩
  · rw [hd _ (by omega),hd _ (by omega)]; simp only [List.all_cons,List.all_nil,hb]; rfl
  · rw [hd _ (by omega),hd _ (by omega)]; simp only [UInt8.ofNat_toNat]; unfold hexN; rw [if_neg (by omega)]
  · rw [hd _ (by omega)]; simp only [List.all_cons,List.all_nil,hb]; rfl
  · rw [hd _ (by omega)]; simp only [UInt8.ofNat_toNat]; unfold hexN; rw [if_pos (by omega)]
def conHb:Con := fun k ds S => match k with
  | 131 => match ds with
    | [_,.int .u64 n,_,_,_] => some (pC ds (.tup [.sl 1 0 (fun _ => []) .nil,.str (hexN n.toNat)]) (weakL ds [.sl 1 0 (fun _ => []) .nil,.int .u64 n,.int .i64 16,.bool false,.bool false]∧0 ≤ n∧n < 128))
    | _ => none
  | k => conNu k ds S
theorem conHb_ok:ConOk Tryz.prog conHb := by
  intro k ds S A h
  unfold conHb at h
  split at h
  · split at h
    · injection h with h; subst h
      exact pC_ok fun h1 => ⟨weakL_refl _,sC_weak h1.1 (hexb_ok _ h1.2)⟩
    · cases h
  · exact conNu_ok _ _ _ _ h
noncomputable def Ehx:Senv := EC conHb 8 2 [4] (fun _ => ([],[]))
theorem hex_ok (n:Int) (h:0 ≤ n∧n < 128):ACalls Tryz.prog 127 [.int .i64 n,.int .i64 16] ⟨[],[]⟩ (SpecR (sC [.int .i64 n,.int .i64 16] (.str (hexN n.toNat))) ()) := by
  refine con_of (A := sC _ _) (x := ()) (E := Ehx) (eOk conHb_ok rfl) Tryz.func127 rfl (by kernel_rfl) rfl (by simp [sC,Ehx,EC,E0]) ?_
  refine vc_eq (T :=
    (((SM N0∧(∀ (i:Nat),i < N0→eqOf (List D) [] [])∧True)∧SM (IntKind.wrap IntKind.u64 n)∧SM (16:Int)∧decide (n < Z0) = false∧SM false∧True)∧Z0 ≤ IntKind.wrap IntKind.u64 n∧IntKind.wrap IntKind.u64 n < (128:Int))∧∀ (y:Unit),True→True∧True∧∃ (y:Unit),True∧hexN (Int.toNat (IntKind.wrap IntKind.u64 n)) = hexN (Int.toNat n)∧True∧True) (by kernel_rfl) ?_
  delta N0 SM Z0
  have e:IntKind.u64.wrap n = n := by rw [IntKind.wrap_u64]; omega
  have e1:decide (n < 0) = false := by simp; omega
  simp only [e,e1]
  simpa using h
end Go.Proofs.YtflbmbkhjcbhoaaGreatDoor
namespace Go.Proofs.YtflbmbkhjcbhoaaGreatDoor
open Go Go.Ab Go.RowKit
set_option maxRecDepth 100000
theorem own:ownKnob Tryz.prog.godebug = none := by kernel_rfl
theorem laid:laidOutB Tryz.prog = true := by kernel_rfl
theorem gN0 : Tryz.prog.globalNamed "internal/strconv.uint64pow10" = some 0 := by kernel_rfl
theorem tN0:(Tryz.prog.globals[0]?).map (·.type) = some 165 := by kernel_rfl
theorem gN1 : Tryz.prog.globalNamed "math/bits.deBruijn64tab" = some 3 := by kernel_rfl
theorem tN1:(Tryz.prog.globals[3]?).map (·.type) = some 171 := by kernel_rfl
theorem gN2 : Tryz.prog.globalNamed "math/bits.deBruijn32tab" = some 2 := by kernel_rfl
theorem tN2:(Tryz.prog.globals[2]?).map (·.type) = some 170 := by kernel_rfl
def laidL : List (String × DataW Unit) := [("math/bits.deBruijn32tab", Rows.laid_math_bits_deBruijn32tab), ("math/bits.deBruijn64tab", Rows.laid_math_bits_deBruijn64tab), ("internal/strconv.uint64pow10", Rows.laid_internal_strconv_uint64pow10)]
theorem g0_laid {W:World} (h:laidMetH Tryz.prog laidL W):G0 W := by
  have h0:laidMet Tryz.prog laidL W := h
  have h1 := h0.tail
  have h2 := h1.tail
  exact ⟨Lib.tabIs_of_head (rest := []) gN0 tN0 Tryz.underlying165 Tryz.underlying152 (by kernel_rfl) (by kernel_rfl) h2,
    Lib.tabIs_of_head gN1 tN1 Tryz.underlying171 Tryz.underlying5 (by kernel_rfl) (by kernel_rfl) h1,
    Lib.tabIs_of_head gN2 tN2 Tryz.underlying170 Tryz.underlying5 (by kernel_rfl) (by kernel_rfl) h0⟩
noncomputable def layT (l:Array Value):Obj→Obj
  | .cells _ t frozen => .cells l t frozen
  | o => o
noncomputable def laidWorld (os:Os):World :=
  { World.holding Tryz.prog os ⟨#[],#[],[]⟩ with heap := (((World.holding Tryz.prog os ⟨#[],#[],[]⟩).heap.modify 0 (layT (Lib.pow10Tab.map fun z => Value.int .u64 z).toArray)).modify 3 (layT (Lib.deBruijn64tab.map fun z => Value.int .u8 (Int.ofNat z)).toArray)).modify 2 (layT (Lib.deBruijn32tab.map fun z => Value.int .u8 (Int.ofNat z)).toArray) }
end Go.Proofs.YtflbmbkhjcbhoaaGreatDoor
namespace Go.Proofs.YtflbmbkhjcbhoaaGreatDoor
open Go Go.Ab
def offD (e:Option Eff) (y:Eff):D := .agg [.str y.1,.str y.2,.bool e.isSome]
def offQ (e:Option Eff) (y:Eff):Prop := ∀ e',e = some e'→y = e'
theorem off_leaf {e:Option Eff} {p q:List UInt8} {b:Bool} (h:(b = false∧e = none)∨(b = true∧e = some (p,q))):∃ y:Eff,offQ e y∧(p = y.1∧q = y.2∧b = e.isSome) := by
  rcases h with ⟨rfl,rfl⟩ | ⟨rfl,rfl⟩
  · exact ⟨(p,q),by simp [offQ],rfl,rfl,rfl⟩
  · exact ⟨(p,q),by simp [offQ],rfl,rfl,rfl⟩
def plainC (main:Bool) (x:I4):Option Eff := if x.b = 0∧x.c = 0 then plainS main x.a else none
noncomputable def Eplain:Senv := EC conR2 73 3 [4,5,15,16,18,20,22,25,27,29,31,33,35,37,39,67] (fun _ => ([],[]))
noncomputable section
def bc2q0 (p0:I4):Bool := bif I4.b p0 == Z0 then I4.c p0 == Z0 else false
def bc2q1 (p0:I4):Int := I4.a p0
def bc2q2 (p0:Nat):Prop := SM p0∧True
def bc2q3 (p0:Bool) (p1:I4) (p2:Eff):Prop := offQ (plainC p0 p1) p2
def bc2q4 (p0:List UInt8):Prop := eqOf (List UInt8) [] p0
def bc2q5 (p0:Bool) (p1:I4):Bool := Option.isSome (plainC p0 p1)
def bc2q6 (p0:Bool) (p1:I4):Prop := (!p0) = bc2q5 p0 p1∧True
def bc2q7:Prop := True∧True
def bc2q8 (p0:Bool) (p1:I4):Prop := false = bc2q5 p0 p1∧True
def bc2q9 (p0:I4) (p1:Nat) (p2:Bool):Prop := ifB (bc2q0 p0) (SM p1∧bc2q2 p1∧∃ (y:Eff),bc2q3 p2 p0 y∧(bc2q4 y.1∧[(102:UInt8)] = y.2∧bc2q6 p2 p0)∧bc2q7) (SM p1∧bc2q2 p1∧∃ (y:Eff),bc2q3 p2 p0 y∧(bc2q4 y.1∧[(102:UInt8)] = y.2∧bc2q8 p2 p0)∧bc2q7)
def bc2q10 (p0:I4) (p1:Nat) (p2:Bool):Prop := ifB (bc2q0 p0) (SM p1∧bc2q2 p1∧∃ (y:Eff),bc2q3 p2 p0 y∧(bc2q4 y.1∧[(97:UInt8)] = y.2∧bc2q6 p2 p0)∧bc2q7) (SM p1∧bc2q2 p1∧∃ (y:Eff),bc2q3 p2 p0 y∧(bc2q4 y.1∧[(97:UInt8)] = y.2∧bc2q8 p2 p0)∧bc2q7)
def bc2q11 (p0:I4) (p1:Bool):Prop := bc2q0 p0 = bc2q5 p1 p0∧True
def bc2q12 (p0:List UInt8) (p1:I4) (p2:Bool):Prop := [(97:UInt8)] = p0∧bc2q11 p1 p2
def bc2q13 (p0:List UInt8) (p1:I4) (p2:Bool):Prop := [(102:UInt8)] = p0∧bc2q11 p1 p2
def bc2q14 (p0:List UInt8) (p1:I4) (p2:Bool):Prop := bc2q4 p0∧bc2q11 p1 p2
def bc2q15 (p0:Nat) (p1:Bool) (p2:I4):Prop := SM p0∧bc2q2 p0∧∃ (y:Eff),bc2q3 p1 p2 y∧([(97:UInt8)] = y.1∧bc2q14 y.2 p2 p1)∧bc2q7
def bc2q16 (p0:I4) (p1:Nat) (p2:Bool):Prop := ifB (bc2q1 p0 == (2:Int)) (SM p1∧bc2q2 p1∧∃ (y:Eff),bc2q3 p2 p0 y∧(bc2q4 y.1∧bc2q12 y.2 p0 p2)∧bc2q7) (ifB (bc2q1 p0 == (19:Int)) (SM p1∧bc2q2 p1∧∃ (y:Eff),bc2q3 p2 p0 y∧([(97:UInt8)] = y.1∧bc2q13 y.2 p0 p2)∧bc2q7) (ifB (bc2q1 p0 == (20:Int)) (SM p1∧bc2q2 p1∧∃ (y:Eff),bc2q3 p2 p0 y∧([(102:UInt8),(102:UInt8)] = y.1∧bc2q13 y.2 p0 p2)∧bc2q7) (ifB (bc2q1 p0 == (21:Int)) (SM p1∧bc2q2 p1∧∃ (y:Eff),bc2q3 p2 p0 y∧([(102:UInt8),(102:UInt8),(102:UInt8)] = y.1∧bc2q13 y.2 p0 p2)∧bc2q7) (ifB (bc2q1 p0 == (22:Int)) (SM p1∧bc2q2 p1∧∃ (y:Eff),bc2q3 p2 p0 y∧([(102:UInt8),(97:UInt8)] = y.1∧bc2q12 y.2 p0 p2)∧bc2q7) (ifB (bc2q1 p0 == (23:Int)) (SM p1∧bc2q2 p1∧∃ (y:Eff),bc2q3 p2 p0 y∧([(102:UInt8),(97:UInt8),(97:UInt8)] = y.1∧bc2q12 y.2 p0 p2)∧bc2q7) (ifB (bc2q1 p0 == (26:Int)) (bc2q15 p1 p2 p0) (ifB (bc2q1 p0 == (25:Int)) (ifB p2 (SM p1∧bc2q2 p1∧∃ (y:Eff),bc2q3 p2 p0 y∧(bc2q4 y.1∧bc2q14 y.2 p0 p2)∧bc2q7) (bc2q15 p1 p2 p0)) (SM p1∧bc2q2 p1∧∃ (y:Eff),bc2q3 p2 p0 y∧(bc2q4 y.1∧bc2q4 y.2∧bc2q8 p2 p0)∧bc2q7))))))))
end
theorem plain_ok (x:I4) (main:Bool):ACalls Tryz.prog 88 [.agg x.row,.bool main] ⟨[],[]⟩ (SpecR (pQ [.agg x.row,.bool main] (offD (plainC main x)) (offQ (plainC main x)) True) ()) := by
  refine con_of (A := pQ _ _ _ _) (x := ()) (E := Eplain) (eOk conR2_ok rfl) Tryz.func88 rfl (by kernel_rfl) rfl (by simp [pQ,Eplain,EC,E0]) ?_
  refine vc_eq (T :=
    ∀ (x_1:Nat),True→∀ (x_2:Nat),x_1 ≠ x_2∧True→(SM x_1∧ifB (I4.b x == Z0) (SM x_1∧(I4.c x == Z0) = bc2q0 x∧True) (false = bc2q0 x∧True))∧SM x_1∧ifB (bc2q1 x == (13:Int)) (bc2q9 x x_2 main) (ifB (bc2q1 x == (14:Int)) (bc2q9 x x_2 main) (ifB (bc2q1 x == (15:Int)) (bc2q9 x x_2 main) (ifB (bc2q1 x == (3:Int)) (ifB (bc2q1 x == (3:Int)) (bc2q10 x x_2 main) (bc2q16 x x_2 main)) (ifB (bc2q1 x == (4:Int)) (bc2q10 x x_2 main) (bc2q16 x x_2 main)))))) (by kernel_rfl) ?_
  delta SM Z0 bc2q0 bc2q1 bc2q10 bc2q11 bc2q12 bc2q13 bc2q14 bc2q15 bc2q16 bc2q2 bc2q3 bc2q4 bc2q5 bc2q6 bc2q7 bc2q8 bc2q9
  simp only [ifB_iff,true_and,and_true,beq_iff_eq,Bool.cond_false_right,Bool.and_eq_true,Bool.and_eq_false_iff,beq_eq_false_iff_ne,ne_eq]
  repeat' (first
    | refine off_leaf ?_
    | (refine And.intro ?_ ?_)
    | intro _)
  all_goals (first | (simp_all [plainC,plainS,gu]; done) | (cases main <;> simp_all [plainC,plainS,gu]; done) | grind [plainC,plainS,gu] | skip)
def derivedC (x:I4):Option Eff :=
  if x.a = 16 then gu (between x.b 1 5 && decide (x.c = 0)) ([102],[102])
  else if x.a = 18 then gu (between x.b 2 3 && decide (x.c = 0)) (Lib.repeatL [102] x.b.toNat,[102])
  else if x.b = 6∨x.b = 10∨x.b = 11 then gu (decide (x.c = 1)) ([102,102],[102])
  else gu (between x.b 7 9 && decide (x.c = 0)) ([102,97],[102])
noncomputable def Ederived:Senv := EC conR2 55 4 [7,8,22,37,38,46] (fun id => match id with | 6 => ([0,1,2,4,5,3,6,7,8,9,10,11,12,13],[3,6,13]) | _ => ([],[]))
noncomputable section
def bc2q17 (p0:I4):Int := I4.b p0
def bc2q18 (p0:I4) (p1:Eff):Prop := offQ (derivedC p0) p1
def bc2q19 (p0:I4):Bool := Option.isSome (derivedC p0)
def bc2q20 (p0:List UInt8) (p1:I4):Prop := [(102:UInt8)] = p0∧(I4.c p1 == Z0) = bc2q19 p1∧True
def bc2q21 (p0:I4):Prop := false = bc2q19 p0∧True
def bc2q22 (p0:List UInt8) (p1:I4):Prop := [(102:UInt8)] = p0∧bc2q21 p1
def bc2q23 (p0:Nat) (p1:I4):Prop := SM p0∧(SM p0∧True)∧∃ (y:Eff),bc2q18 p1 y∧([(102:UInt8)] = y.1∧bc2q22 y.2 p1)∧True∧True
def bc2q24 (p0:I4):Int := if (4:Int) < bc2q17 p0 then (4:Int) else bc2q17 p0
def bc2q25 (p0:I4):Int := if bc2q24 p0 < Z0 then Z0 else bc2q24 p0
def bc2q26 (p0:I4):Nat := Int.toNat (bc2q25 p0)
def bc2q27 (p0:I4):Bool := decide ((2:Int) ≤ bc2q17 p0)
def bc2q28 (p0:I4):Bool := decide (bc2q17 p0 ≤ (3:Int))
def bc2q29 (p0:I4):Bool := bif bc2q27 p0 then bc2q28 p0 else false
def bc2q30 (p0:I4) (p1:List UInt8):Prop := Lib.repeatL [(102:UInt8)] (bc2q26 p0) = p1
def bc2q31 (p0 p1:Nat) (p2:I4):Prop := SM p0∧SM p1∧(SM p1∧True)∧∃ (y:Eff),bc2q18 p2 y∧([(102:UInt8),(102:UInt8)] = y.1∧[(102:UInt8)] = y.2∧(I4.c p2 == Z1) = bc2q19 p2∧True)∧True∧True
def bc2q32 (p0 p1:Nat) (p2:I4):Prop := SM p0∧SM p1∧(SM p1∧True)∧∃ (y:Eff),bc2q18 p2 y∧([(102:UInt8),(97:UInt8)] = y.1∧bc2q20 y.2 p2)∧True∧True
def bc2q33 (p0:Nat) (p1:I4):Prop := SM p0∧(SM p0∧True)∧∃ (y:Eff),bc2q18 p1 y∧(eqOf (List UInt8) [] y.1∧eqOf (List UInt8) [] y.2∧bc2q21 p1)∧True∧True
def bc2q34 (p0:I4) (p1 p2:Nat):Prop := ifB (bc2q17 p0 == (7:Int)) (ifB (bc2q17 p0 == (7:Int)) (bc2q32 p1 p2 p0) (bc2q33 p2 p0)) (ifB (bc2q17 p0 == (8:Int)) (ifB (bc2q17 p0 == (8:Int)) (bc2q32 p1 p2 p0) (bc2q33 p2 p0)) (ifB (bc2q17 p0 == (9:Int)) (bc2q32 p1 p2 p0) (bc2q33 p2 p0)))
end
theorem derived_ok (x:I4) (hb:inI64 x.b):ACalls Tryz.prog 86 [.agg x.row] ⟨[],[]⟩ (SpecR (pQ [.agg x.row] (offD (derivedC x)) (offQ (derivedC x)) True) ()) := by
  have hw:IntKind.i64.wrap x.b = x.b := wrap_i64' hb.1 hb.2
  refine con_of (A := pQ _ _ _ _) (x := ()) (E := Ederived) (eOk conR2_ok rfl) Tryz.func86 rfl (by kernel_rfl) rfl (by simp [pQ,Ederived,EC,E0]) ?_
  refine vc_eq (T :=
    ∀ (x_1:Nat),True→∀ (x_2:Nat),x_1 ≠ x_2∧True→SM x_1∧SM x_1∧ifB (I4.a x == (16:Int)) (ifB (decide (Z1 ≤ bc2q17 x)) (ifB (decide (bc2q17 x ≤ (5:Int))) (SM x_1∧SM x_2∧(SM x_2∧True)∧∃ (y:Eff),bc2q18 x y∧([(102:UInt8)] = y.1∧bc2q20 y.2 x)∧True∧True) (bc2q23 x_2 x)) (bc2q23 x_2 x)) (ifB (I4.a x == (18:Int)) (SM x_1∧SM x_1∧(Z0 ≤ bc2q25 x∧bc2q25 x ≤ (9223372036854775807:Int)∧N1 * bc2q26 x ≤ (140737488355328:Nat))∧∀ (y:Unit),True→True∧(SM x_1∧SM (ZI (bc2q17 x)))∧ifB (bc2q27 x) (bc2q28 x = bc2q29 x∧True) (false = bc2q29 x∧True)∧True∧ifB (bc2q29 x) (SM x_1∧SM x_2∧(SM x_2∧True)∧∃ (y:Eff),bc2q18 x y∧(bc2q30 x y.1∧bc2q20 y.2 x)∧True∧True) (SM x_2∧(SM x_2∧True)∧∃ (y:Eff),bc2q18 x y∧(bc2q30 x y.1∧bc2q22 y.2 x)∧True∧True)) (ifB (bc2q17 x == (6:Int)) (ifB (bc2q17 x == (6:Int)) (bc2q31 x_1 x_2 x) (bc2q34 x x_1 x_2)) (ifB (bc2q17 x == (10:Int)) (ifB (bc2q17 x == (10:Int)) (bc2q31 x_1 x_2 x) (bc2q34 x x_1 x_2)) (ifB (bc2q17 x == (11:Int)) (bc2q31 x_1 x_2 x) (bc2q34 x x_1 x_2)))))) (by kernel_rfl) ?_
  delta N1 SM Z0 Z1 ZI bc2q17 bc2q18 bc2q19 bc2q20 bc2q21 bc2q22 bc2q23 bc2q24 bc2q25 bc2q26 bc2q27 bc2q28 bc2q29 bc2q30 bc2q31 bc2q32 bc2q33 bc2q34
  simp only [ifB_iff,decide_eq_true_eq,decide_eq_false_iff_not,true_and,and_true,beq_iff_eq,Bool.cond_false_right,Bool.and_eq_true,Bool.and_eq_false_iff,beq_eq_false_iff_ne,ne_eq]
  repeat' (first
    | refine off_leaf ?_
    | (refine And.intro ?_ ?_)
    | intro _)
  all_goals (first | (simp_all [derivedC,between,gu]; done) | grind [derivedC,between,gu] | skip)
  all_goals trace_state
end Go.Proofs.YtflbmbkhjcbhoaaGreatDoor
namespace Go.Proofs.YtflbmbkhjcbhoaaGreatDoor
open Go Go.Ab
def conE:Con := fun k ds S => match k with
  | 88 => match ds with
    | [.agg [.int .i64 a,.int .i64 b,.int .i64 c,.int .i64 d],.bool m] => some (pQ [.agg (I4.row ⟨a,b,c,d⟩),.bool m] (offD (plainC m ⟨a,b,c,d⟩)) (offQ (plainC m ⟨a,b,c,d⟩)) True)
    | _ => none
  | 86 => match ds with
    | [.agg [.int .i64 a,.int .i64 b,.int .i64 c,.int .i64 d]] => some (pQ [.agg (I4.row ⟨a,b,c,d⟩)] (offD (derivedC ⟨a,b,c,d⟩)) (offQ (derivedC ⟨a,b,c,d⟩)) (inI64 b))
    | _ => none
  | k => conR2 k ds S
theorem conE_ok:ConOk Tryz.prog conE := by
  intro k ds S A h
  unfold conE at h
  split at h
  · split at h
    · injection h with h; subst h
      exact pQ_ok fun _ => ⟨weakL_refl _,plain_ok ⟨_,_,_,_⟩ _⟩
    · cases h
  · split at h
    · injection h with h; subst h
      exact pQ_ok fun hb => ⟨weakL_refl _,(derived_ok ⟨_,_,_,_⟩ hb).mono fun _ _ h => h⟩
    · cases h
  · exact conR2_ok _ _ _ _ h
theorem off_pass {e e':Option Eff} {y:Eff} (he:e = e') (hy:offQ e' y):(e'.isSome = false∧e = none)∨(e'.isSome = true∧e = some (y.1,y.2)) := by
  subst he
  cases e with
  | none => exact .inl ⟨rfl,rfl⟩
  | some e => exact .inr ⟨rfl,by rw [hy e rfl]⟩
theorem eff_derived (c:CodD) (f:Nat) (x:I4) (h:x.a = 16∨x.a = 17∨x.a = 18):effC c f x = derivedC x := by
  unfold effC effS derivedC
  rcases h with h | h | h <;> simp [h]
theorem eff_plain (c:CodD) (f:Nat) (x:I4) (h:∀ k ∈ ([1,5,12,6,7,8,9,10,11,16,17,18,24,27]:List Int),x.a ≠ k):effC c f x = plainC (decide (f = 0)) x := by
  simp only [List.mem_cons,List.not_mem_nil,or_false,forall_eq_or_imp,forall_eq,ne_eq] at h
  obtain ⟨a1,a2,a3,a4,a5,a6,a7,a8,a9,b1,b2,b3,b4,b5⟩ := h
  unfold effC effS plainC
  simp only [a1,a2,a3,a4,a5,a6,a7,a8,a9,b1,b2,b3,b4,b5,if_false]
noncomputable def Eof:Senv := EC conE 151 4 [5,6,7,8,10,11,22,33,40,45,55,68,78,84,90,96,106,120,128] (fun id => match id with | 16 => ([0,1,2,3,4,5,6,7,8,9,10,11],[9,11]) | 18 => ([0,1,2,4,5,3,6,7,8],[3,6,8]) | 28 => ([0,1,2,3,4,5,6,7,8,9,10,11,12],[10,12]) | _ => ([],[]))
theorem getD_ok {α:Type} [Inhabited α] {P:α→Prop} {l:List α} (h:∀ x ∈ l,P x) {i:Nat} (hi:i < l.length):P (l.getD i default) := by
  rw [List.getD_eq_getElem?_getD,List.getElem?_eq_getElem hi]; exact h _ (List.getElem_mem hi)
noncomputable section
def bc3q0 (p0:I4):Int := I4.a p0
def bc3q1 (p0:I4):Int := I4.b p0
def bc3q2 (p0:I4):Bool := decide (Z0 ≤ bc3q1 p0)
def bc3q3 (p0:Nat):Prop := SM p0∧True
def bc3q4 (p0:CodD) (p1:Nat) (p2:I4) (p3:Eff):Prop := offQ (effC p0 p1 p2) p3
def bc3q5 (p0:List UInt8):Prop := eqOf (List UInt8) [] p0
def bc3q6 (p0:I4):Int := I4.c p0
def bc3q7 (p0:CodD) (p1:Nat) (p2:I4):Bool := Option.isSome (effC p0 p1 p2)
def bc3q8 (p0:I4) (p1:CodD) (p2:Nat):Prop := decide (Z0 ≤ bc3q6 p0) = bc3q7 p1 p2 p0∧True
def bc3q9:Prop := True∧True
def bc3q10 (p0:CodD) (p1:Nat) (p2:I4):Prop := false = bc3q7 p0 p1 p2∧True
def bc3q11 (p0:List UInt8) (p1:CodD) (p2:Nat) (p3:I4):Prop := [(97:UInt8)] = p0∧bc3q10 p1 p2 p3
def bc3q12 (p0:Nat) (p1:CodD) (p2:Nat) (p3:I4):Prop := SM p0∧bc3q3 p0∧∃ (y:Eff),bc3q4 p1 p2 p3 y∧(bc3q5 y.1∧bc3q11 y.2 p1 p2 p3)∧bc3q9
def bc3q13 (p0:Nat) (p1:CodD) (p2:Nat) (p3:I4):Prop := SM p0∧bc3q3 p0∧∃ (y:Eff),bc3q4 p1 p2 p3 y∧(bc3q5 y.1∧[(102:UInt8)] = y.2∧bc3q10 p1 p2 p3)∧bc3q9
def bc3q14 (p0:I4):I4 := I4.mk (bc3q0 p0) (bc3q1 p0) (bc3q6 p0) (I4.d p0)
def bc3q15 (p0:I4):Option Eff := derivedC (bc3q14 p0)
def bc3q16 (p0:Nat) (p1:I4) (p2:Nat) (p3:CodD) (p4:Nat):Prop := SM p0∧inI64 (bc3q1 p1)∧∀ (y:Eff),offQ (bc3q15 p1) y→SM p2∧bc3q3 p2∧∃ (y_1:Eff),bc3q4 p3 p4 p1 y_1∧(y.1 = y_1.1∧y.2 = y_1.2∧Option.isSome (bc3q15 p1) = bc3q7 p3 p4 p1∧True)∧bc3q9
def bc3q17 (p0:I4) (p1:CodD):Bool := decide (bc3q1 p0 ≤ IntKind.wrap IntKind.i64 ((LI (CodD.consts p1)) - Z1))
def bc3q18 (p0:I4) (p1:CodD):Bool := bif bc3q2 p0 then bc3q17 p0 p1 else false
def bc3q19 (p0:I4) (p1:CodD) (p2:Nat):Prop := (bc3q6 p0 == Z0) = bc3q7 p1 p2 p0∧True
def bc3q20 (p0:List UInt8) (p1:I4) (p2:CodD) (p3:Nat):Prop := [(97:UInt8)] = p0∧bc3q19 p1 p2 p3
def bc3q21 (p0:CodD):Int := (LI (CodD.funs p0))
def bc3q22 (p0:CodD) (p1:Nat):FnD := GF p0 (Int.toNat (↑p1:Int))
def bc3q23 (p0:I4) (p1:CodD) (p2:Nat):Bool := decide (bc3q1 p0 ≤ IntKind.wrap IntKind.i64 (FnD.slots (bc3q22 p1 p2) - Z1))
def bc3q24 (p0:I4) (p1:CodD) (p2:Nat):Bool := bif bc3q2 p0 then bc3q23 p0 p1 p2 else false
def bc3q25 (p0:List UInt8) (p1:I4) (p2:CodD) (p3:Nat):Prop := bc3q5 p0∧bc3q19 p1 p2 p3
def bc3q26 (p0:List UInt8) (p1:CodD) (p2:Nat) (p3:I4):Prop := bc3q5 p0∧bc3q10 p1 p2 p3
def bc3q27 (p0:I4):Int := if (1000:Int) < bc3q1 p0 then (1000:Int) else bc3q1 p0
def bc3q28 (p0:I4):Int := if bc3q27 p0 < Z0 then Z0 else bc3q27 p0
def bc3q29 (p0:I4):Nat := Int.toNat (bc3q28 p0)
def bc3q30 (p0:I4):Bool := decide ((2:Int) ≤ bc3q1 p0)
def bc3q31 (p0:I4):Bool := decide (bc3q1 p0 ≤ (1000:Int))
def bc3q32 (p0:I4):Bool := bif bc3q30 p0 then bc3q31 p0 else false
def bc3q33 (p0:I4) (p1:List UInt8):Prop := Lib.repeatL [(97:UInt8)] (bc3q29 p0) = p1
def bc3q34 (p0:I4):Bool := decide (Z1 ≤ bc3q1 p0)
def bc3q35 (p0:I4):Bool := decide (bc3q1 p0 ≤ (55:Int))
def bc3q36 (p0:I4):Bool := bif bc3q34 p0 then bc3q35 p0 else false
def bc3q37 (p0:I4):Prop := ifB (bc3q34 p0) (bc3q35 p0 = bc3q36 p0∧True) (false = bc3q36 p0∧True)
def bc3q38 (p0 p1 p2:Nat) (p3:CodD) (p4:Nat) (p5:I4):Prop := SM p0∧SM p1∧SM p1∧SM p2∧bc3q3 p2∧∃ (y:Eff),bc3q4 p3 p4 p5 y∧(bc3q5 y.1∧[(102:UInt8)] = y.2∧bc3q19 p5 p3 p4)∧bc3q9
def bc3q39 (p0 p1:Nat) (p2:CodD) (p3:Nat) (p4:I4):Prop := SM p0∧SM p0∧bc3q13 p1 p2 p3 p4
def bc3q40 (p0:I4) (p1:CodD):Bool := decide (bc3q1 p0 ≤ IntKind.wrap IntKind.i64 (bc3q21 p1 - Z1))
def bc3q41 (p0:I4) (p1:CodD):Bool := bif bc3q34 p0 then bc3q40 p0 p1 else false
def bc3q42 (p0:I4) (p1:CodD) (p2:Nat):Bool := decide (bc3q1 p0 ≤ IntKind.wrap IntKind.i64 ((LI (FnD.code (bc3q22 p1 p2))) - Z1))
def bc3q43 (p0:I4) (p1:CodD) (p2:Nat):Bool := bif bc3q2 p0 then bc3q42 p0 p1 p2 else false
def bc3q44 (p0:I4) (p1:CodD):Bool := decide (bc3q1 p0 ≤ IntKind.wrap IntKind.i64 ((LI (CodD.kers p1)) - Z1))
def bc3q45 (p0:I4) (p1:CodD):Bool := bif bc3q2 p0 then bc3q44 p0 p1 else false
def bc3q46 (p0:CodD) (p1:I4):Int := KeD.inputs (GK p0 (Int.toNat (bc3q1 p1)))
def bc3q47 (p0:CodD) (p1:I4):Int := if (16:Int) < bc3q46 p0 p1 then (16:Int) else bc3q46 p0 p1
def bc3q48 (p0:CodD) (p1:I4):Int := if bc3q47 p0 p1 < Z0 then Z0 else bc3q47 p0 p1
def bc3q49 (p0:CodD) (p1:I4):Nat := Int.toNat (bc3q48 p0 p1)
def bc3q50 (p0:CodD) (p1:I4):Bool := decide (Z1 ≤ bc3q46 p0 p1)
def bc3q51 (p0:CodD) (p1:I4):Bool := decide (bc3q46 p0 p1 ≤ (16:Int))
def bc3q52 (p0:CodD) (p1:I4):Bool := bif bc3q50 p0 p1 then bc3q51 p0 p1 else false
def bc3q53 (p0:CodD) (p1:I4) (p2:List UInt8):Prop := Lib.repeatL [(97:UInt8)] (bc3q49 p0 p1) = p2
def bc3q54 (p0:Nat) (p1:I4):Option Eff := plainC ((↑p0:Int) == Z0) (bc3q14 p1)
def bc3q55 (p0 p1 p2:Nat) (p3:I4) (p4:CodD) (p5:Nat):Prop := ∀ (x:Nat),p0 ≠ x∧p1 ≠ x∧p2 ≠ x∧True→SM p1∧ifB (bc3q0 p3 == Z1) (SM p1∧SM p2∧ifB (bc3q2 p3) (bc3q17 p3 p4 = bc3q18 p3 p4∧True) (false = bc3q18 p3 p4∧True)∧True∧SM x∧SM x∧ifB (bc3q18 p3 p4) (SM p1∧SM x∧SM x∧SM p0∧bc3q3 p0∧∃ (y:Eff),bc3q4 p4 p5 p3 y∧(bc3q5 y.1∧bc3q20 y.2 p3 p4 p5)∧bc3q9) (SM x∧SM x∧bc3q12 p0 p4 p5 p3)) (ifB (bc3q0 p3 == (6:Int)) (SM p1∧SM p2∧side (Z0 ≤ (↑p5:Int)∧(↑p5:Int) < bc3q21 p4) (ifB (bc3q2 p3) (bc3q23 p3 p4 p5 = bc3q24 p3 p4 p5∧True) (false = bc3q24 p3 p4 p5∧True)∧True∧SM x∧SM x∧ifB (bc3q24 p3 p4 p5) (SM p1∧SM x∧SM x∧SM p0∧bc3q3 p0∧∃ (y:Eff),bc3q4 p4 p5 p3 y∧([(42:UInt8)] = y.1∧bc3q25 y.2 p3 p4 p5)∧bc3q9) (SM x∧SM x∧SM p0∧bc3q3 p0∧∃ (y:Eff),bc3q4 p4 p5 p3 y∧([(42:UInt8)] = y.1∧bc3q26 y.2 p4 p5 p3)∧bc3q9))) (ifB (bc3q0 p3 == (7:Int)) (SM p1∧SM p1∧(Z0 ≤ bc3q28 p3∧bc3q28 p3 ≤ (9223372036854775807:Int)∧N1 * bc3q29 p3 ≤ (140737488355328:Nat))∧∀ (y:Unit),True→True∧(SM p1∧SM (ZI (bc3q1 p3)))∧ifB (bc3q30 p3) (bc3q31 p3 = bc3q32 p3∧True) (false = bc3q32 p3∧True)∧True∧SM x∧SM x∧ifB (bc3q32 p3) (SM p1∧SM x∧SM x∧SM p0∧bc3q3 p0∧∃ (y:Eff),bc3q4 p4 p5 p3 y∧(bc3q33 p3 y.1∧bc3q20 y.2 p3 p4 p5)∧bc3q9) (SM x∧SM x∧SM p0∧bc3q3 p0∧∃ (y:Eff),bc3q4 p4 p5 p3 y∧(bc3q33 p3 y.1∧bc3q11 y.2 p4 p5 p3)∧bc3q9)) (ifB (bc3q0 p3 == (8:Int)) (SM p1∧bc3q37 p3∧True∧True∧SM x∧SM x∧ifB (bc3q36 p3) (SM p1∧SM x∧SM x∧SM p0∧bc3q3 p0∧∃ (y:Eff),bc3q4 p4 p5 p3 y∧([(97:UInt8)] = y.1∧bc3q20 y.2 p3 p4 p5)∧bc3q9) (SM x∧SM x∧SM p0∧bc3q3 p0∧∃ (y:Eff),bc3q4 p4 p5 p3 y∧([(97:UInt8)] = y.1∧bc3q11 y.2 p4 p5 p3)∧bc3q9)) (ifB (bc3q0 p3 == (9:Int)) (SM p1∧bc3q37 p3∧True∧True∧SM x∧SM x∧ifB (bc3q36 p3) (SM p1∧SM x∧SM x∧SM p0∧bc3q3 p0∧∃ (y:Eff),bc3q4 p4 p5 p3 y∧([(97:UInt8),(97:UInt8)] = y.1∧bc3q20 y.2 p3 p4 p5)∧bc3q9) (SM x∧SM x∧SM p0∧bc3q3 p0∧∃ (y:Eff),bc3q4 p4 p5 p3 y∧([(97:UInt8),(97:UInt8)] = y.1∧bc3q11 y.2 p4 p5 p3)∧bc3q9)) (ifB (bc3q0 p3 == (10:Int)) (SM p1∧bc3q37 p3∧True∧True∧SM x∧SM x∧ifB (bc3q36 p3) (bc3q38 p1 x p0 p4 p5 p3) (bc3q39 x p0 p4 p5 p3)) (ifB (bc3q0 p3 == (11:Int)) (SM p1∧SM p2∧ifB (bc3q34 p3) (bc3q40 p3 p4 = bc3q41 p3 p4∧True) (false = bc3q41 p3 p4∧True)∧True∧SM x∧SM x∧ifB (bc3q41 p3 p4) (bc3q38 p1 x p0 p4 p5 p3) (bc3q39 x p0 p4 p5 p3)) (ifB (bc3q0 p3 == (24:Int)) (SM p1∧SM p2∧side (Z0 ≤ (↑p5:Int)∧(↑p5:Int) < bc3q21 p4) (ifB (bc3q2 p3) (bc3q42 p3 p4 p5 = bc3q43 p3 p4 p5∧True) (false = bc3q43 p3 p4 p5∧True)∧True∧SM x∧SM x∧ifB (bc3q43 p3 p4 p5) (SM p1∧SM x∧SM x∧SM p0∧bc3q3 p0∧∃ (y:Eff),bc3q4 p4 p5 p3 y∧([(97:UInt8)] = y.1∧bc3q25 y.2 p3 p4 p5)∧bc3q9) (SM x∧SM x∧SM p0∧bc3q3 p0∧∃ (y:Eff),bc3q4 p4 p5 p3 y∧([(97:UInt8)] = y.1∧bc3q26 y.2 p4 p5 p3)∧bc3q9))) (ifB (bc3q0 p3 == (27:Int)) (SM p1∧SM p2∧ifB (bc3q2 p3) (bc3q44 p3 p4 = bc3q45 p3 p4∧True) (false = bc3q45 p3 p4∧True)∧True∧ifB (bc3q45 p3 p4) (SM p2∧SM p1∧side (Z0 ≤ bc3q1 p3∧bc3q1 p3 < (LI (CodD.kers p4))) ((Z0 ≤ bc3q48 p4 p3∧bc3q48 p4 p3 ≤ (9223372036854775807:Int)∧N1 * bc3q49 p4 p3 ≤ (140737488355328:Nat))∧∀ (y:Unit),True→True∧ifB (bc3q50 p4 p3) (bc3q51 p4 p3 = bc3q52 p4 p3∧True) (false = bc3q52 p4 p3∧True)∧True∧SM x∧SM x∧ifB (bc3q52 p4 p3) (SM p1∧SM x∧SM x∧SM p0∧bc3q3 p0∧∃ (y:Eff),bc3q4 p4 p5 p3 y∧(bc3q53 p4 p3 y.1∧bc3q20 y.2 p3 p4 p5)∧bc3q9) (SM x∧SM x∧SM p0∧bc3q3 p0∧∃ (y:Eff),bc3q4 p4 p5 p3 y∧(bc3q53 p4 p3 y.1∧bc3q11 y.2 p4 p5 p3)∧bc3q9))) (SM x∧SM x∧SM x∧SM p0∧bc3q3 p0∧∃ (y:Eff),bc3q4 p4 p5 p3 y∧(bc3q5 y.1∧bc3q26 y.2 p4 p5 p3)∧bc3q9)) (SM p1∧True∧∀ (y:Eff),offQ (bc3q54 p5 p3) y→SM p0∧bc3q3 p0∧∃ (y_1:Eff),bc3q4 p4 p5 p3 y_1∧(y.1 = y_1.1∧y.2 = y_1.2∧Option.isSome (bc3q54 p5 p3) = bc3q7 p4 p5 p3∧True)∧bc3q9)))))))))
end
set_option maxHeartbeats 4000000 in
theorem of_ok (c:CodD) (f:Nat) (x:I4) (hf:f < c.funs.length) (hc:c.ok) (hx:x.ok):ACalls Tryz.prog 69 [.agg c.row,.int .i64 f,.agg x.row] ⟨[],[]⟩ (SpecR (pQ [.agg c.row,.int .i64 f,.agg x.row] (offD (effC c f x)) (offQ (effC c f x)) True) ()) := by
  refine con_of (A := pQ _ _ _ _) (x := ()) (E := Eof) (eOk conE_ok rfl) Tryz.func69 rfl (by kernel_rfl) rfl (by simp [pQ,Eof,EC,E0]) ?_
  have hm:∀ n:Nat,n ≤ maxLen→IntKind.i64.wrap ((n:Int) - 1) = (n:Int) - 1 := fun n hn => by simp only [maxLen] at hn; exact wrap_i64' (by omega) (by omega)
  obtain ⟨_,h2,h3,_,l1,l2,l3,_⟩ := hc
  have hfo := getD_ok h2 hf
  have w1 := hm _ l1
  have w2 := hm _ l2
  have w3 := hm _ l3
  have w4 := hm _ hfo.2.2
  have hk:∀ i:Nat,i < c.kers.length→inI64 (c.kers.getD i default).inputs := fun i hi => (getD_ok h3 hi).1
  have de:(default:FnD) = ⟨0,[]⟩ := rfl
  have dk:(default:KeD) = ⟨0,[],0,0⟩ := rfl
  have e0:((f:Int) == 0) = decide (f = 0) := by
    by_cases e:f = 0
    · subst e; rfl
    · simp [e]
  have wb:IntKind.i64.wrap x.b = x.b := wrap_i64' hx.2.1.1 hx.2.1.2
  refine vc_eq (T :=
    ∀ (x_1:Nat),True→∀ (x_2:Nat),x_1 ≠ x_2∧True→∀ (x_3:Nat),x_2 ≠ x_3∧x_1 ≠ x_3∧True→SM x_2∧ifB (bc3q0 x == (5:Int)) (SM x_2∧ifB (bc3q2 x) (SM x_2∧SM x_3∧bc3q3 x_3∧∃ (y:Eff),bc3q4 c f x y∧(bc3q5 y.1∧[(97:UInt8)] = y.2∧bc3q8 x c f)∧bc3q9) (bc3q12 x_3 c f x)) (ifB (bc3q0 x == (12:Int)) (SM x_2∧ifB (bc3q2 x) (SM x_2∧SM x_3∧bc3q3 x_3∧∃ (y:Eff),bc3q4 c f x y∧(bc3q5 y.1∧[(102:UInt8)] = y.2∧bc3q8 x c f)∧bc3q9) (bc3q13 x_3 c f x)) (ifB (bc3q0 x == (16:Int)) (ifB (bc3q0 x == (16:Int)) (bc3q16 x_2 x x_3 c f) (bc3q55 x_3 x_2 x_1 x c f)) (ifB (bc3q0 x == (17:Int)) (ifB (bc3q0 x == (17:Int)) (bc3q16 x_2 x x_3 c f) (bc3q55 x_3 x_2 x_1 x c f)) (ifB (bc3q0 x == (18:Int)) (bc3q16 x_2 x x_3 c f) (bc3q55 x_3 x_2 x_1 x c f)))))) (by kernel_rfl) ?_
  delta DF DK GF GK LI LN N1 SM Z0 Z1 ZI bc3q0 bc3q1 bc3q10 bc3q11 bc3q12 bc3q13 bc3q14 bc3q15 bc3q16 bc3q17 bc3q18 bc3q19 bc3q2 bc3q20 bc3q21 bc3q22 bc3q23 bc3q24 bc3q25 bc3q26 bc3q27 bc3q28 bc3q29 bc3q3 bc3q30 bc3q31 bc3q32 bc3q33 bc3q34 bc3q35 bc3q36 bc3q37 bc3q38 bc3q39 bc3q4 bc3q40 bc3q41 bc3q42 bc3q43 bc3q44 bc3q45 bc3q46 bc3q47 bc3q48 bc3q49 bc3q5 bc3q50 bc3q51 bc3q52 bc3q53 bc3q54 bc3q55 bc3q6 bc3q7 bc3q8 bc3q9
  simp only [← de,← dk,e0,w1,w2,w3,w4,wb,Int.toNat_natCast,ifB_iff,side_iff,decide_eq_true_eq,decide_eq_false_iff_not,true_and,and_true,beq_iff_eq,Bool.cond_false_right,Bool.and_eq_true,Bool.and_eq_false_iff,beq_eq_false_iff_ne,ne_eq]
  repeat' (first
    | refine off_leaf ?_
    | (refine And.intro ?_ ?_)
    | intro _)
  all_goals (try first | exact hx.2.1.1 | exact hx.2.1.2 | exact off_pass (eff_derived c f x (by omega)) (by assumption) | exact off_pass (eff_plain c f x (by simp_all)) (by assumption))
  all_goals (first | (simp_all [effC,effS,between,primB,gu]; done) | grind [effC,effS,between,primB,gu] | skip)
end Go.Proofs.YtflbmbkhjcbhoaaGreatDoor
namespace Go.Proofs.YtflbmbkhjcbhoaaGreatDoor
open Go Go.Ab
noncomputable def Erplain:Senv := EC conR2 71 3 [4,5,15,16,20,29,39,43,47,51,55,59,63,65] (fun _ => ([],[]))
noncomputable section
def bc4q0 (p0:I4):Bool := bif I4.b p0 == Z0 then I4.c p0 == Z0 else false
def bc4q1 (p0:I4):Int := I4.a p0
def bc4q2 (p0:Nat):Prop := SM p0∧True
def bc4q3 (p0:Bool) (p1:I4) (p2:Eff):Prop := offQ (plainC p0 p1) p2
def bc4q4 (p0:List UInt8):Prop := eqOf (List UInt8) [] p0
def bc4q5 (p0:Bool) (p1:I4):Bool := Option.isSome (plainC p0 p1)
def bc4q6 (p0:I4) (p1:Bool):Prop := bc4q0 p0 = bc4q5 p1 p0∧True
def bc4q7 (p0:List UInt8) (p1:I4) (p2:Bool):Prop := [(97:UInt8)] = p0∧bc4q6 p1 p2
def bc4q8:Prop := True∧True
def bc4q9 (p0:Bool) (p1:I4):Prop := (!p0) = bc4q5 p0 p1∧True
def bc4q10 (p0:Bool) (p1:I4):Prop := false = bc4q5 p0 p1∧True
def bc4q11 (p0:I4) (p1:Nat) (p2:Bool):Prop := ifB (bc4q0 p0) (SM p1∧bc4q2 p1∧∃ (y:Eff),bc4q3 p2 p0 y∧(bc4q4 y.1∧[(97:UInt8)] = y.2∧bc4q9 p2 p0)∧bc4q8) (SM p1∧bc4q2 p1∧∃ (y:Eff),bc4q3 p2 p0 y∧(bc4q4 y.1∧[(97:UInt8)] = y.2∧bc4q10 p2 p0)∧bc4q8)
def bc4q12 (p0:I4) (p1:Nat) (p2:Bool):Prop := ifB (bc4q0 p0) (SM p1∧bc4q2 p1∧∃ (y:Eff),bc4q3 p2 p0 y∧(bc4q4 y.1∧[(102:UInt8)] = y.2∧bc4q9 p2 p0)∧bc4q8) (SM p1∧bc4q2 p1∧∃ (y:Eff),bc4q3 p2 p0 y∧(bc4q4 y.1∧[(102:UInt8)] = y.2∧bc4q10 p2 p0)∧bc4q8)
def bc4q13 (p0:List UInt8) (p1:I4) (p2:Bool):Prop := [(102:UInt8)] = p0∧bc4q6 p1 p2
def bc4q14 (p0:List UInt8) (p1:I4) (p2:Bool):Prop := bc4q4 p0∧bc4q6 p1 p2
def bc4q15 (p0:Nat) (p1:Bool) (p2:I4):Prop := SM p0∧bc4q2 p0∧∃ (y:Eff),bc4q3 p1 p2 y∧([(97:UInt8)] = y.1∧bc4q14 y.2 p2 p1)∧bc4q8
def bc4q16 (p0:I4) (p1:Nat) (p2:Bool):Prop := ifB (bc4q1 p0 == (19:Int)) (SM p1∧bc4q2 p1∧∃ (y:Eff),bc4q3 p2 p0 y∧([(97:UInt8)] = y.1∧bc4q13 y.2 p0 p2)∧bc4q8) (ifB (bc4q1 p0 == (20:Int)) (SM p1∧bc4q2 p1∧∃ (y:Eff),bc4q3 p2 p0 y∧([(102:UInt8),(102:UInt8)] = y.1∧bc4q13 y.2 p0 p2)∧bc4q8) (ifB (bc4q1 p0 == (21:Int)) (SM p1∧bc4q2 p1∧∃ (y:Eff),bc4q3 p2 p0 y∧([(102:UInt8),(102:UInt8),(102:UInt8)] = y.1∧bc4q13 y.2 p0 p2)∧bc4q8) (ifB (bc4q1 p0 == (22:Int)) (SM p1∧bc4q2 p1∧∃ (y:Eff),bc4q3 p2 p0 y∧([(102:UInt8),(97:UInt8)] = y.1∧bc4q7 y.2 p0 p2)∧bc4q8) (ifB (bc4q1 p0 == (23:Int)) (SM p1∧bc4q2 p1∧∃ (y:Eff),bc4q3 p2 p0 y∧([(102:UInt8),(97:UInt8),(97:UInt8)] = y.1∧bc4q7 y.2 p0 p2)∧bc4q8) (ifB (bc4q1 p0 == (26:Int)) (bc4q15 p1 p2 p0) (ifB (bc4q1 p0 == (25:Int)) (ifB p2 (SM p1∧bc4q2 p1∧∃ (y:Eff),bc4q3 p2 p0 y∧(bc4q4 y.1∧bc4q14 y.2 p0 p2)∧bc4q8) (bc4q15 p1 p2 p0)) (SM p1∧bc4q2 p1∧∃ (y:Eff),bc4q3 p2 p0 y∧(bc4q4 y.1∧bc4q4 y.2∧bc4q10 p2 p0)∧bc4q8)))))))
def bc4q17 (p0:I4) (p1:Nat) (p2:Bool):Prop := ifB (bc4q1 p0 == (13:Int)) (ifB (bc4q1 p0 == (13:Int)) (bc4q12 p0 p1 p2) (bc4q16 p0 p1 p2)) (ifB (bc4q1 p0 == (14:Int)) (ifB (bc4q1 p0 == (14:Int)) (bc4q12 p0 p1 p2) (bc4q16 p0 p1 p2)) (ifB (bc4q1 p0 == (15:Int)) (bc4q12 p0 p1 p2) (bc4q16 p0 p1 p2)))
end
theorem rplain_ok (x:I4) (main:Bool):ACalls Tryz.prog 60 [.agg x.row,.bool main] ⟨[],[]⟩ (SpecR (pQ [.agg x.row,.bool main] (offD (plainC main x)) (offQ (plainC main x)) True) ()) := by
  refine con_of (A := pQ _ _ _ _) (x := ()) (E := Erplain) (eOk conR2_ok rfl) Tryz.func60 rfl (by kernel_rfl) rfl (by simp [pQ,Erplain,EC,E0]) ?_
  refine vc_eq (T :=
    ∀ (x_1:Nat),True→∀ (x_2:Nat),x_1 ≠ x_2∧True→(SM x_1∧ifB (I4.b x == Z0) (SM x_1∧(I4.c x == Z0) = bc4q0 x∧True) (false = bc4q0 x∧True))∧SM x_1∧ifB (bc4q1 x == (2:Int)) (SM x_2∧bc4q2 x_2∧∃ (y:Eff),bc4q3 main x y∧(bc4q4 y.1∧bc4q7 y.2 x main)∧bc4q8) (ifB (bc4q1 x == (3:Int)) (ifB (bc4q1 x == (3:Int)) (bc4q11 x x_2 main) (bc4q17 x x_2 main)) (ifB (bc4q1 x == (4:Int)) (bc4q11 x x_2 main) (bc4q17 x x_2 main)))) (by kernel_rfl) ?_
  delta SM Z0 bc4q0 bc4q1 bc4q10 bc4q11 bc4q12 bc4q13 bc4q14 bc4q15 bc4q16 bc4q17 bc4q2 bc4q3 bc4q4 bc4q5 bc4q6 bc4q7 bc4q8 bc4q9
  simp only [ifB_iff,side_iff,decide_eq_true_eq,decide_eq_false_iff_not,true_and,and_true,beq_iff_eq,Bool.cond_false_right,Bool.and_eq_true,Bool.and_eq_false_iff,beq_eq_false_iff_ne,ne_eq]
  repeat' (first
    | refine off_leaf ?_
    | (refine And.intro ?_ ?_)
    | intro _)
  all_goals (first | (simp_all [plainC,plainS,gu]; done) | (cases main <;> simp_all [plainC,plainS,gu]; done) | grind [plainC,plainS,gu] | skip)
def conRE:Con := fun k ds S => match k with
  | 60 => match ds with
    | [.agg [.int .i64 a,.int .i64 b,.int .i64 c,.int .i64 d],.bool m] => some (pQ [.agg (I4.row ⟨a,b,c,d⟩),.bool m] (offD (plainC m ⟨a,b,c,d⟩)) (offQ (plainC m ⟨a,b,c,d⟩)) True)
    | _ => none
  | k => conR2 k ds S
theorem conRE_ok:ConOk Tryz.prog conRE := by
  intro k ds S A h
  unfold conRE at h
  split at h
  · split at h
    · injection h with h; subst h
      exact pQ_ok fun _ => ⟨weakL_refl _,rplain_ok ⟨_,_,_,_⟩ _⟩
    · cases h
  · exact conR2_ok _ _ _ _ h
noncomputable def Erof:Senv := EC conRE 242 4 [5,6,8,9,24,35,46,64,74,80,91,102,113,128,139,153,167,177,183,202,227] (fun id => match id with | 9 => ([0,1,2,3,4,5,6,7,8,9,10,11,12,13,14,15,16],[13,16]) | 33 => ([0,1,2,3,4,5,6,7,8,9,10,11,12,13,14,15,16,17],[14,17]) | _ => ([],[]))
noncomputable section
def bc4q18 (p0:I4):Int := I4.a p0
def bc4q19 (p0:I4):Int := I4.c p0
def bc4q20 (p0:I4):Bool := bc4q19 p0 == Z0
def bc4q21 (p0:I4):Int := I4.b p0
def bc4q22 (p0:I4):Bool := decide (Z0 ≤ bc4q21 p0)
def bc4q23 (p0:I4) (p1:CodD):Bool := decide (bc4q21 p0 ≤ IntKind.wrap IntKind.i64 ((LI (CodD.consts p1)) - Z1))
def bc4q24 (p0:I4) (p1:CodD):Bool := bif bc4q22 p0 then bc4q23 p0 p1 else false
def bc4q25 (p0:Nat):Prop := SM p0∧True
def bc4q26 (p0:CodD) (p1:Nat) (p2:I4) (p3:Eff):Prop := offQ (effC p0 p1 p2) p3
def bc4q27 (p0:List UInt8):Prop := eqOf (List UInt8) [] p0
def bc4q28 (p0:List UInt8):Prop := [(97:UInt8)] = p0
def bc4q29 (p0:CodD) (p1:Nat) (p2:I4):Bool := Option.isSome (effC p0 p1 p2)
def bc4q30:Prop := True∧True
def bc4q31 (p0:CodD) (p1:Nat) (p2:I4):Prop := false = bc4q29 p0 p1 p2∧True
def bc4q32 (p0:List UInt8) (p1:CodD) (p2:Nat) (p3:I4):Prop := bc4q28 p0∧bc4q31 p1 p2 p3
def bc4q33 (p0:Nat) (p1:CodD) (p2:Nat) (p3:I4):Prop := SM p0∧bc4q25 p0∧∃ (y:Eff),bc4q26 p1 p2 p3 y∧(bc4q27 y.1∧bc4q32 y.2 p1 p2 p3)∧bc4q30
def bc4q34 (p0:I4) (p1:CodD) (p2:Nat):Prop := decide (Z0 ≤ bc4q19 p0) = bc4q29 p1 p2 p0∧True
def bc4q35 (p0:List UInt8):Prop := [(102:UInt8)] = p0
def bc4q36 (p0:List UInt8) (p1:CodD) (p2:Nat) (p3:I4):Prop := bc4q35 p0∧bc4q31 p1 p2 p3
def bc4q37 (p0:Nat) (p1:CodD) (p2:Nat) (p3:I4):Prop := SM p0∧bc4q25 p0∧∃ (y:Eff),bc4q26 p1 p2 p3 y∧(bc4q27 y.1∧bc4q36 y.2 p1 p2 p3)∧bc4q30
def bc4q38 (p0:CodD):Int := (LI (CodD.funs p0))
def bc4q39 (p0:CodD) (p1:Nat):FnD := GF p0 (Int.toNat (↑p1:Int))
def bc4q40 (p0:I4) (p1:CodD) (p2:Nat):Bool := decide (bc4q21 p0 ≤ IntKind.wrap IntKind.i64 (FnD.slots (bc4q39 p1 p2) - Z1))
def bc4q41 (p0:I4) (p1:CodD) (p2:Nat):Bool := bif bc4q22 p0 then bc4q40 p0 p1 p2 else false
def bc4q42 (p0:List UInt8) (p1:CodD) (p2:Nat) (p3:I4):Prop := bc4q27 p0∧bc4q31 p1 p2 p3
def bc4q43 (p0:I4):Bool := bc4q19 p0 != Z0
def bc4q44 (p0:Nat) (p1:CodD) (p2:Nat) (p3:I4):Prop := SM p0∧bc4q25 p0∧∃ (y:Eff),bc4q26 p1 p2 p3 y∧(bc4q27 y.1∧bc4q42 y.2 p1 p2 p3)∧bc4q30
def bc4q45 (p0:I4):Bool := decide ((2:Int) ≤ bc4q21 p0)
def bc4q46 (p0:I4):Bool := decide (bc4q21 p0 ≤ (1000:Int))
def bc4q47 (p0:I4):Bool := bif bc4q45 p0 then bc4q46 p0 else false
def bc4q48 (p0:I4):Prop := Z0 ≤ bc4q21 p0∧bc4q21 p0 ≤ (1000:Int)∧SM N1
def bc4q49 (p0:I4):Nat := Int.toNat (bc4q21 p0)
def bc4q50 (p0:I4):Bool := decide (Z1 ≤ bc4q21 p0)
def bc4q51 (p0:I4):Bool := decide (bc4q21 p0 ≤ (55:Int))
def bc4q52 (p0:I4):Bool := bif bc4q50 p0 then bc4q51 p0 else false
def bc4q53 (p0:I4):Prop := ifB (bc4q50 p0) (bc4q51 p0 = bc4q52 p0∧True) (false = bc4q52 p0∧True)
def bc4q54 (p0:I4) (p1:CodD) (p2:Nat):Prop := bc4q52 p0 = bc4q29 p1 p2 p0∧True
def bc4q55 (p0:List UInt8) (p1:I4) (p2:CodD) (p3:Nat):Prop := bc4q28 p0∧bc4q54 p1 p2 p3
def bc4q56 (p0:I4) (p1:CodD):Bool := decide (bc4q21 p0 ≤ IntKind.wrap IntKind.i64 (bc4q38 p1 - Z1))
def bc4q57 (p0:I4) (p1:CodD):Bool := bif bc4q50 p0 then bc4q56 p0 p1 else false
def bc4q58 (p0:I4):Bool := decide (bc4q21 p0 ≤ (5:Int))
def bc4q59 (p0:I4):Bool := bif bc4q50 p0 then bc4q58 p0 else false
def bc4q60 (p0:I4):Bool := bif bif bc4q21 p0 == (6:Int) then true else bc4q21 p0 == (10:Int) then true else bc4q21 p0 == (11:Int)
def bc4q61 (p0:I4):Prop := true = bc4q60 p0∧True
def bc4q62 (p0:I4):Bool := decide ((7:Int) ≤ bc4q21 p0)
def bc4q63 (p0:I4):Bool := decide (bc4q21 p0 ≤ (9:Int))
def bc4q64 (p0:I4):Bool := bif bc4q62 p0 then bc4q63 p0 else false
def bc4q65 (p0:I4):Bool := decide (bc4q21 p0 ≤ (3:Int))
def bc4q66 (p0:I4):Bool := bif bc4q45 p0 then bc4q65 p0 else false
def bc4q67 (p0:I4) (p1:CodD) (p2:Nat):Bool := decide (bc4q21 p0 ≤ IntKind.wrap IntKind.i64 ((LI (FnD.code (bc4q39 p1 p2))) - Z1))
def bc4q68 (p0:I4) (p1:CodD) (p2:Nat):Bool := bif bc4q22 p0 then bc4q67 p0 p1 p2 else false
def bc4q69 (p0:CodD):Int := (LI (CodD.kers p0))
def bc4q70 (p0:I4) (p1:CodD):Bool := decide (bc4q21 p0 ≤ IntKind.wrap IntKind.i64 (bc4q69 p1 - Z1))
def bc4q71 (p0:I4) (p1:CodD):Bool := bif bc4q22 p0 then bc4q70 p0 p1 else false
def bc4q72 (p0:CodD) (p1:I4):Int := KeD.inputs (GK p0 (bc4q49 p1))
def bc4q73 (p0:CodD) (p1:I4):Bool := decide (Z1 ≤ bc4q72 p0 p1)
def bc4q74 (p0:CodD) (p1:I4):Bool := decide (bc4q72 p0 p1 ≤ (16:Int))
def bc4q75 (p0:CodD) (p1:I4):Bool := bif bc4q73 p0 p1 then bc4q74 p0 p1 else false
def bc4q76 (p0:Nat) (p1:I4):Option Eff := plainC ((↑p0:Int) == Z0) (I4.mk (bc4q18 p1) (bc4q21 p1) (bc4q19 p1) (I4.d p1))
end
set_option maxHeartbeats 4000000 in
theorem rof_ok (c:CodD) (f:Nat) (x:I4) (hf:f < c.funs.length) (hc:c.ok) (hx:x.ok):ACalls Tryz.prog 18 [.agg c.row,.int .i64 f,.agg x.row] ⟨[],[]⟩ (SpecR (pQ [.agg c.row,.int .i64 f,.agg x.row] (offD (effC c f x)) (offQ (effC c f x)) True) ()) := by
  refine con_of (A := pQ _ _ _ _) (x := ()) (E := Erof) (eOk conRE_ok rfl) Tryz.func18 rfl (by kernel_rfl) rfl (by simp [pQ,Erof,EC,E0]) ?_
  have hm:∀ n:Nat,n ≤ maxLen→IntKind.i64.wrap ((n:Int) - 1) = (n:Int) - 1 := fun n hn => by simp only [maxLen] at hn; exact wrap_i64' (by omega) (by omega)
  obtain ⟨_,h2,h3,_,l1,l2,l3,_⟩ := hc
  have hfo := getD_ok h2 hf
  have w1 := hm _ l1
  have w2 := hm _ l2
  have w3 := hm _ l3
  have w4 := hm _ hfo.2.2
  have hk:∀ i:Nat,i < c.kers.length→inI64 (c.kers.getD i default).inputs := fun i hi => (getD_ok h3 hi).1
  have de:(default:FnD) = ⟨0,[]⟩ := rfl
  have dk:(default:KeD) = ⟨0,[],0,0⟩ := rfl
  have e0:((f:Int) == 0) = decide (f = 0) := by
    by_cases e:f = 0
    · subst e; rfl
    · simp [e]
  have wb:IntKind.i64.wrap x.b = x.b := wrap_i64' hx.2.1.1 hx.2.1.2
  refine vc_eq (T :=
    ∀ (x_1:Nat),True→∀ (x_2:Nat),x_1 ≠ x_2∧True→∀ (x_3:Nat),x_2 ≠ x_3∧x_1 ≠ x_3∧True→SM x_2∧ifB (bc4q18 x == Z1) (SM x_2∧ifB (bc4q20 x) (SM x_2∧SM x_1∧ifB (bc4q22 x) (bc4q23 x c = bc4q24 x c∧True) (false = bc4q24 x c∧True)∧True∧SM x_3∧bc4q25 x_3∧∃ (y:Eff),bc4q26 c f x y∧(bc4q27 y.1∧bc4q28 y.2∧bc4q24 x c = bc4q29 c f x∧True)∧bc4q30) (bc4q33 x_3 c f x)) (ifB (bc4q18 x == (5:Int)) (SM x_2∧ifB (bc4q22 x) (SM x_2∧SM x_3∧bc4q25 x_3∧∃ (y:Eff),bc4q26 c f x y∧(bc4q27 y.1∧bc4q28 y.2∧bc4q34 x c f)∧bc4q30) (bc4q33 x_3 c f x)) (ifB (bc4q18 x == (12:Int)) (SM x_2∧ifB (bc4q22 x) (SM x_2∧SM x_3∧bc4q25 x_3∧∃ (y:Eff),bc4q26 c f x y∧(bc4q27 y.1∧bc4q35 y.2∧bc4q34 x c f)∧bc4q30) (bc4q37 x_3 c f x)) (ifB (bc4q18 x == (6:Int)) (SM x_2∧ifB (bc4q20 x) (SM x_2∧SM x_1∧side (Z0 ≤ (↑f:Int)∧(↑f:Int) < bc4q38 c) (ifB (bc4q22 x) (bc4q40 x c f = bc4q41 x c f∧True) (false = bc4q41 x c f∧True)∧True∧SM x_3∧bc4q25 x_3∧∃ (y:Eff),bc4q26 c f x y∧([(42:UInt8)] = y.1∧bc4q27 y.2∧bc4q41 x c f = bc4q29 c f x∧True)∧bc4q30)) (SM x_3∧bc4q25 x_3∧∃ (y:Eff),bc4q26 c f x y∧([(42:UInt8)] = y.1∧bc4q42 y.2 c f x)∧bc4q30)) (ifB (bc4q18 x == (7:Int)) (SM x_2∧ifB (bc4q43 x) (bc4q44 x_3 c f x) (SM x_2∧ifB (bc4q45 x) (bc4q46 x = bc4q47 x∧True) (false = bc4q47 x∧True)∧True∧ifB (!bc4q47 x) (bc4q44 x_3 c f x) (SM x_2∧bc4q48 x∧∀ (y:Unit),True→SM x_3∧bc4q25 x_3∧∃ (y:Eff),bc4q26 c f x y∧(Lib.repeatL [(97:UInt8)] (bc4q49 x) = y.1∧bc4q28 y.2∧true = bc4q29 c f x∧True)∧bc4q30))) (ifB (bc4q18 x == (8:Int)) (SM x_2∧ifB (bc4q20 x) (SM x_2∧bc4q53 x∧True∧True∧SM x_3∧bc4q25 x_3∧∃ (y:Eff),bc4q26 c f x y∧(bc4q28 y.1∧bc4q55 y.2 x c f)∧bc4q30) (SM x_3∧bc4q25 x_3∧∃ (y:Eff),bc4q26 c f x y∧(bc4q28 y.1∧bc4q32 y.2 c f x)∧bc4q30)) (ifB (bc4q18 x == (9:Int)) (SM x_2∧ifB (bc4q20 x) (SM x_2∧bc4q53 x∧True∧True∧SM x_3∧bc4q25 x_3∧∃ (y:Eff),bc4q26 c f x y∧([(97:UInt8),(97:UInt8)] = y.1∧bc4q55 y.2 x c f)∧bc4q30) (SM x_3∧bc4q25 x_3∧∃ (y:Eff),bc4q26 c f x y∧([(97:UInt8),(97:UInt8)] = y.1∧bc4q32 y.2 c f x)∧bc4q30)) (ifB (bc4q18 x == (10:Int)) (SM x_2∧ifB (bc4q20 x) (SM x_2∧bc4q53 x∧True∧True∧SM x_3∧bc4q25 x_3∧∃ (y:Eff),bc4q26 c f x y∧(bc4q27 y.1∧bc4q35 y.2∧bc4q54 x c f)∧bc4q30) (bc4q37 x_3 c f x)) (ifB (bc4q18 x == (11:Int)) (SM x_2∧ifB (bc4q20 x) (SM x_2∧SM x_1∧ifB (bc4q50 x) (bc4q56 x c = bc4q57 x c∧True) (false = bc4q57 x c∧True)∧True∧SM x_3∧bc4q25 x_3∧∃ (y:Eff),bc4q26 c f x y∧(bc4q27 y.1∧bc4q35 y.2∧bc4q57 x c = bc4q29 c f x∧True)∧bc4q30) (bc4q37 x_3 c f x)) (ifB (bc4q18 x == (16:Int)) (SM x_2∧ifB (bc4q20 x) (SM x_2∧ifB (bc4q50 x) (bc4q58 x = bc4q59 x∧True) (false = bc4q59 x∧True)∧True∧SM x_3∧bc4q25 x_3∧∃ (y:Eff),bc4q26 c f x y∧(bc4q35 y.1∧bc4q35 y.2∧bc4q59 x = bc4q29 c f x∧True)∧bc4q30) (SM x_3∧bc4q25 x_3∧∃ (y:Eff),bc4q26 c f x y∧(bc4q35 y.1∧bc4q36 y.2 c f x)∧bc4q30)) (ifB (bc4q18 x == (17:Int)) ((SM x_2∧ifB (bc4q21 x == (6:Int)) (bc4q61 x) (SM x_2∧ifB (bc4q21 x == (10:Int)) (bc4q61 x) (SM x_2∧(bc4q21 x == (11:Int)) = bc4q60 x∧True)))∧ifB (bc4q60 x) (SM x_2∧SM x_3∧bc4q25 x_3∧∃ (y:Eff),bc4q26 c f x y∧([(102:UInt8),(102:UInt8)] = y.1∧bc4q35 y.2∧(bc4q19 x == Z1) = bc4q29 c f x∧True)∧bc4q30) (SM x_2∧ifB (bc4q20 x) (SM x_2∧ifB (bc4q62 x) (bc4q63 x = bc4q64 x∧True) (false = bc4q64 x∧True)∧True∧SM x_3∧bc4q25 x_3∧∃ (y:Eff),bc4q26 c f x y∧([(102:UInt8),(97:UInt8)] = y.1∧bc4q35 y.2∧bc4q64 x = bc4q29 c f x∧True)∧bc4q30) (SM x_3∧bc4q25 x_3∧∃ (y:Eff),bc4q26 c f x y∧([(102:UInt8),(97:UInt8)] = y.1∧bc4q36 y.2 c f x)∧bc4q30))) (ifB (bc4q18 x == (18:Int)) (SM x_2∧ifB (bc4q43 x) (bc4q44 x_3 c f x) (SM x_2∧ifB (bc4q45 x) (bc4q65 x = bc4q66 x∧True) (false = bc4q66 x∧True)∧True∧ifB (!bc4q66 x) (bc4q44 x_3 c f x) (SM x_2∧bc4q48 x∧∀ (y:Unit),True→SM x_3∧bc4q25 x_3∧∃ (y:Eff),bc4q26 c f x y∧(Lib.repeatL [(102:UInt8)] (bc4q49 x) = y.1∧bc4q35 y.2∧true = bc4q29 c f x∧True)∧bc4q30))) (ifB (bc4q18 x == (24:Int)) (SM x_2∧ifB (bc4q20 x) (SM x_2∧SM x_1∧side (Z0 ≤ (↑f:Int)∧(↑f:Int) < bc4q38 c) (ifB (bc4q22 x) (bc4q67 x c f = bc4q68 x c f∧True) (false = bc4q68 x c f∧True)∧True∧SM x_3∧bc4q25 x_3∧∃ (y:Eff),bc4q26 c f x y∧(bc4q28 y.1∧bc4q27 y.2∧bc4q68 x c f = bc4q29 c f x∧True)∧bc4q30)) (SM x_3∧bc4q25 x_3∧∃ (y:Eff),bc4q26 c f x y∧(bc4q28 y.1∧bc4q42 y.2 c f x)∧bc4q30)) (ifB (bc4q18 x == (27:Int)) (SM x_2∧ifB (bc4q43 x) (bc4q44 x_3 c f x) (SM x_2∧SM x_1∧ifB (bc4q22 x) (bc4q70 x c = bc4q71 x c∧True) (false = bc4q71 x c∧True)∧True∧ifB (!bc4q71 x c) (bc4q44 x_3 c f x) (SM x_1∧SM x_2∧side (Z0 ≤ bc4q21 x∧bc4q21 x < bc4q69 c) (ifB (bc4q73 c x) (bc4q74 c x = bc4q75 c x∧True) (false = bc4q75 c x∧True)∧True∧ifB (!bc4q75 c x) (bc4q44 x_3 c f x) (SM x_1∧SM x_2∧side (Z0 ≤ bc4q21 x∧bc4q21 x < bc4q69 c) ((Z0 ≤ bc4q72 c x∧bc4q72 c x ≤ (1000:Int)∧SM N1)∧∀ (y:Unit),True→SM x_3∧bc4q25 x_3∧∃ (y:Eff),bc4q26 c f x y∧(Lib.repeatL [(97:UInt8)] (Int.toNat (bc4q72 c x)) = y.1∧bc4q28 y.2∧true = bc4q29 c f x∧True)∧bc4q30)))))) (SM x_2∧True∧∀ (y:Eff),offQ (bc4q76 f x) y→SM x_3∧bc4q25 x_3∧∃ (y_1:Eff),bc4q26 c f x y_1∧(y.1 = y_1.1∧y.2 = y_1.2∧Option.isSome (bc4q76 f x) = bc4q29 c f x∧True)∧bc4q30))))))))))))))) (by kernel_rfl) ?_
  delta DF DK GF GK LI LN N1 SM Z0 Z1 bc4q18 bc4q19 bc4q20 bc4q21 bc4q22 bc4q23 bc4q24 bc4q25 bc4q26 bc4q27 bc4q28 bc4q29 bc4q30 bc4q31 bc4q32 bc4q33 bc4q34 bc4q35 bc4q36 bc4q37 bc4q38 bc4q39 bc4q40 bc4q41 bc4q42 bc4q43 bc4q44 bc4q45 bc4q46 bc4q47 bc4q48 bc4q49 bc4q50 bc4q51 bc4q52 bc4q53 bc4q54 bc4q55 bc4q56 bc4q57 bc4q58 bc4q59 bc4q60 bc4q61 bc4q62 bc4q63 bc4q64 bc4q65 bc4q66 bc4q67 bc4q68 bc4q69 bc4q70 bc4q71 bc4q72 bc4q73 bc4q74 bc4q75 bc4q76
  simp only [← de,← dk,e0,w1,w2,w3,w4,wb,Int.toNat_natCast,ifB_iff,side_iff,decide_eq_true_eq,decide_eq_false_iff_not,true_and,and_true,beq_iff_eq,Bool.cond_false_right,Bool.and_eq_true,Bool.and_eq_false_iff,beq_eq_false_iff_ne,ne_eq]
  repeat' (first
    | refine off_leaf ?_
    | (refine And.intro ?_ ?_)
    | intro _)
  all_goals (try first | exact off_pass (eff_plain c f x (by simp_all)) (by assumption))
  all_goals (first | (simp_all [effC,effS,between,primB,gu]; done) | grind [effC,effS,between,primB,gu] | skip)
end Go.Proofs.YtflbmbkhjcbhoaaGreatDoor
namespace Go.Proofs.YtflbmbkhjcbhoaaGreatDoor
open Go Go.Ab
def brow (l:List UInt8):Nat→List D := fun i => [.int .u8 ((l.getD i 0).toNat:Int)]
def popB (st p:List UInt8) (j:Nat):Bool := p.getD j 0 == 42 || p.getD j 0 == st.getD (st.length - 1 - j) 0
def okA (st p:List UInt8) (r:Bool):Bool := r && decide (p.length ≤ st.length) && (List.range p.length).all (popB st p)
def newA (st p q:List UInt8):List UInt8 := st.take (st.length - p.length) ++ q
def nilB:D := .sl 1 0 (fun _ => []) .nil
def RnilA (p q:List UInt8) (r:Bool) (e:AEnd) (S:St):Prop :=
  (okA [] p r = true∧((q = []∧e = .ret (.tup [nilB,.bool true])∧S = ⟨[],[]⟩)∨(q ≠ []∧∃ k x cap,q.length ≤ cap∧e = .ret (.tup [.vs k x q.length cap 1,.bool true])∧S = ⟨[(k,x,.vec 1 q.length cap (brow q))],[]⟩))) ∨
  (okA [] p r = false∧e = .ret (.tup [nilB,.bool false])∧S = ⟨[],[]⟩)
def RvsA (st p q:List UInt8) (r:Bool) (e:AEnd) (S:St):Prop :=
  (okA st p r = true∧∃ x cap,(newA st p q).length ≤ cap∧e = .ret (.tup [.vs 0 x (newA st p q).length cap 1,.bool true])∧S = ⟨[(0,x,.vec 1 (newA st p q).length cap (brow (newA st p q)))],[]⟩) ∨
  (okA st p r = false∧e = .ret (.tup [nilB,.bool false])∧S = ⟨[],[]⟩)
theorem bne_and {a b c:Int} (h:¬ a = c):(a != b) = (a != c && a != b) := by simp [h]
theorem bne_and' {a b c:Int} (h:(a != c) = false):false = (a != c && a != b) := by simp [h]
theorem popB_of {st p:List UInt8} {j:Nat} (h:((p.getD j 0).toNat:Int) = 42∨((p.getD j 0).toNat:Int) = ((st.getD (st.length - 1 - j) 0).toNat:Int)):popB st p j = true := by
  unfold popB
  rw [Bool.or_eq_true,beq_iff_eq,beq_iff_eq]
  rcases h with h | h
  · left
    apply UInt8.toNat_inj.1
    show (p.getD j 0).toNat = 42
    omega
  · right
    apply UInt8.toNat_inj.1
    omega
theorem popB_not {st p:List UInt8} {j:Nat} (h1:¬ ((p.getD j 0).toNat:Int) = 42) (h2:¬ ((p.getD j 0).toNat:Int) = ((st.getD (st.length - 1 - j) 0).toNat:Int)):popB st p j = false := by
  unfold popB
  rw [Bool.or_eq_false_iff,beq_eq_false_iff_ne,beq_eq_false_iff_ne]
  refine ⟨fun e => h1 ?_,fun e => h2 ?_⟩
  · rw [e]; rfl
  · rw [e]
theorem okA_false {st p:List UInt8} {r:Bool} {j:Nat} (hj:j < p.length) (h:popB st p j = false):okA st p r = false := by
  have:(List.range p.length).all (popB st p) = false := by
    rw [List.all_eq_false]
    exact ⟨j,List.mem_range.2 hj,by simp [h]⟩
  simp [okA,this]
theorem okA_true {st p:List UInt8} {r:Bool} (hr:r = true) (hl:p.length ≤ st.length) (h:∀ j,j < p.length→popB st p j = true):okA st p r = true := by
  have:(List.range p.length).all (popB st p) = true := by
    rw [List.all_eq_true]
    exact fun j hj => h j (List.mem_range.1 hj)
  simp [okA,this,hr,hl]
theorem app_rows {st q:List UInt8} {a:Nat} (ha:a ≤ st.length) {i:Nat} (_hi:i < a + q.length):appF a (brow st) (brow q) i = brow (st.take a ++ q) i := by
  simp only [appF,brow]
  split
  · rename_i h
    simp [List.getD_eq_getElem?_getD,List.getElem?_append_left (show i < (st.take a).length by simp; omega),List.getElem?_take_of_lt h]
  · rename_i h
    have:(st.take a).length = a := by simp; omega
    simp [List.getD_eq_getElem?_getD,List.getElem?_append_right (show (st.take a).length ≤ i by omega),this]
def annA (st p q:List UInt8) (r:Bool) (os:List (Nat × Nat × AObj)) (k:Nat) (d:D):Option LoopAnn :=
  match d with
  | .ref _ xe _ => some { slots := [21],keep := [0,3,20],α := Nat,st := fun i => ([.int .i64 i],⟨(k,xe,.cells [.str p,.str q,.bool r]) :: os,[]⟩),inv := fun i => i ≤ p.length∧∀ j,j < i→popB st p j = true,mu := fun i => p.length - i }
  | _ => none
noncomputable def Eapp (own:Nat→Bool) (st p q:List UInt8) (r:Bool) (os:List (Nat × Nat × AObj)) (k:Nat):Senv := { EC con0 56 2 [3,4,5,6,17,20,21,22,43] (fun id => match id with | 6 => ([0,1,2,3,4,5,6,7,8,9,10,11,12,13,14,15,16,17,18,19],[]) | 9 => ([0,1,2,3,4,5,6,7,8,9,10,11,12],[10]) | _ => ([],[])) with
  own := own
  ann := fun b env _ => match b with
    | 0 => annA st p q r os k (Ab.look env 3)
    | _ => none }
noncomputable section
def bc5q0 (p0:Bool) (p1:Nat) (p2:List UInt8):Bool := bif !p0 then true else decide ((↑p1:Int) < (LI p2))
def bc5q1 (p0:List UInt8) (p1:Nat):List D := [ZB (BI p0 p1)]
def bc5q2 (p0:Nat) (p1 p2:List UInt8) (p3:Bool) (p4 p5 p6:Nat) (p7:List UInt8):Prop := True∧∃ (S':St),StTo (St.mk [(N1,p0,AObj.cells [D.str p1,D.str p2,D.bool p3]),(N0,p4,AObj.vec N1 p5 p6 fun (i:Nat) => bc5q1 p7 i)] []) S'∧RvsA p7 p1 p2 p3 (AEnd.ret (D.tup [D.sl N1 N0 (fun (_x:Nat) => []) Mode.nil,D.bool false])) S'
def bc5q3 (p0:Nat) (p1 p2:List UInt8):Prop := p0 ≤ LN p1∧∀ (j:Nat),j < p0→popB p2 p1 j = true
def bc5q4 (p0:Nat) (p1 p2:List UInt8) (p3:Bool) (p4 p5 p6:Nat) (p7:List UInt8):Prop := (SM p0∧(SM p1∧SM p2∧SM p3∧True)∧SM p4∧(SM p5∧SM p6∧∀ (i:Nat),i < p5→SM (bc5q1 p7 i))∧True)∧True
def bc5q5 (p0 p1:Nat):Int := IntKind.wrap IntKind.i64 (IntKind.wrap IntKind.i64 ((↑p0:Int) - Z1) - (↑p1:Int))
def bc5q6 (p0 p1:Nat):Nat := Int.toNat (bc5q5 p0 p1)
def bc5q7 (p0:List UInt8) (p1:Nat) (p2:List UInt8) (p3:Nat):Bool := (BI p0 (Int.toNat (↑p1:Int))) != (BI p2 (bc5q6 p3 p1))
def bc5q8 (p0:List UInt8) (p1:Nat) (p2:List UInt8) (p3:Nat):Bool := bif (BI p0 (Int.toNat (↑p1:Int))) != (42:Int) then bc5q7 p0 p1 p2 p3 else false
def bc5q9 (p0:Nat) (p1:List UInt8):Nat := Int.toNat (IntKind.wrap IntKind.i64 ((↑p0:Int) - (LI p1)))
def bc5q10 (p0:Nat) (p1 p2:List UInt8):Nat := bc5q9 p0 p1 + LN p2
end
theorem app_vs (x len cap : Nat) (st p q : List UInt8) (r : Bool) (hl : st.length = len) (hq : r = true → st.length + q.length ≤ 1000000 ∧ p.length ≤ 1000000) (hc : len ≤ cap) :
    ACalls Tryz.prog 70 [.vs 0 x len cap 1,.agg [.str p,.str q,.bool r]] ⟨[(0,x,.vec 1 len cap (brow st))],[]⟩ (fun e S => ∃ S',StTo S S'∧RvsA st p q r e S') := by
  refine call_of (E := Eapp (fun _ => false) st p q r [(0,x,.vec 1 len cap (brow st))] 1) (eOk con0_ok rfl) Tryz.func70 rfl (by kernel_rfl) rfl (by simp [Eapp,EC,E0]) ?_
  refine vc_eq (T :=
    ∀ (x_1:Nat),x ≠ x_1∧True→(SM x_1∧ifB (!r) (true = bc5q0 r len p∧True) (SM x_1∧decide ((↑len:Int) < (LI p)) = bc5q0 r len p∧True))∧ifB (bc5q0 r len p) (bc5q2 x_1 p q r x len cap st) (SM x_1∧(∃ (x_2:Nat),bc5q3 x_2 p st∧(Z0 = (↑x_2:Int)∧True)∧bc5q4 x_1 p q r x len cap st)∧∀ (x_2:Nat),bc5q3 x_2 p st→ifB (decide ((↑x_2:Int) < (LI p))) ((SM x_1∧side (Z0 ≤ (↑x_2:Int)∧(↑x_2:Int) < (LI p)) (ifB ((BI p (Int.toNat (↑x_2:Int))) != (42:Int)) (SM x_1∧side (Z0 ≤ (↑x_2:Int)∧(↑x_2:Int) < (LI p)) (side (Z0 ≤ bc5q5 len x_2∧bc5q5 len x_2 < (↑len:Int)) (SM x∧side (bc5q6 len x_2 < len) (bc5q7 p x_2 st len = bc5q8 p x_2 st len∧True)))) (false = bc5q8 p x_2 st len∧True)))∧ifB (bc5q8 p x_2 st len) (bc5q2 x_1 p q r x len cap st) ((SM (D.vs N0 x len cap N1)∧SM (D.ref N1 x_1 N0)∧SM (ZI (LI p))∧True)∧∃ (y:Nat),bc5q3 y p st∧LN p - y < LN p - x_2∧(IntKind.wrap IntKind.i64 ((↑x_2:Int) + Z1) = (↑y:Int)∧True)∧bc5q4 x_1 p q r x len cap st)) (SM x_1∧side (Z0 ≤ IntKind.wrap IntKind.i64 ((↑len:Int) - (LI p))∧IntKind.wrap IntKind.i64 ((↑len:Int) - (LI p)) ≤ (↑cap:Int)) (SM x_1∧SM x∧SM cap∧side (bc5q9 len p ≤ len∧bc5q10 len p q * N1 ≤ (140737488355328:Nat)∧bc5q10 len p q ≤ (9223372036854775807:Nat)) (∀ (y cap':Nat),bc5q10 len p q ≤ cap'→True∧∃ (S':St),StTo (St.mk [(N0,y,AObj.vec N1 (bc5q10 len p q) cap' (appF (bc5q9 len p) (fun (i:Nat) => bc5q1 st i) fun (i:Nat) => bc5q1 q i)),(N1,x_1,AObj.cells [D.str p,D.str q,D.bool r])] []) S'∧RvsA st p q r (AEnd.ret (D.tup [D.vs N0 y (bc5q10 len p q) cap' N1,D.bool true])) S'))))) (by kernel_rfl) ?_
  delta BI LI LN N0 N1 SM U0 Z0 Z1 ZB ZI bc5q0 bc5q1 bc5q10 bc5q2 bc5q3 bc5q4 bc5q5 bc5q6 bc5q7 bc5q8 bc5q9
  simp only [ifB_iff,side_iff,decide_eq_true_eq,decide_eq_false_iff_not,true_and,and_true,bne_iff_ne,Bool.cond_false_right,Bool.cond_true_left,Bool.and_eq_true,Bool.and_eq_false_iff,ne_eq]
  intro xe hne
  subst hl
  have fail:∀ S,okA st p r = false→∃ S',StTo S S'∧RvsA st p q r (AEnd.ret (D.tup [D.sl 1 0 (fun _ => []) Mode.nil,D.bool false])) S' := fun S h => ⟨⟨[],[]⟩,StTo.none _,.inr ⟨h,rfl,rfl⟩⟩
  refine ⟨⟨by cases r <;> simp,by cases r <;> simp⟩,fun h => fail _ ?_,fun h => ⟨⟨0,⟨by omega,fun j hj => absurd hj (Nat.not_lt_zero j)⟩,rfl,fun _ _ => trivial⟩,fun i hi => ⟨fun hlt => ?_,fun hge => ?_⟩⟩⟩
  · simp only [Bool.or_eq_true,Bool.not_eq_true',decide_eq_true_eq] at h
    rcases h with h | h
    · simp [okA,h]
    · have:¬ p.length ≤ st.length := by omega
      simp [okA,this]
  · simp only [Bool.or_eq_false_iff,Bool.not_eq_false',decide_eq_false_iff_not] at h
    obtain ⟨hq,hp⟩ := hq h.1
    have hlt':i < p.length := by omega
    have hw:IntKind.i64.wrap (IntKind.i64.wrap ((st.length:Int) - 1) - (i:Int)) = ((st.length - 1 - i:Nat):Int) := by
      rw [wrap_i64' (n := (st.length:Int) - 1) (by omega) (by omega),wrap_i64' (by omega) (by omega)]; omega
    simp only [hw,Int.toNat_natCast]
    refine ⟨⟨by omega,fun h42 => ⟨by omega,by omega,by omega,?_⟩,fun h42 => ?_⟩,fun hb => fail _ (okA_false hlt' (popB_not hb.1 hb.2)),fun hb => ⟨i + 1,⟨by omega,fun j hj => ?_⟩,by omega,wrap_i64' (by omega) (by omega),fun _ _ => trivial⟩⟩
    · exact bne_and h42
    · exact bne_and' h42
    · by_cases e:j = i
      · subst e
        refine popB_of (hb.imp (fun h => ?_) (fun h => ?_))
        · simpa using h
        · simpa using h
      · exact hi.2 j (by omega)
  · simp only [Bool.or_eq_false_iff,Bool.not_eq_false',decide_eq_false_iff_not] at h
    obtain ⟨hq,hp⟩ := hq h.1
    have hw:IntKind.i64.wrap ((st.length:Int) - (p.length:Int)) = ((st.length - p.length:Nat):Int) := by
      rw [wrap_i64' (by omega) (by omega)]; omega
    have hip:i = p.length := by omega
    subst hip
    simp only [hw,Int.toNat_natCast]
    refine ⟨by omega,by omega,fun y cap' hcap => ⟨_,leS_to ?_,.inl ⟨okA_true h.1 (by omega) hi.2,y,cap',?_,?_,rfl⟩⟩⟩
    · simp only [leS,chk_iff,leO,leT,getO,nodupB,List.map_cons,List.map_nil,weakO]
      refine ⟨by simp,⟨rfl,?_,trivial⟩,trivial⟩
      simp only []
      refine ⟨by simp,by simp [newA],trivial,fun j hj => app_rows (by omega) hj⟩
    · simp [newA]; omega
    · have:(newA st p q).length = st.length - p.length + q.length := by simp [newA]
      rw [this]
noncomputable section
def bc5q11 (p0:Bool) (p1:List UInt8):Bool := bif !p0 then true else decide ((NI N0) < (LI p1))
def bc5q12 (p0:Nat) (p1:List UInt8):Prop := p0 ≤ LN p1∧∀ (j:Nat),j < p0→popB [] p1 j = true
end
theorem app_nil (p q : List UInt8) (r : Bool) (hq : r = true → q.length ≤ 1000000 ∧ p.length ≤ 1000000) :
    ACalls Tryz.prog 70 [nilB,.agg [.str p,.str q,.bool r]] ⟨[],[]⟩ (fun e S => ∃ S',StTo S S'∧RnilA p q r e S') := by
  refine call_of (E := Eapp (fun k => Nat.beq k 67) [] p q r [] 0) (eOk con0_ok rfl) Tryz.func70 rfl (by kernel_rfl) rfl (by simp [Eapp,EC,E0]) ?_
  refine vc_eq (T :=
    ∀ (x:Nat),True→(SM x∧ifB (!r) (true = bc5q11 r p∧True) (SM x∧decide (Z0 < (LI p)) = bc5q11 r p∧True))∧ifB (bc5q11 r p) (True∧∃ (S':St),StTo (St.mk [(N0,x,AObj.cells [D.str p,D.str q,D.bool r])] []) S'∧RnilA p q r (AEnd.ret (D.tup [D.sl N1 N0 (fun (x:Nat) => []) Mode.nil,D.bool false])) S') (SM x∧(∃ (x_1:Nat),bc5q12 x_1 p∧(Z0 = (↑x_1:Int)∧True)∧(SM x∧(SM p∧SM q∧SM r∧True)∧True)∧True)∧∀ (x_1:Nat),bc5q12 x_1 p→ifB (decide ((↑x_1:Int) < (LI p))) ((SM x∧side (Z0 ≤ (↑x_1:Int)∧(↑x_1:Int) < (LI p)) (ifB ((BI p (Int.toNat (↑x_1:Int))) != (42:Int)) (SM x∧side (Z0 ≤ (↑x_1:Int)∧(↑x_1:Int) < (LI p)) (side (Z0 ≤ IntKind.wrap IntKind.i64 ((-1:Int) - (↑x_1:Int))∧IntKind.wrap IntKind.i64 ((-1:Int) - (↑x_1:Int)) < Z0) False)) (True∧True)))∧False) (SM x∧side (Z0 ≤ Z0∧Z0 ≤ IntKind.wrap IntKind.i64 (Z0 - (LI p))∧IntKind.wrap IntKind.i64 (Z0 - (LI p)) ≤ Z0) (SM x∧side (LN q * N1 ≤ (140737488355328:Nat)∧LN q ≤ (9223372036854775807:Nat)) (ifB (Nat.beq (LN q) N0) (True∧∃ (S':St),StTo (St.mk [(N0,x,AObj.cells [D.str p,D.str q,D.bool r])] []) S'∧RnilA p q r (AEnd.ret (D.tup [D.sl N1 N0 (fun (x:Nat) => []) Mode.nil,D.bool true])) S') (∀ (y cap':Nat),x ≠ y∧True→LN q ≤ cap'→True∧∃ (S':St),StTo (St.mk [((11:Nat),y,AObj.vec N1 (LN q) cap' fun (i:Nat) => [ZB (BI q i)]),(N0,x,AObj.cells [D.str p,D.str q,D.bool r])] []) S'∧RnilA p q r (AEnd.ret (D.tup [D.vs (11:Nat) y (LN q) cap' N1,D.bool true])) S')))))) (by kernel_rfl) ?_
  delta BI LI LN N0 N1 NI SM U0 Z0 ZB bc5q11 bc5q12
  simp only [ifB_iff,side_iff,decide_eq_true_eq,decide_eq_false_iff_not,true_and,and_true,bne_iff_ne,Bool.cond_true_left,ne_eq]
  intro xe _
  have fail:∀ S,okA [] p r = false→∃ S',StTo S S'∧RnilA p q r (AEnd.ret (D.tup [D.sl 1 0 (fun _ => []) Mode.nil,D.bool false])) S' := fun S h => ⟨⟨[],[]⟩,StTo.none _,.inr ⟨h,rfl,rfl⟩⟩
  refine ⟨⟨by cases r <;> simp,by cases r <;> simp⟩,fun h => fail _ ?_,fun h => ⟨⟨0,⟨by omega,fun j hj => absurd hj (Nat.not_lt_zero j)⟩,rfl⟩,fun i hi => ?_⟩⟩
  · simp only [Bool.or_eq_true,Bool.not_eq_true',decide_eq_true_eq] at h
    rcases h with h | h
    · simp [okA,h]
    · have:p ≠ [] := by rintro rfl; simp at h
      simp [okA,this]
  · simp only [Bool.or_eq_false_iff,Bool.not_eq_false',decide_eq_false_iff_not] at h
    obtain ⟨hq,hp⟩ := hq h.1
    have hp0:p = [] := List.eq_nil_of_length_eq_zero (by omega)
    subst hp0
    have hi0:i = 0 := by simpa using hi.1
    subst hi0
    refine ⟨fun hlt => by simp at hlt,fun _ => ?_⟩
    have hw:IntKind.i64.wrap (0 - (([]:List UInt8).length:Int)) = 0 := by rw [wrap_i64'] <;> simp
    have hok:okA [] [] r = true := by simp [okA,h.1]
    refine ⟨by rw [hw]; omega,by omega,fun hz => ?_,fun hz y cap' _ hcap => ?_⟩
    · have hq0:q = [] := List.eq_nil_of_length_eq_zero (Nat.eq_of_beq_eq_true hz)
      exact ⟨⟨[],[]⟩,StTo.none _,.inl ⟨hok,.inl ⟨hq0,rfl,rfl⟩⟩⟩
    · have hq0:q ≠ [] := by rintro rfl; simp at hz
      refine ⟨_,leS_to ?_,.inl ⟨hok,.inr ⟨hq0,_,y,cap',hcap,rfl,rfl⟩⟩⟩
      simp only [leS,chk_iff,leO,leT,getO,nodupB,List.map_cons,List.map_nil,weakO]
      exact ⟨by simp,⟨by simp,by simp [brow],trivial⟩,trivial⟩
end Go.Proofs.YtflbmbkhjcbhoaaGreatDoor
namespace Go.Proofs.YtflbmbkhjcbhoaaGreatDoor
open Go Go.Ab
abbrev stT (k x len cap:Nat) (l:List UInt8):St := ⟨[(k,x,.vec 1 len cap (brow l))],[]⟩
def _root_.Go.Ab.inlA (k:Nat) (ds:List D) (S:St) (R:AEnd→St→Prop):Prop :=
  match k with
  | 70 => match ds with
    | [.sl 1 0 _ .nil, .agg [.str p, .str q, .bool r]] => (r = true → q.length ≤ 1000000 ∧ p.length ≤ 1000000) ∧ ifB (okA [] p r)
        (ifB q.isEmpty (R (.ret (.tup [nilB,.bool true])) S) (∀ x cap,q.length ≤ cap→R (.ret (.tup [.vs (nextTag S.objs) x q.length cap 1,.bool true])) (S.new x (.vec 1 q.length cap (brow q)))))
        (R (.ret (.tup [nilB,.bool false])) S)
    | [.vs k x len cap 1, .agg [.str p, .str q, .bool r]] => ∃ st : List UInt8, (st.length = len ∧ len ≤ cap ∧ (r = true → st.length + q.length ≤ 1000000 ∧ p.length ≤ 1000000) ∧ leS ⟨[(k, x, .vec 1 len cap (brow st))], []⟩ S) ∧ ifB (okA st p r)
        (∀ x' cap',(newA st p q).length ≤ cap'→R (.ret (.tup [.vs k x' (newA st p q).length cap' 1,.bool true])) ((⟨[(k,x',.vec 1 (newA st p q).length cap' (brow (newA st p q)))],[]⟩:St).add (S.less ⟨[(k,x,.vec 1 len cap (brow st))],[]⟩)))
        (R (.ret (.tup [nilB,.bool false])) (S.less ⟨[(k,x,.vec 1 len cap (brow st))],[]⟩))
    | _ => False
  | _ => False
theorem StTo.pos {S S':St} (h:posS S S'):StTo S S' := fun _ _ _ H => H.pos h
theorem StTo.frame {S S':St} (h:StTo S S') (G:St):StTo (S.add G) (S'.add G) := fun C F w H => by
  rw [St.add_assoc] at H ⊢
  exact h C (G.add F) w H
theorem StTo.tag {k k' x w n c:Nat} {f:Nat→List D} (G:St):StTo ((⟨[(k,x,.vec w n c f)],[]⟩:St).add G) ((⟨[(k',x,.vec w n c f)],[]⟩:St).add G) :=
  StTo.frame (StTo.pos (S := ⟨[(k,x,.vec w n c f)],[]⟩) (S' := ⟨[(k',x,.vec w n c f)],[]⟩) ⟨⟨rfl,by simp [weakO,chk_iff],trivial⟩,trivial⟩) G
theorem wEnd (d:D):weakEnd (.ret d) (.ret d) := weakD_refl d
theorem ifB_true {b:Bool} {X Y:Prop} (h:ifB b X Y) (hb:b = true):X := by subst hb; exact h
theorem ifB_false {b:Bool} {X Y:Prop} (h:ifB b X Y) (hb:b = false):Y := by subst hb; exact h
theorem inlA_ok (k:Nat) (ds:List D) (S:St) (R:AEnd→St→Prop) (h:inlA k ds S R):ACalls Tryz.prog k ds S R := by
  unfold inlA at h
  split at h
  · split at h
    · rename_i f p q r
      obtain ⟨h1,h3⟩ := h
      have hc := ((app_nil p q r h1).frame S).from (S := S) (fun C F w H => by simpa [St.add] using H)
      have hc := ACalls.weakArgs (ds := [.sl 1 0 f .nil,.agg [.str p,.str q,.bool r]]) hc ⟨by simp [nilB,weakD,chk_iff,weakM],weakL_refl _⟩
      refine hc.weaken ?_
      rintro e S2 ⟨S0,⟨S0',hs,hR⟩,rfl⟩
      rcases hR with ⟨ho,⟨hq,rfl,rfl⟩ | ⟨hq,k,x,cap,hcap,rfl,rfl⟩⟩ | ⟨ho,rfl,rfl⟩
      · subst hq
        exact ⟨_,S,wEnd _,fun C F w H => by simpa [St.add] using StTo.frame (S := S0) hs S C F w H,ifB_true (ifB_true h3 ho) rfl⟩
      · refine ⟨_,_,?_,(StTo.frame (S := S0) hs S).trans (StTo.tag (k' := nextTag S.objs) S),ifB_false (ifB_true h3 ho) (by cases q <;> simp_all) x cap hcap⟩
        simp [weakEnd,weakD,weakL,chk_iff]
      · exact ⟨_,S,wEnd _,fun C F w H => by simpa [St.add] using StTo.frame (S := S0) hs S C F w H,ifB_false h3 ho⟩
    · rename_i k x len cap p q r
      obtain ⟨st,⟨h1,h2,h3,h5⟩,h6⟩ := h
      have hc := ((app_vs x len cap st p q r h1 h3 h2).frame (S.less (stT k x len cap st))).from (S := S) (fun C F w H => (StTo.frame (StTo.pos (S := stT k x len cap st) (S' := stT 0 x len cap st) ⟨⟨rfl,by simp [weakO,chk_iff],trivial⟩,trivial⟩) _) C F w (H.split h5))
      have hc := ACalls.weakArgs (ds := [.vs k x len cap 1,.agg [.str p,.str q,.bool r]]) hc ⟨by simp [weakD,chk_iff],weakL_refl _⟩
      refine hc.weaken ?_
      rintro e S2 ⟨S0,⟨S0',hs,hR⟩,rfl⟩
      rcases hR with ⟨ho,x',cap',hcap,rfl,rfl⟩ | ⟨ho,rfl,rfl⟩
      · refine ⟨_,_,?_,(StTo.frame (S := S0) hs _).trans (StTo.tag (k' := k) _),ifB_true h6 ho x' cap' hcap⟩
        simp [weakEnd,weakD,weakL,chk_iff]
      · exact ⟨_,S.less (stT k x len cap st),wEnd _,fun C F w H => by simpa [St.add] using StTo.frame (S := S0) hs _ C F w H,ifB_false h6 ho⟩
    · exact h.elim
  · exact h.elim
end Go.Proofs.YtflbmbkhjcbhoaaGreatDoor
namespace Go.Proofs.YtflbmbkhjcbhoaaGreatDoor
open Go Go.Ab
def stepS (c:CodD) (f i:Nat) (x:I4) (st:List UInt8):Option (List UInt8) :=
  match effC c f x with
  | none => none
  | some e => if okA st e.1 true = true∧¬ x.d < 0∧¬ ((x.a = 25∨x.a = 24)∧newA st e.1 e.2 ≠ [])∧¬ (x.a = 24∧x.b ≤ i) then some (newA st e.1 e.2) else none
def runS (c:CodD) (f:Nat):Nat→List I4→List UInt8→Nat→Option Nat
  | _,[],_,deep => some deep
  | i,x :: r,st,deep => match stepS c f i x st with
    | none => none
    | some nx => runS c f (i + 1) r nx (max deep nx.length)
def empS (c:CodD) (f:Nat):Nat→List I4→List UInt8→List Bool
  | _,[],_ => []
  | i,x :: r,st => st.isEmpty :: match stepS c f i x st with
    | none => []
    | some nx => empS c f (i + 1) r nx
def guardsB (em:List Bool) (code:List I4):Bool := code.all fun x => decide (x.a ≠ 24) || em.getD x.b.toNat false
def funS (c:CodD) (f:Nat):Option Nat :=
  let fd := c.funs.getD f default
  if between fd.slots 0 1000 = true∧fd.code ≠ []∧(fd.code.getD (fd.code.length - 1) default).a = 25 then
    match runS c f 0 fd.code [] 0 with
    | none => none
    | some d => if guardsB (empS c f 0 fd.code []) fd.code then some d else none
  else none
def funD (e:Option Nat):D := .tup [.int .i64 (e.getD 0:Nat),.bool e.isSome]
def conF (c:CodD) (f:Nat):Con := fun k ds S => match k with
  | 69 => match ds with
    | [a0,a1,.agg [.int .i64 a,.int .i64 b,.int .i64 d,.int .i64 e]] => some (pQ [.agg c.row,.int .i64 f,.agg (I4.row ⟨a,b,d,e⟩)] (offD (effC c f ⟨a,b,d,e⟩)) (offQ (effC c f ⟨a,b,d,e⟩)) (weakL [a0,a1] [.agg c.row,.int .i64 f]∧I4.ok ⟨a,b,d,e⟩))
    | _ => none
  | k => conE k ds S
theorem conF_ok {c:CodD} {f:Nat} (hf:f < c.funs.length) (hc:c.ok):ConOk Tryz.prog (conF c f) := by
  intro k ds S A h
  unfold conF at h
  split at h
  · split at h
    · injection h with h; subst h
      exact pQ_ok fun ⟨hw,hx⟩ => ⟨⟨hw.1,hw.2.1,weakD_refl _,trivial⟩,(of_ok c f ⟨_,_,_,_⟩ hf hc hx).mono fun _ _ h => h⟩
    · cases h
  · exact conE_ok _ _ _ _ h
noncomputable def _root_.Go.Ab.inlF (con:Con) (k:Nat) (ds:List D) (S:St) (R:AEnd→St→Prop):Prop :=
  match Nat.beq k 70 with
  | true => inlA k ds S R
  | false => inlD { E0 con 0 0 [] (fun _ => ([],[])) with auto := true } (frmGet frames) 9 k ds S R
theorem inlF_ok {con:Con} (hc:ConOk Tryz.prog con) (k:Nat) (ds:List D) (S:St) (R:AEnd→St→Prop) (h:inlF con k ds S R):ACalls Tryz.prog k ds S R := by
  unfold inlF at h
  split at h
  · exact inlA_ok _ _ _ _ h
  · exact inlD_ok (E := { E0 con 0 0 [] (fun _ => ([],[])) with auto := true }) tab_ok hc mix frames_ok eqs_ok 9 k ds S R h
noncomputable def EF (c:CodD) (f:Nat):Senv := { EC (conF c f) 139 3 [4,5,6,7,8,9,10,11,12,13,14,15,16,17,19,45,49,50,51,52,73,108,116,117,118,119,136] (fun _ => ([],[])) with inl := inlF (conF c f) }
def erow (l:List Bool):Nat→List D := fun i => [.bool (l.getD i false)]
structure FunHead (c:CodD) (f:Nat) (i:Nat) (st:List UInt8) (deep:Nat) (em:List Bool):Prop where
  hi:i ≤ (c.funs.getD f default).code.length
  hs:st.length ≤ i
  hd:deep ≤ 65536
  hr:runS c f i ((c.funs.getD f default).code.drop i) st deep = runS c f 0 (c.funs.getD f default).code [] 0
  hl:em.length = (c.funs.getD f default).code.length
  he:em.take i ++ empS c f i ((c.funs.getD f default).code.drop i) st = empS c f 0 (c.funs.getD f default).code []
abbrev O4 := D × D × D × D
def O4.row (d:O4):List D := [d.1,d.2.1,d.2.2.1,d.2.2.2]
def CB (c:CodD) (d:O4):Prop := d.row = c.row
def cutF (c:CodD) (f:Nat) (d2:D):Option LoopAnn :=
  match d2 with
  | .ref _ x2 _ => some
    { slots := [6],keep := [],α := Nat × FnD × O4
      st := fun y => ([.ref 1 y.1 0],⟨[(1,y.1,.cells (FnD.row y.2.1)),(0,x2,.cells (O4.row y.2.2))],[]⟩)
      inv := fun y => y.2.1 = c.funs.getD f default∧CB c y.2.2,mu := fun _ => 0 }
  | _ => none
def annF1 (c:CodD) (f n:Nat) (os:List (Nat × Nat × AObj)):Option (LoopAnn × LoopAnn) :=
  match os with
  | [(_,x9,.vec _ _ _ _),(_,x6,.cells fn),(_,x2,.cells cc)] => some
    ({ slots := [51, 8, 10], keep := [1, 2, 6, 7, 9, 11, 49, 50], α := Nat × Nat × List Bool
       st := fun y => ([.int .i64 y.1,nilB,.int .i64 y.2.1],⟨[(2,x9,.vec 1 n n (erow y.2.2)),(1,x6,.cells fn),(0,x2,.cells cc)],[]⟩)
       inv := fun y => FunHead c f y.1 [] y.2.1 y.2.2,mu := fun y => n - y.1 },
     { slots := [51,8,10],keep := [1,2,6,7,9,11,49,50],α := (Nat × Nat × List Bool) × List UInt8 × Nat × Nat
       st := fun y => ([.int .i64 y.1.1,.vs 3 y.2.2.1 y.2.1.length y.2.2.2 1,.int .i64 y.1.2.1],⟨[(3,y.2.2.1,.vec 1 y.2.1.length y.2.2.2 (brow y.2.1)),(2,x9,.vec 1 n n (erow y.1.2.2)),(1,x6,.cells fn),(0,x2,.cells cc)],[]⟩)
       inv := fun y => FunHead c f y.1.1 y.2.1 y.1.2.1 y.1.2.2∧y.2.1.length ≤ y.2.2.2,mu := fun y => n - y.1.1 })
  | _ => none
def MidInv (c:CodD) (f:Nat) (dp:Nat) (r:Bool) (em:List Bool):Prop :=
  (r = true∧runS c f 0 (c.funs.getD f default).code [] 0 = some dp∧em = empS c f 0 (c.funs.getD f default).code [])∨(r = false∧runS c f 0 (c.funs.getD f default).code [] 0 = none)
def annB (c:CodD) (f n:Nat) (os:List (Nat × Nat × AObj)):Option LoopAnn :=
  match os with
  | [(_,x9,.vec _ _ _ _),(_,x6,.cells fn),_] => some
    { slots := [10,11],keep := [6,9],α := Nat × Bool × List Bool
      st := fun y => ([.int .i64 y.1,.bool y.2.1],⟨[(2,x9,.vec 1 n n (erow y.2.2)),(1,x6,.cells fn)],[]⟩)
      inv := fun y => MidInv c f y.1 y.2.1 y.2.2,mu := fun _ => 0 }
  | _ => none
def annF2 (c:CodD) (f n:Nat) (d9 d10 d11:D) (emOf:Nat→List D):Option LoopAnn :=
  match d9,d10,d11 with
  | .vs _ x9 _ _ _,.int _ _,.bool r0 => some
    { slots := [118,11],keep := [9,10,116,117],α := Nat × Bool
      st := fun y => ([.int .i64 y.1,.bool y.2],⟨[(2,x9,.vec 1 n n emOf)],[]⟩)
      inv := fun y => y.1 ≤ n∧(y.2 = false→y.1 = 0∧r0 = false)∧(y.2 = true→r0 = true∧guardsB (empS c f 0 (c.funs.getD f default).code []) ((c.funs.getD f default).code.take y.1) = true)
      mu := fun y => n - y.1 }
  | _,_,_ => none
def vecOf (S:St):Nat→List D :=
  match S.objs with
  | (_,_,.vec _ _ _ f) :: _ => f
  | _ => fun _ => []
theorem gu_len {b:Bool} {p q:List UInt8} {e:Eff} (h:gu b (p,q) = some e) (hp:b = true→p.length ≤ 1000) (hq:q.length ≤ 1):e.1.length ≤ 1000∧e.2.length ≤ 1 := by
  unfold gu at h
  split at h
  · injection h with h; subst h; exact ⟨hp ‹_›,hq⟩
  · cases h
theorem some_len {p q:List UInt8} {e:Eff} (h:some (p,q) = some e) (hp:p.length ≤ 1000) (hq:q.length ≤ 1):e.1.length ≤ 1000∧e.2.length ≤ 1 := by
  injection h with h; subst h; exact ⟨hp,hq⟩
def LenOk (o:Option Eff):Prop := ∀ e,o = some e→e.1.length ≤ 1000∧e.2.length ≤ 1
theorem LenOk.ite {c:Prop} [Decidable c] {a b:Option Eff} (ha:LenOk a) (hb:LenOk b):LenOk (if c then a else b) := by
  split <;> assumption
theorem LenOk.none:LenOk none := fun _ h => nomatch h
theorem eff_len {c:CodD} {f:Nat} {x:I4}:∀ {e:Eff},effC c f x = some e→e.1.length ≤ 1000∧e.2.length ≤ 1 := by
  have:LenOk (effC c f x) := by
    unfold effC effS plainS
    repeat' (first
      | exact LenOk.none
      | refine fun e h => some_len h ?_ ?_
      | refine fun e h => gu_len h ?_ ?_
      | apply LenOk.ite)
    all_goals first
      | (simp; done)
      | (intro hb
         generalize (c.kers.getD x.b.toNat default).inputs = ki at *
         simp only [between,Bool.and_eq_true,decide_eq_true_eq] at hb
         rw [Lib.repeatL_length]
         simp only [List.length_singleton]
         omega)
  exact fun {e} h => this e h
theorem eff_guard {c:CodD} {f:Nat} {x:I4} {e:Eff} (h:effC c f x = some e) (ha:x.a = 24):0 ≤ x.b∧x.b < ((c.funs.getD f default).code.length:Int) := by
  unfold effC effS gu between at h
  generalize (c.funs.getD f default).code.length = n at *
  simp only [ha] at h
  simp at h
  omega
theorem newA_length (st p q:List UInt8):(newA st p q).length = st.length - p.length + q.length := by simp [newA]
theorem step_len {c:CodD} {f i:Nat} {x:I4} {st nx:List UInt8} (h:stepS c f i x st = some nx):nx.length ≤ st.length + 1 := by
  unfold stepS at h
  split at h
  · cases h
  · rename_i e he
    split at h
    · simp only [Option.some.injEq] at h
      subst h
      rw [newA_length]
      have := (eff_len he).2
      omega
    · cases h
theorem FunHead.next {c : CodD} {f i : Nat} {st : List UInt8} {deep : Nat} {em : List Bool} (h : FunHead c f i st deep em) (hn : (c.funs.getD f default).code.length ≤ 65536) (hlt : i < (c.funs.getD f default).code.length) {nx : List UInt8}
    (hs:stepS c f i ((c.funs.getD f default).code.getD i default) st = some nx):FunHead c f (i + 1) nx (max deep nx.length) (em.set i st.isEmpty) := by
  have hl := step_len hs
  have h1 := h.hs
  have hd := drop_step hlt
  refine ⟨by omega,by omega,by have := h.hd; omega,?_,by simpa using h.hl,?_⟩
  · have := h.hr
    rw [hd,runS,hs] at this
    exact this
  · have := h.he
    rw [hd,empS,hs] at this
    rw [← this]
    have hlm := h.hl
    rw [List.take_add_one,List.take_set_of_le (Nat.le_refl i)]
    simp [show i < em.length by omega]
theorem FunHead.fail {c : CodD} {f i : Nat} {st : List UInt8} {deep : Nat} {em : List Bool} (h : FunHead c f i st deep em) (hlt : i < (c.funs.getD f default).code.length)
    (hs:stepS c f i ((c.funs.getD f default).code.getD i default) st = none):runS c f 0 (c.funs.getD f default).code [] 0 = none := by
  have := h.hr
  rw [drop_step hlt,runS,hs] at this
  exact this.symm
theorem FunHead.done {c:CodD} {f i:Nat} {st:List UInt8} {deep:Nat} {em:List Bool} (h:FunHead c f i st deep em) (hge:¬ i < (c.funs.getD f default).code.length):MidInv c f deep true em := by
  have hi:i = (c.funs.getD f default).code.length := by have := h.hi; omega
  have h1 := h.hr
  have h2 := h.he
  rw [hi,List.drop_length] at h1 h2
  refine .inl ⟨rfl,?_,?_⟩
  · rw [← h1,runS]
  · rw [← h2,empS,List.append_nil,← h.hl,List.take_length]
theorem upd_row (em:List Bool) (i:Nat) (b:Bool) (hi:i < em.length) (j:Nat):updF (fun i => [D.bool (em.getD i false)]) i [D.bool b] j = [D.bool ((em.set i b).getD j false)] := by
  simp only [updF]
  split
  · rename_i e; subst e
    simp [List.getD_eq_getElem?_getD,hi]
  · rename_i e
    simp [List.getD_eq_getElem?_getD,List.getElem?_set_ne (Ne.symm e)]
theorem run_mem {c:CodD} {f:Nat}:∀ (l:List I4) (i:Nat) (st:List UInt8) (d r:Nat),runS c f i l st d = some r→∀ x ∈ l,∃ e,effC c f x = some e
  | [],_,_,_,_,_,x,hx => by cases hx
  | y :: l,i,st,d,r,h,x,hx => by
    rw [runS] at h
    split at h
    · cases h
    · rename_i nx hs
      rcases List.mem_cons.1 hx with rfl | hx
      · unfold stepS at hs
        split at hs
        · cases hs
        · exact ⟨_,‹_›⟩
      · exact run_mem l _ _ _ _ h x hx
theorem getD_mem {α:Type} [Inhabited α] {l:List α} {i:Nat} (h:i < l.length):l.getD i default ∈ l := by
  rw [List.getD_eq_getElem?_getD,List.getElem?_eq_getElem h]; exact List.getElem_mem h
theorem guard_one {x:I4} {b:Bool} (h:(!(true && (x.a != 24 || b))) = false):(decide (x.a ≠ 24) || b) = true∧(true && (x.a != 24 || b)) = true := by
  cases b <;> simp_all
theorem ops1 {a:Int}:(a = 25→true = (a == 25 || a == 24))∧(¬ a = 25→(a == 24) = (a == 25 || a == 24)) := ⟨fun h => by simp [h],fun h => by simp [h]⟩
theorem ops2 {p:Bool} {a:Int} {d:Bool}:(p = true→(a = 24→d = (p && false || a == 24 && d))∧(¬ a = 24→false = (p && false || a == 24 && d)))∧(p = false→(a = 24→d = (p && false || a == 24 && d))∧(¬ a = 24→false = (p && false || a == 24 && d))) :=
  ⟨fun _ => ⟨fun h => by simp [h],fun h => by simp [h]⟩,fun _ => ⟨fun h => by simp [h],fun h => by simp [h]⟩⟩
theorem ops3 {p:Bool} {a:Int} {d:Bool} {n:Nat}:(p = true→(0 < (n:Int)→true = (p && decide (0 < (n:Int)) || a == 24 && d))∧(¬ 0 < (n:Int)→(a = 24→d = (p && decide (0 < (n:Int)) || a == 24 && d))∧(¬ a = 24→false = (p && decide (0 < (n:Int)) || a == 24 && d))))∧(p = false→(a = 24→d = (p && decide (0 < (n:Int)) || a == 24 && d))∧(¬ a = 24→false = (p && decide (0 < (n:Int)) || a == 24 && d))) :=
  ⟨fun hp => ⟨fun h => by rw [hp,decide_eq_true h]; rfl,fun h => ⟨fun ha => by rw [decide_eq_false h]; simp [ha],fun ha => by rw [decide_eq_false h]; simp [ha]⟩⟩,fun hp => ⟨fun ha => by rw [hp]; simp [ha],fun ha => by rw [hp]; simp [ha]⟩⟩
theorem step_cond {c : CodD} {f i : Nat} {x : I4} {st : List UInt8} {y : Eff} (he : effC c f x = some y) (hok : okA st y.1 true = true) (hd : ¬ x.d < 0) {b : Bool} (hb : b = decide (newA st y.1 y.2 ≠ [])) :
    (((x.a == 25 || x.a == 24) && b || x.a == 24 && decide (x.b ≤ i)) = true→stepS c f i x st = none)∧(((x.a == 25 || x.a == 24) && b || x.a == 24 && decide (x.b ≤ i)) = false→stepS c f i x st = some (newA st y.1 y.2)) := by
  subst hb
  unfold stepS
  rw [he]
  simp only [hok]
  refine ⟨fun h => ?_,fun h => ?_⟩
  · rw [if_neg]
    rintro ⟨_,_,h1,h2⟩
    simp only [Bool.or_eq_true,Bool.and_eq_true,beq_iff_eq,decide_eq_true_eq] at h
    rcases h with h | h
    · exact h1 h
    · exact h2 h
  · simp only [Bool.or_eq_false_iff] at h
    rw [if_pos]
    refine ⟨trivial,hd,fun h1 => ?_,fun h2 => ?_⟩
    · have := h.1
      rw [Bool.and_eq_false_iff] at this
      rcases this with h3 | h3
      · rcases h1.1 with h4 | h4 <;> simp [h4] at h3
      · simp [h1.2] at h3
    · have := h.2
      simp [h2.1,h2.2] at this
theorem lenB {l:List UInt8}:decide (0 < (l.length:Int)) = decide (l ≠ []) := by
  cases l with
  | nil => rfl
  | cons a l => simp
theorem maxI (a b:Nat):(if (a:Int) < (b:Int) then (b:Int) else (a:Int)) = ((max a b:Nat):Int) := by
  split <;> omega
theorem maxI0 (a:Nat):(if (a:Int) < 0 then (0:Int) else (a:Int)) = (a:Int) := by
  split <;> omega
noncomputable def E39 (c:CodD) (f:Nat):Senv := { EF c f with
  mg := fun id => match id with
    | 13 => 2
    | _ => 0
  cut := fun id env _ => match id with
    | 1 => cutF c f (Ab.look env 2)
    | _ => none
  ann2 := fun b _ S => match b with
    | 0 => annF1 c f (c.funs.getD f default).code.length S.objs
    | _ => none
  ann := fun b env S => match b with
    | 2 => annF2 c f (c.funs.getD f default).code.length (Ab.look env 9) (Ab.look env 10) (Ab.look env 11) (vecOf S)
    | _ => none
  bcut := fun b _ S => match b with
    | 0 => annB c f (c.funs.getD f default).code.length S.objs
    | _ => none }
noncomputable section
def bc7q0 (p0:CodD):List FnD := CodD.funs p0
def bc7q1:FnD := DF
def bc7q2 (p0:CodD) (p1:Nat):FnD := List.getD (bc7q0 p0) p1 bc7q1
def bc7q3 (p0:FnD) (p1:CodD) (p2:Nat) (p3:O4):Prop := p0 = bc7q2 p1 p2∧CB p1 p3
def bc7q4 (p0:Nat):Nat := Int.toNat (↑p0:Int)
def bc7q5 (p0:CodD) (p1:Nat):FnD := List.getD (bc7q0 p0) (bc7q4 p1) bc7q1
def bc7q6 (p0:FnD):Int := FnD.slots p0
def bc7q7 (p0:CodD) (p1:Nat):List I4 := FnD.code (bc7q5 p0 p1)
def bc7q8 (p0:CodD) (p1:Nat):Nat := LN (bc7q7 p0 p1)
def bc7q9 (p0:FnD):List I4 := FnD.code p0
def bc7q10 (p0:FnD):Nat := LN (bc7q9 p0)
def bc7q11:I4 := D4
def bc7q12 (p0:CodD) (p1 p2:Nat):I4 := List.getD (bc7q7 p0 p1) p2 bc7q11
def bc7q13 (p0:FnD) (p1:Nat):I4 := List.getD (bc7q9 p0) p1 bc7q11
def bc7q14 (p0:FnD) (p1:Nat):List D := (R4 (bc7q13 p0 p1))
def bc7q15 (p0:CodD):D := D.sl N4 (LN (CodD.consts p0)) (fun (i:Nat) => Arr.row (GC p0 i)) Mode.any
def bc7q16 (p0:CodD) (p1:Nat):List I4 := FnD.code (bc7q2 p0 p1)
def bc7q17 (p0:CodD) (p1:Nat):Nat := LN (bc7q16 p0 p1)
def bc7q18 (p0:CodD) (p1 p2:Nat):I4 := List.getD (bc7q16 p0 p1) p2 bc7q11
def bc7q19 (p0:CodD):D := D.sl N2 (LN (bc7q0 p0)) (fun (i:Nat) => [ZI (FnD.slots (bc7q2 p0 i)),D.sl N4 (bc7q17 p0 i) (fun (i_1:Nat) => (R4 (bc7q18 p0 i i_1))) Mode.any]) Mode.any
def bc7q20 (p0:CodD):D := D.sl N4 (LN (CodD.kers p0)) (fun (i:Nat) => KeD.row (GK p0 i)) Mode.any
def bc7q21 (p0:CodD):D := D.sl N2 (LN (CodD.lanes p0)) (fun (i:Nat) => LaD.row (GL p0 i)) Mode.any
def bc7q22 (p0:FnD):Bool := decide (Z0 ≤ bc7q6 p0)
def bc7q23 (p0:FnD):Bool := decide (bc7q6 p0 ≤ (1000:Int))
def bc7q24 (p0:FnD):Bool := bif bc7q22 p0 then bc7q23 p0 else false
def bc7q25 (p0:CodD) (p1:Nat):Prop := True∧∃ (_y:Unit),True∧(Z0 = (NI (Option.getD (funS p0 p1) N0))∧false = Option.isSome (funS p0 p1)∧True)∧True∧True
def bc7q26 (p0:FnD):Int := (NI (bc7q10 p0))
def bc7q27 (p0:FnD):Int := IntKind.wrap IntKind.i64 (bc7q26 p0 - Z1)
def bc7q28 (p0:CodD) (p1 p2 p3:Nat) (p4:List Bool):Prop := FunHead p0 p1 p2 [] p3 p4
def bc7q29:Prop := SM N0∧(∀ (i:Nat),i < N0→eqOf (List D) [] [])∧True
def bc7q30 (p0:FnD):Nat := Int.toNat (bc7q26 p0)
def bc7q31 (p0:FnD):D := D.sl N4 (bc7q10 p0) (fun (i:Nat) => bc7q14 p0 i) Mode.any
def bc7q32 (p0:Nat) (p1:FnD) (p2:Nat) (p3 p4 p5 p6:D):List (Nat × Nat × AObj) := [(N1,p0,AObj.cells [ZI (bc7q6 p1),bc7q31 p1]),(N0,p2,AObj.cells [p3,p4,p5,p6])]
def bc7q33 (p0:Nat) (p1:FnD) (p2 p3:Nat) (p4 p5 p6 p7:D):St := St.mk ((N2,p0,AObj.vec N1 (bc7q30 p1) (bc7q30 p1) fun (_x:Nat) => [D.bool false]) :: bc7q32 p2 p1 p3 p4 p5 p6 p7) []
def bc7q34 (p0:List Bool) (p1:Nat):List D := [D.bool (List.getD p0 p1 false)]
def bc7q35 (p0:Nat) (p1:CodD) (p2:Nat) (p3:List Bool) (p4:Nat) (p5:FnD) (p6:Nat) (p7 p8 p9 p10:D):List (Nat × Nat × AObj) := (N2,p0,AObj.vec N1 (bc7q17 p1 p2) (bc7q17 p1 p2) fun (i:Nat) => bc7q34 p3 i) :: bc7q32 p4 p5 p6 p7 p8 p9 p10
def bc7q36 (p0:Nat) (p1:CodD) (p2:Nat) (p3:List Bool) (p4:Nat) (p5:FnD) (p6:Nat) (p7 p8 p9 p10:D):St := St.mk (bc7q35 p0 p1 p2 p3 p4 p5 p6 p7 p8 p9 p10) []
def bc7q37 (p0:CodD) (p1 p2:Nat) (p3:List UInt8) (p4:Nat) (p5:List Bool) (p6:Nat):Prop := FunHead p0 p1 p2 p3 p4 p5∧LN p3 ≤ p6
def bc7q38:D := D.sl N1 N0 (fun (_x:Nat) => []) Mode.nil
def bc7q39 (p0:List UInt8) (p1:Nat):List D := [ZB (BI p0 p1)]
def bc7q40 (p0:Nat) (p1:List UInt8) (p2:Nat):Nat × AObj := (p0,AObj.vec N1 (LN p1) p2 fun (i:Nat) => bc7q39 p1 i)
def bc7q41 (p0:Nat) (p1:FnD):Bool := decide ((↑p0:Int) < bc7q26 p1)
def bc7q42 (p0:FnD):Int := (NI (bc7q30 p0))
def bc7q43 (p0:FnD) (p1:Nat):I4 := List.getD (bc7q9 p0) (bc7q4 p1) bc7q11
def bc7q44 (p0:FnD) (p1:Nat):Int := I4.a (bc7q43 p0 p1)
def bc7q45 (p0:FnD) (p1:Nat):Int := I4.b (bc7q43 p0 p1)
def bc7q46 (p0:FnD) (p1:Nat):Int := I4.c (bc7q43 p0 p1)
def bc7q47 (p0:FnD) (p1:Nat):Int := I4.d (bc7q43 p0 p1)
def bc7q48 (p0:FnD) (p1:Nat):I4 := I4.mk (bc7q44 p0 p1) (bc7q45 p0 p1) (bc7q46 p0 p1) (bc7q47 p0 p1)
def bc7q49 (p0:D) (p1:CodD) (p2 p3 p4:D) (p5:Nat) (p6:FnD) (p7:Nat):Prop := ((weakD p0 (bc7q15 p1)∧weakD p2 (bc7q19 p1)∧weakD p3 (bc7q20 p1)∧weakD p4 (bc7q21 p1)∧True)∧SM (↑p5:Int)∧True)∧I4.ok (bc7q48 p6 p7)
def bc7q50 (p0:CodD) (p1:Nat) (p2:FnD) (p3:Nat):Option Eff := effC p0 p1 (bc7q48 p2 p3)
def bc7q51 (p0:CodD) (p1:Nat) (p2:FnD) (p3:Nat) (p4:Eff):Prop := offQ (bc7q50 p0 p1 p2 p3) p4
def bc7q52 (p0:CodD) (p1:Nat) (p2:FnD) (p3:Nat):Bool := Option.isSome (bc7q50 p0 p1 p2 p3)
def bc7q53 (p0 p1:List UInt8) (p2:CodD) (p3:Nat) (p4:FnD) (p5:Nat):Bool := p0 == [] && (p1 == [] && (bc7q52 p2 p3 p4 p5 == false && true))
def bc7q54 (p0:Nat) (p1:FnD):D := D.vs N2 p0 (bc7q30 p1) (bc7q30 p1) N1
def bc7q55 (p0:Nat) (p1:FnD):Prop := SM (bc7q54 p0 p1)
def bc7q56 (p0 p1:Nat) (p2:FnD):Prop := SM (D.ref N1 p0 N0)∧bc7q55 p1 p2∧True
def bc7q57 (p0:CodD) (p1:Nat):Prop := SM (bc7q17 p0 p1)
def bc7q58 (p0:Nat) (p1:CodD) (p2:Nat):Prop := p0 < bc7q17 p1 p2
def bc7q59 (p0:Nat) (p1:FnD):Prop := SM p0∧(SM (bc7q6 p1)∧(SM (bc7q10 p1)∧(∀ (i:Nat),i < bc7q10 p1→SM (bc7q14 p1 i))∧True)∧True)∧True
def bc7q60 (p0 p1:Nat) (p2:FnD) (p3:CodD) (p4 p5:Nat) (p6:List Bool) (p7:Nat):Prop := bc7q56 p0 p1 p2∧∃ (x:Nat × Bool × List Bool),MidInv p3 p4 x.1 x.2.1 x.2.2∧((↑p5:Int) = (NI x.1)∧false = x.2.1∧True)∧(SM p1∧(bc7q57 p3 p4∧bc7q57 p3 p4∧∀ (i:Nat),bc7q58 i p3 p4→updF (fun (i:Nat) => bc7q34 p6 i) (bc7q4 p7) [D.bool true] i = bc7q34 x.2.2 i)∧bc7q59 p0 p2)∧True
def bc7q61 (p0:FnD) (p1:Nat):Bool := decide (bc7q47 p0 p1 < Z0)
def bc7q62 (p0:CodD) (p1:Nat) (p2:FnD) (p3:Nat):Prop := bc7q52 p0 p1 p2 p3 = true
def bc7q63 (p0:FnD) (p1:Nat):Bool := bc7q44 p0 p1 == (25:Int)
def bc7q64 (p0:FnD) (p1:Nat):Bool := bc7q44 p0 p1 == (24:Int)
def bc7q65 (p0:FnD) (p1:Nat):Bool := bif bc7q63 p0 p1 then true else bc7q64 p0 p1
def bc7q66 (p0:Nat) (p1:FnD) (p2:Nat):Prop := SM p0∧ifB (bc7q63 p1 p2) (true = bc7q65 p1 p2∧True) (SM p0∧bc7q64 p1 p2 = bc7q65 p1 p2∧True)
def bc7q67 (p0:FnD) (p1:Nat):Bool := decide (bc7q45 p0 p1 ≤ (↑p1:Int))
def bc7q68 (p0:FnD) (p1:Nat):Bool := bif bc7q64 p0 p1 then bc7q67 p0 p1 else false
def bc7q69 (p0:FnD) (p1:Nat):Bool := bif bif bc7q65 p0 p1 then false else false then true else bc7q68 p0 p1
def bc7q70 (p0:Nat) (p1:FnD) (p2:Nat):Prop := SM p0∧ifB (bc7q64 p1 p2) (SM p0∧bc7q67 p1 p2 = bc7q69 p1 p2∧True) (false = bc7q69 p1 p2∧True)
def bc7q71 (p0:FnD):Prop := SM (ZI (bc7q26 p0))
def bc7q72 (p0:FnD):Prop := SM (bc7q31 p0)∧bc7q71 p0∧True
def bc7q73 (p0 p1 p2:Nat) (p3:FnD) (p4:Nat):Prop := SM (ZI (↑p0:Int))∧SM (D.ref N0 p1 N0)∧SM (D.ref N1 p2 N0)∧bc7q71 p3∧bc7q55 p4 p3∧SM (D.bool true)∧bc7q72 p3
def bc7q74 (p0:CodD) (p1 p2:Nat):Nat := bc7q17 p0 p1 - p2
def bc7q75 (p0:CodD) (p1 p2 p3:Nat):Prop := bc7q74 p0 p1 p2 < bc7q74 p0 p1 p3
def bc7q76 (p0 p1:Nat):Prop := IntKind.wrap IntKind.i64 ((↑p0:Int) + Z1) = (↑p1:Int)
def bc7q77 (p0:Nat) (p1 p2:List UInt8) (p3:CodD) (p4:Nat) (p5:FnD) (p6:Nat):Nat × AObj := (p0,AObj.cells [D.str p1,D.str p2,D.bool (bc7q52 p3 p4 p5 p6)])
def bc7q78 (p0:Nat) (p1:FnD) (p2:Nat):Nat × AObj := (p0,AObj.cells [ZI (bc7q44 p1 p2),ZI (bc7q45 p1 p2),ZI (bc7q46 p1 p2),ZI (bc7q47 p1 p2)])
def bc7q79 (p0:FnD) (p1:Nat) (p2:List UInt8):Bool := bif bif bc7q65 p0 p1 then decide (Z0 < (LI p2)) else false then true else bc7q68 p0 p1
def bc7q80 (p0:Nat) (p1:FnD) (p2:Nat) (p3:List UInt8):Prop := SM p0∧ifB (bc7q64 p1 p2) (SM p0∧bc7q67 p1 p2 = bc7q79 p1 p2 p3∧True) (false = bc7q79 p1 p2 p3∧True)
def bc7q81 (p0 p1:Nat) (p2:FnD) (p3:CodD) (p4 p5:Nat) (p6:List Bool):Prop := bc7q56 p0 p1 p2∧∃ (x:Nat × Bool × List Bool),MidInv p3 p4 x.1 x.2.1 x.2.2∧((↑p5:Int) = (NI x.1)∧true = x.2.1∧True)∧(SM p1∧(bc7q57 p3 p4∧bc7q57 p3 p4∧∀ (i:Nat),bc7q58 i p3 p4→bc7q34 p6 i = bc7q34 x.2.2 i)∧bc7q59 p0 p2)∧True
def bc7q82 (p0 p1:Nat) (p2:FnD) (p3:CodD) (p4 p5:Nat) (p6:List Bool) (p7:Nat) (p8:List UInt8):Prop := bc7q56 p0 p1 p2∧∃ (x:Nat × Bool × List Bool),MidInv p3 p4 x.1 x.2.1 x.2.2∧((↑p5:Int) = (NI x.1)∧false = x.2.1∧True)∧(SM p1∧(bc7q57 p3 p4∧bc7q57 p3 p4∧∀ (i:Nat),bc7q58 i p3 p4→updF (fun (i:Nat) => bc7q34 p6 i) (bc7q4 p7) [D.bool ((LI p8) == Z0)] i = bc7q34 x.2.2 i)∧bc7q59 p0 p2)∧True
def bc7q83 (p0 p1 p2:List UInt8):Nat := LN (newA p0 p1 p2)
def bc7q84 (p0:FnD) (p1:Nat) (p2 p3 p4:List UInt8):Bool := bif bif bc7q65 p0 p1 then decide (Z0 < (NI (bc7q83 p2 p3 p4))) else false then true else bc7q68 p0 p1
def bc7q85 (p0:Nat) (p1:FnD) (p2:Nat) (p3 p4 p5:List UInt8):Prop := SM p0∧ifB (bc7q64 p1 p2) (SM p0∧bc7q67 p1 p2 = bc7q84 p1 p2 p3 p4 p5∧True) (false = bc7q84 p1 p2 p3 p4 p5∧True)
def bc7q86 (p0:Nat) (p1 p2 p3:List UInt8) (p4:Nat):Prop := (if (↑p0:Int) < (NI (bc7q83 p1 p2 p3)) then (NI (bc7q83 p1 p2 p3)) else (↑p0:Int)) = (↑p4:Int)∧True
def bc7q87 (p0:Nat) (p1:CodD) (p2:Nat) (p3 p4:Bool):Prop := p0 ≤ bc7q17 p1 p2∧(p3 = false→p0 = N0∧p4 = false)∧(p3 = true→p4 = true∧guardsB (empS p1 p2 N0 (bc7q16 p1 p2) []) (List.take p0 (bc7q16 p1 p2)) = true)
def bc7q88 (p0:Nat) (p1:CodD) (p2:Nat) (p3:List Bool):Prop := (SM p0∧(bc7q57 p1 p2∧bc7q57 p1 p2∧∀ (i:Nat),bc7q58 i p1 p2→SM (bc7q34 p3 i))∧True)∧True
def bc7q89 (p0:FnD) (p1:Nat):Bool := bc7q44 p0 p1 != (24:Int)
def bc7q90 (p0:FnD) (p1:Nat):Nat := Int.toNat (bc7q45 p0 p1)
def bc7q91 (p0:List Bool) (p1:FnD) (p2:Nat):Bool := List.getD p0 (bc7q90 p1 p2) false
def bc7q92 (p0:Bool) (p1:FnD) (p2:Nat) (p3:List Bool):Bool := bif p0 then bif bc7q89 p1 p2 then true else bc7q91 p3 p1 p2 else false
end
set_option maxHeartbeats 4000000 in
theorem fun_ok (c:CodD) (f:Nat) (hf:f < c.funs.length) (hc:c.ok) (hn:(c.funs.getD f default).code.length ≤ 65536):ACalls Tryz.prog 27 [.agg c.row,.int .i64 f] ⟨[],[]⟩ (SpecR (sC [.agg c.row,.int .i64 f] (funD (funS c f))) ()) := by
  refine con_of (A := sC _ _) (x := ()) (E := E39 c f) ⟨tab_ok,conF_ok hf hc,mix,inlF_ok (conF_ok hf hc),eqs_ok⟩ Tryz.func27 rfl (by kernel_rfl) rfl (by simp [sC,E39,EF,EC,E0]) ?_
  refine vc_eq (T :=
    ∀ (x:Nat),True→(SM x∧side (Z0 ≤ (↑f:Int)∧(↑f:Int) < (LI (bc7q0 c))) (∀ (x_1:Nat),x ≠ x_1∧True→SM x_1∧∃ (x_2:Nat × FnD × O4),bc7q3 x_2.2.1 c f x_2.2.2∧(x_1 = x_2.1∧True)∧(x_1 = x_2.1∧(FnD.slots (bc7q5 c f) = bc7q6 x_2.2.1∧(bc7q8 c f = bc7q10 x_2.2.1∧(∀ (i:Nat),i < bc7q8 c f→(R4 (bc7q12 c f i)) = bc7q14 x_2.2.1 i)∧True)∧True)∧SM x∧(weakD (bc7q15 c) x_2.2.2.1∧weakD (bc7q19 c) x_2.2.2.2.1∧weakD (bc7q20 c) x_2.2.2.2.2.1∧weakD (bc7q21 c) x_2.2.2.2.2.2∧True)∧True)∧True))∧∀ (x_1:Nat × FnD × O4),bc7q3 x_1.2.1 c f x_1.2.2→SM x_1.1∧SM x_1.1∧ifB (bc7q22 x_1.2.1) (bc7q23 x_1.2.1 = bc7q24 x_1.2.1∧True) (false = bc7q24 x_1.2.1∧True)∧True∧ifB (!bc7q24 x_1.2.1) (bc7q25 c f) (ifB (bc7q26 x_1.2.1 == Z0) (bc7q25 c f) (SM x_1.1∧side (Z0 ≤ bc7q27 x_1.2.1∧bc7q27 x_1.2.1 < bc7q26 x_1.2.1) (ifB (I4.a (List.getD (bc7q9 x_1.2.1) (Int.toNat (bc7q27 x_1.2.1)) bc7q11) != (25:Int)) (bc7q25 c f) (side (Z0 ≤ bc7q26 x_1.2.1∧bc7q26 x_1.2.1 ≤ bc7q26 x_1.2.1∧Z1 * bc7q26 x_1.2.1 ≤ (281474976710656:Int)∧bc7q26 x_1.2.1 ≤ (9223372036854775807:Int)) (∀ (x_2:Nat),x_1.1 ≠ x_2∧x ≠ x_2∧True→SM x_1.1∧(((∃ (x_3:Nat × Nat × List Bool),bc7q28 c f x_3.1 x_3.2.1 x_3.2.2∧True∧(Z0 = (NI x_3.1)∧bc7q29∧Z0 = (NI x_3.2.1)∧True)∧StTo (bc7q33 x_2 x_1.2.1 x_1.1 x x_1.2.2.1 x_1.2.2.2.1 x_1.2.2.2.2.1 x_1.2.2.2.2.2) (bc7q36 x_2 c f x_3.2.2 x_1.1 x_1.2.1 x x_1.2.2.1 x_1.2.2.2.1 x_1.2.2.2.2.1 x_1.2.2.2.2.2))∨∃ (x_3:(Nat × Nat × List Bool) × List UInt8 × Nat × Nat),bc7q37 c f x_3.1.1 x_3.2.1 x_3.1.2.1 x_3.1.2.2 x_3.2.2.2∧True∧(Z0 = (NI x_3.1.1)∧bc7q38 = D.vs (3:Nat) x_3.2.2.1 (LN x_3.2.1) x_3.2.2.2 N1∧Z0 = (NI x_3.1.2.1)∧True)∧StTo (bc7q33 x_2 x_1.2.1 x_1.1 x x_1.2.2.1 x_1.2.2.2.1 x_1.2.2.2.2.1 x_1.2.2.2.2.2) (St.mk (((3:Nat),bc7q40 x_3.2.2.1 x_3.2.1 x_3.2.2.2) :: bc7q35 x_2 c f x_3.1.2.2 x_1.1 x_1.2.1 x x_1.2.2.1 x_1.2.2.2.1 x_1.2.2.2.2.1 x_1.2.2.2.2.2) []))∧(∀ (x_3:Nat × Nat × List Bool),bc7q28 c f x_3.1 x_3.2.1 x_3.2.2→ifB (bc7q41 x_3.1 x_1.2.1) (side (Z0 ≤ (NI x_3.1)∧(NI x_3.1) < bc7q26 x_1.2.1) (∀ (x_4:Nat),x_2 ≠ x_4∧x_1.1 ≠ x_4∧x ≠ x_4∧True→SM x_4∧side (Z0 ≤ (NI x_3.1)∧(NI x_3.1) < bc7q42 x_1.2.1) (SM x_2∧side (bc7q4 x_3.1 < bc7q17 c f) (SM x∧SM x_4∧bc7q49 x_1.2.2.1 c x_1.2.2.2.1 x_1.2.2.2.2.1 x_1.2.2.2.2.2 f x_1.2.1 x_3.1∧∀ (y:Eff),bc7q51 c f x_1.2.1 x_3.1 y→∀ (x_5:Nat),x_4 ≠ x_5∧x_2 ≠ x_5∧x_1.1 ≠ x_5∧x ≠ x_5∧True→SM x_5∧SM x_5∧ifB (bc7q53 y.1 y.2 c f x_1.2.1 x_3.1) (bc7q60 x_1.1 x_2 x_1.2.1 c f x_3.2.1 x_3.2.2 x_3.1) (SM x_4∧ifB (bc7q61 x_1.2.1 x_3.1) (bc7q60 x_1.1 x_2 x_1.2.1 c f x_3.2.1 x_3.2.2 x_3.1) (SM x_5∧(bc7q62 c f x_1.2.1 x_3.1→LN y.2 ≤ (1000000:Nat)∧LN y.1 ≤ (1000000:Nat))∧ifB (okA [] y.1 (bc7q52 c f x_1.2.1 x_3.1)) (ifB (List.isEmpty y.2) (bc7q66 x_4 x_1.2.1 x_3.1∧ifB (bc7q65 x_1.2.1 x_3.1) (bc7q70 x_4 x_1.2.1 x_3.1) (bc7q70 x_4 x_1.2.1 x_3.1)∧ifB (bc7q69 x_1.2.1 x_3.1) (bc7q60 x_1.1 x_2 x_1.2.1 c f x_3.2.1 x_3.2.2 x_3.1) (bc7q73 f x x_1.1 x_1.2.1 x_2∧((∃ (x_6:Nat × Nat × List Bool),bc7q28 c f x_6.1 x_6.2.1 x_6.2.2∧bc7q75 c f x_6.1 x_3.1∧(bc7q76 x_3.1 x_6.1∧bc7q29∧(if (NI x_3.2.1) < Z0 then Z0 else (NI x_3.2.1)) = (NI x_6.2.1)∧True)∧StTo (St.mk ((N4,bc7q77 x_5 y.1 y.2 c f x_1.2.1 x_3.1) :: ((3:Nat),bc7q78 x_4 x_1.2.1 x_3.1) :: (N2,x_2,AObj.vec N1 (bc7q17 c f) (bc7q17 c f) (updF (fun (i:Nat) => bc7q34 x_3.2.2 i) (bc7q4 x_3.1) [D.bool true])) :: bc7q32 x_1.1 x_1.2.1 x x_1.2.2.1 x_1.2.2.2.1 x_1.2.2.2.2.1 x_1.2.2.2.2.2) []) (bc7q36 x_2 c f x_6.2.2 x_1.1 x_1.2.1 x x_1.2.2.1 x_1.2.2.2.1 x_1.2.2.2.2.1 x_1.2.2.2.2.2))∨∃ (x_6:(Nat × Nat × List Bool) × List UInt8 × Nat × Nat),bc7q37 c f x_6.1.1 x_6.2.1 x_6.1.2.1 x_6.1.2.2 x_6.2.2.2∧bc7q75 c f x_6.1.1 x_3.1∧(bc7q76 x_3.1 x_6.1.1∧bc7q38 = D.vs (3:Nat) x_6.2.2.1 (LN x_6.2.1) x_6.2.2.2 N1∧(if (NI x_3.2.1) < Z0 then Z0 else (NI x_3.2.1)) = (NI x_6.1.2.1)∧True)∧StTo (St.mk ((N4,bc7q77 x_5 y.1 y.2 c f x_1.2.1 x_3.1) :: ((3:Nat),bc7q78 x_4 x_1.2.1 x_3.1) :: (N2,x_2,AObj.vec N1 (bc7q17 c f) (bc7q17 c f) (updF (fun (i:Nat) => bc7q34 x_3.2.2 i) (bc7q4 x_3.1) [D.bool true])) :: bc7q32 x_1.1 x_1.2.1 x x_1.2.2.1 x_1.2.2.2.1 x_1.2.2.2.2.1 x_1.2.2.2.2.2) []) (St.mk (((3:Nat),bc7q40 x_6.2.2.1 x_6.2.1 x_6.2.2.2) :: bc7q35 x_2 c f x_6.1.2.2 x_1.1 x_1.2.1 x x_1.2.2.1 x_1.2.2.2.1 x_1.2.2.2.2.1 x_1.2.2.2.2.2) [])))) (∀ (x_6 cap:Nat),LN y.2 ≤ cap→bc7q66 x_4 x_1.2.1 x_3.1∧ifB (bc7q65 x_1.2.1 x_3.1) (ifB (decide (Z0 < (LI y.2))) (true = bc7q79 x_1.2.1 x_3.1 y.2∧True) (bc7q80 x_4 x_1.2.1 x_3.1 y.2)) (bc7q80 x_4 x_1.2.1 x_3.1 y.2)∧ifB (bc7q79 x_1.2.1 x_3.1 y.2) (bc7q60 x_1.1 x_2 x_1.2.1 c f x_3.2.1 x_3.2.2 x_3.1) (bc7q73 f x x_1.1 x_1.2.1 x_2∧((∃ (x_7:Nat × Nat × List Bool),bc7q28 c f x_7.1 x_7.2.1 x_7.2.2∧bc7q75 c f x_7.1 x_3.1∧(bc7q76 x_3.1 x_7.1∧D.vs (5:Nat) x_6 (LN y.2) cap N1 = bc7q38∧(if (NI x_3.2.1) < (LI y.2) then (LI y.2) else (NI x_3.2.1)) = (NI x_7.2.1)∧True)∧StTo (St.mk (((5:Nat),bc7q40 x_6 y.2 cap) :: (N4,bc7q77 x_5 y.1 y.2 c f x_1.2.1 x_3.1) :: ((3:Nat),bc7q78 x_4 x_1.2.1 x_3.1) :: (N2,x_2,AObj.vec N1 (bc7q17 c f) (bc7q17 c f) (updF (fun (i:Nat) => bc7q34 x_3.2.2 i) (bc7q4 x_3.1) [D.bool true])) :: bc7q32 x_1.1 x_1.2.1 x x_1.2.2.1 x_1.2.2.2.1 x_1.2.2.2.2.1 x_1.2.2.2.2.2) []) (bc7q36 x_2 c f x_7.2.2 x_1.1 x_1.2.1 x x_1.2.2.1 x_1.2.2.2.1 x_1.2.2.2.2.1 x_1.2.2.2.2.2))∨∃ (x_7:(Nat × Nat × List Bool) × List UInt8 × Nat × Nat),bc7q37 c f x_7.1.1 x_7.2.1 x_7.1.2.1 x_7.1.2.2 x_7.2.2.2∧bc7q75 c f x_7.1.1 x_3.1∧(bc7q76 x_3.1 x_7.1.1∧(x_6 = x_7.2.2.1∧LN y.2 = LN x_7.2.1∧cap = x_7.2.2.2)∧(if (NI x_3.2.1) < (LI y.2) then (LI y.2) else (NI x_3.2.1)) = (NI x_7.1.2.1)∧True)∧StTo (St.mk (((5:Nat),bc7q40 x_6 y.2 cap) :: (N4,bc7q77 x_5 y.1 y.2 c f x_1.2.1 x_3.1) :: ((3:Nat),bc7q78 x_4 x_1.2.1 x_3.1) :: (N2,x_2,AObj.vec N1 (bc7q17 c f) (bc7q17 c f) (updF (fun (i:Nat) => bc7q34 x_3.2.2 i) (bc7q4 x_3.1) [D.bool true])) :: bc7q32 x_1.1 x_1.2.1 x x_1.2.2.1 x_1.2.2.2.1 x_1.2.2.2.2.1 x_1.2.2.2.2.2) []) (St.mk (((3:Nat),bc7q40 x_7.2.2.1 x_7.2.1 x_7.2.2.2) :: bc7q35 x_2 c f x_7.1.2.2 x_1.1 x_1.2.1 x x_1.2.2.1 x_1.2.2.2.1 x_1.2.2.2.2.1 x_1.2.2.2.2.2) []))))) (bc7q66 x_4 x_1.2.1 x_3.1∧(SM true∧True)∧bc7q60 x_1.1 x_2 x_1.2.1 c f x_3.2.1 x_3.2.2 x_3.1))))))) (bc7q81 x_1.1 x_2 x_1.2.1 c f x_3.2.1 x_3.2.2))∧∀ (x_3:(Nat × Nat × List Bool) × List UInt8 × Nat × Nat),bc7q37 c f x_3.1.1 x_3.2.1 x_3.1.2.1 x_3.1.2.2 x_3.2.2.2→ifB (bc7q41 x_3.1.1 x_1.2.1) (side (Z0 ≤ (NI x_3.1.1)∧(NI x_3.1.1) < bc7q26 x_1.2.1) (∀ (x_4:Nat),x_3.2.2.1 ≠ x_4∧x_2 ≠ x_4∧x_1.1 ≠ x_4∧x ≠ x_4∧True→SM x_4∧side (Z0 ≤ (NI x_3.1.1)∧(NI x_3.1.1) < bc7q42 x_1.2.1) (SM x_2∧side (bc7q4 x_3.1.1 < bc7q17 c f) (SM x∧SM x_4∧bc7q49 x_1.2.2.1 c x_1.2.2.2.1 x_1.2.2.2.2.1 x_1.2.2.2.2.2 f x_1.2.1 x_3.1.1∧∀ (y:Eff),bc7q51 c f x_1.2.1 x_3.1.1 y→∀ (x_5:Nat),x_4 ≠ x_5∧x_3.2.2.1 ≠ x_5∧x_2 ≠ x_5∧x_1.1 ≠ x_5∧x ≠ x_5∧True→SM x_5∧SM x_5∧ifB (bc7q53 y.1 y.2 c f x_1.2.1 x_3.1.1) (bc7q82 x_1.1 x_2 x_1.2.1 c f x_3.1.2.1 x_3.1.2.2 x_3.1.1 x_3.2.1) (SM x_4∧ifB (bc7q61 x_1.2.1 x_3.1.1) (bc7q82 x_1.1 x_2 x_1.2.1 c f x_3.1.2.1 x_3.1.2.2 x_3.1.1 x_3.2.1) (SM x_5∧∃ (st:List UInt8),(LN st = LN x_3.2.1∧LN x_3.2.1 ≤ x_3.2.2.2∧(bc7q62 c f x_1.2.1 x_3.1.1→LN st + LN y.2 ≤ (1000000:Nat)∧LN y.1 ≤ (1000000:Nat))∧(SM x_3.2.2.1∧(SM (LN x_3.2.1)∧SM x_3.2.2.2∧∀ (i:Nat),i < LN x_3.2.1→bc7q39 x_3.2.1 i = bc7q39 st i)∧True)∧True)∧ifB (okA st y.1 (bc7q52 c f x_1.2.1 x_3.1.1)) (∀ (x' cap':Nat),bc7q83 st y.1 y.2 ≤ cap'→bc7q66 x_4 x_1.2.1 x_3.1.1∧ifB (bc7q65 x_1.2.1 x_3.1.1) (ifB (decide (Z0 < (NI (bc7q83 st y.1 y.2)))) (true = bc7q84 x_1.2.1 x_3.1.1 st y.1 y.2∧True) (bc7q85 x_4 x_1.2.1 x_3.1.1 st y.1 y.2)) (bc7q85 x_4 x_1.2.1 x_3.1.1 st y.1 y.2)∧ifB (bc7q84 x_1.2.1 x_3.1.1 st y.1 y.2) (bc7q82 x_1.1 x_2 x_1.2.1 c f x_3.1.2.1 x_3.1.2.2 x_3.1.1 x_3.2.1) (bc7q73 f x x_1.1 x_1.2.1 x_2∧((∃ (x_6:Nat × Nat × List Bool),bc7q28 c f x_6.1 x_6.2.1 x_6.2.2∧bc7q75 c f x_6.1 x_3.1.1∧(bc7q76 x_3.1.1 x_6.1∧D.vs (3:Nat) x' (bc7q83 st y.1 y.2) cap' N1 = bc7q38∧bc7q86 x_3.1.2.1 st y.1 y.2 x_6.2.1)∧StTo (St.mk (((3:Nat),x',AObj.vec N1 (bc7q83 st y.1 y.2) cap' fun (i:Nat) => [ZB (BI (newA st y.1 y.2) i)]) :: ((5:Nat),bc7q77 x_5 y.1 y.2 c f x_1.2.1 x_3.1.1) :: (N4,bc7q78 x_4 x_1.2.1 x_3.1.1) :: (N2,x_2,AObj.vec N1 (bc7q17 c f) (bc7q17 c f) (updF (fun (i:Nat) => bc7q34 x_3.1.2.2 i) (bc7q4 x_3.1.1) [D.bool ((LI x_3.2.1) == Z0)])) :: bc7q32 x_1.1 x_1.2.1 x x_1.2.2.1 x_1.2.2.2.1 x_1.2.2.2.2.1 x_1.2.2.2.2.2) []) (bc7q36 x_2 c f x_6.2.2 x_1.1 x_1.2.1 x x_1.2.2.1 x_1.2.2.2.1 x_1.2.2.2.2.1 x_1.2.2.2.2.2))∨∃ (x_6:(Nat × Nat × List Bool) × List UInt8 × Nat × Nat),bc7q37 c f x_6.1.1 x_6.2.1 x_6.1.2.1 x_6.1.2.2 x_6.2.2.2∧bc7q75 c f x_6.1.1 x_3.1.1∧(bc7q76 x_3.1.1 x_6.1.1∧(x' = x_6.2.2.1∧bc7q83 st y.1 y.2 = LN x_6.2.1∧cap' = x_6.2.2.2)∧bc7q86 x_3.1.2.1 st y.1 y.2 x_6.1.2.1)∧StTo (St.mk (((3:Nat),x',AObj.vec N1 (bc7q83 st y.1 y.2) cap' fun (i:Nat) => [ZB (BI (newA st y.1 y.2) i)]) :: ((5:Nat),bc7q77 x_5 y.1 y.2 c f x_1.2.1 x_3.1.1) :: (N4,bc7q78 x_4 x_1.2.1 x_3.1.1) :: (N2,x_2,AObj.vec N1 (bc7q17 c f) (bc7q17 c f) (updF (fun (i:Nat) => bc7q34 x_3.1.2.2 i) (bc7q4 x_3.1.1) [D.bool ((LI x_3.2.1) == Z0)])) :: bc7q32 x_1.1 x_1.2.1 x x_1.2.2.1 x_1.2.2.2.1 x_1.2.2.2.2.1 x_1.2.2.2.2.2) []) (St.mk (((3:Nat),bc7q40 x_6.2.2.1 x_6.2.1 x_6.2.2.2) :: bc7q35 x_2 c f x_6.1.2.2 x_1.1 x_1.2.1 x x_1.2.2.1 x_1.2.2.2.1 x_1.2.2.2.2.1 x_1.2.2.2.2.2) [])))) (bc7q66 x_4 x_1.2.1 x_3.1.1∧(SM true∧True)∧bc7q82 x_1.1 x_2 x_1.2.1 c f x_3.1.2.1 x_3.1.2.2 x_3.1.1 x_3.2.1))))))) (bc7q81 x_1.1 x_2 x_1.2.1 c f x_3.1.2.1 x_3.1.2.2))∧∀ (x:Nat × Bool × List Bool),MidInv c f x.1 x.2.1 x.2.2→SM x_1.1∧(∃ (x_3:Nat × Bool),bc7q87 x_3.1 c f x_3.2 x.2.1∧(Z0 = (NI x_3.1)∧x.2.1 = x_3.2∧True)∧bc7q88 x_2 c f x.2.2)∧∀ (x_3:Nat × Bool),bc7q87 x_3.1 c f x_3.2 x.2.1→ifB (bc7q41 x_3.1 x_1.2.1) (side (Z0 ≤ (NI x_3.1)∧(NI x_3.1) < bc7q26 x_1.2.1) (∀ (x_4:Nat),x_2 ≠ x_4∧True→SM x_4∧ifB x_3.2 (SM x_4∧ifB (bc7q89 x_1.2.1 x_3.1) (true = bc7q92 x_3.2 x_1.2.1 x_3.1 x.2.2∧True) (SM x_4∧side (Z0 ≤ bc7q45 x_1.2.1 x_3.1∧bc7q45 x_1.2.1 x_3.1 < bc7q42 x_1.2.1) (SM x_2∧side (bc7q90 x_1.2.1 x_3.1 < bc7q17 c f) (bc7q91 x.2.2 x_1.2.1 x_3.1 = bc7q92 x_3.2 x_1.2.1 x_3.1 x.2.2∧True)))) (false = bc7q92 x_3.2 x_1.2.1 x_3.1 x.2.2∧True)∧ifB (!bc7q92 x_3.2 x_1.2.1 x_3.1 x.2.2) (bc7q25 c f) ((bc7q55 x_2 x_1.2.1∧SM (ZI (NI x.1))∧bc7q72 x_1.2.1)∧∃ (y:Nat × Bool),bc7q87 y.1 c f y.2 x.2.1∧bc7q75 c f y.1 x_3.1∧(bc7q76 x_3.1 y.1∧bc7q92 x_3.2 x_1.2.1 x_3.1 x.2.2 = y.2∧True)∧bc7q88 x_2 c f x.2.2))) (True∧∃ (y:Unit),True∧((NI x.1) = (NI (Option.getD (funS c f) N0))∧true = Option.isSome (funS c f)∧True)∧True∧True))))))) (by kernel_rfl) ?_
  delta BI D4 DA DF DK DL GC GK GL LI LN N0 N1 N2 N4 NI R4 SM U0 Z0 Z1 ZB ZI bc7q0 bc7q1 bc7q10 bc7q11 bc7q12 bc7q13 bc7q14 bc7q15 bc7q16 bc7q17 bc7q18 bc7q19 bc7q2 bc7q20 bc7q21 bc7q22 bc7q23 bc7q24 bc7q25 bc7q26 bc7q27 bc7q28 bc7q29 bc7q3 bc7q30 bc7q31 bc7q32 bc7q33 bc7q34 bc7q35 bc7q36 bc7q37 bc7q38 bc7q39 bc7q4 bc7q40 bc7q41 bc7q42 bc7q43 bc7q44 bc7q45 bc7q46 bc7q47 bc7q48 bc7q49 bc7q5 bc7q50 bc7q51 bc7q52 bc7q53 bc7q54 bc7q55 bc7q56 bc7q57 bc7q58 bc7q59 bc7q6 bc7q60 bc7q61 bc7q62 bc7q63 bc7q64 bc7q65 bc7q66 bc7q67 bc7q68 bc7q69 bc7q7 bc7q70 bc7q71 bc7q72 bc7q73 bc7q74 bc7q75 bc7q76 bc7q77 bc7q78 bc7q79 bc7q8 bc7q80 bc7q81 bc7q82 bc7q83 bc7q84 bc7q85 bc7q86 bc7q87 bc7q88 bc7q89 bc7q9 bc7q90 bc7q91 bc7q92
  have de:(default:FnD) = ⟨0,[]⟩ := rfl
  have d4:(default:I4) = ⟨0,0,0,0⟩ := rfl
  simp only [← de,← d4,Int.toNat_natCast]
  simp only [ifB_iff,side_iff,decide_eq_true_eq,decide_eq_false_iff_not,true_and,and_true,beq_iff_eq,bne_iff_ne,Bool.cond_false_right,Bool.cond_true_left,Bool.and_eq_true,Bool.and_eq_false_iff,beq_eq_false_iff_ne,ne_eq]
  intro x2 _
  refine ⟨⟨by omega,fun x6 _ => ⟨(x6,c.funs.getD f default,(gsl 4 Arr.row c.consts,gsl 2 FnD.row c.funs,gsl 4 KeD.row c.kers,gsl 2 LaD.row c.lanes)),⟨rfl,rfl⟩,rfl,rfl,⟨rfl,rfl,fun _ _ => rfl⟩,weakD_refl _,weakD_refl _,weakD_refl _,weakD_refl _⟩⟩,?_⟩
  rintro ⟨x6,F,dd⟩ ⟨hF,hdd⟩
  simp only at hF hdd ⊢
  subst hF
  have hco:∀ i:Nat,i < (c.funs.getD f default).code.length→((c.funs.getD f default).code.getD i default).ok := fun i hi => getD_ok (getD_ok hc.2.1 hf).2.1 hi
  have hD:weakD dd.1 (gsl 4 Arr.row c.consts)∧weakD dd.2.1 (gsl 2 FnD.row c.funs)∧weakD dd.2.2.1 (gsl 4 KeD.row c.kers)∧weakD dd.2.2.2 (gsl 2 LaD.row c.lanes) := by
    have h := hdd
    simp only [CB,O4.row,CodD.row,List.cons.injEq,and_true] at h
    obtain ⟨h1,h2,h3,h4⟩ := h
    rw [h1,h2,h3,h4]
    exact ⟨weakD_refl _,weakD_refl _,weakD_refl _,weakD_refl _⟩
  have hw1:IntKind.i64.wrap (((c.funs.getD f default).code.length:Int) - 1) = ((c.funs.getD f default).code.length:Int) - 1 := wrap_i64' (by omega) (by omega)
  have no:funS c f = none→∃ y:Unit,(0:Int) = ((funS c f).getD 0:Nat)∧false = (funS c f).isSome := fun h => ⟨(),by simp [h],by simp [h]⟩
  have gen:∃ CO:List I4,CO = (c.funs.getD f default).code := ⟨_,rfl⟩
  refine ⟨⟨fun h => by rw [decide_eq_true h,Bool.true_and],fun h => by rw [decide_eq_false h,Bool.false_and]⟩,fun h => no ?_,fun h1 => ⟨fun h => no ?_,fun h2 => ⟨by rw [hw1]; omega,fun h => no ?_,fun h3 => ⟨by omega,fun x9 _ => ⟨⟨?_,?_,?_⟩,?_⟩⟩⟩⟩⟩
  · simp only [funS]
    rw [if_neg]
    intro hh
    simp only [between] at hh
    rw [hh.1] at h
    cases h
  · simp only [funS]
    rw [if_neg]
    exact fun hh => hh.2.1 (List.eq_nil_of_length_eq_zero (by omega))
  · simp only [funS]
    rw [if_neg]
    intro hh
    apply h
    rw [hw1,show (((c.funs.getD f default).code.length:Int) - 1).toNat = (c.funs.getD f default).code.length - 1 by omega]
    exact hh.2.2
  · refine .inl ⟨(0,0,List.replicate (c.funs.getD f default).code.length false),⟨Nat.zero_le _,Nat.le_refl _,Nat.zero_le _,by simp,by simp,by simp⟩,⟨rfl,fun _ _ => trivial,rfl⟩,leS_to ?_⟩
    simp [leS,chk_iff,leO,leT,getO,nodupB,weakO,weakD_refl,weakL,List.getD_eq_getElem?_getD,List.getElem?_replicate]
    intro i hi
    simp [hi]
  · rintro ⟨i,deep,em⟩ hh
    simp only at hh ⊢
    refine ⟨fun hlt => ?_,fun hge => ⟨(deep,true,em),hh.done (by omega),⟨rfl,rfl⟩,fun _ _ => rfl,fun _ _ => trivial⟩⟩
    have hlt:i < (c.funs.getD f default).code.length := by omega
    have hx := hco i hlt
    have hiem:i < em.length := by rw [hh.hl]; exact hlt
    have fl := fun h => hh.fail hlt h
    have nxt := fun {nx:List UInt8} (h:stepS c f i ((c.funs.getD f default).code.getD i default) [] = some nx) => hh.next hn hlt h
    generalize (c.funs.getD f default).code.getD i default = x at *
    have fail:stepS c f i x [] = none→∃ y:Nat × Bool × List Bool,MidInv c f y.1 y.2.1 y.2.2∧((deep:Int) = (y.1:Int)∧false = y.2.1)∧(∀ j,j < (c.funs.getD f default).code.length→updF (fun j => [D.bool (em.getD j false)]) i [D.bool true] j = [D.bool (y.2.2.getD j false)])∧∀ j,j < (c.funs.getD f default).code.length→True :=
      fun h => ⟨(deep,false,em.set i true),.inr ⟨rfl,fl h⟩,⟨rfl,rfl⟩,fun j _ => upd_row em i true hiem j,fun _ _ => trivial⟩
    refine ⟨by omega,fun x4 _ => ⟨by omega,hlt,⟨hD,hx⟩,fun y hy x5 _ => ?_⟩⟩
    generalize he:effC c f ⟨x.a,x.b,x.c,x.d⟩ = e at *
    have he:effC c f x = e := he
    cases e with
    | none =>
      have flw := fail (by simp [stepS,he])
      refine ⟨fun _ => flw,fun _ => ⟨fun _ => flw,fun _ => ⟨fun h => (by cases h),fun h => (by simp [okA] at h),fun _ => ⟨⟨fun h => by simp [h],fun h => by simp [h]⟩,flw⟩⟩⟩⟩
    | some e' =>
      have hye:y = e' := hy e' rfl
      subst hye
      have hlen := eff_len he
      refine ⟨fun h => (by simp at h),fun _ => ⟨fun hd => fail (by simp [stepS,he,hd]),fun hd => ⟨fun _ => by omega,fun hok => ⟨fun hq => ⟨?_,?_,fun hcond => fail ?_,fun hcond => .inl ?_⟩,fun hq xs cap hcap => ⟨?_,?_,fun hcond => fail ?_,fun hcond => .inr ?_⟩⟩,fun hok => ⟨⟨fun h => by simp [h],fun h => by simp [h]⟩,fail (by simp only [Option.isSome] at hok; simp [stepS,he,hok])⟩⟩⟩⟩
      · exact ops1
      · exact ops2
      · have hq0:y.2 = [] := by simpa using hq
        exact (step_cond he hok hd (b := false) (by simp [newA,hq0])).1 hcond
      · have hq0:y.2 = [] := by simpa using hq
        have hs := (step_cond he hok hd (b := false) (by simp [newA,hq0])).2 hcond
        have hn0:newA [] y.1 y.2 = [] := by simp [newA,hq0]
        rw [hn0] at hs
        refine ⟨(i + 1,max deep 0,em.set i true),nxt hs,by simp only; omega,⟨wrap_i64' (by omega) (by omega),fun _ _ => trivial,by rw [maxI0]; simp⟩,leS_to ?_⟩
        simp only [leS,chk_iff,leO,leT,getO,nodupB,weakO,List.map_cons,List.map_nil]
        simp [weakL_refl]
        exact fun j _ => by simpa [List.getD_eq_getElem?_getD] using upd_row em i true hiem j
      · exact ops1
      · exact ops3
      · exact (step_cond he hok hd (b := decide (0 < (y.2.length:Int))) (by rw [lenB]; simp [newA])).1 hcond
      · have hs := (step_cond he hok hd (b := decide (0 < (y.2.length:Int))) (by rw [lenB]; simp [newA])).2 hcond
        have hn0:newA [] y.1 y.2 = y.2 := by simp [newA]
        rw [hn0] at hs
        refine ⟨((i + 1,max deep y.2.length,em.set i true),y.2,xs,cap),⟨nxt hs,hcap⟩,by simp only; omega,⟨wrap_i64' (by omega) (by omega),⟨rfl,rfl,rfl⟩,maxI _ _⟩,?_⟩
        refine StTo.trans (B := ⟨[(5,xs,.vec 1 y.2.length cap (brow y.2)),(2,x9,.vec 1 (c.funs.getD f default).code.length (c.funs.getD f default).code.length (erow (em.set i true))),(1,x6,.cells (FnD.row (c.funs.getD f default))),(0,x2,.cells (O4.row dd))],[]⟩) (leS_to ?_) (StTo.pos ⟨⟨rfl,?_,rfl,?_,rfl,?_,rfl,?_,trivial⟩,trivial⟩)
        · simp only [leS,chk_iff,leO,leT,getO,nodupB,weakO,List.map_cons,List.map_nil]
          simp [weakL_refl,O4.row,FnD.row,gsl,I4.row,brow,erow]
          exact fun j _ => by simpa [List.getD_eq_getElem?_getD] using upd_row em i true hiem j
        · simp [weakO,chk_iff,brow]
        · simp [weakO,chk_iff,erow]
        · simp only [weakO]; exact weakL_refl _
        · simp only [weakO]; exact weakL_refl _
  · rintro ⟨⟨i,deep,em⟩,st,xs,cap⟩ ⟨hh,hcap⟩
    simp only at hh hcap ⊢
    refine ⟨fun hlt => ?_,fun hge => ⟨(deep,true,em),hh.done (by omega),⟨rfl,rfl⟩,fun _ _ => rfl,fun _ _ => trivial⟩⟩
    have hlt:i < (c.funs.getD f default).code.length := by omega
    have hx := hco i hlt
    have hiem:i < em.length := by rw [hh.hl]; exact hlt
    have hsl := hh.hs
    have fl := fun h => hh.fail hlt h
    have nxt := fun {nx:List UInt8} (h:stepS c f i ((c.funs.getD f default).code.getD i default) st = some nx) => hh.next hn hlt h
    generalize (c.funs.getD f default).code.getD i default = x at *
    have fail:stepS c f i x st = none→∃ y:Nat × Bool × List Bool,MidInv c f y.1 y.2.1 y.2.2∧((deep:Int) = (y.1:Int)∧false = y.2.1)∧(∀ j,j < (c.funs.getD f default).code.length→updF (fun j => [D.bool (em.getD j false)]) i [D.bool st.isEmpty] j = [D.bool (y.2.2.getD j false)])∧∀ j,j < (c.funs.getD f default).code.length→True :=
      fun h => ⟨(deep,false,em.set i st.isEmpty),.inr ⟨rfl,fl h⟩,⟨rfl,rfl⟩,fun j _ => upd_row em i _ hiem j,fun _ _ => trivial⟩
    have hie:((st.length:Int) == 0) = st.isEmpty := by cases st with
      | nil => rfl
      | cons a l => simp; omega
    simp only [hie]
    refine ⟨by omega,fun x4 _ => ⟨by omega,hlt,⟨hD,hx⟩,fun y hy x5 _ => ?_⟩⟩
    generalize he:effC c f ⟨x.a,x.b,x.c,x.d⟩ = e at *
    have he:effC c f x = e := he
    cases e with
    | none =>
      have flw := fail (by simp [stepS,he])
      refine ⟨fun _ => flw,fun _ => ⟨fun _ => flw,fun _ => ⟨st,⟨rfl,hcap,fun h => (by cases h),fun _ _ => rfl⟩,fun h => (by simp [okA] at h),fun _ => ⟨ops1,flw⟩⟩⟩⟩
    | some e' =>
      have hye:y = e' := hy e' rfl
      subst hye
      have hlen := eff_len he
      refine ⟨fun h => (by simp at h),fun _ => ⟨fun hd => fail (by simp [stepS,he,hd]),fun hd => ⟨st,⟨rfl,hcap,fun _ => by omega,fun _ _ => rfl⟩,fun hok x' cap' hcap' => ⟨ops1,ops3,fun hcond => fail ?_,fun hcond => .inr ?_⟩,fun hok => ⟨ops1,fail (by simp only [Option.isSome] at hok; simp [stepS,he,hok])⟩⟩⟩⟩
      · exact (step_cond he hok hd (b := decide (0 < ((newA st y.1 y.2).length:Int))) lenB).1 hcond
      · have hs := (step_cond he hok hd (b := decide (0 < ((newA st y.1 y.2).length:Int))) lenB).2 hcond
        refine ⟨((i + 1,max deep (newA st y.1 y.2).length,em.set i st.isEmpty),newA st y.1 y.2,x',cap'),⟨nxt hs,hcap'⟩,by simp only; omega,⟨wrap_i64' (by omega) (by omega),⟨rfl,rfl,rfl⟩,maxI _ _⟩,leS_to ?_⟩
        simp only [leS,chk_iff,leO,leT,getO,nodupB,weakO,List.map_cons,List.map_nil]
        simp [weakL_refl]
        exact fun j _ => by simpa [List.getD_eq_getElem?_getD] using upd_row em i st.isEmpty hiem j
  · rintro ⟨dp,r,em⟩ hm
    simp only at hm ⊢
    have hN:0 < (c.funs.getD f default).code.length := by omega
    have hok:between (c.funs.getD f default).slots 0 1000 = true∧(c.funs.getD f default).code ≠ []∧((c.funs.getD f default).code.getD ((c.funs.getD f default).code.length - 1) default).a = 25 := by
      refine ⟨by simpa [between] using h1,(fun e => by rw [e] at hN; cases hN),?_⟩
      rw [hw1,show (((c.funs.getD f default).code.length:Int) - 1).toNat = (c.funs.getD f default).code.length - 1 by omega] at h3
      simpa using h3
    have none_of:runS c f 0 (c.funs.getD f default).code [] 0 = none→funS c f = none := fun h => by simp only [funS]; rw [if_pos hok,h]
    refine ⟨⟨(0,r),⟨Nat.zero_le _,fun h => ⟨rfl,h⟩,fun h => ⟨h,by simp [guardsB]⟩⟩,⟨rfl,rfl⟩,fun _ _ => trivial⟩,?_⟩
    rintro ⟨j,q⟩ ⟨hj,hjf,hjt⟩
    simp only at hj hjf hjt ⊢
    refine ⟨fun hlt => ⟨by omega,fun x4 _ => ?_⟩,fun hge => ?_⟩
    · have hlt:j < (c.funs.getD f default).code.length := by omega
      have hmem:(c.funs.getD f default).code.getD j default ∈ (c.funs.getD f default).code := getD_mem hlt
      have htk := take_step hlt
      generalize (c.funs.getD f default).code.getD j default = x at *
      cases q with
      | false =>
        obtain ⟨hj0,hr0⟩ := hjf rfl
        rcases hm with ⟨hr1,_⟩ | ⟨_,hrun⟩
        · rw [hr0] at hr1; cases hr1
        · refine ⟨⟨fun h => (by cases h),fun _ => rfl⟩,fun _ => no (none_of hrun),fun h => (by simp at h)⟩
      | true =>
        obtain ⟨hr1,hgs⟩ := hjt rfl
        rcases hm with ⟨_,hrun,rfl⟩ | ⟨hr2,_⟩
        · have hrng:x.a = 24→0 ≤ x.b∧x.b < ((c.funs.getD f default).code.length:Int) := fun ha => (let ⟨_,he⟩ := run_mem _ _ _ _ _ hrun x hmem; eff_guard he ha)
          refine ⟨⟨fun _ => ⟨fun ha => by simp [ha],fun ha => ?_⟩,fun h => (by cases h)⟩,fun hno => no ?_,fun hyes => ⟨(j + 1,true),⟨by omega,fun h => (by cases h),fun _ => ⟨hr1,?_⟩⟩,by omega,⟨wrap_i64' (by omega) (by omega),?_⟩,fun _ _ => trivial⟩⟩
          · have ha:x.a = 24 := by simpa using ha
            have := hrng ha
            exact ⟨this,by omega,by simp [ha]⟩
          · simp only [funS]
            rw [if_pos hok,hrun]
            simp only
            rw [if_neg]
            intro hg
            have := List.all_eq_true.1 hg x hmem
            simp at hno this
            rcases this with h | h
            · exact absurd hno.1 h
            · rw [hno.2] at h; cases h
          · rw [htk]
            simp only [guardsB,List.all_append,Bool.and_eq_true] at hgs ⊢
            refine ⟨hgs,?_⟩
            simp only [List.all_cons,List.all_nil,Bool.and_true]
            exact (guard_one hyes).1
          · exact (guard_one hyes).2
        · rw [hr1] at hr2; cases hr2
    · have hjN:j = (c.funs.getD f default).code.length := by omega
      cases q with
      | false => obtain ⟨hj0,_⟩ := hjf rfl; omega
      | true =>
        obtain ⟨hr1,hgs⟩ := hjt rfl
        rcases hm with ⟨_,hrun,rfl⟩ | ⟨hr2,_⟩
        · rw [hjN,List.take_length] at hgs
          have:funS c f = some dp := by simp only [funS]; rw [if_pos hok,hrun]; simp only; rw [if_pos hgs]
          exact ⟨(),by rw [this]; rfl,by rw [this]; rfl⟩
        · rw [hr1] at hr2; cases hr2
end Go.Proofs.YtflbmbkhjcbhoaaGreatDoor
namespace Go.Proofs.YtflbmbkhjcbhoaaGreatDoor
open Go Go.Ab
def aftD (st:List UInt8) (p q:List UInt8) (r:Bool):D := .tup [.str (if okA st p r then newA st p q else []),.bool (okA st p r)]
def annR (st p q:List UInt8) (r:Bool) (d:D):Option LoopAnn :=
  match d with
  | .ref _ xe _ => some { slots := [6],keep := [0,3],α := Nat,st := fun i => ([.int .i64 i],⟨[(0,xe,.cells [.str p,.str q,.bool r])],[]⟩),inv := fun i => i ≤ p.length∧∀ j,j < i→popB st p j = true,mu := fun i => p.length - i }
  | _ => none
noncomputable def Eaft (st p q:List UInt8) (r:Bool):Senv := { EC con0 55 2 [3,4,5,6,17,22,43] (fun id => match id with | 6 => ([0,1,2,3,4,5,6,7,8,9,10,11,12,13,14,15,16,17,18],[]) | 8 => ([0,1,2,3,4,5,6,7,8,9,10,11,12],[]) | _ => ([],[])) with
  ann := fun b env _ => match b with
    | 0 => annR st p q r (Ab.look env 3)
    | _ => none }
noncomputable section
def bc8q0 (p0:Bool) (p1 p2:List UInt8):Bool := bif !p0 then true else decide ((LI p1) < (LI p2))
def bc8q1 (p0 p1:List UInt8) (p2:Bool) (p3:List UInt8):Prop := True∧∃ (_y:Unit),True∧(eqOf (List UInt8) [] (if okA p0 p1 p2 = true then newA p0 p1 p3 else [])∧false = okA p0 p1 p2∧True)∧True∧True
def bc8q2 (p0:Nat) (p1 p2:List UInt8):Prop := p0 ≤ LN p1∧∀ (j:Nat),j < p0→popB p2 p1 j = true
def bc8q3 (p0:List UInt8) (p1:Nat):Int := IntKind.wrap IntKind.i64 (IntKind.wrap IntKind.i64 ((LI p0) - Z1) - (↑p1:Int))
def bc8q4 (p0:List UInt8) (p1:Nat) (p2:List UInt8):Bool := (BI p0 (Int.toNat (↑p1:Int))) != (BI p2 (Int.toNat (bc8q3 p2 p1)))
def bc8q5 (p0:List UInt8) (p1:Nat) (p2:List UInt8):Bool := bif (BI p0 (Int.toNat (↑p1:Int))) != (42:Int) then bc8q4 p0 p1 p2 else false
def bc8q6 (p0 p1:List UInt8):Int := IntKind.wrap IntKind.i64 ((LI p0) - (LI p1))
def bc8q7 (p0 p1:List UInt8):List UInt8 := List.drop N0 (List.take (Int.toNat (bc8q6 p0 p1)) p0)
end
theorem aft_ok (st p q : List UInt8) (r : Bool) (hq : r = true → st.length + q.length ≤ 1000000 ∧ p.length ≤ 1000000) (hs : st.length ≤ 1000000) :
    ACalls Tryz.prog 72 [.str st,.agg [.str p,.str q,.bool r]] ⟨[],[]⟩ (SpecR (sC [.str st,.agg [.str p,.str q,.bool r]] (aftD st p q r)) ()) := by
  refine con_of (A := sC _ _) (x := ()) (E := Eaft st p q r) (eOk con0_ok rfl) Tryz.func72 rfl (by kernel_rfl) rfl (by simp [sC,Eaft,EC,E0]) ?_
  refine vc_eq (T :=
    ∀ (x:Nat),True→(SM x∧ifB (!r) (true = bc8q0 r st p∧True) (SM x∧decide ((LI st) < (LI p)) = bc8q0 r st p∧True))∧ifB (bc8q0 r st p) (bc8q1 st p r q) ((∃ (x_1:Nat),bc8q2 x_1 p st∧(Z0 = (↑x_1:Int)∧True)∧(SM x∧(SM p∧SM q∧SM r∧True)∧True)∧True)∧∀ (x_1:Nat),bc8q2 x_1 p st→SM x∧ifB (decide ((↑x_1:Int) < (LI p))) ((SM x∧side (Z0 ≤ (↑x_1:Int)∧(↑x_1:Int) < (LI p)) (ifB ((BI p (Int.toNat (↑x_1:Int))) != (42:Int)) (SM x∧side (Z0 ≤ (↑x_1:Int)∧(↑x_1:Int) < (LI p)) (side (Z0 ≤ bc8q3 st x_1∧bc8q3 st x_1 < (LI st)) (bc8q4 p x_1 st = bc8q5 p x_1 st∧True))) (false = bc8q5 p x_1 st∧True)))∧ifB (bc8q5 p x_1 st) (bc8q1 st p r q) ((SM (D.str st)∧SM (D.ref N0 x N0)∧True)∧∃ (y:Nat),bc8q2 y p st∧LN p - y < LN p - x_1∧(IntKind.wrap IntKind.i64 ((↑x_1:Int) + Z1) = (↑y:Int)∧True)∧(SM x∧(SM p∧SM q∧SM r∧True)∧True)∧True)) (SM x∧side (Z0 ≤ Z0∧Z0 ≤ bc8q6 st p∧bc8q6 st p ≤ (LI st)) (SM x∧side (LN (bc8q7 st p) + LN q ≤ (9223372036854775807:Nat)) (True∧∃ (y:Unit),True∧((bc8q7 st p ++ q = if okA st p r = true then newA st p q else [])∧true = okA st p r∧True)∧True∧True))))) (by kernel_rfl) ?_
  delta BI LI LN N0 SM U0 Z0 Z1 bc8q0 bc8q1 bc8q2 bc8q3 bc8q4 bc8q5 bc8q6 bc8q7
  simp only [ifB_iff,side_iff,decide_eq_true_eq,decide_eq_false_iff_not,true_and,and_true,bne_iff_ne,Bool.cond_false_right,Bool.cond_true_left,Bool.and_eq_true,Bool.and_eq_false_iff,ne_eq]
  intro xe _
  have fail:okA st p r = false→∃ y:Unit,eqOf (List UInt8) [] (if okA st p r = true then newA st p q else [])∧false = okA st p r := fun h => ⟨(),by simp [h],h.symm⟩
  refine ⟨⟨by cases r <;> simp,by cases r <;> simp⟩,fun h => fail ?_,fun h => ⟨⟨0,⟨by omega,fun j hj => absurd hj (Nat.not_lt_zero j)⟩,rfl⟩,fun i hi => ⟨fun hlt => ?_,fun hge => ?_⟩⟩⟩
  · simp only [Bool.or_eq_true,Bool.not_eq_true',decide_eq_true_eq] at h
    rcases h with h | h
    · simp [okA,h]
    · have:¬ p.length ≤ st.length := by omega
      simp [okA,this]
  · simp only [Bool.or_eq_false_iff,Bool.not_eq_false',decide_eq_false_iff_not] at h
    obtain ⟨hq,hp⟩ := hq h.1
    have hlt':i < p.length := by omega
    have hw:IntKind.i64.wrap (IntKind.i64.wrap ((st.length:Int) - 1) - (i:Int)) = ((st.length - 1 - i:Nat):Int) := by
      rw [wrap_i64' (n := (st.length:Int) - 1) (by omega) (by omega),wrap_i64' (by omega) (by omega)]; omega
    simp only [hw,Int.toNat_natCast]
    refine ⟨⟨by omega,fun h42 => ⟨by omega,by omega,?_⟩,fun h42 => ?_⟩,fun hb => fail (okA_false hlt' (popB_not hb.1 hb.2)),fun hb => ⟨i + 1,⟨by omega,fun j hj => ?_⟩,by omega,wrap_i64' (by omega) (by omega)⟩⟩
    · exact bne_and h42
    · exact bne_and' h42
    · by_cases e:j = i
      · subst e
        refine popB_of (hb.imp (fun h => ?_) (fun h => ?_))
        · simpa using h
        · simpa using h
      · exact hi.2 j (by omega)
  · simp only [Bool.or_eq_false_iff,Bool.not_eq_false',decide_eq_false_iff_not] at h
    obtain ⟨hq,hp⟩ := hq h.1
    have hw:IntKind.i64.wrap ((st.length:Int) - (p.length:Int)) = ((st.length - p.length:Nat):Int) := by
      rw [wrap_i64' (by omega) (by omega)]; omega
    have hip:i = p.length := by omega
    subst hip
    have hok:okA st p r = true := okA_true h.1 (by omega) hi.2
    simp only [hw,Int.toNat_natCast,List.drop_zero]
    refine ⟨by omega,?_,(),by simp [hok,newA],hok.symm⟩
    simp; omega
def conG (c:CodD) (f:Nat):Con := fun k ds S => match k with
  | 18 => match ds with
    | [a0,a1,.agg [.int .i64 a,.int .i64 b,.int .i64 d,.int .i64 e]] => some (pQ [.agg c.row,.int .i64 f,.agg (I4.row ⟨a,b,d,e⟩)] (offD (effC c f ⟨a,b,d,e⟩)) (offQ (effC c f ⟨a,b,d,e⟩)) (weakL [a0,a1] [.agg c.row,.int .i64 f]∧I4.ok ⟨a,b,d,e⟩))
    | _ => none
  | 72 => match ds with
    | [.str st,.agg [.str p,.str q,.bool r]] => some (pC [.str st,.agg [.str p,.str q,.bool r]] (aftD st p q r) ((r = true→st.length + q.length ≤ 1000000∧p.length ≤ 1000000)∧st.length ≤ 1000000))
    | _ => none
  | k => conRE k ds S
theorem conG_ok {c:CodD} {f:Nat} (hf:f < c.funs.length) (hc:c.ok):ConOk Tryz.prog (conG c f) := by
  intro k ds S A h
  unfold conG at h
  split at h
  · split at h
    · injection h with h; subst h
      exact pQ_ok fun ⟨hw,hx⟩ => ⟨⟨hw.1,hw.2.1,weakD_refl _,trivial⟩,(rof_ok c f ⟨_,_,_,_⟩ hf hc hx).mono fun _ _ h => h⟩
    · cases h
  · split at h
    · injection h with h; subst h
      exact pC_ok fun ⟨h1,h2⟩ => ⟨weakL_refl _,aft_ok _ _ _ _ h1 h2⟩
    · cases h
  · exact conRE_ok _ _ _ _ h
theorem step_all {c : CodD} {f i : Nat} {x : I4} {st : List UInt8} {y : Eff} {e : Option Eff} (he : effC c f x = e) (hy : offQ e y) :
    ((!okA st y.1 e.isSome || decide (x.d < 0) || (x.a == 25 || x.a == 24) && decide (0 < (((if okA st y.1 e.isSome = true then newA st y.1 y.2 else []):List UInt8).length:Int)) || x.a == 24 && decide (x.b ≤ i)) = true→stepS c f i x st = none) ∧
    ((!okA st y.1 e.isSome || decide (x.d < 0) || (x.a == 25 || x.a == 24) && decide (0 < (((if okA st y.1 e.isSome = true then newA st y.1 y.2 else []):List UInt8).length:Int)) || x.a == 24 && decide (x.b ≤ i)) = false→okA st y.1 e.isSome = true∧stepS c f i x st = some (newA st y.1 y.2)) := by
  cases e with
  | none => exact ⟨fun _ => by simp [stepS,he],fun h => by simp [okA] at h⟩
  | some e' =>
    obtain rfl := hy e' rfl
    simp only [Option.isSome]
    by_cases hq:okA st y.1 true = true
    case neg => exact ⟨fun _ => by simp [stepS,he,hq],fun h => by simp [hq] at h⟩
    case pos =>
      by_cases hd:x.d < 0
      · exact ⟨fun _ => by simp [stepS,he,hd],fun h => by simp [hd] at h⟩
      · have hs := step_cond (i := i) he hq hd (b := decide (0 < ((newA st y.1 y.2).length:Int))) lenB
        simp only [hq,Bool.not_true,decide_eq_false hd,Bool.false_or,if_true]
        exact ⟨hs.1,fun h => ⟨trivial,hs.2 h⟩⟩
theorem app_bools {em:List Bool} {b:Bool} {j:Nat} (hj:j < em.length + 1):appF em.length (fun i => [D.bool (em.getD i false)]) (fun i => [[D.bool b]].getD i []) j = [D.bool ((em ++ [b]).getD j false)] := by
  simp only [appF]
  split
  · rename_i h
    simp [List.getD_eq_getElem?_getD,List.getElem?_append_left h]
  · have:j = em.length := by omega
    subst this
    simp [List.getD_eq_getElem?_getD]
structure RunHead (c:CodD) (f:Nat) (i:Nat) (st:List UInt8) (deep:Nat) (em:List Bool):Prop where
  hi:i ≤ (c.funs.getD f default).code.length
  hs:st.length ≤ i
  hd:deep ≤ 65536
  hr:runS c f i ((c.funs.getD f default).code.drop i) st deep = runS c f 0 (c.funs.getD f default).code [] 0
  hl:em.length = i
  he:em ++ empS c f i ((c.funs.getD f default).code.drop i) st = empS c f 0 (c.funs.getD f default).code []
def okHead (fd:FnD):Bool := between fd.slots 0 1000 && decide (fd.code ≠ []) && decide ((fd.code.getD (fd.code.length - 1) default).a = 25)
def cutG1 (c:CodD) (f:Nat) (d2:D):Option LoopAnn :=
  match d2 with
  | .ref _ x2 _ => some { slots := [6],keep := [],α := FnD,st := fun y => ([gsl 4 I4.row y.code],⟨[(0,x2,.cells c.row)],[]⟩),inv := fun y => y = c.funs.getD f default,mu := fun _ => 0 }
  | _ => none
def cutG2 (c:CodD) (f:Nat) (d2:D):Option LoopAnn :=
  match d2 with
  | .ref _ x2 _ => some { slots := [42],keep := [],α := Bool × O4,st := fun y => ([.bool y.1],⟨[(0,x2,.cells (O4.row y.2))],[]⟩),inv := fun y => y.1 = !(okHead (c.funs.getD f default))∧CB c y.2,mu := fun _ => 0 }
  | _ => none
def annG1 (c:CodD) (f n:Nat) (os:List (Nat × Nat × AObj)):Option LoopAnn :=
  match os with
  | [(_,x2,.cells cc)] => some { slots := [10,7,8,9],keep := [1,2,6],α := (Nat × Nat × List Bool) × List UInt8 × Nat,st := fun y => ([.int .i64 y.1.1,.str y.2.1,.int .i64 y.1.2.1,.sl 1 y.1.2.2.length (erow y.1.2.2) (.tok 0 y.2.2)],⟨[(0,x2,.cells cc)],[(0,y.2.2)]⟩),inv := fun y => RunHead c f y.1.1 y.2.1 y.1.2.1 y.1.2.2,mu := fun y => n - y.1.1 }
  | _ => none
def annG2 (c:CodD) (f n:Nat):LoopAnn := { slots := [13],keep := [6,8,9],α := Nat,st := fun y => ([.int .i64 y],⟨[],[]⟩),inv := fun y => y ≤ n∧guardsB (empS c f 0 (c.funs.getD f default).code []) ((c.funs.getD f default).code.take y) = true,mu := fun y => n - y }
noncomputable def E44 (c:CodD) (f:Nat):Senv := { EC (conG c f) 144 3 [4,5,6,7,8,9,10,11,12,13,42,46,114,123,142] (fun id => match id with | 10 => ([0,1,2,3,4,5,6,7,8,9,10,11,12,13],[7,8]) | _ => ([],[])) with
  cut := fun id env _ => match id with
    | 1 => cutG1 c f (Ab.look env 2)
    | 2 => cutG2 c f (Ab.look env 2)
    | _ => none
  gh := fun b => match b with
    | 0 => [.slot 9]
    | _ => []
  ann := fun b _ S => match b with
    | 0 => annG1 c f (c.funs.getD f default).code.length S.objs
    | 2 => some (annG2 c f (c.funs.getD f default).code.length)
    | _ => none }
noncomputable section
def bc8q8 (p0:CodD):List FnD := CodD.funs p0
def bc8q9 (p0:CodD):Nat := LN (bc8q8 p0)
def bc8q10:FnD := DF
def bc8q11 (p0:CodD) (p1:Nat):FnD := List.getD (bc8q8 p0) p1 bc8q10
def bc8q12 (p0:FnD) (p1:CodD) (p2:Nat):Prop := p0 = bc8q11 p1 p2
def bc8q13 (p0:CodD) (p1:Nat):FnD := List.getD (bc8q8 p0) (Int.toNat (↑p1:Int)) bc8q10
def bc8q14 (p0:CodD) (p1:Nat):List I4 := FnD.code (bc8q13 p0 p1)
def bc8q15 (p0:CodD) (p1:Nat):Nat := LN (bc8q14 p0 p1)
def bc8q16 (p0:FnD):List I4 := FnD.code p0
def bc8q17 (p0:FnD):Nat := LN (bc8q16 p0)
def bc8q18:I4 := D4
def bc8q19 (p0:CodD) (p1 p2:Nat):I4 := List.getD (bc8q14 p0 p1) p2 bc8q18
def bc8q20 (p0:FnD) (p1:Nat):I4 := List.getD (bc8q16 p0) p1 bc8q18
def bc8q21 (p0:FnD) (p1:Nat):List D := (R4 (bc8q20 p0 p1))
def bc8q22 (p0:CodD):Nat := LN (CodD.consts p0)
def bc8q23 (p0:CodD) (p1:Nat):List D := Arr.row (GC p0 p1)
def bc8q24 (p0:CodD) (p1:Nat):List I4 := FnD.code (bc8q11 p0 p1)
def bc8q25 (p0:CodD) (p1:Nat):Nat := LN (bc8q24 p0 p1)
def bc8q26 (p0:CodD) (p1 p2:Nat):I4 := List.getD (bc8q24 p0 p1) p2 bc8q18
def bc8q27 (p0:CodD) (p1:Nat):List D := [ZI (FnD.slots (bc8q11 p0 p1)),D.sl N4 (bc8q25 p0 p1) (fun (i:Nat) => (R4 (bc8q26 p0 p1 i))) Mode.any]
def bc8q28 (p0:CodD):Nat := LN (CodD.kers p0)
def bc8q29 (p0:CodD) (p1:Nat):List D := KeD.row (GK p0 p1)
def bc8q30 (p0:CodD):Nat := LN (CodD.lanes p0)
def bc8q31 (p0:CodD) (p1:Nat):List D := LaD.row (GL p0 p1)
def bc8q32 (p0:CodD) (p1:Nat):Int := FnD.slots (bc8q13 p0 p1)
def bc8q33 (p0:CodD) (p1:Nat):Bool := decide (Z0 ≤ bc8q32 p0 p1)
def bc8q34 (p0:CodD) (p1:Nat):Bool := decide (bc8q32 p0 p1 ≤ (1000:Int))
def bc8q35 (p0:CodD) (p1:Nat):Bool := bif bc8q33 p0 p1 then bc8q34 p0 p1 else false
def bc8q36 (p0:Bool) (p1:CodD) (p2:Nat) (p3:O4):Prop := p0 = !okHead (bc8q11 p1 p2)∧CB p1 p3
def bc8q37 (p0:CodD):D := D.sl N4 (bc8q22 p0) (fun (i:Nat) => bc8q23 p0 i) Mode.any
def bc8q38 (p0:CodD):D := D.sl N2 (bc8q9 p0) (fun (i:Nat) => bc8q27 p0 i) Mode.any
def bc8q39 (p0:CodD):D := D.sl N4 (bc8q28 p0) (fun (i:Nat) => bc8q29 p0 i) Mode.any
def bc8q40 (p0:CodD):D := D.sl N2 (bc8q30 p0) (fun (i:Nat) => bc8q31 p0 i) Mode.any
def bc8q41 (p0:Nat) (p1:CodD) (p2 p3 p4 p5:D):Prop := (SM p0∧(weakD (bc8q37 p1) p2∧weakD (bc8q38 p1) p3∧weakD (bc8q39 p1) p4∧weakD (bc8q40 p1) p5∧True)∧True)∧True
def bc8q42 (p0:CodD) (p1 p2:Nat):Prop := ∃ (x:Bool × O4),bc8q36 x.1 p0 p1 x.2∧(true = x.1∧True)∧bc8q41 p2 p0 x.2.1 x.2.2.1 x.2.2.2.1 x.2.2.2.2
def bc8q43 (p0:FnD):Int := (NI (bc8q17 p0))
def bc8q44 (p0:FnD):Int := IntKind.wrap IntKind.i64 (bc8q43 p0 - Z1)
def bc8q45 (p0:CodD) (p1:Nat):Prop := True∧∃ (_y:Unit),True∧(Z0 = (NI (Option.getD (funS p0 p1) N0))∧false = Option.isSome (funS p0 p1)∧True)∧True∧True
def bc8q46 (p0:List Bool) (p1:Nat):List D := [D.bool (List.getD p0 p1 false)]
def bc8q47 (p0:Nat) (p1:FnD):Bool := decide ((↑p0:Int) < bc8q43 p1)
def bc8q48 (p0:FnD) (p1:Nat):I4 := List.getD (bc8q16 p0) (Int.toNat (↑p1:Int)) bc8q18
def bc8q49 (p0:FnD) (p1:Nat):Int := I4.a (bc8q48 p0 p1)
def bc8q50 (p0:FnD) (p1:Nat):Int := I4.b (bc8q48 p0 p1)
def bc8q51 (p0:FnD) (p1:Nat):Int := I4.d (bc8q48 p0 p1)
def bc8q52 (p0:FnD) (p1:Nat):I4 := I4.mk (bc8q49 p0 p1) (bc8q50 p0 p1) (I4.c (bc8q48 p0 p1)) (bc8q51 p0 p1)
def bc8q53 (p0:CodD) (p1:Nat) (p2:FnD) (p3:Nat):Option Eff := effC p0 p1 (bc8q52 p2 p3)
def bc8q54 (p0:CodD) (p1:Nat) (p2:FnD) (p3:Nat):Bool := Option.isSome (bc8q53 p0 p1 p2 p3)
def bc8q55 (p0 p1:List UInt8) (p2:CodD) (p3:Nat) (p4:FnD) (p5:Nat):Bool := okA p0 p1 (bc8q54 p2 p3 p4 p5)
def bc8q56 (p0 p1:List UInt8) (p2:CodD) (p3:Nat) (p4:FnD) (p5:Nat):Bool := !bc8q55 p0 p1 p2 p3 p4 p5
def bc8q57 (p0:FnD) (p1:Nat):Bool := decide (bc8q51 p0 p1 < Z0)
def bc8q58 (p0:FnD) (p1:Nat):Bool := bc8q49 p0 p1 == (25:Int)
def bc8q59 (p0:FnD) (p1:Nat):Bool := bc8q49 p0 p1 == (24:Int)
def bc8q60 (p0 p1:List UInt8) (p2:CodD) (p3:Nat) (p4:FnD) (p5:Nat) (p6:List UInt8):List UInt8 := if bc8q55 p0 p1 p2 p3 p4 p5 = true then newA p0 p1 p6 else []
def bc8q61 (p0 p1:List UInt8) (p2:CodD) (p3:Nat) (p4:FnD) (p5:Nat) (p6:List UInt8):Int := (LI (bc8q60 p0 p1 p2 p3 p4 p5 p6))
def bc8q62 (p0 p1:List UInt8) (p2:CodD) (p3:Nat) (p4:FnD) (p5:Nat) (p6:List UInt8):Bool := decide (Z0 < bc8q61 p0 p1 p2 p3 p4 p5 p6)
def bc8q63 (p0:FnD) (p1:Nat):Bool := decide (bc8q50 p0 p1 ≤ (↑p1:Int))
def bc8q64 (p0 p1:List UInt8) (p2:CodD) (p3:Nat) (p4:FnD) (p5:Nat) (p6:List UInt8):Bool := bif bif bif bc8q56 p0 p1 p2 p3 p4 p5 then true else bc8q57 p4 p5 then true else bif bif bc8q58 p4 p5 then true else bc8q59 p4 p5 then bc8q62 p0 p1 p2 p3 p4 p5 p6 else false then true else bif bc8q59 p4 p5 then bc8q63 p4 p5 else false
def bc8q65 (p0 p1:List UInt8) (p2:CodD) (p3:Nat) (p4:FnD) (p5:Nat) (p6:List UInt8):Prop := true = bc8q64 p0 p1 p2 p3 p4 p5 p6∧True
def bc8q66 (p0:Nat) (p1:FnD) (p2 p3:List UInt8) (p4:CodD) (p5:Nat) (p6:List UInt8):Prop := side (Z0 ≤ (↑p0:Int)∧(↑p0:Int) < bc8q43 p1) (ifB (bc8q59 p1 p0) (side (Z0 ≤ (↑p0:Int)∧(↑p0:Int) < bc8q43 p1) (bc8q63 p1 p0 = bc8q64 p2 p3 p4 p5 p1 p0 p6∧True)) (false = bc8q64 p2 p3 p4 p5 p1 p0 p6∧True))
def bc8q67 (p0 p1:List UInt8) (p2:CodD) (p3:Nat) (p4:FnD) (p5:Nat) (p6:List UInt8):Prop := ifB (bc8q62 p0 p1 p2 p3 p4 p5 p6) (bc8q65 p0 p1 p2 p3 p4 p5 p6) (bc8q66 p5 p4 p0 p1 p2 p3 p6)
def bc8q68 (p0:FnD):D := D.sl N4 (bc8q17 p0) (fun (i:Nat) => bc8q21 p0 i) Mode.any
def bc8q69 (p0:FnD):Prop := SM (bc8q68 p0)
def bc8q70 (p0:CodD) (p1 p2:Nat):Nat := bc8q25 p0 p1 - p2
def bc8q71 (p0:CodD) (p1 p2 p3:Nat):Prop := bc8q70 p0 p1 p2 < bc8q70 p0 p1 p3
def bc8q72 (p0:Nat) (p1:CodD) (p2:Nat):Prop := p0 ≤ bc8q25 p1 p2∧guardsB (empS p1 p2 N0 (bc8q24 p1 p2) []) (List.take p0 (bc8q24 p1 p2)) = true
def bc8q73 (p0:List Bool) (p1:FnD) (p2:Nat):Bool := !List.getD p0 (Int.toNat (bc8q50 p1 p2)) false
def bc8q74 (p0:FnD) (p1:Nat) (p2:List Bool):Bool := bif bc8q59 p0 p1 then bc8q73 p2 p0 p1 else false
def bc8q75 (p0:List Bool) (p1:Nat):D := D.sl N1 (LN p0) (fun (i:Nat) => bc8q46 p0 i) (Mode.tok N0 p1)
end
set_option maxHeartbeats 4000000 in
theorem rfun_ok (c:CodD) (f:Nat) (hf:f < c.funs.length) (hc:c.ok) (hn:(c.funs.getD f default).code.length ≤ 65536):ACalls Tryz.prog 30 [.agg c.row,.int .i64 f] ⟨[],[]⟩ (SpecR (sC [.agg c.row,.int .i64 f] (funD (funS c f))) ()) := by
  refine con_of (A := sC _ _) (x := ()) (E := E44 c f) (eOk (conG_ok hf hc) rfl) Tryz.func30 rfl (by kernel_rfl) rfl (by simp [sC,E44,EC,E0]) ?_
  refine vc_eq (T :=
    ∀ (x:Nat),True→(SM x∧side (Z0 ≤ (↑f:Int)∧(↑f:Int) < (NI (bc8q9 c))) (∃ (x_1:FnD),bc8q12 x_1 c f∧((bc8q15 c f = bc8q17 x_1∧(∀ (i:Nat),i < bc8q15 c f→(R4 (bc8q19 c f i)) = bc8q21 x_1 i)∧True)∧True)∧(SM x∧((SM (bc8q22 c)∧(∀ (i:Nat),i < bc8q22 c→SM (bc8q23 c i))∧True)∧(SM (bc8q9 c)∧(∀ (i:Nat),i < bc8q9 c→SM (bc8q27 c i))∧True)∧(SM (bc8q28 c)∧(∀ (i:Nat),i < bc8q28 c→SM (bc8q29 c i))∧True)∧(SM (bc8q30 c)∧(∀ (i:Nat),i < bc8q30 c→SM (bc8q31 c i))∧True)∧True)∧True)∧True))∧∀ (x_1:FnD),bc8q12 x_1 c f→(SM x∧side (Z0 ≤ (↑f:Int)∧(↑f:Int) < (NI (bc8q9 c))) (ifB (bc8q33 c f) (bc8q34 c f = bc8q35 c f∧True) (false = bc8q35 c f∧True)∧True∧ifB (!bc8q35 c f) (bc8q42 c f x) (ifB (bc8q43 x_1 == Z0) (bc8q42 c f x) (side (Z0 ≤ bc8q44 x_1∧bc8q44 x_1 < bc8q43 x_1) (∃ (x_2:Bool × O4),bc8q36 x_2.1 c f x_2.2∧((I4.a (List.getD (bc8q16 x_1) (Int.toNat (bc8q44 x_1)) bc8q18) != (25:Int)) = x_2.1∧True)∧bc8q41 x c x_2.2.1 x_2.2.2.1 x_2.2.2.2.1 x_2.2.2.2.2)))))∧∀ (x_2:Bool × O4),bc8q36 x_2.1 c f x_2.2→ifB x_2.1 (bc8q45 c f) (∀ (t:Nat),(∃ (x_3:(Nat × Nat × List Bool) × List UInt8 × Nat),RunHead c f x_3.1.1 x_3.2.1 x_3.1.2.1 x_3.1.2.2∧(Z0 = (NI x_3.1.1)∧eqOf (List UInt8) [] x_3.2.1∧Z0 = (NI x_3.1.2.1)∧(N0 = LN x_3.1.2.2∧(∀ (i:Nat),i < N0→eqOf (List D) [] (bc8q46 x_3.1.2.2 i))∧t = x_3.2.2)∧True)∧(SM x∧(weakD x_2.2.1 x_2.2.1∧weakD x_2.2.2.1 x_2.2.2.1∧weakD x_2.2.2.2.1 x_2.2.2.2.1∧weakD x_2.2.2.2.2 x_2.2.2.2.2∧True)∧True)∧t = x_3.2.2∧True)∧∀ (x_3:(Nat × Nat × List Bool) × List UInt8 × Nat),RunHead c f x_3.1.1 x_3.2.1 x_3.1.2.1 x_3.1.2.2→ifB (bc8q47 x_3.1.1 x_1) (SM x_3.2.2∧side ((LN x_3.1.2.2 + N1) * N1 ≤ (140737488355328:Nat)∧LN x_3.1.2.2 + N1 ≤ (9223372036854775807:Nat)) (∀ (t:Nat),SM x∧side (Z0 ≤ (NI x_3.1.1)∧(NI x_3.1.1) < bc8q43 x_1) ((((weakD x_2.2.1 (bc8q37 c)∧weakD x_2.2.2.1 (bc8q38 c)∧weakD x_2.2.2.2.1 (bc8q39 c)∧weakD x_2.2.2.2.2 (bc8q40 c)∧True)∧SM (↑f:Int)∧True)∧I4.ok (bc8q52 x_1 x_3.1.1))∧∀ (y:Eff),offQ (bc8q53 c f x_1 x_3.1.1) y→((bc8q54 c f x_1 x_3.1.1 = true→LN x_3.2.1 + LN y.2 ≤ (1000000:Nat)∧LN y.1 ≤ (1000000:Nat))∧LN x_3.2.1 ≤ (1000000:Nat))∧∀ (y_1:Unit),True→ifB (bc8q56 x_3.2.1 y.1 c f x_1 x_3.1.1) (bc8q65 x_3.2.1 y.1 c f x_1 x_3.1.1 y.2) (side (Z0 ≤ (NI x_3.1.1)∧(NI x_3.1.1) < bc8q43 x_1) (ifB (bc8q57 x_1 x_3.1.1) (bc8q65 x_3.2.1 y.1 c f x_1 x_3.1.1 y.2) (side (Z0 ≤ (NI x_3.1.1)∧(NI x_3.1.1) < bc8q43 x_1) (ifB (bc8q58 x_1 x_3.1.1) (bc8q67 x_3.2.1 y.1 c f x_1 x_3.1.1 y.2) (side (Z0 ≤ (NI x_3.1.1)∧(NI x_3.1.1) < bc8q43 x_1) (ifB (bc8q59 x_1 x_3.1.1) (bc8q67 x_3.2.1 y.1 c f x_1 x_3.1.1 y.2) (bc8q66 x_3.1.1 x_1 x_3.2.1 y.1 c f y.2)))))))∧ifB (bc8q64 x_3.2.1 y.1 c f x_1 x_3.1.1 y.2) (bc8q45 c f) ((SM (ZI (↑f:Int))∧SM (D.ref N0 x N0)∧bc8q69 x_1∧True)∧∃ (y_2:(Nat × Nat × List Bool) × List UInt8 × Nat),RunHead c f y_2.1.1 y_2.2.1 y_2.1.2.1 y_2.1.2.2∧bc8q71 c f y_2.1.1 x_3.1.1∧(IntKind.wrap IntKind.i64 ((NI x_3.1.1) + Z1) = (NI y_2.1.1)∧bc8q60 x_3.2.1 y.1 c f x_1 x_3.1.1 y.2 = y_2.2.1∧(if (NI x_3.1.2.1) < bc8q61 x_3.2.1 y.1 c f x_1 x_3.1.1 y.2 then bc8q61 x_3.2.1 y.1 c f x_1 x_3.1.1 y.2 else (NI x_3.1.2.1)) = (NI y_2.1.2.1)∧(LN x_3.1.2.2 + N1 = LN y_2.1.2.2∧(∀ (i:Nat),i < LN x_3.1.2.2 + N1→appF (LN x_3.1.2.2) (fun (i:Nat) => bc8q46 x_3.1.2.2 i) (fun (i:Nat) => List.getD [[D.bool ((LI x_3.2.1) == Z0)]] i []) i = bc8q46 y_2.1.2.2 i)∧t = y_2.2.2)∧True)∧(SM x∧(weakD x_2.2.1 x_2.2.1∧weakD x_2.2.2.1 x_2.2.2.1∧weakD x_2.2.2.2.1 x_2.2.2.2.1∧weakD x_2.2.2.2.2 x_2.2.2.2.2∧True)∧True)∧t = y_2.2.2∧True)))) ((∃ (x:Nat),bc8q72 x c f∧(Z0 = (↑x:Int)∧True)∧True∧True)∧∀ (x:Nat),bc8q72 x c f→ifB (bc8q47 x x_1) (side (Z0 ≤ (↑x:Int)∧(↑x:Int) < bc8q43 x_1) (ifB (bc8q59 x_1 x) (side (Z0 ≤ (↑x:Int)∧(↑x:Int) < bc8q43 x_1) (side (Z0 ≤ bc8q50 x_1 x∧bc8q50 x_1 x < (LI x_3.1.2.2)) (bc8q73 x_3.1.2.2 x_1 x = bc8q74 x_1 x x_3.1.2.2∧True))) (false = bc8q74 x_1 x x_3.1.2.2∧True))∧ifB (bc8q74 x_1 x x_3.1.2.2) (bc8q45 c f) ((bc8q69 x_1∧SM (ZI (NI x_3.1.2.1))∧SM (bc8q75 x_3.1.2.2 x_3.2.2)∧True)∧∃ (y:Nat),bc8q72 y c f∧bc8q71 c f y x∧(IntKind.wrap IntKind.i64 ((↑x:Int) + Z1) = (↑y:Int)∧True)∧True∧True)) (True∧∃ (y:Unit),True∧((NI x_3.1.2.1) = (NI (Option.getD (funS c f) N0))∧true = Option.isSome (funS c f)∧True)∧True∧True)))) (by kernel_rfl) ?_
  delta D4 DA DF DK DL GC GK GL LI LN N0 N1 N2 N4 NI R4 SM Z0 Z1 ZI bc8q10 bc8q11 bc8q12 bc8q13 bc8q14 bc8q15 bc8q16 bc8q17 bc8q18 bc8q19 bc8q20 bc8q21 bc8q22 bc8q23 bc8q24 bc8q25 bc8q26 bc8q27 bc8q28 bc8q29 bc8q30 bc8q31 bc8q32 bc8q33 bc8q34 bc8q35 bc8q36 bc8q37 bc8q38 bc8q39 bc8q40 bc8q41 bc8q42 bc8q43 bc8q44 bc8q45 bc8q46 bc8q47 bc8q48 bc8q49 bc8q50 bc8q51 bc8q52 bc8q53 bc8q54 bc8q55 bc8q56 bc8q57 bc8q58 bc8q59 bc8q60 bc8q61 bc8q62 bc8q63 bc8q64 bc8q65 bc8q66 bc8q67 bc8q68 bc8q69 bc8q70 bc8q71 bc8q72 bc8q73 bc8q74 bc8q75 bc8q8 bc8q9
  have de:(default:FnD) = ⟨0,[]⟩ := rfl
  have d4:(default:I4) = ⟨0,0,0,0⟩ := rfl
  simp only [← de,← d4,Int.toNat_natCast]
  simp only [ifB_iff,side_iff,decide_eq_true_eq,decide_eq_false_iff_not,true_and,and_true,beq_iff_eq,Bool.cond_false_right,Bool.cond_true_left,Bool.and_eq_true,Bool.and_eq_false_iff,beq_eq_false_iff_ne,ne_eq]
  intro x2 _
  refine ⟨⟨by omega,c.funs.getD f default,rfl,⟨rfl,fun _ _ => rfl⟩,fun _ _ => trivial,fun _ _ => trivial,fun _ _ => trivial,fun _ _ => trivial⟩,?_⟩
  rintro _ rfl
  have hco:∀ i:Nat,i < (c.funs.getD f default).code.length→((c.funs.getD f default).code.getD i default).ok := fun i hi => getD_ok (getD_ok hc.2.1 hf).2.1 hi
  have hw1:IntKind.i64.wrap (((c.funs.getD f default).code.length:Int) - 1) = ((c.funs.getD f default).code.length:Int) - 1 := wrap_i64' (by omega) (by omega)
  have hw2:(((c.funs.getD f default).code.length:Int) - 1).toNat = (c.funs.getD f default).code.length - 1 := by omega
  have no:funS c f = none→∃ y:Unit,(0:Int) = ((funS c f).getD 0:Nat)∧false = (funS c f).isSome := fun h => ⟨(),by simp [h],by simp [h]⟩
  have okp:okHead (c.funs.getD f default) = true↔(between (c.funs.getD f default).slots 0 1000 = true∧(c.funs.getD f default).code ≠ []∧((c.funs.getD f default).code.getD ((c.funs.getD f default).code.length - 1) default).a = 25) := by
    simp only [okHead,Bool.and_eq_true,decide_eq_true_eq,and_assoc]
  have fcut:∀ b,b = !okHead (c.funs.getD f default)→∃ y:Bool × O4,(y.1 = (!okHead (c.funs.getD f default))∧CB c y.2)∧b = y.1∧weakD (gsl 4 Arr.row c.consts) y.2.1∧weakD (gsl 2 FnD.row c.funs) y.2.2.1∧weakD (gsl 4 KeD.row c.kers) y.2.2.2.1∧weakD (gsl 2 LaD.row c.lanes) y.2.2.2.2 :=
    fun b h => ⟨(b,(gsl 4 Arr.row c.consts,gsl 2 FnD.row c.funs,gsl 4 KeD.row c.kers,gsl 2 LaD.row c.lanes)),⟨h,rfl⟩,rfl,weakD_refl _,weakD_refl _,weakD_refl _,weakD_refl _⟩
  refine ⟨⟨by omega,⟨fun h => by rw [decide_eq_true h,Bool.true_and],fun h => by rw [decide_eq_false h,Bool.false_and]⟩,fun h => fcut _ ?_,fun h1 => ⟨fun h => fcut _ ?_,fun h2 => ⟨by rw [hw1]; omega,fcut _ ?_⟩⟩⟩,?_⟩
  · symm
    rw [Bool.not_eq_true',← Bool.not_eq_true]
    intro ho
    have := (okp.1 ho).1
    simp only [between] at this
    rw [this] at h
    cases h
  · symm
    rw [Bool.not_eq_true',← Bool.not_eq_true]
    exact fun ho => (okp.1 ho).2.1 (List.eq_nil_of_length_eq_zero (by omega))
  · rw [hw1,hw2]
    have hb:between (c.funs.getD f default).slots 0 1000 = true := by simpa [between] using h1
    have hn:(c.funs.getD f default).code ≠ [] := by
      intro e; rw [e] at h2; exact h2 rfl
    simp only [okHead,hb,hn,Bool.true_and,decide_true,ne_eq,not_false_eq_true]
    rfl
  rintro ⟨b,dd⟩ ⟨hb,hdd⟩
  simp only at hb hdd ⊢
  have hD:weakD dd.1 (gsl 4 Arr.row c.consts)∧weakD dd.2.1 (gsl 2 FnD.row c.funs)∧weakD dd.2.2.1 (gsl 4 KeD.row c.kers)∧weakD dd.2.2.2 (gsl 2 LaD.row c.lanes) := by
    have h := hdd
    simp only [CB,O4.row,CodD.row,List.cons.injEq,and_true] at h
    obtain ⟨h1,h2,h3,h4⟩ := h
    rw [h1,h2,h3,h4]
    exact ⟨weakD_refl _,weakD_refl _,weakD_refl _,weakD_refl _⟩
  refine ⟨fun h => no ?_,fun h t => ?_⟩
  · rw [h] at hb
    simp only [funS]
    rw [if_neg]
    intro hh
    rw [okp.2 hh] at hb
    cases hb
  have hok := okp.1 (by rw [h] at hb; simpa using hb.symm)
  refine ⟨⟨((0,0,[]),[],t),⟨Nat.zero_le _,Nat.le_refl _,Nat.zero_le _,by simp,rfl,by simp⟩,⟨rfl,rfl,rfl,rfl,fun _ h => absurd h (Nat.not_lt_zero _),rfl⟩,⟨weakD_refl _,weakD_refl _,weakD_refl _,weakD_refl _⟩,rfl⟩,?_⟩
  rintro ⟨⟨i,deep,em⟩,st,t1⟩ hh
  simp only at hh ⊢
  refine ⟨fun hlt => ?_,fun hge => ?_⟩
  · have hlt:i < (c.funs.getD f default).code.length := by omega
    have hx := hco i hlt
    have hr := hh.hr
    have he0 := hh.he
    have hhi := hh.hi
    have hhs := hh.hs
    have hhd := hh.hd
    have hhl := hh.hl
    rw [drop_step hlt] at hr he0
    generalize (c.funs.getD f default).code.getD i default = x at *
    refine ⟨by omega,fun t2 => ⟨by omega,⟨hD,hx⟩,fun y hy => ?_⟩⟩
    generalize he:effC c f ⟨x.a,x.b,x.c,x.d⟩ = e at *
    have he:effC c f x = e := he
    have hlen:e.isSome = true→st.length + y.2.length ≤ 1000000∧y.1.length ≤ 1000000 := by
      intro h
      cases e with
      | none => cases h
      | some e' =>
        obtain rfl := hy e' rfl
        have := eff_len he
        omega
    have hst := step_all (i := i) (st := st) he hy
    have hie:((st.length:Int) == 0) = st.isEmpty := by
      cases st with
      | nil => rfl
      | cons a l => simp; omega
    refine ⟨⟨hlen,by omega⟩,fun _ _ => ⟨?_,fun h => no ?_,fun h => ?_⟩⟩
    · clear hst hlen hr he0 hh hco no okp fcut hD hdd hok hy he hx hhl hhd hc hw1 hw2 hb hf hn
      generalize okA st y.1 e.isSome = q
      generalize (if q = true then newA st y.1 y.2 else []) = nx
      cases q with
      | false => exact ⟨fun _ => rfl,fun h => by cases h⟩
      | true =>
        refine ⟨fun h => (by cases h),fun _ => ?_⟩
        (repeat' (first | refine And.intro ?_ ?_ | intro _))
        all_goals first
          | omega
          | (simp_all; done)
          | (simp_all; omega)
    · have hn0 := hst.1 h
      rw [runS,hn0] at hr
      simp only [funS]
      rw [if_pos hok,← hr]
    · obtain ⟨hq,hs⟩ := hst.2 h
      simp only [hq,if_true]
      have hnl := step_len hs
      rw [runS,hs] at hr
      rw [empS,hs] at he0
      refine ⟨((i + 1,max deep (newA st y.1 y.2).length,em ++ [st.isEmpty]),newA st y.1 y.2,t2),⟨by simp only; omega,by simp only; omega,by simp only; omega,hr,by simp [hhl],by simpa using he0⟩,by simp only; omega,⟨wrap_i64' (by omega) (by omega),rfl,maxI _ _,by simp,fun j hj => ?_,rfl⟩,⟨weakD_refl _,weakD_refl _,weakD_refl _,weakD_refl _⟩,rfl⟩
      rw [hie]
      exact app_bools hj
  · have hiN:i = (c.funs.getD f default).code.length := by have := hh.hi; omega
    have hr := hh.hr
    have he0 := hh.he
    have hl := hh.hl
    rw [hiN,List.drop_length] at hr he0
    rw [runS] at hr
    rw [empS,List.append_nil] at he0
    refine ⟨⟨0,⟨Nat.zero_le _,by simp [guardsB]⟩,rfl⟩,fun j hj => ⟨fun hlt => ?_,fun hge => ⟨(),?_⟩⟩⟩
    · have hlt:j < (c.funs.getD f default).code.length := by omega
      have hmem:(c.funs.getD f default).code.getD j default ∈ (c.funs.getD f default).code := getD_mem hlt
      have htk := take_step hlt
      have hj2 := hj.2
      rw [← he0] at hj2 ⊢
      generalize (c.funs.getD f default).code.getD j default = x at *
      have hrng:x.a = 24→0 ≤ x.b∧x.b < ((c.funs.getD f default).code.length:Int) := fun ha => (let ⟨_,he⟩ := run_mem _ _ _ _ _ hr.symm x hmem; eff_guard he ha)
      refine ⟨⟨by omega,fun ha => ⟨by omega,by rw [hl,hiN]; exact hrng ha,by simp [ha]⟩,fun ha => by simp [ha]⟩,fun hb => no ?_,fun hb => ⟨j + 1,⟨by omega,?_⟩,by omega,wrap_i64' (by omega) (by omega)⟩⟩
      · simp only [funS]
        rw [if_pos hok,← hr]
        simp only
        rw [if_neg]
        intro hg
        have := List.all_eq_true.1 hg x hmem
        rw [← he0] at this
        have h2:em.getD x.b.toNat false = false := by simpa using hb.2
        rw [h2] at this
        simp [hb.1] at this
      · rw [htk]
        simp only [guardsB,List.all_append,Bool.and_eq_true] at hj2 ⊢
        refine ⟨hj2,?_⟩
        simp only [List.all_cons,List.all_nil,Bool.and_true,Bool.or_eq_true,decide_eq_true_eq]
        rcases hb with hb | hb
        · exact .inl hb
        · exact .inr (by simpa using hb)
    · have hjN:j = (c.funs.getD f default).code.length := by omega
      have hg := hj.2
      rw [hjN,List.take_length] at hg
      have:funS c f = some deep := by simp only [funS]; rw [if_pos hok,← hr]; simp only; rw [if_pos hg]
      rw [this]
      exact ⟨rfl,rfl⟩
end Go.Proofs.YtflbmbkhjcbhoaaGreatDoor
namespace Go.Proofs.YtflbmbkhjcbhoaaGreatDoor
open Go Go.Ab
theorem eOk0 {E:Senv} (h:E = { E0 con0 E.n E.V E.cross E.ord with ann := E.ann,inl := inlD (E0 con0 0 0 [] (fun _ => ([],[]))) (frmGet frames) 5 }):EnvOk E := by
  rw [h]
  exact ⟨tab_ok,con0_ok,mix,fun k ds S R h => inlD_ok (E := E0 con0 0 0 [] (fun _ => ([],[]))) tab_ok con0_ok mix frames_ok eqs_ok 5 k ds S R h,eqs_ok⟩
def opB (inp:Int) (i:Nat) (o:I4):Bool := primB o.a && between o.c 0 (inp + i - 1) && between o.b (-1) (inp + i - 1) && decide (0 ≤ o.d)
def kerB (k:KeD):Bool := between k.inputs 1 16 && between k.ops.length 1 64 && decide (0 ≤ k.at_) && (decide (k.reduce = 0) || primB k.reduce) && (List.range k.ops.length).all fun i => opB k.inputs i (k.ops.getD i default)
def sKer:FnSpec where
  β := KeD
  α := Unit
  args := fun k => [.agg k.row]
  st := fun _ => ⟨[],[]⟩
  pre := fun _ => True
  post := fun _ _ => True
  res := fun k _ => .ret (.bool (kerB k))
  out := fun _ _ => ⟨[],[]⟩
theorem kerB_no {k:KeD} {i:Nat} (h:i < k.ops.length) (ho:opB k.inputs i (k.ops.getD i default) = false):false = kerB k := by
  have:((List.range k.ops.length).all fun i => opB k.inputs i (k.ops.getD i default)) = false := by
    rw [List.all_eq_false]
    exact ⟨i,List.mem_range.2 h,by simp only [ho]; simp⟩
  simp only [kerB,this,Bool.and_false]
theorem kerB_yes {k:KeD} (h1:1 ≤ k.inputs) (h2:k.inputs ≤ 16) (h3:1 ≤ (k.ops.length:Int)) (h4:(k.ops.length:Int) ≤ 64) (h5:¬ k.at_ < 0) (h6:k.reduce = 0∨(1 ≤ k.reduce∧k.reduce ≤ 55)) (ho:∀ j,j < k.ops.length→opB k.inputs j (k.ops.getD j default) = true):true = kerB k := by
  have:((List.range k.ops.length).all fun i => opB k.inputs i (k.ops.getD i default)) = true := by
    rw [List.all_eq_true]
    exact fun i hi => ho i (List.mem_range.1 hi)
  symm
  simp only [kerB,this,between,primB,Bool.and_true,Bool.and_eq_true,Bool.or_eq_true,decide_eq_true_eq]
  refine ⟨⟨⟨⟨h1,h2⟩,h3,h4⟩,by omega⟩,h6⟩
def kerAnn (k:KeD) (d:D):Option LoopAnn :=
  match d with
  | .ref t x _ => some { slots := [36],keep := [1,34,35],α := Nat,st := fun i => ([.int .i64 i],⟨[(t,x,.cells k.row)],[]⟩),inv := fun i => i ≤ k.ops.length∧∀ j,j < i→opB k.inputs j (k.ops.getD j default) = true,mu := fun i => k.ops.length - i }
  | _ => none
noncomputable def Eker (k:KeD):Senv := { E0 con0 70 6 [32,34,35,36,37,68] (fun _ => ([],[])) with
  inl := inlD (E0 con0 0 0 [] (fun _ => ([],[]))) (frmGet frames) 5
  ann := fun b env _ => match b with
    | 0 => kerAnn k (Ab.look env 1)
    | _ => none }
noncomputable section
def ke1q0 (p0:KeD):Int := KeD.inputs p0
def ke1q1 (p0:KeD):Prop := True∧∃ (y:Unit),True∧false = kerB p0∧True∧True
def ke1q2 (p0:KeD):List I4 := KeD.ops p0
def ke1q3 (p0:KeD):Nat := LN (ke1q2 p0)
def ke1q4 (p0:KeD):Int := (NI (ke1q3 p0))
def ke1q5 (p0:KeD):Int := KeD.at_ p0
def ke1q6 (p0:KeD):Int := KeD.reduce p0
def ke1q7:I4 := D4
def ke1q8 (p0:KeD) (p1:Nat):I4 := List.getD (ke1q2 p0) p1 ke1q7
def ke1q9 (p0:Nat) (p1:KeD):Prop := p0 ≤ ke1q3 p1∧∀ (j:Nat),j < p0→opB (ke1q0 p1) j (ke1q8 p1 j) = true
def ke1q10 (p0:KeD) (p1:Nat):List D := (R4 (ke1q8 p0 p1))
def ke1q11 (p0:Nat) (p1:KeD):Prop := (SM p0∧(SM (ke1q0 p1)∧(SM (ke1q3 p1)∧(∀ (i:Nat),i < ke1q3 p1→SM (ke1q10 p1 i))∧True)∧SM (ke1q6 p1)∧SM (ke1q5 p1)∧True)∧True)∧True
def ke1q12 (p0:KeD) (p1:Nat):I4 := List.getD (ke1q2 p0) (Int.toNat (↑p1:Int)) ke1q7
def ke1q13 (p0:KeD) (p1:Nat):Int := I4.a (ke1q12 p0 p1)
def ke1q14 (p0:KeD) (p1:Nat):Int := I4.c (ke1q12 p0 p1)
def ke1q15 (p0:KeD) (p1:Nat):Int := IntKind.wrap IntKind.i64 (IntKind.wrap IntKind.i64 (ke1q0 p0 + (↑p1:Int)) - Z1)
def ke1q16 (p0:KeD) (p1:Nat):Int := I4.b (ke1q12 p0 p1)
def ke1q17 (p0:KeD):D := D.sl N4 (ke1q3 p0) (fun (i:Nat) => ke1q10 p0 i) Mode.any
def ke1q18 (p0:KeD):Prop := True∧ke1q1 p0
def ke1q19 (p0:KeD):Prop := True∧ke1q18 p0
def ke1q20 (p0:Nat) (p1:KeD):Prop := SM p0∧(∃ (x:Nat),ke1q9 x p1∧(Z0 = (↑x:Int)∧True)∧ke1q11 p0 p1)∧∀ (x:Nat),ke1q9 x p1→ifB (decide ((↑x:Int) < ke1q4 p1)) (side (Z0 ≤ (↑x:Int)∧(↑x:Int) < ke1q4 p1) (∀ (x_1:Nat),p0 ≠ x_1∧True→SM x_1∧SM p0∧SM x_1∧ifB (decide (Z1 ≤ ke1q13 p1 x)) (True∧True∧ifB (!decide (ke1q13 p1 x ≤ (55:Int))) (ke1q1 p1) (SM x_1∧ifB (decide (Z0 ≤ ke1q14 p1 x)) (True∧ifB (!decide (ke1q14 p1 x ≤ ke1q15 p1 x)) (ke1q1 p1) (SM x_1∧ifB (decide ((-1:Int) ≤ ke1q16 p1 x)) (True∧ifB (!decide (ke1q16 p1 x ≤ ke1q15 p1 x)) (ke1q1 p1) (SM x_1∧ifB (decide (I4.d (ke1q12 p1 x) < Z0)) (ke1q1 p1) ((SM (D.ref N0 p0 N0)∧SM (ke1q17 p1)∧SM (ZI (ke1q4 p1))∧True)∧∃ (y:Nat),ke1q9 y p1∧ke1q3 p1 - y < ke1q3 p1 - x∧(IntKind.wrap IntKind.i64 ((↑x:Int) + Z1) = (↑y:Int)∧True)∧ke1q11 p0 p1))) (ke1q18 p1))) (ke1q18 p1))) (ke1q19 p1))) (True∧∃ (y:Unit),True∧true = kerB p1∧True∧True)
end
theorem ker_ok (k:KeD) (h:k.ok):ACalls Tryz.prog 26 (sKer.args k) (sKer.st k) (SpecR sKer k) := by
  refine con_of (A := sKer) (x := k) (E := Eker k) (eOk0 rfl) Tryz.func26 rfl (by kernel_rfl) rfl (by simp [sKer,Eker,E0]) ?_
  refine vc_eq (T :=
    ∀ (x:Nat),True→SM x∧ifB (decide (Z1 ≤ ke1q0 k)) (True∧ifB (!decide (ke1q0 k ≤ (16:Int))) (ke1q1 k) (SM x∧ifB (decide (Z1 ≤ ke1q4 k)) (True∧ifB (!decide (ke1q4 k ≤ (64:Int))) (ke1q1 k) (SM x∧ifB (decide (ke1q5 k < Z0)) (ke1q1 k) (SM x∧ifB (ke1q6 k != Z0) (SM x∧ifB (decide (Z1 ≤ ke1q6 k)) (True∧True∧ifB (!decide (ke1q6 k ≤ (55:Int))) (ke1q1 k) (ke1q20 x k)) (ke1q19 k)) (ke1q20 x k)))) (ke1q18 k))) (ke1q18 k)) (by kernel_rfl) ?_
  delta D4 LN N0 N4 NI R4 SM Z0 Z1 ZI ke1q0 ke1q1 ke1q10 ke1q11 ke1q12 ke1q13 ke1q14 ke1q15 ke1q16 ke1q17 ke1q18 ke1q19 ke1q2 ke1q20 ke1q3 ke1q4 ke1q5 ke1q6 ke1q7 ke1q8 ke1q9
  intro x _
  simp only [ifB_iff,side_iff,decide_eq_true_eq,decide_eq_false_iff_not,true_and,and_true,Bool.not_eq_true',Bool.not_eq_false',Int.toNat_natCast,exists_const,forall_const,bne_iff_ne,ne_eq,bne_eq_false_iff_eq]
  refine ⟨fun h1 => ⟨fun n => by simp [kerB,between,n],fun h2 => ⟨fun h3 => ⟨fun n => by simp [kerB,between]; omega,fun h4 => ⟨fun n => by simp [kerB]; omega,fun h5 => ⟨fun r0 => ⟨fun r1 => ⟨fun n => by simp [kerB,primB,between]; omega,fun r2 => ?_⟩,fun n => by simp [kerB,primB,between]; omega⟩,fun r0 => ?_⟩⟩⟩,fun n => by simp [kerB,between]; omega⟩⟩,fun n => by simp [kerB,between,n]⟩
  · have H6:k.reduce = 0∨(1 ≤ k.reduce∧k.reduce ≤ 55) := .inr ⟨r1,r2⟩
    refine ⟨⟨0,⟨Nat.zero_le _,fun j hj => absurd hj (Nat.not_lt_zero j)⟩,rfl,fun _ _ => trivial⟩,fun i hi => ⟨fun hlt => ⟨⟨by omega,hlt⟩,fun y _ => ?_⟩,fun hge => ?_⟩⟩
    · have hl:i < k.ops.length := by omega
      have hw:IntKind.i64.wrap (IntKind.i64.wrap (k.inputs + (i:Int)) - 1) = k.inputs + i - 1 := by
        rw [wrap_i64' (n := k.inputs + i) (by omega) (by omega),wrap_i64' (by omega) (by omega)]
      rw [hw]
      have no:∀ {b:Bool},opB k.inputs i (k.ops.getD i default) = b→b = false→false = kerB k := fun h1 h2 => kerB_no hl (h1.trans h2)
      have de:(default:I4) = ⟨0,0,0,0⟩ := rfl
      rw [← de] at *
      generalize hk:k.ops.getD i default = o at *
      refine ⟨fun a1 => ⟨fun a2 => no rfl (by simp [opB,primB,between]; omega),fun a2 => ⟨fun c1 => ⟨fun c2 => no rfl (by simp [opB,primB,between]; omega),fun c2 => ⟨fun b1 => ⟨fun b2 => no rfl (by simp [opB,primB,between]; omega),fun b2 => ⟨fun d1 => no rfl (by simp [opB,primB,between]; omega),fun d1 => ⟨i + 1,⟨by omega,fun j hj => ?_⟩,by omega,wrap_i64' (by omega) (by omega),fun _ _ => trivial⟩⟩⟩,fun b1 => no rfl (by simp [opB,primB,between]; omega)⟩⟩,fun c1 => no rfl (by simp [opB,primB,between]; omega)⟩⟩,fun a1 => no rfl (by simp [opB,primB,between]; omega)⟩
      by_cases e:j = i
      · subst e; rw [hk]; simp only [opB,primB,between,Bool.and_eq_true,decide_eq_true_eq]; omega
      · exact hi.2 j (by omega)
    · exact kerB_yes h1 h2 h3 h4 h5 H6 fun j hj => hi.2 j (by omega)
  · have H6:k.reduce = 0∨(1 ≤ k.reduce∧k.reduce ≤ 55) := .inl r0
    refine ⟨⟨0,⟨Nat.zero_le _,fun j hj => absurd hj (Nat.not_lt_zero j)⟩,rfl,fun _ _ => trivial⟩,fun i hi => ⟨fun hlt => ⟨⟨by omega,hlt⟩,fun y _ => ?_⟩,fun hge => ?_⟩⟩
    · have hl:i < k.ops.length := by omega
      have hw:IntKind.i64.wrap (IntKind.i64.wrap (k.inputs + (i:Int)) - 1) = k.inputs + i - 1 := by
        rw [wrap_i64' (n := k.inputs + i) (by omega) (by omega),wrap_i64' (by omega) (by omega)]
      rw [hw]
      have no:∀ {b:Bool},opB k.inputs i (k.ops.getD i default) = b→b = false→false = kerB k := fun h1 h2 => kerB_no hl (h1.trans h2)
      have de:(default:I4) = ⟨0,0,0,0⟩ := rfl
      rw [← de] at *
      generalize hk:k.ops.getD i default = o at *
      refine ⟨fun a1 => ⟨fun a2 => no rfl (by simp [opB,primB,between]; omega),fun a2 => ⟨fun c1 => ⟨fun c2 => no rfl (by simp [opB,primB,between]; omega),fun c2 => ⟨fun b1 => ⟨fun b2 => no rfl (by simp [opB,primB,between]; omega),fun b2 => ⟨fun d1 => no rfl (by simp [opB,primB,between]; omega),fun d1 => ⟨i + 1,⟨by omega,fun j hj => ?_⟩,by omega,wrap_i64' (by omega) (by omega),fun _ _ => trivial⟩⟩⟩,fun b1 => no rfl (by simp [opB,primB,between]; omega)⟩⟩,fun c1 => no rfl (by simp [opB,primB,between]; omega)⟩⟩,fun a1 => no rfl (by simp [opB,primB,between]; omega)⟩
      by_cases e:j = i
      · subst e; rw [hk]; simp only [opB,primB,between,Bool.and_eq_true,decide_eq_true_eq]; omega
      · exact hi.2 j (by omega)
    · exact kerB_yes h1 h2 h3 h4 h5 H6 fun j hj => hi.2 j (by omega)
end Go.Proofs.YtflbmbkhjcbhoaaGreatDoor
namespace Go.Proofs.YtflbmbkhjcbhoaaGreatDoor
open Go Go.Ab
def sKq (q:KeD→Prop) (r:KeD→Bool):FnSpec where
  β := KeD
  α := Unit
  args := fun k => [.agg k.row]
  st := fun _ => ⟨[],[]⟩
  pre := q
  post := fun _ _ => True
  res := fun k _ => .ret (.bool (r k))
  out := fun _ _ => ⟨[],[]⟩
def conKe (k:KeD):Con := fun f _ _ => match f with
  | 26 => some (sKq (fun x => x = k) kerB)
  | _ => none
theorem conKe_ok {k:KeD} (hk:k.ok):ConOk Tryz.prog (conKe k) := by
  intro f ds S A h
  unfold conKe at h
  split at h
  · injection h with h; subst h
    refine ConOk.plain (fun b hb => ?_) rfl rfl
    have hb:b = k := hb
    rw [hb]
    exact (ker_ok k hk).mono fun _ _ ⟨y,h1,h2,h3⟩ => ⟨y,h1,h2,h3⟩
  · cases h
noncomputable def Ebk (k:KeD):Senv := EC (conKe k) 6 3 [] (fun _ => ([],[]))
noncomputable section
def ke3q0 (p0:KeD):Nat := LN (KeD.ops p0)
def ke3q1 (p0:KeD) (p1:Nat):I4 := G4 (KeD.ops p0) p1
def ke3q2 (p0:KeD) (p1:Nat):List D := (R4 (ke3q1 p0 p1))
end
theorem badk_ok (k:KeD) (hk:k.ok):ACalls Tryz.prog 25 ((sKq (fun _ => True) (fun k => !kerB k)).args k) ⟨[],[]⟩ (SpecR (sKq (fun _ => True) (fun k => !kerB k)) k) := by
  refine con_of (A := sKq (fun _ => True) (fun k => !kerB k)) (x := k) (E := Ebk k) (eOk (conKe_ok hk) rfl) Tryz.func25 rfl (by kernel_rfl) rfl (by simp [sKq,Ebk,EC,E0]) ?_
  simp only [sKq]
  refine vc_eq (T :=
    ∀ (x:Nat),True→SM x∧∃ (x:KeD),((KeD.inputs k = KeD.inputs x∧(ke3q0 k = ke3q0 x∧(∀ (i:Nat),i < ke3q0 k→ke3q2 k i = ke3q2 x i)∧True)∧KeD.reduce k = KeD.reduce x∧KeD.at_ k = KeD.at_ x∧True)∧True)∧(True∧True)∧x = k∧∀ (y:Unit),True→True∧∃ (y:Unit),True∧(!kerB x) = !kerB k∧True∧True) (by kernel_rfl) ?_
  delta D4 G4 LN R4 SM Z0 ZI ke3q0 ke3q1 ke3q2
  simp only [and_true,exists_const]
  intro x _
  exact ⟨trivial,k,⟨rfl,⟨rfl,fun _ _ => rfl⟩,rfl,rfl⟩,trivial,rfl,fun _ _ => ⟨trivial,trivial,rfl⟩⟩
def conBk (l:List KeD):Con := fun k _ _ => match k with
  | 25 => some (sKq (fun b => b ∈ l) (fun b => !kerB b))
  | _ => none
theorem conBk_ok {l:List KeD} (h:∀ a ∈ l,a.ok):ConOk Tryz.prog (conBk l) := by
  intro k ds S A hh
  unfold conBk at hh
  split at hh
  · injection hh with hh; subst hh
    exact ConOk.plain (fun b hb => (badk_ok b (h b hb)).mono fun _ _ ⟨y,h1,h2,h3⟩ => ⟨y,h1,h2,h3⟩) rfl rfl
  · cases hh
noncomputable def Eixk (l:List KeD):Senv := { EC (conBk l) 19 2 [4,5,7,8,9,16] (fun _ => ([],[])) with
  ann := fun b _ _ => match b with
    | 0 => some { slots := [8],keep := [0,1,6,7],α := Nat,st := fun i => ([.int .i64 i],⟨[],[]⟩),inv := fun i => IdxG (fun a => !kerB a) l i,mu := fun i => l.length - i }
    | _ => none }
noncomputable section
def ke3q3 (p0:KeD):Bool := !kerB p0
def ke3q4 (p0:List KeD) (p1:Nat):Prop := IdxG (fun (a:KeD) => ke3q3 a) p0 p1
def ke3q5:KeD := DK
def ke3q6 (p0:List KeD) (p1:Nat):KeD := List.getD p0 (Int.toNat (↑p1:Int)) ke3q5
def ke3q7 (p0:List KeD) (p1:Nat):List I4 := KeD.ops (ke3q6 p0 p1)
def ke3q8 (p0:List KeD) (p1:Nat):Nat := LN (ke3q7 p0 p1)
def ke3q9:I4 := D4
def ke3q10 (p0:List KeD) (p1 p2:Nat):I4 := List.getD (ke3q7 p0 p1) p2 ke3q9
def ke3q11 (p0:KeD) (p1:Nat):I4 := List.getD (KeD.ops p0) p1 ke3q9
def ke3q12 (p0:List KeD):Int := idxG (fun (a:KeD) => ke3q3 a) p0 Z0
def ke3q13 (p0:List KeD):D := D.sl N4 (LN p0) (fun (i:Nat) => KeD.row (List.getD p0 i ke3q5)) Mode.any
end
theorem ixk_ok (l:List KeD) (h:∀ a ∈ l,a.ok) (hl:l.length ≤ maxLen):ACalls Tryz.prog 66 [gsl 4 KeD.row l,.fn (.func 25) [] []] ⟨[],[]⟩ (SpecR (sC [gsl 4 KeD.row l,.fn (.func 25) [] []] (.int .i64 (idxG (fun a => !kerB a) l 0))) ()) := by
  refine con_of (A := sC _ _) (x := ()) (E := Eixk l) (eOk (conBk_ok h) rfl) Tryz.func66 rfl (by kernel_rfl) rfl (by simp [sC,Eixk,EC,E0]) ?_
  refine vc_eq (T :=
    (∃ (x:Nat),ke3q4 l x∧(Z0 = (↑x:Int)∧True)∧True∧True)∧∀ (x:Nat),ke3q4 l x→ifB (decide ((↑x:Int) < (LI l))) (side (Z0 ≤ (↑x:Int)∧(↑x:Int) < (LI l)) (∃ (x_1:KeD),((KeD.inputs (ke3q6 l x) = KeD.inputs x_1∧(ke3q8 l x = LN (KeD.ops x_1)∧(∀ (i:Nat),i < ke3q8 l x→(R4 (ke3q10 l x i)) = (R4 (ke3q11 x_1 i)))∧True)∧KeD.reduce (ke3q6 l x) = KeD.reduce x_1∧KeD.at_ (ke3q6 l x) = KeD.at_ x_1∧True)∧True)∧(True∧True)∧x_1 ∈ l∧∀ (y:Unit),True→ifB (ke3q3 x_1) (True∧∃ (y:Unit),True∧(↑x:Int) = ke3q12 l∧True∧True) ((SM (ke3q13 l)∧SM (D.fn (Fn.func (25:Nat)) [] [])∧SM D.unk∧SM (ZI (LI l))∧True)∧∃ (y:Nat),ke3q4 l y∧LN l - y < LN l - x∧(IntKind.wrap IntKind.i64 ((↑x:Int) + Z1) = (↑y:Int)∧True)∧True∧True))) (True∧∃ (y:Unit),True∧(-1:Int) = ke3q12 l∧True∧True)) (by kernel_rfl) ?_
  delta D4 DK LI LN N4 R4 SM Z0 Z1 ZI ke3q10 ke3q11 ke3q12 ke3q13 ke3q3 ke3q4 ke3q5 ke3q6 ke3q7 ke3q8 ke3q9
  simp only [Int.toNat_natCast,ifB_iff,side_iff,decide_eq_true_eq,decide_eq_false_iff_not,true_and,and_true,exists_const]
  simp only [maxLen] at hl
  refine ⟨⟨0,⟨Nat.zero_le _,by simp⟩,rfl⟩,fun i hh => ⟨fun hlt => ?_,fun hge => (hh.done hge).symm⟩⟩
  have hlt':i < l.length := by omega
  obtain ⟨s1,s2⟩ := hh.step hlt'
  exact ⟨⟨by omega,hlt⟩,l.getD i default,⟨rfl,⟨rfl,fun _ _ => rfl⟩,rfl,rfl⟩,mem_getD hlt',fun _ _ => ⟨fun e => (s1 e).symm,fun e => ⟨i + 1,s2 e,by omega,wrap_i64' (by omega) (by omega)⟩⟩⟩
noncomputable def Ecfk (l:List KeD):Senv := EC (fun k ds _ => match k with
  | 66 => some (pC ds (.int .i64 (idxG (fun a => !kerB a) l 0)) (ds = [gsl 4 KeD.row l,.fn (.func 25) [] []]))
  | _ => none) 9 2 [4] (fun _ => ([],[]))
noncomputable section
def ke3q14 (p0:List KeD):List D := [D.sl N4 (LN p0) (fun (i:Nat) => KeD.row (List.getD p0 i DK)) Mode.any,D.fn (Fn.func (25:Nat)) [] []]
end
theorem cfk_ok (l:List KeD) (h:∀ a ∈ l,a.ok) (hl:l.length ≤ maxLen):ACalls Tryz.prog 24 [gsl 4 KeD.row l,.fn (.func 25) [] []] ⟨[],[]⟩ (SpecR (sC [gsl 4 KeD.row l,.fn (.func 25) [] []] (.bool (l.any fun a => !kerB a))) ()) := by
  refine con_of (A := sC _ _) (x := ()) (E := Ecfk l) (eOk ?_ rfl) Tryz.func24 rfl (by kernel_rfl) rfl (by simp [sC,Ecfk,EC,E0]) ?_
  · intro k ds S A hh
    dsimp only at hh
    split at hh
    · injection hh with hh; subst hh
      refine pC_ok fun e => ⟨weakL_refl _,?_⟩
      rw [e]
      exact ixk_ok l h hl
    · cases hh
  refine vc_eq (T :=
    SM (ke3q14 l)∧∀ (y:Unit),True→True∧∃ (y:Unit),True∧(decide (Z0 ≤ idxG (fun (a:KeD) => !kerB a) l Z0) = List.any l fun (a:KeD) => !kerB a)∧True∧True) (by kernel_rfl) ?_
  delta DK LN N4 SM Z0 ke3q14
  simp only [true_and,and_true,exists_const]
  exact fun _ _ => idxG_any _ l 0 (Int.le_refl _)
end Go.Proofs.YtflbmbkhjcbhoaaGreatDoor
namespace Go.Proofs.YtflbmbkhjcbhoaaGreatDoor
open Go Go.Ab
def totI:List FnD→Int→Int
  | [],t => t
  | x :: r,t => totI r (IntKind.i64.wrap (t + x.code.length))
def conRt (c:CodD):Con := fun k ds _ => match k with
  | 21 => some (pC ds (.bool (c.consts.any fun a => (chkA a).1 != 0)) (weakL ds [gsl 4 Arr.row c.consts,.fn (.func 22) [] []]))
  | 24 => some (pC ds (.bool (c.kers.any fun a => !kerB a)) (weakL ds [gsl 4 KeD.row c.kers,.fn (.func 25) [] []]))
  | 27 => match ds with
    | [_,.int .i64 z] => some (pC ds (funD (funS c z.toNat)) (weakL ds [.agg c.row,.int .i64 z.toNat]∧z.toNat < c.funs.length))
    | _ => none
  | _ => none
theorem conRt_ok {c:CodD} (hc:c.ok) (hs:∀ f,f < c.funs.length→(c.funs.getD f default).code.length ≤ 65536):ConOk Tryz.prog (conRt c) := by
  intro k ds S A h
  unfold conRt at h
  split at h
  · injection h with h; subst h
    exact pC_ok fun e => ⟨weakL_refl _,sC_weak e (cf_ok _ hc.1 hc.2.2.2.2.1)⟩
  · injection h with h; subst h
    exact pC_ok fun e => ⟨weakL_refl _,sC_weak e (cfk_ok _ hc.2.2.1 hc.2.2.2.2.2.2.1)⟩
  · split at h
    · injection h with h; subst h
      exact pC_ok fun ⟨e,hf⟩ => ⟨weakL_refl _,sC_weak e (fun_ok c _ hf hc (hs _ hf))⟩
    · cases h
  · cases h
noncomputable def Ert (c:CodD):Senv := { EC (conRt c) 82 4 [5,6,7,8,10,11,12,13,41,44,63,66,69,70,71,80] (fun _ => ([],[])) with
  ann := fun b _ S => match b with
    | 0 => some { slots := [12,3],keep := [0,1,2,10,11],α := Nat × Int,st := fun y => ([.int .i64 y.1,.int .i64 y.2],S),inv := fun y => y.1 ≤ c.funs.length∧totI (c.funs.drop y.1) y.2 = totI c.funs 0,mu := fun y => c.funs.length - y.1 }
    | 2 => some { slots := [70],keep := [0,1,2,68,69],α := Nat,st := fun i => ([.int .i64 i],S),inv := fun i => i ≤ c.funs.length∧∀ j,j < i→(funS c j).isSome = true,mu := fun i => c.funs.length - i }
    | _ => none }
def rightC (c:CodD):Int :=
  if 1024 < c.funs.length∨65536 < totI c.funs 0∨65536 < c.consts.length∨4096 < c.kers.length then 21
  else if (c.consts.any fun a => (chkA a).1 != 0) = true then 1
  else if c.funs.length = 0∨(c.lanes.length ≠ 0∧c.lanes.length ≠ c.kers.length) then 26
  else if (c.kers.any fun a => !kerB a) = true then 26
  else if ((List.range c.funs.length).all fun f => (funS c f).isSome) = true then 0 else 26
noncomputable section
def ri1q0 (p0:CodD):List FnD := CodD.funs p0
def ri1q1 (p0:CodD):Nat := LN (ri1q0 p0)
def ri1q2 (p0:Nat) (p1:CodD) (p2:Int):Prop := p0 ≤ ri1q1 p1∧totI (List.drop p0 (ri1q0 p1)) p2 = totI (ri1q0 p1) Z0
def ri1q3 (p0:CodD):List Arr := CodD.consts p0
def ri1q4 (p0:CodD):Nat := LN (ri1q3 p0)
def ri1q5 (p0:CodD) (p1:Nat):List D := Arr.row (GA (ri1q3 p0) p1)
def ri1q6 (p0:CodD):Prop := SM (ri1q4 p0)∧(∀ (i:Nat),i < ri1q4 p0→SM (ri1q5 p0 i))∧True
def ri1q7:FnD := DF
def ri1q8 (p0:CodD) (p1:Nat):FnD := List.getD (ri1q0 p0) p1 ri1q7
def ri1q9 (p0:CodD) (p1:Nat):List I4 := FnD.code (ri1q8 p0 p1)
def ri1q10 (p0:CodD) (p1 p2:Nat):I4 := G4 (ri1q9 p0 p1) p2
def ri1q11 (p0:CodD) (p1:Nat):List D := [ZI (FnD.slots (ri1q8 p0 p1)),D.sl N4 (LN (ri1q9 p0 p1)) (fun (i:Nat) => (R4 (ri1q10 p0 p1 i))) Mode.any]
def ri1q12 (p0:CodD):List KeD := CodD.kers p0
def ri1q13 (p0:CodD):Nat := LN (ri1q12 p0)
def ri1q14 (p0:CodD) (p1:Nat):List D := KeD.row (List.getD (ri1q12 p0) p1 DK)
def ri1q15 (p0:CodD):Prop := SM (ri1q13 p0)∧(∀ (i:Nat),i < ri1q13 p0→SM (ri1q14 p0 i))∧True
def ri1q16 (p0:CodD):Nat := LN (CodD.lanes p0)
def ri1q17 (p0:CodD) (p1:Nat):List D := LaD.row (GL p0 p1)
def ri1q18 (p0:CodD):Prop := ri1q6 p0∧(SM (ri1q1 p0)∧(∀ (i:Nat),i < ri1q1 p0→SM (ri1q11 p0 i))∧True)∧ri1q15 p0∧(SM (ri1q16 p0)∧(∀ (i:Nat),i < ri1q16 p0→SM (ri1q17 p0 i))∧True)∧True
def ri1q19 (p0:Nat) (p1:CodD):Prop := (SM p0∧ri1q18 p1∧True)∧True
def ri1q20 (p0:CodD):Int := (NI (ri1q1 p0))
def ri1q21 (p0:Nat) (p1:CodD):Bool := decide ((↑p0:Int) < ri1q20 p1)
def ri1q22 (p0:CodD):D := D.sl N2 (ri1q1 p0) (fun (i:Nat) => ri1q11 p0 i) Mode.any
def ri1q23 (p0:CodD):D := D.agg [D.sl N4 (ri1q4 p0) (fun (i:Nat) => ri1q5 p0 i) Mode.any,ri1q22 p0,D.sl N4 (ri1q13 p0) (fun (i:Nat) => ri1q14 p0 i) Mode.any,D.sl N2 (ri1q16 p0) (fun (i:Nat) => ri1q17 p0 i) Mode.any]
def ri1q24 (p0:CodD):Prop := SM (ri1q23 p0)
def ri1q25 (p0:CodD):Prop := SM (ZI (ri1q20 p0))∧True
def ri1q26 (p0:CodD) (p1 p2:Nat):Prop := ri1q1 p0 - p1 < ri1q1 p0 - p2
def ri1q27 (p0:CodD):Bool := decide ((1024:Int) < ri1q20 p0)
def ri1q28 (p0:CodD):Bool := decide ((65536:Int) < (NI (ri1q4 p0)))
def ri1q29 (p0:CodD):Bool := decide ((4096:Int) < (NI (ri1q13 p0)))
def ri1q30 (p0:CodD) (p1:Int):Bool := bif bif bif ri1q27 p0 then true else decide ((65536:Int) < p1) then true else ri1q28 p0 then true else ri1q29 p0
def ri1q31 (p0:CodD) (p1:Int):Prop := true = ri1q30 p0 p1∧True
def ri1q32 (p0:CodD):Int := rightC p0
def ri1q33 (p0:CodD):Bool := ri1q20 p0 == Z0
def ri1q34 (p0:CodD):Bool := (NI (ri1q16 p0)) != (NI (ri1q13 p0))
def ri1q35 (p0:CodD):Bool := bif ri1q33 p0 then true else bif (NI (ri1q16 p0)) != Z0 then ri1q34 p0 else false
def ri1q36 (p0:CodD):Prop := True∧∃ (_y:Unit),True∧(26:Int) = ri1q32 p0∧True∧True
def ri1q37 (p0:Nat) (p1:CodD):Prop := p0 ≤ ri1q1 p1∧∀ (j:Nat),j < p0→Option.isSome (funS p1 j) = true
end
theorem rt_ok (c:CodD) (hc:c.ok) (hs:∀ f,f < c.funs.length→(c.funs.getD f default).code.length ≤ 65536):ACalls Tryz.prog 10 [.agg c.row] ⟨[],[]⟩ (SpecR (sC [.agg c.row] (.int .i64 (rightC c))) ()) := by
  refine con_of (A := sC _ _) (x := ()) (E := Ert c) (eOk (conRt_ok hc hs) rfl) Tryz.func10 rfl (by kernel_rfl) rfl (by simp [sC,Ert,EC,E0]) ?_
  refine vc_eq (T :=
    ∀ (x:Nat),True→SM x∧(∃ (x_1:Nat × Int),ri1q2 x_1.1 c x_1.2∧(Z0 = (NI x_1.1)∧Z0 = x_1.2∧True)∧ri1q19 x c)∧∀ (x_1:Nat × Int),ri1q2 x_1.1 c x_1.2→ifB (ri1q21 x_1.1 c) (side (Z0 ≤ (NI x_1.1)∧(NI x_1.1) < ri1q20 c) (∀ (x_2:Nat),x ≠ x_2∧True→SM x_2∧SM x_2∧(ri1q24 c∧SM (D.ref N0 x N0)∧SM (ZI Z0)∧SM (ri1q22 c)∧ri1q25 c)∧∃ (y:Nat × Int),ri1q2 y.1 c y.2∧ri1q26 c y.1 x_1.1∧(IntKind.wrap IntKind.i64 ((NI x_1.1) + Z1) = (NI y.1)∧IntKind.wrap IntKind.i64 (x_1.2 + (LI (FnD.code (List.getD (ri1q0 c) (TN x_1.1) ri1q7)))) = y.2∧True)∧ri1q19 x c)) ((SM x∧ifB (ri1q27 c) (ri1q31 c x_1.2) (ifB (decide ((65536:Int) < x_1.2)) (ri1q31 c x_1.2) (SM x∧ifB (ri1q28 c) (ri1q31 c x_1.2) (SM x∧ri1q29 c = ri1q30 c x_1.2∧True))))∧ifB (ri1q30 c x_1.2) (True∧∃ (y:Unit),True∧(21:Int) = ri1q32 c∧True∧True) (SM x∧(ri1q6 c∧SM (D.fn (Fn.func (22:Nat)) [] [])∧True)∧∀ (y:Unit),True→ifB (List.any (ri1q3 c) fun (a:Arr) => Prod.fst (chkA a) != Z0) (True∧∃ (y:Unit),True∧Z1 = ri1q32 c∧True∧True) ((SM x∧ifB (ri1q33 c) (true = ri1q35 c∧True) (SM x∧ifB ((NI (ri1q16 c)) != Z0) (SM x∧SM x∧ri1q34 c = ri1q35 c∧True) (false = ri1q35 c∧True)))∧ifB (ri1q35 c) (ri1q36 c) (SM x∧(ri1q15 c∧SM (D.fn (Fn.func (25:Nat)) [] [])∧True)∧∀ (y:Unit),True→ifB (List.any (ri1q12 c) fun (a:KeD) => !kerB a) (ri1q36 c) (SM x∧(∃ (x_2:Nat),ri1q37 x_2 c∧(Z0 = (↑x_2:Int)∧True)∧ri1q19 x c)∧∀ (x_2:Nat),ri1q37 x_2 c→ifB (ri1q21 x_2 c) (SM x∧((ri1q18 c∧(↑x_2:Int) = (NI (Int.toNat (↑x_2:Int)))∧True)∧Int.toNat (↑x_2:Int) < ri1q1 c)∧∀ (y:Unit),True→ifB (!Option.isSome (funS c (Int.toNat (↑x_2:Int)))) (ri1q36 c) ((ri1q24 c∧SM (D.ref N0 x N0)∧SM (ZI Z0)∧SM D.unk∧ri1q25 c)∧∃ (y:Nat),ri1q37 y c∧ri1q26 c y x_2∧(IntKind.wrap IntKind.i64 ((↑x_2:Int) + Z1) = (↑y:Int)∧True)∧ri1q19 x c)) (True∧∃ (y:Unit),True∧Z0 = ri1q32 c∧True∧True))))))) (by kernel_rfl) ?_
  delta D4 DA DF DK DL G4 GA GL LI LN N0 N2 N4 NI R4 SM TN Z0 Z1 ZI ri1q0 ri1q1 ri1q10 ri1q11 ri1q12 ri1q13 ri1q14 ri1q15 ri1q16 ri1q17 ri1q18 ri1q19 ri1q2 ri1q20 ri1q21 ri1q22 ri1q23 ri1q24 ri1q25 ri1q26 ri1q27 ri1q28 ri1q29 ri1q3 ri1q30 ri1q31 ri1q32 ri1q33 ri1q34 ri1q35 ri1q36 ri1q37 ri1q4 ri1q5 ri1q6 ri1q7 ri1q8 ri1q9
  intro x _
  simp only [eq_self,ne_eq,implies_true,Int.toNat_natCast,ifB_iff,side_iff,decide_eq_true_eq,decide_eq_false_iff_not,true_and,and_true,beq_iff_eq,Bool.cond_false_right,Bool.cond_true_left,Bool.and_eq_true,Bool.and_eq_false_iff,Bool.or_eq_true,Bool.or_eq_false_iff,beq_eq_false_iff_ne,exists_const,forall_const]
  have hfl:c.funs.length ≤ maxLen := hc.2.2.2.2.2.1
  simp only [maxLen] at hfl
  refine ⟨⟨(0,0),⟨Nat.zero_le _,rfl⟩,rfl,rfl⟩,?_⟩
  rintro ⟨i,t⟩ ⟨hi,ht⟩
  simp only at hi ht ⊢
  refine ⟨fun hlt => ⟨⟨by omega,hlt⟩,fun y _ => ?_⟩,fun hge => ?_⟩
  · have hlt':i < c.funs.length := by omega
    rw [drop_step hlt',totI] at ht
    exact ⟨(i + 1,_),⟨by simp only; omega,ht⟩,by simp only; omega,wrap_i64' (by omega) (by omega),rfl⟩
  have hi':i = c.funs.length := by omega
  rw [hi',List.drop_length,totI] at ht
  rw [ht]
  refine ⟨⟨fun h => by simp [h],fun h => ⟨fun h2 => by simp [h2],fun h2 => ⟨fun h3 => by simp [h3],fun h3 => by simp [h,h2,h3]⟩⟩⟩,fun h => ?_,fun h => ⟨fun h1 => ?_,fun h1 => ⟨⟨fun h2 => by simp [h2],fun h2 => ⟨fun h3 => by rw [h3,beq_eq_false_iff_ne.2 h2]; rfl,fun h3 => by rw [h3,beq_eq_false_iff_ne.2 h2]; rfl⟩⟩,fun h2 => ?_,fun h2 => ⟨fun h3 => ?_,fun h3 => ⟨⟨0,⟨Nat.zero_le _,fun j hj => absurd hj (Nat.not_lt_zero j)⟩,rfl⟩,fun j hj => ⟨fun hl => ⟨by omega,fun e => ?_,fun e => ⟨j + 1,⟨by omega,fun k hk => ?_⟩,by omega,wrap_i64' (by omega) (by omega)⟩⟩,fun hg => ?_⟩⟩⟩⟩⟩⟩
  · unfold rightC; rw [if_pos (by omega)]
  · unfold rightC; rw [if_neg (by omega),if_pos h1]
  · simp only [bne_iff_ne,ne_eq] at h2
    unfold rightC; rw [if_neg (by omega),if_neg (by rw [h1]; exact Bool.false_ne_true),if_pos (by omega)]
  · simp only [bne_eq_false_iff_eq] at h2
    unfold rightC; rw [if_neg (by omega),if_neg (by rw [h1]; exact Bool.false_ne_true),if_neg (by omega),if_pos h3]
  · simp only [bne_eq_false_iff_eq] at h2
    have hj':j < c.funs.length := by omega
    have e':(funS c j).isSome = false := by simpa using e
    have hall:¬ ((List.range c.funs.length).all fun f => (funS c f).isSome) = true := by
      rw [List.all_eq_true]
      intro hh
      have := hh j (List.mem_range.2 hj')
      rw [e'] at this; cases this
    unfold rightC; rw [if_neg (by omega),if_neg (by rw [h1]; exact Bool.false_ne_true),if_neg (by omega),if_neg (by rw [h3]; exact Bool.false_ne_true),if_neg hall]
  · have e':(funS c j).isSome = true := by simpa using e
    by_cases hk':k = j
    · rw [hk']; exact e'
    · exact hj.2 k (by omega)
  · simp only [bne_eq_false_iff_eq] at h2
    have hall:((List.range c.funs.length).all fun f => (funS c f).isSome) = true := by
      rw [List.all_eq_true]
      intro f hf
      exact hj.2 f (by have := List.mem_range.1 hf; omega)
    unfold rightC; rw [if_neg (by omega),if_neg (by rw [h1]; exact Bool.false_ne_true),if_neg (by omega),if_neg (by rw [h3]; exact Bool.false_ne_true),if_pos hall]
end Go.Proofs.YtflbmbkhjcbhoaaGreatDoor
namespace Go.Proofs.YtflbmbkhjcbhoaaGreatDoor
open Go Go.Ab
def rkerAnn (k:KeD) (d:D):Option LoopAnn :=
  match d with
  | .ref t x _ => some { slots := [3],keep := [1],α := Nat,st := fun i => ([.int .i64 i],⟨[(t,x,.cells k.row)],[]⟩),inv := fun i => i ≤ k.ops.length∧∀ j,j < i→opB k.inputs j (k.ops.getD j default) = true,mu := fun i => k.ops.length - i }
  | _ => none
noncomputable def Erker (k:KeD):Senv := { E0 con0 75 5 [31,36,74] (fun _ => ([],[])) with
  inl := inlD (E0 con0 0 0 [] (fun _ => ([],[]))) (frmGet frames) 5
  ann := fun b env _ => match b with
    | 0 => rkerAnn k (Ab.look env 1)
    | _ => none }
noncomputable section
def ke2q0 (p0:KeD):Int := KeD.inputs p0
def ke2q1 (p0:KeD):Prop := True∧∃ (y:Unit),True∧false = kerB p0∧True∧True
def ke2q2 (p0:KeD):List I4 := KeD.ops p0
def ke2q3 (p0:KeD):Nat := LN (ke2q2 p0)
def ke2q4 (p0:KeD):Int := (NI (ke2q3 p0))
def ke2q5 (p0:KeD):Int := KeD.at_ p0
def ke2q6 (p0:KeD):Int := KeD.reduce p0
def ke2q7:I4 := D4
def ke2q8 (p0:KeD) (p1:Nat):I4 := List.getD (ke2q2 p0) p1 ke2q7
def ke2q9 (p0:Nat) (p1:KeD):Prop := p0 ≤ ke2q3 p1∧∀ (j:Nat),j < p0→opB (ke2q0 p1) j (ke2q8 p1 j) = true
def ke2q10 (p0:KeD) (p1:Nat):List D := (R4 (ke2q8 p0 p1))
def ke2q11 (p0:Nat) (p1:KeD):Prop := (SM p0∧(SM (ke2q0 p1)∧(SM (ke2q3 p1)∧(∀ (i:Nat),i < ke2q3 p1→SM (ke2q10 p1 i))∧True)∧SM (ke2q6 p1)∧SM (ke2q5 p1)∧True)∧True)∧True
def ke2q12 (p0:KeD) (p1:Nat):I4 := List.getD (ke2q2 p0) (Int.toNat (↑p1:Int)) ke2q7
def ke2q13 (p0:KeD) (p1:Nat):Int := I4.a (ke2q12 p0 p1)
def ke2q14 (p0:KeD) (p1:Nat):Int := I4.c (ke2q12 p0 p1)
def ke2q15 (p0:KeD) (p1:Nat):Int := IntKind.wrap IntKind.i64 (IntKind.wrap IntKind.i64 (ke2q0 p0 + (↑p1:Int)) - Z1)
def ke2q16 (p0:KeD) (p1:Nat):Int := I4.b (ke2q12 p0 p1)
def ke2q17 (p0:KeD):Prop := True∧ke2q1 p0
def ke2q18 (p0:KeD):Prop := True∧ke2q17 p0
def ke2q19 (p0:KeD) (p1:Nat):Prop := (∃ (x:Nat),ke2q9 x p0∧(Z0 = (↑x:Int)∧True)∧ke2q11 p1 p0)∧∀ (x:Nat),ke2q9 x p0→SM p1∧ifB (decide ((↑x:Int) < ke2q4 p0)) (SM p1∧side (Z0 ≤ (↑x:Int)∧(↑x:Int) < ke2q4 p0) (∀ (x_1:Nat),p1 ≠ x_1∧True→SM x_1∧SM x_1∧ifB (decide (Z1 ≤ ke2q13 p0 x)) (True∧True∧ifB (!decide (ke2q13 p0 x ≤ (55:Int))) (ke2q1 p0) (SM x_1∧SM p1∧ifB (decide (Z0 ≤ ke2q14 p0 x)) (True∧ifB (!decide (ke2q14 p0 x ≤ ke2q15 p0 x)) (ke2q1 p0) (SM x_1∧SM p1∧ifB (decide ((-1:Int) ≤ ke2q16 p0 x)) (True∧ifB (!decide (ke2q16 p0 x ≤ ke2q15 p0 x)) (ke2q1 p0) (SM x_1∧ifB (decide (I4.d (ke2q12 p0 x) < Z0)) (ke2q1 p0) ((SM (D.ref N0 p1 N0)∧True)∧∃ (y:Nat),ke2q9 y p0∧ke2q3 p0 - y < ke2q3 p0 - x∧(IntKind.wrap IntKind.i64 ((↑x:Int) + Z1) = (↑y:Int)∧True)∧ke2q11 p1 p0))) (ke2q17 p0))) (ke2q17 p0))) (ke2q18 p0))) (True∧∃ (y:Unit),True∧true = kerB p0∧True∧True)
end
theorem rker_ok (k:KeD) (h:k.ok):ACalls Tryz.prog 29 (sKer.args k) (sKer.st k) (SpecR sKer k) := by
  refine con_of (A := sKer) (x := k) (E := Erker k) (eOk0 rfl) Tryz.func29 rfl (by kernel_rfl) rfl (by simp [sKer,Erker,E0]) ?_
  refine vc_eq (T :=
    ∀ (x:Nat),True→SM x∧ifB (decide (Z1 ≤ ke2q0 k)) (True∧ifB (!decide (ke2q0 k ≤ (16:Int))) (ke2q1 k) (SM x∧ifB (decide (Z1 ≤ ke2q4 k)) (True∧ifB (!decide (ke2q4 k ≤ (64:Int))) (ke2q1 k) (SM x∧ifB (decide (ke2q5 k < Z0)) (ke2q1 k) (SM x∧ifB (ke2q6 k != Z0) (SM x∧ifB (decide (Z1 ≤ ke2q6 k)) (True∧True∧ifB (!decide (ke2q6 k ≤ (55:Int))) (ke2q1 k) (ke2q19 k x)) (ke2q18 k)) (ke2q19 k x)))) (ke2q17 k))) (ke2q17 k)) (by kernel_rfl) ?_
  delta D4 LN N0 NI R4 SM Z0 Z1 ZI ke2q0 ke2q1 ke2q10 ke2q11 ke2q12 ke2q13 ke2q14 ke2q15 ke2q16 ke2q17 ke2q18 ke2q19 ke2q2 ke2q3 ke2q4 ke2q5 ke2q6 ke2q7 ke2q8 ke2q9
  intro x _
  simp only [ifB_iff,side_iff,decide_eq_true_eq,decide_eq_false_iff_not,true_and,and_true,Bool.not_eq_true',Bool.not_eq_false',Int.toNat_natCast,exists_const,forall_const,bne_iff_ne,ne_eq,bne_eq_false_iff_eq]
  refine ⟨fun h1 => ⟨fun n => by simp [kerB,between,n],fun h2 => ⟨fun h3 => ⟨fun n => by simp [kerB,between]; omega,fun h4 => ⟨fun n => by simp [kerB]; omega,fun h5 => ⟨fun r0 => ⟨fun r1 => ⟨fun n => by simp [kerB,primB,between]; omega,fun r2 => ?_⟩,fun n => by simp [kerB,primB,between]; omega⟩,fun r0 => ?_⟩⟩⟩,fun n => by simp [kerB,between]; omega⟩⟩,fun n => by simp [kerB,between,n]⟩
  · have H6:k.reduce = 0∨(1 ≤ k.reduce∧k.reduce ≤ 55) := .inr ⟨r1,r2⟩
    refine ⟨⟨0,⟨Nat.zero_le _,fun j hj => absurd hj (Nat.not_lt_zero j)⟩,rfl,fun _ _ => trivial⟩,fun i hi => ⟨fun hlt => ⟨⟨by omega,hlt⟩,fun y _ => ?_⟩,fun hge => ?_⟩⟩
    · have hl:i < k.ops.length := by omega
      have hw:IntKind.i64.wrap (IntKind.i64.wrap (k.inputs + (i:Int)) - 1) = k.inputs + i - 1 := by
        rw [wrap_i64' (n := k.inputs + i) (by omega) (by omega),wrap_i64' (by omega) (by omega)]
      rw [hw]
      have no:∀ {b:Bool},opB k.inputs i (k.ops.getD i default) = b→b = false→false = kerB k := fun h1 h2 => kerB_no hl (h1.trans h2)
      have de:(default:I4) = ⟨0,0,0,0⟩ := rfl
      rw [← de] at *
      generalize hk:k.ops.getD i default = o at *
      refine ⟨fun a1 => ⟨fun a2 => no rfl (by simp [opB,primB,between]; omega),fun a2 => ⟨fun c1 => ⟨fun c2 => no rfl (by simp [opB,primB,between]; omega),fun c2 => ⟨fun b1 => ⟨fun b2 => no rfl (by simp [opB,primB,between]; omega),fun b2 => ⟨fun d1 => no rfl (by simp [opB,primB,between]; omega),fun d1 => ⟨i + 1,⟨by omega,fun j hj => ?_⟩,by omega,wrap_i64' (by omega) (by omega),fun _ _ => trivial⟩⟩⟩,fun b1 => no rfl (by simp [opB,primB,between]; omega)⟩⟩,fun c1 => no rfl (by simp [opB,primB,between]; omega)⟩⟩,fun a1 => no rfl (by simp [opB,primB,between]; omega)⟩
      by_cases e:j = i
      · subst e; rw [hk]; simp only [opB,primB,between,Bool.and_eq_true,decide_eq_true_eq]; omega
      · exact hi.2 j (by omega)
    · exact kerB_yes h1 h2 h3 h4 h5 H6 fun j hj => hi.2 j (by omega)
  · have H6:k.reduce = 0∨(1 ≤ k.reduce∧k.reduce ≤ 55) := .inl r0
    refine ⟨⟨0,⟨Nat.zero_le _,fun j hj => absurd hj (Nat.not_lt_zero j)⟩,rfl,fun _ _ => trivial⟩,fun i hi => ⟨fun hlt => ⟨⟨by omega,hlt⟩,fun y _ => ?_⟩,fun hge => ?_⟩⟩
    · have hl:i < k.ops.length := by omega
      have hw:IntKind.i64.wrap (IntKind.i64.wrap (k.inputs + (i:Int)) - 1) = k.inputs + i - 1 := by
        rw [wrap_i64' (n := k.inputs + i) (by omega) (by omega),wrap_i64' (by omega) (by omega)]
      rw [hw]
      have no:∀ {b:Bool},opB k.inputs i (k.ops.getD i default) = b→b = false→false = kerB k := fun h1 h2 => kerB_no hl (h1.trans h2)
      have de:(default:I4) = ⟨0,0,0,0⟩ := rfl
      rw [← de] at *
      generalize hk:k.ops.getD i default = o at *
      refine ⟨fun a1 => ⟨fun a2 => no rfl (by simp [opB,primB,between]; omega),fun a2 => ⟨fun c1 => ⟨fun c2 => no rfl (by simp [opB,primB,between]; omega),fun c2 => ⟨fun b1 => ⟨fun b2 => no rfl (by simp [opB,primB,between]; omega),fun b2 => ⟨fun d1 => no rfl (by simp [opB,primB,between]; omega),fun d1 => ⟨i + 1,⟨by omega,fun j hj => ?_⟩,by omega,wrap_i64' (by omega) (by omega),fun _ _ => trivial⟩⟩⟩,fun b1 => no rfl (by simp [opB,primB,between]; omega)⟩⟩,fun c1 => no rfl (by simp [opB,primB,between]; omega)⟩⟩,fun a1 => no rfl (by simp [opB,primB,between]; omega)⟩
      by_cases e:j = i
      · subst e; rw [hk]; simp only [opB,primB,between,Bool.and_eq_true,decide_eq_true_eq]; omega
      · exact hi.2 j (by omega)
    · exact kerB_yes h1 h2 h3 h4 h5 H6 fun j hj => hi.2 j (by omega)
end Go.Proofs.YtflbmbkhjcbhoaaGreatDoor
