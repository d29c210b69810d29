/- The law of the bytecode chapter that the theorem names returns true at every input, without conditions; its arguments read as before. -/
import Derived.Test.YtflbmbkhjcbhoaaGreatDoorWe1
import Derived.Test.YtflbmbkhjcbhoaaGreatDoorProg
import Derived.Lib.LaidTab
import Derived.Lib.ItoaNum
import Derived.Lib.TrailingZeros
import Derived.Calls
import Derived.Below
import Derived.Laws.Entries
import Derived.Laws.Build
import Derived.Laws.Concat
import Derived.Laws.AppendOwn
import Derived.Laws.IdiomStrings
import Derived.Laws.BytesString
import Derived.Laws.NewFold
import Derived.Laws.MakeOwn
import Derived.Laws.IdiomCopy
import Derived.Laws.Shifts
import Derived.Laws.Strings
import Derived.Laws.Strings2
import Derived.Laws.Strings3
import Derived.Laws.RangeString
import Derived.MapKept
import Derived.Laws.StructEq
import Derived.Orders
import Derived.Scope
import Derived.ProofKit
import Derived.WalkKit
import Derived.OpenShut
import Derived.Recover
import Derived.KernelRfl
import Derived.Shelf.Strings.Builder1
import Derived.Shelf.Strings.Builder2
import Derived.Shelf.Strings.OnBuilder
import Derived.Shelf.Strings.BuilderF
import Derived.Shelf.Strconv.Itoa0
import Derived.Shelf.Strconv.Itoa1
import Derived.Shelf.LaysM
import Derived.Shelf.Strconv.Itoa2
import Derived.Shelf.Strconv.Itoa3
import Derived.Shelf.Strconv.Itoa4
import Derived.Shelf.Strings.Prefix
import Derived.Shelf.Bits.Mul64
import Derived.Shelf.Strings.Repeat
import Derived.Lib.Repeat
import Derived.Lib.AppendIntMem
import Derived.Lib.ItoaLen
import Derived.Test.YtflbmbkhjcbhoaaGreatDoorCards
import Derived.Test.YtflbmbkhjcbhoaaGreatDoorTie
import Derived.Deep.DeepHandedRow
import Derived.Stop.LaidErr
import Derived.Lib.Join
import Derived.Lib.Builder
import Derived.Lib.UnsafeStr
import Derived.Laws.BitsLemmas
namespace Go.Proofs.YtflbmbkhjcbhoaaGreatDoor
open Go Go.Ab
set_option maxRecDepth 100000
noncomputable def Erdp (c:CodD):Senv := EC (conDp c) 25 3 [4,5,19] (fun _ => ([],[]))
noncomputable section
def dp1q10 (p0:CodD):Nat := LN (CodD.consts p0)
def dp1q11 (p0:CodD) (p1:Nat):List D := Arr.row (GC p0 p1)
def dp1q12 (p0:CodD):Nat := LN (CodD.funs p0)
def dp1q13 (p0:CodD) (p1:Nat):List D := FnD.row (GF p0 p1)
def dp1q14 (p0:CodD):Nat := LN (CodD.kers p0)
def dp1q15 (p0:CodD) (p1:Nat):List D := KeD.row (GK p0 p1)
def dp1q16 (p0:CodD):Nat := LN (CodD.lanes p0)
def dp1q17 (p0:CodD) (p1:Nat):List D := LaD.row (GL p0 p1)
def dp1q18 (p0:CodD):Prop := (SM (dp1q10 p0)∧(∀ (i:Nat),i < dp1q10 p0→SM (dp1q11 p0 i))∧True)∧(SM (dp1q12 p0)∧(∀ (i:Nat),i < dp1q12 p0→SM (dp1q13 p0 i))∧True)∧(SM (dp1q14 p0)∧(∀ (i:Nat),i < dp1q14 p0→SM (dp1q15 p0 i))∧True)∧(SM (dp1q16 p0)∧(∀ (i:Nat),i < dp1q16 p0→SM (dp1q17 p0 i))∧True)∧True
def dp1q19 (p0:CodD) (p1:Int):Prop := True∧∃ (_y:Unit),True∧(Z0 = (NI (Option.getD (depC p0 p1) N0))∧false = Option.isSome (depC p0 p1)∧True)∧True∧True
end
theorem rdp_ok (c:CodD) (z:Int) (hc:c.ok) (hs:∀ f,f < c.funs.length→(c.funs.getD f default).code.length ≤ 65536):ACalls Tryz.prog 13 [.agg c.row,.int .i64 z] ⟨[],[]⟩ (SpecR (sC [.agg c.row,.int .i64 z] (funD (depC c z))) ()) := by
  refine con_of (A := sC _ _) (x := ()) (E := Erdp c) (eOk (conDp_ok hc hs) rfl) Tryz.func13 rfl (by kernel_rfl) rfl (by simp [sC,Erdp,EC,E0]) ?_
  refine vc_eq (T :=
    ∀ (x:Nat),True→SM x∧(dp1q18 c∧True)∧∀ (y:Unit),True→ifB (rightC c != Z0) (dp1q19 c z) (ifB (decide (z < Z0)) (dp1q19 c z) (SM x∧ifB (decide ((NI (dp1q12 c)) ≤ z)) (dp1q19 c z) (SM x∧((dp1q18 c∧z = (NI (Int.toNat z))∧True)∧Int.toNat z < dp1q12 c)∧∀ (y:Unit),True→True∧∃ (y:Unit),True∧((NI (Option.getD (funS c (Int.toNat z)) N0)) = (NI (Option.getD (depC c z) N0))∧Option.isSome (funS c (Int.toNat z)) = Option.isSome (depC c z)∧True)∧True∧True)))) (by kernel_rfl) ?_
  delta DA DF DK DL GC GF GK GL LN N0 NI SM Z0 dp1q10 dp1q11 dp1q12 dp1q13 dp1q14 dp1q15 dp1q16 dp1q17 dp1q18 dp1q19
  simp only [eq_self,implies_true,ifB_iff,decide_eq_true_eq,decide_eq_false_iff_not,true_and,and_true,exists_const,forall_const]
  refine ⟨fun h3 => dep_none fun hh => ?_,fun h3 => ⟨fun h => dep_none (by omega),fun h => ⟨fun h2 => dep_none (by omega),fun h2 => ⟨⟨by omega,by omega⟩,dep_some ⟨by omega,by omega,by simpa using h3⟩⟩⟩⟩⟩
  rw [hh.2.2] at h3; cases h3
end Go.Proofs.YtflbmbkhjcbhoaaGreatDoor
namespace Go.Proofs.YtflbmbkhjcbhoaaGreatDoor
open Go Go.Ab
set_option maxRecDepth 100000
def dgM (n:Int):Nat := 2 * n.natAbs + if n < 0 then 1 else 0
theorem showI_one {k:Nat} (h:k < 10):showI (k:Int) = [UInt8.ofNat (48 + k)] := by
  unfold showI
  rw [if_neg (by omega),Int.toNat_natCast,Lib.decDigits_one h]
def conDg (z:Nat):Con := fun k ds _S => match k with
  | 77 => match ds with
    | [.int .i64 n] => some (pC [.int .i64 n] (.str (showI n)) (inI64 n∧dgM n < z))
    | _ => none
  | _ => none
noncomputable def Edg (z:Nat):Senv := EC (conDg z) 32 1 [2,4,6,20] (fun _ => ([],[]))
noncomputable section
def dg1q0 (p0:Int):Nat := dgM p0
def dg1q1 (p0:Int):List UInt8 := showI (IntKind.wrap IntKind.i64 (Z0 - p0))
def dg1q2 (p0:Int):List UInt8 := showI p0
def dg1q3 (p0:Int):Prop := inI64 (IntKind.wrap IntKind.i64 (Int.tdiv p0 (10:Int)))∧dgM (IntKind.wrap IntKind.i64 (Int.tdiv p0 (10:Int))) < dg1q0 p0
def dg1q4 (p0:Int):Int := IntKind.wrap IntKind.i64 (Z0 - Int.tmod p0 (10:Int))
def dg1q5 (p0:Int):List UInt8 := showI (IntKind.wrap IntKind.i64 (Int.tdiv p0 (10:Int)))
def dg1q6 (p0:Int):Nat := LN (dg1q5 p0)
def dg1q7 (p0:Int):List UInt8 := showI (dg1q4 p0)
end
theorem dg_step (n:Int) (h:inI64 n) (hc:ConOk Tryz.prog (conDg (dgM n))):ACalls Tryz.prog 77 [.int .i64 n] ⟨[],[]⟩ (SpecR (sC [.int .i64 n] (.str (showI n))) ()) := by
  refine con_of (A := sC _ _) (x := ()) (E := Edg (dgM n)) (eOk hc rfl) Tryz.func77 rfl (by kernel_rfl) rfl (by simp [sC,Edg,EC,E0]) ?_
  refine vc_eq (T :=
    ifB (decide (n < Z0)) (ifB (decide ((-10:Int) < n)) ((inI64 (IntKind.wrap IntKind.i64 (Z0 - n))∧dgM (IntKind.wrap IntKind.i64 (Z0 - n)) < dg1q0 n)∧∀ (y:Unit),True→side (N1 + LN (dg1q1 n) ≤ (9223372036854775807:Nat)) (True∧∃ (y:Unit),True∧(95:UInt8) :: List.append [] (dg1q1 n) = dg1q2 n∧True∧True)) (dg1q3 n∧∀ (y:Unit),True→(inI64 (dg1q4 n)∧dgM (dg1q4 n) < dg1q0 n)∧∀ (y:Unit),True→side (dg1q6 n + LN (dg1q7 n) ≤ (9223372036854775807:Nat)) (True∧∃ (y:Unit),True∧dg1q5 n ++ dg1q7 n = dg1q2 n∧True∧True))) (ifB (decide (n < (10:Int))) (side (Z0 ≤ n∧n ≤ IntKind.wrap IntKind.i64 (n + Z1)∧IntKind.wrap IntKind.i64 (n + Z1) ≤ (10:Int)) (True∧∃ (y:Unit),True∧List.drop (Int.toNat n) (List.take (Int.toNat (IntKind.wrap IntKind.i64 (n + Z1))) [(48:UInt8),(49:UInt8),(50:UInt8),(51:UInt8),(52:UInt8),(53:UInt8),(54:UInt8),(55:UInt8),(56:UInt8),(57:UInt8)]) = dg1q2 n∧True∧True)) (dg1q3 n∧∀ (y:Unit),True→(inI64 (Int.tmod n (10:Int))∧dgM (Int.tmod n (10:Int)) < dg1q0 n)∧∀ (y:Unit),True→side (dg1q6 n + LN (showI (Int.tmod n (10:Int))) ≤ (9223372036854775807:Nat)) (True∧∃ (y:Unit),True∧dg1q5 n ++ showI (Int.tmod n (10:Int)) = dg1q2 n∧True∧True)))) (by kernel_rfl) ?_
  delta LN N1 Z0 Z1 dg1q0 dg1q1 dg1q2 dg1q3 dg1q4 dg1q5 dg1q6 dg1q7
  have h' := h
  unfold inI64 at h'
  have hd := tdiv10 n
  have ho := tmod10 n
  simp only [ifB_iff,side_iff,decide_eq_true_eq,decide_eq_false_iff_not,true_and,and_true,exists_const,forall_const]
  have w10:IntKind.i64.wrap (n.tdiv 10) = n.tdiv 10 := by
    refine wrap_i64' ?_ ?_ <;> (rw [hd]; split <;> omega)
  refine ⟨fun hn => ⟨fun h1 => ?_,fun h1 => ?_⟩,fun hn => ⟨fun h1 => ?_,fun h1 => ?_⟩⟩
  · have e1:IntKind.i64.wrap (0 - n) = ((n.natAbs:Nat):Int) := by rw [wrap_i64' (by omega) (by omega)]; omega
    rw [e1,showI_one (show n.natAbs < 10 by omega)]
    refine ⟨⟨by unfold inI64; omega,by unfold dgM; rw [if_neg (by omega),if_pos hn]; omega⟩,by simp only [List.length_cons,List.length_nil]; omega,?_⟩
    unfold showI
    rw [if_pos hn,Lib.decDigits_one (show n.natAbs < 10 by omega)]; rfl
  · rw [if_pos hn] at ho hd
    have e1:IntKind.i64.wrap (0 - n.tmod 10) = ((n.natAbs % 10:Nat):Int) := by rw [wrap_i64' (by omega) (by omega)]; omega
    rw [w10,e1,showI_one (show n.natAbs % 10 < 10 by omega)]
    have i0:inI64 (n.tdiv 10) := by unfold inI64; omega
    have hl := (showI_len i0).2
    refine ⟨⟨i0,by unfold dgM; rw [if_pos hn]; split <;> omega⟩,⟨by unfold inI64; omega,by unfold dgM; rw [if_neg (by omega),if_pos hn]; omega⟩,by simp only [List.length_cons,List.length_nil]; omega,(showI_step (by omega)).symm⟩
  · have e2:IntKind.i64.wrap (n + 1) = n + 1 := wrap_i64' (by omega) (by omega)
    rw [e2,show (n + 1).toNat = n.toNat + 1 by omega,dig10 _ (by omega)]
    refine ⟨⟨by omega,by omega,by omega⟩,?_⟩
    unfold showI
    rw [if_neg (by omega),Lib.decDigits_one (by omega)]
  · rw [if_neg hn] at ho hd
    have e1:n.tmod 10 = ((n.natAbs % 10:Nat):Int) := ho
    rw [w10,e1,showI_one (show n.natAbs % 10 < 10 by omega)]
    have i0:inI64 (n.tdiv 10) := by unfold inI64; omega
    have hl := (showI_len i0).2
    refine ⟨⟨i0,by unfold dgM; rw [if_neg hn,if_neg (by omega)]; omega⟩,⟨by unfold inI64; omega,by unfold dgM; rw [if_neg hn,if_neg (by omega)]; omega⟩,by simp only [List.length_cons,List.length_nil]; omega,(showI_step (by omega)).symm⟩
theorem dg_all:∀ (z:Nat) (n:Int),inI64 n→dgM n < z→ACalls Tryz.prog 77 [.int .i64 n] ⟨[],[]⟩ (SpecR (sC [.int .i64 n] (.str (showI n))) ())
  | 0,_,_,hz => absurd hz (by omega)
  | z + 1,n,h,hz => dg_step n h (by
    intro k ds S A hk
    unfold conDg at hk
    split at hk
    · split at hk
      · injection hk with hk; subst hk
        exact pC_ok fun ⟨h1,h2⟩ => ⟨weakL_refl _,dg_all z _ h1 (by omega)⟩
      · cases hk
    · cases hk)
theorem digits_ok (n:Int) (h:inI64 n):ACalls Tryz.prog 77 [.int .i64 n] ⟨[],[]⟩ (SpecR (sC [.int .i64 n] (.str (showI n))) ()) := dg_all _ n h (Nat.lt_succ_self _)
end Go.Proofs.YtflbmbkhjcbhoaaGreatDoor
namespace Go.Proofs.YtflbmbkhjcbhoaaGreatDoor
open Go Go.Ab
set_option maxRecDepth 100000
noncomputable def Erfl:Senv := EC conAr 20 3 [4,5,9,13] (fun _ => ([],[]))
noncomputable section
def fi1q5:D := D.sl N1 N0 (fun (_x:Nat) => []) Mode.nil
def fi1q6:D := D.sl N1 N1 (fun (i:Nat) => List.getD [[ZI Z0]] i []) Mode.full
def fi1q7:List D := [fi1q5]
def fi1q8 (p0:Int):D := fillD p0
def fi1q9:List D := fi1q5 :: fi1q7
end
theorem rfill_ok (k : Int) (ns nn ni : Nat) (f g h : Nat → List D) :
    ACalls Tryz.prog 107 [.agg [.int .i64 k,.sl 1 ns f .any,.sl 1 nn g .any,.sl 4 ni h .any]] ⟨[],[]⟩ (SpecR (sC [.agg [.int .i64 k,.sl 1 ns f .any,.sl 1 nn g .any,.sl 4 ni h .any]] (fillD k)) ()) := by
  refine con_of (A := sC _ _) (x := ()) (E := Erfl) (eOk conAr_ok rfl) Tryz.func107 rfl (by kernel_rfl) rfl (by simp [sC,Erfl,EC,E0]) ?_
  refine vc_eq (T :=
    ∀ (x:Nat),True→∀ (x_1:Nat),x ≠ x_1∧True→SM x∧ifB (k == Z1) (SM x_1∧(SM x_1∧True)∧∃ (y:Unit),True∧weakD (D.agg (ZI Z1 :: fi1q5 :: fi1q6 :: fi1q7)) (fi1q8 k)∧True∧True) (ifB (k == (2:Int)) (SM x_1∧(SM x_1∧True)∧∃ (y:Unit),True∧weakD (D.agg (ZI (2:Int) :: fi1q5 :: D.sl N1 N1 (fun (i:Nat) => List.getD [[ZI (32:Int)]] i []) Mode.full :: fi1q7)) (fi1q8 k)∧True∧True) (ifB (k == (3:Int)) (SM x_1∧(SM x_1∧True)∧∃ (y:Unit),True∧weakD (D.agg [ZI (3:Int),fi1q5,fi1q5,D.sl N4 N1 (fun (i:Nat) => List.getD [ZI Z1 :: fi1q6 :: fi1q9] i []) Mode.full]) (fi1q8 k)∧True∧True) (SM x_1∧(SM x_1∧True)∧∃ (y:Unit),True∧weakD (D.agg (ZI Z0 :: fi1q5 :: fi1q9)) (fi1q8 k)∧True∧True)))) (by kernel_rfl) ?_
  delta N0 N1 N4 SM Z0 Z1 ZI fi1q5 fi1q6 fi1q7 fi1q8 fi1q9
  simp only [ifB_iff,true_and,and_true,beq_iff_eq,beq_eq_false_iff_ne,ne_eq,exists_const,forall_const]
  intro _ _ _
  refine ⟨fun h => ?_,fun h1 => ⟨fun h => ?_,fun h2 => ⟨fun h => ?_,fun h3 => ?_⟩⟩⟩
  · subst h; exact weakD_refl _
  · subst h; exact weakD_refl _
  · subst h; exact weakD_refl _
  · simp only [fillD,if_neg h1,if_neg h2,if_neg h3]; exact weakD_refl _
theorem rfill_arr (a:Arr):ACalls Tryz.prog 107 [.agg a.row1] ⟨[],[]⟩ (SpecR (sC [.agg a.row1] (.agg (fillA a.k).row1)) ()) := wkRet (rfill_ok a.k _ _ _ _ _ _) (fill_wk a.k)
end Go.Proofs.YtflbmbkhjcbhoaaGreatDoor
namespace Go.Proofs.YtflbmbkhjcbhoaaGreatDoor
open Go Go.Ab
theorem bytesOf_eq {n:Nat} {l:List UInt8} {F:Nat→List D} (hn:n = l.length) (hF:∀ i,i < n→F i = [D.int .u8 ((l.getD i 0).toNat:Int)]):bytesOf n F = l := by
  subst hn
  conv => rhs; rw [← bytesOf_bsl l]
  unfold bytesOf
  exact List.map_congr_left fun i hi => by rw [hF i (List.mem_range.1 hi)]
theorem rowsB_eq {n:Nat} {l:List UInt8} {F:Nat→List D} (hn:n = l.length) (hF:∀ i,i < n→F i = [D.int .u8 ((l.getD i 0).toNat:Int)]):rowsB n F = true := by
  subst hn
  have h := rowsB_bsl l
  simp only [rowsB,List.all_eq_true,List.mem_range] at h ⊢
  intro i hi
  rw [hF i hi]; exact h i hi
end Go.Proofs.YtflbmbkhjcbhoaaGreatDoor
namespace Go.Proofs.YtflbmbkhjcbhoaaGreatDoor
open Go Go.Ab
set_option maxRecDepth 100000
noncomputable def Erq (l:List Int):Senv := { EC conRc 25 5 [10] (fun _ => ([],[])) with
  gh := fun b => match b with
    | 0 => [.slot 3]
    | _ => []
  ann := fun b _ S => match b with
    | 0 => some { slots := [4,3],keep := [0,1],α := Nat × Nat × List UInt8,st := fun y => ([.int .i64 y.1,bsl y.2.2 (.tok 0 y.2.1)],⟨S.objs,[(0,y.2.1)]⟩),inv := fun y => QHd 34 l y.1 [34] y.2.2,mu := fun y => l.length - y.1 }
    | _ => none }
noncomputable section
def fm4q6 (p0:List Int) (p1:Nat) (p2:List UInt8):Prop := QHd (34:Int) p0 p1 [(34:UInt8)] p2
def fm4q7 (p0:List UInt8) (p1:Nat):List D := [ZB (BI p0 p1)]
def fm4q8 (p0:Nat) (p1:Int) (p2:Nat) (p3:Nat→List D) (p4:List Int) (p5:Nat) (p6:Nat→List D) (p7 p8:Nat):Prop := (SM p0∧(SM p1∧(SM p2∧(∀ (i:Nat),i < p2→SM (p3 i))∧True)∧(SM (LN p4)∧(∀ (i:Nat),i < LN p4→SM [ZI (GI p4 i)])∧True)∧(SM p5∧(∀ (i:Nat),i < p5→SM (p6 i))∧True)∧True)∧True)∧p7 = p8∧True
def fm4q9 (p0:List UInt8) (p1:List Int) (p2:Nat):Nat := LN p0 + LN (escB (GI p1 (Int.toNat (↑p2:Int))) (34:Int))
end
theorem rquo_ok (k:Int) (n1 n2:Nat) (f1 f2:Nat→List D) (l:List Int) (hl:l.length ≤ 1099511627776) (hc:∀ c ∈ l,0 ≤ c∧c ≤ 1114111):ACalls Tryz.prog 104 [.agg [.int .i64 k,.sl 1 n1 f1 .any,isl l .any,.sl 4 n2 f2 .any]] ⟨[],[]⟩ (SpecR (sC [.agg [.int .i64 k,.sl 1 n1 f1 .any,isl l .any,.sl 4 n2 f2 .any]] (.str (quoB 34 l))) ()) := by
  refine con_of (A := sC _ _) (x := ()) (E := Erq l) (eOk conRc_ok rfl) Tryz.func104 rfl (by kernel_rfl) rfl (by simp [sC,Erq,EC,E0]) ?_
  refine vc_eq (T :=
    ∀ (x:Nat),True→∀ (t:Nat),(∃ (x_1:Nat × Nat × List UInt8),fm4q6 l x_1.1 x_1.2.2∧(Z0 = (NI x_1.1)∧(N1 = LN x_1.2.2∧(∀ (i:Nat),i < N1→List.getD [[ZB (34:Int)]] i [] = fm4q7 x_1.2.2 i)∧t = x_1.2.1)∧True)∧fm4q8 x k n1 f1 l n2 f2 t x_1.2.1)∧∀ (x_1:Nat × Nat × List UInt8),fm4q6 l x_1.1 x_1.2.2→SM x∧ifB (decide ((NI x_1.1) < (LI l))) (SM x∧side (Z0 ≤ (NI x_1.1)∧(NI x_1.1) < (LI l)) ((Z0 ≤ GI l (TN x_1.1)∧GI l (TN x_1.1) ≤ (1114111:Int))∧∀ (y:Unit),True→SM x_1.2.1∧side (fm4q9 x_1.2.2 l x_1.1 * N1 ≤ (140737488355328:Nat)∧fm4q9 x_1.2.2 l x_1.1 ≤ (9223372036854775807:Nat)) (∀ (t:Nat),(SM (D.agg [ZI k,D.sl N1 n1 f1 Mode.any,SI l,D.sl N4 n2 f2 Mode.any])∧SM (D.ref N0 x N0)∧True)∧∃ (y:Nat × Nat × List UInt8),fm4q6 l y.1 y.2.2∧LN l - y.1 < LN l - x_1.1∧(IntKind.wrap IntKind.i64 ((NI x_1.1) + Z1) = (NI y.1)∧(fm4q9 x_1.2.2 l x_1.1 = LN y.2.2∧(∀ (i:Nat),i < fm4q9 x_1.2.2 l x_1.1→appF (LN x_1.2.2) (fun (i:Nat) => fm4q7 x_1.2.2 i) (fun (i:Nat) => [ZB (BI (escB (GI l (TN x_1.1)) (34:Int)) i)]) i = fm4q7 y.2.2 i)∧t = y.2.1)∧True)∧fm4q8 x k n1 f1 l n2 f2 t y.2.1))) (SM x_1.2.1∧side ((LN x_1.2.2 + N1) * N1 ≤ (140737488355328:Nat)∧LN x_1.2.2 + N1 ≤ (9223372036854775807:Nat)) (∀ (t:Nat),True∧chk (true && rowsB (LN x_1.2.2 + N1) (appF (LN x_1.2.2) (fun (i:Nat) => fm4q7 x_1.2.2 i) fun (i:Nat) => List.getD [[ZB (34:Int)]] i [])) (True∧∃ (y:Unit),True∧bytesOf (LN x_1.2.2 + N1) (appF (LN x_1.2.2) (fun (i:Nat) => fm4q7 x_1.2.2 i) fun (i:Nat) => List.getD [[ZB (34:Int)]] i []) = quoB (34:Int) l∧True∧True)))) (by kernel_rfl) ?_
  delta BI GI LI LN N0 N1 N4 NI SI SM TN U0 Z0 Z1 ZB ZI fm4q6 fm4q7 fm4q8 fm4q9
  simp only [ifB_iff,side_iff,decide_eq_true_eq,true_and,and_true,exists_const,forall_const,Int.toNat_natCast,eq_self,implies_true]
  have hr:∀ i,i < 1→([[D.int .u8 34]]:List (List D)).getD i [] = [D.int .u8 (([34]:List UInt8).getD i 0).toNat] := fun i hi => by
    have:i = 0 := by omega
    subst this; rfl
  intro t
  refine ⟨⟨(0,t,[34]),QHd.init _ _ _,⟨rfl,rfl,hr,rfl⟩,rfl⟩,?_⟩
  rintro ⟨i,t1,out⟩ hh
  simp only at hh ⊢
  have h1 := hh.len
  have h0:([34]:List UInt8).length = 1 := rfl
  refine ⟨fun hlt => ?_,fun hge => ?_⟩
  · have hlt':i < l.length := by omega
    have h3 := escB_len (l.getD i 0) 34
    refine ⟨by omega,hc _ (memI hlt'),by omega,fun t2 => ⟨(i + 1,t2,_),hh.step hlt',by omega,⟨wrap_i64' (by omega) (by omega),by rw [List.length_append],?_,rfl⟩,rfl⟩⟩
    exact app_gen rfl (fun _ _ => rfl) (fun _ _ => rfl)
  · have hge':¬ i < l.length := by simpa using hge
    have hd := hh.done hge'
    have ha := app_row' (l := out) (b := 34) (z := 34) rfl (fun _ _ => rfl) rfl
    refine ⟨by omega,?_⟩
    rw [chk_iff,Bool.true_and]
    refine ⟨rowsB_eq (l := out ++ [34]) (by simp) ha,?_⟩
    rw [bytesOf_eq (l := out ++ [34]) (by simp) ha,hd]; rfl
end Go.Proofs.YtflbmbkhjcbhoaaGreatDoor
namespace Go.Proofs.YtflbmbkhjcbhoaaGreatDoor
open Go Go.Ab
set_option maxRecDepth 100000
noncomputable def Erd (l:List Int):Senv := { EC conJn 26 1 [2,3,4,9,13] (fun _ => ([],[])) with
  gh := fun b => match b with
    | 0 => [.slot 3]
    | _ => []
  ann := fun b _ S => match b with
    | 0 => some { slots := [4,3],keep := [0,1],α := Nat × Nat × List UInt8,st := fun y => ([.int .i64 y.1,bsl y.2.2 (.tok 0 y.2.1)],⟨S.objs,[(0,y.2.1)]⟩),inv := fun y => JHd [32] (l.map showI) y.1 y.2.2,mu := fun y => l.length - y.1 }
    | _ => none }
noncomputable section
def fm6q0 (p0:List Int) (p1:Nat) (p2:List UInt8):Prop := JHd [(32:UInt8)] (List.map showI p0) p1 p2
def fm6q1 (p0:List UInt8) (p1:Nat):List D := [ZB (BI p0 p1)]
def fm6q2 (p0:List UInt8) (p1:List Int) (p2:Nat):Nat := LN p0 + N1 + LN (showI (GI p1 (Int.toNat (↑p2:Int))))
def fm6q3 (p0:List Int):D := SI p0
def fm6q4 (p0:List Int):Prop := SM (fm6q3 p0)∧SM D.unk∧True
def fm6q5 (p0:List Int) (p1 p2:Nat):List D := [ZB (BI (showI (GI p0 (Int.toNat (↑p1:Int)))) p2)]
def fm6q6 (p0:List UInt8) (p1:List Int) (p2:Nat):Nat := LN p0 + LN (showI (GI p1 (Int.toNat (↑p2:Int))))
end
theorem rdims_ok (l:List Int) (hl:l.length ≤ 1099511627776) (hc:∀ z ∈ l,inI64 z):ACalls Tryz.prog 106 [isl l .any] ⟨[],[]⟩ (SpecR (sC [isl l .any] (.str (dimsB l))) ()) := by
  refine con_of (A := sC _ _) (x := ()) (E := Erd l) (eOk conJn_ok rfl) Tryz.func106 rfl (by kernel_rfl) rfl (by simp [sC,Erd,EC,E0]) ?_
  refine vc_eq (T :=
    ∀ (t:Nat),(∃ (x:Nat × Nat × List UInt8),fm6q0 l x.1 x.2.2∧(Z0 = (NI x.1)∧(N0 = LN x.2.2∧(∀ (i:Nat),i < N0→[D.str []] = fm6q1 x.2.2 i)∧t = x.2.1)∧True)∧True∧t = x.2.1∧True)∧∀ (x:Nat × Nat × List UInt8),fm6q0 l x.1 x.2.2→ifB (decide ((NI x.1) < (LI l))) (ifB (decide (Z0 < (NI x.1))) (SM x.2.1∧side ((LN x.2.2 + N1) * N1 ≤ (140737488355328:Nat)∧LN x.2.2 + N1 ≤ (9223372036854775807:Nat)) (∀ (t:Nat),side (Z0 ≤ (NI x.1)∧(NI x.1) < (LI l)) (inI64 (GI l (TN x.1))∧∀ (y:Unit),True→SM t∧side (fm6q2 x.2.2 l x.1 * N1 ≤ (140737488355328:Nat)∧fm6q2 x.2.2 l x.1 ≤ (9223372036854775807:Nat)) (∀ (t:Nat),fm6q4 l∧∃ (y:Nat × Nat × List UInt8),fm6q0 l y.1 y.2.2∧LN l - y.1 < LN l - x.1∧(IntKind.wrap IntKind.i64 ((NI x.1) + Z1) = (NI y.1)∧(fm6q2 x.2.2 l x.1 = LN y.2.2∧(∀ (i:Nat),i < fm6q2 x.2.2 l x.1→appF (LN x.2.2 + N1) (appF (LN x.2.2) (fun (i:Nat) => fm6q1 x.2.2 i) fun (i:Nat) => List.getD [[ZB (32:Int)]] i []) (fun (i:Nat) => fm6q5 l x.1 i) i = fm6q1 y.2.2 i)∧t = y.2.1)∧True)∧True∧t = y.2.1∧True)))) (side (Z0 ≤ (NI x.1)∧(NI x.1) < (LI l)) (inI64 (GI l (TN x.1))∧∀ (y:Unit),True→SM x.2.1∧side (fm6q6 x.2.2 l x.1 * N1 ≤ (140737488355328:Nat)∧fm6q6 x.2.2 l x.1 ≤ (9223372036854775807:Nat)) (∀ (t:Nat),fm6q4 l∧∃ (y:Nat × Nat × List UInt8),fm6q0 l y.1 y.2.2∧LN l - y.1 < LN l - x.1∧(IntKind.wrap IntKind.i64 ((NI x.1) + Z1) = (NI y.1)∧(fm6q6 x.2.2 l x.1 = LN y.2.2∧(∀ (i:Nat),i < fm6q6 x.2.2 l x.1→appF (LN x.2.2) (fun (i:Nat) => fm6q1 x.2.2 i) (fun (i:Nat) => fm6q5 l x.1 i) i = fm6q1 y.2.2 i)∧t = y.2.1)∧True)∧True∧t = y.2.1∧True)))) (True∧chk (true && rowsB (LN x.2.2) fun (i:Nat) => fm6q1 x.2.2 i) (True∧∃ (y:Unit),True∧(bytesOf (LN x.2.2) fun (i:Nat) => fm6q1 x.2.2 i) = dimsB l∧True∧True))) (by kernel_rfl) ?_
  delta BI GI LI LN N0 N1 NI SI SM TN U0 Z0 Z1 ZB ZI fm6q0 fm6q1 fm6q2 fm6q3 fm6q4 fm6q5 fm6q6
  simp only [ifB_iff,side_iff,decide_eq_true_eq,true_and,and_true,exists_const,forall_const,Int.toNat_natCast,eq_self]
  intro t
  refine ⟨⟨(0,t,[]),JHd.init _ _,⟨rfl,rfl,fun i hi => absurd hi (by omega),rfl⟩,rfl⟩,?_⟩
  rintro ⟨i,t1,out⟩ hh
  simp only at hh ⊢
  have h1 := hh.len
  have hd := dimsB_len hc
  have hdd:Lib.join (l.map showI) [32] = dimsB l := rfl
  rw [hdd] at h1
  refine ⟨fun hlt => ?_,fun hge => ?_⟩
  · have hlt':i < l.length := by omega
    have hz := hc _ (memI hlt')
    have hs := showI_len hz
    refine ⟨fun h0 => ⟨⟨by omega,by omega⟩,⟨by omega,by omega⟩,hz,⟨by omega,by omega⟩,fun t2 => ⟨(i + 1,t2,out ++ [32] ++ showI (l.getD i 0)),?_,by simp only; omega,⟨wrap_i64' (by omega) (by omega),by simp only [List.length_append,List.length_cons,List.length_nil],?_,rfl⟩,rfl⟩⟩,fun h0 => ⟨⟨by omega,by omega⟩,hz,⟨by omega,by omega⟩,fun t2 => ⟨(i + 1,t2,out ++ showI (l.getD i 0)),?_,by simp only; omega,⟨wrap_i64' (by omega) (by omega),by simp only [List.length_append],?_,rfl⟩,rfl⟩⟩⟩
    · have := hh.step (by omega) (by simpa using hlt')
      rw [mapS hlt'] at this
      exact this
    · exact app_gen (l := out ++ [32]) (by simp) (app_row' (b := 32) rfl (fun _ _ => rfl) rfl) (fun _ _ => rfl)
    · have e:i = 0 := by simpa using h0
      subst e
      have := hh.step0 (by simpa using hlt')
      rw [mapS hlt'] at this
      exact this
    · exact app_gen rfl (fun _ _ => rfl) (fun _ _ => rfl)
  · have hge':¬ i < l.length := by simpa using hge
    have hd := hh.done (by simpa using hge')
    rw [chk_iff,Bool.true_and]
    refine ⟨rowsB_bsl _,?_⟩
    rw [bytesOf_bsl,hd]; rfl
end Go.Proofs.YtflbmbkhjcbhoaaGreatDoor
namespace Go.Proofs.YtflbmbkhjcbhoaaGreatDoor
open Go Go.Ab
set_option maxRecDepth 100000
noncomputable def Ernm:Senv := { EC con0 7 1 [2] (fun _ => ([],[])) with mg := fun _ => 2 }
theorem rnm_ok (op:Int) (h:0 ≤ op∧op < 28):ACalls Tryz.prog 79 [.int .i64 op] ⟨[],[]⟩ (SpecR (sC [.int .i64 op] (.str (nameT op))) ()) := by
  refine con_of (A := sC _ _) (x := ()) (E := Ernm) (eOk con0_ok rfl) Tryz.func79 rfl (by kernel_rfl) rfl (by simp [sC,Ernm,EC,E0]) ?_
  refine vc_eq (T :=
    side (Z0 ≤ op∧op < (28:Int)) (True∧∃ (y:Unit),True∧List.getD [[],[(99:UInt8),(111:UInt8),(110:UInt8),(115:UInt8),(116:UInt8)],[(105:UInt8),(110:UInt8),(112:UInt8),(117:UInt8),(116:UInt8)],[(108:UInt8),(101:UInt8),(102:UInt8),(116:UInt8)],[(114:UInt8),(105:UInt8),(103:UInt8),(104:UInt8),(116:UInt8)],[(103:UInt8),(101:UInt8),(116:UInt8)],[(115:UInt8),(101:UInt8),(116:UInt8)],[(115:UInt8),(116:UInt8),(114:UInt8),(97:UInt8),(110:UInt8),(100:UInt8)],[(109:UInt8),(111:UInt8),(110:UInt8),(97:UInt8),(100:UInt8)],[(100:UInt8),(121:UInt8),(97:UInt8),(100:UInt8)],[(112:UInt8),(114:UInt8),(105:UInt8),(109:UInt8)],[(99:UInt8),(108:UInt8),(111:UInt8),(115:UInt8),(117:UInt8),(114:UInt8),(101:UInt8)],[(102:UInt8),(117:UInt8),(110:UInt8)],[(115:UInt8),(101:UInt8),(108:UInt8),(102:UInt8)],[(111:UInt8),(112:UInt8),(101:UInt8),(114:UInt8),(97:UInt8),(110:UInt8),(100:UInt8),(49:UInt8)],[(111:UInt8),(112:UInt8),(101:UInt8),(114:UInt8),(97:UInt8),(110:UInt8),(100:UInt8),(50:UInt8)],[(100:UInt8),(101:UInt8),(114:UInt8),(105:UInt8),(118:UInt8),(101:UInt8),(49:UInt8)],[(100:UInt8),(101:UInt8),(114:UInt8),(105:UInt8),(118:UInt8),(101:UInt8),(50:UInt8)],[(116:UInt8),(114:UInt8),(97:UInt8),(105:UInt8),(110:UInt8)],[(102:UInt8),(105:UInt8),(120:UInt8),(101:UInt8),(100:UInt8)],[(117:UInt8),(115:UInt8),(101:UInt8),(114:UInt8),(49:UInt8)],[(117:UInt8),(115:UInt8),(101:UInt8),(114:UInt8),(50:UInt8)],[(99:UInt8),(97:UInt8),(108:UInt8),(108:UInt8),(49:UInt8)],[(99:UInt8),(97:UInt8),(108:UInt8),(108:UInt8),(50:UInt8)],[(103:UInt8),(117:UInt8),(97:UInt8),(114:UInt8),(100:UInt8)],[(114:UInt8),(101:UInt8),(116:UInt8),(117:UInt8),(114:UInt8),(110:UInt8)],[(107:UInt8),(101:UInt8),(101:UInt8),(112:UInt8)],[(107:UInt8),(101:UInt8),(114:UInt8),(110:UInt8),(101:UInt8),(108:UInt8)]] (Int.toNat op) [] = nameT op∧True∧True)) (by kernel_rfl) ?_
  delta Z0
  simp only [side_iff,Nat.mul_one,true_and,and_true]
  first | exact ⟨h,(),rfl⟩ | exact ⟨h.1,h.2,(),rfl⟩ | exact ⟨h,rfl⟩
end Go.Proofs.YtflbmbkhjcbhoaaGreatDoor
namespace Go.Proofs.YtflbmbkhjcbhoaaGreatDoor
open Go Go.Ab
set_option maxRecDepth 100000
def conDi:Con := fun k ds _S => match k with
  | 77 => match ds with
    | [.int .i64 n] => some (pC [.int .i64 n] (.str (showI n)) (inI64 n))
    | _ => none
  | _ => none
theorem conDi_ok:ConOk Tryz.prog conDi := by
  intro k ds S A h
  unfold conDi at h
  split at h
  · split at h
    · injection h with h; subst h
      exact pC_ok fun h1 => ⟨weakL_refl _,digits_ok _ h1⟩
    · cases h
  · cases h
noncomputable def Enu:Senv := EC conDi 6 1 [2] (fun _ => ([],[]))
noncomputable section
def rs1q0 (p0:Int):List UInt8 := showI p0
end
theorem rnumT_ok (n:Int) (h:inI64 n):ACalls Tryz.prog 37 [.int .i64 n] ⟨[],[]⟩ (SpecR (sC [.int .i64 n] (.str (32 :: showI n))) ()) := by
  refine con_of (A := sC _ _) (x := ()) (E := Enu) (eOk conDi_ok rfl) Tryz.func37 rfl (by kernel_rfl) rfl (by simp [sC,Enu,EC,E0]) ?_
  refine vc_eq (T :=
    inI64 n∧∀ (y:Unit),True→side (N1 + LN (rs1q0 n) ≤ (9223372036854775807:Nat)) (True∧∃ (y:Unit),True∧(32:UInt8) :: List.append [] (rs1q0 n) = (32:UInt8) :: rs1q0 n∧True∧True)) (by kernel_rfl) ?_
  delta LN N1 rs1q0
  simp only [side_iff,true_and,and_true,exists_const,forall_const]
  have := showI_le h
  exact ⟨h,by omega,rfl⟩
def conRl2:Con := fun k ds _S => match k with
  | 37 => match ds with
    | [.int .i64 n] => some (pC [.int .i64 n] (.str (32 :: showI n)) (inI64 n))
    | _ => none
  | 79 => match ds with
    | [.int .i64 n] => some (pC [.int .i64 n] (.str (nameT n)) (0 ≤ n∧n < 28))
    | _ => none
  | _ => none
theorem conRl2_ok:ConOk Tryz.prog conRl2 := by
  intro k ds S A h
  unfold conRl2 at h
  split at h
  · split at h
    · injection h with h; subst h
      exact pC_ok fun h1 => ⟨weakL_refl _,rnumT_ok _ h1⟩
    · cases h
  · split at h
    · injection h with h; subst h
      exact pC_ok fun h1 => ⟨weakL_refl _,rnm_ok _ h1⟩
    · cases h
  · cases h
noncomputable def Erl2:Senv := EC conRl2 53 2 [3,4,5,15,16,28] (fun id => match id with | 1 => ([0,4,5,1,2,3,6,7,8],[1,6]) | 5 => ([0,1,2,5,6,3,4,7,8,9],[3,7]) | _ => ([],[]))
noncomputable section
def rs1q1 (p0:I4):Int := I4.a p0
def rs1q2 (p0:Int):List UInt8 := List.append (showI p0) [(32:UInt8)]
def rs1q3 (p0:I4):List UInt8 := nameT (rs1q1 p0)
def rs1q4 (p0:I4):Prop := inI64 (I4.b p0)
def rs1q5 (p0:I4):Int := I4.c p0
def rs1q6 (p0:Int) (p1:I4):List UInt8 := List.append (rs1q2 p0) (rs1q3 p1)
def rs1q7 (p0:Int) (p1:I4):Nat := LN ((32:UInt8) :: (32:UInt8) :: rs1q6 p0 p1)
def rs1q8 (p0:I4):List UInt8 := (32:UInt8) :: showI (I4.b p0)
def rs1q9 (p0:Int) (p1:I4):Nat := rs1q7 p0 p1 + LN (rs1q8 p1)
def rs1q10 (p0:Int) (p1:I4):List UInt8 := List.append (rs1q6 p0 p1) (rs1q8 p1)
def rs1q11 (p0:Int) (p1:I4):Nat := LN ((32:UInt8) :: (32:UInt8) :: rs1q10 p0 p1)
def rs1q12 (p0:I4):List UInt8 := (32:UInt8) :: showI (rs1q5 p0)
def rs1q13 (p0:Int) (p1:I4):List UInt8 := List.append (rs1q10 p0 p1) (rs1q12 p1)
def rs1q14 (p0:I4):Prop := inI64 (I4.d p0)
def rs1q15 (p0:Int) (p1:I4):List UInt8 := List.append (rs1q13 p0 p1) [(32:UInt8),(97:UInt8),(116:UInt8)]
def rs1q16 (p0:I4):List UInt8 := (32:UInt8) :: showI (I4.d p0)
def rs1q17 (p0:I4):Nat := LN (rs1q16 p0)
def rs1q18 (p0:Int) (p1:I4):List UInt8 := List.append (rs1q15 p0 p1) (rs1q16 p1)
def rs1q19 (p0:Nat) (p1:I4) (p2:Int):Prop := SM p0∧SM p0∧rs1q4 p1∧∀ (_y:Unit),True→(SM p0∧SM (ZI (rs1q5 p1)))∧side (rs1q9 p2 p1 ≤ (9223372036854775807:Nat)) (inI64 (rs1q5 p1)∧∀ (_y:Unit),True→side (rs1q11 p2 p1 + LN (rs1q12 p1) ≤ (9223372036854775807:Nat)) (side (LN ((32:UInt8) :: (32:UInt8) :: rs1q13 p2 p1) + (3:Nat) ≤ (9223372036854775807:Nat)) (SM p0∧rs1q14 p1∧∀ (_y:Unit),True→side (LN ((32:UInt8) :: (32:UInt8) :: rs1q15 p2 p1) + rs1q17 p1 ≤ (9223372036854775807:Nat)) (side (LN ((32:UInt8) :: (32:UInt8) :: rs1q18 p2 p1) + N1 ≤ (9223372036854775807:Nat)) (True∧∃ (_y:Unit),True∧(32:UInt8) :: (32:UInt8) :: List.append (rs1q18 p2 p1) [(10:UInt8)] = lineT p2 p1∧True∧True)))))
def rs1q20 (p0:Int) (p1:I4):List UInt8 := List.append (rs1q10 p0 p1) [(32:UInt8),(97:UInt8),(116:UInt8)]
def rs1q21 (p0:Int) (p1:I4):List UInt8 := List.append (rs1q20 p0 p1) (rs1q16 p1)
def rs1q22 (p0:Nat) (p1:I4) (p2:Int):Prop := SM p0∧rs1q4 p1∧∀ (_y:Unit),True→side (rs1q9 p2 p1 ≤ (9223372036854775807:Nat)) (side (rs1q11 p2 p1 + (3:Nat) ≤ (9223372036854775807:Nat)) (SM p0∧rs1q14 p1∧∀ (_y:Unit),True→side (LN ((32:UInt8) :: (32:UInt8) :: rs1q20 p2 p1) + rs1q17 p1 ≤ (9223372036854775807:Nat)) (side (LN ((32:UInt8) :: (32:UInt8) :: rs1q21 p2 p1) + N1 ≤ (9223372036854775807:Nat)) (True∧∃ (_y:Unit),True∧(32:UInt8) :: (32:UInt8) :: List.append (rs1q21 p2 p1) [(10:UInt8)] = lineT p2 p1∧True∧True))))
def rs1q23 (p0:Int) (p1:I4):List UInt8 := List.append (rs1q6 p0 p1) [(32:UInt8),(97:UInt8),(116:UInt8)]
def rs1q24 (p0:Int) (p1:I4):List UInt8 := List.append (rs1q23 p0 p1) (rs1q16 p1)
def rs1q25 (p0:Int) (p1:I4) (p2:Nat):Prop := side (rs1q7 p0 p1 + (3:Nat) ≤ (9223372036854775807:Nat)) (SM p2∧rs1q14 p1∧∀ (_y:Unit),True→side (LN ((32:UInt8) :: (32:UInt8) :: rs1q23 p0 p1) + rs1q17 p1 ≤ (9223372036854775807:Nat)) (side (LN ((32:UInt8) :: (32:UInt8) :: rs1q24 p0 p1) + N1 ≤ (9223372036854775807:Nat)) (True∧∃ (_y:Unit),True∧(32:UInt8) :: (32:UInt8) :: List.append (rs1q24 p0 p1) [(10:UInt8)] = lineT p0 p1∧True∧True)))
def rs1q26 (p0:I4) (p1:Nat) (p2:Int):Prop := ifB (rs1q1 p0 == Z1) (ifB (rs1q1 p0 == Z1) (rs1q22 p1 p0 p2) (rs1q25 p2 p0 p1)) (ifB (rs1q1 p0 == (6:Int)) (ifB (rs1q1 p0 == (6:Int)) (rs1q22 p1 p0 p2) (rs1q25 p2 p0 p1)) (ifB (rs1q1 p0 == (7:Int)) (ifB (rs1q1 p0 == (7:Int)) (rs1q22 p1 p0 p2) (rs1q25 p2 p0 p1)) (ifB (rs1q1 p0 == (8:Int)) (ifB (rs1q1 p0 == (8:Int)) (rs1q22 p1 p0 p2) (rs1q25 p2 p0 p1)) (ifB (rs1q1 p0 == (9:Int)) (ifB (rs1q1 p0 == (9:Int)) (rs1q22 p1 p0 p2) (rs1q25 p2 p0 p1)) (ifB (rs1q1 p0 == (10:Int)) (ifB (rs1q1 p0 == (10:Int)) (rs1q22 p1 p0 p2) (rs1q25 p2 p0 p1)) (ifB (rs1q1 p0 == (11:Int)) (ifB (rs1q1 p0 == (11:Int)) (rs1q22 p1 p0 p2) (rs1q25 p2 p0 p1)) (ifB (rs1q1 p0 == (16:Int)) (ifB (rs1q1 p0 == (16:Int)) (rs1q22 p1 p0 p2) (rs1q25 p2 p0 p1)) (ifB (rs1q1 p0 == (17:Int)) (ifB (rs1q1 p0 == (17:Int)) (rs1q22 p1 p0 p2) (rs1q25 p2 p0 p1)) (ifB (rs1q1 p0 == (18:Int)) (ifB (rs1q1 p0 == (18:Int)) (rs1q22 p1 p0 p2) (rs1q25 p2 p0 p1)) (ifB (rs1q1 p0 == (24:Int)) (ifB (rs1q1 p0 == (24:Int)) (rs1q22 p1 p0 p2) (rs1q25 p2 p0 p1)) (ifB (rs1q1 p0 == (27:Int)) (rs1q22 p1 p0 p2) (rs1q25 p2 p0 p1))))))))))))
end
theorem rlineT_ok (i:Int) (x:I4) (hi:inI64 i) (hx:x.ok) (ha:0 ≤ x.a∧x.a < 28):ACalls Tryz.prog 39 [.int .i64 i,.agg x.row] ⟨[],[]⟩ (SpecR (sC [.int .i64 i,.agg x.row] (.str (lineT i x))) ()) := by
  refine con_of (A := sC _ _) (x := ()) (E := Erl2) (eOk conRl2_ok rfl) Tryz.func39 rfl (by kernel_rfl) rfl (by simp [sC,Erl2,EC,E0]) ?_
  refine vc_eq (T :=
    ∀ (x_1:Nat),True→SM x_1∧inI64 i∧∀ (y:Unit),True→(SM x_1∧SM (ZI (rs1q1 x)))∧side (N1 + LN ((32:UInt8) :: showI i) ≤ (9223372036854775807:Nat)) (side (LN ((32:UInt8) :: (32:UInt8) :: showI i) + N1 ≤ (9223372036854775807:Nat)) ((Z0 ≤ rs1q1 x∧rs1q1 x < (28:Int))∧∀ (y:Unit),True→side (LN ((32:UInt8) :: (32:UInt8) :: rs1q2 i) + LN (rs1q3 x) ≤ (9223372036854775807:Nat)) (SM x_1∧ifB (rs1q1 x == (5:Int)) (ifB (rs1q1 x == (5:Int)) (rs1q19 x_1 x i) (rs1q26 x x_1 i)) (ifB (rs1q1 x == (12:Int)) (rs1q19 x_1 x i) (rs1q26 x x_1 i)))))) (by kernel_rfl) ?_
  delta LN N1 SM Z0 Z1 ZI rs1q1 rs1q10 rs1q11 rs1q12 rs1q13 rs1q14 rs1q15 rs1q16 rs1q17 rs1q18 rs1q19 rs1q2 rs1q20 rs1q21 rs1q22 rs1q23 rs1q24 rs1q25 rs1q26 rs1q3 rs1q4 rs1q5 rs1q6 rs1q7 rs1q8 rs1q9
  simp only [ifB_iff,side_iff,true_and,and_true,exists_const,forall_const,List.append_eq,List.nil_append,List.cons_append,List.append_assoc,List.length_append,List.length_cons,List.length_nil,beq_iff_eq,beq_eq_false_iff_ne,ne_eq]
  obtain ⟨x0,x1,x2,x3⟩ := hx
  have l0 := showI_le hi
  have l1 := showI_le x1
  have l2 := showI_le x2
  have l3 := showI_le x3
  have ln := nameT_len x.a
  repeat' (first | assumption | refine And.intro ?_ ?_ | omega | intro _)
  all_goals first
    | (exfalso; omega)
    | (rw [line_two (by omega)]; simp only [wordsL,List.foldl_cons,List.foldl_nil,List.append_assoc,List.cons_append,List.nil_append])
    | (rw [line_one (by omega)]; simp only [wordsL,List.foldl_cons,List.foldl_nil,List.append_assoc,List.cons_append,List.nil_append])
    | (rw [line_no (by omega) (by omega)]; simp only [wordsL,List.foldl_cons,List.foldl_nil,List.append_assoc,List.cons_append,List.nil_append])
end Go.Proofs.YtflbmbkhjcbhoaaGreatDoor
namespace Go.Proofs.YtflbmbkhjcbhoaaGreatDoor
open Go Go.Ab
set_option maxRecDepth 100000
def kP (i:Nat) (k:KeD) (j:Nat):List UInt8 := kerH i k ++ kIn k j
noncomputable def Erk (k:KeD) (i:Nat):Senv := { EC conRl2 66 2 [3,4,5,6,7,31] (fun id => match id with | 1 => ([0,4,5,9,10,14,15,1,2,3,6,7,8,11,12,13,16,17,18,19],[1,6,11,16]) | 6 => ([0,1,2,3,4,5,8,9,12,13,16,17,21,22,6,7,10,11,14,15,18,19,20,23,24,25,26],[6,10,14,18,23]) | _ => ([],[])) with
  ann := fun q _ S => match q with
    | 0 => some { slots := [5,6],keep := [0,1,3],α := Nat × List UInt8,st := fun y => ([.str y.2,.int .i64 y.1],S),inv := fun y => y.1 ≤ k.ops.length∧y.2 = kP i k y.1,mu := fun y => k.ops.length - y.1 }
    | _ => none }
noncomputable section
def rs2q0 (p0:KeD):Int := KeD.at_ p0
def rs2q1 (p0:KeD):D := ZI (rs2q0 p0)
def rs2q2 (p0:Nat) (p1:KeD):Prop := SM p0∧SM (rs2q1 p1)
def rs2q3 (p0:KeD):Int := KeD.reduce p0
def rs2q4 (p0:KeD):D := ZI (rs2q3 p0)
def rs2q5 (p0:Nat) (p1:KeD):Prop := SM p0∧SM (rs2q4 p1)
def rs2q6 (p0:KeD):Int := KeD.inputs p0
def rs2q7 (p0:KeD):D := ZI (rs2q6 p0)
def rs2q8 (p0:Nat):List UInt8 := List.append (showI (↑p0:Int)) [(32:UInt8),(105:UInt8),(110:UInt8),(112:UInt8),(117:UInt8),(116:UInt8),(115:UInt8)]
def rs2q9 (p0:KeD):List UInt8 := (32:UInt8) :: showI (rs2q6 p0)
def rs2q10 (p0:Nat) (p1:KeD):List UInt8 := List.append (rs2q8 p0) (rs2q9 p1)
def rs2q11 (p0:Nat) (p1:KeD):List UInt8 := List.append (rs2q10 p0 p1) [(32:UInt8),(114:UInt8),(101:UInt8),(100:UInt8),(117:UInt8),(99:UInt8),(101:UInt8)]
def rs2q12 (p0:KeD):List UInt8 := (32:UInt8) :: showI (rs2q3 p0)
def rs2q13 (p0:Nat) (p1:KeD):List UInt8 := List.append (rs2q11 p0 p1) (rs2q12 p1)
def rs2q14 (p0:Nat) (p1:KeD):List UInt8 := List.append (rs2q13 p0 p1) [(32:UInt8),(97:UInt8),(116:UInt8)]
def rs2q15 (p0:KeD):List UInt8 := (32:UInt8) :: showI (rs2q0 p0)
def rs2q16 (p0:Nat) (p1:KeD):List UInt8 := List.append (rs2q14 p0 p1) (rs2q15 p1)
def rs2q17 (p0:KeD):List I4 := KeD.ops p0
def rs2q18 (p0:KeD):Nat := LN (rs2q17 p0)
def rs2q19 (p0:Nat) (p1:KeD) (p2:List UInt8) (p3:Nat):Prop := p0 ≤ rs2q18 p1∧p2 = kP p3 p1 p0
def rs2q20:I4 := D4
def rs2q21 (p0:KeD) (p1:Nat):I4 := List.getD (rs2q17 p0) p1 rs2q20
def rs2q22 (p0:KeD) (p1:Nat):List D := (R4 (rs2q21 p0 p1))
def rs2q23 (p0:Nat) (p1:KeD):Prop := (SM p0∧(SM (rs2q6 p1)∧(SM (rs2q18 p1)∧(∀ (i:Nat),i < rs2q18 p1→SM (rs2q22 p1 i))∧True)∧SM (rs2q3 p1)∧SM (rs2q0 p1)∧True)∧True)∧True
def rs2q24 (p0:KeD) (p1:Nat):Int := IntKind.wrap IntKind.i64 (rs2q6 p0 + (↑p1:Int))
def rs2q25 (p0:KeD) (p1:Nat):I4 := List.getD (rs2q17 p0) (Int.toNat (↑p1:Int)) rs2q20
def rs2q26 (p0:KeD) (p1:Nat):Int := I4.d (rs2q25 p0 p1)
def rs2q27 (p0:KeD) (p1:Nat):D := ZI (rs2q26 p0 p1)
def rs2q28 (p0:Nat) (p1:KeD) (p2:Nat):Prop := SM p0∧SM (rs2q27 p1 p2)
def rs2q29 (p0:KeD) (p1:Nat):Int := I4.c (rs2q25 p0 p1)
def rs2q30 (p0:KeD) (p1:Nat):D := ZI (rs2q29 p0 p1)
def rs2q31 (p0:Nat) (p1:KeD) (p2:Nat):Prop := SM p0∧SM (rs2q30 p1 p2)
def rs2q32 (p0:KeD) (p1:Nat):Int := I4.b (rs2q25 p0 p1)
def rs2q33 (p0:KeD) (p1:Nat):D := ZI (rs2q32 p0 p1)
def rs2q34 (p0:Nat) (p1:KeD) (p2:Nat):Prop := SM p0∧SM (rs2q33 p1 p2)
def rs2q35 (p0:KeD) (p1:Nat):Int := I4.a (rs2q25 p0 p1)
def rs2q36 (p0:KeD) (p1:Nat):D := ZI (rs2q35 p0 p1)
def rs2q37 (p0:KeD) (p1:Nat):List UInt8 := (32:UInt8) :: showI (rs2q24 p0 p1)
def rs2q38 (p0:List UInt8) (p1:KeD) (p2:Nat):List UInt8 := p0 ++ [(32:UInt8)] ++ rs2q37 p1 p2
def rs2q39 (p0:KeD) (p1:Nat):List UInt8 := (32:UInt8) :: showI (rs2q35 p0 p1)
def rs2q40 (p0:List UInt8) (p1:KeD) (p2:Nat):List UInt8 := rs2q38 p0 p1 p2 ++ rs2q39 p1 p2
def rs2q41 (p0:KeD) (p1:Nat):List UInt8 := (32:UInt8) :: showI (rs2q32 p0 p1)
def rs2q42 (p0:List UInt8) (p1:KeD) (p2:Nat):List UInt8 := rs2q40 p0 p1 p2 ++ rs2q41 p1 p2
def rs2q43 (p0:KeD) (p1:Nat):List UInt8 := (32:UInt8) :: showI (rs2q29 p0 p1)
def rs2q44 (p0:List UInt8) (p1:KeD) (p2:Nat):List UInt8 := rs2q42 p0 p1 p2 ++ rs2q43 p1 p2
def rs2q45 (p0:List UInt8) (p1:KeD) (p2:Nat):List UInt8 := rs2q44 p0 p1 p2 ++ [(32:UInt8),(97:UInt8),(116:UInt8)]
def rs2q46 (p0:KeD) (p1:Nat):List UInt8 := (32:UInt8) :: showI (rs2q26 p0 p1)
def rs2q47 (p0:List UInt8) (p1:KeD) (p2:Nat):List UInt8 := rs2q45 p0 p1 p2 ++ rs2q46 p1 p2
def rs2q48 (p0:KeD):D := D.agg [rs2q7 p0,D.sl N4 (rs2q18 p0) (fun (i:Nat) => rs2q22 p0 i) Mode.any,rs2q4 p0,rs2q1 p0]
end
theorem rker_ok2 (i:Nat) (k:KeD) (hi:i < 2000) (hk:k.ok) (hl:k.ops.length < 2000):ACalls Tryz.prog 40 [.int .i64 i,.agg k.row] ⟨[],[]⟩ (SpecR (sC [.int .i64 i,.agg k.row] (.str (kerT i k))) ()) := by
  refine con_of (A := sC _ _) (x := ()) (E := Erk k i) (eOk conRl2_ok rfl) Tryz.func40 rfl (by kernel_rfl) rfl (by simp [sC,Erk,EC,E0]) ?_
  refine vc_eq (T :=
    ∀ (x:Nat),True→SM x∧SM x∧SM x∧inI64 (↑i:Int)∧∀ (y:Unit),True→rs2q2 x k∧rs2q5 x k∧(SM x∧SM (rs2q7 k))∧side (N6 + LN ((32:UInt8) :: showI (↑i:Int)) ≤ (9223372036854775807:Nat)) (side (LN ((107:UInt8) :: (101:UInt8) :: (114:UInt8) :: (110:UInt8) :: (101:UInt8) :: (108:UInt8) :: (32:UInt8) :: showI (↑i:Int)) + (7:Nat) ≤ (9223372036854775807:Nat)) (inI64 (rs2q6 k)∧∀ (y:Unit),True→rs2q2 x k∧rs2q5 x k∧side (LN ((107:UInt8) :: (101:UInt8) :: (114:UInt8) :: (110:UInt8) :: (101:UInt8) :: (108:UInt8) :: (32:UInt8) :: rs2q8 i) + LN (rs2q9 k) ≤ (9223372036854775807:Nat)) (side (LN ((107:UInt8) :: (101:UInt8) :: (114:UInt8) :: (110:UInt8) :: (101:UInt8) :: (108:UInt8) :: (32:UInt8) :: rs2q10 i k) + (7:Nat) ≤ (9223372036854775807:Nat)) (inI64 (rs2q3 k)∧∀ (y:Unit),True→rs2q2 x k∧side (LN ((107:UInt8) :: (101:UInt8) :: (114:UInt8) :: (110:UInt8) :: (101:UInt8) :: (108:UInt8) :: (32:UInt8) :: rs2q11 i k) + LN (rs2q12 k) ≤ (9223372036854775807:Nat)) (side (LN ((107:UInt8) :: (101:UInt8) :: (114:UInt8) :: (110:UInt8) :: (101:UInt8) :: (108:UInt8) :: (32:UInt8) :: rs2q13 i k) + (3:Nat) ≤ (9223372036854775807:Nat)) (inI64 (rs2q0 k)∧∀ (y:Unit),True→side (LN ((107:UInt8) :: (101:UInt8) :: (114:UInt8) :: (110:UInt8) :: (101:UInt8) :: (108:UInt8) :: (32:UInt8) :: rs2q14 i k) + LN (rs2q15 k) ≤ (9223372036854775807:Nat)) (side (LN ((107:UInt8) :: (101:UInt8) :: (114:UInt8) :: (110:UInt8) :: (101:UInt8) :: (108:UInt8) :: (32:UInt8) :: rs2q16 i k) + N1 ≤ (9223372036854775807:Nat)) ((∃ (x_1:Nat × List UInt8),rs2q19 x_1.1 k x_1.2 i∧((107:UInt8) :: (101:UInt8) :: (114:UInt8) :: (110:UInt8) :: (101:UInt8) :: (108:UInt8) :: (32:UInt8) :: List.append (rs2q16 i k) [(10:UInt8)] = x_1.2∧Z0 = (NI x_1.1)∧True)∧rs2q23 x k)∧∀ (x_1:Nat × List UInt8),rs2q19 x_1.1 k x_1.2 i→SM x∧ifB (decide ((NI x_1.1) < (NI (rs2q18 k)))) (SM x∧side (Z0 ≤ (NI x_1.1)∧(NI x_1.1) < (NI (rs2q18 k))) (∀ (x_2:Nat),x ≠ x_2∧True→SM x_2∧side (LN x_1.2 + N1 ≤ (9223372036854775807:Nat)) (SM x∧SM x_2∧SM x_2∧SM x_2∧SM x_2∧inI64 (rs2q24 k x_1.1)∧∀ (y:Unit),True→rs2q28 x_2 k x_1.1∧rs2q31 x_2 k x_1.1∧rs2q34 x_2 k x_1.1∧(SM x_2∧SM (rs2q36 k x_1.1))∧side (LN (x_1.2 ++ [(32:UInt8)]) + LN (rs2q37 k x_1.1) ≤ (9223372036854775807:Nat)) (inI64 (rs2q35 k x_1.1)∧∀ (y:Unit),True→rs2q28 x_2 k x_1.1∧rs2q31 x_2 k x_1.1∧rs2q34 x_2 k x_1.1∧side (LN (rs2q38 x_1.2 k x_1.1) + LN (rs2q39 k x_1.1) ≤ (9223372036854775807:Nat)) (inI64 (rs2q32 k x_1.1)∧∀ (y:Unit),True→rs2q28 x_2 k x_1.1∧rs2q31 x_2 k x_1.1∧side (LN (rs2q40 x_1.2 k x_1.1) + LN (rs2q41 k x_1.1) ≤ (9223372036854775807:Nat)) (inI64 (rs2q29 k x_1.1)∧∀ (y:Unit),True→rs2q28 x_2 k x_1.1∧side (LN (rs2q42 x_1.2 k x_1.1) + LN (rs2q43 k x_1.1) ≤ (9223372036854775807:Nat)) (side (LN (rs2q44 x_1.2 k x_1.1) + (3:Nat) ≤ (9223372036854775807:Nat)) (inI64 (rs2q26 k x_1.1)∧∀ (y:Unit),True→side (LN (rs2q45 x_1.2 k x_1.1) + LN (rs2q46 k x_1.1) ≤ (9223372036854775807:Nat)) (side (LN (rs2q47 x_1.2 k x_1.1) + N1 ≤ (9223372036854775807:Nat)) ((SM (ZI (↑i:Int))∧SM (rs2q48 k)∧SM (D.ref N0 x N0)∧True)∧∃ (y:Nat × List UInt8),rs2q19 y.1 k y.2 i∧rs2q18 k - y.1 < rs2q18 k - x_1.1∧(rs2q47 x_1.2 k x_1.1 ++ [(10:UInt8)] = y.2∧IntKind.wrap IntKind.i64 ((NI x_1.1) + Z1) = (NI y.1)∧True)∧rs2q23 x k)))))))))) (True∧∃ (y:Unit),True∧x_1.2 = kerT i k∧True∧True)))))))))) (by kernel_rfl) ?_
  delta D4 LN N0 N1 N4 N6 NI R4 SM Z0 Z1 ZI rs2q0 rs2q1 rs2q10 rs2q11 rs2q12 rs2q13 rs2q14 rs2q15 rs2q16 rs2q17 rs2q18 rs2q19 rs2q2 rs2q20 rs2q21 rs2q22 rs2q23 rs2q24 rs2q25 rs2q26 rs2q27 rs2q28 rs2q29 rs2q3 rs2q30 rs2q31 rs2q32 rs2q33 rs2q34 rs2q35 rs2q36 rs2q37 rs2q38 rs2q39 rs2q4 rs2q40 rs2q41 rs2q42 rs2q43 rs2q44 rs2q45 rs2q46 rs2q47 rs2q48 rs2q5 rs2q6 rs2q7 rs2q8 rs2q9
  simp only [ifB_iff,side_iff,decide_eq_true_eq,decide_eq_false_iff_not,true_and,and_true,exists_const,forall_const,implies_true,Int.toNat_natCast,ne_eq,Prod.exists,Prod.forall,List.append_eq,List.nil_append,List.cons_append,List.append_assoc,List.length_append,List.length_cons,List.length_nil]
  have hk0 := hk
  obtain ⟨k1,k2,_,k4,k5⟩ := hk
  have ni := nat_i64 hi
  have l0 := showI_le ni
  have l1 := showI_le k1
  have l2 := showI_le k4
  have l3 := showI_le k5
  intro x
  repeat' (first | assumption | omega | refine And.intro ?_ ?_)
  · exact ⟨0,_,⟨Nat.zero_le _,rfl⟩,by simp only [kP,kerH,wordsL,kIn,flatN,List.foldl_cons,List.foldl_nil,List.append_assoc,List.cons_append,List.nil_append,List.append_nil],rfl⟩
  rintro a b ⟨h1,h2⟩
  have hb:b.length ≤ 700000 := by
    have q1 := kIn_le (x := k) (j := a) h1 hk0
    have q2 := kerH_le (i := i) hi hk0
    rw [h2,kP,List.length_append]; omega
  refine ⟨fun hlt' => ?_,fun hge => ?_⟩
  · have hlt:a < k.ops.length := by omega
    have hx := k2 _ (getD_mem' (d := default) hlt)
    obtain ⟨x0,x1,x2,x3⟩ := hx
    have w := wrap_in (k.inputs + a)
    have m0 := showI_le w
    have m1 := showI_le x0
    have m2 := showI_le x1
    have m3 := showI_le x2
    have m4 := showI_le x3
    simp only [show (default:I4) = ⟨0,0,0,0⟩ from rfl] at m0 m1 m2 m3 m4 x0 x1 x2 x3
    refine ⟨⟨by omega,hlt'⟩,fun _ _ => ?_⟩
    repeat' (first | assumption | omega | refine And.intro ?_ ?_)
    exact ⟨a + 1,_,⟨by omega,rfl⟩,by omega,by
      rw [h2]
      simp only [kP,kIn,flatN,kopT,wordsL,show (default:I4) = ⟨0,0,0,0⟩ from rfl,List.foldl_cons,List.foldl_nil,List.append_assoc,List.cons_append,List.nil_append],wrap_i64' (by omega) (by omega)⟩
  · have e:a = k.ops.length := by omega
    rw [h2,e]; rfl
end Go.Proofs.YtflbmbkhjcbhoaaGreatDoor
namespace Go.Proofs.YtflbmbkhjcbhoaaGreatDoor
open Go Go.Ab
set_option maxRecDepth 100000
def lP (i:Nat) (k:LaD) (j:Nat):List UInt8 := lanH i k ++ lIn k j
noncomputable def Erp (k:LaD) (i:Nat):Senv := { EC conRl2 57 2 [3,4,5,6,7,21] (fun id => match id with | 1 => ([0,4,5,1,2,3,6,7,8,9],[1,6]) | 6 => ([0,1,2,3,6,7,10,11,14,15,18,19,22,23,4,5,8,9,12,13,16,17,20,21,24,25,26,27],[4,8,12,16,20,24]) | _ => ([],[])) with
  ann := fun q _ S => match q with
    | 0 => some { slots := [5,6],keep := [0,1,3],α := Nat × List UInt8,st := fun y => ([.str y.2,.int .i64 y.1],S),inv := fun y => y.1 ≤ k.code.length∧y.2 = lP i k y.1,mu := fun y => k.code.length - y.1 }
    | _ => none }
noncomputable section
def rs3q0 (p0:LaD):Int := LaD.regs p0
def rs3q1 (p0:LaD):D := ZI (rs3q0 p0)
def rs3q2 (p0:Nat):List UInt8 := List.append (showI (↑p0:Int)) [(32:UInt8),(114:UInt8),(101:UInt8),(103:UInt8),(115:UInt8)]
def rs3q3 (p0:LaD):List UInt8 := (32:UInt8) :: showI (rs3q0 p0)
def rs3q4 (p0:Nat) (p1:LaD):List UInt8 := List.append (rs3q2 p0) (rs3q3 p1)
def rs3q5 (p0:LaD):List I6 := LaD.code p0
def rs3q6 (p0:LaD):Nat := LN (rs3q5 p0)
def rs3q7 (p0:Nat) (p1:LaD) (p2:List UInt8) (p3:Nat):Prop := p0 ≤ rs3q6 p1∧p2 = lP p3 p1 p0
def rs3q8:I6 := D6
def rs3q9 (p0:LaD) (p1:Nat):I6 := List.getD (rs3q5 p0) p1 rs3q8
def rs3q10 (p0:LaD) (p1:Nat):List D := (R6 (rs3q9 p0 p1))
def rs3q11 (p0:Nat) (p1:LaD):Prop := (SM p0∧(SM (rs3q0 p1)∧(SM (rs3q6 p1)∧(∀ (i:Nat),i < rs3q6 p1→SM (rs3q10 p1 i))∧True)∧True)∧True)∧True
def rs3q12 (p0:LaD) (p1:Nat):I6 := List.getD (rs3q5 p0) (Int.toNat (↑p1:Int)) rs3q8
def rs3q13 (p0:LaD) (p1:Nat):Int := I6.a (rs3q12 p0 p1)
def rs3q14 (p0:LaD) (p1:Nat):Int := I6.f (rs3q12 p0 p1)
def rs3q15 (p0:LaD) (p1:Nat):D := ZI (rs3q14 p0 p1)
def rs3q16 (p0:Nat) (p1:LaD) (p2:Nat):Prop := SM p0∧SM (rs3q15 p1 p2)
def rs3q17 (p0:LaD) (p1:Nat):Int := I6.e (rs3q12 p0 p1)
def rs3q18 (p0:LaD) (p1:Nat):D := ZI (rs3q17 p0 p1)
def rs3q19 (p0:Nat) (p1:LaD) (p2:Nat):Prop := SM p0∧SM (rs3q18 p1 p2)
def rs3q20 (p0:LaD) (p1:Nat):Int := I6.d (rs3q12 p0 p1)
def rs3q21 (p0:LaD) (p1:Nat):D := ZI (rs3q20 p0 p1)
def rs3q22 (p0:Nat) (p1:LaD) (p2:Nat):Prop := SM p0∧SM (rs3q21 p1 p2)
def rs3q23 (p0:LaD) (p1:Nat):Int := I6.c (rs3q12 p0 p1)
def rs3q24 (p0:LaD) (p1:Nat):D := ZI (rs3q23 p0 p1)
def rs3q25 (p0:Nat) (p1:LaD) (p2:Nat):Prop := SM p0∧SM (rs3q24 p1 p2)
def rs3q26 (p0:LaD) (p1:Nat):Int := I6.b (rs3q12 p0 p1)
def rs3q27 (p0:LaD) (p1:Nat):D := ZI (rs3q26 p0 p1)
def rs3q28 (p0:LaD) (p1:Nat):List UInt8 := (32:UInt8) :: showI (rs3q13 p0 p1)
def rs3q29 (p0:List UInt8) (p1:LaD) (p2:Nat):List UInt8 := p0 ++ [(32:UInt8)] ++ rs3q28 p1 p2
def rs3q30 (p0:LaD) (p1:Nat):List UInt8 := (32:UInt8) :: showI (rs3q26 p0 p1)
def rs3q31 (p0:List UInt8) (p1:LaD) (p2:Nat):List UInt8 := rs3q29 p0 p1 p2 ++ rs3q30 p1 p2
def rs3q32 (p0:LaD) (p1:Nat):List UInt8 := (32:UInt8) :: showI (rs3q23 p0 p1)
def rs3q33 (p0:List UInt8) (p1:LaD) (p2:Nat):List UInt8 := rs3q31 p0 p1 p2 ++ rs3q32 p1 p2
def rs3q34 (p0:LaD) (p1:Nat):List UInt8 := (32:UInt8) :: showI (rs3q20 p0 p1)
def rs3q35 (p0:List UInt8) (p1:LaD) (p2:Nat):List UInt8 := rs3q33 p0 p1 p2 ++ rs3q34 p1 p2
def rs3q36 (p0:LaD) (p1:Nat):List UInt8 := (32:UInt8) :: showI (rs3q17 p0 p1)
def rs3q37 (p0:List UInt8) (p1:LaD) (p2:Nat):List UInt8 := rs3q35 p0 p1 p2 ++ rs3q36 p1 p2
def rs3q38 (p0:LaD) (p1:Nat):List UInt8 := (32:UInt8) :: showI (rs3q14 p0 p1)
def rs3q39 (p0:List UInt8) (p1:LaD) (p2:Nat):List UInt8 := rs3q37 p0 p1 p2 ++ rs3q38 p1 p2
def rs3q40 (p0:LaD):D := D.agg [rs3q1 p0,D.sl N6 (rs3q6 p0) (fun (i:Nat) => rs3q10 p0 i) Mode.any]
end
theorem rlan_ok (i:Nat) (k:LaD) (hi:i < 2000) (hk:k.ok) (hl:k.code.length < 2000):ACalls Tryz.prog 41 [.int .i64 i,.agg k.row] ⟨[],[]⟩ (SpecR (sC [.int .i64 i,.agg k.row] (.str (lanT i k))) ()) := by
  refine con_of (A := sC _ _) (x := ()) (E := Erp k i) (eOk conRl2_ok rfl) Tryz.func41 rfl (by kernel_rfl) rfl (by simp [sC,Erp,EC,E0]) ?_
  refine vc_eq (T :=
    ∀ (x:Nat),True→SM x∧inI64 (↑i:Int)∧∀ (y:Unit),True→(SM x∧SM (rs3q1 k))∧side ((5:Nat) + LN ((32:UInt8) :: showI (↑i:Int)) ≤ (9223372036854775807:Nat)) (side (LN ((108:UInt8) :: (97:UInt8) :: (110:UInt8) :: (101:UInt8) :: (115:UInt8) :: (32:UInt8) :: showI (↑i:Int)) + (5:Nat) ≤ (9223372036854775807:Nat)) (inI64 (rs3q0 k)∧∀ (y:Unit),True→side (LN ((108:UInt8) :: (97:UInt8) :: (110:UInt8) :: (101:UInt8) :: (115:UInt8) :: (32:UInt8) :: rs3q2 i) + LN (rs3q3 k) ≤ (9223372036854775807:Nat)) (side (LN ((108:UInt8) :: (97:UInt8) :: (110:UInt8) :: (101:UInt8) :: (115:UInt8) :: (32:UInt8) :: rs3q4 i k) + N1 ≤ (9223372036854775807:Nat)) ((∃ (x_1:Nat × List UInt8),rs3q7 x_1.1 k x_1.2 i∧((108:UInt8) :: (97:UInt8) :: (110:UInt8) :: (101:UInt8) :: (115:UInt8) :: (32:UInt8) :: List.append (rs3q4 i k) [(10:UInt8)] = x_1.2∧Z0 = (NI x_1.1)∧True)∧rs3q11 x k)∧∀ (x_1:Nat × List UInt8),rs3q7 x_1.1 k x_1.2 i→SM x∧ifB (decide ((NI x_1.1) < (NI (rs3q6 k)))) (SM x∧side (Z0 ≤ (NI x_1.1)∧(NI x_1.1) < (NI (rs3q6 k))) (∀ (x_2:Nat),x ≠ x_2∧True→SM x_2∧side (LN x_1.2 + N1 ≤ (9223372036854775807:Nat)) (SM x_2∧SM x_2∧SM x_2∧SM x_2∧SM x_2∧SM x_2∧inI64 (rs3q13 k x_1.1)∧∀ (y:Unit),True→rs3q16 x_2 k x_1.1∧rs3q19 x_2 k x_1.1∧rs3q22 x_2 k x_1.1∧rs3q25 x_2 k x_1.1∧(SM x_2∧SM (rs3q27 k x_1.1))∧side (LN (x_1.2 ++ [(32:UInt8)]) + LN (rs3q28 k x_1.1) ≤ (9223372036854775807:Nat)) (inI64 (rs3q26 k x_1.1)∧∀ (y:Unit),True→rs3q16 x_2 k x_1.1∧rs3q19 x_2 k x_1.1∧rs3q22 x_2 k x_1.1∧rs3q25 x_2 k x_1.1∧side (LN (rs3q29 x_1.2 k x_1.1) + LN (rs3q30 k x_1.1) ≤ (9223372036854775807:Nat)) (inI64 (rs3q23 k x_1.1)∧∀ (y:Unit),True→rs3q16 x_2 k x_1.1∧rs3q19 x_2 k x_1.1∧rs3q22 x_2 k x_1.1∧side (LN (rs3q31 x_1.2 k x_1.1) + LN (rs3q32 k x_1.1) ≤ (9223372036854775807:Nat)) (inI64 (rs3q20 k x_1.1)∧∀ (y:Unit),True→rs3q16 x_2 k x_1.1∧rs3q19 x_2 k x_1.1∧side (LN (rs3q33 x_1.2 k x_1.1) + LN (rs3q34 k x_1.1) ≤ (9223372036854775807:Nat)) (inI64 (rs3q17 k x_1.1)∧∀ (y:Unit),True→rs3q16 x_2 k x_1.1∧side (LN (rs3q35 x_1.2 k x_1.1) + LN (rs3q36 k x_1.1) ≤ (9223372036854775807:Nat)) (inI64 (rs3q14 k x_1.1)∧∀ (y:Unit),True→side (LN (rs3q37 x_1.2 k x_1.1) + LN (rs3q38 k x_1.1) ≤ (9223372036854775807:Nat)) (side (LN (rs3q39 x_1.2 k x_1.1) + N1 ≤ (9223372036854775807:Nat)) ((SM (ZI (↑i:Int))∧SM (rs3q40 k)∧SM (D.ref N0 x N0)∧True)∧∃ (y:Nat × List UInt8),rs3q7 y.1 k y.2 i∧rs3q6 k - y.1 < rs3q6 k - x_1.1∧(rs3q39 x_1.2 k x_1.1 ++ [(10:UInt8)] = y.2∧IntKind.wrap IntKind.i64 ((NI x_1.1) + Z1) = (NI y.1)∧True)∧rs3q11 x k)))))))))) (True∧∃ (y:Unit),True∧x_1.2 = lanT i k∧True∧True)))))) (by kernel_rfl) ?_
  delta D6 LN N0 N1 N6 NI R6 SM Z0 Z1 ZI rs3q0 rs3q1 rs3q10 rs3q11 rs3q12 rs3q13 rs3q14 rs3q15 rs3q16 rs3q17 rs3q18 rs3q19 rs3q2 rs3q20 rs3q21 rs3q22 rs3q23 rs3q24 rs3q25 rs3q26 rs3q27 rs3q28 rs3q29 rs3q3 rs3q30 rs3q31 rs3q32 rs3q33 rs3q34 rs3q35 rs3q36 rs3q37 rs3q38 rs3q39 rs3q4 rs3q40 rs3q5 rs3q6 rs3q7 rs3q8 rs3q9
  simp only [ifB_iff,side_iff,decide_eq_true_eq,decide_eq_false_iff_not,true_and,and_true,exists_const,forall_const,implies_true,Int.toNat_natCast,ne_eq,Prod.exists,Prod.forall,List.append_eq,List.nil_append,List.cons_append,List.append_assoc,List.length_append,List.length_cons,List.length_nil]
  have hk0 := hk
  obtain ⟨k1,k2,_⟩ := hk
  have ni := nat_i64 hi
  have l0 := showI_le ni
  have l1 := showI_le k1
  intro x
  repeat' (first | assumption | omega | refine And.intro ?_ ?_)
  · exact ⟨0,_,⟨Nat.zero_le _,rfl⟩,by simp only [lP,lanH,wordsL,lIn,flatN,List.foldl_cons,List.foldl_nil,List.append_assoc,List.cons_append,List.nil_append,List.append_nil],rfl⟩
  rintro a b ⟨h1,h2⟩
  have hb:b.length ≤ 700000 := by
    have q1 := lIn_le (x := k) (j := a) h1 hk0
    have q2 := lanH_le (i := i) hi hk0
    rw [h2,lP,List.length_append]; omega
  refine ⟨fun hlt' => ?_,fun hge => ?_⟩
  · have hlt:a < k.code.length := by omega
    have hx := k2 _ (getD_mem' (d := default) hlt)
    obtain ⟨x0,x1,x2,x3,x4,x5⟩ := hx
    have m0 := showI_le x0
    have m1 := showI_le x1
    have m2 := showI_le x2
    have m3 := showI_le x3
    have m4 := showI_le x4
    have m5 := showI_le x5
    simp only [show (default:I6) = ⟨0,0,0,0,0,0⟩ from rfl] at m0 m1 m2 m3 m4 m5 x0 x1 x2 x3 x4 x5
    refine ⟨⟨by omega,hlt'⟩,fun _ _ => ?_⟩
    repeat' (first | assumption | omega | refine And.intro ?_ ?_)
    exact ⟨a + 1,_,⟨by omega,rfl⟩,by omega,by
      rw [h2]
      simp only [lP,lIn,flatN,lopT,wordsL,show (default:I6) = ⟨0,0,0,0,0,0⟩ from rfl,List.foldl_cons,List.foldl_nil,List.append_assoc,List.cons_append],wrap_i64' (by omega) (by omega)⟩
  · have e:a = k.code.length := by omega
    rw [h2,e]; rfl
end Go.Proofs.YtflbmbkhjcbhoaaGreatDoor
namespace Go.Proofs.YtflbmbkhjcbhoaaGreatDoor
open Go Go.Ab
set_option maxRecDepth 100000
def conRe (q:Arr→Prop):Con := fun k ds S => match k with
  | 78 => some (sRc Arr.row1 q (fun b => .str (litA b)))
  | 106 => match ds with
    | [.sl 1 n f m] => some (pC [.sl 1 n f m] (.str (dimsB (intsD n f))) (IntsP n f∧n ≤ 1099511627776∧∀ z ∈ intsD n f,inI64 z))
    | _ => none
  | k => conJn k ds S
def RLit (a:Arr):Prop := ACalls Tryz.prog 78 ((sRc Arr.row2 (fun _ => True) (fun b => .str (litA b))).args a) ⟨[],[]⟩ (SpecR (sRc Arr.row2 (fun _ => True) (fun b => .str (litA b))) a)
theorem conRe_ok {q:Arr→Prop} (hq:∀ b,q b→RLit b):ConOk Tryz.prog (conRe q) := by
  intro k ds S A h
  unfold conRe at h
  split at h
  · injection h with h; subst h
    exact ConOk.plain (fun b hb => sRc_row (hq b hb)) rfl rfl
  · split at h
    · injection h with h; subst h
      exact pC_ok fun ⟨h1,h2,h3⟩ => ⟨weakL_refl _,sC_weak (isl_weak h1) (rdims_ok _ (by rw [intsD_len]; exact h2) h3)⟩
    · cases h
  · exact conJn_ok _ _ _ _ h
noncomputable def Ersc (q:Arr→Prop):Senv := EC (conRe q) 27 3 [4,11,18] (fun _ => ([],[]))
noncomputable section
def le1q0 (p0:Arr):Int := Arr.k p0
def le1q1 (p0:Arr):List Int := Arr.nu p0
def le1q2 (p0:Arr):Int := GI (le1q1 p0) N0
def le1q3 (p0:Arr):List Arr := Arr.it p0
def le1q4 (p0:Arr):List UInt8 := scalK (le1q0 p0) (le1q1 p0) (List.map litA (le1q3 p0))
def le1q5 (p0:Arr):List UInt8 := escB (le1q2 p0) (39:Int)
def le1q6 (p0:Arr):List UInt8 := List.append [] (le1q5 p0)
def le1q7:Arr := DA
def le1q8 (p0:Arr):Arr := List.getD (le1q3 p0) N0 le1q7
def le1q9 (p0:Arr):List Int := Arr.sh (le1q8 p0)
def le1q10 (p0:Arr):Nat := LN (le1q9 p0)
def le1q11 (p0:Arr):List Int := Arr.nu (le1q8 p0)
def le1q12 (p0:Arr):Nat := LN (le1q11 p0)
def le1q13 (p0:Arr):List Arr := Arr.it (le1q8 p0)
def le1q14 (p0:Arr):Nat := LN (le1q13 p0)
end
theorem rsc_step (a : Arr) (q : Arr → Prop) (lo : LOk a) (h1 : a.k ≠ 3 → 0 < a.nu.length) (h3 : a.k = 3 → 0 < a.it.length) (hi : ∀ b ∈ a.it, q b) (hc : ConOk Tryz.prog (conRe q)) :
    ACalls Tryz.prog 103 ((sRc Arr.row2 (fun _ => True) (fun a => .str (scalK a.k a.nu (a.it.map litA)))).args a) ⟨[],[]⟩ (SpecR (sRc Arr.row2 (fun _ => True) (fun a => .str (scalK a.k a.nu (a.it.map litA)))) a) := by
  refine con_of (A := sRc Arr.row2 (fun _ => True) (fun a => .str (scalK a.k a.nu (a.it.map litA)))) (x := a) (E := Ersc q) (eOk hc rfl) Tryz.func103 rfl (by kernel_rfl) rfl (by simp [sRc,Ersc,EC,E0]) ?_
  refine vc_eq (T :=
    ∀ (x:Nat),True→SM x∧ifB (le1q0 a == Z1) (SM x∧side (Z0 ≤ Z0∧Z0 < (LI (le1q1 a))) (inI64 (le1q2 a)∧∀ (y:Unit),True→True∧∃ (y:Unit),True∧showI (le1q2 a) = le1q4 a∧True∧True)) (ifB (le1q0 a == (2:Int)) (SM x∧side (Z0 ≤ Z0∧Z0 < (LI (le1q1 a))) ((Z0 ≤ le1q2 a∧le1q2 a ≤ (1114111:Int))∧∀ (y:Unit),True→side (N1 + LN (le1q5 a) ≤ (9223372036854775807:Nat)) (side (LN ((39:UInt8) :: le1q6 a) + N1 ≤ (9223372036854775807:Nat)) (True∧∃ (y:Unit),True∧(39:UInt8) :: List.append (le1q6 a) [(39:UInt8)] = le1q4 a∧True∧True)))) (SM x∧side (Z0 ≤ Z0∧Z0 < (LI (le1q3 a))) (∃ (x:Arr),((Arr.k (le1q8 a) = le1q0 x∧(le1q10 a = LN (Arr.sh x)∧(∀ (i:Nat),i < le1q10 a→[ZI (GI (le1q9 a) i)] = [ZI (GI (Arr.sh x) i)])∧True)∧(le1q12 a = LN (le1q1 x)∧(∀ (i:Nat),i < le1q12 a→[ZI (GI (le1q11 a) i)] = [ZI (GI (le1q1 x) i)])∧True)∧(le1q14 a = LN (le1q3 x)∧(∀ (i:Nat),i < le1q14 a→Arr.row (List.getD (le1q13 a) i le1q7) = Arr.row (List.getD (le1q3 x) i le1q7))∧True)∧True)∧True)∧(True∧True)∧q x∧∀ (y:Unit),True→side (N4 + LN (litA x) ≤ (9223372036854775807:Nat)) (True∧∃ (y:Unit),True∧(98:UInt8) :: (111:UInt8) :: (120:UInt8) :: (32:UInt8) :: List.append [] (litA x) = le1q4 a∧True∧True))))) (by kernel_rfl) ?_
  delta DA GI LI LN N0 N1 N4 SM Z0 Z1 ZI le1q0 le1q1 le1q10 le1q11 le1q12 le1q13 le1q14 le1q2 le1q3 le1q4 le1q5 le1q6 le1q7 le1q8 le1q9
  have da:(default:Arr) = Arr.mk 0 [] [] [] := rfl
  simp only [← da,ifB_iff,side_iff,true_and,and_true,beq_iff_eq,beq_eq_false_iff_ne,ne_eq,exists_const,forall_const]
  have kd := lo.kd
  have hsum := lo.sum
  refine ⟨fun hk => ?_,fun hk1 => ⟨fun hk => ?_,fun hk2 => ?_⟩⟩
  · have := h1 (by omega)
    exact ⟨⟨by omega,by omega⟩,getD_i64 lo.ni,by rw [scalK,if_pos hk]⟩
  · have := h1 (by omega)
    have he := escB_len (a.nu.getD 0 0) 39
    refine ⟨⟨by omega,by omega⟩,lo.chr hk _ (memI (by omega)),by omega,by simp only [List.length_cons,app_nil']; omega,?_⟩
    rw [scalK,if_neg hk1,if_pos hk]
    simp [quoB,escL]
    rfl
  · have := h3 (by omega)
    have hm := mem_getD (l := a.it) (i := 0) (by omega)
    have hl := mem_sum hm
    refine ⟨⟨by omega,by omega⟩,a.it.getD 0 default,⟨rfl,⟨rfl,fun _ _ => rfl⟩,⟨rfl,fun _ _ => rfl⟩,rfl,fun _ _ => rfl⟩,hi _ hm,by omega,?_⟩
    rw [scalK,if_neg hk1,if_neg hk2]
    have:(a.it.map litA).getD 0 [] = litA (a.it.getD 0 default) := by
      simp [List.getD_eq_getElem?_getD,List.getElem?_map,List.getElem?_eq_getElem (show 0 < a.it.length by omega)]
    rw [this]; rfl
noncomputable def Erel (a:Arr) (q:Arr→Prop):Senv := { EC (conRe q) 36 5 [7,16,20] (fun _ => ([],[])) with
  gh := fun b => match b with
    | 0 => [.slot 3]
    | _ => []
  ann := fun b _ S => match b with
    | 0 => some { slots := [4,3],keep := [0,1],α := Nat × Nat × List UInt8,st := fun y => ([.int .i64 y.1,bsl y.2.2 (.tok 0 y.2.1)],⟨S.objs,[(0,y.2.1)]⟩),inv := fun y => JHd [32] (a.it.map fun b => itemB (litA b)) y.1 y.2.2,mu := fun y => a.it.length - y.1 }
    | _ => none }
noncomputable section
def le1q15 (p0:Arr):Int := Arr.k p0
def le1q16 (p0:Arr):List Int := Arr.nu p0
def le1q17 (p0:Arr):Nat := LN (le1q16 p0)
def le1q18 (p0:Arr) (p1:Nat):List D := [ZI (GI (le1q16 p0) p1)]
def le1q19 (p0:Arr):List Int := intsD (le1q17 p0) fun (i:Nat) => le1q18 p0 i
def le1q20 (p0:Arr):List Arr := Arr.it p0
def le1q21 (p0:Arr):List UInt8 := vecK (le1q15 p0) (le1q16 p0) (List.map litA (le1q20 p0))
def le1q22 (p0:Arr):List UInt8 := litA p0
def le1q23 (p0:Arr) (p1:Nat) (p2:List UInt8):Prop := JHd [(32:UInt8)] (List.map (fun (b:Arr) => itemB (le1q22 b)) (le1q20 p0)) p1 p2
def le1q24 (p0:List UInt8) (p1:Nat):List D := [ZB (BI p0 p1)]
def le1q25 (p0:Arr):Nat := LN (Arr.sh p0)
def le1q26 (p0:Arr) (p1:Nat):List D := [ZI (GI (Arr.sh p0) p1)]
def le1q27 (p0:Arr):Nat := LN (le1q20 p0)
def le1q28:Arr := DA
def le1q29 (p0:Arr) (p1:Nat):Arr := List.getD (le1q20 p0) p1 le1q28
def le1q30 (p0:Arr) (p1:Nat):List Int := Arr.sh (le1q29 p0 p1)
def le1q31 (p0:Arr) (p1:Nat):List Int := Arr.nu (le1q29 p0 p1)
def le1q32 (p0:Arr) (p1:Nat):List Arr := Arr.it (le1q29 p0 p1)
def le1q33 (p0:Arr) (p1:Nat):List D := [ZI (Arr.k (le1q29 p0 p1)),SI (le1q30 p0 p1),SI (le1q31 p0 p1),D.sl N4 (LN (le1q32 p0 p1)) (fun (i:Nat) => Arr.row (List.getD (le1q32 p0 p1) i le1q28)) Mode.any]
def le1q34 (p0:Nat) (p1:Arr) (p2 p3:Nat):Prop := (SM p0∧(SM (le1q15 p1)∧(SM (le1q25 p1)∧(∀ (i:Nat),i < le1q25 p1→SM (le1q26 p1 i))∧True)∧(SM (le1q17 p1)∧(∀ (i:Nat),i < le1q17 p1→SM (le1q18 p1 i))∧True)∧(SM (le1q27 p1)∧(∀ (i:Nat),i < le1q27 p1→SM (le1q33 p1 i))∧True)∧True)∧True)∧p2 = p3∧True
def le1q35 (p0:Arr):Int := (NI (le1q27 p0))
def le1q36 (p0:Arr) (p1:Nat):Arr := List.getD (le1q20 p0) (Int.toNat (↑p1:Int)) le1q28
def le1q37 (p0:Arr) (p1:Nat):List Int := Arr.sh (le1q36 p0 p1)
def le1q38 (p0:Arr) (p1:Nat):Nat := LN (le1q37 p0 p1)
def le1q39 (p0:Arr) (p1:Nat):List Int := Arr.nu (le1q36 p0 p1)
def le1q40 (p0:Arr) (p1:Nat):Nat := LN (le1q39 p0 p1)
def le1q41 (p0:Arr) (p1:Nat):List Arr := Arr.it (le1q36 p0 p1)
def le1q42 (p0:Arr) (p1:Nat):Nat := LN (le1q41 p0 p1)
def le1q43 (p0:Arr) (p1:Nat) (p2:Arr):Prop := (Arr.k (le1q36 p0 p1) = le1q15 p2∧(le1q38 p0 p1 = le1q25 p2∧(∀ (i:Nat),i < le1q38 p0 p1→[ZI (GI (le1q37 p0 p1) i)] = le1q26 p2 i)∧True)∧(le1q40 p0 p1 = le1q17 p2∧(∀ (i:Nat),i < le1q40 p0 p1→[ZI (GI (le1q39 p0 p1) i)] = le1q18 p2 i)∧True)∧(le1q42 p0 p1 = le1q27 p2∧(∀ (i:Nat),i < le1q42 p0 p1→Arr.row (List.getD (le1q41 p0 p1) i le1q28) = Arr.row (le1q29 p2 i))∧True)∧True)∧True
def le1q44 (p0:Arr):Nat := LN ((40:UInt8) :: (98:UInt8) :: (111:UInt8) :: (120:UInt8) :: (32:UInt8) :: List.append [] (le1q22 p0)) + N1
def le1q45 (p0:Arr):List UInt8 := (40:UInt8) :: (98:UInt8) :: (111:UInt8) :: (120:UInt8) :: (32:UInt8) :: List.append (List.append [] (le1q22 p0)) [(41:UInt8)]
def le1q46 (p0:Arr):Nat := LN (le1q45 p0)
def le1q47 (p0:List UInt8) (p1:Arr):Nat := LN p0 + N1 + le1q46 p1
def le1q48 (p0:Arr):D := D.agg [ZI (le1q15 p0),D.sl N1 (le1q25 p0) (fun (i:Nat) => le1q26 p0 i) Mode.any,D.sl N1 (le1q17 p0) (fun (i:Nat) => le1q18 p0 i) Mode.any,D.sl N4 (le1q27 p0) (fun (i:Nat) => le1q33 p0 i) Mode.any]
def le1q49 (p0:Arr) (p1:Nat):Prop := SM (le1q48 p0)∧SM (D.ref N0 p1 N0)∧True
def le1q50 (p0:Arr) (p1 p2:Nat):Prop := le1q27 p0 - p1 < le1q27 p0 - p2
def le1q51 (p0:Arr) (p1:Nat):List D := [ZB (BI (le1q45 p0) p1)]
def le1q52 (p0:List UInt8) (p1:Arr):Nat := LN p0 + le1q46 p1
end
theorem rel_step (a : Arr) (q : Arr → Prop) (lo : LOk a) (hk : a.k ≠ 2) (hi : ∀ b ∈ a.it, q b) (hc : ConOk Tryz.prog (conRe q)) :
    ACalls Tryz.prog 105 ((sRc Arr.row2 (fun _ => True) (fun a => .str (vecK a.k a.nu (a.it.map litA)))).args a) ⟨[],[]⟩ (SpecR (sRc Arr.row2 (fun _ => True) (fun a => .str (vecK a.k a.nu (a.it.map litA)))) a) := by
  refine con_of (A := sRc Arr.row2 (fun _ => True) (fun a => .str (vecK a.k a.nu (a.it.map litA)))) (x := a) (E := Erel a q) (eOk hc rfl) Tryz.func105 rfl (by kernel_rfl) rfl (by simp [sRc,Erel,EC,E0]) ?_
  refine vc_eq (T :=
    ∀ (x:Nat),True→SM x∧ifB (le1q15 a == Z1) (SM x∧((IntsP (le1q17 a) fun (i:Nat) => le1q18 a i)∧le1q17 a ≤ (1099511627776:Nat)∧∀ (z:Int),z ∈ le1q19 a→inI64 z)∧∀ (y:Unit),True→True∧∃ (y:Unit),True∧dimsB (le1q19 a) = le1q21 a∧True∧True) (∀ (t:Nat),(∃ (x_1:Nat × Nat × List UInt8),le1q23 a x_1.1 x_1.2.2∧(Z0 = (NI x_1.1)∧(N0 = LN x_1.2.2∧(∀ (i:Nat),i < N0→[D.str []] = le1q24 x_1.2.2 i)∧t = x_1.2.1)∧True)∧le1q34 x a t x_1.2.1)∧∀ (x_1:Nat × Nat × List UInt8),le1q23 a x_1.1 x_1.2.2→SM x∧ifB (decide ((NI x_1.1) < le1q35 a)) (ifB (decide (Z0 < (NI x_1.1))) (SM x_1.2.1∧side ((LN x_1.2.2 + N1) * N1 ≤ (140737488355328:Nat)∧LN x_1.2.2 + N1 ≤ (9223372036854775807:Nat)) (∀ (t:Nat),SM x∧side (Z0 ≤ (NI x_1.1)∧(NI x_1.1) < le1q35 a) (∃ (x_2:Arr),le1q43 a x_1.1 x_2∧(True∧True)∧q x_2∧∀ (y:Unit),True→side ((5:Nat) + LN (le1q22 x_2) ≤ (9223372036854775807:Nat)) (side (le1q44 x_2 ≤ (9223372036854775807:Nat)) (SM t∧side (le1q47 x_1.2.2 x_2 * N1 ≤ (140737488355328:Nat)∧le1q47 x_1.2.2 x_2 ≤ (9223372036854775807:Nat)) (∀ (t:Nat),le1q49 a x∧∃ (y:Nat × Nat × List UInt8),le1q23 a y.1 y.2.2∧le1q50 a y.1 x_1.1∧(IntKind.wrap IntKind.i64 ((NI x_1.1) + Z1) = (NI y.1)∧(le1q47 x_1.2.2 x_2 = LN y.2.2∧(∀ (i:Nat),i < le1q47 x_1.2.2 x_2→appF (LN x_1.2.2 + N1) (appF (LN x_1.2.2) (fun (i:Nat) => le1q24 x_1.2.2 i) fun (i:Nat) => List.getD [[ZB (32:Int)]] i []) (fun (i:Nat) => le1q51 x_2 i) i = le1q24 y.2.2 i)∧t = y.2.1)∧True)∧le1q34 x a t y.2.1)))))) (SM x∧side (Z0 ≤ (NI x_1.1)∧(NI x_1.1) < le1q35 a) (∃ (x_2:Arr),le1q43 a x_1.1 x_2∧(True∧True)∧q x_2∧∀ (y:Unit),True→side ((5:Nat) + LN (le1q22 x_2) ≤ (9223372036854775807:Nat)) (side (le1q44 x_2 ≤ (9223372036854775807:Nat)) (SM x_1.2.1∧side (le1q52 x_1.2.2 x_2 * N1 ≤ (140737488355328:Nat)∧le1q52 x_1.2.2 x_2 ≤ (9223372036854775807:Nat)) (∀ (t:Nat),le1q49 a x∧∃ (y:Nat × Nat × List UInt8),le1q23 a y.1 y.2.2∧le1q50 a y.1 x_1.1∧(IntKind.wrap IntKind.i64 ((NI x_1.1) + Z1) = (NI y.1)∧(le1q52 x_1.2.2 x_2 = LN y.2.2∧(∀ (i:Nat),i < le1q52 x_1.2.2 x_2→appF (LN x_1.2.2) (fun (i:Nat) => le1q24 x_1.2.2 i) (fun (i:Nat) => le1q51 x_2 i) i = le1q24 y.2.2 i)∧t = y.2.1)∧True)∧le1q34 x a t y.2.1)))))) (True∧chk (true && rowsB (LN x_1.2.2) fun (i:Nat) => le1q24 x_1.2.2 i) (True∧∃ (y:Unit),True∧(bytesOf (LN x_1.2.2) fun (i:Nat) => le1q24 x_1.2.2 i) = le1q21 a∧True∧True)))) (by kernel_rfl) ?_
  delta BI DA GI LN N0 N1 N4 NI SI SM U0 Z0 Z1 ZB ZI le1q15 le1q16 le1q17 le1q18 le1q19 le1q20 le1q21 le1q22 le1q23 le1q24 le1q25 le1q26 le1q27 le1q28 le1q29 le1q30 le1q31 le1q32 le1q33 le1q34 le1q35 le1q36 le1q37 le1q38 le1q39 le1q40 le1q41 le1q42 le1q43 le1q44 le1q45 le1q46 le1q47 le1q48 le1q49 le1q50 le1q51 le1q52
  have da:(default:Arr) = Arr.mk 0 [] [] [] := rfl
  simp only [← da,ifB_iff,side_iff,decide_eq_true_eq,decide_eq_false_iff_not,true_and,and_true,beq_iff_eq,beq_eq_false_iff_ne,ne_eq,exists_const,forall_const,Int.toNat_natCast,intsD_isl]
  have hib:∀ x:Arr,(40 :: 98 :: 111 :: 120 :: 32 :: (litA x).append [41]) = itemB (litA x) := fun _ => rfl
  simp only [app_nil',hib]
  have kd := lo.kd
  have hsum := lo.sum
  have l2 := lo.n6
  have l3 := lo.i6
  have tt:(∀ i:Nat,i < a.sh.length→True)∧(∀ i:Nat,i < a.nu.length→True)∧∀ i:Nat,i < a.it.length→True := ⟨fun _ _ => trivial,fun _ _ => trivial,fun _ _ => trivial⟩
  refine ⟨fun h1 => ⟨⟨intsP_isl _,by omega,lo.ni⟩,?_⟩,fun h1 t => ⟨⟨(0,t,[]),JHd.init _ _,⟨rfl,rfl,fun i hi => absurd hi (by omega),rfl⟩,tt,rfl⟩,?_⟩⟩
  · rw [vecK,if_neg hk,lo.no (by omega)]
    simp [dimsB]
  have hnu := lo.bx (by omega)
  have hv:Lib.join (a.it.map fun b => itemB (litA b)) [32] = vecK a.k a.nu (a.it.map litA) := by
    rw [vecK,if_neg hk,hnu,List.map_map]; rfl
  have hvl := vecK_len a.k lo.ni (a.it.map litA)
  rw [List.length_map] at hvl
  rintro ⟨i,t1,out⟩ hh
  simp only at hh ⊢
  have hl := hh.len
  rw [hv] at hl
  refine ⟨fun hlt => ?_,fun hge => ?_⟩
  · have hlt':i < a.it.length := by omega
    have hm := mem_getD hlt'
    have hml := mem_sum hm
    have hmi:i < (a.it.map fun b => itemB (litA b)).length := by simpa using hlt'
    have hg:(a.it.map fun b => itemB (litA b)).getD i [] = itemB (litA (a.it.getD i default)) := by
      simp [List.getD_eq_getElem?_getD,List.getElem?_map,List.getElem?_eq_getElem hlt']
    have hil:(itemB (litA (a.it.getD i default))).length = 6 + (litA (a.it.getD i default)).length := by
      simp only [itemB,boxW,List.length_append,List.length_cons,List.length_nil]; omega
    refine ⟨fun h0 => ⟨⟨by omega,by omega⟩,⟨by omega,by omega⟩,a.it.getD i default,⟨rfl,⟨rfl,fun _ _ => rfl⟩,⟨rfl,fun _ _ => rfl⟩,rfl,fun _ _ => rfl⟩,hi _ hm,by omega,by simp only [List.length_cons]; omega,⟨by omega,by omega⟩,fun t2 => ⟨(i + 1,t2,out ++ [32] ++ itemB (litA (a.it.getD i default))),?_,by simp only; omega,⟨wrap_i64' (by omega) (by omega),by simp only [List.length_append,List.length_cons,List.length_nil],?_,rfl⟩,tt,rfl⟩⟩,fun h0 => ⟨⟨by omega,by omega⟩,a.it.getD i default,⟨rfl,⟨rfl,fun _ _ => rfl⟩,⟨rfl,fun _ _ => rfl⟩,rfl,fun _ _ => rfl⟩,hi _ hm,by omega,by simp only [List.length_cons]; omega,⟨by omega,by omega⟩,fun t2 => ⟨(i + 1,t2,out ++ itemB (litA (a.it.getD i default))),?_,by simp only; omega,⟨wrap_i64' (by omega) (by omega),by simp only [List.length_append],?_,rfl⟩,tt,rfl⟩⟩⟩
    · have := hh.step (by omega) hmi
      rw [hg] at this
      exact this
    · exact app_gen (l := out ++ [32]) (by simp) (app_row' (b := 32) rfl (fun _ _ => rfl) rfl) (fun _ _ => rfl)
    · have e:i = 0 := by omega
      subst e
      have := hh.step0 hmi
      rw [hg] at this
      exact this
    · exact app_gen rfl (fun _ _ => rfl) (fun _ _ => rfl)
  · have hd := hh.done (by simpa using hge)
    rw [chk_iff,Bool.true_and]
    refine ⟨rowsB_bsl _,?_⟩
    rw [bytesOf_bsl,hd,hv]
end Go.Proofs.YtflbmbkhjcbhoaaGreatDoor
namespace Go.Proofs.YtflbmbkhjcbhoaaGreatDoor
open Go Go.Ab
set_option maxRecDepth 100000
def sAt1 (q:Arr→Prop):FnSpec where
  β := Arr
  α := Unit
  args := fun a => [.agg a.row1,.int .i64 0]
  st := fun _ => ⟨[],[]⟩
  pre := q
  post := fun _ _ => True
  res := fun a _ => .ret (.agg (atA a 0).row1)
  out := fun _ _ => ⟨[],[]⟩
def lineA (a:Arr):Arr := .mk a.k [sizeR a.k a.nu.length a.it.length] a.nu a.it
def conRl (a:Arr):Con := fun k ds S => match k with
  | 78 => some (sRc Arr.row1 (fun b => b = lineA a∧1 < a.nu.length + a.it.length∧a.sh.length ≠ 1) (fun b => .str (litA b)))
  | 103 => some (sRc Arr.row1 (fun b => (b = a∧a.sh.length = 0)∨b = fillA a.k∨(b = atA a 0∧a.nu.length + a.it.length = 1)) (fun b => .str (scalK b.k b.nu (b.it.map litA))))
  | 104 => some (sRc Arr.row1 (fun b => b = a∧a.k = 2) (fun b => .str (quoB 34 b.nu)))
  | 105 => some (sRc Arr.row1 (fun b => b = a∧a.k ≠ 2) (fun b => .str (vecK b.k b.nu (b.it.map litA))))
  | 107 => some (sRc Arr.row1 (fun b => b = a) (fun b => .agg (fillA b.k).row1))
  | 108 => some (sAt1 (fun b => b = a∧a.nu.length + a.it.length = 1))
  | 106 => match ds with
    | [.sl 1 n f m] => some (pC [.sl 1 n f m] (.str (dimsB (intsD n f))) (IntsP n f∧n ≤ 1099511627776∧∀ z ∈ intsD n f,inI64 z))
    | _ => none
  | k => conRf k ds S
theorem fill_sc {k:Int} (h:k = 1∨k = 2∨k = 3):scalK (fillA k).k (fillA k).nu ((fillA k).it.map litA) = fillL k := by
  rcases h with rfl | rfl | rfl
  · rfl
  · rfl
  · rfl
theorem at_sc {a:Arr} (kd:a.k = 1∨a.k = 2∨a.k = 3) (bx:a.k = 3→a.nu = []) (h:a.nu.length + a.it.length = 1):scalK (atA a 0).k (atA a 0).nu ((atA a 0).it.map litA) = scalK a.k a.nu (a.it.map litA) := by
  have h1 := at_lit kd bx h
  have h2:(atA a 0).sh.length = 0 := by unfold atA; split <;> rfl
  rw [litA_eq (atA a 0),litK,if_pos h2] at h1
  exact h1
theorem line_lit {a:Arr} (h:1 < a.nu.length + a.it.length):litA (lineA a) = vecK a.k a.nu (a.it.map litA) := by
  rw [litA_eq,litK,if_neg (by show ¬ 1 = 0; omega),if_pos ⟨rfl,.inr (by rw [List.length_map]; exact h)⟩]
  rfl
noncomputable def Erl (a:Arr):Senv := EC (conRl a) 64 5 [8,19,31,39,46] (fun _ => ([],[]))
noncomputable section
def le2q0 (p0:Arr):Nat := LN (Arr.sh p0)
def le2q1 (p0:Arr):Int := Arr.k p0
def le2q2 (p0 p1:Arr):Prop := le2q1 p0 = le2q1 p1
def le2q3 (p0:Arr) (p1:Nat):List D := [ZI (GI (Arr.sh p0) p1)]
def le2q4 (p0:Arr):List Int := Arr.nu p0
def le2q5 (p0:Arr):Nat := LN (le2q4 p0)
def le2q6 (p0:Arr) (p1:Nat):List D := [ZI (GI (le2q4 p0) p1)]
def le2q7 (p0:Arr):List Arr := Arr.it p0
def le2q8 (p0:Arr):Nat := LN (le2q7 p0)
def le2q9:Arr := DA
def le2q10 (p0:Arr) (p1:Nat):List D := Arr.row (List.getD (le2q7 p0) p1 le2q9)
def le2q11 (p0 p1:Arr):Prop := (le2q5 p0 = le2q5 p1∧(∀ (i:Nat),i < le2q5 p0→le2q6 p0 i = le2q6 p1 i)∧True)∧(le2q8 p0 = le2q8 p1∧(∀ (i:Nat),i < le2q8 p0→le2q10 p0 i = le2q10 p1 i)∧True)∧True
def le2q12 (p0 p1:Arr):Prop := le2q2 p0 p1∧(le2q0 p0 = le2q0 p1∧(∀ (i:Nat),i < le2q0 p0→le2q3 p0 i = le2q3 p1 i)∧True)∧le2q11 p0 p1
def le2q13 (p0 p1:Arr):Prop := le2q12 p0 p1∧True
def le2q14 (p0:Arr):Arr := fillA (le2q1 p0)
def le2q15 (p0:Arr):Arr := atA p0 N0
def le2q16 (p0:Arr):Nat := le2q5 p0 + le2q8 p0
def le2q17 (p0:Arr):Prop := le2q16 p0 = N1
def le2q18 (p0 p1:Arr):Prop := p0 = p1∧le2q0 p1 = N0∨p0 = le2q14 p1∨p0 = le2q15 p1∧le2q17 p1
def le2q19 (p0:Arr):List UInt8 := scalK (le2q1 p0) (le2q4 p0) (List.map litA (le2q7 p0))
def le2q20 (p0:Arr):List UInt8 := litA p0
def le2q21 (p0:Arr):Bool := (NI (le2q0 p0)) == Z1
def le2q22 (p0:Arr):Bool := bif le2q21 p0 then le2q1 p0 == (2:Int) else false
def le2q23 (p0:Arr):Int := sizeR (le2q1 p0) (le2q5 p0) (le2q8 p0)
def le2q24 (p0:Arr):Bool := decide ((2:Int) ≤ le2q23 p0)
def le2q25 (p0:Arr):Bool := bif le2q21 p0 then le2q24 p0 else false
def le2q26 (p0:Arr):List Int := intsD (le2q0 p0) fun (i:Nat) => le2q3 p0 i
def le2q27 (p0:Arr):List UInt8 := dimsB (le2q26 p0)
def le2q28 (p0:Arr):List Int := Arr.sh (le2q14 p0)
def le2q29 (p0:Arr):Nat := LN (le2q28 p0)
def le2q30 (p0:Arr):List Int := Arr.nu (le2q14 p0)
def le2q31 (p0:Arr):Nat := LN (le2q30 p0)
def le2q32 (p0:Arr):List Arr := Arr.it (le2q14 p0)
def le2q33 (p0:Arr):Nat := LN (le2q32 p0)
def le2q34 (p0:Arr):List UInt8 := le2q27 p0 ++ [(32:UInt8),(114:UInt8),(101:UInt8),(115:UInt8),(104:UInt8),(97:UInt8),(112:UInt8),(101:UInt8),(32:UInt8)]
def le2q35 (p0:Arr):Nat := LN (le2q34 p0)
def le2q36 (p0 p1:Arr):Prop := (True∧True)∧le2q18 p0 p1∧∀ (_y:Unit),True→side (le2q35 p1 + LN (le2q19 p0) ≤ (9223372036854775807:Nat)) (True∧∃ (_y:Unit),True∧le2q34 p1 ++ le2q19 p0 = le2q20 p1∧True∧True)
def le2q37 (p0:Arr):List Int := Arr.sh (le2q15 p0)
def le2q38 (p0:Arr):Nat := LN (le2q37 p0)
def le2q39 (p0:Arr):List Int := Arr.nu (le2q15 p0)
def le2q40 (p0:Arr):Nat := LN (le2q39 p0)
def le2q41 (p0:Arr):List Arr := Arr.it (le2q15 p0)
def le2q42 (p0:Arr):Nat := LN (le2q41 p0)
end
theorem rlit_step (a : Arr) (lo : LOk a) (hc : ConOk Tryz.prog (conRl a)) :
    ACalls Tryz.prog 78 ((sRc Arr.row1 (fun _ => True) (fun b => .str (litA b))).args a) ⟨[],[]⟩ (SpecR (sRc Arr.row1 (fun _ => True) (fun b => .str (litA b))) a) := by
  refine con_of (A := sRc Arr.row1 (fun _ => True) (fun b => .str (litA b))) (x := a) (E := Erl a) (eOk hc rfl) Tryz.func78 rfl (by kernel_rfl) rfl (by simp [sRc,Erl,EC,E0]) ?_
  refine vc_eq (T :=
    ∀ (x:Nat),True→SM x∧ifB ((NI (le2q0 a)) == Z0) (SM x∧∃ (x:Arr),le2q13 a x∧(True∧True)∧le2q18 x a∧∀ (y:Unit),True→True∧∃ (y:Unit),True∧le2q19 x = le2q20 a∧True∧True) ((SM x∧ifB (le2q21 a) (SM x∧(le2q1 a == (2:Int)) = le2q22 a∧True) (false = le2q22 a∧True))∧ifB (le2q22 a) (SM x∧∃ (x:Arr),le2q13 a x∧(True∧True)∧(x = a∧le2q1 a = (2:Int))∧∀ (y:Unit),True→True∧∃ (y:Unit),True∧quoB (34:Int) (le2q4 x) = le2q20 a∧True∧True) (SM x∧True∧∀ (y:Unit),True→(SM x∧ifB (le2q21 a) (le2q24 a = le2q25 a∧True) (false = le2q25 a∧True))∧ifB (le2q25 a) (SM x∧∃ (x:Arr),le2q13 a x∧(True∧True)∧(x = a∧le2q1 a ≠ (2:Int))∧∀ (y:Unit),True→True∧∃ (y:Unit),True∧vecK (le2q1 x) (le2q4 x) (List.map litA (le2q7 x)) = le2q20 a∧True∧True) (SM x∧((IntsP (le2q0 a) fun (i:Nat) => le2q3 a i)∧le2q0 a ≤ (1099511627776:Nat)∧∀ (z:Int),z ∈ le2q26 a→inI64 z)∧∀ (y:Unit),True→side (LN (le2q27 a) + (9:Nat) ≤ (9223372036854775807:Nat)) (ifB (le2q23 a == Z0) (SM x∧∃ (x:Arr),le2q13 a x∧(True∧True)∧x = a∧∀ (y:Unit),True→∃ (x_1:Arr),((Arr.k (le2q14 x) = le2q1 x_1∧(le2q29 x = le2q0 x_1∧(∀ (i:Nat),i < le2q29 x→[ZI (GI (le2q28 x) i)] = le2q3 x_1 i)∧True)∧(le2q31 x = le2q5 x_1∧(∀ (i:Nat),i < le2q31 x→[ZI (GI (le2q30 x) i)] = le2q6 x_1 i)∧True)∧(le2q33 x = le2q8 x_1∧(∀ (i:Nat),i < le2q33 x→Arr.row (List.getD (le2q32 x) i le2q9) = le2q10 x_1 i)∧True)∧True)∧True)∧le2q36 x_1 a) (ifB (le2q23 a == Z1) (SM x∧∃ (x:Arr),(le2q12 a x∧SM Z0∧True)∧(True∧True)∧(x = a∧le2q17 a)∧∀ (y:Unit),True→∃ (x_1:Arr),((Arr.k (le2q15 x) = le2q1 x_1∧(le2q38 x = le2q0 x_1∧(∀ (i:Nat),i < le2q38 x→[ZI (GI (le2q37 x) i)] = le2q3 x_1 i)∧True)∧(le2q40 x = le2q5 x_1∧(∀ (i:Nat),i < le2q40 x→[ZI (GI (le2q39 x) i)] = le2q6 x_1 i)∧True)∧(le2q42 x = le2q8 x_1∧(∀ (i:Nat),i < le2q42 x→Arr.row (List.getD (le2q41 x) i le2q9) = le2q10 x_1 i)∧True)∧True)∧True)∧le2q36 x_1 a) (SM x∧SM x∧SM x∧∃ (x:Arr),((le2q2 a x∧(N1 = le2q0 x∧(∀ (i:Nat),i < N1→List.getD [[ZI (le2q23 a)]] i [] = le2q3 x i)∧True)∧le2q11 a x)∧True)∧(True∧True)∧(x = lineA a∧N1 < le2q16 a∧le2q0 a ≠ N1)∧∀ (y:Unit),True→side (le2q35 a + LN (le2q20 x) ≤ (9223372036854775807:Nat)) (True∧∃ (y:Unit),True∧le2q34 a ++ le2q20 x = le2q20 a∧True∧True)))))))) (by kernel_rfl) ?_
  delta DA GI LN N0 N1 NI SM Z0 Z1 ZI le2q0 le2q1 le2q10 le2q11 le2q12 le2q13 le2q14 le2q15 le2q16 le2q17 le2q18 le2q19 le2q2 le2q20 le2q21 le2q22 le2q23 le2q24 le2q25 le2q26 le2q27 le2q28 le2q29 le2q3 le2q30 le2q31 le2q32 le2q33 le2q34 le2q35 le2q36 le2q37 le2q38 le2q39 le2q4 le2q40 le2q41 le2q42 le2q5 le2q6 le2q7 le2q8 le2q9
  have da:(default:Arr) = Arr.mk 0 [] [] [] := rfl
  simp only [← da,ifB_iff,side_iff,decide_eq_true_eq,decide_eq_false_iff_not,true_and,and_true,beq_iff_eq,Bool.cond_false_right,Bool.and_eq_true,Bool.and_eq_false_iff,beq_eq_false_iff_ne,ne_eq,exists_const,forall_const,intsD_isl]
  obtain ⟨kd,s8,n6,i6,si,ni,hsum,hchr,hno,hbx,hsc⟩ := lo
  have hz:sizeR a.k a.nu.length a.it.length = ((a.nu.length + a.it.length:Nat):Int) := by
    unfold sizeR
    by_cases h3:a.k = 3
    · rw [if_neg (by omega),if_pos h3,hbx h3]; simp
    · rw [if_pos (by omega),hno h3]; simp
  have hd := dimsB_len si
  have hfl := fillL_len a.k
  have hsl := scalK_len a.k ni (a.it.map litA)
  have hvl := vecK_len a.k ni (a.it.map litA)
  rw [List.length_map] at hvl
  have len:∀ e:List UInt8,e.length ≤ 200000000→(dimsB a.sh ++ [32,114,101,115,104,97,112,101,32]).length + e.length ≤ 9223372036854775807 := fun e he => by
    simp only [List.length_append,List.length_cons,List.length_nil]; omega
  have hlk:a.sh.length ≠ 0→(¬ a.sh.length = 1∨¬ a.k = 2)→(¬ a.sh.length = 1∨a.nu.length + a.it.length < 2)→litA a = dimsB a.sh ++ [32,114,101,115,104,97,112,101,32] ++ (if a.nu.length + a.it.length = 0 then fillL a.k else if a.nu.length + a.it.length = 1 then scalK a.k a.nu (a.it.map litA) else vecK a.k a.nu (a.it.map litA)) := fun h1 h2 h3 => by
    rw [litA_eq,litK,if_neg h1,if_neg (by rw [List.length_map]; omega),List.length_map]; rfl
  have hvk:a.sh.length = 1→(a.k = 2∨1 < a.nu.length + a.it.length)→litA a = vecK a.k a.nu (a.it.map litA) := fun h1 h2 => by
    rw [litA_eq,litK,if_neg (by omega),if_pos ⟨h1,by rw [List.length_map]; exact h2⟩]
  simp only [hz]
  refine ⟨fun hs => ⟨a,⟨rfl,⟨rfl,fun _ _ => rfl⟩,⟨rfl,fun _ _ => rfl⟩,rfl,fun _ _ => rfl⟩,.inl ⟨rfl,by omega⟩,by rw [litA_eq a,litK,if_pos (by omega)]⟩,fun hs => ⟨⟨fun h => by rw [h]; rfl,fun h => by rw [beq_eq_false_iff_ne.2 h]; rfl⟩,fun ⟨h1,h2⟩ => ⟨a,⟨rfl,⟨rfl,fun _ _ => rfl⟩,⟨rfl,fun _ _ => rfl⟩,rfl,fun _ _ => rfl⟩,⟨rfl,h2⟩,by rw [hvk (by omega) (.inl h2),vecK,if_pos h2]⟩,fun hn => ⟨⟨fun h => by rw [h]; rfl,fun h => by rw [beq_eq_false_iff_ne.2 h]; rfl⟩,fun ⟨h1,h2⟩ => ⟨a,⟨rfl,⟨rfl,fun _ _ => rfl⟩,⟨rfl,fun _ _ => rfl⟩,rfl,fun _ _ => rfl⟩,⟨rfl,by omega⟩,by rw [hvk (by omega) (.inr (by omega))]⟩,fun hn2 => ⟨⟨intsP_isl _,by omega,si⟩,by omega,fun h0 => ?_,fun h0 => ⟨fun h1 => ?_,fun h1 => ?_⟩⟩⟩⟩⟩
  · refine ⟨a,⟨rfl,⟨rfl,fun _ _ => rfl⟩,⟨rfl,fun _ _ => rfl⟩,rfl,fun _ _ => rfl⟩,rfl,fillA a.k,⟨rfl,⟨rfl,fun _ _ => rfl⟩,⟨rfl,fun _ _ => rfl⟩,rfl,fun _ _ => rfl⟩,.inr (.inl rfl),?_,?_⟩
    · rw [fill_sc kd]; exact len _ (by omega)
    · rw [fill_sc kd,hlk (by omega) (by omega) (by omega),if_pos (by omega)]
  · refine ⟨a,⟨rfl,⟨rfl,fun _ _ => rfl⟩,⟨rfl,fun _ _ => rfl⟩,rfl,fun _ _ => rfl⟩,⟨rfl,by omega⟩,atA a 0,⟨rfl,⟨rfl,fun _ _ => rfl⟩,⟨rfl,fun _ _ => rfl⟩,rfl,fun _ _ => rfl⟩,.inr (.inr ⟨rfl,by omega⟩),?_,?_⟩
    · rw [at_sc kd hbx (by omega)]; exact len _ (by omega)
    · rw [at_sc kd hbx (by omega),hlk (by omega) (by omega) (by omega),if_neg (by omega),if_pos (by omega)]
  · refine ⟨lineA a,⟨rfl,⟨rfl,fun i hi => ?_⟩,⟨rfl,fun _ _ => rfl⟩,rfl,fun _ _ => rfl⟩,⟨rfl,by omega,by omega⟩,?_,?_⟩
    · have:i = 0 := by omega
      subst this
      simp only [lineA,Arr.sh,hz]; rfl
    · rw [line_lit (by omega)]; exact len _ (by omega)
    · rw [line_lit (by omega),hlk (by omega) (by omega) (by omega),if_neg (by omega),if_neg (by omega)]
end Go.Proofs.YtflbmbkhjcbhoaaGreatDoor
namespace Go.Proofs.YtflbmbkhjcbhoaaGreatDoor
open Go Go.Ab
set_option maxRecDepth 100000
def conCr (its:List Arr):Con := fun k ds S => match k with
  | 121 => some (sCl Arr.row1 Arr.row1 (fun b => b ∈ its))
  | k => conRf k ds S
noncomputable def Era (a:Arr):Senv := EC (conCr a.it) 34 3 [4,12,16] (fun id => match id with | 5 => ([0,1,2,3,4,5,6,7,8,9],[7,9]) | _ => ([],[]))
noncomputable section
def at2q0 (p0:Arr):Int := Arr.k p0
def at2q1 (p0:Arr):List Int := Arr.nu p0
def at2q2 (p0:Arr):Nat := LN (at2q1 p0)
def at2q3 (p0:Arr):List Arr := Arr.it p0
def at2q4 (p0:Arr):Nat := LN (at2q3 p0)
def at2q5:D := D.sl N1 N0 (fun (_x:Nat) => []) Mode.nil
def at2q6:List D := [at2q5]
def at2q7:Arr := DA
def at2q8 (p0:Arr) (p1:Nat):Arr := List.getD (at2q3 p0) (Int.toNat (↑p1:Int)) at2q7
def at2q9 (p0:Arr) (p1:Nat):List Int := Arr.sh (at2q8 p0 p1)
def at2q10 (p0:Arr) (p1:Nat):Nat := LN (at2q9 p0 p1)
def at2q11 (p0:Arr) (p1:Nat):List D := [ZI (GI (Arr.sh p0) p1)]
def at2q12 (p0:Arr) (p1:Nat):List Int := Arr.nu (at2q8 p0 p1)
def at2q13 (p0:Arr) (p1:Nat):Nat := LN (at2q12 p0 p1)
def at2q14 (p0:Arr) (p1:Nat):List D := [ZI (GI (at2q1 p0) p1)]
def at2q15 (p0:Arr) (p1:Nat):List Arr := Arr.it (at2q8 p0 p1)
def at2q16 (p0:Arr) (p1:Nat):Nat := LN (at2q15 p0 p1)
def at2q17 (p0:Arr) (p1:Nat):List D := Arr.row (List.getD (at2q3 p0) p1 at2q7)
def at2q18 (p0:Arr):D := ZI (at2q0 p0)
end
theorem rat_step (a : Arr) (i : Nat) (hk : a.k = 1 ∨ a.k = 2 ∨ a.k = 3) (hi : (i : Int) < sizeR a.k a.nu.length a.it.length) (hc : ConOk Tryz.prog (conCr a.it)) :
    ACalls Tryz.prog 108 [.agg a.row2,.int .i64 i] ⟨[],[]⟩ (SpecR (sC [.agg a.row2,.int .i64 i] (atD a i)) ()) := by
  refine con_of (A := sC _ _) (x := ()) (E := Era a) (eOk hc rfl) Tryz.func108 rfl (by kernel_rfl) rfl (by simp [sC,Era,EC,E0]) ?_
  refine vc_eq (T :=
    ∀ (x:Nat),True→∀ (x_1:Nat),x ≠ x_1∧True→SM x∧True∧∀ (y:Unit),True→ifB (decide (sizeR (at2q0 a) (at2q2 a) (at2q4 a) ≤ (↑i:Int))) (SM x_1∧(SM x_1∧True)∧∃ (y:Unit),True∧weakD (D.agg (ZI Z0 :: at2q5 :: at2q5 :: at2q6)) (atD a i)∧True∧True) (SM x∧ifB (at2q0 a == (3:Int)) (SM x∧side (Z0 ≤ (↑i:Int)∧(↑i:Int) < (NI (at2q4 a))) (∃ (x:Arr),((Arr.k (at2q8 a i) = at2q0 x∧(at2q10 a i = LN (Arr.sh x)∧(∀ (i_1:Nat),i_1 < at2q10 a i→[ZI (GI (at2q9 a i) i_1)] = at2q11 x i_1)∧True)∧(at2q13 a i = at2q2 x∧(∀ (i_1:Nat),i_1 < at2q13 a i→[ZI (GI (at2q12 a i) i_1)] = at2q14 x i_1)∧True)∧(at2q16 a i = at2q4 x∧(∀ (i_1:Nat),i_1 < at2q16 a i→Arr.row (List.getD (at2q15 a i) i_1 at2q7) = at2q17 x i_1)∧True)∧True)∧True)∧(True∧True)∧x ∈ at2q3 a∧∀ (y:Unit),True→SM x_1∧(SM x_1∧True)∧∃ (y:Unit),True∧weakD (D.agg [ZI (3:Int),at2q5,at2q5,D.sl N4 N1 (fun (i:Nat) => List.getD [[at2q18 x,D.sl N1 (LN (Arr.sh x)) (fun (i:Nat) => at2q11 x i) Mode.any,D.sl N1 (at2q2 x) (fun (i:Nat) => at2q14 x i) Mode.any,D.sl N4 (at2q4 x) (fun (i:Nat) => at2q17 x i) Mode.any]] i []) Mode.full]) (atD a i)∧True∧True)) (SM x∧SM x∧side (Z0 ≤ (↑i:Int)∧(↑i:Int) < (NI (at2q2 a))) ((SM x∧SM (at2q18 a))∧SM x_1∧(SM x_1∧True)∧∃ (y:Unit),True∧weakD (D.agg (at2q18 a :: at2q5 :: D.sl N1 N1 (fun (i_1:Nat) => List.getD [[ZI (GI (at2q1 a) (Int.toNat (↑i:Int)))]] i_1 []) Mode.full :: at2q6)) (atD a i)∧True∧True)))) (by kernel_rfl) ?_
  delta DA GI LN N0 N1 N4 NI SM Z0 ZI at2q0 at2q1 at2q10 at2q11 at2q12 at2q13 at2q14 at2q15 at2q16 at2q17 at2q18 at2q2 at2q3 at2q4 at2q5 at2q6 at2q7 at2q8 at2q9
  have da:(default:Arr) = Arr.mk 0 [] [] [] := rfl
  simp only [← da,ifB_iff,side_iff,decide_eq_true_eq,decide_eq_false_iff_not,true_and,and_true,beq_iff_eq,beq_eq_false_iff_ne,ne_eq,exists_const,forall_const,Int.toNat_natCast]
  have h12:a.k ≠ 3→i < a.nu.length := fun h3 => by
    have h:a.k = 1∨a.k = 2 := by omega
    rw [sizeR,if_pos h] at hi; omega
  have h3:a.k = 3→i < a.it.length := fun h3 => by
    rw [sizeR,if_neg (by omega),if_pos h3] at hi; omega
  repeat' (first | intro _ | refine And.intro ?_ ?_)
  all_goals first
    | omega
    | (exfalso; omega)
    | exact ⟨a.it.getD i default,⟨rfl,⟨rfl,fun _ _ => rfl⟩,⟨rfl,fun _ _ => rfl⟩,rfl,fun _ _ => rfl⟩,mem_getD (by omega),by rw [atD,if_pos (by assumption),(by assumption:a.k = 3)]; exact weakD_refl _⟩
    | (rw [atD,if_neg (by omega)]; exact weakD_refl _)
end Go.Proofs.YtflbmbkhjcbhoaaGreatDoor
namespace Go.Proofs.YtflbmbkhjcbhoaaGreatDoor
open Go Go.Ab
set_option maxRecDepth 100000
def RSc (a:Arr):Prop := ACalls Tryz.prog 103 ((sRc Arr.row2 (fun _ => True) (fun a => .str (scalK a.k a.nu (a.it.map litA)))).args a) ⟨[],[]⟩ (SpecR (sRc Arr.row2 (fun _ => True) (fun a => .str (scalK a.k a.nu (a.it.map litA)))) a)
theorem rsc_of {a:Arr} (lo:LOk a) (hs:a.nu.length + a.it.length = 1) (ih:∀ b ∈ a.it,RLit b):RSc a := by
  refine rsc_step a (· ∈ a.it) lo (fun h3 => ?_) (fun h3 => ?_) (fun _ h => h) (conRe_ok ih)
  · have := lo.no h3; rw [this] at hs; simp at hs; omega
  · have := lo.bx h3; rw [this] at hs; simp at hs; omega
theorem size_of {a:Arr} (lo:LOk a) (h1:a.nu.length + a.it.length = 1):((0:Nat):Int) < sizeR a.k a.nu.length a.it.length := by
  unfold sizeR
  by_cases h3:a.k = 3
  · rw [if_neg (by omega),if_pos h3]
    have := lo.bx h3
    rw [this] at h1
    simp at h1
    omega
  · rw [if_pos (by have := lo.kd; omega)]
    have := lo.no h3
    rw [this] at h1
    simp at h1
    omega
theorem conRl_ok {a:Arr} (lo:LOk a) (ih:∀ b ∈ a.it,RLit b) (hf:RSc (fillA a.k)) (ha:a.nu.length + a.it.length = 1→RSc (atA a 0)) (hcl:a.nu.length + a.it.length = 1→ConOk Tryz.prog (conCr a.it)) (hl:1 < a.nu.length + a.it.length→a.sh.length ≠ 1→RLit (lineA a)):ConOk Tryz.prog (conRl a) := by
  intro k ds S A h
  unfold conRl at h
  split at h
  · injection h with h; subst h
    refine ConOk.plain (fun b hb => ?_) rfl rfl
    obtain ⟨hb,h1,h2⟩:b = lineA a∧1 < a.nu.length + a.it.length∧a.sh.length ≠ 1 := hb
    rw [hb]
    exact sRc_row (hl h1 h2)
  · injection h with h; subst h
    refine ConOk.plain (fun b hb => ?_) rfl rfl
    rcases (hb:(b = a∧a.sh.length = 0)∨b = fillA a.k∨(b = atA a 0∧a.nu.length + a.it.length = 1)) with ⟨hb,h1⟩ | hb | ⟨hb,h1⟩
    · rw [hb]; exact sRc_row (rsc_of lo (lo.sc h1) ih)
    · rw [hb]; exact sRc_row hf
    · rw [hb]; exact sRc_row (ha h1)
  · injection h with h; subst h
    refine ConOk.plain (fun b hb => ?_) rfl rfl
    obtain ⟨hb,h1⟩:b = a∧a.k = 2 := hb
    rw [hb]
    have hn := lo.n6
    exact (rquo_ok a.k _ _ _ _ a.nu (by omega) (lo.chr h1)).mono fun _ _ ⟨y,q1,q2,q3⟩ => ⟨y,q1,q2,q3⟩
  · injection h with h; subst h
    refine ConOk.plain (fun b hb => ?_) rfl rfl
    obtain ⟨hb,h1⟩:b = a∧a.k ≠ 2 := hb
    rw [hb]
    exact sRc_row (rel_step a (· ∈ a.it) lo h1 (fun _ h => h) (conRe_ok ih))
  · injection h with h; subst h
    refine ConOk.plain (fun b hb => ?_) rfl rfl
    have hb:b = a := hb
    rw [hb]
    exact (rfill_arr a).mono fun _ _ ⟨y,q1,q2,q3⟩ => ⟨y,q1,q2,q3⟩
  · injection h with h; subst h
    refine ConOk.plain (fun b hb => ?_) rfl rfl
    obtain ⟨hb,h1⟩:b = a∧a.nu.length + a.it.length = 1 := hb
    rw [hb]
    have := ACalls.wkArgs (ds := [.agg a.row1,.int .i64 0]) (wkRet (rat_step a 0 lo.kd (size_of lo h1) (hcl h1)) (at_wk a 0)) (by
      simp only [wkL,wkD]
      exact ⟨row1_wk a,weakD_refl _,trivial⟩)
    exact this.mono fun _ _ ⟨y,q1,q2,q3⟩ => ⟨y,q1,q2,q3⟩
  · split at h
    · injection h with h; subst h
      exact pC_ok fun ⟨h1,h2,h3⟩ => ⟨weakL_refl _,sC_weak (isl_weak h1) (rdims_ok _ (by rw [intsD_len]; exact h2) h3)⟩
    · cases h
  · exact conRf_ok _ _ _ _ h
theorem rlit_row2 {a:Arr} (h:ACalls Tryz.prog 78 ((sRc Arr.row1 (fun _ => True) (fun b => .str (litA b))).args a) ⟨[],[]⟩ (SpecR (sRc Arr.row1 (fun _ => True) (fun b => .str (litA b))) a)):RLit a := by
  refine (h.wkArgs ?_).mono fun _ _ ⟨y,h1,h2,h3⟩ => ⟨y,h1,h2,h3⟩
  simp only [sRc,wkL,wkD]
  exact ⟨row2_row1 a,trivial⟩
theorem lok_line {a:Arr} (lo:LOk a) (_h:1 < a.nu.length + a.it.length):LOk (lineA a) := by
  have h6 := lo.n6
  have h7 := lo.i6
  refine ⟨lo.kd,by show 1 ≤ 8; omega,lo.n6,lo.i6,?_,lo.ni,lo.sum,lo.chr,lo.no,lo.bx,fun h => absurd h (by show ¬ 1 = 0; omega)⟩
  intro z hz
  have:z = sizeR a.k a.nu.length a.it.length := List.mem_singleton.1 hz
  rw [this]
  unfold sizeR inI64
  split
  · omega
  split <;> omega
theorem rlit_line {a:Arr} (lo:LOk a) (ih:∀ b ∈ a.it,RLit b) (hf:RSc (fillA a.k)) (h:1 < a.nu.length + a.it.length):RLit (lineA a) :=
  rlit_row2 (rlit_step (lineA a) (lok_line lo h) (conRl_ok (lok_line lo h) ih hf (fun h1 => absurd h1 (by show ¬ a.nu.length + a.it.length = 1; omega)) (fun h1 => absurd h1 (by show ¬ a.nu.length + a.it.length = 1; omega)) (fun _ h2 => absurd rfl h2)))
theorem rfs1:RSc (.mk 1 [] [0] []) := rsc_of lok_fill1 rfl (fun b hb => by cases hb)
theorem rfs2:RSc (.mk 2 [] [32] []) := rsc_of lok_fill2 rfl (fun b hb => by cases hb)
theorem rlit_e:RLit (.mk 1 [0] [] []) :=
  rlit_row2 (rlit_step _ lok_e (conRl_ok lok_e (fun b hb => by cases hb) rfs1 (fun h => by cases h) (fun h => by cases h) (fun h => absurd h (by show ¬ 1 < 0; omega))))
theorem rfs3:RSc (.mk 3 [] [] [.mk 1 [0] [] []]) := rsc_of lok_fill3 rfl (fun b hb => by
  have:b = .mk 1 [0] [] [] := List.mem_singleton.1 hb
  subst this; exact rlit_e)
theorem rfs {k:Int} (h:k = 1∨k = 2∨k = 3):RSc (fillA k) := by
  rcases h with rfl | rfl | rfl
  · exact rfs1
  · exact rfs2
  · exact rfs3
end Go.Proofs.YtflbmbkhjcbhoaaGreatDoor
namespace Go.Proofs.YtflbmbkhjcbhoaaGreatDoor
open Go Go.Ab
set_option maxRecDepth 100000
def conC2 (its:List Arr):Con := fun k _ _ => match k with
  | 121 => some (sCl Arr.row1 Arr.row1 (fun b => b ∈ its))
  | _ => none
noncomputable def Ec2 (a:Arr):Senv := { EC (conC2 a.it) 33 5 [18] (fun id => match id with | 1 => ([0,1,2,3,5,6,4,7,8,9,10],[4,7,9,10]) | 5 => ([0,1,2,3,4,5,6,7,8,9,10,11],[7,8,9,11]) | _ => ([],[])) with
  gh := fun b => match b with
    | 0 => [.cell 11 403]
    | _ => []
  ann := fun b _env S => match b with
    | 0 => some { slots := [4],keep := [1,2,3],α := Nat × Nat,st := fun y => ([.int .i64 y.1],⟨setO S.objs 11 (.cells ((cellsO S.objs 11).set 3 (.sl 4 y.1 (fun j => (a.it.getD j default).row1) (.tok 2 y.2)))),[(2,y.2)]⟩),inv := fun y => y.1 ≤ a.it.length,mu := fun y => a.it.length - y.1 }
    | _ => none }
theorem app_rw {α : Type} {its : List α} {g : α → List D} (d : α) {j : Nat} :
    ∀ i,i < j + 1→appF j (fun i => g (its.getD i d)) (fun i => [g (its.getD j d)].getD i []) i = g (its.getD i d) := by
  intro i hi
  simp only [appF]
  split
  · rfl
  · have:i = j := by omega
    subst this
    simp
noncomputable section
def cl2q0 (p0:Arr):Nat := LN (Arr.sh p0)
def cl2q1 (p0:Arr):Nat := N0 + cl2q0 p0
def cl2q2 (p0:Arr):Nat := cl2q1 p0 * (8:Nat)
def cl2q3 (p0:Arr):Nat := LN (Arr.nu p0)
def cl2q4 (p0:Arr) (p1:Nat):List D := [ZI (GI (Arr.nu p0) p1)]
def cl2q5 (p0:Arr):D := D.sl N1 (cl2q3 p0) (fun (i:Nat) => cl2q4 p0 i) Mode.any
def cl2q6 (p0:Nat) (p1:Arr):Prop := SM p0∧SM (cl2q5 p1)
def cl2q7 (p0:Arr):Int := Arr.k p0
def cl2q8 (p0:Arr):D := ZI (cl2q7 p0)
def cl2q9 (p0:Nat) (p1:Arr):Prop := SM p0∧SM (cl2q8 p1)
def cl2q10 (p0:Arr):Nat := N0 + cl2q3 p0
def cl2q11 (p0:Arr):Nat := cl2q10 p0 * (8:Nat)
def cl2q12 (p0:Arr):List Arr := Arr.it p0
def cl2q13 (p0:Arr):Nat := LN (cl2q12 p0)
def cl2q14 (p0:Nat) (p1:Arr):Prop := p0 ≤ cl2q13 p1
def cl2q15 (p0:Arr):Prop := SM (cl2q7 p0)
def cl2q16 (p0:Arr) (p1:Nat):List D := [ZI (GI (Arr.sh p0) p1)]
def cl2q17 (p0:Arr) (p1:Nat):List D := appF N0 (fun (_x:Nat) => []) (fun (i:Nat) => cl2q16 p0 i) p1
def cl2q18 (p0:Arr) (p1:Nat):Prop := SM (cl2q1 p0)∧(∀ (i:Nat),i < cl2q1 p0→SM (cl2q17 p0 i))∧SM p1
def cl2q19 (p0:Arr) (p1:Nat):List D := appF N0 (fun (_x:Nat) => []) (fun (i:Nat) => cl2q4 p0 i) p1
def cl2q20 (p0:Arr) (p1:Nat):Prop := SM (cl2q10 p0)∧(∀ (i:Nat),i < cl2q10 p0→SM (cl2q19 p0 i))∧SM p1
def cl2q21:Arr := DA
def cl2q22 (p0:Arr) (p1:Nat):Arr := List.getD (cl2q12 p0) p1 cl2q21
def cl2q23 (p0:Arr) (p1:Nat):List Int := Arr.sh (cl2q22 p0 p1)
def cl2q24 (p0:Arr) (p1:Nat):List Int := Arr.nu (cl2q22 p0 p1)
def cl2q25 (p0:Arr) (p1:Nat):List Arr := Arr.it (cl2q22 p0 p1)
def cl2q26 (p0:Arr) (p1:Nat):List D := [ZI (Arr.k (cl2q22 p0 p1)),SI (cl2q23 p0 p1),SI (cl2q24 p0 p1),D.sl N4 (LN (cl2q25 p0 p1)) (fun (i:Nat) => Arr.row (List.getD (cl2q25 p0 p1) i cl2q21)) Mode.any]
def cl2q27:Prop := SM N0∧(∀ (i:Nat),i < N0→eqOf (List D) [] [])∧True
def cl2q28 (p0:Arr) (p1:Nat):Prop := SM (cl2q26 p0 p1)
def cl2q29 (p0 p1:Nat) (p2:Arr):Prop := SM p0∧(SM Z0∧cl2q27∧cl2q27∧cl2q27∧True)∧SM p1∧(cl2q15 p2∧(SM (cl2q0 p2)∧(∀ (i:Nat),i < cl2q0 p2→SM (cl2q16 p2 i))∧True)∧(SM (cl2q3 p2)∧(∀ (i:Nat),i < cl2q3 p2→SM (cl2q4 p2 i))∧True)∧(SM (cl2q13 p2)∧(∀ (i:Nat),i < cl2q13 p2→cl2q28 p2 i)∧True)∧True)∧True
def cl2q30 (p0:Arr) (p1:Nat):Arr := List.getD (cl2q12 p0) (Int.toNat (↑p1:Int)) cl2q21
def cl2q31 (p0:Arr) (p1:Nat):List Int := Arr.sh (cl2q30 p0 p1)
def cl2q32 (p0:Arr) (p1:Nat):Nat := LN (cl2q31 p0 p1)
def cl2q33 (p0:Arr) (p1:Nat):List Int := Arr.nu (cl2q30 p0 p1)
def cl2q34 (p0:Arr) (p1:Nat):Nat := LN (cl2q33 p0 p1)
def cl2q35 (p0:Arr) (p1:Nat):List Arr := Arr.it (cl2q30 p0 p1)
def cl2q36 (p0:Arr) (p1:Nat):Nat := LN (cl2q35 p0 p1)
def cl2q37 (p0:Arr) (p1:Nat):List D := Arr.row (cl2q22 p0 p1)
def cl2q38 (p0:Nat) (p1:Arr) (p2:Nat):D := D.sl N4 p0 (fun (j:Nat) => cl2q26 p1 j) (Mode.tok N2 p2)
def cl2q39 (p0 p1:Nat) (p2:Arr) (p3:Nat):Prop := SM p0∧SM (cl2q38 p1 p2 p3)
def cl2q40 (p0:Arr):D := D.sl N1 (cl2q0 p0) (fun (i:Nat) => cl2q16 p0 i) Mode.any
def cl2q41 (p0:Nat) (p1:Arr) (p2 p3 p4 p5:Nat):Prop := cl2q9 p0 p1∧SM p2∧∀ (t:Nat),(∃ (x:Nat × Nat),cl2q14 x.1 p1∧(Z0 = (NI x.1)∧True)∧(SM p2∧(cl2q15 p1∧cl2q18 p1 p3∧cl2q20 p1 p4∧(N0 = x.1∧(∀ (i:Nat),i < N0→eqOf (List D) [] (cl2q26 p1 i))∧t = x.2)∧True)∧cl2q29 p5 p0 p1)∧t = x.2∧True)∧∀ (x:Nat × Nat),cl2q14 x.1 p1→SM p0∧ifB (decide ((NI x.1) < (NI (cl2q13 p1)))) (SM p2∧SM p0∧side (Z0 ≤ (NI x.1)∧(NI x.1) < (NI (cl2q13 p1))) (∃ (x_1:Arr),((Arr.k (cl2q30 p1 x.1) = cl2q7 x_1∧(cl2q32 p1 x.1 = cl2q0 x_1∧(∀ (i:Nat),i < cl2q32 p1 x.1→[ZI (GI (cl2q31 p1 x.1) i)] = cl2q16 x_1 i)∧True)∧(cl2q34 p1 x.1 = cl2q3 x_1∧(∀ (i:Nat),i < cl2q34 p1 x.1→[ZI (GI (cl2q33 p1 x.1) i)] = cl2q4 x_1 i)∧True)∧(cl2q36 p1 x.1 = cl2q13 x_1∧(∀ (i:Nat),i < cl2q36 p1 x.1→Arr.row (List.getD (cl2q35 p1 x.1) i cl2q21) = cl2q37 x_1 i)∧True)∧True)∧True)∧(True∧True)∧x_1 ∈ cl2q12 p1∧∀ (_y:Unit),True→cl2q39 p2 x.1 p1 x.2∧cl2q39 p2 x.1 p1 x.2∧SM x.2∧side ((x.1 + N1) * (80:Nat) ≤ (140737488355328:Nat)∧x.1 + N1 ≤ (9223372036854775807:Nat)) (∀ (t:Nat),SM p2∧(SM (D.ref N0 p0 N0)∧SM (D.ref (max (N0 + N1) N0) p5 N0)∧SM (D.ref (max N2 (max (N0 + N1) N0) + nat_lit 9) p2 N0)∧True)∧∃ (y:Nat × Nat),cl2q14 y.1 p1∧cl2q13 p1 - y.1 < cl2q13 p1 - x.1∧(IntKind.wrap IntKind.i64 ((NI x.1) + Z1) = (NI y.1)∧True)∧(SM p2∧(cl2q15 p1∧cl2q18 p1 p3∧cl2q20 p1 p4∧(x.1 + N1 = y.1∧(∀ (i:Nat),i < x.1 + N1→appF x.1 (fun (j:Nat) => cl2q26 p1 j) (fun (i:Nat) => List.getD [[cl2q8 x_1,cl2q40 x_1,cl2q5 x_1,D.sl N4 (cl2q13 x_1) (fun (i:Nat) => cl2q37 x_1 i) Mode.any]] i []) i = cl2q26 p1 i)∧t = y.2)∧True)∧cl2q29 p5 p0 p1)∧t = y.2∧True))) (SM p2∧SM p5∧(SM p5∧True)∧∃ (_y:Unit),True∧(cl2q15 p1∧(cl2q1 p1 = cl2q0 p1∧(∀ (i:Nat),i < cl2q1 p1→cl2q17 p1 i = cl2q16 p1 i)∧True)∧(cl2q10 p1 = cl2q3 p1∧(∀ (i:Nat),i < cl2q10 p1→cl2q19 p1 i = cl2q4 p1 i)∧True)∧(x.1 = cl2q13 p1∧(∀ (i:Nat),i < x.1→cl2q28 p1 i)∧True)∧True)∧True∧True)
def cl2q42 (p0:Nat) (p1:Arr) (p2 p3 p4:Nat):Prop := cl2q6 p0 p1∧cl2q9 p0 p1∧side (cl2q11 p1 ≤ (140737488355328:Nat)∧cl2q10 p1 ≤ (9223372036854775807:Nat)) (∀ (t:Nat),cl2q41 p0 p1 p2 p3 t p4)
end
theorem c2_step (a : Arr) (ha : a.nu.length ≤ 1000000 ∧ a.it.length ≤ 1000000 ∧ a.sh.length ≤ 1000000) (hc : ConOk Tryz.prog (conC2 a.it)) :
    ACalls Tryz.prog 121 ((sCl Arr.row2 Arr.row2 (fun _ => True)).args a) ⟨[],[]⟩ (SpecR (sCl Arr.row2 Arr.row2 (fun _ => True)) a) := by
  refine con_of (A := sCl Arr.row2 Arr.row2 (fun _ => True)) (x := a) (E := Ec2 a) (eOk hc rfl) Tryz.func121 rfl (by kernel_rfl) rfl (by simp [sCl,Ec2,EC,E0]) ?_
  refine vc_eq (T :=
    ∀ (x:Nat),True→∀ (x_1:Nat),x ≠ x_1∧True→SM x∧SM x∧SM x∧side (cl2q2 a ≤ (140737488355328:Nat)∧cl2q1 a ≤ (9223372036854775807:Nat)) (∀ (t:Nat),cl2q6 x a∧cl2q9 x a∧side (cl2q11 a ≤ (140737488355328:Nat)∧cl2q10 a ≤ (9223372036854775807:Nat)) (∀ (t_1:Nat),cl2q9 x a∧∀ (x_2:Nat),x_1 ≠ x_2∧x ≠ x_2∧True→cl2q41 x a x_2 t t_1 x_1)∧∀ (x_2:Nat),x_1 ≠ x_2∧x ≠ x_2∧True→cl2q42 x a x_2 t x_1)∧∀ (x_2:Nat),x_1 ≠ x_2∧x ≠ x_2∧True→cl2q6 x a∧(SM x∧SM (cl2q40 a))∧cl2q9 x a∧side (cl2q2 a ≤ (140737488355328:Nat)∧cl2q1 a ≤ (9223372036854775807:Nat)) (∀ (t:Nat),cl2q42 x a x_2 t x_1)) (by kernel_rfl) ?_
  delta DA GI LN N0 N1 N2 N4 NI SI SM Z0 Z1 ZI cl2q0 cl2q1 cl2q10 cl2q11 cl2q12 cl2q13 cl2q14 cl2q15 cl2q16 cl2q17 cl2q18 cl2q19 cl2q2 cl2q20 cl2q21 cl2q22 cl2q23 cl2q24 cl2q25 cl2q26 cl2q27 cl2q28 cl2q29 cl2q3 cl2q30 cl2q31 cl2q32 cl2q33 cl2q34 cl2q35 cl2q36 cl2q37 cl2q38 cl2q39 cl2q4 cl2q40 cl2q41 cl2q42 cl2q5 cl2q6 cl2q7 cl2q8 cl2q9
  have da:(default:Arr) = Arr.mk 0 [] [] [] := rfl
  simp only [← da,eq_self,implies_true,Int.toNat_natCast,ifB_iff,side_iff,decide_eq_true_eq,decide_eq_false_iff_not,true_and,and_true,exists_const,forall_const]
  obtain ⟨l1,l2,l3⟩ := ha
  repeat' (first | (rintro ⟨j,t⟩ (hj:j ≤ a.it.length)) | intro _ | refine And.intro ?_ ?_)
  all_goals try simp only at *
  all_goals first
    | omega
    | exact ⟨(0,_),Nat.zero_le _,rfl,⟨rfl,fun i hi => absurd hi (Nat.not_lt_zero _),rfl⟩,rfl⟩
    | exact ⟨a.it.getD j default,⟨rfl,⟨rfl,fun _ _ => rfl⟩,⟨rfl,fun _ _ => rfl⟩,rfl,fun _ _ => rfl⟩,mem_getD (by omega),⟨by omega,by omega⟩,fun t2 => ⟨(j + 1,t2),by simp only; omega,by simp only; omega,wrap_i64' (by omega) (by omega),⟨rfl,app_rw (g := Arr.row1) default,rfl⟩,rfl⟩⟩
    | (simp [appF]; done)
    | (have e : j = a.it.length := by omega
       subst e; rfl)
    | trace_state
  done
theorem c2_all:∀ (a:Arr),(chkA a).1 = 0→ACalls Tryz.prog 121 [.agg a.row1] ⟨[],[]⟩ (SpecR (sCl Arr.row1 Arr.row1 (fun _ => True)) a)
  | .mk k s n is,h => by
    obtain ⟨h1,h2,h3,h4⟩ := chkA_zero h
    have hc:ConOk Tryz.prog (conC2 (Arr.mk k s n is).it) := by
      intro k' ds S A hk
      unfold conC2 at hk
      split at hk
      · injection hk with hk; subst hk
        refine ConOk.plain (fun (b:Arr) hb => ?_) rfl rfl
        have hb':b ∈ is := hb
        exact (c2_all b (h4 b hb')).mono fun _ _ ⟨y,q1,q2,q3⟩ => ⟨y,q1,q2,q3⟩
      · cases hk
    have hm := c2_step (.mk k s n is) ⟨by show n.length ≤ _; omega,by show is.length ≤ _; omega,by show s.length ≤ _; omega⟩ hc
    have hm2:ACalls Tryz.prog 121 [.agg (Arr.mk k s n is).row1] ⟨[],[]⟩ (SpecR (sCl Arr.row2 Arr.row2 (fun _ => True)) (.mk k s n is)) := by
      refine ACalls.wkArgs hm ?_
      simp only [sCl,wkL,wkD]
      exact ⟨row1_wk _,trivial⟩
    refine ACalls.wkEnd hm2 fun r S' ⟨y,q1,q2,q3⟩ => ?_
    subst q2 q3
    refine ⟨.ret (.agg (Arr.mk k s n is).row1),fun C e he => ?_,⟨(),trivial,rfl,rfl⟩⟩
    cases e with
    | returned v =>
      refine wkD_weak (.agg (Arr.mk k s n is).row2) _ ?_ C v he
      simp only [wkD]
      exact row2_row1 _
    | panicked _ => exact he.elim
    | outgrown => exact he.elim
termination_by a => SizeOf.sizeOf a
decreasing_by
  have := List.sizeOf_lt_of_mem hb'
  simp; omega
end Go.Proofs.YtflbmbkhjcbhoaaGreatDoor
namespace Go.Proofs.YtflbmbkhjcbhoaaGreatDoor
open Go Go.Ab
set_option maxRecDepth 100000
def RCl (a:Arr):Prop := ACalls Tryz.prog 121 [.agg a.row1] ⟨[],[]⟩ (SpecR (sCl Arr.row1 Arr.row1 (fun _ => True)) a)
theorem conCr_of {its:List Arr} (h:∀ b ∈ its,RCl b):ConOk Tryz.prog (conCr its) := by
  intro k' ds S A hk
  unfold conCr at hk
  split at hk
  · injection hk with hk; subst hk
    exact ConOk.plain (fun (b:Arr) hb => (h b hb).mono fun _ _ ⟨y,q1,q2,q3⟩ => ⟨y,q1,q2,q3⟩) rfl rfl
  · exact conRf_ok _ _ _ _ hk
theorem rlit_all0 (hcl:∀ b:Arr,(chkA b).1 = 0→RCl b):∀ (a:Arr),a.ok→(chkA a).1 = 0→RLit a
  | .mk k s n is,ho,h => by
    have lo := lok_of ho h
    have hv := (chkA_zero h).2.2.2
    have hok:∀ b ∈ is,b.ok := by
      simp only [Arr.ok] at ho
      exact (okL_iff _).1 ho.2.2.2.2.2.2
    have ih:∀ b ∈ is,RLit b := fun b hb => rlit_all0 hcl b (hok b hb) (hv b hb)
    refine rlit_row2 (rlit_step (.mk k s n is) lo (conRl_ok lo ih (rfs lo.kd) (fun h1 => ?_) (fun _ => conCr_of fun b hb => hcl b (hv b hb)) (fun h1 _ => rlit_line lo ih (rfs lo.kd) h1)))
    have hsub:∀ c ∈ (atA (.mk k s n is) 0).it,c ∈ is := by
      intro c hc
      unfold atA at hc
      by_cases h3:(Arr.mk k s n is).k = 3
      · rw [if_pos h3] at hc
        have h2:is.length = 1 := by
          have h4:n = [] := lo.bx h3
          have h1:n.length + is.length = 1 := h1
          rw [h4] at h1; simpa using h1
        have:c = is.getD 0 default := List.mem_singleton.1 hc
        rw [this]; exact mem_getD (by omega)
      · rw [if_neg h3] at hc; cases hc
    have lo' := lok_at lo h1
    refine rsc_of lo' (lo'.sc ?_) (fun c hc => ih c (hsub c hc))
    unfold atA
    split <;> rfl
termination_by a => SizeOf.sizeOf a
decreasing_by
  have := List.sizeOf_lt_of_mem hb
  simp; omega
theorem rlit_all (a:Arr) (ho:a.ok) (h:(chkA a).1 = 0):RLit a := rlit_all0 (fun b hb => c2_all b hb) a ho h
end Go.Proofs.YtflbmbkhjcbhoaaGreatDoor
namespace Go.Proofs.YtflbmbkhjcbhoaaGreatDoor
open Go Go.Ab
set_option maxRecDepth 100000
def conRtl (a:Arr):Con := fun k _ _ => match k with
  | 28 => some (sRc Arr.row1 (fun b => b = a) errA)
  | 78 => some (sRc Arr.row1 (fun b => b = a∧(chkA a).1 = 0) (fun b => .str (litA b)))
  | _ => none
theorem conRtl_ok {a:Arr} (ho:a.ok):ConOk Tryz.prog (conRtl a) := by
  intro k ds S A h
  unfold conRtl at h
  split at h
  · injection h with h; subst h
    refine ConOk.plain (fun b hb => ?_) rfl rfl
    have hb:b = a := hb
    rw [hb]
    exact sRc_row (rri_ok a ho)
  · injection h with h; subst h
    refine ConOk.plain (fun b hb => ?_) rfl rfl
    obtain ⟨hb,h1⟩:b = a∧(chkA a).1 = 0 := hb
    rw [hb]
    exact sRc_row (rlit_all a ho h1)
  · cases h
noncomputable def Ertl (a:Arr):Senv := EC (conRtl a) 8 3 [5] (fun _ => ([],[]))
noncomputable section
def le5q0 (p0:Arr):Nat := LN (Arr.sh p0)
def le5q1 (p0:Arr) (p1:Nat):List D := [ZI (GI (Arr.sh p0) p1)]
def le5q2 (p0:Arr):Nat := LN (Arr.nu p0)
def le5q3 (p0:Arr) (p1:Nat):List D := [ZI (GI (Arr.nu p0) p1)]
def le5q4 (p0:Arr):Nat := LN (Arr.it p0)
def le5q5 (p0:Arr) (p1:Nat):List D := Arr.row (GA (Arr.it p0) p1)
def le5q6 (p0 p1:Arr):Prop := (Arr.k p0 = Arr.k p1∧(le5q0 p0 = le5q0 p1∧(∀ (i:Nat),i < le5q0 p0→le5q1 p0 i = le5q1 p1 i)∧True)∧(le5q2 p0 = le5q2 p1∧(∀ (i:Nat),i < le5q2 p0→le5q3 p0 i = le5q3 p1 i)∧True)∧(le5q4 p0 = le5q4 p1∧(∀ (i:Nat),i < le5q4 p0→le5q5 p0 i = le5q5 p1 i)∧True)∧True)∧True
end
theorem rlitF_ok (a : Arr) (ho : a.ok) :
    ACalls Tryz.prog 38 ((sRc Arr.row1 (fun _ => True) (fun b => .str (litF b))).args a) ⟨[],[]⟩ (SpecR (sRc Arr.row1 (fun _ => True) (fun b => .str (litF b))) a) := by
  refine con_of (A := sRc Arr.row1 (fun _ => True) (fun b => .str (litF b))) (x := a) (E := Ertl a) (eOk (conRtl_ok ho) rfl) Tryz.func38 rfl (by kernel_rfl) rfl (by simp [sRc,Ertl,EC,E0]) ?_
  refine vc_eq (T :=
    ∀ (x:Nat),True→SM x∧∃ (x_1:Arr),le5q6 a x_1∧(True∧True)∧x_1 = a∧∀ (y:Unit),True→ifB (Prod.fst (chkA x_1) != Z0) (True∧∃ (y:Unit),True∧eqOf (List UInt8) [] (litF a)∧True∧True) (SM x∧∃ (x:Arr),le5q6 a x∧(True∧True)∧(x = a∧Prod.fst (chkA a) = Z0)∧∀ (y:Unit),True→True∧∃ (y:Unit),True∧litA x = litF a∧True∧True)) (by kernel_rfl) ?_
  delta DA GA GI LN SM Z0 ZI le5q0 le5q1 le5q2 le5q3 le5q4 le5q5 le5q6
  have da:(default:Arr) = Arr.mk 0 [] [] [] := rfl
  simp only [← da,ifB_iff,true_and,and_true,bne_iff_ne,ne_eq,exists_const,forall_const]
  refine ⟨a,⟨rfl,⟨rfl,fun _ _ => rfl⟩,⟨rfl,fun _ _ => rfl⟩,rfl,fun _ _ => rfl⟩,rfl,fun h => by rw [litF,if_neg h],fun h => ?_⟩
  have h:(chkA a).1 = 0 := by simpa using h
  exact ⟨a,⟨rfl,⟨rfl,fun _ _ => rfl⟩,⟨rfl,fun _ _ => rfl⟩,rfl,fun _ _ => rfl⟩,⟨rfl,h⟩,by rw [litF,if_pos h]⟩
end Go.Proofs.YtflbmbkhjcbhoaaGreatDoor
namespace Go.Proofs.YtflbmbkhjcbhoaaGreatDoor
open Go Go.Ab
set_option maxRecDepth 100000
def conRw (c:CodD):Con := fun k ds S => match k with
  | 11 => some (pC ds (.int .i64 (rightC c)) (weakL ds [.agg c.row1]))
  | 38 => some (sRc Arr.row1 (fun b => b ∈ c.consts) (fun b => .str (litF b)))
  | 39 => match ds with
    | [.int .i64 i,.agg [.int .i64 a,.int .i64 b,.int .i64 d,.int .i64 e]] => some (pC [.int .i64 i,.agg (I4.row ⟨a,b,d,e⟩)] (.str (lineT i ⟨a,b,d,e⟩)) (inI64 i∧I4.ok ⟨a,b,d,e⟩∧0 ≤ a∧a < 28))
    | _ => none
  | 40 => match ds with
    | [.int .i64 z,_] => some (pC ds (.str (kerT z.toNat (c.kers.getD z.toNat default))) (weakL ds [.int .i64 z.toNat,.agg (KeD.row (c.kers.getD z.toNat default))]∧z.toNat < c.kers.length))
    | _ => none
  | 41 => match ds with
    | [.int .i64 z,_] => some (pC ds (.str (lanT z.toNat (c.lanes.getD z.toNat default))) (weakL ds [.int .i64 z.toNat,.agg (LaD.row (c.lanes.getD z.toNat default))]∧z.toNat < c.lanes.length))
    | _ => none
  | k => conRl2 k ds S
theorem conRw_ok {c:CodD} (hc:c.ok) (hs:SmC c):ConOk Tryz.prog (conRw c) := by
  intro k ds S A h
  unfold conRw at h
  split at h
  · injection h with h; subst h
    exact pC_ok fun e => ⟨weakL_refl _,sC_weak e (wk_row (rrt_ok c hc fun f hf => by have := hs.fs f hf; omega) (crow1_row c))⟩
  · injection h with h; subst h
    refine ConOk.plain (fun (b:Arr) hb => ?_) rfl rfl
    exact (rlitF_ok b (hc.1 b hb)).mono fun _ _ ⟨y,q1,q2,q3⟩ => ⟨y,q1,q2,q3⟩
  · split at h
    · injection h with h; subst h
      exact pC_ok fun ⟨h1,h2,h3⟩ => ⟨weakL_refl _,rlineT_ok _ _ h1 h2 h3⟩
    · cases h
  · split at h
    · injection h with h; subst h
      exact pC_ok fun ⟨e,hf⟩ => ⟨weakL_refl _,sC_weak e (rker_ok2 _ _ (by have := hs.kl; omega) (hc.2.2.1 _ (getD_mem' hf)) (hs.ks _ hf))⟩
    · cases h
  · split at h
    · injection h with h; subst h
      exact pC_ok fun ⟨e,hf⟩ => ⟨weakL_refl _,sC_weak e (rlan_ok _ _ (by have := hs.ll; omega) (hc.2.2.2.1 _ (getD_mem' hf)) (hs.ls _ hf))⟩
    · cases h
  · exact conRl2_ok _ _ _ _ h
theorem s8_end (c:CodD) (i:Nat):s6 c i ++ kerT i (c.kers.getD i default) = s8 c i (c.kers.getD i default).ops.length := rfl
theorem s12_end (c:CodD) (i:Nat):s10 c i ++ lanT i (c.lanes.getD i default) = s12 c i (c.lanes.getD i default).code.length := rfl
noncomputable def Erw (c:CodD):Senv := { EC (conRw c) 112 9 [11,16,37,63,83,99] (fun id => match id with | 7 => ([0,1,2,6,7,8,9,10,3,4,5,11,12,13,14],[3,11]) | 11 => ([0,1,2,6,7,8,9,10,11,3,4,5,12,13,14,15],[3,12]) | _ => ([],[])) with
  ann := fun q env S => match q with
    | 0 => some { slots := [3,4],keep := [0,1],α := Nat × List UInt8,st := fun y => ([.str y.2,.int .i64 y.1],S),inv := fun y => y.1 ≤ c.consts.length∧y.2 = s0 c y.1,mu := fun y => c.consts.length - y.1 }
    | 2 => some { slots := [3,5],keep := [0,1],α := Nat × List UInt8,st := fun y => ([.str y.2,.int .i64 y.1],S),inv := fun y => y.1 ≤ c.funs.length∧y.2 = s2 c y.1,mu := fun y => c.funs.length - y.1 }
    | 4 => some { slots := [3,6],keep := [0,1,5],α := Nat × List UInt8,st := fun y => ([.str y.2,.int .i64 y.1],S),inv := fun y => y.1 ≤ (c.funs.getD (numOf (Ab.look env 5)).toNat default).code.length∧y.2 = s4 c (numOf (Ab.look env 5)).toNat y.1,mu := fun y => (c.funs.getD (numOf (Ab.look env 5)).toNat default).code.length - y.1 }
    | 6 => some { slots := [3,7],keep := [0,1],α := Nat × List UInt8,st := fun y => ([.str y.2,.int .i64 y.1],S),inv := fun y => y.1 ≤ c.kers.length∧y.2 = s6 c y.1,mu := fun y => c.kers.length - y.1 }
    | 8 => some { slots := [3,8],keep := [0,1],α := Nat × List UInt8,st := fun y => ([.str y.2,.int .i64 y.1],S),inv := fun y => y.1 ≤ c.lanes.length∧y.2 = s10 c y.1,mu := fun y => c.lanes.length - y.1 }
    | _ => none }
noncomputable section
def rs4q0 (p0:CodD):List Arr := CodD.consts p0
def rs4q1 (p0:CodD):Nat := LN (rs4q0 p0)
def rs4q2:Arr := DA
def rs4q3 (p0:CodD) (p1:Nat):Arr := List.getD (rs4q0 p0) p1 rs4q2
def rs4q4 (p0:CodD) (p1:Nat):List Int := Arr.sh (rs4q3 p0 p1)
def rs4q5 (p0:CodD) (p1:Nat):List Int := Arr.nu (rs4q3 p0 p1)
def rs4q6 (p0:CodD) (p1:Nat):List Arr := Arr.it (rs4q3 p0 p1)
def rs4q7 (p0:CodD) (p1:Nat):List D := [ZI (Arr.k (rs4q3 p0 p1)),SI (rs4q4 p0 p1),SI (rs4q5 p0 p1),D.sl N4 (LN (rs4q6 p0 p1)) (fun (i:Nat) => Arr.row (List.getD (rs4q6 p0 p1) i rs4q2)) Mode.any]
def rs4q8 (p0:CodD):List FnD := CodD.funs p0
def rs4q9 (p0:CodD):Nat := LN (rs4q8 p0)
def rs4q10:FnD := DF
def rs4q11 (p0:CodD) (p1:Nat):FnD := List.getD (rs4q8 p0) p1 rs4q10
def rs4q12 (p0:CodD) (p1:Nat):List I4 := FnD.code (rs4q11 p0 p1)
def rs4q13:I4 := D4
def rs4q14 (p0:CodD) (p1 p2:Nat):I4 := List.getD (rs4q12 p0 p1) p2 rs4q13
def rs4q15 (p0:CodD) (p1:Nat):List D := [ZI (FnD.slots (rs4q11 p0 p1)),D.sl N4 (LN (rs4q12 p0 p1)) (fun (i:Nat) => (R4 (rs4q14 p0 p1 i))) Mode.any]
def rs4q16 (p0:CodD):List KeD := CodD.kers p0
def rs4q17 (p0:CodD):Nat := LN (rs4q16 p0)
def rs4q18:KeD := DK
def rs4q19 (p0:CodD) (p1:Nat):KeD := List.getD (rs4q16 p0) p1 rs4q18
def rs4q20 (p0:CodD) (p1:Nat):List I4 := KeD.ops (rs4q19 p0 p1)
def rs4q21 (p0:CodD) (p1 p2:Nat):I4 := List.getD (rs4q20 p0 p1) p2 rs4q13
def rs4q22 (p0:CodD) (p1:Nat):List D := [ZI (KeD.inputs (rs4q19 p0 p1)),D.sl N4 (LN (rs4q20 p0 p1)) (fun (i:Nat) => (R4 (rs4q21 p0 p1 i))) Mode.any,ZI (KeD.reduce (rs4q19 p0 p1)),ZI (KeD.at_ (rs4q19 p0 p1))]
def rs4q23 (p0:CodD):List LaD := CodD.lanes p0
def rs4q24 (p0:CodD):Nat := LN (rs4q23 p0)
def rs4q25:LaD := DL
def rs4q26 (p0:CodD) (p1:Nat):LaD := List.getD (rs4q23 p0) p1 rs4q25
def rs4q27 (p0:CodD) (p1:Nat):List I6 := LaD.code (rs4q26 p0 p1)
def rs4q28:I6 := D6
def rs4q29 (p0:CodD) (p1 p2:Nat):I6 := List.getD (rs4q27 p0 p1) p2 rs4q28
def rs4q30 (p0:CodD) (p1:Nat):List D := [ZI (LaD.regs (rs4q26 p0 p1)),D.sl N6 (LN (rs4q27 p0 p1)) (fun (i:Nat) => (R6 (rs4q29 p0 p1 i))) Mode.any]
def rs4q31 (p0:CodD):Prop := ((SM (rs4q1 p0)∧(∀ (i:Nat),i < rs4q1 p0→SM (rs4q7 p0 i))∧True)∧(SM (rs4q9 p0)∧(∀ (i:Nat),i < rs4q9 p0→SM (rs4q15 p0 i))∧True)∧(SM (rs4q17 p0)∧(∀ (i:Nat),i < rs4q17 p0→SM (rs4q22 p0 i))∧True)∧(SM (rs4q24 p0)∧(∀ (i:Nat),i < rs4q24 p0→SM (rs4q30 p0 i))∧True)∧True)∧True
def rs4q32 (p0:Nat) (p1:CodD) (p2:List UInt8):Prop := p0 ≤ rs4q1 p1∧p2 = s0 p1 p0
def rs4q33 (p0:Nat) (p1:CodD):Prop := (SM p0∧rs4q31 p1)∧True
def rs4q34 (p0:Nat):Prop := inI64 (↑p0:Int)
def rs4q35 (p0:CodD):D := D.sl N4 (rs4q1 p0) (fun (i:Nat) => rs4q7 p0 i) Mode.any
def rs4q36 (p0:Nat):List UInt8 := (32:UInt8) :: showI (↑p0:Int)
def rs4q37 (p0:List UInt8) (p1:Nat):List UInt8 := p0 ++ [(99:UInt8),(111:UInt8),(110:UInt8),(115:UInt8),(116:UInt8)] ++ rs4q36 p1
def rs4q38 (p0:Nat):Nat := Int.toNat (↑p0:Int)
def rs4q39 (p0:CodD) (p1:Nat):Arr := List.getD (rs4q0 p0) (rs4q38 p1) rs4q2
def rs4q40 (p0:CodD) (p1:Nat):List Int := Arr.sh (rs4q39 p0 p1)
def rs4q41 (p0:CodD) (p1:Nat):Nat := LN (rs4q40 p0 p1)
def rs4q42 (p0:CodD) (p1:Nat):List Int := Arr.nu (rs4q39 p0 p1)
def rs4q43 (p0:CodD) (p1:Nat):Nat := LN (rs4q42 p0 p1)
def rs4q44 (p0:CodD) (p1:Nat):List Arr := Arr.it (rs4q39 p0 p1)
def rs4q45 (p0:CodD) (p1:Nat):Nat := LN (rs4q44 p0 p1)
def rs4q46 (p0:List UInt8) (p1:Nat):List UInt8 := rs4q37 p0 p1 ++ [(32:UInt8)]
def rs4q47 (p0:List UInt8) (p1:Nat) (p2:Arr):List UInt8 := rs4q46 p0 p1 ++ litF p2
def rs4q48 (p0:CodD):D := D.sl N2 (rs4q9 p0) (fun (i:Nat) => rs4q15 p0 i) Mode.any
def rs4q49 (p0:CodD):D := D.agg [rs4q35 p0,rs4q48 p0,D.sl N4 (rs4q17 p0) (fun (i:Nat) => rs4q22 p0 i) Mode.any,D.sl N2 (rs4q24 p0) (fun (i:Nat) => rs4q30 p0 i) Mode.any]
def rs4q50 (p0:CodD):Prop := SM (rs4q49 p0)
def rs4q51 (p0:CodD) (p1:Nat):Prop := rs4q50 p0∧SM (D.ref N0 p1 N0)∧True
def rs4q52 (p0 p1:Nat):Prop := IntKind.wrap IntKind.i64 ((↑p0:Int) + Z1) = (↑p1:Int)∧True
def rs4q53 (p0:Nat) (p1:CodD) (p2:List UInt8):Prop := p0 ≤ rs4q9 p1∧p2 = s2 p1 p0
def rs4q54 (p0 p1:List UInt8) (p2 p3:Nat) (p4:CodD):Prop := (p0 = p1∧Z0 = (↑p2:Int)∧True)∧rs4q33 p3 p4
def rs4q55 (p0:CodD):Int := (NI (rs4q9 p0))
def rs4q56 (p0:List UInt8) (p1:Nat):List UInt8 := p0 ++ [(102:UInt8),(117:UInt8),(110:UInt8)] ++ rs4q36 p1
def rs4q57 (p0:CodD) (p1:Nat):FnD := List.getD (rs4q8 p0) (rs4q38 p1) rs4q10
def rs4q58 (p0:CodD) (p1:Nat):Int := FnD.slots (rs4q57 p0 p1)
def rs4q59 (p0:List UInt8) (p1:Nat):List UInt8 := rs4q56 p0 p1 ++ [(32:UInt8),(115:UInt8),(108:UInt8),(111:UInt8),(116:UInt8),(115:UInt8)]
def rs4q60 (p0:CodD) (p1:Nat):List UInt8 := (32:UInt8) :: showI (rs4q58 p0 p1)
def rs4q61 (p0:List UInt8) (p1:Nat) (p2:CodD):List UInt8 := rs4q59 p0 p1 ++ rs4q60 p2 p1
def rs4q62 (p0:Nat):Nat := Int.toNat (numOf (ZI (↑p0:Int)))
def rs4q63 (p0:CodD) (p1:Nat):Nat := LN (FnD.code (List.getD (rs4q8 p0) (rs4q62 p1) rs4q10))
def rs4q64 (p0:Nat) (p1:CodD) (p2:Nat) (p3:List UInt8):Prop := p0 ≤ rs4q63 p1 p2∧p3 = s4 p1 (rs4q62 p2) p0
def rs4q65 (p0:CodD) (p1:Nat):List I4 := FnD.code (rs4q57 p0 p1)
def rs4q66 (p0:CodD) (p1:Nat):Int := (LI (rs4q65 p0 p1))
def rs4q67 (p0:CodD) (p1 p2:Nat):I4 := List.getD (rs4q65 p0 p1) (rs4q38 p2) rs4q13
def rs4q68 (p0:CodD) (p1 p2:Nat):Int := I4.a (rs4q67 p0 p1 p2)
def rs4q69 (p0:CodD) (p1 p2:Nat):I4 := I4.mk (rs4q68 p0 p1 p2) (I4.b (rs4q67 p0 p1 p2)) (I4.c (rs4q67 p0 p1 p2)) (I4.d (rs4q67 p0 p1 p2))
def rs4q70 (p0:Nat) (p1:CodD) (p2:Nat):List UInt8 := lineT (↑p0:Int) (rs4q69 p1 p2 p0)
def rs4q71 (p0:CodD) (p1 p2:Nat):Nat := rs4q63 p0 p1 - p2
def rs4q72 (p0:Nat) (p1:CodD) (p2:List UInt8):Prop := p0 ≤ rs4q17 p1∧p2 = s6 p1 p0
def rs4q73 (p0:CodD) (p1:Nat):KeD := List.getD (rs4q16 p0) (rs4q38 p1) rs4q18
def rs4q74 (p0:CodD) (p1:Nat):Int := KeD.inputs (rs4q73 p0 p1)
def rs4q75 (p0:CodD) (p1:Nat):List I4 := KeD.ops (rs4q73 p0 p1)
def rs4q76 (p0:CodD) (p1:Nat):Nat := LN (rs4q75 p0 p1)
def rs4q77 (p0:CodD) (p1 p2:Nat):I4 := List.getD (rs4q75 p0 p1) p2 rs4q13
def rs4q78 (p0:CodD) (p1 p2:Nat):List D := (R4 (rs4q77 p0 p1 p2))
def rs4q79 (p0:CodD) (p1:Nat):Int := KeD.reduce (rs4q73 p0 p1)
def rs4q80 (p0:CodD) (p1:Nat):Int := KeD.at_ (rs4q73 p0 p1)
def rs4q81 (p0:Nat) (p1:CodD):List UInt8 := kerT (rs4q38 p0) (rs4q73 p1 p0)
def rs4q82 (p0:Nat) (p1:CodD) (p2:List UInt8):Prop := p0 ≤ rs4q24 p1∧p2 = s10 p1 p0
def rs4q83 (p0:CodD) (p1:Nat):LaD := List.getD (rs4q23 p0) (rs4q38 p1) rs4q25
def rs4q84 (p0:CodD) (p1:Nat):Int := LaD.regs (rs4q83 p0 p1)
def rs4q85 (p0:CodD) (p1:Nat):List I6 := LaD.code (rs4q83 p0 p1)
def rs4q86 (p0:CodD) (p1:Nat):Nat := LN (rs4q85 p0 p1)
def rs4q87 (p0:CodD) (p1 p2:Nat):I6 := List.getD (rs4q85 p0 p1) p2 rs4q28
def rs4q88 (p0:CodD) (p1 p2:Nat):List D := (R6 (rs4q87 p0 p1 p2))
def rs4q89 (p0:Nat) (p1:CodD):List UInt8 := lanT (rs4q38 p0) (rs4q83 p1 p0)
end
theorem rsw_ok (c:CodD) (hc:c.ok) (hs:SmC c):ACalls Tryz.prog 15 [.agg c.row1] ⟨[],[]⟩ (SpecR (sC [.agg c.row1] (.str (showC c))) ()) := by
  refine con_of (A := sC _ _) (x := ()) (E := Erw c) (eOk (conRw_ok hc hs) rfl) Tryz.func15 rfl (by kernel_rfl) rfl (by simp [sC,Erw,EC,E0]) ?_
  refine vc_eq (T :=
    ∀ (x:Nat),True→SM x∧rs4q31 c∧∀ (y:Unit),True→ifB (rightC c != Z0) (True∧∃ (y:Unit),True∧eqOf (List UInt8) [] (showC c)∧True∧True) ((∃ (x_1:Nat × List UInt8),rs4q32 x_1.1 c x_1.2∧(eqOf (List UInt8) [] x_1.2∧Z0 = (NI x_1.1)∧True)∧rs4q33 x c)∧∀ (x_1:Nat × List UInt8),rs4q32 x_1.1 c x_1.2→SM x∧ifB (decide ((NI x_1.1) < (NI (rs4q1 c)))) (side (LN x_1.2 + (5:Nat) ≤ (9223372036854775807:Nat)) (SM x∧side (Z0 ≤ (NI x_1.1)∧(NI x_1.1) < (NI (rs4q1 c))) (rs4q34 x_1.1∧∀ (y:Unit),True→(SM x∧SM (rs4q35 c))∧side (LN (x_1.2 ++ [(99:UInt8),(111:UInt8),(110:UInt8),(115:UInt8),(116:UInt8)]) + LN (rs4q36 x_1.1) ≤ (9223372036854775807:Nat)) (side (LN (rs4q37 x_1.2 x_1.1) + N1 ≤ (9223372036854775807:Nat)) (∃ (x_2:Arr),((Arr.k (rs4q39 c x_1.1) = Arr.k x_2∧(rs4q41 c x_1.1 = LN (Arr.sh x_2)∧(∀ (i:Nat),i < rs4q41 c x_1.1→[ZI (GI (rs4q40 c x_1.1) i)] = [ZI (GI (Arr.sh x_2) i)])∧True)∧(rs4q43 c x_1.1 = LN (Arr.nu x_2)∧(∀ (i:Nat),i < rs4q43 c x_1.1→[ZI (GI (rs4q42 c x_1.1) i)] = [ZI (GI (Arr.nu x_2) i)])∧True)∧(rs4q45 c x_1.1 = LN (Arr.it x_2)∧(∀ (i:Nat),i < rs4q45 c x_1.1→Arr.row (List.getD (rs4q44 c x_1.1) i rs4q2) = Arr.row (List.getD (Arr.it x_2) i rs4q2))∧True)∧True)∧True)∧(True∧True)∧x_2 ∈ rs4q0 c∧∀ (y:Unit),True→side (LN (rs4q46 x_1.2 x_1.1) + LN (litF x_2) ≤ (9223372036854775807:Nat)) (side (LN (rs4q47 x_1.2 x_1.1 x_2) + N1 ≤ (9223372036854775807:Nat)) (rs4q51 c x∧∃ (y:Nat × List UInt8),rs4q32 y.1 c y.2∧rs4q1 c - y.1 < rs4q1 c - x_1.1∧(rs4q47 x_1.2 x_1.1 x_2 ++ [(10:UInt8)] = y.2∧rs4q52 x_1.1 y.1)∧rs4q33 x c))))))) ((∃ (x_2:Nat × List UInt8),rs4q53 x_2.1 c x_2.2∧rs4q54 x_1.2 x_2.2 x_2.1 x c)∧∀ (x_2:Nat × List UInt8),rs4q53 x_2.1 c x_2.2→SM x∧ifB (decide ((NI x_2.1) < rs4q55 c)) (side (LN x_2.2 + (3:Nat) ≤ (9223372036854775807:Nat)) (SM x∧side (Z0 ≤ (NI x_2.1)∧(NI x_2.1) < rs4q55 c) (rs4q34 x_2.1∧∀ (y:Unit),True→(SM x∧SM (rs4q48 c))∧side (LN (x_2.2 ++ [(102:UInt8),(117:UInt8),(110:UInt8)]) + LN (rs4q36 x_2.1) ≤ (9223372036854775807:Nat)) (side (LN (rs4q56 x_2.2 x_2.1) + N6 ≤ (9223372036854775807:Nat)) (inI64 (rs4q58 c x_2.1)∧∀ (y:Unit),True→side (LN (rs4q59 x_2.2 x_2.1) + LN (rs4q60 c x_2.1) ≤ (9223372036854775807:Nat)) (side (LN (rs4q61 x_2.2 x_2.1 c) + N1 ≤ (9223372036854775807:Nat)) ((∃ (x_3:Nat × List UInt8),rs4q64 x_3.1 c x_2.1 x_3.2∧(rs4q61 x_2.2 x_2.1 c ++ [(10:UInt8)] = x_3.2∧Z0 = (NI x_3.1)∧True)∧rs4q33 x c)∧∀ (x_3:Nat × List UInt8),rs4q64 x_3.1 c x_2.1 x_3.2→SM x∧side (Z0 ≤ (NI x_2.1)∧(NI x_2.1) < rs4q55 c) (ifB (decide ((NI x_3.1) < rs4q66 c x_2.1)) (SM x∧side (Z0 ≤ (NI x_2.1)∧(NI x_2.1) < rs4q55 c) (side (Z0 ≤ (NI x_3.1)∧(NI x_3.1) < rs4q66 c x_2.1) ((rs4q34 x_3.1∧I4.ok (rs4q69 c x_2.1 x_3.1)∧Z0 ≤ rs4q68 c x_2.1 x_3.1∧rs4q68 c x_2.1 x_3.1 < (28:Int))∧∀ (y:Unit),True→side (LN x_3.2 + LN (rs4q70 x_3.1 c x_2.1) ≤ (9223372036854775807:Nat)) ((rs4q50 c∧SM (D.ref N0 x N0)∧SM (ZI (NI x_2.1))∧True)∧∃ (y:Nat × List UInt8),rs4q64 y.1 c x_2.1 y.2∧rs4q71 c x_2.1 y.1 < rs4q71 c x_2.1 x_3.1∧(x_3.2 ++ rs4q70 x_3.1 c x_2.1 = y.2∧rs4q52 x_3.1 y.1)∧rs4q33 x c)))) (rs4q51 c x∧∃ (y:Nat × List UInt8),rs4q53 y.1 c y.2∧rs4q9 c - y.1 < rs4q9 c - x_2.1∧(x_3.2 = y.2∧rs4q52 x_2.1 y.1)∧rs4q33 x c))))))))) ((∃ (x_3:Nat × List UInt8),rs4q72 x_3.1 c x_3.2∧rs4q54 x_2.2 x_3.2 x_3.1 x c)∧∀ (x_3:Nat × List UInt8),rs4q72 x_3.1 c x_3.2→SM x∧ifB (decide ((NI x_3.1) < (NI (rs4q17 c)))) (SM x∧side (Z0 ≤ (NI x_3.1)∧(NI x_3.1) < (NI (rs4q17 c))) ((((NI x_3.1) = (NI (rs4q38 x_3.1))∧(SM (rs4q74 c x_3.1)∧(SM (rs4q76 c x_3.1)∧(∀ (i:Nat),i < rs4q76 c x_3.1→SM (rs4q78 c x_3.1 i))∧True)∧SM (rs4q79 c x_3.1)∧SM (rs4q80 c x_3.1)∧True)∧True)∧rs4q38 x_3.1 < rs4q17 c)∧∀ (y:Unit),True→side (LN x_3.2 + LN (rs4q81 x_3.1 c) ≤ (9223372036854775807:Nat)) (rs4q51 c x∧∃ (y:Nat × List UInt8),rs4q72 y.1 c y.2∧rs4q17 c - y.1 < rs4q17 c - x_3.1∧(x_3.2 ++ rs4q81 x_3.1 c = y.2∧rs4q52 x_3.1 y.1)∧rs4q33 x c))) ((∃ (x_4:Nat × List UInt8),rs4q82 x_4.1 c x_4.2∧rs4q54 x_3.2 x_4.2 x_4.1 x c)∧∀ (x_4:Nat × List UInt8),rs4q82 x_4.1 c x_4.2→SM x∧ifB (decide ((NI x_4.1) < (NI (rs4q24 c)))) (SM x∧side (Z0 ≤ (NI x_4.1)∧(NI x_4.1) < (NI (rs4q24 c))) ((((NI x_4.1) = (NI (rs4q38 x_4.1))∧(SM (rs4q84 c x_4.1)∧(SM (rs4q86 c x_4.1)∧(∀ (i:Nat),i < rs4q86 c x_4.1→SM (rs4q88 c x_4.1 i))∧True)∧True)∧True)∧rs4q38 x_4.1 < rs4q24 c)∧∀ (y:Unit),True→side (LN x_4.2 + LN (rs4q89 x_4.1 c) ≤ (9223372036854775807:Nat)) (rs4q51 c x∧∃ (y:Nat × List UInt8),rs4q82 y.1 c y.2∧rs4q24 c - y.1 < rs4q24 c - x_4.1∧(x_4.2 ++ rs4q89 x_4.1 c = y.2∧rs4q52 x_4.1 y.1)∧rs4q33 x c))) (True∧∃ (y:Unit),True∧x_4.2 = showC c∧True∧True)))))) (by kernel_rfl) ?_
  delta D4 D6 DA DF DK DL GI LI LN N0 N1 N2 N4 N6 NI R4 R6 SI SM Z0 Z1 ZI rs4q0 rs4q1 rs4q10 rs4q11 rs4q12 rs4q13 rs4q14 rs4q15 rs4q16 rs4q17 rs4q18 rs4q19 rs4q2 rs4q20 rs4q21 rs4q22 rs4q23 rs4q24 rs4q25 rs4q26 rs4q27 rs4q28 rs4q29 rs4q3 rs4q30 rs4q31 rs4q32 rs4q33 rs4q34 rs4q35 rs4q36 rs4q37 rs4q38 rs4q39 rs4q4 rs4q40 rs4q41 rs4q42 rs4q43 rs4q44 rs4q45 rs4q46 rs4q47 rs4q48 rs4q49 rs4q5 rs4q50 rs4q51 rs4q52 rs4q53 rs4q54 rs4q55 rs4q56 rs4q57 rs4q58 rs4q59 rs4q6 rs4q60 rs4q61 rs4q62 rs4q63 rs4q64 rs4q65 rs4q66 rs4q67 rs4q68 rs4q69 rs4q7 rs4q70 rs4q71 rs4q72 rs4q73 rs4q74 rs4q75 rs4q76 rs4q77 rs4q78 rs4q79 rs4q8 rs4q80 rs4q81 rs4q82 rs4q83 rs4q84 rs4q85 rs4q86 rs4q87 rs4q88 rs4q89 rs4q9
  simp only [ifB_iff,side_iff,decide_eq_true_eq,decide_eq_false_iff_not,true_and,and_true,exists_const,forall_const,Int.toNat_natCast,eq_self,implies_true,numOf,Prod.exists,Prod.forall,List.nil_append,List.cons_append,List.append_assoc,List.length_append,List.length_cons,List.length_nil]
  have scl := hs.cl
  have sfl := hs.fl
  have skl := hs.kl
  have sll := hs.ll
  refine ⟨fun h => ?_,fun h0 => ⟨⟨0,_,⟨Nat.zero_le _,rfl⟩,rfl,rfl⟩,?_⟩⟩
  · have h':rightC c ≠ 0 := by simpa using h
    unfold showC; rw [if_neg h']
  have hr:rightC c = 0 := by simpa using h0
  rintro i b ⟨b0,eb⟩
  have l1 := s0_le hc hs b0
  rw [← eb] at l1
  refine ⟨fun hlt => ?_,fun hge => ?_⟩
  · have hl:i < c.consts.length := by omega
    have ha := hc.1 _ (getD_mem' (d := default) hl)
    have ni := nat_i64 (show i < 2000 by omega)
    have l2 := showI_le ni
    have l3 := litF_le ha
    refine ⟨by omega,by omega,ni,by omega,by omega,c.consts.getD i default,selfA _,getD_mem' hl,by omega,by omega,i + 1,_,⟨by omega,rfl⟩,by omega,?_,wrap_i64' (by omega) (by omega)⟩
    rw [eb,← s0_step]
    simp only [constT,wordsL,List.foldl_cons,List.foldl_nil,List.append_assoc,List.cons_append,List.nil_append]
  obtain rfl:i = c.consts.length := by omega
  refine ⟨⟨0,_,⟨Nat.zero_le _,rfl⟩,by rw [eb]; exact (s2_zero c).symm,rfl⟩,?_⟩
  clear l1 eb b0 hge b
  rintro i b ⟨b0,eb⟩
  have l1 := s2_le hc hs b0
  rw [← eb] at l1
  refine ⟨fun hlt => ?_,fun hge => ?_⟩
  · have hl:i < c.funs.length := by omega
    have ha := hc.2.1 _ (getD_mem' (d := default) hl)
    have ni := nat_i64 (show i < 2000 by omega)
    have l2 := showI_le ni
    have l3 := showI_le ha.1
    have l3':(showI (c.funs.getD i ⟨0,[]⟩).slots).length ≤ 21 := l3
    have sf := hs.fs i hl
    refine ⟨by omega,by omega,ni,by omega,by omega,ha.1,by omega,by omega,⟨0,_,⟨Nat.zero_le _,rfl⟩,?_,rfl⟩,?_⟩
    · rw [eb,← s4_zero]
      simp only [funH,wordsL,show (default:FnD) = ⟨0,[]⟩ from rfl,List.foldl_cons,List.foldl_nil,List.append_assoc,List.cons_append,List.nil_append]
    rintro j b4 ⟨hj,ej⟩
    have hj':j ≤ (c.funs.getD i default).code.length := hj
    have l4 := s4_le hc hs hl hj'
    rw [← ej] at l4
    refine ⟨by omega,fun hlt4 => ?_,fun hge4 => ?_⟩
    · have hl4:j < (c.funs.getD i default).code.length := by have:(j:Int) < ((c.funs.getD i default).code.length:Int) := hlt4; omega
      have hx := ha.2.1 _ (getD_mem' (d := default) hl4)
      have l5 := line_le (i := j) (by omega) hx
      refine ⟨by omega,by omega,⟨nat_i64 (by omega),hx,ops_rng hr hl hl4⟩,show b4.length + (lineT j ((c.funs.getD i default).code.getD j default)).length ≤ _ by omega,j + 1,_,⟨hl4,rfl⟩,?_,?_,wrap_i64' (by omega) (by omega)⟩
      · change (c.funs.getD i default).code.length - (j + 1) < (c.funs.getD i default).code.length - j; omega
      · rw [ej]; exact s4_step c i j
    · have e4:j = (c.funs.getD i default).code.length := by have:¬ (j:Int) < ((c.funs.getD i default).code.length:Int) := hge4; omega
      exact ⟨i + 1,_,⟨by omega,rfl⟩,by omega,by rw [ej,e4]; exact s2_step c i,wrap_i64' (by omega) (by omega)⟩
  obtain rfl:i = c.funs.length := by omega
  refine ⟨⟨0,_,⟨Nat.zero_le _,rfl⟩,by rw [eb]; exact (s6_zero c).symm,rfl⟩,?_⟩
  clear l1 eb b0 hge b
  rintro i b ⟨b0,eb⟩
  have l1 := s6_le hc hs b0
  rw [← eb] at l1
  refine ⟨fun hlt => ?_,fun hge => ?_⟩
  · have hl:i < c.kers.length := by omega
    have ha := hc.2.2.1 _ (getD_mem' (d := default) hl)
    have sk := hs.ks i hl
    have q1 := kIn_le (Nat.le_refl _) ha
    have q2 := kerH_le (i := i) (by omega) ha
    have q3:(kerT i (c.kers.getD i default)).length ≤ 700000 := by rw [kerT,List.length_append]; omega
    exact ⟨by omega,hl,show b.length + (kerT i (c.kers.getD i default)).length ≤ _ by omega,i + 1,_,⟨by omega,rfl⟩,by omega,by rw [eb,← s6_step,← s8_end]; rfl,wrap_i64' (by omega) (by omega)⟩
  obtain rfl:i = c.kers.length := by omega
  refine ⟨⟨0,_,⟨Nat.zero_le _,rfl⟩,by rw [eb]; exact (s10_zero c).symm,rfl⟩,?_⟩
  clear l1 eb b0 hge b
  rintro i b ⟨b0,eb⟩
  have l1 := s10_le hc hs b0
  rw [← eb] at l1
  refine ⟨fun hlt => ?_,fun hge => ?_⟩
  · have hl:i < c.lanes.length := by omega
    have ha := hc.2.2.2.1 _ (getD_mem' (d := default) hl)
    have sk := hs.ls i hl
    have q1 := lIn_le (Nat.le_refl _) ha
    have q2 := lanH_le (i := i) (by omega) ha
    have q3:(lanT i (c.lanes.getD i default)).length ≤ 700000 := by rw [lanT,List.length_append]; omega
    exact ⟨by omega,hl,show b.length + (lanT i (c.lanes.getD i default)).length ≤ _ by omega,i + 1,_,⟨by omega,rfl⟩,by omega,by rw [eb,← s10_step,← s12_end]; rfl,wrap_i64' (by omega) (by omega)⟩
  obtain rfl:i = c.lanes.length := by omega
  rw [eb]; unfold showC; rw [if_pos hr]
end Go.Proofs.YtflbmbkhjcbhoaaGreatDoor
namespace Go.Proofs.YtflbmbkhjcbhoaaGreatDoor
open Go Go.Ab
set_option maxRecDepth 100000
def conLx (c:CodD):Con := fun k ds _ => match k with
  | 9 => some (sC [] (.bool true))
  | 8 => some (pQ ds (fun b:Bool => .bool b) (fun b => b = true→SmC c) (weakL ds [.agg c.row]))
  | 10 => some (pC ds (.int .i64 (rightC c)) (weakL ds [.agg c.row]∧SmC c))
  | 11 => some (pC ds (.int .i64 (rightC c)) (weakL ds [.agg c.row]∧SmC c))
  | 14 => some (pC ds (.str (showC c)) (weakL ds [.agg c.row]∧SmC c))
  | 15 => some (pC ds (.str (showC c)) (weakL ds [.agg c.row]∧SmC c))
  | 12 => match ds with
    | [_,.int .i64 z] => some (pC ds (funD (depC c z)) (weakL ds [.agg c.row,.int .i64 z]∧SmC c))
    | _ => none
  | 13 => match ds with
    | [_,.int .i64 z] => some (pC ds (funD (depC c z)) (weakL ds [.agg c.row,.int .i64 z]∧SmC c))
    | _ => none
  | _ => none
theorem SmC.fl' {c:CodD} (h:SmC c):∀ f,f < c.funs.length→(c.funs.getD f default).code.length ≤ 65536 := fun f hf => by
  have := h.fs f hf; omega
theorem pQ_weak {α:Type} {k:Nat} {ds us:List D} {d:α→D} {q:α→Prop} {p p':Prop} (e:weakL ds us) (h:ACalls Tryz.prog k us ⟨[],[]⟩ (SpecR (pQ us d q p) ())):ACalls Tryz.prog k ds ⟨[],[]⟩ (SpecR (pQ ds d q p') ()) :=
  (ACalls.weakArgs h e).mono fun _ _ ⟨y,q1,q2,q3⟩ => ⟨y,q1,q2,q3⟩
theorem conLx_ok {c:CodD} (hc:c.ok) (hm:c.sm) (hl:LivesOk):ConOk Tryz.prog (conLx c) := by
  intro k ds S A h
  unfold conLx at h
  split at h
  · injection h with h; subst h
    exact ConOk.plain (fun _ _ => hl) rfl rfl
  · injection h with h; subst h
    exact pQ_ok fun e => ⟨weakL_refl _,pQ_weak e (small_ok c hm)⟩
  · injection h with h; subst h
    exact pC_ok fun ⟨e,hs⟩ => ⟨weakL_refl _,sC_weak e (rt_ok c hc hs.fl')⟩
  · injection h with h; subst h
    exact pC_ok fun ⟨e,hs⟩ => ⟨weakL_refl _,sC_weak e (rrt_ok c hc hs.fl')⟩
  · injection h with h; subst h
    exact pC_ok fun ⟨e,hs⟩ => ⟨weakL_refl _,sC_weak e (wk_row (sw_ok c hc hs) (crow_row1 c))⟩
  · injection h with h; subst h
    exact pC_ok fun ⟨e,hs⟩ => ⟨weakL_refl _,sC_weak e (wk_row (rsw_ok c hc hs) (crow_row1 c))⟩
  · split at h
    · injection h with h; subst h
      exact pC_ok fun ⟨e,hs⟩ => ⟨weakL_refl _,sC_weak e (dp_ok c _ hc hs.fl')⟩
    · cases h
  · split at h
    · injection h with h; subst h
      exact pC_ok fun ⟨e,hs⟩ => ⟨weakL_refl _,sC_weak e (rdp_ok c _ hc hs.fl')⟩
    · cases h
  · cases h
end Go.Proofs.YtflbmbkhjcbhoaaGreatDoor
namespace Go.Proofs.YtflbmbkhjcbhoaaGreatDoor
open Go Go.Ab
set_option maxRecDepth 100000
def stL (c:CodD) (f:Nat):Nat→List I4→List UInt8→Nat→List UInt8
  | _,_,st,0 => st
  | _,[],st,_ + 1 => st
  | i,x :: r,st,k + 1 => match stepS c f i x st with
    | none => st
    | some nx => stL c f (i + 1) r nx k
theorem stL_step {c : CodD} {f : Nat} : ∀ (l : List I4) (i : Nat) (st : List UInt8) (d m k : Nat), runS c f i l st d = some m → k < l.length →
    stepS c f (i + k) (l.getD k default) (stL c f i l st k) = some (stL c f i l st (k + 1))
  | [],_,_,_,_,k,_,hk => absurd hk (Nat.not_lt_zero k)
  | x :: r,i,st,d,m,0,h,_ => by
    simp only [runS] at h
    cases hs:stepS c f i x st with
    | none => rw [hs] at h; cases h
    | some nx =>
      show stepS c f (i + 0) x st = _
      simp only [stL,hs,Nat.add_zero]
  | x :: r,i,st,d,m,k + 1,h,hk => by
    simp only [runS] at h
    cases hs:stepS c f i x st with
    | none => rw [hs] at h; cases h
    | some nx =>
      rw [hs] at h
      have ih := stL_step r (i + 1) nx _ m k h (by simpa using hk)
      have e:i + 1 + k = i + (k + 1) := by omega
      rw [e] at ih
      show stepS c f (i + (k + 1)) (r.getD k default) _ = _
      simp only [stL,hs]
      exact ih
theorem emp_getD {c:CodD} {f:Nat}:∀ (l:List I4) (i:Nat) (st:List UInt8) (k:Nat),(empS c f i l st).getD k false = true→k < l.length∧stL c f i l st k = []
  | [],_,_,k,h => by simp [empS] at h
  | x :: r,i,st,0,h => by
    simp only [empS,List.getD_cons_zero,List.isEmpty_iff] at h
    exact ⟨Nat.succ_pos _,by simp only [stL]; exact h⟩
  | x :: r,i,st,k + 1,h => by
    simp only [empS,List.getD_cons_succ] at h
    cases hs:stepS c f i x st with
    | none => rw [hs] at h; simp at h
    | some nx =>
      rw [hs] at h
      obtain ⟨h1,h2⟩ := emp_getD r (i + 1) nx k h
      exact ⟨Nat.succ_lt_succ h1,by simp only [stL,hs]; exact h2⟩
theorem safe_of {c:CodD} {f:Nat} (h:(funS c f).isSome = true):∃ sA,SafeF c f sA := by
  obtain ⟨m,h⟩ := Option.isSome_iff_exists.1 h
  unfold funS at h
  simp only at h
  split at h
  · rename_i h0
    obtain ⟨h1,h2,h3⟩ := h0
    split at h
    · cases h
    · rename_i d hr
      split at h
      · rename_i hg
        have hpos:0 < (c.funs.getD f default).code.length := List.length_pos_iff.2 h2
        refine ⟨stL c f 0 (c.funs.getD f default).code [],by simp [stL],hpos,h3,fun k hk => ?_⟩
        have hs := stL_step _ 0 [] 0 _ k hr hk
        rw [Nat.zero_add] at hs
        generalize hx:(c.funs.getD f default).code.getD k default = x at hs
        have hm:x ∈ (c.funs.getD f default).code := hx ▸ getD_mem hk
        unfold stepS at hs
        split at hs
        · cases hs
        · rename_i e he
          split at hs
          · rename_i hc
            obtain ⟨c1,c2,c3,c4⟩ := hc
            injection hs with hs
            have hle:e.1.length ≤ (stL c f 0 (c.funs.getD f default).code [] k).length := by
              unfold okA at c1
              simp only [Bool.and_eq_true,decide_eq_true_eq] at c1
              exact c1.1.2
            refine ⟨e,he,hle,by rw [← hs,newA_length],fun ha => ?_,fun ha => ?_⟩
            · rw [← hs]
              exact Classical.byContradiction fun hn => c3 ⟨.inl ha,hn⟩
            · obtain ⟨g1,g2⟩ := eff_guard he ha
              have hgx := List.all_eq_true.1 hg x hm
              rw [Bool.or_eq_true] at hgx
              have hgx:(empS c f 0 (c.funs.getD f default).code []).getD x.b.toNat false = true := by
                rcases hgx with hgx | hgx
                · exact absurd ha (of_decide_eq_true hgx)
                · exact hgx
              obtain ⟨q1,q2⟩ := emp_getD _ 0 [] _ hgx
              refine ⟨x.b.toNat,by omega,?_,q1,q2,?_⟩
              · have:¬ x.b ≤ k := fun hle => c4 ⟨ha,hle⟩
                omega
              · rw [← hs]
                exact Classical.byContradiction fun hn => c3 ⟨.inr ha,hn⟩
          · cases hs
      · cases h
  · cases h
theorem SafeF.len_le {c:CodD} {f:Nat} {sA:Nat→List UInt8} (h:SafeF c f sA):∀ k,k ≤ (c.funs.getD f default).code.length→(sA k).length ≤ k
  | 0,_ => by rw [h.zero]; exact Nat.le_refl _
  | k + 1,hk => by
    obtain ⟨e,he,h1,h2,_⟩ := h.step k hk
    have := h.len_le k (by omega)
    have := (eff_len he).2
    omega
theorem right_some {c:CodD} (h:rightC c = 0) {f:Nat} (hf:f < c.funs.length):(funS c f).isSome = true := by
  unfold rightC at h
  (repeat' split at h) <;> first
    | (rename_i hh; exact List.all_eq_true.1 hh f (List.mem_range.2 hf))
    | (exfalso; revert h; decide)
end Go.Proofs.YtflbmbkhjcbhoaaGreatDoor
namespace Go.Proofs.YtflbmbkhjcbhoaaGreatDoor
open Go Go.Ab
set_option maxRecDepth 100000
def conSf (c:CodD):Con := fun k ds S => match k with
  | 18 => match ds with
    | [a0,.int .i64 z,.agg [.int .i64 a,.int .i64 b,.int .i64 d,.int .i64 e]] => some (pQ [a0,.int .i64 z,.agg (I4.row ⟨a,b,d,e⟩)] (offD (effC c z.toNat ⟨a,b,d,e⟩)) (offQ (effC c z.toNat ⟨a,b,d,e⟩)) (weakL [a0,.int .i64 z] [.agg c.row,.int .i64 z.toNat]∧z.toNat < c.funs.length∧I4.ok ⟨a,b,d,e⟩))
    | _ => none
  | k => conLx c k ds S
theorem conSf_ok {c:CodD} (hc:c.ok) (hm:c.sm) (hl:LivesOk):ConOk Tryz.prog (conSf c) := by
  intro k ds S A h
  unfold conSf at h
  split at h
  · split at h
    · injection h with h; subst h
      exact pQ_ok fun ⟨e,hf,hx⟩ => ⟨weakL_refl _,pQ_weak (p := True) (show weakL [_,_,_] [_,_,_] from ⟨e.1,e.2.1,weakD_refl _,trivial⟩) (rof_ok c _ ⟨_,_,_,_⟩ hf hc hx)⟩
    · cases h
  · exact conLx_ok hc hm hl _ _ _ _ h
def bls (l:List Bool):D := gsl 1 (fun b => [.bool b]) l
noncomputable def Esf (c:CodD) (z:Int) (sA:Nat→List UInt8):Senv := { EC (conSf c) 114 4 [6,7,8,9,10,11,12,13,32,43,49,63,74,103,106] (fun id => match id with | 10 => ([0,1,2,3,4,5,6,7,8],[6,7,8]) | _ => ([],[])) with
  ann := fun b _ S => match b with
    | 0 => some { slots := [8,9,10,11],keep := [0,1,2,3,7],α := Nat × Nat × Nat × Nat,st := fun y => ([.int .i64 y.1,.int .i64 y.2.1,.int .i64 y.2.2.1,.int .i64 y.2.2.2],S),inv := fun y => y.1 = (sA y.2.2.1).length∧y.2.2.1 < (c.funs.getD z.toNat default).code.length∧y.2.2.2 ≤ y.2.2.1∧y.2.1 ≤ y.2.2.2,mu := fun y => (c.funs.getD z.toNat default).code.length - y.2.2.1 }
    | _ => none }
theorem bq1 {a:Int} {p:Prop} [Decidable p] {b:Bool} (h:a = 24) (hp:p):b = (a == 24 && decide p && b) := by simp [h,hp]
theorem bq2 {a:Int} {p:Prop} [Decidable p] {b:Bool} (hp:¬ p):false = (a == 24 && decide p && b) := by simp [hp]
theorem bq3 {a:Int} {p:Prop} [Decidable p] {b:Bool} (h:¬ a = 24):false = (a == 24 && decide p && b) := by simp [h]
noncomputable section
def sf2q0 (p0:CodD):Nat := LN (CodD.consts p0)
def sf2q1 (p0:CodD) (p1:Nat):List D := Arr.row (GC p0 p1)
def sf2q2 (p0:CodD):List FnD := CodD.funs p0
def sf2q3 (p0:CodD):Nat := LN (sf2q2 p0)
def sf2q4:FnD := DF
def sf2q5 (p0:CodD) (p1:Nat):FnD := List.getD (sf2q2 p0) p1 sf2q4
def sf2q6 (p0:CodD) (p1:Nat):List I4 := FnD.code (sf2q5 p0 p1)
def sf2q7:I4 := D4
def sf2q8 (p0:CodD) (p1 p2:Nat):I4 := List.getD (sf2q6 p0 p1) p2 sf2q7
def sf2q9 (p0:CodD) (p1:Nat):List D := [ZI (FnD.slots (sf2q5 p0 p1)),D.sl N4 (LN (sf2q6 p0 p1)) (fun (i:Nat) => (R4 (sf2q8 p0 p1 i))) Mode.any]
def sf2q10 (p0:CodD):Nat := LN (CodD.kers p0)
def sf2q11 (p0:CodD) (p1:Nat):List D := KeD.row (GK p0 p1)
def sf2q12 (p0:CodD):Nat := LN (CodD.lanes p0)
def sf2q13 (p0:CodD) (p1:Nat):List D := LaD.row (GL p0 p1)
def sf2q14 (p0:CodD):Prop := (SM (sf2q0 p0)∧(∀ (i:Nat),i < sf2q0 p0→SM (sf2q1 p0 i))∧True)∧(SM (sf2q3 p0)∧(∀ (i:Nat),i < sf2q3 p0→SM (sf2q9 p0 i))∧True)∧(SM (sf2q10 p0)∧(∀ (i:Nat),i < sf2q10 p0→SM (sf2q11 p0 i))∧True)∧(SM (sf2q12 p0)∧(∀ (i:Nat),i < sf2q12 p0→SM (sf2q13 p0 i))∧True)∧True
def sf2q15 (p0:CodD):Prop := sf2q14 p0∧True
def sf2q16:Prop := ∃ (_x:Unit),True∧(True∧True)∧True∧∀ (_y:Unit),True→True∧∃ (_y:Unit),True∧SM true∧True∧True
def sf2q17 (p0:CodD) (p1:Int):List I4 := FnD.code (List.getD (sf2q2 p0) (Int.toNat p1) sf2q4)
def sf2q18 (p0:CodD) (p1:Int):Nat := LN (sf2q17 p0 p1)
def sf2q19 (p0:Nat) (p1:Nat→List UInt8) (p2:Nat) (p3:CodD) (p4:Int) (p5 p6:Nat):Prop := p0 = LN (p1 p2)∧p2 < sf2q18 p3 p4∧p5 ≤ p2∧p6 ≤ p5
def sf2q20 (p0:Nat) (p1:CodD):Prop := (SM p0∧sf2q15 p1)∧True
def sf2q21 (p0:CodD) (p1:Int):Int := (NI (sf2q18 p0 p1))
def sf2q22:Prop := True∧∃ (_y:Unit),True∧false = true∧True∧True
def sf2q23 (p0:CodD) (p1:Int) (p2:Nat):I4 := List.getD (sf2q17 p0 p1) (Int.toNat (↑p2:Int)) sf2q7
def sf2q24 (p0:CodD) (p1:Int) (p2:Nat):Int := I4.a (sf2q23 p0 p1 p2)
def sf2q25 (p0:CodD) (p1:Int) (p2:Nat):Int := I4.b (sf2q23 p0 p1 p2)
def sf2q26 (p0:CodD) (p1:Int) (p2:Nat):I4 := I4.mk (sf2q24 p0 p1 p2) (sf2q25 p0 p1 p2) (I4.c (sf2q23 p0 p1 p2)) (I4.d (sf2q23 p0 p1 p2))
def sf2q27 (p0:CodD) (p1:Int) (p2:Nat):Prop := (sf2q14 p0∧p1 = (NI (Int.toNat p1))∧True)∧Int.toNat p1 < sf2q3 p0∧I4.ok (sf2q26 p0 p1 p2)
def sf2q28 (p0:CodD) (p1:Int) (p2:Nat) (p3:Eff):Prop := offQ (effC p0 (Int.toNat p1) (sf2q26 p0 p1 p2)) p3
def sf2q29 (p0:CodD) (p1:Int) (p2:Nat):Bool := sf2q24 p0 p1 p2 == (24:Int)
def sf2q30 (p0:CodD) (p1:Int) (p2 p3:Nat) (p4:List Bool):Bool := bif bif sf2q29 p0 p1 p2 then decide ((↑p3:Int) < (LI p4)) else false then List.getD p4 (Int.toNat (↑p3:Int)) false else false
def sf2q31 (p0:CodD) (p1:Int) (p2 p3:Nat) (p4:List Bool):Prop := false = sf2q30 p0 p1 p2 p3 p4∧True
def sf2q32 (p0:CodD):D := D.agg [D.sl N4 (sf2q0 p0) (fun (i:Nat) => sf2q1 p0 i) Mode.any,D.sl N2 (sf2q3 p0) (fun (i:Nat) => sf2q9 p0 i) Mode.any,D.sl N4 (sf2q10 p0) (fun (i:Nat) => sf2q11 p0 i) Mode.any,D.sl N2 (sf2q12 p0) (fun (i:Nat) => sf2q13 p0 i) Mode.any]
def sf2q33 (p0:CodD):Prop := SM (sf2q32 p0)
def sf2q34 (p0:List Bool):D := D.sl N1 (LN p0) (fun (i:Nat) => [D.bool (List.getD p0 i false)]) Mode.any
def sf2q35 (p0:CodD) (p1:Int) (p2:Nat):I4 := List.getD (sf2q17 p0 p1) p2 sf2q7
def sf2q36 (p0:CodD) (p1:Int):D := D.sl N4 (sf2q18 p0 p1) (fun (i:Nat) => (R4 (sf2q35 p0 p1 i))) Mode.any
def sf2q37 (p0:CodD) (p1:Int) (p2:List Bool) (p3:Nat):Prop := sf2q33 p0∧SM (ZI p1)∧SM (sf2q34 p2)∧SM (D.ref N0 p3 N0)∧SM (sf2q36 p0 p1)∧True
def sf2q38 (p0:CodD) (p1:Int) (p2:Nat):Nat := sf2q18 p0 p1 - p2
def sf2q39 (p0:CodD) (p1:Int) (p2 p3:Nat):Prop := sf2q38 p0 p1 p2 < sf2q38 p0 p1 p3
def sf2q40 (p0:Nat) (p1 p2:List UInt8) (p3:Nat):Prop := IntKind.wrap IntKind.i64 (IntKind.wrap IntKind.i64 ((↑p0:Int) - (LI p1)) + (LI p2)) = (↑p3:Int)
def sf2q41 (p0 p1:Nat):Prop := IntKind.wrap IntKind.i64 ((↑p0:Int) + Z1) = (↑p1:Int)
def sf2q42 (p0:CodD) (p1:Int) (p2 p3 p4 p5:Nat):Prop := sf2q25 p0 p1 p2 = (↑p3:Int)∧sf2q41 p4 p5∧True
def sf2q43 (p0 p1 p2 p3:Nat):Prop := sf2q41 p0 p1∧sf2q41 p2 p3∧True
def sf2q44 (p0 p1:Nat) (p2:List UInt8) (p3:Nat) (p4:CodD) (p5:Int) (p6:List UInt8) (p7:Nat) (p8:List Bool) (p9:Nat) (p10:Nat→List UInt8) (p11:Nat):Prop := SM p0∧SM p0∧ifB (decide (IntKind.wrap IntKind.i64 ((↑p1:Int) - (LI p2)) < Z0)) sf2q22 (SM p0∧side (Z0 ≤ (↑p3:Int)∧(↑p3:Int) < sf2q21 p4 p5) (ifB (sf2q24 p4 p5 p3 == (25:Int)) (ifB (IntKind.wrap IntKind.i64 (IntKind.wrap IntKind.i64 ((↑p1:Int) - (LI p2)) + (LI p6)) == Z0) sf2q16 sf2q22) (side (Z0 ≤ (↑p3:Int)∧(↑p3:Int) < sf2q21 p4 p5) (ifB (sf2q29 p4 p5 p3) (ifB (decide ((↑p7:Int) < (LI p8))) (side (Z0 ≤ (↑p7:Int)∧(↑p7:Int) < (LI p8)) (List.getD p8 (Int.toNat (↑p7:Int)) false = sf2q30 p4 p5 p3 p7 p8∧True)) (sf2q31 p4 p5 p3 p7 p8)) (sf2q31 p4 p5 p3 p7 p8))∧side (Z0 ≤ (↑p3:Int)∧(↑p3:Int) < sf2q21 p4 p5) (ifB (sf2q29 p4 p5 p3) (ifB (sf2q30 p4 p5 p3 p7 p8) (side (Z0 ≤ (↑p3:Int)∧(↑p3:Int) < sf2q21 p4 p5) (sf2q37 p4 p5 p8 p9∧∃ (y:Nat × Nat × Nat × Nat),sf2q19 y.1 p10 y.2.2.1 p4 p5 y.2.2.2 y.2.1∧sf2q39 p4 p5 y.2.2.1 p3∧(sf2q40 p1 p2 p6 y.1∧sf2q41 p7 y.2.1∧sf2q42 p4 p5 p3 y.2.2.1 p11 y.2.2.2)∧sf2q20 p9 p4)) (sf2q37 p4 p5 p8 p9∧∃ (y:Nat × Nat × Nat × Nat),sf2q19 y.1 p10 y.2.2.1 p4 p5 y.2.2.2 y.2.1∧sf2q39 p4 p5 y.2.2.1 p3∧(sf2q40 p1 p2 p6 y.1∧sf2q41 p7 y.2.1∧sf2q43 p3 y.2.2.1 p11 y.2.2.2)∧sf2q20 p9 p4)) (ifB (sf2q30 p4 p5 p3 p7 p8) (side (Z0 ≤ (↑p3:Int)∧(↑p3:Int) < sf2q21 p4 p5) (sf2q37 p4 p5 p8 p9∧∃ (y:Nat × Nat × Nat × Nat),sf2q19 y.1 p10 y.2.2.1 p4 p5 y.2.2.2 y.2.1∧sf2q39 p4 p5 y.2.2.1 p3∧(sf2q40 p1 p2 p6 y.1∧(↑p7:Int) = (NI y.2.1)∧sf2q42 p4 p5 p3 y.2.2.1 p11 y.2.2.2)∧sf2q20 p9 p4)) (sf2q37 p4 p5 p8 p9∧∃ (y:Nat × Nat × Nat × Nat),sf2q19 y.1 p10 y.2.2.1 p4 p5 y.2.2.2 y.2.1∧sf2q39 p4 p5 y.2.2.1 p3∧(sf2q40 p1 p2 p6 y.1∧(↑p7:Int) = (NI y.2.1)∧sf2q43 p3 y.2.2.1 p11 y.2.2.2)∧sf2q20 p9 p4))))))
end
theorem law_safe0 (hl : LivesOk) (c : CodD) (z : Int) (ts : List Bool) (hc : c.ok) (hm : c.sm) (_ht : ts.length ≤ maxB) (sA : Nat → List UInt8) (_hz : inI64 z) (hS : 0 ≤ z → z < c.funs.length → rightC c = 0 → SafeF c z.toNat sA) :
    ACalls Tryz.prog 7 [.agg c.row,.int .i64 z,bls ts] ⟨[],[]⟩ (SpecR (sC [.agg c.row,.int .i64 z,bls ts] (.bool true)) ()) := by
  refine con_of (A := sC _ _) (x := ()) (E := Esf c z sA) (eOk (conSf_ok hc hm hl) rfl) Tryz.func7 rfl (by kernel_rfl) rfl (by simp [sC,Esf,EC,E0]) ?_
  refine vc_eq (T :=
    ∀ (x:Nat),True→SM x∧sf2q15 c∧∀ (y:Bool),(y = true→SmC c)→ifB (!y) sf2q16 (SM x∧(sf2q15 c∧SmC c)∧∀ (y:Unit),True→ifB (rightC c != Z0) sf2q16 (ifB (decide (z < Z0)) sf2q16 (SM x∧ifB (decide ((NI (sf2q3 c)) ≤ z)) sf2q16 (SM x∧side (Z0 ≤ z∧z < (NI (sf2q3 c))) ((∃ (x_1:Nat × Nat × Nat × Nat),sf2q19 x_1.1 sA x_1.2.2.1 c z x_1.2.2.2 x_1.2.1∧(Z0 = (NI x_1.1)∧Z0 = (NI x_1.2.1)∧Z0 = (NI x_1.2.2.1)∧Z0 = (NI x_1.2.2.2)∧True)∧sf2q20 x c)∧∀ (x_1:Nat × Nat × Nat × Nat),sf2q19 x_1.1 sA x_1.2.2.1 c z x_1.2.2.2 x_1.2.1→ifB (decide ((NI x_1.2.2.2) ≤ sf2q21 c z)) (ifB (decide (sf2q21 c z ≤ (NI x_1.2.2.1))) sf2q22 (SM x∧side (Z0 ≤ (NI x_1.2.2.1)∧(NI x_1.2.2.1) < sf2q21 c z) ((sf2q27 c z x_1.2.2.1∧∀ (y:Eff),sf2q28 c z x_1.2.2.1 y→∀ (x_2:Nat),x ≠ x_2∧True→sf2q44 x_2 x_1.1 y.1 x_1.2.2.1 c z y.2 x_1.2.1 ts x sA x_1.2.2.2)∧∀ (x_2:Nat),x ≠ x_2∧True→(SM x∧sf2q33 c)∧sf2q27 c z x_1.2.2.1∧∀ (y:Eff),sf2q28 c z x_1.2.2.1 y→sf2q44 x_2 x_1.1 y.1 x_1.2.2.1 c z y.2 x_1.2.1 ts x sA x_1.2.2.2))) sf2q22)))))) (by kernel_rfl) ?_
  delta D4 DA DF DK DL GC GK GL LI LN N0 N1 N2 N4 NI R4 SM Z0 Z1 ZI sf2q0 sf2q1 sf2q10 sf2q11 sf2q12 sf2q13 sf2q14 sf2q15 sf2q16 sf2q17 sf2q18 sf2q19 sf2q2 sf2q20 sf2q21 sf2q22 sf2q23 sf2q24 sf2q25 sf2q26 sf2q27 sf2q28 sf2q29 sf2q3 sf2q30 sf2q31 sf2q32 sf2q33 sf2q34 sf2q35 sf2q36 sf2q37 sf2q38 sf2q39 sf2q4 sf2q40 sf2q41 sf2q42 sf2q43 sf2q44 sf2q5 sf2q6 sf2q7 sf2q8 sf2q9
  simp only [eq_self,ne_eq,implies_true,Int.toNat_natCast,ifB_iff,side_iff,decide_eq_true_eq,decide_eq_false_iff_not,true_and,and_true,beq_iff_eq,Bool.cond_false_right,Bool.and_eq_true,Bool.and_eq_false_iff,beq_eq_false_iff_ne,exists_const,forall_const]
  intro x y hy hny
  have hs:SmC c := hy (by simpa using hny)
  refine ⟨hs,fun hr h0 h1 => ?_⟩
  have hz0:0 ≤ z := by omega
  have hz1:z < c.funs.length := by omega
  have S := hS hz0 hz1 (by simpa using hr)
  have hf:z.toNat < c.funs.length := by omega
  have hlen:(c.funs.getD z.toNat default).code.length < 2000 := hs.fs _ hf
  refine ⟨⟨hz0,hz1⟩,⟨(0,0,0,0),⟨by rw [S.zero]; rfl,S.pos,by simp,by simp⟩,by simp⟩,?_⟩
  rintro ⟨hi,t,k,n⟩ ⟨i1,i2,i3,i4⟩
  simp only at i1 i2 i3 i4
  have i2:k < (c.funs.getD z.toNat default).code.length := i2
  have hz2:z = (z.toNat:Int) := (Int.toNat_of_nonneg hz0).symm
  obtain ⟨e,he,s1,s2,s3,s4⟩ := S.step k i2
  have hl := S.len_le k (by exact Nat.le_of_lt i2)
  have hel := (eff_len he).2
  have hok:((c.funs.getD z.toNat default).code.getD k default).ok := (hc.2.1 _ (getD_mem hf)).2.1 _ (getD_mem i2)
  have hq:(k:Int) < ((c.funs.getD z.toNat default).code.length:Int) := by omega
  have hnx:((c.funs.getD z.toNat default).code.getD k default).a ≠ 25→k + 1 < (c.funs.getD z.toNat default).code.length := fun ha => by
    by_cases hk:k + 1 < (c.funs.getD z.toNat default).code.length
    · exact hk
    · have hk2:k = (c.funs.getD z.toNat default).code.length - 1 := by omega
      exact (ha (by rw [hk2]; exact S.last)).elim
  have key:∀ y:Eff,y = e→(IntKind.i64.wrap ((hi:Int) - y.1.length) = (hi:Int) - y.1.length)∧¬ ((hi:Int) - y.1.length < 0)∧IntKind.i64.wrap ((hi:Int) - y.1.length + y.2.length) = ((sA (k + 1)).length:Int) := by
    rintro y rfl
    refine ⟨wrap_i64' (by omega) (by omega),by omega,?_⟩
    rw [wrap_i64' (by omega) (by omega),s2]
    omega
  have wt:IntKind.i64.wrap ((t:Int) + 1) = ((t + 1:Nat):Int) := by rw [wrap_i64' (by omega) (by omega)]; omega
  have wn:IntKind.i64.wrap ((n:Int) + 1) = ((n + 1:Nat):Int) := by rw [wrap_i64' (by omega) (by omega)]; omega
  have wk:IntKind.i64.wrap ((k:Int) + 1) = ((k + 1:Nat):Int) := by rw [wrap_i64' (by omega) (by omega)]; omega
  have hq0:(0:Int) ≤ (k:Int) := by omega
  have fin:∀ y:Eff,offQ (effC c z.toNat ((c.funs.getD z.toNat default).code.getD k default)) y→y = e := fun y h => h e he
  refine ⟨fun _ => ⟨fun h => absurd h (Int.not_le.2 hq),fun _ => ⟨⟨hq0,hq⟩,⟨⟨hz2,hf,hok⟩,fun y hyq x2 hx2 => ?_⟩,fun x2 hx2 => ⟨⟨hz2,hf,hok⟩,fun y hyq => ?_⟩⟩⟩,fun h => absurd (show (n:Int) ≤ ((c.funs.getD z.toNat default).code.length:Int) by omega) h⟩
  all_goals
    obtain ⟨k1,k2,k3⟩ := key y (fin y hyq)
    simp only [k1,k3,wt,wn,wk]
    refine ⟨fun h => absurd h k2,fun _ => ⟨⟨hq0,hq⟩,fun ha h => ?_,fun hna => ⟨⟨⟨hq0,hq⟩,fun h24 => ⟨fun hl => ⟨⟨by omega,hl⟩,?_⟩,fun hl => ?_⟩,fun hn24 => ?_⟩,⟨hq0,hq⟩,fun h24 => ⟨fun hh => ⟨⟨hq0,hq⟩,?_⟩,fun _ => ?_⟩,fun hn24 => ⟨fun hh => (hn24 hh.1.1).elim,fun _ => ?_⟩⟩⟩⟩
    · exact (h (by rw [s3 ha]; rfl)).elim
    · exact bq1 h24 hl
    · exact bq2 hl
    · exact bq3 hn24
    · obtain ⟨b,g1,g2,g3,g4,g5⟩ := s4 h24
      exact ⟨(0,t + 1,b,n + 1),⟨by rw [g4]; rfl,g3,by simp only; omega,by simp only; omega⟩,by simp only; omega,by rw [g5]; rfl,rfl,g1,rfl⟩
    · exact ⟨((sA (k + 1)).length,t + 1,k + 1,n + 1),⟨rfl,hnx hna,by simp only; omega,by simp only; omega⟩,by simp only; omega,rfl,rfl,rfl,rfl⟩
    · exact ⟨((sA (k + 1)).length,t,k + 1,n + 1),⟨rfl,hnx hna,by simp only; omega,by simp only; omega⟩,by simp only; omega,rfl,rfl,rfl,rfl⟩
theorem law_safe (hl : LivesOk) (c : CodD) (z : Int) (ts : List Bool) (hc : c.ok) (hm : c.sm) (hz : inI64 z) (ht : ts.length ≤ maxB) :
    ACalls Tryz.prog 7 [.agg c.row,.int .i64 z,bls ts] ⟨[],[]⟩ (SpecR (sC [.agg c.row,.int .i64 z,bls ts] (.bool true)) ()) := by
  by_cases h:0 ≤ z∧z < c.funs.length∧rightC c = 0
  · obtain ⟨sA,hS⟩ := safe_of (right_some h.2.2 (f := z.toNat) (by omega))
    exact law_safe0 hl c z ts hc hm ht sA hz fun _ _ _ => hS
  · exact law_safe0 hl c z ts hc hm ht (fun _ => []) hz fun h1 h2 h3 => (h ⟨h1,h2,h3⟩).elim
end Go.Proofs.YtflbmbkhjcbhoaaGreatDoor
namespace Go.Proofs.YtflbmbkhjcbhoaaGreatDoor
open Go Go.Ab Go.RowKit
set_option maxRecDepth 100000
noncomputable def wit5:Array Value := #[.agg #[.slice none 0 0,.slice none 0 0,.slice none 0 0,.slice none 0 0],.int .i64 0,.slice none 0 0]
theorem laid_met5 (os:Os):laidMet Tryz.prog laidL ((laidWorld os).forCall (fun _ _ => 0) ⟨#[],wit5,[]⟩).memory :=
  laidMet_of_run' 8 (by kernel_rfl) (by kernel_rfl)
theorem reads5 (os:Os) {H:Type} (enc:TypeId × Value→H):∃ x,DataW.whole enc Tryz.prog ((laidWorld os).forCall (fun _ _ => 0) ⟨#[],wit5,[]⟩).memory [27,3,37] [] false (wit5).toList 8 = some x :=
  Option.isSome_iff_exists.1 (by kernel_rfl)
theorem contract5 {H : Type} {enc : TypeId × Value → H}
    (W:World) (base:Nat) (args:Array Value) (ds gs:List (DataW H)) (before:List MemPlace)
    (hval:∀ (j:Nat) t v,Tryz.f7.params[j]? = some t→args[j]? = some v→Value.okWide Tryz.prog W .any base t v)
    (hW:DataW.Whole enc Tryz.prog Tryz.f7.params.toList Rows.bytecodeSafeSpec.vars false W args.toList ds gs before)
    (hsz:(DataW.weightsEach Tryz.prog (Tryz.f7.params.toList ++ Rows.bytecodeSafeSpec.plain.varTypes Tryz.prog) (ds ++ gs)).all (· ≤ reachBytes) = true) (hL:laidMetH Tryz.prog laidL W) :
    Calls Tryz.prog 7 args W fun e W' => ∃ v,e = .returned v∧Rows.bytecodeSafeSpec.post enc Tryz.prog Tryz.f7 false true false false W args v W' := by
  refine law_contract (rs := [(27,(fun ds => ∃ c:CodD,(c.ok∧c.sm)∧ds = c.row)),(3,RInt .i64),(37,RSliceA 1 RBool)]) laid (by rw [Tryz.params7]; kernel_rfl) rfl (fun ds hd => ?_) (rt := 4) rfl Tryz.underlying4 (by rw [Tryz.params7]; rfl) ?_ W (g0_laid hL) base args ds gs before hval hW hsz ?_
  · rw [Tryz.params7] at hd
    match ds,hd with
    | [_,_,_],_ => exact ⟨rfl,rfl,rfl⟩
  · intro r hr
    simp only [List.mem_cons,List.not_mem_nil,or_false,or_self] at hr
    rcases hr with rfl | rfl | rfl
    · exact read_code
    · exact read_int Tryz.underlying3
    · exact fun W n => match n with | 0 => .zero _ _ | n + 1 => read_sliceA Tryz.underlying37 (by kernel_rfl) (by decide) (by decide +kernel) (read_bool Tryz.underlying4 W n)
  · intro Ds h
    obtain ⟨dx,_,rfl,hx,h⟩ := h.agg (by kernel_rfl)
    obtain ⟨dy,_,rfl,hy,h⟩ := h.flat (by kernel_rfl)
    obtain ⟨dz,_,rfl,hz,h⟩ := h.flat (by kernel_rfl)
    obtain rfl := h.nil
    obtain ⟨x,⟨hokx,hsmx⟩,rfl⟩ := hx
    obtain ⟨y,ey,hloy,hhiy⟩ := hy
    injection ey with ey _
    subst ey
    have hoky:inI64 y := by
      simp only [IntKind.min,IntKind.max,IntKind.signed,IntKind.bits] at hloy hhiy
      unfold inI64
      simp at hloy hhiy
      omega
    obtain ⟨rsz,hrz,hlenz,ez⟩ := hz
    injection ez with ez _
    subst ez
    obtain ⟨z,_,rfl⟩ := rows_of (Q := fun _ => True) (g := fun b:Bool => [D.bool b]) (fun x ⟨b,hb⟩ => ⟨b,trivial,hb⟩) rsz hrz
    have hwz:weakD (.sl 1 (z.map fun b:Bool => [D.bool b]).length (fun i => (z.map fun b:Bool => [D.bool b]).getD i []) .any) (bls z) := by
      refine chk_iff.2 ⟨rfl,by simp,fun i hi => ?_,trivial⟩
      have hi:i < z.length := by simpa using hi
      simp [List.getD_eq_getElem?_getD,hi]
    refine ((law_safe lives0 x y z hokx hsmx hoky (by simpa using hlenz)).weakArgs (show weakL [_,_,_] [_,_,_] from ⟨weakD_refl _,weakD_refl _,hwz,trivial⟩)).mono fun r S' ⟨_,_,hr,_⟩ => hr
theorem lifted5 (os : Os) (started : os.Started) (H : Type) (enc : TypeId × Value → H) (F : Stop.Interp) :
    ReturnsInHanded {} Tryz.checked os 7 .any ((OpenSpec.ofChange Rows.bytecodeSafeSpec).preRow enc Tryz.prog Tryz.f7 Rows.bytecodeSafeRow.domain false Rows.bytecodeSafeRow.laid) (((OpenSpec.ofChange Rows.bytecodeSafeSpec).at F).post enc Tryz.prog Tryz.f7 false true false false) := by
  obtain ⟨x,hx⟩ := reads5 os enc
  refine returnsInHanded_of_row (C := Tryz.checked) (s := OpenSpec.ofChange Rows.bytecodeSafeSpec) own started (by kernel_rfl) Tryz.func7
    (witness_row_at (enc := enc) (C := Tryz.checked) false (laidWorld os) wit5 rfl (by kernel_rfl) (by kernel_rfl) (by kernel_rfl)
      (OpenSpec.preRow_of_cond 8 hx rfl (fun k hk => by cases hk) (by kernel_rfl) (laid_met5 os))) ?_
  intro W base args ds gs before hval hW _ _ hsz hL _ _
  exact contract5 W base args ds gs before hval hW hsz hL
theorem said5:Rows.BytecodeSafeSaid :=
  OpenClaim.holds_of_cond 7 Tryz.f7 rfl rfl rfl rfl rfl rfl rfl ⟨rfl,rfl,rfl,rfl,rfl⟩ rfl rfl rfl rfl rfl (by kernel_rfl) Tryz.func7 (by kernel_rfl)
    (of_decide_eq_true (by kernel_rfl)) (by unfold Func.isWrapper; first | (rw [if_pos (by decide +kernel)]; kernel_rfl) | (rw [if_neg (by decide +kernel)]; exact ⟨rfl,rfl⟩))
    (fun os started H enc _ F => by rw [OpenClaim.pre_eq_preRow]; exact lifted5 os started H enc F)
theorem plain5 (f : FuncId) (fn : Func) (hf : Tryz.pinned.checked.prog.funcNamed "arraylang/arraylanglaw44.BytecodeSafe" = some f) (hfn : Tryz.pinned.checked.prog.funcs[f]? = some fn) :
    true = Tryz.pinned.checked.prog.looks []∧∀ (j:Nat) t,fn.params[j]? = some t→Tryz.pinned.checked.prog.wantsStandIn t = false := by
  obtain rfl : f = 7 := Option.some.inj ((show Tryz.prog.funcNamed "arraylang/arraylanglaw44.BytecodeSafe" = some 7 by kernel_rfl).symm.trans hf) |>.symm
  obtain rfl:fn = Tryz.f7 := (Option.some.inj (Tryz.func7.symm.trans hfn)).symm
  refine ⟨by kernel_rfl,fun j t ht => ?_⟩
  rw [Tryz.params7] at ht
  have hm:t ∈ [27,3,37] := by simpa using Array.mem_of_getElem? ht
  simp only [List.mem_cons,List.not_mem_nil,or_false,or_self] at hm
  rcases hm with rfl | rfl | rfl
  · exact (show Tryz.prog.wantsStandIn 27 = false by kernel_rfl)
  · exact (show Tryz.prog.wantsStandIn 3 = false by kernel_rfl)
  · exact (show Tryz.prog.wantsStandIn 37 = false by kernel_rfl)
theorem provedBytecodeSafe:Rows.BytecodeSafeCardSaid :=
  Claim7.holds_tied_plain_at .later [] _ _ _ _ said5 (fun _ h => by cases h) (by kernel_rfl) (fun _ h => by cases h) bytecodeSafe_row_tie rfl ⟨rfl,rfl⟩ (by kernel_rfl) rfl plain5 (by kernel_rfl)
end Go.Proofs.YtflbmbkhjcbhoaaGreatDoor
