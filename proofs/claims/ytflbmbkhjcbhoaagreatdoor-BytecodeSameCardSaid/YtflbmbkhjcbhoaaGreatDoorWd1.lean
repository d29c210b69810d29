/- The law of the bytecode chapter that the theorem names returns true at every input, without conditions; its arguments read as before. -/
import Derived.Test.YtflbmbkhjcbhoaaGreatDoorW4
import Derived.Test.YtflbmbkhjcbhoaaGreatDoorProg
import Derived.Lib.LaidTab
import Derived.Lib.ItoaNum
import Derived.Lib.TrailingZeros
import Derived.Calls
import Derived.Below
import Derived.Laws.Entries
import Derived.Laws.Build
import Derived.Laws.Concat
import Derived.Laws.AppendOwn
import Derived.Laws.IdiomStrings
import Derived.Laws.BytesString
import Derived.Laws.NewFold
import Derived.Laws.MakeOwn
import Derived.Laws.IdiomCopy
import Derived.Laws.Shifts
import Derived.Laws.Strings
import Derived.Laws.Strings2
import Derived.Laws.Strings3
import Derived.Laws.RangeString
import Derived.MapKept
import Derived.Laws.StructEq
import Derived.Orders
import Derived.Scope
import Derived.ProofKit
import Derived.WalkKit
import Derived.OpenShut
import Derived.Recover
import Derived.KernelRfl
import Derived.Shelf.Strings.Builder1
import Derived.Shelf.Strings.Builder2
import Derived.Shelf.Strings.OnBuilder
import Derived.Shelf.Strings.BuilderF
import Derived.Shelf.Strconv.Itoa0
import Derived.Shelf.Strconv.Itoa1
import Derived.Shelf.LaysM
import Derived.Shelf.Strconv.Itoa2
import Derived.Shelf.Strconv.Itoa3
import Derived.Shelf.Strconv.Itoa4
import Derived.Shelf.Strings.Prefix
import Derived.Shelf.Bits.Mul64
import Derived.Shelf.Strings.Repeat
import Derived.Lib.Repeat
import Derived.Lib.AppendIntMem
import Derived.Lib.ItoaLen
import Derived.Test.YtflbmbkhjcbhoaaGreatDoorCards
import Derived.Test.YtflbmbkhjcbhoaaGreatDoorTie
import Derived.Deep.DeepHandedRow
import Derived.Stop.LaidErr
import Derived.Lib.Join
import Derived.Lib.Builder
import Derived.Lib.UnsafeStr
import Derived.Laws.BitsLemmas
namespace Go.Proofs.YtflbmbkhjcbhoaaGreatDoor
open Go Go.Ab
set_option maxRecDepth 100000
theorem mem_getD9 {α:Type} {l:List α} {i:Nat} {d:α} (h:i < l.length):l.getD i d ∈ l := getD_mem' h
noncomputable def Eshp (l m:List Int):Senv := { EC con0 26 2 [4,5,10,14,25] (fun id => match id with | 6 => ([0,1,2,3,4,5,6,7,8],[]) | _ => ([],[])) with
  ann := fun b _ S => match b with
    | 0 => some { slots := [5],keep := [0,1],α := Nat,st := fun i => ([.int .i64 i],S),inv := fun i => i ≤ l.length∧∀ j,j < i→l.getD j 0 = m.getD j 0,mu := fun i => l.length - i }
    | _ => none }
noncomputable section
def rm1q0 (p0 p1:List Int):Prop := True∧∃ (y:Unit),True∧false = decide (p0 = p1)∧True∧True
def rm1q1 (p0:Nat) (p1 p2:List Int):Prop := p0 ≤ LN p1∧∀ (j:Nat),j < p0→GI p1 j = GI p2 j
def rm1q2 (p0:List Int):D := SI p0
def rm1q3 (p0:List Int):Prop := SM (rm1q2 p0)
end
theorem shapes_ok (l m:List Int) (hl:l.length ≤ maxLen) (hm:m.length ≤ maxLen):ACalls Tryz.prog 81 [isl l .any,isl m .any] ⟨[],[]⟩ (SpecR (sC [isl l .any,isl m .any] (.bool (decide (l = m)))) ()) := by
  refine con_of (A := sC _ _) (x := ()) (E := Eshp l m) (eOk con0_ok rfl) Tryz.func81 rfl (by kernel_rfl) rfl (by simp [sC,Eshp,EC,E0]) ?_
  refine vc_eq (T :=
    ifB ((LI l) != (LI m)) (rm1q0 l m) ((∃ (x:Nat),rm1q1 x l m∧(Z0 = (↑x:Int)∧True)∧True∧True)∧∀ (x:Nat),rm1q1 x l m→ifB (decide ((↑x:Int) < (LI l))) (side (Z0 ≤ (↑x:Int)∧(↑x:Int) < (LI l)) (side (Z0 ≤ (↑x:Int)∧(↑x:Int) < (LI m)) (ifB (GI l (Int.toNat (↑x:Int)) != GI m (Int.toNat (↑x:Int))) (rm1q0 l m) ((rm1q3 l∧rm1q3 m∧True)∧∃ (y:Nat),rm1q1 y l m∧LN l - y < LN l - x∧(IntKind.wrap IntKind.i64 ((↑x:Int) + Z1) = (↑y:Int)∧True)∧True∧True)))) (True∧∃ (y:Unit),True∧true = decide (l = m)∧True∧True))) (by kernel_rfl) ?_
  delta GI LI LN N1 SI SM Z0 Z1 ZI rm1q0 rm1q1 rm1q2 rm1q3
  simp only [ifB_iff,side_iff,decide_eq_true_eq,decide_eq_false_iff_not,true_and,and_true,beq_iff_eq,bne_iff_ne,ne_eq,exists_const,forall_const,implies_true,Int.toNat_natCast]
  simp only [maxLen] at hl hm
  refine ⟨fun h => ?_,fun h => ⟨⟨0,⟨Nat.zero_le _,fun j hj => absurd hj (by omega)⟩,rfl⟩,fun i hi => ⟨fun hlt => ?_,fun hge => ?_⟩⟩⟩
  · exact (decide_eq_false fun e => by rw [e] at h; exact h rfl).symm
  · have h:l.length = m.length := by
      have h:(l.length:Int) = m.length := by simpa using h
      omega
    refine ⟨⟨by omega,by omega⟩,⟨by omega,by omega⟩,fun hn => ?_,fun he => ⟨i + 1,⟨by omega,fun j hj => ?_⟩,by omega,wrap_i64' (by omega) (by omega)⟩⟩
    · exact (decide_eq_false fun e => hn (by rw [e])).symm
    · by_cases e:j = i
      · subst e; simpa using he
      · exact hi.2 j (by omega)
  · have h:l.length = m.length := by
      have h:(l.length:Int) = m.length := by simpa using h
      omega
    exact (decide_eq_true (eq_getD 0 h fun j hj => hi.2 j (by omega))).symm
noncomputable def sSm (row:Arr→List D) (q:Arr × Arr→Prop):FnSpec where
  β := Arr × Arr
  α := Unit
  args := fun x => [.agg (row x.1),.agg (row x.2)]
  st := fun _ => ⟨[],[]⟩
  pre := q
  post := fun _ _ => True
  res := fun x _ => .ret (.bool (sameT x.1 x.2))
  out := fun _ _ => ⟨[],[]⟩
noncomputable def conSm (l m:List Arr):Con := fun k ds _ => match k with
  | 53 => some (sSm Arr.row1 (fun x => x.1 ∈ l∧x.2 ∈ m))
  | 81 => match ds with
    | [.sl 1 n f _,.sl 1 p g _] => some (pC ds (.bool (decide (intsD n f = intsD p g))) ((IntsP n f∧n ≤ maxLen)∧IntsP p g∧p ≤ maxLen))
    | _ => none
  | _ => none
noncomputable def Esm (a b:Arr):Senv := { EC (conSm a.it b.it) 55 6 [35,40,54] (fun id => match id with | 6 => ([0,1,2,3,4,5,6,7,8,9,10,11],[10]) | _ => ([],[])) with
  ann := fun q _ S => match q with
    | 0 => some { slots := [5],keep := [2,3],α := Nat,st := fun i => ([.int .i64 i],S),inv := fun i => i ≤ a.it.length∧∀ j,j < i→a.it.getD j default = b.it.getD j default,mu := fun i => a.it.length - i }
    | _ => none }
noncomputable section
def rm1q4 (p0:Arr):Int := Arr.k p0
def rm1q5 (p0 p1:Arr):Prop := True∧∃ (y:Unit),True∧false = sameT p0 p1∧True∧True
def rm1q6 (p0:Arr):Nat := LN (Arr.sh p0)
def rm1q7 (p0:Arr) (p1:Nat):List D := [ZI (GI (Arr.sh p0) p1)]
def rm1q8 (p0:Arr):Prop := (IntsP (rm1q6 p0) fun (i:Nat) => rm1q7 p0 i)∧rm1q6 p0 ≤ (9223372036854775807:Nat)
def rm1q9 (p0:Arr):List Int := intsD (rm1q6 p0) fun (i:Nat) => rm1q7 p0 i
def rm1q10 (p0:Arr):Nat := LN (Arr.nu p0)
def rm1q11 (p0:Arr) (p1:Nat):List D := [ZI (GI (Arr.nu p0) p1)]
def rm1q12 (p0:Arr):Prop := (IntsP (rm1q10 p0) fun (i:Nat) => rm1q11 p0 i)∧rm1q10 p0 ≤ (9223372036854775807:Nat)
def rm1q13 (p0:Arr):List Int := intsD (rm1q10 p0) fun (i:Nat) => rm1q11 p0 i
def rm1q14 (p0:Arr):List Arr := Arr.it p0
def rm1q15 (p0:Arr):Nat := LN (rm1q14 p0)
def rm1q16 (p0:Arr):Int := (NI (rm1q15 p0))
def rm1q17:Arr := DA
def rm1q18 (p0:Arr) (p1:Nat):Arr := List.getD (rm1q14 p0) p1 rm1q17
def rm1q19 (p0:Nat) (p1 p2:Arr):Prop := p0 ≤ rm1q15 p1∧∀ (j:Nat),j < p0→rm1q18 p1 j = rm1q18 p2 j
def rm1q20 (p0:Arr) (p1:Nat):List Int := Arr.sh (rm1q18 p0 p1)
def rm1q21 (p0:Arr) (p1:Nat):List Int := Arr.nu (rm1q18 p0 p1)
def rm1q22 (p0:Arr) (p1:Nat):List Arr := Arr.it (rm1q18 p0 p1)
def rm1q23 (p0:Arr) (p1:Nat):List D := [ZI (Arr.k (rm1q18 p0 p1)),SI (rm1q20 p0 p1),SI (rm1q21 p0 p1),D.sl N4 (LN (rm1q22 p0 p1)) (fun (i:Nat) => Arr.row (List.getD (rm1q22 p0 p1) i rm1q17)) Mode.any]
def rm1q24 (p0:Arr):Prop := SM (rm1q4 p0)∧(SM (rm1q6 p0)∧(∀ (i:Nat),i < rm1q6 p0→SM (rm1q7 p0 i))∧True)∧(SM (rm1q10 p0)∧(∀ (i:Nat),i < rm1q10 p0→SM (rm1q11 p0 i))∧True)∧(SM (rm1q15 p0)∧(∀ (i:Nat),i < rm1q15 p0→SM (rm1q23 p0 i))∧True)∧True
def rm1q25 (p0:Nat) (p1:Arr) (p2:Nat) (p3:Arr):Prop := (SM p0∧rm1q24 p1∧SM p2∧rm1q24 p3∧True)∧True
def rm1q26 (p0:Arr) (p1:Nat):Arr := List.getD (rm1q14 p0) (Int.toNat (↑p1:Int)) rm1q17
def rm1q27 (p0:Arr) (p1:Nat):List Int := Arr.sh (rm1q26 p0 p1)
def rm1q28 (p0:Arr) (p1:Nat):Nat := LN (rm1q27 p0 p1)
def rm1q29 (p0:Arr) (p1:Nat):List Int := Arr.nu (rm1q26 p0 p1)
def rm1q30 (p0:Arr) (p1:Nat):Nat := LN (rm1q29 p0 p1)
def rm1q31 (p0:Arr) (p1:Nat):List Arr := Arr.it (rm1q26 p0 p1)
def rm1q32 (p0:Arr) (p1:Nat):Nat := LN (rm1q31 p0 p1)
def rm1q33 (p0:Arr) (p1:Nat) (p2:Arr):Prop := Arr.k (rm1q26 p0 p1) = rm1q4 p2∧(rm1q28 p0 p1 = rm1q6 p2∧(∀ (i:Nat),i < rm1q28 p0 p1→[ZI (GI (rm1q27 p0 p1) i)] = rm1q7 p2 i)∧True)∧(rm1q30 p0 p1 = rm1q10 p2∧(∀ (i:Nat),i < rm1q30 p0 p1→[ZI (GI (rm1q29 p0 p1) i)] = rm1q11 p2 i)∧True)∧(rm1q32 p0 p1 = rm1q15 p2∧(∀ (i:Nat),i < rm1q32 p0 p1→Arr.row (List.getD (rm1q31 p0 p1) i rm1q17) = Arr.row (rm1q18 p2 i))∧True)∧True
end
theorem same_step (a b : Arr) (ha : a.sh.length ≤ maxLen ∧ a.nu.length ≤ maxLen ∧ a.it.length ≤ maxLen) (hb : b.sh.length ≤ maxLen ∧ b.nu.length ≤ maxLen ∧ b.it.length ≤ maxLen) (hc : ConOk Tryz.prog (conSm a.it b.it)) :
    ACalls Tryz.prog 53 ((sSm Arr.row2 (fun _ => True)).args (a,b)) ⟨[],[]⟩ (SpecR (sSm Arr.row2 (fun _ => True)) (a,b)) := by
  refine con_of (A := sSm Arr.row2 (fun _ => True)) (x := (a,b)) (E := Esm a b) (eOk hc rfl) Tryz.func53 rfl (by kernel_rfl) rfl (by simp [sSm,Esm,EC,E0]) ?_
  refine vc_eq (T :=
    ∀ (x:Nat),True→∀ (x_1:Nat),x ≠ x_1∧True→SM x∧SM x_1∧ifB (rm1q4 a != rm1q4 b) (rm1q5 a b) (SM x∧SM x_1∧(rm1q8 a∧rm1q8 b)∧∀ (y:Unit),True→ifB (!decide (rm1q9 a = rm1q9 b)) (rm1q5 a b) (SM x∧SM x_1∧(rm1q12 a∧rm1q12 b)∧∀ (y:Unit),True→ifB (!decide (rm1q13 a = rm1q13 b)) (rm1q5 a b) (SM x∧SM x_1∧ifB (rm1q16 a != rm1q16 b) (rm1q5 a b) ((∃ (x_2:Nat),rm1q19 x_2 a b∧(Z0 = (↑x_2:Int)∧True)∧rm1q25 x_1 b x a)∧∀ (x_2:Nat),rm1q19 x_2 a b→SM x∧ifB (decide ((↑x_2:Int) < rm1q16 a)) (SM x∧side (Z0 ≤ (↑x_2:Int)∧(↑x_2:Int) < rm1q16 a) (SM x_1∧side (Z0 ≤ (↑x_2:Int)∧(↑x_2:Int) < rm1q16 b) (∃ (x_3:Arr × Arr),(rm1q33 a x_2 x_3.1∧rm1q33 b x_2 x_3.2∧True)∧(True∧True)∧(x_3.1 ∈ rm1q14 a∧x_3.2 ∈ rm1q14 b)∧∀ (y:Unit),True→ifB (!sameT x_3.1 x_3.2) (rm1q5 a b) ((SM (D.ref N0 x N0)∧SM (D.ref (max (N0 + N1) N0) x_1 N0)∧True)∧∃ (y:Nat),rm1q19 y a b∧rm1q15 a - y < rm1q15 a - x_2∧(IntKind.wrap IntKind.i64 ((↑x_2:Int) + Z1) = (↑y:Int)∧True)∧rm1q25 x_1 b x a)))) (True∧∃ (y:Unit),True∧true = sameT a b∧True∧True)))))) (by kernel_rfl) ?_
  delta DA GI LN N0 N1 N4 NI SI SM Z0 Z1 ZI rm1q10 rm1q11 rm1q12 rm1q13 rm1q14 rm1q15 rm1q16 rm1q17 rm1q18 rm1q19 rm1q20 rm1q21 rm1q22 rm1q23 rm1q24 rm1q25 rm1q26 rm1q27 rm1q28 rm1q29 rm1q30 rm1q31 rm1q32 rm1q33 rm1q4 rm1q5 rm1q6 rm1q7 rm1q8 rm1q9
  have da:(default:Arr) = Arr.mk 0 [] [] [] := rfl
  simp only [← da,ifB_iff,side_iff,decide_eq_true_eq,decide_eq_false_iff_not,true_and,and_true,beq_iff_eq,bne_iff_ne,Bool.cond_false_right,Bool.cond_true_left,Bool.and_eq_true,Bool.and_eq_false_iff,Bool.or_eq_true,Bool.or_eq_false_iff,beq_eq_false_iff_ne,ne_eq,exists_const,forall_const,implies_true,Int.toNat_natCast,Prod.exists,intsD_isl]
  simp only [maxLen] at ha hb
  obtain ⟨a1,a2,a3⟩ := ha
  obtain ⟨b1,b2,b3⟩ := hb
  refine fun x x1 _ => ⟨fun h => sameT_no fun e => h (by rw [e]),fun hk => ⟨⟨⟨intsP_isl _,a1⟩,intsP_isl _,b1⟩,fun h => sameT_no fun e => ?_,fun hs => ⟨⟨⟨intsP_isl _,a2⟩,intsP_isl _,b2⟩,fun h => sameT_no fun e => ?_,fun hn => ⟨fun h => sameT_no fun e => h (by rw [e]),fun hl => ⟨⟨0,⟨Nat.zero_le _,fun j hj => absurd hj (by omega)⟩,rfl⟩,fun i hi => ⟨fun hlt => ?_,fun hge => ?_⟩⟩⟩⟩⟩⟩
  · rw [e] at h; simp at h
  · rw [e] at h; simp at h
  · have hl:a.it.length = b.it.length := by
      have hl:(a.it.length:Int) = b.it.length := by simpa using hl
      omega
    have h1:i < a.it.length := by omega
    have h2:i < b.it.length := by omega
    refine ⟨⟨by omega,by omega⟩,⟨by omega,by omega⟩,a.it.getD i default,b.it.getD i default,⟨⟨rfl,⟨rfl,fun _ _ => rfl⟩,⟨rfl,fun _ _ => rfl⟩,rfl,fun _ _ => rfl⟩,rfl,⟨rfl,fun _ _ => rfl⟩,⟨rfl,fun _ _ => rfl⟩,rfl,fun _ _ => rfl⟩,⟨mem_getD9 h1,mem_getD9 h2⟩,fun h => sameT_no fun e => ?_,fun h => ⟨i + 1,⟨by omega,fun j hj => ?_⟩,by omega,wrap_i64' (by omega) (by omega)⟩⟩
    · rw [e,sameT_iff.2 rfl] at h; cases h
    · by_cases e:j = i
      · subst e
        exact sameT_iff.1 (by simpa using h)
      · exact hi.2 j (by omega)
  · have hl:a.it.length = b.it.length := by
      have hl:(a.it.length:Int) = b.it.length := by simpa using hl
      omega
    exact (sameT_iff.2 (arr_ext (by simpa using hk) (by simpa using hs) (by simpa using hn) (eq_getD default hl fun j hj => hi.2 j (by omega)))).symm
theorem sSm_row {k:Nat} {q q':Arr × Arr→Prop} {x:Arr × Arr} (h:ACalls Tryz.prog k ((sSm Arr.row2 q).args x) ⟨[],[]⟩ (SpecR (sSm Arr.row2 q) x)):ACalls Tryz.prog k ((sSm Arr.row1 q').args x) ⟨[],[]⟩ (SpecR (sSm Arr.row1 q') x) :=
  (h.wkArgs (by simp only [sSm,wkL,wkD]; exact ⟨row1_wk _,row1_wk _,trivial⟩)).mono fun _ _ ⟨y,q1,q2,q3⟩ => ⟨y,q1,q2,q3⟩
theorem same_all:∀ (a b:Arr),a.ok→b.ok→ACalls Tryz.prog 53 ((sSm Arr.row2 (fun _ => True)).args (a,b)) ⟨[],[]⟩ (SpecR (sSm Arr.row2 (fun _ => True)) (a,b))
  | .mk k s n is,.mk k' s' n' is',ha,hb => by
    simp only [Arr.ok] at ha hb
    obtain ⟨_,_,_,a1,a2,a3,a4⟩ := ha
    obtain ⟨_,_,_,b1,b2,b3,b4⟩ := hb
    refine same_step _ _ ⟨a1,a2,a3⟩ ⟨b1,b2,b3⟩ ?_
    intro f ds S A h
    unfold conSm at h
    split at h
    · injection h with h; subst h
      refine ConOk.plain (fun (x:Arr × Arr) hx => ?_) rfl rfl
      obtain ⟨x,y⟩ := x
      have hx1:x ∈ is := hx.1
      have hx2:y ∈ is' := hx.2
      exact sSm_row (same_all x y ((okL_iff _).1 a4 x hx1) ((okL_iff _).1 b4 y hx2))
    · split at h
      · injection h with h; subst h
        exact pC_ok fun ⟨⟨h1,h2⟩,h3,h4⟩ => ⟨weakL_refl _,sC_weak (us := [isl (intsD _ _) .any,isl (intsD _ _) .any]) ⟨(isl_weak h1).1,(isl_weak h3).1,trivial⟩ (shapes_ok _ _ (by rw [intsD_len]; exact h2) (by rw [intsD_len]; exact h4))⟩
      · cases h
    · cases h
termination_by a => SizeOf.sizeOf a
decreasing_by
  have := List.sizeOf_lt_of_mem hx1
  simp; omega
end Go.Proofs.YtflbmbkhjcbhoaaGreatDoor
namespace Go.Proofs.YtflbmbkhjcbhoaaGreatDoor
open Go Go.Ab
set_option maxRecDepth 100000
noncomputable def ErsF (l m:List FnD):Senv := { EC con0 71 2 [4,5,6,11,15,43,51,70] (fun id => match id with | 6 => ([0,1,2,3,4,5,6,7,8,9,10,11,12,13,14,15,16,17,18,19,20,21,22,23,24,25],[]) | 11 => ([0,1,2,3,4,5,6,7,8,9,10,11,12,13,14,15,16],[]) | _ => ([],[])) with
  ann := fun q env S => match q with
    | 0 => some { slots := [5],keep := [0,1],α := Nat,st := fun i => ([.int .i64 i],S),inv := fun i => i ≤ l.length∧∀ j,j < i→l.getD j default = m.getD j default,mu := fun i => l.length - i }
    | 2 => some { slots := [6],keep := [0,1,5],α := Nat,st := fun i => ([.int .i64 i],S),inv := fun i => i ≤ (l.getD (numOf (Ab.look env 5)).toNat default).code.length∧∀ j,j < i→(l.getD (numOf (Ab.look env 5)).toNat default).code.getD j default = (m.getD (numOf (Ab.look env 5)).toNat default).code.getD j default,mu := fun i => (l.getD (numOf (Ab.look env 5)).toNat default).code.length - i }
    | _ => none }
noncomputable section
def rm2q0 (p0 p1:List FnD):Prop := True∧∃ (_y:Unit),True∧false = sameT p0 p1∧True∧True
def rm2q1:FnD := DF
def rm2q2 (p0:List FnD) (p1:Nat):FnD := List.getD p0 p1 rm2q1
def rm2q3 (p0:Nat) (p1 p2:List FnD):Prop := p0 ≤ LN p1∧∀ (j:Nat),j < p0→rm2q2 p1 j = rm2q2 p2 j
def rm2q4 (p0:List FnD) (p1:Nat):FnD := List.getD p0 (Int.toNat (↑p1:Int)) rm2q1
def rm2q5 (p0:List FnD) (p1:Nat):Int := FnD.slots (rm2q4 p0 p1)
def rm2q6 (p0:List FnD) (p1:Nat) (p2:List FnD):Bool := rm2q5 p0 p1 != rm2q5 p2 p1
def rm2q7 (p0:List FnD) (p1:Nat):List I4 := FnD.code (rm2q4 p0 p1)
def rm2q8 (p0:List FnD) (p1:Nat):Int := (LI (rm2q7 p0 p1))
def rm2q9 (p0:List FnD) (p1:Nat) (p2:List FnD):Bool := rm2q8 p0 p1 != rm2q8 p2 p1
def rm2q10 (p0:List FnD) (p1:Nat) (p2:List FnD):Bool := bif rm2q6 p0 p1 p2 then true else rm2q9 p0 p1 p2
def rm2q11 (p0:List FnD) (p1:Nat):List I4 := FnD.code (List.getD p0 (Int.toNat (numOf (ZI (↑p1:Int)))) rm2q1)
def rm2q12 (p0:List FnD) (p1:Nat):Nat := LN (rm2q11 p0 p1)
def rm2q13:I4 := D4
def rm2q14 (p0:List FnD) (p1 p2:Nat):I4 := List.getD (rm2q11 p0 p1) p2 rm2q13
def rm2q15 (p0:Nat) (p1:List FnD) (p2:Nat) (p3:List FnD):Prop := p0 ≤ rm2q12 p1 p2∧∀ (j:Nat),j < p0→rm2q14 p1 p2 j = rm2q14 p3 p2 j
def rm2q16 (p0:List FnD) (p1 p2:Nat):I4 := List.getD (rm2q7 p0 p1) (Int.toNat (↑p2:Int)) rm2q13
def rm2q17 (p0:List FnD) (p1 p2:Nat):Int := I4.a (rm2q16 p0 p1 p2)
def rm2q18 (p0:List FnD) (p1 p2:Nat):Int := I4.b (rm2q16 p0 p1 p2)
def rm2q19 (p0:List FnD) (p1 p2:Nat):Int := I4.c (rm2q16 p0 p1 p2)
def rm2q20 (p0:List FnD) (p1 p2:Nat):Int := I4.d (rm2q16 p0 p1 p2)
def rm2q21 (p0:List FnD) (p1:Nat):List I4 := FnD.code (rm2q2 p0 p1)
def rm2q22 (p0:List FnD) (p1 p2:Nat):I4 := List.getD (rm2q21 p0 p1) p2 rm2q13
def rm2q23 (p0:List FnD):D := D.sl N2 (LN p0) (fun (i:Nat) => [ZI (FnD.slots (rm2q2 p0 i)),D.sl N4 (LN (rm2q21 p0 i)) (fun (i_1:Nat) => (R4 (rm2q22 p0 i i_1))) Mode.any]) Mode.any
def rm2q24 (p0:List FnD):Prop := SM (rm2q23 p0)
def rm2q25 (p0:List FnD) (p1 p2:Nat):Nat := rm2q12 p0 p1 - p2
def rm2q26 (p0 p1:Nat):Prop := (IntKind.wrap IntKind.i64 ((↑p0:Int) + Z1) = (↑p1:Int)∧True)∧True∧True
end
theorem rsF_ok (l m:List FnD) (hl:l.length ≤ maxLen) (hm:m.length ≤ maxLen) (hx:∀ x ∈ l,x.ok) (hy:∀ x ∈ m,x.ok):ACalls Tryz.prog 54 [gsl 2 FnD.row l,gsl 2 FnD.row m] ⟨[],[]⟩ (SpecR (sC [gsl 2 FnD.row l,gsl 2 FnD.row m] (.bool (sameT l m))) ()) := by
  refine con_of (A := sC _ _) (x := ()) (E := ErsF l m) (eOk con0_ok rfl) Tryz.func54 rfl (by kernel_rfl) rfl (by simp [sC,ErsF,EC,E0]) ?_
  refine vc_eq (T :=
    ifB ((LI l) != (LI m)) (rm2q0 l m) ((∃ (x:Nat),rm2q3 x l m∧(Z0 = (↑x:Int)∧True)∧True∧True)∧∀ (x:Nat),rm2q3 x l m→ifB (decide ((↑x:Int) < (LI l))) (side (Z0 ≤ (↑x:Int)∧(↑x:Int) < (LI l)) (side (Z0 ≤ (↑x:Int)∧(↑x:Int) < (LI m)) (ifB (rm2q6 l x m) (true = rm2q10 l x m∧True) (side (Z0 ≤ (↑x:Int)∧(↑x:Int) < (LI l)) (side (Z0 ≤ (↑x:Int)∧(↑x:Int) < (LI m)) (rm2q9 l x m = rm2q10 l x m∧True)))))∧ifB (rm2q10 l x m) (rm2q0 l m) ((∃ (x_1:Nat),rm2q15 x_1 l x m∧(Z0 = (↑x_1:Int)∧True)∧True∧True)∧∀ (x_1:Nat),rm2q15 x_1 l x m→side (Z0 ≤ (↑x:Int)∧(↑x:Int) < (LI l)) (ifB (decide ((↑x_1:Int) < rm2q8 l x)) (side (Z0 ≤ (↑x:Int)∧(↑x:Int) < (LI l)) (side (Z0 ≤ (↑x_1:Int)∧(↑x_1:Int) < rm2q8 l x) (side (Z0 ≤ (↑x:Int)∧(↑x:Int) < (LI m)) (side (Z0 ≤ (↑x_1:Int)∧(↑x_1:Int) < rm2q8 m x) (ifB (! (rm2q17 l x x_1 == rm2q17 m x x_1 && (rm2q18 l x x_1 == rm2q18 m x x_1 && (rm2q19 l x x_1 == rm2q19 m x x_1 && (rm2q20 l x x_1 == rm2q20 m x x_1 && true))))) (rm2q0 l m) ((rm2q24 l∧rm2q24 m∧SM (ZI (↑x:Int))∧True)∧∃ (y:Nat),rm2q15 y l x m∧rm2q25 l x y < rm2q25 l x x_1∧rm2q26 x_1 y)))))) ((rm2q24 l∧rm2q24 m∧True)∧∃ (y:Nat),rm2q3 y l m∧LN l - y < LN l - x∧rm2q26 x y)))) (True∧∃ (y:Unit),True∧true = sameT l m∧True∧True))) (by kernel_rfl) ?_
  delta D4 DF LI LN N2 N4 R4 SM Z0 Z1 ZI rm2q0 rm2q1 rm2q10 rm2q11 rm2q12 rm2q13 rm2q14 rm2q15 rm2q16 rm2q17 rm2q18 rm2q19 rm2q2 rm2q20 rm2q21 rm2q22 rm2q23 rm2q24 rm2q25 rm2q26 rm2q3 rm2q4 rm2q5 rm2q6 rm2q7 rm2q8 rm2q9
  simp only [beq4,ifB_iff,side_iff,decide_eq_true_eq,decide_eq_false_iff_not,true_and,and_true,bne_iff_ne,bne_eq_false_iff_eq,ne_eq,exists_const,Int.toNat_natCast,Bool.not_eq_true',Bool.not_eq_false',eq_self,numOf]
  simp only [maxLen] at hl hm
  have d0:(⟨0,[]⟩:FnD) = default := rfl
  have d1:(⟨0,0,0,0⟩:I4) = default := rfl
  simp only [d0,d1]
  refine ⟨fun h => sameT_no fun e => h (by rw [e]),fun he => ⟨⟨0,⟨Nat.zero_le _,fun j hj => absurd hj (by omega)⟩,rfl⟩,fun i hi => ⟨fun hlt => ⟨⟨⟨by omega,by omega⟩,⟨by omega,by omega⟩,fun h => by simp [h,-List.getD_eq_getElem?_getD],fun h0 => ⟨⟨by omega,by omega⟩,⟨by omega,by omega⟩,by simp [h0,-List.getD_eq_getElem?_getD]⟩⟩,fun hv => sameT_no fun e => by subst e; simp at hv,fun hv => ?_⟩,fun hge => sameT_yes (eq_getD default (by omega) fun j hj => hi.2 j (by omega))⟩⟩⟩
  have hv':(l.getD i default).slots = (m.getD i default).slots∧(l.getD i default).code.length = (m.getD i default).code.length := by
    simp only [Bool.cond_true_left,Bool.or_eq_false_iff,bne_eq_false_iff_eq,Int.ofNat_inj] at hv
    exact hv
  obtain ⟨h0,hq⟩ := hv'
  have zl := hx _ (getD_mem' (d := default) (show i < l.length by omega))
  simp only [FnD.ok,maxLen] at zl
  refine ⟨⟨0,⟨Nat.zero_le _,fun j hj => absurd hj (by omega)⟩,rfl⟩,fun j hj2 => ⟨⟨by omega,by omega⟩,fun hlt2 => ⟨⟨by omega,by omega⟩,⟨by omega,by omega⟩,⟨by omega,by omega⟩,⟨by omega,by omega⟩,fun hn => sameT_no fun e => ?_,fun hs => ⟨j + 1,⟨by omega,all_step hj2.2 (sameT_iff.1 hs)⟩,by omega,wrap_i64' (by omega) (by omega)⟩⟩,fun hge2 => ⟨i + 1,⟨by omega,all_step hi.2 (fnd_ext h0 (eq_getD default hq fun j hj => hj2.2 j (by omega)))⟩,by omega,wrap_i64' (by omega) (by omega)⟩⟩⟩
  rw [e,sameT_iff.2 rfl] at hn; cases hn
noncomputable def ErsK (l m:List KeD):Senv := { EC con0 97 2 [4,5,6,11,15,69,77,96] (fun id => match id with | 6 => ([0,1,2,3,4,5,6,7,8,9,10,11,12,13,14,15,16,17,18,19,20,21,22,23,24,25,26,27,28,29,30,31,32,33,34,35,36,37,38,39,40,41,42,43,44,45,46,47,48,49,50,51],[]) | 11 => ([0,1,2,3,4,5,6,7,8,9,10,11,12,13,14,15,16],[]) | _ => ([],[])) with
  ann := fun q env S => match q with
    | 0 => some { slots := [5],keep := [0,1],α := Nat,st := fun i => ([.int .i64 i],S),inv := fun i => i ≤ l.length∧∀ j,j < i→l.getD j default = m.getD j default,mu := fun i => l.length - i }
    | 2 => some { slots := [6],keep := [0,1,5],α := Nat,st := fun i => ([.int .i64 i],S),inv := fun i => i ≤ (l.getD (numOf (Ab.look env 5)).toNat default).ops.length∧∀ j,j < i→(l.getD (numOf (Ab.look env 5)).toNat default).ops.getD j default = (m.getD (numOf (Ab.look env 5)).toNat default).ops.getD j default,mu := fun i => (l.getD (numOf (Ab.look env 5)).toNat default).ops.length - i }
    | _ => none }
noncomputable section
def rm2q27 (p0 p1:List KeD):Prop := True∧∃ (_y:Unit),True∧false = sameT p0 p1∧True∧True
def rm2q28:KeD := DK
def rm2q29 (p0:List KeD) (p1:Nat):KeD := List.getD p0 p1 rm2q28
def rm2q30 (p0:Nat) (p1 p2:List KeD):Prop := p0 ≤ LN p1∧∀ (j:Nat),j < p0→rm2q29 p1 j = rm2q29 p2 j
def rm2q31 (p0:List KeD) (p1:Nat):KeD := List.getD p0 (Int.toNat (↑p1:Int)) rm2q28
def rm2q32 (p0:List KeD) (p1:Nat):Int := KeD.inputs (rm2q31 p0 p1)
def rm2q33 (p0:List KeD) (p1:Nat) (p2:List KeD):Bool := rm2q32 p0 p1 != rm2q32 p2 p1
def rm2q34 (p0:List KeD) (p1:Nat):Int := KeD.reduce (rm2q31 p0 p1)
def rm2q35 (p0:List KeD) (p1:Nat) (p2:List KeD):Bool := rm2q34 p0 p1 != rm2q34 p2 p1
def rm2q36 (p0:List KeD) (p1:Nat):Int := KeD.at_ (rm2q31 p0 p1)
def rm2q37 (p0:List KeD) (p1:Nat) (p2:List KeD):Bool := rm2q36 p0 p1 != rm2q36 p2 p1
def rm2q38 (p0:List KeD) (p1:Nat):List I4 := KeD.ops (rm2q31 p0 p1)
def rm2q39 (p0:List KeD) (p1:Nat):Int := (LI (rm2q38 p0 p1))
def rm2q40 (p0:List KeD) (p1:Nat) (p2:List KeD):Bool := rm2q39 p0 p1 != rm2q39 p2 p1
def rm2q41 (p0:List KeD) (p1:Nat) (p2:List KeD):Bool := bif bif bif rm2q33 p0 p1 p2 then true else rm2q35 p0 p1 p2 then true else rm2q37 p0 p1 p2 then true else rm2q40 p0 p1 p2
def rm2q42 (p0:List KeD) (p1:Nat) (p2:List KeD):Prop := true = rm2q41 p0 p1 p2∧True
def rm2q43 (p0:List KeD) (p1:Nat):List I4 := KeD.ops (List.getD p0 (Int.toNat (numOf (ZI (↑p1:Int)))) rm2q28)
def rm2q44 (p0:List KeD) (p1:Nat):Nat := LN (rm2q43 p0 p1)
def rm2q45:I4 := D4
def rm2q46 (p0:List KeD) (p1 p2:Nat):I4 := List.getD (rm2q43 p0 p1) p2 rm2q45
def rm2q47 (p0:Nat) (p1:List KeD) (p2:Nat) (p3:List KeD):Prop := p0 ≤ rm2q44 p1 p2∧∀ (j:Nat),j < p0→rm2q46 p1 p2 j = rm2q46 p3 p2 j
def rm2q48 (p0:List KeD) (p1 p2:Nat):I4 := List.getD (rm2q38 p0 p1) (Int.toNat (↑p2:Int)) rm2q45
def rm2q49 (p0:List KeD) (p1 p2:Nat):Int := I4.a (rm2q48 p0 p1 p2)
def rm2q50 (p0:List KeD) (p1 p2:Nat):Int := I4.b (rm2q48 p0 p1 p2)
def rm2q51 (p0:List KeD) (p1 p2:Nat):Int := I4.c (rm2q48 p0 p1 p2)
def rm2q52 (p0:List KeD) (p1 p2:Nat):Int := I4.d (rm2q48 p0 p1 p2)
def rm2q53 (p0:List KeD) (p1:Nat):List I4 := KeD.ops (rm2q29 p0 p1)
def rm2q54 (p0:List KeD) (p1 p2:Nat):I4 := List.getD (rm2q53 p0 p1) p2 rm2q45
def rm2q55 (p0:List KeD):D := D.sl N4 (LN p0) (fun (i:Nat) => [ZI (KeD.inputs (rm2q29 p0 i)),D.sl N4 (LN (rm2q53 p0 i)) (fun (i_1:Nat) => (R4 (rm2q54 p0 i i_1))) Mode.any,ZI (KeD.reduce (rm2q29 p0 i)),ZI (KeD.at_ (rm2q29 p0 i))]) Mode.any
def rm2q56 (p0:List KeD):Prop := SM (rm2q55 p0)
def rm2q57 (p0:List KeD) (p1 p2:Nat):Nat := rm2q44 p0 p1 - p2
def rm2q58 (p0 p1:Nat):Prop := (IntKind.wrap IntKind.i64 ((↑p0:Int) + Z1) = (↑p1:Int)∧True)∧True∧True
end
theorem rsK_ok (l m:List KeD) (hl:l.length ≤ maxLen) (hm:m.length ≤ maxLen) (hx:∀ x ∈ l,x.ok) (hy:∀ x ∈ m,x.ok):ACalls Tryz.prog 55 [gsl 4 KeD.row l,gsl 4 KeD.row m] ⟨[],[]⟩ (SpecR (sC [gsl 4 KeD.row l,gsl 4 KeD.row m] (.bool (sameT l m))) ()) := by
  refine con_of (A := sC _ _) (x := ()) (E := ErsK l m) (eOk con0_ok rfl) Tryz.func55 rfl (by kernel_rfl) rfl (by simp [sC,ErsK,EC,E0]) ?_
  refine vc_eq (T :=
    ifB ((LI l) != (LI m)) (rm2q27 l m) ((∃ (x:Nat),rm2q30 x l m∧(Z0 = (↑x:Int)∧True)∧True∧True)∧∀ (x:Nat),rm2q30 x l m→ifB (decide ((↑x:Int) < (LI l))) (side (Z0 ≤ (↑x:Int)∧(↑x:Int) < (LI l)) (side (Z0 ≤ (↑x:Int)∧(↑x:Int) < (LI m)) (ifB (rm2q33 l x m) (rm2q42 l x m) (side (Z0 ≤ (↑x:Int)∧(↑x:Int) < (LI l)) (side (Z0 ≤ (↑x:Int)∧(↑x:Int) < (LI m)) (ifB (rm2q35 l x m) (rm2q42 l x m) (side (Z0 ≤ (↑x:Int)∧(↑x:Int) < (LI l)) (side (Z0 ≤ (↑x:Int)∧(↑x:Int) < (LI m)) (ifB (rm2q37 l x m) (rm2q42 l x m) (side (Z0 ≤ (↑x:Int)∧(↑x:Int) < (LI l)) (side (Z0 ≤ (↑x:Int)∧(↑x:Int) < (LI m)) (rm2q40 l x m = rm2q41 l x m∧True)))))))))))∧ifB (rm2q41 l x m) (rm2q27 l m) ((∃ (x_1:Nat),rm2q47 x_1 l x m∧(Z0 = (↑x_1:Int)∧True)∧True∧True)∧∀ (x_1:Nat),rm2q47 x_1 l x m→side (Z0 ≤ (↑x:Int)∧(↑x:Int) < (LI l)) (ifB (decide ((↑x_1:Int) < rm2q39 l x)) (side (Z0 ≤ (↑x:Int)∧(↑x:Int) < (LI l)) (side (Z0 ≤ (↑x_1:Int)∧(↑x_1:Int) < rm2q39 l x) (side (Z0 ≤ (↑x:Int)∧(↑x:Int) < (LI m)) (side (Z0 ≤ (↑x_1:Int)∧(↑x_1:Int) < rm2q39 m x) (ifB (! (rm2q49 l x x_1 == rm2q49 m x x_1 && (rm2q50 l x x_1 == rm2q50 m x x_1 && (rm2q51 l x x_1 == rm2q51 m x x_1 && (rm2q52 l x x_1 == rm2q52 m x x_1 && true))))) (rm2q27 l m) ((rm2q56 l∧rm2q56 m∧SM (ZI (↑x:Int))∧True)∧∃ (y:Nat),rm2q47 y l x m∧rm2q57 l x y < rm2q57 l x x_1∧rm2q58 x_1 y)))))) ((rm2q56 l∧rm2q56 m∧True)∧∃ (y:Nat),rm2q30 y l m∧LN l - y < LN l - x∧rm2q58 x y)))) (True∧∃ (y:Unit),True∧true = sameT l m∧True∧True))) (by kernel_rfl) ?_
  delta D4 DK LI LN N4 R4 SM Z0 Z1 ZI rm2q27 rm2q28 rm2q29 rm2q30 rm2q31 rm2q32 rm2q33 rm2q34 rm2q35 rm2q36 rm2q37 rm2q38 rm2q39 rm2q40 rm2q41 rm2q42 rm2q43 rm2q44 rm2q45 rm2q46 rm2q47 rm2q48 rm2q49 rm2q50 rm2q51 rm2q52 rm2q53 rm2q54 rm2q55 rm2q56 rm2q57 rm2q58
  simp only [beq4,ifB_iff,side_iff,decide_eq_true_eq,decide_eq_false_iff_not,true_and,and_true,bne_iff_ne,bne_eq_false_iff_eq,ne_eq,exists_const,Int.toNat_natCast,Bool.not_eq_true',Bool.not_eq_false',eq_self,numOf]
  simp only [maxLen] at hl hm
  have d0:(⟨0,[],0,0⟩:KeD) = default := rfl
  have d1:(⟨0,0,0,0⟩:I4) = default := rfl
  simp only [d0,d1]
  refine ⟨fun h => sameT_no fun e => h (by rw [e]),fun he => ⟨⟨0,⟨Nat.zero_le _,fun j hj => absurd hj (by omega)⟩,rfl⟩,fun i hi => ⟨fun hlt => ⟨⟨⟨by omega,by omega⟩,⟨by omega,by omega⟩,fun h => by simp [h,-List.getD_eq_getElem?_getD],fun h0 => ⟨⟨by omega,by omega⟩,⟨by omega,by omega⟩,fun h => by simp [h,-List.getD_eq_getElem?_getD],fun h1 => ⟨⟨by omega,by omega⟩,⟨by omega,by omega⟩,fun h => by simp [h,-List.getD_eq_getElem?_getD],fun h2 => ⟨⟨by omega,by omega⟩,⟨by omega,by omega⟩,by simp [h0,h1,h2,-List.getD_eq_getElem?_getD]⟩⟩⟩⟩,fun hv => sameT_no fun e => by subst e; simp at hv,fun hv => ?_⟩,fun hge => sameT_yes (eq_getD default (by omega) fun j hj => hi.2 j (by omega))⟩⟩⟩
  have hv':(((l.getD i default).inputs = (m.getD i default).inputs∧(l.getD i default).reduce = (m.getD i default).reduce)∧(l.getD i default).at_ = (m.getD i default).at_)∧(l.getD i default).ops.length = (m.getD i default).ops.length := by
    simp only [Bool.cond_true_left,Bool.or_eq_false_iff,bne_eq_false_iff_eq,Int.ofNat_inj] at hv
    exact hv
  obtain ⟨⟨⟨h0,h1⟩,h2⟩,hq⟩ := hv'
  have zl := hx _ (getD_mem' (d := default) (show i < l.length by omega))
  simp only [KeD.ok,maxLen] at zl
  refine ⟨⟨0,⟨Nat.zero_le _,fun j hj => absurd hj (by omega)⟩,rfl⟩,fun j hj2 => ⟨⟨by omega,by omega⟩,fun hlt2 => ⟨⟨by omega,by omega⟩,⟨by omega,by omega⟩,⟨by omega,by omega⟩,⟨by omega,by omega⟩,fun hn => sameT_no fun e => ?_,fun hs => ⟨j + 1,⟨by omega,all_step hj2.2 (sameT_iff.1 hs)⟩,by omega,wrap_i64' (by omega) (by omega)⟩⟩,fun hge2 => ⟨i + 1,⟨by omega,all_step hi.2 (ked_ext h0 (eq_getD default hq fun j hj => hj2.2 j (by omega)) h1 h2)⟩,by omega,wrap_i64' (by omega) (by omega)⟩⟩⟩
  rw [e,sameT_iff.2 rfl] at hn; cases hn
noncomputable def ErsL (l m:List LaD):Senv := { EC con0 71 2 [4,5,6,11,15,43,51,70] (fun id => match id with | 6 => ([0,1,2,3,4,5,6,7,8,9,10,11,12,13,14,15,16,17,18,19,20,21,22,23,24,25],[]) | 11 => ([0,1,2,3,4,5,6,7,8,9,10,11,12,13,14,15,16],[]) | _ => ([],[])) with
  ann := fun q env S => match q with
    | 0 => some { slots := [5],keep := [0,1],α := Nat,st := fun i => ([.int .i64 i],S),inv := fun i => i ≤ l.length∧∀ j,j < i→l.getD j default = m.getD j default,mu := fun i => l.length - i }
    | 2 => some { slots := [6],keep := [0,1,5],α := Nat,st := fun i => ([.int .i64 i],S),inv := fun i => i ≤ (l.getD (numOf (Ab.look env 5)).toNat default).code.length∧∀ j,j < i→(l.getD (numOf (Ab.look env 5)).toNat default).code.getD j default = (m.getD (numOf (Ab.look env 5)).toNat default).code.getD j default,mu := fun i => (l.getD (numOf (Ab.look env 5)).toNat default).code.length - i }
    | _ => none }
noncomputable section
def rm2q59 (p0 p1:List LaD):Prop := True∧∃ (_y:Unit),True∧false = sameT p0 p1∧True∧True
def rm2q60:LaD := DL
def rm2q61 (p0:List LaD) (p1:Nat):LaD := List.getD p0 p1 rm2q60
def rm2q62 (p0:Nat) (p1 p2:List LaD):Prop := p0 ≤ LN p1∧∀ (j:Nat),j < p0→rm2q61 p1 j = rm2q61 p2 j
def rm2q63 (p0:List LaD) (p1:Nat):LaD := List.getD p0 (Int.toNat (↑p1:Int)) rm2q60
def rm2q64 (p0:List LaD) (p1:Nat):Int := LaD.regs (rm2q63 p0 p1)
def rm2q65 (p0:List LaD) (p1:Nat) (p2:List LaD):Bool := rm2q64 p0 p1 != rm2q64 p2 p1
def rm2q66 (p0:List LaD) (p1:Nat):List I6 := LaD.code (rm2q63 p0 p1)
def rm2q67 (p0:List LaD) (p1:Nat):Int := (LI (rm2q66 p0 p1))
def rm2q68 (p0:List LaD) (p1:Nat) (p2:List LaD):Bool := rm2q67 p0 p1 != rm2q67 p2 p1
def rm2q69 (p0:List LaD) (p1:Nat) (p2:List LaD):Bool := bif rm2q65 p0 p1 p2 then true else rm2q68 p0 p1 p2
def rm2q70 (p0:List LaD) (p1:Nat):List I6 := LaD.code (List.getD p0 (Int.toNat (numOf (ZI (↑p1:Int)))) rm2q60)
def rm2q71 (p0:List LaD) (p1:Nat):Nat := LN (rm2q70 p0 p1)
def rm2q72:I6 := D6
def rm2q73 (p0:List LaD) (p1 p2:Nat):I6 := List.getD (rm2q70 p0 p1) p2 rm2q72
def rm2q74 (p0:Nat) (p1:List LaD) (p2:Nat) (p3:List LaD):Prop := p0 ≤ rm2q71 p1 p2∧∀ (j:Nat),j < p0→rm2q73 p1 p2 j = rm2q73 p3 p2 j
def rm2q75 (p0:List LaD) (p1 p2:Nat):I6 := List.getD (rm2q66 p0 p1) (Int.toNat (↑p2:Int)) rm2q72
def rm2q76 (p0:List LaD) (p1 p2:Nat):Int := I6.a (rm2q75 p0 p1 p2)
def rm2q77 (p0:List LaD) (p1 p2:Nat):Int := I6.b (rm2q75 p0 p1 p2)
def rm2q78 (p0:List LaD) (p1 p2:Nat):Int := I6.c (rm2q75 p0 p1 p2)
def rm2q79 (p0:List LaD) (p1 p2:Nat):Int := I6.d (rm2q75 p0 p1 p2)
def rm2q80 (p0:List LaD) (p1 p2:Nat):Int := I6.e (rm2q75 p0 p1 p2)
def rm2q81 (p0:List LaD) (p1 p2:Nat):Int := I6.f (rm2q75 p0 p1 p2)
def rm2q82 (p0:List LaD) (p1:Nat):List I6 := LaD.code (rm2q61 p0 p1)
def rm2q83 (p0:List LaD) (p1 p2:Nat):I6 := List.getD (rm2q82 p0 p1) p2 rm2q72
def rm2q84 (p0:List LaD):D := D.sl N2 (LN p0) (fun (i:Nat) => [ZI (LaD.regs (rm2q61 p0 i)),D.sl N6 (LN (rm2q82 p0 i)) (fun (i_1:Nat) => (R6 (rm2q83 p0 i i_1))) Mode.any]) Mode.any
def rm2q85 (p0:List LaD):Prop := SM (rm2q84 p0)
def rm2q86 (p0:List LaD) (p1 p2:Nat):Nat := rm2q71 p0 p1 - p2
def rm2q87 (p0 p1:Nat):Prop := (IntKind.wrap IntKind.i64 ((↑p0:Int) + Z1) = (↑p1:Int)∧True)∧True∧True
end
theorem rsL_ok (l m:List LaD) (hl:l.length ≤ maxLen) (hm:m.length ≤ maxLen) (hx:∀ x ∈ l,x.ok) (hy:∀ x ∈ m,x.ok):ACalls Tryz.prog 56 [gsl 2 LaD.row l,gsl 2 LaD.row m] ⟨[],[]⟩ (SpecR (sC [gsl 2 LaD.row l,gsl 2 LaD.row m] (.bool (sameT l m))) ()) := by
  refine con_of (A := sC _ _) (x := ()) (E := ErsL l m) (eOk con0_ok rfl) Tryz.func56 rfl (by kernel_rfl) rfl (by simp [sC,ErsL,EC,E0]) ?_
  refine vc_eq (T :=
    ifB ((LI l) != (LI m)) (rm2q59 l m) ((∃ (x:Nat),rm2q62 x l m∧(Z0 = (↑x:Int)∧True)∧True∧True)∧∀ (x:Nat),rm2q62 x l m→ifB (decide ((↑x:Int) < (LI l))) (side (Z0 ≤ (↑x:Int)∧(↑x:Int) < (LI l)) (side (Z0 ≤ (↑x:Int)∧(↑x:Int) < (LI m)) (ifB (rm2q65 l x m) (true = rm2q69 l x m∧True) (side (Z0 ≤ (↑x:Int)∧(↑x:Int) < (LI l)) (side (Z0 ≤ (↑x:Int)∧(↑x:Int) < (LI m)) (rm2q68 l x m = rm2q69 l x m∧True)))))∧ifB (rm2q69 l x m) (rm2q59 l m) ((∃ (x_1:Nat),rm2q74 x_1 l x m∧(Z0 = (↑x_1:Int)∧True)∧True∧True)∧∀ (x_1:Nat),rm2q74 x_1 l x m→side (Z0 ≤ (↑x:Int)∧(↑x:Int) < (LI l)) (ifB (decide ((↑x_1:Int) < rm2q67 l x)) (side (Z0 ≤ (↑x:Int)∧(↑x:Int) < (LI l)) (side (Z0 ≤ (↑x_1:Int)∧(↑x_1:Int) < rm2q67 l x) (side (Z0 ≤ (↑x:Int)∧(↑x:Int) < (LI m)) (side (Z0 ≤ (↑x_1:Int)∧(↑x_1:Int) < rm2q67 m x) (ifB (! (rm2q76 l x x_1 == rm2q76 m x x_1 && (rm2q77 l x x_1 == rm2q77 m x x_1 && (rm2q78 l x x_1 == rm2q78 m x x_1 && (rm2q79 l x x_1 == rm2q79 m x x_1 && (rm2q80 l x x_1 == rm2q80 m x x_1 && (rm2q81 l x x_1 == rm2q81 m x x_1 && true))))))) (rm2q59 l m) ((rm2q85 l∧rm2q85 m∧SM (ZI (↑x:Int))∧True)∧∃ (y:Nat),rm2q74 y l x m∧rm2q86 l x y < rm2q86 l x x_1∧rm2q87 x_1 y)))))) ((rm2q85 l∧rm2q85 m∧True)∧∃ (y:Nat),rm2q62 y l m∧LN l - y < LN l - x∧rm2q87 x y)))) (True∧∃ (y:Unit),True∧true = sameT l m∧True∧True))) (by kernel_rfl) ?_
  delta D6 DL LI LN N2 N6 R6 SM Z0 Z1 ZI rm2q59 rm2q60 rm2q61 rm2q62 rm2q63 rm2q64 rm2q65 rm2q66 rm2q67 rm2q68 rm2q69 rm2q70 rm2q71 rm2q72 rm2q73 rm2q74 rm2q75 rm2q76 rm2q77 rm2q78 rm2q79 rm2q80 rm2q81 rm2q82 rm2q83 rm2q84 rm2q85 rm2q86 rm2q87
  simp only [beq6,ifB_iff,side_iff,decide_eq_true_eq,decide_eq_false_iff_not,true_and,and_true,bne_iff_ne,bne_eq_false_iff_eq,ne_eq,exists_const,Int.toNat_natCast,Bool.not_eq_true',Bool.not_eq_false',eq_self,numOf]
  simp only [maxLen] at hl hm
  have d0:(⟨0,[]⟩:LaD) = default := rfl
  have d1:(⟨0,0,0,0,0,0⟩:I6) = default := rfl
  simp only [d0,d1]
  refine ⟨fun h => sameT_no fun e => h (by rw [e]),fun he => ⟨⟨0,⟨Nat.zero_le _,fun j hj => absurd hj (by omega)⟩,rfl⟩,fun i hi => ⟨fun hlt => ⟨⟨⟨by omega,by omega⟩,⟨by omega,by omega⟩,fun h => by simp [h,-List.getD_eq_getElem?_getD],fun h0 => ⟨⟨by omega,by omega⟩,⟨by omega,by omega⟩,by simp [h0,-List.getD_eq_getElem?_getD]⟩⟩,fun hv => sameT_no fun e => by subst e; simp at hv,fun hv => ?_⟩,fun hge => sameT_yes (eq_getD default (by omega) fun j hj => hi.2 j (by omega))⟩⟩⟩
  have hv':(l.getD i default).regs = (m.getD i default).regs∧(l.getD i default).code.length = (m.getD i default).code.length := by
    simp only [Bool.cond_true_left,Bool.or_eq_false_iff,bne_eq_false_iff_eq,Int.ofNat_inj] at hv
    exact hv
  obtain ⟨h0,hq⟩ := hv'
  have zl := hx _ (getD_mem' (d := default) (show i < l.length by omega))
  simp only [LaD.ok,maxLen] at zl
  refine ⟨⟨0,⟨Nat.zero_le _,fun j hj => absurd hj (by omega)⟩,rfl⟩,fun j hj2 => ⟨⟨by omega,by omega⟩,fun hlt2 => ⟨⟨by omega,by omega⟩,⟨by omega,by omega⟩,⟨by omega,by omega⟩,⟨by omega,by omega⟩,fun hn => sameT_no fun e => ?_,fun hs => ⟨j + 1,⟨by omega,all_step hj2.2 (sameT_iff.1 hs)⟩,by omega,wrap_i64' (by omega) (by omega)⟩⟩,fun hge2 => ⟨i + 1,⟨by omega,all_step hi.2 (lad_ext h0 (eq_getD default hq fun j hj => hj2.2 j (by omega)))⟩,by omega,wrap_i64' (by omega) (by omega)⟩⟩⟩
  rw [e,sameT_iff.2 rfl] at hn; cases hn
end Go.Proofs.YtflbmbkhjcbhoaaGreatDoor
namespace Go.Proofs.YtflbmbkhjcbhoaaGreatDoor
open Go Go.Ab
set_option maxRecDepth 100000
noncomputable def conRm (c d:CodD):Con := fun k ds _ => match k with
  | 53 => some (sSm Arr.row1 (fun x => x.1 ∈ c.consts∧x.2 ∈ d.consts))
  | 54 => some (pC ds (.bool (sameT c.funs d.funs)) (weakL ds [gsl 2 FnD.row c.funs,gsl 2 FnD.row d.funs]))
  | 55 => some (pC ds (.bool (sameT c.kers d.kers)) (weakL ds [gsl 4 KeD.row c.kers,gsl 4 KeD.row d.kers]))
  | 56 => some (pC ds (.bool (sameT c.lanes d.lanes)) (weakL ds [gsl 2 LaD.row c.lanes,gsl 2 LaD.row d.lanes]))
  | _ => none
theorem conRm_ok {c d:CodD} (hc:c.ok) (hd:d.ok):ConOk Tryz.prog (conRm c d) := by
  intro k ds S A h
  unfold conRm at h
  split at h
  · injection h with h; subst h
    refine ConOk.plain (fun (x:Arr × Arr) hx => ?_) rfl rfl
    exact sSm_row (same_all x.1 x.2 (hc.1 _ hx.1) (hd.1 _ hx.2))
  · injection h with h; subst h
    exact pC_ok fun e => ⟨weakL_refl _,sC_weak e (rsF_ok _ _ hc.2.2.2.2.2.1 hd.2.2.2.2.2.1 hc.2.1 hd.2.1)⟩
  · injection h with h; subst h
    exact pC_ok fun e => ⟨weakL_refl _,sC_weak e (rsK_ok _ _ hc.2.2.2.2.2.2.1 hd.2.2.2.2.2.2.1 hc.2.2.1 hd.2.2.1)⟩
  · injection h with h; subst h
    exact pC_ok fun e => ⟨weakL_refl _,sC_weak e (rsL_ok _ _ hc.2.2.2.2.2.2.2 hd.2.2.2.2.2.2.2 hc.2.2.2.1 hd.2.2.2.1)⟩
  · cases h
noncomputable def Erm (c d:CodD):Senv := { EC (conRm c d) 51 6 [12,17,31] (fun id => match id with | 6 => ([0,1,2,3,4,5,6,7,8,9,10,11],[10]) | _ => ([],[])) with
  ann := fun q _ S => match q with
    | 0 => some { slots := [5],keep := [2,3],α := Nat,st := fun i => ([.int .i64 i],S),inv := fun i => i ≤ c.consts.length∧∀ j,j < i→c.consts.getD j default = d.consts.getD j default,mu := fun i => c.consts.length - i }
    | _ => none }
noncomputable section
def rm3q0 (p0:CodD):List Arr := CodD.consts p0
def rm3q1 (p0:CodD):Nat := LN (rm3q0 p0)
def rm3q2 (p0:CodD):Int := (NI (rm3q1 p0))
def rm3q3 (p0 p1:CodD):Prop := True∧∃ (_y:Unit),True∧false = sameT p0 p1∧True∧True
def rm3q4:Arr := DA
def rm3q5 (p0:CodD) (p1:Nat):Arr := List.getD (rm3q0 p0) p1 rm3q4
def rm3q6 (p0:Nat) (p1 p2:CodD):Prop := p0 ≤ rm3q1 p1∧∀ (j:Nat),j < p0→rm3q5 p1 j = rm3q5 p2 j
def rm3q7 (p0:CodD) (p1:Nat):List Int := Arr.sh (rm3q5 p0 p1)
def rm3q8 (p0:CodD) (p1:Nat):List Int := Arr.nu (rm3q5 p0 p1)
def rm3q9 (p0:CodD) (p1:Nat):List Arr := Arr.it (rm3q5 p0 p1)
def rm3q10 (p0:CodD) (p1:Nat):List D := [ZI (Arr.k (rm3q5 p0 p1)),SI (rm3q7 p0 p1),SI (rm3q8 p0 p1),D.sl N4 (LN (rm3q9 p0 p1)) (fun (i:Nat) => Arr.row (List.getD (rm3q9 p0 p1) i rm3q4)) Mode.any]
def rm3q11 (p0:CodD):List FnD := CodD.funs p0
def rm3q12 (p0:CodD):Nat := LN (rm3q11 p0)
def rm3q13 (p0:CodD) (p1:Nat):List D := FnD.row (List.getD (rm3q11 p0) p1 DF)
def rm3q14 (p0:CodD):Prop := SM (rm3q12 p0)∧(∀ (i:Nat),i < rm3q12 p0→SM (rm3q13 p0 i))∧True
def rm3q15 (p0:CodD):List KeD := CodD.kers p0
def rm3q16 (p0:CodD):Nat := LN (rm3q15 p0)
def rm3q17 (p0:CodD) (p1:Nat):List D := KeD.row (List.getD (rm3q15 p0) p1 DK)
def rm3q18 (p0:CodD):Prop := SM (rm3q16 p0)∧(∀ (i:Nat),i < rm3q16 p0→SM (rm3q17 p0 i))∧True
def rm3q19 (p0:CodD):List LaD := CodD.lanes p0
def rm3q20 (p0:CodD):Nat := LN (rm3q19 p0)
def rm3q21 (p0:CodD) (p1:Nat):List D := LaD.row (List.getD (rm3q19 p0) p1 DL)
def rm3q22 (p0:CodD):Prop := SM (rm3q20 p0)∧(∀ (i:Nat),i < rm3q20 p0→SM (rm3q21 p0 i))∧True
def rm3q23 (p0:CodD):Prop := rm3q22 p0∧True
def rm3q24 (p0:CodD):Prop := (SM (rm3q1 p0)∧(∀ (i:Nat),i < rm3q1 p0→SM (rm3q10 p0 i))∧True)∧rm3q14 p0∧rm3q18 p0∧rm3q23 p0
def rm3q25 (p0:Nat) (p1:CodD) (p2:Nat) (p3:CodD):Prop := (SM p0∧rm3q24 p1∧SM p2∧rm3q24 p3∧True)∧True
def rm3q26 (p0:CodD) (p1:Nat):Arr := List.getD (rm3q0 p0) (Int.toNat (↑p1:Int)) rm3q4
def rm3q27 (p0:CodD) (p1:Nat):List Int := Arr.sh (rm3q26 p0 p1)
def rm3q28 (p0:CodD) (p1:Nat):Nat := LN (rm3q27 p0 p1)
def rm3q29 (p0:CodD) (p1:Nat):List Int := Arr.nu (rm3q26 p0 p1)
def rm3q30 (p0:CodD) (p1:Nat):Nat := LN (rm3q29 p0 p1)
def rm3q31 (p0:CodD) (p1:Nat):List Arr := Arr.it (rm3q26 p0 p1)
def rm3q32 (p0:CodD) (p1:Nat):Nat := LN (rm3q31 p0 p1)
def rm3q33 (p0:CodD) (p1:Nat) (p2:Arr):Prop := Arr.k (rm3q26 p0 p1) = Arr.k p2∧(rm3q28 p0 p1 = LN (Arr.sh p2)∧(∀ (i:Nat),i < rm3q28 p0 p1→[ZI (GI (rm3q27 p0 p1) i)] = [ZI (GI (Arr.sh p2) i)])∧True)∧(rm3q30 p0 p1 = LN (Arr.nu p2)∧(∀ (i:Nat),i < rm3q30 p0 p1→[ZI (GI (rm3q29 p0 p1) i)] = [ZI (GI (Arr.nu p2) i)])∧True)∧(rm3q32 p0 p1 = LN (Arr.it p2)∧(∀ (i:Nat),i < rm3q32 p0 p1→Arr.row (List.getD (rm3q31 p0 p1) i rm3q4) = Arr.row (List.getD (Arr.it p2) i rm3q4))∧True)∧True
end
theorem rsame_ok (c d:CodD) (hc:c.ok) (hd:d.ok):ACalls Tryz.prog 17 [.agg c.row1,.agg d.row1] ⟨[],[]⟩ (SpecR (sC [.agg c.row1,.agg d.row1] (.bool (sameT c d))) ()) := by
  refine con_of (A := sC _ _) (x := ()) (E := Erm c d) (eOk (conRm_ok hc hd) rfl) Tryz.func17 rfl (by kernel_rfl) rfl (by simp [sC,Erm,EC,E0]) ?_
  refine vc_eq (T :=
    ∀ (x:Nat),True→∀ (x_1:Nat),x ≠ x_1∧True→SM x∧SM x_1∧ifB (rm3q2 c != rm3q2 d) (rm3q3 c d) ((∃ (x_2:Nat),rm3q6 x_2 c d∧(Z0 = (↑x_2:Int)∧True)∧rm3q25 x_1 d x c)∧∀ (x_2:Nat),rm3q6 x_2 c d→SM x∧ifB (decide ((↑x_2:Int) < rm3q2 c)) (SM x∧side (Z0 ≤ (↑x_2:Int)∧(↑x_2:Int) < rm3q2 c) (SM x_1∧side (Z0 ≤ (↑x_2:Int)∧(↑x_2:Int) < rm3q2 d) (∃ (x_3:Arr × Arr),(rm3q33 c x_2 x_3.1∧rm3q33 d x_2 x_3.2∧True)∧(True∧True)∧(x_3.1 ∈ rm3q0 c∧x_3.2 ∈ rm3q0 d)∧∀ (y:Unit),True→ifB (!sameT x_3.1 x_3.2) (rm3q3 c d) ((SM (D.ref N0 x N0)∧SM (D.ref (max (N0 + N1) N0) x_1 N0)∧True)∧∃ (y:Nat),rm3q6 y c d∧rm3q1 c - y < rm3q1 c - x_2∧(IntKind.wrap IntKind.i64 ((↑x_2:Int) + Z1) = (↑y:Int)∧True)∧rm3q25 x_1 d x c)))) (SM x∧SM x_1∧(rm3q14 c∧rm3q14 d∧True)∧∀ (y:Unit),True→ifB (sameT (rm3q11 c) (rm3q11 d)) (SM x∧SM x_1∧(rm3q18 c∧rm3q18 d∧True)∧∀ (y:Unit),True→ifB (sameT (rm3q15 c) (rm3q15 d)) (SM x∧SM x_1∧(rm3q22 c∧rm3q23 d)∧∀ (y:Unit),True→True∧∃ (y:Unit),True∧sameT (rm3q19 c) (rm3q19 d) = sameT c d∧True∧True) (rm3q3 c d)) (rm3q3 c d)))) (by kernel_rfl) ?_
  delta DA DF DK DL GI LN N0 N1 N4 NI SI SM Z0 Z1 ZI rm3q0 rm3q1 rm3q10 rm3q11 rm3q12 rm3q13 rm3q14 rm3q15 rm3q16 rm3q17 rm3q18 rm3q19 rm3q2 rm3q20 rm3q21 rm3q22 rm3q23 rm3q24 rm3q25 rm3q26 rm3q27 rm3q28 rm3q29 rm3q3 rm3q30 rm3q31 rm3q32 rm3q33 rm3q4 rm3q5 rm3q6 rm3q7 rm3q8 rm3q9
  have da:(default:Arr) = Arr.mk 0 [] [] [] := rfl
  simp only [← da,ifB_iff,side_iff,decide_eq_true_eq,decide_eq_false_iff_not,true_and,and_true,bne_iff_ne,bne_eq_false_iff_eq,ne_eq,exists_const,forall_const,implies_true,Int.toNat_natCast,Bool.not_eq_true',Bool.not_eq_false',eq_self,Prod.exists]
  have hcl := hc.2.2.2.2.1
  have hdl := hd.2.2.2.2.1
  simp only [maxLen] at hcl hdl
  have no:∀ {α:Type} {x y:α},sameT x y = false→x ≠ y := fun h e => by rw [sameT_iff.2 e] at h; cases h
  refine fun _ _ _ => ⟨fun h => sameT_no fun e => h (by rw [e]),fun he => ⟨⟨0,⟨Nat.zero_le _,fun j hj => absurd hj (by omega)⟩,rfl⟩,fun i hi => ⟨fun hlt => ⟨⟨by omega,by omega⟩,⟨by omega,by omega⟩,c.consts.getD i default,d.consts.getD i default,?_,⟨getD_mem' (by omega),getD_mem' (by omega)⟩,fun hn => sameT_no fun e => no hn (by rw [e]),fun hs => ⟨i + 1,⟨by omega,all_step hi.2 (sameT_iff.1 hs)⟩,by omega,wrap_i64' (by omega) (by omega)⟩⟩,fun hge => ?_⟩⟩⟩
  · repeat' (first | rfl | exact fun _ _ => rfl | refine And.intro ?_ ?_)
  · have e1:c.consts = d.consts := eq_getD default (by omega) fun j hj => hi.2 j (by omega)
    exact ⟨fun h2 => ⟨fun h3 => sameT_congr ⟨fun e => cod_ext e1 (sameT_iff.1 h2) (sameT_iff.1 h3) e,fun e => by rw [e]⟩,fun h => sameT_no fun e => no h (by rw [e])⟩,fun h => sameT_no fun e => no h (by rw [e])⟩
end Go.Proofs.YtflbmbkhjcbhoaaGreatDoor
namespace Go.Proofs.YtflbmbkhjcbhoaaGreatDoor
open Go Go.Ab
set_option maxRecDepth 100000
noncomputable def sSmall:FnSpec where
  β := CodD
  α := Bool
  args := fun x => [.agg x.row]
  st := fun _ => ⟨[],[]⟩
  pre := fun x => x.ok∧x.sm
  post := fun x b => b = true→SmC x
  res := fun _ b => .ret (.bool b)
  out := fun _ _ => ⟨[],[]⟩
noncomputable def sShw:FnSpec where
  β := CodD
  α := Unit
  args := fun x => [.agg x.row]
  st := fun _ => ⟨[],[]⟩
  pre := fun x => x.ok∧SmC x
  post := fun _ _ => True
  res := fun x _ => .ret (.str (showC x))
  out := fun _ _ => ⟨[],[]⟩
noncomputable def sSme:FnSpec where
  β := CodD × CodD
  α := Unit
  args := fun x => [.agg x.1.row,.agg x.2.row]
  st := fun _ => ⟨[],[]⟩
  pre := fun x => x.1.ok∧x.2.ok
  post := fun _ _ => True
  res := fun x _ => .ret (.bool (sameT x.1 x.2))
  out := fun _ _ => ⟨[],[]⟩
noncomputable def conLz:Con := fun k _ _ => match k with
  | 9 => some (sC [] (.bool true))
  | 8 => some sSmall
  | 14 => some sShw
  | 16 => some sSme
  | 17 => some sSme
  | _ => none
theorem two_row {k:Nat} {c d:CodD} {e:D} (h:ACalls Tryz.prog k [.agg c.row1,.agg d.row1] ⟨[],[]⟩ (SpecR (sC [.agg c.row1,.agg d.row1] e) ())):ACalls Tryz.prog k [.agg c.row,.agg d.row] ⟨[],[]⟩ (SpecR (sC [.agg c.row,.agg d.row] e) ()) :=
  (h.wkArgs (by simp only [wkL,wkD]; exact ⟨crow_row1 c,crow_row1 d,trivial⟩)).mono fun _ _ ⟨y,q1,q2,q3⟩ => ⟨y,q1,q2,q3⟩
theorem conLz_ok (hl:LivesOk):ConOk Tryz.prog conLz := by
  intro k ds S A h
  unfold conLz at h
  split at h
  · injection h with h; subst h
    exact ConOk.plain (fun _ _ => hl) rfl rfl
  · injection h with h; subst h
    exact ConOk.plain (fun (x:CodD) (hx:x.ok∧x.sm) => (small_ok x hx.2).mono fun _ _ ⟨y,q1,q2,q3⟩ => ⟨y,q1,q2,q3⟩) rfl rfl
  · injection h with h; subst h
    exact ConOk.plain (fun (x:CodD) (hx:x.ok∧SmC x) => (wk_row (sw_ok x hx.1 hx.2) (crow_row1 x)).mono fun _ _ ⟨y,q1,q2,q3⟩ => ⟨y,q1,q2,q3⟩) rfl rfl
  · injection h with h; subst h
    exact ConOk.plain (fun (x:CodD × CodD) (hx:x.1.ok∧x.2.ok) => (two_row (bs_ok x.1 x.2 hx.1 hx.2)).mono fun _ _ ⟨y,q1,q2,q3⟩ => ⟨y,q1,q2,q3⟩) rfl rfl
  · injection h with h; subst h
    exact ConOk.plain (fun (x:CodD × CodD) (hx:x.1.ok∧x.2.ok) => (two_row (rsame_ok x.1 x.2 hx.1 hx.2)).mono fun _ _ ⟨y,q1,q2,q3⟩ => ⟨y,q1,q2,q3⟩) rfl rfl
  · cases h
noncomputable def Elz:Senv := EC conLz 48 6 [13,35] (fun id => match id with | 6 => ([0,1,2,3,5,4,6,7,8,9,10,11,12],[4,6,10]) | _ => ([],[]))
noncomputable section
def lx2q0 (p0:CodD):Nat := LN (CodD.consts p0)
def lx2q1 (p0:CodD) (p1:Nat):List D := Arr.row (GC p0 p1)
def lx2q2 (p0:CodD):Nat := LN (CodD.funs p0)
def lx2q3 (p0:CodD) (p1:Nat):List D := FnD.row (GF p0 p1)
def lx2q4 (p0:CodD):Nat := LN (CodD.kers p0)
def lx2q5 (p0:CodD) (p1:Nat):List D := KeD.row (GK p0 p1)
def lx2q6 (p0:CodD):Nat := LN (CodD.lanes p0)
def lx2q7 (p0:CodD) (p1:Nat):List D := LaD.row (GL p0 p1)
def lx2q8 (p0 p1:CodD):Prop := (lx2q0 p0 = lx2q0 p1∧(∀ (i:Nat),i < lx2q0 p0→lx2q1 p0 i = lx2q1 p1 i)∧True)∧(lx2q2 p0 = lx2q2 p1∧(∀ (i:Nat),i < lx2q2 p0→lx2q3 p0 i = lx2q3 p1 i)∧True)∧(lx2q4 p0 = lx2q4 p1∧(∀ (i:Nat),i < lx2q4 p0→lx2q5 p0 i = lx2q5 p1 i)∧True)∧(lx2q6 p0 = lx2q6 p1∧(∀ (i:Nat),i < lx2q6 p0→lx2q7 p0 i = lx2q7 p1 i)∧True)∧True
def lx2q9 (p0 p1:CodD):Prop := lx2q8 p0 p1∧True
def lx2q10 (p0:CodD):Prop := CodD.ok p0
def lx2q11 (p0:CodD):Prop := lx2q10 p0∧CodD.sm p0
def lx2q12:Prop := ∃ (_x:Unit),True∧(True∧True)∧True∧∀ (_y:Unit),True→True∧∃ (_y:Unit),True∧SM true∧True∧True
def lx2q13 (p0 p1 p2 p3:CodD):Prop := lx2q8 p0 p1∧lx2q9 p2 p3
def lx2q14 (p0 p1:CodD):Prop := lx2q10 p0∧lx2q10 p1
def lx2q15:Prop := True∧∃ (_y:Unit),True∧false = true∧True∧True
def lx2q16 (p0:CodD):Prop := lx2q10 p0∧SmC p0
def lx2q17 (p0:CodD):D := D.agg [D.sl N4 (lx2q0 p0) (fun (i:Nat) => lx2q1 p0 i) Mode.any,D.sl N2 (lx2q2 p0) (fun (i:Nat) => lx2q3 p0 i) Mode.any,D.sl N4 (lx2q4 p0) (fun (i:Nat) => lx2q5 p0 i) Mode.any,D.sl N2 (lx2q6 p0) (fun (i:Nat) => lx2q7 p0 i) Mode.any]
end
theorem law_same (hl:LivesOk) (c d:CodD) (hc:c.ok) (hm:c.sm) (hd:d.ok) (hn:d.sm):ACalls Tryz.prog 6 [.agg c.row,.agg d.row] ⟨[],[]⟩ (SpecR (sC [.agg c.row,.agg d.row] (.bool true)) ()) := by
  refine con_of (A := sC _ _) (x := ()) (E := Elz) (eOk (conLz_ok hl) rfl) Tryz.func6 rfl (by kernel_rfl) rfl (by simp [sC,Elz,EC,E0]) ?_
  refine vc_eq (T :=
    ∀ (x:Nat),True→∀ (x_1:Nat),x ≠ x_1∧True→SM x∧∃ (x_2:CodD),lx2q9 c x_2∧(True∧True)∧lx2q11 x_2∧∀ (y:Bool),(y = true→SmC x_2)→ifB (!y) lx2q12 (SM x_1∧∃ (x_3:CodD),lx2q9 d x_3∧(True∧True)∧lx2q11 x_3∧∀ (y:Bool),(y = true→SmC x_3)→ifB (!y) lx2q12 (SM x∧SM x_1∧∃ (x_4:CodD × CodD),lx2q13 c x_4.1 d x_4.2∧(True∧True)∧lx2q14 x_4.1 x_4.2∧∀ (y:Unit),True→SM x∧SM x_1∧∃ (x_5:CodD × CodD),lx2q13 c x_5.1 d x_5.2∧(True∧True)∧lx2q14 x_5.1 x_5.2∧∀ (y:Unit),True→ifB (!sameT x_4.1 x_4.2 == sameT x_5.1 x_5.2) lx2q15 (SM x_1∧SM x∧∃ (x_6:CodD × CodD),lx2q13 d x_6.1 c x_6.2∧(True∧True)∧lx2q14 x_6.1 x_6.2∧∀ (y:Unit),True→ifB (!sameT x_4.1 x_4.2 == sameT x_6.1 x_6.2) lx2q15 (SM x∧SM x∧∃ (x_7:CodD × CodD),(lx2q8 c x_7.1∧lx2q9 c x_7.2)∧(True∧True)∧lx2q14 x_7.1 x_7.2∧∀ (y:Unit),True→ifB (!sameT x_7.1 x_7.2) lx2q15 (ifB (!sameT x_4.1 x_4.2) lx2q12 (SM x∧SM x_1∧∃ (x:CodD),lx2q9 c x∧(True∧True)∧lx2q16 x∧∀ (y:Unit),True→(SM x_1∧SM (lx2q17 d))∧∃ (x_8:CodD),lx2q9 d x_8∧(True∧True)∧lx2q16 x_8∧∀ (y:Unit),True→ifB (showC x == showC x_8) lx2q12 lx2q15))))))) (by kernel_rfl) ?_
  delta DA DF DK DL GC GF GK GL LN N2 N4 SM Z0 lx2q0 lx2q1 lx2q10 lx2q11 lx2q12 lx2q13 lx2q14 lx2q15 lx2q16 lx2q17 lx2q2 lx2q3 lx2q4 lx2q5 lx2q6 lx2q7 lx2q8 lx2q9
  simp only [eq_self,ne_eq,implies_true,ifB_iff,true_and,and_true,beq_iff_eq,beq_eq_false_iff_ne,exists_const,forall_const]
  intro _ _ _
  refine ⟨c,by simp,⟨hc,hm⟩,fun y hy e => ⟨d,by simp,⟨hd,hn⟩,fun y2 hy2 e2 => ⟨(c,d),by simp,⟨hc,hd⟩,(c,d),by simp,⟨hc,hd⟩,?_,?_⟩⟩⟩
  · intro h; cases hq:sameT (c,d).fst (c,d).snd <;> rw [hq] at h <;> simp at h
  · intro _
    have hcomm:sameT d c = sameT c d := sameT_congr ⟨fun e => e.symm,fun e => e.symm⟩
    refine ⟨(d,c),by simp,⟨hd,hc⟩,fun h => ?_,fun _ => ⟨(c,c),by simp,⟨hc,hc⟩,fun h => ?_,fun _ h4 => ⟨c,by simp,⟨hc,hy (by simpa using e)⟩,d,by simp,⟨hd,hy2 (by simpa using e2)⟩,fun hn => ?_⟩⟩⟩
    · have h:(!sameT c d == sameT d c) = true := h
      rw [hcomm] at h
      cases hq:sameT c d <;> rw [hq] at h <;> simp at h
    · have h:(!sameT c c) = true := h
      rw [sameT_iff.2 rfl] at h; simp at h
    · have h4:(!sameT c d) = false := h4
      have he:c = d := sameT_iff.1 (by simpa using h4)
      exact (hn (by rw [he])).elim
end Go.Proofs.YtflbmbkhjcbhoaaGreatDoor
namespace Go.Proofs.YtflbmbkhjcbhoaaGreatDoor
open Go Go.Ab Go.RowKit
set_option maxRecDepth 100000
noncomputable def wit4:Array Value := #[.agg #[.slice none 0 0,.slice none 0 0,.slice none 0 0,.slice none 0 0],.agg #[.slice none 0 0,.slice none 0 0,.slice none 0 0,.slice none 0 0]]
theorem laid_met4 (os:Os):laidMet Tryz.prog laidL ((laidWorld os).forCall (fun _ _ => 0) ⟨#[],wit4,[]⟩).memory :=
  laidMet_of_run' 8 (by kernel_rfl) (by kernel_rfl)
theorem reads4 (os:Os) {H:Type} (enc:TypeId × Value→H):∃ x,DataW.whole enc Tryz.prog ((laidWorld os).forCall (fun _ _ => 0) ⟨#[],wit4,[]⟩).memory [27,27] [] false (wit4).toList 8 = some x :=
  Option.isSome_iff_exists.1 (by kernel_rfl)
theorem contract4 {H : Type} {enc : TypeId × Value → H}
    (W:World) (base:Nat) (args:Array Value) (ds gs:List (DataW H)) (before:List MemPlace)
    (hval:∀ (j:Nat) t v,Tryz.f6.params[j]? = some t→args[j]? = some v→Value.okWide Tryz.prog W .any base t v)
    (hW:DataW.Whole enc Tryz.prog Tryz.f6.params.toList Rows.bytecodeSameSpec.vars false W args.toList ds gs before)
    (hsz:(DataW.weightsEach Tryz.prog (Tryz.f6.params.toList ++ Rows.bytecodeSameSpec.plain.varTypes Tryz.prog) (ds ++ gs)).all (· ≤ reachBytes) = true) (hL:laidMetH Tryz.prog laidL W) :
    Calls Tryz.prog 6 args W fun e W' => ∃ v,e = .returned v∧Rows.bytecodeSameSpec.post enc Tryz.prog Tryz.f6 false true false false W args v W' := by
  refine law_contract (rs := [(27,(fun ds => ∃ c:CodD,(c.ok∧c.sm)∧ds = c.row)),(27,(fun ds => ∃ c:CodD,(c.ok∧c.sm)∧ds = c.row))]) laid (by rw [Tryz.params6]; kernel_rfl) rfl (fun ds hd => ?_) (rt := 4) rfl Tryz.underlying4 (by rw [Tryz.params6]; rfl) ?_ W (g0_laid hL) base args ds gs before hval hW hsz ?_
  · rw [Tryz.params6] at hd
    match ds,hd with
    | [_,_],_ => exact ⟨rfl,rfl,rfl⟩
  · intro r hr
    simp only [List.mem_cons,List.not_mem_nil,or_false,or_self] at hr
    subst hr
    exact read_code
  · intro Ds h
    obtain ⟨dx,_,rfl,hx,h⟩ := h.agg (by kernel_rfl)
    obtain ⟨dy,_,rfl,hy,h⟩ := h.agg (by kernel_rfl)
    obtain rfl := h.nil
    obtain ⟨x,⟨hokx,hsmx⟩,rfl⟩ := hx
    obtain ⟨y,⟨hoky,hsmy⟩,rfl⟩ := hy
    exact (law_same lives0 x y hokx hsmx hoky hsmy).mono fun r S' ⟨_,_,hr,_⟩ => hr
theorem lifted4 (os : Os) (started : os.Started) (H : Type) (enc : TypeId × Value → H) (F : Stop.Interp) :
    ReturnsInHanded {} Tryz.checked os 6 .any ((OpenSpec.ofChange Rows.bytecodeSameSpec).preRow enc Tryz.prog Tryz.f6 Rows.bytecodeSameRow.domain false Rows.bytecodeSameRow.laid) (((OpenSpec.ofChange Rows.bytecodeSameSpec).at F).post enc Tryz.prog Tryz.f6 false true false false) := by
  obtain ⟨x,hx⟩ := reads4 os enc
  refine returnsInHanded_of_row (C := Tryz.checked) (s := OpenSpec.ofChange Rows.bytecodeSameSpec) own started (by kernel_rfl) Tryz.func6
    (witness_row_at (enc := enc) (C := Tryz.checked) false (laidWorld os) wit4 rfl (by kernel_rfl) (by kernel_rfl) (by kernel_rfl)
      (OpenSpec.preRow_of_cond 8 hx rfl (fun k hk => by cases hk) (by kernel_rfl) (laid_met4 os))) ?_
  intro W base args ds gs before hval hW _ _ hsz hL _ _
  exact contract4 W base args ds gs before hval hW hsz hL
theorem said4:Rows.BytecodeSameSaid :=
  OpenClaim.holds_of_cond 6 Tryz.f6 rfl rfl rfl rfl rfl rfl rfl ⟨rfl,rfl,rfl,rfl,rfl⟩ rfl rfl rfl rfl rfl (by kernel_rfl) Tryz.func6 (by kernel_rfl)
    (of_decide_eq_true (by kernel_rfl)) (by unfold Func.isWrapper; first | (rw [if_pos (by decide +kernel)]; kernel_rfl) | (rw [if_neg (by decide +kernel)]; exact ⟨rfl,rfl⟩))
    (fun os started H enc _ F => by rw [OpenClaim.pre_eq_preRow]; exact lifted4 os started H enc F)
theorem plain4 (f : FuncId) (fn : Func) (hf : Tryz.pinned.checked.prog.funcNamed "arraylang/arraylanglaw44.BytecodeSame" = some f) (hfn : Tryz.pinned.checked.prog.funcs[f]? = some fn) :
    true = Tryz.pinned.checked.prog.looks []∧∀ (j:Nat) t,fn.params[j]? = some t→Tryz.pinned.checked.prog.wantsStandIn t = false := by
  obtain rfl : f = 6 := Option.some.inj ((show Tryz.prog.funcNamed "arraylang/arraylanglaw44.BytecodeSame" = some 6 by kernel_rfl).symm.trans hf) |>.symm
  obtain rfl:fn = Tryz.f6 := (Option.some.inj (Tryz.func6.symm.trans hfn)).symm
  refine ⟨by kernel_rfl,fun j t ht => ?_⟩
  rw [Tryz.params6] at ht
  have hm:t ∈ [27,27] := by simpa using Array.mem_of_getElem? ht
  simp only [List.mem_cons,List.not_mem_nil,or_false,or_self] at hm
  subst hm
  exact (show Tryz.prog.wantsStandIn 27 = false by kernel_rfl)
theorem provedBytecodeSame:Rows.BytecodeSameCardSaid :=
  Claim7.holds_tied_plain_at .later [] _ _ _ _ said4 (fun _ h => by cases h) (by kernel_rfl) (fun _ h => by cases h) bytecodeSame_row_tie rfl ⟨rfl,rfl⟩ (by kernel_rfl) rfl plain4 (by kernel_rfl)
end Go.Proofs.YtflbmbkhjcbhoaaGreatDoor
