/- Functions of the given program and what each of them computes: lemmas towards the statement, their conditions stated with each of them. -/
import Derived.Test.YtjnifeedbgefpaaGreatDoorS3
import Derived.Test.YtjnifeedbgefpaaGreatDoorCards
import Derived.Test.YtjnifeedbgefpaaGreatDoorTie
import Derived.WalkKit
import Derived.ProofKit
import Derived.OpenShut
import Derived.Deep.DeepHandedRow
import Derived.Lib.LaidTab
import Derived.Stop.LaidErr
import Derived.Test.YtjnifeedbgefpaaGreatDoorProg
import Derived.Lib.ItoaNum
import Derived.Lib.TrailingZeros
import Derived.Calls
import Derived.Below
import Derived.Laws.Entries
import Derived.Laws.Build
import Derived.Laws.Concat
import Derived.Laws.AppendOwn
import Derived.Laws.IdiomStrings
import Derived.Laws.BytesString
import Derived.Laws.NewFold
import Derived.Laws.MakeOwn
import Derived.Laws.IdiomCopy
import Derived.Laws.Shifts
import Derived.Laws.Strings
import Derived.Laws.Strings2
import Derived.Laws.Strings3
import Derived.Laws.RangeString
import Derived.Laws.Cover4
import Derived.Lib.DecodeN
import Derived.MapKept
import Derived.Laws.StructEq
import Derived.Orders
import Derived.Scope
import Derived.Recover
import Derived.KernelRfl
import Derived.Shelf.Strings.Builder1
import Derived.Shelf.Strings.Builder2
import Derived.Shelf.Strings.OnBuilder
import Derived.Shelf.Strings.BuilderF
import Derived.Shelf.Strconv.Itoa0
import Derived.Shelf.Strconv.Itoa1
import Derived.Shelf.LaysM
import Derived.Shelf.Strconv.Itoa2
import Derived.Shelf.Strconv.Itoa3
import Derived.Shelf.Strconv.Itoa4
import Derived.Shelf.Bits.Mul64
import Derived.Lib.AppendIntMem
import Derived.Lib.ItoaLen
import Derived.Test.YtjnifeedbgefpaaGreatDoorRows
import Derived.Lib.Join
import Derived.Lib.Builder
import Derived.Lib.UnsafeStr
namespace Go.Proofs.YtjnifeedbgefpaaGreatDoor
open Go Go.Ab
set_option maxRecDepth 100000
def sAt (q:Arr→Prop):FnSpec where
  β := Arr
  α := Unit
  args := fun a => [.agg a.row2,.int .i64 0]
  st := fun _ => ⟨[],[]⟩
  pre := q
  post := fun _ _ => True
  res := fun a _ => .ret (.agg (atA a 0).row1)
  out := fun _ _ => ⟨[],[]⟩
def conLf (a:Arr) (q:Arr→Prop):Con := fun k ds S => match k with
  | 94 => some (sRc Arr.row1 q (fun b => .str (litA b)))
  | 115 => some (sRc Arr.row2 (fun b => b = a) (fun b => .str (vecK b.k b.nu (b.it.map litA))))
  | 116 => some (sRc Arr.row2 (fun b => b = a) (fun b => .agg (fillA b.k).row1))
  | 117 => some (sAt (fun b => b = a∧a.nu.length + a.it.length = 1))
  | 118 => match ds with
    | [.sl 1 n f m] => some (pC [.sl 1 n f m] (.str (dimsB (intsD n f))) (IntsP n f∧n ≤ 1099511627776∧∀ z ∈ intsD n f,inI64 z))
    | _ => none
  | 114 => match ds with
    | [.sl 1 n f m] => some (pC [.sl 1 n f m] (.str (Lib.join (strsOf n f) [32])) (strsB n f = true∧joinOk (strsOf n f) [32]))
    | _ => none
  | k => conJn k ds S
theorem join2 (x y:List UInt8):Lib.join [x,y] [32] = x ++ 32 :: y := by rw [join_cons]; simp [jT]
theorem join3 (x y z:List UInt8):Lib.join [x,y,z] [32] = x ++ (32 :: (y ++ 32 :: z)) := by rw [join_cons]; simp [jT]
theorem strs2 (x y:List UInt8):strsOf 2 (fun i => [D.str ([x,y].getD i [])]) = [x,y] := rfl
theorem strs3 (x y z:List UInt8):strsOf 3 (fun i => [D.str ([x,y,z].getD i [])]) = [x,y,z] := rfl
theorem strsB2 (x y:List UInt8):strsB 2 (fun i => [D.str ([x,y].getD i [])]) = true := rfl
theorem strsB3 (x y z:List UInt8):strsB 3 (fun i => [D.str ([x,y,z].getD i [])]) = true := rfl
theorem ints1 (z:Int):intsD 1 (fun i => [[D.int .i64 z]].getD i []) = [z] := rfl
theorem intsP1 (z:Int):IntsP 1 (fun i => [[D.int .i64 z]].getD i []) := fun i hi => by
  have:i = 0 := by omega
  subst this; rfl
theorem fill_lit {k:Int} (h:k = 1∨k = 2∨k = 3):litA (fillA k) = fillL k := by
  rcases h with rfl | rfl | rfl
  · rfl
  · rfl
  · rfl
theorem litA_scal (k:Int) (n:List Int) (is:List Arr):litA (.mk k [] n is) = scalK k n (is.map litA) := by
  rw [litA,litsL_map,litK,if_pos List.length_nil]
theorem at_lit {a:Arr} (kd:a.k = 1∨a.k = 2∨a.k = 3) (bx:a.k = 3→a.nu = []) (h:a.nu.length + a.it.length = 1):litA (atA a 0) = scalK a.k a.nu (a.it.map litA) := by
  unfold atA
  by_cases h3:a.k = 3
  · rw [if_pos h3,litA_scal,h3]
    cases hi:a.it with
    | nil => rw [bx h3,hi] at h; simp at h
    | cons x l => rfl
  · rw [if_neg h3,litA_scal,scalK,scalK]
    by_cases h1:a.k = 1
    · rw [if_pos h1,if_pos h1]; rfl
    · rw [if_neg h1,if_neg h1,if_pos (by omega),if_pos (by omega)]; rfl
noncomputable def Elf (a:Arr) (q:Arr→Prop):Senv := EC (conLf a q) 90 5 [12,27,43,55,71,74,79] (fun _ => ([],[]))
noncomputable section
def lf1q0 (p0:Arr):Nat := LN (Arr.sh p0)
def lf1q1 (p0:Arr):Bool := (NI (lf1q0 p0)) == Z0
def lf1q2 (p0:Arr):Int := Arr.k p0
def lf1q3 (p0:Arr):Bool := bif lf1q1 p0 then lf1q2 p0 == Z1 else false
def lf1q4 (p0:Arr):List Int := Arr.nu p0
def lf1q5 (p0:Arr):Nat := LN (lf1q4 p0)
def lf1q6 (p0:Arr):Int := (NI (lf1q5 p0))
def lf1q7 (p0:Arr):Int := GI (lf1q4 p0) N0
def lf1q8 (p0:Arr):List UInt8 := litA p0
def lf1q9 (p0:Arr):Bool := lf1q2 p0 == (2:Int)
def lf1q10 (p0:Arr):Bool := bif lf1q1 p0 then lf1q9 p0 else false
def lf1q11 (p0:Arr) (p1:Nat):List D := List.getD [[ZI (lf1q7 p0)]] p1 []
def lf1q12 (p0:Arr):List Int := intsD N1 fun (i:Nat) => lf1q11 p0 i
def lf1q13 (p0:Arr):List Arr := Arr.it p0
def lf1q14 (p0:Arr):Nat := LN (lf1q13 p0)
def lf1q15:Arr := DA
def lf1q16 (p0:Arr):Arr := List.getD (lf1q13 p0) N0 lf1q15
def lf1q17 (p0:Arr):List Int := Arr.sh (lf1q16 p0)
def lf1q18 (p0:Arr):Nat := LN (lf1q17 p0)
def lf1q19 (p0:Arr) (p1:Nat):List D := [ZI (GI (Arr.sh p0) p1)]
def lf1q20 (p0:Arr):List Int := Arr.nu (lf1q16 p0)
def lf1q21 (p0:Arr):Nat := LN (lf1q20 p0)
def lf1q22 (p0:Arr) (p1:Nat):List D := [ZI (GI (lf1q4 p0) p1)]
def lf1q23 (p0:Arr):List Arr := Arr.it (lf1q16 p0)
def lf1q24 (p0:Arr):Nat := LN (lf1q23 p0)
def lf1q25 (p0:Arr) (p1:Nat):Arr := List.getD (lf1q13 p0) p1 lf1q15
def lf1q26 (p0:Arr) (p1:Nat):List D := Arr.row (lf1q25 p0 p1)
def lf1q27 (p0:Arr) (p1:Nat):List D := [D.str (List.getD [[(98:UInt8),(111:UInt8),(120:UInt8)],lf1q8 p0] p1 [])]
def lf1q28 (p0:Arr):List (List UInt8) := strsOf N2 fun (i:Nat) => lf1q27 p0 i
def lf1q29 (p0:Arr):Bool := (NI (lf1q0 p0)) == Z1
def lf1q30 (p0:Arr):Int := IntKind.wrap IntKind.i64 (lf1q6 p0 + (NI (lf1q14 p0)))
def lf1q31 (p0:Arr):Bool := decide (Z1 < lf1q30 p0)
def lf1q32 (p0:Arr):Bool := bif lf1q29 p0 then bif lf1q9 p0 then true else lf1q31 p0 else false
def lf1q33 (p0:Arr) (p1:Nat):List Int := Arr.sh (lf1q25 p0 p1)
def lf1q34 (p0:Arr) (p1:Nat):List Int := Arr.nu (lf1q25 p0 p1)
def lf1q35 (p0:Arr) (p1:Nat):List Arr := Arr.it (lf1q25 p0 p1)
def lf1q36 (p0:Arr) (p1:Nat):List D := [ZI (Arr.k (lf1q25 p0 p1)),SI (lf1q33 p0 p1),SI (lf1q34 p0 p1),D.sl N4 (LN (lf1q35 p0 p1)) (fun (i:Nat) => Arr.row (List.getD (lf1q35 p0 p1) i lf1q15)) Mode.any]
def lf1q37 (p0 p1:Arr):Prop := lf1q2 p0 = lf1q2 p1∧(lf1q0 p0 = lf1q0 p1∧(∀ (i:Nat),i < lf1q0 p0→lf1q19 p0 i = lf1q19 p1 i)∧True)∧(lf1q5 p0 = lf1q5 p1∧(∀ (i:Nat),i < lf1q5 p0→lf1q22 p0 i = lf1q22 p1 i)∧True)∧(lf1q14 p0 = lf1q14 p1∧(∀ (i:Nat),i < lf1q14 p0→lf1q36 p0 i = lf1q36 p1 i)∧True)∧True
def lf1q38 (p0 p1:Arr):Prop := lf1q37 p0 p1∧True
def lf1q39 (p0:Arr):List UInt8 := vecK (lf1q2 p0) (lf1q4 p0) (List.map litA (lf1q13 p0))
def lf1q40 (p0:Arr):Arr := fillA (lf1q2 p0)
def lf1q41 (p0:Arr):List Int := Arr.sh (lf1q40 p0)
def lf1q42 (p0:Arr):Nat := LN (lf1q41 p0)
def lf1q43 (p0:Arr):List Int := Arr.nu (lf1q40 p0)
def lf1q44 (p0:Arr):Nat := LN (lf1q43 p0)
def lf1q45 (p0:Arr):List Arr := Arr.it (lf1q40 p0)
def lf1q46 (p0:Arr):Nat := LN (lf1q45 p0)
def lf1q47 (p0:Arr):List Int := intsD (lf1q0 p0) fun (i:Nat) => lf1q19 p0 i
def lf1q48 (p0:Arr):Prop := (IntsP (lf1q0 p0) fun (i:Nat) => lf1q19 p0 i)∧lf1q0 p0 ≤ (1099511627776:Nat)∧∀ (z:Int),z ∈ lf1q47 p0→inI64 z
def lf1q49 (p0:Arr):List UInt8 := dimsB (lf1q47 p0)
def lf1q50 (p0 p1:Arr) (p2:Nat):List D := [D.str (List.getD [lf1q49 p0,[(114:UInt8),(101:UInt8),(115:UInt8),(104:UInt8),(97:UInt8),(112:UInt8),(101:UInt8)],lf1q8 p1] p2 [])]
def lf1q51 (p0 p1:Arr):List (List UInt8) := strsOf (3:Nat) fun (i:Nat) => lf1q50 p0 p1 i
def lf1q52 (p0:Arr→Prop) (p1:Arr) (p2:Nat) (p3:Arr):Prop := (True∧True)∧p0 p1∧∀ (_y:Unit),True→SM p2∧lf1q48 p3∧∀ (_y:Unit),True→((strsB (3:Nat) fun (i:Nat) => lf1q50 p3 p1 i) = true∧joinOk (lf1q51 p3 p1) [(32:UInt8)])∧∀ (_y:Unit),True→True∧∃ (_y:Unit),True∧Lib.join (lf1q51 p3 p1) [(32:UInt8)] = lf1q8 p3∧True∧True
def lf1q53 (p0:Arr):Arr := atA p0 N0
def lf1q54 (p0:Arr):List Int := Arr.sh (lf1q53 p0)
def lf1q55 (p0:Arr):Nat := LN (lf1q54 p0)
def lf1q56 (p0:Arr):List Int := Arr.nu (lf1q53 p0)
def lf1q57 (p0:Arr):Nat := LN (lf1q56 p0)
def lf1q58 (p0:Arr):List Arr := Arr.it (lf1q53 p0)
def lf1q59 (p0:Arr):Nat := LN (lf1q58 p0)
def lf1q60 (p0 p1:Arr) (p2:Nat):List D := [D.str (List.getD [lf1q49 p0,[(114:UInt8),(101:UInt8),(115:UInt8),(104:UInt8),(97:UInt8),(112:UInt8),(101:UInt8)],lf1q39 p1] p2 [])]
def lf1q61 (p0 p1:Arr):List (List UInt8) := strsOf (3:Nat) fun (i:Nat) => lf1q60 p0 p1 i
end
theorem lit_step (a : Arr) (q : Arr → Prop) (ho : LOk a) (hi : ∀ b ∈ a.it, q b) (h0 : a.sh.length ≠ 0 → a.nu.length + a.it.length = 0 → q (fillA a.k)) (h1 : a.sh.length ≠ 0 → a.nu.length + a.it.length = 1 → q (atA a 0)) (hc : ConOk Tryz.prog (conLf a q)) :
    ACalls Tryz.prog 94 ((sRc Arr.row2 (fun _ => True) (fun b => .str (litA b))).args a) ⟨[],[]⟩ (SpecR (sRc Arr.row2 (fun _ => True) (fun b => .str (litA b))) a) := by
  refine con_of (A := sRc Arr.row2 (fun _ => True) (fun b => .str (litA b))) (x := a) (E := Elf a q) (eOk hc rfl) Tryz.func94 rfl (by kernel_rfl) rfl (by simp [sRc,Elf,EC,E0]) ?_
  refine vc_eq (T :=
    ∀ (x:Nat),True→SM x∧SM x∧(SM x∧ifB (lf1q1 a) (SM x∧(lf1q2 a == Z1) = lf1q3 a∧True) (false = lf1q3 a∧True))∧ifB (lf1q3 a) (SM x∧side (Z0 ≤ Z0∧Z0 < lf1q6 a) (inI64 (lf1q7 a)∧∀ (y:Unit),True→True∧∃ (y:Unit),True∧showI (lf1q7 a) = lf1q8 a∧True∧True)) ((SM x∧ifB (lf1q1 a) (SM x∧lf1q9 a = lf1q10 a∧True) (false = lf1q10 a∧True))∧ifB (lf1q10 a) (SM x∧side (Z0 ≤ Z0∧Z0 < lf1q6 a) ((N1 ≤ (1099511627776:Nat)∧(IntsP N1 fun (i:Nat) => lf1q11 a i)∧∀ (c:Int),c ∈ lf1q12 a→Z0 ≤ c∧c ≤ (1114111:Int))∧∀ (y:Unit),True→True∧∃ (y:Unit),True∧quoB (39:Int) (lf1q12 a) = lf1q8 a∧True∧True)) (SM x∧ifB (lf1q1 a) (SM x∧side (Z0 ≤ Z0∧Z0 < (NI (lf1q14 a))) (∃ (x:Arr),((Arr.k (lf1q16 a) = lf1q2 x∧(lf1q18 a = lf1q0 x∧(∀ (i:Nat),i < lf1q18 a→[ZI (GI (lf1q17 a) i)] = lf1q19 x i)∧True)∧(lf1q21 a = lf1q5 x∧(∀ (i:Nat),i < lf1q21 a→[ZI (GI (lf1q20 a) i)] = lf1q22 x i)∧True)∧(lf1q24 a = lf1q14 x∧(∀ (i:Nat),i < lf1q24 a→Arr.row (List.getD (lf1q23 a) i lf1q15) = lf1q26 x i)∧True)∧True)∧True)∧(True∧True)∧q x∧∀ (y:Unit),True→((strsB N2 fun (i:Nat) => lf1q27 x i) = true∧joinOk (lf1q28 x) [(32:UInt8)])∧∀ (y:Unit),True→True∧∃ (y:Unit),True∧Lib.join (lf1q28 x) [(32:UInt8)] = lf1q8 a∧True∧True)) ((SM x∧ifB (lf1q29 a) (SM x∧ifB (lf1q9 a) (true = lf1q32 a∧True) (lf1q31 a = lf1q32 a∧True)) (false = lf1q32 a∧True))∧ifB (lf1q32 a) (SM x∧∃ (x:Arr),lf1q38 a x∧(True∧True)∧x = a∧∀ (y:Unit),True→True∧∃ (y:Unit),True∧lf1q39 x = lf1q8 a∧True∧True) (ifB (lf1q30 a == Z0) (SM x∧∃ (x_1:Arr),lf1q38 a x_1∧(True∧True)∧x_1 = a∧∀ (y:Unit),True→∃ (x_2:Arr),((Arr.k (lf1q40 x_1) = lf1q2 x_2∧(lf1q42 x_1 = lf1q0 x_2∧(∀ (i:Nat),i < lf1q42 x_1→[ZI (GI (lf1q41 x_1) i)] = lf1q19 x_2 i)∧True)∧(lf1q44 x_1 = lf1q5 x_2∧(∀ (i:Nat),i < lf1q44 x_1→[ZI (GI (lf1q43 x_1) i)] = lf1q22 x_2 i)∧True)∧(lf1q46 x_1 = lf1q14 x_2∧(∀ (i:Nat),i < lf1q46 x_1→Arr.row (List.getD (lf1q45 x_1) i lf1q15) = lf1q26 x_2 i)∧True)∧True)∧True)∧lf1q52 q x_2 x a) (ifB (lf1q30 a == Z1) (SM x∧∃ (x_1:Arr),(lf1q37 a x_1∧SM Z0∧True)∧(True∧True)∧(x_1 = a∧lf1q5 a + lf1q14 a = N1)∧∀ (y:Unit),True→∃ (x_2:Arr),((Arr.k (lf1q53 x_1) = lf1q2 x_2∧(lf1q55 x_1 = lf1q0 x_2∧(∀ (i:Nat),i < lf1q55 x_1→[ZI (GI (lf1q54 x_1) i)] = lf1q19 x_2 i)∧True)∧(lf1q57 x_1 = lf1q5 x_2∧(∀ (i:Nat),i < lf1q57 x_1→[ZI (GI (lf1q56 x_1) i)] = lf1q22 x_2 i)∧True)∧(lf1q59 x_1 = lf1q14 x_2∧(∀ (i:Nat),i < lf1q59 x_1→Arr.row (List.getD (lf1q58 x_1) i lf1q15) = lf1q26 x_2 i)∧True)∧True)∧True)∧lf1q52 q x_2 x a) (SM x∧∃ (x_1:Arr),lf1q38 a x_1∧(True∧True)∧x_1 = a∧∀ (y:Unit),True→SM x∧lf1q48 a∧∀ (y:Unit),True→((strsB (3:Nat) fun (i:Nat) => lf1q60 a x_1 i) = true∧joinOk (lf1q61 a x_1) [(32:UInt8)])∧∀ (y:Unit),True→True∧∃ (y:Unit),True∧Lib.join (lf1q61 a x_1) [(32:UInt8)] = lf1q8 a∧True∧True))))))) (by kernel_rfl) ?_
  delta DA GI LN N0 N1 N2 N4 NI SI SM Z0 Z1 ZI lf1q0 lf1q1 lf1q10 lf1q11 lf1q12 lf1q13 lf1q14 lf1q15 lf1q16 lf1q17 lf1q18 lf1q19 lf1q2 lf1q20 lf1q21 lf1q22 lf1q23 lf1q24 lf1q25 lf1q26 lf1q27 lf1q28 lf1q29 lf1q3 lf1q30 lf1q31 lf1q32 lf1q33 lf1q34 lf1q35 lf1q36 lf1q37 lf1q38 lf1q39 lf1q4 lf1q40 lf1q41 lf1q42 lf1q43 lf1q44 lf1q45 lf1q46 lf1q47 lf1q48 lf1q49 lf1q5 lf1q50 lf1q51 lf1q52 lf1q53 lf1q54 lf1q55 lf1q56 lf1q57 lf1q58 lf1q59 lf1q6 lf1q60 lf1q61 lf1q7 lf1q8 lf1q9
  have da:(default:Arr) = Arr.mk 0 [] [] [] := rfl
  simp only [← da,ifB_iff,side_iff,decide_eq_true_eq,decide_eq_false_iff_not,true_and,and_true,beq_iff_eq,Bool.cond_false_right,Bool.cond_true_left,Bool.and_eq_true,Bool.and_eq_false_iff,Bool.or_eq_true,Bool.or_eq_false_iff,beq_eq_false_iff_ne,ne_eq,exists_const,forall_const,intsD_isl]
  obtain ⟨kd,s8,n6,i6,si,ni,hsum,hchr,hno,hbx,hsc⟩ := ho
  have hw:IntKind.i64.wrap ((a.nu.length:Int) + (a.it.length:Int)) = (a.nu.length:Int) + (a.it.length:Int) := wrap_i64' (by omega) (by omega)
  have tt:(∀ i:Nat,i < a.sh.length→True)∧(∀ i:Nat,i < a.nu.length→True)∧∀ i:Nat,i < a.it.length→True := ⟨fun _ _ => trivial,fun _ _ => trivial,fun _ _ => trivial⟩
  simp only [hw,litA_eq a]
  simp only [strs2,strs3,strsB2,strsB3,ints1,joinOk,join2,join3,true_and]
  have hnu:a.sh.length = 0→a.k ≠ 3→a.nu.length = 1 := fun h1 h2 => by
    have := hsc h1
    rw [hno h2] at this
    simpa using this
  have hit:a.sh.length = 0→a.k = 3→a.it.length = 1 := fun h1 h2 => by
    have := hsc h1
    rw [hbx h2] at this
    simpa using this
  refine ⟨⟨fun h => by rw [h]; rfl,fun h => by rw [beq_eq_false_iff_ne.2 h]; rfl⟩,fun ⟨hs,hk⟩ => ?_,fun hn1 => ⟨⟨fun h => by rw [h]; rfl,fun h => by rw [beq_eq_false_iff_ne.2 h]; rfl⟩,fun ⟨hs,hk⟩ => ?_,fun hn2 => ⟨fun hs => ?_,fun hs => ?_⟩⟩⟩
  · have := hnu (by omega) (by omega)
    exact ⟨⟨by omega,by omega⟩,getD_i64 ni,by rw [litK,if_pos (by omega),scalK,if_pos hk]⟩
  · have := hnu (by omega) (by omega)
    refine ⟨⟨by omega,by omega⟩,⟨by omega,intsP1 _,?_⟩,by rw [litK,if_pos (by omega),scalK,if_neg (by omega),if_pos hk]⟩
    intro c hc
    rw [List.mem_singleton] at hc
    subst hc
    exact hchr hk _ (memI (by omega))
  · have hk:a.k = 3 := by omega
    have h1 := hit (by omega) hk
    have hm := mem_getD (l := a.it) (i := 0) (by omega)
    have hl := mem_sum hm
    refine ⟨⟨by omega,by omega⟩,a.it.getD 0 default,⟨rfl,⟨rfl,fun _ _ => rfl⟩,⟨rfl,fun _ _ => rfl⟩,rfl,fun _ _ => rfl⟩,hi _ hm,⟨by simp,?_⟩,?_⟩
    · simp only [List.length_append,List.length_cons,List.length_nil]; omega
    · rw [litK,if_pos (by omega),scalK,if_neg (by omega),if_neg (by omega)]
      have:(a.it.map litA).getD 0 [] = litA (a.it.getD 0 default) := by
        simp [List.getD_eq_getElem?_getD,List.getElem?_map,List.getElem?_eq_getElem (show 0 < a.it.length by omega)]
      rw [this]; rfl
  · have hd := dimsB_len si
    have hfl := fillL_len a.k
    have hsl := scalK_len a.k ni (a.it.map litA)
    have hvl := vecK_len a.k ni (a.it.map litA)
    rw [List.length_map] at hvl
    have len:∀ e:List UInt8,e.length ≤ 200000000→[dimsB a.sh,[114,101,115,104,97,112,101],e].length ≤ 140737488355328∧(dimsB a.sh ++ 32 :: ([114,101,115,104,97,112,101] ++ 32 :: e)).length ≤ 140737488355328 := fun e he => by
      refine ⟨by simp,?_⟩
      simp only [List.length_append,List.length_cons,List.length_nil]; omega
    have eqn:∀ e:List UInt8,dimsB a.sh ++ 32 :: ([114,101,115,104,97,112,101] ++ 32 :: e) = dimsB a.sh ++ reshW ++ e := fun e => by simp [reshW]
    refine ⟨⟨fun h => ⟨fun h2 => by rw [h,h2]; rfl,fun h2 => by rw [h,beq_eq_false_iff_ne.2 h2]; rfl⟩,fun h => by rw [beq_eq_false_iff_ne.2 h]; rfl⟩,fun ⟨h2,h3⟩ => ⟨a,⟨rfl,⟨rfl,fun _ _ => rfl⟩,⟨rfl,fun _ _ => rfl⟩,rfl,fun _ _ => rfl⟩,rfl,?_⟩,fun hn => ?_⟩
    · rw [litK,if_neg (by omega),if_pos ⟨by omega,by rw [List.length_map]; omega⟩]
    have hlk:litK a.k a.sh a.nu (a.it.map litA) = dimsB a.sh ++ reshW ++ (if a.nu.length + a.it.length = 0 then fillL a.k else if a.nu.length + a.it.length = 1 then scalK a.k a.nu (a.it.map litA) else vecK a.k a.nu (a.it.map litA)) := by
      rw [litK,if_neg (by omega),if_neg (by rw [List.length_map]; omega),List.length_map]
    rw [hlk]
    refine ⟨fun hz => ⟨a,⟨rfl,⟨rfl,fun _ _ => rfl⟩,⟨rfl,fun _ _ => rfl⟩,rfl,fun _ _ => rfl⟩,rfl,fillA a.k,⟨rfl,⟨rfl,fun _ _ => rfl⟩,⟨rfl,fun _ _ => rfl⟩,rfl,fun _ _ => rfl⟩,h0 (by omega) (by omega),⟨intsP_isl _,by omega,si⟩,?_,?_⟩,fun hz => ⟨fun h2 => ⟨a,⟨rfl,⟨rfl,fun _ _ => rfl⟩,⟨rfl,fun _ _ => rfl⟩,rfl,fun _ _ => rfl⟩,⟨rfl,by omega⟩,atA a 0,⟨rfl,⟨rfl,fun _ _ => rfl⟩,⟨rfl,fun _ _ => rfl⟩,rfl,fun _ _ => rfl⟩,h1 (by omega) (by omega),⟨intsP_isl _,by omega,si⟩,?_,?_⟩,fun h2 => ⟨a,⟨rfl,⟨rfl,fun _ _ => rfl⟩,⟨rfl,fun _ _ => rfl⟩,rfl,fun _ _ => rfl⟩,rfl,⟨intsP_isl _,by omega,si⟩,?_,?_⟩⟩⟩
    · rw [fill_lit kd]; exact len _ (by omega)
    · rw [fill_lit kd,eqn,if_pos (by omega)]
    · rw [at_lit kd hbx (by omega)]; exact len _ (by omega)
    · rw [at_lit kd hbx (by omega),eqn,if_neg (by omega),if_pos (by omega)]
    · exact len _ (by omega)
    · rw [eqn,if_neg (by omega),if_neg (by omega)]
end Go.Proofs.YtjnifeedbgefpaaGreatDoor
namespace Go.Proofs.YtjnifeedbgefpaaGreatDoor
open Go Go.Ab
set_option maxRecDepth 100000
def Lit (a:Arr):Prop := ACalls Tryz.prog 94 ((sRc Arr.row2 (fun _ => True) (fun b => .str (litA b))).args a) ⟨[],[]⟩ (SpecR (sRc Arr.row2 (fun _ => True) (fun b => .str (litA b))) a)
theorem fill_row2 (a:Arr):ACalls Tryz.prog 116 [.agg a.row2] ⟨[],[]⟩ (SpecR (sC [.agg a.row2] (.agg (fillA a.k).row1)) ()) := wkRet (fill_ok a.k _ _ _ _ _ _) (fill_wk a.k)
theorem conLf_ok {a:Arr} {q:Arr→Prop} (hq:∀ b,q b→Lit b) (hv:∀ b ∈ a.it,Lit b) (ho:LOk a) (hcl:a.nu.length + a.it.length = 1→ConOk Tryz.prog (conCl a.it)):ConOk Tryz.prog (conLf a q) := by
  intro k ds S A h
  unfold conLf at h
  split at h
  · injection h with h; subst h
    exact ConOk.plain (fun b hb => sRc_row (hq b hb)) rfl rfl
  · injection h with h; subst h
    refine ConOk.plain (fun b hb => ?_) rfl rfl
    have hb:b = a := hb
    rw [hb]
    exact (vec_step a ho (conVc_ok hv)).mono fun _ _ ⟨y,q1,q2,q3⟩ => ⟨y,q1,q2,q3⟩
  · injection h with h; subst h
    refine ConOk.plain (fun b hb => ?_) rfl rfl
    have hb:b = a := hb
    rw [hb]
    exact (fill_row2 a).mono fun _ _ ⟨y,q1,q2,q3⟩ => ⟨y,q1,q2,q3⟩
  · injection h with h; subst h
    refine ConOk.plain (fun b hb => ?_) rfl rfl
    obtain ⟨hb,h1⟩:b = a∧a.nu.length + a.it.length = 1 := hb
    rw [hb]
    have hsz:((0:Nat):Int) < sizeR a.k a.nu.length a.it.length := by
      unfold sizeR
      by_cases h3:a.k = 3
      · rw [if_neg (by omega),if_pos h3]
        have := ho.bx h3
        rw [this] at h1
        simp at h1
        omega
      · rw [if_pos (by have := ho.kd; omega)]
        have := ho.no h3
        rw [this] at h1
        simp at h1
        omega
    exact (wkRet (at_step a 0 ho.kd hsz (hcl h1)) (at_wk a 0)).mono fun _ _ ⟨y,q1,q2,q3⟩ => ⟨y,q1,q2,q3⟩
  · split at h
    · injection h with h; subst h
      exact pC_ok fun ⟨h1,h2,h3⟩ => ⟨weakL_refl _,sC_weak (isl_weak h1) (sshow_ok _ (by rw [intsD_len]; exact h2) h3)⟩
    · cases h
  · split at h
    · injection h with h; subst h
      exact pC_ok fun ⟨h1,h2⟩ => ⟨weakL_refl _,sC_weak (us := [ssl (strsOf _ _) .any]) ⟨ssl_weak h1,trivial⟩ (fjoin_ok _ h2)⟩
    · cases h
  · exact conJn_ok _ _ _ _ h
theorem conCl_of {its:List Arr} (h:∀ b ∈ its,(chkA b).1 = 0):ConOk Tryz.prog (conCl its) := by
  intro k' ds S A hk
  unfold conCl at hk
  split at hk
  · injection hk with hk; subst hk
    exact ConOk.plain (fun (b:Arr) hb => (cl_all b (h b hb)).mono fun _ _ ⟨y,q1,q2,q3⟩ => ⟨y,q1,q2,q3⟩) rfl rfl
  · cases hk
theorem lit_sc {a:Arr} (ho:LOk a) (hs:a.sh.length = 0) (ih:∀ b ∈ a.it,Lit b) (hv:∀ b ∈ a.it,(chkA b).1 = 0):Lit a :=
  lit_step a (· ∈ a.it) ho (fun _ hb => hb) (fun h => absurd hs h) (fun h => absurd hs h) (conLf_ok ih ih ho fun _ => conCl_of hv)
theorem lok_fill1:LOk (.mk 1 [] [0] []) := ⟨.inl rfl,by decide,by decide,by decide,by simp [Arr.sh],by simp [Arr.nu,inI64],by simp [Arr.it,sumL],fun h => absurd h (by decide),fun _ => rfl,fun h => absurd h (by decide),fun _ => rfl⟩
theorem lit_fill1:Lit (.mk 1 [] [0] []) := lit_sc lok_fill1 rfl (fun b hb => by cases hb) (fun b hb => by cases hb)
theorem lok_fill2:LOk (.mk 2 [] [32] []) := ⟨.inr (.inl rfl),by decide,by decide,by decide,by simp [Arr.sh],by simp [Arr.nu,inI64],by simp [Arr.it,sumL],by simp [Arr.nu],fun _ => rfl,fun h => absurd h (by decide),fun _ => rfl⟩
theorem lit_fill2:Lit (.mk 2 [] [32] []) := lit_sc lok_fill2 rfl (fun b hb => by cases hb) (fun b hb => by cases hb)
theorem lok_e:LOk (.mk 1 [0] [] []) := ⟨.inl rfl,by decide,by decide,by decide,by simp [Arr.sh,inI64],by simp [Arr.nu],by simp [Arr.it,sumL],fun h => absurd h (by decide),fun _ => rfl,fun h => absurd h (by decide),fun h => absurd h (by decide)⟩
theorem lit_e:Lit (.mk 1 [0] [] []) := by
  refine lit_step _ (· = .mk 1 [] [0] []) lok_e (fun b hb => by cases hb) (fun _ _ => rfl) (fun _ h => by cases h) ?_
  refine conLf_ok (fun b hb => ?_) (fun b hb => by cases hb) lok_e (fun h => by cases h)
  subst hb
  exact lit_fill1
theorem chk_e:(chkA (.mk 1 [0] [] [])).1 = 0 := by decide
theorem len_e:(litA (.mk 1 [0] [] [])).length ≤ 600 := by
  have := litK_len 1 (s := [0]) (n := []) (by decide) (by simp [inI64]) (by simp) []
  rw [litA]
  simp only [litsL,sumL,List.length_nil] at this ⊢
  omega
theorem lok_fill3:LOk (.mk 3 [] [] [.mk 1 [0] [] []]) := ⟨.inr (.inr rfl),by decide,by decide,by decide,by simp [Arr.sh],by simp [Arr.nu],by have := len_e; simp only [Arr.it,sumL,List.map_cons,List.map_nil,List.length_cons,List.length_nil]; omega,fun h => absurd h (by decide),fun h => absurd rfl h,fun _ => rfl,fun _ => rfl⟩
theorem lit_fill3:Lit (.mk 3 [] [] [.mk 1 [0] [] []]) := by
  refine lit_sc lok_fill3 rfl (fun b hb => ?_) (fun b hb => ?_)
  · have:b = .mk 1 [0] [] [] := List.mem_singleton.1 hb
    subst this; exact lit_e
  · have:b = .mk 1 [0] [] [] := List.mem_singleton.1 hb
    subst this; exact chk_e
theorem lit_fill {k:Int} (h:k = 1∨k = 2∨k = 3):Lit (fillA k) := by
  rcases h with rfl | rfl | rfl
  · exact lit_fill1
  · exact lit_fill2
  · exact lit_fill3
end Go.Proofs.YtjnifeedbgefpaaGreatDoor
namespace Go.Proofs.YtjnifeedbgefpaaGreatDoor
open Go Go.Ab
set_option maxRecDepth 100000
theorem form_parts {k:Int} {s:List Int} {nn ni:Nat} (h:formS k s nn ni = 0):(k ≠ 3→ni = 0∧(nn:Int) = sizeS s)∧(k = 3→nn = 0∧(ni:Int) = sizeS s) := by
  have hk := form_kind h
  unfold formS at h
  rw [if_pos hk] at h
  by_cases hd:dimsS s ≠ 0
  · rw [if_pos hd] at h; exact (hd h).elim
  · rw [if_neg hd] at h
    by_cases hc:((if k = 3 then (ni:Int) else nn) ≠ sizeS s)∨((if k = 3 then (nn:Int) else ni) ≠ 0)
    · rw [if_pos hc] at h; simp at h
    · have h1:(if k = 3 then (ni:Int) else nn) = sizeS s := Decidable.not_not.1 fun h => hc (.inl h)
      have h2:(if k = 3 then (nn:Int) else ni) = 0 := Decidable.not_not.1 fun h => hc (.inr h)
      refine ⟨fun h3 => ?_,fun h3 => ?_⟩
      · rw [if_neg h3] at h1 h2
        exact ⟨by omega,h1⟩
      · rw [if_pos h3] at h1 h2
        exact ⟨by omega,h1⟩
theorem lok_of {a:Arr} (ho:a.ok) (h:(chkA a).1 = 0):LOk a := by
  have hf := chk_form h
  obtain ⟨p1,p2⟩ := form_parts hf
  obtain ⟨l1,l2,l3,l4,l5⟩ := arr_dims ho h
  refine ⟨form_kind hf,l1,l2,l3,l4,l5,items_len ho h,chk_chr h,fun h3 => List.length_eq_zero_iff.1 (p1 h3).1,fun h3 => List.length_eq_zero_iff.1 (p2 h3).1,fun hs => ?_⟩
  have hs:a.sh = [] := List.length_eq_zero_iff.1 hs
  have h1:sizeS a.sh = 1 := by rw [hs]; rfl
  by_cases h3:a.k = 3
  · have := p2 h3; omega
  · have := p1 h3; omega
theorem lok_at {a:Arr} (lo:LOk a) (h1:a.nu.length + a.it.length = 1):LOk (atA a 0) := by
  unfold atA
  by_cases h3:a.k = 3
  · rw [if_pos h3]
    have h2:a.it.length = 1 := by have := lo.bx h3; rw [this] at h1; simpa using h1
    have hm := mem_getD (l := a.it) (i := 0) (by omega)
    have hl := mem_sum hm
    have hs := lo.sum
    exact ⟨.inr (.inr rfl),by simp [Arr.sh],by simp [Arr.nu],by simp [Arr.it],by simp [Arr.sh],by simp [Arr.nu],by show 7 * 1 + ((litA (a.it.getD 0 default)).length + 0) ≤ _; omega,fun h => absurd h (by show ¬ (3:Int) = 2; decide),fun h => absurd rfl h,fun _ => rfl,fun _ => rfl⟩
  · rw [if_neg h3]
    have h2:a.nu.length = 1 := by have := lo.no h3; rw [this] at h1; simpa using h1
    have hm:a.nu.getD 0 0 ∈ a.nu := memI (by omega)
    refine ⟨lo.kd,by simp [Arr.sh],by simp [Arr.nu],by simp [Arr.it],by simp [Arr.sh],?_,by simp [Arr.it,sumL],?_,fun _ => rfl,fun h => absurd h h3,fun _ => rfl⟩
    · intro z hz
      have:z = a.nu.getD 0 0 := List.mem_singleton.1 hz
      rw [this]; exact lo.ni _ hm
    · intro h z hz
      have:z = a.nu.getD 0 0 := List.mem_singleton.1 hz
      rw [this]; exact lo.chr h _ hm
theorem lit_all:∀ (a:Arr),a.ok→(chkA a).1 = 0→Lit a
  | .mk k s n is,ho,h => by
    have lo := lok_of ho h
    have hv := (chkA_zero h).2.2.2
    have hok:∀ b ∈ is,b.ok := by
      simp only [Arr.ok] at ho
      exact (okL_iff _).1 ho.2.2.2.2.2.2
    have ih:∀ b ∈ is,Lit b := fun b hb => lit_all b (hok b hb) (hv b hb)
    refine lit_step (.mk k s n is) (fun b => b ∈ is∨b = fillA k∨(b = atA (.mk k s n is) 0∧n.length + is.length = 1)) lo (fun b hb => .inl hb) (fun _ _ => .inr (.inl rfl)) (fun _ h1 => .inr (.inr ⟨rfl,h1⟩)) (conLf_ok (fun b hb => ?_) ih lo fun _ => conCl_ok h)
    rcases hb with hb | hb | ⟨hb,h1⟩
    · exact ih b hb
    · rw [hb]; exact lit_fill lo.kd
    · rw [hb]
      have hsub:∀ c ∈ (atA (.mk k s n is) 0).it,c ∈ is := by
        intro c hc
        unfold atA at hc
        by_cases h3:(Arr.mk k s n is).k = 3
        · rw [if_pos h3] at hc
          have h2:is.length = 1 := by
            have h4:n = [] := lo.bx h3
            rw [h4] at h1; simpa using h1
          have:c = is.getD 0 default := List.mem_singleton.1 hc
          rw [this]; exact mem_getD (by omega)
        · rw [if_neg h3] at hc; cases hc
      refine lit_sc (lok_at lo h1) ?_ (fun c hc => ih c (hsub c hc)) (fun c hc => hv c (hsub c hc))
      unfold atA
      split <;> rfl
termination_by a => SizeOf.sizeOf a
decreasing_by
  have := List.sizeOf_lt_of_mem hb
  simp; omega
def litF (a:Arr):List UInt8 := if (chkA a).1 = 0 then litA a else []
def conLt (a:Arr):Con := fun k _ _ => match k with
  | 93 => some (sRc Arr.row1 (fun b => b = a) (fun b => .int .i64 (chkA b).1))
  | 94 => some (sRc Arr.row1 (fun b => b = a∧(chkA a).1 = 0) (fun b => .str (litA b)))
  | _ => none
theorem conLt_ok {a:Arr} (ho:a.ok):ConOk Tryz.prog (conLt a) := by
  intro k ds S A h
  unfold conLt at h
  split at h
  · injection h with h; subst h
    refine ConOk.plain (fun b hb => ?_) rfl rfl
    have hb:b = a := hb
    rw [hb]
    exact (ri_ok a ho).mono fun _ _ ⟨y,q1,q2,q3⟩ => ⟨y,q1,q2,q3⟩
  · injection h with h; subst h
    refine ConOk.plain (fun b hb => ?_) rfl rfl
    obtain ⟨hb,h1⟩:b = a∧(chkA a).1 = 0 := hb
    rw [hb]
    exact sRc_row (lit_all a ho h1)
  · cases h
noncomputable def Elt (a:Arr):Senv := EC (conLt a) 8 3 [5] (fun _ => ([],[]))
noncomputable section
def lf3q0 (p0:Arr):Nat := LN (Arr.sh p0)
def lf3q1 (p0:Arr) (p1:Nat):List D := [ZI (GI (Arr.sh p0) p1)]
def lf3q2 (p0:Arr):Nat := LN (Arr.nu p0)
def lf3q3 (p0:Arr) (p1:Nat):List D := [ZI (GI (Arr.nu p0) p1)]
def lf3q4 (p0:Arr):Nat := LN (Arr.it p0)
def lf3q5 (p0:Arr) (p1:Nat):List D := Arr.row (GA (Arr.it p0) p1)
def lf3q6 (p0 p1:Arr):Prop := (Arr.k p0 = Arr.k p1∧(lf3q0 p0 = lf3q0 p1∧(∀ (i:Nat),i < lf3q0 p0→lf3q1 p0 i = lf3q1 p1 i)∧True)∧(lf3q2 p0 = lf3q2 p1∧(∀ (i:Nat),i < lf3q2 p0→lf3q3 p0 i = lf3q3 p1 i)∧True)∧(lf3q4 p0 = lf3q4 p1∧(∀ (i:Nat),i < lf3q4 p0→lf3q5 p0 i = lf3q5 p1 i)∧True)∧True)∧True
end
theorem litF_ok (a : Arr) (ho : a.ok) :
    ACalls Tryz.prog 63 ((sRc Arr.row1 (fun _ => True) (fun b => .str (litF b))).args a) ⟨[],[]⟩ (SpecR (sRc Arr.row1 (fun _ => True) (fun b => .str (litF b))) a) := by
  refine con_of (A := sRc Arr.row1 (fun _ => True) (fun b => .str (litF b))) (x := a) (E := Elt a) (eOk (conLt_ok ho) rfl) Tryz.func63 rfl (by kernel_rfl) rfl (by simp [sRc,Elt,EC,E0]) ?_
  refine vc_eq (T :=
    ∀ (x:Nat),True→SM x∧∃ (x_1:Arr),lf3q6 a x_1∧(True∧True)∧x_1 = a∧∀ (y:Unit),True→ifB (Prod.fst (chkA x_1) != Z0) (True∧∃ (y:Unit),True∧eqOf (List UInt8) [] (litF a)∧True∧True) (SM x∧∃ (x:Arr),lf3q6 a x∧(True∧True)∧(x = a∧Prod.fst (chkA a) = Z0)∧∀ (y:Unit),True→True∧∃ (y:Unit),True∧litA x = litF a∧True∧True)) (by kernel_rfl) ?_
  delta DA GA GI LN SM Z0 ZI lf3q0 lf3q1 lf3q2 lf3q3 lf3q4 lf3q5 lf3q6
  have da:(default:Arr) = Arr.mk 0 [] [] [] := rfl
  simp only [← da,ifB_iff,true_and,and_true,bne_iff_ne,ne_eq,exists_const,forall_const]
  refine ⟨a,⟨rfl,⟨rfl,fun _ _ => rfl⟩,⟨rfl,fun _ _ => rfl⟩,rfl,fun _ _ => rfl⟩,rfl,fun h => by rw [litF,if_neg h],fun h => ?_⟩
  have h:(chkA a).1 = 0 := by simpa using h
  exact ⟨a,⟨rfl,⟨rfl,fun _ _ => rfl⟩,⟨rfl,fun _ _ => rfl⟩,rfl,fun _ _ => rfl⟩,⟨rfl,h⟩,by rw [litF,if_pos h]⟩
end Go.Proofs.YtjnifeedbgefpaaGreatDoor
namespace Go.Proofs.YtjnifeedbgefpaaGreatDoor
open Go Go.Ab
set_option maxRecDepth 100000
def wrapT (x:List UInt8):List UInt8 := [40,32] ++ x ++ [32,41]
def withT (ks:List Int) (k:Int) (x:List UInt8):List UInt8 := if ks.contains k = true then wrapT x else x
def kAt (l:List Nd) (i:Nat):Int := (l.getD i default).kd
def zipT (ks:List Int):List Nd→List (List UInt8)→List (List UInt8)
  | n :: l,x :: r => withT ks n.kd x :: zipT ks l r
  | _,_ => []
mutual
def showN:Nd→List UInt8
  | .mk kd _ _ tx pr op va ki bo _ _ _ =>
    if kd = 1 then litF va
    else if kd = 2 then tx
    else if kd = 6 then [88]
    else if kd = 7 then [89]
    else if kd = 8 then [97,114,103]
    else if kd = 11 then [115,101,108,102]
    else if kd = 12 then [70]
    else if kd = 13 then [71]
    else if kd = 9 then primT pr
    else if kd = 17 then opT op
    else if kd = 3 then Lib.join (zipT [3,4,5] ki (showL ki)) [32]
    else if kd = 4 then withT [16] (kAt ki 0) ((showL ki).getD 0 []) ++ [32] ++ (showL ki).getD 1 []
    else if kd = 5 then withT [4,5] (kAt ki 1) ((showL ki).getD 1 []) ++ [32] ++ withT [16] (kAt ki 0) ((showL ki).getD 0 []) ++ [32] ++ (showL ki).getD 2 []
    else if kd = 16 then Lib.join (zipT [4,5,16] ki (showL ki)) [32]
    else if kd = 14 then withT [16] (kAt ki 1) ((showL ki).getD 1 []) ++ [32] ++ (showL ki).getD 0 []
    else if kd = 15 then withT [16] (kAt ki 1) ((showL ki).getD 1 []) ++ [32] ++ (showL ki).getD 0 [] ++ [32] ++ withT [3,4,5,16,14,15] (kAt ki 2) ((showL ki).getD 2 [])
    else [123,32] ++ Lib.join (showS bo) [32,59,32] ++ [32,125]
def showL:List Nd→List (List UInt8)
  | [] => []
  | x :: r => showN x :: showL r
def showS:List Sm→List (List UInt8)
  | [] => []
  | x :: r => showM x :: showS r
def showM:Sm→List UInt8
  | .mk kd _ nm _ te nd => if kd = 2 then nm ++ [32,60,45,32] ++ showN nd else if kd = 3 then showN te ++ [32,58,32] ++ showN nd else showN nd
end
theorem showL_map:∀ l:List Nd,showL l = l.map showN
  | [] => by simp only [showL,List.map_nil]
  | x :: r => by simp only [showL,List.map_cons,showL_map r]
theorem showS_map:∀ l:List Sm,showS l = l.map showM
  | [] => by simp only [showS,List.map_nil]
  | x :: r => by simp only [showS,List.map_cons,showS_map r]
def withN (ks:List Int) (n:Nd):List UInt8 := withT ks n.kd (showN n)
theorem zipT_map (ks:List Int):∀ l:List Nd,zipT ks l (showL l) = l.map (withN ks)
  | [] => by simp only [zipT,List.map_nil]
  | x :: r => by simp only [showL,zipT,List.map_cons,zipT_map ks r]; rfl
theorem showL_getD {l:List Nd} {i:Nat} (h:i < l.length):(showL l).getD i [] = showN (l.getD i default) := by
  rw [showL_map]
  simp [List.getD_eq_getElem?_getD,h]
theorem showM_eq (s:Sm):showM s = if s.kd = 2 then s.nm ++ [32,60,45,32] ++ showN s.nd else if s.kd = 3 then showN s.te ++ [32,58,32] ++ showN s.nd else showN s.nd := by
  cases s
  simp only [showM]
  rfl
def showNd (n:Nd):List UInt8 := if checkN n = 0 then showN n else []
mutual
/-- A tree without what comparisons do not see. -/
def stN:Nd→Nd
  | .mk kd _ cl tx pr op va ki bo _ _ _ => .mk kd 0 cl tx pr op va (stL ki) (stB bo) 0 0 0
def stL:List Nd→List Nd
  | [] => []
  | x :: r => stN x :: stL r
def stB:List Sm→List Sm
  | [] => []
  | x :: r => stM x :: stB r
def stM:Sm→Sm
  | .mk kd _ nm _ te nd => .mk kd 0 nm 0 (stN te) (stN nd)
end
theorem stL_map:∀ l:List Nd,stL l = l.map stN
  | [] => by simp only [stL,List.map_nil]
  | x :: r => by simp only [stL,List.map_cons,stL_map r]
theorem stB_map:∀ l:List Sm,stB l = l.map stM
  | [] => by simp only [stB,List.map_nil]
  | x :: r => by simp only [stB,List.map_cons,stB_map r]
theorem stN_iff (a b:Nd):stN a = stN b↔a.kd = b.kd∧a.cl = b.cl∧a.tx = b.tx∧a.pr = b.pr∧a.op = b.op∧a.va = b.va∧a.ki.map stN = b.ki.map stN∧a.bo.map stM = b.bo.map stM := by
  cases a; cases b
  simp only [stN,stL_map,stB_map,Nd.mk.injEq,Nd.kd,Nd.cl,Nd.tx,Nd.pr,Nd.op,Nd.va,Nd.ki,Nd.bo,true_and,and_true]
theorem stM_iff (a b:Sm):stM a = stM b↔a.kd = b.kd∧a.nm = b.nm∧stN a.te = stN b.te∧stN a.nd = stN b.nd := by
  cases a; cases b
  simp only [stM,Sm.mk.injEq,Sm.kd,Sm.nm,Sm.te,Sm.nd,true_and]
end Go.Proofs.YtjnifeedbgefpaaGreatDoor
namespace Go.Proofs.YtjnifeedbgefpaaGreatDoor
open Go Go.Ab
set_option maxRecDepth 100000
noncomputable def conEen (l m:List Nd):Con := fun k ds S => match k with
  | 18 => some (pE (β := Nd × Nd) ds S (fun x => .bool (sameT (stN x.1) (stN x.2))) (fun x => wkL ds [.agg x.1.row1,.agg x.2.row1]∧x.1 ∈ l∧x.2 ∈ m))
  | _ => none
noncomputable def EEen (l m:List Nd):Senv := { EC (conEen l m) 32 3 [6,7,8,9,14,15,16,17,18,30] (fun _ => ([],[])) with
  ann := fun q _ S => match q with
    | 0 => some { slots := [17],keep := [0,1,2,15,16],α := Nat,st := fun i => ([.int .i64 i],S),inv := fun i => i ≤ l.length∧∀ j,j < i→stN (l.getD j default) = stN (m.getD j default),mu := fun i => l.length - i }
    | _ => none }
noncomputable section
def yd1q0 (p0 p1:List Nd):Prop := True∧∃ (y:Unit),True∧false = sameT (List.map stN p0) (List.map stN p1)∧True∧True
def yd1q1:Arr := DA
def yd1q2:Nd := Nd.mk Z0 Z0 Z0 [] Z0 Z0 yd1q1 [] [] Z0 Z0 Z0
def yd1q3 (p0:List Nd) (p1:Nat):Nd := List.getD p0 p1 yd1q2
def yd1q4 (p0:List Nd) (p1:Nat):Nd := stN (yd1q3 p0 p1)
def yd1q5 (p0:Nat) (p1 p2:List Nd):Prop := p0 ≤ LN p1∧∀ (j:Nat),j < p0→yd1q4 p1 j = yd1q4 p2 j
def yd1q6 (p0:List Nd) (p1:Nat):Nd := List.getD p0 (Int.toNat (↑p1:Int)) yd1q2
def yd1q7 (p0:List Nd) (p1:Nat):Arr := Nd.va (yd1q6 p0 p1)
def yd1q8 (p0:List Nd) (p1:Nat):List Int := Arr.sh (yd1q7 p0 p1)
def yd1q9 (p0:List Nd) (p1:Nat):List Int := Arr.nu (yd1q7 p0 p1)
def yd1q10 (p0:List Nd) (p1:Nat):List Arr := Arr.it (yd1q7 p0 p1)
def yd1q11 (p0:List Nd) (p1:Nat):List Nd := Nd.ki (yd1q6 p0 p1)
def yd1q12 (p0:List Nd) (p1:Nat):List Sm := Nd.bo (yd1q6 p0 p1)
def yd1q13:Sm := Sm.mk Z0 Z0 [] Z0 yd1q2 yd1q2
def yd1q14 (p0:List Nd) (p1:Nat):D := D.agg [ZI (Nd.kd (yd1q6 p0 p1)),ZI (Nd.at_ (yd1q6 p0 p1)),ZI (Nd.cl (yd1q6 p0 p1)),D.str (Nd.tx (yd1q6 p0 p1)),ZI (Nd.pr (yd1q6 p0 p1)),ZI (Nd.op (yd1q6 p0 p1)),ZI (Arr.k (yd1q7 p0 p1)),SI (yd1q8 p0 p1),SI (yd1q9 p0 p1),D.sl N4 (LN (yd1q10 p0 p1)) (fun (i:Nat) => Arr.row (List.getD (yd1q10 p0 p1) i yd1q1)) Mode.any,D.sl (15:Nat) (LN (yd1q11 p0 p1)) (fun (i:Nat) => Nd.row (List.getD (yd1q11 p0 p1) i yd1q2)) Mode.any,D.sl (34:Nat) (LN (yd1q12 p0 p1)) (fun (i:Nat) => Sm.row (List.getD (yd1q12 p0 p1) i yd1q13)) Mode.any,ZI (Nd.de (yd1q6 p0 p1)),ZI (Nd.sl (yd1q6 p0 p1)),ZI (Nd.ss (yd1q6 p0 p1))]
def yd1q15 (p0:Nd):Arr := Nd.va p0
def yd1q16 (p0:Nd):List Int := Arr.sh (yd1q15 p0)
def yd1q17 (p0:Nd):List Int := Arr.nu (yd1q15 p0)
def yd1q18 (p0:Nd):List Arr := Arr.it (yd1q15 p0)
def yd1q19 (p0:Nd):D := D.agg [ZI (Nd.kd p0),ZI (Nd.at_ p0),ZI (Nd.cl p0),D.str (Nd.tx p0),ZI (Nd.pr p0),ZI (Nd.op p0),ZI (Arr.k (yd1q15 p0)),SI (yd1q16 p0),SI (yd1q17 p0),D.sl N4 (LN (yd1q18 p0)) (fun (i:Nat) => Arr.row (List.getD (yd1q18 p0) i yd1q1)) Mode.any,D.sl (15:Nat) (LN (Nd.ki p0)) (fun (i:Nat) => Nd.row (List.getD (Nd.ki p0) i yd1q2)) Mode.any,D.sl (34:Nat) (LN (Nd.bo p0)) (fun (i:Nat) => Sm.row (List.getD (Nd.bo p0) i yd1q13)) Mode.any,ZI (Nd.de p0),ZI (Nd.sl p0),ZI (Nd.ss p0)]
def yd1q20 (p0:List Nd) (p1:Nat):Arr := Nd.va (yd1q3 p0 p1)
def yd1q21 (p0:List Nd) (p1:Nat):List Int := Arr.sh (yd1q20 p0 p1)
def yd1q22 (p0:List Nd) (p1:Nat):List Int := Arr.nu (yd1q20 p0 p1)
def yd1q23 (p0:List Nd) (p1:Nat):List Arr := Arr.it (yd1q20 p0 p1)
def yd1q24 (p0:List Nd) (p1:Nat):List Nd := Nd.ki (yd1q3 p0 p1)
def yd1q25 (p0:List Nd) (p1:Nat):List Sm := Nd.bo (yd1q3 p0 p1)
def yd1q26 (p0:List Nd):D := D.sl (15:Nat) (LN p0) (fun (i:Nat) => [ZI (Nd.kd (yd1q3 p0 i)),ZI (Nd.at_ (yd1q3 p0 i)),ZI (Nd.cl (yd1q3 p0 i)),D.str (Nd.tx (yd1q3 p0 i)),ZI (Nd.pr (yd1q3 p0 i)),ZI (Nd.op (yd1q3 p0 i)),ZI (Arr.k (yd1q20 p0 i)),SI (yd1q21 p0 i),SI (yd1q22 p0 i),D.sl N4 (LN (yd1q23 p0 i)) (fun (i_1:Nat) => Arr.row (List.getD (yd1q23 p0 i) i_1 yd1q1)) Mode.any,D.sl (15:Nat) (LN (yd1q24 p0 i)) (fun (i_1:Nat) => Nd.row (List.getD (yd1q24 p0 i) i_1 yd1q2)) Mode.any,D.sl (34:Nat) (LN (yd1q25 p0 i)) (fun (i_1:Nat) => Sm.row (List.getD (yd1q25 p0 i) i_1 yd1q13)) Mode.any,ZI (Nd.de (yd1q3 p0 i)),ZI (Nd.sl (yd1q3 p0 i)),ZI (Nd.ss (yd1q3 p0 i))]) Mode.any
def yd1q27 (p0:List Nd):Prop := SM (yd1q26 p0)
end
theorem Een_ok (l m : List Nd) (hl : l.length ≤ maxLen) (hm : m.length ≤ maxLen) (h : ∀ x ∈ l, ∀ y ∈ m, CD 18 [.agg x.row1, .agg y.row1] (.bool (sameT (stN x) (stN y)))) :
    CD 41 [gsl 15 Nd.row1 l,gsl 15 Nd.row1 m,.fn (.func 18) [] []] (.bool (sameT (l.map stN) (m.map stN))) := by
  refine con_of (A := sC _ _) (x := ()) (E := EEen l m) (eOk ?_ rfl) Tryz.func41 rfl (by kernel_rfl) rfl (by simp [sC,EEen,EC,E0]) ?_
  · intro k ds S A hh
    unfold conEen at hh
    split at hh
    · injection hh with hh; subst hh
      exact pS_ok fun x ⟨e,h1,h2⟩ => CD.at_ (CD.wk (h _ h1 _ h2) e) _
    · cases hh
  refine vc_eq (T :=
    ifB ((LI l) != (LI m)) (yd1q0 l m) ((∃ (x:Nat),yd1q5 x l m∧(Z0 = (↑x:Int)∧True)∧True∧True)∧∀ (x:Nat),yd1q5 x l m→ifB (decide ((↑x:Int) < (LI l))) (side (Z0 ≤ (↑x:Int)∧(↑x:Int) < (LI l)) (∀ (x_1:Nat),True→SM x_1∧side (Z0 ≤ (↑x:Int)∧(↑x:Int) < (LI m)) (∀ (x_2:Nat),x_1 ≠ x_2∧True→SM x_2∧SM x_1∧SM x_2∧∃ (x_3:Nd × Nd),(wkL [yd1q14 l x,yd1q14 m x] [yd1q19 x_3.1,yd1q19 x_3.2]∧x_3.1 ∈ l∧x_3.2 ∈ m)∧∀ (y:Unit),True→ifB (!sameT (stN x_3.1) (stN x_3.2)) (yd1q0 l m) ((yd1q27 l∧yd1q27 m∧SM (D.fn (Fn.func (18:Nat)) [] [])∧yd1q27 l∧SM (ZI (LI l))∧True)∧∃ (y:Nat),yd1q5 y l m∧LN l - y < LN l - x∧(IntKind.wrap IntKind.i64 ((↑x:Int) + Z1) = (↑y:Int)∧True)∧True∧True)))) (True∧∃ (y:Unit),True∧true = sameT (List.map stN l) (List.map stN m)∧True∧True))) (by kernel_rfl) ?_
  delta DA GI LI LN N1 N4 SI SM Z0 Z1 ZI yd1q0 yd1q1 yd1q10 yd1q11 yd1q12 yd1q13 yd1q14 yd1q15 yd1q16 yd1q17 yd1q18 yd1q19 yd1q2 yd1q20 yd1q21 yd1q22 yd1q23 yd1q24 yd1q25 yd1q26 yd1q27 yd1q3 yd1q4 yd1q5 yd1q6 yd1q7 yd1q8 yd1q9
  have dn:(default:Nd) = Nd.mk 0 0 0 [] 0 0 (Arr.mk 0 [] [] []) [] [] 0 0 0 := rfl
  have dm:(default:Sm) = Sm.mk 0 0 [] 0 (Nd.mk 0 0 0 [] 0 0 (Arr.mk 0 [] [] []) [] [] 0 0 0) (Nd.mk 0 0 0 [] 0 0 (Arr.mk 0 [] [] []) [] [] 0 0 0) := rfl
  try simp only [← dm]
  try simp only [← dn]
  simp only [eq_self,ne_eq,implies_true,weakL_refl,Int.toNat_natCast,ifB_iff,side_iff,decide_eq_true_eq,decide_eq_false_iff_not,true_and,and_true,beq_iff_eq,bne_iff_ne,bne_eq_false_iff_eq,beq_eq_false_iff_ne,Bool.not_eq_true',Bool.not_eq_false',exists_const,forall_const,Prod.exists]
  simp only [maxLen] at hl hm
  have gm:∀ {i:Nat},i < l.length→i < m.length→l.getD i default ∈ l∧m.getD i default ∈ m := fun h1 h2 => ⟨by rw [List.getD_eq_getElem?_getD,List.getElem?_eq_getElem h1]; exact List.getElem_mem h1,by rw [List.getD_eq_getElem?_getD,List.getElem?_eq_getElem h2]; exact List.getElem_mem h2⟩
  have gmap:∀ {l:List Nd} {i:Nat},i < l.length→(l.map stN).getD i (stN default) = stN (l.getD i default) := fun h => by simp [List.getD_eq_getElem?_getD,h]
  refine ⟨fun h => sameT_no fun e => h (by have := congrArg List.length e; simp only [List.length_map] at this; omega),fun he => ⟨⟨0,⟨Nat.zero_le _,fun j hj => absurd hj (by omega)⟩,rfl⟩,fun i ⟨i1,hi⟩ => ⟨fun hlt => ⟨⟨by omega,hlt⟩,fun _ => ⟨⟨by omega,by omega⟩,fun _ _ => ⟨l.getD i default,m.getD i default,⟨wkL_refl _,gm (by omega) (by omega)⟩,fun hn => sameT_no fun e => ?_,fun hs => ⟨i + 1,⟨by omega,fun j hj => ?_⟩,by omega,wrap_i64' (by omega) (by omega)⟩⟩⟩⟩,fun hge => sameT_yes ?_⟩⟩⟩
  · have e2:stN (l.getD i default) = stN (m.getD i default) := by
      rw [← gmap (by omega),← gmap (by omega),e]
    rw [e2,sameT_iff.2 rfl] at hn; cases hn
  · by_cases q:j = i
    · rw [q]; exact sameT_iff.1 hs
    · exact hi j (by omega)
  · refine eq_getD (stN default) (by simp; omega) fun j hj => ?_
    have hj:j < l.length := by simpa using hj
    rw [gmap hj,gmap (by omega)]
    exact hi j (by omega)
noncomputable def conEes (l m:List Sm):Con := fun k ds S => match k with
  | 39 => some (pE (β := Sm × Sm) ds S (fun x => .bool (sameT (stM x.1) (stM x.2))) (fun x => wkL ds [.agg x.1.row1,.agg x.2.row1]∧x.1 ∈ l∧x.2 ∈ m))
  | _ => none
noncomputable def EEes (l m:List Sm):Senv := { EC (conEes l m) 32 3 [6,7,8,9,14,15,16,17,18,30] (fun _ => ([],[])) with
  ann := fun q _ S => match q with
    | 0 => some { slots := [17],keep := [0,1,2,15,16],α := Nat,st := fun i => ([.int .i64 i],S),inv := fun i => i ≤ l.length∧∀ j,j < i→stM (l.getD j default) = stM (m.getD j default),mu := fun i => l.length - i }
    | _ => none }
noncomputable section
def yd1q28 (p0 p1:List Sm):Prop := True∧∃ (y:Unit),True∧false = sameT (List.map stM p0) (List.map stM p1)∧True∧True
def yd1q29:Arr := DA
def yd1q30:Nd := Nd.mk Z0 Z0 Z0 [] Z0 Z0 yd1q29 [] [] Z0 Z0 Z0
def yd1q31:Sm := Sm.mk Z0 Z0 [] Z0 yd1q30 yd1q30
def yd1q32 (p0:List Sm) (p1:Nat):Sm := List.getD p0 p1 yd1q31
def yd1q33 (p0:List Sm) (p1:Nat):Sm := stM (yd1q32 p0 p1)
def yd1q34 (p0:Nat) (p1 p2:List Sm):Prop := p0 ≤ LN p1∧∀ (j:Nat),j < p0→yd1q33 p1 j = yd1q33 p2 j
def yd1q35 (p0:List Sm) (p1:Nat):Sm := List.getD p0 (Int.toNat (↑p1:Int)) yd1q31
def yd1q36 (p0:List Sm) (p1:Nat):Nd := Sm.te (yd1q35 p0 p1)
def yd1q37 (p0:List Sm) (p1:Nat):Arr := Nd.va (yd1q36 p0 p1)
def yd1q38 (p0:List Sm) (p1:Nat):List Int := Arr.sh (yd1q37 p0 p1)
def yd1q39 (p0:List Sm) (p1:Nat):List Int := Arr.nu (yd1q37 p0 p1)
def yd1q40 (p0:List Sm) (p1:Nat):List Arr := Arr.it (yd1q37 p0 p1)
def yd1q41 (p0:List Sm) (p1:Nat):List Nd := Nd.ki (yd1q36 p0 p1)
def yd1q42 (p0:List Sm) (p1:Nat):List Sm := Nd.bo (yd1q36 p0 p1)
def yd1q43 (p0:List Sm) (p1:Nat):Nd := Sm.nd (yd1q35 p0 p1)
def yd1q44 (p0:List Sm) (p1:Nat):Arr := Nd.va (yd1q43 p0 p1)
def yd1q45 (p0:List Sm) (p1:Nat):List Int := Arr.sh (yd1q44 p0 p1)
def yd1q46 (p0:List Sm) (p1:Nat):List Int := Arr.nu (yd1q44 p0 p1)
def yd1q47 (p0:List Sm) (p1:Nat):List Arr := Arr.it (yd1q44 p0 p1)
def yd1q48 (p0:List Sm) (p1:Nat):List Nd := Nd.ki (yd1q43 p0 p1)
def yd1q49 (p0:List Sm) (p1:Nat):List Sm := Nd.bo (yd1q43 p0 p1)
def yd1q50 (p0:List Sm) (p1:Nat):D := D.agg [ZI (Sm.kd (yd1q35 p0 p1)),ZI (Sm.at_ (yd1q35 p0 p1)),D.str (Sm.nm (yd1q35 p0 p1)),ZI (Sm.sl (yd1q35 p0 p1)),ZI (Nd.kd (yd1q36 p0 p1)),ZI (Nd.at_ (yd1q36 p0 p1)),ZI (Nd.cl (yd1q36 p0 p1)),D.str (Nd.tx (yd1q36 p0 p1)),ZI (Nd.pr (yd1q36 p0 p1)),ZI (Nd.op (yd1q36 p0 p1)),ZI (Arr.k (yd1q37 p0 p1)),SI (yd1q38 p0 p1),SI (yd1q39 p0 p1),D.sl N4 (LN (yd1q40 p0 p1)) (fun (i:Nat) => Arr.row (List.getD (yd1q40 p0 p1) i yd1q29)) Mode.any,D.sl (15:Nat) (LN (yd1q41 p0 p1)) (fun (i:Nat) => Nd.row (List.getD (yd1q41 p0 p1) i yd1q30)) Mode.any,D.sl (34:Nat) (LN (yd1q42 p0 p1)) (fun (i:Nat) => Sm.row (List.getD (yd1q42 p0 p1) i yd1q31)) Mode.any,ZI (Nd.de (yd1q36 p0 p1)),ZI (Nd.sl (yd1q36 p0 p1)),ZI (Nd.ss (yd1q36 p0 p1)),ZI (Nd.kd (yd1q43 p0 p1)),ZI (Nd.at_ (yd1q43 p0 p1)),ZI (Nd.cl (yd1q43 p0 p1)),D.str (Nd.tx (yd1q43 p0 p1)),ZI (Nd.pr (yd1q43 p0 p1)),ZI (Nd.op (yd1q43 p0 p1)),ZI (Arr.k (yd1q44 p0 p1)),SI (yd1q45 p0 p1),SI (yd1q46 p0 p1),D.sl N4 (LN (yd1q47 p0 p1)) (fun (i:Nat) => Arr.row (List.getD (yd1q47 p0 p1) i yd1q29)) Mode.any,D.sl (15:Nat) (LN (yd1q48 p0 p1)) (fun (i:Nat) => Nd.row (List.getD (yd1q48 p0 p1) i yd1q30)) Mode.any,D.sl (34:Nat) (LN (yd1q49 p0 p1)) (fun (i:Nat) => Sm.row (List.getD (yd1q49 p0 p1) i yd1q31)) Mode.any,ZI (Nd.de (yd1q43 p0 p1)),ZI (Nd.sl (yd1q43 p0 p1)),ZI (Nd.ss (yd1q43 p0 p1))]
def yd1q51 (p0:Sm):Nd := Sm.te p0
def yd1q52 (p0:Sm):Arr := Nd.va (yd1q51 p0)
def yd1q53 (p0:Sm):List Int := Arr.sh (yd1q52 p0)
def yd1q54 (p0:Sm):List Int := Arr.nu (yd1q52 p0)
def yd1q55 (p0:Sm):List Arr := Arr.it (yd1q52 p0)
def yd1q56 (p0:Sm):List Nd := Nd.ki (yd1q51 p0)
def yd1q57 (p0:Sm):List Sm := Nd.bo (yd1q51 p0)
def yd1q58 (p0:Sm):Nd := Sm.nd p0
def yd1q59 (p0:Sm):Arr := Nd.va (yd1q58 p0)
def yd1q60 (p0:Sm):List Int := Arr.sh (yd1q59 p0)
def yd1q61 (p0:Sm):List Int := Arr.nu (yd1q59 p0)
def yd1q62 (p0:Sm):List Arr := Arr.it (yd1q59 p0)
def yd1q63 (p0:Sm):List Nd := Nd.ki (yd1q58 p0)
def yd1q64 (p0:Sm):List Sm := Nd.bo (yd1q58 p0)
def yd1q65 (p0:Sm):D := D.agg [ZI (Sm.kd p0),ZI (Sm.at_ p0),D.str (Sm.nm p0),ZI (Sm.sl p0),ZI (Nd.kd (yd1q51 p0)),ZI (Nd.at_ (yd1q51 p0)),ZI (Nd.cl (yd1q51 p0)),D.str (Nd.tx (yd1q51 p0)),ZI (Nd.pr (yd1q51 p0)),ZI (Nd.op (yd1q51 p0)),ZI (Arr.k (yd1q52 p0)),SI (yd1q53 p0),SI (yd1q54 p0),D.sl N4 (LN (yd1q55 p0)) (fun (i:Nat) => Arr.row (List.getD (yd1q55 p0) i yd1q29)) Mode.any,D.sl (15:Nat) (LN (yd1q56 p0)) (fun (i:Nat) => Nd.row (List.getD (yd1q56 p0) i yd1q30)) Mode.any,D.sl (34:Nat) (LN (yd1q57 p0)) (fun (i:Nat) => Sm.row (List.getD (yd1q57 p0) i yd1q31)) Mode.any,ZI (Nd.de (yd1q51 p0)),ZI (Nd.sl (yd1q51 p0)),ZI (Nd.ss (yd1q51 p0)),ZI (Nd.kd (yd1q58 p0)),ZI (Nd.at_ (yd1q58 p0)),ZI (Nd.cl (yd1q58 p0)),D.str (Nd.tx (yd1q58 p0)),ZI (Nd.pr (yd1q58 p0)),ZI (Nd.op (yd1q58 p0)),ZI (Arr.k (yd1q59 p0)),SI (yd1q60 p0),SI (yd1q61 p0),D.sl N4 (LN (yd1q62 p0)) (fun (i:Nat) => Arr.row (List.getD (yd1q62 p0) i yd1q29)) Mode.any,D.sl (15:Nat) (LN (yd1q63 p0)) (fun (i:Nat) => Nd.row (List.getD (yd1q63 p0) i yd1q30)) Mode.any,D.sl (34:Nat) (LN (yd1q64 p0)) (fun (i:Nat) => Sm.row (List.getD (yd1q64 p0) i yd1q31)) Mode.any,ZI (Nd.de (yd1q58 p0)),ZI (Nd.sl (yd1q58 p0)),ZI (Nd.ss (yd1q58 p0))]
def yd1q66 (p0:List Sm) (p1:Nat):Nd := Sm.te (yd1q32 p0 p1)
def yd1q67 (p0:List Sm) (p1:Nat):Arr := Nd.va (yd1q66 p0 p1)
def yd1q68 (p0:List Sm) (p1:Nat):List Int := Arr.sh (yd1q67 p0 p1)
def yd1q69 (p0:List Sm) (p1:Nat):List Int := Arr.nu (yd1q67 p0 p1)
def yd1q70 (p0:List Sm) (p1:Nat):List Arr := Arr.it (yd1q67 p0 p1)
def yd1q71 (p0:List Sm) (p1:Nat):List Nd := Nd.ki (yd1q66 p0 p1)
def yd1q72 (p0:List Sm) (p1:Nat):List Sm := Nd.bo (yd1q66 p0 p1)
def yd1q73 (p0:List Sm) (p1:Nat):Nd := Sm.nd (yd1q32 p0 p1)
def yd1q74 (p0:List Sm) (p1:Nat):Arr := Nd.va (yd1q73 p0 p1)
def yd1q75 (p0:List Sm) (p1:Nat):List Int := Arr.sh (yd1q74 p0 p1)
def yd1q76 (p0:List Sm) (p1:Nat):List Int := Arr.nu (yd1q74 p0 p1)
def yd1q77 (p0:List Sm) (p1:Nat):List Arr := Arr.it (yd1q74 p0 p1)
def yd1q78 (p0:List Sm) (p1:Nat):List Nd := Nd.ki (yd1q73 p0 p1)
def yd1q79 (p0:List Sm) (p1:Nat):List Sm := Nd.bo (yd1q73 p0 p1)
def yd1q80 (p0:List Sm):D := D.sl (34:Nat) (LN p0) (fun (i:Nat) => [ZI (Sm.kd (yd1q32 p0 i)),ZI (Sm.at_ (yd1q32 p0 i)),D.str (Sm.nm (yd1q32 p0 i)),ZI (Sm.sl (yd1q32 p0 i)),ZI (Nd.kd (yd1q66 p0 i)),ZI (Nd.at_ (yd1q66 p0 i)),ZI (Nd.cl (yd1q66 p0 i)),D.str (Nd.tx (yd1q66 p0 i)),ZI (Nd.pr (yd1q66 p0 i)),ZI (Nd.op (yd1q66 p0 i)),ZI (Arr.k (yd1q67 p0 i)),SI (yd1q68 p0 i),SI (yd1q69 p0 i),D.sl N4 (LN (yd1q70 p0 i)) (fun (i_1:Nat) => Arr.row (List.getD (yd1q70 p0 i) i_1 yd1q29)) Mode.any,D.sl (15:Nat) (LN (yd1q71 p0 i)) (fun (i_1:Nat) => Nd.row (List.getD (yd1q71 p0 i) i_1 yd1q30)) Mode.any,D.sl (34:Nat) (LN (yd1q72 p0 i)) (fun (i_1:Nat) => Sm.row (List.getD (yd1q72 p0 i) i_1 yd1q31)) Mode.any,ZI (Nd.de (yd1q66 p0 i)),ZI (Nd.sl (yd1q66 p0 i)),ZI (Nd.ss (yd1q66 p0 i)),ZI (Nd.kd (yd1q73 p0 i)),ZI (Nd.at_ (yd1q73 p0 i)),ZI (Nd.cl (yd1q73 p0 i)),D.str (Nd.tx (yd1q73 p0 i)),ZI (Nd.pr (yd1q73 p0 i)),ZI (Nd.op (yd1q73 p0 i)),ZI (Arr.k (yd1q74 p0 i)),SI (yd1q75 p0 i),SI (yd1q76 p0 i),D.sl N4 (LN (yd1q77 p0 i)) (fun (i_1:Nat) => Arr.row (List.getD (yd1q77 p0 i) i_1 yd1q29)) Mode.any,D.sl (15:Nat) (LN (yd1q78 p0 i)) (fun (i_1:Nat) => Nd.row (List.getD (yd1q78 p0 i) i_1 yd1q30)) Mode.any,D.sl (34:Nat) (LN (yd1q79 p0 i)) (fun (i_1:Nat) => Sm.row (List.getD (yd1q79 p0 i) i_1 yd1q31)) Mode.any,ZI (Nd.de (yd1q73 p0 i)),ZI (Nd.sl (yd1q73 p0 i)),ZI (Nd.ss (yd1q73 p0 i))]) Mode.any
def yd1q81 (p0:List Sm):Prop := SM (yd1q80 p0)
end
theorem Ees_ok (l m : List Sm) (hl : l.length ≤ maxLen) (hm : m.length ≤ maxLen) (h : ∀ x ∈ l, ∀ y ∈ m, CD 39 [.agg x.row1, .agg y.row1] (.bool (sameT (stM x) (stM y)))) :
    CD 38 [gsl 34 Sm.row1 l,gsl 34 Sm.row1 m,.fn (.func 39) [] []] (.bool (sameT (l.map stM) (m.map stM))) := by
  refine con_of (A := sC _ _) (x := ()) (E := EEes l m) (eOk ?_ rfl) Tryz.func38 rfl (by kernel_rfl) rfl (by simp [sC,EEes,EC,E0]) ?_
  · intro k ds S A hh
    unfold conEes at hh
    split at hh
    · injection hh with hh; subst hh
      exact pS_ok fun x ⟨e,h1,h2⟩ => CD.at_ (CD.wk (h _ h1 _ h2) e) _
    · cases hh
  refine vc_eq (T :=
    ifB ((LI l) != (LI m)) (yd1q28 l m) ((∃ (x:Nat),yd1q34 x l m∧(Z0 = (↑x:Int)∧True)∧True∧True)∧∀ (x:Nat),yd1q34 x l m→ifB (decide ((↑x:Int) < (LI l))) (side (Z0 ≤ (↑x:Int)∧(↑x:Int) < (LI l)) (∀ (x_1:Nat),True→SM x_1∧side (Z0 ≤ (↑x:Int)∧(↑x:Int) < (LI m)) (∀ (x_2:Nat),x_1 ≠ x_2∧True→SM x_2∧SM x_1∧SM x_2∧∃ (x_3:Sm × Sm),(wkL [yd1q50 l x,yd1q50 m x] [yd1q65 x_3.1,yd1q65 x_3.2]∧x_3.1 ∈ l∧x_3.2 ∈ m)∧∀ (y:Unit),True→ifB (!sameT (stM x_3.1) (stM x_3.2)) (yd1q28 l m) ((yd1q81 l∧yd1q81 m∧SM (D.fn (Fn.func (39:Nat)) [] [])∧yd1q81 l∧SM (ZI (LI l))∧True)∧∃ (y:Nat),yd1q34 y l m∧LN l - y < LN l - x∧(IntKind.wrap IntKind.i64 ((↑x:Int) + Z1) = (↑y:Int)∧True)∧True∧True)))) (True∧∃ (y:Unit),True∧true = sameT (List.map stM l) (List.map stM m)∧True∧True))) (by kernel_rfl) ?_
  delta DA GI LI LN N1 N4 SI SM Z0 Z1 ZI yd1q28 yd1q29 yd1q30 yd1q31 yd1q32 yd1q33 yd1q34 yd1q35 yd1q36 yd1q37 yd1q38 yd1q39 yd1q40 yd1q41 yd1q42 yd1q43 yd1q44 yd1q45 yd1q46 yd1q47 yd1q48 yd1q49 yd1q50 yd1q51 yd1q52 yd1q53 yd1q54 yd1q55 yd1q56 yd1q57 yd1q58 yd1q59 yd1q60 yd1q61 yd1q62 yd1q63 yd1q64 yd1q65 yd1q66 yd1q67 yd1q68 yd1q69 yd1q70 yd1q71 yd1q72 yd1q73 yd1q74 yd1q75 yd1q76 yd1q77 yd1q78 yd1q79 yd1q80 yd1q81
  have dn:(default:Nd) = Nd.mk 0 0 0 [] 0 0 (Arr.mk 0 [] [] []) [] [] 0 0 0 := rfl
  have dm:(default:Sm) = Sm.mk 0 0 [] 0 (Nd.mk 0 0 0 [] 0 0 (Arr.mk 0 [] [] []) [] [] 0 0 0) (Nd.mk 0 0 0 [] 0 0 (Arr.mk 0 [] [] []) [] [] 0 0 0) := rfl
  try simp only [← dm]
  try simp only [← dn]
  simp only [eq_self,ne_eq,implies_true,weakL_refl,Int.toNat_natCast,ifB_iff,side_iff,decide_eq_true_eq,decide_eq_false_iff_not,true_and,and_true,beq_iff_eq,bne_iff_ne,bne_eq_false_iff_eq,beq_eq_false_iff_ne,Bool.not_eq_true',Bool.not_eq_false',exists_const,forall_const,Prod.exists]
  simp only [maxLen] at hl hm
  have gm:∀ {i:Nat},i < l.length→i < m.length→l.getD i default ∈ l∧m.getD i default ∈ m := fun h1 h2 => ⟨by rw [List.getD_eq_getElem?_getD,List.getElem?_eq_getElem h1]; exact List.getElem_mem h1,by rw [List.getD_eq_getElem?_getD,List.getElem?_eq_getElem h2]; exact List.getElem_mem h2⟩
  have gmap:∀ {l:List Sm} {i:Nat},i < l.length→(l.map stM).getD i (stM default) = stM (l.getD i default) := fun h => by simp [List.getD_eq_getElem?_getD,h]
  refine ⟨fun h => sameT_no fun e => h (by have := congrArg List.length e; simp only [List.length_map] at this; omega),fun he => ⟨⟨0,⟨Nat.zero_le _,fun j hj => absurd hj (by omega)⟩,rfl⟩,fun i ⟨i1,hi⟩ => ⟨fun hlt => ⟨⟨by omega,hlt⟩,fun _ => ⟨⟨by omega,by omega⟩,fun _ _ => ⟨l.getD i default,m.getD i default,⟨wkL_refl _,gm (by omega) (by omega)⟩,fun hn => sameT_no fun e => ?_,fun hs => ⟨i + 1,⟨by omega,fun j hj => ?_⟩,by omega,wrap_i64' (by omega) (by omega)⟩⟩⟩⟩,fun hge => sameT_yes ?_⟩⟩⟩
  · have e2:stM (l.getD i default) = stM (m.getD i default) := by
      rw [← gmap (by omega),← gmap (by omega),e]
    rw [e2,sameT_iff.2 rfl] at hn; cases hn
  · by_cases q:j = i
    · rw [q]; exact sameT_iff.1 hs
    · exact hi j (by omega)
  · refine eq_getD (stM default) (by simp; omega) fun j hj => ?_
    have hj:j < l.length := by simpa using hj
    rw [gmap hj,gmap (by omega)]
    exact hi j (by omega)
def RSame (a b:Nd):Prop := CD 18 [.agg a.row2,.agg b.row2] (.bool (sameT (stN a) (stN b)))
theorem two_wk {a b:Nd}:wkL [.agg a.row1,.agg b.row1] [.agg a.row2,.agg b.row2] := by
  simp only [wkL,wkD]
  exact ⟨nd1_wk a,nd1_wk b,trivial⟩
noncomputable def conSt:Con := fun k ds S => match k with
  | 18 => some (pE (β := Nd × Nd) ds S (fun x => .bool (sameT (stN x.1) (stN x.2))) (fun x => wkL ds [.agg x.1.row1,.agg x.2.row1]∧RSame x.1 x.2))
  | _ => none
theorem conSt_ok:ConOk Tryz.prog conSt := by
  intro k ds S A hh
  unfold conSt at hh
  split at hh
  · injection hh with hh; subst hh
    exact pS_ok fun x ⟨e,h1⟩ => CD.at_ (CD.wk (CD.wk h1 two_wk) e) _
  · cases hh
noncomputable def Est:Senv := { EC conSt 31 5 [] (fun _ => ([],[])) with mg := fun _ => 2 }
noncomputable section
def yd1q82 (p0:Sm):Nd := Sm.te p0
def yd1q83 (p0:Sm):Arr := Nd.va (yd1q82 p0)
def yd1q84 (p0:Sm):List Int := Arr.sh (yd1q83 p0)
def yd1q85 (p0:Sm):List Int := Arr.nu (yd1q83 p0)
def yd1q86 (p0:Sm):List Arr := Arr.it (yd1q83 p0)
def yd1q87:Arr := DA
def yd1q88 (p0:Sm):List Nd := Nd.ki (yd1q82 p0)
def yd1q89:Nd := Nd.mk Z0 Z0 Z0 [] Z0 Z0 yd1q87 [] [] Z0 Z0 Z0
def yd1q90 (p0:Sm):List Sm := Nd.bo (yd1q82 p0)
def yd1q91:Sm := Sm.mk Z0 Z0 [] Z0 yd1q89 yd1q89
def yd1q92 (p0:Sm):D := D.agg [ZI (Nd.kd (yd1q82 p0)),ZI (Nd.at_ (yd1q82 p0)),ZI (Nd.cl (yd1q82 p0)),D.str (Nd.tx (yd1q82 p0)),ZI (Nd.pr (yd1q82 p0)),ZI (Nd.op (yd1q82 p0)),ZI (Arr.k (yd1q83 p0)),SI (yd1q84 p0),SI (yd1q85 p0),D.sl N4 (LN (yd1q86 p0)) (fun (i:Nat) => Arr.row (List.getD (yd1q86 p0) i yd1q87)) Mode.any,D.sl (15:Nat) (LN (yd1q88 p0)) (fun (i:Nat) => Nd.row (List.getD (yd1q88 p0) i yd1q89)) Mode.any,D.sl (34:Nat) (LN (yd1q90 p0)) (fun (i:Nat) => Sm.row (List.getD (yd1q90 p0) i yd1q91)) Mode.any,ZI (Nd.de (yd1q82 p0)),ZI (Nd.sl (yd1q82 p0)),ZI (Nd.ss (yd1q82 p0))]
def yd1q93 (p0:Nd):Arr := Nd.va p0
def yd1q94 (p0:Nd):List Int := Arr.sh (yd1q93 p0)
def yd1q95 (p0:Nd):List Int := Arr.nu (yd1q93 p0)
def yd1q96 (p0:Nd):List Arr := Arr.it (yd1q93 p0)
def yd1q97 (p0:Nd):D := D.agg [ZI (Nd.kd p0),ZI (Nd.at_ p0),ZI (Nd.cl p0),D.str (Nd.tx p0),ZI (Nd.pr p0),ZI (Nd.op p0),ZI (Arr.k (yd1q93 p0)),SI (yd1q94 p0),SI (yd1q95 p0),D.sl N4 (LN (yd1q96 p0)) (fun (i:Nat) => Arr.row (List.getD (yd1q96 p0) i yd1q87)) Mode.any,D.sl (15:Nat) (LN (Nd.ki p0)) (fun (i:Nat) => Nd.row (List.getD (Nd.ki p0) i yd1q89)) Mode.any,D.sl (34:Nat) (LN (Nd.bo p0)) (fun (i:Nat) => Sm.row (List.getD (Nd.bo p0) i yd1q91)) Mode.any,ZI (Nd.de p0),ZI (Nd.sl p0),ZI (Nd.ss p0)]
def yd1q98 (p0 p1:Nd):List D := [yd1q97 p0,yd1q97 p1]
def yd1q99 (p0 p1:Nd):Bool := sameT (stN p0) (stN p1)
def yd1q100 (p0:Sm):Nd := Sm.nd p0
def yd1q101 (p0:Sm):Arr := Nd.va (yd1q100 p0)
def yd1q102 (p0:Sm):List Int := Arr.sh (yd1q101 p0)
def yd1q103 (p0:Sm):List Int := Arr.nu (yd1q101 p0)
def yd1q104 (p0:Sm):List Arr := Arr.it (yd1q101 p0)
def yd1q105 (p0:Sm):List Nd := Nd.ki (yd1q100 p0)
def yd1q106 (p0:Sm):List Sm := Nd.bo (yd1q100 p0)
def yd1q107 (p0:Sm):D := D.agg [ZI (Nd.kd (yd1q100 p0)),ZI (Nd.at_ (yd1q100 p0)),ZI (Nd.cl (yd1q100 p0)),D.str (Nd.tx (yd1q100 p0)),ZI (Nd.pr (yd1q100 p0)),ZI (Nd.op (yd1q100 p0)),ZI (Arr.k (yd1q101 p0)),SI (yd1q102 p0),SI (yd1q103 p0),D.sl N4 (LN (yd1q104 p0)) (fun (i:Nat) => Arr.row (List.getD (yd1q104 p0) i yd1q87)) Mode.any,D.sl (15:Nat) (LN (yd1q105 p0)) (fun (i:Nat) => Nd.row (List.getD (yd1q105 p0) i yd1q89)) Mode.any,D.sl (34:Nat) (LN (yd1q106 p0)) (fun (i:Nat) => Sm.row (List.getD (yd1q106 p0) i yd1q91)) Mode.any,ZI (Nd.de (yd1q100 p0)),ZI (Nd.sl (yd1q100 p0)),ZI (Nd.ss (yd1q100 p0))]
def yd1q108 (p0 p1:Sm):Bool := sameT (stM p0) (stM p1)
def yd1q109 (p0 p1:Sm):Prop := True∧∃ (y:Unit),True∧false = yd1q108 p0 p1∧True∧True
end
theorem st_step (x y:Sm) (h1:RSame x.te y.te) (h2:RSame x.nd y.nd):CD 39 [.agg x.row1,.agg y.row1] (.bool (sameT (stM x) (stM y))) := by
  refine con_of (A := sC _ _) (x := ()) (E := Est) (eOk conSt_ok rfl) Tryz.func39 rfl (by kernel_rfl) rfl (by simp [sC,Est,EC,E0]) ?_
  refine vc_eq (T :=
    ∀ (x_1:Nat),True→∀ (x_2:Nat),x_1 ≠ x_2∧True→SM x_1∧SM x_2∧ifB (Sm.kd x == Sm.kd y) (SM x_1∧SM x_2∧ifB (Sm.nm x == Sm.nm y) (SM x_1∧SM x_2∧∃ (x_3:Nd × Nd),(wkL [yd1q92 x,yd1q92 y] (yd1q98 x_3.1 x_3.2)∧RSame x_3.1 x_3.2)∧∀ (y_1:Unit),True→ifB (yd1q99 x_3.1 x_3.2) (SM x_1∧SM x_2∧∃ (x_4:Nd × Nd),(wkL [yd1q107 x,yd1q107 y] (yd1q98 x_4.1 x_4.2)∧RSame x_4.1 x_4.2)∧∀ (y_2:Unit),True→True∧∃ (y_3:Unit),True∧yd1q99 x_4.1 x_4.2 = yd1q108 x y∧True∧True) (yd1q109 x y)) (yd1q109 x y)) (yd1q109 x y)) (by kernel_rfl) ?_
  delta DA GI LN N1 N4 SI SM Z0 ZI yd1q100 yd1q101 yd1q102 yd1q103 yd1q104 yd1q105 yd1q106 yd1q107 yd1q108 yd1q109 yd1q82 yd1q83 yd1q84 yd1q85 yd1q86 yd1q87 yd1q88 yd1q89 yd1q90 yd1q91 yd1q92 yd1q93 yd1q94 yd1q95 yd1q96 yd1q97 yd1q98 yd1q99
  have dn:(default:Nd) = Nd.mk 0 0 0 [] 0 0 (Arr.mk 0 [] [] []) [] [] 0 0 0 := rfl
  have dm:(default:Sm) = Sm.mk 0 0 [] 0 (Nd.mk 0 0 0 [] 0 0 (Arr.mk 0 [] [] []) [] [] 0 0 0) (Nd.mk 0 0 0 [] 0 0 (Arr.mk 0 [] [] []) [] [] 0 0 0) := rfl
  try simp only [← dm]
  try simp only [← dn]
  simp only [eq_self,ne_eq,implies_true,weakL_refl,Int.toNat_natCast,ifB_iff,side_iff,decide_eq_true_eq,decide_eq_false_iff_not,true_and,and_true,beq_iff_eq,bne_iff_ne,bne_eq_false_iff_eq,beq_eq_false_iff_ne,Bool.not_eq_true',Bool.not_eq_false',exists_const,forall_const,Prod.exists]
  have iff := stM_iff x y
  have no:∀ {α:Type} {x y:α},sameT x y = false→x ≠ y := fun h e => by rw [sameT_iff.2 e] at h; cases h
  refine fun u v _ => ⟨fun a1 => ⟨fun a2 => ⟨x.te,y.te,⟨wkL_refl _,h1⟩,fun a3 => ⟨x.nd,y.nd,⟨wkL_refl _,h2⟩,?_⟩,fun a3 => sameT_no fun e => no a3 (iff.1 e).2.2.1⟩,fun a2 => sameT_no fun e => a2 (iff.1 e).2.1⟩,fun a1 => sameT_no fun e => a1 (iff.1 e).1⟩
  exact sameT_congr ⟨fun e => iff.2 ⟨a1,a2,sameT_iff.1 a3,e⟩,fun e => (iff.1 e).2.2.2⟩
noncomputable def conSa (a b:Nd):Con := fun k ds S => match k with
  | 40 => some (pA ds S (.bool (sameT a.va b.va)) (wkL ds [.agg a.va.row1,.agg b.va.row1]))
  | 41 => some (pA ds S (.bool (sameT (a.ki.map stN) (b.ki.map stN))) (wkL ds [gsl 15 Nd.row1 a.ki,gsl 15 Nd.row1 b.ki,.fn (.func 18) [] []]))
  | 38 => some (pA ds S (.bool (sameT (a.bo.map stM) (b.bo.map stM))) (wkL ds [gsl 34 Sm.row1 a.bo,gsl 34 Sm.row1 b.bo,.fn (.func 39) [] []]))
  | _ => none
noncomputable def Esa (a b:Nd):Senv := { EC (conSa a b) 59 5 [] (fun _ => ([],[])) with mg := fun _ => 2 }
noncomputable section
def yd1q110 (p0:Nd):Arr := Nd.va p0
def yd1q111 (p0:Nd):List Int := Arr.sh (yd1q110 p0)
def yd1q112 (p0:Nd):List Int := Arr.nu (yd1q110 p0)
def yd1q113 (p0:Nd):List Arr := Arr.it (yd1q110 p0)
def yd1q114:Arr := DA
def yd1q115 (p0:Nd):D := D.agg [ZI (Arr.k (yd1q110 p0)),SI (yd1q111 p0),SI (yd1q112 p0),D.sl N4 (LN (yd1q113 p0)) (fun (i:Nat) => Arr.row (List.getD (yd1q113 p0) i yd1q114)) Mode.any]
def yd1q116 (p0 p1:Nd):List D := [yd1q115 p0,yd1q115 p1]
def yd1q117 (p0:Nd):List Nd := Nd.ki p0
def yd1q118:Nd := Nd.mk Z0 Z0 Z0 [] Z0 Z0 yd1q114 [] [] Z0 Z0 Z0
def yd1q119 (p0:Nd):D := D.sl (15:Nat) (LN (yd1q117 p0)) (fun (i:Nat) => Nd.row1 (List.getD (yd1q117 p0) i yd1q118)) Mode.any
def yd1q120 (p0 p1:Nd):List D := [yd1q119 p0,yd1q119 p1,D.fn (Fn.func (18:Nat)) [] []]
def yd1q121 (p0:Nd):List Sm := Nd.bo p0
def yd1q122 (p0:Nd):D := D.sl (34:Nat) (LN (yd1q121 p0)) (fun (i:Nat) => Sm.row1 (List.getD (yd1q121 p0) i (Sm.mk Z0 Z0 [] Z0 yd1q118 yd1q118))) Mode.any
def yd1q123 (p0 p1:Nd):List D := [yd1q122 p0,yd1q122 p1,D.fn (Fn.func (39:Nat)) [] []]
def yd1q124 (p0 p1:Nd):Bool := sameT (stN p0) (stN p1)
def yd1q125 (p0 p1:Nd):Prop := True∧∃ (y:Unit),True∧false = yd1q124 p0 p1∧True∧True
end
theorem sa_step (a b:Nd) (ha:a.sm∧a.va.ok) (hb:b.sm∧b.va.ok) (h1:∀ x ∈ a.ki,∀ y ∈ b.ki,RSame x y) (h2:∀ x ∈ a.bo,∀ y ∈ b.bo,RSame x.te y.te∧RSame x.nd y.nd):RSame a b := by
  refine con_of (A := sC _ _) (x := ()) (E := Esa a b) (eOk ?_ rfl) Tryz.func18 rfl (by kernel_rfl) rfl (by simp [sC,Esa,EC,E0]) ?_
  · intro k ds S A hh
    unfold conSa at hh
    have a1 := sm_len ha.1
    have b1 := sm_len hb.1
    split at hh
    · injection hh with hh; subst hh
      exact pA_ok fun e => CD.at_ (CD.wk (as_row (as_all a.va b.va ha.2 hb.2)) e) _
    · injection hh with hh; subst hh
      exact pA_ok fun e => CD.at_ (CD.wk (Een_ok a.ki b.ki (maxB_le a1.2.1) (maxB_le b1.2.1) fun x hx y hy => CD.wk (h1 x hx y hy) two_wk) e) _
    · injection hh with hh; subst hh
      exact pA_ok fun e => CD.at_ (CD.wk (Ees_ok a.bo b.bo (maxB_le a1.2.2) (maxB_le b1.2.2) fun x hx y hy => st_step x y (h2 x hx y hy).1 (h2 x hx y hy).2) e) _
    · cases hh
  refine vc_eq (T :=
    ∀ (x:Nat),True→∀ (x_1:Nat),x ≠ x_1∧True→SM x∧SM x_1∧ifB (Nd.kd a == Nd.kd b) (SM x∧SM x_1∧ifB (Nd.cl a == Nd.cl b) (SM x∧SM x_1∧ifB (Nd.tx a == Nd.tx b) (SM x∧SM x_1∧ifB (Nd.pr a == Nd.pr b) (SM x∧SM x_1∧ifB (Nd.op a == Nd.op b) (SM x∧SM x_1∧∃ (x_2:Unit),wkL (yd1q116 a b) (yd1q116 a b)∧∀ (y:Unit),True→ifB (sameT (yd1q110 a) (yd1q110 b)) (SM x∧SM x_1∧∃ (x_3:Unit),wkL (yd1q120 a b) (yd1q120 a b)∧∀ (y:Unit),True→ifB (sameT (List.map stN (yd1q117 a)) (List.map stN (yd1q117 b))) (SM x∧SM x_1∧∃ (x:Unit),wkL (yd1q123 a b) (yd1q123 a b)∧∀ (y:Unit),True→True∧∃ (y:Unit),True∧sameT (List.map stM (yd1q121 a)) (List.map stM (yd1q121 b)) = yd1q124 a b∧True∧True) (yd1q125 a b)) (yd1q125 a b)) (yd1q125 a b)) (yd1q125 a b)) (yd1q125 a b)) (yd1q125 a b)) (yd1q125 a b)) (by kernel_rfl) ?_
  delta DA GI LN N1 N4 SI SM Z0 ZI yd1q110 yd1q111 yd1q112 yd1q113 yd1q114 yd1q115 yd1q116 yd1q117 yd1q118 yd1q119 yd1q120 yd1q121 yd1q122 yd1q123 yd1q124 yd1q125
  have dn:(default:Nd) = Nd.mk 0 0 0 [] 0 0 (Arr.mk 0 [] [] []) [] [] 0 0 0 := rfl
  have dm:(default:Sm) = Sm.mk 0 0 [] 0 (Nd.mk 0 0 0 [] 0 0 (Arr.mk 0 [] [] []) [] [] 0 0 0) (Nd.mk 0 0 0 [] 0 0 (Arr.mk 0 [] [] []) [] [] 0 0 0) := rfl
  try simp only [← dm]
  try simp only [← dn]
  simp only [eq_self,ne_eq,implies_true,weakL_refl,Int.toNat_natCast,ifB_iff,side_iff,decide_eq_true_eq,decide_eq_false_iff_not,true_and,and_true,beq_iff_eq,bne_iff_ne,bne_eq_false_iff_eq,beq_eq_false_iff_ne,Bool.not_eq_true',Bool.not_eq_false',exists_const,forall_const,Prod.exists]
  have iff := stN_iff a b
  have no:∀ {α:Type} {x y:α},sameT x y = false→x ≠ y := fun h e => by rw [sameT_iff.2 e] at h; cases h
  refine fun u v _ => ⟨fun a1 => ⟨fun a2 => ⟨fun a3 => ⟨fun a4 => ⟨fun a5 => ⟨wkL_refl _,fun a6 => ⟨wkL_refl _,fun a7 => ⟨wkL_refl _,?_⟩,fun a7 => sameT_no fun e => no a7 (iff.1 e).2.2.2.2.2.2.1⟩,fun a6 => sameT_no fun e => no a6 (iff.1 e).2.2.2.2.2.1⟩,fun a5 => sameT_no fun e => a5 (iff.1 e).2.2.2.2.1⟩,fun a4 => sameT_no fun e => a4 (iff.1 e).2.2.2.1⟩,fun a3 => sameT_no fun e => a3 (iff.1 e).2.2.1⟩,fun a2 => sameT_no fun e => a2 (iff.1 e).2.1⟩,fun a1 => sameT_no fun e => a1 (iff.1 e).1⟩
  exact sameT_congr ⟨fun e => iff.2 ⟨a1,a2,a3,a4,a5,sameT_iff.1 a6,sameT_iff.1 a7,e⟩,fun e => (iff.1 e).2.2.2.2.2.2.2⟩
theorem sa_ok (a b:Nd) (ha:a.ok∧a.sm) (hb:b.ok∧b.sm):RSame a b :=
  sa_step a b ⟨ha.2,va_ok ha.1⟩ ⟨hb.2,va_ok hb.1⟩ (fun x hx y hy => sa_ok x y ⟨ki_ok ha.1 x hx,sm_kid ha.2 (kid_inner hx)⟩ ⟨ki_ok hb.1 y hy,sm_kid hb.2 (kid_inner hy)⟩) fun x hx y hy =>
    ⟨sa_ok x.te y.te ⟨(sm_ok2 (bo_ok' ha.1 x hx)).1,(sm_sm2 (sm_bo ha.2 x hx)).1⟩ ⟨(sm_ok2 (bo_ok' hb.1 y hy)).1,(sm_sm2 (sm_bo hb.2 y hy)).1⟩,
     sa_ok x.nd y.nd ⟨(sm_ok2 (bo_ok' ha.1 x hx)).2,(sm_sm2 (sm_bo ha.2 x hx)).2⟩ ⟨(sm_ok2 (bo_ok' hb.1 y hy)).2,(sm_sm2 (sm_bo hb.2 y hy)).2⟩⟩
termination_by SizeOf.sizeOf a
decreasing_by
  · exact Nd.size_kid hx
  · have := Nd.size_stmt hx
    have := Sm.size_te x
    omega
  · have := Nd.size_stmt hx
    have := Sm.size_nd x
    omega
def okS (l:List Sm):Prop := l.length ≤ maxB∧(∀ s ∈ l,s.ok)∧∀ s ∈ l,s.sm
theorem st_ok (x y:Sm) (hx:x.ok∧x.sm) (hy:y.ok∧y.sm):CD 39 [.agg x.row1,.agg y.row1] (.bool (sameT (stM x) (stM y))) :=
  st_step x y (sa_ok _ _ ⟨(sm_ok2 hx.1).1,(sm_sm2 hx.2).1⟩ ⟨(sm_ok2 hy.1).1,(sm_sm2 hy.2).1⟩) (sa_ok _ _ ⟨(sm_ok2 hx.1).2,(sm_sm2 hx.2).2⟩ ⟨(sm_ok2 hy.1).2,(sm_sm2 hy.2).2⟩)
noncomputable def conSp (a b:List Sm):Con := fun k ds S => match k with
  | 38 => some (pA ds S (.bool (sameT (a.map stM) (b.map stM))) (wkL ds [gsl 34 Sm.row1 a,gsl 34 Sm.row1 b,.fn (.func 39) [] []]))
  | _ => none
noncomputable def Esp (a b:List Sm):Senv := EC (conSp a b) 10 5 [] (fun _ => ([],[]))
noncomputable section
def yd1q126:Nd := Nd.mk Z0 Z0 Z0 [] Z0 Z0 DA [] [] Z0 Z0 Z0
def yd1q127 (p0:List Sm):D := D.sl (34:Nat) (LN p0) (fun (i:Nat) => Sm.row1 (List.getD p0 i (Sm.mk Z0 Z0 [] Z0 yd1q126 yd1q126))) Mode.any
def yd1q128 (p0 p1:List Sm):List D := [yd1q127 p0,yd1q127 p1,D.fn (Fn.func (39:Nat)) [] []]
end
theorem sp_ok (a b:List Sm) (ha:okS a) (hb:okS b):CD 17 [.agg [gsl 34 Sm.row1 a],.agg [gsl 34 Sm.row1 b]] (.bool (sameT (a.map stM) (b.map stM))) := by
  refine con_of (A := sC _ _) (x := ()) (E := Esp a b) (eOk ?_ rfl) Tryz.func17 rfl (by kernel_rfl) rfl (by simp [sC,Esp,EC,E0]) ?_
  · intro k ds S A hh
    try unfold conSp at hh
    try dsimp only at hh
    split at hh
    · injection hh with hh; subst hh
      exact pA_ok fun e => CD.at_ (CD.wk (Ees_ok a b (maxB_le ha.1) (maxB_le hb.1) fun x hx y hy => st_ok x y ⟨ha.2.1 x hx,ha.2.2 x hx⟩ ⟨hb.2.1 y hy,hb.2.2 y hy⟩) e) _
    · cases hh
  refine vc_eq (T :=
    ∀ (x:Nat),True→∀ (x_1:Nat),x ≠ x_1∧True→SM x∧SM x_1∧∃ (x:Unit),wkL (yd1q128 a b) (yd1q128 a b)∧∀ (y:Unit),True→True∧∃ (y:Unit),True∧SM (sameT (List.map stM a) (List.map stM b))∧True∧True) (by kernel_rfl) ?_
  delta DA LN SM Z0 yd1q126 yd1q127 yd1q128
  have dn:(default:Nd) = Nd.mk 0 0 0 [] 0 0 (Arr.mk 0 [] [] []) [] [] 0 0 0 := rfl
  have dm:(default:Sm) = Sm.mk 0 0 [] 0 (Nd.mk 0 0 0 [] 0 0 (Arr.mk 0 [] [] []) [] [] 0 0 0) (Nd.mk 0 0 0 [] 0 0 (Arr.mk 0 [] [] []) [] [] 0 0 0) := rfl
  try simp only [← dm]
  try simp only [← dn]
  simp only [eq_self,ne_eq,implies_true,weakL_refl,Int.toNat_natCast,ifB_iff,side_iff,decide_eq_true_eq,decide_eq_false_iff_not,true_and,and_true,beq_iff_eq,bne_iff_ne,bne_eq_false_iff_eq,beq_eq_false_iff_ne,Bool.not_eq_true',Bool.not_eq_false',exists_const,forall_const,Prod.exists]
  first
    | exact fun _ _ _ => wkL_refl _
    | exact fun _ _ => wkL_refl _
    | exact wkL_refl _
end Go.Proofs.YtjnifeedbgefpaaGreatDoor
namespace Go.Proofs.YtjnifeedbgefpaaGreatDoor
open Go Go.Ab Go.RowKit
set_option maxRecDepth 100000
theorem own:ownKnob Tryz.prog.godebug = none := by kernel_rfl
theorem laid:laidOutB Tryz.prog = true := by kernel_rfl
theorem gN0 : Tryz.prog.globalNamed "internal/strconv.uint64pow10" = some 1 := by kernel_rfl
theorem tN0:(Tryz.prog.globals[1]?).map (·.type) = some 162 := by kernel_rfl
theorem gN1 : Tryz.prog.globalNamed "math/bits.deBruijn64tab" = some 3 := by kernel_rfl
theorem tN1:(Tryz.prog.globals[3]?).map (·.type) = some 167 := by kernel_rfl
theorem gN2 : Tryz.prog.globalNamed "math/bits.deBruijn32tab" = some 2 := by kernel_rfl
theorem tN2:(Tryz.prog.globals[2]?).map (·.type) = some 166 := by kernel_rfl
def laidL : List (String × DataW Unit) := [("math/bits.deBruijn32tab", Rows.laid_math_bits_deBruijn32tab), ("math/bits.deBruijn64tab", Rows.laid_math_bits_deBruijn64tab), ("internal/strconv.uint64pow10", Rows.laid_internal_strconv_uint64pow10)]
theorem g0_laid {W:World} (h:laidMetH Tryz.prog laidL W):G0 W := by
  have h0:laidMet Tryz.prog laidL W := h
  have h1 := h0.tail
  have h2 := h1.tail
  exact ⟨Lib.tabIs_of_head (rest := []) gN0 tN0 Tryz.underlying162 Tryz.underlying147 (by kernel_rfl) (by kernel_rfl) h2,
    Lib.tabIs_of_head gN1 tN1 Tryz.underlying167 Tryz.underlying5 (by kernel_rfl) (by kernel_rfl) h1,
    Lib.tabIs_of_head gN2 tN2 Tryz.underlying166 Tryz.underlying5 (by kernel_rfl) (by kernel_rfl) h0⟩
noncomputable def layT (l:Array Value):Obj→Obj
  | .cells _ t frozen => .cells l t frozen
  | o => o
noncomputable def laidWorld (os:Os):World :=
  { World.holding Tryz.prog os ⟨#[],#[],[]⟩ with heap := (((World.holding Tryz.prog os ⟨#[],#[],[]⟩).heap.modify 1 (layT (Lib.pow10Tab.map fun z => Value.int .u64 z).toArray)).modify 3 (layT (Lib.deBruijn64tab.map fun z => Value.int .u8 (Int.ofNat z)).toArray)).modify 2 (layT (Lib.deBruijn32tab.map fun z => Value.int .u8 (Int.ofNat z)).toArray) }
end Go.Proofs.YtjnifeedbgefpaaGreatDoor
namespace Go.Proofs.YtjnifeedbgefpaaGreatDoor
open Go Go.Ab
set_option maxRecDepth 100000
theorem classes_len {n:Nd} {l:List Int} (h:classesB n l = true):n.ki.length = l.length := by
  unfold classesB at h
  rw [beq_iff_eq] at h
  have := congrArg List.length h
  simpa using this
theorem kind_cases {n:Nd} (h:nodeV n = true) (hk:n.kd ≠ 10):leafB n = true∨(compB n = true∧∀ x ∈ n.ki,nodeV x = true) := by
  rw [nodeV_eq,Bool.and_eq_true] at h
  have h := h.2
  rw [if_neg hk,Bool.or_eq_true,Bool.and_eq_true] at h
  rcases h with h | h
  · exact .inl h
  · exact .inr ⟨h.1,fun x hx => List.all_eq_true.1 h.2 x hx⟩
end Go.Proofs.YtjnifeedbgefpaaGreatDoor
namespace Go.Proofs.YtjnifeedbgefpaaGreatDoor
open Go Go.Ab
set_option maxRecDepth 100000
theorem stmts_mem {g:Bool}:∀ {l:List Sm} {names:List (List UInt8)},stmtsV g names l = true→∀ s ∈ l,∃ names',stmtV g names' s = true
  | [],_,_,s,hs => by simp at hs
  | x :: r,names,h,s,hs => by
    simp only [stmtsV,Bool.and_eq_true] at h
    rcases List.mem_cons.1 hs with rfl | hs
    · exact ⟨names,h.1⟩
    · exact stmts_mem h.2 s hs
theorem stmt_name {g:Bool} {names:List (List UInt8)} {s:Sm} (h:stmtV g names s = true) (h2:s.kd = 2):s.nm.length ≤ 32 := by
  rw [stmtV_eq] at h
  simp only [Bool.and_eq_true] at h
  have h := h.2
  rw [if_neg (by omega),if_pos h2] at h
  simp only [Bool.and_eq_true] at h
  exact (name_facts h.1.1.1.1).2.1
theorem withT_len (ks:List Int) (k:Int) (x:List UInt8):(withT ks k x).length ≤ x.length + 4 := by
  unfold withT wrapT
  split
  · simp only [List.length_append,List.length_cons,List.length_nil]; omega
  · omega
theorem sum_kids (ks:List Int):∀ l:List Nd,(∀ b ∈ l,(showN b).length + 100 ≤ 200000000 * szN b)→sumL (l.map (withN ks)) + 96 * l.length ≤ 200000000 * szL l
  | [],_ => by simp [sumL,szL]
  | b :: r,h => by
    have h1 := h b (by simp)
    have h2 := sum_kids ks r fun x hx => h x (by simp [hx])
    have h3 := withT_len ks b.kd (showN b)
    simp only [List.map_cons,sumL,szL,List.length_cons,withN]
    omega
theorem sum_stmts:∀ l:List Sm,(∀ s ∈ l,(showM s).length + 60 ≤ 200000000 * szM s)→sumL (l.map showM) + 60 * l.length ≤ 200000000 * szB l
  | [],_ => by simp [sumL,szB]
  | s :: r,h => by
    have h1 := h s (by simp)
    have h2 := sum_stmts r fun x hx => h x (by simp [hx])
    simp only [List.map_cons,sumL,szB,List.length_cons]
    omega
theorem primT_len (p:Int):(primT p).length ≤ 100 := by
  have h:∀ n,n < 56→(primL.getD n []).length ≤ 100 := by decide +kernel
  unfold primT
  split
  · simp
  · exact h _ (by omega)
theorem opT_len (p:Int):(opT p).length ≤ 100 := by
  have h:∀ n,n < 12→(opL.getD n []).length ≤ 100 := by decide +kernel
  unfold opT
  split
  · simp
  · exact h _ (by omega)
theorem litF_len {a:Arr} (ho:a.ok):(litF a).length ≤ 157286700 := by
  unfold litF
  split
  · rename_i h; exact lit_le ho h
  · simp
theorem szM_eq (s:Sm):szM s = if s.kd = 3 then szN s.te + szN s.nd else szN s.nd := by
  cases s
  simp only [szM]
  rfl
theorem szN_eq (n:Nd):szN n = 1 + szL n.ki + szB n.bo := by
  cases n
  simp only [szN]
  rfl
theorem showN_eq (n : Nd) : showN n = if n.kd = 1 then litF n.va else if n.kd = 2 then n.tx else if n.kd = 6 then [88] else if n.kd = 7 then [89] else if n.kd = 8 then [97, 114, 103] else if n.kd = 11 then [115, 101, 108, 102]
    else if n.kd = 12 then [70] else if n.kd = 13 then [71] else if n.kd = 9 then primT n.pr else if n.kd = 17 then opT n.op
    else if n.kd = 3 then Lib.join (n.ki.map (withN [3,4,5])) [32]
    else if n.kd = 4 then withT [16] (kAt n.ki 0) ((showL n.ki).getD 0 []) ++ [32] ++ (showL n.ki).getD 1 []
    else if n.kd = 5 then withT [4,5] (kAt n.ki 1) ((showL n.ki).getD 1 []) ++ [32] ++ withT [16] (kAt n.ki 0) ((showL n.ki).getD 0 []) ++ [32] ++ (showL n.ki).getD 2 []
    else if n.kd = 16 then Lib.join (n.ki.map (withN [4,5,16])) [32]
    else if n.kd = 14 then withT [16] (kAt n.ki 1) ((showL n.ki).getD 1 []) ++ [32] ++ (showL n.ki).getD 0 []
    else if n.kd = 15 then withT [16] (kAt n.ki 1) ((showL n.ki).getD 1 []) ++ [32] ++ (showL n.ki).getD 0 [] ++ [32] ++ withT [3,4,5,16,14,15] (kAt n.ki 2) ((showL n.ki).getD 2 [])
    else [123,32] ++ Lib.join (n.bo.map showM) [32,59,32] ++ [32,125] := by
  cases n
  simp only [showN,zipT_map,showS_map]
  rfl
theorem comp_len {n:Nd} (h:nodeV n = true):((n.kd = 4∨n.kd = 14)→n.ki.length = 2)∧((n.kd = 5∨n.kd = 15)→n.ki.length = 3)∧(n.kd = 2→n.tx.length ≤ 32) := by
  refine ⟨fun hk => ?_,fun hk => ?_,fun hk => ?_⟩
  · rcases kind_cases h (by omega) with hc | ⟨hc,_⟩
    · unfold leafB at hc
      rcases hk with hk | hk <;> simp [hk] at hc
    · unfold compB at hc
      rcases hk with hk | hk <;> simp [hk] at hc <;> exact classes_len hc.2
  · rcases kind_cases h (by omega) with hc | ⟨hc,_⟩
    · unfold leafB at hc
      rcases hk with hk | hk <;> simp [hk] at hc
    · unfold compB at hc
      rcases hk with hk | hk <;> simp [hk] at hc <;> exact classes_len hc.2
  · rcases kind_cases h (by omega) with hc | ⟨hc,_⟩
    · unfold leafB at hc
      simp [hk] at hc
      exact (name_facts hc.2.2).2.1
    · unfold compB at hc
      simp [hk] at hc
theorem getD_len (l:List Nd) (i:Nat) (h:∀ b ∈ l,(showN b).length + 100 ≤ 200000000 * szN b) (hi:i < l.length):((showL l).getD i []).length + 100 ≤ 200000000 * szN (l.getD i default) := by
  rw [showL_getD hi]
  exact h _ (nd_getD hi)
theorem szL_two {l:List Nd} (h:l.length = 2):szL l = szN (l.getD 0 default) + szN (l.getD 1 default) := by
  match l,h with
  | [a,b],_ => simp [szL]
theorem szL_three {l:List Nd} (h:l.length = 3):szL l = szN (l.getD 0 default) + szN (l.getD 1 default) + szN (l.getD 2 default) := by
  match l,h with
  | [a,b,c],_ => simp [szL]; omega
theorem show_len (n:Nd) (h:nodeV n = true) (ho:n.ok):(showN n).length + 100 ≤ 200000000 * szN n := by
  have ih:∀ b ∈ n.ki,(showN b).length + 100 ≤ 200000000 * szN b := fun b hb => show_len b ((valid_kids h).1 b hb) (ki_ok ho b hb)
  have ihs:n.kd = 10→∀ s ∈ n.bo,(showM s).length + 60 ≤ 200000000 * szM s := fun hk s hs => by
    have h1 := h
    rw [nodeV_eq,Bool.and_eq_true,if_pos hk,Bool.and_eq_true] at h1
    have hb := h1.2.2
    unfold bodyV at hb
    rw [Bool.and_eq_true] at hb
    obtain ⟨q1,q2⟩ := stmts_all hb.2 s hs
    obtain ⟨nm,q3⟩ := stmts_mem hb.2 s hs
    have o := sm_ok2 (bo_ok' ho s hs)
    have r1 := show_len s.nd q1 o.2
    rw [showM_eq,szM_eq]
    by_cases k2:s.kd = 2
    · have := stmt_name q3 k2
      rw [if_pos k2,if_neg (by omega)]
      simp only [List.length_append,List.length_cons,List.length_nil]
      omega
    · rw [if_neg k2]
      by_cases k3:s.kd = 3
      · rw [if_pos k3,if_pos k3]
        have hv:nodeV s.te = true := by
          rcases q2 with ⟨_,q,_⟩ | ⟨q,_⟩
          · exact q
          · exact (q k3).elim
        have r2 := show_len s.te hv o.1
        simp only [List.length_append,List.length_cons,List.length_nil]
        omega
      · rw [if_neg k3,if_neg k3]
        omega
  obtain ⟨h2,h3,htx⟩ := comp_len h
  rw [showN_eq,szN_eq]
  have g0 := fun hi => getD_len n.ki 0 ih hi
  have g1 := fun hi => getD_len n.ki 1 ih hi
  have g2 := fun hi => getD_len n.ki 2 ih hi
  by_cases e1:n.kd = 1
  · rw [if_pos e1]; have := litF_len (va_ok ho); omega
  rw [if_neg e1]
  by_cases e2:n.kd = 2
  · rw [if_pos e2]; have := htx e2; omega
  rw [if_neg e2]
  by_cases e6:n.kd = 6
  · rw [if_pos e6]; simp only [List.length_cons,List.length_nil]; omega
  rw [if_neg e6]
  by_cases e7:n.kd = 7
  · rw [if_pos e7]; simp only [List.length_cons,List.length_nil]; omega
  rw [if_neg e7]
  by_cases e8:n.kd = 8
  · rw [if_pos e8]; simp only [List.length_cons,List.length_nil]; omega
  rw [if_neg e8]
  by_cases e11:n.kd = 11
  · rw [if_pos e11]; simp only [List.length_cons,List.length_nil]; omega
  rw [if_neg e11]
  by_cases e12:n.kd = 12
  · rw [if_pos e12]; simp only [List.length_cons,List.length_nil]; omega
  rw [if_neg e12]
  by_cases e13:n.kd = 13
  · rw [if_pos e13]; simp only [List.length_cons,List.length_nil]; omega
  rw [if_neg e13]
  by_cases e9:n.kd = 9
  · rw [if_pos e9]; have := primT_len n.pr; omega
  rw [if_neg e9]
  by_cases e17:n.kd = 17
  · rw [if_pos e17]; have := opT_len n.op; omega
  rw [if_neg e17]
  by_cases e3:n.kd = 3
  · rw [if_pos e3]
    have q1 := join_sum [32] (n.ki.map (withN [3,4,5]))
    have q2 := sum_kids [3,4,5] n.ki ih
    simp only [List.length_map,List.length_cons,List.length_nil] at q1
    omega
  rw [if_neg e3]
  by_cases e4:n.kd = 4
  · rw [if_pos e4]
    have hl := h2 (.inl e4)
    have := szL_two hl
    have := g0 (by omega)
    have := g1 (by omega)
    have := withT_len [16] (kAt n.ki 0) ((showL n.ki).getD 0 [])
    simp only [List.length_append,List.length_cons,List.length_nil]
    omega
  rw [if_neg e4]
  by_cases e5:n.kd = 5
  · rw [if_pos e5]
    have hl := h3 (.inl e5)
    have := szL_three hl
    have := g0 (by omega)
    have := g1 (by omega)
    have := g2 (by omega)
    have := withT_len [16] (kAt n.ki 0) ((showL n.ki).getD 0 [])
    have := withT_len [4,5] (kAt n.ki 1) ((showL n.ki).getD 1 [])
    simp only [List.length_append,List.length_cons,List.length_nil]
    omega
  rw [if_neg e5]
  by_cases e16:n.kd = 16
  · rw [if_pos e16]
    have q1 := join_sum [32] (n.ki.map (withN [4,5,16]))
    have q2 := sum_kids [4,5,16] n.ki ih
    simp only [List.length_map,List.length_cons,List.length_nil] at q1
    omega
  rw [if_neg e16]
  by_cases e14:n.kd = 14
  · rw [if_pos e14]
    have hl := h2 (.inr e14)
    have := szL_two hl
    have := g0 (by omega)
    have := g1 (by omega)
    have := withT_len [16] (kAt n.ki 1) ((showL n.ki).getD 1 [])
    simp only [List.length_append,List.length_cons,List.length_nil]
    omega
  rw [if_neg e14]
  by_cases e15:n.kd = 15
  · rw [if_pos e15]
    have hl := h3 (.inr e15)
    have := szL_three hl
    have := g0 (by omega)
    have := g1 (by omega)
    have := g2 (by omega)
    have := withT_len [16] (kAt n.ki 1) ((showL n.ki).getD 1 [])
    have := withT_len [3,4,5,16,14,15] (kAt n.ki 2) ((showL n.ki).getD 2 [])
    simp only [List.length_append,List.length_cons,List.length_nil]
    omega
  rw [if_neg e15]
  have hk:n.kd = 10 := by
    have h := h
    rw [nodeV_eq,Bool.and_eq_true] at h
    by_cases hk:n.kd = 10
    · exact hk
    · rcases kind_cases (n := n) (by rw [nodeV_eq,Bool.and_eq_true]; exact h) hk with hc | ⟨hc,_⟩
      · unfold leafB at hc
        simp [e1,e2,e6,e7,e8,e9,e11,e12,e13,e17] at hc
      · unfold compB at hc
        simp [e3,e4,e5,e14,e15,e16] at hc
  have q1 := join_sum [32,59,32] (n.bo.map showM)
  have q2 := sum_stmts n.bo (ihs hk)
  simp only [List.length_map,List.length_cons,List.length_nil] at q1
  simp only [List.length_append,List.length_cons,List.length_nil]
  omega
termination_by SizeOf.sizeOf n
decreasing_by
  · exact Nd.size_kid hb
  · have := Nd.size_stmt hs
    have := Sm.size_nd s
    omega
  · have := Nd.size_stmt hs
    have := Sm.size_te s
    omega
end Go.Proofs.YtjnifeedbgefpaaGreatDoor
namespace Go.Proofs.YtjnifeedbgefpaaGreatDoor
open Go Go.Ab
set_option maxRecDepth 100000
noncomputable def Eidk (l:List Int) (v:Int):Senv := { EC con0 19 2 [4,5,7,8,9,16] (fun _ => ([],[])) with
  ann := fun b _ _ => match b with
    | 0 => some (annI (fun d => v == d) l [0,1,6,7])
    | _ => none }
noncomputable section
def ye1q0 (p0:Int) (p1:List Int) (p2:Nat):Prop := IdxHead (fun (d:Int) => p0 == d) p1 p2
def ye1q1 (p0:List Int):D := SI p0
end
theorem idk_ok (l:List Int) (v:Int) (hl:l.length ≤ maxLen):CD 119 [isl l .any,.int .i64 v] (.int .i64 (idxB (fun d => v == d) l 0)) := by
  refine con_of (A := sC _ _) (x := ()) (E := Eidk l v) (eOk con0_ok rfl) Tryz.func119 rfl (by kernel_rfl) rfl (by simp [sC,Eidk,EC,E0]) ?_
  refine vc_eq (T :=
    (∃ (x:Nat),ye1q0 v l x∧(Z0 = (↑x:Int)∧True)∧True∧True)∧∀ (x:Nat),ye1q0 v l x→ifB (decide ((↑x:Int) < (LI l))) (side (Z0 ≤ (↑x:Int)∧(↑x:Int) < (LI l)) (ifB (v == GI l (Int.toNat (↑x:Int))) (True∧∃ (y:Unit),True∧(↑x:Int) = idxB (fun (d:Int) => v == d) l N0∧True∧True) ((SM (ye1q1 l)∧SM (ZI v)∧SM D.unk∧SM (ZI (LI l))∧True)∧∃ (y:Nat),ye1q0 v l y∧LN l - y < LN l - x∧(IntKind.wrap IntKind.i64 ((↑x:Int) + Z1) = (↑y:Int)∧True)∧True∧True))) (True∧∃ (y:Unit),True∧(-1:Int) = idxB (fun (d:Int) => v == d) l N0∧True∧True)) (by kernel_rfl) ?_
  delta GI LI LN N0 N1 SI SM Z0 Z1 ZI ye1q0 ye1q1
  simp only [Int.toNat_natCast,ifB_iff,side_iff,decide_eq_true_eq,decide_eq_false_iff_not,true_and,and_true,exists_const]
  simp only [maxLen] at hl
  refine ⟨⟨0,⟨Nat.zero_le _,by simp⟩,rfl⟩,fun i hh => ⟨fun hlt => ?_,fun hge => (hh.done hge).symm⟩⟩
  have hlt':i < l.length := by omega
  obtain ⟨s1,s2⟩ := hh.step hlt'
  exact ⟨by omega,fun h => (s1 h).symm,fun h => ⟨i + 1,s2 h,by omega,wrap_i64' (by omega) (by omega)⟩⟩
noncomputable def conCtk (l:List Int) (v:Int):Con := fun k ds S => match k with
  | 119 => some (pA ds S (.int .i64 (idxB (fun d => v == d) l 0)) (wkL ds [isl l .any,.int .i64 v]))
  | _ => none
noncomputable def Ectk (l:List Int) (v:Int):Senv := EC (conCtk l v) 9 2 [4] (fun _ => ([],[]))
noncomputable section
def ye1q2 (p0:List Int) (p1:Int):List D := [SI p0,ZI p1]
end
theorem ctk_ok (l:List Int) (v:Int) (hl:l.length ≤ maxLen):CD 95 [isl l .any,.int .i64 v] (.bool (l.contains v)) := by
  refine con_of (A := sC _ _) (x := ()) (E := Ectk l v) (eOk ?_ rfl) Tryz.func95 rfl (by kernel_rfl) rfl (by simp [sC,Ectk,EC,E0]) ?_
  · intro k ds S A hh
    try unfold conCtk at hh
    try dsimp only at hh
    split at hh
    · injection hh with hh; subst hh
      exact pA_ok fun e => CD.at_ (CD.wk (idk_ok l v hl) e) _
    · cases hh
  refine vc_eq (T :=
    ∃ (x:Unit),wkL (ye1q2 l v) (ye1q2 l v)∧∀ (y:Unit),True→True∧∃ (y:Unit),True∧decide (Z0 ≤ idxB (fun (d:Int) => v == d) l N0) = List.contains l v∧True∧True) (by kernel_rfl) ?_
  delta GI LN N0 N1 SI Z0 ZI ye1q2
  simp only [true_and,and_true,exists_const,forall_const]
  have e := idxB_any (fun d => v == d) l 0
  have e2:(l.any fun d => v == d) = l.contains v := by rw [Bool.eq_iff_iff,List.any_eq_true,List.contains_eq_mem,decide_eq_true_eq]; simp
  rw [e2] at e
  first
    | exact ⟨wkL_refl _,e⟩
    | exact ⟨wkL_refl _,e,fun _ _ => trivial⟩
def RShow (n:Nd):Prop := CD 44 [.agg n.row2] (.str (showN n))∧(showN n).length ≤ 20000000000000
def conWi (n:Nd):Con := fun k ds S => match k with
  | 44 => some (pA ds S (.str (showN n)) (isN n ds []))
  | 95 => match ds with
    | [.sl 1 m f _,.int .i64 v] => some (pA ds S (.bool ((intsD m f).contains v)) (wkL ds [isl (intsD m f) .any,.int .i64 v]∧m ≤ maxLen))
    | _ => none
  | _ => none
noncomputable def Ewi (n:Nd):Senv := EC (conWi n) 15 3 [4,8] (fun _ => ([],[]))
noncomputable section
def ye1q3 (p0:List Int):List Int := intsD (LN p0) fun (i:Nat) => [ZI (GI p0 i)]
def ye1q4 (p0:Nd):Arr := Nd.va p0
def ye1q5 (p0:Nd):List Int := Arr.sh (ye1q4 p0)
def ye1q6 (p0:Nd):List Int := Arr.nu (ye1q4 p0)
def ye1q7 (p0:Nd):List Arr := Arr.it (ye1q4 p0)
def ye1q8:Arr := DA
def ye1q9:Nd := Nd.mk Z0 Z0 Z0 [] Z0 Z0 ye1q8 [] [] Z0 Z0 Z0
def ye1q10 (p0:Nd):Prop := isN p0 [D.agg [ZI (Nd.kd p0),ZI (Nd.at_ p0),ZI (Nd.cl p0),D.str (Nd.tx p0),ZI (Nd.pr p0),ZI (Nd.op p0),ZI (Arr.k (ye1q4 p0)),SI (ye1q5 p0),SI (ye1q6 p0),D.sl N4 (LN (ye1q7 p0)) (fun (i:Nat) => Arr.row (List.getD (ye1q7 p0) i ye1q8)) Mode.any,D.sl (15:Nat) (LN (Nd.ki p0)) (fun (i:Nat) => Nd.row (List.getD (Nd.ki p0) i ye1q9)) Mode.any,D.sl (34:Nat) (LN (Nd.bo p0)) (fun (i:Nat) => Sm.row (List.getD (Nd.bo p0) i (Sm.mk Z0 Z0 [] Z0 ye1q9 ye1q9))) Mode.any,ZI (Nd.de p0),ZI (Nd.sl p0),ZI (Nd.ss p0)]] []
def ye1q11 (p0:Nd):List UInt8 := showN p0
end
theorem wi_ok (n:Nd) (ks:List Int) (hn:RShow n) (hk:ks.length ≤ maxLen):CD 67 [.agg n.row1,isl ks .any] (.str (withN ks n)) := by
  refine con_of (A := sC _ _) (x := ()) (E := Ewi n) (eOk ?_ rfl) Tryz.func67 rfl (by kernel_rfl) rfl (by simp [sC,Ewi,EC,E0]) ?_
  · intro k ds S A hh
    try unfold conWi at hh
    try dsimp only at hh
    split at hh
    · injection hh with hh; subst hh
      exact pA_ok fun e => CD.at_ (CD.isN hn.1 e) _
    · split at hh
      · injection hh with hh; subst hh
        exact pA_ok fun ⟨e,hm⟩ => CD.at_ (CD.wk (ctk_ok _ _ (by rw [intsD_len]; exact hm)) e) _
      · cases hh
    · cases hh
  refine vc_eq (T :=
    ∀ (x:Nat),True→SM x∧∃ (x_1:Unit),(wkL [SI ks,ZI (Nd.kd n)] [SI (ye1q3 ks),ZI (Nd.kd n)]∧LN ks ≤ (9223372036854775807:Nat))∧∀ (y:Unit),True→ifB (List.contains (ye1q3 ks) (Nd.kd n)) (SM x∧∃ (x:Unit),ye1q10 n∧∀ (y:Unit),True→side (N2 + LN (ye1q11 n) ≤ (9223372036854775807:Nat)) (side (LN ((40:UInt8) :: (32:UInt8) :: List.append [] (ye1q11 n)) + N2 ≤ (9223372036854775807:Nat)) (True∧∃ (y:Unit),True∧(40:UInt8) :: (32:UInt8) :: List.append (List.append [] (ye1q11 n)) [(32:UInt8),(41:UInt8)] = withN ks n∧True∧True))) (SM x∧∃ (x:Unit),ye1q10 n∧∀ (y:Unit),True→True∧∃ (y:Unit),True∧ye1q11 n = withN ks n∧True∧True)) (by kernel_rfl) ?_
  delta DA GI LN N1 N2 N4 SI SM Z0 ZI ye1q10 ye1q11 ye1q3 ye1q4 ye1q5 ye1q6 ye1q7 ye1q8 ye1q9
  have dn:(default:Nd) = Nd.mk 0 0 0 [] 0 0 (Arr.mk 0 [] [] []) [] [] 0 0 0 := rfl
  have dm:(default:Sm) = Sm.mk 0 0 [] 0 (Nd.mk 0 0 0 [] 0 0 (Arr.mk 0 [] [] []) [] [] 0 0 0) (Nd.mk 0 0 0 [] 0 0 (Arr.mk 0 [] [] []) [] [] 0 0 0) := rfl
  try simp only [← dm]
  try simp only [← dn]
  simp only [ifB_iff,side_iff,true_and,and_true,exists_const,forall_const]
  simp only [intsD_isl]
  have hl := hn.2
  unfold maxLen at hk
  refine ⟨⟨wkL_refl _,hk⟩,fun h => ⟨nd_self _ _,by omega,?_,?_⟩,fun h => ⟨nd_self _ _,?_⟩⟩
  · simp only [List.length_cons,List.append_eq,List.nil_append]; omega
  · unfold withN withT; rw [if_pos h]; rfl
  · unfold withN withT; rw [if_neg (by rw [h]; exact Bool.false_ne_true)]
def conWd (q:Nd→Prop):Con := fun k ds S => match k with
  | 67 => match ds with
    | [_,.sl 1 m f _] => some (pE (β := Nd) ds S (fun b => .str (withN (intsD m f) b)) (fun b => wkL ds [.agg b.row1,isl (intsD m f) .any]∧m ≤ maxLen∧q b))
    | _ => none
  | 44 => some (pE (β := Nd) ds S (fun b => .str (showN b)) (fun b => isN b ds []∧q b))
  | k => conJn k ds S
theorem conWd_ok {q:Nd→Prop} (h:∀ b,q b→RShow b):ConOk Tryz.prog (conWd q) := by
  intro k ds S A hh
  unfold conWd at hh
  split at hh
  · split at hh
    · injection hh with hh; subst hh
      exact pS_ok fun b ⟨e,hm,hb⟩ => CD.at_ (CD.wk (wi_ok b _ (h b hb) (by rw [intsD_len]; exact hm)) e) _
    · cases hh
  · injection hh with hh; subst hh
    exact pS_ok fun b ⟨e,hb⟩ => CD.at_ (CD.isN (h b hb).1 e) _
  · exact conJn_ok _ _ _ _ hh
noncomputable def Ewd (q:Nd→Prop) (l:List Nd) (ks:List Int):Senv := { EC (conWd q) 23 2 [4,5,7,8,9,10,11] (fun _ => ([],[])) with
  gh := fun b => match b with
    | 0 => [.slot 5]
    | _ => []
  ann := fun b _ S => match b with
    | 0 => some { slots := [10,5],keep := [0,1,8,9],α := Nat × Nat × List (List UInt8),st := fun y => ([.int .i64 y.1,ssl y.2.2 (.tok 0 y.2.1)],⟨S.objs,[(0,y.2.1)]⟩),inv := fun y => y.1 ≤ l.length∧y.2.2 = (l.take y.1).map (withN ks),mu := fun y => l.length - y.1 }
    | _ => none }
noncomputable section
def ye1q12 (p0:Nat) (p1:List Nd) (p2:List (List UInt8)) (p3:List Int):Prop := p0 ≤ LN p1∧p2 = List.map (withN p3) (List.take p0 p1)
def ye1q13 (p0:List (List UInt8)) (p1:Nat):List D := [D.str (List.getD p0 p1 [])]
def ye1q14:Arr := DA
def ye1q15:Nd := Nd.mk Z0 Z0 Z0 [] Z0 Z0 ye1q14 [] [] Z0 Z0 Z0
def ye1q16 (p0:List Nd) (p1:Nat):Nd := List.getD p0 (Int.toNat (↑p1:Int)) ye1q15
def ye1q17 (p0:List Nd) (p1:Nat):Arr := Nd.va (ye1q16 p0 p1)
def ye1q18 (p0:List Nd) (p1:Nat):List Int := Arr.sh (ye1q17 p0 p1)
def ye1q19 (p0:List Nd) (p1:Nat):List Int := Arr.nu (ye1q17 p0 p1)
def ye1q20 (p0:List Nd) (p1:Nat):List Arr := Arr.it (ye1q17 p0 p1)
def ye1q21 (p0:List Nd) (p1:Nat):List Nd := Nd.ki (ye1q16 p0 p1)
def ye1q22 (p0:List Nd) (p1:Nat):List Sm := Nd.bo (ye1q16 p0 p1)
def ye1q23:Sm := Sm.mk Z0 Z0 [] Z0 ye1q15 ye1q15
def ye1q24 (p0:List Int):D := SI p0
def ye1q25 (p0:Nd):Arr := Nd.va p0
def ye1q26 (p0:Nd):List Int := Arr.sh (ye1q25 p0)
def ye1q27 (p0:Nd):List Int := Arr.nu (ye1q25 p0)
def ye1q28 (p0:Nd):List Arr := Arr.it (ye1q25 p0)
def ye1q29 (p0:List Int):List Int := intsD (LN p0) fun (i:Nat) => [ZI (GI p0 i)]
def ye1q30 (p0:List Nd) (p1:Nat):Nd := List.getD p0 p1 ye1q15
def ye1q31 (p0:List Nd) (p1:Nat):Arr := Nd.va (ye1q30 p0 p1)
def ye1q32 (p0:List Nd) (p1:Nat):List Int := Arr.sh (ye1q31 p0 p1)
def ye1q33 (p0:List Nd) (p1:Nat):List Int := Arr.nu (ye1q31 p0 p1)
def ye1q34 (p0:List Nd) (p1:Nat):List Arr := Arr.it (ye1q31 p0 p1)
def ye1q35 (p0:List Nd) (p1:Nat):List Nd := Nd.ki (ye1q30 p0 p1)
def ye1q36 (p0:List Nd) (p1:Nat):List Sm := Nd.bo (ye1q30 p0 p1)
def ye1q37 (p0:List Nd):D := D.sl (15:Nat) (LN p0) (fun (i:Nat) => [ZI (Nd.kd (ye1q30 p0 i)),ZI (Nd.at_ (ye1q30 p0 i)),ZI (Nd.cl (ye1q30 p0 i)),D.str (Nd.tx (ye1q30 p0 i)),ZI (Nd.pr (ye1q30 p0 i)),ZI (Nd.op (ye1q30 p0 i)),ZI (Arr.k (ye1q31 p0 i)),SI (ye1q32 p0 i),SI (ye1q33 p0 i),D.sl N4 (LN (ye1q34 p0 i)) (fun (i_1:Nat) => Arr.row (List.getD (ye1q34 p0 i) i_1 ye1q14)) Mode.any,D.sl (15:Nat) (LN (ye1q35 p0 i)) (fun (i_1:Nat) => Nd.row (List.getD (ye1q35 p0 i) i_1 ye1q15)) Mode.any,D.sl (34:Nat) (LN (ye1q36 p0 i)) (fun (i_1:Nat) => Sm.row (List.getD (ye1q36 p0 i) i_1 ye1q23)) Mode.any,ZI (Nd.de (ye1q30 p0 i)),ZI (Nd.sl (ye1q30 p0 i)),ZI (Nd.ss (ye1q30 p0 i))]) Mode.any
def ye1q38 (p0:List Nd):Prop := SM (ye1q37 p0)
def ye1q39 (p0:List (List UInt8)):List (List UInt8) := strsOf (LN p0) fun (i:Nat) => ye1q13 p0 i
end
theorem wd_ok (q : Nd → Prop) (l : List Nd) (ks : List Int) (h : ∀ b, q b → RShow b) (hq : ∀ b ∈ l, q b) (hl : l.length ≤ 1000000) (hk : ks.length ≤ maxLen) (hj : (Lib.join (l.map (withN ks)) [32]).length ≤ 20000000000000) :
    CD 66 [gsl 15 Nd.row1 l,isl ks .any] (.str (Lib.join (l.map (withN ks)) [32])) := by
  refine con_of (A := sC _ _) (x := ()) (E := Ewd q l ks) (eOk (conWd_ok h) rfl) Tryz.func66 rfl (by kernel_rfl) rfl (by simp [sC,Ewd,EC,E0]) ?_
  refine vc_eq (T :=
    ∀ (t:Nat),(∃ (x:Nat × Nat × List (List UInt8)),ye1q12 x.1 l x.2.2 ks∧(Z0 = (NI x.1)∧(N0 = LN x.2.2∧(∀ (i:Nat),i < N0→eqOf (List D) [] (ye1q13 x.2.2 i))∧t = x.2.1)∧True)∧True∧t = x.2.1∧True)∧∀ (x:Nat × Nat × List (List UInt8)),ye1q12 x.1 l x.2.2 ks→ifB (decide ((NI x.1) < (LI l))) (side (Z0 ≤ (NI x.1)∧(NI x.1) < (LI l)) (∀ (x_1:Nat),True→SM x_1∧SM x_1∧∃ (x_2:Nd),(wkL [D.agg [ZI (Nd.kd (ye1q16 l x.1)),ZI (Nd.at_ (ye1q16 l x.1)),ZI (Nd.cl (ye1q16 l x.1)),D.str (Nd.tx (ye1q16 l x.1)),ZI (Nd.pr (ye1q16 l x.1)),ZI (Nd.op (ye1q16 l x.1)),ZI (Arr.k (ye1q17 l x.1)),SI (ye1q18 l x.1),SI (ye1q19 l x.1),D.sl N4 (LN (ye1q20 l x.1)) (fun (i:Nat) => Arr.row (List.getD (ye1q20 l x.1) i ye1q14)) Mode.any,D.sl (15:Nat) (LN (ye1q21 l x.1)) (fun (i:Nat) => Nd.row (List.getD (ye1q21 l x.1) i ye1q15)) Mode.any,D.sl (34:Nat) (LN (ye1q22 l x.1)) (fun (i:Nat) => Sm.row (List.getD (ye1q22 l x.1) i ye1q23)) Mode.any,ZI (Nd.de (ye1q16 l x.1)),ZI (Nd.sl (ye1q16 l x.1)),ZI (Nd.ss (ye1q16 l x.1))],ye1q24 ks] [D.agg [ZI (Nd.kd x_2),ZI (Nd.at_ x_2),ZI (Nd.cl x_2),D.str (Nd.tx x_2),ZI (Nd.pr x_2),ZI (Nd.op x_2),ZI (Arr.k (ye1q25 x_2)),SI (ye1q26 x_2),SI (ye1q27 x_2),D.sl N4 (LN (ye1q28 x_2)) (fun (i:Nat) => Arr.row (List.getD (ye1q28 x_2) i ye1q14)) Mode.any,D.sl (15:Nat) (LN (Nd.ki x_2)) (fun (i:Nat) => Nd.row (List.getD (Nd.ki x_2) i ye1q15)) Mode.any,D.sl (34:Nat) (LN (Nd.bo x_2)) (fun (i:Nat) => Sm.row (List.getD (Nd.bo x_2) i ye1q23)) Mode.any,ZI (Nd.de x_2),ZI (Nd.sl x_2),ZI (Nd.ss x_2)],SI (ye1q29 ks)]∧LN ks ≤ (9223372036854775807:Nat)∧q x_2)∧∀ (y:Unit),True→SM x.2.1∧side ((LN x.2.2 + N1) * (16:Nat) ≤ (140737488355328:Nat)∧LN x.2.2 + N1 ≤ (9223372036854775807:Nat)) (∀ (t:Nat),(ye1q38 l∧SM (ye1q24 ks)∧ye1q38 l∧SM (ZI (LI l))∧True)∧∃ (y:Nat × Nat × List (List UInt8)),ye1q12 y.1 l y.2.2 ks∧LN l - y.1 < LN l - x.1∧(IntKind.wrap IntKind.i64 ((NI x.1) + Z1) = (NI y.1)∧(LN x.2.2 + N1 = LN y.2.2∧(∀ (i:Nat),i < LN x.2.2 + N1→appF (LN x.2.2) (fun (i:Nat) => ye1q13 x.2.2 i) (fun (i:Nat) => [D.str (List.getD [withN (ye1q29 ks) x_2] i [])]) i = ye1q13 y.2.2 i)∧t = y.2.1)∧True)∧True∧t = y.2.1∧True))) (((strsB (LN x.2.2) fun (i:Nat) => ye1q13 x.2.2 i) = true∧joinOk (ye1q39 x.2.2) [(32:UInt8)])∧∀ (y:Unit),True→True∧∃ (y:Unit),True∧Lib.join (ye1q39 x.2.2) [(32:UInt8)] = Lib.join (List.map (withN ks) l) [(32:UInt8)]∧True∧True)) (by kernel_rfl) ?_
  delta DA GI LI LN N0 N1 N4 NI SI SM Z0 Z1 ZI ye1q12 ye1q13 ye1q14 ye1q15 ye1q16 ye1q17 ye1q18 ye1q19 ye1q20 ye1q21 ye1q22 ye1q23 ye1q24 ye1q25 ye1q26 ye1q27 ye1q28 ye1q29 ye1q30 ye1q31 ye1q32 ye1q33 ye1q34 ye1q35 ye1q36 ye1q37 ye1q38 ye1q39
  have dn:(default:Nd) = Nd.mk 0 0 0 [] 0 0 (Arr.mk 0 [] [] []) [] [] 0 0 0 := rfl
  have dm:(default:Sm) = Sm.mk 0 0 [] 0 (Nd.mk 0 0 0 [] 0 0 (Arr.mk 0 [] [] []) [] [] 0 0 0) (Nd.mk 0 0 0 [] 0 0 (Arr.mk 0 [] [] []) [] [] 0 0 0) := rfl
  try simp only [← dm]
  try simp only [← dn]
  simp only [Int.toNat_natCast,ifB_iff,side_iff,decide_eq_true_eq,decide_eq_false_iff_not,true_and,and_true,exists_const,forall_const,Prod.exists]
  simp only [intsD_isl]
  unfold maxLen at hk
  refine fun t => ⟨⟨0,t,[],⟨Nat.zero_le _,rfl⟩,⟨rfl,rfl,fun i hi => absurd hi (Nat.not_lt_zero _),rfl⟩,rfl⟩,?_⟩
  rintro ⟨i,tk,out⟩ ⟨hi,ho⟩
  simp only at hi ho ⊢
  have hlen:out.length = i := by rw [ho,List.length_map,List.length_take]; omega
  refine ⟨fun hlt => ?_,fun hge => ?_⟩
  · have hlt':i < l.length := by omega
    refine ⟨⟨by omega,hlt⟩,l.getD i default,⟨wkL_refl _,hk,hq _ (nd_getD hlt')⟩,⟨by omega,by omega⟩,fun t2 => ⟨i + 1,t2,out ++ [withN ks (l.getD i default)],⟨hlt',?_⟩,by omega,⟨?_,by simp,fun j hj => app_str j hj,rfl⟩,rfl⟩⟩
    · rw [take_step hlt',List.map_append,ho]; rfl
    · rw [wrap_i64' (by omega) (by omega)]; rfl
  · have e:i = l.length := by omega
    rw [e,List.take_length] at ho
    have e1:strsOf out.length (fun i => [D.str (out.getD i [])]) = out := strsOf_eq rfl fun _ _ => rfl
    have e2:strsB out.length (fun i => [D.str (out.getD i [])]) = true := strsB_eq rfl fun _ _ => rfl
    rw [e1,ho]
    rw [ho] at e2
    refine ⟨⟨?_,?_,?_⟩,rfl⟩
    · exact e2
    · rw [List.length_map]; omega
    · omega
noncomputable def Estm (q:Nd→Prop):Senv := EC (conWd q) 27 3 [4,5,14] (fun id => match id with | 3 => ([0,1,2,3,4,5,6,7],[5]) | 5 => ([0,1,4,5,2,3,6,7,8],[2,6]) | _ => ([],[]))
noncomputable section
def ye1q40 (p0:Sm):List UInt8 := Sm.nm p0
def ye1q41 (p0:Sm):Nd := Sm.nd p0
def ye1q42 (p0:Sm):Arr := Nd.va (ye1q41 p0)
def ye1q43 (p0:Sm):List Int := Arr.sh (ye1q42 p0)
def ye1q44 (p0:Sm):List Int := Arr.nu (ye1q42 p0)
def ye1q45 (p0:Sm):List Arr := Arr.it (ye1q42 p0)
def ye1q46:Arr := DA
def ye1q47 (p0:Sm):List Nd := Nd.ki (ye1q41 p0)
def ye1q48:Nd := Nd.mk Z0 Z0 Z0 [] Z0 Z0 ye1q46 [] [] Z0 Z0 Z0
def ye1q49 (p0:Sm):List Sm := Nd.bo (ye1q41 p0)
def ye1q50:Sm := Sm.mk Z0 Z0 [] Z0 ye1q48 ye1q48
def ye1q51 (p0:Sm):D := D.agg [ZI (Nd.kd (ye1q41 p0)),ZI (Nd.at_ (ye1q41 p0)),ZI (Nd.cl (ye1q41 p0)),D.str (Nd.tx (ye1q41 p0)),ZI (Nd.pr (ye1q41 p0)),ZI (Nd.op (ye1q41 p0)),ZI (Arr.k (ye1q42 p0)),SI (ye1q43 p0),SI (ye1q44 p0),D.sl N4 (LN (ye1q45 p0)) (fun (i:Nat) => Arr.row (List.getD (ye1q45 p0) i ye1q46)) Mode.any,D.sl (15:Nat) (LN (ye1q47 p0)) (fun (i:Nat) => Nd.row (List.getD (ye1q47 p0) i ye1q48)) Mode.any,D.sl (34:Nat) (LN (ye1q49 p0)) (fun (i:Nat) => Sm.row (List.getD (ye1q49 p0) i ye1q50)) Mode.any,ZI (Nd.de (ye1q41 p0)),ZI (Nd.sl (ye1q41 p0)),ZI (Nd.ss (ye1q41 p0))]
def ye1q52 (p0:Nd) (p1:Sm) (p2:Nd→Prop):Prop := isN p0 [ye1q51 p1] []∧p2 p0
def ye1q53 (p0:Sm):List UInt8 := ye1q40 p0 ++ [(32:UInt8),(60:UInt8),(45:UInt8),(32:UInt8)]
def ye1q54 (p0:Nd):List UInt8 := showN p0
def ye1q55 (p0:Nd):Nat := LN (ye1q54 p0)
def ye1q56 (p0:Sm):List UInt8 := showM p0
def ye1q57 (p0:Sm):Nd := Sm.te p0
def ye1q58 (p0:Sm):Arr := Nd.va (ye1q57 p0)
def ye1q59 (p0:Sm):List Int := Arr.sh (ye1q58 p0)
def ye1q60 (p0:Sm):List Int := Arr.nu (ye1q58 p0)
def ye1q61 (p0:Sm):List Arr := Arr.it (ye1q58 p0)
def ye1q62 (p0:Sm):List Nd := Nd.ki (ye1q57 p0)
def ye1q63 (p0:Sm):List Sm := Nd.bo (ye1q57 p0)
def ye1q64 (p0:Nd):List UInt8 := ye1q54 p0 ++ [(32:UInt8),(58:UInt8),(32:UInt8)]
end
theorem stm_ok (q:Nd→Prop) (s:Sm) (h:∀ b,q b→RShow b) (h1:q s.nd) (h2:s.kd = 3→q s.te) (hn:s.nm.length ≤ maxB):CD 69 [.agg s.row1] (.str (showM s)) := by
  refine con_of (A := sC _ _) (x := ()) (E := Estm q) (eOk (conWd_ok h) rfl) Tryz.func69 rfl (by kernel_rfl) rfl (by simp [sC,Estm,EC,E0]) ?_
  refine vc_eq (T :=
    ∀ (x:Nat),True→SM x∧ifB (Sm.kd s == (2:Int)) (SM x∧side (LN (ye1q40 s) + N4 ≤ (9223372036854775807:Nat)) (SM x∧∃ (x_1:Nd),ye1q52 x_1 s q∧∀ (y:Unit),True→(SM x∧SM (D.str (ye1q40 s)))∧side (LN (ye1q53 s) + ye1q55 x_1 ≤ (9223372036854775807:Nat)) (True∧∃ (y:Unit),True∧ye1q53 s ++ ye1q54 x_1 = ye1q56 s∧True∧True))) (ifB (Sm.kd s == (3:Int)) (SM x∧SM x∧∃ (x_1:Nd),(isN x_1 [D.agg [ZI (Nd.kd (ye1q57 s)),ZI (Nd.at_ (ye1q57 s)),ZI (Nd.cl (ye1q57 s)),D.str (Nd.tx (ye1q57 s)),ZI (Nd.pr (ye1q57 s)),ZI (Nd.op (ye1q57 s)),ZI (Arr.k (ye1q58 s)),SI (ye1q59 s),SI (ye1q60 s),D.sl N4 (LN (ye1q61 s)) (fun (i:Nat) => Arr.row (List.getD (ye1q61 s) i ye1q46)) Mode.any,D.sl (15:Nat) (LN (ye1q62 s)) (fun (i:Nat) => Nd.row (List.getD (ye1q62 s) i ye1q48)) Mode.any,D.sl (34:Nat) (LN (ye1q63 s)) (fun (i:Nat) => Sm.row (List.getD (ye1q63 s) i ye1q50)) Mode.any,ZI (Nd.de (ye1q57 s)),ZI (Nd.sl (ye1q57 s)),ZI (Nd.ss (ye1q57 s))]] []∧q x_1)∧∀ (y:Unit),True→(SM x∧SM (ye1q51 s))∧side (ye1q55 x_1 + (3:Nat) ≤ (9223372036854775807:Nat)) (∃ (x:Nd),ye1q52 x s q∧∀ (y:Unit),True→side (LN (ye1q64 x_1) + ye1q55 x ≤ (9223372036854775807:Nat)) (True∧∃ (y:Unit),True∧ye1q64 x_1 ++ ye1q54 x = ye1q56 s∧True∧True))) (SM x∧∃ (x:Nd),ye1q52 x s q∧∀ (y:Unit),True→True∧∃ (y:Unit),True∧ye1q54 x = ye1q56 s∧True∧True))) (by kernel_rfl) ?_
  delta DA GI LN N1 N4 SI SM Z0 ZI ye1q40 ye1q41 ye1q42 ye1q43 ye1q44 ye1q45 ye1q46 ye1q47 ye1q48 ye1q49 ye1q50 ye1q51 ye1q52 ye1q53 ye1q54 ye1q55 ye1q56 ye1q57 ye1q58 ye1q59 ye1q60 ye1q61 ye1q62 ye1q63 ye1q64
  have dn:(default:Nd) = Nd.mk 0 0 0 [] 0 0 (Arr.mk 0 [] [] []) [] [] 0 0 0 := rfl
  have dm:(default:Sm) = Sm.mk 0 0 [] 0 (Nd.mk 0 0 0 [] 0 0 (Arr.mk 0 [] [] []) [] [] 0 0 0) (Nd.mk 0 0 0 [] 0 0 (Arr.mk 0 [] [] []) [] [] 0 0 0) := rfl
  try simp only [← dm]
  try simp only [← dn]
  simp only [ne_eq,ifB_iff,side_iff,true_and,and_true,beq_iff_eq,beq_eq_false_iff_ne,exists_const,forall_const]
  unfold maxB at hn
  have l1 := (h _ h1).2
  rw [showM_eq]
  refine ⟨fun a => ⟨by omega,s.nd,⟨nd_self _ _,h1⟩,?_,?_⟩,fun a => ⟨fun b => ?_,fun b => ⟨s.nd,⟨nd_self _ _,h1⟩,?_⟩⟩⟩
  · simp only [List.length_append,List.length_cons,List.length_nil]; omega
  · rw [if_pos a]
  · have l2 := (h _ (h2 b)).2
    refine ⟨s.te,⟨nd_self _ _,h2 b⟩,by omega,s.nd,⟨nd_self _ _,h1⟩,?_,?_⟩
    · simp only [List.length_append,List.length_cons,List.length_nil]; omega
    · rw [if_neg a,if_pos b]
  · rw [if_neg a,if_neg b]
def dervT (n:Nd):List UInt8 :=
  let x := withN [16] (n.ki.getD 1 default) ++ [32] ++ showN (n.ki.getD 0 default)
  if n.kd = 15 then x ++ ([32] ++ withN [3,4,5,16,14,15] (n.ki.getD 2 default)) else x
noncomputable def Edv (q:Nd→Prop):Senv := EC (conWd q) 30 4 [19] (fun id => match id with | 1 => ([0,1,2,3,7,8,9,10,4,5,6,11,12,13],[4,5,11]) | _ => ([],[]))
noncomputable section
def ye1q65 (p0:Nd):List Nd := Nd.ki p0
def ye1q66 (p0:Nd):Int := (LI (ye1q65 p0))
def ye1q67:Arr := DA
def ye1q68:Nd := Nd.mk Z0 Z0 Z0 [] Z0 Z0 ye1q67 [] [] Z0 Z0 Z0
def ye1q69 (p0:Nd):D := D.sl (15:Nat) (LN (ye1q65 p0)) (fun (i:Nat) => Nd.row1 (List.getD (ye1q65 p0) i ye1q68)) Mode.any
def ye1q70 (p0:Nat) (p1:Nd):Prop := SM p0∧SM (ye1q69 p1)
def ye1q71 (p0:Nd):Nd := List.getD (ye1q65 p0) N1 ye1q68
def ye1q72 (p0:Nd):Arr := Nd.va (ye1q71 p0)
def ye1q73 (p0:Nd):List Int := Arr.sh (ye1q72 p0)
def ye1q74 (p0:Nd):List Int := Arr.nu (ye1q72 p0)
def ye1q75 (p0:Nd):List Arr := Arr.it (ye1q72 p0)
def ye1q76 (p0:Nd):List Nd := Nd.ki (ye1q71 p0)
def ye1q77 (p0:Nd):List Sm := Nd.bo (ye1q71 p0)
def ye1q78:Sm := Sm.mk Z0 Z0 [] Z0 ye1q68 ye1q68
def ye1q79:List Int := intsD N1 fun (i:Nat) => List.getD [[ZI (16:Int)]] i []
def ye1q80 (p0:Nd):List UInt8 := withN ye1q79 p0
def ye1q81 (p0:Nd):Nd := List.getD (ye1q65 p0) N0 ye1q68
def ye1q82 (p0:Nd):Arr := Nd.va (ye1q81 p0)
def ye1q83 (p0:Nd):List Int := Arr.sh (ye1q82 p0)
def ye1q84 (p0:Nd):List Int := Arr.nu (ye1q82 p0)
def ye1q85 (p0:Nd):List Arr := Arr.it (ye1q82 p0)
def ye1q86 (p0:Nd):List Nd := Nd.ki (ye1q81 p0)
def ye1q87 (p0:Nd):List Sm := Nd.bo (ye1q81 p0)
def ye1q88 (p0:Nd):List UInt8 := ye1q80 p0 ++ [(32:UInt8)]
def ye1q89 (p0:Nd):Nd := List.getD (ye1q65 p0) N2 ye1q68
def ye1q90 (p0:Nd):Arr := Nd.va (ye1q89 p0)
def ye1q91 (p0:Nd):List Int := Arr.sh (ye1q90 p0)
def ye1q92 (p0:Nd):List Int := Arr.nu (ye1q90 p0)
def ye1q93 (p0:Nd):List Arr := Arr.it (ye1q90 p0)
def ye1q94 (p0:Nd):List Nd := Nd.ki (ye1q89 p0)
def ye1q95 (p0:Nd):List Sm := Nd.bo (ye1q89 p0)
def ye1q96 (p0:Nat):List D := List.getD [[ZI (3:Int)],[ZI (4:Int)],[ZI (5:Int)],[ZI (16:Int)],[ZI (14:Int)],[ZI (15:Int)]] p0 []
def ye1q97:List Int := intsD N6 fun (i:Nat) => ye1q96 i
def ye1q98 (p0:Nd):List UInt8 := withN ye1q97 p0
def ye1q99 (p0 p1:Nd):List UInt8 := ye1q88 p0 ++ showN p1
def ye1q100 (p0:Nd):List UInt8 := (32:UInt8) :: List.append [] (ye1q98 p0)
end
theorem dv_ok (q:Nd→Prop) (n:Nd) (h:∀ b,q b→RShow b) (hq:∀ b ∈ n.ki,q b) (h2:2 ≤ n.ki.length) (h3:n.kd = 15→n.ki.length = 3):CD 68 [.agg n.row2] (.str (dervT n)) := by
  refine con_of (A := sC _ _) (x := ()) (E := Edv q) (eOk (conWd_ok h) rfl) Tryz.func68 rfl (by kernel_rfl) rfl (by simp [sC,Edv,EC,E0]) ?_
  refine vc_eq (T :=
    ∀ (x:Nat),True→SM x∧side (Z0 ≤ Z1∧Z1 < ye1q66 n) (SM x∧side (Z0 ≤ Z0∧Z0 < ye1q66 n) (ye1q70 x n∧ye1q70 x n∧∃ (x_1:Nd),(wkL [D.agg [ZI (Nd.kd (ye1q71 n)),ZI (Nd.at_ (ye1q71 n)),ZI (Nd.cl (ye1q71 n)),D.str (Nd.tx (ye1q71 n)),ZI (Nd.pr (ye1q71 n)),ZI (Nd.op (ye1q71 n)),ZI (Arr.k (ye1q72 n)),SI (ye1q73 n),SI (ye1q74 n),D.sl N4 (LN (ye1q75 n)) (fun (i:Nat) => Arr.row (List.getD (ye1q75 n) i ye1q67)) Mode.any,D.sl (15:Nat) (LN (ye1q76 n)) (fun (i:Nat) => Nd.row (List.getD (ye1q76 n) i ye1q68)) Mode.any,D.sl (34:Nat) (LN (ye1q77 n)) (fun (i:Nat) => Sm.row (List.getD (ye1q77 n) i ye1q78)) Mode.any,ZI (Nd.de (ye1q71 n)),ZI (Nd.sl (ye1q71 n)),ZI (Nd.ss (ye1q71 n))],D.sl N1 N1 (fun (i:Nat) => List.getD [[ZI (16:Int)]] i []) Mode.full] [D.agg (Nd.row1 x_1),SI ye1q79]∧N1 ≤ (9223372036854775807:Nat)∧q x_1)∧∀ (y:Unit),True→ye1q70 x n∧side (LN (ye1q80 x_1) + N1 ≤ (9223372036854775807:Nat)) (∃ (x_2:Nd),(isN x_2 [D.agg [ZI (Nd.kd (ye1q81 n)),ZI (Nd.at_ (ye1q81 n)),ZI (Nd.cl (ye1q81 n)),D.str (Nd.tx (ye1q81 n)),ZI (Nd.pr (ye1q81 n)),ZI (Nd.op (ye1q81 n)),ZI (Arr.k (ye1q82 n)),SI (ye1q83 n),SI (ye1q84 n),D.sl N4 (LN (ye1q85 n)) (fun (i:Nat) => Arr.row (List.getD (ye1q85 n) i ye1q67)) Mode.any,D.sl (15:Nat) (LN (ye1q86 n)) (fun (i:Nat) => Nd.row (List.getD (ye1q86 n) i ye1q68)) Mode.any,D.sl (34:Nat) (LN (ye1q87 n)) (fun (i:Nat) => Sm.row (List.getD (ye1q87 n) i ye1q78)) Mode.any,ZI (Nd.de (ye1q81 n)),ZI (Nd.sl (ye1q81 n)),ZI (Nd.ss (ye1q81 n))]] []∧q x_2)∧∀ (y:Unit),True→side (LN (ye1q88 x_1) + LN (showN x_2) ≤ (9223372036854775807:Nat)) (SM x∧ifB (Nd.kd n == (15:Int)) (SM x∧side (Z0 ≤ (2:Int)∧(2:Int) < ye1q66 n) (∃ (x:Nd),(wkL [D.agg [ZI (Nd.kd (ye1q89 n)),ZI (Nd.at_ (ye1q89 n)),ZI (Nd.cl (ye1q89 n)),D.str (Nd.tx (ye1q89 n)),ZI (Nd.pr (ye1q89 n)),ZI (Nd.op (ye1q89 n)),ZI (Arr.k (ye1q90 n)),SI (ye1q91 n),SI (ye1q92 n),D.sl N4 (LN (ye1q93 n)) (fun (i:Nat) => Arr.row (List.getD (ye1q93 n) i ye1q67)) Mode.any,D.sl (15:Nat) (LN (ye1q94 n)) (fun (i:Nat) => Nd.row (List.getD (ye1q94 n) i ye1q68)) Mode.any,D.sl (34:Nat) (LN (ye1q95 n)) (fun (i:Nat) => Sm.row (List.getD (ye1q95 n) i ye1q78)) Mode.any,ZI (Nd.de (ye1q89 n)),ZI (Nd.sl (ye1q89 n)),ZI (Nd.ss (ye1q89 n))],D.sl N1 N6 (fun (i:Nat) => ye1q96 i) Mode.full] [D.agg (Nd.row1 x),SI ye1q97]∧N6 ≤ (9223372036854775807:Nat)∧q x)∧∀ (y:Unit),True→side (N1 + LN (ye1q98 x) ≤ (9223372036854775807:Nat)) (side (LN (ye1q99 x_1 x_2) + LN (ye1q100 x) ≤ (9223372036854775807:Nat)) (True∧∃ (y:Unit),True∧ye1q99 x_1 x_2 ++ ye1q100 x = dervT n∧True∧True)))) (True∧∃ (y:Unit),True∧ye1q99 x_1 x_2 = dervT n∧True∧True)))))) (by kernel_rfl) ?_
  delta DA GI LI LN N0 N1 N2 N4 N6 SI SM Z0 Z1 ZI ye1q100 ye1q65 ye1q66 ye1q67 ye1q68 ye1q69 ye1q70 ye1q71 ye1q72 ye1q73 ye1q74 ye1q75 ye1q76 ye1q77 ye1q78 ye1q79 ye1q80 ye1q81 ye1q82 ye1q83 ye1q84 ye1q85 ye1q86 ye1q87 ye1q88 ye1q89 ye1q90 ye1q91 ye1q92 ye1q93 ye1q94 ye1q95 ye1q96 ye1q97 ye1q98 ye1q99
  have dn:(default:Nd) = Nd.mk 0 0 0 [] 0 0 (Arr.mk 0 [] [] []) [] [] 0 0 0 := rfl
  have dm:(default:Sm) = Sm.mk 0 0 [] 0 (Nd.mk 0 0 0 [] 0 0 (Arr.mk 0 [] [] []) [] [] 0 0 0) (Nd.mk 0 0 0 [] 0 0 (Arr.mk 0 [] [] []) [] [] 0 0 0) := rfl
  try simp only [← dm]
  try simp only [← dn]
  simp only [ne_eq,ifB_iff,side_iff,true_and,and_true,beq_iff_eq,beq_eq_false_iff_ne,exists_const,forall_const]
  have i1:intsD 1 (fun i => [[D.int IntKind.i64 16]].getD i []) = [16] := rfl
  have i6:intsD 6 (fun i => [[D.int IntKind.i64 3],[D.int IntKind.i64 4],[D.int IntKind.i64 5],[D.int IntKind.i64 16],[D.int IntKind.i64 14],[D.int IntKind.i64 15]].getD i []) = [3,4,5,16,14,15] := rfl
  have p1:IntsP 1 (fun i => [[D.int IntKind.i64 16]].getD i []) := fun i hi => by
    match i,hi with
    | 0,_ => rfl
  have p6:IntsP 6 (fun i => [[D.int IntKind.i64 3],[D.int IntKind.i64 4],[D.int IntKind.i64 5],[D.int IntKind.i64 16],[D.int IntKind.i64 14],[D.int IntKind.i64 15]].getD i []) := fun i hi => by
    match i,hi with
    | 0,_ => rfl
    | 1,_ => rfl
    | 2,_ => rfl
    | 3,_ => rfl
    | 4,_ => rfl
    | 5,_ => rfl
  have q0 := hq _ (nd_getD (l := n.ki) (i := 0) (by omega))
  have q1 := hq _ (nd_getD (l := n.ki) (i := 1) (by omega))
  have wl:∀ (ks:List Int) (b:Nd),q b→(withN ks b).length ≤ 20000000000004 := fun ks b hb => by
    have h1 := withT_len ks b.kd (showN b)
    have h2 := (h b hb).2
    unfold withN
    omega
  have r0 := (h _ q0).2
  have r1 := wl [16] _ q1
  refine ⟨⟨by omega,by omega⟩,⟨by omega,by omega⟩,n.ki.getD 1 default,⟨cls_arg (r := (n.ki.getD 1 default).row1) p1,by omega,q1⟩,?_,n.ki.getD 0 default,⟨nd_self _ _,q0⟩,?_,fun hk => ?_,fun hk => ?_⟩
  · rw [i1]; omega
  · rw [i1]; simp only [List.length_append,List.length_cons,List.length_nil]; omega
  · have hl := h3 hk
    have q2 := hq _ (nd_getD (l := n.ki) (i := 2) (by omega))
    have r2 := wl [3,4,5,16,14,15] _ q2
    refine ⟨⟨by omega,by omega⟩,n.ki.getD 2 default,⟨cls_arg (r := (n.ki.getD 2 default).row1) p6,by omega,q2⟩,?_,?_,?_⟩
    · rw [i6]; omega
    · rw [i1,i6]; simp only [List.length_append,List.length_cons,List.length_nil,List.append_eq]; omega
    · rw [i1,i6]
      unfold dervT
      rw [if_pos hk]
      rfl
  · rw [i1]
    unfold dervT
    rw [if_neg hk]
end Go.Proofs.YtjnifeedbgefpaaGreatDoor
namespace Go.Proofs.YtjnifeedbgefpaaGreatDoor
open Go Go.Ab
set_option maxRecDepth 100000
def conShn (n:Nd) (q:Nd→Prop) (qs:Sm→Prop):Con := fun k ds S => match k with
  | 63 => some (pA ds S (.str (litF n.va)) (wkL ds [.agg n.va.row1]))
  | 64 => some (pA ds S (.str (primT n.pr)) (wkL ds [.int .i64 n.pr]))
  | 65 => some (pA ds S (.str (opT n.op)) (wkL ds [.int .i64 n.op]))
  | 66 => match ds with
    | [_,.sl 1 m f _] => some (pA ds S (.str (Lib.join (n.ki.map (withN (intsD m f))) [32])) (wkL ds [gsl 15 Nd.row1 n.ki,isl (intsD m f) .any]∧m ≤ maxLen∧n.ki.length ≤ 1000000∧(Lib.join (n.ki.map (withN (intsD m f))) [32]).length ≤ 20000000000000))
    | _ => none
  | 68 => some (pA ds S (.str (dervT n)) (isN2 n ds []∧2 ≤ n.ki.length∧(n.kd = 15→n.ki.length = 3)))
  | 69 => some (pE (β := Sm) ds S (fun s => .str (showM s)) (fun s => isS s ds []∧qs s))
  | k => conWd q k ds S
theorem conShn_ok {n:Nd} {q:Nd→Prop} {qs:Sm→Prop} (ho:n.ok) (h:∀ b,q b→RShow b) (hq:∀ b ∈ n.ki,q b) (hs:∀ s,qs s→q s.nd∧(s.kd = 3→q s.te)∧s.nm.length ≤ maxB):ConOk Tryz.prog (conShn n q qs) := by
  intro k ds S A hh
  unfold conShn at hh
  split at hh
  · injection hh with hh; subst hh
    exact pA_ok fun e => CD.at_ (CD.wk (show CD _ [.agg n.va.row1] _ from (litF_ok n.va (va_ok ho)).mono fun _ _ ⟨_,h1,h2,h3⟩ => ⟨(),trivial,h2,h3⟩) e) _
  · injection hh with hh; subst hh
    exact pA_ok fun e => CD.at_ (CD.wk (pn_ok n.pr) e) _
  · injection hh with hh; subst hh
    exact pA_ok fun e => CD.at_ (CD.wk (on_ok n.op) e) _
  · split at hh
    · injection hh with hh; subst hh
      exact pA_ok fun ⟨e,hm,hl,hj⟩ => CD.at_ (CD.wk (wd_ok q n.ki _ h hq hl (by rw [intsD_len]; exact hm) hj) e) _
    · cases hh
  · injection hh with hh; subst hh
    exact pA_ok fun ⟨e,h2,h3⟩ => CD.at_ (CD.wk (dv_ok q n h hq h2 h3) e) _
  · injection hh with hh; subst hh
    exact pS_ok fun s ⟨e,hb⟩ => CD.at_ (CD.wk (stm_ok q s h (hs s hb).1 (hs s hb).2.1 (hs s hb).2.2) e) _
  · exact conWd_ok h _ _ _ _ hh
theorem cls_arg2 {d:D} {m:Nat} {f:Nat→List D} {md:Ab.Mode} (h:IntsP m f):wkL [d,.sl 1 m f md] [d,isl (intsD m f) .any] := by
  simp only [wkL]
  refine ⟨wkD_refl _,?_,trivial⟩
  simp only [isl,wkD,chk_iff]
  refine ⟨by simp,by simp [intsD_len],fun i hi => ?_,by simp [weakM]⟩
  have e:(intsD m f).getD i 0 = intD (f i) := by simp [intsD,List.getD_eq_getElem?_getD,hi]
  rw [e,h i hi]
  exact wkL_refl _
noncomputable def Eshn (n:Nd) (q:Nd→Prop) (qs:Sm→Prop):Senv := { EC (conShn n q qs) 111 4 [5,7,8,13,17,19,21,23,25,27,29,34,39,45,60,83,89,95,96,97,98] (fun id => match id with | 25 => ([0,1,2,3,7,8,9,10,4,5,6,11,12,13],[4,5,11]) | 27 => ([0,1,2,3,7,8,9,10,15,16,17,18,4,5,6,11,12,13,14,19,20,21],[4,5,11,12,19]) | _ => ([],[])) with
  mg := fun _ => 2
  gh := fun b => match b with
    | 1 => [.slot 3]
    | _ => []
  ann := fun b _ S => match b with
    | 1 => some { slots := [97,3],keep := [0,1,95,96],α := Nat × Nat × List (List UInt8),st := fun y => ([.int .i64 y.1,ssl y.2.2 (.tok 0 y.2.1)],⟨S.objs,[(0,y.2.1)]⟩),inv := fun y => y.1 ≤ n.bo.length∧y.2.2 = (n.bo.take y.1).map showM,mu := fun y => n.bo.length - y.1 }
    | _ => none }
noncomputable section
def ye2q0 (p0:Nd):Int := Nd.kd p0
def ye2q1 (p0:Nd):Arr := Nd.va p0
def ye2q2 (p0:Nd):Int := Arr.k (ye2q1 p0)
def ye2q3 (p0:Nd):D := ZI (ye2q2 p0)
def ye2q4 (p0:Nd):List Int := Arr.sh (ye2q1 p0)
def ye2q5 (p0:Nd):Nat := LN (ye2q4 p0)
def ye2q6 (p0:Nd) (p1:Nat):List D := [ZI (GI (ye2q4 p0) p1)]
def ye2q7 (p0:Nd):D := D.sl N1 (ye2q5 p0) (fun (i:Nat) => ye2q6 p0 i) Mode.any
def ye2q8 (p0:Nd):List Int := Arr.nu (ye2q1 p0)
def ye2q9 (p0:Nd):Nat := LN (ye2q8 p0)
def ye2q10 (p0:Nd) (p1:Nat):List D := [ZI (GI (ye2q8 p0) p1)]
def ye2q11 (p0:Nd):D := D.sl N1 (ye2q9 p0) (fun (i:Nat) => ye2q10 p0 i) Mode.any
def ye2q12 (p0:Nd):List Arr := Arr.it (ye2q1 p0)
def ye2q13 (p0:Nd):Nat := LN (ye2q12 p0)
def ye2q14:Arr := DA
def ye2q15 (p0:Nd) (p1:Nat):List D := Arr.row (List.getD (ye2q12 p0) p1 ye2q14)
def ye2q16 (p0:Nd):D := D.sl N4 (ye2q13 p0) (fun (i:Nat) => ye2q15 p0 i) Mode.any
def ye2q17 (p0:Nd):List D := [D.agg [ye2q3 p0,ye2q7 p0,ye2q11 p0,ye2q16 p0]]
def ye2q18 (p0:Nd):List UInt8 := showN p0
def ye2q19:Prop := True∧True
def ye2q20 (p0:Nd):List UInt8 := Nd.tx p0
def ye2q21 (p0:Nd):Int := Nd.pr p0
def ye2q22 (p0:Nd):Int := Nd.op p0
def ye2q23 (p0:Nd):List Nd := Nd.ki p0
def ye2q24 (p0:Nd):Nat := LN (ye2q23 p0)
def ye2q25:Nd := Nd.mk Z0 Z0 Z0 [] Z0 Z0 ye2q14 [] [] Z0 Z0 Z0
def ye2q26 (p0:Nd) (p1:Nat):List D := Nd.row1 (List.getD (ye2q23 p0) p1 ye2q25)
def ye2q27 (p0:Nd):D := D.sl (15:Nat) (ye2q24 p0) (fun (i:Nat) => ye2q26 p0 i) Mode.any
def ye2q28:List (List D) := [[ZI (4:Int)],[ZI (5:Int)]]
def ye2q29 (p0:Nat):List D := List.getD ([ZI (3:Int)] :: ye2q28) p0 []
def ye2q30:List Int := intsD (3:Nat) fun (i:Nat) => ye2q29 i
def ye2q31 (p0:Nd):List UInt8 := Lib.join (List.map (withN ye2q30) (ye2q23 p0)) [(32:UInt8)]
def ye2q32 (p0:Nd):Int := (NI (ye2q24 p0))
def ye2q33 (p0:Nat) (p1:Nd):Prop := SM p0∧SM (ye2q27 p1)
def ye2q34 (p0:Nd):Nd := List.getD (ye2q23 p0) N0 ye2q25
def ye2q35 (p0:Nd):Arr := Nd.va (ye2q34 p0)
def ye2q36 (p0:Nd):List Int := Arr.sh (ye2q35 p0)
def ye2q37 (p0:Nd):List Int := Arr.nu (ye2q35 p0)
def ye2q38 (p0:Nd):List Arr := Arr.it (ye2q35 p0)
def ye2q39 (p0:Nd):List Nd := Nd.ki (ye2q34 p0)
def ye2q40 (p0:Nd):List Sm := Nd.bo (ye2q34 p0)
def ye2q41:Sm := Sm.mk Z0 Z0 [] Z0 ye2q25 ye2q25
def ye2q42:List Int := intsD N1 fun (i:Nat) => List.getD [[ZI (16:Int)]] i []
def ye2q43 (p0 p1:Nd) (p2:Nd→Prop):Prop := wkL [D.agg [ZI (Nd.kd (ye2q34 p0)),ZI (Nd.at_ (ye2q34 p0)),ZI (Nd.cl (ye2q34 p0)),D.str (Nd.tx (ye2q34 p0)),ZI (Nd.pr (ye2q34 p0)),ZI (Nd.op (ye2q34 p0)),ZI (Arr.k (ye2q35 p0)),SI (ye2q36 p0),SI (ye2q37 p0),D.sl N4 (LN (ye2q38 p0)) (fun (i:Nat) => Arr.row (List.getD (ye2q38 p0) i ye2q14)) Mode.any,D.sl (15:Nat) (LN (ye2q39 p0)) (fun (i:Nat) => Nd.row (List.getD (ye2q39 p0) i ye2q25)) Mode.any,D.sl (34:Nat) (LN (ye2q40 p0)) (fun (i:Nat) => Sm.row (List.getD (ye2q40 p0) i ye2q41)) Mode.any,ZI (Nd.de (ye2q34 p0)),ZI (Nd.sl (ye2q34 p0)),ZI (Nd.ss (ye2q34 p0))],D.sl N1 N1 (fun (i:Nat) => List.getD [[ZI (16:Int)]] i []) Mode.full] [D.agg (Nd.row1 p1),SI ye2q42]∧N1 ≤ (9223372036854775807:Nat)∧p2 p1
def ye2q44 (p0:Nd):List UInt8 := withN ye2q42 p0
def ye2q45 (p0:Nd):Nat := LN (ye2q44 p0)
def ye2q46 (p0:Nd):Nd := List.getD (ye2q23 p0) N1 ye2q25
def ye2q47 (p0:Nd):Arr := Nd.va (ye2q46 p0)
def ye2q48 (p0:Nd):List Int := Arr.sh (ye2q47 p0)
def ye2q49 (p0:Nd):List Int := Arr.nu (ye2q47 p0)
def ye2q50 (p0:Nd):List Arr := Arr.it (ye2q47 p0)
def ye2q51 (p0:Nd):List Nd := Nd.ki (ye2q46 p0)
def ye2q52 (p0:Nd):List Sm := Nd.bo (ye2q46 p0)
def ye2q53 (p0:Nd):D := D.agg [ZI (Nd.kd (ye2q46 p0)),ZI (Nd.at_ (ye2q46 p0)),ZI (Nd.cl (ye2q46 p0)),D.str (Nd.tx (ye2q46 p0)),ZI (Nd.pr (ye2q46 p0)),ZI (Nd.op (ye2q46 p0)),ZI (Arr.k (ye2q47 p0)),SI (ye2q48 p0),SI (ye2q49 p0),D.sl N4 (LN (ye2q50 p0)) (fun (i:Nat) => Arr.row (List.getD (ye2q50 p0) i ye2q14)) Mode.any,D.sl (15:Nat) (LN (ye2q51 p0)) (fun (i:Nat) => Nd.row (List.getD (ye2q51 p0) i ye2q25)) Mode.any,D.sl (34:Nat) (LN (ye2q52 p0)) (fun (i:Nat) => Sm.row (List.getD (ye2q52 p0) i ye2q41)) Mode.any,ZI (Nd.de (ye2q46 p0)),ZI (Nd.sl (ye2q46 p0)),ZI (Nd.ss (ye2q46 p0))]
def ye2q54 (p0:Nd):List UInt8 := ye2q44 p0 ++ [(32:UInt8)]
def ye2q55 (p0:Nat):List D := List.getD ye2q28 p0 []
def ye2q56:List Int := intsD N2 fun (i:Nat) => ye2q55 i
def ye2q57 (p0 p1:Nd) (p2:Nd→Prop):Prop := wkL [ye2q53 p0,D.sl N1 N2 (fun (i:Nat) => ye2q55 i) Mode.full] [D.agg (Nd.row1 p1),SI ye2q56]∧N2 ≤ (9223372036854775807:Nat)∧p2 p1
def ye2q58 (p0:Nd):List UInt8 := withN ye2q56 p0
def ye2q59 (p0:Nd):Nat := LN (ye2q58 p0) + N1
def ye2q60 (p0:Nd):List UInt8 := ye2q58 p0 ++ [(32:UInt8)]
def ye2q61 (p0 p1:Nd):List UInt8 := ye2q60 p0 ++ ye2q44 p1
def ye2q62 (p0:Nd):Nd := List.getD (ye2q23 p0) N2 ye2q25
def ye2q63 (p0:Nd):Arr := Nd.va (ye2q62 p0)
def ye2q64 (p0:Nd):List Int := Arr.sh (ye2q63 p0)
def ye2q65 (p0:Nd):List Int := Arr.nu (ye2q63 p0)
def ye2q66 (p0:Nd):List Arr := Arr.it (ye2q63 p0)
def ye2q67 (p0:Nd):List Nd := Nd.ki (ye2q62 p0)
def ye2q68 (p0:Nd):List Sm := Nd.bo (ye2q62 p0)
def ye2q69 (p0 p1:Nd):List UInt8 := ye2q61 p0 p1 ++ [(32:UInt8)]
def ye2q70 (p0:Nd) (p1:Nd→Prop) (p2:Nat) (p3:Nd):Prop := ∃ (x:Nd),ye2q43 p0 x p1∧∀ (_y:Unit),True→ye2q33 p2 p0∧side (LN (ye2q60 p3) + ye2q45 x ≤ (9223372036854775807:Nat)) (side (LN (ye2q61 p3 x) + N1 ≤ (9223372036854775807:Nat)) (∃ (x_1:Nd),(isN x_1 [D.agg [ZI (Nd.kd (ye2q62 p0)),ZI (Nd.at_ (ye2q62 p0)),ZI (Nd.cl (ye2q62 p0)),D.str (Nd.tx (ye2q62 p0)),ZI (Nd.pr (ye2q62 p0)),ZI (Nd.op (ye2q62 p0)),ZI (Arr.k (ye2q63 p0)),SI (ye2q64 p0),SI (ye2q65 p0),D.sl N4 (LN (ye2q66 p0)) (fun (i:Nat) => Arr.row (List.getD (ye2q66 p0) i ye2q14)) Mode.any,D.sl (15:Nat) (LN (ye2q67 p0)) (fun (i:Nat) => Nd.row (List.getD (ye2q67 p0) i ye2q25)) Mode.any,D.sl (34:Nat) (LN (ye2q68 p0)) (fun (i:Nat) => Sm.row (List.getD (ye2q68 p0) i ye2q41)) Mode.any,ZI (Nd.de (ye2q62 p0)),ZI (Nd.sl (ye2q62 p0)),ZI (Nd.ss (ye2q62 p0))]] []∧p1 x_1)∧∀ (_y:Unit),True→side (LN (ye2q69 p3 x) + LN (ye2q18 x_1) ≤ (9223372036854775807:Nat)) (True∧∃ (_y:Unit),True∧ye2q69 p3 x ++ ye2q18 x_1 = ye2q18 p0∧ye2q19)))
def ye2q71 (p0:Nat) (p1:Nd) (p2:Nd→Prop):Prop := ye2q33 p0 p1∧ye2q33 p0 p1∧ye2q33 p0 p1∧∃ (x:Nd),ye2q57 p1 x p2∧∀ (_y:Unit),True→ye2q33 p0 p1∧ye2q33 p0 p1∧side (ye2q59 x ≤ (9223372036854775807:Nat)) (ye2q70 p1 p2 p0 x)
def ye2q72 (p0:Nat):List D := List.getD [[ZI (4:Int)],[ZI (5:Int)],[ZI (16:Int)]] p0 []
def ye2q73:List Int := intsD (3:Nat) fun (i:Nat) => ye2q72 i
def ye2q74 (p0:Nd):List UInt8 := Lib.join (List.map (withN ye2q73) (ye2q23 p0)) [(32:UInt8)]
def ye2q75 (p0:Nd):Int := Nd.at_ p0
def ye2q76 (p0:Nd):Int := Nd.cl p0
def ye2q77 (p0:Nd):List Sm := Nd.bo p0
def ye2q78 (p0:Nd):Nat := LN (ye2q77 p0)
def ye2q79 (p0:Nd) (p1:Nat):Sm := List.getD (ye2q77 p0) p1 ye2q41
def ye2q80 (p0:Nd) (p1:Nat):Nd := Sm.te (ye2q79 p0 p1)
def ye2q81 (p0:Nd) (p1:Nat):Arr := Nd.va (ye2q80 p0 p1)
def ye2q82 (p0:Nd) (p1:Nat):List Int := Arr.sh (ye2q81 p0 p1)
def ye2q83 (p0:Nd) (p1:Nat):List Int := Arr.nu (ye2q81 p0 p1)
def ye2q84 (p0:Nd) (p1:Nat):List Arr := Arr.it (ye2q81 p0 p1)
def ye2q85 (p0:Nd) (p1:Nat):List Nd := Nd.ki (ye2q80 p0 p1)
def ye2q86 (p0:Nd) (p1:Nat):List Sm := Nd.bo (ye2q80 p0 p1)
def ye2q87 (p0:Nd) (p1:Nat):Nd := Sm.nd (ye2q79 p0 p1)
def ye2q88 (p0:Nd) (p1:Nat):Arr := Nd.va (ye2q87 p0 p1)
def ye2q89 (p0:Nd) (p1:Nat):List Int := Arr.sh (ye2q88 p0 p1)
def ye2q90 (p0:Nd) (p1:Nat):List Int := Arr.nu (ye2q88 p0 p1)
def ye2q91 (p0:Nd) (p1:Nat):List Arr := Arr.it (ye2q88 p0 p1)
def ye2q92 (p0:Nd) (p1:Nat):List Nd := Nd.ki (ye2q87 p0 p1)
def ye2q93 (p0:Nd) (p1:Nat):List Sm := Nd.bo (ye2q87 p0 p1)
def ye2q94 (p0:Nd) (p1:Nat):List D := [ZI (Sm.kd (ye2q79 p0 p1)),ZI (Sm.at_ (ye2q79 p0 p1)),D.str (Sm.nm (ye2q79 p0 p1)),ZI (Sm.sl (ye2q79 p0 p1)),ZI (Nd.kd (ye2q80 p0 p1)),ZI (Nd.at_ (ye2q80 p0 p1)),ZI (Nd.cl (ye2q80 p0 p1)),D.str (Nd.tx (ye2q80 p0 p1)),ZI (Nd.pr (ye2q80 p0 p1)),ZI (Nd.op (ye2q80 p0 p1)),ZI (Arr.k (ye2q81 p0 p1)),SI (ye2q82 p0 p1),SI (ye2q83 p0 p1),D.sl N4 (LN (ye2q84 p0 p1)) (fun (i:Nat) => Arr.row (List.getD (ye2q84 p0 p1) i ye2q14)) Mode.any,D.sl (15:Nat) (LN (ye2q85 p0 p1)) (fun (i:Nat) => Nd.row (List.getD (ye2q85 p0 p1) i ye2q25)) Mode.any,D.sl (34:Nat) (LN (ye2q86 p0 p1)) (fun (i:Nat) => Sm.row (List.getD (ye2q86 p0 p1) i ye2q41)) Mode.any,ZI (Nd.de (ye2q80 p0 p1)),ZI (Nd.sl (ye2q80 p0 p1)),ZI (Nd.ss (ye2q80 p0 p1)),ZI (Nd.kd (ye2q87 p0 p1)),ZI (Nd.at_ (ye2q87 p0 p1)),ZI (Nd.cl (ye2q87 p0 p1)),D.str (Nd.tx (ye2q87 p0 p1)),ZI (Nd.pr (ye2q87 p0 p1)),ZI (Nd.op (ye2q87 p0 p1)),ZI (Arr.k (ye2q88 p0 p1)),SI (ye2q89 p0 p1),SI (ye2q90 p0 p1),D.sl N4 (LN (ye2q91 p0 p1)) (fun (i:Nat) => Arr.row (List.getD (ye2q91 p0 p1) i ye2q14)) Mode.any,D.sl (15:Nat) (LN (ye2q92 p0 p1)) (fun (i:Nat) => Nd.row (List.getD (ye2q92 p0 p1) i ye2q25)) Mode.any,D.sl (34:Nat) (LN (ye2q93 p0 p1)) (fun (i:Nat) => Sm.row (List.getD (ye2q93 p0 p1) i ye2q41)) Mode.any,ZI (Nd.de (ye2q87 p0 p1)),ZI (Nd.sl (ye2q87 p0 p1)),ZI (Nd.ss (ye2q87 p0 p1))]
def ye2q95 (p0:Nd):D := D.sl (34:Nat) (ye2q78 p0) (fun (i:Nat) => ye2q94 p0 i) Mode.any
def ye2q96 (p0:Nd):Int := Nd.de p0
def ye2q97 (p0:Nd):Int := Nd.sl p0
def ye2q98 (p0:Nd):Int := Nd.ss p0
def ye2q99 (p0:Nd):D := D.agg [ZI (ye2q0 p0),ZI (ye2q75 p0),ZI (ye2q76 p0),D.str (ye2q20 p0),ZI (ye2q21 p0),ZI (ye2q22 p0),ye2q3 p0,ye2q7 p0,ye2q11 p0,ye2q16 p0,ye2q27 p0,ye2q95 p0,ZI (ye2q96 p0),ZI (ye2q97 p0),ZI (ye2q98 p0)]
def ye2q100 (p0:Nat) (p1:Nd):Prop := SM p0∧∃ (_x:Unit),(isN2 p1 [ye2q99 p1] []∧N2 ≤ ye2q24 p1∧(ye2q0 p1 = (15:Int)→ye2q24 p1 = (3:Nat)))∧∀ (_y:Unit),True→True∧∃ (_y:Unit),True∧dervT p1 = ye2q18 p1∧ye2q19
def ye2q101 (p0:Nat) (p1:Nd) (p2:List (List UInt8)):Prop := p0 ≤ ye2q78 p1∧p2 = List.map showM (List.take p0 (ye2q77 p1))
def ye2q102 (p0:List (List UInt8)) (p1:Nat):List D := [D.str (List.getD p0 p1 [])]
def ye2q103 (p0:Nat) (p1:Nd) (p2 p3:Nat):Prop := (SM p0∧(SM (ye2q0 p1)∧SM (ye2q75 p1)∧SM (ye2q76 p1)∧SM (ye2q20 p1)∧SM (ye2q21 p1)∧SM (ye2q22 p1)∧SM (ye2q2 p1)∧(SM (ye2q5 p1)∧(∀ (i:Nat),i < ye2q5 p1→SM (ye2q6 p1 i))∧True)∧(SM (ye2q9 p1)∧(∀ (i:Nat),i < ye2q9 p1→SM (ye2q10 p1 i))∧True)∧(SM (ye2q13 p1)∧(∀ (i:Nat),i < ye2q13 p1→SM (ye2q15 p1 i))∧True)∧(SM (ye2q24 p1)∧(∀ (i:Nat),i < ye2q24 p1→SM (ye2q26 p1 i))∧True)∧(SM (ye2q78 p1)∧(∀ (i:Nat),i < ye2q78 p1→SM (ye2q94 p1 i))∧True)∧SM (ye2q96 p1)∧SM (ye2q97 p1)∧SM (ye2q98 p1)∧True)∧True)∧p2 = p3∧True
def ye2q104 (p0:Nd):Int := (NI (ye2q78 p0))
def ye2q105 (p0:Nd) (p1:Nat):Sm := List.getD (ye2q77 p0) (Int.toNat (↑p1:Int)) ye2q41
def ye2q106 (p0:Nd) (p1:Nat):Nd := Sm.te (ye2q105 p0 p1)
def ye2q107 (p0:Nd) (p1:Nat):Arr := Nd.va (ye2q106 p0 p1)
def ye2q108 (p0:Nd) (p1:Nat):List Int := Arr.sh (ye2q107 p0 p1)
def ye2q109 (p0:Nd) (p1:Nat):List Int := Arr.nu (ye2q107 p0 p1)
def ye2q110 (p0:Nd) (p1:Nat):List Arr := Arr.it (ye2q107 p0 p1)
def ye2q111 (p0:Nd) (p1:Nat):List Nd := Nd.ki (ye2q106 p0 p1)
def ye2q112 (p0:Nd) (p1:Nat):List Sm := Nd.bo (ye2q106 p0 p1)
def ye2q113 (p0:Nd) (p1:Nat):Nd := Sm.nd (ye2q105 p0 p1)
def ye2q114 (p0:Nd) (p1:Nat):Arr := Nd.va (ye2q113 p0 p1)
def ye2q115 (p0:Nd) (p1:Nat):List Int := Arr.sh (ye2q114 p0 p1)
def ye2q116 (p0:Nd) (p1:Nat):List Int := Arr.nu (ye2q114 p0 p1)
def ye2q117 (p0:Nd) (p1:Nat):List Arr := Arr.it (ye2q114 p0 p1)
def ye2q118 (p0:Nd) (p1:Nat):List Nd := Nd.ki (ye2q113 p0 p1)
def ye2q119 (p0:Nd) (p1:Nat):List Sm := Nd.bo (ye2q113 p0 p1)
def ye2q120 (p0:List (List UInt8)):List (List UInt8) := strsOf (LN p0) fun (i:Nat) => ye2q102 p0 i
def ye2q121 (p0:List (List UInt8)):List UInt8 := Lib.join (ye2q120 p0) [(32:UInt8),(59:UInt8),(32:UInt8)]
def ye2q122 (p0:List (List UInt8)):List UInt8 := List.append [] (ye2q121 p0)
def ye2q123 (p0:Nat) (p1:Nd) (p2:Sm→Prop):Prop := SM p0∧∀ (t:Nat),(∃ (x:Nat × Nat × List (List UInt8)),ye2q101 x.1 p1 x.2.2∧(Z0 = (NI x.1)∧(N0 = LN x.2.2∧(∀ (i:Nat),i < N0→eqOf (List D) [] (ye2q102 x.2.2 i))∧t = x.2.1)∧True)∧ye2q103 p0 p1 t x.2.1)∧∀ (x:Nat × Nat × List (List UInt8)),ye2q101 x.1 p1 x.2.2→ifB (decide ((NI x.1) < ye2q104 p1)) (side (Z0 ≤ (NI x.1)∧(NI x.1) < ye2q104 p1) (∀ (x_1:Nat),p0 ≠ x_1∧True→SM x_1∧SM x_1∧∃ (x_2:Sm),(isS x_2 [D.agg [ZI (Sm.kd (ye2q105 p1 x.1)),ZI (Sm.at_ (ye2q105 p1 x.1)),D.str (Sm.nm (ye2q105 p1 x.1)),ZI (Sm.sl (ye2q105 p1 x.1)),ZI (Nd.kd (ye2q106 p1 x.1)),ZI (Nd.at_ (ye2q106 p1 x.1)),ZI (Nd.cl (ye2q106 p1 x.1)),D.str (Nd.tx (ye2q106 p1 x.1)),ZI (Nd.pr (ye2q106 p1 x.1)),ZI (Nd.op (ye2q106 p1 x.1)),ZI (Arr.k (ye2q107 p1 x.1)),SI (ye2q108 p1 x.1),SI (ye2q109 p1 x.1),D.sl N4 (LN (ye2q110 p1 x.1)) (fun (i:Nat) => Arr.row (List.getD (ye2q110 p1 x.1) i ye2q14)) Mode.any,D.sl (15:Nat) (LN (ye2q111 p1 x.1)) (fun (i:Nat) => Nd.row (List.getD (ye2q111 p1 x.1) i ye2q25)) Mode.any,D.sl (34:Nat) (LN (ye2q112 p1 x.1)) (fun (i:Nat) => Sm.row (List.getD (ye2q112 p1 x.1) i ye2q41)) Mode.any,ZI (Nd.de (ye2q106 p1 x.1)),ZI (Nd.sl (ye2q106 p1 x.1)),ZI (Nd.ss (ye2q106 p1 x.1)),ZI (Nd.kd (ye2q113 p1 x.1)),ZI (Nd.at_ (ye2q113 p1 x.1)),ZI (Nd.cl (ye2q113 p1 x.1)),D.str (Nd.tx (ye2q113 p1 x.1)),ZI (Nd.pr (ye2q113 p1 x.1)),ZI (Nd.op (ye2q113 p1 x.1)),ZI (Arr.k (ye2q114 p1 x.1)),SI (ye2q115 p1 x.1),SI (ye2q116 p1 x.1),D.sl N4 (LN (ye2q117 p1 x.1)) (fun (i:Nat) => Arr.row (List.getD (ye2q117 p1 x.1) i ye2q14)) Mode.any,D.sl (15:Nat) (LN (ye2q118 p1 x.1)) (fun (i:Nat) => Nd.row (List.getD (ye2q118 p1 x.1) i ye2q25)) Mode.any,D.sl (34:Nat) (LN (ye2q119 p1 x.1)) (fun (i:Nat) => Sm.row (List.getD (ye2q119 p1 x.1) i ye2q41)) Mode.any,ZI (Nd.de (ye2q113 p1 x.1)),ZI (Nd.sl (ye2q113 p1 x.1)),ZI (Nd.ss (ye2q113 p1 x.1))]] []∧p2 x_2)∧∀ (_y:Unit),True→SM x.2.1∧side ((LN x.2.2 + N1) * (16:Nat) ≤ (140737488355328:Nat)∧LN x.2.2 + N1 ≤ (9223372036854775807:Nat)) (∀ (t:Nat),(SM (ye2q99 p1)∧SM (D.ref N0 p0 N0)∧SM (ye2q95 p1)∧SM (ZI (ye2q104 p1))∧True)∧∃ (y:Nat × Nat × List (List UInt8)),ye2q101 y.1 p1 y.2.2∧ye2q78 p1 - y.1 < ye2q78 p1 - x.1∧(IntKind.wrap IntKind.i64 ((NI x.1) + Z1) = (NI y.1)∧(LN x.2.2 + N1 = LN y.2.2∧(∀ (i:Nat),i < LN x.2.2 + N1→appF (LN x.2.2) (fun (i:Nat) => ye2q102 x.2.2 i) (fun (i:Nat) => [D.str (List.getD [showM x_2] i [])]) i = ye2q102 y.2.2 i)∧t = y.2.1)∧True)∧ye2q103 p0 p1 t y.2.1))) (((strsB (LN x.2.2) fun (i:Nat) => ye2q102 x.2.2 i) = true∧joinOk (ye2q120 x.2.2) [(32:UInt8),(59:UInt8),(32:UInt8)])∧∀ (_y:Unit),True→side (N2 + LN (ye2q121 x.2.2) ≤ (9223372036854775807:Nat)) (side (LN ((123:UInt8) :: (32:UInt8) :: ye2q122 x.2.2) + N2 ≤ (9223372036854775807:Nat)) (True∧∃ (_y:Unit),True∧(123:UInt8) :: (32:UInt8) :: List.append (ye2q122 x.2.2) [(32:UInt8),(125:UInt8)] = ye2q18 p1∧ye2q19)))
end
theorem sh_step (n : Nd) (q : Nd → Prop) (qs : Sm → Prop) (hv : nodeV n = true) (ho : n.ok) (hz : szN n ≤ 16384) (h : ∀ b, q b → RShow b) (hq : ∀ b ∈ n.ki, q b) (hs : ∀ s, qs s → q s.nd ∧ (s.kd = 3 → q s.te) ∧ s.nm.length ≤ maxB) (hqs : n.kd = 10 → ∀ s ∈ n.bo, qs s) :
    CD 44 [.agg n.row2] (.str (showN n)) := by
  refine con_of (A := sC _ _) (x := ()) (E := Eshn n q qs) (eOk (conShn_ok ho h hq hs) rfl) Tryz.func44 rfl (by kernel_rfl) rfl (by simp [sC,Eshn,EC,E0]) ?_
  refine vc_eq (T :=
    ∀ (x:Nat),True→SM x∧ifB (ye2q0 n == Z1) (SM x∧∃ (x:Unit),wkL (ye2q17 n) (ye2q17 n)∧∀ (y:Unit),True→True∧∃ (y:Unit),True∧litF (ye2q1 n) = ye2q18 n∧ye2q19) (ifB (ye2q0 n == (2:Int)) (SM x∧True∧∃ (y:Unit),True∧ye2q20 n = ye2q18 n∧ye2q19) (ifB (ye2q0 n == (6:Int)) (True∧∃ (y:Unit),True∧[(88:UInt8)] = ye2q18 n∧ye2q19) (ifB (ye2q0 n == (7:Int)) (True∧∃ (y:Unit),True∧[(89:UInt8)] = ye2q18 n∧ye2q19) (ifB (ye2q0 n == (8:Int)) (True∧∃ (y:Unit),True∧[(97:UInt8),(114:UInt8),(103:UInt8)] = ye2q18 n∧ye2q19) (ifB (ye2q0 n == (11:Int)) (True∧∃ (y:Unit),True∧[(115:UInt8),(101:UInt8),(108:UInt8),(102:UInt8)] = ye2q18 n∧ye2q19) (ifB (ye2q0 n == (12:Int)) (True∧∃ (y:Unit),True∧[(70:UInt8)] = ye2q18 n∧ye2q19) (ifB (ye2q0 n == (13:Int)) (True∧∃ (y:Unit),True∧[(71:UInt8)] = ye2q18 n∧ye2q19) (ifB (ye2q0 n == (9:Int)) (SM x∧∃ (x:Unit),wkL [ZI (ye2q21 n)] [ZI (ye2q21 n)]∧∀ (y:Unit),True→True∧∃ (y:Unit),True∧primT (ye2q21 n) = ye2q18 n∧ye2q19) (ifB (ye2q0 n == (17:Int)) (SM x∧∃ (x:Unit),wkL [ZI (ye2q22 n)] [ZI (ye2q22 n)]∧∀ (y:Unit),True→True∧∃ (y:Unit),True∧opT (ye2q22 n) = ye2q18 n∧ye2q19) (ifB (ye2q0 n == (3:Int)) (SM x∧∃ (x:Unit),(wkL [ye2q27 n,D.sl N1 (3:Nat) (fun (i:Nat) => ye2q29 i) Mode.full] [ye2q27 n,SI ye2q30]∧(3:Nat) ≤ (9223372036854775807:Nat)∧ye2q24 n ≤ (1000000:Nat)∧LN (ye2q31 n) ≤ (20000000000000:Nat))∧∀ (y:Unit),True→True∧∃ (y:Unit),True∧ye2q31 n = ye2q18 n∧ye2q19) (ifB (ye2q0 n == (4:Int)) (SM x∧side (Z0 ≤ Z0∧Z0 < ye2q32 n) (SM x∧side (Z0 ≤ Z1∧Z1 < ye2q32 n) (ye2q33 x n∧ye2q33 x n∧∃ (x_1:Nd),ye2q43 n x_1 q∧∀ (y:Unit),True→ye2q33 x n∧side (ye2q45 x_1 + N1 ≤ (9223372036854775807:Nat)) (∃ (x:Nd),(isN x [ye2q53 n] []∧q x)∧∀ (y:Unit),True→side (LN (ye2q54 x_1) + LN (ye2q18 x) ≤ (9223372036854775807:Nat)) (True∧∃ (y:Unit),True∧ye2q54 x_1 ++ ye2q18 x = ye2q18 n∧ye2q19))))) (ifB (ye2q0 n == (5:Int)) (SM x∧side (Z0 ≤ Z1∧Z1 < ye2q32 n) (SM x∧side (Z0 ≤ Z0∧Z0 < ye2q32 n) (SM x∧side (Z0 ≤ (2:Int)∧(2:Int) < ye2q32 n) ((ye2q33 x n∧ye2q33 x n∧ye2q33 x n∧(∃ (x_1:Nd),ye2q57 n x_1 q∧∀ (y:Unit),True→ye2q33 x n∧ye2q33 x n∧side (ye2q59 x_1 ≤ (9223372036854775807:Nat)) (ye2q33 x n∧ye2q33 x n∧ye2q70 n q x x_1))∧ye2q71 x n q)∧ye2q33 x n∧ye2q33 x n∧ye2q33 x n∧ye2q71 x n q)))) (ifB (ye2q0 n == (16:Int)) (SM x∧∃ (x:Unit),(wkL [ye2q27 n,D.sl N1 (3:Nat) (fun (i:Nat) => ye2q72 i) Mode.full] [ye2q27 n,SI ye2q73]∧(3:Nat) ≤ (9223372036854775807:Nat)∧ye2q24 n ≤ (1000000:Nat)∧LN (ye2q74 n) ≤ (20000000000000:Nat))∧∀ (y:Unit),True→True∧∃ (y:Unit),True∧ye2q74 n = ye2q18 n∧ye2q19) (ifB (ye2q0 n == (14:Int)) (ifB (ye2q0 n == (14:Int)) (ye2q100 x n) (ye2q123 x n qs)) (ifB (ye2q0 n == (15:Int)) (ye2q100 x n) (ye2q123 x n qs))))))))))))))))) (by kernel_rfl) ?_
  delta DA GI LN N0 N1 N2 N4 NI SI SM Z0 Z1 ZI ye2q0 ye2q1 ye2q10 ye2q100 ye2q101 ye2q102 ye2q103 ye2q104 ye2q105 ye2q106 ye2q107 ye2q108 ye2q109 ye2q11 ye2q110 ye2q111 ye2q112 ye2q113 ye2q114 ye2q115 ye2q116 ye2q117 ye2q118 ye2q119 ye2q12 ye2q120 ye2q121 ye2q122 ye2q123 ye2q13 ye2q14 ye2q15 ye2q16 ye2q17 ye2q18 ye2q19 ye2q2 ye2q20 ye2q21 ye2q22 ye2q23 ye2q24 ye2q25 ye2q26 ye2q27 ye2q28 ye2q29 ye2q3 ye2q30 ye2q31 ye2q32 ye2q33 ye2q34 ye2q35 ye2q36 ye2q37 ye2q38 ye2q39 ye2q4 ye2q40 ye2q41 ye2q42 ye2q43 ye2q44 ye2q45 ye2q46 ye2q47 ye2q48 ye2q49 ye2q5 ye2q50 ye2q51 ye2q52 ye2q53 ye2q54 ye2q55 ye2q56 ye2q57 ye2q58 ye2q59 ye2q6 ye2q60 ye2q61 ye2q62 ye2q63 ye2q64 ye2q65 ye2q66 ye2q67 ye2q68 ye2q69 ye2q7 ye2q70 ye2q71 ye2q72 ye2q73 ye2q74 ye2q75 ye2q76 ye2q77 ye2q78 ye2q79 ye2q8 ye2q80 ye2q81 ye2q82 ye2q83 ye2q84 ye2q85 ye2q86 ye2q87 ye2q88 ye2q89 ye2q9 ye2q90 ye2q91 ye2q92 ye2q93 ye2q94 ye2q95 ye2q96 ye2q97 ye2q98 ye2q99
  have dn:(default:Nd) = Nd.mk 0 0 0 [] 0 0 (Arr.mk 0 [] [] []) [] [] 0 0 0 := rfl
  have dm:(default:Sm) = Sm.mk 0 0 [] 0 (Nd.mk 0 0 0 [] 0 0 (Arr.mk 0 [] [] []) [] [] 0 0 0) (Nd.mk 0 0 0 [] 0 0 (Arr.mk 0 [] [] []) [] [] 0 0 0) := rfl
  try simp only [← dm]
  try simp only [← dn]
  simp only [ne_eq,implies_true,Int.toNat_natCast,ifB_iff,side_iff,decide_eq_true_eq,decide_eq_false_iff_not,true_and,and_true,beq_iff_eq,beq_eq_false_iff_ne,exists_const,forall_const,Prod.exists]
  have i1:intsD 1 (fun i => [[D.int IntKind.i64 16]].getD i []) = [16] := rfl
  have i2:intsD 2 (fun i => [[D.int IntKind.i64 4],[D.int IntKind.i64 5]].getD i []) = [4,5] := rfl
  have i3:∀ a b c:Int,intsD 3 (fun i => [[D.int IntKind.i64 a],[D.int IntKind.i64 b],[D.int IntKind.i64 c]].getD i []) = [a,b,c] := fun _ _ _ => rfl
  have p1:IntsP 1 (fun i => [[D.int IntKind.i64 16]].getD i []) := fun i hi => by
    match i,hi with
    | 0,_ => rfl
  have p2:IntsP 2 (fun i => [[D.int IntKind.i64 4],[D.int IntKind.i64 5]].getD i []) := fun i hi => by
    match i,hi with
    | 0,_ => rfl
    | 1,_ => rfl
  have p3:∀ a b c:Int,IntsP 3 (fun i => [[D.int IntKind.i64 a],[D.int IntKind.i64 b],[D.int IntKind.i64 c]].getD i []) := fun _ _ _ i hi => by
    match i,hi with
    | 0,_ => rfl
    | 1,_ => rfl
    | 2,_ => rfl
  obtain ⟨L2,L3,_⟩ := comp_len hv
  have kq:∀ i,i < n.ki.length→q (n.ki.getD i default) := fun i hi => hq _ (nd_getD hi)
  have wl:∀ (ks:List Int) (b:Nd),q b→(withN ks b).length ≤ 20000000000004 := fun ks b hb => by
    have h1 := withT_len ks b.kd (showN b)
    have h2 := (h b hb).2
    unfold withN
    omega
  have sg:∀ i,i < n.ki.length→(showL n.ki).getD i [] = showN (n.ki.getD i default) := fun i hi => showL_getD hi
  have hlen := show_len n hv ho
  have hkl:n.ki.length ≤ szL n.ki := by
    have:∀ l:List Nd,l.length ≤ szL l := fun l => by
      induction l with
      | nil => simp [szL]
      | cons a r ih => have := szN_pos a; simp only [List.length_cons,szL]; omega
    exact this _
  have hsz := szN_eq n
  have hbl:n.bo.length ≤ szB n.bo := by
    have:∀ l:List Sm,l.length ≤ szB l := fun l => by
      induction l with
      | nil => simp [szB]
      | cons a r ih =>
        have := szN_pos a.nd
        have e := szM_eq a
        simp only [List.length_cons,szB]
        split at e <;> omega
    exact this _
  simp only [i1,i2,i3]
  rw [showN_eq] at hlen ⊢
  clear dn dm
  refine fun x => ⟨fun k => ?_,fun n1 => ⟨fun k => ?_,fun n2 => ⟨fun k => ?_,fun n6 => ⟨fun k => ?_,fun n7 => ⟨fun k => ?_,fun n8 => ⟨fun k => ?_,fun n11 => ⟨fun k => ?_,fun n12 => ⟨fun k => ?_,fun n13 => ⟨fun k => ?_,fun n9 => ⟨fun k => ?_,fun n17 => ⟨fun k => ?_,fun n3 => ⟨fun k => ?_,fun n4 => ⟨fun k => ?_,fun n5 => ⟨fun k => ?_,fun n16 => ⟨fun k => ⟨fun _ => ?_,fun e => (e k).elim⟩,fun n14 => ⟨fun k => ?_,fun n15 => ?_⟩⟩⟩⟩⟩⟩⟩⟩⟩⟩⟩⟩⟩⟩⟩⟩
  · exact ⟨wkL_refl _,by rw [if_pos k]⟩
  · rw [if_neg n1,if_pos k]
  · rw [if_neg n1,if_neg n2,if_pos k]
  · rw [if_neg n1,if_neg n2,if_neg n6,if_pos k]
  · rw [if_neg n1,if_neg n2,if_neg n6,if_neg n7,if_pos k]
  · rw [if_neg n1,if_neg n2,if_neg n6,if_neg n7,if_neg n8,if_pos k]
  · rw [if_neg n1,if_neg n2,if_neg n6,if_neg n7,if_neg n8,if_neg n11,if_pos k]
  · rw [if_neg n1,if_neg n2,if_neg n6,if_neg n7,if_neg n8,if_neg n11,if_neg n12,if_pos k]
  · exact ⟨wkL_refl _,by rw [if_neg n1,if_neg n2,if_neg n6,if_neg n7,if_neg n8,if_neg n11,if_neg n12,if_neg n13,if_pos k]⟩
  · exact ⟨wkL_refl _,by rw [if_neg n1,if_neg n2,if_neg n6,if_neg n7,if_neg n8,if_neg n11,if_neg n12,if_neg n13,if_neg n9,if_pos k]⟩
  · rw [if_neg n1,if_neg n2,if_neg n6,if_neg n7,if_neg n8,if_neg n11,if_neg n12,if_neg n13,if_neg n9,if_neg n17,if_pos k] at hlen ⊢
    exact ⟨⟨cls_arg2 (p3 _ _ _),by omega,by omega,by omega⟩,rfl⟩
  · rw [if_neg n1,if_neg n2,if_neg n6,if_neg n7,if_neg n8,if_neg n11,if_neg n12,if_neg n13,if_neg n9,if_neg n17,if_neg n3,if_pos k]
    have hL:n.ki.length = 2 := L2 (.inl k)
    have q0 := kq 0 (by omega)
    have q1 := kq 1 (by omega)
    have r0 := (h _ q0).2
    have r1 := (h _ q1).2
    have w0 := wl [16] _ q0
    have w1 := wl [4,5] _ q1
    rw [sg 0 (by omega),sg 1 (by omega)]
    repeat' (first
      | refine ⟨n.ki.getD 0 default,⟨cls_arg (r := (n.ki.getD 0 default).row1) p1,by omega,q0⟩,?_⟩
      | refine ⟨n.ki.getD 1 default,⟨cls_arg (r := (n.ki.getD 1 default).row1) p2,by omega,q1⟩,?_⟩
      | refine ⟨n.ki.getD 0 default,⟨nd_self _ _,q0⟩,?_⟩
      | refine ⟨n.ki.getD 1 default,⟨nd_self _ _,q1⟩,?_⟩
      | refine And.intro ?_ ?_)
    all_goals first
      | rfl
      | omega
      | (simp only [List.length_append,List.length_cons,List.length_nil]; omega)
  · rw [if_neg n1,if_neg n2,if_neg n6,if_neg n7,if_neg n8,if_neg n11,if_neg n12,if_neg n13,if_neg n9,if_neg n17,if_neg n3,if_neg n4,if_pos k]
    have hL:n.ki.length = 3 := L3 (.inl k)
    have q0 := kq 0 (by omega)
    have q1 := kq 1 (by omega)
    have r0 := (h _ q0).2
    have r1 := (h _ q1).2
    have w0 := wl [16] _ q0
    have w1 := wl [4,5] _ q1
    have q2 := kq 2 (by omega)
    have r2 := (h _ q2).2
    rw [sg 0 (by omega),sg 1 (by omega),sg 2 (by omega)]
    repeat' (first
      | refine ⟨n.ki.getD 0 default,⟨cls_arg (r := (n.ki.getD 0 default).row1) p1,by omega,q0⟩,?_⟩
      | refine ⟨n.ki.getD 1 default,⟨cls_arg (r := (n.ki.getD 1 default).row1) p2,by omega,q1⟩,?_⟩
      | refine ⟨n.ki.getD 0 default,⟨nd_self _ _,q0⟩,?_⟩
      | refine ⟨n.ki.getD 1 default,⟨nd_self _ _,q1⟩,?_⟩
      | refine ⟨n.ki.getD 2 default,⟨nd_self _ _,q2⟩,?_⟩
      | refine And.intro ?_ ?_)
    all_goals first
      | rfl
      | omega
      | (simp only [List.length_append,List.length_cons,List.length_nil]; omega)
  · rw [if_neg n1,if_neg n2,if_neg n6,if_neg n7,if_neg n8,if_neg n11,if_neg n12,if_neg n13,if_neg n9,if_neg n17,if_neg n3,if_neg n4,if_neg n5,if_pos k] at hlen ⊢
    exact ⟨⟨cls_arg2 (p3 _ _ _),by omega,by omega,by omega⟩,rfl⟩
  · rw [if_neg n1,if_neg n2,if_neg n6,if_neg n7,if_neg n8,if_neg n11,if_neg n12,if_neg n13,if_neg n9,if_neg n17,if_neg n3,if_neg n4,if_neg n5,if_neg n16,if_pos k]
    have hL := (L2 (.inr k))
    refine ⟨⟨nd2_self n _,by omega,fun e => L3 (.inr e)⟩,?_⟩
    unfold dervT
    rw [sg 0 (by omega),sg 1 (by omega),if_neg (by omega)]
    rfl
  · rw [if_neg n1,if_neg n2,if_neg n6,if_neg n7,if_neg n8,if_neg n11,if_neg n12,if_neg n13,if_neg n9,if_neg n17,if_neg n3,if_neg n4,if_neg n5,if_neg n16,if_neg n14,if_pos k]
    have hL := (L3 (.inr k))
    refine ⟨⟨nd2_self n _,by omega,fun e => L3 (.inr e)⟩,?_⟩
    unfold dervT
    rw [sg 0 (by omega),sg 1 (by omega),sg 2 (by omega),if_pos k]
    simp only [List.append_assoc]
    rfl
  · have k10:n.kd = 10 := by
      by_cases hk:n.kd = 10
      · exact hk
      · rcases kind_cases hv hk with hc | ⟨hc,_⟩
        · unfold leafB at hc
          simp [n1,n2,n6,n7,n8,n9,n11,n12,n13,n17] at hc
        · unfold compB at hc
          simp [n3,n4,n5,n14,n15,n16] at hc
    rw [if_neg n1,if_neg n2,if_neg n6,if_neg n7,if_neg n8,if_neg n11,if_neg n12,if_neg n13,if_neg n9,if_neg n17,if_neg n3,if_neg n4,if_neg n5,if_neg n16,if_neg n14,if_neg n15] at hlen ⊢
    refine fun t => ⟨⟨0,t,[],⟨Nat.zero_le _,rfl⟩,⟨rfl,rfl,fun i hi => absurd hi (Nat.not_lt_zero _),rfl⟩,rfl⟩,?_⟩
    rintro ⟨i,tk,out⟩ ⟨hi,hout⟩
    simp only at hi hout ⊢
    have hol:out.length = i := by rw [hout,List.length_map,List.length_take]; omega
    refine ⟨fun hlt => ?_,fun hge => ?_⟩
    · have hlt':i < n.bo.length := by omega
      refine ⟨⟨by omega,hlt⟩,fun _ _ => ⟨n.bo.getD i default,⟨sm_self _ _,hqs k10 _ (sm_getD hlt')⟩,⟨by omega,by omega⟩,fun t2 => ⟨i + 1,t2,out ++ [showM (n.bo.getD i default)],⟨hlt',?_⟩,by omega,⟨?_,by simp,fun j hj => app_str j hj,rfl⟩,rfl⟩⟩⟩
      · rw [take_step hlt',List.map_append,hout]; rfl
      · rw [wrap_i64' (by omega) (by omega)]; rfl
    · have e:i = n.bo.length := by omega
      rw [e,List.take_length] at hout
      have e1:strsOf out.length (fun i => [D.str (out.getD i [])]) = out := strsOf_eq rfl fun _ _ => rfl
      have e2:strsB out.length (fun i => [D.str (out.getD i [])]) = true := strsB_eq rfl fun _ _ => rfl
      rw [e1,hout]
      rw [hout] at e2
      simp only [List.length_append,List.length_cons,List.length_nil] at hlen
      refine ⟨⟨e2,?_,by omega⟩,by omega,?_,?_⟩
      · rw [List.length_map]; omega
      · simp only [List.length_cons,List.append_eq,List.nil_append]; omega
      · rfl
end Go.Proofs.YtjnifeedbgefpaaGreatDoor
namespace Go.Proofs.YtjnifeedbgefpaaGreatDoor
open Go Go.Ab
set_option maxRecDepth 100000
theorem check_zero {n:Nd}:checkN n = 0↔dpN n ≤ 60∧szN n ≤ 16384∧nodeV n = true := by
  unfold checkN
  by_cases h1:60 < dpN n
  · rw [if_pos h1]; exact ⟨fun h => by omega,fun h => by omega⟩
  rw [if_neg h1]
  by_cases h2:16384 < szN n
  · rw [if_pos h2]; exact ⟨fun h => by omega,fun h => by omega⟩
  rw [if_neg h2]
  by_cases h3:nodeV n = true
  · rw [if_pos h3]; exact ⟨fun _ => ⟨by omega,by omega,h3⟩,fun _ => rfl⟩
  · rw [if_neg h3]; exact ⟨fun h => by omega,fun h => (h3 h.2.2).elim⟩
def oneN:Nd := .mk 1 0 1 [] 0 0 (.mk 1 [] [1] []) [] [] 0 0 0
end Go.Proofs.YtjnifeedbgefpaaGreatDoor
namespace Go.Proofs.YtjnifeedbgefpaaGreatDoor
open Go Go.Ab
set_option maxRecDepth 100000
theorem sm_nm {s:Sm} (h:s.sm):s.nm.length ≤ maxB := by
  cases s with
  | mk kd at_ nm sl te nd =>
    simp only [Sm.sm] at h
    exact h.1
theorem sh_ok (n:Nd) (hv:nodeV n = true) (ho:n.ok) (hn:n.sm) (hz:szN n ≤ 16384):RShow n := by
  have hl := show_len n hv ho
  refine ⟨sh_step n RShow (fun s => RShow s.nd∧(s.kd = 3→RShow s.te)∧s.nm.length ≤ maxB) hv ho hz (fun _ h => h) (fun b hb => ?_) (fun _ h => h) (fun hk s hs => ?_),by omega⟩
  · have := inner_sz (kid_inner hb)
    exact sh_ok b ((valid_kids hv).1 b hb) (ki_ok ho b hb) (sm_kid hn (kid_inner hb)) (by omega)
  · have h1 := hv
    rw [nodeV_eq,Bool.and_eq_true,if_pos hk,Bool.and_eq_true] at h1
    have hb := h1.2.2
    unfold bodyV at hb
    rw [Bool.and_eq_true] at hb
    obtain ⟨q1,q2⟩ := stmts_all hb.2 s hs
    have o := sm_ok2 (bo_ok' ho s hs)
    have m := sm_sm2 (sm_bo hn s hs)
    have i1:s.nd ∈ innerN n := List.mem_append.2 (.inr (List.mem_flatMap.2 ⟨s,hs,by unfold partsS; split <;> simp⟩))
    have z1 := inner_sz i1
    refine ⟨sh_ok s.nd q1 o.2 m.2 (by omega),fun h3 => ?_,sm_nm (sm_bo hn s hs)⟩
    have i2:s.te ∈ innerN n := List.mem_append.2 (.inr (List.mem_flatMap.2 ⟨s,hs,by unfold partsS; rw [if_pos h3]; simp⟩))
    have z2 := inner_sz i2
    have hv2:nodeV s.te = true := by
      rcases q2 with ⟨_,q,_⟩ | ⟨q,_⟩
      · exact q
      · exact (q h3).elim
    exact sh_ok s.te hv2 o.1 m.1 (by omega)
termination_by szN n
decreasing_by all_goals omega
def conSw (n:Nd):Con := fun k ds S => match k with
  | 24 => some (pA ds S (.int .i64 (checkN n)) (isN n ds []))
  | 44 => some (pA ds S (.str (showN n)) (isN n ds []∧checkN n = 0))
  | _ => none
noncomputable def Esw (n:Nd):Senv := EC (conSw n) 8 3 [5] (fun _ => ([],[]))
noncomputable section
def ye3q0 (p0:Nd):Arr := Nd.va p0
def ye3q1 (p0:Nd):List Int := Arr.sh (ye3q0 p0)
def ye3q2 (p0:Nd):List Int := Arr.nu (ye3q0 p0)
def ye3q3 (p0:Nd):List Arr := Arr.it (ye3q0 p0)
def ye3q4:Arr := DA
def ye3q5:Nd := Nd.mk Z0 Z0 Z0 [] Z0 Z0 ye3q4 [] [] Z0 Z0 Z0
def ye3q6 (p0:Nd):Prop := isN p0 [D.agg [ZI (Nd.kd p0),ZI (Nd.at_ p0),ZI (Nd.cl p0),D.str (Nd.tx p0),ZI (Nd.pr p0),ZI (Nd.op p0),ZI (Arr.k (ye3q0 p0)),SI (ye3q1 p0),SI (ye3q2 p0),D.sl N4 (LN (ye3q3 p0)) (fun (i:Nat) => Arr.row (List.getD (ye3q3 p0) i ye3q4)) Mode.any,D.sl (15:Nat) (LN (Nd.ki p0)) (fun (i:Nat) => Nd.row (List.getD (Nd.ki p0) i ye3q5)) Mode.any,D.sl (34:Nat) (LN (Nd.bo p0)) (fun (i:Nat) => Sm.row (List.getD (Nd.bo p0) i (Sm.mk Z0 Z0 [] Z0 ye3q5 ye3q5))) Mode.any,ZI (Nd.de p0),ZI (Nd.sl p0),ZI (Nd.ss p0)]] []
end
theorem sw_ok' (n:Nd) (ho:n.ok) (hn:n.sm):CD 20 [.agg n.row1] (.str (showNd n)) := by
  refine con_of (A := sC _ _) (x := ()) (E := Esw n) (eOk ?_ rfl) Tryz.func20 rfl (by kernel_rfl) rfl (by simp [sC,Esw,EC,E0]) ?_
  · intro k ds S A hh
    try unfold conSw at hh
    try dsimp only at hh
    split at hh
    · injection hh with hh; subst hh
      exact pA_ok fun e => CD.at_ (CD.wk (ck_ok' n ho hn) e) _
    · injection hh with hh; subst hh
      refine pA_ok fun ⟨e,h0⟩ => ?_
      obtain ⟨_,h2,h3⟩ := check_zero.1 h0
      exact CD.at_ (CD.isN (sh_ok n h3 ho hn h2).1 e) _
    · cases hh
  refine vc_eq (T :=
    ∀ (x:Nat),True→SM x∧∃ (x_1:Unit),ye3q6 n∧∀ (y:Unit),True→ifB (checkN n != Z0) (True∧∃ (y:Unit),True∧eqOf (List UInt8) [] (showNd n)∧True∧True) (SM x∧∃ (x:Unit),(ye3q6 n∧checkN n = Z0)∧∀ (y:Unit),True→True∧∃ (y:Unit),True∧showN n = showNd n∧True∧True)) (by kernel_rfl) ?_
  delta DA GI LN N1 N4 SI SM Z0 ZI ye3q0 ye3q1 ye3q2 ye3q3 ye3q4 ye3q5 ye3q6
  have dn:(default:Nd) = Nd.mk 0 0 0 [] 0 0 (Arr.mk 0 [] [] []) [] [] 0 0 0 := rfl
  have dm:(default:Sm) = Sm.mk 0 0 [] 0 (Nd.mk 0 0 0 [] 0 0 (Arr.mk 0 [] [] []) [] [] 0 0 0) (Nd.mk 0 0 0 [] 0 0 (Arr.mk 0 [] [] []) [] [] 0 0 0) := rfl
  try simp only [← dm]
  try simp only [← dn]
  simp only [ne_eq,ifB_iff,true_and,and_true,bne_iff_ne,bne_eq_false_iff_eq,exists_const,forall_const]
  unfold showNd
  refine ⟨nd_self _ _,fun h => ?_,fun h => ⟨⟨nd_self _ _,h⟩,?_⟩⟩
  · rw [if_neg h]
  · rw [if_pos h]
end Go.Proofs.YtjnifeedbgefpaaGreatDoor
namespace Go.Proofs.YtjnifeedbgefpaaGreatDoor
open Go Go.Ab
set_option maxRecDepth 100000
def nilD:D := .sl 1 0 (fun _ => []) .nil
def litI:List Int→D
  | [] => nilD
  | z :: l => .sl 1 (l.length + 1) (fun i => ((z :: l).map fun z => [D.int .i64 z]).getD i []) .full
def litR (w:Nat):List (List D)→D
  | [] => nilD
  | r :: l => .sl w (l.length + 1) (fun i => (r :: l).getD i []) .full
def litT:List Arr→D
  | [] => nilD
  | a :: l => gsl 4 Arr.row (a :: l)
mutual
def Nd.lit:Nd→List D
  | .mk kd at_ cl tx pr op va ki bo de sl ss => [.int .i64 kd,.int .i64 at_,.int .i64 cl,.str tx,.int .i64 pr,.int .i64 op,.int .i64 va.k,litI va.sh,litI va.nu,litT va.it,litR 15 (ndLits ki),litR 34 (smLits bo),.int .i64 de,.int .i64 sl,.int .i64 ss]
def Sm.lit:Sm→List D
  | .mk kd at_ nm sl te nd => .int .i64 kd :: .int .i64 at_ :: .str nm :: .int .i64 sl :: (te.lit ++ nd.lit)
def ndLits:List Nd→List (List D)
  | [] => []
  | x :: r => x.lit :: ndLits r
def smLits:List Sm→List (List D)
  | [] => []
  | x :: r => x.lit :: smLits r
end
theorem litI_wk:∀ l:List Int,wkD (litI l) (isl l .any)
  | [] => by simp [litI,nilD,isl,wkD,chk_iff,weakM]
  | z :: l => by
    simp only [litI,isl,wkD,chk_iff]
    refine ⟨by simp,by simp,fun i hi => ?_,by simp [weakM]⟩
    have hi:i < (z :: l).length := by simpa using hi
    have e:((z :: l).map fun z => [D.int .i64 z]).getD i [] = [D.int .i64 ((z :: l).getD i 0)] := by
      rw [List.getD_eq_getElem?_getD,List.getElem?_map,List.getD_eq_getElem?_getD,List.getElem?_eq_getElem hi]
      rfl
    rw [e]
    exact wkL_refl _
theorem litT_wk:∀ l:List Arr,wkD (litT l) (gsl 4 Arr.row l)
  | [] => by simp [litT,nilD,gsl,wkD,chk_iff,weakM,nilMB]
  | a :: l => wkD_refl _
theorem litR_wk {w:Nat}:∀ {a b:List (List D)},a.length = b.length→(∀ i,i < a.length→wkL (a.getD i []) (b.getD i []))→wkD (litR w a) (lsl w b)
  | [],[],_,_ => by simp [litR,nilD,lsl,wkD,chk_iff,weakM,nilMB]
  | [],_ :: _,h,_ => by simp at h
  | _ :: _,[],h,_ => by simp at h
  | x :: a,y :: b,h,h2 => by
    simp only [litR,lsl,wkD,chk_iff]
    exact ⟨by simp,by simpa using h,fun i hi => h2 i (by simpa using hi),by simp [weakM]⟩
theorem ndLits_len:∀ l:List Nd,(ndLits l).length = l.length
  | [] => by simp only [ndLits,List.length_nil]
  | x :: r => by simp only [ndLits,List.length_cons,ndLits_len r]
theorem smLits_len:∀ l:List Sm,(smLits l).length = l.length
  | [] => by simp only [smLits,List.length_nil]
  | x :: r => by simp only [smLits,List.length_cons,smLits_len r]
mutual
theorem nd_lit:∀ n:Nd,wkL n.lit n.row
  | .mk kd at_ cl tx pr op va ki bo de sl ss => by
    simp only [Nd.lit,Nd.row,wkL]
    refine ⟨wkD_refl _,wkD_refl _,wkD_refl _,wkD_refl _,wkD_refl _,wkD_refl _,wkD_refl _,litI_wk _,litI_wk _,litT_wk _,litR_wk ?_ (nds_lit ki),litR_wk ?_ (sms_lit bo),wkD_refl _,wkD_refl _,wkD_refl _,trivial⟩
    · rw [ndLits_len,ndRows_map,List.length_map]
    · rw [smLits_len,smRows_map,List.length_map]
theorem sm_lit:∀ s:Sm,wkL s.lit s.row
  | .mk kd at_ nm sl te nd => by
    simp only [Sm.lit,Sm.row,wkL]
    exact ⟨wkD_refl _,wkD_refl _,wkD_refl _,wkD_refl _,wkL_app (nd_lit te) (nd_lit nd)⟩
theorem nds_lit:∀ (l:List Nd) (i:Nat),i < (ndLits l).length→wkL ((ndLits l).getD i []) ((ndRows l).getD i [])
  | [],i,h => by simp [ndLits] at h
  | x :: r,0,_ => by simp only [ndLits,ndRows,List.getD_cons_zero]; exact nd_lit x
  | x :: r,i + 1,h => by
    simp only [ndLits,ndRows,List.getD_cons_succ]
    exact nds_lit r i (by simpa [ndLits] using h)
theorem sms_lit:∀ (l:List Sm) (i:Nat),i < (smLits l).length→wkL ((smLits l).getD i []) ((smRows l).getD i [])
  | [],i,h => by simp [smLits] at h
  | x :: r,0,_ => by simp only [smLits,smRows,List.getD_cons_zero]; exact sm_lit x
  | x :: r,i + 1,h => by
    simp only [smLits,smRows,List.getD_cons_succ]
    exact sms_lit r i (by simpa [smLits] using h)
end
def isR (b:Nd) (ds:List D) (ex:List D):Prop := wkL ds (.agg b.row :: ex)
def isP (l:List Sm) (ds:List D) (ex:List D):Prop := wkL ds (.agg [lsl 34 (smRows l)] :: ex)
def isRR (b:Nd) (ds:List D):Prop := wkL ds [.agg b.row,.agg b.row]
def isPP (l:List Sm) (ds:List D):Prop := wkL ds [.agg [lsl 34 (smRows l)],.agg [lsl 34 (smRows l)]]
def good (b:Nd):Prop := b.ok∧b.sm
theorem isR_lit (b:Nd) (ds:List D) (h:ds = [.agg b.lit]):isR b ds [] := by
  subst h
  simp only [isR,wkL,wkD]
  exact ⟨nd_lit b,trivial⟩
theorem isRR_lit (b:Nd) (ds:List D) (h:ds = [.agg b.lit,.agg b.lit]):isRR b ds := by
  subst h
  simp only [isRR,wkL,wkD]
  exact ⟨nd_lit b,nd_lit b,trivial⟩
theorem bo_lit (l:List Sm):wkD (litR 34 (smLits l)) (lsl 34 (smRows l)) := litR_wk (by rw [smLits_len,smRows_map,List.length_map]) (sms_lit l)
theorem isP_lit (l:List Sm) (ds:List D) (h:ds = [.agg [litR 34 (smLits l)]]):isP l ds [] := by
  subst h
  simp only [isP,wkL,wkD]
  exact ⟨⟨bo_lit l,trivial⟩,trivial⟩
theorem isPP_lit (l:List Sm) (ds:List D) (h:ds = [.agg [litR 34 (smLits l)],.agg [litR 34 (smLits l)]]):isPP l ds := by
  subst h
  simp only [isPP,wkL,wkD]
  exact ⟨⟨bo_lit l,trivial⟩,⟨bo_lit l,trivial⟩,trivial⟩
theorem row_row1 (b:Nd) (ex:List D):wkL (.agg b.row :: ex) (.agg b.row1 :: ex) := by
  simp only [wkL,wkD]; exact ⟨nd_wk b,wkL_refl _⟩
theorem CD.isR {k:Nat} {n:Nd} {ds:List D} {d:D} (h:CD k [.agg n.row1] d) (hi:isR n ds []):CD k ds d := CD.wk (CD.wk h (row_row1 n [])) hi
theorem rows_wk (l:List Sm):wkD (lsl 34 (smRows l)) (gsl 34 Sm.row l) := by rw [smRows_map]; exact lsl_wk
theorem CD.isP {k:Nat} {l:List Sm} {ds:List D} {d:D} (h:CD k [.agg [gsl 34 Sm.row1 l]] d) (hi:isP l ds []):CD k ds d := by
  refine CD.wk (CD.wk (CD.wk h (us := [.agg [gsl 34 Sm.row1 l]]) ?_) (ds := [.agg [lsl 34 (smRows l)]]) (us := [.agg [gsl 34 Sm.row l]]) ?_) hi
  · simp only [wkL,wkD]; exact ⟨⟨gsl_wk sm_wk,trivial⟩,trivial⟩
  · simp only [wkL,wkD]; exact ⟨⟨rows_wk l,trivial⟩,trivial⟩
def primN (p:Int):Nd := .mk 9 0 2 [] p 0 (.mk 0 [] [] []) [] [] 0 0 0
def trainN:Nd := .mk 16 0 2 [] 0 0 (.mk 0 [] [] []) [.mk 14 0 2 [] 0 0 (.mk 0 [] [] []) [.mk 17 0 3 [] 0 1 (.mk 0 [] [] []) [] [] 0 0 0,primN 1] [] 0 0 0,primN 4,primN 20] [] 0 0 0
def nA:Nd := .mk 4 0 1 [] 0 0 (.mk 0 [] [] []) [trainN,.mk 3 0 1 [] 0 0 (.mk 0 [] [] []) [oneN,oneN] [] 0 0 0] [] 0 0 0
def pB:List Sm := [.mk 1 0 [] 0 nd0 (.mk 7 0 1 [] 0 0 (.mk 0 [] [] []) [] [] 0 0 0)]
def nI:Nd := .mk 10 0 2 [] 0 0 (.mk 0 [] [] []) [] pB 0 0 0
def pP:List Sm := [.mk 2 0 [105,100] 0 nd0 nI]
theorem fA:showNd nA = [40,32,43,32,47,32,37,32,116,97,108,108,121,32,41,32,49,32,49] := by decide +kernel
theorem fR:rightN nA = 0 := by decide +kernel
theorem fS:sizeN nA = 10 := by decide +kernel
theorem fI:showNd nI = [123,32,89,32,125] := by decide +kernel
theorem fP:rightP pP = 0 := by decide +kernel
theorem fB:rightP pB = 11 := by decide +kernel
theorem f0:rightN nd0 = 11 := by decide +kernel
end Go.Proofs.YtjnifeedbgefpaaGreatDoor
namespace Go.Proofs.YtjnifeedbgefpaaGreatDoor
open Go Go.Ab
set_option maxRecDepth 100000
theorem gA:good nA := by
  unfold good nA trainN primN oneN
  refine ⟨?_,?_⟩
  · simp [Nd.ok,Arr.ok,okL,ndsOk,smsOk,inI64,maxLen]
  · simp [Nd.sm,Arr.sm,smL,ndsSm,smsSm,maxB]
theorem g0:good nd0 := by
  unfold good nd0
  refine ⟨?_,?_⟩
  · simp [Nd.ok,Arr.ok,okL,ndsOk,smsOk,inI64,maxLen]
  · simp [Nd.sm,Arr.sm,smL,ndsSm,smsSm,maxB]
theorem gI:good nI := by
  unfold good nI pB nd0
  refine ⟨?_,?_⟩
  · simp [Nd.ok,Sm.ok,Arr.ok,okL,ndsOk,smsOk,inI64,maxLen]
  · simp [Nd.sm,Sm.sm,Arr.sm,smL,ndsSm,smsSm,maxB]
theorem gP:okS pP := by
  have h := gI
  have h0 := g0
  refine ⟨by decide,fun s hs => ?_,fun s hs => ?_⟩
  · rw [List.mem_singleton.1 hs]
    simp only [Sm.ok]
    exact ⟨by simp [inI64],h0.1,h.1⟩
  · rw [List.mem_singleton.1 hs]
    simp only [Sm.sm]
    exact ⟨by decide,h0.2,h.2⟩
theorem gB:okS pB := by
  have h0 := g0
  refine ⟨by decide,fun s hs => ?_,fun s hs => ?_⟩
  · rw [List.mem_singleton.1 hs]
    simp only [Sm.ok]
    refine ⟨by simp [inI64],h0.1,?_⟩
    simp [Nd.ok,Arr.ok,okL,ndsOk,smsOk,inI64,maxLen]
  · rw [List.mem_singleton.1 hs]
    simp only [Sm.sm]
    refine ⟨by decide,h0.2,?_⟩
    simp [Nd.sm,Arr.sm,smL,ndsSm,smsSm,maxB]
noncomputable def conKw:Con := fun k ds S => match k with
  | 20 => some (pE (β := Nd) ds S (fun b => .str (showNd b)) (fun b => isR b ds []∧good b))
  | 9 => some (pE (β := Nd) ds S (fun b => .int .i64 (rightN b)) (fun b => isR b ds []∧good b))
  | 11 => some (pE (β := Nd) ds S (fun b => .int .i64 (sizeN b)) (fun b => isR b ds []∧good b))
  | 18 => some (pE (β := Nd) ds S (fun _ => .bool true) (fun b => isRR b ds∧good b))
  | 15 => some (pE (β := List Sm) ds S (fun l => .int .i64 (rightP l)) (fun l => isP l ds []∧okS l))
  | 17 => some (pE (β := List Sm) ds S (fun _ => .bool true) (fun l => isPP l ds∧okS l))
  | _ => none
theorem same_self (b:Nd) (h:good b) {ds:List D} (e:isRR b ds):CD 18 ds (.bool true) := by
  have := sa_ok b b h h
  unfold RSame at this
  rw [sameT_iff.2 rfl] at this
  refine CD.wk (CD.wk this (ds := [.agg b.row,.agg b.row]) ?_) e
  simp only [wkL,wkD]
  have w:wkL b.row b.row2 := by
    have h1 := nd_wk b
    cases b with
    | mk kd at_ cl tx pr op va ki bo de sl ss =>
      simp only [Nd.row,Nd.row2,Nd.kd,Nd.at_,Nd.cl,Nd.tx,Nd.pr,Nd.op,Nd.va,Nd.ki,Nd.bo,Nd.de,Nd.sl,Nd.ss,wkL,ndRows_map,smRows_map]
      refine ⟨wkD_refl _,wkD_refl _,wkD_refl _,wkD_refl _,wkD_refl _,wkD_refl _,wkD_refl _,wkD_refl _,wkD_refl _,wkD_refl _,?_,?_,wkD_refl _,wkD_refl _,wkD_refl _,trivial⟩
      · simp only [lsl,gsl,wkD,chk_iff]
        refine ⟨by simp,by simp,fun i hi => ?_,by simp [weakM]⟩
        have hi:i < ki.length := by simpa using hi
        have:(ki.map Nd.row).getD i [] = (ki.getD i default).row := by simp [List.getD_eq_getElem?_getD,hi]
        rw [this]
        exact nd_wk _
      · simp only [lsl,gsl,wkD,chk_iff]
        refine ⟨by simp,by simp,fun i hi => ?_,by simp [weakM]⟩
        have hi:i < bo.length := by simpa using hi
        have:(bo.map Sm.row).getD i [] = (bo.getD i default).row := by simp [List.getD_eq_getElem?_getD,hi]
        rw [this]
        exact sm_wk _
  exact ⟨w,w,trivial⟩
theorem sameP_self (l:List Sm) (h:okS l) {ds:List D} (e:isPP l ds):CD 17 ds (.bool true) := by
  have := sp_ok l l h h
  rw [sameT_iff.2 rfl] at this
  refine CD.wk (CD.wk this (ds := [.agg [lsl 34 (smRows l)],.agg [lsl 34 (smRows l)]]) ?_) e
  have w:wkD (lsl 34 (smRows l)) (gsl 34 Sm.row1 l) := by
    rw [smRows_map]
    simp only [lsl,gsl,wkD,chk_iff]
    refine ⟨by simp,by simp,fun i hi => ?_,by simp [weakM]⟩
    have hi:i < l.length := by simpa using hi
    have:(l.map Sm.row).getD i [] = (l.getD i default).row := by simp [List.getD_eq_getElem?_getD,hi]
    rw [this]
    exact sm_wk _
  simp only [wkL,wkD]
  exact ⟨⟨w,trivial⟩,⟨w,trivial⟩,trivial⟩
theorem conKw_ok:ConOk Tryz.prog conKw := by
  intro k ds S A hh
  unfold conKw at hh
  split at hh
  · injection hh with hh; subst hh
    exact pS_ok fun b ⟨e,h⟩ => CD.at_ (CD.isR (sw_ok' b h.1 h.2) e) _
  · injection hh with hh; subst hh
    exact pS_ok fun b ⟨e,h⟩ => CD.at_ (CD.isR (rn_ok' b h.1 h.2) e) _
  · injection hh with hh; subst hh
    exact pS_ok fun b ⟨e,h⟩ => CD.at_ (CD.isR (szs_ok b h.2) e) _
  · injection hh with hh; subst hh
    exact pS_ok fun b ⟨e,h⟩ => CD.at_ (same_self b h e) _
  · injection hh with hh; subst hh
    exact pS_ok fun l ⟨e,h⟩ => CD.at_ (CD.isP (pr_ok l h.1 h.2.1 h.2.2) e) _
  · injection hh with hh; subst hh
    exact pS_ok fun l ⟨e,h⟩ => CD.at_ (sameP_self l h e) _
  · cases hh
noncomputable def Ekw:Senv := { EC conKw 71 6 [37] (fun id => match id with | 2 => ([1,0,2,3,4,5],[0,2,4,5]) | _ => ([],[])) with mg := fun _ => 2 }
noncomputable section
def yk1q0 (p0:Nat):Prop := SM p0∧True
def yk1q1 (p0 p1 p2 p3 p4 p5 p6:Nat):Prop := p0 ≠ p1∧p2 ≠ p1∧p3 ≠ p1∧p4 ≠ p1∧p5 ≠ p1∧p6 ≠ p1∧True
def yk1q2:D := ZI Z0
def yk1q3:D := D.str []
def yk1q4:D := D.sl N1 N0 (fun (_x:Nat) => []) Mode.nil
def yk1q5:D := ZI Z1
def yk1q6:List D := [yk1q2,yk1q2,yk1q2]
def yk1q7:List D := yk1q4 :: yk1q6
def yk1q8:List D := yk1q4 :: yk1q4 :: yk1q7
def yk1q9:List D := yk1q2 :: yk1q4 :: yk1q4 :: yk1q8
def yk1q10:List D := yk1q2 :: yk1q9
def yk1q11:List D := ZI (14:Int) :: yk1q2 :: ZI (2:Int) :: yk1q3 :: yk1q2 :: yk1q2 :: yk1q2 :: yk1q4 :: yk1q4 :: yk1q4 :: D.sl (15:Nat) N2 (fun (i:Nat) => List.getD [ZI (17:Int) :: yk1q2 :: ZI (3:Int) :: yk1q3 :: yk1q2 :: yk1q5 :: yk1q9,ZI (9:Int) :: yk1q2 :: ZI (2:Int) :: yk1q3 :: yk1q5 :: yk1q10] i []) Mode.full :: yk1q7
def yk1q12:D := D.agg yk1q11
def yk1q13 (p0:Nat):Prop := SM p0∧SM yk1q12
def yk1q14 (p0 p1 p2 p3 p4 p5 p6 p7:Nat):Prop := p0 ≠ p1∧yk1q1 p2 p1 p3 p4 p5 p6 p7
def yk1q15:List D := yk1q5 :: yk1q2 :: yk1q5 :: yk1q3 :: yk1q2 :: yk1q2 :: yk1q5 :: yk1q4 :: D.sl N1 N1 (fun (i:Nat) => List.getD [[yk1q5]] i []) Mode.full :: yk1q8
def yk1q16:List D := ZI (3:Int) :: yk1q2 :: yk1q5 :: yk1q3 :: yk1q2 :: yk1q2 :: yk1q2 :: yk1q4 :: yk1q4 :: yk1q4 :: D.sl (15:Nat) N2 (fun (i:Nat) => List.getD [yk1q15,yk1q15] i []) Mode.full :: yk1q7
def yk1q17:D := D.agg yk1q16
def yk1q18 (p0:Nat):Prop := SM p0∧SM yk1q17
def yk1q19 (p0 p1 p2 p3 p4 p5 p6 p7 p8:Nat):Prop := p0 ≠ p1∧yk1q14 p2 p1 p3 p4 p5 p6 p7 p8
def yk1q20:D := D.agg (ZI (4:Int) :: yk1q2 :: yk1q5 :: yk1q3 :: yk1q2 :: yk1q2 :: yk1q2 :: yk1q4 :: yk1q4 :: yk1q4 :: D.sl (15:Nat) N2 (fun (i:Nat) => List.getD [ZI (16:Int) :: yk1q2 :: ZI (2:Int) :: yk1q3 :: yk1q2 :: yk1q2 :: yk1q2 :: yk1q4 :: yk1q4 :: yk1q4 :: D.sl (15:Nat) (3:Nat) (fun (i:Nat) => List.getD [yk1q11,ZI (9:Int) :: yk1q2 :: ZI (2:Int) :: yk1q3 :: ZI (4:Int) :: yk1q10,ZI (9:Int) :: yk1q2 :: ZI (2:Int) :: yk1q3 :: ZI (20:Int) :: yk1q10] i []) Mode.full :: yk1q7,yk1q16] i []) Mode.full :: yk1q7)
def yk1q21:List D := [yk1q20]
def yk1q22 (p0:Nd):Prop := good p0
def yk1q23 (p0:Nd):Prop := isR p0 yk1q21 []∧yk1q22 p0
def yk1q24 (p0:Nd):Bool := showNd p0 != [(40:UInt8),(32:UInt8),(43:UInt8),(32:UInt8),(47:UInt8),(32:UInt8),(37:UInt8),(32:UInt8),(116:UInt8),(97:UInt8),(108:UInt8),(108:UInt8),(121:UInt8),(32:UInt8),(41:UInt8),(32:UInt8),(49:UInt8),(32:UInt8),(49:UInt8)]
def yk1q25:Prop := True∧∃ (_y:Unit),True∧false = true∧True∧True
def yk1q26 (p0 p1 p2 p3 p4 p5 p6 p7 p8 p9:Nat):Prop := p0 ≠ p1∧yk1q19 p2 p1 p3 p4 p5 p6 p7 p8 p9
def yk1q27:List D := yk1q3 :: yk1q2 :: yk1q10
def yk1q28:D := D.sl (34:Nat) N1 (fun (i:Nat) => List.getD [yk1q5 :: yk1q2 :: yk1q3 :: yk1q2 :: yk1q2 :: yk1q2 :: yk1q2 :: yk1q3 :: yk1q2 :: yk1q2 :: yk1q2 :: yk1q4 :: yk1q4 :: yk1q4 :: yk1q4 :: yk1q4 :: yk1q2 :: yk1q2 :: yk1q2 :: ZI (7:Int) :: yk1q2 :: yk1q5 :: yk1q27] i []) Mode.full
def yk1q29:List D := ZI (10:Int) :: yk1q2 :: ZI (2:Int) :: yk1q3 :: yk1q2 :: yk1q2 :: yk1q2 :: yk1q4 :: yk1q4 :: yk1q4 :: yk1q4 :: yk1q28 :: yk1q6
def yk1q30:D := D.agg [D.sl (34:Nat) N1 (fun (i:Nat) => List.getD [ZI (2:Int) :: yk1q2 :: D.str [(105:UInt8),(100:UInt8)] :: yk1q2 :: yk1q2 :: yk1q2 :: yk1q2 :: yk1q3 :: yk1q2 :: yk1q2 :: yk1q2 :: yk1q4 :: yk1q4 :: yk1q4 :: yk1q4 :: yk1q4 :: yk1q2 :: yk1q2 :: yk1q2 :: yk1q29] i []) Mode.full]
def yk1q31:List D := [yk1q30]
def yk1q32 (p0 p1 p2 p3 p4 p5 p6 p7 p8 p9:Nat):Prop := ∃ (x:Nd),(isRR x (yk1q20 :: yk1q21)∧yk1q22 x)∧∀ (_y:Unit),True→∀ (x:Nat),p0 ≠ x∧yk1q26 p1 x p2 p3 p4 p5 p6 p7 p8 p9→SM x∧SM x∧∀ (x_1:Nat),x ≠ x_1∧p0 ≠ x_1∧yk1q26 p1 x_1 p2 p3 p4 p5 p6 p7 p8 p9→SM x_1∧SM x∧∃ (x:Nd),(isR x [D.agg yk1q29] []∧yk1q22 x)∧∀ (_y:Unit),True→ifB (showNd x == [(123:UInt8),(32:UInt8),(89:UInt8),(32:UInt8),(125:UInt8)]) (SM x_1∧∃ (x:List Sm),(isP x yk1q31 []∧okS x)∧∀ (_y:Unit),True→ifB (rightP x == Z0) (∃ (x:List Sm),(isP x [D.agg [yk1q28]] []∧okS x)∧∀ (_y:Unit),True→ifB (rightP x == (11:Int)) (SM x_1∧SM x_1∧∃ (x:List Sm),(isPP x (yk1q30 :: yk1q31)∧okS x)∧∀ (_y:Unit),True→∃ (x:Nd),(isR x [D.agg (yk1q2 :: yk1q2 :: yk1q2 :: yk1q27)] []∧yk1q22 x)∧∀ (_y:Unit),True→True∧∃ (_y:Unit),True∧(rightN x == (11:Int)) = true∧True∧True) yk1q25) yk1q25) yk1q25
def yk1q33 (p0 p1 p2 p3 p4 p5 p6 p7 p8:Nat):Prop := SM p0∧SM p0∧∃ (x:Nd),yk1q23 x∧∀ (_y:Unit),True→ifB (yk1q24 x) yk1q25 (SM p0∧∃ (x:Nd),yk1q23 x∧∀ (_y:Unit),True→ifB (rightN x != Z0) yk1q25 (SM p0∧∃ (x:Nd),yk1q23 x∧∀ (_y:Unit),True→ifB (sizeN x != (10:Int)) yk1q25 (SM p0∧∀ (x:Nat),yk1q26 p0 x p1 p2 p3 p4 p5 p6 p7 p8→SM x∧True∧SM p0∧SM p0∧yk1q32 x p0 p1 p2 p3 p4 p5 p6 p7 p8)))
end
theorem kw_ok:CD 14 [] (.bool true) := by
  refine con_of (A := sC _ _) (x := ()) (E := Ekw) (eOk conKw_ok rfl) Tryz.func14 rfl (by kernel_rfl) rfl (by simp [sC,Ekw,EC,E0]) ?_
  refine vc_eq (T :=
    ∀ (x:Nat),True→SM x∧yk1q0 x∧∀ (x_1:Nat),x ≠ x_1∧True→SM x_1∧yk1q0 x_1∧∀ (x_2:Nat),x_1 ≠ x_2∧x ≠ x_2∧True→SM x_2∧SM x_2∧(∀ (x_3:Nat),x_2 ≠ x_3∧x_1 ≠ x_3∧x ≠ x_3∧True→∀ (x_4:Nat),x_3 ≠ x_4∧x_2 ≠ x_4∧x_1 ≠ x_4∧x ≠ x_4∧True→SM x_4∧yk1q0 x_4∧∀ (x_5:Nat),x_4 ≠ x_5∧x_3 ≠ x_5∧x_2 ≠ x_5∧x_1 ≠ x_5∧x ≠ x_5∧True→SM x_5∧SM x_5∧∀ (x_6:Nat),yk1q1 x_5 x_6 x_4 x_3 x_2 x_1 x→SM x_6∧yk1q0 x_6∧yk1q13 x_5∧∀ (x_7:Nat),yk1q14 x_6 x_7 x_5 x_4 x_3 x_2 x_1 x→SM x_7∧yk1q0 x_7∧yk1q13 x_5∧SM x_3∧yk1q0 x_3∧yk1q18 x_2∧(∀ (x_8:Nat),yk1q19 x_7 x_8 x_6 x_5 x_4 x_3 x_2 x_1 x→yk1q33 x_8 x_7 x_6 x_5 x_4 x_3 x_2 x_1 x)∧∀ (x_8:Nat),yk1q19 x_7 x_8 x_6 x_5 x_4 x_3 x_2 x_1 x→yk1q18 x_2∧yk1q33 x_8 x_7 x_6 x_5 x_4 x_3 x_2 x_1 x)∧∀ (x_3:Nat),x_2 ≠ x_3∧x_1 ≠ x_3∧x ≠ x_3∧True→yk1q18 x_2∧∀ (x_4:Nat),x_3 ≠ x_4∧x_2 ≠ x_4∧x_1 ≠ x_4∧x ≠ x_4∧True→∀ (x_5:Nat),x_4 ≠ x_5∧x_3 ≠ x_5∧x_2 ≠ x_5∧x_1 ≠ x_5∧x ≠ x_5∧True→SM x_5∧yk1q0 x_5∧∀ (x_6:Nat),yk1q1 x_5 x_6 x_4 x_3 x_2 x_1 x→SM x_6∧SM x_6∧∀ (x_7:Nat),yk1q14 x_6 x_7 x_5 x_4 x_3 x_2 x_1 x→SM x_7∧yk1q0 x_7∧yk1q13 x_6∧∀ (x_8:Nat),yk1q19 x_7 x_8 x_6 x_5 x_4 x_3 x_2 x_1 x→SM x_8∧yk1q0 x_8∧yk1q13 x_6∧SM x_4∧yk1q0 x_4∧yk1q18 x_2∧SM x_3∧SM x_3∧∃ (x_9:Nd),yk1q23 x_9∧∀ (y:Unit),True→ifB (yk1q24 x_9) yk1q25 (SM x_3∧∃ (x_10:Nd),yk1q23 x_10∧∀ (y:Unit),True→ifB (rightN x_10 != Z0) yk1q25 (SM x_3∧∃ (x_11:Nd),yk1q23 x_11∧∀ (y:Unit),True→ifB (sizeN x_11 != (10:Int)) yk1q25 (SM x_3∧∀ (x_12:Nat),yk1q26 x_8 x_12 x_7 x_6 x_5 x_4 x_3 x_2 x_1 x→SM x_12∧True∧SM x_3∧SM x_3∧yk1q32 x_12 x_8 x_7 x_6 x_5 x_4 x_3 x_2 x_1 x)))) (by kernel_rfl) ?_
  delta N0 N1 N2 SM Z0 Z1 ZI yk1q0 yk1q1 yk1q10 yk1q11 yk1q12 yk1q13 yk1q14 yk1q15 yk1q16 yk1q17 yk1q18 yk1q19 yk1q2 yk1q20 yk1q21 yk1q22 yk1q23 yk1q24 yk1q25 yk1q26 yk1q27 yk1q28 yk1q29 yk1q3 yk1q30 yk1q31 yk1q32 yk1q33 yk1q4 yk1q5 yk1q6 yk1q7 yk1q8 yk1q9
  simp only [eq_self,ne_eq,ifB_iff,true_and,and_true,beq_iff_eq,bne_iff_ne,bne_eq_false_iff_eq,beq_eq_false_iff_ne,exists_const,forall_const]
  repeat' (first
    | refine ⟨nA,⟨isR_lit nA _ (by kernel_rfl),gA⟩,fun h => absurd fA h,fun _ => ?_⟩
    | refine ⟨nA,⟨isR_lit nA _ (by kernel_rfl),gA⟩,fun h => absurd fR h,fun _ => ?_⟩
    | refine ⟨nA,⟨isR_lit nA _ (by kernel_rfl),gA⟩,fun h => absurd fS h,fun _ => ?_⟩
    | refine ⟨nI,⟨isR_lit nI _ (by kernel_rfl),gI⟩,fun _ => ?_,fun h => absurd fI h⟩
    | refine ⟨pP,⟨isP_lit pP _ (by kernel_rfl),gP⟩,fun _ => ?_,fun h => absurd fP h⟩
    | refine ⟨pB,⟨isP_lit pB _ (by kernel_rfl),gB⟩,fun _ => ?_,fun h => absurd fB h⟩
    | exact ⟨nd0,⟨isR_lit nd0 _ (by kernel_rfl),g0⟩,f0⟩
    | refine ⟨nA,⟨isRR_lit nA _ (by kernel_rfl),gA⟩,?_⟩
    | refine ⟨pP,⟨isPP_lit pP _ (by kernel_rfl),gP⟩,?_⟩
    | refine And.intro ?_ ?_
    | intro _)
  all_goals first
    | rfl
    | trace_state
end Go.Proofs.YtjnifeedbgefpaaGreatDoor
