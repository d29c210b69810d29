/- Functions of the given program and what each of them computes: lemmas towards the statement, their conditions stated with each of them. -/
import Derived.Test.YtflbmbkhjcbhoaaGreatDoorW2
import Derived.Lib.Join
import Derived.Lib.Builder
import Derived.Lib.UnsafeStr
import Derived.WalkKit
import Derived.ProofKit
import Derived.Test.YtflbmbkhjcbhoaaGreatDoorProg
import Derived.Lib.LaidTab
import Derived.Lib.ItoaNum
import Derived.Lib.TrailingZeros
import Derived.Calls
import Derived.Below
import Derived.Laws.Entries
import Derived.Laws.Build
import Derived.Laws.Concat
import Derived.Laws.AppendOwn
import Derived.Laws.IdiomStrings
import Derived.Laws.BytesString
import Derived.Laws.NewFold
import Derived.Laws.MakeOwn
import Derived.Laws.IdiomCopy
import Derived.Laws.Shifts
import Derived.Laws.Strings
import Derived.Laws.Strings2
import Derived.Laws.Strings3
import Derived.Laws.RangeString
import Derived.MapKept
import Derived.Laws.StructEq
import Derived.Orders
import Derived.Scope
import Derived.OpenShut
import Derived.Recover
import Derived.KernelRfl
import Derived.Shelf.Strings.Builder1
import Derived.Shelf.Strings.Builder2
import Derived.Shelf.Strings.OnBuilder
import Derived.Shelf.Strings.BuilderF
import Derived.Shelf.Strconv.Itoa0
import Derived.Shelf.Strconv.Itoa1
import Derived.Shelf.LaysM
import Derived.Shelf.Strconv.Itoa2
import Derived.Shelf.Strconv.Itoa3
import Derived.Shelf.Strconv.Itoa4
import Derived.Shelf.Strings.Prefix
import Derived.Shelf.Bits.Mul64
import Derived.Shelf.Strings.Repeat
import Derived.Lib.Repeat
import Derived.Lib.AppendIntMem
import Derived.Lib.ItoaLen
import Derived.Test.YtflbmbkhjcbhoaaGreatDoorCards
import Derived.Test.YtflbmbkhjcbhoaaGreatDoorTie
import Derived.Deep.DeepHandedRow
import Derived.Stop.LaidErr
import Derived.Laws.BitsLemmas
namespace Go.Proofs.YtflbmbkhjcbhoaaGreatDoor
open Go Go.Ab
def conRu (c:CodD):Con := fun k ds _ => match k with
  | 28 => some (sRc Arr.row (fun b => b ∈ c.consts) (fun b => .int .i64 (chkA b).1))
  | 29 => some (sKq (fun b => b ∈ c.kers) kerB)
  | 30 => match ds with
    | [_,.int .i64 z] => some (pC ds (funD (funS c z.toNat)) (weakL ds [.agg c.row,.int .i64 z.toNat]∧z.toNat < c.funs.length))
    | _ => none
  | _ => none
theorem conRu_ok {c:CodD} (hc:c.ok) (hs:∀ f,f < c.funs.length→(c.funs.getD f default).code.length ≤ 65536):ConOk Tryz.prog (conRu c) := by
  intro k ds S A h
  unfold conRu at h
  split at h
  · injection h with h; subst h
    exact ConOk.plain (fun b hb => sRc_row0 (q := fun _ => True) (r := errA) (sRc_row (rri_ok b (hc.1 b hb)))) rfl rfl
  · injection h with h; subst h
    exact ConOk.plain (fun b hb => (rker_ok b (hc.2.2.1 b hb)).mono fun _ _ ⟨y,h1,h2,h3⟩ => ⟨y,h1,h2,h3⟩) rfl rfl
  · split at h
    · injection h with h; subst h
      exact pC_ok fun ⟨e,hf⟩ => ⟨weakL_refl _,sC_weak e (rfun_ok c _ hf hc (hs _ hf))⟩
    · cases h
  · cases h
noncomputable def Eru (c:CodD):Senv := { EC (conRu c) 108 10 [14,45,50,59,78,83,92,97,107] (fun _ => ([],[])) with
  ann := fun b _ S => match b with
    | 0 => some { slots := [4,3],keep := [0,1,2],α := Nat × Int,st := fun y => ([.int .i64 y.1,.int .i64 y.2],S),inv := fun y => y.1 ≤ c.funs.length∧totI (c.funs.drop y.1) y.2 = totI c.funs 0,mu := fun y => c.funs.length - y.1 }
    | 2 => some { slots := [5],keep := [0,1,2],α := Nat,st := fun i => ([.int .i64 i],S),inv := fun i => IdxG (fun a => (chkA a).1 != 0) c.consts i,mu := fun i => c.consts.length - i }
    | 4 => some { slots := [6],keep := [0,1,2],α := Nat,st := fun i => ([.int .i64 i],S),inv := fun i => IdxG (fun a => !kerB a) c.kers i,mu := fun i => c.kers.length - i }
    | 6 => some { slots := [7],keep := [0,1,2],α := Nat,st := fun i => ([.int .i64 i],S),inv := fun i => i ≤ c.funs.length∧∀ j,j < i→(funS c j).isSome = true,mu := fun i => c.funs.length - i }
    | _ => none }
noncomputable section
def ri2q0 (p0:CodD):List FnD := CodD.funs p0
def ri2q1 (p0:CodD):Nat := LN (ri2q0 p0)
def ri2q2 (p0:Nat) (p1:CodD) (p2:Int):Prop := p0 ≤ ri2q1 p1∧totI (List.drop p0 (ri2q0 p1)) p2 = totI (ri2q0 p1) Z0
def ri2q3 (p0:CodD):List Arr := CodD.consts p0
def ri2q4 (p0:CodD):Nat := LN (ri2q3 p0)
def ri2q5:Arr := DA
def ri2q6 (p0:CodD) (p1:Nat):List D := Arr.row (List.getD (ri2q3 p0) p1 ri2q5)
def ri2q7:FnD := DF
def ri2q8 (p0:CodD) (p1:Nat):FnD := List.getD (ri2q0 p0) p1 ri2q7
def ri2q9 (p0:CodD) (p1:Nat):List I4 := FnD.code (ri2q8 p0 p1)
def ri2q10:I4 := D4
def ri2q11 (p0:CodD) (p1 p2:Nat):I4 := List.getD (ri2q9 p0 p1) p2 ri2q10
def ri2q12 (p0:CodD) (p1:Nat):List D := [ZI (FnD.slots (ri2q8 p0 p1)),D.sl N4 (LN (ri2q9 p0 p1)) (fun (i:Nat) => (R4 (ri2q11 p0 p1 i))) Mode.any]
def ri2q13 (p0:CodD):List KeD := CodD.kers p0
def ri2q14 (p0:CodD):Nat := LN (ri2q13 p0)
def ri2q15:KeD := DK
def ri2q16 (p0:CodD) (p1:Nat):List D := KeD.row (List.getD (ri2q13 p0) p1 ri2q15)
def ri2q17 (p0:CodD):Nat := LN (CodD.lanes p0)
def ri2q18 (p0:CodD) (p1:Nat):List D := LaD.row (GL p0 p1)
def ri2q19 (p0:CodD):Prop := (SM (ri2q4 p0)∧(∀ (i:Nat),i < ri2q4 p0→SM (ri2q6 p0 i))∧True)∧(SM (ri2q1 p0)∧(∀ (i:Nat),i < ri2q1 p0→SM (ri2q12 p0 i))∧True)∧(SM (ri2q14 p0)∧(∀ (i:Nat),i < ri2q14 p0→SM (ri2q16 p0 i))∧True)∧(SM (ri2q17 p0)∧(∀ (i:Nat),i < ri2q17 p0→SM (ri2q18 p0 i))∧True)∧True
def ri2q20 (p0:Nat) (p1:CodD):Prop := (SM p0∧ri2q19 p1∧True)∧True
def ri2q21 (p0:CodD):Int := (NI (ri2q1 p0))
def ri2q22 (p0:Nat) (p1:CodD):Bool := decide ((↑p0:Int) < ri2q21 p1)
def ri2q23 (p0:CodD):D := D.agg [D.sl N4 (ri2q4 p0) (fun (i:Nat) => ri2q6 p0 i) Mode.any,D.sl N2 (ri2q1 p0) (fun (i:Nat) => ri2q12 p0 i) Mode.any,D.sl N4 (ri2q14 p0) (fun (i:Nat) => ri2q16 p0 i) Mode.any,D.sl N2 (ri2q17 p0) (fun (i:Nat) => ri2q18 p0 i) Mode.any]
def ri2q24 (p0:CodD) (p1:Nat):Prop := SM (ri2q23 p0)∧SM (D.ref N0 p1 N0)∧SM (ZI Z0)∧True
def ri2q25 (p0:CodD) (p1 p2:Nat):Prop := ri2q1 p0 - p1 < ri2q1 p0 - p2
def ri2q26 (p0:CodD):Bool := decide ((1024:Int) < ri2q21 p0)
def ri2q27 (p0:CodD):Int := (NI (ri2q4 p0))
def ri2q28 (p0:CodD):Bool := decide ((65536:Int) < ri2q27 p0)
def ri2q29 (p0:CodD):Int := (NI (ri2q14 p0))
def ri2q30 (p0:CodD):Bool := decide ((4096:Int) < ri2q29 p0)
def ri2q31 (p0:CodD) (p1:Int):Bool := bif bif bif ri2q26 p0 then true else decide ((65536:Int) < p1) then true else ri2q28 p0 then true else ri2q30 p0
def ri2q32 (p0:CodD) (p1:Int):Prop := true = ri2q31 p0 p1∧True
def ri2q33 (p0:CodD):Int := rightC p0
def ri2q34 (p0:CodD) (p1:Nat):Prop := IdxG (fun (a:Arr) => Prod.fst (chkA a) != Z0) (ri2q3 p0) p1
def ri2q35 (p0 p1:Nat) (p2:CodD):Prop := (Z0 = (↑p0:Int)∧True)∧ri2q20 p1 p2
def ri2q36 (p0:CodD) (p1:Nat):List D := Arr.row (List.getD (ri2q3 p0) (Int.toNat (↑p1:Int)) ri2q5)
def ri2q37 (p0 p1 p2:Nat) (p3:CodD):Prop := (IntKind.wrap IntKind.i64 ((↑p0:Int) + Z1) = (↑p1:Int)∧True)∧ri2q20 p2 p3
def ri2q38 (p0:CodD):Bool := ri2q21 p0 == Z0
def ri2q39 (p0:CodD):Bool := (NI (ri2q17 p0)) != ri2q29 p0
def ri2q40 (p0:CodD):Bool := bif ri2q38 p0 then true else bif (NI (ri2q17 p0)) != Z0 then ri2q39 p0 else false
def ri2q41 (p0:CodD):Prop := True∧∃ (_y:Unit),True∧(26:Int) = ri2q33 p0∧True∧True
def ri2q42 (p0:CodD) (p1:Nat):Prop := IdxG (fun (a:KeD) => !kerB a) (ri2q13 p0) p1
def ri2q43 (p0:CodD) (p1:Nat):KeD := List.getD (ri2q13 p0) (Int.toNat (↑p1:Int)) ri2q15
def ri2q44 (p0:CodD) (p1:Nat):List I4 := KeD.ops (ri2q43 p0 p1)
def ri2q45 (p0:CodD) (p1:Nat):Nat := LN (ri2q44 p0 p1)
def ri2q46 (p0:CodD) (p1 p2:Nat):I4 := List.getD (ri2q44 p0 p1) p2 ri2q10
def ri2q47 (p0:KeD) (p1:Nat):I4 := List.getD (KeD.ops p0) p1 ri2q10
def ri2q48 (p0:Nat) (p1:CodD):Prop := p0 ≤ ri2q1 p1∧∀ (j:Nat),j < p0→Option.isSome (funS p1 j) = true
end
theorem rrt_ok (c:CodD) (hc:c.ok) (hs:∀ f,f < c.funs.length→(c.funs.getD f default).code.length ≤ 65536):ACalls Tryz.prog 11 [.agg c.row] ⟨[],[]⟩ (SpecR (sC [.agg c.row] (.int .i64 (rightC c))) ()) := by
  refine con_of (A := sC _ _) (x := ()) (E := Eru c) (eOk (conRu_ok hc hs) rfl) Tryz.func11 rfl (by kernel_rfl) rfl (by simp [sC,Eru,EC,E0]) ?_
  refine vc_eq (T :=
    ∀ (x:Nat),True→(∃ (x_1:Nat × Int),ri2q2 x_1.1 c x_1.2∧(Z0 = (NI x_1.1)∧Z0 = x_1.2∧True)∧ri2q20 x c)∧∀ (x_1:Nat × Int),ri2q2 x_1.1 c x_1.2→SM x∧ifB (ri2q22 x_1.1 c) (SM x∧side (Z0 ≤ (NI x_1.1)∧(NI x_1.1) < ri2q21 c) (ri2q24 c x∧∃ (y:Nat × Int),ri2q2 y.1 c y.2∧ri2q25 c y.1 x_1.1∧(IntKind.wrap IntKind.i64 ((NI x_1.1) + Z1) = (NI y.1)∧IntKind.wrap IntKind.i64 (x_1.2 + (LI (FnD.code (List.getD (ri2q0 c) (TN x_1.1) ri2q7)))) = y.2∧True)∧ri2q20 x c)) ((SM x∧ifB (ri2q26 c) (ri2q32 c x_1.2) (ifB (decide ((65536:Int) < x_1.2)) (ri2q32 c x_1.2) (SM x∧ifB (ri2q28 c) (ri2q32 c x_1.2) (SM x∧ri2q30 c = ri2q31 c x_1.2∧True))))∧ifB (ri2q31 c x_1.2) (True∧∃ (y:Unit),True∧(21:Int) = ri2q33 c∧True∧True) ((∃ (x_2:Nat),ri2q34 c x_2∧ri2q35 x_2 x c)∧∀ (x_2:Nat),ri2q34 c x_2→SM x∧ifB (decide ((↑x_2:Int) < ri2q27 c)) (SM x∧side (Z0 ≤ (↑x_2:Int)∧(↑x_2:Int) < ri2q27 c) (side (N4 ≤ LN (ri2q36 c x_2)) (∃ (x_3:Arr),(weakL (List.take N4 (List.drop N0 (ri2q36 c x_2))) (Arr.row x_3)∧True)∧(True∧True)∧x_3 ∈ ri2q3 c∧∀ (y:Unit),True→ifB (Prod.fst (chkA x_3) != Z0) (True∧∃ (y:Unit),True∧Z1 = ri2q33 c∧True∧True) (ri2q24 c x∧∃ (y:Nat),ri2q34 c y∧ri2q4 c - y < ri2q4 c - x_2∧ri2q37 x_2 y x c)))) ((SM x∧ifB (ri2q38 c) (true = ri2q40 c∧True) (SM x∧ifB ((NI (ri2q17 c)) != Z0) (SM x∧SM x∧ri2q39 c = ri2q40 c∧True) (false = ri2q40 c∧True)))∧ifB (ri2q40 c) (ri2q41 c) ((∃ (x_3:Nat),ri2q42 c x_3∧ri2q35 x_3 x c)∧∀ (x_3:Nat),ri2q42 c x_3→SM x∧ifB (decide ((↑x_3:Int) < ri2q29 c)) (SM x∧side (Z0 ≤ (↑x_3:Int)∧(↑x_3:Int) < ri2q29 c) (∃ (x_4:KeD),((KeD.inputs (ri2q43 c x_3) = KeD.inputs x_4∧(ri2q45 c x_3 = LN (KeD.ops x_4)∧(∀ (i:Nat),i < ri2q45 c x_3→(R4 (ri2q46 c x_3 i)) = (R4 (ri2q47 x_4 i)))∧True)∧KeD.reduce (ri2q43 c x_3) = KeD.reduce x_4∧KeD.at_ (ri2q43 c x_3) = KeD.at_ x_4∧True)∧True)∧(True∧True)∧x_4 ∈ ri2q13 c∧∀ (y:Unit),True→ifB (!kerB x_4) (ri2q41 c) (ri2q24 c x∧∃ (y:Nat),ri2q42 c y∧ri2q14 c - y < ri2q14 c - x_3∧ri2q37 x_3 y x c))) ((∃ (x_4:Nat),ri2q48 x_4 c∧ri2q35 x_4 x c)∧∀ (x_4:Nat),ri2q48 x_4 c→SM x∧ifB (ri2q22 x_4 c) (SM x∧((ri2q19 c∧(↑x_4:Int) = (NI (Int.toNat (↑x_4:Int)))∧True)∧Int.toNat (↑x_4:Int) < ri2q1 c)∧∀ (y:Unit),True→ifB (!Option.isSome (funS c (Int.toNat (↑x_4:Int)))) (ri2q41 c) (ri2q24 c x∧∃ (y:Nat),ri2q48 y c∧ri2q25 c y x_4∧ri2q37 x_4 y x c)) (True∧∃ (y:Unit),True∧Z0 = ri2q33 c∧True∧True))))))) (by kernel_rfl) ?_
  delta D4 DA DF DK DL GL LI LN N0 N2 N4 NI R4 SM TN Z0 Z1 ZI ri2q0 ri2q1 ri2q10 ri2q11 ri2q12 ri2q13 ri2q14 ri2q15 ri2q16 ri2q17 ri2q18 ri2q19 ri2q2 ri2q20 ri2q21 ri2q22 ri2q23 ri2q24 ri2q25 ri2q26 ri2q27 ri2q28 ri2q29 ri2q3 ri2q30 ri2q31 ri2q32 ri2q33 ri2q34 ri2q35 ri2q36 ri2q37 ri2q38 ri2q39 ri2q4 ri2q40 ri2q41 ri2q42 ri2q43 ri2q44 ri2q45 ri2q46 ri2q47 ri2q48 ri2q5 ri2q6 ri2q7 ri2q8 ri2q9
  intro x _
  simp only [eq_self,ne_eq,implies_true,Int.toNat_natCast,ifB_iff,side_iff,decide_eq_true_eq,decide_eq_false_iff_not,true_and,and_true,beq_iff_eq,Bool.cond_false_right,Bool.cond_true_left,Bool.and_eq_true,Bool.and_eq_false_iff,Bool.or_eq_true,Bool.or_eq_false_iff,beq_eq_false_iff_ne,exists_const,forall_const]
  have hfl:c.funs.length ≤ maxLen := hc.2.2.2.2.2.1
  have hcl:c.consts.length ≤ maxLen := hc.2.2.2.2.1
  have hkl:c.kers.length ≤ maxLen := hc.2.2.2.2.2.2.1
  simp only [maxLen] at hfl hcl hkl
  have da:(default:Arr) = Arr.mk 0 [] [] [] := rfl
  rw [← da]
  refine ⟨⟨(0,0),⟨Nat.zero_le _,rfl⟩,rfl,rfl⟩,?_⟩
  rintro ⟨i,t⟩ ⟨hi,ht⟩
  simp only at hi ht ⊢
  refine ⟨fun hlt => ⟨⟨by omega,hlt⟩,?_⟩,fun hge => ?_⟩
  · have hlt':i < c.funs.length := by omega
    rw [drop_step hlt',totI] at ht
    exact ⟨(i + 1,_),⟨by simp only; omega,ht⟩,by simp only; omega,wrap_i64' (by omega) (by omega),rfl⟩
  have hi':i = c.funs.length := by omega
  rw [hi',List.drop_length,totI] at ht
  rw [ht]
  refine ⟨⟨fun h => by simp [h],fun h => ⟨fun h2 => by simp [h2],fun h2 => ⟨fun h3 => by simp [h3],fun h3 => by simp [h,h2,h3]⟩⟩⟩,fun h => ?_,fun h => ⟨⟨0,⟨Nat.zero_le _,by simp⟩,rfl⟩,fun a ha => ⟨fun al => ⟨⟨by omega,al⟩,?_⟩,fun ag => ?_⟩⟩⟩
  · unfold rightC; rw [if_pos (by omega)]
  · have al':a < c.consts.length := by omega
    have r4 := row_four (c.consts.getD a default)
    obtain ⟨s1,s2⟩ := ha.step al'
    refine ⟨Nat.le_of_eq r4.symm,c.consts.getD a default,?_,mem_getD al',fun e => ?_,fun e => ⟨a + 1,s2 e,by omega,wrap_i64' (by omega) (by omega)⟩⟩
    · rw [List.drop_zero,List.take_of_length_le (Nat.le_of_eq r4)]
      exact weakL_refl _
    · have h1:(c.consts.any fun a => (chkA a).1 != 0) = true := List.any_eq_true.2 ⟨_,mem_getD al',e⟩
      unfold rightC; rw [if_neg (by omega),if_pos h1]
  have h1:(c.consts.any fun a => (chkA a).1 != 0) = false := by
    rw [← idxG_any _ _ 0 (Int.le_refl _),ha.done ag]; rfl
  refine ⟨⟨fun h2 => by simp [h2],fun h2 => ⟨fun h3 => by rw [h3,beq_eq_false_iff_ne.2 h2]; rfl,fun h3 => by rw [h3,beq_eq_false_iff_ne.2 h2]; rfl⟩⟩,fun h2 => ?_,fun h2 => ⟨⟨0,⟨Nat.zero_le _,by simp⟩,rfl⟩,fun b hb => ⟨fun bl => ⟨⟨by omega,bl⟩,?_⟩,fun bg => ?_⟩⟩⟩
  · simp only [bne_iff_ne,ne_eq] at h2
    unfold rightC; rw [if_neg (by omega),if_neg (by rw [h1]; exact Bool.false_ne_true),if_pos (by omega)]
  · have bl':b < c.kers.length := by omega
    obtain ⟨s1,s2⟩ := hb.step bl'
    refine ⟨c.kers.getD b default,⟨rfl,⟨rfl,fun _ _ => rfl⟩,rfl,rfl⟩,mem_getD bl',fun e => ?_,fun e => ⟨b + 1,s2 e,by omega,wrap_i64' (by omega) (by omega)⟩⟩
    have h3:(c.kers.any fun a => !kerB a) = true := List.any_eq_true.2 ⟨_,mem_getD bl',e⟩
    simp only [bne_eq_false_iff_eq] at h2
    unfold rightC; rw [if_neg (by omega),if_neg (by rw [h1]; exact Bool.false_ne_true),if_neg (by omega),if_pos h3]
  have h3:(c.kers.any fun a => !kerB a) = false := by
    rw [← idxG_any _ _ 0 (Int.le_refl _),hb.done bg]; rfl
  simp only [bne_eq_false_iff_eq] at h2
  refine ⟨⟨0,⟨Nat.zero_le _,fun j hj => absurd hj (Nat.not_lt_zero j)⟩,rfl⟩,fun j hj => ⟨fun hl => ⟨by omega,fun e => ?_,fun e => ⟨j + 1,⟨by omega,fun k hk => ?_⟩,by omega,wrap_i64' (by omega) (by omega)⟩⟩,fun hg => ?_⟩⟩
  · have hj':j < c.funs.length := by omega
    have e':(funS c j).isSome = false := by simpa using e
    have hall:¬ ((List.range c.funs.length).all fun f => (funS c f).isSome) = true := by
      rw [List.all_eq_true]
      intro hh
      have := hh j (List.mem_range.2 hj')
      rw [e'] at this; cases this
    unfold rightC; rw [if_neg (by omega),if_neg (by rw [h1]; exact Bool.false_ne_true),if_neg (by omega),if_neg (by rw [h3]; exact Bool.false_ne_true),if_neg hall]
  · have e':(funS c j).isSome = true := by simpa using e
    by_cases hk':k = j
    · rw [hk']; exact e'
    · exact hj.2 k (by omega)
  · have hall:((List.range c.funs.length).all fun f => (funS c f).isSome) = true := by
      rw [List.all_eq_true]
      intro f hf
      exact hj.2 f (by have := List.mem_range.1 hf; omega)
    unfold rightC; rw [if_neg (by omega),if_neg (by rw [h1]; exact Bool.false_ne_true),if_neg (by omega),if_neg (by rw [h3]; exact Bool.false_ne_true),if_pos hall]
end Go.Proofs.YtflbmbkhjcbhoaaGreatDoor
namespace Go.Proofs.YtflbmbkhjcbhoaaGreatDoor
open Go Go.Ab
set_option maxRecDepth 100000
def sWg (row:Arr→List D) (q:Arr→Prop):FnSpec where
  β := Arr × Int
  α := Int
  args := fun x => [.agg (row x.1),.int .i64 x.2]
  st := fun _ => ⟨[],[]⟩
  pre := fun x => q x.1∧1 ≤ x.2∧x.2 ≤ 2000
  post := fun x y => 1 ≤ y∧y ≤ x.2
  res := fun _ y => .ret (.int .i64 y)
  out := fun _ _ => ⟨[],[]⟩
def conWg (its:List Arr):Con := fun k _ _ => match k with
  | 19 => some (sWg Arr.row1 (fun b => b ∈ its))
  | _ => none
noncomputable def Ewg (a:Arr):Senv := { EC (conWg a.it) 41 3 [4,5,6,24] (fun _ => ([],[])) with
  ann := fun q _ S => match q with
    | 0 => some { slots := [5,6],keep := [1,2],α := Int × Nat,st := fun y => ([.int .i64 y.1,.int .i64 y.2],S),inv := fun y => 1 ≤ y.1∧y.1 ≤ 1000000000000000∧y.2 ≤ a.it.length,mu := fun y => a.it.length - y.2 }
    | _ => none }
noncomputable section
def wg1q0 (p0:Arr):List Arr := Arr.it p0
def wg1q1 (p0:Arr):Nat := LN (wg1q0 p0)
def wg1q2 (p0:Int) (p1:Nat) (p2:Arr):Prop := Z1 ≤ p0∧p0 ≤ (1000000000000000:Int)∧p1 ≤ wg1q1 p2
def wg1q3 (p0:Arr):Nat := LN (Arr.sh p0)
def wg1q4 (p0:Arr):Nat := LN (Arr.nu p0)
def wg1q5 (p0:Arr):Int := Arr.k p0
def wg1q6 (p0:Arr) (p1:Nat):List D := [ZI (GI (Arr.sh p0) p1)]
def wg1q7 (p0:Arr) (p1:Nat):List D := [ZI (GI (Arr.nu p0) p1)]
def wg1q8:Arr := DA
def wg1q9 (p0:Arr) (p1:Nat):Arr := List.getD (wg1q0 p0) p1 wg1q8
def wg1q10 (p0:Arr) (p1:Nat):List Int := Arr.sh (wg1q9 p0 p1)
def wg1q11 (p0:Arr) (p1:Nat):List Int := Arr.nu (wg1q9 p0 p1)
def wg1q12 (p0:Arr) (p1:Nat):List Arr := Arr.it (wg1q9 p0 p1)
def wg1q13 (p0:Arr) (p1:Nat):List D := [ZI (Arr.k (wg1q9 p0 p1)),SI (wg1q10 p0 p1),SI (wg1q11 p0 p1),D.sl N4 (LN (wg1q12 p0 p1)) (fun (i:Nat) => Arr.row (List.getD (wg1q12 p0 p1) i wg1q8)) Mode.any]
def wg1q14 (p0:Nat) (p1:Arr):Prop := (SM p0∧(SM (wg1q5 p1)∧(SM (wg1q3 p1)∧(∀ (i:Nat),i < wg1q3 p1→SM (wg1q6 p1 i))∧True)∧(SM (wg1q4 p1)∧(∀ (i:Nat),i < wg1q4 p1→SM (wg1q7 p1 i))∧True)∧(SM (wg1q1 p1)∧(∀ (i:Nat),i < wg1q1 p1→SM (wg1q13 p1 i))∧True)∧True)∧True)∧True
def wg1q15 (p0:Nat) (p1:Arr):Bool := decide ((↑p0:Int) < (NI (wg1q1 p1)))
def wg1q16 (p0:Nat) (p1:Arr) (p2 p3:Int):Bool := bif wg1q15 p0 p1 then decide (p2 < p3) else false
def wg1q17 (p0:Arr) (p1:Nat):Arr := List.getD (wg1q0 p0) (Int.toNat (↑p1:Int)) wg1q8
def wg1q18 (p0:Arr) (p1:Nat):List Int := Arr.sh (wg1q17 p0 p1)
def wg1q19 (p0:Arr) (p1:Nat):Nat := LN (wg1q18 p0 p1)
def wg1q20 (p0:Arr) (p1:Nat):List Int := Arr.nu (wg1q17 p0 p1)
def wg1q21 (p0:Arr) (p1:Nat):Nat := LN (wg1q20 p0 p1)
def wg1q22 (p0:Arr) (p1:Nat):List Arr := Arr.it (wg1q17 p0 p1)
def wg1q23 (p0:Arr) (p1:Nat):Nat := LN (wg1q22 p0 p1)
end
theorem wg_step (a : Arr) (m : Int) (hm : 1 ≤ m ∧ m ≤ 2000) (hs : a.sh.length ≤ maxB ∧ a.nu.length ≤ maxB ∧ a.it.length ≤ maxB) (hc : ConOk Tryz.prog (conWg a.it)) :
    ACalls Tryz.prog 19 ((sWg Arr.row2 (fun _ => True)).args (a,m)) ⟨[],[]⟩ (SpecR (sWg Arr.row2 (fun _ => True)) (a,m)) := by
  refine con_of (A := sWg Arr.row2 (fun _ => True)) (x := (a,m)) (E := Ewg a) (eOk hc rfl) Tryz.func19 rfl (by kernel_rfl) rfl (by simp [sWg,Ewg,EC,E0]) ?_
  refine vc_eq (T :=
    ∀ (x:Nat),True→SM x∧SM x∧(∃ (x_1:Int × Nat),wg1q2 x_1.1 x_1.2 a∧(IntKind.wrap IntKind.i64 (IntKind.wrap IntKind.i64 (Z1 + (NI (wg1q3 a))) + (NI (wg1q4 a))) = x_1.1∧Z0 = (NI x_1.2)∧True)∧wg1q14 x a)∧∀ (x_1:Int × Nat),wg1q2 x_1.1 x_1.2 a→(SM x∧ifB (wg1q15 x_1.2 a) (decide (x_1.1 < m) = wg1q16 x_1.2 a x_1.1 m∧True) (false = wg1q16 x_1.2 a x_1.1 m∧True))∧ifB (wg1q16 x_1.2 a x_1.1 m) (SM x∧side (Z0 ≤ (NI x_1.2)∧(NI x_1.2) < (NI (wg1q1 a))) (∃ (x_2:Arr × Int),((Arr.k (wg1q17 a x_1.2) = wg1q5 x_2.1∧(wg1q19 a x_1.2 = wg1q3 x_2.1∧(∀ (i:Nat),i < wg1q19 a x_1.2→[ZI (GI (wg1q18 a x_1.2) i)] = wg1q6 x_2.1 i)∧True)∧(wg1q21 a x_1.2 = wg1q4 x_2.1∧(∀ (i:Nat),i < wg1q21 a x_1.2→[ZI (GI (wg1q20 a x_1.2) i)] = wg1q7 x_2.1 i)∧True)∧(wg1q23 a x_1.2 = wg1q1 x_2.1∧(∀ (i:Nat),i < wg1q23 a x_1.2→Arr.row (List.getD (wg1q22 a x_1.2) i wg1q8) = Arr.row (wg1q9 x_2.1 i))∧True)∧True)∧IntKind.wrap IntKind.i64 (m - x_1.1) = x_2.2∧True)∧(True∧True)∧(x_2.1 ∈ wg1q0 a∧Z1 ≤ x_2.2∧x_2.2 ≤ (2000:Int))∧∀ (y:Int),Z1 ≤ y∧y ≤ x_2.2→(SM (ZI m)∧SM (D.ref N0 x N0)∧True)∧∃ (y_1:Int × Nat),wg1q2 y_1.1 y_1.2 a∧wg1q1 a - y_1.2 < wg1q1 a - x_1.2∧(IntKind.wrap IntKind.i64 (x_1.1 + y) = y_1.1∧IntKind.wrap IntKind.i64 ((NI x_1.2) + Z1) = (NI y_1.2)∧True)∧wg1q14 x a)) (True∧∃ (y:Int),(Z1 ≤ y∧y ≤ m)∧(if m < x_1.1 then m else x_1.1) = y∧True∧True)) (by kernel_rfl) ?_
  delta DA GI LN N0 N1 N4 NI SI SM Z0 Z1 ZI wg1q0 wg1q1 wg1q10 wg1q11 wg1q12 wg1q13 wg1q14 wg1q15 wg1q16 wg1q17 wg1q18 wg1q19 wg1q2 wg1q20 wg1q21 wg1q22 wg1q23 wg1q3 wg1q4 wg1q5 wg1q6 wg1q7 wg1q8 wg1q9
  have da:(default:Arr) = Arr.mk 0 [] [] [] := rfl
  simp only [← da,ifB_iff,side_iff,decide_eq_true_eq,decide_eq_false_iff_not,true_and,and_true,Bool.cond_false_right,Bool.and_eq_true,Bool.and_eq_false_iff,forall_const,implies_true,Int.toNat_natCast,Prod.exists]
  obtain ⟨m1,m2⟩ := hm
  obtain ⟨s1,s2,s3⟩ := hs
  simp only [maxB] at s1 s2 s3
  have w1:IntKind.i64.wrap (1 + (a.sh.length:Int)) = 1 + (a.sh.length:Int) := wrap_i64' (by omega) (by omega)
  have w2:IntKind.i64.wrap (1 + (a.sh.length:Int) + (a.nu.length:Int)) = 1 + (a.sh.length:Int) + (a.nu.length:Int) := wrap_i64' (by omega) (by omega)
  rw [w1,w2]
  refine ⟨⟨_,0,⟨by omega,by omega,Nat.zero_le _⟩,rfl,rfl⟩,?_⟩
  rintro ⟨n,i⟩ ⟨n1,n2,hi⟩
  simp only at n1 n2 hi ⊢
  refine ⟨⟨fun h => by rw [decide_eq_true h]; rfl,fun h => by rw [decide_eq_false h]; rfl⟩,fun ⟨h1,h2⟩ => ?_,fun h => ?_⟩
  · have w3:IntKind.i64.wrap (m - n) = m - n := wrap_i64' (by omega) (by omega)
    refine ⟨⟨by omega,h1⟩,a.it.getD i default,m - n,⟨⟨rfl,⟨rfl,fun _ _ => rfl⟩,⟨rfl,fun _ _ => rfl⟩,rfl,fun _ _ => rfl⟩,w3⟩,⟨mem_getD (by omega),by omega,by omega⟩,fun y hy => ⟨n + y,i + 1,⟨by omega,by omega,by omega⟩,by omega,wrap_i64' (by omega) (by omega),wrap_i64' (by omega) (by omega)⟩⟩
  · refine ⟨_,⟨?_,?_⟩,rfl⟩
    · split <;> omega
    · split <;> omega
theorem sWg_row {q q':Arr→Prop} {x:Arr × Int} (h:ACalls Tryz.prog 19 ((sWg Arr.row2 q).args x) ⟨[],[]⟩ (SpecR (sWg Arr.row2 q) x)):ACalls Tryz.prog 19 ((sWg Arr.row1 q').args x) ⟨[],[]⟩ (SpecR (sWg Arr.row1 q') x) :=
  (h.wkArgs (by simp only [sWg,wkL,wkD]; exact ⟨row1_wk _,weakD_refl _,trivial⟩)).mono fun _ _ ⟨y,q1,q2,q3⟩ => ⟨y,q1,q2,q3⟩
theorem sWg_row0 {q q':Arr→Prop} {x:Arr × Int} (h:ACalls Tryz.prog 19 ((sWg Arr.row2 q).args x) ⟨[],[]⟩ (SpecR (sWg Arr.row2 q) x)):ACalls Tryz.prog 19 ((sWg Arr.row q').args x) ⟨[],[]⟩ (SpecR (sWg Arr.row q') x) := by
  have h1 := ACalls.wkArgs (ds := (sWg Arr.row1 q).args x) h (by simp only [sWg,wkL,wkD]; exact ⟨row1_wk _,weakD_refl _,trivial⟩)
  have h2 := ACalls.wkArgs (ds := (sWg Arr.row q).args x) h1 (by simp only [sWg,wkL,wkD]; exact ⟨row_wk _,weakD_refl _,trivial⟩)
  exact h2.mono fun _ _ ⟨y,q1,q2,q3⟩ => ⟨y,q1,q2,q3⟩
theorem wg_all:∀ (a:Arr),a.sm→∀ m:Int,1 ≤ m∧m ≤ 2000→ACalls Tryz.prog 19 ((sWg Arr.row2 (fun _ => True)).args (a,m)) ⟨[],[]⟩ (SpecR (sWg Arr.row2 (fun _ => True)) (a,m))
  | .mk k s n is,h,m,hm => by
    simp only [Arr.sm] at h
    obtain ⟨h1,h2,h3,h4⟩ := h
    refine wg_step _ m hm ⟨h1,h2,h3⟩ ?_
    intro f ds S A hk
    unfold conWg at hk
    split at hk
    · injection hk with hk; subst hk
      refine ConOk.plain (fun (x:Arr × Int) hx => ?_) rfl rfl
      obtain ⟨b,z⟩ := x
      have hb':b ∈ is := hx.1
      exact sWg_row (wg_all b ((smL_iff _).1 h4 b hb') z hx.2)
    · cases hk
termination_by a => SizeOf.sizeOf a
decreasing_by
  have := List.sizeOf_lt_of_mem hb'
  simp; omega
theorem getD_mem' {α:Type} {l:List α} {i:Nat} {d:α} (h:i < l.length):l.getD i d ∈ l := by
  rw [List.getD_eq_getElem?_getD,List.getElem?_eq_getElem h]; exact List.getElem_mem h
structure SmC (c:CodD):Prop where
  cl:c.consts.length < 2000
  fl:c.funs.length < 2000
  kl:c.kers.length < 2000
  ll:c.lanes.length < 2000
  fs:∀ j,j < c.funs.length→(c.funs.getD j default).code.length < 2000
  ks:∀ j,j < c.kers.length→(c.kers.getD j default).ops.length < 2000
  ls:∀ j,j < c.lanes.length→(c.lanes.getD j default).code.length < 2000
def numOf:D→Int
  | .int _ z => z
  | _ => 0
def conSl (c:CodD):Con := fun k _ _ => match k with
  | 19 => some (sWg Arr.row (fun b => b ∈ c.consts))
  | _ => none
noncomputable def Esl (c:CodD):Senv := { EC (conSl c) 104 8 [31,50,70,90] (fun _ => ([],[])) with
  ann := fun q env S => match q with
    | 0 => some { slots := [3,4],keep := [1],α := Int × Nat,st := fun y => ([.int .i64 y.1,.int .i64 y.2],S),inv := fun y => numOf (Ab.look env 3) ≤ y.1∧y.1 ≤ 1000000000000000∧y.2 ≤ c.consts.length,mu := fun y => c.consts.length - y.2 }
    | 2 => some { slots := [3,5],keep := [1],α := Int × Nat,st := fun y => ([.int .i64 y.1,.int .i64 y.2],S),inv := fun y => (numOf (Ab.look env 3) ≤ y.1∧y.1 ≤ 1000000000000000∧y.2 ≤ c.funs.length)∧∀ j,j < y.2→((c.funs.getD j default).code.length:Int) ≤ y.1,mu := fun y => c.funs.length - y.2 }
    | 4 => some { slots := [3,6],keep := [1],α := Int × Nat,st := fun y => ([.int .i64 y.1,.int .i64 y.2],S),inv := fun y => (numOf (Ab.look env 3) ≤ y.1∧y.1 ≤ 1000000000000000∧y.2 ≤ c.kers.length)∧∀ j,j < y.2→((c.kers.getD j default).ops.length:Int) ≤ y.1,mu := fun y => c.kers.length - y.2 }
    | 6 => some { slots := [3,7],keep := [1],α := Int × Nat,st := fun y => ([.int .i64 y.1,.int .i64 y.2],S),inv := fun y => (numOf (Ab.look env 3) ≤ y.1∧y.1 ≤ 1000000000000000∧y.2 ≤ c.lanes.length)∧∀ j,j < y.2→((c.lanes.getD j default).code.length:Int) ≤ y.1,mu := fun y => c.lanes.length - y.2 }
    | _ => none }
noncomputable section
def wg1q24 (p0:CodD):List Arr := CodD.consts p0
def wg1q25 (p0:CodD):Nat := LN (wg1q24 p0)
def wg1q26 (p0:CodD):Int := (NI (wg1q25 p0))
def wg1q27 (p0:CodD):List FnD := CodD.funs p0
def wg1q28 (p0:CodD):Nat := LN (wg1q27 p0)
def wg1q29 (p0:CodD):Int := (NI (wg1q28 p0))
def wg1q30 (p0:CodD):List KeD := CodD.kers p0
def wg1q31 (p0:CodD):Nat := LN (wg1q30 p0)
def wg1q32 (p0:CodD):Int := (NI (wg1q31 p0))
def wg1q33 (p0:CodD):List LaD := CodD.lanes p0
def wg1q34 (p0:CodD):Nat := LN (wg1q33 p0)
def wg1q35 (p0:CodD):Int := (NI (wg1q34 p0))
def wg1q36 (p0:CodD):Int := IntKind.wrap IntKind.i64 (IntKind.wrap IntKind.i64 (IntKind.wrap IntKind.i64 (wg1q26 p0 + wg1q29 p0) + wg1q32 p0) + wg1q35 p0)
def wg1q37 (p0:CodD) (p1:Int) (p2:Nat):Prop := numOf (ZI (wg1q36 p0)) ≤ p1∧p1 ≤ (1000000000000000:Int)∧p2 ≤ wg1q25 p0
def wg1q38:Arr := DA
def wg1q39 (p0:CodD) (p1:Nat):List D := Arr.row (List.getD (wg1q24 p0) p1 wg1q38)
def wg1q40:FnD := DF
def wg1q41 (p0:CodD) (p1:Nat):FnD := List.getD (wg1q27 p0) p1 wg1q40
def wg1q42 (p0:CodD) (p1:Nat):List D := FnD.row (wg1q41 p0 p1)
def wg1q43:KeD := DK
def wg1q44 (p0:CodD) (p1:Nat):KeD := List.getD (wg1q30 p0) p1 wg1q43
def wg1q45 (p0:CodD) (p1:Nat):List D := KeD.row (wg1q44 p0 p1)
def wg1q46:LaD := DL
def wg1q47 (p0:CodD) (p1:Nat):LaD := List.getD (wg1q33 p0) p1 wg1q46
def wg1q48 (p0:CodD) (p1:Nat):List D := LaD.row (wg1q47 p0 p1)
def wg1q49 (p0:Nat) (p1:CodD):Prop := (SM p0∧((SM (wg1q25 p1)∧(∀ (i:Nat),i < wg1q25 p1→SM (wg1q39 p1 i))∧True)∧(SM (wg1q28 p1)∧(∀ (i:Nat),i < wg1q28 p1→SM (wg1q42 p1 i))∧True)∧(SM (wg1q31 p1)∧(∀ (i:Nat),i < wg1q31 p1→SM (wg1q45 p1 i))∧True)∧(SM (wg1q34 p1)∧(∀ (i:Nat),i < wg1q34 p1→SM (wg1q48 p1 i))∧True)∧True)∧True)∧True
def wg1q50 (p0:Nat) (p1:CodD):Bool := decide ((↑p0:Int) < wg1q26 p1)
def wg1q51 (p0:Int):Bool := decide (p0 < (2000:Int))
def wg1q52 (p0:Nat) (p1:CodD) (p2:Int):Bool := bif wg1q50 p0 p1 then wg1q51 p2 else false
def wg1q53 (p0:CodD) (p1:Nat):List D := Arr.row (List.getD (wg1q24 p0) (Int.toNat (↑p1:Int)) wg1q38)
def wg1q54 (p0:Nat):Prop := SM (D.ref N0 p0 N0)∧True
def wg1q55 (p0 p1:Nat):Prop := IntKind.wrap IntKind.i64 ((↑p0:Int) + Z1) = (↑p1:Int)∧True
def wg1q56 (p0 p1:Int):Prop := numOf (ZI p0) ≤ p1
def wg1q57 (p0 p1:Int) (p2:Nat) (p3:CodD):Prop := (wg1q56 p0 p1∧p1 ≤ (1000000000000000:Int)∧p2 ≤ wg1q28 p3)∧∀ (j:Nat),j < p2→(LI (FnD.code (wg1q41 p3 j))) ≤ p1
def wg1q58 (p0 p1:Int) (p2 p3:Nat) (p4:CodD):Prop := (p0 = p1∧Z0 = (↑p2:Int)∧True)∧wg1q49 p3 p4
def wg1q59 (p0:Nat) (p1:CodD):Bool := decide ((↑p0:Int) < wg1q29 p1)
def wg1q60 (p0:Nat) (p1:CodD) (p2:Int):Bool := bif wg1q59 p0 p1 then wg1q51 p2 else false
def wg1q61 (p0 p1:Int) (p2:Nat) (p3:CodD):Prop := (wg1q56 p0 p1∧p1 ≤ (1000000000000000:Int)∧p2 ≤ wg1q31 p3)∧∀ (j:Nat),j < p2→(LI (KeD.ops (wg1q44 p3 j))) ≤ p1
def wg1q62 (p0:Nat) (p1:CodD):Bool := decide ((↑p0:Int) < wg1q32 p1)
def wg1q63 (p0:Nat) (p1:CodD) (p2:Int):Bool := bif wg1q62 p0 p1 then wg1q51 p2 else false
def wg1q64 (p0 p1:Int) (p2:Nat) (p3:CodD):Prop := (wg1q56 p0 p1∧p1 ≤ (1000000000000000:Int)∧p2 ≤ wg1q34 p3)∧∀ (j:Nat),j < p2→(LI (LaD.code (wg1q47 p3 j))) ≤ p1
def wg1q65 (p0:Nat) (p1:CodD):Bool := decide ((↑p0:Int) < wg1q35 p1)
def wg1q66 (p0:Nat) (p1:CodD) (p2:Int):Bool := bif wg1q65 p0 p1 then wg1q51 p2 else false
end
theorem small_ok (c:CodD) (hs:c.sm):ACalls Tryz.prog 8 [.agg c.row] ⟨[],[]⟩ (SpecR (pQ [.agg c.row] (fun b:Bool => .bool b) (fun b => b = true→SmC c) True) ()) := by
  have hc:ConOk Tryz.prog (conSl c) := by
    intro f ds S A hk
    unfold conSl at hk
    split at hk
    · injection hk with hk; subst hk
      refine ConOk.plain (fun (x:Arr × Int) hx => ?_) rfl rfl
      exact sWg_row0 (wg_all x.1 (hs.1 _ hx.1) x.2 hx.2)
    · cases hk
  refine con_of (A := pQ _ _ _ _) (x := ()) (E := Esl c) (eOk hc rfl) Tryz.func8 rfl (by kernel_rfl) rfl (by simp [pQ,Esl,EC,E0]) ?_
  refine vc_eq (T :=
    ∀ (x:Nat),True→SM x∧SM x∧SM x∧SM x∧(∃ (x_1:Int × Nat),wg1q37 c x_1.1 x_1.2∧(wg1q36 c = x_1.1∧Z0 = (NI x_1.2)∧True)∧wg1q49 x c)∧∀ (x_1:Int × Nat),wg1q37 c x_1.1 x_1.2→(SM x∧ifB (wg1q50 x_1.2 c) (wg1q51 x_1.1 = wg1q52 x_1.2 c x_1.1∧True) (false = wg1q52 x_1.2 c x_1.1∧True))∧ifB (wg1q52 x_1.2 c x_1.1) (SM x∧side (Z0 ≤ (NI x_1.2)∧(NI x_1.2) < wg1q26 c) (side (N4 ≤ LN (wg1q53 c x_1.2)) (∃ (x_2:Arr × Int),(weakL (List.take N4 (List.drop N0 (wg1q53 c x_1.2))) (Arr.row x_2.1)∧(2000:Int) = x_2.2∧True)∧(True∧True)∧(x_2.1 ∈ wg1q24 c∧Z1 ≤ x_2.2∧x_2.2 ≤ (2000:Int))∧∀ (y:Int),Z1 ≤ y∧y ≤ x_2.2→wg1q54 x∧∃ (y_1:Int × Nat),wg1q37 c y_1.1 y_1.2∧wg1q25 c - y_1.2 < wg1q25 c - x_1.2∧(IntKind.wrap IntKind.i64 (x_1.1 + y) = y_1.1∧wg1q55 x_1.2 y_1.2)∧wg1q49 x c))) ((∃ (x_2:Int × Nat),wg1q57 x_1.1 x_2.1 x_2.2 c∧wg1q58 x_1.1 x_2.1 x_2.2 x c)∧∀ (x_2:Int × Nat),wg1q57 x_1.1 x_2.1 x_2.2 c→(SM x∧ifB (wg1q59 x_2.2 c) (wg1q51 x_2.1 = wg1q60 x_2.2 c x_2.1∧True) (false = wg1q60 x_2.2 c x_2.1∧True))∧ifB (wg1q60 x_2.2 c x_2.1) (SM x∧side (Z0 ≤ (NI x_2.2)∧(NI x_2.2) < wg1q29 c) (wg1q54 x∧∃ (y:Int × Nat),wg1q57 x_1.1 y.1 y.2 c∧wg1q28 c - y.2 < wg1q28 c - x_2.2∧(IntKind.wrap IntKind.i64 (x_2.1 + (LI (FnD.code (List.getD (wg1q27 c) (TN x_2.2) wg1q40)))) = y.1∧wg1q55 x_2.2 y.2)∧wg1q49 x c)) ((∃ (x_3:Int × Nat),wg1q61 x_2.1 x_3.1 x_3.2 c∧wg1q58 x_2.1 x_3.1 x_3.2 x c)∧∀ (x_3:Int × Nat),wg1q61 x_2.1 x_3.1 x_3.2 c→(SM x∧ifB (wg1q62 x_3.2 c) (wg1q51 x_3.1 = wg1q63 x_3.2 c x_3.1∧True) (false = wg1q63 x_3.2 c x_3.1∧True))∧ifB (wg1q63 x_3.2 c x_3.1) (SM x∧side (Z0 ≤ (NI x_3.2)∧(NI x_3.2) < wg1q32 c) (wg1q54 x∧∃ (y:Int × Nat),wg1q61 x_2.1 y.1 y.2 c∧wg1q31 c - y.2 < wg1q31 c - x_3.2∧(IntKind.wrap IntKind.i64 (x_3.1 + (LI (KeD.ops (List.getD (wg1q30 c) (TN x_3.2) wg1q43)))) = y.1∧wg1q55 x_3.2 y.2)∧wg1q49 x c)) ((∃ (x_4:Int × Nat),wg1q64 x_3.1 x_4.1 x_4.2 c∧wg1q58 x_3.1 x_4.1 x_4.2 x c)∧∀ (x_4:Int × Nat),wg1q64 x_3.1 x_4.1 x_4.2 c→(SM x∧ifB (wg1q65 x_4.2 c) (wg1q51 x_4.1 = wg1q66 x_4.2 c x_4.1∧True) (false = wg1q66 x_4.2 c x_4.1∧True))∧ifB (wg1q66 x_4.2 c x_4.1) (SM x∧side (Z0 ≤ (NI x_4.2)∧(NI x_4.2) < wg1q35 c) (wg1q54 x∧∃ (y:Int × Nat),wg1q64 x_3.1 y.1 y.2 c∧wg1q34 c - y.2 < wg1q34 c - x_4.2∧(IntKind.wrap IntKind.i64 (x_4.1 + (LI (LaD.code (List.getD (wg1q33 c) (TN x_4.2) wg1q46)))) = y.1∧wg1q55 x_4.2 y.2)∧wg1q49 x c)) (True∧∃ (y:Bool),(y = true→SmC c)∧wg1q51 x_4.1 = y∧True∧True))))) (by kernel_rfl) ?_
  delta DA DF DK DL LI LN N0 N4 NI SM TN Z0 Z1 ZI wg1q24 wg1q25 wg1q26 wg1q27 wg1q28 wg1q29 wg1q30 wg1q31 wg1q32 wg1q33 wg1q34 wg1q35 wg1q36 wg1q37 wg1q38 wg1q39 wg1q40 wg1q41 wg1q42 wg1q43 wg1q44 wg1q45 wg1q46 wg1q47 wg1q48 wg1q49 wg1q50 wg1q51 wg1q52 wg1q53 wg1q54 wg1q55 wg1q56 wg1q57 wg1q58 wg1q59 wg1q60 wg1q61 wg1q62 wg1q63 wg1q64 wg1q65 wg1q66
  simp only [ifB_iff,side_iff,decide_eq_true_eq,decide_eq_false_iff_not,true_and,and_true,Bool.cond_false_right,Bool.and_eq_true,Bool.and_eq_false_iff,forall_const,implies_true,Int.toNat_natCast,Prod.exists,eq_self,numOf]
  obtain ⟨_,f2,f3,f4,l1,l2,l3,l4⟩ := hs
  simp only [maxB] at l1 l2 l3 l4 f2 f3 f4
  have hfl:∀ i,i < c.funs.length→(c.funs.getD i ⟨0,[]⟩).code.length ≤ 140737488351232 := fun i hi => f2 _ (getD_mem' hi)
  have hkl:∀ i,i < c.kers.length→(c.kers.getD i ⟨0,[],0,0⟩).ops.length ≤ 140737488351232 := fun i hi => f3 _ (getD_mem' hi)
  have hll:∀ i,i < c.lanes.length→(c.lanes.getD i ⟨0,[]⟩).code.length ≤ 140737488351232 := fun i hi => f4 _ (getD_mem' hi)
  have w1:IntKind.i64.wrap ((c.consts.length:Int) + c.funs.length) = (c.consts.length:Int) + c.funs.length := wrap_i64' (by omega) (by omega)
  have w2:IntKind.i64.wrap ((c.consts.length:Int) + c.funs.length + c.kers.length) = (c.consts.length:Int) + c.funs.length + c.kers.length := wrap_i64' (by omega) (by omega)
  have w3:IntKind.i64.wrap ((c.consts.length:Int) + c.funs.length + c.kers.length + c.lanes.length) = (c.consts.length:Int) + c.funs.length + c.kers.length + c.lanes.length := wrap_i64' (by omega) (by omega)
  rw [w1,w2,w3]
  have dB:∀ {p q:Prop} [Decidable p] [Decidable q],(p→decide q = (decide p && decide q))∧(¬ p→false = (decide p && decide q)) := fun {p q} _ _ => ⟨fun h => by rw [decide_eq_true h]; rfl,fun h => by rw [decide_eq_false h]; rfl⟩
  refine ⟨⟨_,0,⟨Int.le_refl _,by omega,Nat.zero_le _⟩,rfl,rfl⟩,?_⟩
  rintro ⟨n1,i1⟩ ⟨a1,a2,a3⟩
  simp only at a1 a2 a3 ⊢
  refine ⟨dB,fun ⟨h1,h2⟩ => ?_,fun h1 => ⟨⟨n1,0,⟨⟨Int.le_refl _,a2,Nat.zero_le _⟩,fun j hj => absurd hj (by omega)⟩,rfl,rfl⟩,?_⟩⟩
  · have hr:(c.consts.getD i1 (Arr.mk 0 [] [] [])).row.length = 4 := by
      generalize c.consts.getD i1 (Arr.mk 0 [] [] []) = a
      cases a; rfl
    have ht:List.take 4 (List.drop 0 (c.consts.getD i1 (Arr.mk 0 [] [] [])).row) = (c.consts.getD i1 (Arr.mk 0 [] [] [])).row := by
      rw [List.drop_zero,List.take_of_length_le (by omega)]
    rw [ht]
    exact ⟨⟨by omega,h1⟩,by omega,c.consts.getD i1 (Arr.mk 0 [] [] []),2000,⟨weakL_refl _,rfl⟩,⟨getD_mem' (by omega),by omega,by omega⟩,fun y hy => ⟨n1 + y,i1 + 1,⟨by omega,by omega,by omega⟩,by omega,wrap_i64' (by omega) (by omega),wrap_i64' (by omega) (by omega)⟩⟩
  rintro ⟨n2,i2⟩ ⟨⟨b1,b2,b3⟩,b4⟩
  simp only at b1 b2 b3 b4 ⊢
  refine ⟨dB,fun ⟨h2,h3⟩ => ?_,fun h2 => ⟨⟨n2,0,⟨⟨Int.le_refl _,b2,Nat.zero_le _⟩,fun j hj => absurd hj (by omega)⟩,rfl,rfl⟩,?_⟩⟩
  · have hc := hfl i2 (by omega)
    have hw:IntKind.i64.wrap (n2 + ((c.funs.getD i2 ⟨0,[]⟩).code.length:Int)) = n2 + ((c.funs.getD i2 ⟨0,[]⟩).code.length:Int) := wrap_i64' (by omega) (by omega)
    refine ⟨⟨by omega,h2⟩,n2 + ((c.funs.getD i2 ⟨0,[]⟩).code.length:Int),i2 + 1,⟨⟨by omega,by omega,by omega⟩,fun j hj => ?_⟩,by omega,hw,wrap_i64' (by omega) (by omega)⟩
    by_cases e:j = i2
    · subst e; omega
    · have := b4 j (by omega); omega
  rintro ⟨n3,i3⟩ ⟨⟨c1,c2,c3⟩,c4⟩
  simp only at c1 c2 c3 c4 ⊢
  refine ⟨dB,fun ⟨h3,h4⟩ => ?_,fun h3 => ⟨⟨n3,0,⟨⟨Int.le_refl _,c2,Nat.zero_le _⟩,fun j hj => absurd hj (by omega)⟩,rfl,rfl⟩,?_⟩⟩
  · have hc := hkl i3 (by omega)
    have hw:IntKind.i64.wrap (n3 + ((c.kers.getD i3 ⟨0,[],0,0⟩).ops.length:Int)) = n3 + ((c.kers.getD i3 ⟨0,[],0,0⟩).ops.length:Int) := wrap_i64' (by omega) (by omega)
    refine ⟨⟨by omega,h3⟩,n3 + ((c.kers.getD i3 ⟨0,[],0,0⟩).ops.length:Int),i3 + 1,⟨⟨by omega,by omega,by omega⟩,fun j hj => ?_⟩,by omega,hw,wrap_i64' (by omega) (by omega)⟩
    by_cases e:j = i3
    · subst e; omega
    · have := c4 j (by omega); omega
  rintro ⟨n4,i4⟩ ⟨⟨d1,d2,d3⟩,d4⟩
  simp only at d1 d2 d3 d4 ⊢
  refine ⟨dB,fun ⟨h4,h5⟩ => ?_,fun h4 => ⟨_,fun hb => ?_,rfl⟩⟩
  · have hc := hll i4 (by omega)
    have hw:IntKind.i64.wrap (n4 + ((c.lanes.getD i4 ⟨0,[]⟩).code.length:Int)) = n4 + ((c.lanes.getD i4 ⟨0,[]⟩).code.length:Int) := wrap_i64' (by omega) (by omega)
    refine ⟨⟨by omega,h4⟩,n4 + ((c.lanes.getD i4 ⟨0,[]⟩).code.length:Int),i4 + 1,⟨⟨by omega,by omega,by omega⟩,fun j hj => ?_⟩,by omega,hw,wrap_i64' (by omega) (by omega)⟩
    by_cases e:j = i4
    · subst e; omega
    · have := d4 j (by omega); omega
  · have hb:n4 < 2000 := of_decide_eq_true hb
    refine ⟨by omega,by omega,by omega,by omega,fun j hj => ?_,fun j hj => ?_,fun j hj => ?_⟩
    · have := b4 j (by omega)
      show (c.funs.getD j ⟨0,[]⟩).code.length < 2000
      omega
    · have := c4 j (by omega)
      show (c.kers.getD j ⟨0,[],0,0⟩).ops.length < 2000
      omega
    · have := d4 j (by omega)
      show (c.lanes.getD j ⟨0,[]⟩).code.length < 2000
      omega
end Go.Proofs.YtflbmbkhjcbhoaaGreatDoor
namespace Go.Proofs.YtflbmbkhjcbhoaaGreatDoor
open Go Go.Ab
set_option maxRecDepth 100000
def depC (c:CodD) (z:Int):Option Nat := if 0 ≤ z∧z < c.funs.length∧rightC c = 0 then funS c z.toNat else none
def conDp (c:CodD):Con := fun k ds _ => match k with
  | 10 => some (pC ds (.int .i64 (rightC c)) (weakL ds [.agg c.row]))
  | 11 => some (pC ds (.int .i64 (rightC c)) (weakL ds [.agg c.row]))
  | 27 => match ds with
    | [_,.int .i64 z] => some (pC ds (funD (funS c z.toNat)) (weakL ds [.agg c.row,.int .i64 z.toNat]∧z.toNat < c.funs.length))
    | _ => none
  | 30 => match ds with
    | [_,.int .i64 z] => some (pC ds (funD (funS c z.toNat)) (weakL ds [.agg c.row,.int .i64 z.toNat]∧z.toNat < c.funs.length))
    | _ => none
  | _ => none
theorem conDp_ok {c:CodD} (hc:c.ok) (hs:∀ f,f < c.funs.length→(c.funs.getD f default).code.length ≤ 65536):ConOk Tryz.prog (conDp c) := by
  intro k ds S A h
  unfold conDp at h
  split at h
  · injection h with h; subst h
    exact pC_ok fun e => ⟨weakL_refl _,sC_weak e (rt_ok c hc hs)⟩
  · injection h with h; subst h
    exact pC_ok fun e => ⟨weakL_refl _,sC_weak e (rrt_ok c hc hs)⟩
  · split at h
    · injection h with h; subst h
      exact pC_ok fun ⟨e,hf⟩ => ⟨weakL_refl _,sC_weak e (fun_ok c _ hf hc (hs _ hf))⟩
    · cases h
  · split at h
    · injection h with h; subst h
      exact pC_ok fun ⟨e,hf⟩ => ⟨weakL_refl _,sC_weak e (rfun_ok c _ hf hc (hs _ hf))⟩
    · cases h
  · cases h
theorem dep_none {c:CodD} {z:Int} (h:¬(0 ≤ z∧z < c.funs.length∧rightC c = 0)):(0:Int) = ((depC c z).getD 0:Nat)∧false = (depC c z).isSome := by
  unfold depC; rw [if_neg h]; exact ⟨rfl,rfl⟩
theorem dep_some {c:CodD} {z:Int} (h:0 ≤ z∧z < c.funs.length∧rightC c = 0):(((funS c z.toNat).getD 0:Nat):Int) = ((depC c z).getD 0:Nat)∧(funS c z.toNat).isSome = (depC c z).isSome := by
  unfold depC; rw [if_pos h]; exact ⟨rfl,rfl⟩
noncomputable def Edp (c:CodD):Senv := EC (conDp c) 25 3 [4,5,19] (fun _ => ([],[]))
noncomputable section
def dp1q0 (p0:CodD) (p1:Int):Prop := True∧∃ (_y:Unit),True∧(Z0 = (NI (Option.getD (depC p0 p1) N0))∧false = Option.isSome (depC p0 p1)∧True)∧True∧True
def dp1q1 (p0:CodD):Nat := LN (CodD.funs p0)
def dp1q2 (p0:CodD):Nat := LN (CodD.consts p0)
def dp1q3 (p0:CodD) (p1:Nat):List D := Arr.row (GC p0 p1)
def dp1q4 (p0:CodD) (p1:Nat):List D := FnD.row (GF p0 p1)
def dp1q5 (p0:CodD):Nat := LN (CodD.kers p0)
def dp1q6 (p0:CodD) (p1:Nat):List D := KeD.row (GK p0 p1)
def dp1q7 (p0:CodD):Nat := LN (CodD.lanes p0)
def dp1q8 (p0:CodD) (p1:Nat):List D := LaD.row (GL p0 p1)
def dp1q9 (p0:CodD):Prop := (SM (dp1q2 p0)∧(∀ (i:Nat),i < dp1q2 p0→SM (dp1q3 p0 i))∧True)∧(SM (dp1q1 p0)∧(∀ (i:Nat),i < dp1q1 p0→SM (dp1q4 p0 i))∧True)∧(SM (dp1q5 p0)∧(∀ (i:Nat),i < dp1q5 p0→SM (dp1q6 p0 i))∧True)∧(SM (dp1q7 p0)∧(∀ (i:Nat),i < dp1q7 p0→SM (dp1q8 p0 i))∧True)∧True
end
theorem dp_ok (c:CodD) (z:Int) (hc:c.ok) (hs:∀ f,f < c.funs.length→(c.funs.getD f default).code.length ≤ 65536):ACalls Tryz.prog 12 [.agg c.row,.int .i64 z] ⟨[],[]⟩ (SpecR (sC [.agg c.row,.int .i64 z] (funD (depC c z))) ()) := by
  refine con_of (A := sC _ _) (x := ()) (E := Edp c) (eOk (conDp_ok hc hs) rfl) Tryz.func12 rfl (by kernel_rfl) rfl (by simp [sC,Edp,EC,E0]) ?_
  refine vc_eq (T :=
    ∀ (x:Nat),True→ifB (decide (z < Z0)) (dp1q0 c z) (SM x∧ifB (decide ((NI (dp1q1 c)) ≤ z)) (dp1q0 c z) (SM x∧(dp1q9 c∧True)∧∀ (y:Unit),True→ifB (rightC c != Z0) (dp1q0 c z) (SM x∧((dp1q9 c∧z = (NI (Int.toNat z))∧True)∧Int.toNat z < dp1q1 c)∧∀ (y:Unit),True→True∧∃ (y:Unit),True∧((NI (Option.getD (funS c (Int.toNat z)) N0)) = (NI (Option.getD (depC c z) N0))∧Option.isSome (funS c (Int.toNat z)) = Option.isSome (depC c z)∧True)∧True∧True)))) (by kernel_rfl) ?_
  delta DA DF DK DL GC GF GK GL LN N0 NI SM Z0 dp1q0 dp1q1 dp1q2 dp1q3 dp1q4 dp1q5 dp1q6 dp1q7 dp1q8 dp1q9
  simp only [eq_self,implies_true,ifB_iff,decide_eq_true_eq,decide_eq_false_iff_not,true_and,and_true,exists_const,forall_const]
  refine ⟨fun h => dep_none (by omega),fun h => ⟨fun h2 => dep_none (by omega),fun h2 => ⟨fun h3 => dep_none fun hh => ?_,fun h3 => ⟨⟨by omega,by omega⟩,dep_some ⟨by omega,by omega,by simpa using h3⟩⟩⟩⟩⟩
  rw [hh.2.2] at h3; cases h3
end Go.Proofs.YtflbmbkhjcbhoaaGreatDoor
namespace Go.Proofs.YtflbmbkhjcbhoaaGreatDoor
open Go Go.Ab
set_option maxRecDepth 100000
def namesL:List (List UInt8) := [[],[99,111,110,115,116],[105,110,112,117,116],[108,101,102,116],[114,105,103,104,116],[103,101,116],[115,101,116],[115,116,114,97,110,100],[109,111,110,97,100],[100,121,97,100],[112,114,105,109],[99,108,111,115,117,114,101],[102,117,110],[115,101,108,102],[111,112,101,114,97,110,100,49],[111,112,101,114,97,110,100,50],[100,101,114,105,118,101,49],[100,101,114,105,118,101,50],[116,114,97,105,110],[102,105,120,101,100],[117,115,101,114,49],[117,115,101,114,50],[99,97,108,108,49],[99,97,108,108,50],[103,117,97,114,100],[114,101,116,117,114,110],[107,101,101,112],[107,101,114,110,101,108]]
def nameT (op:Int):List UInt8 := namesL.getD op.toNat []
noncomputable def Enm:Senv := { EC con0 6 1 [2] (fun _ => ([],[])) with mg := fun _ => 2 }
theorem nm_ok (op:Int) (h:0 ≤ op∧op < 28):ACalls Tryz.prog 75 [.int .i64 op] ⟨[],[]⟩ (SpecR (sC [.int .i64 op] (.str (nameT op))) ()) := by
  refine con_of (A := sC _ _) (x := ()) (E := Enm) (eOk con0_ok rfl) Tryz.func75 rfl (by kernel_rfl) rfl (by simp [sC,Enm,EC,E0]) ?_
  refine vc_eq (T :=
    side (Z0 ≤ op∧op < (28:Int)) (True∧∃ (y:Unit),True∧List.getD [[],[(99:UInt8),(111:UInt8),(110:UInt8),(115:UInt8),(116:UInt8)],[(105:UInt8),(110:UInt8),(112:UInt8),(117:UInt8),(116:UInt8)],[(108:UInt8),(101:UInt8),(102:UInt8),(116:UInt8)],[(114:UInt8),(105:UInt8),(103:UInt8),(104:UInt8),(116:UInt8)],[(103:UInt8),(101:UInt8),(116:UInt8)],[(115:UInt8),(101:UInt8),(116:UInt8)],[(115:UInt8),(116:UInt8),(114:UInt8),(97:UInt8),(110:UInt8),(100:UInt8)],[(109:UInt8),(111:UInt8),(110:UInt8),(97:UInt8),(100:UInt8)],[(100:UInt8),(121:UInt8),(97:UInt8),(100:UInt8)],[(112:UInt8),(114:UInt8),(105:UInt8),(109:UInt8)],[(99:UInt8),(108:UInt8),(111:UInt8),(115:UInt8),(117:UInt8),(114:UInt8),(101:UInt8)],[(102:UInt8),(117:UInt8),(110:UInt8)],[(115:UInt8),(101:UInt8),(108:UInt8),(102:UInt8)],[(111:UInt8),(112:UInt8),(101:UInt8),(114:UInt8),(97:UInt8),(110:UInt8),(100:UInt8),(49:UInt8)],[(111:UInt8),(112:UInt8),(101:UInt8),(114:UInt8),(97:UInt8),(110:UInt8),(100:UInt8),(50:UInt8)],[(100:UInt8),(101:UInt8),(114:UInt8),(105:UInt8),(118:UInt8),(101:UInt8),(49:UInt8)],[(100:UInt8),(101:UInt8),(114:UInt8),(105:UInt8),(118:UInt8),(101:UInt8),(50:UInt8)],[(116:UInt8),(114:UInt8),(97:UInt8),(105:UInt8),(110:UInt8)],[(102:UInt8),(105:UInt8),(120:UInt8),(101:UInt8),(100:UInt8)],[(117:UInt8),(115:UInt8),(101:UInt8),(114:UInt8),(49:UInt8)],[(117:UInt8),(115:UInt8),(101:UInt8),(114:UInt8),(50:UInt8)],[(99:UInt8),(97:UInt8),(108:UInt8),(108:UInt8),(49:UInt8)],[(99:UInt8),(97:UInt8),(108:UInt8),(108:UInt8),(50:UInt8)],[(103:UInt8),(117:UInt8),(97:UInt8),(114:UInt8),(100:UInt8)],[(114:UInt8),(101:UInt8),(116:UInt8),(117:UInt8),(114:UInt8),(110:UInt8)],[(107:UInt8),(101:UInt8),(101:UInt8),(112:UInt8)],[(107:UInt8),(101:UInt8),(114:UInt8),(110:UInt8),(101:UInt8),(108:UInt8)]] (Int.toNat op * N1) [] = nameT op∧True∧True)) (by kernel_rfl) ?_
  delta N1 Z0
  simp only [side_iff,Nat.mul_one,true_and,and_true]
  first | exact ⟨h,(),rfl⟩ | exact ⟨h.1,h.2,(),rfl⟩ | exact ⟨h,rfl⟩
end Go.Proofs.YtflbmbkhjcbhoaaGreatDoor
namespace Go.Proofs.YtflbmbkhjcbhoaaGreatDoor
open Go Go.Ab
set_option maxRecDepth 100000
def wordsL (p:List UInt8) (its:List (List UInt8)):List UInt8 := its.foldl (fun o v => o ++ 32 :: v) p ++ [10]
def nI (n:Int):List D := [.iface 3 (.int .i64 n)]
def sI (s:List UInt8):List D := [.iface 9 (.str s)]
def anys (l:List (List D)):D := .sl 1 l.length (fun i => l.getD i []) .any
noncomputable def Ewd:Senv := { EC conNu 36 2 [4,5,7,8,9,11,12,13,14,17,19,20,26,27] (fun _ => ([],[])) with unr := fun b => match b with | 0 => 9 | _ => 0 }
noncomputable section
def wd1q0 (p0:Int):List UInt8 := showI p0
def wd1q1 (p0:Int):List UInt8 := (32:UInt8) :: List.append [] (wd1q0 p0)
def wd1q2 (p0:List UInt8) (p1:Int):List UInt8 := p0 ++ wd1q1 p1
def wd1q3 (p0:List UInt8) (p1:Int) (p2:List UInt8):List UInt8 := wd1q2 p0 p1 ++ (32:UInt8) :: List.append [] p2
end
theorem wd_ns (p:List UInt8) (n0:Int) (s1:List UInt8) (h:p.length ≤ 100∧inI64 n0∧s1.length ≤ 1000000000):ACalls Tryz.prog 32 [.str p,anys [nI n0,sI s1]] ⟨[],[]⟩ (SpecR (sC [.str p,anys [nI n0,sI s1]] (.str (wordsL p [showI n0,s1]))) ()) := by
  refine con_of (A := sC _ _) (x := ()) (E := Ewd) (eOk conNu_ok rfl) Tryz.func32 rfl (by kernel_rfl) rfl (by simp [sC,Ewd,EC,E0]) ?_
  refine vc_eq (T :=
    inI64 n0∧∀ (y:Unit),True→side (N1 + LN (wd1q0 n0) ≤ (9223372036854775807:Nat)) (side (LN p + LN (wd1q1 n0) ≤ (9223372036854775807:Nat)) (side (N1 + LN s1 ≤ (9223372036854775807:Nat)) (side (LN (wd1q2 p n0) + LN ((32:UInt8) :: List.append [] s1) ≤ (9223372036854775807:Nat)) (side (LN (wd1q3 p n0 s1) + N1 ≤ (9223372036854775807:Nat)) (True∧∃ (y:Unit),True∧wd1q3 p n0 s1 ++ [(10:UInt8)] = wordsL p [wd1q0 n0,s1]∧True∧True)))))) (by kernel_rfl) ?_
  delta LN N1 wd1q0 wd1q1 wd1q2 wd1q3
  simp only [side_iff,true_and,and_true,exists_const,forall_const,List.append_eq,List.nil_append,List.length_append,List.length_cons]
  obtain ⟨h0,h1,h2⟩ := h
  have l0 := (showI_len h1).2
  repeat' (first | assumption | refine And.intro ?_ ?_ | omega | rfl)
noncomputable section
def wd1q4 (p0:Int):List UInt8 := showI p0
def wd1q5 (p0:Int):List UInt8 := (32:UInt8) :: List.append [] (wd1q4 p0)
def wd1q6 (p0:Int):Nat := LN (wd1q5 p0)
def wd1q7 (p0:List UInt8) (p1:Int):List UInt8 := p0 ++ wd1q5 p1
def wd1q8 (p0:List UInt8) (p1:Int) (p2:List UInt8):List UInt8 := wd1q7 p0 p1 ++ (32:UInt8) :: List.append [] p2
def wd1q9 (p0:List UInt8) (p1:Int) (p2:List UInt8) (p3:Int):List UInt8 := wd1q8 p0 p1 p2 ++ wd1q5 p3
end
theorem wd_nsn (p:List UInt8) (n0:Int) (s1:List UInt8) (n2:Int) (h:p.length ≤ 100∧inI64 n0∧s1.length ≤ 1000000000∧inI64 n2):ACalls Tryz.prog 32 [.str p,anys [nI n0,sI s1,nI n2]] ⟨[],[]⟩ (SpecR (sC [.str p,anys [nI n0,sI s1,nI n2]] (.str (wordsL p [showI n0,s1,showI n2]))) ()) := by
  refine con_of (A := sC _ _) (x := ()) (E := Ewd) (eOk conNu_ok rfl) Tryz.func32 rfl (by kernel_rfl) rfl (by simp [sC,Ewd,EC,E0]) ?_
  refine vc_eq (T :=
    inI64 n0∧∀ (y:Unit),True→side (N1 + LN (wd1q4 n0) ≤ (9223372036854775807:Nat)) (side (LN p + wd1q6 n0 ≤ (9223372036854775807:Nat)) (side (N1 + LN s1 ≤ (9223372036854775807:Nat)) (side (LN (wd1q7 p n0) + LN ((32:UInt8) :: List.append [] s1) ≤ (9223372036854775807:Nat)) (inI64 n2∧∀ (y:Unit),True→side (N1 + LN (wd1q4 n2) ≤ (9223372036854775807:Nat)) (side (LN (wd1q8 p n0 s1) + wd1q6 n2 ≤ (9223372036854775807:Nat)) (side (LN (wd1q9 p n0 s1 n2) + N1 ≤ (9223372036854775807:Nat)) (True∧∃ (y:Unit),True∧wd1q9 p n0 s1 n2 ++ [(10:UInt8)] = wordsL p [wd1q4 n0,s1,wd1q4 n2]∧True∧True)))))))) (by kernel_rfl) ?_
  delta LN N1 wd1q4 wd1q5 wd1q6 wd1q7 wd1q8 wd1q9
  simp only [side_iff,true_and,and_true,exists_const,forall_const,List.append_eq,List.nil_append,List.length_append,List.length_cons]
  obtain ⟨h0,h1,h2,h3⟩ := h
  have l0 := (showI_len h1).2
  have l2 := (showI_len h3).2
  repeat' (first | assumption | refine And.intro ?_ ?_ | omega | rfl)
noncomputable section
def wd1q10 (p0:Int):List UInt8 := showI p0
def wd1q11 (p0:Int):List UInt8 := (32:UInt8) :: List.append [] (wd1q10 p0)
def wd1q12 (p0 p1 p2:List UInt8) (p3:Int):List UInt8 := p0 ++ (32:UInt8) :: List.append [] p1 ++ (32:UInt8) :: List.append [] p2 ++ wd1q11 p3
end
theorem wd_ssn (p:List UInt8) (s0:List UInt8) (s1:List UInt8) (n2:Int) (h:p.length ≤ 100∧s0.length ≤ 1000000000∧s1.length ≤ 1000000000∧inI64 n2):ACalls Tryz.prog 32 [.str p,anys [sI s0,sI s1,nI n2]] ⟨[],[]⟩ (SpecR (sC [.str p,anys [sI s0,sI s1,nI n2]] (.str (wordsL p [s0,s1,showI n2]))) ()) := by
  refine con_of (A := sC _ _) (x := ()) (E := Ewd) (eOk conNu_ok rfl) Tryz.func32 rfl (by kernel_rfl) rfl (by simp [sC,Ewd,EC,E0]) ?_
  refine vc_eq (T :=
    side (N1 + LN s0 ≤ (9223372036854775807:Nat)) (side (LN p + LN ((32:UInt8) :: List.append [] s0) ≤ (9223372036854775807:Nat)) (side (N1 + LN s1 ≤ (9223372036854775807:Nat)) (side (LN (p ++ (32:UInt8) :: List.append [] s0) + LN ((32:UInt8) :: List.append [] s1) ≤ (9223372036854775807:Nat)) (inI64 n2∧∀ (y:Unit),True→side (N1 + LN (wd1q10 n2) ≤ (9223372036854775807:Nat)) (side (LN (p ++ (32:UInt8) :: List.append [] s0 ++ (32:UInt8) :: List.append [] s1) + LN (wd1q11 n2) ≤ (9223372036854775807:Nat)) (side (LN (wd1q12 p s0 s1 n2) + N1 ≤ (9223372036854775807:Nat)) (True∧∃ (y:Unit),True∧wd1q12 p s0 s1 n2 ++ [(10:UInt8)] = wordsL p [s0,s1,wd1q10 n2]∧True∧True)))))))) (by kernel_rfl) ?_
  delta LN N1 wd1q10 wd1q11 wd1q12
  simp only [side_iff,true_and,and_true,exists_const,forall_const,List.append_eq,List.nil_append,List.length_append,List.length_cons]
  obtain ⟨h0,h1,h2,h3⟩ := h
  have l2 := (showI_len h3).2
  repeat' (first | assumption | refine And.intro ?_ ?_ | omega | rfl)
noncomputable section
def wd1q13 (p0:Int):List UInt8 := showI p0
def wd1q14 (p0:Int):List UInt8 := (32:UInt8) :: List.append [] (wd1q13 p0)
def wd1q15 (p0:Int):Nat := LN (wd1q14 p0)
def wd1q16 (p0 p1:List UInt8) (p2:Int):List UInt8 := p0 ++ (32:UInt8) :: List.append [] p1 ++ wd1q14 p2
def wd1q17 (p0 p1:List UInt8) (p2:Int) (p3:List UInt8):List UInt8 := wd1q16 p0 p1 p2 ++ (32:UInt8) :: List.append [] p3
def wd1q18 (p0 p1:List UInt8) (p2:Int) (p3:List UInt8) (p4:Int):List UInt8 := wd1q17 p0 p1 p2 p3 ++ wd1q14 p4
end
theorem wd_snsn (p:List UInt8) (s0:List UInt8) (n1:Int) (s2:List UInt8) (n3:Int) (h:p.length ≤ 100∧s0.length ≤ 1000000000∧inI64 n1∧s2.length ≤ 1000000000∧inI64 n3):ACalls Tryz.prog 32 [.str p,anys [sI s0,nI n1,sI s2,nI n3]] ⟨[],[]⟩ (SpecR (sC [.str p,anys [sI s0,nI n1,sI s2,nI n3]] (.str (wordsL p [s0,showI n1,s2,showI n3]))) ()) := by
  refine con_of (A := sC _ _) (x := ()) (E := Ewd) (eOk conNu_ok rfl) Tryz.func32 rfl (by kernel_rfl) rfl (by simp [sC,Ewd,EC,E0]) ?_
  refine vc_eq (T :=
    side (N1 + LN s0 ≤ (9223372036854775807:Nat)) (side (LN p + LN ((32:UInt8) :: List.append [] s0) ≤ (9223372036854775807:Nat)) (inI64 n1∧∀ (y:Unit),True→side (N1 + LN (wd1q13 n1) ≤ (9223372036854775807:Nat)) (side (LN (p ++ (32:UInt8) :: List.append [] s0) + wd1q15 n1 ≤ (9223372036854775807:Nat)) (side (N1 + LN s2 ≤ (9223372036854775807:Nat)) (side (LN (wd1q16 p s0 n1) + LN ((32:UInt8) :: List.append [] s2) ≤ (9223372036854775807:Nat)) (inI64 n3∧∀ (y:Unit),True→side (N1 + LN (wd1q13 n3) ≤ (9223372036854775807:Nat)) (side (LN (wd1q17 p s0 n1 s2) + wd1q15 n3 ≤ (9223372036854775807:Nat)) (side (LN (wd1q18 p s0 n1 s2 n3) + N1 ≤ (9223372036854775807:Nat)) (True∧∃ (y:Unit),True∧wd1q18 p s0 n1 s2 n3 ++ [(10:UInt8)] = wordsL p [s0,wd1q13 n1,s2,wd1q13 n3]∧True∧True)))))))))) (by kernel_rfl) ?_
  delta LN N1 wd1q13 wd1q14 wd1q15 wd1q16 wd1q17 wd1q18
  simp only [side_iff,true_and,and_true,exists_const,forall_const,List.append_eq,List.nil_append,List.length_append,List.length_cons]
  obtain ⟨h0,h1,h2,h3,h4⟩ := h
  have l1 := (showI_len h2).2
  have l3 := (showI_len h4).2
  repeat' (first | assumption | refine And.intro ?_ ?_ | omega | rfl)
noncomputable section
def wd1q19 (p0:Int):Prop := inI64 p0
def wd1q20 (p0:Int):List UInt8 := showI p0
def wd1q21 (p0:Int):Nat := N1 + LN (wd1q20 p0)
def wd1q22 (p0:Int):List UInt8 := (32:UInt8) :: List.append [] (wd1q20 p0)
def wd1q23 (p0:Int):Nat := LN (wd1q22 p0)
def wd1q24 (p0 p1:List UInt8) (p2:Int):List UInt8 := p0 ++ (32:UInt8) :: List.append [] p1 ++ wd1q22 p2
def wd1q25 (p0 p1:List UInt8) (p2 p3:Int):List UInt8 := wd1q24 p0 p1 p2 ++ wd1q22 p3
def wd1q26 (p0 p1:List UInt8) (p2 p3:Int) (p4:List UInt8):List UInt8 := wd1q25 p0 p1 p2 p3 ++ (32:UInt8) :: List.append [] p4
def wd1q27 (p0 p1:List UInt8) (p2 p3:Int) (p4:List UInt8) (p5:Int):List UInt8 := wd1q26 p0 p1 p2 p3 p4 ++ wd1q22 p5
end
theorem wd_snnsn (p:List UInt8) (s0:List UInt8) (n1:Int) (n2:Int) (s3:List UInt8) (n4:Int) (h:p.length ≤ 100∧s0.length ≤ 1000000000∧inI64 n1∧inI64 n2∧s3.length ≤ 1000000000∧inI64 n4):ACalls Tryz.prog 32 [.str p,anys [sI s0,nI n1,nI n2,sI s3,nI n4]] ⟨[],[]⟩ (SpecR (sC [.str p,anys [sI s0,nI n1,nI n2,sI s3,nI n4]] (.str (wordsL p [s0,showI n1,showI n2,s3,showI n4]))) ()) := by
  refine con_of (A := sC _ _) (x := ()) (E := Ewd) (eOk conNu_ok rfl) Tryz.func32 rfl (by kernel_rfl) rfl (by simp [sC,Ewd,EC,E0]) ?_
  refine vc_eq (T :=
    side (N1 + LN s0 ≤ (9223372036854775807:Nat)) (side (LN p + LN ((32:UInt8) :: List.append [] s0) ≤ (9223372036854775807:Nat)) (wd1q19 n1∧∀ (y:Unit),True→side (wd1q21 n1 ≤ (9223372036854775807:Nat)) (side (LN (p ++ (32:UInt8) :: List.append [] s0) + wd1q23 n1 ≤ (9223372036854775807:Nat)) (wd1q19 n2∧∀ (y:Unit),True→side (wd1q21 n2 ≤ (9223372036854775807:Nat)) (side (LN (wd1q24 p s0 n1) + wd1q23 n2 ≤ (9223372036854775807:Nat)) (side (N1 + LN s3 ≤ (9223372036854775807:Nat)) (side (LN (wd1q25 p s0 n1 n2) + LN ((32:UInt8) :: List.append [] s3) ≤ (9223372036854775807:Nat)) (wd1q19 n4∧∀ (y:Unit),True→side (wd1q21 n4 ≤ (9223372036854775807:Nat)) (side (LN (wd1q26 p s0 n1 n2 s3) + wd1q23 n4 ≤ (9223372036854775807:Nat)) (side (LN (wd1q27 p s0 n1 n2 s3 n4) + N1 ≤ (9223372036854775807:Nat)) (True∧∃ (y:Unit),True∧wd1q27 p s0 n1 n2 s3 n4 ++ [(10:UInt8)] = wordsL p [s0,wd1q20 n1,wd1q20 n2,s3,wd1q20 n4]∧True∧True)))))))))))) (by kernel_rfl) ?_
  delta LN N1 wd1q19 wd1q20 wd1q21 wd1q22 wd1q23 wd1q24 wd1q25 wd1q26 wd1q27
  simp only [side_iff,true_and,and_true,exists_const,forall_const,List.append_eq,List.nil_append,List.length_append,List.length_cons]
  obtain ⟨h0,h1,h2,h3,h4,h5⟩ := h
  have l1 := (showI_len h2).2
  have l2 := (showI_len h3).2
  have l4 := (showI_len h5).2
  repeat' (first | assumption | refine And.intro ?_ ?_ | omega | rfl)
noncomputable section
def wd1q28 (p0:Int):Prop := inI64 p0
def wd1q29 (p0:Int):List UInt8 := showI p0
def wd1q30 (p0:Int):Nat := N1 + LN (wd1q29 p0)
def wd1q31 (p0:Int):List UInt8 := (32:UInt8) :: List.append [] (wd1q29 p0)
def wd1q32 (p0:Int):Nat := LN (wd1q31 p0)
def wd1q33 (p0:List UInt8) (p1:Int):List UInt8 := p0 ++ wd1q31 p1
def wd1q34 (p0:List UInt8) (p1:Int) (p2:List UInt8):List UInt8 := wd1q33 p0 p1 ++ (32:UInt8) :: List.append [] p2
def wd1q35 (p0:List UInt8) (p1:Int) (p2:List UInt8) (p3:Int):List UInt8 := wd1q34 p0 p1 p2 ++ wd1q31 p3
def wd1q36 (p0:List UInt8) (p1:Int) (p2:List UInt8) (p3:Int) (p4:List UInt8):List UInt8 := wd1q35 p0 p1 p2 p3 ++ (32:UInt8) :: List.append [] p4
def wd1q37 (p0:List UInt8) (p1:Int) (p2:List UInt8) (p3:Int) (p4:List UInt8) (p5:Int):List UInt8 := wd1q36 p0 p1 p2 p3 p4 ++ wd1q31 p5
def wd1q38 (p0:List UInt8) (p1:Int) (p2:List UInt8) (p3:Int) (p4:List UInt8) (p5:Int) (p6:List UInt8):List UInt8 := wd1q37 p0 p1 p2 p3 p4 p5 ++ (32:UInt8) :: List.append [] p6
def wd1q39 (p0:List UInt8) (p1:Int) (p2:List UInt8) (p3:Int) (p4:List UInt8) (p5:Int) (p6:List UInt8) (p7:Int):List UInt8 := wd1q38 p0 p1 p2 p3 p4 p5 p6 ++ wd1q31 p7
end
theorem wd_nsnsnsn (p:List UInt8) (n0:Int) (s1:List UInt8) (n2:Int) (s3:List UInt8) (n4:Int) (s5:List UInt8) (n6:Int) (h:p.length ≤ 100∧inI64 n0∧s1.length ≤ 1000000000∧inI64 n2∧s3.length ≤ 1000000000∧inI64 n4∧s5.length ≤ 1000000000∧inI64 n6):ACalls Tryz.prog 32 [.str p,anys [nI n0,sI s1,nI n2,sI s3,nI n4,sI s5,nI n6]] ⟨[],[]⟩ (SpecR (sC [.str p,anys [nI n0,sI s1,nI n2,sI s3,nI n4,sI s5,nI n6]] (.str (wordsL p [showI n0,s1,showI n2,s3,showI n4,s5,showI n6]))) ()) := by
  refine con_of (A := sC _ _) (x := ()) (E := Ewd) (eOk conNu_ok rfl) Tryz.func32 rfl (by kernel_rfl) rfl (by simp [sC,Ewd,EC,E0]) ?_
  refine vc_eq (T :=
    wd1q28 n0∧∀ (y:Unit),True→side (wd1q30 n0 ≤ (9223372036854775807:Nat)) (side (LN p + wd1q32 n0 ≤ (9223372036854775807:Nat)) (side (N1 + LN s1 ≤ (9223372036854775807:Nat)) (side (LN (wd1q33 p n0) + LN ((32:UInt8) :: List.append [] s1) ≤ (9223372036854775807:Nat)) (wd1q28 n2∧∀ (y:Unit),True→side (wd1q30 n2 ≤ (9223372036854775807:Nat)) (side (LN (wd1q34 p n0 s1) + wd1q32 n2 ≤ (9223372036854775807:Nat)) (side (N1 + LN s3 ≤ (9223372036854775807:Nat)) (side (LN (wd1q35 p n0 s1 n2) + LN ((32:UInt8) :: List.append [] s3) ≤ (9223372036854775807:Nat)) (wd1q28 n4∧∀ (y:Unit),True→side (wd1q30 n4 ≤ (9223372036854775807:Nat)) (side (LN (wd1q36 p n0 s1 n2 s3) + wd1q32 n4 ≤ (9223372036854775807:Nat)) (side (N1 + LN s5 ≤ (9223372036854775807:Nat)) (side (LN (wd1q37 p n0 s1 n2 s3 n4) + LN ((32:UInt8) :: List.append [] s5) ≤ (9223372036854775807:Nat)) (wd1q28 n6∧∀ (y:Unit),True→side (wd1q30 n6 ≤ (9223372036854775807:Nat)) (side (LN (wd1q38 p n0 s1 n2 s3 n4 s5) + wd1q32 n6 ≤ (9223372036854775807:Nat)) (side (LN (wd1q39 p n0 s1 n2 s3 n4 s5 n6) + N1 ≤ (9223372036854775807:Nat)) (True∧∃ (y:Unit),True∧wd1q39 p n0 s1 n2 s3 n4 s5 n6 ++ [(10:UInt8)] = wordsL p [wd1q29 n0,s1,wd1q29 n2,s3,wd1q29 n4,s5,wd1q29 n6]∧True∧True)))))))))))))))) (by kernel_rfl) ?_
  delta LN N1 wd1q28 wd1q29 wd1q30 wd1q31 wd1q32 wd1q33 wd1q34 wd1q35 wd1q36 wd1q37 wd1q38 wd1q39
  simp only [side_iff,true_and,and_true,exists_const,forall_const,List.append_eq,List.nil_append,List.length_append,List.length_cons]
  obtain ⟨h0,h1,h2,h3,h4,h5,h6,h7⟩ := h
  have l0 := (showI_len h1).2
  have l2 := (showI_len h3).2
  have l4 := (showI_len h5).2
  have l6 := (showI_len h7).2
  repeat' (first | assumption | refine And.intro ?_ ?_ | omega | rfl)
noncomputable section
def wd1q40 (p0:Int):Prop := inI64 p0
def wd1q41 (p0:Int):List UInt8 := showI p0
def wd1q42 (p0:Int):Nat := N1 + LN (wd1q41 p0)
def wd1q43 (p0:Int):List UInt8 := (32:UInt8) :: List.append [] (wd1q41 p0)
def wd1q44 (p0:Int):Nat := LN (wd1q43 p0)
def wd1q45 (p0:List UInt8) (p1:Int):List UInt8 := p0 ++ wd1q43 p1
def wd1q46 (p0:List UInt8) (p1 p2:Int):List UInt8 := wd1q45 p0 p1 ++ wd1q43 p2
def wd1q47 (p0:List UInt8) (p1 p2 p3:Int):List UInt8 := wd1q46 p0 p1 p2 ++ wd1q43 p3
def wd1q48 (p0:List UInt8) (p1 p2 p3:Int) (p4:List UInt8):List UInt8 := wd1q47 p0 p1 p2 p3 ++ (32:UInt8) :: List.append [] p4
def wd1q49 (p0:List UInt8) (p1 p2 p3:Int) (p4:List UInt8) (p5:Int):List UInt8 := wd1q48 p0 p1 p2 p3 p4 ++ wd1q43 p5
end
theorem wd_nnnsn (p:List UInt8) (n0:Int) (n1:Int) (n2:Int) (s3:List UInt8) (n4:Int) (h:p.length ≤ 100∧inI64 n0∧inI64 n1∧inI64 n2∧s3.length ≤ 1000000000∧inI64 n4):ACalls Tryz.prog 32 [.str p,anys [nI n0,nI n1,nI n2,sI s3,nI n4]] ⟨[],[]⟩ (SpecR (sC [.str p,anys [nI n0,nI n1,nI n2,sI s3,nI n4]] (.str (wordsL p [showI n0,showI n1,showI n2,s3,showI n4]))) ()) := by
  refine con_of (A := sC _ _) (x := ()) (E := Ewd) (eOk conNu_ok rfl) Tryz.func32 rfl (by kernel_rfl) rfl (by simp [sC,Ewd,EC,E0]) ?_
  refine vc_eq (T :=
    wd1q40 n0∧∀ (y:Unit),True→side (wd1q42 n0 ≤ (9223372036854775807:Nat)) (side (LN p + wd1q44 n0 ≤ (9223372036854775807:Nat)) (wd1q40 n1∧∀ (y:Unit),True→side (wd1q42 n1 ≤ (9223372036854775807:Nat)) (side (LN (wd1q45 p n0) + wd1q44 n1 ≤ (9223372036854775807:Nat)) (wd1q40 n2∧∀ (y:Unit),True→side (wd1q42 n2 ≤ (9223372036854775807:Nat)) (side (LN (wd1q46 p n0 n1) + wd1q44 n2 ≤ (9223372036854775807:Nat)) (side (N1 + LN s3 ≤ (9223372036854775807:Nat)) (side (LN (wd1q47 p n0 n1 n2) + LN ((32:UInt8) :: List.append [] s3) ≤ (9223372036854775807:Nat)) (wd1q40 n4∧∀ (y:Unit),True→side (wd1q42 n4 ≤ (9223372036854775807:Nat)) (side (LN (wd1q48 p n0 n1 n2 s3) + wd1q44 n4 ≤ (9223372036854775807:Nat)) (side (LN (wd1q49 p n0 n1 n2 s3 n4) + N1 ≤ (9223372036854775807:Nat)) (True∧∃ (y:Unit),True∧wd1q49 p n0 n1 n2 s3 n4 ++ [(10:UInt8)] = wordsL p [wd1q41 n0,wd1q41 n1,wd1q41 n2,s3,wd1q41 n4]∧True∧True)))))))))))) (by kernel_rfl) ?_
  delta LN N1 wd1q40 wd1q41 wd1q42 wd1q43 wd1q44 wd1q45 wd1q46 wd1q47 wd1q48 wd1q49
  simp only [side_iff,true_and,and_true,exists_const,forall_const,List.append_eq,List.nil_append,List.length_append,List.length_cons]
  obtain ⟨h0,h1,h2,h3,h4,h5⟩ := h
  have l0 := (showI_len h1).2
  have l1 := (showI_len h2).2
  have l2 := (showI_len h3).2
  have l4 := (showI_len h5).2
  repeat' (first | assumption | refine And.intro ?_ ?_ | omega | rfl)
noncomputable section
def wd1q50 (p0:Int):Prop := inI64 p0
def wd1q51 (p0:Int):List UInt8 := showI p0
def wd1q52 (p0:Int):Nat := N1 + LN (wd1q51 p0)
def wd1q53 (p0:Int):List UInt8 := (32:UInt8) :: List.append [] (wd1q51 p0)
def wd1q54 (p0:Int):Nat := LN (wd1q53 p0)
def wd1q55 (p0:List UInt8) (p1:Int):List UInt8 := p0 ++ wd1q53 p1
def wd1q56 (p0:List UInt8) (p1 p2:Int):List UInt8 := wd1q55 p0 p1 ++ wd1q53 p2
def wd1q57 (p0:List UInt8) (p1 p2 p3:Int):List UInt8 := wd1q56 p0 p1 p2 ++ wd1q53 p3
def wd1q58 (p0:List UInt8) (p1 p2 p3 p4:Int):List UInt8 := wd1q57 p0 p1 p2 p3 ++ wd1q53 p4
def wd1q59 (p0:List UInt8) (p1 p2 p3 p4 p5:Int):List UInt8 := wd1q58 p0 p1 p2 p3 p4 ++ wd1q53 p5
end
theorem wd_nnnnn (p:List UInt8) (n0:Int) (n1:Int) (n2:Int) (n3:Int) (n4:Int) (h:p.length ≤ 100∧inI64 n0∧inI64 n1∧inI64 n2∧inI64 n3∧inI64 n4):ACalls Tryz.prog 32 [.str p,anys [nI n0,nI n1,nI n2,nI n3,nI n4]] ⟨[],[]⟩ (SpecR (sC [.str p,anys [nI n0,nI n1,nI n2,nI n3,nI n4]] (.str (wordsL p [showI n0,showI n1,showI n2,showI n3,showI n4]))) ()) := by
  refine con_of (A := sC _ _) (x := ()) (E := Ewd) (eOk conNu_ok rfl) Tryz.func32 rfl (by kernel_rfl) rfl (by simp [sC,Ewd,EC,E0]) ?_
  refine vc_eq (T :=
    wd1q50 n0∧∀ (y:Unit),True→side (wd1q52 n0 ≤ (9223372036854775807:Nat)) (side (LN p + wd1q54 n0 ≤ (9223372036854775807:Nat)) (wd1q50 n1∧∀ (y:Unit),True→side (wd1q52 n1 ≤ (9223372036854775807:Nat)) (side (LN (wd1q55 p n0) + wd1q54 n1 ≤ (9223372036854775807:Nat)) (wd1q50 n2∧∀ (y:Unit),True→side (wd1q52 n2 ≤ (9223372036854775807:Nat)) (side (LN (wd1q56 p n0 n1) + wd1q54 n2 ≤ (9223372036854775807:Nat)) (wd1q50 n3∧∀ (y:Unit),True→side (wd1q52 n3 ≤ (9223372036854775807:Nat)) (side (LN (wd1q57 p n0 n1 n2) + wd1q54 n3 ≤ (9223372036854775807:Nat)) (wd1q50 n4∧∀ (y:Unit),True→side (wd1q52 n4 ≤ (9223372036854775807:Nat)) (side (LN (wd1q58 p n0 n1 n2 n3) + wd1q54 n4 ≤ (9223372036854775807:Nat)) (side (LN (wd1q59 p n0 n1 n2 n3 n4) + N1 ≤ (9223372036854775807:Nat)) (True∧∃ (y:Unit),True∧wd1q59 p n0 n1 n2 n3 n4 ++ [(10:UInt8)] = wordsL p [wd1q51 n0,wd1q51 n1,wd1q51 n2,wd1q51 n3,wd1q51 n4]∧True∧True)))))))))))) (by kernel_rfl) ?_
  delta LN N1 wd1q50 wd1q51 wd1q52 wd1q53 wd1q54 wd1q55 wd1q56 wd1q57 wd1q58 wd1q59
  simp only [side_iff,true_and,and_true,exists_const,forall_const,List.append_eq,List.nil_append,List.length_append,List.length_cons]
  obtain ⟨h0,h1,h2,h3,h4,h5⟩ := h
  have l0 := (showI_len h1).2
  have l1 := (showI_len h2).2
  have l2 := (showI_len h3).2
  have l3 := (showI_len h4).2
  have l4 := (showI_len h5).2
  repeat' (first | assumption | refine And.intro ?_ ?_ | omega | rfl)
end Go.Proofs.YtflbmbkhjcbhoaaGreatDoor
namespace Go.Proofs.YtflbmbkhjcbhoaaGreatDoor
open Go Go.Ab
set_option maxRecDepth 100000
def itN:List D→Option Int
  | [.iface 3 (.int .i64 n)] => some n
  | _ => none
def itS:List D→Option (List UInt8)
  | [.iface 9 (.str s)] => some s
  | _ => none
theorem itN_eq {d:List D} {n:Int} (h:itN d = some n):d = nI n := by
  unfold itN at h
  split at h
  · injection h with h; subst h; rfl
  · cases h
theorem itS_eq {d:List D} {s:List UInt8} (h:itS d = some s):d = sI s := by
  unfold itS at h
  split at h
  · injection h with h; subst h; rfl
  · cases h
theorem anys_wk {p:List UInt8} {n:Nat} {f:Nat→List D} {m:Ab.Mode} {l:List (List D)} (hn:n = l.length) (h:∀ i,i < n→f i = l.getD i []):weakL [.str p,.sl 1 n f m] [.str p,anys l] := by
  simp only [weakL,weakD,anys,chk_iff,decide_eq_true_eq,and_true,true_and]
  exact ⟨hn,h,by simp [weakM]⟩
theorem below_cons {P:Nat→Prop} {n:Nat} (h0:P 0) (h:∀ i,i < n→P (i + 1)):∀ i,i < n + 1→P i
  | 0,_ => h0
  | i + 1,hi => h i (by omega)
theorem below_nil {P:Nat→Prop}:∀ i,i < 0→P i := fun _ h => absurd h (Nat.not_lt_zero _)
def cw_ns (p:List UInt8) (f:Nat→List D):Option FnSpec := match itN (f 0),itS (f 1) with
  | some n0,some s1 => some (pC [.str p,anys [nI n0,sI s1]] (.str (wordsL p [showI n0,s1])) (p.length ≤ 100∧inI64 n0∧s1.length ≤ 1000000000))
  | _,_ => none
theorem cw_ns_ok {p : List UInt8} {f : Nat → List D} {m : Ab.Mode} {S : St} {A : FnSpec} (h : cw_ns p f = some A) :
    (∀ y,A.pre y→ACalls Tryz.prog 32 (A.args y) (A.st y) (SpecR A y))∧(∀ y,A.fit = some y→A.pre y→weakL [.str p,.sl 1 2 f m] (A.args y)∧leS (A.st y) S)∧(A.all = true→∀ y,A.pre y→weakL [.str p,.sl 1 2 f m] (A.args y)∧A.st y = S) := by
  unfold cw_ns at h
  split at h
  · rename_i n0 s1 e0 e1
    injection h with h; subst h
    refine pC_ok fun hp => ⟨anys_wk rfl ?_,wd_ns p n0 s1 hp⟩
    exact below_cons (itN_eq e0) (below_cons (itS_eq e1) (below_nil))
  · cases h
def cw_nsn (p:List UInt8) (f:Nat→List D):Option FnSpec := match itN (f 0),itS (f 1),itN (f 2) with
  | some n0,some s1,some n2 => some (pC [.str p,anys [nI n0,sI s1,nI n2]] (.str (wordsL p [showI n0,s1,showI n2])) (p.length ≤ 100∧inI64 n0∧s1.length ≤ 1000000000∧inI64 n2))
  | _,_,_ => none
theorem cw_nsn_ok {p : List UInt8} {f : Nat → List D} {m : Ab.Mode} {S : St} {A : FnSpec} (h : cw_nsn p f = some A) :
    (∀ y,A.pre y→ACalls Tryz.prog 32 (A.args y) (A.st y) (SpecR A y))∧(∀ y,A.fit = some y→A.pre y→weakL [.str p,.sl 1 3 f m] (A.args y)∧leS (A.st y) S)∧(A.all = true→∀ y,A.pre y→weakL [.str p,.sl 1 3 f m] (A.args y)∧A.st y = S) := by
  unfold cw_nsn at h
  split at h
  · rename_i n0 s1 n2 e0 e1 e2
    injection h with h; subst h
    refine pC_ok fun hp => ⟨anys_wk rfl ?_,wd_nsn p n0 s1 n2 hp⟩
    exact below_cons (itN_eq e0) (below_cons (itS_eq e1) (below_cons (itN_eq e2) (below_nil)))
  · cases h
def cw_ssn (p:List UInt8) (f:Nat→List D):Option FnSpec := match itS (f 0),itS (f 1),itN (f 2) with
  | some s0,some s1,some n2 => some (pC [.str p,anys [sI s0,sI s1,nI n2]] (.str (wordsL p [s0,s1,showI n2])) (p.length ≤ 100∧s0.length ≤ 1000000000∧s1.length ≤ 1000000000∧inI64 n2))
  | _,_,_ => none
theorem cw_ssn_ok {p : List UInt8} {f : Nat → List D} {m : Ab.Mode} {S : St} {A : FnSpec} (h : cw_ssn p f = some A) :
    (∀ y,A.pre y→ACalls Tryz.prog 32 (A.args y) (A.st y) (SpecR A y))∧(∀ y,A.fit = some y→A.pre y→weakL [.str p,.sl 1 3 f m] (A.args y)∧leS (A.st y) S)∧(A.all = true→∀ y,A.pre y→weakL [.str p,.sl 1 3 f m] (A.args y)∧A.st y = S) := by
  unfold cw_ssn at h
  split at h
  · rename_i s0 s1 n2 e0 e1 e2
    injection h with h; subst h
    refine pC_ok fun hp => ⟨anys_wk rfl ?_,wd_ssn p s0 s1 n2 hp⟩
    exact below_cons (itS_eq e0) (below_cons (itS_eq e1) (below_cons (itN_eq e2) (below_nil)))
  · cases h
def cw_snsn (p:List UInt8) (f:Nat→List D):Option FnSpec := match itS (f 0),itN (f 1),itS (f 2),itN (f 3) with
  | some s0,some n1,some s2,some n3 => some (pC [.str p,anys [sI s0,nI n1,sI s2,nI n3]] (.str (wordsL p [s0,showI n1,s2,showI n3])) (p.length ≤ 100∧s0.length ≤ 1000000000∧inI64 n1∧s2.length ≤ 1000000000∧inI64 n3))
  | _,_,_,_ => none
theorem cw_snsn_ok {p : List UInt8} {f : Nat → List D} {m : Ab.Mode} {S : St} {A : FnSpec} (h : cw_snsn p f = some A) :
    (∀ y,A.pre y→ACalls Tryz.prog 32 (A.args y) (A.st y) (SpecR A y))∧(∀ y,A.fit = some y→A.pre y→weakL [.str p,.sl 1 4 f m] (A.args y)∧leS (A.st y) S)∧(A.all = true→∀ y,A.pre y→weakL [.str p,.sl 1 4 f m] (A.args y)∧A.st y = S) := by
  unfold cw_snsn at h
  split at h
  · rename_i s0 n1 s2 n3 e0 e1 e2 e3
    injection h with h; subst h
    refine pC_ok fun hp => ⟨anys_wk rfl ?_,wd_snsn p s0 n1 s2 n3 hp⟩
    exact below_cons (itS_eq e0) (below_cons (itN_eq e1) (below_cons (itS_eq e2) (below_cons (itN_eq e3) (below_nil))))
  · cases h
def cw_snnsn (p:List UInt8) (f:Nat→List D):Option FnSpec := match itS (f 0),itN (f 1),itN (f 2),itS (f 3),itN (f 4) with
  | some s0,some n1,some n2,some s3,some n4 => some (pC [.str p,anys [sI s0,nI n1,nI n2,sI s3,nI n4]] (.str (wordsL p [s0,showI n1,showI n2,s3,showI n4])) (p.length ≤ 100∧s0.length ≤ 1000000000∧inI64 n1∧inI64 n2∧s3.length ≤ 1000000000∧inI64 n4))
  | _,_,_,_,_ => none
theorem cw_snnsn_ok {p : List UInt8} {f : Nat → List D} {m : Ab.Mode} {S : St} {A : FnSpec} (h : cw_snnsn p f = some A) :
    (∀ y,A.pre y→ACalls Tryz.prog 32 (A.args y) (A.st y) (SpecR A y))∧(∀ y,A.fit = some y→A.pre y→weakL [.str p,.sl 1 5 f m] (A.args y)∧leS (A.st y) S)∧(A.all = true→∀ y,A.pre y→weakL [.str p,.sl 1 5 f m] (A.args y)∧A.st y = S) := by
  unfold cw_snnsn at h
  split at h
  · rename_i s0 n1 n2 s3 n4 e0 e1 e2 e3 e4
    injection h with h; subst h
    refine pC_ok fun hp => ⟨anys_wk rfl ?_,wd_snnsn p s0 n1 n2 s3 n4 hp⟩
    exact below_cons (itS_eq e0) (below_cons (itN_eq e1) (below_cons (itN_eq e2) (below_cons (itS_eq e3) (below_cons (itN_eq e4) (below_nil)))))
  · cases h
def cw_nnnsn (p:List UInt8) (f:Nat→List D):Option FnSpec := match itN (f 0),itN (f 1),itN (f 2),itS (f 3),itN (f 4) with
  | some n0,some n1,some n2,some s3,some n4 => some (pC [.str p,anys [nI n0,nI n1,nI n2,sI s3,nI n4]] (.str (wordsL p [showI n0,showI n1,showI n2,s3,showI n4])) (p.length ≤ 100∧inI64 n0∧inI64 n1∧inI64 n2∧s3.length ≤ 1000000000∧inI64 n4))
  | _,_,_,_,_ => none
theorem cw_nnnsn_ok {p : List UInt8} {f : Nat → List D} {m : Ab.Mode} {S : St} {A : FnSpec} (h : cw_nnnsn p f = some A) :
    (∀ y,A.pre y→ACalls Tryz.prog 32 (A.args y) (A.st y) (SpecR A y))∧(∀ y,A.fit = some y→A.pre y→weakL [.str p,.sl 1 5 f m] (A.args y)∧leS (A.st y) S)∧(A.all = true→∀ y,A.pre y→weakL [.str p,.sl 1 5 f m] (A.args y)∧A.st y = S) := by
  unfold cw_nnnsn at h
  split at h
  · rename_i n0 n1 n2 s3 n4 e0 e1 e2 e3 e4
    injection h with h; subst h
    refine pC_ok fun hp => ⟨anys_wk rfl ?_,wd_nnnsn p n0 n1 n2 s3 n4 hp⟩
    exact below_cons (itN_eq e0) (below_cons (itN_eq e1) (below_cons (itN_eq e2) (below_cons (itS_eq e3) (below_cons (itN_eq e4) (below_nil)))))
  · cases h
def cw_nnnnn (p:List UInt8) (f:Nat→List D):Option FnSpec := match itN (f 0),itN (f 1),itN (f 2),itN (f 3),itN (f 4) with
  | some n0,some n1,some n2,some n3,some n4 => some (pC [.str p,anys [nI n0,nI n1,nI n2,nI n3,nI n4]] (.str (wordsL p [showI n0,showI n1,showI n2,showI n3,showI n4])) (p.length ≤ 100∧inI64 n0∧inI64 n1∧inI64 n2∧inI64 n3∧inI64 n4))
  | _,_,_,_,_ => none
theorem cw_nnnnn_ok {p : List UInt8} {f : Nat → List D} {m : Ab.Mode} {S : St} {A : FnSpec} (h : cw_nnnnn p f = some A) :
    (∀ y,A.pre y→ACalls Tryz.prog 32 (A.args y) (A.st y) (SpecR A y))∧(∀ y,A.fit = some y→A.pre y→weakL [.str p,.sl 1 5 f m] (A.args y)∧leS (A.st y) S)∧(A.all = true→∀ y,A.pre y→weakL [.str p,.sl 1 5 f m] (A.args y)∧A.st y = S) := by
  unfold cw_nnnnn at h
  split at h
  · rename_i n0 n1 n2 n3 n4 e0 e1 e2 e3 e4
    injection h with h; subst h
    refine pC_ok fun hp => ⟨anys_wk rfl ?_,wd_nnnnn p n0 n1 n2 n3 n4 hp⟩
    exact below_cons (itN_eq e0) (below_cons (itN_eq e1) (below_cons (itN_eq e2) (below_cons (itN_eq e3) (below_cons (itN_eq e4) (below_nil)))))
  · cases h
def cw_nsnsnsn (p:List UInt8) (f:Nat→List D):Option FnSpec := match itN (f 0),itS (f 1),itN (f 2),itS (f 3),itN (f 4),itS (f 5),itN (f 6) with
  | some n0,some s1,some n2,some s3,some n4,some s5,some n6 => some (pC [.str p,anys [nI n0,sI s1,nI n2,sI s3,nI n4,sI s5,nI n6]] (.str (wordsL p [showI n0,s1,showI n2,s3,showI n4,s5,showI n6])) (p.length ≤ 100∧inI64 n0∧s1.length ≤ 1000000000∧inI64 n2∧s3.length ≤ 1000000000∧inI64 n4∧s5.length ≤ 1000000000∧inI64 n6))
  | _,_,_,_,_,_,_ => none
theorem cw_nsnsnsn_ok {p : List UInt8} {f : Nat → List D} {m : Ab.Mode} {S : St} {A : FnSpec} (h : cw_nsnsnsn p f = some A) :
    (∀ y,A.pre y→ACalls Tryz.prog 32 (A.args y) (A.st y) (SpecR A y))∧(∀ y,A.fit = some y→A.pre y→weakL [.str p,.sl 1 7 f m] (A.args y)∧leS (A.st y) S)∧(A.all = true→∀ y,A.pre y→weakL [.str p,.sl 1 7 f m] (A.args y)∧A.st y = S) := by
  unfold cw_nsnsnsn at h
  split at h
  · rename_i n0 s1 n2 s3 n4 s5 n6 e0 e1 e2 e3 e4 e5 e6
    injection h with h; subst h
    refine pC_ok fun hp => ⟨anys_wk rfl ?_,wd_nsnsnsn p n0 s1 n2 s3 n4 s5 n6 hp⟩
    exact below_cons (itN_eq e0) (below_cons (itS_eq e1) (below_cons (itN_eq e2) (below_cons (itS_eq e3) (below_cons (itN_eq e4) (below_cons (itS_eq e5) (below_cons (itN_eq e6) (below_nil)))))))
  · cases h
def conWd:Con := fun k ds S => match k with
  | 32 => match ds with
    | [.str p,.sl 1 2 f _] => cw_ns p f
    | [.str p,.sl 1 3 f _] => match itN (f 0) with
      | some _ => cw_nsn p f
      | none => cw_ssn p f
    | [.str p,.sl 1 4 f _] => cw_snsn p f
    | [.str p,.sl 1 5 f _] => match itS (f 0) with
      | some _ => cw_snnsn p f
      | none => match itS (f 3) with
        | some _ => cw_nnnsn p f
        | none => cw_nnnnn p f
    | [.str p,.sl 1 7 f _] => cw_nsnsnsn p f
    | _ => none
  | 75 => match ds with
    | [.int .i64 n] => some (pC [.int .i64 n] (.str (nameT n)) (0 ≤ n∧n < 28))
    | _ => none
  | k => conNu k ds S
theorem conWd_ok:ConOk Tryz.prog conWd := by
  intro k ds S A h
  unfold conWd at h
  split at h
  · split at h
    · exact cw_ns_ok h
    · split at h
      · exact cw_nsn_ok h
      · exact cw_ssn_ok h
    · exact cw_snsn_ok h
    · split at h
      · exact cw_snnsn_ok h
      · split at h
        · exact cw_nnnsn_ok h
        · exact cw_nnnnn_ok h
    · exact cw_nsnsnsn_ok h
    · cases h
  · split at h
    · injection h with h; subst h
      exact pC_ok fun h1 => ⟨weakL_refl _,nm_ok _ h1⟩
    · cases h
  · exact conNu_ok _ _ _ _ h
end Go.Proofs.YtflbmbkhjcbhoaaGreatDoor
namespace Go.Proofs.YtflbmbkhjcbhoaaGreatDoor
open Go Go.Ab
set_option maxRecDepth 100000
def argsT (x:I4):List (List UInt8) :=
  if x.a = 5∨x.a = 12 then [showI x.b,showI x.c]
  else if x.a = 1∨x.a = 6∨x.a = 7∨x.a = 8∨x.a = 9∨x.a = 10∨x.a = 11∨x.a = 16∨x.a = 17∨x.a = 18∨x.a = 24∨x.a = 27 then [showI x.b]
  else []
def lineT (i:Int) (x:I4):List UInt8 := wordsL (32 :: 32 :: showI i) (nameT x.a :: argsT x ++ [[97,116],showI x.d])
theorem nameT_len (n:Int):(nameT n).length ≤ 9 := by
  unfold nameT
  rw [List.getD_eq_getElem?_getD]
  cases h:namesL[n.toNat]? with
  | none => simp
  | some s => exact of_decide_eq_true (List.all_eq_true.1 (show (namesL.all fun s => decide (s.length ≤ 9)) = true by decide +kernel) s (List.mem_of_getElem? h))
theorem line_two {i:Int} {x:I4} (h:x.a = 5∨x.a = 12):lineT i x = wordsL (32 :: 32 :: showI i) [nameT x.a,showI x.b,showI x.c,[97,116],showI x.d] := by
  unfold lineT argsT; rw [if_pos h]; rfl
theorem line_one {i:Int} {x:I4} (h:x.a = 1∨x.a = 6∨x.a = 7∨x.a = 8∨x.a = 9∨x.a = 10∨x.a = 11∨x.a = 16∨x.a = 17∨x.a = 18∨x.a = 24∨x.a = 27):lineT i x = wordsL (32 :: 32 :: showI i) [nameT x.a,showI x.b,[97,116],showI x.d] := by
  unfold lineT argsT; rw [if_neg (by omega),if_pos h]; rfl
theorem line_no {i:Int} {x:I4} (h1:¬(x.a = 5∨x.a = 12)) (h2:¬(x.a = 1∨x.a = 6∨x.a = 7∨x.a = 8∨x.a = 9∨x.a = 10∨x.a = 11∨x.a = 16∨x.a = 17∨x.a = 18∨x.a = 24∨x.a = 27)):lineT i x = wordsL (32 :: 32 :: showI i) [nameT x.a,[97,116],showI x.d] := by
  unfold lineT argsT; rw [if_neg h1,if_neg h2]; rfl
noncomputable def Ebl:Senv := EC conWd 55 2 [3,4,5,12,13,25] (fun id => match id with | 19 => ([0,3,4,5,6,7,1,2,8,9,10,11],[1,8,9,10]) | _ => ([],[]))
noncomputable section
def bl1q0 (p0:I4):Int := I4.a p0
def bl1q1 (p0:Int):Prop := inI64 p0
def bl1q2 (p0:I4):Int := I4.d p0
def bl1q3 (p0:Nat) (p1:I4):Prop := SM p0∧SM (ZI (bl1q2 p1))
def bl1q4 (p0:Int):Nat := N2 + LN (showI p0)
def bl1q5 (p0:Int):Prop := LN ((32:UInt8) :: (32:UInt8) :: List.append [] (showI p0)) ≤ (100:Nat)
def bl1q6 (p0:I4):List UInt8 := nameT (bl1q0 p0)
def bl1q7 (p0:I4):Prop := LN (bl1q6 p0) ≤ (1000000000:Nat)
def bl1q8 (p0:I4):Prop := inI64 (I4.b p0)
def bl1q9 (p0:I4):Prop := N2 ≤ (1000000000:Nat)∧inI64 (bl1q2 p0)
def bl1q10 (p0:Int) (p1:I4):List UInt8 := List.append (List.append [] (showI p0)) ((32:UInt8) :: bl1q6 p1)
def bl1q11 (p0:Int) (p1:I4):List UInt8 := List.append (bl1q10 p0 p1) ((32:UInt8) :: showI (I4.b p1))
def bl1q12 (p0:I4):List UInt8 := (32:UInt8) :: showI (bl1q2 p0)
def bl1q13 (p0:Int) (p1:Nat) (p2:I4):Prop := side (bl1q4 p0 ≤ (9223372036854775807:Nat)) (SM p1∧∀ (t:Nat),(bl1q5 p0∧bl1q7 p2∧bl1q8 p2∧inI64 (I4.c p2)∧bl1q9 p2)∧∀ (y:Unit),True→True∧∃ (y:Unit),True∧(32:UInt8) :: (32:UInt8) :: List.append (List.append (List.append (List.append (bl1q11 p0 p2) ((32:UInt8) :: showI (I4.c p2))) [(32:UInt8),(97:UInt8),(116:UInt8)]) (bl1q12 p2)) [(10:UInt8)] = lineT p0 p2∧True∧True)
def bl1q14 (p0:Nat) (p1:Int) (p2:I4):Prop := SM p0∧SM p0∧∀ (t:Nat),SM p0∧(bl1q1 p1∧∀ (y:Unit),True→bl1q3 p0 p2∧bl1q13 p1 t p2)∧bl1q1 p1∧∀ (y:Unit),True→bl1q13 p1 t p2
def bl1q15 (p0:Int) (p1:Nat) (p2:I4):Prop := side (bl1q4 p0 ≤ (9223372036854775807:Nat)) (SM p1∧∀ (t:Nat),(bl1q5 p0∧bl1q7 p2∧bl1q8 p2∧bl1q9 p2)∧∀ (y:Unit),True→True∧∃ (y:Unit),True∧(32:UInt8) :: (32:UInt8) :: List.append (List.append (List.append (bl1q11 p0 p2) [(32:UInt8),(97:UInt8),(116:UInt8)]) (bl1q12 p2)) [(10:UInt8)] = lineT p0 p2∧True∧True)
def bl1q16 (p0:Nat) (p1:Int) (p2:I4):Prop := SM p0∧∀ (t:Nat),SM p0∧(bl1q1 p1∧∀ (y:Unit),True→bl1q3 p0 p2∧bl1q15 p1 t p2)∧bl1q1 p1∧∀ (y:Unit),True→bl1q15 p1 t p2
def bl1q17 (p0:Int) (p1:I4):Prop := side (bl1q4 p0 ≤ (9223372036854775807:Nat)) (∀ (t:Nat),(bl1q5 p0∧bl1q7 p1∧bl1q9 p1)∧∀ (y:Unit),True→True∧∃ (y:Unit),True∧(32:UInt8) :: (32:UInt8) :: List.append (List.append (List.append (bl1q10 p0 p1) [(32:UInt8),(97:UInt8),(116:UInt8)]) (bl1q12 p1)) [(10:UInt8)] = lineT p0 p1∧True∧True)
def bl1q18 (p0:Nat) (p1:Int) (p2:I4):Prop := SM p0∧(bl1q1 p1∧∀ (y:Unit),True→bl1q3 p0 p2∧bl1q17 p1 p2)∧bl1q1 p1∧∀ (y:Unit),True→bl1q17 p1 p2
def bl1q19 (p0:I4) (p1:Nat) (p2:Int):Prop := ifB (bl1q0 p0 == Z1) (ifB (bl1q0 p0 == Z1) (bl1q16 p1 p2 p0) (bl1q18 p1 p2 p0)) (ifB (bl1q0 p0 == (6:Int)) (ifB (bl1q0 p0 == (6:Int)) (bl1q16 p1 p2 p0) (bl1q18 p1 p2 p0)) (ifB (bl1q0 p0 == (7:Int)) (ifB (bl1q0 p0 == (7:Int)) (bl1q16 p1 p2 p0) (bl1q18 p1 p2 p0)) (ifB (bl1q0 p0 == (8:Int)) (ifB (bl1q0 p0 == (8:Int)) (bl1q16 p1 p2 p0) (bl1q18 p1 p2 p0)) (ifB (bl1q0 p0 == (9:Int)) (ifB (bl1q0 p0 == (9:Int)) (bl1q16 p1 p2 p0) (bl1q18 p1 p2 p0)) (ifB (bl1q0 p0 == (10:Int)) (ifB (bl1q0 p0 == (10:Int)) (bl1q16 p1 p2 p0) (bl1q18 p1 p2 p0)) (ifB (bl1q0 p0 == (11:Int)) (ifB (bl1q0 p0 == (11:Int)) (bl1q16 p1 p2 p0) (bl1q18 p1 p2 p0)) (ifB (bl1q0 p0 == (16:Int)) (ifB (bl1q0 p0 == (16:Int)) (bl1q16 p1 p2 p0) (bl1q18 p1 p2 p0)) (ifB (bl1q0 p0 == (17:Int)) (ifB (bl1q0 p0 == (17:Int)) (bl1q16 p1 p2 p0) (bl1q18 p1 p2 p0)) (ifB (bl1q0 p0 == (18:Int)) (ifB (bl1q0 p0 == (18:Int)) (bl1q16 p1 p2 p0) (bl1q18 p1 p2 p0)) (ifB (bl1q0 p0 == (24:Int)) (ifB (bl1q0 p0 == (24:Int)) (bl1q16 p1 p2 p0) (bl1q18 p1 p2 p0)) (ifB (bl1q0 p0 == (27:Int)) (bl1q16 p1 p2 p0) (bl1q18 p1 p2 p0))))))))))))
end
theorem line_ok (i:Int) (x:I4) (hi:inI64 i) (hx:x.ok) (ha:0 ≤ x.a∧x.a < 28):ACalls Tryz.prog 34 [.int .i64 i,.agg x.row] ⟨[],[]⟩ (SpecR (sC [.int .i64 i,.agg x.row] (.str (lineT i x))) ()) := by
  refine con_of (A := sC _ _) (x := ()) (E := Ebl) (eOk conWd_ok rfl) Tryz.func34 rfl (by kernel_rfl) rfl (by simp [sC,Ebl,EC,E0]) ?_
  refine vc_eq (T :=
    ∀ (x_1:Nat),True→SM x_1∧(Z0 ≤ bl1q0 x∧bl1q0 x < (28:Int))∧∀ (y:Unit),True→SM x_1∧ifB (bl1q0 x == (5:Int)) (ifB (bl1q0 x == (5:Int)) (bl1q14 x_1 i x) (bl1q19 x x_1 i)) (ifB (bl1q0 x == (12:Int)) (bl1q14 x_1 i x) (bl1q19 x x_1 i))) (by kernel_rfl) ?_
  delta LN N2 SM Z0 Z1 ZI bl1q0 bl1q1 bl1q10 bl1q11 bl1q12 bl1q13 bl1q14 bl1q15 bl1q16 bl1q17 bl1q18 bl1q19 bl1q2 bl1q3 bl1q4 bl1q5 bl1q6 bl1q7 bl1q8 bl1q9
  simp only [ifB_iff,side_iff,decide_eq_true_eq,decide_eq_false_iff_not,true_and,and_true,exists_const,forall_const,implies_true,List.append_eq,List.nil_append,List.length_append,List.length_cons,List.length_nil,beq_iff_eq,beq_eq_false_iff_ne,ne_eq]
  obtain ⟨x0,x1,x2,x3⟩ := hx
  have l0 := (showI_len hi).2
  have ln := nameT_len x.a
  refine ⟨ha,?_⟩
  repeat' (first | assumption | refine And.intro ?_ ?_ | omega | intro _)
  all_goals first
    | (exfalso; omega)
    | exact (line_two (by omega)).symm
    | exact (line_one (by omega)).symm
    | exact (line_no (by omega) (by omega)).symm
end Go.Proofs.YtflbmbkhjcbhoaaGreatDoor
namespace Go.Proofs.YtflbmbkhjcbhoaaGreatDoor
open Go Go.Ab
set_option maxRecDepth 100000
def _root_.Go.Ab.cellsO (os:List (Nat × Nat × AObj)) (k:Nat):List D := match getO os k with
  | some (_,.cells ds) => ds
  | _ => []
theorem ACalls.wkEnd {P:Program} {k:FuncId} {ds:List D} {S:St} {R R':AEnd→St→Prop} (h:ACalls P k ds S R) (hr:∀ r S',R r S'→∃ r',(∀ C e,RepEnd C r e→RepEnd C r' e)∧R' r' S'):ACalls P k ds S R' :=
  ⟨h.1,fun C F args w ha hs => (h.2 C F args w ha hs).mono fun _ _ ⟨C',_r,S',h1,h2,h3,h4⟩ => let ⟨r',q0,q2⟩ := hr _ _ h4; ⟨C',r',S',h1,h2,q0 _ _ h3,q2⟩⟩
theorem row1_row (a:Arr):wkL a.row1 a.row := by
  cases a with
  | mk k s n is =>
    simp only [Arr.row,Arr.row1,Arr.k,Arr.sh,Arr.nu,Arr.it,gsl,isl,wkL,wkD,weakD,chk_iff]
    refine ⟨⟨by simp [kEq],trivial⟩,⟨by simp,trivial,fun i _ => by simp [kEq],by simp [weakM]⟩,⟨by simp,trivial,fun i _ => by simp [kEq],by simp [weakM]⟩,⟨by simp,by simp [rowsL_map],fun i hi => ?_,by simp [weakM]⟩,trivial⟩
    have:(rowsL is).getD i [] = (is.getD i default).row := by
      rw [rowsL_map]; simp [List.getD_eq_getElem?_getD,hi]
    rw [this]
    exact wkL_refl _
theorem form_len {k:Int} {s:List Int} {nn ni:Nat} (h:formS k s nn ni = 0):s.length ≤ 8 := by
  unfold formS at h
  by_cases hk:k = 1∨k = 2∨k = 3
  · rw [if_pos hk] at h
    by_cases hd:dimsS s ≠ 0
    · rw [if_pos hd] at h; exact (hd h).elim
    · have hd:dimsS s = 0 := by simpa using hd
      unfold dimsS at hd
      by_cases h8:8 < s.length
      · rw [if_pos h8] at hd; omega
      · omega
  · rw [if_neg hk] at h; omega
def _root_.Go.Ab.refKey:D→Nat
  | .ref k _ _ => k
  | _ => 0
def _root_.Go.Ab.vkey (os:List (Nat × Nat × AObj)) (k:Nat):Nat := match cellsO os k with
  | [_,_,_,.vs kv _ _ _ _] => kv
  | _ => 0
def zrow:List D := [.int .i64 0,.sl 1 0 (fun _ => []) .nil,.sl 1 0 (fun _ => []) .nil,.sl 1 0 (fun _ => []) .nil]
def clR (its:List Arr) (i j:Nat):List D := match Nat.blt j i with
  | true => (its.getD j default).row1
  | false => zrow
def sCl (row row':Arr→List D) (q:Arr→Prop):FnSpec where
  β := Arr
  α := Unit
  args := fun a => [.agg (row a)]
  st := fun _ => ⟨[],[]⟩
  pre := q
  post := fun _ _ => True
  res := fun a _ => .ret (.agg (row' a))
  out := fun _ _ => ⟨[],[]⟩
def conCl (its:List Arr):Con := fun k _ _ => match k with
  | 116 => some (sCl Arr.row1 Arr.row1 (fun b => b ∈ its))
  | _ => none
theorem clR_lt {its:List Arr} {i j:Nat} (h:j < i):clR its i j = (its.getD j default).row1 := by
  unfold clR
  have:Nat.blt j i = true := by simpa using h
  rw [this]
theorem clR_ge {its:List Arr} {i j:Nat} (h:¬ j < i):clR its i j = zrow := by
  unfold clR
  cases hb:Nat.blt j i with
  | false => rfl
  | true => exact (h (by simpa using hb)).elim
noncomputable def Ecl (a:Arr):Senv := { EC (conCl a.it) 47 6 [32,33,34,35] (fun id => match id with | 1 => ([0,1,2,3,4,6,7,8,10,11,12,5,9,13,14,15,16],[5,9,13,15,16]) | 7 => ([0,1,2,3,4,5,6],[4,6]) | _ => ([],[])) with
  gz := fun r => match r with
    | 9 => [.cell 17 1,.cell 17 2,.cell 17 3]
    | _ => []
  cut := fun id _ S => match id with
    | 1 => some { slots := [3],keep := [],α := (Nat × Nat) × Nat × Nat,st := fun y => ([.ref 17 y.2.2 0],⟨[(17,y.2.2,.cells [.int .i64 a.k,.vs 7 y.1.1 a.sh.length a.sh.length 1,.vs 11 y.1.2 a.nu.length a.nu.length 1,.vs 15 y.2.1 a.it.length a.it.length 4]),(15,y.2.1,.vec 4 a.it.length a.it.length (clR a.it 0)),(11,y.1.2,.vec 1 a.nu.length a.nu.length (fun _ => [.int .i64 0])),(7,y.1.1,.vec 1 a.sh.length a.sh.length (fun _ => [.int .i64 0]))] ++ S.objs,[]⟩),inv := fun _ => True,mu := fun _ => 0 }
    | _ => none
  ann := fun b env S => match b with
    | 0 => some { slots := [34],keep := [1,2,3,32,33],α := Nat,st := fun i => ([.int .i64 i],⟨setO S.objs (vkey S.objs (refKey (Ab.look env 3))) (.vec 4 a.it.length a.it.length (clR a.it i)),S.toks⟩),inv := fun i => i ≤ a.it.length,mu := fun i => a.it.length - i }
    | _ => none }
noncomputable section
def cl1q0 (p0:Arr):Nat := LN (Arr.sh p0)
def cl1q1 (p0:Arr):Int := (NI (cl1q0 p0))
def cl1q2 (p0:Arr):Int := (8:Int) * cl1q1 p0
def cl1q3 (p0:Arr):List Arr := Arr.it p0
def cl1q4 (p0:Arr):Nat := LN (cl1q3 p0)
def cl1q5:Arr := DA
def cl1q6 (p0:Arr) (p1:Nat):Arr := List.getD (cl1q3 p0) p1 cl1q5
def cl1q7 (p0:Arr) (p1:Nat):List Int := Arr.sh (cl1q6 p0 p1)
def cl1q8 (p0:Arr) (p1:Nat):List Int := Arr.nu (cl1q6 p0 p1)
def cl1q9 (p0:Arr) (p1:Nat):List Arr := Arr.it (cl1q6 p0 p1)
def cl1q10 (p0:Arr) (p1:Nat):List D := [ZI (Arr.k (cl1q6 p0 p1)),SI (cl1q7 p0 p1),SI (cl1q8 p0 p1),D.sl N4 (LN (cl1q9 p0 p1)) (fun (i:Nat) => Arr.row (List.getD (cl1q9 p0 p1) i cl1q5)) Mode.any]
def cl1q11 (p0:Arr):D := D.sl N4 (cl1q4 p0) (fun (i:Nat) => cl1q10 p0 i) Mode.any
def cl1q12 (p0:Arr):Prop := SM (cl1q11 p0)
def cl1q13 (p0:Nat) (p1:Arr):Prop := SM p0∧cl1q12 p1
def cl1q14 (p0:Arr):Nat := LN (Arr.nu p0)
def cl1q15 (p0:Arr) (p1:Nat):List D := [ZI (GI (Arr.nu p0) p1)]
def cl1q16 (p0:Arr):D := D.sl N1 (cl1q14 p0) (fun (i:Nat) => cl1q15 p0 i) Mode.any
def cl1q17 (p0:Nat) (p1:Arr):Prop := SM p0∧SM (cl1q16 p1)
def cl1q18 (p0:Arr):Int := Arr.k p0
def cl1q19 (p0:Arr):D := ZI (cl1q18 p0)
def cl1q20 (p0:Nat) (p1:Arr):Prop := SM p0∧SM (cl1q19 p1)
def cl1q21 (p0:Arr):Int := (NI (cl1q14 p0))
def cl1q22 (p0:Arr):Int := (8:Int) * cl1q21 p0
def cl1q23 (p0 p1 p2 p3:Nat):Prop := p0 ≠ p1∧p2 ≠ p1∧p3 ≠ p1∧True
def cl1q24 (p0:Arr):Int := (NI (cl1q4 p0))
def cl1q25 (p0:Arr):Int := (80:Int) * cl1q24 p0
def cl1q26 (p0 p1 p2 p3 p4:Nat):Prop := p0 ≠ p1∧cl1q23 p2 p1 p3 p4
def cl1q27 (p0 p1 p2 p3 p4 p5:Nat):Prop := p0 ≠ p1∧cl1q26 p2 p1 p3 p4 p5
def cl1q28 (p0:Arr):Prop := SM (cl1q18 p0)
def cl1q29 (p0:Arr):Prop := Int.toNat (cl1q1 p0) = cl1q0 p0
def cl1q30 (p0:Arr):Prop := Int.toNat (cl1q21 p0) = cl1q14 p0
def cl1q31 (p0:Arr):Prop := Int.toNat (cl1q24 p0) = cl1q4 p0
def cl1q32:D := D.sl N1 N0 (fun (_x:Nat) => []) Mode.nil
def cl1q33 (p0:Arr) (p1:Nat):List D := clR (cl1q3 p0) N0 p1
def cl1q34:Prop := SM [ZI Z0]
def cl1q35:Prop := SM N0∧(∀ (i:Nat),i < N0→eqOf (List D) [] [])∧True
def cl1q36 (p0:Arr):Prop := SM (cl1q0 p0)
def cl1q37 (p0:Arr) (p1:Nat):List D := [ZI (GI (Arr.sh p0) p1)]
def cl1q38 (p0:Arr):Prop := ∀ (i:Nat),i < cl1q0 p0→SM (cl1q37 p0 i)
def cl1q39 (p0:Arr):Prop := cl1q36 p0∧cl1q38 p0∧True
def cl1q40 (p0:Arr):Prop := SM (cl1q14 p0)
def cl1q41 (p0:Arr):Prop := ∀ (i:Nat),i < cl1q14 p0→SM (cl1q15 p0 i)
def cl1q42 (p0:Arr):Prop := cl1q40 p0∧cl1q41 p0∧True
def cl1q43 (p0:Arr):Prop := SM (cl1q4 p0)
def cl1q44 (p0:Nat) (p1:Arr):Prop := p0 < cl1q4 p1
def cl1q45 (p0 p1:Nat) (p2:Arr):Prop := SM p0∧(SM Z0∧cl1q35∧cl1q35∧cl1q35∧True)∧SM p1∧(cl1q28 p2∧cl1q39 p2∧cl1q42 p2∧(cl1q43 p2∧(∀ (i:Nat),cl1q44 i p2→SM (cl1q10 p2 i))∧True)∧True)∧True
def cl1q46 (p0:Nat) (p1:Arr) (p2 p3 p4 p5 p6:Nat):Prop := cl1q20 p0 p1∧SM p2∧∃ (x:(Nat × Nat) × Nat × Nat),True∧(p2 = x.2.2∧True)∧(p2 = x.2.2∧(cl1q28 p1∧(p3 = x.1.1∧cl1q29 p1∧cl1q29 p1)∧(p4 = x.1.2∧cl1q30 p1∧cl1q30 p1)∧(p5 = x.2.1∧cl1q31 p1∧cl1q31 p1)∧True)∧p5 = x.2.1∧(cl1q31 p1∧cl1q31 p1∧∀ (i:Nat),i < Int.toNat (cl1q24 p1)→[ZI Z0,cl1q32,cl1q32,cl1q32] = cl1q33 p1 i)∧p4 = x.1.2∧(cl1q30 p1∧cl1q30 p1∧∀ (i:Nat),i < Int.toNat (cl1q21 p1)→cl1q34)∧p3 = x.1.1∧(cl1q29 p1∧cl1q29 p1∧∀ (i:Nat),i < Int.toNat (cl1q1 p1)→cl1q34)∧cl1q45 p6 p0 p1)∧True
def cl1q47 (p0:Arr):D := D.sl N1 (cl1q0 p0) (fun (i:Nat) => cl1q37 p0 i) Mode.any
def cl1q48 (p0:Nat) (p1:Arr):Prop := SM p0∧SM (cl1q47 p1)
def cl1q49 (p0:Nat) (p1:Arr):Prop := p0 ≤ cl1q4 p1
def cl1q50 (p0:Arr) (p1 p2 p3:Nat):Prop := cl1q28 p0∧(SM p1∧cl1q36 p0∧cl1q36 p0)∧(SM p2∧cl1q40 p0∧cl1q40 p0)∧(SM p3∧cl1q43 p0∧cl1q43 p0)∧True
def cl1q51 (p0:Arr) (p1 p2:Nat):List D := clR (cl1q3 p0) p1 p2
def cl1q52 (p0:Nat) (p1:Arr) (p2 p3 p4:Nat):Prop := SM p0∧(cl1q40 p1∧cl1q40 p1∧cl1q41 p1)∧SM p2∧(cl1q36 p1∧cl1q36 p1∧cl1q38 p1)∧cl1q45 p3 p4 p1
def cl1q53 (p0:Arr) (p1:Nat):Arr := List.getD (cl1q3 p0) (Int.toNat (↑p1:Int)) cl1q5
def cl1q54 (p0:Arr) (p1:Nat):List Int := Arr.sh (cl1q53 p0 p1)
def cl1q55 (p0:Arr) (p1:Nat):Nat := LN (cl1q54 p0 p1)
def cl1q56 (p0:Arr) (p1:Nat):List Int := Arr.nu (cl1q53 p0 p1)
def cl1q57 (p0:Arr) (p1:Nat):Nat := LN (cl1q56 p0 p1)
def cl1q58 (p0:Arr) (p1:Nat):List Arr := Arr.it (cl1q53 p0 p1)
def cl1q59 (p0:Arr) (p1:Nat):Nat := LN (cl1q58 p0 p1)
def cl1q60 (p0:Arr) (p1:Nat):List D := Arr.row (cl1q6 p0 p1)
def cl1q61 (p0:Nat) (p1:Arr):D := D.vs (15:Nat) p0 (cl1q4 p1) (cl1q4 p1) N4
def cl1q62 (p0:D):Bool := match p0 with | D.unk => false | D.agg _cs => false | D.tup _ds => false | _x => true
end
theorem cl_step (a : Arr) (ha : a.nu.length ≤ 1000000 ∧ a.it.length ≤ 1000000 ∧ a.sh.length ≤ 1000000) (hc : ConOk Tryz.prog (conCl a.it)) :
    ACalls Tryz.prog 116 ((sCl Arr.row2 Arr.row2 (fun _ => True)).args a) ⟨[],[]⟩ (SpecR (sCl Arr.row2 Arr.row2 (fun _ => True)) a) := by
  refine con_of (A := sCl Arr.row2 Arr.row2 (fun _ => True)) (x := a) (E := Ecl a) (eOk hc rfl) Tryz.func116 rfl (by kernel_rfl) rfl (by simp [sCl,Ecl,EC,E0]) ?_
  refine vc_eq (T :=
    ∀ (x:Nat),True→∀ (x_1:Nat),x ≠ x_1∧True→(SM x∧SM x∧SM x∧SM x∧side (Z0 ≤ cl1q1 a∧cl1q1 a ≤ cl1q1 a∧cl1q2 a ≤ (281474976710656:Int)∧cl1q1 a ≤ (9223372036854775807:Int)) (∀ (x_2:Nat),x_1 ≠ x_2∧x ≠ x_2∧True→cl1q13 x a∧cl1q17 x a∧cl1q20 x a∧side (Z0 ≤ cl1q21 a∧cl1q21 a ≤ cl1q21 a∧cl1q22 a ≤ (281474976710656:Int)∧cl1q21 a ≤ (9223372036854775807:Int)) (∀ (x_3:Nat),cl1q23 x_2 x_3 x_1 x→cl1q13 x a∧cl1q20 x a∧side (Z0 ≤ cl1q24 a∧cl1q24 a ≤ cl1q24 a∧cl1q25 a ≤ (281474976710656:Int)∧cl1q24 a ≤ (9223372036854775807:Int)) (∀ (x_4:Nat),cl1q26 x_3 x_4 x_2 x_1 x→cl1q20 x a∧∀ (x_5:Nat),cl1q27 x_4 x_5 x_3 x_2 x_1 x→cl1q46 x a x_5 x_2 x_3 x_4 x_1)∧∀ (x_4:Nat),cl1q26 x_3 x_4 x_2 x_1 x→cl1q13 x a∧cl1q20 x a∧side (Z0 ≤ cl1q24 a∧cl1q24 a ≤ cl1q24 a∧cl1q25 a ≤ (281474976710656:Int)∧cl1q24 a ≤ (9223372036854775807:Int)) (∀ (x_5:Nat),cl1q27 x_4 x_5 x_3 x_2 x_1 x→cl1q46 x a x_4 x_2 x_3 x_5 x_1))∧side (Z0 ≤ cl1q24 a∧cl1q24 a ≤ cl1q24 a∧cl1q25 a ≤ (281474976710656:Int)∧cl1q24 a ≤ (9223372036854775807:Int)) (∀ (x_3:Nat),cl1q23 x_2 x_3 x_1 x→cl1q17 x a∧cl1q20 x a∧side (Z0 ≤ cl1q21 a∧cl1q21 a ≤ cl1q21 a∧cl1q22 a ≤ (281474976710656:Int)∧cl1q21 a ≤ (9223372036854775807:Int)) (∀ (x_4:Nat),cl1q26 x_3 x_4 x_2 x_1 x→cl1q20 x a∧∀ (x_5:Nat),cl1q27 x_4 x_5 x_3 x_2 x_1 x→cl1q46 x a x_5 x_2 x_4 x_3 x_1)∧∀ (x_4:Nat),cl1q26 x_3 x_4 x_2 x_1 x→cl1q17 x a∧cl1q20 x a∧side (Z0 ≤ cl1q21 a∧cl1q21 a ≤ cl1q21 a∧cl1q22 a ≤ (281474976710656:Int)∧cl1q21 a ≤ (9223372036854775807:Int)) (∀ (x_5:Nat),cl1q27 x_4 x_5 x_3 x_2 x_1 x→cl1q46 x a x_4 x_2 x_5 x_3 x_1))∧∀ (x_3:Nat),cl1q23 x_2 x_3 x_1 x→cl1q13 x a∧cl1q17 x a∧cl1q20 x a∧side (Z0 ≤ cl1q21 a∧cl1q21 a ≤ cl1q21 a∧cl1q22 a ≤ (281474976710656:Int)∧cl1q21 a ≤ (9223372036854775807:Int)) (∀ (x_4:Nat),cl1q26 x_3 x_4 x_2 x_1 x→cl1q13 x a∧cl1q20 x a∧side (Z0 ≤ cl1q24 a∧cl1q24 a ≤ cl1q24 a∧cl1q25 a ≤ (281474976710656:Int)∧cl1q24 a ≤ (9223372036854775807:Int)) (∀ (x_5:Nat),cl1q27 x_4 x_5 x_3 x_2 x_1 x→cl1q46 x a x_3 x_2 x_4 x_5 x_1))∧side (Z0 ≤ cl1q24 a∧cl1q24 a ≤ cl1q24 a∧cl1q25 a ≤ (281474976710656:Int)∧cl1q24 a ≤ (9223372036854775807:Int)) (∀ (x_4:Nat),cl1q26 x_3 x_4 x_2 x_1 x→cl1q17 x a∧cl1q20 x a∧side (Z0 ≤ cl1q21 a∧cl1q21 a ≤ cl1q21 a∧cl1q22 a ≤ (281474976710656:Int)∧cl1q21 a ≤ (9223372036854775807:Int)) (∀ (x_5:Nat),cl1q27 x_4 x_5 x_3 x_2 x_1 x→cl1q46 x a x_3 x_2 x_5 x_4 x_1)))∧side (Z0 ≤ cl1q21 a∧cl1q21 a ≤ cl1q21 a∧cl1q22 a ≤ (281474976710656:Int)∧cl1q21 a ≤ (9223372036854775807:Int)) (∀ (x_2:Nat),x_1 ≠ x_2∧x ≠ x_2∧True→cl1q13 x a∧cl1q48 x a∧cl1q20 x a∧side (Z0 ≤ cl1q1 a∧cl1q1 a ≤ cl1q1 a∧cl1q2 a ≤ (281474976710656:Int)∧cl1q1 a ≤ (9223372036854775807:Int)) (∀ (x_3:Nat),cl1q23 x_2 x_3 x_1 x→cl1q13 x a∧cl1q20 x a∧side (Z0 ≤ cl1q24 a∧cl1q24 a ≤ cl1q24 a∧cl1q25 a ≤ (281474976710656:Int)∧cl1q24 a ≤ (9223372036854775807:Int)) (∀ (x_4:Nat),cl1q26 x_3 x_4 x_2 x_1 x→cl1q20 x a∧∀ (x_5:Nat),cl1q27 x_4 x_5 x_3 x_2 x_1 x→cl1q46 x a x_5 x_3 x_2 x_4 x_1)∧∀ (x_4:Nat),cl1q26 x_3 x_4 x_2 x_1 x→cl1q13 x a∧cl1q20 x a∧side (Z0 ≤ cl1q24 a∧cl1q24 a ≤ cl1q24 a∧cl1q25 a ≤ (281474976710656:Int)∧cl1q24 a ≤ (9223372036854775807:Int)) (∀ (x_5:Nat),cl1q27 x_4 x_5 x_3 x_2 x_1 x→cl1q46 x a x_4 x_3 x_2 x_5 x_1))∧side (Z0 ≤ cl1q24 a∧cl1q24 a ≤ cl1q24 a∧cl1q25 a ≤ (281474976710656:Int)∧cl1q24 a ≤ (9223372036854775807:Int)) (∀ (x_3:Nat),cl1q23 x_2 x_3 x_1 x→cl1q48 x a∧cl1q20 x a∧side (Z0 ≤ cl1q1 a∧cl1q1 a ≤ cl1q1 a∧cl1q2 a ≤ (281474976710656:Int)∧cl1q1 a ≤ (9223372036854775807:Int)) (∀ (x_4:Nat),cl1q26 x_3 x_4 x_2 x_1 x→cl1q20 x a∧∀ (x_5:Nat),cl1q27 x_4 x_5 x_3 x_2 x_1 x→cl1q46 x a x_5 x_4 x_2 x_3 x_1)∧∀ (x_4:Nat),cl1q26 x_3 x_4 x_2 x_1 x→cl1q48 x a∧cl1q20 x a∧side (Z0 ≤ cl1q1 a∧cl1q1 a ≤ cl1q1 a∧cl1q2 a ≤ (281474976710656:Int)∧cl1q1 a ≤ (9223372036854775807:Int)) (∀ (x_5:Nat),cl1q27 x_4 x_5 x_3 x_2 x_1 x→cl1q46 x a x_4 x_5 x_2 x_3 x_1))∧∀ (x_3:Nat),cl1q23 x_2 x_3 x_1 x→cl1q13 x a∧cl1q48 x a∧cl1q20 x a∧side (Z0 ≤ cl1q1 a∧cl1q1 a ≤ cl1q1 a∧cl1q2 a ≤ (281474976710656:Int)∧cl1q1 a ≤ (9223372036854775807:Int)) (∀ (x_4:Nat),cl1q26 x_3 x_4 x_2 x_1 x→cl1q13 x a∧cl1q20 x a∧side (Z0 ≤ cl1q24 a∧cl1q24 a ≤ cl1q24 a∧cl1q25 a ≤ (281474976710656:Int)∧cl1q24 a ≤ (9223372036854775807:Int)) (∀ (x_5:Nat),cl1q27 x_4 x_5 x_3 x_2 x_1 x→cl1q46 x a x_3 x_4 x_2 x_5 x_1))∧side (Z0 ≤ cl1q24 a∧cl1q24 a ≤ cl1q24 a∧cl1q25 a ≤ (281474976710656:Int)∧cl1q24 a ≤ (9223372036854775807:Int)) (∀ (x_4:Nat),cl1q26 x_3 x_4 x_2 x_1 x→cl1q48 x a∧cl1q20 x a∧side (Z0 ≤ cl1q1 a∧cl1q1 a ≤ cl1q1 a∧cl1q2 a ≤ (281474976710656:Int)∧cl1q1 a ≤ (9223372036854775807:Int)) (∀ (x_5:Nat),cl1q27 x_4 x_5 x_3 x_2 x_1 x→cl1q46 x a x_3 x_5 x_2 x_4 x_1)))∧side (Z0 ≤ cl1q24 a∧cl1q24 a ≤ cl1q24 a∧cl1q25 a ≤ (281474976710656:Int)∧cl1q24 a ≤ (9223372036854775807:Int)) (∀ (x_2:Nat),x_1 ≠ x_2∧x ≠ x_2∧True→cl1q17 x a∧cl1q48 x a∧cl1q20 x a∧side (Z0 ≤ cl1q1 a∧cl1q1 a ≤ cl1q1 a∧cl1q2 a ≤ (281474976710656:Int)∧cl1q1 a ≤ (9223372036854775807:Int)) (∀ (x_3:Nat),cl1q23 x_2 x_3 x_1 x→cl1q17 x a∧cl1q20 x a∧side (Z0 ≤ cl1q21 a∧cl1q21 a ≤ cl1q21 a∧cl1q22 a ≤ (281474976710656:Int)∧cl1q21 a ≤ (9223372036854775807:Int)) (∀ (x_4:Nat),cl1q26 x_3 x_4 x_2 x_1 x→cl1q20 x a∧∀ (x_5:Nat),cl1q27 x_4 x_5 x_3 x_2 x_1 x→cl1q46 x a x_5 x_3 x_4 x_2 x_1)∧∀ (x_4:Nat),cl1q26 x_3 x_4 x_2 x_1 x→cl1q17 x a∧cl1q20 x a∧side (Z0 ≤ cl1q21 a∧cl1q21 a ≤ cl1q21 a∧cl1q22 a ≤ (281474976710656:Int)∧cl1q21 a ≤ (9223372036854775807:Int)) (∀ (x_5:Nat),cl1q27 x_4 x_5 x_3 x_2 x_1 x→cl1q46 x a x_4 x_3 x_5 x_2 x_1))∧side (Z0 ≤ cl1q21 a∧cl1q21 a ≤ cl1q21 a∧cl1q22 a ≤ (281474976710656:Int)∧cl1q21 a ≤ (9223372036854775807:Int)) (∀ (x_3:Nat),cl1q23 x_2 x_3 x_1 x→cl1q48 x a∧cl1q20 x a∧side (Z0 ≤ cl1q1 a∧cl1q1 a ≤ cl1q1 a∧cl1q2 a ≤ (281474976710656:Int)∧cl1q1 a ≤ (9223372036854775807:Int)) (∀ (x_4:Nat),cl1q26 x_3 x_4 x_2 x_1 x→cl1q20 x a∧∀ (x_5:Nat),cl1q27 x_4 x_5 x_3 x_2 x_1 x→cl1q46 x a x_5 x_4 x_3 x_2 x_1)∧∀ (x_4:Nat),cl1q26 x_3 x_4 x_2 x_1 x→cl1q48 x a∧cl1q20 x a∧side (Z0 ≤ cl1q1 a∧cl1q1 a ≤ cl1q1 a∧cl1q2 a ≤ (281474976710656:Int)∧cl1q1 a ≤ (9223372036854775807:Int)) (∀ (x_5:Nat),cl1q27 x_4 x_5 x_3 x_2 x_1 x→cl1q46 x a x_4 x_5 x_3 x_2 x_1))∧∀ (x_3:Nat),cl1q23 x_2 x_3 x_1 x→cl1q17 x a∧cl1q48 x a∧cl1q20 x a∧side (Z0 ≤ cl1q1 a∧cl1q1 a ≤ cl1q1 a∧cl1q2 a ≤ (281474976710656:Int)∧cl1q1 a ≤ (9223372036854775807:Int)) (∀ (x_4:Nat),cl1q26 x_3 x_4 x_2 x_1 x→cl1q17 x a∧cl1q20 x a∧side (Z0 ≤ cl1q21 a∧cl1q21 a ≤ cl1q21 a∧cl1q22 a ≤ (281474976710656:Int)∧cl1q21 a ≤ (9223372036854775807:Int)) (∀ (x_5:Nat),cl1q27 x_4 x_5 x_3 x_2 x_1 x→cl1q46 x a x_3 x_4 x_5 x_2 x_1))∧side (Z0 ≤ cl1q21 a∧cl1q21 a ≤ cl1q21 a∧cl1q22 a ≤ (281474976710656:Int)∧cl1q21 a ≤ (9223372036854775807:Int)) (∀ (x_4:Nat),cl1q26 x_3 x_4 x_2 x_1 x→cl1q48 x a∧cl1q20 x a∧side (Z0 ≤ cl1q1 a∧cl1q1 a ≤ cl1q1 a∧cl1q2 a ≤ (281474976710656:Int)∧cl1q1 a ≤ (9223372036854775807:Int)) (∀ (x_5:Nat),cl1q27 x_4 x_5 x_3 x_2 x_1 x→cl1q46 x a x_3 x_5 x_4 x_2 x_1)))∧∀ (x_2:Nat),x_1 ≠ x_2∧x ≠ x_2∧True→cl1q13 x a∧cl1q17 x a∧cl1q48 x a∧cl1q20 x a∧side (Z0 ≤ cl1q1 a∧cl1q1 a ≤ cl1q1 a∧cl1q2 a ≤ (281474976710656:Int)∧cl1q1 a ≤ (9223372036854775807:Int)) (∀ (x_3:Nat),cl1q23 x_2 x_3 x_1 x→cl1q13 x a∧cl1q17 x a∧cl1q20 x a∧side (Z0 ≤ cl1q21 a∧cl1q21 a ≤ cl1q21 a∧cl1q22 a ≤ (281474976710656:Int)∧cl1q21 a ≤ (9223372036854775807:Int)) (∀ (x_4:Nat),cl1q26 x_3 x_4 x_2 x_1 x→cl1q13 x a∧cl1q20 x a∧side (Z0 ≤ cl1q24 a∧cl1q24 a ≤ cl1q24 a∧cl1q25 a ≤ (281474976710656:Int)∧cl1q24 a ≤ (9223372036854775807:Int)) (∀ (x_5:Nat),cl1q27 x_4 x_5 x_3 x_2 x_1 x→cl1q46 x a x_2 x_3 x_4 x_5 x_1))∧side (Z0 ≤ cl1q24 a∧cl1q24 a ≤ cl1q24 a∧cl1q25 a ≤ (281474976710656:Int)∧cl1q24 a ≤ (9223372036854775807:Int)) (∀ (x_4:Nat),cl1q26 x_3 x_4 x_2 x_1 x→cl1q17 x a∧cl1q20 x a∧side (Z0 ≤ cl1q21 a∧cl1q21 a ≤ cl1q21 a∧cl1q22 a ≤ (281474976710656:Int)∧cl1q21 a ≤ (9223372036854775807:Int)) (∀ (x_5:Nat),cl1q27 x_4 x_5 x_3 x_2 x_1 x→cl1q46 x a x_2 x_3 x_5 x_4 x_1)))∧side (Z0 ≤ cl1q21 a∧cl1q21 a ≤ cl1q21 a∧cl1q22 a ≤ (281474976710656:Int)∧cl1q21 a ≤ (9223372036854775807:Int)) (∀ (x_3:Nat),cl1q23 x_2 x_3 x_1 x→cl1q13 x a∧cl1q48 x a∧cl1q20 x a∧side (Z0 ≤ cl1q1 a∧cl1q1 a ≤ cl1q1 a∧cl1q2 a ≤ (281474976710656:Int)∧cl1q1 a ≤ (9223372036854775807:Int)) (∀ (x_4:Nat),cl1q26 x_3 x_4 x_2 x_1 x→cl1q13 x a∧cl1q20 x a∧side (Z0 ≤ cl1q24 a∧cl1q24 a ≤ cl1q24 a∧cl1q25 a ≤ (281474976710656:Int)∧cl1q24 a ≤ (9223372036854775807:Int)) (∀ (x_5:Nat),cl1q27 x_4 x_5 x_3 x_2 x_1 x→cl1q46 x a x_2 x_4 x_3 x_5 x_1))∧side (Z0 ≤ cl1q24 a∧cl1q24 a ≤ cl1q24 a∧cl1q25 a ≤ (281474976710656:Int)∧cl1q24 a ≤ (9223372036854775807:Int)) (∀ (x_4:Nat),cl1q26 x_3 x_4 x_2 x_1 x→cl1q48 x a∧cl1q20 x a∧side (Z0 ≤ cl1q1 a∧cl1q1 a ≤ cl1q1 a∧cl1q2 a ≤ (281474976710656:Int)∧cl1q1 a ≤ (9223372036854775807:Int)) (∀ (x_5:Nat),cl1q27 x_4 x_5 x_3 x_2 x_1 x→cl1q46 x a x_2 x_5 x_3 x_4 x_1)))∧side (Z0 ≤ cl1q24 a∧cl1q24 a ≤ cl1q24 a∧cl1q25 a ≤ (281474976710656:Int)∧cl1q24 a ≤ (9223372036854775807:Int)) (∀ (x_3:Nat),cl1q23 x_2 x_3 x_1 x→cl1q17 x a∧cl1q48 x a∧cl1q20 x a∧side (Z0 ≤ cl1q1 a∧cl1q1 a ≤ cl1q1 a∧cl1q2 a ≤ (281474976710656:Int)∧cl1q1 a ≤ (9223372036854775807:Int)) (∀ (x_4:Nat),cl1q26 x_3 x_4 x_2 x_1 x→cl1q17 x a∧cl1q20 x a∧side (Z0 ≤ cl1q21 a∧cl1q21 a ≤ cl1q21 a∧cl1q22 a ≤ (281474976710656:Int)∧cl1q21 a ≤ (9223372036854775807:Int)) (∀ (x_5:Nat),cl1q27 x_4 x_5 x_3 x_2 x_1 x→cl1q46 x a x_2 x_4 x_5 x_3 x_1))∧side (Z0 ≤ cl1q21 a∧cl1q21 a ≤ cl1q21 a∧cl1q22 a ≤ (281474976710656:Int)∧cl1q21 a ≤ (9223372036854775807:Int)) (∀ (x_4:Nat),cl1q26 x_3 x_4 x_2 x_1 x→cl1q48 x a∧cl1q20 x a∧side (Z0 ≤ cl1q1 a∧cl1q1 a ≤ cl1q1 a∧cl1q2 a ≤ (281474976710656:Int)∧cl1q1 a ≤ (9223372036854775807:Int)) (∀ (x_5:Nat),cl1q27 x_4 x_5 x_3 x_2 x_1 x→cl1q46 x a x_2 x_5 x_4 x_3 x_1))))∧∀ (x_2:(Nat × Nat) × Nat × Nat),True→SM x_2.2.2∧SM x∧SM x_2.1.1∧cl1q36 a∧cl1q36 a∧SM x_2.2.2∧SM x∧SM x_2.1.2∧cl1q40 a∧cl1q40 a∧SM x∧(∃ (x_3:Nat),cl1q49 x_3 a∧(Z0 = (↑x_3:Int)∧True)∧(SM x_2.2.2∧cl1q50 a x_2.1.1 x_2.1.2 x_2.2.1∧SM x_2.2.1∧(cl1q43 a∧cl1q43 a∧∀ (i:Nat),cl1q44 i a→cl1q33 a i = cl1q51 a x_3 i)∧cl1q52 x_2.1.2 a x_2.1.1 x_1 x)∧True)∧∀ (x_3:Nat),cl1q49 x_3 a→ifB (decide ((↑x_3:Int) < cl1q24 a)) (side (Z0 ≤ (↑x_3:Int)∧(↑x_3:Int) < cl1q24 a) (∀ (x_4:Nat),x_2.2.2 ≠ x_4∧cl1q27 x_2.2.1 x_4 x_2.1.2 x_2.1.1 x_1 x→SM x_4∧SM x_2.2.2∧SM x_4∧∃ (x_5:Arr),((Arr.k (cl1q53 a x_3) = cl1q18 x_5∧(cl1q55 a x_3 = cl1q0 x_5∧(∀ (i:Nat),i < cl1q55 a x_3→[ZI (GI (cl1q54 a x_3) i)] = cl1q37 x_5 i)∧True)∧(cl1q57 a x_3 = cl1q14 x_5∧(∀ (i:Nat),i < cl1q57 a x_3→[ZI (GI (cl1q56 a x_3) i)] = cl1q15 x_5 i)∧True)∧(cl1q59 a x_3 = cl1q4 x_5∧(∀ (i:Nat),i < cl1q59 a x_3→Arr.row (List.getD (cl1q58 a x_3) i cl1q5) = cl1q60 x_5 i)∧True)∧True)∧True)∧(True∧True)∧x_5 ∈ cl1q3 a∧∀ (y:Unit),True→(SM x_2.2.2∧SM (cl1q61 x_2.2.1 a))∧side (Z0 ≤ (↑x_3:Int)∧(↑x_3:Int) < cl1q24 a) (SM x_2.2.1∧side (Int.toNat (↑x_3:Int) < cl1q4 a) ((SM (D.ref N0 x N0)∧SM (D.ref (max (N0 + N1) N0) x_1 N0)∧SM (D.ref (17:Nat) x_2.2.2 N0)∧cl1q12 a∧SM (ZI (cl1q24 a))∧True)∧∃ (y:Nat),cl1q49 y a∧cl1q4 a - y < cl1q4 a - x_3∧(IntKind.wrap IntKind.i64 ((↑x_3:Int) + Z1) = (↑y:Int)∧True)∧(SM x_2.2.2∧cl1q50 a x_2.1.1 x_2.1.2 x_2.2.1∧SM x_2.2.1∧(cl1q43 a∧cl1q43 a∧∀ (i:Nat),cl1q44 i a→updF (clR (cl1q3 a) x_3) (Int.toNat (↑x_3:Int)) (List.set (List.set (List.set (List.set (clR (cl1q3 a) x_3 (Int.toNat (↑x_3:Int))) N0 (cl1q19 x_5)) (N0 + N1) (cl1q47 x_5)) N2 (cl1q16 x_5)) (3:Nat) (D.sl N4 (cl1q4 x_5) (fun (i:Nat) => cl1q60 x_5 i) Mode.any)) i = cl1q51 a y i)∧cl1q52 x_2.1.2 a x_2.1.1 x_1 x)∧True)))) (SM x_2.1.1∧cl1q36 a∧side (cl1q0 a ≤ cl1q0 a) ((∀ (i:Nat),i < cl1q0 a→(List.all (cl1q37 a i) fun (x:D) => cl1q62 x) = true)∧∀ (t:Nat),SM x_2.1.2∧cl1q40 a∧side (cl1q14 a ≤ cl1q14 a) ((∀ (i:Nat),i < cl1q14 a→(List.all (cl1q15 a i) fun (x:D) => cl1q62 x) = true)∧∀ (t:Nat),SM x_2.2.1∧cl1q43 a∧side (cl1q4 a ≤ cl1q4 a) ((∀ (i:Nat),cl1q44 i a→(List.all (cl1q51 a x_3 i) fun (x:D) => cl1q62 x) = true)∧∀ (t:Nat),SM x_2.2.2∧SM x_1∧(SM x_1∧True)∧∃ (y:Unit),True∧(cl1q28 a∧cl1q39 a∧cl1q42 a∧(cl1q43 a∧(∀ (i:Nat),cl1q44 i a→cl1q51 a x_3 i = cl1q10 a i)∧True)∧True)∧True∧True))))) (by kernel_rfl) ?_
  delta DA GI LN N0 N1 N2 N4 NI SI SM Z0 Z1 ZI cl1q0 cl1q1 cl1q10 cl1q11 cl1q12 cl1q13 cl1q14 cl1q15 cl1q16 cl1q17 cl1q18 cl1q19 cl1q2 cl1q20 cl1q21 cl1q22 cl1q23 cl1q24 cl1q25 cl1q26 cl1q27 cl1q28 cl1q29 cl1q3 cl1q30 cl1q31 cl1q32 cl1q33 cl1q34 cl1q35 cl1q36 cl1q37 cl1q38 cl1q39 cl1q4 cl1q40 cl1q41 cl1q42 cl1q43 cl1q44 cl1q45 cl1q46 cl1q47 cl1q48 cl1q49 cl1q5 cl1q50 cl1q51 cl1q52 cl1q53 cl1q54 cl1q55 cl1q56 cl1q57 cl1q58 cl1q59 cl1q6 cl1q60 cl1q61 cl1q62 cl1q7 cl1q8 cl1q9
  have da:(default:Arr) = Arr.mk 0 [] [] [] := rfl
  simp only [← da,eq_self,implies_true,Int.toNat_natCast,ifB_iff,side_iff,decide_eq_true_eq,decide_eq_false_iff_not,true_and,and_true,exists_const,forall_const]
  obtain ⟨l1,l2,l3⟩ := ha
  refine fun x x1 hx => ⟨?_,?_⟩
  · repeat' (first | (refine ⟨((_,_),_,_),rfl,rfl,⟨rfl,rfl,rfl⟩,rfl,fun _ _ => rfl,rfl,rfl⟩) | (refine And.intro ?_ ?_) | intro _ | omega)
  refine fun y => ⟨⟨0,Nat.zero_le _,rfl,fun _ _ => rfl⟩,fun i hi => ⟨fun hlt => ⟨⟨by omega,hlt⟩,fun x4 _ => ⟨a.it.getD i default,⟨rfl,⟨rfl,fun _ _ => rfl⟩,⟨rfl,fun _ _ => rfl⟩,rfl,fun _ _ => rfl⟩,mem_getD (by omega),⟨by omega,hlt⟩,by omega,i + 1,by omega,by omega,wrap_i64' (by omega) (by omega),fun j hj => ?_⟩⟩,fun hge => ⟨Nat.le_refl _,fun _ _ => rfl,Nat.le_refl _,fun _ _ => rfl,Nat.le_refl _,fun j hj => ?_,fun j hj => ?_⟩⟩⟩
  · rw [clR_ge (its := a.it) (i := i) (j := i) (by omega)]
    by_cases e:j = i
    · subst e
      rw [clR_lt (by omega)]
      simp only [updF,if_true]
      rfl
    · simp only [updF,e,if_false]
      by_cases e2:j < i
      · rw [clR_lt e2,clR_lt (by omega)]
      · rw [clR_ge e2,clR_ge (by omega)]
  · rw [clR_lt (by omega)]; rfl
  · rw [clR_lt (by omega)]; rfl
theorem row2_row1 (a:Arr):wkL a.row2 a.row1 := by
  simp only [Arr.row1,Arr.row2,gsl,isl,wkL,wkD,weakD,chk_iff]
  exact ⟨⟨by simp [kEq],trivial⟩,⟨by simp,trivial,fun i _ => by simp [kEq],by simp [weakM]⟩,⟨by simp,trivial,fun i _ => by simp [kEq],by simp [weakM]⟩,⟨by simp,trivial,fun i _ => row1_row _,by simp [weakM]⟩,trivial⟩
theorem chkL_zero:∀ (l:List Arr) (d w:Int) (r:Int × Int),chkL l d w = some r→∀ x ∈ l,(chkA x).1 = 0
  | [],_,_,_,_,x,hx => by cases hx
  | y :: l,d,w,r,h,x,hx => by
    rw [chkL] at h
    split at h
    · cases h
    · rename_i hy
      rcases List.mem_cons.1 hx with rfl | hx
      · simpa using hy
      · exact chkL_zero l _ _ r h x hx
theorem chkA_zero {k:Int} {s n:List Int} {is:List Arr} (h:(chkA (.mk k s n is)).1 = 0):s.length ≤ 8∧n.length ≤ 65536∧is.length ≤ 65536∧∀ x ∈ is,(chkA x).1 = 0 := by
  rw [chkA] at h
  by_cases h0:formS k s n.length is.length ≠ 0
  · rw [if_pos h0] at h; exact (h0 h).elim
  · rw [if_neg h0] at h
    have h0:formS k s n.length is.length = 0 := by simpa using h0
    have hs := form_small h0
    refine ⟨form_len h0,hs.1,hs.2,?_⟩
    by_cases hb:n.any (badK k) = true
    · rw [if_pos hb] at h; simp at h
    · rw [if_neg hb] at h
      cases hr:chkL is 0 ((n.length:Int) + is.length) with
      | none => rw [hr] at h; simp at h
      | some r => exact chkL_zero _ _ _ r hr
theorem cl_all:∀ (a:Arr),(chkA a).1 = 0→ACalls Tryz.prog 116 [.agg a.row1] ⟨[],[]⟩ (SpecR (sCl Arr.row1 Arr.row1 (fun _ => True)) a)
  | .mk k s n is,h => by
    obtain ⟨h1,h2,h3,h4⟩ := chkA_zero h
    have hc:ConOk Tryz.prog (conCl (Arr.mk k s n is).it) := by
      intro k' ds S A hk
      unfold conCl at hk
      split at hk
      · injection hk with hk; subst hk
        refine ConOk.plain (fun (b:Arr) hb => ?_) rfl rfl
        have hb':b ∈ is := hb
        exact (cl_all b (h4 b hb')).mono fun _ _ ⟨y,q1,q2,q3⟩ => ⟨y,q1,q2,q3⟩
      · cases hk
    have hm := cl_step (.mk k s n is) ⟨by show n.length ≤ _; omega,by show is.length ≤ _; omega,by show s.length ≤ _; omega⟩ hc
    have hm2:ACalls Tryz.prog 116 [.agg (Arr.mk k s n is).row1] ⟨[],[]⟩ (SpecR (sCl Arr.row2 Arr.row2 (fun _ => True)) (.mk k s n is)) := by
      refine ACalls.wkArgs hm ?_
      simp only [sCl,wkL,wkD]
      exact ⟨row1_wk _,trivial⟩
    refine ACalls.wkEnd hm2 fun r S' ⟨y,q1,q2,q3⟩ => ?_
    subst q2 q3
    refine ⟨.ret (.agg (Arr.mk k s n is).row1),fun C e he => ?_,⟨(),trivial,rfl,rfl⟩⟩
    cases e with
    | returned v =>
      refine wkD_weak (.agg (Arr.mk k s n is).row2) _ ?_ C v he
      simp only [wkD]
      exact row2_row1 _
    | panicked _ => exact he.elim
    | outgrown => exact he.elim
termination_by a => SizeOf.sizeOf a
decreasing_by
  have := List.sizeOf_lt_of_mem hb'
  simp; omega
end Go.Proofs.YtflbmbkhjcbhoaaGreatDoor
namespace Go.Proofs.YtflbmbkhjcbhoaaGreatDoor
open Go Go.Ab
set_option maxRecDepth 100000
def fillA (k:Int):Arr := if k = 1 then .mk 1 [] [0] [] else if k = 2 then .mk 2 [] [32] [] else if k = 3 then .mk 3 [] [] [.mk 1 [0] [] []] else .mk 0 [] [] []
def nilS (w:Nat):D := .sl w 0 (fun _ => []) .nil
def fillD (k:Int):D :=
  if k = 1 then .agg [.int .i64 1,nilS 1,.sl 1 1 (fun i => [[D.int .i64 0]].getD i []) .full,nilS 1]
  else if k = 2 then .agg [.int .i64 2,nilS 1,.sl 1 1 (fun i => [[D.int .i64 32]].getD i []) .full,nilS 1]
  else if k = 3 then .agg [.int .i64 3,nilS 1,nilS 1,.sl 4 1 (fun i => [[D.int .i64 1,.sl 1 1 (fun i => [[D.int .i64 0]].getD i []) .full,nilS 1,nilS 1]].getD i []) .full]
  else .agg [.int .i64 0,nilS 1,nilS 1,nilS 1]
noncomputable def Efl:Senv := EC conAr 20 3 [4,5,9,13] (fun _ => ([],[]))
noncomputable section
def fi1q0:D := D.sl N1 N0 (fun (_x:Nat) => []) Mode.nil
def fi1q1:D := D.sl N1 N1 (fun (i:Nat) => List.getD [[ZI Z0]] i []) Mode.full
def fi1q2:List D := [fi1q0]
def fi1q3 (p0:Int):D := fillD p0
def fi1q4:List D := fi1q0 :: fi1q2
end
theorem fill_ok (k : Int) (ns nn ni : Nat) (f g h : Nat → List D) :
    ACalls Tryz.prog 99 [.agg [.int .i64 k,.sl 1 ns f .any,.sl 1 nn g .any,.sl 4 ni h .any]] ⟨[],[]⟩ (SpecR (sC [.agg [.int .i64 k,.sl 1 ns f .any,.sl 1 nn g .any,.sl 4 ni h .any]] (fillD k)) ()) := by
  refine con_of (A := sC _ _) (x := ()) (E := Efl) (eOk conAr_ok rfl) Tryz.func99 rfl (by kernel_rfl) rfl (by simp [sC,Efl,EC,E0]) ?_
  refine vc_eq (T :=
    ∀ (x:Nat),True→∀ (x_1:Nat),x ≠ x_1∧True→SM x∧ifB (k == Z1) (SM x_1∧(SM x_1∧True)∧∃ (y:Unit),True∧weakD (D.agg (ZI Z1 :: fi1q0 :: fi1q1 :: fi1q2)) (fi1q3 k)∧True∧True) (ifB (k == (2:Int)) (SM x_1∧(SM x_1∧True)∧∃ (y:Unit),True∧weakD (D.agg (ZI (2:Int) :: fi1q0 :: D.sl N1 N1 (fun (i:Nat) => List.getD [[ZI (32:Int)]] i []) Mode.full :: fi1q2)) (fi1q3 k)∧True∧True) (ifB (k == (3:Int)) (SM x_1∧(SM x_1∧True)∧∃ (y:Unit),True∧weakD (D.agg [ZI (3:Int),fi1q0,fi1q0,D.sl N4 N1 (fun (i:Nat) => List.getD [ZI Z1 :: fi1q1 :: fi1q4] i []) Mode.full]) (fi1q3 k)∧True∧True) (SM x_1∧(SM x_1∧True)∧∃ (y:Unit),True∧weakD (D.agg (ZI Z0 :: fi1q0 :: fi1q4)) (fi1q3 k)∧True∧True)))) (by kernel_rfl) ?_
  delta N0 N1 N4 SM Z0 Z1 ZI fi1q0 fi1q1 fi1q2 fi1q3 fi1q4
  simp only [ifB_iff,true_and,and_true,beq_iff_eq,beq_eq_false_iff_ne,ne_eq,exists_const,forall_const]
  intro _ _ _
  refine ⟨fun h => ?_,fun h1 => ⟨fun h => ?_,fun h2 => ⟨fun h => ?_,fun h3 => ?_⟩⟩⟩
  · subst h; exact weakD_refl _
  · subst h; exact weakD_refl _
  · subst h; exact weakD_refl _
  · simp only [fillD,if_neg h1,if_neg h2,if_neg h3]; exact weakD_refl _
theorem wk_nil {α:Type} [Inhabited α] (w:Nat) (g:α→List D):wkD (nilS 1) (gsl w g []) := by
  simp [nilS,gsl,wkD,chk,weakM,nilMB]
theorem wk_nilI:wkD (nilS 1) (isl [] .any) := by
  simp [nilS,isl,wkD,chk,weakM]
theorem wk_nil4:wkD (nilS 1) (.sl 4 ([]:List (List D)).length (fun i => ([]:List (List D)).getD i []) .any) := by
  simp [nilS,wkD,chk,weakM,nilMB]
theorem wk_one (z:Int):wkD (.sl 1 1 (fun i => [[D.int .i64 z]].getD i []) .full) (isl [z] .any) := by
  simp only [isl,wkD,chk_iff]
  refine ⟨by simp,by simp,fun i hi => ?_,by simp [weakM]⟩
  have:i = 0 := by omega
  subst this
  exact wkL_refl _
theorem fill_wk (k:Int):wkD (fillD k) (.agg (fillA k).row1) := by
  unfold fillD fillA
  split
  · simp only [wkD,wkL,Arr.row1,Arr.k,Arr.sh,Arr.nu,Arr.it]
    exact ⟨weakD_refl _,wk_nilI,wk_one _,wk_nil _ _,trivial⟩
  split
  · simp only [wkD,wkL,Arr.row1,Arr.k,Arr.sh,Arr.nu,Arr.it]
    exact ⟨weakD_refl _,wk_nilI,wk_one _,wk_nil _ _,trivial⟩
  split
  · simp only [wkD,wkL,Arr.row1,Arr.k,Arr.sh,Arr.nu,Arr.it]
    refine ⟨weakD_refl _,wk_nilI,wk_nilI,?_,trivial⟩
    simp only [gsl,wkD,chk_iff]
    refine ⟨by simp,by simp,fun i hi => ?_,by simp [weakM]⟩
    have:i = 0 := by omega
    subst this
    simp only [List.getD_cons_zero,Arr.row,wkL,wkD,rowsL]
    exact ⟨weakD_refl _,wk_one _,wk_nilI,wk_nil4,trivial⟩
  · simp only [wkD,wkL,Arr.row1,Arr.k,Arr.sh,Arr.nu,Arr.it]
    exact ⟨weakD_refl _,wk_nilI,wk_nilI,wk_nil _ _,trivial⟩
theorem wkRet {k:Nat} {ds:List D} {d d':D} (h:ACalls Tryz.prog k ds ⟨[],[]⟩ (SpecR (sC ds d) ())) (hw:wkD d d'):ACalls Tryz.prog k ds ⟨[],[]⟩ (SpecR (sC ds d') ()) := by
  refine ACalls.wkEnd h fun r S' ⟨y,q1,q2,q3⟩ => ?_
  subst q2 q3
  refine ⟨.ret d',fun C e he => ?_,⟨(),trivial,rfl,rfl⟩⟩
  cases e with
  | returned v => exact wkD_weak d d' hw C v he
  | panicked _ => exact he.elim
  | outgrown => exact he.elim
end Go.Proofs.YtflbmbkhjcbhoaaGreatDoor
namespace Go.Proofs.YtflbmbkhjcbhoaaGreatDoor
open Go Go.Ab
set_option maxRecDepth 100000
def atA (a:Arr) (i:Nat):Arr := if a.k = 3 then .mk 3 [] [] [a.it.getD i default] else .mk a.k [] [a.nu.getD i 0] []
def atD (a:Arr) (i:Nat):D :=
  if a.k = 3 then .agg [.int .i64 a.k,nilS 1,nilS 1,.sl 4 1 (fun j => [(a.it.getD i default).row1].getD j []) .full]
  else .agg [.int .i64 a.k,nilS 1,.sl 1 1 (fun j => [[D.int .i64 (a.nu.getD i 0)]].getD j []) .full,nilS 1]
noncomputable def Eat (a:Arr):Senv := EC (conCl a.it) 36 3 [4,12,16] (fun id => match id with | 4 => ([0,1,2,3,4,5,6,7,8,9,10],[7,8,10]) | 5 => ([0,1,2,3,4,5,6,7,8,9],[7,9]) | _ => ([],[]))
noncomputable section
def at1q0 (p0:Arr):Int := Arr.k p0
def at1q1 (p0:Arr):List Int := Arr.nu p0
def at1q2 (p0:Arr):Nat := LN (at1q1 p0)
def at1q3:D := D.sl N1 N0 (fun (_x:Nat) => []) Mode.nil
def at1q4:List D := [at1q3]
def at1q5 (p0:Nat) (p1:Arr) (p2:Nat):Prop := SM p0∧(SM p0∧True)∧∃ (_y:Unit),True∧weakD (D.agg (ZI Z0 :: at1q3 :: at1q3 :: at1q4)) (atD p1 p2)∧True∧True
def at1q6 (p0:Arr):List Arr := Arr.it p0
def at1q7 (p0:Arr):Nat := LN (at1q6 p0)
def at1q8:Arr := DA
def at1q9 (p0:Arr) (p1:Nat):Arr := List.getD (at1q6 p0) (Int.toNat (↑p1:Int)) at1q8
def at1q10 (p0:Arr) (p1:Nat):List Int := Arr.sh (at1q9 p0 p1)
def at1q11 (p0:Arr) (p1:Nat):Nat := LN (at1q10 p0 p1)
def at1q12 (p0:Arr) (p1:Nat):List D := [ZI (GI (Arr.sh p0) p1)]
def at1q13 (p0:Arr) (p1:Nat):List Int := Arr.nu (at1q9 p0 p1)
def at1q14 (p0:Arr) (p1:Nat):Nat := LN (at1q13 p0 p1)
def at1q15 (p0:Arr) (p1:Nat):List D := [ZI (GI (at1q1 p0) p1)]
def at1q16 (p0:Arr) (p1:Nat):List Arr := Arr.it (at1q9 p0 p1)
def at1q17 (p0:Arr) (p1:Nat):Nat := LN (at1q16 p0 p1)
def at1q18 (p0:Arr) (p1:Nat):List D := Arr.row (List.getD (at1q6 p0) p1 at1q8)
def at1q19 (p0:Arr):D := ZI (at1q0 p0)
def at1q20 (p0:Nat) (p1:Arr):Prop := SM p0∧SM (at1q19 p1)
def at1q21 (p0:Nat) (p1:Arr) (p2 p3:Nat):Prop := SM p0∧ifB (at1q0 p1 == (3:Int)) (SM p0∧SM p0∧side (Z0 ≤ (↑p2:Int)∧(↑p2:Int) < (NI (at1q7 p1))) (∃ (x:Arr),((Arr.k (at1q9 p1 p2) = at1q0 x∧(at1q11 p1 p2 = LN (Arr.sh x)∧(∀ (i:Nat),i < at1q11 p1 p2→[ZI (GI (at1q10 p1 p2) i)] = at1q12 x i)∧True)∧(at1q14 p1 p2 = at1q2 x∧(∀ (i:Nat),i < at1q14 p1 p2→[ZI (GI (at1q13 p1 p2) i)] = at1q15 x i)∧True)∧(at1q17 p1 p2 = at1q7 x∧(∀ (i:Nat),i < at1q17 p1 p2→Arr.row (List.getD (at1q16 p1 p2) i at1q8) = at1q18 x i)∧True)∧True)∧True)∧(True∧True)∧x ∈ at1q6 p1∧∀ (_y:Unit),True→at1q20 p0 p1∧at1q20 p0 p1∧SM p3∧(SM p3∧True)∧∃ (_y:Unit),True∧weakD (D.agg [at1q19 p1,at1q3,at1q3,D.sl N4 N1 (fun (i:Nat) => List.getD [[at1q19 x,D.sl N1 (LN (Arr.sh x)) (fun (i:Nat) => at1q12 x i) Mode.any,D.sl N1 (at1q2 x) (fun (i:Nat) => at1q15 x i) Mode.any,D.sl N4 (at1q7 x) (fun (i:Nat) => at1q18 x i) Mode.any]] i []) Mode.full]) (atD p1 p2)∧True∧True)) (SM p0∧SM p0∧side (Z0 ≤ (↑p2:Int)∧(↑p2:Int) < (NI (at1q2 p1))) (at1q20 p0 p1∧SM p3∧(SM p3∧True)∧∃ (_y:Unit),True∧weakD (D.agg (at1q19 p1 :: at1q3 :: D.sl N1 N1 (fun (i:Nat) => List.getD [[ZI (GI (at1q1 p1) (Int.toNat (↑p2:Int)))]] i []) Mode.full :: at1q4)) (atD p1 p2)∧True∧True))
def at1q22 (p0:Nat) (p1:Arr) (p2 p3 p4:Nat):Prop := SM p0∧True∧ifB (decide ((NI (at1q2 p1)) ≤ (↑p2:Int))) (at1q5 p3 p1 p2) (at1q21 p4 p1 p2 p3)
def at1q23 (p0:Arr) (p1 p2 p3 p4:Nat):Prop := ifB (at1q0 p0 == (3:Int)) (SM p1∧True∧ifB (decide ((NI (at1q7 p0)) ≤ (↑p2:Int))) (at1q5 p3 p0 p2) (at1q21 p4 p0 p2 p3)) (True∧at1q5 p3 p0 p2)
end
theorem at_step (a : Arr) (i : Nat) (hk : a.k = 1 ∨ a.k = 2 ∨ a.k = 3) (hi : (i : Int) < sizeR a.k a.nu.length a.it.length) (hc : ConOk Tryz.prog (conCl a.it)) :
    ACalls Tryz.prog 100 [.agg a.row2,.int .i64 i] ⟨[],[]⟩ (SpecR (sC [.agg a.row2,.int .i64 i] (atD a i)) ()) := by
  refine con_of (A := sC _ _) (x := ()) (E := Eat a) (eOk hc rfl) Tryz.func100 rfl (by kernel_rfl) rfl (by simp [sC,Eat,EC,E0]) ?_
  refine vc_eq (T :=
    ∀ (x:Nat),True→∀ (x_1:Nat),x ≠ x_1∧True→SM x∧∀ (x_2:Nat),x_1 ≠ x_2∧x ≠ x_2∧True→SM x_2∧ifB (at1q0 a == Z1) (ifB (at1q0 a == Z1) (at1q22 x_2 a i x_1 x) (at1q23 a x_2 i x_1 x)) (ifB (at1q0 a == (2:Int)) (at1q22 x_2 a i x_1 x) (at1q23 a x_2 i x_1 x))) (by kernel_rfl) ?_
  delta DA GI LN N0 N1 N4 NI SM Z0 Z1 ZI at1q0 at1q1 at1q10 at1q11 at1q12 at1q13 at1q14 at1q15 at1q16 at1q17 at1q18 at1q19 at1q2 at1q20 at1q21 at1q22 at1q23 at1q3 at1q4 at1q5 at1q6 at1q7 at1q8 at1q9
  have da:(default:Arr) = Arr.mk 0 [] [] [] := rfl
  simp only [← da,ifB_iff,side_iff,decide_eq_true_eq,decide_eq_false_iff_not,true_and,and_true,beq_iff_eq,beq_eq_false_iff_ne,ne_eq,exists_const,forall_const,Int.toNat_natCast]
  have h12:a.k ≠ 3→i < a.nu.length := fun h3 => by
    have h:a.k = 1∨a.k = 2 := by omega
    rw [sizeR,if_pos h] at hi; omega
  have h3:a.k = 3→i < a.it.length := fun h3 => by
    rw [sizeR,if_neg (by omega),if_pos h3] at hi; omega
  clear hi
  repeat' (first | intro _ | refine And.intro ?_ ?_)
  all_goals first
    | omega
    | (exfalso; omega)
    | exact ⟨a.it.getD i default,⟨rfl,⟨rfl,fun _ _ => rfl⟩,⟨rfl,fun _ _ => rfl⟩,rfl,fun _ _ => rfl⟩,mem_getD (by omega),by rw [atD,if_pos (by assumption)]; exact weakD_refl _⟩
    | (rw [atD,if_neg (by omega)]; exact weakD_refl _)
theorem at_wk (a:Arr) (i:Nat):wkD (atD a i) (.agg (atA a i).row1) := by
  unfold atD atA
  split
  · rename_i h3
    rw [h3]
    simp only [wkD,wkL,Arr.row1]
    refine ⟨weakD_refl _,wk_nilI,wk_nilI,?_,trivial⟩
    simp only [gsl,wkD,chk_iff]
    refine ⟨by simp,by simp [Arr.it],fun j hj => ?_,by simp [weakM]⟩
    have:j = 0 := by omega
    subst this
    simp only [List.getD_cons_zero,Arr.it]
    exact row1_row _
  · simp only [wkD,wkL,Arr.row1]
    exact ⟨weakD_refl _,wk_nilI,wk_one _,wk_nil _ _,trivial⟩
theorem form_kind {k:Int} {s:List Int} {nn ni:Nat} (h:formS k s nn ni = 0):k = 1∨k = 2∨k = 3 := by
  unfold formS at h
  by_cases hk:k = 1∨k = 2∨k = 3
  · exact hk
  · rw [if_neg hk] at h; simp at h
theorem chk_form {a:Arr} (h:(chkA a).1 = 0):formS a.k a.sh a.nu.length a.it.length = 0 := by
  cases a with
  | mk k s n is =>
    rw [chkA] at h
    by_cases h0:formS k s n.length is.length ≠ 0
    · rw [if_pos h0] at h; exact (h0 h).elim
    · exact Decidable.not_not.1 h0
theorem conCl_ok {a:Arr} (h:(chkA a).1 = 0):ConOk Tryz.prog (conCl a.it) := by
  intro k' ds S A hk
  unfold conCl at hk
  split at hk
  · injection hk with hk; subst hk
    refine ConOk.plain (fun (b:Arr) hb => ?_) rfl rfl
    cases a with
    | mk k s n is => exact (cl_all b ((chkA_zero h).2.2.2 b hb)).mono fun _ _ ⟨y,q1,q2,q3⟩ => ⟨y,q1,q2,q3⟩
  · cases hk
end Go.Proofs.YtflbmbkhjcbhoaaGreatDoor
namespace Go.Proofs.YtflbmbkhjcbhoaaGreatDoor
open Go Go.Ab
set_option maxRecDepth 100000
def utf8 (c:Int):List UInt8 := (Utf8.encode c).data.toList
def escB (c q:Int):List UInt8 :=
  if c = 10 then [92,110] else if c = 9 then [92,116] else if c = 13 then [92,114] else if c = 92∨c = q then 92 :: utf8 c
  else if c < 32∨c = 127 then [92,117,123] ++ hexN c.toNat ++ [125] else utf8 c
theorem utf8_len (c:Int):(utf8 c).length ≤ 4 := by
  have : ∀ c : Nat, ((if c < 0x80 then ⟨#[UInt8.ofNat c]⟩
      else if c < 0x800 then ⟨#[UInt8.ofNat (0xC0 + c / 64),UInt8.ofNat (0x80 + c % 64)]⟩
      else if c < 0x10000 then ⟨#[UInt8.ofNat (0xE0 + c / 4096),UInt8.ofNat (0x80 + c / 64 % 64),UInt8.ofNat (0x80 + c % 64)]⟩
      else ⟨#[UInt8.ofNat (0xF0 + c / 262144),UInt8.ofNat (0x80 + c / 4096 % 64),UInt8.ofNat (0x80 + c / 64 % 64),UInt8.ofNat (0x80 + c % 64)]⟩:ByteArray).data.toList).length ≤ 4 := fun c => by
    (repeat' split) <;> simp
  exact this _
theorem hexN_len (n:Nat):(hexN n).length ≤ 2 := by unfold hexN; split <;> simp
def conEs0:Con := fun k ds S => match k with
  | 127 => match ds with
    | [.int .i64 n,.int .i64 16] => some (pC [.int .i64 n,.int .i64 16] (.str (hexN n.toNat)) (0 ≤ n∧n < 128))
    | _ => none
  | k => conNu k ds S
theorem conEs0_ok:ConOk Tryz.prog conEs0 := by
  intro k ds S A h
  unfold conEs0 at h
  split at h
  · split at h
    · injection h with h; subst h
      exact pC_ok fun h1 => ⟨weakL_refl _,hex_ok _ h1⟩
    · cases h
  · exact conNu_ok _ _ _ _ h
noncomputable def Ees:Senv := EC conEs0 32 2 [4,5,6,8,10,12,24] (fun _ => ([],[]))
noncomputable section
def fm3q0 (p0 p1:Int):List UInt8 := escB p0 p1
def fm3q1 (p0:Int):List UInt8 := Array.toList (ByteArray.data (Utf8.encode p0))
def fm3q2 (p0 p1:Int):Prop := side (N1 + LN (fm3q1 p0) ≤ (9223372036854775807:Nat)) (True∧∃ (_y:Unit),True∧(92:UInt8) :: List.append [] (fm3q1 p0) = fm3q0 p0 p1∧True∧True)
def fm3q3 (p0:Int):Bool := bif decide (p0 < (32:Int)) then true else p0 == (127:Int)
def fm3q4 (p0:Int):List UInt8 := hexN (Int.toNat (IntKind.wrap IntKind.i64 p0))
def fm3q5 (p0:Int):List UInt8 := List.append [] (fm3q4 p0)
def fm3q6 (p0 p1:Int):Prop := ifB (decide (p0 < (32:Int))) (true = fm3q3 p0∧True) ((p0 == (127:Int)) = fm3q3 p0∧True)∧ifB (fm3q3 p0) ((Z0 ≤ IntKind.wrap IntKind.i64 p0∧IntKind.wrap IntKind.i64 p0 < (128:Int))∧∀ (_y:Unit),True→side ((3:Nat) + LN (fm3q4 p0) ≤ (9223372036854775807:Nat)) (side (LN ((92:UInt8) :: (117:UInt8) :: (123:UInt8) :: fm3q5 p0) + N1 ≤ (9223372036854775807:Nat)) (True∧∃ (_y:Unit),True∧(92:UInt8) :: (117:UInt8) :: (123:UInt8) :: List.append (fm3q5 p0) [(125:UInt8)] = fm3q0 p0 p1∧True∧True))) (True∧∃ (_y:Unit),True∧fm3q1 p0 = fm3q0 p0 p1∧True∧True)
end
theorem esc_ok (c q:Int) (h:0 ≤ c∧c ≤ 1114111):ACalls Tryz.prog 113 [.int .i32 c,.int .i32 q] ⟨[],[]⟩ (SpecR (sC [.int .i32 c,.int .i32 q] (.str (escB c q))) ()) := by
  refine con_of (A := sC _ _) (x := ()) (E := Ees) (eOk conEs0_ok rfl) Tryz.func113 rfl (by kernel_rfl) rfl (by simp [sC,Ees,EC,E0]) ?_
  refine vc_eq (T :=
    ifB (c == (10:Int)) (True∧∃ (y:Unit),True∧[(92:UInt8),(110:UInt8)] = fm3q0 c q∧True∧True) (ifB (c == (9:Int)) (True∧∃ (y:Unit),True∧[(92:UInt8),(116:UInt8)] = fm3q0 c q∧True∧True) (ifB (c == (13:Int)) (True∧∃ (y:Unit),True∧[(92:UInt8),(114:UInt8)] = fm3q0 c q∧True∧True) (ifB (c == (92:Int)) (ifB (c == (92:Int)) (fm3q2 c q) (fm3q6 c q)) (ifB (c == q) (fm3q2 c q) (fm3q6 c q)))))) (by kernel_rfl) ?_
  delta LN N1 Z0 fm3q0 fm3q1 fm3q2 fm3q3 fm3q4 fm3q5 fm3q6
  have e:IntKind.i64.wrap c = c := wrap_i64' (by omega) (by omega)
  have l1 := utf8_len c
  have l2 := hexN_len c.toNat
  unfold utf8 at l1
  have a1:∀ l:List UInt8,[].append l = l := fun _ => rfl
  have a2:∀ l r:List UInt8,l.append r = l ++ r := fun _ _ => rfl
  simp only [a1,a2,ifB_iff,side_iff,e,beq_iff_eq,beq_eq_false_iff_ne,decide_eq_true_eq,decide_eq_false_iff_not,Bool.cond_true_left,Bool.or_eq_true,Bool.or_eq_false_iff,true_and,and_true,exists_const,forall_const,List.length_cons]
  refine ⟨fun h => by subst h; rfl,fun h1 => ⟨fun h => by subst h; rfl,fun h2 => ⟨fun h => by subst h; rfl,fun h3 => ⟨fun h4 => ⟨fun _ => ⟨by omega,?_⟩,fun hh => (hh h4).elim⟩,fun h4 => ⟨fun h5 => ⟨by omega,?_⟩,fun h5 => ⟨⟨fun h => by simp [h],fun h => by simp [h]⟩,fun h6 => ⟨by omega,by omega,by omega,?_⟩,fun h6 => ?_⟩⟩⟩⟩⟩⟩
  · unfold escB; rw [if_neg h1,if_neg h2,if_neg h3,if_pos (.inl h4)]; rfl
  · unfold escB; rw [if_neg h1,if_neg h2,if_neg h3,if_pos (.inr h5)]; rfl
  · unfold escB; rw [if_neg h1,if_neg h2,if_neg h3,if_neg (by omega),if_pos h6]; rfl
  · unfold escB; rw [if_neg h1,if_neg h2,if_neg h3,if_neg (by omega),if_neg (by omega)]; rfl
theorem dig16:∀ k,k < 16→List.drop k (List.take (k + 1) ([48,49,50,51,52,53,54,55,56,57,97,98,99,100,101,102]:List UInt8)) = [digU k] := by decide
noncomputable def Erh1:Senv := EC con0 22 1 [2,3,5] (fun id => match id with | 4 => ([0,1,3,4,5,6,7,8,9,2,10,11],[2]) | _ => ([],[]))
theorem rhex1 (n:Int) (h:0 ≤ n∧n < 16):ACalls Tryz.prog 133 [.int .i64 n] ⟨[],[]⟩ (SpecR (sC [.int .i64 n] (.str [digU n.toNat])) ()) := by
  refine con_of (A := sC _ _) (x := ()) (E := { Erh1 with inl := fun _ _ _ _ => False }) ⟨tab_ok,con0_ok,mix,fun _ _ _ _ h => h.elim,eqs_ok⟩ Tryz.func133 rfl (by kernel_rfl) rfl (by simp [sC,Erh1,EC,E0]) ?_
  refine vc_eq (T :=
    ifB (decide (n < (16:Int))) (side (Z0 ≤ n∧n ≤ IntKind.wrap IntKind.i64 (n + Z1)∧IntKind.wrap IntKind.i64 (n + Z1) ≤ (16:Int)) (True∧∃ (y:Unit),True∧List.drop (Int.toNat n) (List.take (Int.toNat (IntKind.wrap IntKind.i64 (n + Z1))) [(48:UInt8),(49:UInt8),(50:UInt8),(51:UInt8),(52:UInt8),(53:UInt8),(54:UInt8),(55:UInt8),(56:UInt8),(57:UInt8),(97:UInt8),(98:UInt8),(99:UInt8),(100:UInt8),(101:UInt8),(102:UInt8)]) = [digU (Int.toNat n)]∧True∧True)) (side (Z0 ≤ Int.tmod n (16:Int)∧Int.tmod n (16:Int) ≤ IntKind.wrap IntKind.i64 (Int.tmod n (16:Int) + Z1)∧IntKind.wrap IntKind.i64 (Int.tmod n (16:Int) + Z1) ≤ (16:Int)) False)) (by kernel_rfl) ?_
  delta Z0 Z1
  rw [ifB_iff]
  refine ⟨fun _ => ?_,fun h1 => absurd h.2 (by simpa using h1)⟩
  rw [side_iff,wrap_i64' (by omega) (by omega)]
  refine ⟨by omega,trivial,(),trivial,?_,trivial,trivial⟩
  rw [show (n + 1).toNat = n.toNat + 1 by omega]
  exact dig16 _ (by omega)
def conRh:Con := fun k ds S => match k with
  | 133 => match ds with
    | [.int .i64 n] => some (pC [.int .i64 n] (.str [digU n.toNat]) (0 ≤ n∧n < 16))
    | _ => none
  | k => conEs0 k ds S
theorem conRh_ok:ConOk Tryz.prog conRh := by
  intro k ds S A h
  unfold conRh at h
  split at h
  · split at h
    · injection h with h; subst h
      exact pC_ok fun h1 => ⟨weakL_refl _,rhex1 _ h1⟩
    · cases h
  · exact conEs0_ok _ _ _ _ h
noncomputable def Erh2:Senv := EC conRh 22 1 [2,3,5] (fun id => match id with | 4 => ([0,1,3,4,5,6,7,8,9,2,10,11],[2]) | _ => ([],[]))
noncomputable section
def fm3q7:List UInt8 := [(48:UInt8),(49:UInt8),(50:UInt8),(51:UInt8),(52:UInt8),(53:UInt8),(54:UInt8),(55:UInt8),(56:UInt8),(57:UInt8),(97:UInt8),(98:UInt8),(99:UInt8),(100:UInt8),(101:UInt8),(102:UInt8)]
def fm3q8 (p0:Int):Int := IntKind.wrap IntKind.i64 (Int.tmod p0 (16:Int) + Z1)
def fm3q9 (p0:Int):List UInt8 := List.drop (Int.toNat (Int.tmod p0 (16:Int))) (List.take (Int.toNat (fm3q8 p0)) fm3q7)
end
theorem rhex_ok (n:Int) (h:0 ≤ n∧n < 128):ACalls Tryz.prog 133 [.int .i64 n] ⟨[],[]⟩ (SpecR (sC [.int .i64 n] (.str (hexN n.toNat))) ()) := by
  refine con_of (A := sC _ _) (x := ()) (E := Erh2) (eOk conRh_ok rfl) Tryz.func133 rfl (by kernel_rfl) rfl (by simp [sC,Erh2,EC,E0]) ?_
  refine vc_eq (T :=
    ifB (decide (n < (16:Int))) (side (Z0 ≤ n∧n ≤ IntKind.wrap IntKind.i64 (n + Z1)∧IntKind.wrap IntKind.i64 (n + Z1) ≤ (16:Int)) (True∧∃ (y:Unit),True∧List.drop (Int.toNat n) (List.take (Int.toNat (IntKind.wrap IntKind.i64 (n + Z1))) fm3q7) = hexN (Int.toNat n)∧True∧True)) (side (Z0 ≤ Int.tmod n (16:Int)∧Int.tmod n (16:Int) ≤ fm3q8 n∧fm3q8 n ≤ (16:Int)) ((Z0 ≤ IntKind.wrap IntKind.i64 (Int.tdiv n (16:Int))∧IntKind.wrap IntKind.i64 (Int.tdiv n (16:Int)) < (16:Int))∧∀ (y:Unit),True→side (N1 + LN (fm3q9 n) ≤ (9223372036854775807:Nat)) (True∧∃ (y:Unit),True∧digU (Int.toNat (IntKind.wrap IntKind.i64 (Int.tdiv n (16:Int)))) :: List.append [] (fm3q9 n) = hexN (Int.toNat n)∧True∧True)))) (by kernel_rfl) ?_
  delta LN N1 Z0 Z1 fm3q7 fm3q8 fm3q9
  rw [ifB_iff]
  have ho:n.tmod 16 = ((n.toNat % 16:Nat):Int) := by
    obtain ⟨m,rfl⟩:∃ m:Nat,n = m := ⟨n.toNat,by omega⟩
    rfl
  have hd:n.tdiv 16 = ((n.toNat / 16:Nat):Int) := by
    obtain ⟨m,rfl⟩:∃ m:Nat,n = m := ⟨n.toNat,by omega⟩
    rfl
  refine ⟨fun h1 => ?_,fun h1 => ?_⟩
  · have h1:n < 16 := by simpa using h1
    rw [side_iff,wrap_i64' (by omega) (by omega)]
    refine ⟨by omega,trivial,(),trivial,?_,trivial,trivial⟩
    rw [show (n + 1).toNat = n.toNat + 1 by omega,dig16 _ (by omega)]
    unfold hexN; rw [if_pos (by omega)]
  · have h1:¬ n < 16 := by simpa using h1
    have e1:IntKind.i64.wrap (((n.toNat % 16:Nat):Int) + 1) = ((n.toNat % 16 + 1:Nat):Int) := by rw [wrap_i64' (by omega) (by omega)]; omega
    have e2:IntKind.i64.wrap ((n.toNat / 16:Nat):Int) = ((n.toNat / 16:Nat):Int) := wrap_i64' (by omega) (by omega)
    rw [ho,hd,e1,e2,side_iff]
    refine ⟨by omega,by omega,fun _ _ => ?_⟩
    rw [Int.toNat_natCast,Int.toNat_natCast,Int.toNat_natCast,dig16 _ (by omega),side_iff]
    refine ⟨by simp,trivial,(),trivial,?_,trivial,trivial⟩
    unfold hexN; rw [if_neg (by omega)]; rfl
def conEs:Con := fun k ds S => match k with
  | 133 => match ds with
    | [.int .i64 n] => some (pC [.int .i64 n] (.str (hexN n.toNat)) (0 ≤ n∧n < 128))
    | _ => none
  | 113 => match ds with
    | [.int .i32 c,.int .i32 q] => some (pC [.int .i32 c,.int .i32 q] (.str (escB c q)) (0 ≤ c∧c ≤ 1114111))
    | _ => none
  | k => conEs0 k ds S
theorem conEs_ok:ConOk Tryz.prog conEs := by
  intro k ds S A h
  unfold conEs at h
  split at h
  · split at h
    · injection h with h; subst h
      exact pC_ok fun h1 => ⟨weakL_refl _,rhex_ok _ h1⟩
    · cases h
  · split at h
    · injection h with h; subst h
      exact pC_ok fun h1 => ⟨weakL_refl _,esc_ok _ _ h1⟩
    · cases h
  · exact conEs0_ok _ _ _ _ h
noncomputable def Erx:Senv := EC conEs 33 2 [4,5,6,8,10,12,25] (fun _ => ([],[]))
noncomputable section
def fm3q10 (p0 p1:Int):List UInt8 := escB p0 p1
def fm3q11 (p0:Int):List UInt8 := Array.toList (ByteArray.data (Utf8.encode (IntKind.wrap IntKind.i32 p0)))
def fm3q12 (p0 p1:Int):Prop := side (N1 + LN (fm3q11 p0) ≤ (9223372036854775807:Nat)) (True∧∃ (_y:Unit),True∧(92:UInt8) :: List.append [] (fm3q11 p0) = fm3q10 p0 p1∧True∧True)
def fm3q13 (p0:Int):Bool := bif decide (p0 < (32:Int)) then true else p0 == (127:Int)
def fm3q14 (p0:Int):List UInt8 := List.append [] (hexN (Int.toNat p0))
def fm3q15 (p0 p1:Int):Prop := ifB (decide (p0 < (32:Int))) (true = fm3q13 p0∧True) ((p0 == (127:Int)) = fm3q13 p0∧True)∧ifB (fm3q13 p0) ((Z0 ≤ p0∧p0 < (128:Int))∧∀ (_y:Unit),True→side ((3:Nat) + LN (hexN (Int.toNat p0)) ≤ (9223372036854775807:Nat)) (side (LN ((92:UInt8) :: (117:UInt8) :: (123:UInt8) :: fm3q14 p0) + N1 ≤ (9223372036854775807:Nat)) (True∧∃ (_y:Unit),True∧(92:UInt8) :: (117:UInt8) :: (123:UInt8) :: List.append (fm3q14 p0) [(125:UInt8)] = fm3q10 p0 p1∧True∧True))) (True∧∃ (_y:Unit),True∧fm3q11 p0 = fm3q10 p0 p1∧True∧True)
end
theorem rchar_ok (c q:Int) (h:0 ≤ c∧c ≤ 1114111):ACalls Tryz.prog 120 [.int .i64 c,.int .i64 q] ⟨[],[]⟩ (SpecR (sC [.int .i64 c,.int .i64 q] (.str (escB c q))) ()) := by
  refine con_of (A := sC _ _) (x := ()) (E := Erx) (eOk conEs_ok rfl) Tryz.func120 rfl (by kernel_rfl) rfl (by simp [sC,Erx,EC,E0]) ?_
  refine vc_eq (T :=
    ifB (c == (10:Int)) (True∧∃ (y:Unit),True∧[(92:UInt8),(110:UInt8)] = fm3q10 c q∧True∧True) (ifB (c == (9:Int)) (True∧∃ (y:Unit),True∧[(92:UInt8),(116:UInt8)] = fm3q10 c q∧True∧True) (ifB (c == (13:Int)) (True∧∃ (y:Unit),True∧[(92:UInt8),(114:UInt8)] = fm3q10 c q∧True∧True) (ifB (c == (92:Int)) (ifB (c == (92:Int)) (fm3q12 c q) (fm3q15 c q)) (ifB (c == q) (fm3q12 c q) (fm3q15 c q)))))) (by kernel_rfl) ?_
  delta LN N1 Z0 fm3q10 fm3q11 fm3q12 fm3q13 fm3q14 fm3q15
  have e:IntKind.i32.wrap c = c := by rw [IntKind.wrap_i32]; omega
  have l1 := utf8_len c
  have l2 := hexN_len c.toNat
  unfold utf8 at l1
  have a1:∀ l:List UInt8,[].append l = l := fun _ => rfl
  have a2:∀ l r:List UInt8,l.append r = l ++ r := fun _ _ => rfl
  simp only [a1,a2,ifB_iff,side_iff,e,beq_iff_eq,beq_eq_false_iff_ne,decide_eq_true_eq,decide_eq_false_iff_not,Bool.cond_true_left,Bool.or_eq_true,Bool.or_eq_false_iff,true_and,and_true,exists_const,forall_const,List.length_cons]
  refine ⟨fun h => by subst h; rfl,fun h1 => ⟨fun h => by subst h; rfl,fun h2 => ⟨fun h => by subst h; rfl,fun h3 => ⟨fun h4 => ⟨fun _ => ⟨by omega,?_⟩,fun hh => (hh h4).elim⟩,fun h4 => ⟨fun h5 => ⟨by omega,?_⟩,fun h5 => ⟨⟨fun h => by simp [h],fun h => by simp [h]⟩,fun h6 => ⟨by omega,by omega,by omega,?_⟩,fun h6 => ?_⟩⟩⟩⟩⟩⟩
  · unfold escB; rw [if_neg h1,if_neg h2,if_neg h3,if_pos (.inl h4)]; rfl
  · unfold escB; rw [if_neg h1,if_neg h2,if_neg h3,if_pos (.inr h5)]; rfl
  · unfold escB; rw [if_neg h1,if_neg h2,if_neg h3,if_neg (by omega),if_pos h6]; rfl
  · unfold escB; rw [if_neg h1,if_neg h2,if_neg h3,if_neg (by omega),if_neg (by omega)]; rfl
end Go.Proofs.YtflbmbkhjcbhoaaGreatDoor
namespace Go.Proofs.YtflbmbkhjcbhoaaGreatDoor
open Go Go.Ab
theorem bytesOf_bsl (l:List UInt8):bytesOf l.length (fun i => [.int .u8 ((l.getD i 0).toNat:Int)]) = l := by
  apply List.ext_getElem
  · simp [bytesOf]
  · intro i h1 h2
    simp only [bytesOf,List.getElem_map,List.getElem_range,rowByte,Ab.byteOf,List.getD_eq_getElem?_getD,List.getElem?_eq_getElem h2,Option.getD_some,Int.toNat_natCast,UInt8.ofNat_toNat]
theorem rowsB_bsl (l:List UInt8):rowsB l.length (fun i => [.int .u8 ((l.getD i 0).toNat:Int)]) = true := by
  simp only [rowsB,List.all_eq_true,List.mem_range]
  intro i _
  have := (l.getD i 0).toNat_lt
  simp only [rowB,Ab.byteB,Bool.and_eq_true,decide_eq_true_eq]; omega
theorem bsl_weak {n:Nat} {g:Nat→List D} {m:Ab.Mode} (h:rowsB n g = true):weakD (.sl 1 n g m) (bsl (bytesOf n g) m) := by
  simp only [bsl,weakD,chk_iff]
  refine ⟨by simp,by simp [bytesOf],fun i hi => ?_,weakM_refl m⟩
  have hb:rowB (g i) = true := List.all_eq_true.1 h i (List.mem_range.2 hi)
  have hg:(bytesOf n g).getD i 0 = rowByte (g i) := by simp [bytesOf,List.getD_eq_getElem?_getD,hi]
  rw [hg]
  unfold rowB at hb
  split at hb
  · rename_i d hd
    rw [hd]
    have := byteB_eq hb
    simp only [rowByte]
    rw [← this]
  · cases hb
theorem app_bsl (l r:List UInt8) {i:Nat} (_hi:i < l.length + r.length):appF l.length (fun i => [D.int .u8 ((l.getD i 0).toNat:Int)]) (fun i => [D.int .u8 ((r.getD i 0).toNat:Int)]) i = [D.int .u8 (((l ++ r).getD i 0).toNat:Int)] := by
  simp only [appF]
  split
  · rename_i hlt
    simp [List.getD_eq_getElem?_getD,List.getElem?_append_left hlt]
  · rename_i hge
    simp [List.getD_eq_getElem?_getD,List.getElem?_append_right (Nat.le_of_not_lt hge)]
theorem app_gen {n : Nat} {l r : List UInt8} {F G : Nat → List D} (hn : n = l.length) (hF : ∀ i, i < n → F i = [D.int .u8 ((l.getD i 0).toNat : Int)]) (hG : ∀ i, i < r.length → G i = [D.int .u8 ((r.getD i 0).toNat : Int)]) :
    ∀ i,i < n + r.length→appF n F G i = [D.int .u8 (((l ++ r).getD i 0).toNat:Int)] := by
  intro i hi
  subst hn
  rw [← app_bsl l r hi]
  simp only [appF]
  split
  · exact hF i (by assumption)
  · exact hG _ (by omega)
theorem app_row' {n : Nat} {l : List UInt8} {F : Nat → List D} {z : Int} {b : UInt8} (hn : n = l.length) (hF : ∀ i, i < n → F i = [D.int .u8 ((l.getD i 0).toNat : Int)]) (h : z = (b.toNat : Int)) :
    ∀ i,i < n + 1→appF n F (fun i => [[D.int .u8 z]].getD i []) i = [D.int .u8 (((l ++ [b]).getD i 0).toNat:Int)] := by
  intro i hi
  subst hn
  simp only [appF]
  split
  · rename_i hlt
    rw [hF i hlt]
    simp [List.getD_eq_getElem?_getD,List.getElem?_append_left hlt]
  · have:i = l.length := by omega
    subst this
    simp [List.getD_eq_getElem?_getD,h]
end Go.Proofs.YtflbmbkhjcbhoaaGreatDoor
namespace Go.Proofs.YtflbmbkhjcbhoaaGreatDoor
open Go Go.Ab
set_option maxRecDepth 100000
def escL (q:Int) (l:List Int):List UInt8 := l.flatMap fun c => escB c q
def quoB (q:Int) (l:List Int):List UInt8 := utf8 q ++ escL q l ++ utf8 q
theorem escB_len (c q:Int):(escB c q).length ≤ 6 := by
  have h1 := utf8_len c
  have h2 := hexN_len c.toNat
  unfold escB
  (repeat' split) <;> (try simp only [List.length_cons,List.length_nil,List.length_append]) <;> omega
theorem escL_len (q:Int):∀ l:List Int,(escL q l).length ≤ 6 * l.length
  | [] => by simp [escL]
  | c :: l => by
    have h1 := escB_len c q
    have h2 := escL_len q l
    simp only [escL,List.flatMap_cons,List.length_append,List.length_cons] at h2 ⊢
    omega
theorem escL_cons (q c:Int) (l:List Int):escL q (c :: l) = escB c q ++ escL q l := by simp [escL]
theorem escL_nil (q:Int):escL q [] = [] := rfl
theorem memI {l:List Int} {i:Nat} (h:i < l.length):l.getD i 0 ∈ l := by
  rw [List.getD_eq_getElem?_getD,List.getElem?_eq_getElem h]; simp
structure QHd (q:Int) (l:List Int) (i:Nat) (pre out:List UInt8):Prop where
  hi:i ≤ l.length
  ho:out ++ escL q (l.drop i) = pre ++ escL q l
theorem QHd.init (q:Int) (l:List Int) (pre:List UInt8):QHd q l 0 pre pre := ⟨Nat.zero_le _,by simp⟩
theorem QHd.step {q:Int} {l:List Int} {i:Nat} {pre out:List UInt8} (h:QHd q l i pre out) (hlt:i < l.length):QHd q l (i + 1) pre (out ++ escB (l.getD i 0) q) := by
  refine ⟨by omega,?_⟩
  rw [← h.ho,drop_stepI hlt,escL_cons,List.append_assoc]
theorem QHd.len {q:Int} {l:List Int} {i:Nat} {pre out:List UInt8} (h:QHd q l i pre out):out.length ≤ pre.length + 6 * l.length := by
  have := congrArg List.length h.ho
  have := escL_len q l
  simp only [List.length_append] at *; omega
theorem QHd.done {q:Int} {l:List Int} {i:Nat} {pre out:List UInt8} (h:QHd q l i pre out) (hge:¬ i < l.length):out = pre ++ escL q l := by
  have := h.ho
  rw [List.drop_of_length_le (by omega),escL_nil,List.append_nil] at this
  exact this
noncomputable def Equ (q:Int) (l:List Int):Senv := { EC conEs 27 2 [4,5,7,10,11,12,13] (fun _ => ([],[])) with
  ann := fun b _ _ => match b with
    | 0 => some { slots := [12,5],keep := [0,1,10,11],α := Nat × List UInt8,st := fun y => ([.int .i64 y.1,.str y.2],⟨[],[]⟩),inv := fun y => QHd q l y.1 (utf8 q) y.2,mu := fun y => l.length - y.1 }
    | _ => none }
noncomputable section
def fm4q0 (p0:Int) (p1:List Int) (p2:Nat) (p3:List UInt8):Prop := QHd p0 p1 p2 (utf8 p0) p3
def fm4q1 (p0:Int):List UInt8 := Array.toList (ByteArray.data (Utf8.encode p0))
def fm4q2 (p0:List Int) (p1:Nat):Int := IntKind.wrap IntKind.i32 (GI p0 (Int.toNat (↑p1:Int)))
def fm4q3 (p0:List Int) (p1:Nat) (p2:Int):List UInt8 := escB (fm4q2 p0 p1) p2
def fm4q4 (p0:List Int):D := SI p0
def fm4q5 (p0:List Int):Prop := SM (fm4q4 p0)
end
theorem quo_ok (q:Int) (l:List Int) (hl:l.length ≤ 1099511627776) (hc:∀ c ∈ l,0 ≤ c∧c ≤ 1114111):ACalls Tryz.prog 96 [.int .i32 q,isl l .any] ⟨[],[]⟩ (SpecR (sC [.int .i32 q,isl l .any] (.str (quoB q l))) ()) := by
  refine con_of (A := sC _ _) (x := ()) (E := Equ q l) (eOk conEs_ok rfl) Tryz.func96 rfl (by kernel_rfl) rfl (by simp [sC,Equ,EC,E0]) ?_
  refine vc_eq (T :=
    (∃ (x:Nat × List UInt8),fm4q0 q l x.1 x.2∧(Z0 = (NI x.1)∧fm4q1 q = x.2∧True)∧True∧True)∧∀ (x:Nat × List UInt8),fm4q0 q l x.1 x.2→ifB (decide ((NI x.1) < (LI l))) (side (Z0 ≤ (NI x.1)∧(NI x.1) < (LI l)) ((Z0 ≤ fm4q2 l x.1∧fm4q2 l x.1 ≤ (1114111:Int))∧∀ (y:Unit),True→side (LN x.2 + LN (fm4q3 l x.1 q) ≤ (9223372036854775807:Nat)) ((SM (D.int IntKind.i32 q)∧fm4q5 l∧fm4q5 l∧SM (ZI (LI l))∧True)∧∃ (y:Nat × List UInt8),fm4q0 q l y.1 y.2∧LN l - y.1 < LN l - x.1∧(IntKind.wrap IntKind.i64 ((NI x.1) + Z1) = (NI y.1)∧x.2 ++ fm4q3 l x.1 q = y.2∧True)∧True∧True))) (side (LN x.2 + LN (fm4q1 q) ≤ (9223372036854775807:Nat)) (True∧∃ (y:Unit),True∧x.2 ++ fm4q1 q = quoB q l∧True∧True))) (by kernel_rfl) ?_
  delta GI LI LN N1 NI SI SM Z0 Z1 ZI fm4q0 fm4q1 fm4q2 fm4q3 fm4q4 fm4q5
  have hu:∀ c,(Utf8.encode c).data.toList = utf8 c := fun _ => rfl
  simp only [hu,ifB_iff,side_iff,decide_eq_true_eq,true_and,and_true,exists_const,forall_const,Int.toNat_natCast,eq_self]
  refine ⟨⟨(0,utf8 q),QHd.init _ _ _,rfl,rfl⟩,?_⟩
  rintro ⟨i,out⟩ hh
  simp only at hh ⊢
  have h1 := hh.len
  have h2 := utf8_len q
  refine ⟨fun hlt => ?_,fun hge => ?_⟩
  · have hlt':i < l.length := by omega
    have hci := hc (l.getD i 0) (memI hlt')
    have e:IntKind.i32.wrap (l.getD i 0) = l.getD i 0 := by rw [IntKind.wrap_i32]; omega
    have h3 := escB_len (l.getD i 0) q
    rw [e]
    exact ⟨by omega,hci,by omega,(i + 1,out ++ escB (l.getD i 0) q),hh.step hlt',by simp only; omega,wrap_i64' (by omega) (by omega),rfl⟩
  · have hge':¬ i < l.length := by simpa using hge
    have h3 := escL_len q l
    rw [hh.done hge']
    exact ⟨by simp only [List.length_append]; omega,rfl⟩
def conRc:Con := fun k ds S => match k with
  | 120 => match ds with
    | [.int .i64 c,.int .i64 q] => some (pC [.int .i64 c,.int .i64 q] (.str (escB c q)) (0 ≤ c∧c ≤ 1114111))
    | _ => none
  | k => conEs k ds S
theorem conRc_ok:ConOk Tryz.prog conRc := by
  intro k ds S A h
  unfold conRc at h
  split at h
  · split at h
    · injection h with h; subst h
      exact pC_ok fun h1 => ⟨weakL_refl _,rchar_ok _ _ h1⟩
    · cases h
  · exact conEs_ok _ _ _ _ h
end Go.Proofs.YtflbmbkhjcbhoaaGreatDoor
namespace Go.Proofs.YtflbmbkhjcbhoaaGreatDoor
open Go Go.Ab
set_option maxRecDepth 100000
def ssl (l:List (List UInt8)) (m:Ab.Mode):D := .sl 1 l.length (fun i => [.str (l.getD i [])]) m
theorem join_ok (l : List (List UInt8)) (sep : List UInt8) (hl : l.length ≤ 140737488355328) (hj : (Lib.join l sep).length ≤ 140737488355328) :
    ACalls Tryz.prog 114 [ssl l .any,.str sep] ⟨[],[]⟩ (SpecR (sC [ssl l .any,.str sep] (.str (Lib.join l sep))) ()) := by
  refine ⟨⟨_,Tryz.func114,by kernel_rfl,by kernel_rfl⟩,fun C F args w ha hs => ?_⟩
  obtain ⟨u,v,e,hu,hv⟩ := repL_two' ha
  have e2:args = [u,v].toArray := by rw [← e]
  subst e2
  simp only [Rep] at hv; subst hv
  simp only [ssl,Rep] at hu
  obtain ⟨a,len,cap,rfl,hh,hr⟩ := hu
  have hlen:len = l.length := hh.1
  subst hlen
  have hF:Sat C F w := by simpa [St.add] using hs
  have fin:∀ w' e,e = Ending.returned (.string ⟨(Lib.join l sep).toArray⟩)→Go.RowKit.Below w.heap.size w w'→∃ C' r S',C.le C'∧Sat C' (S'.add F) w'∧RepEnd C' r e∧SpecR (sC [ssl l .any,.str sep] (.str (Lib.join l sep))) () r S' := fun w' e he h =>
    ⟨C,.ret (.str (Lib.join l sep)),⟨[],[]⟩,.refl C,by simpa [St.add] using hF.kept h,by subst he; simp [RepEnd,Rep],(),trivial,rfl,rfl⟩
  by_cases h0:l = []
  · subst h0
    refine (Tryz.strings_Join_none a cap _ w).mono fun e w' ⟨he,hw⟩ => fin w' e he ?_
    subst hw; exact Go.RowKit.Below.refl _ _
  · have hpos:0 < l.length := List.length_pos_iff.2 h0
    have ha:∃ x,a = some x := by
      cases a with
      | none => have := hh.2.2.2.1 rfl; omega
      | some x => exact ⟨x,rfl⟩
    obtain ⟨⟨bk,o,sp⟩,rfl⟩ := ha
    have hsp:sp = none := hh.2.2.2.2.1 _ rfl (by have := hh.2.1; omega)
    subst hsp
    have hcell:∀ i x,l[i]? = some x→w.cell? ⟨bk,o + i,none⟩ = some (.string ⟨x.toArray⟩) := by
      intro i x hx
      have hi:i < l.length := (List.getElem?_eq_some_iff.1 hx).1
      have hrow := (hr _ rfl i hi).2
      simp only [RepCells] at hrow
      obtain ⟨⟨v,i1,i2⟩,_⟩ := hrow
      simp only [Rep] at i2
      subst i2
      have := hs.imm _ _ _ i1
      have e:l.getD i [] = x := by rw [List.getD_eq_getElem?_getD,hx]; rfl
      rw [e] at this
      simpa using this
    have hsz:bk < w.heap.size := by
      have := hcell 0 (l.getD 0 []) (by rw [List.getD_eq_getElem?_getD,List.getElem?_eq_getElem hpos]; rfl)
      unfold World.cell? at this
      by_cases hb:bk < w.heap.size
      · exact hb
      · rw [Array.getElem?_eq_none (Nat.le_of_not_lt hb)] at this
        cases this
    have hm:(l.map fun s => (⟨s.toArray⟩:ByteArray)).map (·.data.toList) = l := by simp [Function.comp_def]
    have key := Tryz.strings_Join bk o cap (l.map fun s => (⟨s.toArray⟩:ByteArray)) ⟨sep.toArray⟩ w (fun i x hx => by
      rw [List.getElem?_map,Option.map_eq_some_iff] at hx
      obtain ⟨y,h1,h2⟩ := hx
      subst h2
      exact hcell i y h1) hsz (by simpa using hl) (by simpa using hh.2.1) (by rw [hm]; exact hj)
    rw [hm,List.length_map] at key
    exact key.mono fun e w' ⟨he,hb⟩ => fin w' e he hb
def rowStr:List D→List UInt8
  | [.str s] => s
  | _ => []
def rowSB:List D→Bool
  | [.str _] => true
  | _ => false
def strsOf (n:Nat) (f:Nat→List D):List (List UInt8) := (List.range n).map fun i => rowStr (f i)
def strsB (n:Nat) (f:Nat→List D):Bool := (List.range n).all fun i => rowSB (f i)
theorem ssl_weak {n:Nat} {f:Nat→List D} {m:Ab.Mode} (h:strsB n f = true):weakD (.sl 1 n f m) (ssl (strsOf n f) .any) := by
  simp only [ssl,weakD,chk_iff]
  refine ⟨by simp,by simp [strsOf],fun i hi => ?_,by cases m <;> simp [weakM]⟩
  have hb:rowSB (f i) = true := List.all_eq_true.1 h i (List.mem_range.2 hi)
  have hg:(strsOf n f).getD i [] = rowStr (f i) := by simp [strsOf,List.getD_eq_getElem?_getD,hi]
  rw [hg]
  unfold rowSB at hb
  split at hb
  · rename_i s hd; rw [hd]; rfl
  · cases hb
theorem strsOf_eq {n:Nat} {l:List (List UInt8)} {F:Nat→List D} (hn:n = l.length) (hF:∀ i,i < n→F i = [D.str (l.getD i [])]):strsOf n F = l := by
  subst hn
  apply List.ext_getElem
  · simp [strsOf]
  · intro i h1 h2
    simp only [strsOf,List.getElem_map,List.getElem_range,hF i h2,rowStr,List.getD_eq_getElem?_getD,List.getElem?_eq_getElem h2,Option.getD_some]
theorem strsB_eq {n:Nat} {l:List (List UInt8)} {F:Nat→List D} (hn:n = l.length) (hF:∀ i,i < n→F i = [D.str (l.getD i [])]):strsB n F = true := by
  subst hn
  simp only [strsB,List.all_eq_true,List.mem_range]
  intro i hi
  rw [hF i hi]; rfl
def joinOk (l:List (List UInt8)) (sep:List UInt8):Prop := l.length ≤ 140737488355328∧(Lib.join l sep).length ≤ 140737488355328
def conJn:Con := fun k ds S => match k with
  | 114 => match ds with
    | [.sl 1 n f m,.str sep] => some (pC [.sl 1 n f m,.str sep] (.str (Lib.join (strsOf n f) sep)) (strsB n f = true∧joinOk (strsOf n f) sep))
    | _ => none
  | 96 => match ds with
    | [.int .i32 q,.sl 1 n f m] => some (pC [.int .i32 q,.sl 1 n f m] (.str (quoB q (intsD n f))) (n ≤ 1099511627776∧IntsP n f∧∀ c ∈ intsD n f,0 ≤ c∧c ≤ 1114111))
    | _ => none
  | k => conRc k ds S
theorem conJn_ok:ConOk Tryz.prog conJn := by
  intro k ds S A h
  unfold conJn at h
  split at h
  · split at h
    · injection h with h; subst h
      exact pC_ok fun ⟨h1,h2⟩ => ⟨weakL_refl _,sC_weak (us := [ssl (strsOf _ _) .any,_]) ⟨ssl_weak h1,weakD_refl _,trivial⟩ (join_ok _ _ h2.1 h2.2)⟩
    · cases h
  · split at h
    · injection h with h; subst h
      exact pC_ok fun ⟨h1,h2,h3⟩ => ⟨weakL_refl _,sC_weak (us := [_,isl (intsD _ _) .any]) ⟨weakD_refl _,(isl_weak h2).1,trivial⟩ (quo_ok _ _ (by rw [intsD_len]; exact h1) h3)⟩
    · cases h
  · exact conRc_ok _ _ _ _ h
end Go.Proofs.YtflbmbkhjcbhoaaGreatDoor
namespace Go.Proofs.YtflbmbkhjcbhoaaGreatDoor
open Go Go.Ab
set_option maxRecDepth 100000
def jT (sep:List UInt8) (l:List (List UInt8)):List UInt8 := l.flatMap fun x => sep ++ x
theorem join_cons (x:List UInt8) (l:List (List UInt8)) (sep:List UInt8):Lib.join (x :: l) sep = x ++ jT sep l := by
  unfold Lib.join
  induction l generalizing x with
  | nil => simp [jT,List.intercalate]
  | cons y l ih =>
    have := ih y
    simp only [List.intercalate,List.intersperse_cons_cons,List.flatten_cons] at this ⊢
    rw [this]
    simp [jT]
theorem join_nil (sep:List UInt8):Lib.join [] sep = [] := by simp [Lib.join,List.intercalate]
def jR (sep:List UInt8) (i:Nat) (l:List (List UInt8)):List UInt8 := if i = 0 then Lib.join l sep else jT sep l
structure JHd (sep:List UInt8) (l:List (List UInt8)) (i:Nat) (out:List UInt8):Prop where
  hi:i ≤ l.length
  ho:out ++ jR sep i (l.drop i) = Lib.join l sep
theorem JHd.init (sep:List UInt8) (l:List (List UInt8)):JHd sep l 0 [] := ⟨Nat.zero_le _,by simp [jR]⟩
theorem drop_stepS {l:List (List UInt8)} {i:Nat} (h:i < l.length):l.drop i = l.getD i [] :: l.drop (i + 1) := by
  rw [List.drop_eq_getElem_cons h,List.getD_eq_getElem?_getD,List.getElem?_eq_getElem h]; rfl
theorem JHd.step0 {sep:List UInt8} {l:List (List UInt8)} {out:List UInt8} (h:JHd sep l 0 out) (hlt:0 < l.length):JHd sep l (0 + 1) (out ++ l.getD 0 []) := by
  refine ⟨by omega,?_⟩
  have := h.ho
  rw [drop_stepS hlt,jR,if_pos rfl,join_cons] at this
  rw [← this,jR,if_neg (by omega),List.append_assoc]
theorem JHd.step {sep:List UInt8} {l:List (List UInt8)} {i:Nat} {out:List UInt8} (h:JHd sep l i out) (h0:i ≠ 0) (hlt:i < l.length):JHd sep l (i + 1) (out ++ sep ++ l.getD i []) := by
  refine ⟨by omega,?_⟩
  have := h.ho
  rw [drop_stepS hlt,jR,if_neg h0] at this
  rw [← this,jR,if_neg (by omega)]
  simp [jT]
theorem JHd.len {sep:List UInt8} {l:List (List UInt8)} {i:Nat} {out:List UInt8} (h:JHd sep l i out):out.length ≤ (Lib.join l sep).length := by
  have := congrArg List.length h.ho
  simp only [List.length_append] at this; omega
theorem JHd.done {sep:List UInt8} {l:List (List UInt8)} {i:Nat} {out:List UInt8} (h:JHd sep l i out) (hge:¬ i < l.length):out = Lib.join l sep := by
  have := h.ho
  rw [List.drop_of_length_le (by omega)] at this
  have e:jR sep i [] = [] := by unfold jR; split <;> simp [jT,join_nil]
  rw [e,List.append_nil] at this
  exact this
def dimsB (l:List Int):List UInt8 := Lib.join (l.map showI) [32]
theorem jT_len (sep:List UInt8) (b:Nat):∀ l:List (List UInt8),(∀ x ∈ l,x.length ≤ b)→(jT sep l).length ≤ (sep.length + b) * l.length
  | [],_ => by simp [jT]
  | x :: l,h => by
    have h1 := jT_len sep b l fun y hy => h y (List.mem_cons_of_mem _ hy)
    have h2 := h x List.mem_cons_self
    simp only [jT,List.flatMap_cons,List.length_append,List.length_cons,Nat.mul_succ] at h1 ⊢
    omega
theorem join_len (sep:List UInt8) (b:Nat) (l:List (List UInt8)) (h:∀ x ∈ l,x.length ≤ b):(Lib.join l sep).length ≤ (sep.length + b) * l.length := by
  cases l with
  | nil => simp [join_nil]
  | cons x l =>
    have h1 := jT_len sep b l fun y hy => h y (List.mem_cons_of_mem _ hy)
    have h2 := h x List.mem_cons_self
    rw [join_cons]
    simp only [List.length_append,List.length_cons,Nat.mul_succ]
    omega
theorem dimsB_len {l:List Int} (h:∀ z ∈ l,inI64 z):(dimsB l).length ≤ 22 * l.length := by
  have := join_len [32] 21 (l.map showI) (fun x hx => by
    obtain ⟨z,hz,rfl⟩ := List.mem_map.1 hx
    exact (showI_len (h z hz)).2)
  simpa [dimsB] using this
theorem mapS {l:List Int} {i:Nat} (h:i < l.length):(l.map showI).getD i [] = showI (l.getD i 0) := by
  simp [List.getD_eq_getElem?_getD,List.getElem?_map,List.getElem?_eq_getElem h]
noncomputable def Ejn:Senv := EC conJn 5 1 [2] (fun _ => ([],[]))
noncomputable section
def fm6q7 (p0:List (List UInt8)):List (List UInt8) := strsOf (LN p0) fun (i:Nat) => [D.str (List.getD p0 i [])]
end
theorem fjoin_ok (l:List (List UInt8)) (h:joinOk l [32]):ACalls Tryz.prog 97 [ssl l .any] ⟨[],[]⟩ (SpecR (sC [ssl l .any] (.str (Lib.join l [32]))) ()) := by
  refine con_of (A := sC _ _) (x := ()) (E := Ejn) (eOk conJn_ok rfl) Tryz.func97 rfl (by kernel_rfl) rfl (by simp [sC,Ejn,EC,E0]) ?_
  refine vc_eq (T :=
    ((strsB (LN l) fun (i:Nat) => [D.str (List.getD l i [])]) = true∧joinOk (fm6q7 l) [(32:UInt8)])∧∀ (y:Unit),True→True∧∃ (y:Unit),True∧Lib.join (fm6q7 l) [(32:UInt8)] = Lib.join l [(32:UInt8)]∧True∧True) (by kernel_rfl) ?_
  delta LN fm6q7
  simp only [strsOf_eq (l := l) rfl (fun _ _ => rfl),strsB_eq (l := l) rfl (fun _ _ => rfl),h,and_true,exists_const,implies_true]
end Go.Proofs.YtflbmbkhjcbhoaaGreatDoor
namespace Go.Proofs.YtflbmbkhjcbhoaaGreatDoor
open Go Go.Ab
set_option maxRecDepth 100000
theorem tyB:Tryz.prog.underlying 66 = some (.pointer 69) := Tryz.underlying66
theorem tyU:Tryz.prog.underlying 128 = some .unsafePointer := Tryz.underlying128
theorem infoB:∃ j,Tryz.prog.info? 69 = some j∧j.size = 2 := Option.map_eq_some_iff.1 (show (Tryz.prog.info? 69).map (·.size) = some 2 by kernel_rfl)
theorem liesB:liesAt Tryz.prog Tryz.prog.depth 69 (2 / Tryz.prog.cellsOf 69) 0 69 1 = true := by kernel_rfl
theorem cc_used (b : Nat) (w : World) (h0 : w.cell? ⟨b, 0, none⟩ = some (.pointer (some ⟨b, 0, none⟩))) :
    Calls Tryz.prog 73 #[.pointer (some ⟨b,0,none⟩)] w fun e w' => e = .returned (.tuple #[])∧w' = w := by
  obtain ⟨j,hj,hjs⟩ := infoB
  go_enter Tryz.func73,Tryz.ntmps73
  go_wp2
  rw [Lib.run_neq_ptr_same w _ tyB hj]
  go_wp2
  go_end0
  exact ⟨rfl,rfl⟩
theorem cc_fresh (b : Nat) (w : World) (h0 : w.cell? ⟨b, 0, none⟩ = some (.pointer none)) (hsh : w.shape? b = some (69, 2)) (hfz : w.frozen? ⟨b, 0, none⟩ = false) :
    Calls Tryz.prog 73 #[.pointer (some ⟨b,0,none⟩)] w fun e w' => e = .returned (.tuple #[])∧w' = w.setCell ⟨b,0,none⟩ (.pointer (some ⟨b,0,none⟩)) := by
  obtain ⟨j,hj,hjs⟩ := infoB
  go_enter Tryz.func73,Tryz.ntmps73
  go_wp2
  rw [Lib.run_to_unsafe w ⟨b,0,none⟩ tyB tyU hj (by rw [hjs]; decide) hsh (Nat.zero_lt_succ 1)]
  simp only [Result.andThen]
  rw [Oper.upon_value]
  go_wp2
  rw [run_callFunc_extern Tryz.func95 (by kernel_rfl) (by kernel_rfl) (by kernel_rfl) (e := Extern.AbiNoEscape.same) (by kernel_rfl)]
  rw [Lib.run_noEscape]
  simp only [Result.andThen]
  rw [Oper.upon_value]
  go_wp2
  rw [Lib.run_from_unsafe w ⟨b,0,none⟩ tyU tyB hj hsh liesB]
  simp only [Result.andThen]
  rw [Oper.upon_value]
  go_wp2
  go_end0
  exact ⟨rfl,rfl⟩
def sCc (k x E:Nat) (d:D):FnSpec where
  β := Unit
  α := Unit
  args := fun _ => [.ref k x 0]
  st := fun _ => ⟨[(k,x,.bld 69 E d)],[]⟩
  pre := fun _ => True
  post := fun _ _ => True
  res := fun _ _ => .ret (.tup [])
  out := fun _ _ => ⟨[(k,x,.bld 69 E d)],[]⟩
theorem cc_ok (k x E:Nat) (d:D):ACalls Tryz.prog 73 ((sCc k x E d).args ()) ((sCc k x E d).st ()) (SpecR (sCc k x E d) ()) := by
  refine ⟨⟨_,Tryz.func73,by kernel_rfl,by kernel_rfl⟩,fun C F args w ha hs => ?_⟩
  obtain ⟨u,e,hu⟩ := repL_one' ha
  have e2:args = [u].toArray := by rw [← e]
  subst e2
  simp only [Rep] at hu
  subst hu
  have hg:getO ((sCc k x E d).st ()).objs k = some (x,.bld 69 E d) := by simp [sCc,getO]
  obtain ⟨c1,c2,v0,v1,fz,h1,h2,h3,h4,h5⟩ := hs.obj_of hg
  have fin:∀ w',Sat C (((sCc k x E d).st ()).add F) w'→∃ C' r S',C.le C'∧Sat C' (S'.add F) w'∧RepEnd C' r (.returned (.tuple #[]))∧SpecR (sCc k x E d) () r S' := fun w' h =>
    ⟨C,.ret (.tup []),_,.refl C,h,by simp [RepEnd,Rep,RepL],(),trivial,rfl,rfl⟩
  rcases h3 with rfl | rfl
  · have hc:w.cell? ⟨x,0,none⟩ = some (.pointer none) := by rw [cell_of_heap h1]; rfl
    have hsh:w.shape? x = some (69,2) := by simp [World.shape?,h1]
    have hfz:w.frozen? ⟨x,0,none⟩ = false := frozen_of_heap h1 h2 (by simp)
    refine (cc_fresh x w hc hsh hfz).mono fun e w' ⟨he,hw⟩ => ?_
    subst he hw
    refine fin _ ?_
    have hr := setCell_heap h1 (o := 0) (.pointer (some ⟨x,0,none⟩))
    have := hs.replace (o' := .bld 69 E d) (w' := w.setCell ⟨x,0,none⟩ (.pointer (some ⟨x,0,none⟩))) hg (by simp) (fun j hj => Go.RowKit.Below.heap_setCell _ _ _ _ hj) rfl rfl rfl ⟨.pointer (some ⟨x,0,none⟩),v1,fz,by simpa using hr,by simpa using h2.set 0 (.pointer (some ⟨x,0,none⟩)),.inr rfl,h4,h5⟩
    simpa [sCc,St.set,setO] using this
  · have hc:w.cell? ⟨x,0,none⟩ = some (.pointer (some ⟨x,0,none⟩)) := by rw [cell_of_heap h1]; rfl
    refine (cc_used x w hc).mono fun e w' ⟨he,hw⟩ => ?_
    subst he hw
    exact fin _ hs
end Go.Proofs.YtflbmbkhjcbhoaaGreatDoor
namespace Go.Proofs.YtflbmbkhjcbhoaaGreatDoor
open Go Go.Ab
set_option maxRecDepth 100000
def conCc:Con := fun k ds S => match k with
  | 73 => match ds with
    | [.ref k x 0] => match getO S.objs k with
      | some (y,.bld T E d) => some ((sCc k x E d).fits () (y = x∧T = 69∧tokD d = true))
      | _ => none
    | _ => none
  | _ => none
theorem conCc_ok:ConOk Tryz.prog conCc := by
  intro k ds S A h
  unfold conCc at h
  split at h
  · split at h
    · rename_i k x
      split at h
      · rename_i y T E d hg
        injection h with h; subst h
        refine ⟨fun _ _ => cc_ok k x E d,fun _ _ hy => ?_,fun h => nomatch h⟩
        obtain ⟨⟨rfl,rfl,ht⟩,_⟩ := hy
        refine ⟨⟨by simp [weakD,chk],trivial⟩,chk_iff.2 ⟨rfl,?_,trivial⟩⟩
        simp only [FnSpec.fits,sCc,leO,hg]
        exact ⟨trivial,chk_iff.2 ⟨by simp [ht],weakD_refl _⟩,trivial⟩
      · cases h
    · cases h
  · cases h
def sWs (f:List UInt8) (E x t:Nat) (l:List UInt8) (r:AEnd) (ar:List D):FnSpec where
  β := Unit
  α := Nat
  args := fun _ => .ref 0 x 0 :: ar
  st := fun _ => ⟨[(0,x,.bld 69 E (bsl l (.tok 0 t)))],[(0,t)]⟩
  pre := fun _ => True
  post := fun _ _ => True
  res := fun _ _ => r
  out := fun _ t' => ⟨[(0,x,.bld 69 E (bsl (l ++ f) (.tok 0 t')))],[(0,t')]⟩
noncomputable def Ews:Senv := { EC conCc 19 2 [4,5] (fun _ => ([],[])) with own := fun t => Nat.beq t 67 }
theorem ws_ok (x t : Nat) (l s : List UInt8) (hl : l.length + s.length ≤ 140737488355328) :
    ACalls Tryz.prog 31 ((sWs s 5 x t l (.ret (.tup [.int .i64 s.length,.nili])) [.str s]).args ()) ((sWs s 5 x t l (.ret (.tup [.int .i64 s.length,.nili])) [.str s]).st ()) (SpecR (sWs s 5 x t l (.ret (.tup [.int .i64 s.length,.nili])) [.str s]) ()) := by
  refine con_of (A := sWs s 5 x t l (.ret (.tup [.int .i64 s.length,.nili])) [.str s]) (x := ()) (E := Ews) (eOk conCc_ok rfl) Tryz.func31 rfl (by kernel_rfl) rfl (by simp [sWs,Ews,EC,E0]) ?_
  refine vc_eq (T :=
    ((SM x∧SM (69:Nat)∧SM true)∧True)∧∀ (y:Unit),True→SM x∧SM t∧side ((LN l + LN s) * N1 ≤ (140737488355328:Nat)∧LN l + LN s ≤ (9223372036854775807:Nat)) (∀ (t1:Nat),(t % (1000003:Nat) = N6→t1 % (1000003:Nat) = N6)→SM x∧(t % (1000003:Nat) = N6→t1 % (1000003:Nat) = N6)∧True∧∃ (y:Nat),True∧(SM (LI s)∧True∧True)∧(SM x∧(LN l + LN s = LN (l ++ s)∧(∀ (i:Nat),i < LN l + LN s→appF (LN l) (fun (i:Nat) => [ZB (BI l i)]) (fun (i:Nat) => [ZB (BI s i)]) i = [ZB (BI (l ++ s) i)])∧t1 = y)∧True)∧t1 = y∧True)) (by kernel_rfl) ?_
  delta BI LI LN N1 N6 SM U0 ZB
  refine ⟨⟨⟨rfl,rfl,rfl⟩,trivial⟩,fun _ _ => ⟨rfl,rfl,?_⟩⟩
  rw [side_iff]
  exact ⟨by omega,fun t1 ht => ⟨rfl,ht,trivial,t1,trivial,⟨rfl,trivial,trivial⟩,⟨rfl,⟨by rw [List.length_append],app_gen rfl (fun _ _ => rfl) (fun _ _ => rfl),rfl⟩,trivial⟩,rfl,trivial⟩⟩
noncomputable def Ewb:Senv := { EC conCc 17 2 [4] (fun _ => ([],[])) with own := fun t => Nat.beq t 67 }
theorem wb_ok (x t : Nat) (l : List UInt8) (b : UInt8) (hl : l.length + 1 ≤ 140737488355328) :
    ACalls Tryz.prog 117 ((sWs [b] 5 x t l (.ret .nili) [.int .u8 (b.toNat:Int)]).args ()) ((sWs [b] 5 x t l (.ret .nili) [.int .u8 (b.toNat:Int)]).st ()) (SpecR (sWs [b] 5 x t l (.ret .nili) [.int .u8 (b.toNat:Int)]) ()) := by
  refine con_of (A := sWs [b] 5 x t l (.ret .nili) [.int .u8 (b.toNat:Int)]) (x := ()) (E := Ewb) (eOk conCc_ok rfl) Tryz.func117 rfl (by kernel_rfl) rfl (by simp [sWs,Ewb,EC,E0]) ?_
  refine vc_eq (T :=
    ((SM x∧SM (69:Nat)∧SM true)∧True)∧∀ (y:Unit),True→SM x∧SM t∧side ((LN l + N1) * N1 ≤ (140737488355328:Nat)∧LN l + N1 ≤ (9223372036854775807:Nat)) (∀ (t1:Nat),(t % (1000003:Nat) = N6→t1 % (1000003:Nat) = N6)→SM x∧(t % (1000003:Nat) = N6→t1 % (1000003:Nat) = N6)∧True∧∃ (y:Nat),True∧True∧(SM x∧(LN l + N1 = LN (l ++ [b])∧(∀ (i:Nat),i < LN l + N1→appF (LN l) (fun (i:Nat) => [ZB (BI l i)]) (fun (i:Nat) => List.getD [[ZB (NI (UInt8.toNat b))]] i []) i = [ZB (BI (l ++ [b]) i)])∧t1 = y)∧True)∧t1 = y∧True)) (by kernel_rfl) ?_
  delta BI LN N1 N6 NI SM U0 ZB
  refine ⟨⟨⟨rfl,rfl,rfl⟩,trivial⟩,fun _ _ => ⟨rfl,rfl,?_⟩⟩
  rw [side_iff]
  exact ⟨by omega,fun t1 ht => ⟨rfl,ht,trivial,t1,trivial,trivial,⟨rfl,⟨by simp,app_row' rfl (fun _ _ => rfl) rfl,rfl⟩,trivial⟩,rfl,trivial⟩⟩
def sBw (f:List UInt8) (k kt x t:Nat) (l:List UInt8) (r:AEnd) (ar:List D):FnSpec where
  β := Unit
  α := Nat
  args := fun _ => .ref k x 0 :: ar
  st := fun _ => ⟨[(k,x,.bld 69 5 (bsl l (.tok kt t)))],[(kt,t)]⟩
  pre := fun _ => True
  post := fun _ _ => True
  res := fun _ _ => r
  out := fun _ t' => ⟨[(k,x,.bld 69 5 (bsl (l ++ f) (.tok kt t')))],[(kt,t')]⟩
theorem bw_of {g : Nat} {f : List UInt8} (k kt x t : Nat) {l : List UInt8} {r : AEnd} {ar : List D} (h : ACalls Tryz.prog g ((sWs f 5 x t l r ar).args ()) ((sWs f 5 x t l r ar).st ()) (SpecR (sWs f 5 x t l r ar) ())) :
    ACalls Tryz.prog g ((sBw f k kt x t l r ar).args ()) ((sBw f k kt x t l r ar).st ()) (SpecR (sBw f k kt x t l r ar) ()) := by
  refine h.respec (A' := sBw f k kt x t l r ar) (x' := ()) ?_ ?_ fun y _ => ⟨y,trivial,?_,?_⟩
  · simp [sBw,sWs,weakL,weakD,chk,weakL_refl]
  · simp [sBw,sWs,posS,posO,posT,weakO,weakD,chk,bsl,weakM,tokD]
  · simp only [sBw,sWs]; cases r <;> simp [weakEnd,weakD_refl]
  · simp [sBw,sWs,posS,posO,posT,weakO,weakD,chk,bsl,weakM,tokD]; rfl
end Go.Proofs.YtflbmbkhjcbhoaaGreatDoor
namespace Go.Proofs.YtflbmbkhjcbhoaaGreatDoor
open Go Go.Ab
set_option maxRecDepth 100000
theorem str_some (b g cap cs : Nat) (p : Value) (fz : Nat × Nat) (arr : Array Value) (fg : Nat × Nat) (l : List UInt8) (w : World) (h0 : l ≠ []) (hn : l.length ≤ cap) (hcs : l.length ≤ arr.size) (h63 : l.length ≤ 9223372036854775807)
    (hbk:w.heap[b]? = some (.cells #[p,.slice (some ⟨g,0,none⟩) l.length cap] cs fz)) (hg:w.heap[g]? = some (.cells arr 5 fg))
    (hcell:∀ j x,l[j]? = some x→w.cell? ⟨g,j,none⟩ = some (.int .u8 x.toNat)) :
    Calls Tryz.prog 36 #[.pointer (some ⟨b,0,none⟩)] w fun e w' => e = .returned (.string ⟨l.toArray⟩)∧w' = w.drew.freeze ⟨g,0,none⟩ l.length := by
  have hl0:l.length ≠ 0 := by simpa using h0
  have c1:w.drew.cell? ⟨b,1,none⟩ = some (.slice (some ⟨g,0,none⟩) l.length cap) := by
    have:w.drew.heap[b]? = some (.cells #[p,.slice (some ⟨g,0,none⟩) l.length cap] cs fz) := hbk
    rw [cell_of_heap this]; rfl
  have hSD:(Builtin.unsafeSliceData_ #[67] 119 #[.slice (some ⟨g,0,none⟩) l.length cap]).run Tryz.prog w.drew = .ok (.pointer (some ⟨g,0,none⟩)) w.drew :=
    Lib.run_unsafeSliceData_row _ _ _ _ _ _ (by omega)
  have hUS:(Builtin.unsafeString_ #[119,3] 9 #[.pointer (some ⟨g,0,none⟩),.int .i64 l.length]).run Tryz.prog w.drew = .ok (.string ⟨l.toArray⟩) (w.drew.freeze ⟨g,0,none⟩ l.length) := by
    refine Lib.run_unsafeString_row w.drew 119 3 9 5 Tryz.underlying119 (by kernel_rfl) g arr.size (by have hg':w.drew.heap[g]? = some (.cells arr 5 fg) := hg; simp [World.shape?,hg']) l h0 hcs h63 ?_
    intro j x hx
    have e:w.drew.cell? ⟨g,j,none⟩ = some (.int .u8 x.toNat) := hcell j x hx
    have e2:(if j = 0 then (⟨g,0,none⟩:Addr) else ⟨g,j,none⟩) = ⟨g,j,none⟩ := by split <;> simp_all
    simpa [Addr.add,e2] using e
  have mixed:Tryz.prog.follows .mixedOrders = true := by kernel_rfl
  go_enter Tryz.func36,Tryz.ntmps36
  go_wp2
  go_region_o
  all_goals (go_wp2; go_ret; exact ⟨rfl,rfl⟩)
theorem str_nil (b cs : Nat) (p : Value) (fz : Nat × Nat) (w : World) (hbk : w.heap[b]? = some (.cells #[p, .slice none 0 0] cs fz)) :
    Calls Tryz.prog 36 #[.pointer (some ⟨b,0,none⟩)] w fun e w' => e = .returned (.string ⟨#[]⟩)∧Go.RowKit.Below w.heap.size w w' := by
  have hUS:∀ W,(Builtin.unsafeString_ #[119,3] 9 #[.pointer none,.int .i64 0]).run Tryz.prog W = .ok (.string .empty) W := fun W => Lib.run_unsafeString_none W _ _ _ none
  have c1:w.drew.cell? ⟨b,1,none⟩ = some (.slice none 0 0) := by
    have:w.drew.heap[b]? = some (.cells #[p,.slice none 0 0] cs fz) := hbk
    rw [cell_of_heap this]; rfl
  have hSD:(Builtin.unsafeSliceData_ #[67] 119 #[.slice none 0 0]).run Tryz.prog w.drew = .ok (.pointer none) w.drew := Lib.run_unsafeSliceData_nil _ _ _ _ _
  have mixed:Tryz.prog.follows .mixedOrders = true := by kernel_rfl
  go_enter Tryz.func36,Tryz.ntmps36
  go_wp2
  go_region_o
  all_goals (go_wp2; go_ret; exact ⟨rfl,Go.RowKit.Below.drew (Go.RowKit.Below.refl _ w)⟩)
theorem str_room (b g cap cs : Nat) (p : Value) (fz : Nat × Nat) (w : World) (hc0 : cap ≠ 0) (hbk : w.heap[b]? = some (.cells #[p, .slice (some ⟨g, 0, none⟩) 0 cap] cs fz)) :
    Calls Tryz.prog 36 #[.pointer (some ⟨b,0,none⟩)] w fun e w' => e = .returned (.string ⟨#[]⟩)∧Go.RowKit.Below w.heap.size w w' := by
  have hUS:∀ W,(Builtin.unsafeString_ #[119,3] 9 #[.pointer (some ⟨g,0,none⟩),.int .i64 0]).run Tryz.prog W = .ok (.string .empty) W := fun W => Lib.run_unsafeString_none W _ _ _ _
  have c1:w.drew.cell? ⟨b,1,none⟩ = some (.slice (some ⟨g,0,none⟩) 0 cap) := by
    have:w.drew.heap[b]? = some (.cells #[p,.slice (some ⟨g,0,none⟩) 0 cap] cs fz) := hbk
    rw [cell_of_heap this]; rfl
  have hSD:(Builtin.unsafeSliceData_ #[67] 119 #[.slice (some ⟨g,0,none⟩) 0 cap]).run Tryz.prog w.drew = .ok (.pointer (some ⟨g,0,none⟩)) w.drew :=
    Lib.run_unsafeSliceData_row _ _ _ _ _ _ hc0
  clear hc0
  have mixed:Tryz.prog.follows .mixedOrders = true := by kernel_rfl
  go_enter Tryz.func36,Tryz.ntmps36
  go_wp2
  go_region_o
  all_goals (go_wp2; go_ret; exact ⟨rfl,Go.RowKit.Below.drew (Go.RowKit.Below.refl _ w)⟩)
theorem str_noroom (b g cs : Nat) (p : Value) (fz fg : Nat × Nat) (arr : Array Value) (E : Nat) (w : World) (hg : w.heap[g]? = some (.cells arr E fg)) (hbk : w.heap[b]? = some (.cells #[p, .slice (some ⟨g, 0, none⟩) 0 0] cs fz)) :
    Calls Tryz.prog 36 #[.pointer (some ⟨b,0,none⟩)] w fun e w' => e = .returned (.string ⟨#[]⟩)∧Go.RowKit.Below w.heap.size w w' := by
  have hUS:∀ W q,(Builtin.unsafeString_ #[119,3] 9 #[.pointer q,.int .i64 0]).run Tryz.prog W = .ok (.string .empty) W := fun W q => Lib.run_unsafeString_none W _ _ _ q
  have hb:b < w.heap.size := (Array.getElem?_eq_some_iff.1 hbk).1
  have c1:w.drew.cell? ⟨b,1,none⟩ = some (.slice (some ⟨g,0,none⟩) 0 0) := by
    have:w.drew.heap[b]? = some (.cells #[p,.slice (some ⟨g,0,none⟩) 0 0] cs fz) := hbk
    rw [cell_of_heap this]; rfl
  have c0:w.cell? ⟨b,1,none⟩ = some (.slice (some ⟨g,0,none⟩) 0 0) := c1
  have hSD:(Builtin.unsafeSliceData_ #[67] 119 #[.slice (some ⟨g,0,none⟩) 0 0]).run Tryz.prog w.drew = .ok (.pointer (some ⟨w.drew.heap.size,0,none⟩)) (w.drew.alloc (.view ⟨g,0,none⟩ 5)) :=
    Lib.run_unsafeSliceData_zero _ _ _ _ Tryz.underlying119 _ _ (E,arr.size) (by have hg':w.drew.heap[g]? = some (.cells arr E fg) := hg; simp [World.shape?,hg'])
  have hSD0:(Builtin.unsafeSliceData_ #[67] 119 #[.slice (some ⟨g,0,none⟩) 0 0]).run Tryz.prog w = .ok (.pointer (some ⟨w.heap.size,0,none⟩)) (w.alloc (.view ⟨g,0,none⟩ 5)) :=
    Lib.run_unsafeSliceData_zero _ _ _ _ Tryz.underlying119 _ _ (E,arr.size) (by simp [World.shape?,hg])
  have c2:(w.drew.alloc (.view ⟨g,0,none⟩ 5)).cell? ⟨b,1,none⟩ = some (.slice (some ⟨g,0,none⟩) 0 0) := by
    rw [World.cell?_alloc_lt _ _ _ hb]; exact c1
  have c3:(w.alloc (.view ⟨g,0,none⟩ 5)).drew.cell? ⟨b,1,none⟩ = some (.slice (some ⟨g,0,none⟩) 0 0) := c2
  have mixed:Tryz.prog.follows .mixedOrders = true := by kernel_rfl
  go_enter Tryz.func36,Tryz.ntmps36
  go_wp2
  go_region_o
  all_goals (go_wp2; go_ret; exact ⟨rfl,(Go.RowKit.Below.drew (Go.RowKit.Below.refl _ w)).alloc (Nat.le_refl _) _⟩)
theorem sat_freeze {C:Ctx} {S:St} {w:World} {g n:Nat} (H:Sat C S w) (hg:C.w0.heap.size ≤ g) (ho:∀ p ∈ S.objs,p.2.1 ≠ g) (ht:∀ t ∈ S.toks,∀ x,C.tok t.2 = some x→¬ x.clash g):Sat C S (w.freeze ⟨g,0,none⟩ n) := by
  have hne:∀ k,k ≠ g→(w.freeze ⟨g,0,none⟩ n).heap[k]? = w.heap[k]? := by
    intro k hk
    unfold World.freeze; split <;> simp [Array.getElem?_modify,Ne.symm hk]
  have hcell:∀ a,(w.freeze ⟨g,0,none⟩ n).cell? a = w.cell? a := by
    intro a
    unfold World.cell?
    by_cases e:a.block = g
    · rw [e]
      unfold World.freeze
      by_cases h0:n = 0
      · rw [if_pos h0]
      · rw [if_neg h0]
        simp only [Array.getElem?_modify,if_true]
        cases w.heap[g]? with
        | none => rfl
        | some o => cases o <;> rfl
    · rw [hne _ e]
  refine ⟨H.below.trans ⟨by unfold World.freeze; split <;> rfl,by unfold World.freeze; split <;> rfl,by unfold World.freeze; split <;> rfl,by unfold World.freeze; split <;> simp,fun k hk => hne k (by omega)⟩,fun b o v h => (hcell _).trans (H.imm b o v h),H.one,fun p hp => ?_,H.nodup,fun t htm => ?_,H.tnodup,H.tfin,H.tdist⟩
  · obtain ⟨h1,h2,h3⟩ := H.objs p hp
    exact ⟨h1,h2,h3.of_heap (hne _ (ho p hp))⟩
  · obtain ⟨x,h1,h2,h3⟩ := H.toks t htm
    exact ⟨x,h1,h2.of_heap fun b hb => hne b fun e => ht t htm x h1 (e ▸ hb),h3⟩
def sBs (k kt x t:Nat) (l:List UInt8):FnSpec where
  β := Unit
  α := Unit
  args := fun _ => [.ref k x 0]
  st := fun _ => ⟨[(k,x,.bld 69 5 (bsl l (.tok kt t)))],[(kt,t)]⟩
  pre := fun _ => True
  post := fun _ _ => True
  res := fun _ _ => .ret (.str l)
  out := fun _ _ => ⟨[],[]⟩
theorem bstr_ok (k kt x t:Nat) (l:List UInt8) (h63:l.length ≤ 9223372036854775807):ACalls Tryz.prog 36 ((sBs k kt x t l).args ()) ((sBs k kt x t l).st ()) (SpecR (sBs k kt x t l) ()) := by
  refine ⟨⟨_,Tryz.func36,by kernel_rfl,by kernel_rfl⟩,fun C F args w ha hs => ?_⟩
  obtain ⟨u,e,hu⟩ := repL_one' ha
  have e2:args = [u].toArray := by rw [← e]
  subst e2
  simp only [Rep] at hu
  subst hu
  have hg:getO ((sBs k kt x t l).st ()).objs k = some (x,.bld 69 5 (bsl l (.tok kt t))) := by simp [sBs,getO]
  obtain ⟨c1,c2,v0,v1,fz,h1,h2,h3,h4,h5⟩ := hs.obj_of hg
  have h5:tokE t = 5 + 1 := h5
  simp only [bsl,Rep] at h4
  obtain ⟨a,len,cap,rfl,hh,hr⟩ := h4
  have hlen:len = l.length := hh.1
  subst hlen
  have hF:Sat C F w := by
    have h := hs.le (S' := ⟨[],[]⟩) ⟨List.nil_sublist _,List.nil_sublist _⟩
    simpa [St.add] using h
  have fin:∀ w',Sat C F w'→∃ C' r S',C.le C'∧Sat C' (S'.add F) w'∧RepEnd C' r (.returned (.string ⟨l.toArray⟩))∧SpecR (sBs k kt x t l) () r S' := fun w' h =>
    ⟨C,.ret (.str l),⟨[],[]⟩,.refl C,h,by simp [RepEnd,Rep],(),trivial,rfl,rfl⟩
  have h6 := hh.2.2.2.2.2
  have hcap:l.length ≤ cap := hh.2.1
  simp only at h6
  have hmem:(kt,t) ∈ (((sBs k kt x t l).st ()).add F).toks := by simp [sBs,St.add]
  obtain ⟨q,q1,q2,q3⟩ := hs.toks (kt,t) hmem
  simp only at q1
  rw [q1] at h6
  cases q with
  | no =>
    simp only at h6
    have ha0:a = none := h6.2 (by rw [h5]; omega)
    subst ha0
    have hl0 := (hh.2.2.2.1 rfl)
    have hl:l = [] := List.length_eq_zero_iff.1 hl0.1
    subst hl
    obtain rfl:cap = 0 := hl0.2
    refine (str_nil x _ v0 fz w h1).mono fun e w' ⟨he,hb⟩ => ?_
    subst he
    exact fin w' (hF.kept hb)
  | «at» g n cp wd =>
    obtain ⟨rfl,rfl,rfl,rfl⟩ := h6
    obtain ⟨p1,p2,arr,E,fg,p3,p4,p5,p6⟩ := q2
    have hE:E = 5 := Nat.succ.inj ((p6 (by simp only; rw [h5]; omega)).trans h5)
    subst hE
    by_cases hl:l = []
    · subst hl
      by_cases hc:cp = 0
      · subst hc
        refine (str_noroom x g _ v0 fz fg arr _ w p3 h1).mono fun e w' ⟨he,hb⟩ => ?_
        subst he
        exact fin w' (hF.kept hb)
      · refine (str_room x g cp _ v0 fz w hc h1).mono fun e w' ⟨he,hb⟩ => ?_
        subst he
        exact fin w' (hF.kept hb)
    · refine (str_some x g cp _ v0 fz arr fg l w hl hcap (by rw [p5]; omega) h63 h1 p3 fun j y hy => ?_).mono fun e w' ⟨he,hw⟩ => ?_
      · have hj:j < l.length := (List.getElem?_eq_some_iff.1 hy).1
        have hrow := (hr ⟨g,0,none⟩ rfl j hj).2
        simp only [RepCells] at hrow
        obtain ⟨⟨v,i1,i2⟩,_⟩ := hrow
        simp only [Rep] at i2
        subst i2
        have := hs.imm _ _ _ i1
        have e:l.getD j 0 = y := by rw [List.getD_eq_getElem?_getD,hy]; rfl
        rw [e] at this
        simpa using this
      · subst he hw
        refine fin _ (sat_freeze hF.drew p1 (fun p hp e => q3 p (by simp [St.add,hp]) e.symm) fun s hs2 y hy hcl => ?_)
        cases y with
        | no => exact hcl
        | «at» b' n' c' wd' =>
          have hcl:b' = g := hcl
          have hnd := hs.tnodup
          simp only [St.add,sBs,List.cons_append,List.nil_append,List.map_cons,List.nodup_cons] at hnd
          have hne:t ≠ s.2 := fun e => hnd.1 (e ▸ List.mem_map_of_mem hs2)
          exact hs.tdist (kt,t) s _ _ _ _ _ _ _ _ hmem (by simp [St.add,hs2]) hne q1 hy hcl.symm
end Go.Proofs.YtflbmbkhjcbhoaaGreatDoor
namespace Go.Proofs.YtflbmbkhjcbhoaaGreatDoor
open Go Go.Ab
set_option maxRecDepth 100000
def tokIs (ts:List (Nat × Nat)) (kt t:Nat):Prop :=
  match getT ts kt with
  | some t' => t' = t
  | none => False
def bFit (ts:List (Nat × Nat)) (x y T E kt t n:Nat) (g:Nat→List D):Prop := y = x∧T = 69∧E = 5∧tokIs ts kt t∧rowsB n g = true
def byteU (z:Int):UInt8 := UInt8.ofNat z.toNat
def conBd:Con := fun k ds S => match k with
  | 31 => match ds with
    | [.ref k x 0,.str s] => match getO S.objs k with
      | some (y,.bld T E (.sl 1 n g (.tok kt t))) => some ((sBw s k kt x t (bytesOf n g) (.ret (.tup [.int .i64 s.length,.nili])) [.str s]).fits () (bFit S.toks x y T E kt t n g∧n + s.length ≤ 140737488355328))
      | _ => none
    | _ => none
  | 117 => match ds with
    | [.ref k x 0,.int .u8 z] => match getO S.objs k with
      | some (y,.bld T E (.sl 1 n g (.tok kt t))) => some ((sBw [byteU z] k kt x t (bytesOf n g) (.ret .nili) [.int .u8 z]).fits () (bFit S.toks x y T E kt t n g∧(0 ≤ z∧z ≤ 255)∧n + 1 ≤ 140737488355328))
      | _ => none
    | _ => none
  | 36 => match ds with
    | [.ref k x 0] => match getO S.objs k with
      | some (y,.bld T E (.sl 1 n g (.tok kt t))) => some ((sBs k kt x t (bytesOf n g)).fits () (bFit S.toks x y T E kt t n g∧n ≤ 140737488355328))
      | _ => none
    | _ => none
  | k => conJn k ds S
theorem byteU_nat {z:Int} (h:0 ≤ z∧z ≤ 255):((byteU z).toNat:Int) = z := by
  unfold byteU
  rw [UInt8.toNat_ofNat']; omega
theorem leO_bld {os : List (Nat × Nat × AObj)} {k x y T E n kt t : Nat} {g : Nat → List D} (hg : getO os k = some (y, .bld T E (.sl 1 n g (.tok kt t)))) (h1 : y = x) (h2 : T = 69) (h3 : E = 5) (hr : rowsB n g = true) :
    leO [(k,x,.bld 69 5 (bsl (bytesOf n g) (.tok kt t)))] os := by
  subst h1 h2 h3
  simp only [leO,hg,weakO]
  exact ⟨trivial,chk_iff.2 ⟨by simp [tokD,bsl],bsl_weak hr⟩,trivial⟩
theorem leT_tok {ts:List (Nat × Nat)} {kt t:Nat} (h:tokIs ts kt t):leT [(kt,t)] ts := by
  unfold tokIs at h
  simp only [leT]
  split at h
  · rename_i t' e; rw [e]; exact ⟨h,trivial⟩
  · exact h.elim
theorem conBd_ok:ConOk Tryz.prog conBd := by
  intro k ds S A h
  unfold conBd at h
  split at h
  · split at h
    · split at h
      · rename_i k x s _ y T E n g kt t hg
        injection h with h; subst h
        have key:∀ p:n + s.length ≤ 140737488355328,ACalls Tryz.prog 31 ((sBw s k kt x t (bytesOf n g) (.ret (.tup [.int .i64 s.length,.nili])) [.str s]).args ()) ((sBw s k kt x t (bytesOf n g) (.ret (.tup [.int .i64 s.length,.nili])) [.str s]).st ()) (SpecR (sBw s k kt x t (bytesOf n g) (.ret (.tup [.int .i64 s.length,.nili])) [.str s]) ()) := fun p =>
          bw_of k kt x t (ws_ok x t (bytesOf n g) s (by simpa [bytesOf] using p))
        refine ⟨fun _ hy => key hy.1.2,fun _ _ hy => ?_,fun h => nomatch h⟩
        obtain ⟨⟨⟨h1,h2,h3,h4,h5⟩,_⟩,_⟩ := hy
        exact ⟨⟨by simp [weakD,chk],by simp [weakD],trivial⟩,chk_iff.2 ⟨rfl,leO_bld hg h1 h2 h3 h5,leT_tok h4⟩⟩
      · cases h
    · cases h
  · split at h
    · split at h
      · rename_i k x z _ y T E n g kt t hg
        injection h with h; subst h
        have key:∀ p:(0 ≤ z∧z ≤ 255)∧n + 1 ≤ 140737488355328,ACalls Tryz.prog 117 ((sBw [byteU z] k kt x t (bytesOf n g) (.ret .nili) [.int .u8 z]).args ()) ((sBw [byteU z] k kt x t (bytesOf n g) (.ret .nili) [.int .u8 z]).st ()) (SpecR (sBw [byteU z] k kt x t (bytesOf n g) (.ret .nili) [.int .u8 z]) ()) := fun p => by
          have := bw_of k kt x t (wb_ok x t (bytesOf n g) (byteU z) (by simpa [bytesOf] using p.2))
          rw [byteU_nat p.1] at this
          exact this
        refine ⟨fun _ hy => key hy.1.2,fun _ _ hy => ?_,fun h => nomatch h⟩
        obtain ⟨⟨⟨h1,h2,h3,h4,h5⟩,_⟩,_⟩ := hy
        exact ⟨⟨by simp [weakD,chk],weakD_refl _,trivial⟩,chk_iff.2 ⟨rfl,leO_bld hg h1 h2 h3 h5,leT_tok h4⟩⟩
      · cases h
    · cases h
  · split at h
    · split at h
      · rename_i k x _ y T E n g kt t hg
        injection h with h; subst h
        refine ⟨fun _ hy => bstr_ok k kt x t (bytesOf n g) (by have := hy.1.2; simp [bytesOf]; omega),fun _ _ hy => ?_,fun h => nomatch h⟩
        obtain ⟨⟨⟨h1,h2,h3,h4,h5⟩,_⟩,_⟩ := hy
        exact ⟨⟨by simp [weakD,chk],trivial⟩,chk_iff.2 ⟨rfl,leO_bld hg h1 h2 h3 h5,leT_tok h4⟩⟩
      · cases h
    · cases h
  · exact conJn_ok _ _ _ _ h
end Go.Proofs.YtflbmbkhjcbhoaaGreatDoor
namespace Go.Proofs.YtflbmbkhjcbhoaaGreatDoor
open Go Go.Ab
set_option maxRecDepth 100000
theorem bfit_ok (t y:Nat) (l:List UInt8):bFit [(0,t)] y y 69 5 0 t l.length (fun i => [.int .u8 ((l.getD i 0).toNat:Int)]) := ⟨rfl,rfl,rfl,rfl,rowsB_bsl l⟩
theorem showI_neg {n:Int} (h:n < 0):showI n = 95 :: (Lib.itoa n).drop 1 := by
  simp only [showI,Lib.itoa,if_pos h]; rfl
theorem showI_pos {n:Int} (h:¬ n < 0):showI n = Lib.itoa n := by
  simp only [showI,Lib.itoa,if_neg h]
theorem app_nil' (l:List UInt8):[].append l = l := rfl
noncomputable def Ess (l:List Int):Senv := { EC conBd 28 1 [2,3,4,5,6,7,8,9,10,15,20] (fun _ => ([],[])) with
  bd := fun t => match t with
    | 69 => some 5
    | _ => none
  ann := fun b _ S => match b with
    | 0 => some { slots := [9],keep := [0,1,3,7,8],α := Nat × Nat × List UInt8,st := fun y => ([.int .i64 y.1],⟨setO S.objs 0 (.bld 69 5 (bsl y.2.2 (.tok 0 y.2.1))),[(0,y.2.1)]⟩),inv := fun y => JHd [32] (l.map showI) y.1 y.2.2,mu := fun y => l.length - y.1 }
    | _ => none }
noncomputable section
def fm8q0 (p0:List Int) (p1:Nat) (p2:List UInt8):Prop := JHd [(32:UInt8)] (List.map showI p0) p1 p2
def fm8q1 (p0:List UInt8) (p1:Nat):List D := [ZB (BI p0 p1)]
def fm8q2 (p0 p1:Nat) (p2:List UInt8):Prop := bFit [(N0,p0)] p1 p1 (69:Nat) (5:Nat) N0 p0 (LN p2) fun (i:Nat) => fm8q1 p2 i
def fm8q3 (p0:List Int) (p1:Nat):List UInt8 := Lib.itoa (GI p0 (Int.toNat (↑p1:Int)))
def fm8q4 (p0:List Int) (p1:Nat):Nat := LN (fm8q3 p0 p1)
def fm8q5 (p0:List Int) (p1:Nat):Int := (NI (fm8q4 p0 p1))
def fm8q6 (p0:List Int) (p1:Nat):List UInt8 := List.drop N1 (List.take (Int.toNat (fm8q5 p0 p1)) (fm8q3 p0 p1))
def fm8q7 (p0:List Int) (p1:Nat):Nat := N1 + LN (fm8q6 p0 p1)
def fm8q8 (p0:List UInt8):List UInt8 := bytesOf (LN p0) fun (i:Nat) => fm8q1 p0 i
def fm8q9 (p0:List UInt8):List UInt8 := fm8q8 p0 ++ [byteU (32:Int)]
def fm8q10 (p0:List UInt8):Nat := LN (fm8q9 p0)
def fm8q11 (p0:List UInt8) (p1:Nat):List D := [ZB (BI (fm8q9 p0) p1)]
def fm8q12 (p0 p1:Nat) (p2:List UInt8):Prop := bFit [(N0,p0)] p1 p1 (69:Nat) (5:Nat) N0 p0 (fm8q10 p2) fun (i:Nat) => fm8q11 p2 i
def fm8q13 (p0:List Int) (p1:Nat):List UInt8 := (95:UInt8) :: List.append [] (fm8q6 p0 p1)
def fm8q14 (p0:List Int) (p1:Nat):Nat := LN (fm8q13 p0 p1)
def fm8q15 (p0:List Int):D := SI p0
def fm8q16 (p0:List Int):Prop := SM (fm8q15 p0)
def fm8q17 (p0:List Int) (p1:Nat):Prop := fm8q16 p0∧SM D.unk∧SM (D.ref N0 p1 N0)∧fm8q16 p0∧SM (ZI (LI p0))∧True
def fm8q18 (p0 p1:Nat):Prop := IntKind.wrap IntKind.i64 ((↑p0:Int) + Z1) = (↑p1:Int)∧True
def fm8q19 (p0:List UInt8):List UInt8 := bytesOf (fm8q10 p0) fun (i:Nat) => fm8q11 p0 i
def fm8q20 (p0:List UInt8) (p1:List Int) (p2:Nat):List UInt8 := fm8q19 p0 ++ fm8q13 p1 p2
def fm8q21 (p0:List UInt8) (p1:List Int) (p2:Nat):Nat := LN (fm8q20 p0 p1 p2)
def fm8q22 (p0:List UInt8) (p1:List Int) (p2:Nat):List UInt8 := fm8q19 p0 ++ fm8q3 p1 p2
def fm8q23 (p0:List UInt8) (p1:List Int) (p2:Nat):Nat := LN (fm8q22 p0 p1 p2)
def fm8q24 (p0:List UInt8) (p1:List Int) (p2:Nat):List UInt8 := fm8q8 p0 ++ fm8q13 p1 p2
def fm8q25 (p0:List UInt8) (p1:List Int) (p2:Nat):Nat := LN (fm8q24 p0 p1 p2)
def fm8q26 (p0:List UInt8) (p1:List Int) (p2:Nat):List UInt8 := fm8q8 p0 ++ fm8q3 p1 p2
def fm8q27 (p0:List UInt8) (p1:List Int) (p2:Nat):Nat := LN (fm8q26 p0 p1 p2)
end
theorem sshow_ok (l:List Int) (hl:l.length ≤ 1099511627776) (hc:∀ z ∈ l,inI64 z):ACalls Tryz.prog 101 [isl l .any] ⟨[],[]⟩ (SpecR (sC [isl l .any] (.str (dimsB l))) ()) := by
  refine con_of (A := sC _ _) (x := ()) (E := Ess l) (eOk conBd_ok rfl) Tryz.func101 rfl (by kernel_rfl) rfl (by simp [sC,Ess,EC,E0]) ?_
  refine vc_eq (T :=
    ∀ (y t:Nat),True→(∃ (x:Nat × Nat × List UInt8),fm8q0 l x.1 x.2.2∧(Z0 = (NI x.1)∧True)∧(SM y∧(N0 = LN x.2.2∧(∀ (i:Nat),i < N0→eqOf (List D) [] (fm8q1 x.2.2 i))∧t = x.2.1)∧True)∧t = x.2.1∧True)∧∀ (x:Nat × Nat × List UInt8),fm8q0 l x.1 x.2.2→ifB (decide ((NI x.1) < (LI l))) (side (Z0 ≤ (NI x.1)∧(NI x.1) < (LI l)) (ifB (decide (Z0 < (NI x.1))) (((fm8q2 x.2.1 y x.2.2∧(Z0 ≤ (32:Int)∧(32:Int) ≤ (255:Int))∧LN x.2.2 + N1 ≤ (140737488355328:Nat))∧True)∧∀ (y_1:Nat),True→inI64 (GI l (TN x.1))∧∀ (y_2:Unit),True→ifB (decide (GI l (TN x.1) < Z0)) (side (Z0 ≤ Z1∧Z1 ≤ fm8q5 l x.1∧fm8q5 l x.1 ≤ fm8q5 l x.1) (side (fm8q7 l x.1 ≤ (9223372036854775807:Nat)) (((fm8q12 y_1 y x.2.2∧fm8q10 x.2.2 + fm8q14 l x.1 ≤ (140737488355328:Nat))∧True)∧∀ (y_3:Nat),True→fm8q17 l y∧∃ (y_4:Nat × Nat × List UInt8),fm8q0 l y_4.1 y_4.2.2∧LN l - y_4.1 < LN l - x.1∧fm8q18 x.1 y_4.1∧(SM y∧(fm8q21 x.2.2 l x.1 = LN y_4.2.2∧(∀ (i:Nat),i < fm8q21 x.2.2 l x.1→[ZB (BI (fm8q20 x.2.2 l x.1) i)] = fm8q1 y_4.2.2 i)∧y_3 = y_4.2.1)∧True)∧y_3 = y_4.2.1∧True))) (((fm8q12 y_1 y x.2.2∧fm8q10 x.2.2 + fm8q4 l x.1 ≤ (140737488355328:Nat))∧True)∧∀ (y_3:Nat),True→fm8q17 l y∧∃ (y_4:Nat × Nat × List UInt8),fm8q0 l y_4.1 y_4.2.2∧LN l - y_4.1 < LN l - x.1∧fm8q18 x.1 y_4.1∧(SM y∧(fm8q23 x.2.2 l x.1 = LN y_4.2.2∧(∀ (i:Nat),i < fm8q23 x.2.2 l x.1→[ZB (BI (fm8q22 x.2.2 l x.1) i)] = fm8q1 y_4.2.2 i)∧y_3 = y_4.2.1)∧True)∧y_3 = y_4.2.1∧True)) (inI64 (GI l (TN x.1))∧∀ (y_1:Unit),True→ifB (decide (GI l (TN x.1) < Z0)) (side (Z0 ≤ Z1∧Z1 ≤ fm8q5 l x.1∧fm8q5 l x.1 ≤ fm8q5 l x.1) (side (fm8q7 l x.1 ≤ (9223372036854775807:Nat)) (((fm8q2 x.2.1 y x.2.2∧LN x.2.2 + fm8q14 l x.1 ≤ (140737488355328:Nat))∧True)∧∀ (y_2:Nat),True→fm8q17 l y∧∃ (y_3:Nat × Nat × List UInt8),fm8q0 l y_3.1 y_3.2.2∧LN l - y_3.1 < LN l - x.1∧fm8q18 x.1 y_3.1∧(SM y∧(fm8q25 x.2.2 l x.1 = LN y_3.2.2∧(∀ (i:Nat),i < fm8q25 x.2.2 l x.1→[ZB (BI (fm8q24 x.2.2 l x.1) i)] = fm8q1 y_3.2.2 i)∧y_2 = y_3.2.1)∧True)∧y_2 = y_3.2.1∧True))) (((fm8q2 x.2.1 y x.2.2∧LN x.2.2 + fm8q4 l x.1 ≤ (140737488355328:Nat))∧True)∧∀ (y_2:Nat),True→fm8q17 l y∧∃ (y_3:Nat × Nat × List UInt8),fm8q0 l y_3.1 y_3.2.2∧LN l - y_3.1 < LN l - x.1∧fm8q18 x.1 y_3.1∧(SM y∧(fm8q27 x.2.2 l x.1 = LN y_3.2.2∧(∀ (i:Nat),i < fm8q27 x.2.2 l x.1→[ZB (BI (fm8q26 x.2.2 l x.1) i)] = fm8q1 y_3.2.2 i)∧y_2 = y_3.2.1)∧True)∧y_2 = y_3.2.1∧True)))) (((fm8q2 x.2.1 y x.2.2∧LN x.2.2 ≤ (140737488355328:Nat))∧True)∧∀ (y:Unit),True→True∧∃ (y:Unit),True∧fm8q8 x.2.2 = dimsB l∧True∧True)) (by kernel_rfl) ?_
  delta BI GI LI LN N0 N1 NI SI SM TN U0 Z0 Z1 ZB ZI fm8q0 fm8q1 fm8q10 fm8q11 fm8q12 fm8q13 fm8q14 fm8q15 fm8q16 fm8q17 fm8q18 fm8q19 fm8q2 fm8q20 fm8q21 fm8q22 fm8q23 fm8q24 fm8q25 fm8q26 fm8q27 fm8q3 fm8q4 fm8q5 fm8q6 fm8q7 fm8q8 fm8q9
  simp only [ifB_iff,side_iff,decide_eq_true_eq,true_and,and_true,exists_const,forall_const,Int.toNat_natCast,eq_self,bytesOf_bsl,bfit_ok,List.take_length,app_nil']
  intro t
  refine ⟨⟨(0,t,[]),JHd.init _ _,rfl,⟨rfl,fun i hi => absurd hi (by omega),rfl⟩,rfl⟩,?_⟩
  rintro ⟨i,t1,out⟩ hh
  simp only at hh ⊢
  have h1 := hh.len
  have hd := dimsB_len hc
  have hdd:Lib.join (l.map showI) [32] = dimsB l := rfl
  rw [hdd] at h1
  refine ⟨fun hlt => ?_,fun hge => ?_⟩
  · have hlt':i < l.length := by omega
    have hz := hc _ (memI hlt')
    have hi := itoa_len hz
    have hb:byteU 32 = 32 := rfl
    have hm:i < (l.map showI).length := by simpa using hlt'
    have st:i ≠ 0→JHd [32] (l.map showI) (i + 1) (out ++ [byteU 32] ++ showI (l.getD i 0)) := fun h0 => by
      have := hh.step h0 hm
      rw [mapS hlt'] at this
      exact this
    have st0:i = 0→JHd [32] (l.map showI) (i + 1) (out ++ showI (l.getD i 0)) := fun h0 => by
      subst h0
      have := hh.step0 hm
      rw [mapS hlt'] at this
      exact this
    refine ⟨⟨by omega,by omega⟩,fun h0 => ⟨⟨⟨by omega,by omega⟩,by omega⟩,hz,fun hn => ⟨⟨by omega,by omega,by omega⟩,by rw [List.length_drop]; omega,?_,fun t3 => ⟨(i + 1,t3,out ++ [byteU 32] ++ 95 :: List.drop 1 (Lib.itoa (l.getD i 0))),?_,by simp only; omega,wrap_i64' (by omega) (by omega),⟨rfl,fun _ _ => rfl,rfl⟩,rfl⟩⟩,fun hn => ⟨?_,fun t3 => ⟨(i + 1,t3,out ++ [byteU 32] ++ Lib.itoa (l.getD i 0)),?_,by simp only; omega,wrap_i64' (by omega) (by omega),⟨rfl,fun _ _ => rfl,rfl⟩,rfl⟩⟩⟩,
      fun h0 => ⟨hz,fun hn => ⟨⟨by omega,by omega,by omega⟩,by rw [List.length_drop]; omega,?_,fun t3 => ⟨(i + 1,t3,out ++ 95 :: List.drop 1 (Lib.itoa (l.getD i 0))),?_,by simp only; omega,wrap_i64' (by omega) (by omega),⟨rfl,fun _ _ => rfl,rfl⟩,rfl⟩⟩,fun hn => ⟨?_,fun t3 => ⟨(i + 1,t3,out ++ Lib.itoa (l.getD i 0)),?_,by simp only; omega,wrap_i64' (by omega) (by omega),⟨rfl,fun _ _ => rfl,rfl⟩,rfl⟩⟩⟩⟩
    · simp only [List.length_append,List.length_cons,List.length_nil,List.length_drop]; omega
    · rw [← showI_neg hn]; exact st (by omega)
    · simp only [List.length_append,List.length_cons,List.length_nil]; omega
    · rw [← showI_pos (n := l.getD i 0) (by simpa using hn)]; exact st (by omega)
    · simp only [List.length_cons,List.length_drop]; omega
    · rw [← showI_neg hn]; exact st0 (by simpa using h0)
    · omega
    · rw [← showI_pos (n := l.getD i 0) (by simpa using hn)]; exact st0 (by simpa using h0)
  · have hge':¬ i < l.length := by simpa using hge
    have hd := hh.done (by simpa using hge')
    exact ⟨by omega,hd⟩
end Go.Proofs.YtflbmbkhjcbhoaaGreatDoor
namespace Go.Proofs.YtflbmbkhjcbhoaaGreatDoor
open Go Go.Ab
def boxW:List UInt8 := [98,111,120,32]
def reshW:List UInt8 := [32,114,101,115,104,97,112,101,32]
def scalK (k:Int) (n:List Int) (ls:List (List UInt8)):List UInt8 :=
  if k = 1 then showI (n.getD 0 0) else if k = 2 then quoB 39 [n.getD 0 0] else boxW ++ ls.getD 0 []
def itemB (l:List UInt8):List UInt8 := 40 :: (boxW ++ l ++ [41])
def vecK (k:Int) (n:List Int) (ls:List (List UInt8)):List UInt8 :=
  if k = 2 then quoB 34 n else Lib.join (n.map showI ++ ls.map itemB) [32]
def fillL (k:Int):List UInt8 := if k = 1 then showI 0 else if k = 2 then quoB 39 [32] else boxW ++ (dimsB [0] ++ reshW ++ showI 0)
def litK (k:Int) (s n:List Int) (ls:List (List UInt8)):List UInt8 :=
  if s.length = 0 then scalK k n ls
  else if s.length = 1∧(k = 2∨1 < n.length + ls.length) then vecK k n ls
  else dimsB s ++ reshW ++ (if n.length + ls.length = 0 then fillL k else if n.length + ls.length = 1 then scalK k n ls else vecK k n ls)
mutual
def litA:Arr→List UInt8
  | .mk k s n is => litK k s n (litsL is)
def litsL:List Arr→List (List UInt8)
  | [] => []
  | a :: r => litA a :: litsL r
end
theorem litsL_map:∀ l:List Arr,litsL l = l.map litA
  | [] => rfl
  | a :: l => by simp only [litsL,List.map_cons,litsL_map l]
theorem litA_eq (a:Arr):litA a = litK a.k a.sh a.nu (a.it.map litA) := by
  cases a with
  | mk k s n is => rw [litA,litsL_map]; rfl
def sumL:List (List UInt8)→Nat
  | [] => 0
  | x :: l => x.length + sumL l
theorem sumL_getD:∀ l:List (List UInt8),(l.getD 0 []).length ≤ sumL l
  | [] => by simp [sumL]
  | x :: l => by simp [sumL]
theorem sumL_append:∀ l r:List (List UInt8),sumL (l ++ r) = sumL l + sumL r
  | [],r => by simp [sumL]
  | x :: l,r => by simp only [List.cons_append,sumL,sumL_append l r]; omega
theorem jT_sum (sep:List UInt8):∀ l:List (List UInt8),(jT sep l).length = sep.length * l.length + sumL l
  | [] => by simp [jT,sumL]
  | x :: l => by
    have := jT_sum sep l
    simp only [jT,List.flatMap_cons,List.length_append,List.length_cons,Nat.mul_succ,sumL] at this ⊢
    omega
theorem join_sum (sep:List UInt8) (l:List (List UInt8)):(Lib.join l sep).length ≤ sep.length * l.length + sumL l := by
  cases l with
  | nil => simp [join_nil]
  | cons x l =>
    rw [join_cons]
    have := jT_sum sep l
    simp only [List.length_append,List.length_cons,Nat.mul_succ,sumL]
    omega
theorem sum_show:∀ l:List Int,(∀ z ∈ l,inI64 z)→sumL (l.map showI) ≤ 21 * l.length
  | [],_ => by simp [sumL]
  | x :: l,h => by
    have h1 := sum_show l fun y hy => h y (List.mem_cons_of_mem _ hy)
    have h2 := showI_len (h x List.mem_cons_self)
    simp only [List.map_cons,sumL,List.length_cons]; omega
theorem sum_item:∀ l:List (List UInt8),sumL (l.map itemB) = 6 * l.length + sumL l
  | [] => by simp [sumL]
  | x :: l => by
    have := sum_item l
    simp only [List.map_cons,sumL,List.length_cons,this,itemB,boxW,List.length_append,List.length_nil]; omega
theorem quoB_len (q:Int) (l:List Int):(quoB q l).length ≤ 8 + 6 * l.length := by
  have h1 := utf8_len q
  have h2 := escL_len q l
  simp only [quoB,List.length_append]; omega
theorem show_len' {z:Int} (h:inI64 z):(showI z).length ≤ 21 := (showI_len h).2
theorem getD_i64 {l:List Int} (h:∀ z ∈ l,inI64 z):inI64 (l.getD 0 0) := by
  cases l with
  | nil => exact ⟨by decide,by decide⟩
  | cons x l => exact h x List.mem_cons_self
theorem scalK_len (k:Int) {n:List Int} (hn:∀ z ∈ n,inI64 z) (ls:List (List UInt8)):(scalK k n ls).length ≤ 21 + sumL ls := by
  have h1 := show_len' (getD_i64 hn)
  have h2 := quoB_len 39 [n.getD 0 0]
  have h3 := sumL_getD ls
  simp only [List.length_cons,List.length_nil] at h2
  unfold scalK boxW
  split
  · omega
  split
  · omega
  · simp only [List.length_append,List.length_cons,List.length_nil]; omega
theorem vecK_len (k:Int) {n:List Int} (hn:∀ z ∈ n,inI64 z) (ls:List (List UInt8)):(vecK k n ls).length ≤ 8 + 22 * n.length + 7 * ls.length + sumL ls := by
  have h1 := quoB_len 34 n
  have h2 := join_sum [32] (n.map showI ++ ls.map itemB)
  have h3 := sum_show n hn
  have h4 := sum_item ls
  rw [sumL_append] at h2
  simp only [List.length_append,List.length_map,List.length_cons,List.length_nil] at h2
  unfold vecK
  split <;> omega
theorem fillL_len (k:Int):(fillL k).length ≤ 60 := by
  have h0:inI64 0 := ⟨by decide,by decide⟩
  have h1 := show_len' h0
  have h2 := quoB_len 39 [32]
  have h3 := dimsB_len (l := [0]) (by simpa using h0)
  simp only [List.length_cons,List.length_nil] at h2 h3
  unfold fillL boxW reshW
  split
  · omega
  split
  · omega
  · simp only [List.length_append,List.length_cons,List.length_nil]; omega
theorem litK_len (k : Int) {s n : List Int} (hs8 : s.length ≤ 8) (hs : ∀ z ∈ s, inI64 z) (hn : ∀ z ∈ n, inI64 z) (ls : List (List UInt8)) :
    (litK k s n ls).length ≤ 300 + 22 * n.length + 7 * ls.length + sumL ls := by
  have h1 := scalK_len k hn ls
  have h2 := vecK_len k hn ls
  have h3 := fillL_len k
  have h4 := dimsB_len hs
  unfold litK reshW
  split
  · omega
  split
  · omega
  · simp only [List.length_append,List.length_cons,List.length_nil]
    split
    · omega
    split <;> omega
mutual
def totA:Arr→Nat
  | .mk _ _ n is => n.length + totL is
def totL:List Arr→Nat
  | [] => 0
  | a :: r => 1 + totA a + totL r
end
theorem litA_len:∀ a:Arr,a.ok→(chkA a).1 = 0→(litA a).length ≤ 600 * totA a + 300
  | .mk k s n is,ho,h => by
    obtain ⟨h1,_,_,h4⟩ := chkA_zero h
    simp only [Arr.ok] at ho
    obtain ⟨_,hs,hn,_,_,_,hi⟩ := ho
    have hi := (okL_iff _).1 hi
    have key:∀ l:List Arr,(∀ x ∈ l,x ∈ is)→7 * l.length + sumL (litsL l) ≤ 600 * totL l := fun l => by
      induction l with
      | nil => simp [litsL,sumL,totL]
      | cons x l ih =>
        intro hl
        have h5 := ih fun y hy => hl y (List.mem_cons_of_mem _ hy)
        have hx:x ∈ is := hl x List.mem_cons_self
        have h6 := litA_len x (hi x hx) (h4 x hx)
        simp only [litsL,sumL,totL,List.length_cons]; omega
    have hk := key is fun x hx => hx
    have h7 := litK_len k h1 hs hn (litsL is)
    have h8:(litsL is).length = is.length := by rw [litsL_map,List.length_map]
    simp only [litA,totA]
    omega
termination_by a => SizeOf.sizeOf a
decreasing_by
  have := List.sizeOf_lt_of_mem hx
  simp; omega
theorem chkL_big:∀ (l:List Arr) (d w:Int) (r:Int × Int),chkL l d w = some r→262145 ≤ w→262145 ≤ r.2
  | [],d,w,r,h,hw => by rw [chkL] at h; injection h with h; subst h; exact hw
  | x :: l,d,w,r,h,hw => by
    rw [chkL] at h
    split at h
    · cases h
    · have hb := (chkA_bounds x).2.1
      refine chkL_big l _ _ r h ?_
      split <;> omega
theorem chkL_tot:∀ (l:List Arr),(∀ x ∈ l,(chkA x).1 = 0→(chkA x).2.2 = totA x)→∀ (d w:Int) (r:Int × Int),chkL l d w = some r→r.2 ≤ 262144→r.2 = w + totL l - l.length
  | [],_,d,w,r,h,_ => by rw [chkL] at h; injection h with h; subst h; simp [totL]
  | x :: l,hx,d,w,r,h,hr => by
    rw [chkL] at h
    split at h
    · cases h
    · rename_i h0
      have h0:(chkA x).1 = 0 := Decidable.not_not.1 h0
      have h1 := hx x List.mem_cons_self h0
      by_cases hb:262145 < w + (chkA x).2.2
      · rw [if_pos hb] at h
        have := chkL_big l _ _ r h (Int.le_refl _)
        omega
      · rw [if_neg hb] at h
        have := chkL_tot l (fun y hy => hx y (List.mem_cons_of_mem _ hy)) _ _ r h hr
        simp only [totL,List.length_cons]
        omega
theorem chkA_tot:∀ a:Arr,(chkA a).1 = 0→(chkA a).2.2 = totA a
  | .mk k s n is,h => by
    have hx:∀ x ∈ is,(chkA x).1 = 0→(chkA x).2.2 = totA x := fun x hx h => chkA_tot x h
    rw [chkA] at h ⊢
    by_cases h0:formS k s n.length is.length ≠ 0
    · rw [if_pos h0] at h; exact (h0 h).elim
    · rw [if_neg h0] at h ⊢
      by_cases hb:n.any (badK k) = true
      · rw [if_pos hb] at h; simp at h
      · rw [if_neg hb] at h ⊢
        cases hr:chkL is 0 ((n.length:Int) + is.length) with
        | none => rw [hr] at h; simp at h
        | some r =>
          rw [hr] at h
          simp only at h ⊢
          by_cases hc:16 < r.1∨262144 < r.2
          · rw [if_pos hc] at h; simp at h
          · rw [if_neg hc]
            have := chkL_tot is hx _ _ r hr (by omega)
            simp only [totA]
            omega
termination_by a => SizeOf.sizeOf a
decreasing_by
  have := List.sizeOf_lt_of_mem hx
  simp; omega
theorem tot_le {a:Arr} (h:(chkA a).1 = 0):totA a ≤ 262144 := by
  have h1 := chkA_tot a h
  have h2 := chkA_bounds a
  omega
theorem lit_le {a:Arr} (ho:a.ok) (h:(chkA a).1 = 0):(litA a).length ≤ 157286700 := by
  have h1 := litA_len a ho h
  have h2 := tot_le h
  omega
end Go.Proofs.YtflbmbkhjcbhoaaGreatDoor
