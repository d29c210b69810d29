/- Functions of the given program and what each of them computes: lemmas towards the statement, their conditions stated with each of them. -/
import Derived.Test.YtflbmbkhjcbhoaaGreatDoorW3
import Derived.Laws.BitsLemmas
import Derived.Test.YtflbmbkhjcbhoaaGreatDoorProg
import Derived.Lib.LaidTab
import Derived.Lib.ItoaNum
import Derived.Lib.TrailingZeros
import Derived.Calls
import Derived.Below
import Derived.Laws.Entries
import Derived.Laws.Build
import Derived.Laws.Concat
import Derived.Laws.AppendOwn
import Derived.Laws.IdiomStrings
import Derived.Laws.BytesString
import Derived.Laws.NewFold
import Derived.Laws.MakeOwn
import Derived.Laws.IdiomCopy
import Derived.Laws.Shifts
import Derived.Laws.Strings
import Derived.Laws.Strings2
import Derived.Laws.Strings3
import Derived.Laws.RangeString
import Derived.MapKept
import Derived.Laws.StructEq
import Derived.Orders
import Derived.Scope
import Derived.ProofKit
import Derived.WalkKit
import Derived.OpenShut
import Derived.Recover
import Derived.KernelRfl
import Derived.Shelf.Strings.Builder1
import Derived.Shelf.Strings.Builder2
import Derived.Shelf.Strings.OnBuilder
import Derived.Shelf.Strings.BuilderF
import Derived.Shelf.Strconv.Itoa0
import Derived.Shelf.Strconv.Itoa1
import Derived.Shelf.LaysM
import Derived.Shelf.Strconv.Itoa2
import Derived.Shelf.Strconv.Itoa3
import Derived.Shelf.Strconv.Itoa4
import Derived.Shelf.Strings.Prefix
import Derived.Shelf.Bits.Mul64
import Derived.Shelf.Strings.Repeat
import Derived.Lib.Repeat
import Derived.Lib.AppendIntMem
import Derived.Lib.ItoaLen
import Derived.Test.YtflbmbkhjcbhoaaGreatDoorCards
import Derived.Test.YtflbmbkhjcbhoaaGreatDoorTie
import Derived.Deep.DeepHandedRow
import Derived.Stop.LaidErr
import Derived.Lib.Join
import Derived.Lib.Builder
import Derived.Lib.UnsafeStr
namespace Go.Proofs.YtflbmbkhjcbhoaaGreatDoor
open Go Go.Ab
set_option maxRecDepth 100000
def conVc (its:List Arr):Con := fun k ds S => match k with
  | 74 => some (sRc Arr.row1 (fun b => b ∈ its) (fun b => .str (litA b)))
  | 97 => match ds with
    | [.sl 1 n f m] => some (pC [.sl 1 n f m] (.str (Lib.join (strsOf n f) [32])) (strsB n f = true∧joinOk (strsOf n f) [32]))
    | _ => none
  | k => conJn k ds S
theorem conVc_ok {its:List Arr} (ih:∀ b ∈ its,ACalls Tryz.prog 74 ((sRc Arr.row2 (fun _ => True) (fun b => .str (litA b))).args b) ⟨[],[]⟩ (SpecR (sRc Arr.row2 (fun _ => True) (fun b => .str (litA b))) b)):ConOk Tryz.prog (conVc its) := by
  intro k ds S A h
  unfold conVc at h
  split at h
  · injection h with h; subst h
    exact ConOk.plain (fun b hb => sRc_row (ih b hb)) rfl rfl
  · split at h
    · injection h with h; subst h
      exact pC_ok fun ⟨h1,h2⟩ => ⟨weakL_refl _,sC_weak (us := [ssl (strsOf _ _) .any]) ⟨ssl_weak h1,trivial⟩ (fjoin_ok _ h2)⟩
    · cases h
  · exact conJn_ok _ _ _ _ h
noncomputable def Evc (a:Arr):Senv := { EC (conVc a.it) 44 4 [5,7,10,15,16,17,18,28,29,30,31] (fun _ => ([],[])) with
  gh := fun b => match b with
    | 0 => [.slot 3]
    | _ => []
  ann := fun b _ S => match b with
    | 0 => some { slots := [17,3],keep := [1,15,16],α := Nat × Nat × List (List UInt8),st := fun y => ([.int .i64 y.1,ssl y.2.2 (.tok 0 y.2.1)],⟨S.objs,[(0,y.2.1)]⟩),inv := fun y => y.1 ≤ a.nu.length∧y.2.2 = (a.nu.take y.1).map showI,mu := fun y => a.nu.length - y.1 }
    | 2 => some { slots := [30,3],keep := [1,28,29],α := Nat × Nat × List (List UInt8),st := fun y => ([.int .i64 y.1,ssl y.2.2 (.tok 0 y.2.1)],⟨S.objs,[(0,y.2.1)]⟩),inv := fun y => y.1 ≤ a.it.length∧y.2.2 = a.nu.map showI ++ (a.it.take y.1).map (fun b => itemB (litA b)),mu := fun y => a.it.length - y.1 }
    | _ => none }
theorem app_str {l : List (List UInt8)} {s : List UInt8} :
    ∀ i,i < l.length + 1→appF l.length (fun i => [D.str (l.getD i [])]) (fun i => [D.str ([s].getD i [])]) i = [D.str ((l ++ [s]).getD i [])] := by
  intro i hi
  simp only [appF]
  split
  · rename_i hlt
    simp [List.getD_eq_getElem?_getD,List.getElem?_append_left hlt]
  · have:i = l.length := by omega
    subst this
    simp [List.getD_eq_getElem?_getD]
theorem take_st {α:Type} {l:List α} {i:Nat} (d:α) (h:i < l.length):l.take (i + 1) = l.take i ++ [l.getD i d] := by
  rw [List.take_add_one,List.getElem?_eq_getElem h,List.getD_eq_getElem?_getD,List.getElem?_eq_getElem h]; rfl
theorem chk_chr {a:Arr} (h:(chkA a).1 = 0) (h2:a.k = 2):∀ c ∈ a.nu,0 ≤ c∧c ≤ 1114111 := by
  cases a with
  | mk k s n is =>
    have h2:k = 2 := h2
    subst h2
    rw [chkA] at h
    by_cases h0:formS 2 s n.length is.length ≠ 0
    · rw [if_pos h0] at h; exact (h0 h).elim
    · rw [if_neg h0] at h
      by_cases hb:n.any (badK 2) = true
      · rw [if_pos hb] at h; simp at h
      · intro c hc
        have hb:¬ badK 2 c = true := fun h => hb (List.any_eq_true.2 ⟨c,hc,h⟩)
        have:chrB c = true := by simpa [badK] using hb
        simp only [chrB,Bool.and_eq_true,decide_eq_true_eq] at this
        omega
theorem items_len {a:Arr} (ho:a.ok) (h:(chkA a).1 = 0):7 * a.it.length + sumL (a.it.map litA) ≤ 157286400 := by
  have ht := tot_le h
  cases a with
  | mk k s n is =>
    obtain ⟨_,_,_,h4⟩ := chkA_zero h
    simp only [Arr.ok] at ho
    have hi := (okL_iff _).1 ho.2.2.2.2.2.2
    have key:∀ l:List Arr,(∀ x ∈ l,x ∈ is)→7 * l.length + sumL (l.map litA) ≤ 600 * totL l := fun l => by
      induction l with
      | nil => simp [sumL,totL]
      | cons x l ih =>
        intro hl
        have h5 := ih fun y hy => hl y (List.mem_cons_of_mem _ hy)
        have hx:x ∈ is := hl x List.mem_cons_self
        have h6 := litA_len x (hi x hx) (h4 x hx)
        simp only [List.map_cons,sumL,totL,List.length_cons]; omega
    have hk := key is fun x hx => hx
    simp only [totA] at ht
    show 7 * is.length + sumL (is.map litA) ≤ _
    omega
theorem mem_sum:∀ {l:List Arr} {x:Arr},x ∈ l→(litA x).length ≤ sumL (l.map litA)
  | y :: l,x,h => by
    simp only [List.map_cons,sumL]
    rcases List.mem_cons.1 h with rfl | h
    · omega
    · have := mem_sum h; omega
theorem arr_dims {a:Arr} (ho:a.ok) (h:(chkA a).1 = 0):a.sh.length ≤ 8∧a.nu.length ≤ 65536∧a.it.length ≤ 65536∧(∀ z ∈ a.sh,inI64 z)∧∀ z ∈ a.nu,inI64 z := by
  cases a with
  | mk k s n is =>
    obtain ⟨h1,h2,h3,_⟩ := chkA_zero h
    simp only [Arr.ok] at ho
    exact ⟨h1,h2,h3,ho.2.1,ho.2.2.1⟩
structure LOk (a:Arr):Prop where
  kd:a.k = 1∨a.k = 2∨a.k = 3
  s8:a.sh.length ≤ 8
  n6:a.nu.length ≤ 65536
  i6:a.it.length ≤ 65536
  si:∀ z ∈ a.sh,inI64 z
  ni:∀ z ∈ a.nu,inI64 z
  sum:7 * a.it.length + sumL (a.it.map litA) ≤ 157286400
  chr:a.k = 2→∀ c ∈ a.nu,0 ≤ c∧c ≤ 1114111
  no:a.k ≠ 3→a.it = []
  bx:a.k = 3→a.nu = []
  sc:a.sh.length = 0→a.nu.length + a.it.length = 1
noncomputable section
def ve1q0 (p0:Arr):Int := Arr.k p0
def ve1q1 (p0:Arr):List Int := Arr.nu p0
def ve1q2 (p0:Arr):Nat := LN (ve1q1 p0)
def ve1q3 (p0:Arr) (p1:Nat):List D := [ZI (GI (ve1q1 p0) p1)]
def ve1q4 (p0:Arr):List Int := intsD (ve1q2 p0) fun (i:Nat) => ve1q3 p0 i
def ve1q5 (p0:Arr):List Arr := Arr.it p0
def ve1q6 (p0:Arr):List UInt8 := vecK (ve1q0 p0) (ve1q1 p0) (List.map litA (ve1q5 p0))
def ve1q7 (p0:Nat) (p1:Arr) (p2:List (List UInt8)):Prop := p0 ≤ ve1q2 p1∧p2 = List.map showI (List.take p0 (ve1q1 p1))
def ve1q8 (p0:List (List UInt8)) (p1:Nat):List D := [D.str (List.getD p0 p1 [])]
def ve1q9 (p0:Arr):Nat := LN (Arr.sh p0)
def ve1q10 (p0:Arr) (p1:Nat):List D := [ZI (GI (Arr.sh p0) p1)]
def ve1q11 (p0:Arr):Nat := LN (ve1q5 p0)
def ve1q12:Arr := DA
def ve1q13 (p0:Arr) (p1:Nat):Arr := List.getD (ve1q5 p0) p1 ve1q12
def ve1q14 (p0:Arr) (p1:Nat):List Int := Arr.sh (ve1q13 p0 p1)
def ve1q15 (p0:Arr) (p1:Nat):List Int := Arr.nu (ve1q13 p0 p1)
def ve1q16 (p0:Arr) (p1:Nat):List Arr := Arr.it (ve1q13 p0 p1)
def ve1q17 (p0:Arr) (p1:Nat):List D := [ZI (Arr.k (ve1q13 p0 p1)),SI (ve1q14 p0 p1),SI (ve1q15 p0 p1),D.sl N4 (LN (ve1q16 p0 p1)) (fun (i:Nat) => Arr.row (List.getD (ve1q16 p0 p1) i ve1q12)) Mode.any]
def ve1q18 (p0:Nat) (p1:Arr) (p2 p3:Nat):Prop := (SM p0∧(SM (ve1q0 p1)∧(SM (ve1q9 p1)∧(∀ (i:Nat),i < ve1q9 p1→SM (ve1q10 p1 i))∧True)∧(SM (ve1q2 p1)∧(∀ (i:Nat),i < ve1q2 p1→SM (ve1q3 p1 i))∧True)∧(SM (ve1q11 p1)∧(∀ (i:Nat),i < ve1q11 p1→SM (ve1q17 p1 i))∧True)∧True)∧True)∧p2 = p3∧True
def ve1q19 (p0:Arr):Int := (NI (ve1q2 p0))
def ve1q20 (p0:Arr):D := D.sl N1 (ve1q2 p0) (fun (i:Nat) => ve1q3 p0 i) Mode.any
def ve1q21 (p0:Arr):List UInt8 := litA p0
def ve1q22 (p0:Nat) (p1:Arr) (p2:List (List UInt8)):Prop := p0 ≤ ve1q11 p1∧p2 = List.map showI (ve1q1 p1) ++ List.map (fun (b:Arr) => itemB (ve1q21 b)) (List.take p0 (ve1q5 p1))
def ve1q23 (p0:Arr):Int := (NI (ve1q11 p0))
def ve1q24 (p0:Arr) (p1:Nat):Arr := List.getD (ve1q5 p0) (Int.toNat (↑p1:Int)) ve1q12
def ve1q25 (p0:Arr) (p1:Nat):List Int := Arr.sh (ve1q24 p0 p1)
def ve1q26 (p0:Arr) (p1:Nat):Nat := LN (ve1q25 p0 p1)
def ve1q27 (p0:Arr) (p1:Nat):List Int := Arr.nu (ve1q24 p0 p1)
def ve1q28 (p0:Arr) (p1:Nat):Nat := LN (ve1q27 p0 p1)
def ve1q29 (p0:Arr) (p1:Nat):List Arr := Arr.it (ve1q24 p0 p1)
def ve1q30 (p0:Arr) (p1:Nat):Nat := LN (ve1q29 p0 p1)
def ve1q31 (p0:Arr):D := D.sl N4 (ve1q11 p0) (fun (i:Nat) => ve1q17 p0 i) Mode.any
def ve1q32 (p0:List (List UInt8)):List (List UInt8) := strsOf (LN p0) fun (i:Nat) => ve1q8 p0 i
end
theorem vec_step (a : Arr) (ho : LOk a) (hc : ConOk Tryz.prog (conVc a.it)) :
    ACalls Tryz.prog 98 ((sRc Arr.row2 (fun _ => True) (fun a => .str (vecK a.k a.nu (a.it.map litA)))).args a) ⟨[],[]⟩ (SpecR (sRc Arr.row2 (fun _ => True) (fun a => .str (vecK a.k a.nu (a.it.map litA)))) a) := by
  refine con_of (A := sRc Arr.row2 (fun _ => True) (fun a => .str (vecK a.k a.nu (a.it.map litA)))) (x := a) (E := Evc a) (eOk hc rfl) Tryz.func98 rfl (by kernel_rfl) rfl (by simp [sRc,Evc,EC,E0]) ?_
  refine vc_eq (T :=
    ∀ (x:Nat),True→SM x∧ifB (ve1q0 a == (2:Int)) (SM x∧(ve1q2 a ≤ (1099511627776:Nat)∧(IntsP (ve1q2 a) fun (i:Nat) => ve1q3 a i)∧∀ (c:Int),c ∈ ve1q4 a→Z0 ≤ c∧c ≤ (1114111:Int))∧∀ (y:Unit),True→True∧∃ (y:Unit),True∧quoB (34:Int) (ve1q4 a) = ve1q6 a∧True∧True) (SM x∧∀ (t:Nat),(∃ (x_1:Nat × Nat × List (List UInt8)),ve1q7 x_1.1 a x_1.2.2∧(Z0 = (NI x_1.1)∧(N0 = LN x_1.2.2∧(∀ (i:Nat),i < N0→eqOf (List D) [] (ve1q8 x_1.2.2 i))∧t = x_1.2.1)∧True)∧ve1q18 x a t x_1.2.1)∧∀ (x_1:Nat × Nat × List (List UInt8)),ve1q7 x_1.1 a x_1.2.2→ifB (decide ((NI x_1.1) < ve1q19 a)) (side (Z0 ≤ (NI x_1.1)∧(NI x_1.1) < ve1q19 a) (inI64 (GI (ve1q1 a) (TN x_1.1))∧∀ (y:Unit),True→SM x_1.2.1∧side ((LN x_1.2.2 + N1) * (16:Nat) ≤ (140737488355328:Nat)∧LN x_1.2.2 + N1 ≤ (9223372036854775807:Nat)) (∀ (t:Nat),(SM (D.ref N0 x N0)∧SM (ve1q20 a)∧SM (ZI (ve1q19 a))∧True)∧∃ (y:Nat × Nat × List (List UInt8)),ve1q7 y.1 a y.2.2∧ve1q2 a - y.1 < ve1q2 a - x_1.1∧(IntKind.wrap IntKind.i64 ((NI x_1.1) + Z1) = (NI y.1)∧(LN x_1.2.2 + N1 = LN y.2.2∧(∀ (i:Nat),i < LN x_1.2.2 + N1→appF (LN x_1.2.2) (fun (i:Nat) => ve1q8 x_1.2.2 i) (fun (i:Nat) => [D.str (List.getD [showI (GI (ve1q1 a) (TN x_1.1))] i [])]) i = ve1q8 y.2.2 i)∧t = y.2.1)∧True)∧ve1q18 x a t y.2.1))) (SM x∧(∃ (x_2:Nat × Nat × List (List UInt8)),ve1q22 x_2.1 a x_2.2.2∧(Z0 = (NI x_2.1)∧(LN x_1.2.2 = LN x_2.2.2∧(∀ (i:Nat),i < LN x_1.2.2→ve1q8 x_1.2.2 i = ve1q8 x_2.2.2 i)∧x_1.2.1 = x_2.2.1)∧True)∧ve1q18 x a x_1.2.1 x_2.2.1)∧∀ (x_2:Nat × Nat × List (List UInt8)),ve1q22 x_2.1 a x_2.2.2→ifB (decide ((NI x_2.1) < ve1q23 a)) (side (Z0 ≤ (NI x_2.1)∧(NI x_2.1) < ve1q23 a) (∀ (x_3:Nat),x ≠ x_3∧True→SM x_3∧SM x_3∧∃ (x_4:Arr),((Arr.k (ve1q24 a x_2.1) = ve1q0 x_4∧(ve1q26 a x_2.1 = ve1q9 x_4∧(∀ (i:Nat),i < ve1q26 a x_2.1→[ZI (GI (ve1q25 a x_2.1) i)] = ve1q10 x_4 i)∧True)∧(ve1q28 a x_2.1 = ve1q2 x_4∧(∀ (i:Nat),i < ve1q28 a x_2.1→[ZI (GI (ve1q27 a x_2.1) i)] = ve1q3 x_4 i)∧True)∧(ve1q30 a x_2.1 = ve1q11 x_4∧(∀ (i:Nat),i < ve1q30 a x_2.1→Arr.row (List.getD (ve1q29 a x_2.1) i ve1q12) = Arr.row (ve1q13 x_4 i))∧True)∧True)∧True)∧(True∧True)∧x_4 ∈ ve1q5 a∧∀ (y:Unit),True→side ((5:Nat) + LN (ve1q21 x_4) ≤ (9223372036854775807:Nat)) (side (LN ((40:UInt8) :: (98:UInt8) :: (111:UInt8) :: (120:UInt8) :: (32:UInt8) :: List.append [] (ve1q21 x_4)) + N1 ≤ (9223372036854775807:Nat)) (SM x_2.2.1∧side ((LN x_2.2.2 + N1) * (16:Nat) ≤ (140737488355328:Nat)∧LN x_2.2.2 + N1 ≤ (9223372036854775807:Nat)) (∀ (t:Nat),(SM (D.ref N0 x N0)∧SM (ve1q31 a)∧SM (ZI (ve1q23 a))∧True)∧∃ (y:Nat × Nat × List (List UInt8)),ve1q22 y.1 a y.2.2∧ve1q11 a - y.1 < ve1q11 a - x_2.1∧(IntKind.wrap IntKind.i64 ((NI x_2.1) + Z1) = (NI y.1)∧(LN x_2.2.2 + N1 = LN y.2.2∧(∀ (i:Nat),i < LN x_2.2.2 + N1→appF (LN x_2.2.2) (fun (i:Nat) => ve1q8 x_2.2.2 i) (fun (i:Nat) => [D.str (List.getD [(40:UInt8) :: (98:UInt8) :: (111:UInt8) :: (120:UInt8) :: (32:UInt8) :: List.append (List.append [] (ve1q21 x_4)) [(41:UInt8)]] i [])]) i = ve1q8 y.2.2 i)∧t = y.2.1)∧True)∧ve1q18 x a t y.2.1))))) (((strsB (LN x_2.2.2) fun (i:Nat) => ve1q8 x_2.2.2 i) = true∧joinOk (ve1q32 x_2.2.2) [(32:UInt8)])∧∀ (y:Unit),True→True∧∃ (y:Unit),True∧Lib.join (ve1q32 x_2.2.2) [(32:UInt8)] = ve1q6 a∧True∧True)))) (by kernel_rfl) ?_
  delta DA GI LN N0 N1 N4 NI SI SM TN Z0 Z1 ZI ve1q0 ve1q1 ve1q10 ve1q11 ve1q12 ve1q13 ve1q14 ve1q15 ve1q16 ve1q17 ve1q18 ve1q19 ve1q2 ve1q20 ve1q21 ve1q22 ve1q23 ve1q24 ve1q25 ve1q26 ve1q27 ve1q28 ve1q29 ve1q3 ve1q30 ve1q31 ve1q32 ve1q4 ve1q5 ve1q6 ve1q7 ve1q8 ve1q9
  have da:(default:Arr) = Arr.mk 0 [] [] [] := rfl
  simp only [← da,ifB_iff,side_iff,decide_eq_true_eq,decide_eq_false_iff_not,true_and,and_true,beq_iff_eq,beq_eq_false_iff_ne,ne_eq,exists_const,forall_const,Int.toNat_natCast]
  simp only [intsD_isl]
  obtain ⟨_,l1,l2,l3,l4,l5,hsum,hchr,_,_,_⟩ := ho
  have tt:(∀ i:Nat,i < a.sh.length→True)∧(∀ i:Nat,i < a.nu.length→True)∧∀ i:Nat,i < a.it.length→True := ⟨fun _ _ => trivial,fun _ _ => trivial,fun _ _ => trivial⟩
  intro x
  refine ⟨fun h2 => ⟨⟨by omega,intsP_isl _,hchr h2⟩,by rw [vecK,if_pos h2]⟩,fun h2 t => ⟨⟨(0,t,[]),⟨Nat.zero_le _,rfl⟩,⟨rfl,rfl,fun i hi => absurd hi (by omega),rfl⟩,tt,rfl⟩,?_⟩⟩
  rintro ⟨i,t1,out⟩ ⟨hi,he⟩
  simp only at hi he ⊢
  have ho1:out.length = i := by rw [he,List.length_map,List.length_take]; omega
  refine ⟨fun hlt => ?_,fun hge => ⟨⟨(0,t1,out),⟨Nat.zero_le _,?_⟩,⟨rfl,rfl,fun _ _ => rfl,rfl⟩,tt,rfl⟩,?_⟩⟩
  · have hlt':i < a.nu.length := by omega
    refine ⟨⟨by omega,by omega⟩,l5 _ (memI hlt'),⟨by omega,by omega⟩,fun t2 => ⟨(i + 1,t2,out ++ [showI (a.nu.getD i 0)]),⟨by simp only; omega,?_⟩,by simp only; omega,⟨wrap_i64' (by omega) (by omega),by simp,app_str,rfl⟩,tt,rfl⟩⟩
    simp only
    rw [take_st 0 hlt',List.map_append,he]; rfl
  · have:i = a.nu.length := by omega
    subst this
    rw [he]; simp
  rintro ⟨j,t3,o2⟩ ⟨hj,he2⟩
  simp only at hj he2 ⊢
  have ho2:o2.length = a.nu.length + j := by rw [he2,List.length_append,List.length_map,List.length_map,List.length_take]; omega
  refine ⟨fun hlt => ⟨⟨by omega,by omega⟩,fun x3 _ => ?_⟩,fun hge => ?_⟩
  · have hlt':j < a.it.length := by omega
    have hm := mem_getD hlt'
    have hl := mem_sum hm
    refine ⟨a.it.getD j default,⟨rfl,⟨rfl,fun _ _ => rfl⟩,⟨rfl,fun _ _ => rfl⟩,rfl,fun _ _ => rfl⟩,hm,by omega,?_,⟨by omega,by omega⟩,fun t4 => ⟨(j + 1,t4,o2 ++ [itemB (litA (a.it.getD j default))]),⟨by simp only; omega,?_⟩,by simp only; omega,⟨wrap_i64' (by omega) (by omega),by simp,app_str,rfl⟩,tt,rfl⟩⟩
    · simp only [List.length_cons,app_nil']; omega
    · simp only
      rw [take_st default hlt',List.map_append,he2,List.append_assoc]; rfl
  · have hj':j = a.it.length := by omega
    subst hj'
    rw [List.take_length] at he2
    have hv:Lib.join o2 [32] = vecK a.k a.nu (a.it.map litA) := by
      rw [vecK,if_neg h2,he2,List.map_map]; rfl
    have hvl := vecK_len a.k l5 (a.it.map litA)
    rw [List.length_map] at hvl
    rw [strsOf_eq (l := o2) rfl (fun _ _ => rfl)]
    exact ⟨⟨strsB_eq (l := o2) rfl (fun _ _ => rfl),by omega,by rw [hv]; omega⟩,hv⟩
end Go.Proofs.YtflbmbkhjcbhoaaGreatDoor
namespace Go.Proofs.YtflbmbkhjcbhoaaGreatDoor
open Go Go.Ab
set_option maxRecDepth 100000
def sAt (q:Arr→Prop):FnSpec where
  β := Arr
  α := Unit
  args := fun a => [.agg a.row2,.int .i64 0]
  st := fun _ => ⟨[],[]⟩
  pre := q
  post := fun _ _ => True
  res := fun a _ => .ret (.agg (atA a 0).row1)
  out := fun _ _ => ⟨[],[]⟩
def conLf (a:Arr) (q:Arr→Prop):Con := fun k ds S => match k with
  | 74 => some (sRc Arr.row1 q (fun b => .str (litA b)))
  | 98 => some (sRc Arr.row2 (fun b => b = a) (fun b => .str (vecK b.k b.nu (b.it.map litA))))
  | 99 => some (sRc Arr.row2 (fun b => b = a) (fun b => .agg (fillA b.k).row1))
  | 100 => some (sAt (fun b => b = a∧a.nu.length + a.it.length = 1))
  | 101 => match ds with
    | [.sl 1 n f m] => some (pC [.sl 1 n f m] (.str (dimsB (intsD n f))) (IntsP n f∧n ≤ 1099511627776∧∀ z ∈ intsD n f,inI64 z))
    | _ => none
  | 97 => match ds with
    | [.sl 1 n f m] => some (pC [.sl 1 n f m] (.str (Lib.join (strsOf n f) [32])) (strsB n f = true∧joinOk (strsOf n f) [32]))
    | _ => none
  | k => conJn k ds S
theorem join2 (x y:List UInt8):Lib.join [x,y] [32] = x ++ 32 :: y := by rw [join_cons]; simp [jT]
theorem join3 (x y z:List UInt8):Lib.join [x,y,z] [32] = x ++ (32 :: (y ++ 32 :: z)) := by rw [join_cons]; simp [jT]
theorem strs2 (x y:List UInt8):strsOf 2 (fun i => [D.str ([x,y].getD i [])]) = [x,y] := rfl
theorem strs3 (x y z:List UInt8):strsOf 3 (fun i => [D.str ([x,y,z].getD i [])]) = [x,y,z] := rfl
theorem strsB2 (x y:List UInt8):strsB 2 (fun i => [D.str ([x,y].getD i [])]) = true := rfl
theorem strsB3 (x y z:List UInt8):strsB 3 (fun i => [D.str ([x,y,z].getD i [])]) = true := rfl
theorem ints1 (z:Int):intsD 1 (fun i => [[D.int .i64 z]].getD i []) = [z] := rfl
theorem intsP1 (z:Int):IntsP 1 (fun i => [[D.int .i64 z]].getD i []) := fun i hi => by
  have:i = 0 := by omega
  subst this; rfl
theorem fill_lit {k:Int} (h:k = 1∨k = 2∨k = 3):litA (fillA k) = fillL k := by
  rcases h with rfl | rfl | rfl
  · rfl
  · rfl
  · rfl
theorem litA_scal (k:Int) (n:List Int) (is:List Arr):litA (.mk k [] n is) = scalK k n (is.map litA) := by
  rw [litA,litsL_map,litK,if_pos List.length_nil]
theorem at_lit {a:Arr} (kd:a.k = 1∨a.k = 2∨a.k = 3) (bx:a.k = 3→a.nu = []) (h:a.nu.length + a.it.length = 1):litA (atA a 0) = scalK a.k a.nu (a.it.map litA) := by
  unfold atA
  by_cases h3:a.k = 3
  · rw [if_pos h3,litA_scal,h3]
    cases hi:a.it with
    | nil => rw [bx h3,hi] at h; simp at h
    | cons x l => rfl
  · rw [if_neg h3,litA_scal,scalK,scalK]
    by_cases h1:a.k = 1
    · rw [if_pos h1,if_pos h1]; rfl
    · rw [if_neg h1,if_neg h1,if_pos (by omega),if_pos (by omega)]; rfl
noncomputable def Elf (a:Arr) (q:Arr→Prop):Senv := EC (conLf a q) 90 5 [12,27,43,55,71,74,79] (fun _ => ([],[]))
noncomputable section
def lf1q0 (p0:Arr):Nat := LN (Arr.sh p0)
def lf1q1 (p0:Arr):Bool := (NI (lf1q0 p0)) == Z0
def lf1q2 (p0:Arr):Int := Arr.k p0
def lf1q3 (p0:Arr):Bool := bif lf1q1 p0 then lf1q2 p0 == Z1 else false
def lf1q4 (p0:Arr):List Int := Arr.nu p0
def lf1q5 (p0:Arr):Nat := LN (lf1q4 p0)
def lf1q6 (p0:Arr):Int := (NI (lf1q5 p0))
def lf1q7 (p0:Arr):Int := GI (lf1q4 p0) N0
def lf1q8 (p0:Arr):List UInt8 := litA p0
def lf1q9 (p0:Arr):Bool := lf1q2 p0 == (2:Int)
def lf1q10 (p0:Arr):Bool := bif lf1q1 p0 then lf1q9 p0 else false
def lf1q11 (p0:Arr) (p1:Nat):List D := List.getD [[ZI (lf1q7 p0)]] p1 []
def lf1q12 (p0:Arr):List Int := intsD N1 fun (i:Nat) => lf1q11 p0 i
def lf1q13 (p0:Arr):List Arr := Arr.it p0
def lf1q14 (p0:Arr):Nat := LN (lf1q13 p0)
def lf1q15:Arr := DA
def lf1q16 (p0:Arr):Arr := List.getD (lf1q13 p0) N0 lf1q15
def lf1q17 (p0:Arr):List Int := Arr.sh (lf1q16 p0)
def lf1q18 (p0:Arr):Nat := LN (lf1q17 p0)
def lf1q19 (p0:Arr) (p1:Nat):List D := [ZI (GI (Arr.sh p0) p1)]
def lf1q20 (p0:Arr):List Int := Arr.nu (lf1q16 p0)
def lf1q21 (p0:Arr):Nat := LN (lf1q20 p0)
def lf1q22 (p0:Arr) (p1:Nat):List D := [ZI (GI (lf1q4 p0) p1)]
def lf1q23 (p0:Arr):List Arr := Arr.it (lf1q16 p0)
def lf1q24 (p0:Arr):Nat := LN (lf1q23 p0)
def lf1q25 (p0:Arr) (p1:Nat):Arr := List.getD (lf1q13 p0) p1 lf1q15
def lf1q26 (p0:Arr) (p1:Nat):List D := Arr.row (lf1q25 p0 p1)
def lf1q27 (p0:Arr) (p1:Nat):List D := [D.str (List.getD [[(98:UInt8),(111:UInt8),(120:UInt8)],lf1q8 p0] p1 [])]
def lf1q28 (p0:Arr):List (List UInt8) := strsOf N2 fun (i:Nat) => lf1q27 p0 i
def lf1q29 (p0:Arr):Bool := (NI (lf1q0 p0)) == Z1
def lf1q30 (p0:Arr):Int := IntKind.wrap IntKind.i64 (lf1q6 p0 + (NI (lf1q14 p0)))
def lf1q31 (p0:Arr):Bool := decide (Z1 < lf1q30 p0)
def lf1q32 (p0:Arr):Bool := bif lf1q29 p0 then bif lf1q9 p0 then true else lf1q31 p0 else false
def lf1q33 (p0:Arr) (p1:Nat):List Int := Arr.sh (lf1q25 p0 p1)
def lf1q34 (p0:Arr) (p1:Nat):List Int := Arr.nu (lf1q25 p0 p1)
def lf1q35 (p0:Arr) (p1:Nat):List Arr := Arr.it (lf1q25 p0 p1)
def lf1q36 (p0:Arr) (p1:Nat):List D := [ZI (Arr.k (lf1q25 p0 p1)),SI (lf1q33 p0 p1),SI (lf1q34 p0 p1),D.sl N4 (LN (lf1q35 p0 p1)) (fun (i:Nat) => Arr.row (List.getD (lf1q35 p0 p1) i lf1q15)) Mode.any]
def lf1q37 (p0 p1:Arr):Prop := lf1q2 p0 = lf1q2 p1∧(lf1q0 p0 = lf1q0 p1∧(∀ (i:Nat),i < lf1q0 p0→lf1q19 p0 i = lf1q19 p1 i)∧True)∧(lf1q5 p0 = lf1q5 p1∧(∀ (i:Nat),i < lf1q5 p0→lf1q22 p0 i = lf1q22 p1 i)∧True)∧(lf1q14 p0 = lf1q14 p1∧(∀ (i:Nat),i < lf1q14 p0→lf1q36 p0 i = lf1q36 p1 i)∧True)∧True
def lf1q38 (p0 p1:Arr):Prop := lf1q37 p0 p1∧True
def lf1q39 (p0:Arr):List UInt8 := vecK (lf1q2 p0) (lf1q4 p0) (List.map litA (lf1q13 p0))
def lf1q40 (p0:Arr):Arr := fillA (lf1q2 p0)
def lf1q41 (p0:Arr):List Int := Arr.sh (lf1q40 p0)
def lf1q42 (p0:Arr):Nat := LN (lf1q41 p0)
def lf1q43 (p0:Arr):List Int := Arr.nu (lf1q40 p0)
def lf1q44 (p0:Arr):Nat := LN (lf1q43 p0)
def lf1q45 (p0:Arr):List Arr := Arr.it (lf1q40 p0)
def lf1q46 (p0:Arr):Nat := LN (lf1q45 p0)
def lf1q47 (p0:Arr):List Int := intsD (lf1q0 p0) fun (i:Nat) => lf1q19 p0 i
def lf1q48 (p0:Arr):Prop := (IntsP (lf1q0 p0) fun (i:Nat) => lf1q19 p0 i)∧lf1q0 p0 ≤ (1099511627776:Nat)∧∀ (z:Int),z ∈ lf1q47 p0→inI64 z
def lf1q49 (p0:Arr):List UInt8 := dimsB (lf1q47 p0)
def lf1q50 (p0 p1:Arr) (p2:Nat):List D := [D.str (List.getD [lf1q49 p0,[(114:UInt8),(101:UInt8),(115:UInt8),(104:UInt8),(97:UInt8),(112:UInt8),(101:UInt8)],lf1q8 p1] p2 [])]
def lf1q51 (p0 p1:Arr):List (List UInt8) := strsOf (3:Nat) fun (i:Nat) => lf1q50 p0 p1 i
def lf1q52 (p0:Arr→Prop) (p1:Arr) (p2:Nat) (p3:Arr):Prop := (True∧True)∧p0 p1∧∀ (_y:Unit),True→SM p2∧lf1q48 p3∧∀ (_y:Unit),True→((strsB (3:Nat) fun (i:Nat) => lf1q50 p3 p1 i) = true∧joinOk (lf1q51 p3 p1) [(32:UInt8)])∧∀ (_y:Unit),True→True∧∃ (_y:Unit),True∧Lib.join (lf1q51 p3 p1) [(32:UInt8)] = lf1q8 p3∧True∧True
def lf1q53 (p0:Arr):Arr := atA p0 N0
def lf1q54 (p0:Arr):List Int := Arr.sh (lf1q53 p0)
def lf1q55 (p0:Arr):Nat := LN (lf1q54 p0)
def lf1q56 (p0:Arr):List Int := Arr.nu (lf1q53 p0)
def lf1q57 (p0:Arr):Nat := LN (lf1q56 p0)
def lf1q58 (p0:Arr):List Arr := Arr.it (lf1q53 p0)
def lf1q59 (p0:Arr):Nat := LN (lf1q58 p0)
def lf1q60 (p0 p1:Arr) (p2:Nat):List D := [D.str (List.getD [lf1q49 p0,[(114:UInt8),(101:UInt8),(115:UInt8),(104:UInt8),(97:UInt8),(112:UInt8),(101:UInt8)],lf1q39 p1] p2 [])]
def lf1q61 (p0 p1:Arr):List (List UInt8) := strsOf (3:Nat) fun (i:Nat) => lf1q60 p0 p1 i
end
theorem lit_step (a : Arr) (q : Arr → Prop) (ho : LOk a) (hi : ∀ b ∈ a.it, q b) (h0 : a.sh.length ≠ 0 → a.nu.length + a.it.length = 0 → q (fillA a.k)) (h1 : a.sh.length ≠ 0 → a.nu.length + a.it.length = 1 → q (atA a 0)) (hc : ConOk Tryz.prog (conLf a q)) :
    ACalls Tryz.prog 74 ((sRc Arr.row2 (fun _ => True) (fun b => .str (litA b))).args a) ⟨[],[]⟩ (SpecR (sRc Arr.row2 (fun _ => True) (fun b => .str (litA b))) a) := by
  refine con_of (A := sRc Arr.row2 (fun _ => True) (fun b => .str (litA b))) (x := a) (E := Elf a q) (eOk hc rfl) Tryz.func74 rfl (by kernel_rfl) rfl (by simp [sRc,Elf,EC,E0]) ?_
  refine vc_eq (T :=
    ∀ (x:Nat),True→SM x∧SM x∧(SM x∧ifB (lf1q1 a) (SM x∧(lf1q2 a == Z1) = lf1q3 a∧True) (false = lf1q3 a∧True))∧ifB (lf1q3 a) (SM x∧side (Z0 ≤ Z0∧Z0 < lf1q6 a) (inI64 (lf1q7 a)∧∀ (y:Unit),True→True∧∃ (y:Unit),True∧showI (lf1q7 a) = lf1q8 a∧True∧True)) ((SM x∧ifB (lf1q1 a) (SM x∧lf1q9 a = lf1q10 a∧True) (false = lf1q10 a∧True))∧ifB (lf1q10 a) (SM x∧side (Z0 ≤ Z0∧Z0 < lf1q6 a) ((N1 ≤ (1099511627776:Nat)∧(IntsP N1 fun (i:Nat) => lf1q11 a i)∧∀ (c:Int),c ∈ lf1q12 a→Z0 ≤ c∧c ≤ (1114111:Int))∧∀ (y:Unit),True→True∧∃ (y:Unit),True∧quoB (39:Int) (lf1q12 a) = lf1q8 a∧True∧True)) (SM x∧ifB (lf1q1 a) (SM x∧side (Z0 ≤ Z0∧Z0 < (NI (lf1q14 a))) (∃ (x:Arr),((Arr.k (lf1q16 a) = lf1q2 x∧(lf1q18 a = lf1q0 x∧(∀ (i:Nat),i < lf1q18 a→[ZI (GI (lf1q17 a) i)] = lf1q19 x i)∧True)∧(lf1q21 a = lf1q5 x∧(∀ (i:Nat),i < lf1q21 a→[ZI (GI (lf1q20 a) i)] = lf1q22 x i)∧True)∧(lf1q24 a = lf1q14 x∧(∀ (i:Nat),i < lf1q24 a→Arr.row (List.getD (lf1q23 a) i lf1q15) = lf1q26 x i)∧True)∧True)∧True)∧(True∧True)∧q x∧∀ (y:Unit),True→((strsB N2 fun (i:Nat) => lf1q27 x i) = true∧joinOk (lf1q28 x) [(32:UInt8)])∧∀ (y:Unit),True→True∧∃ (y:Unit),True∧Lib.join (lf1q28 x) [(32:UInt8)] = lf1q8 a∧True∧True)) ((SM x∧ifB (lf1q29 a) (SM x∧ifB (lf1q9 a) (true = lf1q32 a∧True) (lf1q31 a = lf1q32 a∧True)) (false = lf1q32 a∧True))∧ifB (lf1q32 a) (SM x∧∃ (x:Arr),lf1q38 a x∧(True∧True)∧x = a∧∀ (y:Unit),True→True∧∃ (y:Unit),True∧lf1q39 x = lf1q8 a∧True∧True) (ifB (lf1q30 a == Z0) (SM x∧∃ (x_1:Arr),lf1q38 a x_1∧(True∧True)∧x_1 = a∧∀ (y:Unit),True→∃ (x_2:Arr),((Arr.k (lf1q40 x_1) = lf1q2 x_2∧(lf1q42 x_1 = lf1q0 x_2∧(∀ (i:Nat),i < lf1q42 x_1→[ZI (GI (lf1q41 x_1) i)] = lf1q19 x_2 i)∧True)∧(lf1q44 x_1 = lf1q5 x_2∧(∀ (i:Nat),i < lf1q44 x_1→[ZI (GI (lf1q43 x_1) i)] = lf1q22 x_2 i)∧True)∧(lf1q46 x_1 = lf1q14 x_2∧(∀ (i:Nat),i < lf1q46 x_1→Arr.row (List.getD (lf1q45 x_1) i lf1q15) = lf1q26 x_2 i)∧True)∧True)∧True)∧lf1q52 q x_2 x a) (ifB (lf1q30 a == Z1) (SM x∧∃ (x_1:Arr),(lf1q37 a x_1∧SM Z0∧True)∧(True∧True)∧(x_1 = a∧lf1q5 a + lf1q14 a = N1)∧∀ (y:Unit),True→∃ (x_2:Arr),((Arr.k (lf1q53 x_1) = lf1q2 x_2∧(lf1q55 x_1 = lf1q0 x_2∧(∀ (i:Nat),i < lf1q55 x_1→[ZI (GI (lf1q54 x_1) i)] = lf1q19 x_2 i)∧True)∧(lf1q57 x_1 = lf1q5 x_2∧(∀ (i:Nat),i < lf1q57 x_1→[ZI (GI (lf1q56 x_1) i)] = lf1q22 x_2 i)∧True)∧(lf1q59 x_1 = lf1q14 x_2∧(∀ (i:Nat),i < lf1q59 x_1→Arr.row (List.getD (lf1q58 x_1) i lf1q15) = lf1q26 x_2 i)∧True)∧True)∧True)∧lf1q52 q x_2 x a) (SM x∧∃ (x_1:Arr),lf1q38 a x_1∧(True∧True)∧x_1 = a∧∀ (y:Unit),True→SM x∧lf1q48 a∧∀ (y:Unit),True→((strsB (3:Nat) fun (i:Nat) => lf1q60 a x_1 i) = true∧joinOk (lf1q61 a x_1) [(32:UInt8)])∧∀ (y:Unit),True→True∧∃ (y:Unit),True∧Lib.join (lf1q61 a x_1) [(32:UInt8)] = lf1q8 a∧True∧True))))))) (by kernel_rfl) ?_
  delta DA GI LN N0 N1 N2 N4 NI SI SM Z0 Z1 ZI lf1q0 lf1q1 lf1q10 lf1q11 lf1q12 lf1q13 lf1q14 lf1q15 lf1q16 lf1q17 lf1q18 lf1q19 lf1q2 lf1q20 lf1q21 lf1q22 lf1q23 lf1q24 lf1q25 lf1q26 lf1q27 lf1q28 lf1q29 lf1q3 lf1q30 lf1q31 lf1q32 lf1q33 lf1q34 lf1q35 lf1q36 lf1q37 lf1q38 lf1q39 lf1q4 lf1q40 lf1q41 lf1q42 lf1q43 lf1q44 lf1q45 lf1q46 lf1q47 lf1q48 lf1q49 lf1q5 lf1q50 lf1q51 lf1q52 lf1q53 lf1q54 lf1q55 lf1q56 lf1q57 lf1q58 lf1q59 lf1q6 lf1q60 lf1q61 lf1q7 lf1q8 lf1q9
  have da:(default:Arr) = Arr.mk 0 [] [] [] := rfl
  simp only [← da,ifB_iff,side_iff,decide_eq_true_eq,decide_eq_false_iff_not,true_and,and_true,beq_iff_eq,Bool.cond_false_right,Bool.cond_true_left,Bool.and_eq_true,Bool.and_eq_false_iff,Bool.or_eq_true,Bool.or_eq_false_iff,beq_eq_false_iff_ne,ne_eq,exists_const,forall_const,intsD_isl]
  obtain ⟨kd,s8,n6,i6,si,ni,hsum,hchr,hno,hbx,hsc⟩ := ho
  have hw:IntKind.i64.wrap ((a.nu.length:Int) + (a.it.length:Int)) = (a.nu.length:Int) + (a.it.length:Int) := wrap_i64' (by omega) (by omega)
  have tt:(∀ i:Nat,i < a.sh.length→True)∧(∀ i:Nat,i < a.nu.length→True)∧∀ i:Nat,i < a.it.length→True := ⟨fun _ _ => trivial,fun _ _ => trivial,fun _ _ => trivial⟩
  simp only [hw,litA_eq a]
  simp only [strs2,strs3,strsB2,strsB3,ints1,joinOk,join2,join3,true_and]
  have hnu:a.sh.length = 0→a.k ≠ 3→a.nu.length = 1 := fun h1 h2 => by
    have := hsc h1
    rw [hno h2] at this
    simpa using this
  have hit:a.sh.length = 0→a.k = 3→a.it.length = 1 := fun h1 h2 => by
    have := hsc h1
    rw [hbx h2] at this
    simpa using this
  refine ⟨⟨fun h => by rw [h]; rfl,fun h => by rw [beq_eq_false_iff_ne.2 h]; rfl⟩,fun ⟨hs,hk⟩ => ?_,fun hn1 => ⟨⟨fun h => by rw [h]; rfl,fun h => by rw [beq_eq_false_iff_ne.2 h]; rfl⟩,fun ⟨hs,hk⟩ => ?_,fun hn2 => ⟨fun hs => ?_,fun hs => ?_⟩⟩⟩
  · have := hnu (by omega) (by omega)
    exact ⟨⟨by omega,by omega⟩,getD_i64 ni,by rw [litK,if_pos (by omega),scalK,if_pos hk]⟩
  · have := hnu (by omega) (by omega)
    refine ⟨⟨by omega,by omega⟩,⟨by omega,intsP1 _,?_⟩,by rw [litK,if_pos (by omega),scalK,if_neg (by omega),if_pos hk]⟩
    intro c hc
    rw [List.mem_singleton] at hc
    subst hc
    exact hchr hk _ (memI (by omega))
  · have hk:a.k = 3 := by omega
    have h1 := hit (by omega) hk
    have hm := mem_getD (l := a.it) (i := 0) (by omega)
    have hl := mem_sum hm
    refine ⟨⟨by omega,by omega⟩,a.it.getD 0 default,⟨rfl,⟨rfl,fun _ _ => rfl⟩,⟨rfl,fun _ _ => rfl⟩,rfl,fun _ _ => rfl⟩,hi _ hm,⟨by simp,?_⟩,?_⟩
    · simp only [List.length_append,List.length_cons,List.length_nil]; omega
    · rw [litK,if_pos (by omega),scalK,if_neg (by omega),if_neg (by omega)]
      have:(a.it.map litA).getD 0 [] = litA (a.it.getD 0 default) := by
        simp [List.getD_eq_getElem?_getD,List.getElem?_map,List.getElem?_eq_getElem (show 0 < a.it.length by omega)]
      rw [this]; rfl
  · have hd := dimsB_len si
    have hfl := fillL_len a.k
    have hsl := scalK_len a.k ni (a.it.map litA)
    have hvl := vecK_len a.k ni (a.it.map litA)
    rw [List.length_map] at hvl
    have len:∀ e:List UInt8,e.length ≤ 200000000→[dimsB a.sh,[114,101,115,104,97,112,101],e].length ≤ 140737488355328∧(dimsB a.sh ++ 32 :: ([114,101,115,104,97,112,101] ++ 32 :: e)).length ≤ 140737488355328 := fun e he => by
      refine ⟨by simp,?_⟩
      simp only [List.length_append,List.length_cons,List.length_nil]; omega
    have eqn:∀ e:List UInt8,dimsB a.sh ++ 32 :: ([114,101,115,104,97,112,101] ++ 32 :: e) = dimsB a.sh ++ reshW ++ e := fun e => by simp [reshW]
    refine ⟨⟨fun h => ⟨fun h2 => by rw [h,h2]; rfl,fun h2 => by rw [h,beq_eq_false_iff_ne.2 h2]; rfl⟩,fun h => by rw [beq_eq_false_iff_ne.2 h]; rfl⟩,fun ⟨h2,h3⟩ => ⟨a,⟨rfl,⟨rfl,fun _ _ => rfl⟩,⟨rfl,fun _ _ => rfl⟩,rfl,fun _ _ => rfl⟩,rfl,?_⟩,fun hn => ?_⟩
    · rw [litK,if_neg (by omega),if_pos ⟨by omega,by rw [List.length_map]; omega⟩]
    have hlk:litK a.k a.sh a.nu (a.it.map litA) = dimsB a.sh ++ reshW ++ (if a.nu.length + a.it.length = 0 then fillL a.k else if a.nu.length + a.it.length = 1 then scalK a.k a.nu (a.it.map litA) else vecK a.k a.nu (a.it.map litA)) := by
      rw [litK,if_neg (by omega),if_neg (by rw [List.length_map]; omega),List.length_map]
    rw [hlk]
    refine ⟨fun hz => ⟨a,⟨rfl,⟨rfl,fun _ _ => rfl⟩,⟨rfl,fun _ _ => rfl⟩,rfl,fun _ _ => rfl⟩,rfl,fillA a.k,⟨rfl,⟨rfl,fun _ _ => rfl⟩,⟨rfl,fun _ _ => rfl⟩,rfl,fun _ _ => rfl⟩,h0 (by omega) (by omega),⟨intsP_isl _,by omega,si⟩,?_,?_⟩,fun hz => ⟨fun h2 => ⟨a,⟨rfl,⟨rfl,fun _ _ => rfl⟩,⟨rfl,fun _ _ => rfl⟩,rfl,fun _ _ => rfl⟩,⟨rfl,by omega⟩,atA a 0,⟨rfl,⟨rfl,fun _ _ => rfl⟩,⟨rfl,fun _ _ => rfl⟩,rfl,fun _ _ => rfl⟩,h1 (by omega) (by omega),⟨intsP_isl _,by omega,si⟩,?_,?_⟩,fun h2 => ⟨a,⟨rfl,⟨rfl,fun _ _ => rfl⟩,⟨rfl,fun _ _ => rfl⟩,rfl,fun _ _ => rfl⟩,rfl,⟨intsP_isl _,by omega,si⟩,?_,?_⟩⟩⟩
    · rw [fill_lit kd]; exact len _ (by omega)
    · rw [fill_lit kd,eqn,if_pos (by omega)]
    · rw [at_lit kd hbx (by omega)]; exact len _ (by omega)
    · rw [at_lit kd hbx (by omega),eqn,if_neg (by omega),if_pos (by omega)]
    · exact len _ (by omega)
    · rw [eqn,if_neg (by omega),if_neg (by omega)]
end Go.Proofs.YtflbmbkhjcbhoaaGreatDoor
namespace Go.Proofs.YtflbmbkhjcbhoaaGreatDoor
open Go Go.Ab
set_option maxRecDepth 100000
def Lit (a:Arr):Prop := ACalls Tryz.prog 74 ((sRc Arr.row2 (fun _ => True) (fun b => .str (litA b))).args a) ⟨[],[]⟩ (SpecR (sRc Arr.row2 (fun _ => True) (fun b => .str (litA b))) a)
theorem fill_row2 (a:Arr):ACalls Tryz.prog 99 [.agg a.row2] ⟨[],[]⟩ (SpecR (sC [.agg a.row2] (.agg (fillA a.k).row1)) ()) := wkRet (fill_ok a.k _ _ _ _ _ _) (fill_wk a.k)
theorem conLf_ok {a:Arr} {q:Arr→Prop} (hq:∀ b,q b→Lit b) (hv:∀ b ∈ a.it,Lit b) (ho:LOk a) (hcl:a.nu.length + a.it.length = 1→ConOk Tryz.prog (conCl a.it)):ConOk Tryz.prog (conLf a q) := by
  intro k ds S A h
  unfold conLf at h
  split at h
  · injection h with h; subst h
    exact ConOk.plain (fun b hb => sRc_row (hq b hb)) rfl rfl
  · injection h with h; subst h
    refine ConOk.plain (fun b hb => ?_) rfl rfl
    have hb:b = a := hb
    rw [hb]
    exact (vec_step a ho (conVc_ok hv)).mono fun _ _ ⟨y,q1,q2,q3⟩ => ⟨y,q1,q2,q3⟩
  · injection h with h; subst h
    refine ConOk.plain (fun b hb => ?_) rfl rfl
    have hb:b = a := hb
    rw [hb]
    exact (fill_row2 a).mono fun _ _ ⟨y,q1,q2,q3⟩ => ⟨y,q1,q2,q3⟩
  · injection h with h; subst h
    refine ConOk.plain (fun b hb => ?_) rfl rfl
    obtain ⟨hb,h1⟩:b = a∧a.nu.length + a.it.length = 1 := hb
    rw [hb]
    have hsz:((0:Nat):Int) < sizeR a.k a.nu.length a.it.length := by
      unfold sizeR
      by_cases h3:a.k = 3
      · rw [if_neg (by omega),if_pos h3]
        have := ho.bx h3
        rw [this] at h1
        simp at h1
        omega
      · rw [if_pos (by have := ho.kd; omega)]
        have := ho.no h3
        rw [this] at h1
        simp at h1
        omega
    exact (wkRet (at_step a 0 ho.kd hsz (hcl h1)) (at_wk a 0)).mono fun _ _ ⟨y,q1,q2,q3⟩ => ⟨y,q1,q2,q3⟩
  · split at h
    · injection h with h; subst h
      exact pC_ok fun ⟨h1,h2,h3⟩ => ⟨weakL_refl _,sC_weak (isl_weak h1) (sshow_ok _ (by rw [intsD_len]; exact h2) h3)⟩
    · cases h
  · split at h
    · injection h with h; subst h
      exact pC_ok fun ⟨h1,h2⟩ => ⟨weakL_refl _,sC_weak (us := [ssl (strsOf _ _) .any]) ⟨ssl_weak h1,trivial⟩ (fjoin_ok _ h2)⟩
    · cases h
  · exact conJn_ok _ _ _ _ h
theorem conCl_of {its:List Arr} (h:∀ b ∈ its,(chkA b).1 = 0):ConOk Tryz.prog (conCl its) := by
  intro k' ds S A hk
  unfold conCl at hk
  split at hk
  · injection hk with hk; subst hk
    exact ConOk.plain (fun (b:Arr) hb => (cl_all b (h b hb)).mono fun _ _ ⟨y,q1,q2,q3⟩ => ⟨y,q1,q2,q3⟩) rfl rfl
  · cases hk
theorem lit_sc {a:Arr} (ho:LOk a) (hs:a.sh.length = 0) (ih:∀ b ∈ a.it,Lit b) (hv:∀ b ∈ a.it,(chkA b).1 = 0):Lit a :=
  lit_step a (· ∈ a.it) ho (fun _ hb => hb) (fun h => absurd hs h) (fun h => absurd hs h) (conLf_ok ih ih ho fun _ => conCl_of hv)
theorem lok_fill1:LOk (.mk 1 [] [0] []) := ⟨.inl rfl,by decide,by decide,by decide,by simp [Arr.sh],by simp [Arr.nu,inI64],by simp [Arr.it,sumL],fun h => absurd h (by decide),fun _ => rfl,fun h => absurd h (by decide),fun _ => rfl⟩
theorem lit_fill1:Lit (.mk 1 [] [0] []) := lit_sc lok_fill1 rfl (fun b hb => by cases hb) (fun b hb => by cases hb)
theorem lok_fill2:LOk (.mk 2 [] [32] []) := ⟨.inr (.inl rfl),by decide,by decide,by decide,by simp [Arr.sh],by simp [Arr.nu,inI64],by simp [Arr.it,sumL],by simp [Arr.nu],fun _ => rfl,fun h => absurd h (by decide),fun _ => rfl⟩
theorem lit_fill2:Lit (.mk 2 [] [32] []) := lit_sc lok_fill2 rfl (fun b hb => by cases hb) (fun b hb => by cases hb)
theorem lok_e:LOk (.mk 1 [0] [] []) := ⟨.inl rfl,by decide,by decide,by decide,by simp [Arr.sh,inI64],by simp [Arr.nu],by simp [Arr.it,sumL],fun h => absurd h (by decide),fun _ => rfl,fun h => absurd h (by decide),fun h => absurd h (by decide)⟩
theorem lit_e:Lit (.mk 1 [0] [] []) := by
  refine lit_step _ (· = .mk 1 [] [0] []) lok_e (fun b hb => by cases hb) (fun _ _ => rfl) (fun _ h => by cases h) ?_
  refine conLf_ok (fun b hb => ?_) (fun b hb => by cases hb) lok_e (fun h => by cases h)
  subst hb
  exact lit_fill1
theorem chk_e:(chkA (.mk 1 [0] [] [])).1 = 0 := by decide
theorem len_e:(litA (.mk 1 [0] [] [])).length ≤ 600 := by
  have := litK_len 1 (s := [0]) (n := []) (by decide) (by simp [inI64]) (by simp) []
  rw [litA]
  simp only [litsL,sumL,List.length_nil] at this ⊢
  omega
theorem lok_fill3:LOk (.mk 3 [] [] [.mk 1 [0] [] []]) := ⟨.inr (.inr rfl),by decide,by decide,by decide,by simp [Arr.sh],by simp [Arr.nu],by have := len_e; simp only [Arr.it,sumL,List.map_cons,List.map_nil,List.length_cons,List.length_nil]; omega,fun h => absurd h (by decide),fun h => absurd rfl h,fun _ => rfl,fun _ => rfl⟩
theorem lit_fill3:Lit (.mk 3 [] [] [.mk 1 [0] [] []]) := by
  refine lit_sc lok_fill3 rfl (fun b hb => ?_) (fun b hb => ?_)
  · have:b = .mk 1 [0] [] [] := List.mem_singleton.1 hb
    subst this; exact lit_e
  · have:b = .mk 1 [0] [] [] := List.mem_singleton.1 hb
    subst this; exact chk_e
theorem lit_fill {k:Int} (h:k = 1∨k = 2∨k = 3):Lit (fillA k) := by
  rcases h with rfl | rfl | rfl
  · exact lit_fill1
  · exact lit_fill2
  · exact lit_fill3
end Go.Proofs.YtflbmbkhjcbhoaaGreatDoor
namespace Go.Proofs.YtflbmbkhjcbhoaaGreatDoor
open Go Go.Ab
set_option maxRecDepth 100000
theorem form_parts {k:Int} {s:List Int} {nn ni:Nat} (h:formS k s nn ni = 0):(k ≠ 3→ni = 0∧(nn:Int) = sizeS s)∧(k = 3→nn = 0∧(ni:Int) = sizeS s) := by
  have hk := form_kind h
  unfold formS at h
  rw [if_pos hk] at h
  by_cases hd:dimsS s ≠ 0
  · rw [if_pos hd] at h; exact (hd h).elim
  · rw [if_neg hd] at h
    by_cases hc:((if k = 3 then (ni:Int) else nn) ≠ sizeS s)∨((if k = 3 then (nn:Int) else ni) ≠ 0)
    · rw [if_pos hc] at h; simp at h
    · have h1:(if k = 3 then (ni:Int) else nn) = sizeS s := Decidable.not_not.1 fun h => hc (.inl h)
      have h2:(if k = 3 then (nn:Int) else ni) = 0 := Decidable.not_not.1 fun h => hc (.inr h)
      refine ⟨fun h3 => ?_,fun h3 => ?_⟩
      · rw [if_neg h3] at h1 h2
        exact ⟨by omega,h1⟩
      · rw [if_pos h3] at h1 h2
        exact ⟨by omega,h1⟩
theorem lok_of {a:Arr} (ho:a.ok) (h:(chkA a).1 = 0):LOk a := by
  have hf := chk_form h
  obtain ⟨p1,p2⟩ := form_parts hf
  obtain ⟨l1,l2,l3,l4,l5⟩ := arr_dims ho h
  refine ⟨form_kind hf,l1,l2,l3,l4,l5,items_len ho h,chk_chr h,fun h3 => List.length_eq_zero_iff.1 (p1 h3).1,fun h3 => List.length_eq_zero_iff.1 (p2 h3).1,fun hs => ?_⟩
  have hs:a.sh = [] := List.length_eq_zero_iff.1 hs
  have h1:sizeS a.sh = 1 := by rw [hs]; rfl
  by_cases h3:a.k = 3
  · have := p2 h3; omega
  · have := p1 h3; omega
theorem lok_at {a:Arr} (lo:LOk a) (h1:a.nu.length + a.it.length = 1):LOk (atA a 0) := by
  unfold atA
  by_cases h3:a.k = 3
  · rw [if_pos h3]
    have h2:a.it.length = 1 := by have := lo.bx h3; rw [this] at h1; simpa using h1
    have hm := mem_getD (l := a.it) (i := 0) (by omega)
    have hl := mem_sum hm
    have hs := lo.sum
    exact ⟨.inr (.inr rfl),by simp [Arr.sh],by simp [Arr.nu],by simp [Arr.it],by simp [Arr.sh],by simp [Arr.nu],by show 7 * 1 + ((litA (a.it.getD 0 default)).length + 0) ≤ _; omega,fun h => absurd h (by show ¬ (3:Int) = 2; decide),fun h => absurd rfl h,fun _ => rfl,fun _ => rfl⟩
  · rw [if_neg h3]
    have h2:a.nu.length = 1 := by have := lo.no h3; rw [this] at h1; simpa using h1
    have hm:a.nu.getD 0 0 ∈ a.nu := memI (by omega)
    refine ⟨lo.kd,by simp [Arr.sh],by simp [Arr.nu],by simp [Arr.it],by simp [Arr.sh],?_,by simp [Arr.it,sumL],?_,fun _ => rfl,fun h => absurd h h3,fun _ => rfl⟩
    · intro z hz
      have:z = a.nu.getD 0 0 := List.mem_singleton.1 hz
      rw [this]; exact lo.ni _ hm
    · intro h z hz
      have:z = a.nu.getD 0 0 := List.mem_singleton.1 hz
      rw [this]; exact lo.chr h _ hm
theorem lit_all:∀ (a:Arr),a.ok→(chkA a).1 = 0→Lit a
  | .mk k s n is,ho,h => by
    have lo := lok_of ho h
    have hv := (chkA_zero h).2.2.2
    have hok:∀ b ∈ is,b.ok := by
      simp only [Arr.ok] at ho
      exact (okL_iff _).1 ho.2.2.2.2.2.2
    have ih:∀ b ∈ is,Lit b := fun b hb => lit_all b (hok b hb) (hv b hb)
    refine lit_step (.mk k s n is) (fun b => b ∈ is∨b = fillA k∨(b = atA (.mk k s n is) 0∧n.length + is.length = 1)) lo (fun b hb => .inl hb) (fun _ _ => .inr (.inl rfl)) (fun _ h1 => .inr (.inr ⟨rfl,h1⟩)) (conLf_ok (fun b hb => ?_) ih lo fun _ => conCl_ok h)
    rcases hb with hb | hb | ⟨hb,h1⟩
    · exact ih b hb
    · rw [hb]; exact lit_fill lo.kd
    · rw [hb]
      have hsub:∀ c ∈ (atA (.mk k s n is) 0).it,c ∈ is := by
        intro c hc
        unfold atA at hc
        by_cases h3:(Arr.mk k s n is).k = 3
        · rw [if_pos h3] at hc
          have h2:is.length = 1 := by
            have h4:n = [] := lo.bx h3
            rw [h4] at h1; simpa using h1
          have:c = is.getD 0 default := List.mem_singleton.1 hc
          rw [this]; exact mem_getD (by omega)
        · rw [if_neg h3] at hc; cases hc
      refine lit_sc (lok_at lo h1) ?_ (fun c hc => ih c (hsub c hc)) (fun c hc => hv c (hsub c hc))
      unfold atA
      split <;> rfl
termination_by a => SizeOf.sizeOf a
decreasing_by
  have := List.sizeOf_lt_of_mem hb
  simp; omega
def litF (a:Arr):List UInt8 := if (chkA a).1 = 0 then litA a else []
def conLt (a:Arr):Con := fun k _ _ => match k with
  | 23 => some (sRc Arr.row1 (fun b => b = a) (fun b => .int .i64 (chkA b).1))
  | 74 => some (sRc Arr.row1 (fun b => b = a∧(chkA a).1 = 0) (fun b => .str (litA b)))
  | _ => none
theorem conLt_ok {a:Arr} (ho:a.ok):ConOk Tryz.prog (conLt a) := by
  intro k ds S A h
  unfold conLt at h
  split at h
  · injection h with h; subst h
    refine ConOk.plain (fun b hb => ?_) rfl rfl
    have hb:b = a := hb
    rw [hb]
    exact (ri_ok a ho).mono fun _ _ ⟨y,q1,q2,q3⟩ => ⟨y,q1,q2,q3⟩
  · injection h with h; subst h
    refine ConOk.plain (fun b hb => ?_) rfl rfl
    obtain ⟨hb,h1⟩:b = a∧(chkA a).1 = 0 := hb
    rw [hb]
    exact sRc_row (lit_all a ho h1)
  · cases h
noncomputable def Elt (a:Arr):Senv := EC (conLt a) 8 3 [5] (fun _ => ([],[]))
noncomputable section
def lf3q0 (p0:Arr):Nat := LN (Arr.sh p0)
def lf3q1 (p0:Arr) (p1:Nat):List D := [ZI (GI (Arr.sh p0) p1)]
def lf3q2 (p0:Arr):Nat := LN (Arr.nu p0)
def lf3q3 (p0:Arr) (p1:Nat):List D := [ZI (GI (Arr.nu p0) p1)]
def lf3q4 (p0:Arr):Nat := LN (Arr.it p0)
def lf3q5 (p0:Arr) (p1:Nat):List D := Arr.row (GA (Arr.it p0) p1)
def lf3q6 (p0 p1:Arr):Prop := (Arr.k p0 = Arr.k p1∧(lf3q0 p0 = lf3q0 p1∧(∀ (i:Nat),i < lf3q0 p0→lf3q1 p0 i = lf3q1 p1 i)∧True)∧(lf3q2 p0 = lf3q2 p1∧(∀ (i:Nat),i < lf3q2 p0→lf3q3 p0 i = lf3q3 p1 i)∧True)∧(lf3q4 p0 = lf3q4 p1∧(∀ (i:Nat),i < lf3q4 p0→lf3q5 p0 i = lf3q5 p1 i)∧True)∧True)∧True
end
theorem litF_ok (a : Arr) (ho : a.ok) :
    ACalls Tryz.prog 33 ((sRc Arr.row1 (fun _ => True) (fun b => .str (litF b))).args a) ⟨[],[]⟩ (SpecR (sRc Arr.row1 (fun _ => True) (fun b => .str (litF b))) a) := by
  refine con_of (A := sRc Arr.row1 (fun _ => True) (fun b => .str (litF b))) (x := a) (E := Elt a) (eOk (conLt_ok ho) rfl) Tryz.func33 rfl (by kernel_rfl) rfl (by simp [sRc,Elt,EC,E0]) ?_
  refine vc_eq (T :=
    ∀ (x:Nat),True→SM x∧∃ (x_1:Arr),lf3q6 a x_1∧(True∧True)∧x_1 = a∧∀ (y:Unit),True→ifB (Prod.fst (chkA x_1) != Z0) (True∧∃ (y:Unit),True∧eqOf (List UInt8) [] (litF a)∧True∧True) (SM x∧∃ (x:Arr),lf3q6 a x∧(True∧True)∧(x = a∧Prod.fst (chkA a) = Z0)∧∀ (y:Unit),True→True∧∃ (y:Unit),True∧litA x = litF a∧True∧True)) (by kernel_rfl) ?_
  delta DA GA GI LN SM Z0 ZI lf3q0 lf3q1 lf3q2 lf3q3 lf3q4 lf3q5 lf3q6
  have da:(default:Arr) = Arr.mk 0 [] [] [] := rfl
  simp only [← da,ifB_iff,true_and,and_true,bne_iff_ne,ne_eq,exists_const,forall_const]
  refine ⟨a,⟨rfl,⟨rfl,fun _ _ => rfl⟩,⟨rfl,fun _ _ => rfl⟩,rfl,fun _ _ => rfl⟩,rfl,fun h => by rw [litF,if_neg h],fun h => ?_⟩
  have h:(chkA a).1 = 0 := by simpa using h
  exact ⟨a,⟨rfl,⟨rfl,fun _ _ => rfl⟩,⟨rfl,fun _ _ => rfl⟩,rfl,fun _ _ => rfl⟩,⟨rfl,h⟩,by rw [litF,if_pos h]⟩
end Go.Proofs.YtflbmbkhjcbhoaaGreatDoor
namespace Go.Proofs.YtflbmbkhjcbhoaaGreatDoor
open Go Go.Ab
set_option maxRecDepth 100000
def flatN (f:Nat→List UInt8):Nat→List UInt8
  | 0 => []
  | n + 1 => flatN f n ++ f n
def constT (i:Nat) (a:Arr):List UInt8 := wordsL [99,111,110,115,116] [showI i,litF a]
def cT (c:CodD) (i:Nat):List UInt8 := flatN (fun j => constT j (c.consts.getD j default)) i
def funH (i:Nat) (x:FnD):List UInt8 := wordsL [102,117,110] [showI i,[115,108,111,116,115],showI x.slots]
def fIn (x:FnD) (j:Nat):List UInt8 := flatN (fun j => lineT j (x.code.getD j default)) j
def funT (i:Nat) (x:FnD):List UInt8 := funH i x ++ fIn x x.code.length
def fT (c:CodD) (i:Nat):List UInt8 := flatN (fun i => funT i (c.funs.getD i default)) i
def kerH (i:Nat) (k:KeD):List UInt8 := wordsL [107,101,114,110,101,108] [showI i,[105,110,112,117,116,115],showI k.inputs,[114,101,100,117,99,101],showI k.reduce,[97,116],showI k.at_]
def kopT (k:KeD) (j:Nat) (x:I4):List UInt8 := wordsL (32 :: 32 :: showI (IntKind.i64.wrap (k.inputs + j))) [showI x.a,showI x.b,showI x.c,[97,116],showI x.d]
def kIn (k:KeD) (j:Nat):List UInt8 := flatN (fun j => kopT k j (k.ops.getD j default)) j
def kerT (i:Nat) (k:KeD):List UInt8 := kerH i k ++ kIn k k.ops.length
def kT (c:CodD) (i:Nat):List UInt8 := flatN (fun i => kerT i (c.kers.getD i default)) i
def lanH (i:Nat) (p:LaD):List UInt8 := wordsL [108,97,110,101,115] [showI i,[114,101,103,115],showI p.regs]
def lopT (x:I6):List UInt8 := wordsL (32 :: 32 :: showI x.a) [showI x.b,showI x.c,showI x.d,showI x.e,showI x.f]
def lIn (p:LaD) (j:Nat):List UInt8 := flatN (fun j => lopT (p.code.getD j default)) j
def lanT (i:Nat) (p:LaD):List UInt8 := lanH i p ++ lIn p p.code.length
def lT (c:CodD) (i:Nat):List UInt8 := flatN (fun i => lanT i (c.lanes.getD i default)) i
def s0 (c:CodD) (i:Nat):List UInt8 := cT c i
def s2 (c:CodD) (i:Nat):List UInt8 := s0 c c.consts.length ++ fT c i
def s4 (c:CodD) (i j:Nat):List UInt8 := s2 c i ++ (funH i (c.funs.getD i default) ++ fIn (c.funs.getD i default) j)
def s6 (c:CodD) (i:Nat):List UInt8 := s2 c c.funs.length ++ kT c i
def s8 (c:CodD) (i j:Nat):List UInt8 := s6 c i ++ (kerH i (c.kers.getD i default) ++ kIn (c.kers.getD i default) j)
def s10 (c:CodD) (i:Nat):List UInt8 := s6 c c.kers.length ++ lT c i
def s12 (c:CodD) (i j:Nat):List UInt8 := s10 c i ++ (lanH i (c.lanes.getD i default) ++ lIn (c.lanes.getD i default) j)
def showC (c:CodD):List UInt8 := if rightC c = 0 then s10 c c.lanes.length else []
theorem s0_step (c:CodD) (i:Nat):s0 c i ++ constT i (c.consts.getD i default) = s0 c (i + 1) := rfl
theorem s2_zero (c:CodD):s2 c 0 = s0 c c.consts.length := List.append_nil _
theorem s4_zero (c:CodD) (i:Nat):s2 c i ++ funH i (c.funs.getD i default) = s4 c i 0 := by
  simp only [s4,fIn,flatN,List.append_nil]
theorem s4_step (c:CodD) (i j:Nat):s4 c i j ++ lineT j ((c.funs.getD i default).code.getD j default) = s4 c i (j + 1) := by
  simp only [s4,fIn,flatN,List.append_assoc]
theorem s2_step (c:CodD) (i:Nat):s4 c i (c.funs.getD i default).code.length = s2 c (i + 1) := by
  simp only [s4,s2,fT,flatN,funT,List.append_assoc]
theorem s6_zero (c:CodD):s6 c 0 = s2 c c.funs.length := List.append_nil _
theorem s8_zero (c:CodD) (i:Nat):s6 c i ++ kerH i (c.kers.getD i default) = s8 c i 0 := by
  simp only [s8,kIn,flatN,List.append_nil]
theorem s8_step (c:CodD) (i j:Nat):s8 c i j ++ kopT (c.kers.getD i default) j ((c.kers.getD i default).ops.getD j default) = s8 c i (j + 1) := by
  simp only [s8,kIn,flatN,List.append_assoc]
theorem s6_step (c:CodD) (i:Nat):s8 c i (c.kers.getD i default).ops.length = s6 c (i + 1) := by
  simp only [s8,s6,kT,flatN,kerT,List.append_assoc]
theorem s10_zero (c:CodD):s10 c 0 = s6 c c.kers.length := List.append_nil _
theorem s12_zero (c:CodD) (i:Nat):s10 c i ++ lanH i (c.lanes.getD i default) = s12 c i 0 := by
  simp only [s12,lIn,flatN,List.append_nil]
theorem s12_step (c:CodD) (i j:Nat):s12 c i j ++ lopT ((c.lanes.getD i default).code.getD j default) = s12 c i (j + 1) := by
  simp only [s12,lIn,flatN,List.append_assoc]
theorem s10_step (c:CodD) (i:Nat):s12 c i (c.lanes.getD i default).code.length = s10 c (i + 1) := by
  simp only [s12,s10,lT,flatN,lanT,List.append_assoc]
theorem flatN_len {f:Nat→List UInt8} {B:Nat}:∀ (n:Nat),(∀ i,i < n→(f i).length ≤ B)→(flatN f n).length ≤ n * B
  | 0,_ => Nat.zero_le _
  | n + 1,h => by
    have h1 := flatN_len n fun i hi => h i (by omega)
    have h2 := h n (by omega)
    rw [flatN,List.length_append,Nat.add_mul,Nat.one_mul]; omega
theorem showI_le {n:Int} (h:inI64 n):(showI n).length ≤ 21 := (showI_len h).2
theorem litF_le {a:Arr} (ho:a.ok):(litF a).length ≤ 157286700 := by
  unfold litF
  split
  · exact lit_le ho ‹_›
  · exact Nat.zero_le _
theorem nat_i64 {i:Nat} (h:i < 2000):inI64 (i:Int) := by unfold inI64; omega
theorem wrap_in (n:Int):inI64 (IntKind.i64.wrap n) := by
  rw [IntKind.wrap_i64]; unfold inI64; omega
theorem const_le {i:Nat} {a:Arr} (hi:i < 2000) (ho:a.ok):(constT i a).length ≤ 157286800 := by
  have h1 := showI_le (nat_i64 hi)
  have h2 := litF_le ho
  simp only [constT,wordsL,List.foldl_cons,List.foldl_nil,List.length_append,List.length_cons,List.length_nil]; omega
theorem line_le {i:Nat} {x:I4} (hi:i < 2000) (hx:x.ok):(lineT i x).length ≤ 300 := by
  obtain ⟨x0,x1,x2,x3⟩ := hx
  have h1 := showI_le (nat_i64 hi)
  have h2 := nameT_len x.a
  have h3 := showI_le x1
  have h4 := showI_le x2
  have h5 := showI_le x3
  unfold lineT argsT wordsL
  split
  · simp only [List.cons_append,List.nil_append,List.foldl_cons,List.foldl_nil,List.length_append,List.length_cons,List.length_nil]; omega
  split
  · simp only [List.cons_append,List.nil_append,List.foldl_cons,List.foldl_nil,List.length_append,List.length_cons,List.length_nil]; omega
  · simp only [List.cons_append,List.nil_append,List.foldl_cons,List.foldl_nil,List.length_append,List.length_cons,List.length_nil]; omega
theorem funH_le {i:Nat} {x:FnD} (hi:i < 2000) (hx:x.ok):(funH i x).length ≤ 300 := by
  have h1 := showI_le (nat_i64 hi)
  have h2 := showI_le hx.1
  simp only [funH,wordsL,List.foldl_cons,List.foldl_nil,List.length_append,List.length_cons,List.length_nil]; omega
theorem kerH_le {i:Nat} {x:KeD} (hi:i < 2000) (hx:x.ok):(kerH i x).length ≤ 300 := by
  have h1 := showI_le (nat_i64 hi)
  have h2 := showI_le hx.1
  have h3 := showI_le hx.2.2.2.1
  have h4 := showI_le hx.2.2.2.2
  simp only [kerH,wordsL,List.foldl_cons,List.foldl_nil,List.length_append,List.length_cons,List.length_nil]; omega
theorem kop_le {k:KeD} {j:Nat} {x:I4} (hx:x.ok):(kopT k j x).length ≤ 300 := by
  obtain ⟨x0,x1,x2,x3⟩ := hx
  have h1 := showI_le (wrap_in (k.inputs + j))
  have h2 := showI_le x0
  have h3 := showI_le x1
  have h4 := showI_le x2
  have h5 := showI_le x3
  simp only [kopT,wordsL,List.foldl_cons,List.foldl_nil,List.length_append,List.length_cons,List.length_nil]; omega
theorem lanH_le {i:Nat} {x:LaD} (hi:i < 2000) (hx:x.ok):(lanH i x).length ≤ 300 := by
  have h1 := showI_le (nat_i64 hi)
  have h2 := showI_le hx.1
  simp only [lanH,wordsL,List.foldl_cons,List.foldl_nil,List.length_append,List.length_cons,List.length_nil]; omega
theorem lop_le {x:I6} (hx:x.ok):(lopT x).length ≤ 300 := by
  obtain ⟨x0,x1,x2,x3,x4,x5⟩ := hx
  have h1 := showI_le x0
  have h2 := showI_le x1
  have h3 := showI_le x2
  have h4 := showI_le x3
  have h5 := showI_le x4
  have h6 := showI_le x5
  simp only [lopT,wordsL,List.foldl_cons,List.foldl_nil,List.length_append,List.length_cons,List.length_nil]; omega
theorem fIn_le {x:FnD} {j:Nat} (hj:j ≤ x.code.length) (hl:x.code.length < 2000) (hx:x.ok):(fIn x j).length ≤ j * 300 :=
  flatN_len j fun i hi => line_le (by omega) (hx.2.1 _ (getD_mem' (d := default) (by omega)))
theorem kIn_le {x:KeD} {j:Nat} (hj:j ≤ x.ops.length) (hx:x.ok):(kIn x j).length ≤ j * 300 :=
  flatN_len j fun i hi => kop_le (hx.2.1 _ (getD_mem' (d := default) (by omega)))
theorem lIn_le {x:LaD} {j:Nat} (hj:j ≤ x.code.length) (hx:x.ok):(lIn x j).length ≤ j * 300 :=
  flatN_len j fun i hi => lop_le (hx.2.1 _ (getD_mem' (d := default) (by omega)))
theorem s0_le {c:CodD} (hc:c.ok) (hs:SmC c) {i:Nat} (hi:i ≤ c.consts.length):(s0 c i).length ≤ 400000000000 := by
  have h1:(cT c i).length ≤ i * 157286800 := flatN_len i fun j hj => const_le (by have := hs.cl; omega) (hc.1 _ (getD_mem' (d := default) (by omega)))
  have h2 := hs.cl
  unfold s0; omega
theorem s2_le {c:CodD} (hc:c.ok) (hs:SmC c) {i:Nat} (hi:i ≤ c.funs.length):(s2 c i).length ≤ 410000000000 := by
  have h0 := s0_le hc hs (Nat.le_refl _)
  have h1:(fT c i).length ≤ i * 700000 := flatN_len i fun j hj => by
    have hx := hc.2.1 _ (getD_mem' (d := default) (show j < c.funs.length by omega))
    have h3 := hs.fs j (by omega)
    have h4 := fIn_le (Nat.le_refl _) h3 hx
    have h5 := funH_le (i := j) (by have := hs.fl; omega) hx
    rw [funT,List.length_append]; omega
  have h2 := hs.fl
  rw [s2,List.length_append]; omega
theorem s4_le {c:CodD} (hc:c.ok) (hs:SmC c) {i j:Nat} (hi:i < c.funs.length) (hj:j ≤ (c.funs.getD i default).code.length):(s4 c i j).length ≤ 420000000000 := by
  have h0 := s2_le hc hs (Nat.le_of_lt hi)
  have hx := hc.2.1 _ (getD_mem' (d := default) hi)
  have h3 := hs.fs i hi
  have h4 := fIn_le hj h3 hx
  have h5 := funH_le (i := i) (by have := hs.fl; omega) hx
  rw [s4,List.length_append,List.length_append]; omega
theorem s6_le {c:CodD} (hc:c.ok) (hs:SmC c) {i:Nat} (hi:i ≤ c.kers.length):(s6 c i).length ≤ 430000000000 := by
  have h0 := s2_le hc hs (Nat.le_refl _)
  have h1:(kT c i).length ≤ i * 700000 := flatN_len i fun j hj => by
    have hx := hc.2.2.1 _ (getD_mem' (d := default) (show j < c.kers.length by omega))
    have h3 := hs.ks j (by omega)
    have h4 := kIn_le (Nat.le_refl _) hx
    have h5 := kerH_le (i := j) (by have := hs.kl; omega) hx
    rw [kerT,List.length_append]; omega
  have h2 := hs.kl
  rw [s6,List.length_append]; omega
theorem s8_le {c:CodD} (hc:c.ok) (hs:SmC c) {i j:Nat} (hi:i < c.kers.length) (hj:j ≤ (c.kers.getD i default).ops.length):(s8 c i j).length ≤ 440000000000 := by
  have h0 := s6_le hc hs (Nat.le_of_lt hi)
  have hx := hc.2.2.1 _ (getD_mem' (d := default) hi)
  have h3 := hs.ks i hi
  have h4 := kIn_le hj hx
  have h5 := kerH_le (i := i) (by have := hs.kl; omega) hx
  rw [s8,List.length_append,List.length_append]; omega
theorem s10_le {c:CodD} (hc:c.ok) (hs:SmC c) {i:Nat} (hi:i ≤ c.lanes.length):(s10 c i).length ≤ 450000000000 := by
  have h0 := s6_le hc hs (Nat.le_refl _)
  have h1:(lT c i).length ≤ i * 700000 := flatN_len i fun j hj => by
    have hx := hc.2.2.2.1 _ (getD_mem' (d := default) (show j < c.lanes.length by omega))
    have h3 := hs.ls j (by omega)
    have h4 := lIn_le (Nat.le_refl _) hx
    have h5 := lanH_le (i := j) (by have := hs.ll; omega) hx
    rw [lanT,List.length_append]; omega
  have h2 := hs.ll
  rw [s10,List.length_append]; omega
theorem s12_le {c:CodD} (hc:c.ok) (hs:SmC c) {i j:Nat} (hi:i < c.lanes.length) (hj:j ≤ (c.lanes.getD i default).code.length):(s12 c i j).length ≤ 460000000000 := by
  have h0 := s10_le hc hs (Nat.le_of_lt hi)
  have hx := hc.2.2.2.1 _ (getD_mem' (d := default) hi)
  have h3 := hs.ls i hi
  have h4 := lIn_le hj hx
  have h5 := lanH_le (i := i) (by have := hs.ll; omega) hx
  rw [s12,List.length_append,List.length_append]; omega
end Go.Proofs.YtflbmbkhjcbhoaaGreatDoor
namespace Go.Proofs.YtflbmbkhjcbhoaaGreatDoor
open Go Go.Ab
set_option maxRecDepth 100000
theorem eff_rng {c:CodD} {f:Nat} {x:I4} (h:effC c f x ≠ none):0 ≤ x.a∧x.a < 28 := by
  refine Decidable.byContradiction fun hn => h ?_
  unfold effC effS plainS
  repeat rw [if_neg (by omega)]
  by_cases hb:x.b = 0∧x.c = 0
  · rw [if_pos hb]
    repeat rw [if_neg (by omega)]
  · rw [if_neg hb]
theorem step_rng {c:CodD} {f i:Nat} {x:I4} {st:List UInt8} (h:stepS c f i x st ≠ none):0 ≤ x.a∧x.a < 28 := by
  refine eff_rng (c := c) (f := f) fun e => h ?_
  unfold stepS; rw [e]
theorem run_rng {c:CodD} {f:Nat}:∀ (l:List I4) (i:Nat) (st:List UInt8) (d:Nat),runS c f i l st d ≠ none→∀ x ∈ l,0 ≤ x.a∧x.a < 28
  | [],_,_,_,_,_,hx => nomatch hx
  | y :: r,i,st,d,h,x,hx => by
    unfold runS at h
    split at h
    · exact absurd rfl h
    · rename_i nx e
      cases hx with
      | head => exact step_rng (c := c) (f := f) (i := i) (st := st) (by rw [e]; exact nofun)
      | tail _ hx => exact run_rng r (i + 1) nx _ h x hx
theorem fun_rng {c:CodD} {f:Nat} (h:(funS c f).isSome = true):∀ x ∈ (c.funs.getD f default).code,0 ≤ x.a∧x.a < 28 := by
  unfold funS at h
  simp only at h
  split at h
  · split at h
    · cases h
    · rename_i d e
      exact run_rng _ 0 [] 0 (by rw [e]; exact nofun)
  · cases h
theorem right_zero {c:CodD} (h:rightC c = 0):(c.funs.length ≤ 1024∧c.kers.length ≤ 4096∧c.funs.length ≠ 0)∧(∀ f,f < c.funs.length→(funS c f).isSome = true)∧(∀ a ∈ c.consts,(chkA a).1 = 0) := by
  unfold rightC at h
  split at h
  · cases h
  split at h
  · cases h
  split at h
  · cases h
  split at h
  · cases h
  split at h
  · rename_i h1 h2 h3 _ h5
    refine ⟨⟨by omega,by omega,by omega⟩,fun f hf => List.all_eq_true.1 h5 f (List.mem_range.2 hf),fun a ha => ?_⟩
    refine Decidable.byContradiction fun hn => h2 (List.any_eq_true.2 ⟨a,ha,by simpa using hn⟩)
  · cases h
theorem ops_rng {c:CodD} (h:rightC c = 0) {i j:Nat} (hi:i < c.funs.length) (hj:j < (c.funs.getD i default).code.length):0 ≤ ((c.funs.getD i default).code.getD j default).a∧((c.funs.getD i default).code.getD j default).a < 28 :=
  fun_rng ((right_zero h).2.1 i hi) _ (getD_mem' hj)
end Go.Proofs.YtflbmbkhjcbhoaaGreatDoor
namespace Go.Proofs.YtflbmbkhjcbhoaaGreatDoor
open Go Go.Ab
set_option maxRecDepth 100000
def CodD.row1 (c:CodD):List D := [gsl 4 Arr.row1 c.consts,gsl 2 FnD.row c.funs,gsl 4 KeD.row c.kers,gsl 2 LaD.row c.lanes]
theorem crow1_row (c:CodD):wkL c.row1 c.row := by
  simp only [CodD.row1,CodD.row,gsl,wkL,wkD,chk_iff]
  exact ⟨⟨by simp,trivial,fun i _ => row1_row _,by simp [weakM]⟩,⟨by simp,trivial,fun i _ => wkL_refl _,by simp [weakM]⟩,⟨by simp,trivial,fun i _ => wkL_refl _,by simp [weakM]⟩,⟨by simp,trivial,fun i _ => wkL_refl _,by simp [weakM]⟩,trivial⟩
theorem crow_row1 (c:CodD):wkL c.row c.row1 := by
  simp only [CodD.row1,CodD.row,gsl,wkL,wkD,chk_iff]
  exact ⟨⟨by simp,trivial,fun i _ => row_wk _,by simp [weakM]⟩,⟨by simp,trivial,fun i _ => wkL_refl _,by simp [weakM]⟩,⟨by simp,trivial,fun i _ => wkL_refl _,by simp [weakM]⟩,⟨by simp,trivial,fun i _ => wkL_refl _,by simp [weakM]⟩,trivial⟩
def conSw (c:CodD):Con := fun k ds S => match k with
  | 10 => some (pC ds (.int .i64 (rightC c)) (weakL ds [.agg c.row1]))
  | 33 => some (sRc Arr.row1 (fun b => b ∈ c.consts) (fun b => .str (litF b)))
  | 34 => match ds with
    | [.int .i64 i,.agg [.int .i64 a,.int .i64 b,.int .i64 d,.int .i64 e]] => some (pC [.int .i64 i,.agg (I4.row ⟨a,b,d,e⟩)] (.str (lineT i ⟨a,b,d,e⟩)) (inI64 i∧I4.ok ⟨a,b,d,e⟩∧0 ≤ a∧a < 28))
    | _ => none
  | 32 => conWd 32 ds S
  | k => conBd k ds S
theorem wk_row {k:Nat} {r r':List D} {d:D} (h:ACalls Tryz.prog k [.agg r'] ⟨[],[]⟩ (SpecR (sC [.agg r'] d) ())) (hw:wkL r r'):ACalls Tryz.prog k [.agg r] ⟨[],[]⟩ (SpecR (sC [.agg r] d) ()) :=
  (h.wkArgs (by simp only [wkL,wkD]; exact ⟨hw,trivial⟩)).mono fun _ _ ⟨y,q1,q2,q3⟩ => ⟨y,q1,q2,q3⟩
theorem conSw_ok {c:CodD} (hc:c.ok) (hs:SmC c):ConOk Tryz.prog (conSw c) := by
  intro k ds S A h
  unfold conSw at h
  split at h
  · injection h with h; subst h
    exact pC_ok fun e => ⟨weakL_refl _,sC_weak e (wk_row (rt_ok c hc fun f hf => by have := hs.fs f hf; omega) (crow1_row c))⟩
  · injection h with h; subst h
    refine ConOk.plain (fun (b:Arr) hb => ?_) rfl rfl
    exact (litF_ok b (hc.1 b hb)).mono fun _ _ ⟨y,q1,q2,q3⟩ => ⟨y,q1,q2,q3⟩
  · split at h
    · injection h with h; subst h
      exact pC_ok fun ⟨h1,h2,h3⟩ => ⟨weakL_refl _,line_ok _ _ h1 h2 h3⟩
    · cases h
  · exact conWd_ok _ _ _ _ h
  · exact conBd_ok _ _ _ _ h
theorem bld_next {L M:List UInt8} (e:L = M):L.length = M.length∧∀ i,i < L.length→[D.int .u8 ((L.getD i 0).toNat:Int)] = [D.int .u8 ((M.getD i 0).toNat:Int)] := by
  subst e; exact ⟨rfl,fun _ _ => rfl⟩
theorem both {p:Prop} (h:p):p∧p := ⟨h,h⟩
theorem selfA (a:Arr):a.k = a.k∧(a.sh.length = a.sh.length∧∀ i,i < a.sh.length→[D.int .i64 (a.sh.getD i 0)] = [D.int .i64 (a.sh.getD i 0)])∧(a.nu.length = a.nu.length∧∀ i,i < a.nu.length→[D.int .i64 (a.nu.getD i 0)] = [D.int .i64 (a.nu.getD i 0)])∧a.it.length = a.it.length∧∀ i,i < a.it.length→(a.it.getD i (Arr.mk 0 [] [] [])).row = (a.it.getD i (Arr.mk 0 [] [] [])).row := ⟨rfl,⟨rfl,fun _ _ => rfl⟩,⟨rfl,fun _ _ => rfl⟩,rfl,fun _ _ => rfl⟩
noncomputable def Esw (c:CodD):Senv := { EC (conSw c) 175 16 [17,20,22,23,24,25,39,40,41,42,56,57,58,59,70,71,72,73,95,96,97,98,127,128,129,130,144,145,146,147] (fun id => match id with | 26 => ([0,1,2,3,6,7,8,9,10,11,12,13,14,15,16,17,18,4,5,19,20,21],[4,19,20,21]) | 36 => ([0,1,4,5,6,7,8,9,10,11,12,13,14,15,16,17,18,2,3,19,20,21],[2,19,20,21]) | _ => ([],[])) with
  bd := fun t => match t with
    | 69 => some 5
    | _ => none
  ann := fun q env S => match q with
    | 0 => some { slots := [24],keep := [0,1,3,22,23],α := Nat × Nat,st := fun y => ([.int .i64 y.1],⟨setO S.objs 1 (.bld 69 5 (bsl (s0 c y.1) (.tok 0 y.2))),[(0,y.2)]⟩),inv := fun y => y.1 ≤ c.consts.length,mu := fun y => c.consts.length - y.1 }
    | 2 => some { slots := [41],keep := [0,1,3,39,40],α := Nat × Nat,st := fun y => ([.int .i64 y.1],⟨setO S.objs 1 (.bld 69 5 (bsl (s2 c y.1) (.tok 0 y.2))),[(0,y.2)]⟩),inv := fun y => y.1 ≤ c.funs.length,mu := fun y => c.funs.length - y.1 }
    | 4 => some { slots := [58],keep := [0,1,3,39,40,41,56,57],α := Nat × Nat,st := fun y => ([.int .i64 y.1],⟨setO S.objs 1 (.bld 69 5 (bsl (s4 c (numOf (Ab.look env 41)).toNat y.1) (.tok 0 y.2))),[(0,y.2)]⟩),inv := fun y => y.1 ≤ (c.funs.getD (numOf (Ab.look env 41)).toNat default).code.length,mu := fun y => (c.funs.getD (numOf (Ab.look env 41)).toNat default).code.length - y.1 }
    | 6 => some { slots := [72],keep := [0,1,3,70,71],α := Nat × Nat,st := fun y => ([.int .i64 y.1],⟨setO S.objs 1 (.bld 69 5 (bsl (s6 c y.1) (.tok 0 y.2))),[(0,y.2)]⟩),inv := fun y => y.1 ≤ c.kers.length,mu := fun y => c.kers.length - y.1 }
    | 8 => some { slots := [97],keep := [0,1,3,70,71,72,11,95,96],α := Nat × Nat,st := fun y => ([.int .i64 y.1],⟨setO S.objs 1 (.bld 69 5 (bsl (s8 c (numOf (Ab.look env 72)).toNat y.1) (.tok 0 y.2))),[(0,y.2)]⟩),inv := fun y => y.1 ≤ (c.kers.getD (numOf (Ab.look env 72)).toNat default).ops.length,mu := fun y => (c.kers.getD (numOf (Ab.look env 72)).toNat default).ops.length - y.1 }
    | 10 => some { slots := [129],keep := [0,1,3,127,128],α := Nat × Nat,st := fun y => ([.int .i64 y.1],⟨setO S.objs 1 (.bld 69 5 (bsl (s10 c y.1) (.tok 0 y.2))),[(0,y.2)]⟩),inv := fun y => y.1 ≤ c.lanes.length,mu := fun y => c.lanes.length - y.1 }
    | 12 => some { slots := [146],keep := [0,1,3,127,128,129,144,145],α := Nat × Nat,st := fun y => ([.int .i64 y.1],⟨setO S.objs 1 (.bld 69 5 (bsl (s12 c (numOf (Ab.look env 129)).toNat y.1) (.tok 0 y.2))),[(0,y.2)]⟩),inv := fun y => y.1 ≤ (c.lanes.getD (numOf (Ab.look env 129)).toNat default).code.length,mu := fun y => (c.lanes.getD (numOf (Ab.look env 129)).toNat default).code.length - y.1 }
    | _ => none }
noncomputable section
def sw1q0 (p0:CodD):List Arr := CodD.consts p0
def sw1q1 (p0:CodD):Nat := LN (sw1q0 p0)
def sw1q2:Arr := DA
def sw1q3 (p0:CodD) (p1:Nat):Arr := List.getD (sw1q0 p0) p1 sw1q2
def sw1q4 (p0:CodD) (p1:Nat):List Int := Arr.sh (sw1q3 p0 p1)
def sw1q5 (p0:CodD) (p1:Nat):List Int := Arr.nu (sw1q3 p0 p1)
def sw1q6 (p0:CodD) (p1:Nat):List Arr := Arr.it (sw1q3 p0 p1)
def sw1q7 (p0:CodD) (p1:Nat):List D := [ZI (Arr.k (sw1q3 p0 p1)),SI (sw1q4 p0 p1),SI (sw1q5 p0 p1),D.sl N4 (LN (sw1q6 p0 p1)) (fun (i:Nat) => Arr.row (List.getD (sw1q6 p0 p1) i sw1q2)) Mode.any]
def sw1q8 (p0:CodD):List FnD := CodD.funs p0
def sw1q9 (p0:CodD):Nat := LN (sw1q8 p0)
def sw1q10:FnD := DF
def sw1q11 (p0:CodD) (p1:Nat):FnD := List.getD (sw1q8 p0) p1 sw1q10
def sw1q12 (p0:CodD) (p1:Nat):List I4 := FnD.code (sw1q11 p0 p1)
def sw1q13:I4 := D4
def sw1q14 (p0:CodD) (p1 p2:Nat):I4 := List.getD (sw1q12 p0 p1) p2 sw1q13
def sw1q15 (p0:CodD) (p1:Nat):List D := [ZI (FnD.slots (sw1q11 p0 p1)),D.sl N4 (LN (sw1q12 p0 p1)) (fun (i:Nat) => (R4 (sw1q14 p0 p1 i))) Mode.any]
def sw1q16 (p0:CodD):List KeD := CodD.kers p0
def sw1q17 (p0:CodD):Nat := LN (sw1q16 p0)
def sw1q18:KeD := DK
def sw1q19 (p0:CodD) (p1:Nat):KeD := List.getD (sw1q16 p0) p1 sw1q18
def sw1q20 (p0:CodD) (p1:Nat):List I4 := KeD.ops (sw1q19 p0 p1)
def sw1q21 (p0:CodD) (p1 p2:Nat):I4 := List.getD (sw1q20 p0 p1) p2 sw1q13
def sw1q22 (p0:CodD) (p1:Nat):List D := [ZI (KeD.inputs (sw1q19 p0 p1)),D.sl N4 (LN (sw1q20 p0 p1)) (fun (i:Nat) => (R4 (sw1q21 p0 p1 i))) Mode.any,ZI (KeD.reduce (sw1q19 p0 p1)),ZI (KeD.at_ (sw1q19 p0 p1))]
def sw1q23 (p0:CodD):List LaD := CodD.lanes p0
def sw1q24 (p0:CodD):Nat := LN (sw1q23 p0)
def sw1q25:LaD := DL
def sw1q26 (p0:CodD) (p1:Nat):LaD := List.getD (sw1q23 p0) p1 sw1q25
def sw1q27 (p0:CodD) (p1:Nat):List I6 := LaD.code (sw1q26 p0 p1)
def sw1q28:I6 := D6
def sw1q29 (p0:CodD) (p1 p2:Nat):I6 := List.getD (sw1q27 p0 p1) p2 sw1q28
def sw1q30 (p0:CodD) (p1:Nat):List D := [ZI (LaD.regs (sw1q26 p0 p1)),D.sl N6 (LN (sw1q27 p0 p1)) (fun (i:Nat) => (R6 (sw1q29 p0 p1 i))) Mode.any]
def sw1q31 (p0:CodD):Prop := ((SM (sw1q1 p0)∧(∀ (i:Nat),i < sw1q1 p0→SM (sw1q7 p0 i))∧True)∧(SM (sw1q9 p0)∧(∀ (i:Nat),i < sw1q9 p0→SM (sw1q15 p0 i))∧True)∧(SM (sw1q17 p0)∧(∀ (i:Nat),i < sw1q17 p0→SM (sw1q22 p0 i))∧True)∧(SM (sw1q24 p0)∧(∀ (i:Nat),i < sw1q24 p0→SM (sw1q30 p0 i))∧True)∧True)∧True
def sw1q32 (p0:Nat) (p1:CodD):Prop := p0 ≤ sw1q1 p1
def sw1q33 (p0:Nat):Prop := Z0 = (↑p0:Int)∧True
def sw1q34 (p0:CodD) (p1:Nat):Nat := LN (s0 p0 p1)
def sw1q35 (p0:CodD) (p1 p2:Nat):List D := [ZB (BI (s0 p0 p1) p2)]
def sw1q36 (p0:Nat) (p1:CodD):Prop := SM p0∧sw1q31 p1
def sw1q37 (p0:CodD):Int := (NI (sw1q1 p0))
def sw1q38 (p0:CodD) (p1:Nat):Arr := List.getD (sw1q0 p0) (Int.toNat (↑p1:Int)) sw1q2
def sw1q39 (p0:CodD) (p1:Nat):List Int := Arr.sh (sw1q38 p0 p1)
def sw1q40 (p0:CodD) (p1:Nat):Nat := LN (sw1q39 p0 p1)
def sw1q41 (p0:CodD) (p1:Nat):List Int := Arr.nu (sw1q38 p0 p1)
def sw1q42 (p0:CodD) (p1:Nat):Nat := LN (sw1q41 p0 p1)
def sw1q43 (p0:CodD) (p1:Nat):List Arr := Arr.it (sw1q38 p0 p1)
def sw1q44 (p0:CodD) (p1:Nat):Nat := LN (sw1q43 p0 p1)
def sw1q45 (p0:Nat):Prop := inI64 (↑p0:Int)
def sw1q46 (p0:Nat):List (Nat × Nat) := [(N0,p0)]
def sw1q47 (p0:Nat):List UInt8 := showI (↑p0:Int)
def sw1q48 (p0:Nat) (p1:Arr):List UInt8 := wordsL [(99:UInt8),(111:UInt8),(110:UInt8),(115:UInt8),(116:UInt8)] [sw1q47 p0,litF p1]
def sw1q49 (p0:CodD):D := D.sl N4 (sw1q1 p0) (fun (i:Nat) => sw1q7 p0 i) Mode.any
def sw1q50 (p0:CodD):D := D.sl N2 (sw1q9 p0) (fun (i:Nat) => sw1q15 p0 i) Mode.any
def sw1q51 (p0:CodD):D := D.sl N4 (sw1q17 p0) (fun (i:Nat) => sw1q22 p0 i) Mode.any
def sw1q52 (p0:CodD):D := D.sl N2 (sw1q24 p0) (fun (i:Nat) => sw1q30 p0 i) Mode.any
def sw1q53 (p0:CodD):D := D.agg [sw1q49 p0,sw1q50 p0,sw1q51 p0,sw1q52 p0]
def sw1q54 (p0:CodD):Prop := SM (sw1q53 p0)
def sw1q55 (p0:Nat):Prop := SM (D.ref N0 p0 N0)
def sw1q56 (p0:Nat):Prop := SM (D.ref (max (N0 + N1) N0) p0 N0)
def sw1q57 (p0:CodD):D := ZI (sw1q37 p0)
def sw1q58 (p0 p1:Nat):Prop := IntKind.wrap IntKind.i64 ((↑p0:Int) + Z1) = (↑p1:Int)∧True
def sw1q59 (p0:CodD) (p1:Nat) (p2:Arr):List UInt8 := (bytesOf (sw1q34 p0 p1) fun (i:Nat) => sw1q35 p0 p1 i) ++ sw1q48 p1 p2
def sw1q60 (p0:CodD) (p1:Nat) (p2:Arr):Nat := LN (sw1q59 p0 p1 p2)
def sw1q61 (p0:Nat) (p1:CodD):Prop := p0 ≤ sw1q9 p1
def sw1q62 (p0:CodD) (p1:Nat):Nat := LN (s2 p0 p1)
def sw1q63 (p0:CodD) (p1 p2:Nat):List D := [ZB (BI (s2 p0 p1) p2)]
def sw1q64 (p0:CodD):Int := (NI (sw1q9 p0))
def sw1q65 (p0:CodD) (p1:Nat):FnD := List.getD (sw1q8 p0) (Int.toNat (↑p1:Int)) sw1q10
def sw1q66 (p0:CodD) (p1:Nat):Int := FnD.slots (sw1q65 p0 p1)
def sw1q67 (p0:Nat) (p1:CodD):List UInt8 := wordsL [(102:UInt8),(117:UInt8),(110:UInt8)] [sw1q47 p0,[(115:UInt8),(108:UInt8),(111:UInt8),(116:UInt8),(115:UInt8)],showI (sw1q66 p1 p0)]
def sw1q68 (p0:Nat):Nat := Int.toNat (numOf (ZI (↑p0:Int)))
def sw1q69 (p0:CodD) (p1:Nat):Nat := LN (FnD.code (List.getD (sw1q8 p0) (sw1q68 p1) sw1q10))
def sw1q70 (p0:Nat) (p1:CodD) (p2:Nat):Prop := p0 ≤ sw1q69 p1 p2
def sw1q71 (p0:CodD) (p1:Nat):List UInt8 := (bytesOf (sw1q62 p0 p1) fun (i:Nat) => sw1q63 p0 p1 i) ++ sw1q67 p1 p0
def sw1q72 (p0:CodD) (p1:Nat):Nat := LN (sw1q71 p0 p1)
def sw1q73 (p0:CodD) (p1 p2:Nat):List UInt8 := s4 p0 (sw1q68 p1) p2
def sw1q74 (p0:CodD) (p1 p2:Nat):Nat := LN (sw1q73 p0 p1 p2)
def sw1q75 (p0:CodD) (p1 p2 p3:Nat):List D := [ZB (BI (sw1q73 p0 p1 p2) p3)]
def sw1q76 (p0:CodD) (p1:Nat):List I4 := FnD.code (sw1q65 p0 p1)
def sw1q77 (p0:CodD) (p1:Nat):Nat := LN (sw1q76 p0 p1)
def sw1q78 (p0:CodD) (p1 p2:Nat):I4 := List.getD (sw1q76 p0 p1) p2 sw1q13
def sw1q79 (p0:CodD) (p1 p2:Nat):List D := (R4 (sw1q78 p0 p1 p2))
def sw1q80 (p0:Nat) (p1:CodD) (p2 p3:Nat):Prop := SM p0∧(SM (sw1q66 p1 p2)∧(SM (sw1q77 p1 p2)∧(∀ (i:Nat),i < sw1q77 p1 p2→SM (sw1q79 p1 p2 i))∧True)∧True)∧sw1q36 p3 p1
def sw1q81 (p0:CodD) (p1:Nat):Int := (NI (sw1q77 p0 p1))
def sw1q82 (p0:CodD) (p1 p2:Nat):I4 := List.getD (sw1q76 p0 p1) (Int.toNat (↑p2:Int)) sw1q13
def sw1q83 (p0:CodD) (p1 p2:Nat):Int := I4.a (sw1q82 p0 p1 p2)
def sw1q84 (p0:CodD) (p1 p2:Nat):I4 := I4.mk (sw1q83 p0 p1 p2) (I4.b (sw1q82 p0 p1 p2)) (I4.c (sw1q82 p0 p1 p2)) (I4.d (sw1q82 p0 p1 p2))
def sw1q85 (p0:Nat) (p1:CodD) (p2:Nat):List UInt8 := lineT (↑p0:Int) (sw1q84 p1 p2 p0)
def sw1q86 (p0:CodD):Prop := SM (sw1q50 p0)
def sw1q87 (p0:CodD):Prop := SM (ZI (sw1q64 p0))
def sw1q88 (p0:Nat):Prop := SM (ZI (↑p0:Int))
def sw1q89 (p0:CodD) (p1:Nat):D := D.sl N4 (sw1q77 p0 p1) (fun (i:Nat) => sw1q79 p0 p1 i) Mode.any
def sw1q90 (p0:CodD) (p1:Nat):D := ZI (sw1q81 p0 p1)
def sw1q91 (p0:CodD) (p1 p2:Nat):Nat := sw1q69 p0 p1 - p2
def sw1q92 (p0:CodD) (p1 p2:Nat):List UInt8 := (bytesOf (sw1q74 p0 p1 p2) fun (i:Nat) => sw1q75 p0 p1 p2 i) ++ sw1q85 p2 p0 p1
def sw1q93 (p0:CodD) (p1 p2:Nat):Nat := LN (sw1q92 p0 p1 p2)
def sw1q94 (p0:Nat) (p1:CodD):Prop := p0 ≤ sw1q17 p1
def sw1q95 (p0:CodD) (p1:Nat):Nat := LN (s6 p0 p1)
def sw1q96 (p0:CodD) (p1 p2:Nat):List D := [ZB (BI (s6 p0 p1) p2)]
def sw1q97 (p0:CodD):Int := (NI (sw1q17 p0))
def sw1q98 (p0:CodD) (p1:Nat):KeD := List.getD (sw1q16 p0) (Int.toNat (↑p1:Int)) sw1q18
def sw1q99 (p0:CodD) (p1:Nat):Int := KeD.inputs (sw1q98 p0 p1)
def sw1q100 (p0:CodD) (p1:Nat):Int := KeD.reduce (sw1q98 p0 p1)
def sw1q101 (p0:CodD) (p1:Nat):Int := KeD.at_ (sw1q98 p0 p1)
def sw1q102 (p0:Nat) (p1:CodD):List UInt8 := wordsL [(107:UInt8),(101:UInt8),(114:UInt8),(110:UInt8),(101:UInt8),(108:UInt8)] [sw1q47 p0,[(105:UInt8),(110:UInt8),(112:UInt8),(117:UInt8),(116:UInt8),(115:UInt8)],showI (sw1q99 p1 p0),[(114:UInt8),(101:UInt8),(100:UInt8),(117:UInt8),(99:UInt8),(101:UInt8)],showI (sw1q100 p1 p0),[(97:UInt8),(116:UInt8)],showI (sw1q101 p1 p0)]
def sw1q103 (p0:CodD) (p1:Nat):Nat := LN (KeD.ops (List.getD (sw1q16 p0) (sw1q68 p1) sw1q18))
def sw1q104 (p0:Nat) (p1:CodD) (p2:Nat):Prop := p0 ≤ sw1q103 p1 p2
def sw1q105 (p0:CodD) (p1:Nat):List UInt8 := (bytesOf (sw1q95 p0 p1) fun (i:Nat) => sw1q96 p0 p1 i) ++ sw1q102 p1 p0
def sw1q106 (p0:CodD) (p1:Nat):Nat := LN (sw1q105 p0 p1)
def sw1q107 (p0:CodD) (p1 p2:Nat):List UInt8 := s8 p0 (sw1q68 p1) p2
def sw1q108 (p0:CodD) (p1 p2:Nat):Nat := LN (sw1q107 p0 p1 p2)
def sw1q109 (p0:CodD) (p1 p2 p3:Nat):List D := [ZB (BI (sw1q107 p0 p1 p2) p3)]
def sw1q110 (p0:CodD) (p1:Nat):List I4 := KeD.ops (sw1q98 p0 p1)
def sw1q111 (p0:CodD) (p1:Nat):Nat := LN (sw1q110 p0 p1)
def sw1q112 (p0:CodD) (p1 p2:Nat):I4 := List.getD (sw1q110 p0 p1) p2 sw1q13
def sw1q113 (p0:CodD) (p1 p2:Nat):List D := (R4 (sw1q112 p0 p1 p2))
def sw1q114 (p0:Nat) (p1:CodD) (p2 p3:Nat):Prop := SM p0∧(SM (sw1q99 p1 p2)∧(SM (sw1q111 p1 p2)∧(∀ (i:Nat),i < sw1q111 p1 p2→SM (sw1q113 p1 p2 i))∧True)∧SM (sw1q100 p1 p2)∧SM (sw1q101 p1 p2)∧True)∧sw1q36 p3 p1
def sw1q115 (p0:CodD) (p1:Nat):Int := (NI (sw1q111 p0 p1))
def sw1q116 (p0:CodD) (p1 p2:Nat):Int := IntKind.wrap IntKind.i64 (sw1q99 p0 p1 + (↑p2:Int))
def sw1q117 (p0:CodD) (p1 p2:Nat):Prop := inI64 (sw1q116 p0 p1 p2)
def sw1q118 (p0:CodD) (p1 p2:Nat):I4 := List.getD (sw1q110 p0 p1) (Int.toNat (↑p2:Int)) sw1q13
def sw1q119 (p0:CodD) (p1 p2:Nat):Int := I4.d (sw1q118 p0 p1 p2)
def sw1q120 (p0:CodD) (p1 p2:Nat):D := ZI (sw1q119 p0 p1 p2)
def sw1q121 (p0:CodD) (p1 p2:Nat):Int := I4.c (sw1q118 p0 p1 p2)
def sw1q122 (p0:CodD) (p1 p2:Nat):D := ZI (sw1q121 p0 p1 p2)
def sw1q123 (p0:CodD) (p1 p2:Nat):Int := I4.b (sw1q118 p0 p1 p2)
def sw1q124 (p0:CodD) (p1 p2:Nat):D := ZI (sw1q123 p0 p1 p2)
def sw1q125 (p0:CodD) (p1 p2:Nat):Int := I4.a (sw1q118 p0 p1 p2)
def sw1q126 (p0:CodD) (p1 p2:Nat):D := ZI (sw1q125 p0 p1 p2)
def sw1q127 (p0:CodD) (p1 p2:Nat):List UInt8 := showI (sw1q116 p0 p1 p2)
def sw1q128 (p0:CodD) (p1 p2:Nat):List UInt8 := (32:UInt8) :: (32:UInt8) :: List.append [] (sw1q127 p0 p1 p2)
def sw1q129 (p0:CodD) (p1 p2:Nat):List UInt8 := wordsL (sw1q128 p0 p1 p2) [showI (sw1q125 p0 p1 p2),showI (sw1q123 p0 p1 p2),showI (sw1q121 p0 p1 p2),[(97:UInt8),(116:UInt8)],showI (sw1q119 p0 p1 p2)]
def sw1q130 (p0:CodD):Prop := SM (sw1q51 p0)
def sw1q131 (p0:CodD):Prop := SM (ZI (sw1q97 p0))
def sw1q132 (p0:CodD) (p1:Nat):D := D.sl N4 (sw1q111 p0 p1) (fun (i:Nat) => sw1q113 p0 p1 i) Mode.any
def sw1q133 (p0:CodD) (p1:Nat):D := ZI (sw1q115 p0 p1)
def sw1q134 (p0:CodD) (p1 p2:Nat):Nat := sw1q103 p0 p1 - p2
def sw1q135 (p0:CodD) (p1 p2:Nat):List UInt8 := (bytesOf (sw1q108 p0 p1 p2) fun (i:Nat) => sw1q109 p0 p1 p2 i) ++ sw1q129 p0 p1 p2
def sw1q136 (p0:CodD) (p1 p2:Nat):Nat := LN (sw1q135 p0 p1 p2)
def sw1q137 (p0:CodD) (p1 p2 p3 p4 p5 p6:Nat):Prop := side (N2 + LN (sw1q127 p0 p1 p2) ≤ (9223372036854775807:Nat)) ((LN (sw1q128 p0 p1 p2) ≤ (100:Nat)∧inI64 (sw1q125 p0 p1 p2)∧inI64 (sw1q123 p0 p1 p2)∧inI64 (sw1q121 p0 p1 p2)∧N2 ≤ (1000000000:Nat)∧inI64 (sw1q119 p0 p1 p2))∧∀ (_y:Unit),True→(((bFit (sw1q46 p3) p4 p4 (69:Nat) (5:Nat) N0 p3 (sw1q108 p0 p1 p2) fun (i:Nat) => sw1q109 p0 p1 p2 i)∧sw1q108 p0 p1 p2 + LN (sw1q129 p0 p1 p2) ≤ (140737488355328:Nat))∧True)∧∀ (y:Nat),True→(sw1q54 p0∧sw1q55 p5∧sw1q56 p4∧sw1q130 p0∧sw1q131 p0∧sw1q88 p1∧SM (D.ref (max (N1 + N1) (max (N0 + N1) N0)) p6 N0)∧SM (sw1q132 p0 p1)∧SM (sw1q133 p0 p1)∧True)∧∃ (y_1:Nat × Nat),sw1q104 y_1.1 p0 p1∧sw1q134 p0 p1 y_1.1 < sw1q134 p0 p1 p2∧sw1q58 p2 y_1.1∧(SM p4∧(sw1q136 p0 p1 p2 = sw1q108 p0 p1 y_1.1∧(∀ (i:Nat),i < sw1q136 p0 p1 p2→[ZB (BI (sw1q135 p0 p1 p2) i)] = sw1q109 p0 p1 y_1.1 i)∧y = y_1.2)∧sw1q114 p6 p0 p1 p5)∧y = y_1.2∧True)
def sw1q138 (p0:CodD) (p1:Nat):D := ZI (sw1q99 p0 p1)
def sw1q139 (p0:Nat) (p1:CodD):Prop := p0 ≤ sw1q24 p1
def sw1q140 (p0:CodD) (p1:Nat):Nat := LN (s10 p0 p1)
def sw1q141 (p0:CodD) (p1 p2:Nat):List D := [ZB (BI (s10 p0 p1) p2)]
def sw1q142 (p0:CodD):Int := (NI (sw1q24 p0))
def sw1q143 (p0:CodD) (p1:Nat):LaD := List.getD (sw1q23 p0) (Int.toNat (↑p1:Int)) sw1q25
def sw1q144 (p0:CodD) (p1:Nat):Int := LaD.regs (sw1q143 p0 p1)
def sw1q145 (p0 p1:Nat) (p2:CodD) (p3:Nat):Prop := bFit (sw1q46 p0) p1 p1 (69:Nat) (5:Nat) N0 p0 (sw1q140 p2 p3) fun (i:Nat) => sw1q141 p2 p3 i
def sw1q146 (p0:Nat) (p1:CodD):List UInt8 := wordsL [(108:UInt8),(97:UInt8),(110:UInt8),(101:UInt8),(115:UInt8)] [sw1q47 p0,[(114:UInt8),(101:UInt8),(103:UInt8),(115:UInt8)],showI (sw1q144 p1 p0)]
def sw1q147 (p0:CodD) (p1:Nat):Nat := LN (LaD.code (List.getD (sw1q23 p0) (sw1q68 p1) sw1q25))
def sw1q148 (p0:Nat) (p1:CodD) (p2:Nat):Prop := p0 ≤ sw1q147 p1 p2
def sw1q149 (p0:CodD) (p1:Nat):List UInt8 := bytesOf (sw1q140 p0 p1) fun (i:Nat) => sw1q141 p0 p1 i
def sw1q150 (p0:CodD) (p1:Nat):List UInt8 := sw1q149 p0 p1 ++ sw1q146 p1 p0
def sw1q151 (p0:CodD) (p1:Nat):Nat := LN (sw1q150 p0 p1)
def sw1q152 (p0:CodD) (p1 p2:Nat):List UInt8 := s12 p0 (sw1q68 p1) p2
def sw1q153 (p0:CodD) (p1 p2:Nat):Nat := LN (sw1q152 p0 p1 p2)
def sw1q154 (p0:CodD) (p1 p2 p3:Nat):List D := [ZB (BI (sw1q152 p0 p1 p2) p3)]
def sw1q155 (p0:CodD) (p1:Nat):List I6 := LaD.code (sw1q143 p0 p1)
def sw1q156 (p0:CodD) (p1:Nat):Nat := LN (sw1q155 p0 p1)
def sw1q157 (p0:CodD) (p1 p2:Nat):I6 := List.getD (sw1q155 p0 p1) p2 sw1q28
def sw1q158 (p0:CodD) (p1 p2:Nat):List D := (R6 (sw1q157 p0 p1 p2))
def sw1q159 (p0:Nat) (p1:CodD) (p2 p3:Nat):Prop := SM p0∧(SM (sw1q144 p1 p2)∧(SM (sw1q156 p1 p2)∧(∀ (i:Nat),i < sw1q156 p1 p2→SM (sw1q158 p1 p2 i))∧True)∧True)∧sw1q36 p3 p1
def sw1q160 (p0:CodD) (p1:Nat):Int := (NI (sw1q156 p0 p1))
def sw1q161 (p0:CodD) (p1 p2:Nat):I6 := List.getD (sw1q155 p0 p1) (Int.toNat (↑p2:Int)) sw1q28
def sw1q162 (p0:CodD) (p1 p2:Nat):Int := I6.a (sw1q161 p0 p1 p2)
def sw1q163 (p0:CodD) (p1 p2:Nat):Prop := inI64 (sw1q162 p0 p1 p2)
def sw1q164 (p0:CodD) (p1 p2:Nat):Int := I6.f (sw1q161 p0 p1 p2)
def sw1q165 (p0:CodD) (p1 p2:Nat):D := ZI (sw1q164 p0 p1 p2)
def sw1q166 (p0:CodD) (p1 p2:Nat):Int := I6.e (sw1q161 p0 p1 p2)
def sw1q167 (p0:CodD) (p1 p2:Nat):D := ZI (sw1q166 p0 p1 p2)
def sw1q168 (p0:CodD) (p1 p2:Nat):Int := I6.d (sw1q161 p0 p1 p2)
def sw1q169 (p0:CodD) (p1 p2:Nat):D := ZI (sw1q168 p0 p1 p2)
def sw1q170 (p0:CodD) (p1 p2:Nat):Int := I6.c (sw1q161 p0 p1 p2)
def sw1q171 (p0:CodD) (p1 p2:Nat):D := ZI (sw1q170 p0 p1 p2)
def sw1q172 (p0:CodD) (p1 p2:Nat):Int := I6.b (sw1q161 p0 p1 p2)
def sw1q173 (p0:CodD) (p1 p2:Nat):D := ZI (sw1q172 p0 p1 p2)
def sw1q174 (p0:CodD) (p1 p2:Nat):List UInt8 := showI (sw1q162 p0 p1 p2)
def sw1q175 (p0:CodD) (p1 p2:Nat):List UInt8 := (32:UInt8) :: (32:UInt8) :: List.append [] (sw1q174 p0 p1 p2)
def sw1q176 (p0:CodD) (p1 p2:Nat):List UInt8 := wordsL (sw1q175 p0 p1 p2) [showI (sw1q172 p0 p1 p2),showI (sw1q170 p0 p1 p2),showI (sw1q168 p0 p1 p2),showI (sw1q166 p0 p1 p2),showI (sw1q164 p0 p1 p2)]
def sw1q177 (p0:CodD):Prop := SM (sw1q52 p0)
def sw1q178 (p0:CodD):D := ZI (sw1q142 p0)
def sw1q179 (p0:CodD):Prop := SM (sw1q178 p0)
def sw1q180 (p0:CodD) (p1:Nat):D := D.sl N6 (sw1q156 p0 p1) (fun (i:Nat) => sw1q158 p0 p1 i) Mode.any
def sw1q181 (p0:CodD) (p1:Nat):D := ZI (sw1q160 p0 p1)
def sw1q182 (p0:CodD) (p1 p2:Nat):Nat := sw1q147 p0 p1 - p2
def sw1q183 (p0:CodD) (p1 p2:Nat):List UInt8 := (bytesOf (sw1q153 p0 p1 p2) fun (i:Nat) => sw1q154 p0 p1 p2 i) ++ sw1q176 p0 p1 p2
def sw1q184 (p0:CodD) (p1 p2:Nat):Nat := LN (sw1q183 p0 p1 p2)
def sw1q185 (p0:CodD) (p1 p2 p3 p4 p5 p6:Nat):Prop := side (N2 + LN (sw1q174 p0 p1 p2) ≤ (9223372036854775807:Nat)) ((LN (sw1q175 p0 p1 p2) ≤ (100:Nat)∧inI64 (sw1q172 p0 p1 p2)∧inI64 (sw1q170 p0 p1 p2)∧inI64 (sw1q168 p0 p1 p2)∧inI64 (sw1q166 p0 p1 p2)∧inI64 (sw1q164 p0 p1 p2))∧∀ (_y:Unit),True→(((bFit (sw1q46 p3) p4 p4 (69:Nat) (5:Nat) N0 p3 (sw1q153 p0 p1 p2) fun (i:Nat) => sw1q154 p0 p1 p2 i)∧sw1q153 p0 p1 p2 + LN (sw1q176 p0 p1 p2) ≤ (140737488355328:Nat))∧True)∧∀ (y:Nat),True→(sw1q54 p0∧sw1q55 p5∧sw1q56 p4∧sw1q177 p0∧sw1q179 p0∧sw1q88 p1∧SM (sw1q180 p0 p1)∧SM (sw1q181 p0 p1)∧True)∧∃ (y_1:Nat × Nat),sw1q148 y_1.1 p0 p1∧sw1q182 p0 p1 y_1.1 < sw1q182 p0 p1 p2∧sw1q58 p2 y_1.1∧(SM p4∧(sw1q184 p0 p1 p2 = sw1q153 p0 p1 y_1.1∧(∀ (i:Nat),i < sw1q184 p0 p1 p2→[ZB (BI (sw1q183 p0 p1 p2) i)] = sw1q154 p0 p1 y_1.1 i)∧y = y_1.2)∧sw1q159 p6 p0 p1 p5)∧y = y_1.2∧True)
def sw1q186 (p0:CodD) (p1 p2:Nat):D := ZI (sw1q162 p0 p1 p2)
end
theorem sw_ok (c:CodD) (hc:c.ok) (hs:SmC c):ACalls Tryz.prog 14 [.agg c.row1] ⟨[],[]⟩ (SpecR (sC [.agg c.row1] (.str (showC c))) ()) := by
  refine con_of (A := sC _ _) (x := ()) (E := Esw c) (eOk (conSw_ok hc hs) rfl) Tryz.func14 rfl (by kernel_rfl) rfl (by simp [sC,Esw,EC,E0]) ?_
  refine vc_eq (T :=
    ∀ (x:Nat),True→SM x∧sw1q31 c∧∀ (y:Unit),True→ifB (rightC c != Z0) (True∧∃ (y:Unit),True∧eqOf (List UInt8) [] (showC c)∧True∧True) (∀ (y t:Nat),x ≠ y∧True→SM x∧(∃ (x_1:Nat × Nat),sw1q32 x_1.1 c∧sw1q33 x_1.1∧(SM y∧(N0 = sw1q34 c x_1.1∧(∀ (i:Nat),i < N0→eqOf (List D) [] (sw1q35 c x_1.1 i))∧t = x_1.2)∧sw1q36 x c)∧t = x_1.2∧True)∧∀ (x_1:Nat × Nat),sw1q32 x_1.1 c→ifB (decide ((NI x_1.1) < sw1q37 c)) (side (Z0 ≤ (NI x_1.1)∧(NI x_1.1) < sw1q37 c) (∀ (x_2:Nat),y ≠ x_2∧x ≠ x_2∧True→SM x_2∧SM x_2∧∃ (x_3:Arr),((Arr.k (sw1q38 c x_1.1) = Arr.k x_3∧(sw1q40 c x_1.1 = LN (Arr.sh x_3)∧(∀ (i:Nat),i < sw1q40 c x_1.1→[ZI (GI (sw1q39 c x_1.1) i)] = [ZI (GI (Arr.sh x_3) i)])∧True)∧(sw1q42 c x_1.1 = LN (Arr.nu x_3)∧(∀ (i:Nat),i < sw1q42 c x_1.1→[ZI (GI (sw1q41 c x_1.1) i)] = [ZI (GI (Arr.nu x_3) i)])∧True)∧(sw1q44 c x_1.1 = LN (Arr.it x_3)∧(∀ (i:Nat),i < sw1q44 c x_1.1→Arr.row (List.getD (sw1q43 c x_1.1) i sw1q2) = Arr.row (List.getD (Arr.it x_3) i sw1q2))∧True)∧True)∧True)∧(True∧True)∧x_3 ∈ sw1q0 c∧∀ (y_1:Unit),True→((5:Nat) ≤ (100:Nat)∧sw1q45 x_1.1∧LN (litF x_3) ≤ (1000000000:Nat))∧∀ (y_2:Unit),True→(((bFit (sw1q46 x_1.2) y y (69:Nat) (5:Nat) N0 x_1.2 (sw1q34 c x_1.1) fun (i:Nat) => sw1q35 c x_1.1 i)∧sw1q34 c x_1.1 + LN (sw1q48 x_1.1 x_3) ≤ (140737488355328:Nat))∧True)∧∀ (y_3:Nat),True→(sw1q54 c∧sw1q55 x∧sw1q56 y∧SM (sw1q49 c)∧SM (sw1q57 c)∧True)∧∃ (y_4:Nat × Nat),sw1q32 y_4.1 c∧sw1q1 c - y_4.1 < sw1q1 c - x_1.1∧sw1q58 x_1.1 y_4.1∧(SM y∧(sw1q60 c x_1.1 x_3 = sw1q34 c y_4.1∧(∀ (i:Nat),i < sw1q60 c x_1.1 x_3→[ZB (BI (sw1q59 c x_1.1 x_3) i)] = sw1q35 c y_4.1 i)∧y_3 = y_4.2)∧sw1q36 x c)∧y_3 = y_4.2∧True)) (SM x∧(∃ (x_2:Nat × Nat),sw1q61 x_2.1 c∧sw1q33 x_2.1∧(SM y∧(sw1q34 c x_1.1 = sw1q62 c x_2.1∧(∀ (i:Nat),i < sw1q34 c x_1.1→sw1q35 c x_1.1 i = sw1q63 c x_2.1 i)∧x_1.2 = x_2.2)∧sw1q36 x c)∧x_1.2 = x_2.2∧True)∧∀ (x_2:Nat × Nat),sw1q61 x_2.1 c→ifB (decide ((NI x_2.1) < sw1q64 c)) (side (Z0 ≤ (NI x_2.1)∧(NI x_2.1) < sw1q64 c) (∀ (x_3:Nat),y ≠ x_3∧x ≠ x_3∧True→SM x_3∧SM x_3∧((3:Nat) ≤ (100:Nat)∧sw1q45 x_2.1∧(5:Nat) ≤ (1000000000:Nat)∧inI64 (sw1q66 c x_2.1))∧∀ (y_1:Unit),True→(((bFit (sw1q46 x_2.2) y y (69:Nat) (5:Nat) N0 x_2.2 (sw1q62 c x_2.1) fun (i:Nat) => sw1q63 c x_2.1 i)∧sw1q62 c x_2.1 + LN (sw1q67 x_2.1 c) ≤ (140737488355328:Nat))∧True)∧∀ (y_2:Nat),True→SM x_3∧(∃ (x_4:Nat × Nat),sw1q70 x_4.1 c x_2.1∧sw1q33 x_4.1∧(SM y∧(sw1q72 c x_2.1 = sw1q74 c x_2.1 x_4.1∧(∀ (i:Nat),i < sw1q72 c x_2.1→[ZB (BI (sw1q71 c x_2.1) i)] = sw1q75 c x_2.1 x_4.1 i)∧y_2 = x_4.2)∧sw1q80 x_3 c x_2.1 x)∧y_2 = x_4.2∧True)∧∀ (x_4:Nat × Nat),sw1q70 x_4.1 c x_2.1→ifB (decide ((NI x_4.1) < sw1q81 c x_2.1)) (side (Z0 ≤ (NI x_4.1)∧(NI x_4.1) < sw1q81 c x_2.1) (∀ (x_5:Nat),y ≠ x_5∧x_3 ≠ x_5∧x ≠ x_5∧True→SM x_5∧SM x_5∧(sw1q45 x_4.1∧I4.ok (sw1q84 c x_2.1 x_4.1)∧Z0 ≤ sw1q83 c x_2.1 x_4.1∧sw1q83 c x_2.1 x_4.1 < (28:Int))∧∀ (y_3:Unit),True→(((bFit (sw1q46 x_4.2) y y (69:Nat) (5:Nat) N0 x_4.2 (sw1q74 c x_2.1 x_4.1) fun (i:Nat) => sw1q75 c x_2.1 x_4.1 i)∧sw1q74 c x_2.1 x_4.1 + LN (sw1q85 x_4.1 c x_2.1) ≤ (140737488355328:Nat))∧True)∧∀ (y_4:Nat),True→(sw1q54 c∧sw1q55 x∧sw1q56 y∧sw1q86 c∧sw1q87 c∧sw1q88 x_2.1∧SM (sw1q89 c x_2.1)∧SM (sw1q90 c x_2.1)∧True)∧∃ (y_5:Nat × Nat),sw1q70 y_5.1 c x_2.1∧sw1q91 c x_2.1 y_5.1 < sw1q91 c x_2.1 x_4.1∧sw1q58 x_4.1 y_5.1∧(SM y∧(sw1q93 c x_2.1 x_4.1 = sw1q74 c x_2.1 y_5.1∧(∀ (i:Nat),i < sw1q93 c x_2.1 x_4.1→[ZB (BI (sw1q92 c x_2.1 x_4.1) i)] = sw1q75 c x_2.1 y_5.1 i)∧y_4 = y_5.2)∧sw1q80 x_3 c x_2.1 x)∧y_4 = y_5.2∧True)) ((sw1q54 c∧sw1q55 x∧sw1q56 y∧sw1q86 c∧sw1q87 c∧True)∧∃ (y_3:Nat × Nat),sw1q61 y_3.1 c∧sw1q9 c - y_3.1 < sw1q9 c - x_2.1∧sw1q58 x_2.1 y_3.1∧(SM y∧(sw1q74 c x_2.1 x_4.1 = sw1q62 c y_3.1∧(∀ (i:Nat),i < sw1q74 c x_2.1 x_4.1→sw1q75 c x_2.1 x_4.1 i = sw1q63 c y_3.1 i)∧x_4.2 = y_3.2)∧sw1q36 x c)∧x_4.2 = y_3.2∧True))) (SM x∧(∃ (x_3:Nat × Nat),sw1q94 x_3.1 c∧sw1q33 x_3.1∧(SM y∧(sw1q62 c x_2.1 = sw1q95 c x_3.1∧(∀ (i:Nat),i < sw1q62 c x_2.1→sw1q63 c x_2.1 i = sw1q96 c x_3.1 i)∧x_2.2 = x_3.2)∧sw1q36 x c)∧x_2.2 = x_3.2∧True)∧∀ (x_3:Nat × Nat),sw1q94 x_3.1 c→ifB (decide ((NI x_3.1) < sw1q97 c)) (side (Z0 ≤ (NI x_3.1)∧(NI x_3.1) < sw1q97 c) (∀ (x_4:Nat),y ≠ x_4∧x ≠ x_4∧True→SM x_4∧SM x_4∧SM x_4∧SM x_4∧(N6 ≤ (100:Nat)∧sw1q45 x_3.1∧N6 ≤ (1000000000:Nat)∧inI64 (sw1q99 c x_3.1)∧N6 ≤ (1000000000:Nat)∧inI64 (sw1q100 c x_3.1)∧N2 ≤ (1000000000:Nat)∧inI64 (sw1q101 c x_3.1))∧∀ (y_1:Unit),True→(((bFit (sw1q46 x_3.2) y y (69:Nat) (5:Nat) N0 x_3.2 (sw1q95 c x_3.1) fun (i:Nat) => sw1q96 c x_3.1 i)∧sw1q95 c x_3.1 + LN (sw1q102 x_3.1 c) ≤ (140737488355328:Nat))∧True)∧∀ (y_2:Nat),True→SM x_4∧(∃ (x_5:Nat × Nat),sw1q104 x_5.1 c x_3.1∧sw1q33 x_5.1∧(SM y∧(sw1q106 c x_3.1 = sw1q108 c x_3.1 x_5.1∧(∀ (i:Nat),i < sw1q106 c x_3.1→[ZB (BI (sw1q105 c x_3.1) i)] = sw1q109 c x_3.1 x_5.1 i)∧y_2 = x_5.2)∧sw1q114 x_4 c x_3.1 x)∧y_2 = x_5.2∧True)∧∀ (x_5:Nat × Nat),sw1q104 x_5.1 c x_3.1→ifB (decide ((NI x_5.1) < sw1q115 c x_3.1)) (side (Z0 ≤ (NI x_5.1)∧(NI x_5.1) < sw1q115 c x_3.1) (∀ (x_6:Nat),y ≠ x_6∧x_4 ≠ x_6∧x ≠ x_6∧True→SM x_6∧SM x_4∧SM x_6∧SM x_6∧SM x_6∧SM x_6∧(sw1q117 c x_3.1 x_5.1∧∀ (y_3:Unit),True→(SM x_6∧SM (sw1q120 c x_3.1 x_5.1))∧(SM x_6∧SM (sw1q122 c x_3.1 x_5.1))∧(SM x_6∧SM (sw1q124 c x_3.1 x_5.1))∧(SM x_6∧SM (sw1q126 c x_3.1 x_5.1))∧sw1q137 c x_3.1 x_5.1 x_5.2 y x x_4)∧(SM x_4∧SM (sw1q138 c x_3.1))∧sw1q117 c x_3.1 x_5.1∧∀ (y_3:Unit),True→sw1q137 c x_3.1 x_5.1 x_5.2 y x x_4)) ((sw1q54 c∧sw1q55 x∧sw1q56 y∧sw1q130 c∧sw1q131 c∧True)∧∃ (y_3:Nat × Nat),sw1q94 y_3.1 c∧sw1q17 c - y_3.1 < sw1q17 c - x_3.1∧sw1q58 x_3.1 y_3.1∧(SM y∧(sw1q108 c x_3.1 x_5.1 = sw1q95 c y_3.1∧(∀ (i:Nat),i < sw1q108 c x_3.1 x_5.1→sw1q109 c x_3.1 x_5.1 i = sw1q96 c y_3.1 i)∧x_5.2 = y_3.2)∧sw1q36 x c)∧x_5.2 = y_3.2∧True))) (SM x∧(∃ (x_4:Nat × Nat),sw1q139 x_4.1 c∧sw1q33 x_4.1∧(SM y∧(sw1q95 c x_3.1 = sw1q140 c x_4.1∧(∀ (i:Nat),i < sw1q95 c x_3.1→sw1q96 c x_3.1 i = sw1q141 c x_4.1 i)∧x_3.2 = x_4.2)∧sw1q36 x c)∧x_3.2 = x_4.2∧True)∧∀ (x_4:Nat × Nat),sw1q139 x_4.1 c→ifB (decide ((NI x_4.1) < sw1q142 c)) (side (Z0 ≤ (NI x_4.1)∧(NI x_4.1) < sw1q142 c) (∀ (x_5:Nat),y ≠ x_5∧x ≠ x_5∧True→SM x_5∧SM x_5∧((5:Nat) ≤ (100:Nat)∧sw1q45 x_4.1∧N4 ≤ (1000000000:Nat)∧inI64 (sw1q144 c x_4.1))∧∀ (y_1:Unit),True→((sw1q145 x_4.2 y c x_4.1∧sw1q140 c x_4.1 + LN (sw1q146 x_4.1 c) ≤ (140737488355328:Nat))∧True)∧∀ (y_2:Nat),True→SM x_5∧(∃ (x_6:Nat × Nat),sw1q148 x_6.1 c x_4.1∧sw1q33 x_6.1∧(SM y∧(sw1q151 c x_4.1 = sw1q153 c x_4.1 x_6.1∧(∀ (i:Nat),i < sw1q151 c x_4.1→[ZB (BI (sw1q150 c x_4.1) i)] = sw1q154 c x_4.1 x_6.1 i)∧y_2 = x_6.2)∧sw1q159 x_5 c x_4.1 x)∧y_2 = x_6.2∧True)∧∀ (x_6:Nat × Nat),sw1q148 x_6.1 c x_4.1→ifB (decide ((NI x_6.1) < sw1q160 c x_4.1)) (side (Z0 ≤ (NI x_6.1)∧(NI x_6.1) < sw1q160 c x_4.1) (∀ (x_7:Nat),y ≠ x_7∧x_5 ≠ x_7∧x ≠ x_7∧True→SM x_7∧SM x_7∧SM x_7∧SM x_7∧SM x_7∧SM x_7∧SM x_7∧(sw1q163 c x_4.1 x_6.1∧∀ (y_3:Unit),True→(SM x_7∧SM (sw1q165 c x_4.1 x_6.1))∧(SM x_7∧SM (sw1q167 c x_4.1 x_6.1))∧(SM x_7∧SM (sw1q169 c x_4.1 x_6.1))∧(SM x_7∧SM (sw1q171 c x_4.1 x_6.1))∧(SM x_7∧SM (sw1q173 c x_4.1 x_6.1))∧sw1q185 c x_4.1 x_6.1 x_6.2 y x x_5)∧(SM x_7∧SM (sw1q186 c x_4.1 x_6.1))∧sw1q163 c x_4.1 x_6.1∧∀ (y_3:Unit),True→sw1q185 c x_4.1 x_6.1 x_6.2 y x x_5)) ((sw1q54 c∧sw1q55 x∧sw1q56 y∧sw1q177 c∧sw1q179 c∧True)∧∃ (y_3:Nat × Nat),sw1q139 y_3.1 c∧sw1q24 c - y_3.1 < sw1q24 c - x_4.1∧sw1q58 x_4.1 y_3.1∧(SM y∧(sw1q153 c x_4.1 x_6.1 = sw1q140 c y_3.1∧(∀ (i:Nat),i < sw1q153 c x_4.1 x_6.1→sw1q154 c x_4.1 x_6.1 i = sw1q141 c y_3.1 i)∧x_6.2 = y_3.2)∧sw1q36 x c)∧x_6.2 = y_3.2∧True))) (((sw1q145 x_4.2 y c x_4.1∧sw1q140 c x_4.1 ≤ (140737488355328:Nat))∧True)∧∀ (y:Unit),True→True∧∃ (y:Unit),True∧sw1q149 c x_4.1 = showC c∧True∧True)))))) (by kernel_rfl) ?_
  delta BI D4 D6 DA DF DK DL GI LN N0 N1 N2 N4 N6 NI R4 R6 SI SM U0 Z0 Z1 ZB ZI sw1q0 sw1q1 sw1q10 sw1q100 sw1q101 sw1q102 sw1q103 sw1q104 sw1q105 sw1q106 sw1q107 sw1q108 sw1q109 sw1q11 sw1q110 sw1q111 sw1q112 sw1q113 sw1q114 sw1q115 sw1q116 sw1q117 sw1q118 sw1q119 sw1q12 sw1q120 sw1q121 sw1q122 sw1q123 sw1q124 sw1q125 sw1q126 sw1q127 sw1q128 sw1q129 sw1q13 sw1q130 sw1q131 sw1q132 sw1q133 sw1q134 sw1q135 sw1q136 sw1q137 sw1q138 sw1q139 sw1q14 sw1q140 sw1q141 sw1q142 sw1q143 sw1q144 sw1q145 sw1q146 sw1q147 sw1q148 sw1q149 sw1q15 sw1q150 sw1q151 sw1q152 sw1q153 sw1q154 sw1q155 sw1q156 sw1q157 sw1q158 sw1q159 sw1q16 sw1q160 sw1q161 sw1q162 sw1q163 sw1q164 sw1q165 sw1q166 sw1q167 sw1q168 sw1q169 sw1q17 sw1q170 sw1q171 sw1q172 sw1q173 sw1q174 sw1q175 sw1q176 sw1q177 sw1q178 sw1q179 sw1q18 sw1q180 sw1q181 sw1q182 sw1q183 sw1q184 sw1q185 sw1q186 sw1q19 sw1q2 sw1q20 sw1q21 sw1q22 sw1q23 sw1q24 sw1q25 sw1q26 sw1q27 sw1q28 sw1q29 sw1q3 sw1q30 sw1q31 sw1q32 sw1q33 sw1q34 sw1q35 sw1q36 sw1q37 sw1q38 sw1q39 sw1q4 sw1q40 sw1q41 sw1q42 sw1q43 sw1q44 sw1q45 sw1q46 sw1q47 sw1q48 sw1q49 sw1q5 sw1q50 sw1q51 sw1q52 sw1q53 sw1q54 sw1q55 sw1q56 sw1q57 sw1q58 sw1q59 sw1q6 sw1q60 sw1q61 sw1q62 sw1q63 sw1q64 sw1q65 sw1q66 sw1q67 sw1q68 sw1q69 sw1q7 sw1q70 sw1q71 sw1q72 sw1q73 sw1q74 sw1q75 sw1q76 sw1q77 sw1q78 sw1q79 sw1q8 sw1q80 sw1q81 sw1q82 sw1q83 sw1q84 sw1q85 sw1q86 sw1q87 sw1q88 sw1q89 sw1q9 sw1q90 sw1q91 sw1q92 sw1q93 sw1q94 sw1q95 sw1q96 sw1q97 sw1q98 sw1q99
  simp only [ifB_iff,side_iff,decide_eq_true_eq,decide_eq_false_iff_not,true_and,and_true,exists_const,forall_const,Int.toNat_natCast,eq_self,implies_true,bytesOf_bsl,bfit_ok,numOf,ne_eq,Prod.exists,List.append_eq,List.nil_append]
  have scl := hs.cl
  have sfl := hs.fl
  have skl := hs.kl
  have sll := hs.ll
  refine fun x => ⟨fun h => ?_,fun h0 y t _ => ⟨⟨0,t,Nat.zero_le _,rfl,⟨rfl,fun _ h => absurd h (Nat.not_lt_zero _),rfl⟩,rfl⟩,?_⟩⟩
  · have h':rightC c ≠ 0 := by simpa using h
    unfold showC; rw [if_neg h']
  have hr:rightC c = 0 := by simpa using h0
  rintro ⟨i0,t0⟩ b0
  simp only at b0 ⊢
  refine ⟨fun hlt => ?_,fun hge => ?_⟩
  · have hl:i0 < c.consts.length := by omega
    have ha := hc.1 _ (getD_mem' (d := default) hl)
    have l1 := s0_le hc hs b0
    have l2 := const_le (i := i0) (by omega) ha
    exact ⟨⟨by omega,hlt⟩,fun _ _ => ⟨c.consts.getD i0 default,selfA _,getD_mem' hl,⟨by omega,nat_i64 (by omega),Nat.le_trans (litF_le ha) (by omega)⟩,show (s0 c i0).length + (constT i0 (c.consts.getD i0 default)).length ≤ 140737488355328 by omega,fun y3 => ⟨i0 + 1,y3,by omega,by omega,wrap_i64' (by omega) (by omega),⟨(bld_next (s0_step c i0)).1,(bld_next (s0_step c i0)).2,rfl⟩,rfl⟩⟩⟩
  obtain rfl:i0 = c.consts.length := by omega
  refine ⟨⟨0,t0,Nat.zero_le _,rfl,⟨(bld_next (s2_zero c).symm).1,(bld_next (s2_zero c).symm).2,rfl⟩,rfl⟩,?_⟩
  rintro ⟨i2,t2⟩ b2
  simp only at b2 ⊢
  refine ⟨fun hlt => ?_,fun hge => ?_⟩
  · have hl:i2 < c.funs.length := by omega
    have ha := hc.2.1 _ (getD_mem' (d := default) hl)
    have l1 := s2_le hc hs b2
    have l2 := funH_le (i := i2) (by omega) ha
    have l3 := hs.fs i2 hl
    refine ⟨⟨by omega,hlt⟩,fun _ _ => ⟨⟨by omega,nat_i64 (by omega),by omega,ha.1⟩,show (s2 c i2).length + (funH i2 (c.funs.getD i2 default)).length ≤ 140737488355328 by omega,fun y2 => ⟨⟨0,y2,Nat.zero_le _,rfl,⟨(bld_next (s4_zero c i2)).1,(bld_next (s4_zero c i2)).2,rfl⟩,rfl⟩,?_⟩⟩⟩
    rintro ⟨i4,t4⟩ b4
    simp only at b4 ⊢
    have b4':i4 ≤ (c.funs.getD i2 default).code.length := b4
    refine ⟨fun hlt4 => ?_,fun hge4 => ?_⟩
    · have hl4:i4 < (c.funs.getD i2 default).code.length := by have:(i4:Int) < ((c.funs.getD i2 default).code.length:Int) := hlt4; omega
      have hx := ha.2.1 _ (getD_mem' (d := default) hl4)
      have l4 := s4_le hc hs hl b4'
      have l5 := line_le (i := i4) (by omega) hx
      exact ⟨⟨by omega,hlt4⟩,fun _ _ => ⟨⟨nat_i64 (by omega),hx,ops_rng hr hl hl4⟩,show (s4 c i2 i4).length + (lineT i4 ((c.funs.getD i2 default).code.getD i4 default)).length ≤ 140737488355328 by omega,fun y4 => ⟨i4 + 1,y4,hl4,by change (c.funs.getD i2 default).code.length - (i4 + 1) < (c.funs.getD i2 default).code.length - i4; omega,wrap_i64' (by omega) (by omega),⟨(bld_next (s4_step c i2 i4)).1,(bld_next (s4_step c i2 i4)).2,rfl⟩,rfl⟩⟩⟩
    · have e4:i4 = (c.funs.getD i2 default).code.length := by have:¬ (i4:Int) < ((c.funs.getD i2 default).code.length:Int) := hge4; omega
      have e:s4 c i2 i4 = s2 c (i2 + 1) := by rw [e4]; exact s2_step c i2
      exact ⟨i2 + 1,t4,by omega,by omega,wrap_i64' (by omega) (by omega),⟨(bld_next e).1,(bld_next e).2,rfl⟩,rfl⟩
  obtain rfl:i2 = c.funs.length := by omega
  refine ⟨⟨0,t2,Nat.zero_le _,rfl,⟨(bld_next (s6_zero c).symm).1,(bld_next (s6_zero c).symm).2,rfl⟩,rfl⟩,?_⟩
  rintro ⟨i6,t6⟩ b6
  simp only at b6 ⊢
  refine ⟨fun hlt => ?_,fun hge => ?_⟩
  · have hl:i6 < c.kers.length := by omega
    have ha := hc.2.2.1 _ (getD_mem' (d := default) hl)
    have l1 := s6_le hc hs b6
    have l2 := kerH_le (i := i6) (by omega) ha
    have l3 := hs.ks i6 hl
    refine ⟨⟨by omega,hlt⟩,fun _ _ => ⟨⟨by omega,nat_i64 (by omega),by omega,ha.1,by omega,ha.2.2.2.1,by omega,ha.2.2.2.2⟩,show (s6 c i6).length + (kerH i6 (c.kers.getD i6 default)).length ≤ 140737488355328 by omega,fun y2 => ⟨⟨0,y2,Nat.zero_le _,rfl,⟨(bld_next (s8_zero c i6)).1,(bld_next (s8_zero c i6)).2,rfl⟩,rfl⟩,?_⟩⟩⟩
    rintro ⟨i8,t8⟩ b8
    simp only at b8 ⊢
    have b8':i8 ≤ (c.kers.getD i6 default).ops.length := b8
    refine ⟨fun hlt8 => ?_,fun hge8 => ?_⟩
    · have hl8:i8 < (c.kers.getD i6 default).ops.length := by have:(i8:Int) < ((c.kers.getD i6 default).ops.length:Int) := hlt8; omega
      have hx := ha.2.1 _ (getD_mem' (d := default) hl8)
      have l4 := s8_le hc hs hl b8'
      have l5 := kop_le (k := c.kers.getD i6 default) (j := i8) hx
      have l6 := showI_le (wrap_in ((c.kers.getD i6 default).inputs + i8))
      refine ⟨⟨by omega,hlt8⟩,fun _ _ => both ⟨wrap_in _,?_,⟨?_,hx.1,hx.2.1,hx.2.2.1,by omega,hx.2.2.2⟩,show (s8 c i6 i8).length + (kopT (c.kers.getD i6 default) i8 ((c.kers.getD i6 default).ops.getD i8 default)).length ≤ 140737488355328 by omega,fun y4 => ⟨i8 + 1,y4,hl8,by change (c.kers.getD i6 default).ops.length - (i8 + 1) < (c.kers.getD i6 default).ops.length - i8; omega,wrap_i64' (by omega) (by omega),⟨(bld_next (s8_step c i6 i8)).1,(bld_next (s8_step c i6 i8)).2,rfl⟩,rfl⟩⟩⟩
      · change 2 + (showI (IntKind.i64.wrap ((c.kers.getD i6 default).inputs + i8))).length ≤ _; omega
      · change (showI (IntKind.i64.wrap ((c.kers.getD i6 default).inputs + i8))).length + 1 + 1 ≤ _; omega
    · have e8:i8 = (c.kers.getD i6 default).ops.length := by have:¬ (i8:Int) < ((c.kers.getD i6 default).ops.length:Int) := hge8; omega
      have e:s8 c i6 i8 = s6 c (i6 + 1) := by rw [e8]; exact s6_step c i6
      exact ⟨i6 + 1,t8,by omega,by omega,wrap_i64' (by omega) (by omega),⟨(bld_next e).1,(bld_next e).2,rfl⟩,rfl⟩
  obtain rfl:i6 = c.kers.length := by omega
  refine ⟨⟨0,t6,Nat.zero_le _,rfl,⟨(bld_next (s10_zero c).symm).1,(bld_next (s10_zero c).symm).2,rfl⟩,rfl⟩,?_⟩
  rintro ⟨ia,ta⟩ ba
  simp only at ba ⊢
  refine ⟨fun hlt => ?_,fun hge => ?_⟩
  · have hl:ia < c.lanes.length := by omega
    have ha := hc.2.2.2.1 _ (getD_mem' (d := default) hl)
    have l1 := s10_le hc hs ba
    have l2 := lanH_le (i := ia) (by omega) ha
    have l3 := hs.ls ia hl
    refine ⟨⟨by omega,hlt⟩,fun _ _ => ⟨⟨by omega,nat_i64 (by omega),by omega,ha.1⟩,show (s10 c ia).length + (lanH ia (c.lanes.getD ia default)).length ≤ 140737488355328 by omega,fun y2 => ⟨⟨0,y2,Nat.zero_le _,rfl,⟨(bld_next (s12_zero c ia)).1,(bld_next (s12_zero c ia)).2,rfl⟩,rfl⟩,?_⟩⟩⟩
    rintro ⟨ic,tc⟩ bc
    simp only at bc ⊢
    have bc':ic ≤ (c.lanes.getD ia default).code.length := bc
    refine ⟨fun hltc => ?_,fun hgec => ?_⟩
    · have hlc:ic < (c.lanes.getD ia default).code.length := by have:(ic:Int) < ((c.lanes.getD ia default).code.length:Int) := hltc; omega
      have hx := ha.2.1 _ (getD_mem' (d := default) hlc)
      have l4 := s12_le hc hs hl bc'
      have l5 := lop_le hx
      have l6 := showI_le hx.1
      refine ⟨⟨by omega,hltc⟩,fun _ _ => both ⟨hx.1,?_,⟨?_,hx.2.1,hx.2.2.1,hx.2.2.2.1,hx.2.2.2.2.1,hx.2.2.2.2.2⟩,show (s12 c ia ic).length + (lopT ((c.lanes.getD ia default).code.getD ic default)).length ≤ 140737488355328 by omega,fun y4 => ⟨ic + 1,y4,hlc,by change (c.lanes.getD ia default).code.length - (ic + 1) < (c.lanes.getD ia default).code.length - ic; omega,wrap_i64' (by omega) (by omega),⟨(bld_next (s12_step c ia ic)).1,(bld_next (s12_step c ia ic)).2,rfl⟩,rfl⟩⟩⟩
      · change 2 + (showI ((c.lanes.getD ia default).code.getD ic default).a).length ≤ _; omega
      · change (showI ((c.lanes.getD ia default).code.getD ic default).a).length + 1 + 1 ≤ _; omega
    · have ec:ic = (c.lanes.getD ia default).code.length := by have:¬ (ic:Int) < ((c.lanes.getD ia default).code.length:Int) := hgec; omega
      have e:s12 c ia ic = s10 c (ia + 1) := by rw [ec]; exact s10_step c ia
      exact ⟨ia + 1,tc,by omega,by omega,wrap_i64' (by omega) (by omega),⟨(bld_next e).1,(bld_next e).2,rfl⟩,rfl⟩
  obtain rfl:ia = c.lanes.length := by omega
  have l1 := s10_le hc hs ba
  exact ⟨by omega,by unfold showC; rw [if_pos hr]⟩
end Go.Proofs.YtflbmbkhjcbhoaaGreatDoor
namespace Go.Proofs.YtflbmbkhjcbhoaaGreatDoor
open Go Go.Ab
set_option maxRecDepth 100000
noncomputable def sameT {α:Type} (a b:α):Bool := @decide (a = b) (Classical.propDecidable _)
theorem sameT_iff {α:Type} {a b:α}:sameT a b = true↔a = b := by unfold sameT; exact @decide_eq_true_iff _ (Classical.propDecidable _)
theorem sameT_no {α:Type} {a b:α} (h:a ≠ b):false = sameT a b := by
  cases hs:sameT a b with
  | false => rfl
  | true => exact (h (sameT_iff.1 hs)).elim
theorem sameT_yes {α:Type} {a b:α} (h:a = b):true = sameT a b := (sameT_iff.2 h).symm
theorem eq_getD {α:Type} {l m:List α} (d:α) (h:l.length = m.length) (h2:∀ j,j < l.length→l.getD j d = m.getD j d):l = m := by
  apply List.ext_getElem h
  intro i h3 h4
  have := h2 i h3
  simpa [List.getD_eq_getElem?_getD,List.getElem?_eq_getElem h3,List.getElem?_eq_getElem h4] using this
theorem beq4 (x y:I4):(x.a == y.a && (x.b == y.b && (x.c == y.c && (x.d == y.d && true)))) = sameT x y := by
  cases x; cases y
  rw [Bool.eq_iff_iff,sameT_iff]
  simp
theorem beq6 (x y:I6):(x.a == y.a && (x.b == y.b && (x.c == y.c && (x.d == y.d && (x.e == y.e && (x.f == y.f && true)))))) = sameT x y := by
  cases x; cases y
  rw [Bool.eq_iff_iff,sameT_iff]
  simp
theorem all_step {α:Type} [Inhabited α] {l m:List α} {i:Nat} (h:∀ j,j < i→l.getD j default = m.getD j default) (e:l.getD i default = m.getD i default):∀ j,j < i + 1→l.getD j default = m.getD j default := fun j hj => by
  by_cases q:j = i
  · subst q; exact e
  · exact h j (by omega)
noncomputable def Eq4 (l m:List I4):Senv := { EC con0 26 2 [4,5,10,12,13,14,24] (fun id => match id with | 6 => ([0,1,2,3,4,5,6,7,8],[]) | _ => ([],[])) with
  ann := fun q _ S => match q with
    | 0 => some { slots := [13],keep := [0,1,11,12],α := Nat,st := fun i => ([.int .i64 i],S),inv := fun i => i ≤ l.length∧∀ j,j < i→l.getD j default = m.getD j default,mu := fun i => l.length - i }
    | _ => none }
noncomputable section
def sm1q0 (p0 p1:List I4):Prop := True∧∃ (y:Unit),True∧false = sameT p0 p1∧True∧True
def sm1q1:I4 := D4
def sm1q2 (p0:List I4) (p1:Nat):I4 := List.getD p0 p1 sm1q1
def sm1q3 (p0:Nat) (p1 p2:List I4):Prop := p0 ≤ LN p1∧∀ (j:Nat),j < p0→sm1q2 p1 j = sm1q2 p2 j
def sm1q4 (p0:List I4) (p1:Nat):I4 := List.getD p0 (Int.toNat (↑p1:Int)) sm1q1
def sm1q5 (p0:List I4) (p1:Nat):Int := I4.a (sm1q4 p0 p1)
def sm1q6 (p0:List I4) (p1:Nat):Int := I4.b (sm1q4 p0 p1)
def sm1q7 (p0:List I4) (p1:Nat):Int := I4.c (sm1q4 p0 p1)
def sm1q8 (p0:List I4) (p1:Nat):Int := I4.d (sm1q4 p0 p1)
def sm1q9 (p0:List I4):D := D.sl N4 (LN p0) (fun (i:Nat) => (R4 (sm1q2 p0 i))) Mode.any
def sm1q10 (p0:List I4):Prop := SM (sm1q9 p0)
end
theorem eq4_ok (l m:List I4) (hl:l.length ≤ maxLen) (hm:m.length ≤ maxLen):ACalls Tryz.prog 46 [gsl 4 I4.row l,gsl 4 I4.row m] ⟨[],[]⟩ (SpecR (sC [gsl 4 I4.row l,gsl 4 I4.row m] (.bool (sameT l m))) ()) := by
  refine con_of (A := sC _ _) (x := ()) (E := Eq4 l m) (eOk con0_ok rfl) Tryz.func46 rfl (by kernel_rfl) rfl (by simp [sC,Eq4,EC,E0]) ?_
  refine vc_eq (T :=
    ifB ((LI l) != (LI m)) (sm1q0 l m) ((∃ (x:Nat),sm1q3 x l m∧(Z0 = (↑x:Int)∧True)∧True∧True)∧∀ (x:Nat),sm1q3 x l m→ifB (decide ((↑x:Int) < (LI l))) (side (Z0 ≤ (↑x:Int)∧(↑x:Int) < (LI l)) (side (Z0 ≤ (↑x:Int)∧(↑x:Int) < (LI m)) (ifB (! (sm1q5 l x == sm1q5 m x && (sm1q6 l x == sm1q6 m x && (sm1q7 l x == sm1q7 m x && (sm1q8 l x == sm1q8 m x && true))))) (sm1q0 l m) ((sm1q10 l∧sm1q10 m∧SM D.unk∧SM (ZI (LI l))∧True)∧∃ (y:Nat),sm1q3 y l m∧LN l - y < LN l - x∧(IntKind.wrap IntKind.i64 ((↑x:Int) + Z1) = (↑y:Int)∧True)∧True∧True)))) (True∧∃ (y:Unit),True∧true = sameT l m∧True∧True))) (by kernel_rfl) ?_
  delta D4 LI LN N4 R4 SM Z0 Z1 ZI sm1q0 sm1q1 sm1q10 sm1q2 sm1q3 sm1q4 sm1q5 sm1q6 sm1q7 sm1q8 sm1q9
  simp only [beq4,ifB_iff,side_iff,decide_eq_true_eq,decide_eq_false_iff_not,true_and,and_true,beq_iff_eq,bne_iff_ne,bne_eq_false_iff_eq,ne_eq,exists_const,forall_const,implies_true,Int.toNat_natCast,Bool.not_eq_true',Bool.not_eq_false']
  simp only [maxLen] at hl hm
  have d0:(default:I4) = ⟨0,0,0,0⟩ := rfl
  rw [← d0]
  refine ⟨fun h => sameT_no fun e => h (by rw [e]),fun he => ⟨⟨0,⟨Nat.zero_le _,fun j hj => absurd hj (by omega)⟩,rfl⟩,fun i hi => ⟨fun hlt => ⟨⟨by omega,by omega⟩,⟨by omega,by omega⟩,fun hn => sameT_no fun e => ?_,fun hn => ⟨i + 1,⟨by omega,all_step hi.2 (sameT_iff.1 hn)⟩,by omega,wrap_i64' (by omega) (by omega)⟩⟩,fun hge => sameT_yes (eq_getD default (by omega) fun j hj => hi.2 j (by omega))⟩⟩⟩
  rw [e,sameT_iff.2 rfl] at hn; cases hn
noncomputable def Eqk (l m:List I4):Senv := { EC con0 26 2 [4,5,10,12,13,14,24] (fun id => match id with | 6 => ([0,1,2,3,4,5,6,7,8],[]) | _ => ([],[])) with
  ann := fun q _ S => match q with
    | 0 => some { slots := [13],keep := [0,1,11,12],α := Nat,st := fun i => ([.int .i64 i],S),inv := fun i => i ≤ l.length∧∀ j,j < i→l.getD j default = m.getD j default,mu := fun i => l.length - i }
    | _ => none }
noncomputable section
def sm1q11 (p0 p1:List I4):Prop := True∧∃ (y:Unit),True∧false = sameT p0 p1∧True∧True
def sm1q12:I4 := D4
def sm1q13 (p0:List I4) (p1:Nat):I4 := List.getD p0 p1 sm1q12
def sm1q14 (p0:Nat) (p1 p2:List I4):Prop := p0 ≤ LN p1∧∀ (j:Nat),j < p0→sm1q13 p1 j = sm1q13 p2 j
def sm1q15 (p0:List I4) (p1:Nat):I4 := List.getD p0 (Int.toNat (↑p1:Int)) sm1q12
def sm1q16 (p0:List I4) (p1:Nat):Int := I4.a (sm1q15 p0 p1)
def sm1q17 (p0:List I4) (p1:Nat):Int := I4.b (sm1q15 p0 p1)
def sm1q18 (p0:List I4) (p1:Nat):Int := I4.c (sm1q15 p0 p1)
def sm1q19 (p0:List I4) (p1:Nat):Int := I4.d (sm1q15 p0 p1)
def sm1q20 (p0:List I4):D := D.sl N4 (LN p0) (fun (i:Nat) => (R4 (sm1q13 p0 i))) Mode.any
def sm1q21 (p0:List I4):Prop := SM (sm1q20 p0)
end
theorem eqk_ok (l m:List I4) (hl:l.length ≤ maxLen) (hm:m.length ≤ maxLen):ACalls Tryz.prog 49 [gsl 4 I4.row l,gsl 4 I4.row m] ⟨[],[]⟩ (SpecR (sC [gsl 4 I4.row l,gsl 4 I4.row m] (.bool (sameT l m))) ()) := by
  refine con_of (A := sC _ _) (x := ()) (E := Eqk l m) (eOk con0_ok rfl) Tryz.func49 rfl (by kernel_rfl) rfl (by simp [sC,Eqk,EC,E0]) ?_
  refine vc_eq (T :=
    ifB ((LI l) != (LI m)) (sm1q11 l m) ((∃ (x:Nat),sm1q14 x l m∧(Z0 = (↑x:Int)∧True)∧True∧True)∧∀ (x:Nat),sm1q14 x l m→ifB (decide ((↑x:Int) < (LI l))) (side (Z0 ≤ (↑x:Int)∧(↑x:Int) < (LI l)) (side (Z0 ≤ (↑x:Int)∧(↑x:Int) < (LI m)) (ifB (! (sm1q16 l x == sm1q16 m x && (sm1q17 l x == sm1q17 m x && (sm1q18 l x == sm1q18 m x && (sm1q19 l x == sm1q19 m x && true))))) (sm1q11 l m) ((sm1q21 l∧sm1q21 m∧SM D.unk∧SM (ZI (LI l))∧True)∧∃ (y:Nat),sm1q14 y l m∧LN l - y < LN l - x∧(IntKind.wrap IntKind.i64 ((↑x:Int) + Z1) = (↑y:Int)∧True)∧True∧True)))) (True∧∃ (y:Unit),True∧true = sameT l m∧True∧True))) (by kernel_rfl) ?_
  delta D4 LI LN N4 R4 SM Z0 Z1 ZI sm1q11 sm1q12 sm1q13 sm1q14 sm1q15 sm1q16 sm1q17 sm1q18 sm1q19 sm1q20 sm1q21
  simp only [beq4,ifB_iff,side_iff,decide_eq_true_eq,decide_eq_false_iff_not,true_and,and_true,beq_iff_eq,bne_iff_ne,bne_eq_false_iff_eq,ne_eq,exists_const,forall_const,implies_true,Int.toNat_natCast,Bool.not_eq_true',Bool.not_eq_false']
  simp only [maxLen] at hl hm
  have d0:(default:I4) = ⟨0,0,0,0⟩ := rfl
  rw [← d0]
  refine ⟨fun h => sameT_no fun e => h (by rw [e]),fun he => ⟨⟨0,⟨Nat.zero_le _,fun j hj => absurd hj (by omega)⟩,rfl⟩,fun i hi => ⟨fun hlt => ⟨⟨by omega,by omega⟩,⟨by omega,by omega⟩,fun hn => sameT_no fun e => ?_,fun hn => ⟨i + 1,⟨by omega,all_step hi.2 (sameT_iff.1 hn)⟩,by omega,wrap_i64' (by omega) (by omega)⟩⟩,fun hge => sameT_yes (eq_getD default (by omega) fun j hj => hi.2 j (by omega))⟩⟩⟩
  rw [e,sameT_iff.2 rfl] at hn; cases hn
noncomputable def Eq6 (l m:List I6):Senv := { EC con0 26 2 [4,5,10,12,13,14,24] (fun id => match id with | 6 => ([0,1,2,3,4,5,6,7,8],[]) | _ => ([],[])) with
  ann := fun q _ S => match q with
    | 0 => some { slots := [13],keep := [0,1,11,12],α := Nat,st := fun i => ([.int .i64 i],S),inv := fun i => i ≤ l.length∧∀ j,j < i→l.getD j default = m.getD j default,mu := fun i => l.length - i }
    | _ => none }
noncomputable section
def sm1q22 (p0 p1:List I6):Prop := True∧∃ (y:Unit),True∧false = sameT p0 p1∧True∧True
def sm1q23:I6 := D6
def sm1q24 (p0:List I6) (p1:Nat):I6 := List.getD p0 p1 sm1q23
def sm1q25 (p0:Nat) (p1 p2:List I6):Prop := p0 ≤ LN p1∧∀ (j:Nat),j < p0→sm1q24 p1 j = sm1q24 p2 j
def sm1q26 (p0:List I6) (p1:Nat):I6 := List.getD p0 (Int.toNat (↑p1:Int)) sm1q23
def sm1q27 (p0:List I6) (p1:Nat):Int := I6.a (sm1q26 p0 p1)
def sm1q28 (p0:List I6) (p1:Nat):Int := I6.b (sm1q26 p0 p1)
def sm1q29 (p0:List I6) (p1:Nat):Int := I6.c (sm1q26 p0 p1)
def sm1q30 (p0:List I6) (p1:Nat):Int := I6.d (sm1q26 p0 p1)
def sm1q31 (p0:List I6) (p1:Nat):Int := I6.e (sm1q26 p0 p1)
def sm1q32 (p0:List I6) (p1:Nat):Int := I6.f (sm1q26 p0 p1)
def sm1q33 (p0:List I6):D := D.sl N6 (LN p0) (fun (i:Nat) => (R6 (sm1q24 p0 i))) Mode.any
def sm1q34 (p0:List I6):Prop := SM (sm1q33 p0)
end
theorem eq6_ok (l m:List I6) (hl:l.length ≤ maxLen) (hm:m.length ≤ maxLen):ACalls Tryz.prog 52 [gsl 6 I6.row l,gsl 6 I6.row m] ⟨[],[]⟩ (SpecR (sC [gsl 6 I6.row l,gsl 6 I6.row m] (.bool (sameT l m))) ()) := by
  refine con_of (A := sC _ _) (x := ()) (E := Eq6 l m) (eOk con0_ok rfl) Tryz.func52 rfl (by kernel_rfl) rfl (by simp [sC,Eq6,EC,E0]) ?_
  refine vc_eq (T :=
    ifB ((LI l) != (LI m)) (sm1q22 l m) ((∃ (x:Nat),sm1q25 x l m∧(Z0 = (↑x:Int)∧True)∧True∧True)∧∀ (x:Nat),sm1q25 x l m→ifB (decide ((↑x:Int) < (LI l))) (side (Z0 ≤ (↑x:Int)∧(↑x:Int) < (LI l)) (side (Z0 ≤ (↑x:Int)∧(↑x:Int) < (LI m)) (ifB (! (sm1q27 l x == sm1q27 m x && (sm1q28 l x == sm1q28 m x && (sm1q29 l x == sm1q29 m x && (sm1q30 l x == sm1q30 m x && (sm1q31 l x == sm1q31 m x && (sm1q32 l x == sm1q32 m x && true))))))) (sm1q22 l m) ((sm1q34 l∧sm1q34 m∧SM D.unk∧SM (ZI (LI l))∧True)∧∃ (y:Nat),sm1q25 y l m∧LN l - y < LN l - x∧(IntKind.wrap IntKind.i64 ((↑x:Int) + Z1) = (↑y:Int)∧True)∧True∧True)))) (True∧∃ (y:Unit),True∧true = sameT l m∧True∧True))) (by kernel_rfl) ?_
  delta D6 LI LN N6 R6 SM Z0 Z1 ZI sm1q22 sm1q23 sm1q24 sm1q25 sm1q26 sm1q27 sm1q28 sm1q29 sm1q30 sm1q31 sm1q32 sm1q33 sm1q34
  simp only [beq6,ifB_iff,side_iff,decide_eq_true_eq,decide_eq_false_iff_not,true_and,and_true,beq_iff_eq,bne_iff_ne,bne_eq_false_iff_eq,ne_eq,exists_const,forall_const,implies_true,Int.toNat_natCast,Bool.not_eq_true',Bool.not_eq_false']
  simp only [maxLen] at hl hm
  have d0:(default:I6) = ⟨0,0,0,0,0,0⟩ := rfl
  rw [← d0]
  refine ⟨fun h => sameT_no fun e => h (by rw [e]),fun he => ⟨⟨0,⟨Nat.zero_le _,fun j hj => absurd hj (by omega)⟩,rfl⟩,fun i hi => ⟨fun hlt => ⟨⟨by omega,by omega⟩,⟨by omega,by omega⟩,fun hn => sameT_no fun e => ?_,fun hn => ⟨i + 1,⟨by omega,all_step hi.2 (sameT_iff.1 hn)⟩,by omega,wrap_i64' (by omega) (by omega)⟩⟩,fun hge => sameT_yes (eq_getD default (by omega) fun j hj => hi.2 j (by omega))⟩⟩⟩
  rw [e,sameT_iff.2 rfl] at hn; cases hn
end Go.Proofs.YtflbmbkhjcbhoaaGreatDoor
namespace Go.Proofs.YtflbmbkhjcbhoaaGreatDoor
open Go Go.Ab
set_option maxRecDepth 100000
noncomputable def EqI (l m:List Int):Senv := { EC con0 26 2 [4,5,10,12,13,14,24] (fun id => match id with | 6 => ([0,1,2,3,4,5,6,7,8],[]) | _ => ([],[])) with
  ann := fun q _ S => match q with
    | 0 => some { slots := [13],keep := [0,1,11,12],α := Nat,st := fun i => ([.int .i64 i],S),inv := fun i => i ≤ l.length∧∀ j,j < i→l.getD j default = m.getD j default,mu := fun i => l.length - i }
    | _ => none }
noncomputable section
def sm2q0 (p0 p1:List Int):Prop := True∧∃ (y:Unit),True∧false = sameT p0 p1∧True∧True
def sm2q1 (p0:Nat) (p1 p2:List Int):Prop := p0 ≤ LN p1∧∀ (j:Nat),j < p0→GI p1 j = GI p2 j
def sm2q2 (p0:List Int):D := SI p0
def sm2q3 (p0:List Int):Prop := SM (sm2q2 p0)
end
theorem eqI_ok (l m:List Int) (hl:l.length ≤ maxLen) (hm:m.length ≤ maxLen):ACalls Tryz.prog 80 [isl l .any,isl m .any] ⟨[],[]⟩ (SpecR (sC [isl l .any,isl m .any] (.bool (sameT l m))) ()) := by
  refine con_of (A := sC _ _) (x := ()) (E := EqI l m) (eOk con0_ok rfl) Tryz.func80 rfl (by kernel_rfl) rfl (by simp [sC,EqI,EC,E0]) ?_
  refine vc_eq (T :=
    ifB ((LI l) != (LI m)) (sm2q0 l m) ((∃ (x:Nat),sm2q1 x l m∧(Z0 = (↑x:Int)∧True)∧True∧True)∧∀ (x:Nat),sm2q1 x l m→ifB (decide ((↑x:Int) < (LI l))) (side (Z0 ≤ (↑x:Int)∧(↑x:Int) < (LI l)) (side (Z0 ≤ (↑x:Int)∧(↑x:Int) < (LI m)) (ifB (GI l (Int.toNat (↑x:Int)) != GI m (Int.toNat (↑x:Int))) (sm2q0 l m) ((sm2q3 l∧sm2q3 m∧SM D.unk∧SM (ZI (LI l))∧True)∧∃ (y:Nat),sm2q1 y l m∧LN l - y < LN l - x∧(IntKind.wrap IntKind.i64 ((↑x:Int) + Z1) = (↑y:Int)∧True)∧True∧True)))) (True∧∃ (y:Unit),True∧true = sameT l m∧True∧True))) (by kernel_rfl) ?_
  delta GI LI LN N1 SI SM Z0 Z1 ZI sm2q0 sm2q1 sm2q2 sm2q3
  simp only [ifB_iff,side_iff,decide_eq_true_eq,decide_eq_false_iff_not,true_and,and_true,beq_iff_eq,bne_iff_ne,bne_eq_false_iff_eq,ne_eq,exists_const,forall_const,implies_true,Int.toNat_natCast,Bool.not_eq_true',Bool.not_eq_false']
  simp only [maxLen] at hl hm
  refine ⟨fun h => sameT_no fun e => h (by rw [e]),fun he => ⟨⟨0,⟨Nat.zero_le _,fun j hj => absurd hj (by omega)⟩,rfl⟩,fun i hi => ⟨fun hlt => ⟨⟨by omega,by omega⟩,⟨by omega,by omega⟩,fun hn => sameT_no fun e => hn (by rw [e]),fun hn => ⟨i + 1,⟨by omega,all_step hi.2 hn⟩,by omega,wrap_i64' (by omega) (by omega)⟩⟩,fun hge => sameT_yes (eq_getD default (by omega) fun j hj => hi.2 j (by omega))⟩⟩⟩
noncomputable def sPr {α:Type} (row:α→List D) (q:α × α→Prop):FnSpec where
  β := α × α
  α := Unit
  args := fun x => [.agg (row x.1),.agg (row x.2)]
  st := fun _ => ⟨[],[]⟩
  pre := q
  post := fun _ _ => True
  res := fun x _ => .ret (.bool (sameT x.1 x.2))
  out := fun _ _ => ⟨[],[]⟩
theorem sPr_ok {α : Type} {k : Nat} {row : α → List D} {q : α × α → Prop} {ds : List D} {S : St} (h : ∀ x, q x → ACalls Tryz.prog k [.agg (row x.1), .agg (row x.2)] ⟨[], []⟩ (SpecR (sC [.agg (row x.1), .agg (row x.2)] (.bool (sameT x.1 x.2))) ())) :
    (∀ y,(sPr row q).pre y→ACalls Tryz.prog k ((sPr row q).args y) ((sPr row q).st y) (SpecR (sPr row q) y))∧(∀ y,(sPr row q).fit = some y→(sPr row q).pre y→weakL ds ((sPr row q).args y)∧leS ((sPr row q).st y) S)∧((sPr row q).all = true→∀ y,(sPr row q).pre y→weakL ds ((sPr row q).args y)∧(sPr row q).st y = S) :=
  ConOk.plain (fun (x:α × α) hx => (h x hx).mono fun _ _ ⟨y,q1,q2,q3⟩ => ⟨y,q1,q2,q3⟩) rfl rfl
noncomputable def conEA (l m:List Arr):Con := fun k _ _ => match k with
  | 43 => some (sPr Arr.row1 (fun x => x.1 ∈ l∧x.2 ∈ m))
  | _ => none
noncomputable def EeA (l m:List Arr):Senv := { EC (conEA l m) 32 3 [6,7,8,9,14,15,16,17,18,30] (fun _ => ([],[])) with
  ann := fun q _ S => match q with
    | 0 => some { slots := [17],keep := [0,1,2,15,16],α := Nat,st := fun i => ([.int .i64 i],S),inv := fun i => i ≤ l.length∧∀ j,j < i→l.getD j default = m.getD j default,mu := fun i => l.length - i }
    | _ => none }
noncomputable section
def sm2q4 (p0 p1:List Arr):Prop := True∧∃ (y:Unit),True∧false = sameT p0 p1∧True∧True
def sm2q5:Arr := DA
def sm2q6 (p0:List Arr) (p1:Nat):Arr := List.getD p0 p1 sm2q5
def sm2q7 (p0:Nat) (p1 p2:List Arr):Prop := p0 ≤ LN p1∧∀ (j:Nat),j < p0→sm2q6 p1 j = sm2q6 p2 j
def sm2q8 (p0:List Arr) (p1:Nat):Arr := List.getD p0 (Int.toNat (↑p1:Int)) sm2q5
def sm2q9 (p0:List Arr) (p1:Nat):List Int := Arr.sh (sm2q8 p0 p1)
def sm2q10 (p0:List Arr) (p1:Nat):Nat := LN (sm2q9 p0 p1)
def sm2q11 (p0:List Arr) (p1:Nat):List Int := Arr.nu (sm2q8 p0 p1)
def sm2q12 (p0:List Arr) (p1:Nat):Nat := LN (sm2q11 p0 p1)
def sm2q13 (p0:List Arr) (p1:Nat):List Arr := Arr.it (sm2q8 p0 p1)
def sm2q14 (p0:List Arr) (p1:Nat):Nat := LN (sm2q13 p0 p1)
def sm2q15 (p0:List Arr) (p1:Nat) (p2:Arr):Prop := Arr.k (sm2q8 p0 p1) = Arr.k p2∧(sm2q10 p0 p1 = LN (Arr.sh p2)∧(∀ (i:Nat),i < sm2q10 p0 p1→[ZI (GI (sm2q9 p0 p1) i)] = [ZI (GI (Arr.sh p2) i)])∧True)∧(sm2q12 p0 p1 = LN (Arr.nu p2)∧(∀ (i:Nat),i < sm2q12 p0 p1→[ZI (GI (sm2q11 p0 p1) i)] = [ZI (GI (Arr.nu p2) i)])∧True)∧(sm2q14 p0 p1 = LN (Arr.it p2)∧(∀ (i:Nat),i < sm2q14 p0 p1→Arr.row (List.getD (sm2q13 p0 p1) i sm2q5) = Arr.row (List.getD (Arr.it p2) i sm2q5))∧True)∧True
def sm2q16 (p0:List Arr) (p1:Nat):List Int := Arr.sh (sm2q6 p0 p1)
def sm2q17 (p0:List Arr) (p1:Nat):List Int := Arr.nu (sm2q6 p0 p1)
def sm2q18 (p0:List Arr) (p1:Nat):List Arr := Arr.it (sm2q6 p0 p1)
def sm2q19 (p0:List Arr):D := D.sl N4 (LN p0) (fun (i:Nat) => [ZI (Arr.k (sm2q6 p0 i)),SI (sm2q16 p0 i),SI (sm2q17 p0 i),D.sl N4 (LN (sm2q18 p0 i)) (fun (i_1:Nat) => Arr.row (List.getD (sm2q18 p0 i) i_1 sm2q5)) Mode.any]) Mode.any
def sm2q20 (p0:List Arr):Prop := SM (sm2q19 p0)
end
theorem efA_step (l m:List Arr) (hl:l.length ≤ maxLen) (hm:m.length ≤ maxLen) (hc:ConOk Tryz.prog (conEA l m)):ACalls Tryz.prog 42 [gsl 4 Arr.row1 l,gsl 4 Arr.row1 m,.fn (.func 43) [] []] ⟨[],[]⟩ (SpecR (sC [gsl 4 Arr.row1 l,gsl 4 Arr.row1 m,.fn (.func 43) [] []] (.bool (sameT l m))) ()) := by
  refine con_of (A := sC _ _) (x := ()) (E := EeA l m) (eOk hc rfl) Tryz.func42 rfl (by kernel_rfl) rfl (by simp [sC,EeA,EC,E0]) ?_
  refine vc_eq (T :=
    ifB ((LI l) != (LI m)) (sm2q4 l m) ((∃ (x:Nat),sm2q7 x l m∧(Z0 = (↑x:Int)∧True)∧True∧True)∧∀ (x:Nat),sm2q7 x l m→ifB (decide ((↑x:Int) < (LI l))) (side (Z0 ≤ (↑x:Int)∧(↑x:Int) < (LI l)) (∀ (x_1:Nat),True→SM x_1∧side (Z0 ≤ (↑x:Int)∧(↑x:Int) < (LI m)) (∀ (x_2:Nat),x_1 ≠ x_2∧True→SM x_2∧SM x_1∧SM x_2∧∃ (x_3:Arr × Arr),(sm2q15 l x x_3.1∧sm2q15 m x x_3.2∧True)∧(True∧True)∧(x_3.1 ∈ l∧x_3.2 ∈ m)∧∀ (y:Unit),True→ifB (!sameT x_3.1 x_3.2) (sm2q4 l m) ((sm2q20 l∧sm2q20 m∧SM (D.fn (Fn.func (43:Nat)) [] [])∧sm2q20 l∧SM (ZI (LI l))∧True)∧∃ (y:Nat),sm2q7 y l m∧LN l - y < LN l - x∧(IntKind.wrap IntKind.i64 ((↑x:Int) + Z1) = (↑y:Int)∧True)∧True∧True)))) (True∧∃ (y:Unit),True∧true = sameT l m∧True∧True))) (by kernel_rfl) ?_
  delta DA GI LI LN N1 N4 SI SM Z0 Z1 ZI sm2q10 sm2q11 sm2q12 sm2q13 sm2q14 sm2q15 sm2q16 sm2q17 sm2q18 sm2q19 sm2q20 sm2q4 sm2q5 sm2q6 sm2q7 sm2q8 sm2q9
  simp only [ifB_iff,side_iff,decide_eq_true_eq,decide_eq_false_iff_not,true_and,and_true,beq_iff_eq,bne_iff_ne,bne_eq_false_iff_eq,ne_eq,exists_const,forall_const,implies_true,Int.toNat_natCast,Bool.not_eq_true',Bool.not_eq_false',Prod.exists]
  simp only [maxLen] at hl hm
  refine ⟨fun h => sameT_no fun e => h (by rw [e]),fun he => ⟨⟨0,⟨Nat.zero_le _,fun j hj => absurd hj (by omega)⟩,rfl⟩,fun i hi => ⟨fun hlt => ⟨⟨by omega,by omega⟩,fun _ => ⟨⟨by omega,by omega⟩,fun _ _ => ⟨l.getD i default,m.getD i default,?_,⟨getD_mem' (by omega),getD_mem' (by omega)⟩,fun hn => sameT_no fun e => ?_,fun hs => ⟨i + 1,⟨by omega,all_step hi.2 (sameT_iff.1 hs)⟩,by omega,wrap_i64' (by omega) (by omega)⟩⟩⟩⟩,fun hge => sameT_yes (eq_getD default (by omega) fun j hj => hi.2 j (by omega))⟩⟩⟩
  · repeat' (first | rfl | exact fun _ _ => rfl | refine And.intro ?_ ?_)
  · rw [e,sameT_iff.2 rfl] at hn; cases hn
noncomputable def conEF (l m:List FnD):Con := fun k _ _ => match k with
  | 45 => some (sPr FnD.row (fun x => x.1 ∈ l∧x.2 ∈ m))
  | _ => none
noncomputable def EeF (l m:List FnD):Senv := { EC (conEF l m) 32 3 [6,7,8,9,14,15,16,17,18,30] (fun _ => ([],[])) with
  ann := fun q _ S => match q with
    | 0 => some { slots := [17],keep := [0,1,2,15,16],α := Nat,st := fun i => ([.int .i64 i],S),inv := fun i => i ≤ l.length∧∀ j,j < i→l.getD j default = m.getD j default,mu := fun i => l.length - i }
    | _ => none }
noncomputable section
def sm2q21 (p0 p1:List FnD):Prop := True∧∃ (y:Unit),True∧false = sameT p0 p1∧True∧True
def sm2q22:FnD := DF
def sm2q23 (p0:List FnD) (p1:Nat):FnD := List.getD p0 p1 sm2q22
def sm2q24 (p0:Nat) (p1 p2:List FnD):Prop := p0 ≤ LN p1∧∀ (j:Nat),j < p0→sm2q23 p1 j = sm2q23 p2 j
def sm2q25 (p0:List FnD) (p1:Nat):FnD := List.getD p0 (Int.toNat (↑p1:Int)) sm2q22
def sm2q26 (p0:List FnD) (p1:Nat):List I4 := FnD.code (sm2q25 p0 p1)
def sm2q27 (p0:List FnD) (p1:Nat):Nat := LN (sm2q26 p0 p1)
def sm2q28:I4 := D4
def sm2q29 (p0:List FnD) (p1 p2:Nat):I4 := List.getD (sm2q26 p0 p1) p2 sm2q28
def sm2q30 (p0:FnD) (p1:Nat):I4 := List.getD (FnD.code p0) p1 sm2q28
def sm2q31 (p0:List FnD) (p1:Nat) (p2:FnD):Prop := FnD.slots (sm2q25 p0 p1) = FnD.slots p2∧(sm2q27 p0 p1 = LN (FnD.code p2)∧(∀ (i:Nat),i < sm2q27 p0 p1→(R4 (sm2q29 p0 p1 i)) = (R4 (sm2q30 p2 i)))∧True)∧True
def sm2q32 (p0:List FnD) (p1:Nat):List I4 := FnD.code (sm2q23 p0 p1)
def sm2q33 (p0:List FnD) (p1 p2:Nat):I4 := List.getD (sm2q32 p0 p1) p2 sm2q28
def sm2q34 (p0:List FnD):D := D.sl N2 (LN p0) (fun (i:Nat) => [ZI (FnD.slots (sm2q23 p0 i)),D.sl N4 (LN (sm2q32 p0 i)) (fun (i_1:Nat) => (R4 (sm2q33 p0 i i_1))) Mode.any]) Mode.any
def sm2q35 (p0:List FnD):Prop := SM (sm2q34 p0)
end
theorem efF_step (l m:List FnD) (hl:l.length ≤ maxLen) (hm:m.length ≤ maxLen) (hc:ConOk Tryz.prog (conEF l m)):ACalls Tryz.prog 44 [gsl 2 FnD.row l,gsl 2 FnD.row m,.fn (.func 45) [] []] ⟨[],[]⟩ (SpecR (sC [gsl 2 FnD.row l,gsl 2 FnD.row m,.fn (.func 45) [] []] (.bool (sameT l m))) ()) := by
  refine con_of (A := sC _ _) (x := ()) (E := EeF l m) (eOk hc rfl) Tryz.func44 rfl (by kernel_rfl) rfl (by simp [sC,EeF,EC,E0]) ?_
  refine vc_eq (T :=
    ifB ((LI l) != (LI m)) (sm2q21 l m) ((∃ (x:Nat),sm2q24 x l m∧(Z0 = (↑x:Int)∧True)∧True∧True)∧∀ (x:Nat),sm2q24 x l m→ifB (decide ((↑x:Int) < (LI l))) (side (Z0 ≤ (↑x:Int)∧(↑x:Int) < (LI l)) (∀ (x_1:Nat),True→SM x_1∧side (Z0 ≤ (↑x:Int)∧(↑x:Int) < (LI m)) (∀ (x_2:Nat),x_1 ≠ x_2∧True→SM x_2∧SM x_1∧SM x_2∧∃ (x_3:FnD × FnD),(sm2q31 l x x_3.1∧sm2q31 m x x_3.2∧True)∧(True∧True)∧(x_3.1 ∈ l∧x_3.2 ∈ m)∧∀ (y:Unit),True→ifB (!sameT x_3.1 x_3.2) (sm2q21 l m) ((sm2q35 l∧sm2q35 m∧SM (D.fn (Fn.func (45:Nat)) [] [])∧sm2q35 l∧SM (ZI (LI l))∧True)∧∃ (y:Nat),sm2q24 y l m∧LN l - y < LN l - x∧(IntKind.wrap IntKind.i64 ((↑x:Int) + Z1) = (↑y:Int)∧True)∧True∧True)))) (True∧∃ (y:Unit),True∧true = sameT l m∧True∧True))) (by kernel_rfl) ?_
  delta D4 DF LI LN N2 N4 R4 SM Z0 Z1 ZI sm2q21 sm2q22 sm2q23 sm2q24 sm2q25 sm2q26 sm2q27 sm2q28 sm2q29 sm2q30 sm2q31 sm2q32 sm2q33 sm2q34 sm2q35
  simp only [ifB_iff,side_iff,decide_eq_true_eq,decide_eq_false_iff_not,true_and,and_true,beq_iff_eq,bne_iff_ne,bne_eq_false_iff_eq,ne_eq,exists_const,forall_const,implies_true,Int.toNat_natCast,Bool.not_eq_true',Bool.not_eq_false',Prod.exists]
  simp only [maxLen] at hl hm
  refine ⟨fun h => sameT_no fun e => h (by rw [e]),fun he => ⟨⟨0,⟨Nat.zero_le _,fun j hj => absurd hj (by omega)⟩,rfl⟩,fun i hi => ⟨fun hlt => ⟨⟨by omega,by omega⟩,fun _ => ⟨⟨by omega,by omega⟩,fun _ _ => ⟨l.getD i default,m.getD i default,?_,⟨getD_mem' (by omega),getD_mem' (by omega)⟩,fun hn => sameT_no fun e => ?_,fun hs => ⟨i + 1,⟨by omega,all_step hi.2 (sameT_iff.1 hs)⟩,by omega,wrap_i64' (by omega) (by omega)⟩⟩⟩⟩,fun hge => sameT_yes (eq_getD default (by omega) fun j hj => hi.2 j (by omega))⟩⟩⟩
  · repeat' (first | rfl | exact fun _ _ => rfl | refine And.intro ?_ ?_)
  · rw [e,sameT_iff.2 rfl] at hn; cases hn
noncomputable def conEK (l m:List KeD):Con := fun k _ _ => match k with
  | 48 => some (sPr KeD.row (fun x => x.1 ∈ l∧x.2 ∈ m))
  | _ => none
noncomputable def EeK (l m:List KeD):Senv := { EC (conEK l m) 32 3 [6,7,8,9,14,15,16,17,18,30] (fun _ => ([],[])) with
  ann := fun q _ S => match q with
    | 0 => some { slots := [17],keep := [0,1,2,15,16],α := Nat,st := fun i => ([.int .i64 i],S),inv := fun i => i ≤ l.length∧∀ j,j < i→l.getD j default = m.getD j default,mu := fun i => l.length - i }
    | _ => none }
noncomputable section
def sm2q36 (p0 p1:List KeD):Prop := True∧∃ (y:Unit),True∧false = sameT p0 p1∧True∧True
def sm2q37:KeD := DK
def sm2q38 (p0:List KeD) (p1:Nat):KeD := List.getD p0 p1 sm2q37
def sm2q39 (p0:Nat) (p1 p2:List KeD):Prop := p0 ≤ LN p1∧∀ (j:Nat),j < p0→sm2q38 p1 j = sm2q38 p2 j
def sm2q40 (p0:List KeD) (p1:Nat):KeD := List.getD p0 (Int.toNat (↑p1:Int)) sm2q37
def sm2q41 (p0:List KeD) (p1:Nat):List I4 := KeD.ops (sm2q40 p0 p1)
def sm2q42 (p0:List KeD) (p1:Nat):Nat := LN (sm2q41 p0 p1)
def sm2q43:I4 := D4
def sm2q44 (p0:List KeD) (p1 p2:Nat):I4 := List.getD (sm2q41 p0 p1) p2 sm2q43
def sm2q45 (p0:KeD) (p1:Nat):I4 := List.getD (KeD.ops p0) p1 sm2q43
def sm2q46 (p0:List KeD) (p1:Nat) (p2:KeD):Prop := KeD.inputs (sm2q40 p0 p1) = KeD.inputs p2∧(sm2q42 p0 p1 = LN (KeD.ops p2)∧(∀ (i:Nat),i < sm2q42 p0 p1→(R4 (sm2q44 p0 p1 i)) = (R4 (sm2q45 p2 i)))∧True)∧KeD.reduce (sm2q40 p0 p1) = KeD.reduce p2∧KeD.at_ (sm2q40 p0 p1) = KeD.at_ p2∧True
def sm2q47 (p0:List KeD) (p1:Nat):List I4 := KeD.ops (sm2q38 p0 p1)
def sm2q48 (p0:List KeD) (p1 p2:Nat):I4 := List.getD (sm2q47 p0 p1) p2 sm2q43
def sm2q49 (p0:List KeD):D := D.sl N4 (LN p0) (fun (i:Nat) => [ZI (KeD.inputs (sm2q38 p0 i)),D.sl N4 (LN (sm2q47 p0 i)) (fun (i_1:Nat) => (R4 (sm2q48 p0 i i_1))) Mode.any,ZI (KeD.reduce (sm2q38 p0 i)),ZI (KeD.at_ (sm2q38 p0 i))]) Mode.any
def sm2q50 (p0:List KeD):Prop := SM (sm2q49 p0)
end
theorem efK_step (l m:List KeD) (hl:l.length ≤ maxLen) (hm:m.length ≤ maxLen) (hc:ConOk Tryz.prog (conEK l m)):ACalls Tryz.prog 47 [gsl 4 KeD.row l,gsl 4 KeD.row m,.fn (.func 48) [] []] ⟨[],[]⟩ (SpecR (sC [gsl 4 KeD.row l,gsl 4 KeD.row m,.fn (.func 48) [] []] (.bool (sameT l m))) ()) := by
  refine con_of (A := sC _ _) (x := ()) (E := EeK l m) (eOk hc rfl) Tryz.func47 rfl (by kernel_rfl) rfl (by simp [sC,EeK,EC,E0]) ?_
  refine vc_eq (T :=
    ifB ((LI l) != (LI m)) (sm2q36 l m) ((∃ (x:Nat),sm2q39 x l m∧(Z0 = (↑x:Int)∧True)∧True∧True)∧∀ (x:Nat),sm2q39 x l m→ifB (decide ((↑x:Int) < (LI l))) (side (Z0 ≤ (↑x:Int)∧(↑x:Int) < (LI l)) (∀ (x_1:Nat),True→SM x_1∧side (Z0 ≤ (↑x:Int)∧(↑x:Int) < (LI m)) (∀ (x_2:Nat),x_1 ≠ x_2∧True→SM x_2∧SM x_1∧SM x_2∧∃ (x_3:KeD × KeD),(sm2q46 l x x_3.1∧sm2q46 m x x_3.2∧True)∧(True∧True)∧(x_3.1 ∈ l∧x_3.2 ∈ m)∧∀ (y:Unit),True→ifB (!sameT x_3.1 x_3.2) (sm2q36 l m) ((sm2q50 l∧sm2q50 m∧SM (D.fn (Fn.func (48:Nat)) [] [])∧sm2q50 l∧SM (ZI (LI l))∧True)∧∃ (y:Nat),sm2q39 y l m∧LN l - y < LN l - x∧(IntKind.wrap IntKind.i64 ((↑x:Int) + Z1) = (↑y:Int)∧True)∧True∧True)))) (True∧∃ (y:Unit),True∧true = sameT l m∧True∧True))) (by kernel_rfl) ?_
  delta D4 DK LI LN N4 R4 SM Z0 Z1 ZI sm2q36 sm2q37 sm2q38 sm2q39 sm2q40 sm2q41 sm2q42 sm2q43 sm2q44 sm2q45 sm2q46 sm2q47 sm2q48 sm2q49 sm2q50
  simp only [ifB_iff,side_iff,decide_eq_true_eq,decide_eq_false_iff_not,true_and,and_true,beq_iff_eq,bne_iff_ne,bne_eq_false_iff_eq,ne_eq,exists_const,forall_const,implies_true,Int.toNat_natCast,Bool.not_eq_true',Bool.not_eq_false',Prod.exists]
  simp only [maxLen] at hl hm
  refine ⟨fun h => sameT_no fun e => h (by rw [e]),fun he => ⟨⟨0,⟨Nat.zero_le _,fun j hj => absurd hj (by omega)⟩,rfl⟩,fun i hi => ⟨fun hlt => ⟨⟨by omega,by omega⟩,fun _ => ⟨⟨by omega,by omega⟩,fun _ _ => ⟨l.getD i default,m.getD i default,?_,⟨getD_mem' (by omega),getD_mem' (by omega)⟩,fun hn => sameT_no fun e => ?_,fun hs => ⟨i + 1,⟨by omega,all_step hi.2 (sameT_iff.1 hs)⟩,by omega,wrap_i64' (by omega) (by omega)⟩⟩⟩⟩,fun hge => sameT_yes (eq_getD default (by omega) fun j hj => hi.2 j (by omega))⟩⟩⟩
  · repeat' (first | rfl | exact fun _ _ => rfl | refine And.intro ?_ ?_)
  · rw [e,sameT_iff.2 rfl] at hn; cases hn
noncomputable def conEL (l m:List LaD):Con := fun k _ _ => match k with
  | 51 => some (sPr LaD.row (fun x => x.1 ∈ l∧x.2 ∈ m))
  | _ => none
noncomputable def EeL (l m:List LaD):Senv := { EC (conEL l m) 32 3 [6,7,8,9,14,15,16,17,18,30] (fun _ => ([],[])) with
  ann := fun q _ S => match q with
    | 0 => some { slots := [17],keep := [0,1,2,15,16],α := Nat,st := fun i => ([.int .i64 i],S),inv := fun i => i ≤ l.length∧∀ j,j < i→l.getD j default = m.getD j default,mu := fun i => l.length - i }
    | _ => none }
noncomputable section
def sm2q51 (p0 p1:List LaD):Prop := True∧∃ (y:Unit),True∧false = sameT p0 p1∧True∧True
def sm2q52:LaD := DL
def sm2q53 (p0:List LaD) (p1:Nat):LaD := List.getD p0 p1 sm2q52
def sm2q54 (p0:Nat) (p1 p2:List LaD):Prop := p0 ≤ LN p1∧∀ (j:Nat),j < p0→sm2q53 p1 j = sm2q53 p2 j
def sm2q55 (p0:List LaD) (p1:Nat):LaD := List.getD p0 (Int.toNat (↑p1:Int)) sm2q52
def sm2q56 (p0:List LaD) (p1:Nat):List I6 := LaD.code (sm2q55 p0 p1)
def sm2q57 (p0:List LaD) (p1:Nat):Nat := LN (sm2q56 p0 p1)
def sm2q58:I6 := D6
def sm2q59 (p0:List LaD) (p1 p2:Nat):I6 := List.getD (sm2q56 p0 p1) p2 sm2q58
def sm2q60 (p0:LaD) (p1:Nat):I6 := List.getD (LaD.code p0) p1 sm2q58
def sm2q61 (p0:List LaD) (p1:Nat) (p2:LaD):Prop := LaD.regs (sm2q55 p0 p1) = LaD.regs p2∧(sm2q57 p0 p1 = LN (LaD.code p2)∧(∀ (i:Nat),i < sm2q57 p0 p1→(R6 (sm2q59 p0 p1 i)) = (R6 (sm2q60 p2 i)))∧True)∧True
def sm2q62 (p0:List LaD) (p1:Nat):List I6 := LaD.code (sm2q53 p0 p1)
def sm2q63 (p0:List LaD) (p1 p2:Nat):I6 := List.getD (sm2q62 p0 p1) p2 sm2q58
def sm2q64 (p0:List LaD):D := D.sl N2 (LN p0) (fun (i:Nat) => [ZI (LaD.regs (sm2q53 p0 i)),D.sl N6 (LN (sm2q62 p0 i)) (fun (i_1:Nat) => (R6 (sm2q63 p0 i i_1))) Mode.any]) Mode.any
def sm2q65 (p0:List LaD):Prop := SM (sm2q64 p0)
end
theorem efL_step (l m:List LaD) (hl:l.length ≤ maxLen) (hm:m.length ≤ maxLen) (hc:ConOk Tryz.prog (conEL l m)):ACalls Tryz.prog 50 [gsl 2 LaD.row l,gsl 2 LaD.row m,.fn (.func 51) [] []] ⟨[],[]⟩ (SpecR (sC [gsl 2 LaD.row l,gsl 2 LaD.row m,.fn (.func 51) [] []] (.bool (sameT l m))) ()) := by
  refine con_of (A := sC _ _) (x := ()) (E := EeL l m) (eOk hc rfl) Tryz.func50 rfl (by kernel_rfl) rfl (by simp [sC,EeL,EC,E0]) ?_
  refine vc_eq (T :=
    ifB ((LI l) != (LI m)) (sm2q51 l m) ((∃ (x:Nat),sm2q54 x l m∧(Z0 = (↑x:Int)∧True)∧True∧True)∧∀ (x:Nat),sm2q54 x l m→ifB (decide ((↑x:Int) < (LI l))) (side (Z0 ≤ (↑x:Int)∧(↑x:Int) < (LI l)) (∀ (x_1:Nat),True→SM x_1∧side (Z0 ≤ (↑x:Int)∧(↑x:Int) < (LI m)) (∀ (x_2:Nat),x_1 ≠ x_2∧True→SM x_2∧SM x_1∧SM x_2∧∃ (x_3:LaD × LaD),(sm2q61 l x x_3.1∧sm2q61 m x x_3.2∧True)∧(True∧True)∧(x_3.1 ∈ l∧x_3.2 ∈ m)∧∀ (y:Unit),True→ifB (!sameT x_3.1 x_3.2) (sm2q51 l m) ((sm2q65 l∧sm2q65 m∧SM (D.fn (Fn.func (51:Nat)) [] [])∧sm2q65 l∧SM (ZI (LI l))∧True)∧∃ (y:Nat),sm2q54 y l m∧LN l - y < LN l - x∧(IntKind.wrap IntKind.i64 ((↑x:Int) + Z1) = (↑y:Int)∧True)∧True∧True)))) (True∧∃ (y:Unit),True∧true = sameT l m∧True∧True))) (by kernel_rfl) ?_
  delta D6 DL LI LN N2 N6 R6 SM Z0 Z1 ZI sm2q51 sm2q52 sm2q53 sm2q54 sm2q55 sm2q56 sm2q57 sm2q58 sm2q59 sm2q60 sm2q61 sm2q62 sm2q63 sm2q64 sm2q65
  simp only [ifB_iff,side_iff,decide_eq_true_eq,decide_eq_false_iff_not,true_and,and_true,beq_iff_eq,bne_iff_ne,bne_eq_false_iff_eq,ne_eq,exists_const,forall_const,implies_true,Int.toNat_natCast,Bool.not_eq_true',Bool.not_eq_false',Prod.exists]
  simp only [maxLen] at hl hm
  refine ⟨fun h => sameT_no fun e => h (by rw [e]),fun he => ⟨⟨0,⟨Nat.zero_le _,fun j hj => absurd hj (by omega)⟩,rfl⟩,fun i hi => ⟨fun hlt => ⟨⟨by omega,by omega⟩,fun _ => ⟨⟨by omega,by omega⟩,fun _ _ => ⟨l.getD i default,m.getD i default,?_,⟨getD_mem' (by omega),getD_mem' (by omega)⟩,fun hn => sameT_no fun e => ?_,fun hs => ⟨i + 1,⟨by omega,all_step hi.2 (sameT_iff.1 hs)⟩,by omega,wrap_i64' (by omega) (by omega)⟩⟩⟩⟩,fun hge => sameT_yes (eq_getD default (by omega) fun j hj => hi.2 j (by omega))⟩⟩⟩
  · repeat' (first | rfl | exact fun _ _ => rfl | refine And.intro ?_ ?_)
  · rw [e,sameT_iff.2 rfl] at hn; cases hn
end Go.Proofs.YtflbmbkhjcbhoaaGreatDoor
namespace Go.Proofs.YtflbmbkhjcbhoaaGreatDoor
open Go Go.Ab
set_option maxRecDepth 100000
theorem sameT_congr {α β:Type} {a b:α} {c d:β} (h:a = b↔c = d):sameT a b = sameT c d := by
  rw [Bool.eq_iff_iff,sameT_iff,sameT_iff]; exact h
theorem arr_ext {a b:Arr} (h1:a.k = b.k) (h2:a.sh = b.sh) (h3:a.nu = b.nu) (h4:a.it = b.it):a = b := by
  cases a; cases b
  simp only [Arr.k,Arr.sh,Arr.nu,Arr.it] at h1 h2 h3 h4
  rw [h1,h2,h3,h4]
theorem fnd_ext {x y:FnD} (h1:x.slots = y.slots) (h2:x.code = y.code):x = y := by
  cases x; cases y; simp only at h1 h2; rw [h1,h2]
theorem ked_ext {x y:KeD} (h1:x.inputs = y.inputs) (h2:x.ops = y.ops) (h3:x.reduce = y.reduce) (h4:x.at_ = y.at_):x = y := by
  cases x; cases y; simp only at h1 h2 h3 h4; rw [h1,h2,h3,h4]
theorem lad_ext {x y:LaD} (h1:x.regs = y.regs) (h2:x.code = y.code):x = y := by
  cases x; cases y; simp only at h1 h2; rw [h1,h2]
noncomputable def conSx1 (x y:FnD):Con := fun k ds _ => match k with
  | 46 => some (pC ds (.bool (sameT x.code y.code)) (weakL ds [gsl 4 I4.row x.code,gsl 4 I4.row y.code]))
  | _ => none
noncomputable def ESx1 (x y:FnD):Senv := EC (conSx1 x y) 17 5 [] (fun _ => ([],[]))
noncomputable section
def sm3q0 (p0:FnD):List I4 := FnD.code p0
def sm3q1 (p0:FnD):Nat := LN (sm3q0 p0)
def sm3q2 (p0:FnD) (p1:Nat):I4 := G4 (sm3q0 p0) p1
def sm3q3 (p0:FnD) (p1:Nat):List D := (R4 (sm3q2 p0 p1))
def sm3q4 (p0:FnD):Prop := SM (sm3q1 p0)∧(∀ (i:Nat),i < sm3q1 p0→SM (sm3q3 p0 i))∧True
end
theorem cl1_ok (x y:FnD) (hx:x.ok) (hy:y.ok):ACalls Tryz.prog 45 [.agg x.row,.agg y.row] ⟨[],[]⟩ (SpecR (sC [.agg x.row,.agg y.row] (.bool (sameT x y))) ()) := by
  refine con_of (A := sC _ _) (x := ()) (E := ESx1 x y) (eOk (fun k ds S A h => ?_) rfl) Tryz.func45 rfl (by kernel_rfl) rfl (by simp [sC,ESx1,EC,E0]) ?_
  · unfold conSx1 at h
    split at h
    · injection h with h; subst h
      exact pC_ok fun e => ⟨weakL_refl _,sC_weak e (eq4_ok _ _ hx.2.2 hy.2.2)⟩
    · cases h
  refine vc_eq (T :=
    ∀ (x_1:Nat),True→∀ (x_2:Nat),x_1 ≠ x_2∧True→SM x_1∧SM x_2∧ifB (FnD.slots x == FnD.slots y) (SM x_1∧SM x_2∧(sm3q4 x∧sm3q4 y∧True)∧∀ (y_1:Unit),True→True∧∃ (y_2:Unit),True∧sameT (sm3q0 x) (sm3q0 y) = sameT x y∧True∧True) (True∧∃ (y_1:Unit),True∧false = sameT x y∧True∧True)) (by kernel_rfl) ?_
  delta D4 G4 LN R4 SM Z0 ZI sm3q0 sm3q1 sm3q2 sm3q3 sm3q4
  simp only [ifB_iff,true_and,and_true,beq_iff_eq,beq_eq_false_iff_ne,ne_eq,exists_const,forall_const,implies_true,eq_self]
  exact fun _ _ _ => ⟨fun h => sameT_congr ⟨fun e => fnd_ext h e,fun e => by rw [e]⟩,fun h => sameT_no fun e => h (by rw [e])⟩
noncomputable def conSx2 (x y:KeD):Con := fun k ds _ => match k with
  | 49 => some (pC ds (.bool (sameT x.ops y.ops)) (weakL ds [gsl 4 I4.row x.ops,gsl 4 I4.row y.ops]))
  | _ => none
noncomputable def ESx2 (x y:KeD):Senv := EC (conSx2 x y) 31 5 [] (fun _ => ([],[]))
noncomputable section
def sm3q5 (p0:KeD):List I4 := KeD.ops p0
def sm3q6 (p0:KeD):Nat := LN (sm3q5 p0)
def sm3q7 (p0:KeD) (p1:Nat):I4 := G4 (sm3q5 p0) p1
def sm3q8 (p0:KeD) (p1:Nat):List D := (R4 (sm3q7 p0 p1))
def sm3q9 (p0:KeD):Prop := SM (sm3q6 p0)∧(∀ (i:Nat),i < sm3q6 p0→SM (sm3q8 p0 i))∧True
def sm3q10 (p0 p1:KeD):Prop := True∧∃ (_y:Unit),True∧false = sameT p0 p1∧True∧True
end
theorem cl2_ok (x y:KeD) (hx:x.ok) (hy:y.ok):ACalls Tryz.prog 48 [.agg x.row,.agg y.row] ⟨[],[]⟩ (SpecR (sC [.agg x.row,.agg y.row] (.bool (sameT x y))) ()) := by
  refine con_of (A := sC _ _) (x := ()) (E := ESx2 x y) (eOk (fun k ds S A h => ?_) rfl) Tryz.func48 rfl (by kernel_rfl) rfl (by simp [sC,ESx2,EC,E0]) ?_
  · unfold conSx2 at h
    split at h
    · injection h with h; subst h
      exact pC_ok fun e => ⟨weakL_refl _,sC_weak e (eqk_ok _ _ hx.2.2.1 hy.2.2.1)⟩
    · cases h
  refine vc_eq (T :=
    ∀ (x_1:Nat),True→∀ (x_2:Nat),x_1 ≠ x_2∧True→SM x_1∧SM x_2∧ifB (KeD.inputs x == KeD.inputs y) (SM x_1∧SM x_2∧ifB (KeD.reduce x == KeD.reduce y) (SM x_1∧SM x_2∧ifB (KeD.at_ x == KeD.at_ y) (SM x_1∧SM x_2∧(sm3q9 x∧sm3q9 y∧True)∧∀ (y_1:Unit),True→True∧∃ (y_2:Unit),True∧sameT (sm3q5 x) (sm3q5 y) = sameT x y∧True∧True) (sm3q10 x y)) (sm3q10 x y)) (sm3q10 x y)) (by kernel_rfl) ?_
  delta D4 G4 LN R4 SM Z0 ZI sm3q10 sm3q5 sm3q6 sm3q7 sm3q8 sm3q9
  simp only [ifB_iff,true_and,and_true,beq_iff_eq,beq_eq_false_iff_ne,ne_eq,exists_const,forall_const,implies_true,eq_self]
  exact fun _ _ _ => ⟨fun h1 => ⟨fun h2 => ⟨fun h3 => sameT_congr ⟨fun e => ked_ext h1 e h2 h3,fun e => by rw [e]⟩,fun h => sameT_no fun e => h (by rw [e])⟩,fun h => sameT_no fun e => h (by rw [e])⟩,fun h => sameT_no fun e => h (by rw [e])⟩
noncomputable def conSx3 (x y:LaD):Con := fun k ds _ => match k with
  | 52 => some (pC ds (.bool (sameT x.code y.code)) (weakL ds [gsl 6 I6.row x.code,gsl 6 I6.row y.code]))
  | _ => none
noncomputable def ESx3 (x y:LaD):Senv := EC (conSx3 x y) 17 5 [] (fun _ => ([],[]))
noncomputable section
def sm3q11 (p0:LaD):List I6 := LaD.code p0
def sm3q12 (p0:LaD):Nat := LN (sm3q11 p0)
def sm3q13 (p0:LaD) (p1:Nat):I6 := G6 (sm3q11 p0) p1
def sm3q14 (p0:LaD) (p1:Nat):List D := (R6 (sm3q13 p0 p1))
def sm3q15 (p0:LaD):Prop := SM (sm3q12 p0)∧(∀ (i:Nat),i < sm3q12 p0→SM (sm3q14 p0 i))∧True
end
theorem cl3_ok (x y:LaD) (hx:x.ok) (hy:y.ok):ACalls Tryz.prog 51 [.agg x.row,.agg y.row] ⟨[],[]⟩ (SpecR (sC [.agg x.row,.agg y.row] (.bool (sameT x y))) ()) := by
  refine con_of (A := sC _ _) (x := ()) (E := ESx3 x y) (eOk (fun k ds S A h => ?_) rfl) Tryz.func51 rfl (by kernel_rfl) rfl (by simp [sC,ESx3,EC,E0]) ?_
  · unfold conSx3 at h
    split at h
    · injection h with h; subst h
      exact pC_ok fun e => ⟨weakL_refl _,sC_weak e (eq6_ok _ _ hx.2.2 hy.2.2)⟩
    · cases h
  refine vc_eq (T :=
    ∀ (x_1:Nat),True→∀ (x_2:Nat),x_1 ≠ x_2∧True→SM x_1∧SM x_2∧ifB (LaD.regs x == LaD.regs y) (SM x_1∧SM x_2∧(sm3q15 x∧sm3q15 y∧True)∧∀ (y_1:Unit),True→True∧∃ (y_2:Unit),True∧sameT (sm3q11 x) (sm3q11 y) = sameT x y∧True∧True) (True∧∃ (y_1:Unit),True∧false = sameT x y∧True∧True)) (by kernel_rfl) ?_
  delta D6 G6 LN R6 SM Z0 ZI sm3q11 sm3q12 sm3q13 sm3q14 sm3q15
  simp only [ifB_iff,true_and,and_true,beq_iff_eq,beq_eq_false_iff_ne,ne_eq,exists_const,forall_const,implies_true,eq_self]
  exact fun _ _ _ => ⟨fun h => sameT_congr ⟨fun e => lad_ext h e,fun e => by rw [e]⟩,fun h => sameT_no fun e => h (by rw [e])⟩
noncomputable def conAs (l m:List Arr):Con := fun k ds _ => match k with
  | 42 => some (pC ds (.bool (sameT l m)) (weakL ds [gsl 4 Arr.row1 l,gsl 4 Arr.row1 m,.fn (.func 43) [] []]))
  | 80 => match ds with
    | [.sl 1 n f _,.sl 1 p g _] => some (pC ds (.bool (sameT (intsD n f) (intsD p g))) ((IntsP n f∧n ≤ maxLen)∧IntsP p g∧p ≤ maxLen))
    | _ => none
  | _ => none
noncomputable def Eas (a b:Arr):Senv := EC (conAs a.it b.it) 31 5 [] (fun _ => ([],[]))
noncomputable section
def sm3q16 (p0:Arr):Nat := LN (Arr.sh p0)
def sm3q17 (p0:Arr) (p1:Nat):List D := [ZI (GI (Arr.sh p0) p1)]
def sm3q18 (p0:Arr):Prop := (IntsP (sm3q16 p0) fun (i:Nat) => sm3q17 p0 i)∧sm3q16 p0 ≤ (9223372036854775807:Nat)
def sm3q19 (p0:Arr):List Int := intsD (sm3q16 p0) fun (i:Nat) => sm3q17 p0 i
def sm3q20 (p0:Arr):Nat := LN (Arr.nu p0)
def sm3q21 (p0:Arr) (p1:Nat):List D := [ZI (GI (Arr.nu p0) p1)]
def sm3q22 (p0:Arr):Prop := (IntsP (sm3q20 p0) fun (i:Nat) => sm3q21 p0 i)∧sm3q20 p0 ≤ (9223372036854775807:Nat)
def sm3q23 (p0:Arr):List Int := intsD (sm3q20 p0) fun (i:Nat) => sm3q21 p0 i
def sm3q24 (p0:Arr):List Arr := Arr.it p0
def sm3q25 (p0:Arr):Nat := LN (sm3q24 p0)
def sm3q26:Arr := DA
def sm3q27 (p0:Arr) (p1:Nat):Arr := List.getD (sm3q24 p0) p1 sm3q26
def sm3q28 (p0:Arr) (p1:Nat):List Int := Arr.sh (sm3q27 p0 p1)
def sm3q29 (p0:Arr) (p1:Nat):List Int := Arr.nu (sm3q27 p0 p1)
def sm3q30 (p0:Arr) (p1:Nat):List Arr := Arr.it (sm3q27 p0 p1)
def sm3q31 (p0:Arr) (p1:Nat):List D := [ZI (Arr.k (sm3q27 p0 p1)),SI (sm3q28 p0 p1),SI (sm3q29 p0 p1),D.sl N4 (LN (sm3q30 p0 p1)) (fun (i:Nat) => Arr.row (List.getD (sm3q30 p0 p1) i sm3q26)) Mode.any]
def sm3q32 (p0:Arr):Prop := SM (sm3q25 p0)∧(∀ (i:Nat),i < sm3q25 p0→SM (sm3q31 p0 i))∧True
def sm3q33 (p0 p1:Arr):Prop := True∧∃ (_y:Unit),True∧false = sameT p0 p1∧True∧True
end
theorem as_step (a b : Arr) (ha : a.sh.length ≤ maxLen ∧ a.nu.length ≤ maxLen ∧ a.it.length ≤ maxLen) (hb : b.sh.length ≤ maxLen ∧ b.nu.length ≤ maxLen ∧ b.it.length ≤ maxLen) (hc : ConOk Tryz.prog (conAs a.it b.it)) :
    ACalls Tryz.prog 43 [.agg a.row2,.agg b.row2] ⟨[],[]⟩ (SpecR (sC [.agg a.row2,.agg b.row2] (.bool (sameT a b))) ()) := by
  refine con_of (A := sC _ _) (x := ()) (E := Eas a b) (eOk hc rfl) Tryz.func43 rfl (by kernel_rfl) rfl (by simp [sC,Eas,EC,E0]) ?_
  refine vc_eq (T :=
    ∀ (x:Nat),True→∀ (x_1:Nat),x ≠ x_1∧True→SM x∧SM x_1∧ifB (Arr.k a == Arr.k b) (SM x∧SM x_1∧(sm3q18 a∧sm3q18 b)∧∀ (y:Unit),True→ifB (sameT (sm3q19 a) (sm3q19 b)) (SM x∧SM x_1∧(sm3q22 a∧sm3q22 b)∧∀ (y:Unit),True→ifB (sameT (sm3q23 a) (sm3q23 b)) (SM x∧SM x_1∧(sm3q32 a∧sm3q32 b∧SM (D.fn (Fn.func (43:Nat)) [] [])∧True)∧∀ (y:Unit),True→True∧∃ (y:Unit),True∧sameT (sm3q24 a) (sm3q24 b) = sameT a b∧True∧True) (sm3q33 a b)) (sm3q33 a b)) (sm3q33 a b)) (by kernel_rfl) ?_
  delta DA GI LN N1 N4 SI SM Z0 ZI sm3q16 sm3q17 sm3q18 sm3q19 sm3q20 sm3q21 sm3q22 sm3q23 sm3q24 sm3q25 sm3q26 sm3q27 sm3q28 sm3q29 sm3q30 sm3q31 sm3q32 sm3q33
  simp only [ifB_iff,true_and,and_true,beq_iff_eq,beq_eq_false_iff_ne,ne_eq,exists_const,forall_const,implies_true,eq_self,intsD_isl]
  simp only [maxLen] at ha hb
  obtain ⟨a1,a2,a3⟩ := ha
  obtain ⟨b1,b2,b3⟩ := hb
  have no:∀ {α:Type} {x y:α},sameT x y = false→x ≠ y := fun h e => by rw [sameT_iff.2 e] at h; cases h
  exact fun _ _ _ => ⟨fun hk => ⟨⟨⟨intsP_isl _,a1⟩,intsP_isl _,b1⟩,fun hs => ⟨⟨⟨intsP_isl _,a2⟩,intsP_isl _,b2⟩,fun hn => sameT_congr ⟨fun e => arr_ext hk (sameT_iff.1 hs) (sameT_iff.1 hn) e,fun e => by rw [e]⟩,fun hn => sameT_no fun e => no hn (by rw [e])⟩,fun hs => sameT_no fun e => no hs (by rw [e])⟩,fun h => sameT_no fun e => h (by rw [e])⟩
theorem as_row {a b:Arr} {k:Nat} {d:D} (h:ACalls Tryz.prog k [.agg a.row2,.agg b.row2] ⟨[],[]⟩ (SpecR (sC [.agg a.row2,.agg b.row2] d) ())):ACalls Tryz.prog k [.agg a.row1,.agg b.row1] ⟨[],[]⟩ (SpecR (sC [.agg a.row1,.agg b.row1] d) ()) :=
  (h.wkArgs (by simp only [wkL,wkD]; exact ⟨row1_wk _,row1_wk _,trivial⟩)).mono fun _ _ ⟨y,q1,q2,q3⟩ => ⟨y,q1,q2,q3⟩
theorem as_all:∀ (a b:Arr),a.ok→b.ok→ACalls Tryz.prog 43 [.agg a.row2,.agg b.row2] ⟨[],[]⟩ (SpecR (sC [.agg a.row2,.agg b.row2] (.bool (sameT a b))) ())
  | .mk k s n is,.mk k' s' n' is',ha,hb => by
    simp only [Arr.ok] at ha hb
    obtain ⟨_,_,_,a1,a2,a3,a4⟩ := ha
    obtain ⟨_,_,_,b1,b2,b3,b4⟩ := hb
    refine as_step _ _ ⟨a1,a2,a3⟩ ⟨b1,b2,b3⟩ ?_
    intro f ds S A h
    unfold conAs at h
    split at h
    · injection h with h; subst h
      refine pC_ok fun e => ⟨weakL_refl _,sC_weak e (efA_step _ _ a3 b3 ?_)⟩
      intro f ds S A h
      unfold conEA at h
      split at h
      · injection h with h; subst h
        refine sPr_ok fun (x:Arr × Arr) hx => ?_
        obtain ⟨x,y⟩ := x
        have hx1:x ∈ is := hx.1
        have hx2:y ∈ is' := hx.2
        exact as_row (as_all x y ((okL_iff _).1 a4 x hx1) ((okL_iff _).1 b4 y hx2))
      · cases h
    · split at h
      · injection h with h; subst h
        exact pC_ok fun ⟨⟨h1,h2⟩,h3,h4⟩ => ⟨weakL_refl _,sC_weak (us := [isl (intsD _ _) .any,isl (intsD _ _) .any]) ⟨(isl_weak h1).1,(isl_weak h3).1,trivial⟩ (eqI_ok _ _ (by rw [intsD_len]; exact h2) (by rw [intsD_len]; exact h4))⟩
      · cases h
    · cases h
termination_by a => SizeOf.sizeOf a
decreasing_by
  have := List.sizeOf_lt_of_mem hx1
  simp; omega
end Go.Proofs.YtflbmbkhjcbhoaaGreatDoor
namespace Go.Proofs.YtflbmbkhjcbhoaaGreatDoor
open Go Go.Ab
set_option maxRecDepth 100000
theorem cod_ext {c d:CodD} (h1:c.consts = d.consts) (h2:c.funs = d.funs) (h3:c.kers = d.kers) (h4:c.lanes = d.lanes):c = d := by
  cases c; cases d; simp only at h1 h2 h3 h4; rw [h1,h2,h3,h4]
noncomputable def conBs (c d:CodD):Con := fun k ds _ => match k with
  | 42 => some (pC ds (.bool (sameT c.consts d.consts)) (weakL ds [gsl 4 Arr.row1 c.consts,gsl 4 Arr.row1 d.consts,.fn (.func 43) [] []]))
  | 44 => some (pC ds (.bool (sameT c.funs d.funs)) (weakL ds [gsl 2 FnD.row c.funs,gsl 2 FnD.row d.funs,.fn (.func 45) [] []]))
  | 47 => some (pC ds (.bool (sameT c.kers d.kers)) (weakL ds [gsl 4 KeD.row c.kers,gsl 4 KeD.row d.kers,.fn (.func 48) [] []]))
  | 50 => some (pC ds (.bool (sameT c.lanes d.lanes)) (weakL ds [gsl 2 LaD.row c.lanes,gsl 2 LaD.row d.lanes,.fn (.func 51) [] []]))
  | _ => none
theorem conBs_ok {c d:CodD} (hc:c.ok) (hd:d.ok):ConOk Tryz.prog (conBs c d) := by
  intro k ds S A h
  unfold conBs at h
  split at h
  · injection h with h; subst h
    refine pC_ok fun e => ⟨weakL_refl _,sC_weak e (efA_step _ _ (hc.2.2.2.2.1) (hd.2.2.2.2.1) ?_)⟩
    intro f ds S A h
    unfold conEA at h
    split at h
    · injection h with h; subst h
      exact sPr_ok fun (x:Arr × Arr) hx => as_row (as_all x.1 x.2 (hc.1 _ hx.1) (hd.1 _ hx.2))
    · cases h
  · injection h with h; subst h
    refine pC_ok fun e => ⟨weakL_refl _,sC_weak e (efF_step _ _ (hc.2.2.2.2.2.1) (hd.2.2.2.2.2.1) ?_)⟩
    intro f ds S A h
    unfold conEF at h
    split at h
    · injection h with h; subst h
      exact sPr_ok fun (x:FnD × FnD) hx => cl1_ok x.1 x.2 (hc.2.1 _ hx.1) (hd.2.1 _ hx.2)
    · cases h
  · injection h with h; subst h
    refine pC_ok fun e => ⟨weakL_refl _,sC_weak e (efK_step _ _ (hc.2.2.2.2.2.2.1) (hd.2.2.2.2.2.2.1) ?_)⟩
    intro f ds S A h
    unfold conEK at h
    split at h
    · injection h with h; subst h
      exact sPr_ok fun (x:KeD × KeD) hx => cl2_ok x.1 x.2 (hc.2.2.1 _ hx.1) (hd.2.2.1 _ hx.2)
    · cases h
  · injection h with h; subst h
    refine pC_ok fun e => ⟨weakL_refl _,sC_weak e (efL_step _ _ (hc.2.2.2.2.2.2.2) (hd.2.2.2.2.2.2.2) ?_)⟩
    intro f ds S A h
    unfold conEL at h
    split at h
    · injection h with h; subst h
      exact sPr_ok fun (x:LaD × LaD) hx => cl3_ok x.1 x.2 (hc.2.2.2.1 _ hx.1) (hd.2.2.2.1 _ hx.2)
    · cases h
  · cases h
noncomputable def Ebs (c d:CodD):Senv := EC (conBs c d) 31 5 [] (fun _ => ([],[]))
noncomputable section
def sm4q0 (p0:CodD):List Arr := CodD.consts p0
def sm4q1 (p0:CodD):Nat := LN (sm4q0 p0)
def sm4q2 (p0:CodD) (p1:Nat):List D := Arr.row1 (GA (sm4q0 p0) p1)
def sm4q3 (p0:CodD):Prop := SM (sm4q1 p0)∧(∀ (i:Nat),i < sm4q1 p0→SM (sm4q2 p0 i))∧True
def sm4q4 (p0:CodD):List FnD := CodD.funs p0
def sm4q5 (p0:CodD):Nat := LN (sm4q4 p0)
def sm4q6 (p0:CodD) (p1:Nat):List D := FnD.row (List.getD (sm4q4 p0) p1 DF)
def sm4q7 (p0:CodD):Prop := SM (sm4q5 p0)∧(∀ (i:Nat),i < sm4q5 p0→SM (sm4q6 p0 i))∧True
def sm4q8 (p0:CodD):List KeD := CodD.kers p0
def sm4q9 (p0:CodD):Nat := LN (sm4q8 p0)
def sm4q10 (p0:CodD) (p1:Nat):List D := KeD.row (List.getD (sm4q8 p0) p1 DK)
def sm4q11 (p0:CodD):Prop := SM (sm4q9 p0)∧(∀ (i:Nat),i < sm4q9 p0→SM (sm4q10 p0 i))∧True
def sm4q12 (p0:CodD):List LaD := CodD.lanes p0
def sm4q13 (p0:CodD):Nat := LN (sm4q12 p0)
def sm4q14 (p0:CodD) (p1:Nat):List D := LaD.row (List.getD (sm4q12 p0) p1 DL)
def sm4q15 (p0:CodD):Prop := SM (sm4q13 p0)∧(∀ (i:Nat),i < sm4q13 p0→SM (sm4q14 p0 i))∧True
def sm4q16 (p0 p1:CodD):Prop := True∧∃ (_y:Unit),True∧false = sameT p0 p1∧True∧True
end
theorem bs_ok (c d:CodD) (hc:c.ok) (hd:d.ok):ACalls Tryz.prog 16 [.agg c.row1,.agg d.row1] ⟨[],[]⟩ (SpecR (sC [.agg c.row1,.agg d.row1] (.bool (sameT c d))) ()) := by
  refine con_of (A := sC _ _) (x := ()) (E := Ebs c d) (eOk (conBs_ok hc hd) rfl) Tryz.func16 rfl (by kernel_rfl) rfl (by simp [sC,Ebs,EC,E0]) ?_
  refine vc_eq (T :=
    ∀ (x:Nat),True→∀ (x_1:Nat),x ≠ x_1∧True→SM x∧SM x_1∧(sm4q3 c∧sm4q3 d∧SM (D.fn (Fn.func (43:Nat)) [] [])∧True)∧∀ (y:Unit),True→ifB (sameT (sm4q0 c) (sm4q0 d)) (SM x∧SM x_1∧(sm4q7 c∧sm4q7 d∧SM (D.fn (Fn.func (45:Nat)) [] [])∧True)∧∀ (y:Unit),True→ifB (sameT (sm4q4 c) (sm4q4 d)) (SM x∧SM x_1∧(sm4q11 c∧sm4q11 d∧SM (D.fn (Fn.func (48:Nat)) [] [])∧True)∧∀ (y:Unit),True→ifB (sameT (sm4q8 c) (sm4q8 d)) (SM x∧SM x_1∧(sm4q15 c∧sm4q15 d∧SM (D.fn (Fn.func (51:Nat)) [] [])∧True)∧∀ (y:Unit),True→True∧∃ (y:Unit),True∧sameT (sm4q12 c) (sm4q12 d) = sameT c d∧True∧True) (sm4q16 c d)) (sm4q16 c d)) (sm4q16 c d)) (by kernel_rfl) ?_
  delta DA DF DK DL GA LN SM Z0 sm4q0 sm4q1 sm4q10 sm4q11 sm4q12 sm4q13 sm4q14 sm4q15 sm4q16 sm4q2 sm4q3 sm4q4 sm4q5 sm4q6 sm4q7 sm4q8 sm4q9
  simp only [ifB_iff,true_and,and_true,ne_eq,exists_const,forall_const,implies_true,eq_self]
  have no:∀ {α:Type} {x y:α},sameT x y = false→x ≠ y := fun h e => by rw [sameT_iff.2 e] at h; cases h
  exact fun _ _ _ => ⟨fun h1 => ⟨fun h2 => ⟨fun h3 => sameT_congr ⟨fun e => cod_ext (sameT_iff.1 h1) (sameT_iff.1 h2) (sameT_iff.1 h3) e,fun e => by rw [e]⟩,fun h => sameT_no fun e => no h (by rw [e])⟩,fun h => sameT_no fun e => no h (by rw [e])⟩,fun h => sameT_no fun e => no h (by rw [e])⟩
end Go.Proofs.YtflbmbkhjcbhoaaGreatDoor
namespace Go.Proofs.YtflbmbkhjcbhoaaGreatDoor
open Go Go.Ab
set_option maxRecDepth 100000
abbrev LivesOk:Prop := ACalls Tryz.prog 9 [] ⟨[],[]⟩ (SpecR (sC [] (.bool true)) ())
end Go.Proofs.YtflbmbkhjcbhoaaGreatDoor
namespace Go.Proofs.YtflbmbkhjcbhoaaGreatDoor
open Go Go.Ab
set_option maxRecDepth 100000
def rowI:List D→Bool
  | [.int .i64 _] => true
  | _ => false
def readA:Nat→List D→Arr
  | 0,_ => default
  | n + 1,[.int _ k,.sl _ ls f _,.sl _ ln g _,.sl _ li h _] => .mk k (intsD ls f) (intsD ln g) ((List.range li).map fun i => readA n (h i))
  | _ + 1,_ => default
def goodA:Nat→List D→Bool
  | 0,_ => false
  | n + 1,[.int .i64 _,.sl w1 ls f m1,.sl w2 ln g m2,.sl w3 li h m3] => (decide (w1 = 1) || nilMB m1 ls) && (decide (w2 = 1) || nilMB m2 ln) && (decide (w3 = 4) || nilMB m3 li) && ((List.range ls).all fun i => rowI (f i)) && ((List.range ln).all fun i => rowI (g i)) && (List.range li).all fun i => goodA n (h i)
  | _ + 1,_ => false
theorem rowI_eq {d:List D} (h:rowI d = true):d = [.int .i64 (intD d)] := by
  unfold rowI at h
  split at h
  · rfl
  · cases h
theorem ints_wk {w n:Nat} {f:Nat→List D} {m:Ab.Mode} (hw:(decide (w = 1) || nilMB m n) = true) (h:((List.range n).all fun i => rowI (f i)) = true):wkD (.sl w n f m) (isl (intsD n f) .any) := by
  simp only [isl,wkD,chk_iff]
  refine ⟨hw,by simp [intsD],fun i hi => ?_,by simp [weakM]⟩
  have hr := rowI_eq (List.all_eq_true.1 h i (List.mem_range.2 hi))
  have e:(intsD n f).getD i 0 = intD (f i) := by simp [intsD,List.getD_eq_getElem?_getD,hi]
  rw [e,hr]
  exact wkL_refl _
theorem read_wk:∀ (n:Nat) (ds:List D),goodA n ds = true→wkL ds (readA n ds).row
  | 0,_,h => by cases h
  | n + 1,ds,h => by
    unfold goodA at h
    split at h
    · cases h
    · rename_i m k w1 ls f m1 w2 ln g m2 w3 li h3 m3 e
      injection e with e; subst e
      simp only [Bool.and_eq_true] at h
      obtain ⟨⟨⟨⟨⟨h1,h2⟩,h3'⟩,h4⟩,h5⟩,h6⟩ := h
      simp only [readA,Arr.row,wkL,wkD]
      refine ⟨weakD_refl _,ints_wk h1 h4,ints_wk h2 h5,?_,trivial⟩
      simp only [chk_iff]
      refine ⟨h3',by simp [row_len],fun i hi => ?_,by simp [weakM]⟩
      have hg := List.all_eq_true.1 h6 i (List.mem_range.2 hi)
      have e:(rowsL ((List.range li).map fun i => readA n (h3 i))).getD i [] = (readA n (h3 i)).row := by
        rw [rowsL_map]; simp [List.getD_eq_getElem?_getD,hi]
      rw [e]
      exact read_wk n (h3 i) hg
    · cases h
mutual
def okB:Arr→Bool
  | .mk k s n is => decide (-1000000 ≤ k∧k ≤ 1000000) && (s.all fun z => decide (-1000000 ≤ z∧z ≤ 1000000)) && (n.all fun z => decide (-1000000 ≤ z∧z ≤ 1000000)) && decide (s.length ≤ 1000) && decide (n.length ≤ 1000) && decide (is.length ≤ 1000) && okBL is
def okBL:List Arr→Bool
  | [] => true
  | a :: r => okB a && okBL r
end
mutual
theorem okB_ok:∀ (a:Arr),okB a = true→a.ok
  | .mk k s n is,h => by
    simp only [okB,Bool.and_eq_true,decide_eq_true_eq] at h
    obtain ⟨⟨⟨⟨⟨⟨h1,h2⟩,h3⟩,h4⟩,h5⟩,h6⟩,h7⟩ := h
    simp only [Arr.ok,maxLen]
    refine ⟨⟨by omega,by omega⟩,fun z hz => ?_,fun z hz => ?_,by omega,by omega,by omega,okBL_ok is h7⟩
    · have := of_decide_eq_true (List.all_eq_true.1 h2 z hz)
      exact ⟨by omega,by omega⟩
    · have := of_decide_eq_true (List.all_eq_true.1 h3 z hz)
      exact ⟨by omega,by omega⟩
theorem okBL_ok:∀ (l:List Arr),okBL l = true→okL l
  | [],_ => trivial
  | a :: r,h => by
    simp only [okBL,Bool.and_eq_true] at h
    exact ⟨okB_ok a h.1,okBL_ok r h.2⟩
end
def readI4:List D→I4
  | [.int _ a,.int _ b,.int _ c,.int _ d] => ⟨a,b,c,d⟩
  | _ => default
def goodI4:List D→Bool
  | [.int .i64 _,.int .i64 _,.int .i64 _,.int .i64 _] => true
  | _ => false
theorem goodI4_eq {d:List D} (h:goodI4 d = true):d = (readI4 d).row := by
  unfold goodI4 at h
  split at h
  · rfl
  · cases h
def readF:List D→FnD
  | [.int _ s,.sl _ n f _] => ⟨s,(List.range n).map fun i => readI4 (f i)⟩
  | _ => default
def goodF:List D→Bool
  | [.int .i64 _,.sl w n f m] => (decide (w = 4) || nilMB m n) && (List.range n).all fun i => goodI4 (f i)
  | _ => false
theorem map_getD {α:Type} [Inhabited α] {n i:Nat} {g:Nat→α} (h:i < n):((List.range n).map g).getD i default = g i := by
  simp [List.getD_eq_getElem?_getD,h]
theorem goodF_wk {d:List D} (h:goodF d = true):wkL d (readF d).row := by
  unfold goodF at h
  split at h
  · rename_i s w n f m
    simp only [Bool.and_eq_true] at h
    obtain ⟨h1,h2⟩ := h
    simp only [readF,FnD.row,gsl,wkL,wkD]
    refine ⟨weakD_refl _,?_,trivial⟩
    simp only [chk_iff]
    refine ⟨h1,by simp,fun i hi => ?_,by simp [weakM]⟩
    rw [map_getD hi]
    have e := goodI4_eq (List.all_eq_true.1 h2 i (List.mem_range.2 hi))
    rw [← e]; exact wkL_refl _
  · cases h
def readC:List D→CodD
  | [.sl _ n1 f1 _,.sl _ n2 f2 _,_,_] => ⟨(List.range n1).map fun i => readA 3 (f1 i),(List.range n2).map fun i => readF (f2 i),[],[]⟩
  | _ => ⟨[],[],[],[]⟩
def goodC:List D→Bool
  | [.sl w1 n1 f1 m1,.sl w2 n2 f2 m2,.sl w3 n3 _ m3,.sl w4 n4 _ m4] => ((decide (w1 = 4) || nilMB m1 n1) && (List.range n1).all fun i => goodA 3 (f1 i)) && ((decide (w2 = 2) || nilMB m2 n2) && (List.range n2).all fun i => goodF (f2 i)) && (decide (n3 = 0) && (decide (w3 = 4) || nilMB m3 n3)) && (decide (n4 = 0) && (decide (w4 = 2) || nilMB m4 n4))
  | _ => false
theorem goodC_wk {d:List D} (h:goodC d = true):wkL d (readC d).row := by
  unfold goodC at h
  split at h
  · rename_i w1 n1 f1 m1 w2 n2 f2 m2 w3 n3 f3 m3 w4 n4 f4 m4
    simp only [Bool.and_eq_true,decide_eq_true_eq] at h
    obtain ⟨⟨⟨⟨a1,a2⟩,b1,b2⟩,c1,c2⟩,d1,d2⟩ := h
    subst c1 d1
    simp only [readC,CodD.row,gsl,wkL,wkD]
    refine ⟨?_,?_,?_,?_,trivial⟩
    · simp only [chk_iff]
      refine ⟨a1,by simp,fun i hi => ?_,by simp [weakM]⟩
      rw [map_getD hi]
      exact read_wk 3 _ (List.all_eq_true.1 a2 i (List.mem_range.2 hi))
    · simp only [chk_iff]
      refine ⟨b1,by simp,fun i hi => ?_,by simp [weakM]⟩
      rw [map_getD hi]
      exact goodF_wk (List.all_eq_true.1 b2 i (List.mem_range.2 hi))
    · simp only [chk_iff]
      exact ⟨c2,rfl,fun i hi => absurd hi (by omega),by simp [weakM]⟩
    · simp only [chk_iff]
      exact ⟨d2,rfl,fun i hi => absurd hi (by omega),by simp [weakM]⟩
  · cases h
def smI (z:Int):Bool := decide (-1000000 ≤ z∧z ≤ 1000000)
def okCB (c:CodD):Bool := decide (c.consts.length < 1000) && decide (c.funs.length < 1000) && c.consts.all okB && (c.funs.all fun f => smI f.slots && decide (f.code.length < 1000) && f.code.all fun x => smI x.a && smI x.b && smI x.c && smI x.d) && c.kers.isEmpty && c.lanes.isEmpty
theorem smI_ok {z:Int} (h:smI z = true):inI64 z := by
  have := of_decide_eq_true h
  unfold inI64; omega
theorem okCB_ok {c:CodD} (h:okCB c = true):c.ok∧SmC c := by
  simp only [okCB,Bool.and_eq_true,decide_eq_true_eq,List.isEmpty_iff] at h
  obtain ⟨⟨⟨⟨⟨h1,h2⟩,h3⟩,h4⟩,h5⟩,h6⟩ := h
  have hf:∀ x ∈ c.funs,x.ok∧x.code.length < 1000 := fun x hx => by
    have := List.all_eq_true.1 h4 x hx
    simp only [Bool.and_eq_true,decide_eq_true_eq] at this
    obtain ⟨⟨q1,q2⟩,q3⟩ := this
    refine ⟨⟨smI_ok q1,fun y hy => ?_,by simp only [maxLen]; omega⟩,q2⟩
    have := List.all_eq_true.1 q3 y hy
    simp only [Bool.and_eq_true] at this
    exact ⟨smI_ok this.1.1.1,smI_ok this.1.1.2,smI_ok this.1.2,smI_ok this.2⟩
  have e1:∀ x ∈ c.kers,x.ok := by intro x hx; rw [h5] at hx; cases hx
  have e2:∀ x ∈ c.lanes,x.ok := by intro x hx; rw [h6] at hx; cases hx
  have l1:c.kers.length = 0 := by rw [h5]; rfl
  have l2:c.lanes.length = 0 := by rw [h6]; rfl
  refine ⟨⟨fun a ha => okB_ok a (List.all_eq_true.1 h3 a ha),fun x hx => (hf x hx).1,e1,e2,by simp only [maxLen]; omega,by simp only [maxLen]; omega,by simp only [maxLen]; omega,by simp only [maxLen]; omega⟩,⟨by omega,by omega,by omega,by omega,fun j hj => ?_,fun j hj => absurd hj (by omega),fun j hj => absurd hj (by omega)⟩⟩
  have := (hf _ (getD_mem' (d := default) hj)).2
  omega
end Go.Proofs.YtflbmbkhjcbhoaaGreatDoor
namespace Go.Proofs.YtflbmbkhjcbhoaaGreatDoor
open Go Go.Ab
set_option maxRecDepth 100000
set_option maxHeartbeats 4000000
def arrL (z:Int):List D := [.int .i64 1,.sl 1 0 (fun _ => []) .nil,.sl 1 1 (fun i => List.getD [[.int .i64 z]] i []) .full,.sl 1 0 (fun _ => []) .nil]
def oneRow (op:Int):List D := [
  .sl 4 2 (fun i => List.getD [arrL 2,arrL 1] i []) .full,
  .sl 2 1 (fun i => List.getD [[.int .i64 0,.sl 4 5 (fun i => List.getD [[.int .i64 1,.int .i64 0,.int .i64 0,.int .i64 0],[.int .i64 1,.int .i64 1,.int .i64 0,.int .i64 0],[.int .i64 op,.int .i64 1,.int .i64 0,.int .i64 0],[.int .i64 26,.int .i64 0,.int .i64 0,.int .i64 0],[.int .i64 25,.int .i64 0,.int .i64 0,.int .i64 0]] i []) .full]] i []) .full,
  .sl 1 0 (fun _ => []) .nil,.sl 1 0 (fun _ => []) .nil]
def oneC (op:Int):CodD := ⟨[.mk 1 [] [2] [],.mk 1 [] [1] []],[⟨0,[⟨1,0,0,0⟩,⟨1,1,0,0⟩,⟨op,1,0,0⟩,⟨26,0,0,0⟩,⟨25,0,0,0⟩]⟩],[],[]⟩
noncomputable def Eon:Senv := { EC con0 18 1 [2] (fun _ => ([],[])) with mg := fun _ => 2 }
noncomputable section
def on1q0:D := D.sl N1 N0 (fun (_x:Nat) => []) Mode.nil
def on1q1:List D := [on1q0]
def on1q2 (p0:Nat):List D := List.getD [ZI Z1 :: on1q0 :: D.sl N1 N1 (fun (i:Nat) => List.getD [[ZI (2:Int)]] i []) Mode.full :: on1q1,ZI Z1 :: on1q0 :: D.sl N1 N1 (fun (i:Nat) => List.getD [[ZI Z1]] i []) Mode.full :: on1q1] p0 []
def on1q3:List D := [ZI Z0,ZI Z0,ZI Z0]
def on1q4:List D := [ZI Z1,ZI Z0,ZI Z0]
def on1q5 (p0:Int) (p1:Nat):List D := List.getD [[ZI Z0,D.sl N4 (5:Nat) (fun (i:Nat) => List.getD [ZI Z1 :: on1q3,ZI Z1 :: on1q4,ZI p0 :: on1q4,ZI (26:Int) :: on1q3,ZI (25:Int) :: on1q3] i []) Mode.full]] p1 []
def on1q6:Prop := SM N0∧(∀ (i:Nat),i < N0→eqOf (List D) [] [])∧True
end
theorem one_ok (op:Int):ACalls Tryz.prog 20 [.int .i64 op] ⟨[],[]⟩ (SpecR (sC [.int .i64 op] (.agg (oneRow op))) ()) := by
  refine con_of (A := sC _ _) (x := ()) (E := Eon) (eOk con0_ok rfl) Tryz.func20 rfl (by kernel_rfl) rfl (by simp [sC,Eon,EC,E0]) ?_
  refine vc_eq (T :=
    ∀ (x:Nat),True→SM x∧(SM x∧True)∧∃ (y:Unit),True∧((SM N2∧(∀ (i:Nat),i < N2→SM (on1q2 i))∧True)∧(SM N1∧(∀ (i:Nat),i < N1→SM (on1q5 op i))∧True)∧on1q6∧on1q6∧True)∧True∧True) (by kernel_rfl) ?_
  delta N0 N1 N2 N4 SM Z0 Z1 ZI on1q0 on1q1 on1q2 on1q3 on1q4 on1q5 on1q6
  simp only [and_true,exists_const,forall_const,implies_true]
end Go.Proofs.YtflbmbkhjcbhoaaGreatDoor
namespace Go.Proofs.YtflbmbkhjcbhoaaGreatDoor
open Go Go.Ab
set_option maxRecDepth 100000
set_option maxHeartbeats 4000000
def emptyC:CodD := ⟨[],[],[],[]⟩
theorem one_okB9:okCB (oneC 9) = true := by decide +kernel
theorem one_okB8:okCB (oneC 8) = true := by decide +kernel
theorem empty_okB:okCB emptyC = true := by decide +kernel
theorem right9:rightC (oneC 9) = 0 := by decide +kernel
theorem right8:rightC (oneC 8) = 26 := by decide +kernel
def txt9 : List UInt8 := "const 0 2\nconst 1 1\nfun 0 slots 0\n  0 const 0 at 0\n  1 const 1 at 0\n  2 dyad 1 at 0\n  3 keep at 0\n  4 return at 0\n".toUTF8.data.toList
theorem atC {k:Nat} {row:List D} {us:List D} {e:D} (hg:goodC row = true) (h:ACalls Tryz.prog k (.agg (readC row).row :: us) ⟨[],[]⟩ (SpecR (sC (.agg (readC row).row :: us) e) ())):ACalls Tryz.prog k (.agg row :: us) ⟨[],[]⟩ (SpecR (sC (.agg row :: us) e) ()) :=
  (ACalls.wkArgs (ds := .agg row :: us) h (by simp only [wkL,wkD]; exact ⟨goodC_wk hg,wkL_refl us⟩)).mono fun _ _ ⟨_,q1,q2,q3⟩ => ⟨(),trivial,q2,q3⟩
theorem atC2 {k:Nat} {r1 r2:List D} {e:D} (h1:goodC r1 = true) (h2:goodC r2 = true) (h:ACalls Tryz.prog k [.agg (readC r1).row,.agg (readC r2).row] ⟨[],[]⟩ (SpecR (sC [.agg (readC r1).row,.agg (readC r2).row] e) ())):ACalls Tryz.prog k [.agg r1,.agg r2] ⟨[],[]⟩ (SpecR (sC [.agg r1,.agg r2] e) ()) :=
  (ACalls.wkArgs (ds := [.agg r1,.agg r2]) h (by simp only [wkL,wkD]; exact ⟨goodC_wk h1,goodC_wk h2,trivial⟩)).mono fun _ _ ⟨_,q1,q2,q3⟩ => ⟨(),trivial,q2,q3⟩
noncomputable def conLv:Con := fun k ds _ => match k with
  | 20 => match ds with
    | [.int .i64 op] => some (sC [.int .i64 op] (.agg (oneRow op)))
    | _ => none
  | 10 => match ds with
    | [.agg row] => some (pC [.agg row] (.int .i64 (rightC (readC row))) (goodC row = true∧okCB (readC row) = true))
    | _ => none
  | 14 => match ds with
    | [.agg row] => some (pC [.agg row] (.str (showC (readC row))) (goodC row = true∧okCB (readC row) = true))
    | _ => none
  | 12 => match ds with
    | [.agg row,.int .i64 z] => some (pC [.agg row,.int .i64 z] (funD (depC (readC row) z)) (goodC row = true∧okCB (readC row) = true))
    | _ => none
  | 16 => match ds with
    | [.agg r1,.agg r2] => some (pC [.agg r1,.agg r2] (.bool (sameT (readC r1) (readC r2))) (goodC r1 = true∧okCB (readC r1) = true∧goodC r2 = true∧okCB (readC r2) = true))
    | _ => none
  | _ => none
theorem two_row0 {k:Nat} {c d:CodD} {e:D} (h:ACalls Tryz.prog k [.agg c.row1,.agg d.row1] ⟨[],[]⟩ (SpecR (sC [.agg c.row1,.agg d.row1] e) ())):ACalls Tryz.prog k [.agg c.row,.agg d.row] ⟨[],[]⟩ (SpecR (sC [.agg c.row,.agg d.row] e) ()) :=
  (h.wkArgs (by simp only [wkL,wkD]; exact ⟨crow_row1 c,crow_row1 d,trivial⟩)).mono fun _ _ ⟨y,q1,q2,q3⟩ => ⟨y,q1,q2,q3⟩
theorem SmC.fl0 {c:CodD} (h:SmC c):∀ f,f < c.funs.length→(c.funs.getD f default).code.length ≤ 65536 := fun f hf => by
  have := h.fs f hf; omega
theorem conLv_ok:ConOk Tryz.prog conLv := by
  intro k ds S A h
  unfold conLv at h
  split at h
  · split at h
    · injection h with h; subst h
      exact ConOk.plain (fun _ _ => one_ok _) rfl rfl
    · cases h
  · split at h
    · injection h with h; subst h
      exact pC_ok fun ⟨h1,h2⟩ => ⟨weakL_refl _,atC h1 (rt_ok _ (okCB_ok h2).1 (okCB_ok h2).2.fl0)⟩
    · cases h
  · split at h
    · injection h with h; subst h
      exact pC_ok fun ⟨h1,h2⟩ => ⟨weakL_refl _,atC h1 (wk_row (sw_ok _ (okCB_ok h2).1 (okCB_ok h2).2) (crow_row1 _))⟩
    · cases h
  · split at h
    · injection h with h; subst h
      exact pC_ok fun ⟨h1,h2⟩ => ⟨weakL_refl _,atC h1 (dp_ok _ _ (okCB_ok h2).1 (okCB_ok h2).2.fl0)⟩
    · cases h
  · split at h
    · injection h with h; subst h
      exact pC_ok fun ⟨h1,h2,h3,h4⟩ => ⟨weakL_refl _,atC2 h1 h3 (two_row0 (bs_ok _ _ (okCB_ok h2).1 (okCB_ok h4).1))⟩
    · cases h
  · cases h
noncomputable def Elv:Senv := { EC conLv 44 3 [] (fun _ => ([],[])) with mg := fun _ => 2 }
noncomputable section
def lv2q0:Prop := SM (9:Int)∧True
def lv2q1:Prop := goodC (oneRow (9:Int)) = true
def lv2q2:CodD := readC (oneRow (9:Int))
def lv2q3:Prop := okCB lv2q2 = true
def lv2q4:Prop := lv2q1∧lv2q3
def lv2q5:CodD := readC (oneRow (8:Int))
def lv2q6:Prop := goodC (oneRow (8:Int)) = true∧okCB lv2q5 = true
def lv2q7:D := D.sl N1 N0 (fun (_x:Nat) => []) Mode.nil
def lv2q8:List D := [lv2q7,lv2q7,lv2q7,lv2q7]
def lv2q9:Prop := True∧∃ (_y:Unit),True∧false = true∧True∧True
end
theorem lives0:ACalls Tryz.prog 9 [] ⟨[],[]⟩ (SpecR (sC [] (.bool true)) ()) := by
  refine con_of (A := sC _ _) (x := ()) (E := Elv) (eOk conLv_ok rfl) Tryz.func9 rfl (by kernel_rfl) rfl (by simp [sC,Elv,EC,E0]) ?_
  refine vc_eq (T :=
    ∃ (x:Unit),lv2q0∧(True∧True)∧True∧∀ (y:Unit),True→lv2q4∧∀ (y:Unit),True→∃ (x:Unit),lv2q0∧(True∧True)∧True∧∀ (y:Unit),True→lv2q4∧∀ (y:Unit),True→∃ (x:Unit),(SM (8:Int)∧True)∧(True∧True)∧True∧∀ (y:Unit),True→lv2q6∧∀ (y:Unit),True→(goodC lv2q8 = true∧okCB (readC lv2q8) = true)∧∀ (y:Unit),True→∃ (x:Unit),lv2q0∧(True∧True)∧True∧∀ (y:Unit),True→lv2q4∧∀ (y:Unit),True→ifB (showC lv2q2 == [(99:UInt8),(111:UInt8),(110:UInt8),(115:UInt8),(116:UInt8),(32:UInt8),(48:UInt8),(32:UInt8),(50:UInt8),(10:UInt8),(99:UInt8),(111:UInt8),(110:UInt8),(115:UInt8),(116:UInt8),(32:UInt8),(49:UInt8),(32:UInt8),(49:UInt8),(10:UInt8),(102:UInt8),(117:UInt8),(110:UInt8),(32:UInt8),(48:UInt8),(32:UInt8),(115:UInt8),(108:UInt8),(111:UInt8),(116:UInt8),(115:UInt8),(32:UInt8),(48:UInt8),(10:UInt8),(32:UInt8),(32:UInt8),(48:UInt8),(32:UInt8),(99:UInt8),(111:UInt8),(110:UInt8),(115:UInt8),(116:UInt8),(32:UInt8),(48:UInt8),(32:UInt8),(97:UInt8),(116:UInt8),(32:UInt8),(48:UInt8),(10:UInt8),(32:UInt8),(32:UInt8),(49:UInt8),(32:UInt8),(99:UInt8),(111:UInt8),(110:UInt8),(115:UInt8),(116:UInt8),(32:UInt8),(49:UInt8),(32:UInt8),(97:UInt8),(116:UInt8),(32:UInt8),(48:UInt8),(10:UInt8),(32:UInt8),(32:UInt8),(50:UInt8),(32:UInt8),(100:UInt8),(121:UInt8),(97:UInt8),(100:UInt8),(32:UInt8),(49:UInt8),(32:UInt8),(97:UInt8),(116:UInt8),(32:UInt8),(48:UInt8),(10:UInt8),(32:UInt8),(32:UInt8),(51:UInt8),(32:UInt8),(107:UInt8),(101:UInt8),(101:UInt8),(112:UInt8),(32:UInt8),(97:UInt8),(116:UInt8),(32:UInt8),(48:UInt8),(10:UInt8),(32:UInt8),(32:UInt8),(52:UInt8),(32:UInt8),(114:UInt8),(101:UInt8),(116:UInt8),(117:UInt8),(114:UInt8),(110:UInt8),(32:UInt8),(97:UInt8),(116:UInt8),(32:UInt8),(48:UInt8),(10:UInt8)]) (∃ (x:Unit),lv2q0∧(True∧True)∧True∧∀ (y:Unit),True→∃ (x:Unit),lv2q0∧(True∧True)∧True∧∀ (y:Unit),True→(lv2q1∧lv2q3∧lv2q4)∧∀ (y:Unit),True→ifB (sameT lv2q2 lv2q2) (∃ (x:Unit),lv2q0∧(True∧True)∧True∧∀ (y:Unit),True→∃ (x:Unit),(SM (8:Int)∧True)∧(True∧True)∧True∧∀ (y:Unit),True→(lv2q1∧lv2q3∧lv2q6)∧∀ (y:Unit),True→True∧∃ (y:Unit),True∧(!sameT lv2q2 lv2q5) = true∧True∧True) lv2q9) lv2q9) (by kernel_rfl) ?_
  delta N0 N1 SM lv2q0 lv2q1 lv2q2 lv2q3 lv2q4 lv2q5 lv2q6 lv2q7 lv2q8 lv2q9
  simp only [ifB_iff,true_and,and_true,exists_const,forall_const]
  have hs:sameT (oneC 9) (oneC 9) = true := sameT_iff.2 rfl
  have hd:sameT (oneC 9) (oneC 8) = false := by
    cases h:sameT (oneC 9) (oneC 8) with
    | false => rfl
    | true =>
      have e := congrArg rightC (sameT_iff.1 h)
      rw [right9,right8] at e
      exact absurd e (by decide)
  have ht:(showC (oneC 9) == txt9) = true := by decide +kernel
  refine ⟨⟨rfl,one_okB9⟩,⟨rfl,one_okB9⟩,⟨rfl,one_okB8⟩,⟨rfl,empty_okB⟩,⟨rfl,one_okB9⟩,fun _ => ⟨⟨rfl,one_okB9,rfl,one_okB9⟩,fun _ => ⟨⟨rfl,one_okB9,rfl,one_okB8⟩,?_⟩,fun h => ?_⟩,fun h => ?_⟩
  · show (!sameT (oneC 9) (oneC 8)) = true
    rw [hd]; rfl
  · exact absurd (show sameT (oneC 9) (oneC 9) = false from h) (by rw [hs]; simp)
  · exact absurd (show (showC (oneC 9) == txt9) = false from h) (by rw [ht]; simp)
end Go.Proofs.YtflbmbkhjcbhoaaGreatDoor
namespace Go.Proofs.YtflbmbkhjcbhoaaGreatDoor
open Go Go.Ab
set_option maxRecDepth 100000
structure SafeF (c:CodD) (f:Nat) (sA:Nat→List UInt8):Prop where
  zero:sA 0 = []
  pos:0 < (c.funs.getD f default).code.length
  last:((c.funs.getD f default).code.getD ((c.funs.getD f default).code.length - 1) default).a = 25
  step:∀ k,k < (c.funs.getD f default).code.length→∃ e,effC c f ((c.funs.getD f default).code.getD k default) = some e∧e.1.length ≤ (sA k).length∧(sA (k + 1)).length = (sA k).length - e.1.length + e.2.length ∧
    (((c.funs.getD f default).code.getD k default).a = 25→sA (k + 1) = []) ∧
    (((c.funs.getD f default).code.getD k default).a = 24→∃ b:Nat,((c.funs.getD f default).code.getD k default).b = b∧k < b∧b < (c.funs.getD f default).code.length∧sA b = []∧sA (k + 1) = [])
end Go.Proofs.YtflbmbkhjcbhoaaGreatDoor
