/- Functions of the given program and what each of them computes: lemmas towards the statement, their conditions stated with each of them. -/
import Derived.Test.YtjnifeedbgefpaaGreatDoorS2
import Derived.Lib.Builder
import Derived.Lib.UnsafeStr
import Derived.WalkKit
import Derived.ProofKit
import Derived.Test.YtjnifeedbgefpaaGreatDoorProg
import Derived.Lib.LaidTab
import Derived.Lib.ItoaNum
import Derived.Lib.TrailingZeros
import Derived.Calls
import Derived.Below
import Derived.Laws.Entries
import Derived.Laws.Build
import Derived.Laws.Concat
import Derived.Laws.AppendOwn
import Derived.Laws.IdiomStrings
import Derived.Laws.BytesString
import Derived.Laws.NewFold
import Derived.Laws.MakeOwn
import Derived.Laws.IdiomCopy
import Derived.Laws.Shifts
import Derived.Laws.Strings
import Derived.Laws.Strings2
import Derived.Laws.Strings3
import Derived.Laws.RangeString
import Derived.Laws.Cover4
import Derived.Lib.DecodeN
import Derived.MapKept
import Derived.Laws.StructEq
import Derived.Orders
import Derived.Scope
import Derived.OpenShut
import Derived.Recover
import Derived.KernelRfl
import Derived.Shelf.Strings.Builder1
import Derived.Shelf.Strings.Builder2
import Derived.Shelf.Strings.OnBuilder
import Derived.Shelf.Strings.BuilderF
import Derived.Shelf.Strconv.Itoa0
import Derived.Shelf.Strconv.Itoa1
import Derived.Shelf.LaysM
import Derived.Shelf.Strconv.Itoa2
import Derived.Shelf.Strconv.Itoa3
import Derived.Shelf.Strconv.Itoa4
import Derived.Shelf.Bits.Mul64
import Derived.Lib.AppendIntMem
import Derived.Lib.ItoaLen
import Derived.Test.YtjnifeedbgefpaaGreatDoorRows
import Derived.Lib.Join
import Derived.Test.YtjnifeedbgefpaaGreatDoorCards
import Derived.Test.YtjnifeedbgefpaaGreatDoorTie
import Derived.Deep.DeepHandedRow
import Derived.Stop.LaidErr
namespace Go.Proofs.YtjnifeedbgefpaaGreatDoor
open Go Go.Ab
set_option maxRecDepth 100000
theorem only_nd (n:Nd) (k:Int):CD 76 [.agg n.row2,.int .i64 k] (.bool (onlyB n k)) := by
  rw [← onlyD_eq]
  exact ol_ok n.kd n.at_ n.cl n.tx n.pr n.op n.va.k _ _ _ _ _ _ _ _ _ _ n.de n.sl n.ss k
theorem empty_nd (n:Nd):CD 56 [.agg n.row2] (.bool (emptyB n)) := by
  rw [← emptyD_eq]
  exact em_ok n.kd n.at_ n.cl n.tx n.pr n.op n.va.k _ _ _ _ _ _ _ _ _ _ n.de n.sl n.ss
def RNode (n:Nd):Prop := CD 46 [.agg n.row2] (.bool (nodeV n))
def RBody (l:List Sm) (g:Bool):Prop := CD 35 [gsl 34 Sm.row1 l,.bool g] (.bool (bodyV g l))
def conLa (n:Nd):Con := fun k ds S => match k with
  | 49 => match ds with
    | [_,.int .i64 q] => some (pA ds S (.bool (occB n.bo q)) (wkL ds [gsl 34 Sm.row1 n.bo,.int .i64 q]))
    | _ => none
  | 35 => some (pA ds S (.bool (bodyV true n.bo)) (wkL ds [gsl 34 Sm.row1 n.bo,.bool true]))
  | _ => none
theorem sm_bo {n:Nd} (h:n.sm):∀ s ∈ n.bo,s.sm := by
  cases n with
  | mk kd at_ cl tx pr op va ki bo de sl ss =>
    simp only [Nd.sm] at h
    exact (smsSm_iff _).1 h.2.2.2
theorem conLa_ok {n:Nd} (hn:n.sm) (h:RBody n.bo true):ConOk Tryz.prog (conLa n) := by
  intro k ds S A hh
  unfold conLa at hh
  split at hh
  · split at hh
    · injection hh with hh; subst hh
      exact pA_ok fun e => CD.at_ (CD.wk (oc_ok n.bo _ (maxB_le (sm_len hn).2.2) (sm_bo hn)) e) _
    · cases hh
  · injection hh with hh; subst hh
    exact pA_ok fun e => CD.at_ (CD.wk h e) _
  · cases hh
noncomputable def Ela (n:Nd):Senv := { EC (conLa n) 55 5 [26,34,35,40,41,47,48,51] (fun id => match id with | 3 => ([0,1,3,4,2,5,6,7],[2,5]) | _ => ([],[])) with mg := fun _ => 2 }
noncomputable section
def yb8q0 (p0:Nd):List Sm := Nd.bo p0
def yb8q1 (p0:Nd):Bool := bodyV true (yb8q0 p0)
def yb8q2 (p0:Nd):Bool := lamC p0 && yb8q1 p0
def yb8q3 (p0:Nd):Prop := True∧∃ (_y:Unit),True∧false = yb8q2 p0∧True∧True
def yb8q4 (p0:Nd):Int := (LI (yb8q0 p0))
def yb8q5 (p0:Nd):Int := IntKind.wrap IntKind.i64 (yb8q4 p0 - Z1)
def yb8q6:Arr := DA
def yb8q7:Nd := Nd.mk Z0 Z0 Z0 [] Z0 Z0 yb8q6 [] [] Z0 Z0 Z0
def yb8q8:Sm := Sm.mk Z0 Z0 [] Z0 yb8q7 yb8q7
def yb8q9 (p0:Nd) (p1:Nat):Sm := List.getD (yb8q0 p0) p1 yb8q8
def yb8q10 (p0:Nd) (p1:Nat):Nd := Sm.te (yb8q9 p0 p1)
def yb8q11 (p0:Nd) (p1:Nat):Arr := Nd.va (yb8q10 p0 p1)
def yb8q12 (p0:Nd) (p1:Nat):List Int := Arr.sh (yb8q11 p0 p1)
def yb8q13 (p0:Nd) (p1:Nat):List Int := Arr.nu (yb8q11 p0 p1)
def yb8q14 (p0:Nd) (p1:Nat):List Arr := Arr.it (yb8q11 p0 p1)
def yb8q15 (p0:Nd) (p1:Nat):List Nd := Nd.ki (yb8q10 p0 p1)
def yb8q16 (p0:Nd) (p1:Nat):List Sm := Nd.bo (yb8q10 p0 p1)
def yb8q17 (p0:Nd) (p1:Nat):Nd := Sm.nd (yb8q9 p0 p1)
def yb8q18 (p0:Nd) (p1:Nat):Arr := Nd.va (yb8q17 p0 p1)
def yb8q19 (p0:Nd) (p1:Nat):List Int := Arr.sh (yb8q18 p0 p1)
def yb8q20 (p0:Nd) (p1:Nat):List Int := Arr.nu (yb8q18 p0 p1)
def yb8q21 (p0:Nd) (p1:Nat):List Arr := Arr.it (yb8q18 p0 p1)
def yb8q22 (p0:Nd) (p1:Nat):List Nd := Nd.ki (yb8q17 p0 p1)
def yb8q23 (p0:Nd) (p1:Nat):List Sm := Nd.bo (yb8q17 p0 p1)
def yb8q24 (p0:Nd):D := D.sl (34:Nat) (LN (yb8q0 p0)) (fun (i:Nat) => [ZI (Sm.kd (yb8q9 p0 i)),ZI (Sm.at_ (yb8q9 p0 i)),D.str (Sm.nm (yb8q9 p0 i)),ZI (Sm.sl (yb8q9 p0 i)),ZI (Nd.kd (yb8q10 p0 i)),ZI (Nd.at_ (yb8q10 p0 i)),ZI (Nd.cl (yb8q10 p0 i)),D.str (Nd.tx (yb8q10 p0 i)),ZI (Nd.pr (yb8q10 p0 i)),ZI (Nd.op (yb8q10 p0 i)),ZI (Arr.k (yb8q11 p0 i)),SI (yb8q12 p0 i),SI (yb8q13 p0 i),D.sl N4 (LN (yb8q14 p0 i)) (fun (i_1:Nat) => Arr.row (List.getD (yb8q14 p0 i) i_1 yb8q6)) Mode.any,D.sl (15:Nat) (LN (yb8q15 p0 i)) (fun (i_1:Nat) => Nd.row (List.getD (yb8q15 p0 i) i_1 yb8q7)) Mode.any,D.sl (34:Nat) (LN (yb8q16 p0 i)) (fun (i_1:Nat) => Sm.row (List.getD (yb8q16 p0 i) i_1 yb8q8)) Mode.any,ZI (Nd.de (yb8q10 p0 i)),ZI (Nd.sl (yb8q10 p0 i)),ZI (Nd.ss (yb8q10 p0 i)),ZI (Nd.kd (yb8q17 p0 i)),ZI (Nd.at_ (yb8q17 p0 i)),ZI (Nd.cl (yb8q17 p0 i)),D.str (Nd.tx (yb8q17 p0 i)),ZI (Nd.pr (yb8q17 p0 i)),ZI (Nd.op (yb8q17 p0 i)),ZI (Arr.k (yb8q18 p0 i)),SI (yb8q19 p0 i),SI (yb8q20 p0 i),D.sl N4 (LN (yb8q21 p0 i)) (fun (i_1:Nat) => Arr.row (List.getD (yb8q21 p0 i) i_1 yb8q6)) Mode.any,D.sl (15:Nat) (LN (yb8q22 p0 i)) (fun (i_1:Nat) => Nd.row (List.getD (yb8q22 p0 i) i_1 yb8q7)) Mode.any,D.sl (34:Nat) (LN (yb8q23 p0 i)) (fun (i_1:Nat) => Sm.row (List.getD (yb8q23 p0 i) i_1 yb8q8)) Mode.any,ZI (Nd.de (yb8q17 p0 i)),ZI (Nd.sl (yb8q17 p0 i)),ZI (Nd.ss (yb8q17 p0 i))]) Mode.any
def yb8q25 (p0:Nd):List D := [yb8q24 p0,ZI (12:Int)]
def yb8q26 (p0:Nd):List D := [yb8q24 p0,ZI (13:Int)]
def yb8q27 (p0:Nd):Int := Nd.cl p0
def yb8q28 (p0:Nd):Bool := occB (yb8q0 p0) (12:Int)
def yb8q29 (p0:Nd):Bool := occB (yb8q0 p0) (13:Int)
def yb8q30 (p0:Nd):List D := [yb8q24 p0,D.bool true]
def yb8q31 (p0:Nat) (p1:Nd):Prop := SM p0∧∃ (_x:Unit),wkL (yb8q30 p1) (yb8q30 p1)∧∀ (_y:Unit),True→True∧∃ (_y:Unit),True∧yb8q1 p1 = yb8q2 p1∧True∧True
def yb8q32 (p0:Nd) (p1:Nat):Prop := ifB (yb8q29 p0) (yb8q3 p0) (yb8q31 p1 p0)
end
theorem la_step (n:Nd) (hn:n.sm) (h:RBody n.bo true):CD 77 [.agg n.row2] (.bool (lamC n && bodyV true n.bo)) := by
  refine con_of (A := sC _ _) (x := ()) (E := Ela n) (eOk (conLa_ok hn h) rfl) Tryz.func77 rfl (by kernel_rfl) rfl (by simp [sC,Ela,EC,E0]) ?_
  refine vc_eq (T :=
    ∀ (x:Nat),True→SM x∧ifB (decide (Z0 < (LI (Nd.ki n)))) (yb8q3 n) (SM x∧ifB (yb8q4 n == Z0) (yb8q3 n) (SM x∧SM x∧side (Z0 ≤ yb8q5 n∧yb8q5 n < yb8q4 n) (ifB (Sm.kd (List.getD (yb8q0 n) (Int.toNat (yb8q5 n)) yb8q8) != Z1) (yb8q3 n) (SM x∧SM x∧∃ (x_1:Unit),wkL (yb8q25 n) (yb8q25 n)∧∀ (y:Unit),True→(SM x∧SM (yb8q24 n))∧∃ (x_2:Unit),wkL (yb8q26 n) (yb8q26 n)∧∀ (y:Unit),True→SM x∧ifB (yb8q27 n == (2:Int)) (ifB (yb8q28 n) (yb8q3 n) (yb8q32 n x)) (ifB (yb8q27 n == (3:Int)) (ifB (!yb8q28 n) (yb8q3 n) (yb8q32 n x)) (ifB (yb8q27 n == (4:Int)) (ifB (!yb8q29 n) (yb8q3 n) (yb8q31 x n)) (yb8q3 n)))))))) (by kernel_rfl) ?_
  delta DA GI LI LN N1 N4 SI SM Z0 Z1 ZI yb8q0 yb8q1 yb8q10 yb8q11 yb8q12 yb8q13 yb8q14 yb8q15 yb8q16 yb8q17 yb8q18 yb8q19 yb8q2 yb8q20 yb8q21 yb8q22 yb8q23 yb8q24 yb8q25 yb8q26 yb8q27 yb8q28 yb8q29 yb8q3 yb8q30 yb8q31 yb8q32 yb8q4 yb8q5 yb8q6 yb8q7 yb8q8 yb8q9
  have dn:(default:Nd) = Nd.mk 0 0 0 [] 0 0 (Arr.mk 0 [] [] []) [] [] 0 0 0 := rfl
  have dm:(default:Sm) = Sm.mk 0 0 [] 0 (Nd.mk 0 0 0 [] 0 0 (Arr.mk 0 [] [] []) [] [] 0 0 0) (Nd.mk 0 0 0 [] 0 0 (Arr.mk 0 [] [] []) [] [] 0 0 0) := rfl
  try simp only [← dm]
  try simp only [← dn]
  simp only [ne_eq,ifB_iff,side_iff,decide_eq_true_eq,decide_eq_false_iff_not,true_and,and_true,beq_iff_eq,bne_iff_ne,bne_eq_false_iff_eq,beq_eq_false_iff_ne,Bool.not_eq_true',Bool.not_eq_false',exists_const,forall_const]
  have e1:n.ki.isEmpty = (n.ki.length == 0) := by cases n.ki <;> rfl
  have e2:n.bo.isEmpty = (n.bo.length == 0) := by cases n.bo <;> rfl
  have hlen := (sm_len hn).2.2
  unfold maxB at hlen
  by_cases hb:n.bo.length = 0
  · clear dn dm
    repeat' (first | exact wkL_refl _ | refine And.intro ?_ ?_ | intro _)
    all_goals first
      | (exfalso; omega)
      | (unfold lamC; rw [e1,e2,hb]; simp; done)
  · have w:IntKind.i64.wrap ((n.bo.length:Int) - 1) = ((n.bo.length - 1:Nat):Int) := by rw [wrap_i64' (by omega) (by omega)]; omega
    simp only [w,Int.toNat_natCast]
    have e3:(n.bo.length == 0) = false := by simpa using hb
    clear dn dm
    repeat' (first | exact wkL_refl _ | refine And.intro ?_ ?_ | intro _)
    all_goals first
      | omega
      | (unfold lamC; rw [e1,e2,e3]; simp_all; done)
      | (have h9 : n.ki.isEmpty = false := by rw [e1, beq_eq_false_iff_ne]; omega
         unfold lamC; rw [h9]; simp; done)
def conNd (n:Nd):Con := fun k ds S => match k with
  | 76 => match ds with
    | [_,.int .i64 q] => some (pA ds S (.bool (onlyB n q)) (isN2 n ds [.int .i64 q]))
    | _ => none
  | 77 => some (pA ds S (.bool (lamC n && bodyV true n.bo)) (isN2 n ds []))
  | 78 => some (pA ds S (.bool (leafB n)) (isN2 n ds []))
  | 79 => some (pA ds S (.bool (compB n)) (isN2 n ds []))
  | 54 => some (pA ds S (.bool (n.ki.any fun b => !nodeV b)) (wkL ds [gsl 15 Nd.row1 n.ki,.fn (.func 80) [] []]))
  | _ => none
def conN1 (b:Nd):Con := fun k ds S => match k with
  | 46 => some (pA ds S (.bool (nodeV b)) (isN b ds []))
  | _ => none
noncomputable def En1 (b:Nd):Senv := EC (conN1 b) 6 3 [] (fun _ => ([],[]))
noncomputable section
def yb8q33 (p0:Nd):Arr := Nd.va p0
def yb8q34 (p0:Nd):List Int := Arr.sh (yb8q33 p0)
def yb8q35 (p0:Nd):List Int := Arr.nu (yb8q33 p0)
def yb8q36 (p0:Nd):List Arr := Arr.it (yb8q33 p0)
def yb8q37:Arr := DA
def yb8q38:Nd := Nd.mk Z0 Z0 Z0 [] Z0 Z0 yb8q37 [] [] Z0 Z0 Z0
end
theorem n1_ok (b:Nd) (h:RNode b):CS 80 [.agg b.row1] ⟨[],[]⟩ (.bool (!nodeV b)) := by
  refine CS.of (con_of (A := sS _ _ _) (x := ()) (E := En1 b) (eOk ?_ rfl) Tryz.func80 rfl (by kernel_rfl) rfl (by simp [sS,En1,EC,E0]) ?_)
  · intro k ds S A hh
    try unfold conN1 at hh
    try dsimp only at hh
    split at hh
    · injection hh with hh; subst hh
      exact pA_ok fun e => CD.at_ (CD.isN h e) _
    · cases hh
  refine vc_eq (T :=
    ∀ (x:Nat),True→SM x∧∃ (x:Unit),isN b [D.agg [ZI (Nd.kd b),ZI (Nd.at_ b),ZI (Nd.cl b),D.str (Nd.tx b),ZI (Nd.pr b),ZI (Nd.op b),ZI (Arr.k (yb8q33 b)),SI (yb8q34 b),SI (yb8q35 b),D.sl N4 (LN (yb8q36 b)) (fun (i:Nat) => Arr.row (List.getD (yb8q36 b) i yb8q37)) Mode.any,D.sl (15:Nat) (LN (Nd.ki b)) (fun (i:Nat) => Nd.row (List.getD (Nd.ki b) i yb8q38)) Mode.any,D.sl (34:Nat) (LN (Nd.bo b)) (fun (i:Nat) => Sm.row (List.getD (Nd.bo b) i (Sm.mk Z0 Z0 [] Z0 yb8q38 yb8q38))) Mode.any,ZI (Nd.de b),ZI (Nd.sl b),ZI (Nd.ss b)]] []∧∀ (y:Unit),True→True∧∃ (y:Unit),True∧(!nodeV b) = !nodeV b∧True∧True) (by kernel_rfl) ?_
  delta DA GI LN N1 N4 SI SM Z0 ZI yb8q33 yb8q34 yb8q35 yb8q36 yb8q37 yb8q38
  have dn:(default:Nd) = Nd.mk 0 0 0 [] 0 0 (Arr.mk 0 [] [] []) [] [] 0 0 0 := rfl
  have dm:(default:Sm) = Sm.mk 0 0 [] 0 (Nd.mk 0 0 0 [] 0 0 (Arr.mk 0 [] [] []) [] [] 0 0 0) (Nd.mk 0 0 0 [] 0 0 (Arr.mk 0 [] [] []) [] [] 0 0 0) := rfl
  try simp only [← dm]
  try simp only [← dn]
  simp only [implies_true,true_and,and_true,exists_const,forall_const]
  first
    | exact nd_self _ _
    | exact fun _ => nd_self _ _
theorem conNd_ok {n:Nd} (hn:n.sm) (ho:n.va.ok) (h1:RBody n.bo true) (h2:∀ b ∈ n.ki,RNode b):ConOk Tryz.prog (conNd n) := by
  intro k ds S A hh
  have hl := maxB_le (sm_len hn).2.1
  unfold conNd at hh
  split at hh
  · split at hh
    · injection hh with hh; subst hh
      exact pA_ok fun e => CD.at_ (CD.wk (only_nd n _) e) _
    · cases hh
  · injection hh with hh; subst hh
    exact pA_ok fun e => CD.at_ (CD.wk (la_step n hn h1) e) _
  · injection hh with hh; subst hh
    exact pA_ok fun e => CD.at_ (CD.wk (le_ok n ho) e) _
  · injection hh with hh; subst hh
    exact pA_ok fun e => CD.at_ (CD.wk (cm_ok n hl) e) _
  · injection hh with hh; subst hh
    exact pA_ok fun e => CD.at_ (CD.wk (CS.cd (Nxc_ok n.ki (fun b => !nodeV b) (fun b hb => n1_ok b (h2 b hb)) hl)) e) _
  · cases hh
noncomputable def End (n:Nd):Senv := EC (conNd n) 25 3 [7,10] (fun _ => ([],[]))
noncomputable section
def yb8q39 (p0:Nd):Int := Nd.kd p0
def yb8q40 (p0:Nd):Arr := Nd.va p0
def yb8q41 (p0:Nd):List Int := Arr.sh (yb8q40 p0)
def yb8q42 (p0:Nd):List Int := Arr.nu (yb8q40 p0)
def yb8q43 (p0:Nd):List Arr := Arr.it (yb8q40 p0)
def yb8q44:Arr := DA
def yb8q45 (p0:Nd):List Nd := Nd.ki p0
def yb8q46:Nd := Nd.mk Z0 Z0 Z0 [] Z0 Z0 yb8q44 [] [] Z0 Z0 Z0
def yb8q47 (p0:Nd):D := D.sl (15:Nat) (LN (yb8q45 p0)) (fun (i:Nat) => Nd.row1 (List.getD (yb8q45 p0) i yb8q46)) Mode.any
def yb8q48 (p0:Nd):List Sm := Nd.bo p0
def yb8q49 (p0:Nd):D := D.agg [ZI (yb8q39 p0),ZI (Nd.at_ p0),ZI (Nd.cl p0),D.str (Nd.tx p0),ZI (Nd.pr p0),ZI (Nd.op p0),ZI (Arr.k (yb8q40 p0)),SI (yb8q41 p0),SI (yb8q42 p0),D.sl N4 (LN (yb8q43 p0)) (fun (i:Nat) => Arr.row (List.getD (yb8q43 p0) i yb8q44)) Mode.any,yb8q47 p0,D.sl (34:Nat) (LN (yb8q48 p0)) (fun (i:Nat) => Sm.row1 (List.getD (yb8q48 p0) i (Sm.mk Z0 Z0 [] Z0 yb8q46 yb8q46))) Mode.any,ZI (Nd.de p0),ZI (Nd.sl p0),ZI (Nd.ss p0)]
def yb8q50 (p0:Nd):Bool := nodeV p0
def yb8q51 (p0:Nd):Prop := True∧∃ (_y:Unit),True∧false = yb8q50 p0∧True∧True
def yb8q52 (p0:Nd):Prop := isN2 p0 [yb8q49 p0] []
def yb8q53 (p0:Nd):List D := [yb8q47 p0,D.fn (Fn.func (80:Nat)) [] []]
end
theorem nd_step (n:Nd) (hn:n.sm) (ho:n.va.ok) (h1:RBody n.bo true) (h2:∀ b ∈ n.ki,RNode b):RNode n := by
  refine con_of (A := sC _ _) (x := ()) (E := End n) (eOk (conNd_ok hn ho h1 h2) rfl) Tryz.func46 rfl (by kernel_rfl) rfl (by simp [sC,End,EC,E0]) ?_
  refine vc_eq (T :=
    ∀ (x:Nat),True→SM x∧SM x∧∃ (x_1:Unit),isN2 n [yb8q49 n,ZI (yb8q39 n)] [ZI (yb8q39 n)]∧∀ (y:Unit),True→ifB (!onlyB n (yb8q39 n)) (yb8q51 n) (SM x∧ifB (yb8q39 n == (10:Int)) (SM x∧∃ (x:Unit),yb8q52 n∧∀ (y:Unit),True→True∧∃ (y:Unit),True∧(lamC n && bodyV true (yb8q48 n)) = yb8q50 n∧True∧True) (SM x∧∃ (x_2:Unit),yb8q52 n∧∀ (y:Unit),True→ifB (leafB n) (True∧∃ (y:Unit),True∧true = yb8q50 n∧True∧True) (SM x∧∃ (x_3:Unit),yb8q52 n∧∀ (y:Unit),True→ifB (compB n) (SM x∧∃ (x:Unit),wkL (yb8q53 n) (yb8q53 n)∧∀ (y:Unit),True→True∧∃ (y:Unit),True∧(!List.any (yb8q45 n) fun (b:Nd) => !yb8q50 b) = yb8q50 n∧True∧True) (yb8q51 n))))) (by kernel_rfl) ?_
  delta DA GI LN N1 N4 SI SM Z0 ZI yb8q39 yb8q40 yb8q41 yb8q42 yb8q43 yb8q44 yb8q45 yb8q46 yb8q47 yb8q48 yb8q49 yb8q50 yb8q51 yb8q52 yb8q53
  have dn:(default:Nd) = Nd.mk 0 0 0 [] 0 0 (Arr.mk 0 [] [] []) [] [] 0 0 0 := rfl
  have dm:(default:Sm) = Sm.mk 0 0 [] 0 (Nd.mk 0 0 0 [] 0 0 (Arr.mk 0 [] [] []) [] [] 0 0 0) (Nd.mk 0 0 0 [] 0 0 (Arr.mk 0 [] [] []) [] [] 0 0 0) := rfl
  try simp only [← dm]
  try simp only [← dn]
  simp only [ne_eq,ifB_iff,true_and,and_true,beq_iff_eq,beq_eq_false_iff_ne,Bool.not_eq_true',Bool.not_eq_false',exists_const,forall_const]
  have e:n.ki.all nodeV = !(n.ki.any fun b => !nodeV b) := List.all_eq_not_any_not
  rw [nodeV_eq,e]
  clear dn dm
  repeat' (first | exact nd2_self n _ | exact wkL_refl _ | refine And.intro ?_ ?_ | intro _)
  all_goals first
    | (simp_all; done)
end Go.Proofs.YtjnifeedbgefpaaGreatDoor
namespace Go.Proofs.YtjnifeedbgefpaaGreatDoor
open Go Go.Ab
set_option maxRecDepth 100000
def cntR (prs:List (List UInt8 × Int)) (names:List (List UInt8)):Prop := ∀ s,(sget prs s).getD 0 = (names.count s:Int)
theorem sget_put (nm:List UInt8) (v:Int):∀ (l:List (List UInt8 × Int)) (s:List UInt8),sget (sput l nm v) s = if nm = s then some v else sget l s
  | [],s => by
    simp only [sput,sget]
  | (t,n) :: r,s => by
    simp only [sput]
    by_cases e:t = nm
    · rw [if_pos e]
      simp only [sget,e]
      by_cases e2:nm = s
      · rw [if_pos e2,if_pos e2]
      · rw [if_neg e2,if_neg e2,if_neg e2]
    · rw [if_neg e]
      simp only [sget,sget_put nm v r s]
      by_cases e2:t = s
      · rw [if_pos e2,if_pos e2,if_neg (fun e3 => e (e2.trans e3.symm))]
      · rw [if_neg e2,if_neg e2]
theorem cntR_put {prs:List (List UInt8 × Int)} {names:List (List UInt8)} (h:cntR prs names) (nm:List UInt8):cntR (sput prs nm ((sget prs nm).getD 0 + 1)) (names ++ [nm]) := by
  intro s
  rw [sget_put,List.count_append,h nm]
  by_cases e:nm = s
  · subst e
    rw [if_pos rfl]
    simp
  · rw [if_neg e,h s]
    simp [e]
theorem cntR_one {prs:List (List UInt8 × Int)} {names:List (List UInt8)} (h:cntR prs names) (nm:List UInt8):((sget prs nm).getD 0 + 1 = 1)↔names.contains nm = false := by
  rw [h nm]
  constructor
  · intro e
    have:names.count nm = 0 := by omega
    simpa using List.count_eq_zero.1 this
  · intro e
    have:names.count nm = 0 := List.count_eq_zero.2 (by simpa using e)
    omega
def conBo:Con := fun k ds S => match k with
  | 46 => some (pE (β := Nd) ds S (fun b => .bool (nodeV b)) (fun b => isN b ds []∧RNode b))
  | 56 => some (pE (β := Nd) ds S (fun b => .bool (emptyB b)) (fun b => isN b ds []))
  | 57 => match ds with
    | [.str s] => some (pA ds S (.bool (nameB s)) True)
    | _ => none
  | _ => none
theorem conBo_ok:ConOk Tryz.prog conBo := by
  intro k ds S A hh
  unfold conBo at hh
  split at hh
  · injection hh with hh; subst hh
    exact pS_ok fun b ⟨e,h⟩ => CD.at_ (CD.isN h e) _
  · injection hh with hh; subst hh
    exact pS_ok fun b e => CD.at_ (CD.isN (empty_nd b) e) _
  · split at hh
    · injection hh with hh; subst hh
      exact pA_ok fun _ => CD.at_ (in_ok _) _
    · cases hh
  · cases hh
structure BoI (l:List Sm) (g:Bool) (i:Nat) (r:Bool) (prs:List (List UInt8 × Int)):Prop where
  le:i ≤ l.length
  cnt:r = true→cntR prs (namesD (l.take i))
  tot:bodyV g l = (r && stmtsV g (namesD (l.take i)) (l.drop i))
noncomputable def Ebo (l:List Sm) (g:Bool):Senv := { EC conBo 128 2 [4,5,6,8,9,14,15,16,17,32,37,38,57,98] (fun _ => ([],[])) with
  mg := fun _ => 2
  ann := fun b env _S => match b with
    | 0 => match Ab.look env 6 with
      | .map _k x => some { slots := [16,5],keep := [0,1,6,14,15],α := Nat × Bool × List (List UInt8 × Int),st := fun y => ([.int .i64 y.1,.bool y.2.1],⟨[(0,x,.amap .i64 y.2.2)],[]⟩),inv := fun y => BoI l g y.1 y.2.1 y.2.2,mu := fun y => l.length - y.1 }
      | _ => none
    | _ => none }
noncomputable section
def yb9q0 (p0:List Sm) (p1:Bool) (p2:Nat) (p3:Bool) (p4:List (List UInt8 × Int)):Prop := BoI p0 p1 p2 p3 p4
def yb9q1:Arr := DA
def yb9q2:Nd := Nd.mk Z0 Z0 Z0 [] Z0 Z0 yb9q1 [] [] Z0 Z0 Z0
def yb9q3:Sm := Sm.mk Z0 Z0 [] Z0 yb9q2 yb9q2
def yb9q4 (p0:List Sm) (p1:Nat):Sm := List.getD p0 (Int.toNat (↑p1:Int)) yb9q3
def yb9q5 (p0:List Sm) (p1:Nat):Nd := Sm.nd (yb9q4 p0 p1)
def yb9q6 (p0:List Sm) (p1:Nat):Int := Nd.kd (yb9q5 p0 p1)
def yb9q7 (p0:List Sm) (p1:Nat):Int := Nd.cl (yb9q5 p0 p1)
def yb9q8 (p0:List Sm) (p1:Nat):Arr := Nd.va (yb9q5 p0 p1)
def yb9q9 (p0:List Sm) (p1:Nat):List Int := Arr.sh (yb9q8 p0 p1)
def yb9q10 (p0:List Sm) (p1:Nat):List Int := Arr.nu (yb9q8 p0 p1)
def yb9q11 (p0:List Sm) (p1:Nat):List Arr := Arr.it (yb9q8 p0 p1)
def yb9q12 (p0:List Sm) (p1:Nat):List Nd := Nd.ki (yb9q5 p0 p1)
def yb9q13 (p0:List Sm) (p1:Nat):List Sm := Nd.bo (yb9q5 p0 p1)
def yb9q14 (p0:Nd):Bool := nodeV p0
def yb9q15 (p0:List Sm) (p1:Nat):Int := Sm.kd (yb9q4 p0 p1)
def yb9q16 (p0:List Sm) (p1:Nat):Bool := yb9q7 p0 p1 == Z1
def yb9q17 (p0:List Sm) (p1:Nat):List UInt8 := Sm.nm (yb9q4 p0 p1)
def yb9q18 (p0:List Sm) (p1:Nat):Bool := yb9q17 p0 p1 == []
def yb9q19 (p0:List Sm) (p1:Nat):Int := Sm.sl (yb9q4 p0 p1)
def yb9q20 (p0:List Sm) (p1:Nat):Bool := yb9q19 p0 p1 == Z0
def yb9q21 (p0:List Sm) (p1:Nat):Nd := Sm.te (yb9q4 p0 p1)
def yb9q22 (p0:List Sm) (p1:Nat):Int := Nd.cl (yb9q21 p0 p1)
def yb9q23 (p0:List Sm) (p1:Nat):Arr := Nd.va (yb9q21 p0 p1)
def yb9q24 (p0:List Sm) (p1:Nat):List Int := Arr.sh (yb9q23 p0 p1)
def yb9q25 (p0:List Sm) (p1:Nat):List Int := Arr.nu (yb9q23 p0 p1)
def yb9q26 (p0:List Sm) (p1:Nat):List Arr := Arr.it (yb9q23 p0 p1)
def yb9q27 (p0:List Sm) (p1:Nat):List Nd := Nd.ki (yb9q21 p0 p1)
def yb9q28 (p0:List Sm) (p1:Nat):List Sm := Nd.bo (yb9q21 p0 p1)
def yb9q29 (p0:Nd) (p1:List Sm) (p2:Nat):Prop := isN p0 [D.agg [ZI (Nd.kd (yb9q21 p1 p2)),ZI (Nd.at_ (yb9q21 p1 p2)),ZI (yb9q22 p1 p2),D.str (Nd.tx (yb9q21 p1 p2)),ZI (Nd.pr (yb9q21 p1 p2)),ZI (Nd.op (yb9q21 p1 p2)),ZI (Arr.k (yb9q23 p1 p2)),SI (yb9q24 p1 p2),SI (yb9q25 p1 p2),D.sl N4 (LN (yb9q26 p1 p2)) (fun (i:Nat) => Arr.row (List.getD (yb9q26 p1 p2) i yb9q1)) Mode.any,D.sl (15:Nat) (LN (yb9q27 p1 p2)) (fun (i:Nat) => Nd.row (List.getD (yb9q27 p1 p2) i yb9q2)) Mode.any,D.sl (34:Nat) (LN (yb9q28 p1 p2)) (fun (i:Nat) => Sm.row (List.getD (yb9q28 p1 p2) i yb9q3)) Mode.any,ZI (Nd.de (yb9q21 p1 p2)),ZI (Nd.sl (yb9q21 p1 p2)),ZI (Nd.ss (yb9q21 p1 p2))]] []
def yb9q30 (p0:List Sm) (p1:Nat):Sm := List.getD p0 p1 yb9q3
def yb9q31 (p0:List Sm) (p1:Nat):Nd := Sm.te (yb9q30 p0 p1)
def yb9q32 (p0:List Sm) (p1:Nat):Arr := Nd.va (yb9q31 p0 p1)
def yb9q33 (p0:List Sm) (p1:Nat):List Int := Arr.sh (yb9q32 p0 p1)
def yb9q34 (p0:List Sm) (p1:Nat):List Int := Arr.nu (yb9q32 p0 p1)
def yb9q35 (p0:List Sm) (p1:Nat):List Arr := Arr.it (yb9q32 p0 p1)
def yb9q36 (p0:List Sm) (p1:Nat):List Nd := Nd.ki (yb9q31 p0 p1)
def yb9q37 (p0:List Sm) (p1:Nat):List Sm := Nd.bo (yb9q31 p0 p1)
def yb9q38 (p0:List Sm) (p1:Nat):Nd := Sm.nd (yb9q30 p0 p1)
def yb9q39 (p0:List Sm) (p1:Nat):Arr := Nd.va (yb9q38 p0 p1)
def yb9q40 (p0:List Sm) (p1:Nat):List Int := Arr.sh (yb9q39 p0 p1)
def yb9q41 (p0:List Sm) (p1:Nat):List Int := Arr.nu (yb9q39 p0 p1)
def yb9q42 (p0:List Sm) (p1:Nat):List Arr := Arr.it (yb9q39 p0 p1)
def yb9q43 (p0:List Sm) (p1:Nat):List Nd := Nd.ki (yb9q38 p0 p1)
def yb9q44 (p0:List Sm) (p1:Nat):List Sm := Nd.bo (yb9q38 p0 p1)
def yb9q45 (p0:List Sm):D := D.sl (34:Nat) (LN p0) (fun (i:Nat) => [ZI (Sm.kd (yb9q30 p0 i)),ZI (Sm.at_ (yb9q30 p0 i)),D.str (Sm.nm (yb9q30 p0 i)),ZI (Sm.sl (yb9q30 p0 i)),ZI (Nd.kd (yb9q31 p0 i)),ZI (Nd.at_ (yb9q31 p0 i)),ZI (Nd.cl (yb9q31 p0 i)),D.str (Nd.tx (yb9q31 p0 i)),ZI (Nd.pr (yb9q31 p0 i)),ZI (Nd.op (yb9q31 p0 i)),ZI (Arr.k (yb9q32 p0 i)),SI (yb9q33 p0 i),SI (yb9q34 p0 i),D.sl N4 (LN (yb9q35 p0 i)) (fun (i_1:Nat) => Arr.row (List.getD (yb9q35 p0 i) i_1 yb9q1)) Mode.any,D.sl (15:Nat) (LN (yb9q36 p0 i)) (fun (i_1:Nat) => Nd.row (List.getD (yb9q36 p0 i) i_1 yb9q2)) Mode.any,D.sl (34:Nat) (LN (yb9q37 p0 i)) (fun (i_1:Nat) => Sm.row (List.getD (yb9q37 p0 i) i_1 yb9q3)) Mode.any,ZI (Nd.de (yb9q31 p0 i)),ZI (Nd.sl (yb9q31 p0 i)),ZI (Nd.ss (yb9q31 p0 i)),ZI (Nd.kd (yb9q38 p0 i)),ZI (Nd.at_ (yb9q38 p0 i)),ZI (Nd.cl (yb9q38 p0 i)),D.str (Nd.tx (yb9q38 p0 i)),ZI (Nd.pr (yb9q38 p0 i)),ZI (Nd.op (yb9q38 p0 i)),ZI (Arr.k (yb9q39 p0 i)),SI (yb9q40 p0 i),SI (yb9q41 p0 i),D.sl N4 (LN (yb9q42 p0 i)) (fun (i_1:Nat) => Arr.row (List.getD (yb9q42 p0 i) i_1 yb9q1)) Mode.any,D.sl (15:Nat) (LN (yb9q43 p0 i)) (fun (i_1:Nat) => Nd.row (List.getD (yb9q43 p0 i) i_1 yb9q2)) Mode.any,D.sl (34:Nat) (LN (yb9q44 p0 i)) (fun (i_1:Nat) => Sm.row (List.getD (yb9q44 p0 i) i_1 yb9q3)) Mode.any,ZI (Nd.de (yb9q38 p0 i)),ZI (Nd.sl (yb9q38 p0 i)),ZI (Nd.ss (yb9q38 p0 i))]) Mode.any
def yb9q46 (p0:List Sm):Prop := SM (yb9q45 p0)
def yb9q47 (p0:List Sm) (p1:Bool) (p2:Nat):Prop := yb9q46 p0∧SM (D.bool p1)∧SM (D.map N0 p2)∧yb9q46 p0∧SM (ZI (LI p0))∧True
def yb9q48 (p0 p1:Nat):Prop := IntKind.wrap IntKind.i64 ((↑p0:Int) + Z1) = (↑p1:Int)
def yb9q49 (p0 p1:Nat) (p2:Nd) (p3:Bool):Prop := yb9q48 p0 p1∧emptyB p2 = p3∧True
def yb9q50 (p0:List Sm) (p1:Bool) (p2 p3:Nat) (p4:List (List UInt8 × Int)):Prop := yb9q47 p0 p1 p2∧∃ (y:Nat × Bool × List (List UInt8 × Int)),yb9q0 p0 p1 y.1 y.2.1 y.2.2∧LN p0 - y.1 < LN p0 - p3∧(yb9q48 p3 y.1∧false = y.2.1∧True)∧(SM p2∧p4 = y.2.2∧True)∧True
def yb9q51 (p0:List (List UInt8 × Int)) (p1:List Sm) (p2:Nat):List (List UInt8 × Int) := sput p0 (yb9q17 p1 p2) (IntKind.wrap IntKind.i64 (Option.getD (sget p0 (yb9q17 p1 p2)) Z0 + Z1))
def yb9q52 (p0:Nat) (p1:List (List UInt8 × Int)) (p2:List Sm) (p3:Nat) (p4:List (List UInt8 × Int)):Prop := (SM p0∧yb9q51 p1 p2 p3 = p4∧True)∧True
def yb9q53 (p0:List Sm) (p1:Bool) (p2 p3:Nat) (p4:List (List UInt8 × Int)):Prop := yb9q47 p0 p1 p2∧∃ (y:Nat × Bool × List (List UInt8 × Int)),yb9q0 p0 p1 y.1 y.2.1 y.2.2∧LN p0 - y.1 < LN p0 - p3∧(yb9q48 p3 y.1∧false = y.2.1∧True)∧yb9q52 p2 p4 p0 p3 y.2.2
def yb9q54 (p0:Nat) (p1:List Sm) (p2:Nat) (p3:Bool) (p4:Nat) (p5:List (List UInt8 × Int)):Prop := SM p0∧ifB (decide (Z0 ≤ yb9q19 p1 p2)) (SM p0∧∃ (x:Nd),yb9q29 x p1 p2∧∀ (_y:Unit),True→yb9q47 p1 p3 p4∧∃ (y:Nat × Bool × List (List UInt8 × Int)),yb9q0 p1 p3 y.1 y.2.1 y.2.2∧LN p1 - y.1 < LN p1 - p2∧yb9q49 p2 y.1 x y.2.1∧yb9q52 p4 p5 p1 p2 y.2.2) (yb9q53 p1 p3 p4 p2 p5)
def yb9q55 (p0:Bool) (p1:List Sm):Prop := True∧∃ (_y:Unit),True∧false = bodyV p0 p1∧True∧True
end
theorem bo_step (l:List Sm) (g:Bool) (hl:l.length ≤ maxB) (h:∀ s ∈ l,RNode s.nd∧RNode s.te):RBody l g := by
  refine con_of (A := sC _ _) (x := ()) (E := Ebo l g) (eOk conBo_ok rfl) Tryz.func35 rfl (by kernel_rfl) rfl (by simp [sC,Ebo,EC,E0]) ?_
  refine vc_eq (T :=
    ∀ (y:Nat),True→(∃ (x:Nat × Bool × List (List UInt8 × Int)),yb9q0 l g x.1 x.2.1 x.2.2∧(Z0 = (NI x.1)∧decide ((LI l) ≤ (1000:Int)) = x.2.1∧True)∧(SM y∧eqOf (List (List UInt8 × Int)) [] x.2.2∧True)∧True)∧∀ (x:Nat × Bool × List (List UInt8 × Int)),yb9q0 l g x.1 x.2.1 x.2.2→ifB (decide ((NI x.1) < (LI l))) (side (Z0 ≤ (NI x.1)∧(NI x.1) < (LI l)) (∀ (x_1:Nat),y ≠ x_1∧True→SM x_1∧ifB x.2.1 (SM x_1∧ifB (decide (Z0 ≤ Sm.at_ (yb9q4 l x.1))) (SM x_1∧∃ (x_2:Nd),(isN x_2 [D.agg [ZI (yb9q6 l x.1),ZI (Nd.at_ (yb9q5 l x.1)),ZI (yb9q7 l x.1),D.str (Nd.tx (yb9q5 l x.1)),ZI (Nd.pr (yb9q5 l x.1)),ZI (Nd.op (yb9q5 l x.1)),ZI (Arr.k (yb9q8 l x.1)),SI (yb9q9 l x.1),SI (yb9q10 l x.1),D.sl N4 (LN (yb9q11 l x.1)) (fun (i:Nat) => Arr.row (List.getD (yb9q11 l x.1) i yb9q1)) Mode.any,D.sl (15:Nat) (LN (yb9q12 l x.1)) (fun (i:Nat) => Nd.row (List.getD (yb9q12 l x.1) i yb9q2)) Mode.any,D.sl (34:Nat) (LN (yb9q13 l x.1)) (fun (i:Nat) => Sm.row (List.getD (yb9q13 l x.1) i yb9q3)) Mode.any,ZI (Nd.de (yb9q5 l x.1)),ZI (Nd.sl (yb9q5 l x.1)),ZI (Nd.ss (yb9q5 l x.1))]] []∧RNode x_2)∧∀ (y_1:Unit),True→ifB (!yb9q14 x_2) (True∧∃ (y:Unit),True∧yb9q14 x_2 = bodyV g l∧True∧True) (SM x_1∧SM x_1∧ifB (yb9q15 l x.1 == Z1) (ifB (yb9q16 l x.1) (SM x_1∧ifB (yb9q18 l x.1) (SM x_1∧ifB (yb9q20 l x.1) (SM x_1∧∃ (x_3:Nd),yb9q29 x_3 l x.1∧∀ (y_2:Unit),True→yb9q47 l g y∧∃ (y_3:Nat × Bool × List (List UInt8 × Int)),yb9q0 l g y_3.1 y_3.2.1 y_3.2.2∧LN l - y_3.1 < LN l - x.1∧yb9q49 x.1 y_3.1 x_3 y_3.2.1∧(SM y∧x.2.2 = y_3.2.2∧True)∧True) (yb9q50 l g y x.1 x.2.2)) (yb9q50 l g y x.1 x.2.2)) (yb9q50 l g y x.1 x.2.2)) (ifB (yb9q15 l x.1 == (2:Int)) (SM x_1∧SM y∧SM y∧SM x_1∧∃ (x_3:Unit),True∧∀ (y_2:Unit),True→ifB (nameB (yb9q17 l x.1)) (SM x_1∧SM y∧ifB (Option.getD (sget (yb9q51 x.2.2 l x.1) (yb9q17 l x.1)) Z0 == Z1) (ifB (yb9q16 l x.1) (yb9q54 x_1 l x.1 g y x.2.2) (ifB (yb9q7 l x.1 == (2:Int)) (yb9q54 x_1 l x.1 g y x.2.2) (SM x_1∧ifB (yb9q6 l x.1 == (10:Int)) (yb9q54 x_1 l x.1 g y x.2.2) (yb9q53 l g y x.1 x.2.2)))) (yb9q53 l g y x.1 x.2.2)) (yb9q53 l g y x.1 x.2.2)) (ifB (yb9q15 l x.1 == (3:Int)) (ifB g (SM x_1∧∃ (x_3:Nd),(yb9q29 x_3 l x.1∧RNode x_3)∧∀ (y_2:Unit),True→ifB (yb9q14 x_3) (SM x_1∧ifB (yb9q22 l x.1 == Z1) (ifB (yb9q16 l x.1) (SM x_1∧ifB (yb9q18 l x.1) (SM x_1∧yb9q47 l g y∧∃ (y_3:Nat × Bool × List (List UInt8 × Int)),yb9q0 l g y_3.1 y_3.2.1 y_3.2.2∧LN l - y_3.1 < LN l - x.1∧(yb9q48 x.1 y_3.1∧yb9q20 l x.1 = y_3.2.1∧True)∧(SM y∧x.2.2 = y_3.2.2∧True)∧True) (yb9q50 l g y x.1 x.2.2)) (yb9q50 l g y x.1 x.2.2)) (yb9q50 l g y x.1 x.2.2)) (yb9q50 l g y x.1 x.2.2)) (yb9q50 l g y x.1 x.2.2)) (yb9q50 l g y x.1 x.2.2))))) (yb9q55 g l)) (yb9q55 g l))) (True∧∃ (y:Unit),True∧x.2.1 = bodyV g l∧True∧True)) (by kernel_rfl) ?_
  delta DA GI LI LN N0 N1 N4 NI SI SM Z0 Z1 ZI yb9q0 yb9q1 yb9q10 yb9q11 yb9q12 yb9q13 yb9q14 yb9q15 yb9q16 yb9q17 yb9q18 yb9q19 yb9q2 yb9q20 yb9q21 yb9q22 yb9q23 yb9q24 yb9q25 yb9q26 yb9q27 yb9q28 yb9q29 yb9q3 yb9q30 yb9q31 yb9q32 yb9q33 yb9q34 yb9q35 yb9q36 yb9q37 yb9q38 yb9q39 yb9q4 yb9q40 yb9q41 yb9q42 yb9q43 yb9q44 yb9q45 yb9q46 yb9q47 yb9q48 yb9q49 yb9q5 yb9q50 yb9q51 yb9q52 yb9q53 yb9q54 yb9q55 yb9q6 yb9q7 yb9q8 yb9q9
  have dn:(default:Nd) = Nd.mk 0 0 0 [] 0 0 (Arr.mk 0 [] [] []) [] [] 0 0 0 := rfl
  have dm:(default:Sm) = Sm.mk 0 0 [] 0 (Nd.mk 0 0 0 [] 0 0 (Arr.mk 0 [] [] []) [] [] 0 0 0) (Nd.mk 0 0 0 [] 0 0 (Arr.mk 0 [] [] []) [] [] 0 0 0) := rfl
  try simp only [← dm]
  try simp only [← dn]
  simp only [ne_eq,Int.toNat_natCast,ifB_iff,side_iff,decide_eq_true_eq,decide_eq_false_iff_not,true_and,and_true,beq_iff_eq,beq_eq_false_iff_ne,Bool.not_eq_true',Bool.not_eq_false',exists_const,forall_const,Prod.exists]
  intro y
  unfold maxB at hl
  have hnd1:(decide ((l.length:Int) ≤ 1000)) = decide (l.length ≤ 1000) := decide_eq_decide.2 (by omega)
  refine ⟨⟨0,decide ((l.length:Int) ≤ 1000),[],⟨Nat.zero_le _,fun _ s => by simp [sget,namesD],?_⟩,⟨rfl,rfl⟩,rfl⟩,?_⟩
  · rw [hnd1]
    rfl
  rintro ⟨i,r,prs⟩ hI
  simp only at hI ⊢
  refine ⟨fun hlt => ⟨⟨by omega,hlt⟩,fun z _ => ?_⟩,fun hge => ?_⟩
  · have hlt':i < l.length := by omega
    have hm := sm_getD hlt'
    have hnm := namesD_step hlt'
    obtain ⟨hnd,hte⟩ := h _ hm
    have tot := hI.tot
    rw [stmts_step hlt',stmtV_eq] at tot
    have w:IntKind.i64.wrap ((i:Int) + 1) = ((i + 1:Nat):Int) := by rw [wrap_i64' (by omega) (by omega)]; rfl
    have go : ∀ (r2 : Bool) (prs2 : List (List UInt8 × Int)), (r2 = true → cntR prs2 (namesD (l.take (i + 1)))) → bodyV g l = (r2 && stmtsV g (namesD (l.take (i + 1))) (l.drop (i + 1))) →
        ∃ a a_1 b,BoI l g a a_1 b∧l.length - a < l.length - i∧(IntKind.i64.wrap ((i:Int) + 1) = (a:Int)∧r2 = a_1)∧prs2 = b := fun r2 prs2 c1 c2 =>
      ⟨i + 1,r2,prs2,⟨hlt',c1,c2⟩,by omega,⟨w,rfl⟩,rfl⟩
    have hcount:∀ nm,(namesD (l.take i)).count nm ≤ 8589934592 := fun nm => by
      have h1 := List.count_le_length (a := nm) (l := namesD (l.take i))
      have h2:(namesD (l.take i)).length ≤ (l.take i).length := by
        unfold namesD
        rw [List.length_map]
        exact List.length_filter_le _ _
      rw [List.length_take] at h2
      omega
    generalize stmtsV g (namesD (l.take (i + 1))) (l.drop (i + 1)) = rest at tot go
    generalize hs:l.getD i default = s at *
    cases r with
    | false =>
      simp only [Bool.false_and] at tot
      simp [tot]
    | true =>
      have hc := hI.cnt rfl
      have wc:IntKind.i64.wrap ((sget prs s.nm).getD 0 + 1) = (sget prs s.nm).getD 0 + 1 := by
        have := hcount s.nm
        rw [hc s.nm]
        exact wrap_i64' (by omega) (by omega)
      have one := cntR_one hc s.nm
      have put := cntR_put hc s.nm
      simp only [wc,sget_put,if_true,Option.getD_some,one]
      have c1:s.kd ≠ 2→cntR prs (namesD (l.take (i + 1))) := fun e => by rw [hnm,if_neg e]; exact hc
      have c2:s.kd = 2→cntR (sput prs s.nm ((sget prs s.nm).getD 0 + 1)) (namesD (l.take (i + 1))) := fun e => by rw [hnm,if_pos e]; exact put
      clear dn dm hs hI hm h hc put
      repeat' (first
        | exact fun _ => c1 (by omega)
        | exact fun _ => c2 (by assumption)
        | refine ⟨s.nd,⟨nd_self _ _,hnd⟩,?_⟩
        | refine ⟨s.te,⟨nd_self _ _,hte⟩,?_⟩
        | refine ⟨s.te,nd_self _ _,?_⟩
        | refine go _ _ ?_ ?_
        | refine And.intro ?_ ?_
        | intro _)
      all_goals first
        | (clear c1 c2 hnm go; rw [tot]; simp_all; done)
        | (clear c1 c2 hnm go; rw [tot]; simp_all; omega)
        | trace_state
  · have e:i = l.length := by have := hI.le; omega
    have tot := hI.tot
    rw [e,stmts_done (Nat.le_refl _),Bool.and_true] at tot
    exact tot.symm
end Go.Proofs.YtjnifeedbgefpaaGreatDoor
namespace Go.Proofs.YtjnifeedbgefpaaGreatDoor
open Go Go.Ab
set_option maxRecDepth 100000
def addZ (s:Int) (k:Nat):Int := if s + (k:Int) ≤ 16385 then s + (k:Int) else 16385
theorem szL_take {l:List Nd} {i:Nat} (h:i < l.length):szL (l.take (i + 1)) = szL (l.take i) + szN (l.getD i default) := by
  rw [take_step h,szL_app]
  simp only [szL]
  omega
theorem szL_take_le (l:List Nd) (i:Nat):szL (l.take i) ≤ szL l := by
  have h := szL_app (l.take i) (l.drop i)
  rw [List.take_append_drop] at h
  omega
def szSt (xs xc:Nat) (s:Int):St := ⟨[(2,xc,.cells [.fn (.func 30) [] [.ref 1 xs 0,.ref 2 xc 0]]),(1,xs,.cells [.int .i64 s])],[]⟩
def sSz (xs xc:Nat) (q:Nd × Int→Prop):FnSpec where
  β := Nd × Int
  α := Unit
  args := fun y => [.agg y.1.row1,.ref 1 xs 0,.ref 2 xc 0]
  st := fun y => szSt xs xc y.2
  pre := q
  post := fun _ _ => True
  res := fun _ _ => .ret (.tup [])
  out := fun y _ => szSt xs xc (addZ y.2 (szN y.1))
def sSz2 (xs xc:Nat):FnSpec where
  β := Nd × Int
  α := Unit
  args := fun y => [.agg y.1.row2,.ref 1 xs 0,.ref 2 xc 0]
  st := fun y => szSt xs xc y.2
  pre := fun _ => True
  post := fun _ _ => True
  res := fun _ _ => .ret (.tup [])
  out := fun y _ => szSt xs xc (addZ y.2 (szN y.1))
def conSz1 (xs xc:Nat) (n:Nd):Con := fun k ds S => match k with
  | 31 => some (pA ds S (gsl 15 Nd.row1 (innerN n)) (isN2 n ds []))
  | 30 => some (sSz xs xc (fun y => y.1 ∈ innerN n∧0 ≤ y.2∧y.2 ≤ 16384))
  | _ => none
noncomputable def Esz1 (xs xc:Nat) (n:Nd) (s:Int):Senv := { EC (conSz1 xs xc n) 21 4 [5,9,10,11,12,16] (fun _ => ([],[])) with
  ann := fun b _ _S => match b with
    | 0 => some { slots := [11],keep := [0,1,2,3,9,10],α := Nat × Int,st := fun y => ([.int .i64 y.1],⟨[(2,xc,.cells [.fn (.func 30) [] [.ref 1 xs 0,.ref 2 xc 0]]),(1,xs,.cells [.int .i64 y.2])],[]⟩),inv := fun y => y.1 ≤ (innerN n).length∧y.2 = addZ (s + 1) (szL ((innerN n).take y.1)),mu := fun y => (innerN n).length - y.1 }
    | _ => none }
noncomputable section
def yb4q0 (p0:Nd):Arr := Nd.va p0
def yb4q1 (p0:Nd):Int := Arr.k (yb4q0 p0)
def yb4q2 (p0:Nd):List Int := Arr.sh (yb4q0 p0)
def yb4q3 (p0:Nd):Nat := LN (yb4q2 p0)
def yb4q4 (p0:Nd) (p1:Nat):List D := [ZI (GI (yb4q2 p0) p1)]
def yb4q5 (p0:Nd):List Int := Arr.nu (yb4q0 p0)
def yb4q6 (p0:Nd):Nat := LN (yb4q5 p0)
def yb4q7 (p0:Nd) (p1:Nat):List D := [ZI (GI (yb4q5 p0) p1)]
def yb4q8 (p0:Nd):List Arr := Arr.it (yb4q0 p0)
def yb4q9 (p0:Nd):Nat := LN (yb4q8 p0)
def yb4q10:Arr := DA
def yb4q11 (p0:Nd) (p1:Nat):List D := Arr.row (List.getD (yb4q8 p0) p1 yb4q10)
def yb4q12:Nd := Nd.mk Z0 Z0 Z0 [] Z0 Z0 yb4q10 [] [] Z0 Z0 Z0
def yb4q13 (p0:Nd) (p1:Nat):Nd := List.getD (Nd.ki p0) p1 yb4q12
def yb4q14:Sm := Sm.mk Z0 Z0 [] Z0 yb4q12 yb4q12
def yb4q15 (p0:Nd) (p1:Nat):Sm := List.getD (Nd.bo p0) p1 yb4q14
def yb4q16 (p0:Nd):D := D.agg [ZI (Nd.kd p0),ZI (Nd.at_ p0),ZI (Nd.cl p0),D.str (Nd.tx p0),ZI (Nd.pr p0),ZI (Nd.op p0),ZI (yb4q1 p0),D.sl N1 (yb4q3 p0) (fun (i:Nat) => yb4q4 p0 i) Mode.any,D.sl N1 (yb4q6 p0) (fun (i:Nat) => yb4q7 p0 i) Mode.any,D.sl N4 (yb4q9 p0) (fun (i:Nat) => yb4q11 p0 i) Mode.any,D.sl (15:Nat) (LN (Nd.ki p0)) (fun (i:Nat) => Nd.row1 (yb4q13 p0 i)) Mode.any,D.sl (34:Nat) (LN (Nd.bo p0)) (fun (i:Nat) => Sm.row1 (yb4q15 p0 i)) Mode.any,ZI (Nd.de p0),ZI (Nd.sl p0),ZI (Nd.ss p0)]
def yb4q17 (p0:Nd):List Nd := innerN p0
def yb4q18 (p0:Nd):Nat := LN (yb4q17 p0)
def yb4q19 (p0:Nat) (p1:Nd) (p2 p3:Int):Prop := p0 ≤ yb4q18 p1∧p2 = addZ (p3 + Z1) (szL (List.take p0 (yb4q17 p1)))
def yb4q20 (p0 p1:Nat):D := D.fn (Fn.func (30:Nat)) [] [D.ref N1 p0 N0,D.ref N2 p1 N0]
def yb4q21 (p0 p1:Nat):Prop := SM (yb4q20 p0 p1)∧True
def yb4q22 (p0:Nd):Int := (NI (yb4q18 p0))
def yb4q23 (p0:Int) (p1:Nd):Int := addZ p0 (szN p1)
def yb4q24 (p0 p1:Nat) (p2 p3:Int) (p4:Nd):Prop := True∧∃ (_y:Unit),True∧True∧(SM p0∧yb4q21 p1 p0∧SM p1∧(p2 = yb4q23 p3 p4∧True)∧True)∧True
def yb4q25 (p0:Nd) (p1:Nat):Nd := List.getD (yb4q17 p0) (Int.toNat (↑p1:Int)) yb4q12
def yb4q26 (p0:Nd) (p1:Nat):Arr := Nd.va (yb4q25 p0 p1)
def yb4q27 (p0:Nd) (p1:Nat):List Int := Arr.sh (yb4q26 p0 p1)
def yb4q28 (p0:Nd) (p1:Nat):Nat := LN (yb4q27 p0 p1)
def yb4q29 (p0:Nd) (p1:Nat):List Int := Arr.nu (yb4q26 p0 p1)
def yb4q30 (p0:Nd) (p1:Nat):Nat := LN (yb4q29 p0 p1)
def yb4q31 (p0:Nd) (p1:Nat):List Arr := Arr.it (yb4q26 p0 p1)
def yb4q32 (p0:Nd) (p1:Nat):Nat := LN (yb4q31 p0 p1)
def yb4q33 (p0:Nd) (p1:Nat):List Nd := Nd.ki (yb4q25 p0 p1)
def yb4q34 (p0:Nd) (p1:Nat):Nat := LN (yb4q33 p0 p1)
def yb4q35 (p0:Nd) (p1:Nat):List Sm := Nd.bo (yb4q25 p0 p1)
def yb4q36 (p0:Nd) (p1:Nat):Nat := LN (yb4q35 p0 p1)
def yb4q37 (p0:Nd):D := D.sl (15:Nat) (yb4q18 p0) (fun (i:Nat) => Nd.row1 (List.getD (yb4q17 p0) i yb4q12)) Mode.any
end
theorem sz1_step (xs xc : Nat) (n : Nd) (s : Int) (hn : n.sm) (h0 : 0 ≤ s) (h1 : s ≤ 16384) (h : ∀ b ∈ innerN n, ∀ z, 0 ≤ z → z ≤ 16384 → ACalls Tryz.prog 30 ((sSz2 xs xc).args (b, z)) ((sSz2 xs xc).st (b, z)) (SpecR (sSz2 xs xc) (b, z))) :
    ACalls Tryz.prog 30 ((sSz2 xs xc).args (n,s)) ((sSz2 xs xc).st (n,s)) (SpecR (sSz2 xs xc) (n,s)) := by
  obtain ⟨_,k1,k2⟩ := sm_len hn
  refine con_of (A := sSz2 xs xc) (x := (n,s)) (E := Esz1 xs xc n s) (eOk ?_ rfl) Tryz.func30 rfl (by kernel_rfl) rfl (by simp [sSz2,Esz1,EC,E0]) ?_
  · intro k ds S A hh
    try unfold conSz1 at hh
    try dsimp only at hh
    split at hh
    · injection hh with hh; subst hh
      exact pA_ok fun e => CD.at_ (CD.wk (in0_ok n k1 k2) e) _
    · injection hh with hh; subst hh
      refine ConOk.plain (fun y hy => ?_) rfl rfl
      refine ((h y.1 hy.1 y.2 hy.2.1 hy.2.2).wkArgs ?_).mono fun _ _ ⟨u,q1,q2,q3⟩ => ⟨u,q1,q2,q3⟩
      simp only [sSz2,sSz,wkL,wkD]
      exact ⟨nd1_wk _,by simp [weakD,chk_iff],by simp [weakD,chk_iff],trivial⟩
    · cases hh
  refine vc_eq (T :=
    ∀ (x:Nat),xc ≠ x∧xs ≠ x∧True→SM xs∧SM xs∧SM x∧∃ (x_1:Unit),isN2 n [yb4q16 n] []∧∀ (y:Unit),True→(∃ (x:Nat × Int),yb4q19 x.1 n x.2 s∧(Z0 = (NI x.1)∧True)∧(SM xc∧yb4q21 xs xc∧SM xs∧(IntKind.wrap IntKind.i64 (s + Z1) = x.2∧True)∧True)∧True)∧∀ (x_2:Nat × Int),yb4q19 x_2.1 n x_2.2 s→ifB (decide ((NI x_2.1) < yb4q22 n)) (side (Z0 ≤ (NI x_2.1)∧(NI x_2.1) < yb4q22 n) (∀ (x_3:Nat),xc ≠ x_3∧xs ≠ x_3∧True→SM x_3∧SM xs∧ifB (decide ((16384:Int) < x_2.2)) (yb4q24 xc xs x_2.2 s n) (SM xc∧SM x_3∧∃ (x_4:Nd × Int),((Nd.kd (yb4q25 n x_2.1) = Nd.kd x_4.1∧Nd.at_ (yb4q25 n x_2.1) = Nd.at_ x_4.1∧Nd.cl (yb4q25 n x_2.1) = Nd.cl x_4.1∧Nd.tx (yb4q25 n x_2.1) = Nd.tx x_4.1∧Nd.pr (yb4q25 n x_2.1) = Nd.pr x_4.1∧Nd.op (yb4q25 n x_2.1) = Nd.op x_4.1∧Arr.k (yb4q26 n x_2.1) = yb4q1 x_4.1∧(yb4q28 n x_2.1 = yb4q3 x_4.1∧(∀ (i:Nat),i < yb4q28 n x_2.1→[ZI (GI (yb4q27 n x_2.1) i)] = yb4q4 x_4.1 i)∧True)∧(yb4q30 n x_2.1 = yb4q6 x_4.1∧(∀ (i:Nat),i < yb4q30 n x_2.1→[ZI (GI (yb4q29 n x_2.1) i)] = yb4q7 x_4.1 i)∧True)∧(yb4q32 n x_2.1 = yb4q9 x_4.1∧(∀ (i:Nat),i < yb4q32 n x_2.1→Arr.row (List.getD (yb4q31 n x_2.1) i yb4q10) = yb4q11 x_4.1 i)∧True)∧(yb4q34 n x_2.1 = LN (Nd.ki x_4.1)∧(∀ (i:Nat),i < yb4q34 n x_2.1→Nd.row (List.getD (yb4q33 n x_2.1) i yb4q12) = Nd.row (yb4q13 x_4.1 i))∧True)∧(yb4q36 n x_2.1 = LN (Nd.bo x_4.1)∧(∀ (i:Nat),i < yb4q36 n x_2.1→Sm.row (List.getD (yb4q35 n x_2.1) i yb4q14) = Sm.row (yb4q15 x_4.1 i))∧True)∧Nd.de (yb4q25 n x_2.1) = Nd.de x_4.1∧Nd.sl (yb4q25 n x_2.1) = Nd.sl x_4.1∧Nd.ss (yb4q25 n x_2.1) = Nd.ss x_4.1∧True)∧SM xs∧SM xc∧True)∧((SM xc∧yb4q21 xs xc∧SM xs∧(x_2.2 = x_4.2∧True)∧True)∧True)∧(x_4.1 ∈ yb4q17 n∧Z0 ≤ x_4.2∧x_4.2 ≤ (16384:Int))∧∀ (y:Unit),True→(SM (yb4q16 n)∧SM (D.ref N1 xs N0)∧SM (D.ref N2 xc N0)∧SM (D.ref (3:Nat) x N0)∧SM (yb4q37 n)∧SM (ZI (yb4q22 n))∧True)∧∃ (y:Nat × Int),yb4q19 y.1 n y.2 s∧yb4q18 n - y.1 < yb4q18 n - x_2.1∧(IntKind.wrap IntKind.i64 ((NI x_2.1) + Z1) = (NI y.1)∧True)∧(SM xc∧yb4q21 xs xc∧SM xs∧(yb4q23 x_4.2 x_4.1 = y.2∧True)∧True)∧True))) (yb4q24 xc xs x_2.2 s n)) (by kernel_rfl) ?_
  delta DA GI LN N0 N1 N2 N4 NI SM Z0 Z1 ZI yb4q0 yb4q1 yb4q10 yb4q11 yb4q12 yb4q13 yb4q14 yb4q15 yb4q16 yb4q17 yb4q18 yb4q19 yb4q2 yb4q20 yb4q21 yb4q22 yb4q23 yb4q24 yb4q25 yb4q26 yb4q27 yb4q28 yb4q29 yb4q3 yb4q30 yb4q31 yb4q32 yb4q33 yb4q34 yb4q35 yb4q36 yb4q37 yb4q4 yb4q5 yb4q6 yb4q7 yb4q8 yb4q9
  have dn:(default:Nd) = Nd.mk 0 0 0 [] 0 0 (Arr.mk 0 [] [] []) [] [] 0 0 0 := rfl
  have dm:(default:Sm) = Sm.mk 0 0 [] 0 (Nd.mk 0 0 0 [] 0 0 (Arr.mk 0 [] [] []) [] [] 0 0 0) (Nd.mk 0 0 0 [] 0 0 (Arr.mk 0 [] [] []) [] [] 0 0 0) := rfl
  try simp only [← dm]
  try simp only [← dn]
  simp only [ne_eq,Int.toNat_natCast,ifB_iff,side_iff,decide_eq_true_eq,decide_eq_false_iff_not,true_and,and_true,exists_const,forall_const,Prod.exists]
  have hsz := szN_inner n
  have w1:IntKind.i64.wrap (s + 1) = s + 1 := wrap_i64' (by omega) (by omega)
  intro x _
  refine ⟨nd2_self n _,⟨0,s + 1,⟨Nat.zero_le _,by simp only [List.take_zero,szL,addZ]; split <;> omega⟩,rfl,w1⟩,?_⟩
  rintro ⟨i,c⟩ ⟨hi,hc⟩
  simp only at hi hc ⊢
  have hl := sm_inner hn
  unfold maxLen at hl
  have hle := szL_take_le (innerN n) i
  refine ⟨fun hlt => ⟨⟨by omega,hlt⟩,fun _ _ => ⟨fun hb => ?_,fun hb => ?_⟩⟩,fun hge => ?_⟩
  · rw [hc]
    unfold addZ at hc ⊢
    split at hc <;> split <;> omega
  · have hlt':i < (innerN n).length := by omega
    have ht := szL_take hlt'
    refine ⟨(innerN n).getD i default,c,⟨rfl,rfl,rfl,rfl,rfl,rfl,rfl,⟨rfl,fun _ _ => rfl⟩,⟨rfl,fun _ _ => rfl⟩,⟨rfl,fun _ _ => rfl⟩,⟨rfl,fun _ _ => rfl⟩,⟨rfl,fun _ _ => rfl⟩,rfl,rfl,rfl⟩,rfl,⟨nd_getD hlt',?_,by omega⟩,i + 1,addZ c (szN ((innerN n).getD i default)),⟨hlt',?_⟩,by omega,wrap_i64' (by omega) (by omega),rfl⟩
    · unfold addZ at hc
      split at hc <;> omega
    · rw [ht]
      unfold addZ at hc ⊢
      split at hc <;> split <;> split <;> omega
  · have e:i = (innerN n).length := by omega
    rw [e,List.take_length] at hc
    rw [hc]
    unfold addZ
    split <;> split <;> omega
theorem sz1_ok (xs xc:Nat) (n:Nd) (s:Int) (hn:n.sm) (h0:0 ≤ s) (h1:s ≤ 16384):ACalls Tryz.prog 30 ((sSz2 xs xc).args (n,s)) ((sSz2 xs xc).st (n,s)) (SpecR (sSz2 xs xc) (n,s)) :=
  sz1_step xs xc n s hn h0 h1 fun b hb z z0 z1 => sz1_ok xs xc b z (sm_kid hn hb) z0 z1
termination_by szN n
decreasing_by exact inner_sz hb
def sizeN (n:Nd):Int := if szN n ≤ 16385 then (szN n:Int) else 16385
def conSzs (n:Nd):Con := fun k ds _ => match k with
  | 30 => match ds with
    | [_,.ref _ xs _,.ref _ xc _] => some (sSz xs xc (fun y => y.1 = n∧y.2 = 0))
    | _ => none
  | _ => none
noncomputable def Eszs (n:Nd):Senv := EC (conSzs n) 11 5 [] (fun _ => ([],[]))
noncomputable section
def yb4q38 (p0:Nd):Arr := Nd.va p0
def yb4q39 (p0:Nd):Int := Arr.k (yb4q38 p0)
def yb4q40 (p0:Nd):List Int := Arr.sh (yb4q38 p0)
def yb4q41 (p0:Nd):Nat := LN (yb4q40 p0)
def yb4q42 (p0:Nd) (p1:Nat):List D := [ZI (GI (yb4q40 p0) p1)]
def yb4q43 (p0:Nd):List Int := Arr.nu (yb4q38 p0)
def yb4q44 (p0:Nd):Nat := LN (yb4q43 p0)
def yb4q45 (p0:Nd) (p1:Nat):List D := [ZI (GI (yb4q43 p0) p1)]
def yb4q46 (p0:Nd):List Arr := Arr.it (yb4q38 p0)
def yb4q47 (p0:Nd):Nat := LN (yb4q46 p0)
def yb4q48:Arr := DA
def yb4q49 (p0:Nd) (p1:Nat):List D := Arr.row (List.getD (yb4q46 p0) p1 yb4q48)
def yb4q50 (p0:Nd):Nat := LN (Nd.ki p0)
def yb4q51:Nd := Nd.mk Z0 Z0 Z0 [] Z0 Z0 yb4q48 [] [] Z0 Z0 Z0
def yb4q52 (p0:Nd) (p1:Nat):List D := Nd.row (List.getD (Nd.ki p0) p1 yb4q51)
def yb4q53 (p0:Nd):Nat := LN (Nd.bo p0)
def yb4q54 (p0:Nd) (p1:Nat):List D := Sm.row (List.getD (Nd.bo p0) p1 (Sm.mk Z0 Z0 [] Z0 yb4q51 yb4q51))
def yb4q55 (p0:Int) (p1:Nd):Int := addZ p0 (szN p1)
end
theorem szs_ok (n:Nd) (hn:n.sm):CD 11 [.agg n.row1] (.int .i64 (sizeN n)) := by
  refine con_of (A := sC _ _) (x := ()) (E := Eszs n) (eOk ?_ rfl) Tryz.func11 rfl (by kernel_rfl) rfl (by simp [sC,Eszs,EC,E0]) ?_
  · intro k ds S A hh
    try unfold conSzs at hh
    try dsimp only at hh
    split at hh
    · split at hh
      · injection hh with hh; subst hh
        refine ConOk.plain (fun y hy => ?_) rfl rfl
        obtain ⟨y,z⟩ := y
        obtain ⟨rfl,rfl⟩:y = n∧z = 0 := hy
        refine ((sz1_ok _ _ y 0 hn (by omega) (by omega)).wkArgs ?_).mono fun _ _ ⟨u,q1,q2,q3⟩ => ⟨u,q1,q2,q3⟩
        simp only [sSz2,sSz,wkL,wkD]
        exact ⟨nd1_wk _,by simp [weakD,chk_iff],by simp [weakD,chk_iff],trivial⟩
      · cases hh
    · cases hh
  refine vc_eq (T :=
    ∀ (x:Nat),True→∀ (x_1:Nat),x ≠ x_1∧True→SM x_1∧∀ (x_2:Nat),x_1 ≠ x_2∧x ≠ x_2∧True→SM x_2∧SM x_2∧SM x∧∃ (x:Nd × Int),((Nd.kd n = Nd.kd x.1∧Nd.at_ n = Nd.at_ x.1∧Nd.cl n = Nd.cl x.1∧Nd.tx n = Nd.tx x.1∧Nd.pr n = Nd.pr x.1∧Nd.op n = Nd.op x.1∧yb4q39 n = yb4q39 x.1∧(yb4q41 n = yb4q41 x.1∧(∀ (i:Nat),i < yb4q41 n→yb4q42 n i = yb4q42 x.1 i)∧True)∧(yb4q44 n = yb4q44 x.1∧(∀ (i:Nat),i < yb4q44 n→yb4q45 n i = yb4q45 x.1 i)∧True)∧(yb4q47 n = yb4q47 x.1∧(∀ (i:Nat),i < yb4q47 n→yb4q49 n i = yb4q49 x.1 i)∧True)∧(yb4q50 n = yb4q50 x.1∧(∀ (i:Nat),i < yb4q50 n→yb4q52 n i = yb4q52 x.1 i)∧True)∧(yb4q53 n = yb4q53 x.1∧(∀ (i:Nat),i < yb4q53 n→yb4q54 n i = yb4q54 x.1 i)∧True)∧Nd.de n = Nd.de x.1∧Nd.sl n = Nd.sl x.1∧Nd.ss n = Nd.ss x.1∧True)∧SM x_1∧SM x_2∧True)∧((SM x_2∧(D.fn (Fn.func (30:Nat)) [] [D.ref (max (N0 + N1) N0) x_1 N0,D.ref (max N2 (max (N0 + N1) N0)) x_2 N0] = D.fn (Fn.func (30:Nat)) [] [D.ref N1 x_1 N0,D.ref N2 x_2 N0]∧True)∧SM x_1∧(Z0 = x.2∧True)∧True)∧True)∧(x.1 = n∧x.2 = Z0)∧∀ (y:Unit),True→SM x_1∧True∧∃ (y:Unit),True∧(if (16385:Int) < yb4q55 x.2 x.1 then (16385:Int) else yb4q55 x.2 x.1) = sizeN n∧True∧True) (by kernel_rfl) ?_
  delta DA GI LN N0 N1 N2 SM Z0 ZI yb4q38 yb4q39 yb4q40 yb4q41 yb4q42 yb4q43 yb4q44 yb4q45 yb4q46 yb4q47 yb4q48 yb4q49 yb4q50 yb4q51 yb4q52 yb4q53 yb4q54 yb4q55
  have dn:(default:Nd) = Nd.mk 0 0 0 [] 0 0 (Arr.mk 0 [] [] []) [] [] 0 0 0 := rfl
  have dm:(default:Sm) = Sm.mk 0 0 [] 0 (Nd.mk 0 0 0 [] 0 0 (Arr.mk 0 [] [] []) [] [] 0 0 0) (Nd.mk 0 0 0 [] 0 0 (Arr.mk 0 [] [] []) [] [] 0 0 0) := rfl
  try simp only [← dm]
  try simp only [← dn]
  simp only [ne_eq,true_and,and_true,exists_const,forall_const,Prod.exists]
  refine fun _ _ _ _ _ => ⟨n,0,⟨rfl,rfl,rfl,rfl,rfl,rfl,rfl,⟨rfl,fun _ _ => rfl⟩,⟨rfl,fun _ _ => rfl⟩,⟨rfl,fun _ _ => rfl⟩,⟨rfl,fun _ _ => rfl⟩,⟨rfl,fun _ _ => rfl⟩,rfl,rfl,rfl⟩,⟨rfl,rfl⟩,⟨rfl,rfl⟩,?_⟩
  unfold addZ sizeN
  split <;> split <;> split <;> omega
end Go.Proofs.YtjnifeedbgefpaaGreatDoor
namespace Go.Proofs.YtjnifeedbgefpaaGreatDoor
open Go Go.Ab
set_option maxRecDepth 100000
theorem va_ok {n:Nd} (h:n.ok):n.va.ok := by
  cases n with
  | mk kd at_ cl tx pr op va ki bo de sl ss =>
    simp only [Nd.ok] at h
    exact h.2.1
theorem ki_ok {n:Nd} (h:n.ok):∀ b ∈ n.ki,b.ok := by
  cases n with
  | mk kd at_ cl tx pr op va ki bo de sl ss =>
    simp only [Nd.ok] at h
    exact (ndsOk_iff _).1 h.2.2.1
theorem bo_ok' {n:Nd} (h:n.ok):∀ s ∈ n.bo,s.ok := by
  cases n with
  | mk kd at_ cl tx pr op va ki bo de sl ss =>
    simp only [Nd.ok] at h
    exact (smsOk_iff _).1 h.2.2.2
theorem sm_ok2 {s:Sm} (h:s.ok):s.te.ok∧s.nd.ok := by
  cases s with
  | mk kd at_ nm sl te nd =>
    simp only [Sm.ok] at h
    exact h.2
theorem sm_sm2 {s:Sm} (h:s.sm):s.te.sm∧s.nd.sm := by
  cases s with
  | mk kd at_ nm sl te nd =>
    simp only [Sm.sm] at h
    exact h.2
theorem nd_ok (n:Nd) (ho:n.ok) (hn:n.sm):RNode n :=
  nd_step n hn (va_ok ho) (bo_step n.bo true (sm_len hn).2.2 fun s hs =>
    have h1 := sm_ok2 (bo_ok' ho s hs)
    have h2 := sm_sm2 (sm_bo hn s hs)
    ⟨nd_ok s.nd h1.2 h2.2,nd_ok s.te h1.1 h2.1⟩) fun b hb => nd_ok b (ki_ok ho b hb) (sm_kid hn (kid_inner hb))
termination_by SizeOf.sizeOf n
decreasing_by
  · have := Nd.size_stmt hs
    have := Sm.size_nd s
    omega
  · have := Nd.size_stmt hs
    have := Sm.size_te s
    omega
  · exact Nd.size_kid hb
theorem bo_all (l:List Sm) (g:Bool) (hl:l.length ≤ maxB) (ho:∀ s ∈ l,s.ok) (hs:∀ s ∈ l,s.sm):RBody l g :=
  bo_step l g hl fun s h => ⟨nd_ok s.nd (sm_ok2 (ho s h)).2 (sm_sm2 (hs s h)).2,nd_ok s.te (sm_ok2 (ho s h)).1 (sm_sm2 (hs s h)).1⟩
def conCks (n:Nd):Con := fun k ds S => match k with
  | 34 => some (pA ds S (.bool (deepB n 60)) (isN n ds [.int .i64 60]))
  | 11 => some (pA ds S (.int .i64 (sizeN n)) (isN n ds []))
  | 46 => some (pA ds S (.bool (nodeV n)) (isN n ds []))
  | _ => none
theorem conCks_ok {n:Nd} (ho:n.ok) (hn:n.sm):ConOk Tryz.prog (conCks n) := by
  intro k ds S A hh
  unfold conCks at hh
  split at hh
  · injection hh with hh; subst hh
    exact pA_ok fun e => CD.at_ (CD.isN (de_ok n 60 hn (by unfold inI64; omega)) e) _
  · injection hh with hh; subst hh
    exact pA_ok fun e => CD.at_ (CD.wk (szs_ok n hn) e) _
  · injection hh with hh; subst hh
    exact pA_ok fun e => CD.at_ (CD.isN (nd_ok n ho hn) e) _
  · cases hh
noncomputable def Ecks (n:Nd):Senv := EC (conCks n) 14 4 [6,10] (fun _ => ([],[]))
noncomputable section
def yc1q0 (p0:Nd):Arr := Nd.va p0
def yc1q1 (p0:Nd):List Int := Arr.sh (yc1q0 p0)
def yc1q2 (p0:Nd):List Int := Arr.nu (yc1q0 p0)
def yc1q3 (p0:Nd):List Arr := Arr.it (yc1q0 p0)
def yc1q4:Arr := DA
def yc1q5:Nd := Nd.mk Z0 Z0 Z0 [] Z0 Z0 yc1q4 [] [] Z0 Z0 Z0
def yc1q6 (p0:Nd):D := D.agg [ZI (Nd.kd p0),ZI (Nd.at_ p0),ZI (Nd.cl p0),D.str (Nd.tx p0),ZI (Nd.pr p0),ZI (Nd.op p0),ZI (Arr.k (yc1q0 p0)),SI (yc1q1 p0),SI (yc1q2 p0),D.sl N4 (LN (yc1q3 p0)) (fun (i:Nat) => Arr.row (List.getD (yc1q3 p0) i yc1q4)) Mode.any,D.sl (15:Nat) (LN (Nd.ki p0)) (fun (i:Nat) => Nd.row (List.getD (Nd.ki p0) i yc1q5)) Mode.any,D.sl (34:Nat) (LN (Nd.bo p0)) (fun (i:Nat) => Sm.row (List.getD (Nd.bo p0) i (Sm.mk Z0 Z0 [] Z0 yc1q5 yc1q5))) Mode.any,ZI (Nd.de p0),ZI (Nd.sl p0),ZI (Nd.ss p0)]
def yc1q7 (p0:Nd):Int := checkN p0
def yc1q8 (p0:Nd):Prop := isN p0 [yc1q6 p0] []
end
theorem ck_ok' (n:Nd) (ho:n.ok) (hn:n.sm):CD 24 [.agg n.row1] (.int .i64 (checkN n)) := by
  refine con_of (A := sC _ _) (x := ()) (E := Ecks n) (eOk (conCks_ok ho hn) rfl) Tryz.func24 rfl (by kernel_rfl) rfl (by simp [sC,Ecks,EC,E0]) ?_
  refine vc_eq (T :=
    ∀ (x:Nat),True→SM x∧∃ (x_1:Unit),isN n [yc1q6 n,ZI (60:Int)] [ZI (60:Int)]∧∀ (y:Unit),True→ifB (deepB n (60:Int)) (True∧∃ (y:Unit),True∧(8:Int) = yc1q7 n∧True∧True) (SM x∧∃ (x_2:Unit),yc1q8 n∧∀ (y:Unit),True→ifB (decide ((16384:Int) < sizeN n)) (True∧∃ (y:Unit),True∧(21:Int) = yc1q7 n∧True∧True) (SM x∧∃ (x:Unit),yc1q8 n∧∀ (y:Unit),True→ifB (!nodeV n) (True∧∃ (y:Unit),True∧(11:Int) = yc1q7 n∧True∧True) (True∧∃ (y:Unit),True∧Z0 = yc1q7 n∧True∧True)))) (by kernel_rfl) ?_
  delta DA GI LN N1 N4 SI SM Z0 ZI yc1q0 yc1q1 yc1q2 yc1q3 yc1q4 yc1q5 yc1q6 yc1q7 yc1q8
  have dn:(default:Nd) = Nd.mk 0 0 0 [] 0 0 (Arr.mk 0 [] [] []) [] [] 0 0 0 := rfl
  have dm:(default:Sm) = Sm.mk 0 0 [] 0 (Nd.mk 0 0 0 [] 0 0 (Arr.mk 0 [] [] []) [] [] 0 0 0) (Nd.mk 0 0 0 [] 0 0 (Arr.mk 0 [] [] []) [] [] 0 0 0) := rfl
  try simp only [← dm]
  try simp only [← dn]
  simp only [ifB_iff,decide_eq_true_eq,decide_eq_false_iff_not,true_and,and_true,Bool.not_eq_true',Bool.not_eq_false',exists_const,forall_const]
  have e1:deepB n 60 = true↔60 < dpN n := by unfold deepB; rw [decide_eq_true_eq]; omega
  have e2:16384 < sizeN n↔16384 < szN n := by unfold sizeN; split <;> omega
  have e3:deepB n 60 = false↔¬ 60 < dpN n := by rw [← e1]; simp
  simp only [e1,e2,e3]
  unfold checkN
  refine ⟨nd_self _ _,fun h => (if_pos h).symm,fun h => ?_⟩
  rw [if_neg h]
  refine ⟨nd_self _ _,fun h => (if_pos h).symm,fun h => ?_⟩
  rw [if_neg h]
  refine ⟨nd_self _ _,fun h => ?_,fun h => ?_⟩
  · rw [h]; rfl
  · rw [h]; rfl
def oneSt (k:Int) (n:Nd):Sm := .mk k 0 [] 0 nd0 n
def conRns (n:Nd):Con := fun k ds S => match k with
  | 24 => some (pA ds S (.int .i64 (checkN n)) (isN n ds []))
  | 25 => some (pA ds S (.bool (outB [oneSt 1 n])) (wkL ds [gsl 34 Sm.row1 [oneSt 1 n]]))
  | _ => none
def zcells:List D := [.int .i64 0,.int .i64 0,.int .i64 0,.str [],.int .i64 0,.int .i64 0,.int .i64 0,.sl 1 0 (fun _ => []) .nil,.sl 1 0 (fun _ => []) .nil,.sl 1 0 (fun _ => []) .nil,.sl 1 0 (fun _ => []) .nil,.sl 1 0 (fun _ => []) .nil,.int .i64 0,.int .i64 0,.int .i64 0]
theorem zero_wk:wkL zcells nd0.rowE := by
  simp [zcells,Nd.rowE,nd0,Nd.kd,Nd.at_,Nd.cl,Nd.tx,Nd.pr,Nd.op,Nd.va,Nd.ki,Nd.bo,Nd.de,Nd.sl,Nd.ss,Arr.k,Arr.sh,Arr.nu,Arr.it,isl,gsl,wkL,wkD,weakD,chk_iff,weakM,nilMB,kEq]
theorem one_wk (k:Int) (n:Nd):wkL [.sl 34 1 (fun i => [D.int .i64 k :: .int .i64 0 :: .str [] :: .int .i64 0 :: (zcells ++ n.rowE)].getD i []) .full] [gsl 34 Sm.row1 [oneSt k n]] := by
  simp only [gsl,wkL,wkD,chk_iff]
  refine ⟨⟨by simp,by simp,fun i hi => ?_,by simp [weakM]⟩,trivial⟩
  match i,hi with
  | 0,_ =>
    show wkL (D.int .i64 k :: .int .i64 0 :: .str [] :: .int .i64 0 :: (zcells ++ n.rowE)) (.int .i64 k :: .int .i64 0 :: .str [] :: .int .i64 0 :: (nd0.rowE ++ n.rowE))
    simp only [wkL]
    exact ⟨wkD_refl _,wkD_refl _,wkD_refl _,wkD_refl _,wkL_app zero_wk (wkL_refl _)⟩
theorem one_sm {k:Int} {n:Nd} (hn:n.sm):∀ s ∈ [oneSt k n],s.sm := by
  intro s hs
  rw [List.mem_singleton.1 hs]
  unfold oneSt
  simp only [Sm.sm]
  exact ⟨by decide,by simp [nd0,Nd.sm,Arr.sm,smL,ndsSm,smsSm],hn⟩
theorem conRns_ok {n:Nd} (ho:n.ok) (hn:n.sm):ConOk Tryz.prog (conRns n) := by
  intro k ds S A hh
  unfold conRns at hh
  split at hh
  · injection hh with hh; subst hh
    exact pA_ok fun e => CD.at_ (CD.wk (ck_ok' n ho hn) e) _
  · injection hh with hh; subst hh
    exact pA_ok fun e => CD.at_ (CD.wk (ou_ok [oneSt 1 n] (by simp [maxLen]) (one_sm hn)) e) _
  · cases hh
noncomputable def Erns (n:Nd):Senv := EC (conRns n) 13 4 [7,12] (fun _ => ([],[]))
noncomputable section
def yc1q9 (p0:Nd):Arr := Nd.va p0
def yc1q10 (p0:Nd):List Int := Arr.sh (yc1q9 p0)
def yc1q11 (p0:Nd):List Int := Arr.nu (yc1q9 p0)
def yc1q12 (p0:Nd):List Arr := Arr.it (yc1q9 p0)
def yc1q13:Arr := DA
def yc1q14:Nd := Nd.mk Z0 Z0 Z0 [] Z0 Z0 yc1q13 [] [] Z0 Z0 Z0
def yc1q15:Sm := Sm.mk Z0 Z0 [] Z0 yc1q14 yc1q14
def yc1q16 (p0:Nd):List D := [ZI (Nd.kd p0),ZI (Nd.at_ p0),ZI (Nd.cl p0),D.str (Nd.tx p0),ZI (Nd.pr p0),ZI (Nd.op p0),ZI (Arr.k (yc1q9 p0)),SI (yc1q10 p0),SI (yc1q11 p0),D.sl N4 (LN (yc1q12 p0)) (fun (i:Nat) => Arr.row (List.getD (yc1q12 p0) i yc1q13)) Mode.any,D.sl (15:Nat) (LN (Nd.ki p0)) (fun (i:Nat) => Nd.row (List.getD (Nd.ki p0) i yc1q14)) Mode.any,D.sl (34:Nat) (LN (Nd.bo p0)) (fun (i:Nat) => Sm.row (List.getD (Nd.bo p0) i yc1q15)) Mode.any,ZI (Nd.de p0),ZI (Nd.sl p0),ZI (Nd.ss p0)]
def yc1q17 (p0:Nd):Int := rightN p0
def yc1q18:D := ZI Z0
def yc1q19:D := D.sl N1 N0 (fun (_x:Nat) => []) Mode.nil
def yc1q20 (p0:Nd):List Sm := [oneSt Z1 p0]
end
theorem rn_ok' (n:Nd) (ho:n.ok) (hn:n.sm):CD 9 [.agg n.row1] (.int .i64 (rightN n)) := by
  refine con_of (A := sC _ _) (x := ()) (E := Erns n) (eOk (conRns_ok ho hn) rfl) Tryz.func9 rfl (by kernel_rfl) rfl (by simp [sC,Erns,EC,E0]) ?_
  refine vc_eq (T :=
    ∀ (x:Nat),True→SM x∧∃ (x_1:Unit),isN n [D.agg (yc1q16 n)] []∧∀ (y:Unit),True→ifB (checkN n != Z0) (True∧∃ (y:Unit),True∧checkN n = yc1q17 n∧True∧True) (SM x∧∃ (x:Unit),wkL [D.sl (34:Nat) N1 (fun (i:Nat) => List.getD [ZI Z1 :: yc1q18 :: D.str [] :: yc1q18 :: yc1q18 :: yc1q18 :: yc1q18 :: D.str [] :: yc1q18 :: yc1q18 :: yc1q18 :: yc1q19 :: yc1q19 :: yc1q19 :: yc1q19 :: yc1q19 :: yc1q18 :: yc1q18 :: yc1q18 :: yc1q16 n] i []) Mode.full] [D.sl (34:Nat) (LN (yc1q20 n)) (fun (i:Nat) => Sm.row1 (List.getD (yc1q20 n) i yc1q15)) Mode.any]∧∀ (y:Unit),True→ifB (outB (yc1q20 n)) (True∧∃ (y:Unit),True∧(11:Int) = yc1q17 n∧True∧True) (True∧∃ (y:Unit),True∧Z0 = yc1q17 n∧True∧True))) (by kernel_rfl) ?_
  delta DA GI LN N0 N1 N4 SI SM Z0 Z1 ZI yc1q10 yc1q11 yc1q12 yc1q13 yc1q14 yc1q15 yc1q16 yc1q17 yc1q18 yc1q19 yc1q20 yc1q9
  have dn:(default:Nd) = Nd.mk 0 0 0 [] 0 0 (Arr.mk 0 [] [] []) [] [] 0 0 0 := rfl
  have dm:(default:Sm) = Sm.mk 0 0 [] 0 (Nd.mk 0 0 0 [] 0 0 (Arr.mk 0 [] [] []) [] [] 0 0 0) (Nd.mk 0 0 0 [] 0 0 (Arr.mk 0 [] [] []) [] [] 0 0 0) := rfl
  try simp only [← dm]
  try simp only [← dn]
  simp only [ne_eq,ifB_iff,true_and,and_true,bne_iff_ne,bne_eq_false_iff_eq,exists_const,forall_const]
  have hr:rightN n = if checkN n ≠ 0 then checkN n else if outB [oneSt 1 n] = true then 11 else 0 := rfl
  rw [hr]
  refine ⟨nd_self _ _,fun h => (if_pos h).symm,fun h => ⟨one_wk 1 n,fun h2 => ?_,fun h2 => ?_⟩⟩
  · rw [if_neg (by simpa using h),if_pos h2]
  · rw [if_neg (by simpa using h),if_neg (by rw [h2]; exact Bool.false_ne_true)]
def anyD (l:List Nd):Bool := l.any fun b => deepB b 60
def anyB (l:List Sm):Bool := l.any fun s => anyD (partsS s)
def sumZ:List Nd→Int
  | [] => 0
  | x :: r => sizeN x + sumZ r
def sumB:List Sm→Int
  | [] => 0
  | s :: r => sumZ (partsS s) + sumB r
theorem anyD_take {l:List Nd} {i:Nat} (h:i < l.length):anyD (l.take (i + 1)) = (anyD (l.take i) || deepB (l.getD i default) 60) := by
  unfold anyD
  rw [take_step h,List.any_append]
  simp
theorem anyB_take {l:List Sm} {i:Nat} (h:i < l.length):anyB (l.take (i + 1)) = (anyB (l.take i) || anyD (partsS (l.getD i default))) := by
  unfold anyB
  rw [take_step h,List.any_append]
  simp
theorem sumZ_app:∀ a b:List Nd,sumZ (a ++ b) = sumZ a + sumZ b
  | [],b => by simp only [List.nil_append,sumZ]; omega
  | x :: a,b => by simp only [List.cons_append,sumZ,sumZ_app a b]; omega
theorem sumB_app:∀ a b:List Sm,sumB (a ++ b) = sumB a + sumB b
  | [],b => by simp only [List.nil_append,sumB]; omega
  | x :: a,b => by simp only [List.cons_append,sumB,sumB_app a b]; omega
theorem sumZ_take {l:List Nd} {i:Nat} (h:i < l.length):sumZ (l.take (i + 1)) = sumZ (l.take i) + sizeN (l.getD i default) := by
  rw [take_step h,sumZ_app]
  simp only [sumZ]
  omega
theorem sumB_take {l:List Sm} {i:Nat} (h:i < l.length):sumB (l.take (i + 1)) = sumB (l.take i) + sumZ (partsS (l.getD i default)) := by
  rw [take_step h,sumB_app]
  simp only [sumB]
  omega
theorem sizeN_le (n:Nd):0 ≤ sizeN n∧sizeN n ≤ 16385 := by
  unfold sizeN
  split <;> omega
theorem sumZ_le:∀ l:List Nd,0 ≤ sumZ l∧sumZ l ≤ 16385 * (l.length:Int)
  | [] => by simp [sumZ]
  | x :: r => by
    have := sizeN_le x
    have := sumZ_le r
    simp only [sumZ,List.length_cons]
    omega
theorem sumB_le:∀ l:List Sm,0 ≤ sumB l∧sumB l ≤ 32770 * (l.length:Int)
  | [] => by simp [sumB]
  | s :: r => by
    have h1 := sumZ_le (partsS s)
    have := sumB_le r
    have := parts_two s
    simp only [sumB,List.length_cons]
    omega
theorem sumZ_sz:∀ l:List Nd,sumZ l ≤ (szL l:Int)∧(szL l ≤ 16384→sumZ l = (szL l:Int))∧(16384 < szL l→16384 < sumZ l)
  | [] => by simp [sumZ,szL]
  | x :: r => by
    have := sumZ_sz r
    have := sumZ_le r
    have h:sizeN x = if szN x ≤ 16385 then (szN x:Int) else 16385 := rfl
    simp only [sumZ,szL]
    split at h <;> omega
theorem sumB_flat:∀ l:List Sm,sumB l = sumZ (l.flatMap partsS)
  | [] => by simp only [sumB,List.flatMap_nil,sumZ]
  | s :: r => by simp only [sumB,List.flatMap_cons,sumZ_app,sumB_flat r]
theorem sumB_sz (l:List Sm):16384 < sumB l↔16384 < szB l := by
  rw [sumB_flat,szB_parts]
  have := sumZ_sz (l.flatMap partsS)
  omega
theorem anyB_flat:∀ l:List Sm,anyB l = anyD (l.flatMap partsS)
  | [] => rfl
  | s :: r => by
    have := anyB_flat r
    unfold anyB anyD at this ⊢
    rw [List.any_cons,this,List.flatMap_cons,List.any_append]
theorem anyB_dp (l:List Sm):anyB l = true↔60 < dpB l := by
  rw [anyB_flat,dpB_parts]
  unfold anyD
  rw [deep_any]
  constructor
  · rintro ⟨_,h⟩; omega
  · intro h
    refine ⟨fun e => ?_,by omega⟩
    rw [e] at h
    simp [dpL] at h
def conPr (l:List Sm):Con := fun k ds S => match k with
  | 33 => some (pE (β := Sm) ds S (fun s => gsl 15 Nd.row1 (partsS s)) (fun s => isS s ds []))
  | 34 => some (pE (β := Nd) ds S (fun b => .bool (deepB b 60)) (fun b => isN b ds [.int .i64 60]∧b.sm))
  | 11 => some (pE (β := Nd) ds S (fun b => .int .i64 (sizeN b)) (fun b => isN b ds []∧b.sm))
  | 35 => some (pA ds S (.bool (bodyV false l)) (wkL ds [gsl 34 Sm.row1 l,.bool false]))
  | 25 => some (pA ds S (.bool (outB l)) (wkL ds [gsl 34 Sm.row1 l]))
  | _ => none
theorem conPr_ok {l:List Sm} (hl:l.length ≤ maxB) (ho:∀ s ∈ l,s.ok) (hs:∀ s ∈ l,s.sm):ConOk Tryz.prog (conPr l) := by
  intro k ds S A hh
  unfold conPr at hh
  split at hh
  · injection hh with hh; subst hh
    exact pS_ok fun s e => CD.at_ (CD.wk (pa_ok s) e) _
  · injection hh with hh; subst hh
    exact pS_ok fun b ⟨e,hb⟩ => CD.at_ (CD.isN (de_ok b 60 hb (by unfold inI64; omega)) e) _
  · injection hh with hh; subst hh
    exact pS_ok fun b ⟨e,hb⟩ => CD.at_ (CD.wk (szs_ok b hb) e) _
  · injection hh with hh; subst hh
    exact pA_ok fun e => CD.at_ (CD.wk (bo_all l false hl ho hs) e) _
  · injection hh with hh; subst hh
    exact pA_ok fun e => CD.at_ (CD.wk (ou_ok l (maxB_le hl) hs) e) _
  · cases hh
noncomputable def Epr (l:List Sm):Senv := { EC (conPr l) 72 5 [6,8,10,12,16,18,19,20,21,25,26,27,28,38,40,41,42,43,47,48,49,50,59,62] (fun _ => ([],[])) with
  mg := fun _ => 2
  ann := fun b env S => match b with
    | 0 => some { slots := [20,4],keep := [0,1,3,18,19],α := Nat × Bool,st := fun y => ([.int .i64 y.1,.bool y.2],S),inv := fun y => y.1 ≤ l.length∧y.2 = anyB (l.take y.1),mu := fun y => l.length - y.1 }
    | 2 => match Ab.look env 25,Ab.look env 20,Ab.look env 4 with
      | .sl _ n _f _,.int _ i,.bool t => some { slots := [27,4],keep := [0,1,3,18,19,20,25,26],α := Nat × Bool,st := fun y => ([.int .i64 y.1,.bool y.2],S),inv := fun y => y.1 ≤ n∧y.2 = (t || anyD ((partsS (l.getD i.toNat default)).take y.1)),mu := fun y => n - y.1 }
      | _,_,_ => none
    | 4 => some { slots := [42,3],keep := [0,1,40,41],α := Nat × Int,st := fun y => ([.int .i64 y.1,.int .i64 y.2],S),inv := fun y => y.1 ≤ l.length∧y.2 = sumB (l.take y.1),mu := fun y => l.length - y.1 }
    | 6 => match Ab.look env 47,Ab.look env 42,Ab.look env 3 with
      | .sl _ n _f _,.int _ i,.int _ t => some { slots := [49,3],keep := [0,1,40,41,42,47,48],α := Nat × Int,st := fun y => ([.int .i64 y.1,.int .i64 y.2],S),inv := fun y => y.1 ≤ n∧y.2 = t + sumZ ((partsS (l.getD i.toNat default)).take y.1),mu := fun y => n - y.1 }
      | _,_,_ => none
    | _ => none }
noncomputable section
def yc1q21 (p0:List Sm):Int := rightP p0
def yc1q22 (p0:Nat) (p1:List Sm) (p2:Bool):Prop := p0 ≤ LN p1∧p2 = anyB (List.take p0 p1)
def yc1q23:Arr := DA
def yc1q24:Nd := Nd.mk Z0 Z0 Z0 [] Z0 Z0 yc1q23 [] [] Z0 Z0 Z0
def yc1q25:Sm := Sm.mk Z0 Z0 [] Z0 yc1q24 yc1q24
def yc1q26 (p0:List Sm) (p1:Nat):Sm := List.getD p0 p1 yc1q25
def yc1q27 (p0:List Sm) (p1:Nat):Nd := Sm.te (yc1q26 p0 p1)
def yc1q28 (p0:List Sm) (p1:Nat):Arr := Nd.va (yc1q27 p0 p1)
def yc1q29 (p0:List Sm) (p1:Nat):List Int := Arr.sh (yc1q28 p0 p1)
def yc1q30 (p0:List Sm) (p1:Nat):List Int := Arr.nu (yc1q28 p0 p1)
def yc1q31 (p0:List Sm) (p1:Nat):List Arr := Arr.it (yc1q28 p0 p1)
def yc1q32 (p0:List Sm) (p1:Nat):List Nd := Nd.ki (yc1q27 p0 p1)
def yc1q33 (p0:List Sm) (p1:Nat):List Sm := Nd.bo (yc1q27 p0 p1)
def yc1q34 (p0:List Sm) (p1:Nat):Nd := Sm.nd (yc1q26 p0 p1)
def yc1q35 (p0:List Sm) (p1:Nat):Arr := Nd.va (yc1q34 p0 p1)
def yc1q36 (p0:List Sm) (p1:Nat):List Int := Arr.sh (yc1q35 p0 p1)
def yc1q37 (p0:List Sm) (p1:Nat):List Int := Arr.nu (yc1q35 p0 p1)
def yc1q38 (p0:List Sm) (p1:Nat):List Arr := Arr.it (yc1q35 p0 p1)
def yc1q39 (p0:List Sm) (p1:Nat):List Nd := Nd.ki (yc1q34 p0 p1)
def yc1q40 (p0:List Sm) (p1:Nat):List Sm := Nd.bo (yc1q34 p0 p1)
def yc1q41 (p0:List Sm) (p1:Nat):List D := [ZI (Sm.kd (yc1q26 p0 p1)),ZI (Sm.at_ (yc1q26 p0 p1)),D.str (Sm.nm (yc1q26 p0 p1)),ZI (Sm.sl (yc1q26 p0 p1)),ZI (Nd.kd (yc1q27 p0 p1)),ZI (Nd.at_ (yc1q27 p0 p1)),ZI (Nd.cl (yc1q27 p0 p1)),D.str (Nd.tx (yc1q27 p0 p1)),ZI (Nd.pr (yc1q27 p0 p1)),ZI (Nd.op (yc1q27 p0 p1)),ZI (Arr.k (yc1q28 p0 p1)),SI (yc1q29 p0 p1),SI (yc1q30 p0 p1),D.sl N4 (LN (yc1q31 p0 p1)) (fun (i:Nat) => Arr.row (List.getD (yc1q31 p0 p1) i yc1q23)) Mode.any,D.sl (15:Nat) (LN (yc1q32 p0 p1)) (fun (i:Nat) => Nd.row (List.getD (yc1q32 p0 p1) i yc1q24)) Mode.any,D.sl (34:Nat) (LN (yc1q33 p0 p1)) (fun (i:Nat) => Sm.row (List.getD (yc1q33 p0 p1) i yc1q25)) Mode.any,ZI (Nd.de (yc1q27 p0 p1)),ZI (Nd.sl (yc1q27 p0 p1)),ZI (Nd.ss (yc1q27 p0 p1)),ZI (Nd.kd (yc1q34 p0 p1)),ZI (Nd.at_ (yc1q34 p0 p1)),ZI (Nd.cl (yc1q34 p0 p1)),D.str (Nd.tx (yc1q34 p0 p1)),ZI (Nd.pr (yc1q34 p0 p1)),ZI (Nd.op (yc1q34 p0 p1)),ZI (Arr.k (yc1q35 p0 p1)),SI (yc1q36 p0 p1),SI (yc1q37 p0 p1),D.sl N4 (LN (yc1q38 p0 p1)) (fun (i:Nat) => Arr.row (List.getD (yc1q38 p0 p1) i yc1q23)) Mode.any,D.sl (15:Nat) (LN (yc1q39 p0 p1)) (fun (i:Nat) => Nd.row (List.getD (yc1q39 p0 p1) i yc1q24)) Mode.any,D.sl (34:Nat) (LN (yc1q40 p0 p1)) (fun (i:Nat) => Sm.row (List.getD (yc1q40 p0 p1) i yc1q25)) Mode.any,ZI (Nd.de (yc1q34 p0 p1)),ZI (Nd.sl (yc1q34 p0 p1)),ZI (Nd.ss (yc1q34 p0 p1))]
def yc1q42 (p0:Nat) (p1:List Sm):Prop := SM p0∧((SM (LN p1)∧(∀ (i:Nat),i < LN p1→SM (yc1q41 p1 i))∧True)∧True)∧True
def yc1q43 (p0:Nat) (p1:List Sm):Prop := yc1q42 p0 p1∧True
def yc1q44 (p0:List Sm) (p1:Nat):Sm := List.getD p0 (Int.toNat (↑p1:Int)) yc1q25
def yc1q45 (p0:List Sm) (p1:Nat):Int := Sm.kd (yc1q44 p0 p1)
def yc1q46 (p0:List Sm) (p1:Nat):Int := Sm.at_ (yc1q44 p0 p1)
def yc1q47 (p0:List Sm) (p1:Nat):List UInt8 := Sm.nm (yc1q44 p0 p1)
def yc1q48 (p0:List Sm) (p1:Nat):Int := Sm.sl (yc1q44 p0 p1)
def yc1q49 (p0:List Sm) (p1:Nat):Nd := Sm.te (yc1q44 p0 p1)
def yc1q50 (p0:List Sm) (p1:Nat):Int := Nd.kd (yc1q49 p0 p1)
def yc1q51 (p0:List Sm) (p1:Nat):Int := Nd.at_ (yc1q49 p0 p1)
def yc1q52 (p0:List Sm) (p1:Nat):Int := Nd.cl (yc1q49 p0 p1)
def yc1q53 (p0:List Sm) (p1:Nat):List UInt8 := Nd.tx (yc1q49 p0 p1)
def yc1q54 (p0:List Sm) (p1:Nat):Int := Nd.pr (yc1q49 p0 p1)
def yc1q55 (p0:List Sm) (p1:Nat):Int := Nd.op (yc1q49 p0 p1)
def yc1q56 (p0:List Sm) (p1:Nat):Arr := Nd.va (yc1q49 p0 p1)
def yc1q57 (p0:List Sm) (p1:Nat):Int := Arr.k (yc1q56 p0 p1)
def yc1q58 (p0:List Sm) (p1:Nat):List Int := Arr.sh (yc1q56 p0 p1)
def yc1q59 (p0:List Sm) (p1:Nat):Nat := LN (yc1q58 p0 p1)
def yc1q60 (p0:List Sm) (p1 p2:Nat):List D := [ZI (GI (yc1q58 p0 p1) p2)]
def yc1q61 (p0:List Sm) (p1:Nat):List Int := Arr.nu (yc1q56 p0 p1)
def yc1q62 (p0:List Sm) (p1:Nat):Nat := LN (yc1q61 p0 p1)
def yc1q63 (p0:List Sm) (p1 p2:Nat):List D := [ZI (GI (yc1q61 p0 p1) p2)]
def yc1q64 (p0:List Sm) (p1:Nat):List Arr := Arr.it (yc1q56 p0 p1)
def yc1q65 (p0:List Sm) (p1:Nat):Nat := LN (yc1q64 p0 p1)
def yc1q66 (p0:List Sm) (p1 p2:Nat):List D := Arr.row (List.getD (yc1q64 p0 p1) p2 yc1q23)
def yc1q67 (p0:List Sm) (p1:Nat):List Nd := Nd.ki (yc1q49 p0 p1)
def yc1q68 (p0:List Sm) (p1:Nat):Nat := LN (yc1q67 p0 p1)
def yc1q69 (p0:List Sm) (p1 p2:Nat):List D := Nd.row (List.getD (yc1q67 p0 p1) p2 yc1q24)
def yc1q70 (p0:List Sm) (p1:Nat):List Sm := Nd.bo (yc1q49 p0 p1)
def yc1q71 (p0:List Sm) (p1:Nat):Nat := LN (yc1q70 p0 p1)
def yc1q72 (p0:List Sm) (p1 p2:Nat):List D := Sm.row (List.getD (yc1q70 p0 p1) p2 yc1q25)
def yc1q73 (p0:List Sm) (p1:Nat):Int := Nd.de (yc1q49 p0 p1)
def yc1q74 (p0:List Sm) (p1:Nat):Int := Nd.sl (yc1q49 p0 p1)
def yc1q75 (p0:List Sm) (p1:Nat):Int := Nd.ss (yc1q49 p0 p1)
def yc1q76 (p0:List Sm) (p1:Nat):Nd := Sm.nd (yc1q44 p0 p1)
def yc1q77 (p0:List Sm) (p1:Nat):Int := Nd.kd (yc1q76 p0 p1)
def yc1q78 (p0:List Sm) (p1:Nat):Int := Nd.at_ (yc1q76 p0 p1)
def yc1q79 (p0:List Sm) (p1:Nat):Int := Nd.cl (yc1q76 p0 p1)
def yc1q80 (p0:List Sm) (p1:Nat):List UInt8 := Nd.tx (yc1q76 p0 p1)
def yc1q81 (p0:List Sm) (p1:Nat):Int := Nd.pr (yc1q76 p0 p1)
def yc1q82 (p0:List Sm) (p1:Nat):Int := Nd.op (yc1q76 p0 p1)
def yc1q83 (p0:List Sm) (p1:Nat):Arr := Nd.va (yc1q76 p0 p1)
def yc1q84 (p0:List Sm) (p1:Nat):Int := Arr.k (yc1q83 p0 p1)
def yc1q85 (p0:List Sm) (p1:Nat):List Int := Arr.sh (yc1q83 p0 p1)
def yc1q86 (p0:List Sm) (p1:Nat):Nat := LN (yc1q85 p0 p1)
def yc1q87 (p0:List Sm) (p1 p2:Nat):List D := [ZI (GI (yc1q85 p0 p1) p2)]
def yc1q88 (p0:List Sm) (p1:Nat):List Int := Arr.nu (yc1q83 p0 p1)
def yc1q89 (p0:List Sm) (p1:Nat):Nat := LN (yc1q88 p0 p1)
def yc1q90 (p0:List Sm) (p1 p2:Nat):List D := [ZI (GI (yc1q88 p0 p1) p2)]
def yc1q91 (p0:List Sm) (p1:Nat):List Arr := Arr.it (yc1q83 p0 p1)
def yc1q92 (p0:List Sm) (p1:Nat):Nat := LN (yc1q91 p0 p1)
def yc1q93 (p0:List Sm) (p1 p2:Nat):List D := Arr.row (List.getD (yc1q91 p0 p1) p2 yc1q23)
def yc1q94 (p0:List Sm) (p1:Nat):List Nd := Nd.ki (yc1q76 p0 p1)
def yc1q95 (p0:List Sm) (p1:Nat):Nat := LN (yc1q94 p0 p1)
def yc1q96 (p0:List Sm) (p1 p2:Nat):List D := Nd.row (List.getD (yc1q94 p0 p1) p2 yc1q24)
def yc1q97 (p0:List Sm) (p1:Nat):List Sm := Nd.bo (yc1q76 p0 p1)
def yc1q98 (p0:List Sm) (p1:Nat):Nat := LN (yc1q97 p0 p1)
def yc1q99 (p0:List Sm) (p1 p2:Nat):List D := Sm.row (List.getD (yc1q97 p0 p1) p2 yc1q25)
def yc1q100 (p0:List Sm) (p1:Nat):Int := Nd.de (yc1q76 p0 p1)
def yc1q101 (p0:List Sm) (p1:Nat):Int := Nd.sl (yc1q76 p0 p1)
def yc1q102 (p0:List Sm) (p1:Nat):Int := Nd.ss (yc1q76 p0 p1)
def yc1q103 (p0:Sm) (p1:List Sm) (p2:Nat):Prop := isS p0 [D.agg [ZI (yc1q45 p1 p2),ZI (yc1q46 p1 p2),D.str (yc1q47 p1 p2),ZI (yc1q48 p1 p2),ZI (yc1q50 p1 p2),ZI (yc1q51 p1 p2),ZI (yc1q52 p1 p2),D.str (yc1q53 p1 p2),ZI (yc1q54 p1 p2),ZI (yc1q55 p1 p2),ZI (yc1q57 p1 p2),D.sl N1 (yc1q59 p1 p2) (fun (i:Nat) => yc1q60 p1 p2 i) Mode.any,D.sl N1 (yc1q62 p1 p2) (fun (i:Nat) => yc1q63 p1 p2 i) Mode.any,D.sl N4 (yc1q65 p1 p2) (fun (i:Nat) => yc1q66 p1 p2 i) Mode.any,D.sl (15:Nat) (yc1q68 p1 p2) (fun (i:Nat) => yc1q69 p1 p2 i) Mode.any,D.sl (34:Nat) (yc1q71 p1 p2) (fun (i:Nat) => yc1q72 p1 p2 i) Mode.any,ZI (yc1q73 p1 p2),ZI (yc1q74 p1 p2),ZI (yc1q75 p1 p2),ZI (yc1q77 p1 p2),ZI (yc1q78 p1 p2),ZI (yc1q79 p1 p2),D.str (yc1q80 p1 p2),ZI (yc1q81 p1 p2),ZI (yc1q82 p1 p2),ZI (yc1q84 p1 p2),D.sl N1 (yc1q86 p1 p2) (fun (i:Nat) => yc1q87 p1 p2 i) Mode.any,D.sl N1 (yc1q89 p1 p2) (fun (i:Nat) => yc1q90 p1 p2 i) Mode.any,D.sl N4 (yc1q92 p1 p2) (fun (i:Nat) => yc1q93 p1 p2 i) Mode.any,D.sl (15:Nat) (yc1q95 p1 p2) (fun (i:Nat) => yc1q96 p1 p2 i) Mode.any,D.sl (34:Nat) (yc1q98 p1 p2) (fun (i:Nat) => yc1q99 p1 p2 i) Mode.any,ZI (yc1q100 p1 p2),ZI (yc1q101 p1 p2),ZI (yc1q102 p1 p2)]] []
def yc1q104 (p0:Sm):List Nd := partsS p0
def yc1q105 (p0:Sm):Nat := LN (yc1q104 p0)
def yc1q106 (p0:Nat) (p1:List Sm) (p2:Nat):List Nd := List.take p0 (partsS (yc1q44 p1 p2))
def yc1q107 (p0:Nat) (p1:Sm) (p2 p3:Bool) (p4:List Sm) (p5:Nat):Prop := p0 ≤ yc1q105 p1∧p2 = (p3 || anyD (yc1q106 p0 p4 p5))
def yc1q108 (p0:Nat) (p1:List Sm) (p2 p3:Nat):Prop := (SM p0∧(SM (yc1q45 p1 p2)∧SM (yc1q46 p1 p2)∧SM (yc1q47 p1 p2)∧SM (yc1q48 p1 p2)∧SM (yc1q50 p1 p2)∧SM (yc1q51 p1 p2)∧SM (yc1q52 p1 p2)∧SM (yc1q53 p1 p2)∧SM (yc1q54 p1 p2)∧SM (yc1q55 p1 p2)∧SM (yc1q57 p1 p2)∧(SM (yc1q59 p1 p2)∧(∀ (i:Nat),i < yc1q59 p1 p2→SM (yc1q60 p1 p2 i))∧True)∧(SM (yc1q62 p1 p2)∧(∀ (i:Nat),i < yc1q62 p1 p2→SM (yc1q63 p1 p2 i))∧True)∧(SM (yc1q65 p1 p2)∧(∀ (i:Nat),i < yc1q65 p1 p2→SM (yc1q66 p1 p2 i))∧True)∧(SM (yc1q68 p1 p2)∧(∀ (i:Nat),i < yc1q68 p1 p2→SM (yc1q69 p1 p2 i))∧True)∧(SM (yc1q71 p1 p2)∧(∀ (i:Nat),i < yc1q71 p1 p2→SM (yc1q72 p1 p2 i))∧True)∧SM (yc1q73 p1 p2)∧SM (yc1q74 p1 p2)∧SM (yc1q75 p1 p2)∧SM (yc1q77 p1 p2)∧SM (yc1q78 p1 p2)∧SM (yc1q79 p1 p2)∧SM (yc1q80 p1 p2)∧SM (yc1q81 p1 p2)∧SM (yc1q82 p1 p2)∧SM (yc1q84 p1 p2)∧(SM (yc1q86 p1 p2)∧(∀ (i:Nat),i < yc1q86 p1 p2→SM (yc1q87 p1 p2 i))∧True)∧(SM (yc1q89 p1 p2)∧(∀ (i:Nat),i < yc1q89 p1 p2→SM (yc1q90 p1 p2 i))∧True)∧(SM (yc1q92 p1 p2)∧(∀ (i:Nat),i < yc1q92 p1 p2→SM (yc1q93 p1 p2 i))∧True)∧(SM (yc1q95 p1 p2)∧(∀ (i:Nat),i < yc1q95 p1 p2→SM (yc1q96 p1 p2 i))∧True)∧(SM (yc1q98 p1 p2)∧(∀ (i:Nat),i < yc1q98 p1 p2→SM (yc1q99 p1 p2 i))∧True)∧SM (yc1q100 p1 p2)∧SM (yc1q101 p1 p2)∧SM (yc1q102 p1 p2)∧True)∧yc1q42 p3 p1)∧True
def yc1q109 (p0:Sm):Int := (NI (yc1q105 p0))
def yc1q110 (p0:Nat) (p1:Sm):Bool := decide ((↑p0:Int) < yc1q109 p1)
def yc1q111 (p0:List Sm):D := D.sl (34:Nat) (LN p0) (fun (i:Nat) => yc1q41 p0 i) Mode.any
def yc1q112 (p0:List Sm):List D := [yc1q111 p0]
def yc1q113 (p0:List Sm):D := D.agg (yc1q112 p0)
def yc1q114 (p0:List Sm):Prop := SM (yc1q113 p0)
def yc1q115 (p0:Nat):Prop := SM (D.ref N0 p0 N0)
def yc1q116 (p0:List Sm):Prop := SM (yc1q111 p0)
def yc1q117 (p0:Sm):D := D.sl (15:Nat) (yc1q105 p0) (fun (i:Nat) => Nd.row1 (List.getD (yc1q104 p0) i yc1q24)) Mode.any
def yc1q118 (p0:List Sm) (p1:Nat) (p2:Sm):Prop := yc1q116 p0∧SM (ZI (LI p0))∧SM (ZI (↑p1:Int))∧SM (yc1q117 p2)∧SM (ZI (yc1q109 p2))∧True
def yc1q119 (p0:List Sm) (p1 p2:Nat) (p3:Sm):Prop := yc1q114 p0∧yc1q115 p1∧SM (ZI Z0)∧yc1q118 p0 p2 p3
def yc1q120 (p0:Sm) (p1 p2:Nat):Prop := yc1q105 p0 - p1 < yc1q105 p0 - p2
def yc1q121 (p0 p1:Nat):Prop := IntKind.wrap IntKind.i64 ((↑p0:Int) + Z1) = (↑p1:Int)
def yc1q122 (p0:Sm) (p1:Nat):Nd := List.getD (yc1q104 p0) (Int.toNat (↑p1:Int)) yc1q24
def yc1q123 (p0:Sm) (p1:Nat):Arr := Nd.va (yc1q122 p0 p1)
def yc1q124 (p0:Sm) (p1:Nat):List Int := Arr.sh (yc1q123 p0 p1)
def yc1q125 (p0:Sm) (p1:Nat):List Int := Arr.nu (yc1q123 p0 p1)
def yc1q126 (p0:Sm) (p1:Nat):List Arr := Arr.it (yc1q123 p0 p1)
def yc1q127 (p0:Sm) (p1:Nat):List Nd := Nd.ki (yc1q122 p0 p1)
def yc1q128 (p0:Sm) (p1:Nat):List Sm := Nd.bo (yc1q122 p0 p1)
def yc1q129 (p0:Sm) (p1:Nat):D := D.agg [ZI (Nd.kd (yc1q122 p0 p1)),ZI (Nd.at_ (yc1q122 p0 p1)),ZI (Nd.cl (yc1q122 p0 p1)),D.str (Nd.tx (yc1q122 p0 p1)),ZI (Nd.pr (yc1q122 p0 p1)),ZI (Nd.op (yc1q122 p0 p1)),ZI (Arr.k (yc1q123 p0 p1)),SI (yc1q124 p0 p1),SI (yc1q125 p0 p1),D.sl N4 (LN (yc1q126 p0 p1)) (fun (i:Nat) => Arr.row (List.getD (yc1q126 p0 p1) i yc1q23)) Mode.any,D.sl (15:Nat) (LN (yc1q127 p0 p1)) (fun (i:Nat) => Nd.row (List.getD (yc1q127 p0 p1) i yc1q24)) Mode.any,D.sl (34:Nat) (LN (yc1q128 p0 p1)) (fun (i:Nat) => Sm.row (List.getD (yc1q128 p0 p1) i yc1q25)) Mode.any,ZI (Nd.de (yc1q122 p0 p1)),ZI (Nd.sl (yc1q122 p0 p1)),ZI (Nd.ss (yc1q122 p0 p1))]
def yc1q130 (p0:List Sm):Prop := yc1q116 p0∧SM (ZI (LI p0))∧True
def yc1q131 (p0:Nat) (p1:List Sm) (p2:Int):Prop := p0 ≤ LN p1∧p2 = sumB (List.take p0 p1)
def yc1q132 (p0:Nat) (p1:Sm) (p2 p3:Int) (p4:List Sm) (p5:Nat):Prop := p0 ≤ yc1q105 p1∧p2 = p3 + sumZ (yc1q106 p0 p4 p5)
def yc1q133 (p0:List Sm):List D := [yc1q111 p0,D.bool false]
def yc1q134 (p0:List Sm):Prop := True∧∃ (_y:Unit),True∧(11:Int) = yc1q21 p0∧True∧True
end
theorem pr_ok (l:List Sm) (hl:l.length ≤ maxB) (ho:∀ s ∈ l,s.ok) (hs:∀ s ∈ l,s.sm):CD 15 [.agg [gsl 34 Sm.row1 l]] (.int .i64 (rightP l)) := by
  refine con_of (A := sC _ _) (x := ()) (E := Epr l) (eOk (conPr_ok hl ho hs) rfl) Tryz.func15 rfl (by kernel_rfl) rfl (by simp [sC,Epr,EC,E0]) ?_
  refine vc_eq (T :=
    ∀ (x:Nat),True→SM x∧ifB (decide ((1000:Int) < (LI l))) (True∧∃ (y:Unit),True∧(2:Int) = yc1q21 l∧True∧True) (SM x∧(∃ (x_1:Nat × Bool),yc1q22 x_1.1 l x_1.2∧(Z0 = (NI x_1.1)∧false = x_1.2∧True)∧yc1q43 x l)∧∀ (x_1:Nat × Bool),yc1q22 x_1.1 l x_1.2→ifB (decide ((NI x_1.1) < (LI l))) (side (Z0 ≤ (NI x_1.1)∧(NI x_1.1) < (LI l)) (∀ (x_2:Nat),x ≠ x_2∧True→SM x_2∧SM x_2∧∃ (x_3:Sm),yc1q103 x_3 l x_1.1∧∀ (y:Unit),True→(∃ (x_4:Nat × Bool),yc1q107 x_4.1 x_3 x_4.2 x_1.2 l x_1.1∧(Z0 = (NI x_4.1)∧x_1.2 = x_4.2∧True)∧yc1q108 x_2 l x_1.1 x)∧∀ (x_4:Nat × Bool),yc1q107 x_4.1 x_3 x_4.2 x_1.2 l x_1.1→ifB (yc1q110 x_4.1 x_3) (side (Z0 ≤ (NI x_4.1)∧(NI x_4.1) < yc1q109 x_3) (∀ (x_5:Nat),x_2 ≠ x_5∧x ≠ x_5∧True→SM x_5∧ifB x_4.2 (yc1q119 l x x_1.1 x_3∧∃ (y:Nat × Bool),yc1q107 y.1 x_3 y.2 x_1.2 l x_1.1∧yc1q120 x_3 y.1 x_4.1∧(yc1q121 x_4.1 y.1∧true = y.2∧True)∧yc1q108 x_2 l x_1.1 x) (SM x_5∧∃ (x_6:Nd),(isN x_6 [yc1q129 x_3 x_4.1,ZI (60:Int)] [ZI (60:Int)]∧Nd.sm x_6)∧∀ (y:Unit),True→yc1q119 l x x_1.1 x_3∧∃ (y:Nat × Bool),yc1q107 y.1 x_3 y.2 x_1.2 l x_1.1∧yc1q120 x_3 y.1 x_4.1∧(yc1q121 x_4.1 y.1∧deepB x_6 (60:Int) = y.2∧True)∧yc1q108 x_2 l x_1.1 x))) ((yc1q114 l∧yc1q115 x∧SM (ZI Z0)∧yc1q130 l)∧∃ (y:Nat × Bool),yc1q22 y.1 l y.2∧LN l - y.1 < LN l - x_1.1∧(yc1q121 x_1.1 y.1∧x_4.2 = y.2∧True)∧yc1q43 x l))) (ifB x_1.2 (True∧∃ (y:Unit),True∧(8:Int) = yc1q21 l∧True∧True) (SM x∧(∃ (x_2:Nat × Int),yc1q131 x_2.1 l x_2.2∧(Z0 = (NI x_2.1)∧Z0 = x_2.2∧True)∧yc1q43 x l)∧∀ (x_2:Nat × Int),yc1q131 x_2.1 l x_2.2→ifB (decide ((NI x_2.1) < (LI l))) (side (Z0 ≤ (NI x_2.1)∧(NI x_2.1) < (LI l)) (∀ (x_3:Nat),x ≠ x_3∧True→SM x_3∧SM x_3∧∃ (x_4:Sm),yc1q103 x_4 l x_2.1∧∀ (y:Unit),True→(∃ (x_5:Nat × Int),yc1q132 x_5.1 x_4 x_5.2 x_2.2 l x_2.1∧(Z0 = (NI x_5.1)∧x_2.2 = x_5.2∧True)∧yc1q108 x_3 l x_2.1 x)∧∀ (x_5:Nat × Int),yc1q132 x_5.1 x_4 x_5.2 x_2.2 l x_2.1→ifB (yc1q110 x_5.1 x_4) (side (Z0 ≤ (NI x_5.1)∧(NI x_5.1) < yc1q109 x_4) (∀ (x_6:Nat),x_3 ≠ x_6∧x ≠ x_6∧True→SM x_6∧SM x_6∧∃ (x_7:Nd),(isN x_7 [yc1q129 x_4 x_5.1] []∧Nd.sm x_7)∧∀ (y:Unit),True→(yc1q114 l∧yc1q115 x∧yc1q118 l x_2.1 x_4)∧∃ (y:Nat × Int),yc1q132 y.1 x_4 y.2 x_2.2 l x_2.1∧yc1q120 x_4 y.1 x_5.1∧(yc1q121 x_5.1 y.1∧IntKind.wrap IntKind.i64 (x_5.2 + sizeN x_7) = y.2∧True)∧yc1q108 x_3 l x_2.1 x)) ((yc1q114 l∧yc1q115 x∧yc1q130 l)∧∃ (y:Nat × Int),yc1q131 y.1 l y.2∧LN l - y.1 < LN l - x_2.1∧(yc1q121 x_2.1 y.1∧x_5.2 = y.2∧True)∧yc1q43 x l))) (ifB (decide ((16384:Int) < x_2.2)) (True∧∃ (y:Unit),True∧(21:Int) = yc1q21 l∧True∧True) (SM x∧∃ (x_3:Unit),wkL (yc1q133 l) (yc1q133 l)∧∀ (y:Unit),True→ifB (!bodyV false l) (yc1q134 l) (SM x∧∃ (x:Unit),wkL (yc1q112 l) (yc1q112 l)∧∀ (y:Unit),True→ifB (outB l) (yc1q134 l) (True∧∃ (y:Unit),True∧Z0 = yc1q21 l∧True∧True)))))))) (by kernel_rfl) ?_
  delta DA GI LI LN N0 N1 N4 NI SI SM Z0 Z1 ZI yc1q100 yc1q101 yc1q102 yc1q103 yc1q104 yc1q105 yc1q106 yc1q107 yc1q108 yc1q109 yc1q110 yc1q111 yc1q112 yc1q113 yc1q114 yc1q115 yc1q116 yc1q117 yc1q118 yc1q119 yc1q120 yc1q121 yc1q122 yc1q123 yc1q124 yc1q125 yc1q126 yc1q127 yc1q128 yc1q129 yc1q130 yc1q131 yc1q132 yc1q133 yc1q134 yc1q21 yc1q22 yc1q23 yc1q24 yc1q25 yc1q26 yc1q27 yc1q28 yc1q29 yc1q30 yc1q31 yc1q32 yc1q33 yc1q34 yc1q35 yc1q36 yc1q37 yc1q38 yc1q39 yc1q40 yc1q41 yc1q42 yc1q43 yc1q44 yc1q45 yc1q46 yc1q47 yc1q48 yc1q49 yc1q50 yc1q51 yc1q52 yc1q53 yc1q54 yc1q55 yc1q56 yc1q57 yc1q58 yc1q59 yc1q60 yc1q61 yc1q62 yc1q63 yc1q64 yc1q65 yc1q66 yc1q67 yc1q68 yc1q69 yc1q70 yc1q71 yc1q72 yc1q73 yc1q74 yc1q75 yc1q76 yc1q77 yc1q78 yc1q79 yc1q80 yc1q81 yc1q82 yc1q83 yc1q84 yc1q85 yc1q86 yc1q87 yc1q88 yc1q89 yc1q90 yc1q91 yc1q92 yc1q93 yc1q94 yc1q95 yc1q96 yc1q97 yc1q98 yc1q99
  have dn:(default:Nd) = Nd.mk 0 0 0 [] 0 0 (Arr.mk 0 [] [] []) [] [] 0 0 0 := rfl
  have dm:(default:Sm) = Sm.mk 0 0 [] 0 (Nd.mk 0 0 0 [] 0 0 (Arr.mk 0 [] [] []) [] [] 0 0 0) (Nd.mk 0 0 0 [] 0 0 (Arr.mk 0 [] [] []) [] [] 0 0 0) := rfl
  try simp only [← dm]
  try simp only [← dn]
  simp only [ne_eq,implies_true,Int.toNat_natCast,ifB_iff,side_iff,decide_eq_true_eq,decide_eq_false_iff_not,true_and,and_true,Bool.not_eq_true',Bool.not_eq_false',exists_const,forall_const,Prod.exists]
  unfold maxB at hl
  have hr:rightP l = if 1000 < l.length then 2 else if 60 < dpB l then 8 else if 16384 < szB l then 21 else if (bodyV false l && !outB l) = true then 0 else 11 := rfl
  rw [hr]
  intro x
  refine ⟨fun h => by rw [if_pos (by omega)],fun h => ?_⟩
  rw [if_neg (by omega)]
  refine ⟨⟨0,false,⟨Nat.zero_le _,rfl⟩,rfl,rfl⟩,?_⟩
  rintro ⟨i,t⟩ ⟨hi,ht⟩
  simp only at hi ht ⊢
  refine ⟨fun hlt => ⟨⟨by omega,hlt⟩,fun z _ => ?_⟩,fun hge => ?_⟩
  · have hlt':i < l.length := by omega
    have hsm := sm_parts (hs _ (sm_getD hlt'))
    have h2 := parts_two (l.getD i default)
    have hta := anyB_take hlt'
    refine ⟨l.getD i default,sm_self _ _,⟨0,t,⟨Nat.zero_le _,by simp [anyD]⟩,rfl,rfl⟩,?_⟩
    rintro ⟨j,u⟩ ⟨hj,hu⟩
    simp only at hj hu ⊢
    refine ⟨fun hl2 => ⟨⟨by omega,hl2⟩,fun _ _ => ?_⟩,fun hg2 => ?_⟩
    · have hl2':j < (partsS (l.getD i default)).length := by omega
      have htd := anyD_take hl2'
      have w:IntKind.i64.wrap ((j:Int) + 1) = ((j + 1:Nat):Int) := by rw [wrap_i64' (by omega) (by omega)]; rfl
      refine ⟨fun e => ⟨j + 1,true,⟨hl2',?_⟩,by omega,w,rfl⟩,fun e => ⟨(partsS (l.getD i default)).getD j default,⟨nd_self _ _,hsm _ (nd_getD hl2')⟩,j + 1,_,⟨hl2',?_⟩,by omega,w,rfl⟩⟩
      · rw [htd,← Bool.or_assoc,← hu,e]; rfl
      · rw [htd,← Bool.or_assoc,← hu,e]; rfl
    · have e:j = (partsS (l.getD i default)).length := by omega
      refine ⟨i + 1,u,⟨hlt',?_⟩,by omega,by rw [wrap_i64' (by omega) (by omega)]; rfl,rfl⟩
      rw [hta,← ht,hu,e,List.take_length]
  · have e:i = l.length := by omega
    rw [e,List.take_length] at ht
    have hdp := anyB_dp l
    rw [← ht] at hdp
    refine ⟨fun h3 => by rw [if_pos (hdp.1 h3)],fun h3 => ?_⟩
    rw [if_neg (fun h4 => by rw [hdp.2 h4] at h3; cases h3)]
    refine ⟨⟨0,0,⟨Nat.zero_le _,rfl⟩,rfl,rfl⟩,?_⟩
    rintro ⟨k,c⟩ ⟨hk,hc⟩
    simp only at hk hc ⊢
    have hb := sumB_le (l.take k)
    rw [List.length_take] at hb
    refine ⟨fun hlt => ⟨⟨by omega,hlt⟩,fun z _ => ?_⟩,fun hge => ?_⟩
    · have hlt':k < l.length := by omega
      have hsm := sm_parts (hs _ (sm_getD hlt'))
      have h2 := parts_two (l.getD k default)
      have hta := sumB_take hlt'
      refine ⟨l.getD k default,sm_self _ _,⟨0,c,⟨Nat.zero_le _,by simp [sumZ]⟩,rfl,rfl⟩,?_⟩
      rintro ⟨j,u⟩ ⟨hj,hu⟩
      simp only at hj hu ⊢
      refine ⟨fun hl2 => ⟨⟨by omega,hl2⟩,fun _ _ => ?_⟩,fun hg2 => ?_⟩
      · have hl2':j < (partsS (l.getD k default)).length := by omega
        have htd := sumZ_take hl2'
        have hz := sumZ_le ((partsS (l.getD k default)).take j)
        rw [List.length_take] at hz
        have hs1 := sizeN_le ((partsS (l.getD k default)).getD j default)
        have w:IntKind.i64.wrap ((j:Int) + 1) = ((j + 1:Nat):Int) := by rw [wrap_i64' (by omega) (by omega)]; rfl
        have w2:IntKind.i64.wrap (u + sizeN ((partsS (l.getD k default)).getD j default)) = u + sizeN ((partsS (l.getD k default)).getD j default) := wrap_i64' (by omega) (by omega)
        refine ⟨(partsS (l.getD k default)).getD j default,⟨nd_self _ _,hsm _ (nd_getD hl2')⟩,j + 1,u + sizeN ((partsS (l.getD k default)).getD j default),⟨hl2',?_⟩,by omega,w,w2⟩
        rw [htd,hu]
        omega
      · have e:j = (partsS (l.getD k default)).length := by omega
        refine ⟨k + 1,u,⟨hlt',?_⟩,by omega,by rw [wrap_i64' (by omega) (by omega)]; rfl,rfl⟩
        rw [hta,← hc,hu,e,List.take_length]
    · have e:k = l.length := by omega
      rw [e,List.take_length] at hc
      have hsz := sumB_sz l
      rw [← hc] at hsz
      refine ⟨fun h4 => by rw [if_pos (hsz.1 h4)],fun h4 => ?_⟩
      rw [if_neg (fun h5 => h4 (hsz.2 h5))]
      exact ⟨wkL_refl _,fun h5 => by rw [h5]; rfl,fun h5 => ⟨wkL_refl _,fun h6 => by rw [h5,h6]; rfl,fun h6 => by rw [h5,h6]; rfl⟩⟩
end Go.Proofs.YtjnifeedbgefpaaGreatDoor
namespace Go.Proofs.YtjnifeedbgefpaaGreatDoor
open Go Go.Ab
set_option maxRecDepth 100000
def _root_.Go.Ab.cellsO (os:List (Nat × Nat × AObj)) (k:Nat):List D := match getO os k with
  | some (_,.cells ds) => ds
  | _ => []
theorem ACalls.wkEnd {P:Program} {k:FuncId} {ds:List D} {S:St} {R R':AEnd→St→Prop} (h:ACalls P k ds S R) (hr:∀ r S',R r S'→∃ r',(∀ C e,RepEnd C r e→RepEnd C r' e)∧R' r' S'):ACalls P k ds S R' :=
  ⟨h.1,fun C F args w ha hs => (h.2 C F args w ha hs).mono fun _ _ ⟨C',_r,S',h1,h2,h3,h4⟩ => let ⟨r',q0,q2⟩ := hr _ _ h4; ⟨C',r',S',h1,h2,q0 _ _ h3,q2⟩⟩
theorem row1_row (a:Arr):wkL a.row1 a.row := by
  cases a with
  | mk k s n is =>
    simp only [Arr.row,Arr.row1,Arr.k,Arr.sh,Arr.nu,Arr.it,gsl,isl,wkL,wkD,weakD,chk_iff]
    refine ⟨⟨by simp [kEq],trivial⟩,⟨by simp,trivial,fun i _ => by simp [kEq],by simp [weakM]⟩,⟨by simp,trivial,fun i _ => by simp [kEq],by simp [weakM]⟩,⟨by simp,by simp [rowsL_map],fun i hi => ?_,by simp [weakM]⟩,trivial⟩
    have:(rowsL is).getD i [] = (is.getD i default).row := by
      rw [rowsL_map]; simp [List.getD_eq_getElem?_getD,hi]
    rw [this]
    exact wkL_refl _
theorem form_len {k:Int} {s:List Int} {nn ni:Nat} (h:formS k s nn ni = 0):s.length ≤ 8 := by
  unfold formS at h
  by_cases hk:k = 1∨k = 2∨k = 3
  · rw [if_pos hk] at h
    by_cases hd:dimsS s ≠ 0
    · rw [if_pos hd] at h; exact (hd h).elim
    · have hd:dimsS s = 0 := by simpa using hd
      unfold dimsS at hd
      by_cases h8:8 < s.length
      · rw [if_pos h8] at hd; omega
      · omega
  · rw [if_neg hk] at h; omega
def _root_.Go.Ab.refKey:D→Nat
  | .ref k _ _ => k
  | _ => 0
def _root_.Go.Ab.vkey (os:List (Nat × Nat × AObj)) (k:Nat):Nat := match cellsO os k with
  | [_,_,_,.vs kv _ _ _ _] => kv
  | _ => 0
def zrow:List D := [.int .i64 0,.sl 1 0 (fun _ => []) .nil,.sl 1 0 (fun _ => []) .nil,.sl 1 0 (fun _ => []) .nil]
def clR (its:List Arr) (i j:Nat):List D := match Nat.blt j i with
  | true => (its.getD j default).row1
  | false => zrow
def sCl (row row':Arr→List D) (q:Arr→Prop):FnSpec where
  β := Arr
  α := Unit
  args := fun a => [.agg (row a)]
  st := fun _ => ⟨[],[]⟩
  pre := q
  post := fun _ _ => True
  res := fun a _ => .ret (.agg (row' a))
  out := fun _ _ => ⟨[],[]⟩
def conCl (its:List Arr):Con := fun k _ _ => match k with
  | 139 => some (sCl Arr.row1 Arr.row1 (fun b => b ∈ its))
  | _ => none
theorem clR_lt {its:List Arr} {i j:Nat} (h:j < i):clR its i j = (its.getD j default).row1 := by
  unfold clR
  have:Nat.blt j i = true := by simpa using h
  rw [this]
theorem clR_ge {its:List Arr} {i j:Nat} (h:¬ j < i):clR its i j = zrow := by
  unfold clR
  cases hb:Nat.blt j i with
  | false => rfl
  | true => exact (h (by simpa using hb)).elim
noncomputable def Ecl (a:Arr):Senv := { EC (conCl a.it) 47 6 [32,33,34,35] (fun id => match id with | 1 => ([0,1,2,3,4,6,7,8,10,11,12,5,9,13,14,15,16],[5,9,13,15,16]) | 7 => ([0,1,2,3,4,5,6],[4,6]) | _ => ([],[])) with
  gz := fun r => match r with
    | 9 => [.cell 17 1,.cell 17 2,.cell 17 3]
    | _ => []
  cut := fun id _ S => match id with
    | 1 => some { slots := [3],keep := [],α := (Nat × Nat) × Nat × Nat,st := fun y => ([.ref 17 y.2.2 0],⟨[(17,y.2.2,.cells [.int .i64 a.k,.vs 7 y.1.1 a.sh.length a.sh.length 1,.vs 11 y.1.2 a.nu.length a.nu.length 1,.vs 15 y.2.1 a.it.length a.it.length 4]),(15,y.2.1,.vec 4 a.it.length a.it.length (clR a.it 0)),(11,y.1.2,.vec 1 a.nu.length a.nu.length (fun _ => [.int .i64 0])),(7,y.1.1,.vec 1 a.sh.length a.sh.length (fun _ => [.int .i64 0]))] ++ S.objs,[]⟩),inv := fun _ => True,mu := fun _ => 0 }
    | _ => none
  ann := fun b env S => match b with
    | 0 => some { slots := [34],keep := [1,2,3,32,33],α := Nat,st := fun i => ([.int .i64 i],⟨setO S.objs (vkey S.objs (refKey (Ab.look env 3))) (.vec 4 a.it.length a.it.length (clR a.it i)),S.toks⟩),inv := fun i => i ≤ a.it.length,mu := fun i => a.it.length - i }
    | _ => none }
noncomputable section
def cl1q0 (p0:Arr):Nat := LN (Arr.sh p0)
def cl1q1 (p0:Arr):Int := (NI (cl1q0 p0))
def cl1q2 (p0:Arr):Int := (8:Int) * cl1q1 p0
def cl1q3 (p0:Arr):List Arr := Arr.it p0
def cl1q4 (p0:Arr):Nat := LN (cl1q3 p0)
def cl1q5:Arr := DA
def cl1q6 (p0:Arr) (p1:Nat):Arr := List.getD (cl1q3 p0) p1 cl1q5
def cl1q7 (p0:Arr) (p1:Nat):List Int := Arr.sh (cl1q6 p0 p1)
def cl1q8 (p0:Arr) (p1:Nat):List Int := Arr.nu (cl1q6 p0 p1)
def cl1q9 (p0:Arr) (p1:Nat):List Arr := Arr.it (cl1q6 p0 p1)
def cl1q10 (p0:Arr) (p1:Nat):List D := [ZI (Arr.k (cl1q6 p0 p1)),SI (cl1q7 p0 p1),SI (cl1q8 p0 p1),D.sl N4 (LN (cl1q9 p0 p1)) (fun (i:Nat) => Arr.row (List.getD (cl1q9 p0 p1) i cl1q5)) Mode.any]
def cl1q11 (p0:Arr):D := D.sl N4 (cl1q4 p0) (fun (i:Nat) => cl1q10 p0 i) Mode.any
def cl1q12 (p0:Arr):Prop := SM (cl1q11 p0)
def cl1q13 (p0:Nat) (p1:Arr):Prop := SM p0∧cl1q12 p1
def cl1q14 (p0:Arr):Nat := LN (Arr.nu p0)
def cl1q15 (p0:Arr) (p1:Nat):List D := [ZI (GI (Arr.nu p0) p1)]
def cl1q16 (p0:Arr):D := D.sl N1 (cl1q14 p0) (fun (i:Nat) => cl1q15 p0 i) Mode.any
def cl1q17 (p0:Nat) (p1:Arr):Prop := SM p0∧SM (cl1q16 p1)
def cl1q18 (p0:Arr):Int := Arr.k p0
def cl1q19 (p0:Arr):D := ZI (cl1q18 p0)
def cl1q20 (p0:Nat) (p1:Arr):Prop := SM p0∧SM (cl1q19 p1)
def cl1q21 (p0:Arr):Int := (NI (cl1q14 p0))
def cl1q22 (p0:Arr):Int := (8:Int) * cl1q21 p0
def cl1q23 (p0 p1 p2 p3:Nat):Prop := p0 ≠ p1∧p2 ≠ p1∧p3 ≠ p1∧True
def cl1q24 (p0:Arr):Int := (NI (cl1q4 p0))
def cl1q25 (p0:Arr):Int := (80:Int) * cl1q24 p0
def cl1q26 (p0 p1 p2 p3 p4:Nat):Prop := p0 ≠ p1∧cl1q23 p2 p1 p3 p4
def cl1q27 (p0 p1 p2 p3 p4 p5:Nat):Prop := p0 ≠ p1∧cl1q26 p2 p1 p3 p4 p5
def cl1q28 (p0:Arr):Prop := SM (cl1q18 p0)
def cl1q29 (p0:Arr):Prop := Int.toNat (cl1q1 p0) = cl1q0 p0
def cl1q30 (p0:Arr):Prop := Int.toNat (cl1q21 p0) = cl1q14 p0
def cl1q31 (p0:Arr):Prop := Int.toNat (cl1q24 p0) = cl1q4 p0
def cl1q32:D := D.sl N1 N0 (fun (_x:Nat) => []) Mode.nil
def cl1q33 (p0:Arr) (p1:Nat):List D := clR (cl1q3 p0) N0 p1
def cl1q34:Prop := SM [ZI Z0]
def cl1q35:Prop := SM N0∧(∀ (i:Nat),i < N0→eqOf (List D) [] [])∧True
def cl1q36 (p0:Arr):Prop := SM (cl1q0 p0)
def cl1q37 (p0:Arr) (p1:Nat):List D := [ZI (GI (Arr.sh p0) p1)]
def cl1q38 (p0:Arr):Prop := ∀ (i:Nat),i < cl1q0 p0→SM (cl1q37 p0 i)
def cl1q39 (p0:Arr):Prop := cl1q36 p0∧cl1q38 p0∧True
def cl1q40 (p0:Arr):Prop := SM (cl1q14 p0)
def cl1q41 (p0:Arr):Prop := ∀ (i:Nat),i < cl1q14 p0→SM (cl1q15 p0 i)
def cl1q42 (p0:Arr):Prop := cl1q40 p0∧cl1q41 p0∧True
def cl1q43 (p0:Arr):Prop := SM (cl1q4 p0)
def cl1q44 (p0:Nat) (p1:Arr):Prop := p0 < cl1q4 p1
def cl1q45 (p0 p1:Nat) (p2:Arr):Prop := SM p0∧(SM Z0∧cl1q35∧cl1q35∧cl1q35∧True)∧SM p1∧(cl1q28 p2∧cl1q39 p2∧cl1q42 p2∧(cl1q43 p2∧(∀ (i:Nat),cl1q44 i p2→SM (cl1q10 p2 i))∧True)∧True)∧True
def cl1q46 (p0:Nat) (p1:Arr) (p2 p3 p4 p5 p6:Nat):Prop := cl1q20 p0 p1∧SM p2∧∃ (x:(Nat × Nat) × Nat × Nat),True∧(p2 = x.2.2∧True)∧(p2 = x.2.2∧(cl1q28 p1∧(p3 = x.1.1∧cl1q29 p1∧cl1q29 p1)∧(p4 = x.1.2∧cl1q30 p1∧cl1q30 p1)∧(p5 = x.2.1∧cl1q31 p1∧cl1q31 p1)∧True)∧p5 = x.2.1∧(cl1q31 p1∧cl1q31 p1∧∀ (i:Nat),i < Int.toNat (cl1q24 p1)→[ZI Z0,cl1q32,cl1q32,cl1q32] = cl1q33 p1 i)∧p4 = x.1.2∧(cl1q30 p1∧cl1q30 p1∧∀ (i:Nat),i < Int.toNat (cl1q21 p1)→cl1q34)∧p3 = x.1.1∧(cl1q29 p1∧cl1q29 p1∧∀ (i:Nat),i < Int.toNat (cl1q1 p1)→cl1q34)∧cl1q45 p6 p0 p1)∧True
def cl1q47 (p0:Arr):D := D.sl N1 (cl1q0 p0) (fun (i:Nat) => cl1q37 p0 i) Mode.any
def cl1q48 (p0:Nat) (p1:Arr):Prop := SM p0∧SM (cl1q47 p1)
def cl1q49 (p0:Nat) (p1:Arr):Prop := p0 ≤ cl1q4 p1
def cl1q50 (p0:Arr) (p1 p2 p3:Nat):Prop := cl1q28 p0∧(SM p1∧cl1q36 p0∧cl1q36 p0)∧(SM p2∧cl1q40 p0∧cl1q40 p0)∧(SM p3∧cl1q43 p0∧cl1q43 p0)∧True
def cl1q51 (p0:Arr) (p1 p2:Nat):List D := clR (cl1q3 p0) p1 p2
def cl1q52 (p0:Nat) (p1:Arr) (p2 p3 p4:Nat):Prop := SM p0∧(cl1q40 p1∧cl1q40 p1∧cl1q41 p1)∧SM p2∧(cl1q36 p1∧cl1q36 p1∧cl1q38 p1)∧cl1q45 p3 p4 p1
def cl1q53 (p0:Arr) (p1:Nat):Arr := List.getD (cl1q3 p0) (Int.toNat (↑p1:Int)) cl1q5
def cl1q54 (p0:Arr) (p1:Nat):List Int := Arr.sh (cl1q53 p0 p1)
def cl1q55 (p0:Arr) (p1:Nat):Nat := LN (cl1q54 p0 p1)
def cl1q56 (p0:Arr) (p1:Nat):List Int := Arr.nu (cl1q53 p0 p1)
def cl1q57 (p0:Arr) (p1:Nat):Nat := LN (cl1q56 p0 p1)
def cl1q58 (p0:Arr) (p1:Nat):List Arr := Arr.it (cl1q53 p0 p1)
def cl1q59 (p0:Arr) (p1:Nat):Nat := LN (cl1q58 p0 p1)
def cl1q60 (p0:Arr) (p1:Nat):List D := Arr.row (cl1q6 p0 p1)
def cl1q61 (p0:Nat) (p1:Arr):D := D.vs (15:Nat) p0 (cl1q4 p1) (cl1q4 p1) N4
def cl1q62 (p0:D):Bool := match p0 with | D.unk => false | D.agg _cs => false | D.tup _ds => false | _x => true
end
theorem cl_step (a : Arr) (ha : a.nu.length ≤ 1000000 ∧ a.it.length ≤ 1000000 ∧ a.sh.length ≤ 1000000) (hc : ConOk Tryz.prog (conCl a.it)) :
    ACalls Tryz.prog 139 ((sCl Arr.row2 Arr.row2 (fun _ => True)).args a) ⟨[],[]⟩ (SpecR (sCl Arr.row2 Arr.row2 (fun _ => True)) a) := by
  refine con_of (A := sCl Arr.row2 Arr.row2 (fun _ => True)) (x := a) (E := Ecl a) (eOk hc rfl) Tryz.func139 rfl (by kernel_rfl) rfl (by simp [sCl,Ecl,EC,E0]) ?_
  refine vc_eq (T :=
    ∀ (x:Nat),True→∀ (x_1:Nat),x ≠ x_1∧True→(SM x∧SM x∧SM x∧SM x∧side (Z0 ≤ cl1q1 a∧cl1q1 a ≤ cl1q1 a∧cl1q2 a ≤ (281474976710656:Int)∧cl1q1 a ≤ (9223372036854775807:Int)) (∀ (x_2:Nat),x_1 ≠ x_2∧x ≠ x_2∧True→cl1q13 x a∧cl1q17 x a∧cl1q20 x a∧side (Z0 ≤ cl1q21 a∧cl1q21 a ≤ cl1q21 a∧cl1q22 a ≤ (281474976710656:Int)∧cl1q21 a ≤ (9223372036854775807:Int)) (∀ (x_3:Nat),cl1q23 x_2 x_3 x_1 x→cl1q13 x a∧cl1q20 x a∧side (Z0 ≤ cl1q24 a∧cl1q24 a ≤ cl1q24 a∧cl1q25 a ≤ (281474976710656:Int)∧cl1q24 a ≤ (9223372036854775807:Int)) (∀ (x_4:Nat),cl1q26 x_3 x_4 x_2 x_1 x→cl1q20 x a∧∀ (x_5:Nat),cl1q27 x_4 x_5 x_3 x_2 x_1 x→cl1q46 x a x_5 x_2 x_3 x_4 x_1)∧∀ (x_4:Nat),cl1q26 x_3 x_4 x_2 x_1 x→cl1q13 x a∧cl1q20 x a∧side (Z0 ≤ cl1q24 a∧cl1q24 a ≤ cl1q24 a∧cl1q25 a ≤ (281474976710656:Int)∧cl1q24 a ≤ (9223372036854775807:Int)) (∀ (x_5:Nat),cl1q27 x_4 x_5 x_3 x_2 x_1 x→cl1q46 x a x_4 x_2 x_3 x_5 x_1))∧side (Z0 ≤ cl1q24 a∧cl1q24 a ≤ cl1q24 a∧cl1q25 a ≤ (281474976710656:Int)∧cl1q24 a ≤ (9223372036854775807:Int)) (∀ (x_3:Nat),cl1q23 x_2 x_3 x_1 x→cl1q17 x a∧cl1q20 x a∧side (Z0 ≤ cl1q21 a∧cl1q21 a ≤ cl1q21 a∧cl1q22 a ≤ (281474976710656:Int)∧cl1q21 a ≤ (9223372036854775807:Int)) (∀ (x_4:Nat),cl1q26 x_3 x_4 x_2 x_1 x→cl1q20 x a∧∀ (x_5:Nat),cl1q27 x_4 x_5 x_3 x_2 x_1 x→cl1q46 x a x_5 x_2 x_4 x_3 x_1)∧∀ (x_4:Nat),cl1q26 x_3 x_4 x_2 x_1 x→cl1q17 x a∧cl1q20 x a∧side (Z0 ≤ cl1q21 a∧cl1q21 a ≤ cl1q21 a∧cl1q22 a ≤ (281474976710656:Int)∧cl1q21 a ≤ (9223372036854775807:Int)) (∀ (x_5:Nat),cl1q27 x_4 x_5 x_3 x_2 x_1 x→cl1q46 x a x_4 x_2 x_5 x_3 x_1))∧∀ (x_3:Nat),cl1q23 x_2 x_3 x_1 x→cl1q13 x a∧cl1q17 x a∧cl1q20 x a∧side (Z0 ≤ cl1q21 a∧cl1q21 a ≤ cl1q21 a∧cl1q22 a ≤ (281474976710656:Int)∧cl1q21 a ≤ (9223372036854775807:Int)) (∀ (x_4:Nat),cl1q26 x_3 x_4 x_2 x_1 x→cl1q13 x a∧cl1q20 x a∧side (Z0 ≤ cl1q24 a∧cl1q24 a ≤ cl1q24 a∧cl1q25 a ≤ (281474976710656:Int)∧cl1q24 a ≤ (9223372036854775807:Int)) (∀ (x_5:Nat),cl1q27 x_4 x_5 x_3 x_2 x_1 x→cl1q46 x a x_3 x_2 x_4 x_5 x_1))∧side (Z0 ≤ cl1q24 a∧cl1q24 a ≤ cl1q24 a∧cl1q25 a ≤ (281474976710656:Int)∧cl1q24 a ≤ (9223372036854775807:Int)) (∀ (x_4:Nat),cl1q26 x_3 x_4 x_2 x_1 x→cl1q17 x a∧cl1q20 x a∧side (Z0 ≤ cl1q21 a∧cl1q21 a ≤ cl1q21 a∧cl1q22 a ≤ (281474976710656:Int)∧cl1q21 a ≤ (9223372036854775807:Int)) (∀ (x_5:Nat),cl1q27 x_4 x_5 x_3 x_2 x_1 x→cl1q46 x a x_3 x_2 x_5 x_4 x_1)))∧side (Z0 ≤ cl1q21 a∧cl1q21 a ≤ cl1q21 a∧cl1q22 a ≤ (281474976710656:Int)∧cl1q21 a ≤ (9223372036854775807:Int)) (∀ (x_2:Nat),x_1 ≠ x_2∧x ≠ x_2∧True→cl1q13 x a∧cl1q48 x a∧cl1q20 x a∧side (Z0 ≤ cl1q1 a∧cl1q1 a ≤ cl1q1 a∧cl1q2 a ≤ (281474976710656:Int)∧cl1q1 a ≤ (9223372036854775807:Int)) (∀ (x_3:Nat),cl1q23 x_2 x_3 x_1 x→cl1q13 x a∧cl1q20 x a∧side (Z0 ≤ cl1q24 a∧cl1q24 a ≤ cl1q24 a∧cl1q25 a ≤ (281474976710656:Int)∧cl1q24 a ≤ (9223372036854775807:Int)) (∀ (x_4:Nat),cl1q26 x_3 x_4 x_2 x_1 x→cl1q20 x a∧∀ (x_5:Nat),cl1q27 x_4 x_5 x_3 x_2 x_1 x→cl1q46 x a x_5 x_3 x_2 x_4 x_1)∧∀ (x_4:Nat),cl1q26 x_3 x_4 x_2 x_1 x→cl1q13 x a∧cl1q20 x a∧side (Z0 ≤ cl1q24 a∧cl1q24 a ≤ cl1q24 a∧cl1q25 a ≤ (281474976710656:Int)∧cl1q24 a ≤ (9223372036854775807:Int)) (∀ (x_5:Nat),cl1q27 x_4 x_5 x_3 x_2 x_1 x→cl1q46 x a x_4 x_3 x_2 x_5 x_1))∧side (Z0 ≤ cl1q24 a∧cl1q24 a ≤ cl1q24 a∧cl1q25 a ≤ (281474976710656:Int)∧cl1q24 a ≤ (9223372036854775807:Int)) (∀ (x_3:Nat),cl1q23 x_2 x_3 x_1 x→cl1q48 x a∧cl1q20 x a∧side (Z0 ≤ cl1q1 a∧cl1q1 a ≤ cl1q1 a∧cl1q2 a ≤ (281474976710656:Int)∧cl1q1 a ≤ (9223372036854775807:Int)) (∀ (x_4:Nat),cl1q26 x_3 x_4 x_2 x_1 x→cl1q20 x a∧∀ (x_5:Nat),cl1q27 x_4 x_5 x_3 x_2 x_1 x→cl1q46 x a x_5 x_4 x_2 x_3 x_1)∧∀ (x_4:Nat),cl1q26 x_3 x_4 x_2 x_1 x→cl1q48 x a∧cl1q20 x a∧side (Z0 ≤ cl1q1 a∧cl1q1 a ≤ cl1q1 a∧cl1q2 a ≤ (281474976710656:Int)∧cl1q1 a ≤ (9223372036854775807:Int)) (∀ (x_5:Nat),cl1q27 x_4 x_5 x_3 x_2 x_1 x→cl1q46 x a x_4 x_5 x_2 x_3 x_1))∧∀ (x_3:Nat),cl1q23 x_2 x_3 x_1 x→cl1q13 x a∧cl1q48 x a∧cl1q20 x a∧side (Z0 ≤ cl1q1 a∧cl1q1 a ≤ cl1q1 a∧cl1q2 a ≤ (281474976710656:Int)∧cl1q1 a ≤ (9223372036854775807:Int)) (∀ (x_4:Nat),cl1q26 x_3 x_4 x_2 x_1 x→cl1q13 x a∧cl1q20 x a∧side (Z0 ≤ cl1q24 a∧cl1q24 a ≤ cl1q24 a∧cl1q25 a ≤ (281474976710656:Int)∧cl1q24 a ≤ (9223372036854775807:Int)) (∀ (x_5:Nat),cl1q27 x_4 x_5 x_3 x_2 x_1 x→cl1q46 x a x_3 x_4 x_2 x_5 x_1))∧side (Z0 ≤ cl1q24 a∧cl1q24 a ≤ cl1q24 a∧cl1q25 a ≤ (281474976710656:Int)∧cl1q24 a ≤ (9223372036854775807:Int)) (∀ (x_4:Nat),cl1q26 x_3 x_4 x_2 x_1 x→cl1q48 x a∧cl1q20 x a∧side (Z0 ≤ cl1q1 a∧cl1q1 a ≤ cl1q1 a∧cl1q2 a ≤ (281474976710656:Int)∧cl1q1 a ≤ (9223372036854775807:Int)) (∀ (x_5:Nat),cl1q27 x_4 x_5 x_3 x_2 x_1 x→cl1q46 x a x_3 x_5 x_2 x_4 x_1)))∧side (Z0 ≤ cl1q24 a∧cl1q24 a ≤ cl1q24 a∧cl1q25 a ≤ (281474976710656:Int)∧cl1q24 a ≤ (9223372036854775807:Int)) (∀ (x_2:Nat),x_1 ≠ x_2∧x ≠ x_2∧True→cl1q17 x a∧cl1q48 x a∧cl1q20 x a∧side (Z0 ≤ cl1q1 a∧cl1q1 a ≤ cl1q1 a∧cl1q2 a ≤ (281474976710656:Int)∧cl1q1 a ≤ (9223372036854775807:Int)) (∀ (x_3:Nat),cl1q23 x_2 x_3 x_1 x→cl1q17 x a∧cl1q20 x a∧side (Z0 ≤ cl1q21 a∧cl1q21 a ≤ cl1q21 a∧cl1q22 a ≤ (281474976710656:Int)∧cl1q21 a ≤ (9223372036854775807:Int)) (∀ (x_4:Nat),cl1q26 x_3 x_4 x_2 x_1 x→cl1q20 x a∧∀ (x_5:Nat),cl1q27 x_4 x_5 x_3 x_2 x_1 x→cl1q46 x a x_5 x_3 x_4 x_2 x_1)∧∀ (x_4:Nat),cl1q26 x_3 x_4 x_2 x_1 x→cl1q17 x a∧cl1q20 x a∧side (Z0 ≤ cl1q21 a∧cl1q21 a ≤ cl1q21 a∧cl1q22 a ≤ (281474976710656:Int)∧cl1q21 a ≤ (9223372036854775807:Int)) (∀ (x_5:Nat),cl1q27 x_4 x_5 x_3 x_2 x_1 x→cl1q46 x a x_4 x_3 x_5 x_2 x_1))∧side (Z0 ≤ cl1q21 a∧cl1q21 a ≤ cl1q21 a∧cl1q22 a ≤ (281474976710656:Int)∧cl1q21 a ≤ (9223372036854775807:Int)) (∀ (x_3:Nat),cl1q23 x_2 x_3 x_1 x→cl1q48 x a∧cl1q20 x a∧side (Z0 ≤ cl1q1 a∧cl1q1 a ≤ cl1q1 a∧cl1q2 a ≤ (281474976710656:Int)∧cl1q1 a ≤ (9223372036854775807:Int)) (∀ (x_4:Nat),cl1q26 x_3 x_4 x_2 x_1 x→cl1q20 x a∧∀ (x_5:Nat),cl1q27 x_4 x_5 x_3 x_2 x_1 x→cl1q46 x a x_5 x_4 x_3 x_2 x_1)∧∀ (x_4:Nat),cl1q26 x_3 x_4 x_2 x_1 x→cl1q48 x a∧cl1q20 x a∧side (Z0 ≤ cl1q1 a∧cl1q1 a ≤ cl1q1 a∧cl1q2 a ≤ (281474976710656:Int)∧cl1q1 a ≤ (9223372036854775807:Int)) (∀ (x_5:Nat),cl1q27 x_4 x_5 x_3 x_2 x_1 x→cl1q46 x a x_4 x_5 x_3 x_2 x_1))∧∀ (x_3:Nat),cl1q23 x_2 x_3 x_1 x→cl1q17 x a∧cl1q48 x a∧cl1q20 x a∧side (Z0 ≤ cl1q1 a∧cl1q1 a ≤ cl1q1 a∧cl1q2 a ≤ (281474976710656:Int)∧cl1q1 a ≤ (9223372036854775807:Int)) (∀ (x_4:Nat),cl1q26 x_3 x_4 x_2 x_1 x→cl1q17 x a∧cl1q20 x a∧side (Z0 ≤ cl1q21 a∧cl1q21 a ≤ cl1q21 a∧cl1q22 a ≤ (281474976710656:Int)∧cl1q21 a ≤ (9223372036854775807:Int)) (∀ (x_5:Nat),cl1q27 x_4 x_5 x_3 x_2 x_1 x→cl1q46 x a x_3 x_4 x_5 x_2 x_1))∧side (Z0 ≤ cl1q21 a∧cl1q21 a ≤ cl1q21 a∧cl1q22 a ≤ (281474976710656:Int)∧cl1q21 a ≤ (9223372036854775807:Int)) (∀ (x_4:Nat),cl1q26 x_3 x_4 x_2 x_1 x→cl1q48 x a∧cl1q20 x a∧side (Z0 ≤ cl1q1 a∧cl1q1 a ≤ cl1q1 a∧cl1q2 a ≤ (281474976710656:Int)∧cl1q1 a ≤ (9223372036854775807:Int)) (∀ (x_5:Nat),cl1q27 x_4 x_5 x_3 x_2 x_1 x→cl1q46 x a x_3 x_5 x_4 x_2 x_1)))∧∀ (x_2:Nat),x_1 ≠ x_2∧x ≠ x_2∧True→cl1q13 x a∧cl1q17 x a∧cl1q48 x a∧cl1q20 x a∧side (Z0 ≤ cl1q1 a∧cl1q1 a ≤ cl1q1 a∧cl1q2 a ≤ (281474976710656:Int)∧cl1q1 a ≤ (9223372036854775807:Int)) (∀ (x_3:Nat),cl1q23 x_2 x_3 x_1 x→cl1q13 x a∧cl1q17 x a∧cl1q20 x a∧side (Z0 ≤ cl1q21 a∧cl1q21 a ≤ cl1q21 a∧cl1q22 a ≤ (281474976710656:Int)∧cl1q21 a ≤ (9223372036854775807:Int)) (∀ (x_4:Nat),cl1q26 x_3 x_4 x_2 x_1 x→cl1q13 x a∧cl1q20 x a∧side (Z0 ≤ cl1q24 a∧cl1q24 a ≤ cl1q24 a∧cl1q25 a ≤ (281474976710656:Int)∧cl1q24 a ≤ (9223372036854775807:Int)) (∀ (x_5:Nat),cl1q27 x_4 x_5 x_3 x_2 x_1 x→cl1q46 x a x_2 x_3 x_4 x_5 x_1))∧side (Z0 ≤ cl1q24 a∧cl1q24 a ≤ cl1q24 a∧cl1q25 a ≤ (281474976710656:Int)∧cl1q24 a ≤ (9223372036854775807:Int)) (∀ (x_4:Nat),cl1q26 x_3 x_4 x_2 x_1 x→cl1q17 x a∧cl1q20 x a∧side (Z0 ≤ cl1q21 a∧cl1q21 a ≤ cl1q21 a∧cl1q22 a ≤ (281474976710656:Int)∧cl1q21 a ≤ (9223372036854775807:Int)) (∀ (x_5:Nat),cl1q27 x_4 x_5 x_3 x_2 x_1 x→cl1q46 x a x_2 x_3 x_5 x_4 x_1)))∧side (Z0 ≤ cl1q21 a∧cl1q21 a ≤ cl1q21 a∧cl1q22 a ≤ (281474976710656:Int)∧cl1q21 a ≤ (9223372036854775807:Int)) (∀ (x_3:Nat),cl1q23 x_2 x_3 x_1 x→cl1q13 x a∧cl1q48 x a∧cl1q20 x a∧side (Z0 ≤ cl1q1 a∧cl1q1 a ≤ cl1q1 a∧cl1q2 a ≤ (281474976710656:Int)∧cl1q1 a ≤ (9223372036854775807:Int)) (∀ (x_4:Nat),cl1q26 x_3 x_4 x_2 x_1 x→cl1q13 x a∧cl1q20 x a∧side (Z0 ≤ cl1q24 a∧cl1q24 a ≤ cl1q24 a∧cl1q25 a ≤ (281474976710656:Int)∧cl1q24 a ≤ (9223372036854775807:Int)) (∀ (x_5:Nat),cl1q27 x_4 x_5 x_3 x_2 x_1 x→cl1q46 x a x_2 x_4 x_3 x_5 x_1))∧side (Z0 ≤ cl1q24 a∧cl1q24 a ≤ cl1q24 a∧cl1q25 a ≤ (281474976710656:Int)∧cl1q24 a ≤ (9223372036854775807:Int)) (∀ (x_4:Nat),cl1q26 x_3 x_4 x_2 x_1 x→cl1q48 x a∧cl1q20 x a∧side (Z0 ≤ cl1q1 a∧cl1q1 a ≤ cl1q1 a∧cl1q2 a ≤ (281474976710656:Int)∧cl1q1 a ≤ (9223372036854775807:Int)) (∀ (x_5:Nat),cl1q27 x_4 x_5 x_3 x_2 x_1 x→cl1q46 x a x_2 x_5 x_3 x_4 x_1)))∧side (Z0 ≤ cl1q24 a∧cl1q24 a ≤ cl1q24 a∧cl1q25 a ≤ (281474976710656:Int)∧cl1q24 a ≤ (9223372036854775807:Int)) (∀ (x_3:Nat),cl1q23 x_2 x_3 x_1 x→cl1q17 x a∧cl1q48 x a∧cl1q20 x a∧side (Z0 ≤ cl1q1 a∧cl1q1 a ≤ cl1q1 a∧cl1q2 a ≤ (281474976710656:Int)∧cl1q1 a ≤ (9223372036854775807:Int)) (∀ (x_4:Nat),cl1q26 x_3 x_4 x_2 x_1 x→cl1q17 x a∧cl1q20 x a∧side (Z0 ≤ cl1q21 a∧cl1q21 a ≤ cl1q21 a∧cl1q22 a ≤ (281474976710656:Int)∧cl1q21 a ≤ (9223372036854775807:Int)) (∀ (x_5:Nat),cl1q27 x_4 x_5 x_3 x_2 x_1 x→cl1q46 x a x_2 x_4 x_5 x_3 x_1))∧side (Z0 ≤ cl1q21 a∧cl1q21 a ≤ cl1q21 a∧cl1q22 a ≤ (281474976710656:Int)∧cl1q21 a ≤ (9223372036854775807:Int)) (∀ (x_4:Nat),cl1q26 x_3 x_4 x_2 x_1 x→cl1q48 x a∧cl1q20 x a∧side (Z0 ≤ cl1q1 a∧cl1q1 a ≤ cl1q1 a∧cl1q2 a ≤ (281474976710656:Int)∧cl1q1 a ≤ (9223372036854775807:Int)) (∀ (x_5:Nat),cl1q27 x_4 x_5 x_3 x_2 x_1 x→cl1q46 x a x_2 x_5 x_4 x_3 x_1))))∧∀ (x_2:(Nat × Nat) × Nat × Nat),True→SM x_2.2.2∧SM x∧SM x_2.1.1∧cl1q36 a∧cl1q36 a∧SM x_2.2.2∧SM x∧SM x_2.1.2∧cl1q40 a∧cl1q40 a∧SM x∧(∃ (x_3:Nat),cl1q49 x_3 a∧(Z0 = (↑x_3:Int)∧True)∧(SM x_2.2.2∧cl1q50 a x_2.1.1 x_2.1.2 x_2.2.1∧SM x_2.2.1∧(cl1q43 a∧cl1q43 a∧∀ (i:Nat),cl1q44 i a→cl1q33 a i = cl1q51 a x_3 i)∧cl1q52 x_2.1.2 a x_2.1.1 x_1 x)∧True)∧∀ (x_3:Nat),cl1q49 x_3 a→ifB (decide ((↑x_3:Int) < cl1q24 a)) (side (Z0 ≤ (↑x_3:Int)∧(↑x_3:Int) < cl1q24 a) (∀ (x_4:Nat),x_2.2.2 ≠ x_4∧cl1q27 x_2.2.1 x_4 x_2.1.2 x_2.1.1 x_1 x→SM x_4∧SM x_2.2.2∧SM x_4∧∃ (x_5:Arr),((Arr.k (cl1q53 a x_3) = cl1q18 x_5∧(cl1q55 a x_3 = cl1q0 x_5∧(∀ (i:Nat),i < cl1q55 a x_3→[ZI (GI (cl1q54 a x_3) i)] = cl1q37 x_5 i)∧True)∧(cl1q57 a x_3 = cl1q14 x_5∧(∀ (i:Nat),i < cl1q57 a x_3→[ZI (GI (cl1q56 a x_3) i)] = cl1q15 x_5 i)∧True)∧(cl1q59 a x_3 = cl1q4 x_5∧(∀ (i:Nat),i < cl1q59 a x_3→Arr.row (List.getD (cl1q58 a x_3) i cl1q5) = cl1q60 x_5 i)∧True)∧True)∧True)∧(True∧True)∧x_5 ∈ cl1q3 a∧∀ (y:Unit),True→(SM x_2.2.2∧SM (cl1q61 x_2.2.1 a))∧side (Z0 ≤ (↑x_3:Int)∧(↑x_3:Int) < cl1q24 a) (SM x_2.2.1∧side (Int.toNat (↑x_3:Int) < cl1q4 a) ((SM (D.ref N0 x N0)∧SM (D.ref (max (N0 + N1) N0) x_1 N0)∧SM (D.ref (17:Nat) x_2.2.2 N0)∧cl1q12 a∧SM (ZI (cl1q24 a))∧True)∧∃ (y:Nat),cl1q49 y a∧cl1q4 a - y < cl1q4 a - x_3∧(IntKind.wrap IntKind.i64 ((↑x_3:Int) + Z1) = (↑y:Int)∧True)∧(SM x_2.2.2∧cl1q50 a x_2.1.1 x_2.1.2 x_2.2.1∧SM x_2.2.1∧(cl1q43 a∧cl1q43 a∧∀ (i:Nat),cl1q44 i a→updF (clR (cl1q3 a) x_3) (Int.toNat (↑x_3:Int)) (List.set (List.set (List.set (List.set (clR (cl1q3 a) x_3 (Int.toNat (↑x_3:Int))) N0 (cl1q19 x_5)) (N0 + N1) (cl1q47 x_5)) N2 (cl1q16 x_5)) (3:Nat) (D.sl N4 (cl1q4 x_5) (fun (i:Nat) => cl1q60 x_5 i) Mode.any)) i = cl1q51 a y i)∧cl1q52 x_2.1.2 a x_2.1.1 x_1 x)∧True)))) (SM x_2.1.1∧cl1q36 a∧side (cl1q0 a ≤ cl1q0 a) ((∀ (i:Nat),i < cl1q0 a→(List.all (cl1q37 a i) fun (x:D) => cl1q62 x) = true)∧∀ (t:Nat),SM x_2.1.2∧cl1q40 a∧side (cl1q14 a ≤ cl1q14 a) ((∀ (i:Nat),i < cl1q14 a→(List.all (cl1q15 a i) fun (x:D) => cl1q62 x) = true)∧∀ (t:Nat),SM x_2.2.1∧cl1q43 a∧side (cl1q4 a ≤ cl1q4 a) ((∀ (i:Nat),cl1q44 i a→(List.all (cl1q51 a x_3 i) fun (x:D) => cl1q62 x) = true)∧∀ (t:Nat),SM x_2.2.2∧SM x_1∧(SM x_1∧True)∧∃ (y:Unit),True∧(cl1q28 a∧cl1q39 a∧cl1q42 a∧(cl1q43 a∧(∀ (i:Nat),cl1q44 i a→cl1q51 a x_3 i = cl1q10 a i)∧True)∧True)∧True∧True))))) (by kernel_rfl) ?_
  delta DA GI LN N0 N1 N2 N4 NI SI SM Z0 Z1 ZI cl1q0 cl1q1 cl1q10 cl1q11 cl1q12 cl1q13 cl1q14 cl1q15 cl1q16 cl1q17 cl1q18 cl1q19 cl1q2 cl1q20 cl1q21 cl1q22 cl1q23 cl1q24 cl1q25 cl1q26 cl1q27 cl1q28 cl1q29 cl1q3 cl1q30 cl1q31 cl1q32 cl1q33 cl1q34 cl1q35 cl1q36 cl1q37 cl1q38 cl1q39 cl1q4 cl1q40 cl1q41 cl1q42 cl1q43 cl1q44 cl1q45 cl1q46 cl1q47 cl1q48 cl1q49 cl1q5 cl1q50 cl1q51 cl1q52 cl1q53 cl1q54 cl1q55 cl1q56 cl1q57 cl1q58 cl1q59 cl1q6 cl1q60 cl1q61 cl1q62 cl1q7 cl1q8 cl1q9
  have da:(default:Arr) = Arr.mk 0 [] [] [] := rfl
  simp only [← da,eq_self,implies_true,Int.toNat_natCast,ifB_iff,side_iff,decide_eq_true_eq,decide_eq_false_iff_not,true_and,and_true,exists_const,forall_const]
  obtain ⟨l1,l2,l3⟩ := ha
  refine fun x x1 hx => ⟨?_,?_⟩
  · repeat' (first | (refine ⟨((_,_),_,_),rfl,rfl,⟨rfl,rfl,rfl⟩,rfl,fun _ _ => rfl,rfl,rfl⟩) | (refine And.intro ?_ ?_) | intro _ | omega)
  refine fun y => ⟨⟨0,Nat.zero_le _,rfl,fun _ _ => rfl⟩,fun i hi => ⟨fun hlt => ⟨⟨by omega,hlt⟩,fun x4 _ => ⟨a.it.getD i default,⟨rfl,⟨rfl,fun _ _ => rfl⟩,⟨rfl,fun _ _ => rfl⟩,rfl,fun _ _ => rfl⟩,mem_getD (by omega),⟨by omega,hlt⟩,by omega,i + 1,by omega,by omega,wrap_i64' (by omega) (by omega),fun j hj => ?_⟩⟩,fun hge => ⟨Nat.le_refl _,fun _ _ => rfl,Nat.le_refl _,fun _ _ => rfl,Nat.le_refl _,fun j hj => ?_,fun j hj => ?_⟩⟩⟩
  · rw [clR_ge (its := a.it) (i := i) (j := i) (by omega)]
    by_cases e:j = i
    · subst e
      rw [clR_lt (by omega)]
      simp only [updF,if_true]
      rfl
    · simp only [updF,e,if_false]
      by_cases e2:j < i
      · rw [clR_lt e2,clR_lt (by omega)]
      · rw [clR_ge e2,clR_ge (by omega)]
  · rw [clR_lt (by omega)]; rfl
  · rw [clR_lt (by omega)]; rfl
theorem row2_row1 (a:Arr):wkL a.row2 a.row1 := by
  simp only [Arr.row1,Arr.row2,gsl,isl,wkL,wkD,weakD,chk_iff]
  exact ⟨⟨by simp [kEq],trivial⟩,⟨by simp,trivial,fun i _ => by simp [kEq],by simp [weakM]⟩,⟨by simp,trivial,fun i _ => by simp [kEq],by simp [weakM]⟩,⟨by simp,trivial,fun i _ => row1_row _,by simp [weakM]⟩,trivial⟩
theorem chkL_zero:∀ (l:List Arr) (d w:Int) (r:Int × Int),chkL l d w = some r→∀ x ∈ l,(chkA x).1 = 0
  | [],_,_,_,_,x,hx => by cases hx
  | y :: l,d,w,r,h,x,hx => by
    rw [chkL] at h
    split at h
    · cases h
    · rename_i hy
      rcases List.mem_cons.1 hx with rfl | hx
      · simpa using hy
      · exact chkL_zero l _ _ r h x hx
theorem chkA_zero {k:Int} {s n:List Int} {is:List Arr} (h:(chkA (.mk k s n is)).1 = 0):s.length ≤ 8∧n.length ≤ 65536∧is.length ≤ 65536∧∀ x ∈ is,(chkA x).1 = 0 := by
  rw [chkA] at h
  by_cases h0:formS k s n.length is.length ≠ 0
  · rw [if_pos h0] at h; exact (h0 h).elim
  · rw [if_neg h0] at h
    have h0:formS k s n.length is.length = 0 := by simpa using h0
    have hs := form_small h0
    refine ⟨form_len h0,hs.1,hs.2,?_⟩
    by_cases hb:n.any (badK k) = true
    · rw [if_pos hb] at h; simp at h
    · rw [if_neg hb] at h
      cases hr:chkL is 0 ((n.length:Int) + is.length) with
      | none => rw [hr] at h; simp at h
      | some r => exact chkL_zero _ _ _ r hr
theorem cl_all:∀ (a:Arr),(chkA a).1 = 0→ACalls Tryz.prog 139 [.agg a.row1] ⟨[],[]⟩ (SpecR (sCl Arr.row1 Arr.row1 (fun _ => True)) a)
  | .mk k s n is,h => by
    obtain ⟨h1,h2,h3,h4⟩ := chkA_zero h
    have hc:ConOk Tryz.prog (conCl (Arr.mk k s n is).it) := by
      intro k' ds S A hk
      unfold conCl at hk
      split at hk
      · injection hk with hk; subst hk
        refine ConOk.plain (fun (b:Arr) hb => ?_) rfl rfl
        have hb':b ∈ is := hb
        exact (cl_all b (h4 b hb')).mono fun _ _ ⟨y,q1,q2,q3⟩ => ⟨y,q1,q2,q3⟩
      · cases hk
    have hm := cl_step (.mk k s n is) ⟨by show n.length ≤ _; omega,by show is.length ≤ _; omega,by show s.length ≤ _; omega⟩ hc
    have hm2:ACalls Tryz.prog 139 [.agg (Arr.mk k s n is).row1] ⟨[],[]⟩ (SpecR (sCl Arr.row2 Arr.row2 (fun _ => True)) (.mk k s n is)) := by
      refine ACalls.wkArgs hm ?_
      simp only [sCl,wkL,wkD]
      exact ⟨row1_wk _,trivial⟩
    refine ACalls.wkEnd hm2 fun r S' ⟨y,q1,q2,q3⟩ => ?_
    subst q2 q3
    refine ⟨.ret (.agg (Arr.mk k s n is).row1),fun C e he => ?_,⟨(),trivial,rfl,rfl⟩⟩
    cases e with
    | returned v =>
      refine wkD_weak (.agg (Arr.mk k s n is).row2) _ ?_ C v he
      simp only [wkD]
      exact row2_row1 _
    | panicked _ => exact he.elim
    | outgrown => exact he.elim
termination_by a => SizeOf.sizeOf a
decreasing_by
  have := List.sizeOf_lt_of_mem hb'
  simp; omega
end Go.Proofs.YtjnifeedbgefpaaGreatDoor
namespace Go.Proofs.YtjnifeedbgefpaaGreatDoor
open Go Go.Ab
set_option maxRecDepth 100000
def fillA (k:Int):Arr := if k = 1 then .mk 1 [] [0] [] else if k = 2 then .mk 2 [] [32] [] else if k = 3 then .mk 3 [] [] [.mk 1 [0] [] []] else .mk 0 [] [] []
def nilS (w:Nat):D := .sl w 0 (fun _ => []) .nil
def fillD (k:Int):D :=
  if k = 1 then .agg [.int .i64 1,nilS 1,.sl 1 1 (fun i => [[D.int .i64 0]].getD i []) .full,nilS 1]
  else if k = 2 then .agg [.int .i64 2,nilS 1,.sl 1 1 (fun i => [[D.int .i64 32]].getD i []) .full,nilS 1]
  else if k = 3 then .agg [.int .i64 3,nilS 1,nilS 1,.sl 4 1 (fun i => [[D.int .i64 1,.sl 1 1 (fun i => [[D.int .i64 0]].getD i []) .full,nilS 1,nilS 1]].getD i []) .full]
  else .agg [.int .i64 0,nilS 1,nilS 1,nilS 1]
noncomputable def Efl:Senv := EC conAr 20 3 [4,5,9,13] (fun _ => ([],[]))
noncomputable section
def fi1q0:D := D.sl N1 N0 (fun (_x:Nat) => []) Mode.nil
def fi1q1:D := D.sl N1 N1 (fun (i:Nat) => List.getD [[ZI Z0]] i []) Mode.full
def fi1q2:List D := [fi1q0]
def fi1q3 (p0:Int):D := fillD p0
def fi1q4:List D := fi1q0 :: fi1q2
end
theorem fill_ok (k : Int) (ns nn ni : Nat) (f g h : Nat → List D) :
    ACalls Tryz.prog 116 [.agg [.int .i64 k,.sl 1 ns f .any,.sl 1 nn g .any,.sl 4 ni h .any]] ⟨[],[]⟩ (SpecR (sC [.agg [.int .i64 k,.sl 1 ns f .any,.sl 1 nn g .any,.sl 4 ni h .any]] (fillD k)) ()) := by
  refine con_of (A := sC _ _) (x := ()) (E := Efl) (eOk conAr_ok rfl) Tryz.func116 rfl (by kernel_rfl) rfl (by simp [sC,Efl,EC,E0]) ?_
  refine vc_eq (T :=
    ∀ (x:Nat),True→∀ (x_1:Nat),x ≠ x_1∧True→SM x∧ifB (k == Z1) (SM x_1∧(SM x_1∧True)∧∃ (y:Unit),True∧weakD (D.agg (ZI Z1 :: fi1q0 :: fi1q1 :: fi1q2)) (fi1q3 k)∧True∧True) (ifB (k == (2:Int)) (SM x_1∧(SM x_1∧True)∧∃ (y:Unit),True∧weakD (D.agg (ZI (2:Int) :: fi1q0 :: D.sl N1 N1 (fun (i:Nat) => List.getD [[ZI (32:Int)]] i []) Mode.full :: fi1q2)) (fi1q3 k)∧True∧True) (ifB (k == (3:Int)) (SM x_1∧(SM x_1∧True)∧∃ (y:Unit),True∧weakD (D.agg [ZI (3:Int),fi1q0,fi1q0,D.sl N4 N1 (fun (i:Nat) => List.getD [ZI Z1 :: fi1q1 :: fi1q4] i []) Mode.full]) (fi1q3 k)∧True∧True) (SM x_1∧(SM x_1∧True)∧∃ (y:Unit),True∧weakD (D.agg (ZI Z0 :: fi1q0 :: fi1q4)) (fi1q3 k)∧True∧True)))) (by kernel_rfl) ?_
  delta N0 N1 N4 SM Z0 Z1 ZI fi1q0 fi1q1 fi1q2 fi1q3 fi1q4
  simp only [ifB_iff,true_and,and_true,beq_iff_eq,beq_eq_false_iff_ne,ne_eq,exists_const,forall_const]
  intro _ _ _
  refine ⟨fun h => ?_,fun h1 => ⟨fun h => ?_,fun h2 => ⟨fun h => ?_,fun h3 => ?_⟩⟩⟩
  · subst h; exact weakD_refl _
  · subst h; exact weakD_refl _
  · subst h; exact weakD_refl _
  · simp only [fillD,if_neg h1,if_neg h2,if_neg h3]; exact weakD_refl _
theorem wk_nil {α:Type} [Inhabited α] (w:Nat) (g:α→List D):wkD (nilS 1) (gsl w g []) := by
  simp [nilS,gsl,wkD,chk,weakM,nilMB]
theorem wk_nilI:wkD (nilS 1) (isl [] .any) := by
  simp [nilS,isl,wkD,chk,weakM]
theorem wk_nil4:wkD (nilS 1) (.sl 4 ([]:List (List D)).length (fun i => ([]:List (List D)).getD i []) .any) := by
  simp [nilS,wkD,chk,weakM,nilMB]
theorem wk_one (z:Int):wkD (.sl 1 1 (fun i => [[D.int .i64 z]].getD i []) .full) (isl [z] .any) := by
  simp only [isl,wkD,chk_iff]
  refine ⟨by simp,by simp,fun i hi => ?_,by simp [weakM]⟩
  have:i = 0 := by omega
  subst this
  exact wkL_refl _
theorem fill_wk (k:Int):wkD (fillD k) (.agg (fillA k).row1) := by
  unfold fillD fillA
  split
  · simp only [wkD,wkL,Arr.row1,Arr.k,Arr.sh,Arr.nu,Arr.it]
    exact ⟨weakD_refl _,wk_nilI,wk_one _,wk_nil _ _,trivial⟩
  split
  · simp only [wkD,wkL,Arr.row1,Arr.k,Arr.sh,Arr.nu,Arr.it]
    exact ⟨weakD_refl _,wk_nilI,wk_one _,wk_nil _ _,trivial⟩
  split
  · simp only [wkD,wkL,Arr.row1,Arr.k,Arr.sh,Arr.nu,Arr.it]
    refine ⟨weakD_refl _,wk_nilI,wk_nilI,?_,trivial⟩
    simp only [gsl,wkD,chk_iff]
    refine ⟨by simp,by simp,fun i hi => ?_,by simp [weakM]⟩
    have:i = 0 := by omega
    subst this
    simp only [List.getD_cons_zero,Arr.row,wkL,wkD,rowsL]
    exact ⟨weakD_refl _,wk_one _,wk_nilI,wk_nil4,trivial⟩
  · simp only [wkD,wkL,Arr.row1,Arr.k,Arr.sh,Arr.nu,Arr.it]
    exact ⟨weakD_refl _,wk_nilI,wk_nilI,wk_nil _ _,trivial⟩
theorem wkRet {k:Nat} {ds:List D} {d d':D} (h:ACalls Tryz.prog k ds ⟨[],[]⟩ (SpecR (sC ds d) ())) (hw:wkD d d'):ACalls Tryz.prog k ds ⟨[],[]⟩ (SpecR (sC ds d') ()) := by
  refine ACalls.wkEnd h fun r S' ⟨y,q1,q2,q3⟩ => ?_
  subst q2 q3
  refine ⟨.ret d',fun C e he => ?_,⟨(),trivial,rfl,rfl⟩⟩
  cases e with
  | returned v => exact wkD_weak d d' hw C v he
  | panicked _ => exact he.elim
  | outgrown => exact he.elim
end Go.Proofs.YtjnifeedbgefpaaGreatDoor
namespace Go.Proofs.YtjnifeedbgefpaaGreatDoor
open Go Go.Ab
set_option maxRecDepth 100000
def atA (a:Arr) (i:Nat):Arr := if a.k = 3 then .mk 3 [] [] [a.it.getD i default] else .mk a.k [] [a.nu.getD i 0] []
def atD (a:Arr) (i:Nat):D :=
  if a.k = 3 then .agg [.int .i64 a.k,nilS 1,nilS 1,.sl 4 1 (fun j => [(a.it.getD i default).row1].getD j []) .full]
  else .agg [.int .i64 a.k,nilS 1,.sl 1 1 (fun j => [[D.int .i64 (a.nu.getD i 0)]].getD j []) .full,nilS 1]
noncomputable def Eat (a:Arr):Senv := EC (conCl a.it) 36 3 [4,12,16] (fun id => match id with | 4 => ([0,1,2,3,4,5,6,7,8,9,10],[7,8,10]) | 5 => ([0,1,2,3,4,5,6,7,8,9],[7,9]) | _ => ([],[]))
noncomputable section
def at1q0 (p0:Arr):Int := Arr.k p0
def at1q1 (p0:Arr):List Int := Arr.nu p0
def at1q2 (p0:Arr):Nat := LN (at1q1 p0)
def at1q3:D := D.sl N1 N0 (fun (_x:Nat) => []) Mode.nil
def at1q4:List D := [at1q3]
def at1q5 (p0:Nat) (p1:Arr) (p2:Nat):Prop := SM p0∧(SM p0∧True)∧∃ (_y:Unit),True∧weakD (D.agg (ZI Z0 :: at1q3 :: at1q3 :: at1q4)) (atD p1 p2)∧True∧True
def at1q6 (p0:Arr):List Arr := Arr.it p0
def at1q7 (p0:Arr):Nat := LN (at1q6 p0)
def at1q8:Arr := DA
def at1q9 (p0:Arr) (p1:Nat):Arr := List.getD (at1q6 p0) (Int.toNat (↑p1:Int)) at1q8
def at1q10 (p0:Arr) (p1:Nat):List Int := Arr.sh (at1q9 p0 p1)
def at1q11 (p0:Arr) (p1:Nat):Nat := LN (at1q10 p0 p1)
def at1q12 (p0:Arr) (p1:Nat):List D := [ZI (GI (Arr.sh p0) p1)]
def at1q13 (p0:Arr) (p1:Nat):List Int := Arr.nu (at1q9 p0 p1)
def at1q14 (p0:Arr) (p1:Nat):Nat := LN (at1q13 p0 p1)
def at1q15 (p0:Arr) (p1:Nat):List D := [ZI (GI (at1q1 p0) p1)]
def at1q16 (p0:Arr) (p1:Nat):List Arr := Arr.it (at1q9 p0 p1)
def at1q17 (p0:Arr) (p1:Nat):Nat := LN (at1q16 p0 p1)
def at1q18 (p0:Arr) (p1:Nat):List D := Arr.row (List.getD (at1q6 p0) p1 at1q8)
def at1q19 (p0:Arr):D := ZI (at1q0 p0)
def at1q20 (p0:Nat) (p1:Arr):Prop := SM p0∧SM (at1q19 p1)
def at1q21 (p0:Nat) (p1:Arr) (p2 p3:Nat):Prop := SM p0∧ifB (at1q0 p1 == (3:Int)) (SM p0∧SM p0∧side (Z0 ≤ (↑p2:Int)∧(↑p2:Int) < (NI (at1q7 p1))) (∃ (x:Arr),((Arr.k (at1q9 p1 p2) = at1q0 x∧(at1q11 p1 p2 = LN (Arr.sh x)∧(∀ (i:Nat),i < at1q11 p1 p2→[ZI (GI (at1q10 p1 p2) i)] = at1q12 x i)∧True)∧(at1q14 p1 p2 = at1q2 x∧(∀ (i:Nat),i < at1q14 p1 p2→[ZI (GI (at1q13 p1 p2) i)] = at1q15 x i)∧True)∧(at1q17 p1 p2 = at1q7 x∧(∀ (i:Nat),i < at1q17 p1 p2→Arr.row (List.getD (at1q16 p1 p2) i at1q8) = at1q18 x i)∧True)∧True)∧True)∧(True∧True)∧x ∈ at1q6 p1∧∀ (_y:Unit),True→at1q20 p0 p1∧at1q20 p0 p1∧SM p3∧(SM p3∧True)∧∃ (_y:Unit),True∧weakD (D.agg [at1q19 p1,at1q3,at1q3,D.sl N4 N1 (fun (i:Nat) => List.getD [[at1q19 x,D.sl N1 (LN (Arr.sh x)) (fun (i:Nat) => at1q12 x i) Mode.any,D.sl N1 (at1q2 x) (fun (i:Nat) => at1q15 x i) Mode.any,D.sl N4 (at1q7 x) (fun (i:Nat) => at1q18 x i) Mode.any]] i []) Mode.full]) (atD p1 p2)∧True∧True)) (SM p0∧SM p0∧side (Z0 ≤ (↑p2:Int)∧(↑p2:Int) < (NI (at1q2 p1))) (at1q20 p0 p1∧SM p3∧(SM p3∧True)∧∃ (_y:Unit),True∧weakD (D.agg (at1q19 p1 :: at1q3 :: D.sl N1 N1 (fun (i:Nat) => List.getD [[ZI (GI (at1q1 p1) (Int.toNat (↑p2:Int)))]] i []) Mode.full :: at1q4)) (atD p1 p2)∧True∧True))
def at1q22 (p0:Nat) (p1:Arr) (p2 p3 p4:Nat):Prop := SM p0∧True∧ifB (decide ((NI (at1q2 p1)) ≤ (↑p2:Int))) (at1q5 p3 p1 p2) (at1q21 p4 p1 p2 p3)
def at1q23 (p0:Arr) (p1 p2 p3 p4:Nat):Prop := ifB (at1q0 p0 == (3:Int)) (SM p1∧True∧ifB (decide ((NI (at1q7 p0)) ≤ (↑p2:Int))) (at1q5 p3 p0 p2) (at1q21 p4 p0 p2 p3)) (True∧at1q5 p3 p0 p2)
end
theorem at_step (a : Arr) (i : Nat) (hk : a.k = 1 ∨ a.k = 2 ∨ a.k = 3) (hi : (i : Int) < sizeR a.k a.nu.length a.it.length) (hc : ConOk Tryz.prog (conCl a.it)) :
    ACalls Tryz.prog 117 [.agg a.row2,.int .i64 i] ⟨[],[]⟩ (SpecR (sC [.agg a.row2,.int .i64 i] (atD a i)) ()) := by
  refine con_of (A := sC _ _) (x := ()) (E := Eat a) (eOk hc rfl) Tryz.func117 rfl (by kernel_rfl) rfl (by simp [sC,Eat,EC,E0]) ?_
  refine vc_eq (T :=
    ∀ (x:Nat),True→∀ (x_1:Nat),x ≠ x_1∧True→SM x∧∀ (x_2:Nat),x_1 ≠ x_2∧x ≠ x_2∧True→SM x_2∧ifB (at1q0 a == Z1) (ifB (at1q0 a == Z1) (at1q22 x_2 a i x_1 x) (at1q23 a x_2 i x_1 x)) (ifB (at1q0 a == (2:Int)) (at1q22 x_2 a i x_1 x) (at1q23 a x_2 i x_1 x))) (by kernel_rfl) ?_
  delta DA GI LN N0 N1 N4 NI SM Z0 Z1 ZI at1q0 at1q1 at1q10 at1q11 at1q12 at1q13 at1q14 at1q15 at1q16 at1q17 at1q18 at1q19 at1q2 at1q20 at1q21 at1q22 at1q23 at1q3 at1q4 at1q5 at1q6 at1q7 at1q8 at1q9
  have da:(default:Arr) = Arr.mk 0 [] [] [] := rfl
  simp only [← da,ifB_iff,side_iff,decide_eq_true_eq,decide_eq_false_iff_not,true_and,and_true,beq_iff_eq,beq_eq_false_iff_ne,ne_eq,exists_const,forall_const,Int.toNat_natCast]
  have h12:a.k ≠ 3→i < a.nu.length := fun h3 => by
    have h:a.k = 1∨a.k = 2 := by omega
    rw [sizeR,if_pos h] at hi; omega
  have h3:a.k = 3→i < a.it.length := fun h3 => by
    rw [sizeR,if_neg (by omega),if_pos h3] at hi; omega
  clear hi
  repeat' (first | intro _ | refine And.intro ?_ ?_)
  all_goals first
    | omega
    | (exfalso; omega)
    | exact ⟨a.it.getD i default,⟨rfl,⟨rfl,fun _ _ => rfl⟩,⟨rfl,fun _ _ => rfl⟩,rfl,fun _ _ => rfl⟩,mem_getD (by omega),by rw [atD,if_pos (by assumption)]; exact weakD_refl _⟩
    | (rw [atD,if_neg (by omega)]; exact weakD_refl _)
theorem at_wk (a:Arr) (i:Nat):wkD (atD a i) (.agg (atA a i).row1) := by
  unfold atD atA
  split
  · rename_i h3
    rw [h3]
    simp only [wkD,wkL,Arr.row1]
    refine ⟨weakD_refl _,wk_nilI,wk_nilI,?_,trivial⟩
    simp only [gsl,wkD,chk_iff]
    refine ⟨by simp,by simp [Arr.it],fun j hj => ?_,by simp [weakM]⟩
    have:j = 0 := by omega
    subst this
    simp only [List.getD_cons_zero,Arr.it]
    exact row1_row _
  · simp only [wkD,wkL,Arr.row1]
    exact ⟨weakD_refl _,wk_nilI,wk_one _,wk_nil _ _,trivial⟩
theorem form_kind {k:Int} {s:List Int} {nn ni:Nat} (h:formS k s nn ni = 0):k = 1∨k = 2∨k = 3 := by
  unfold formS at h
  by_cases hk:k = 1∨k = 2∨k = 3
  · exact hk
  · rw [if_neg hk] at h; simp at h
theorem chk_form {a:Arr} (h:(chkA a).1 = 0):formS a.k a.sh a.nu.length a.it.length = 0 := by
  cases a with
  | mk k s n is =>
    rw [chkA] at h
    by_cases h0:formS k s n.length is.length ≠ 0
    · rw [if_pos h0] at h; exact (h0 h).elim
    · exact Decidable.not_not.1 h0
theorem conCl_ok {a:Arr} (h:(chkA a).1 = 0):ConOk Tryz.prog (conCl a.it) := by
  intro k' ds S A hk
  unfold conCl at hk
  split at hk
  · injection hk with hk; subst hk
    refine ConOk.plain (fun (b:Arr) hb => ?_) rfl rfl
    cases a with
    | mk k s n is => exact (cl_all b ((chkA_zero h).2.2.2 b hb)).mono fun _ _ ⟨y,q1,q2,q3⟩ => ⟨y,q1,q2,q3⟩
  · cases hk
end Go.Proofs.YtjnifeedbgefpaaGreatDoor
namespace Go.Proofs.YtjnifeedbgefpaaGreatDoor
open Go Go.Ab
set_option maxRecDepth 100000
def jT (sep:List UInt8) (l:List (List UInt8)):List UInt8 := l.flatMap fun x => sep ++ x
theorem join_cons (x:List UInt8) (l:List (List UInt8)) (sep:List UInt8):Lib.join (x :: l) sep = x ++ jT sep l := by
  unfold Lib.join
  induction l generalizing x with
  | nil => simp [jT,List.intercalate]
  | cons y l ih =>
    have := ih y
    simp only [List.intercalate,List.intersperse_cons_cons,List.flatten_cons] at this ⊢
    rw [this]
    simp [jT]
theorem join_nil (sep:List UInt8):Lib.join [] sep = [] := by simp [Lib.join,List.intercalate]
def jR (sep:List UInt8) (i:Nat) (l:List (List UInt8)):List UInt8 := if i = 0 then Lib.join l sep else jT sep l
structure JHd (sep:List UInt8) (l:List (List UInt8)) (i:Nat) (out:List UInt8):Prop where
  hi:i ≤ l.length
  ho:out ++ jR sep i (l.drop i) = Lib.join l sep
theorem JHd.init (sep:List UInt8) (l:List (List UInt8)):JHd sep l 0 [] := ⟨Nat.zero_le _,by simp [jR]⟩
theorem drop_stepS {l:List (List UInt8)} {i:Nat} (h:i < l.length):l.drop i = l.getD i [] :: l.drop (i + 1) := by
  rw [List.drop_eq_getElem_cons h,List.getD_eq_getElem?_getD,List.getElem?_eq_getElem h]; rfl
theorem JHd.step0 {sep:List UInt8} {l:List (List UInt8)} {out:List UInt8} (h:JHd sep l 0 out) (hlt:0 < l.length):JHd sep l (0 + 1) (out ++ l.getD 0 []) := by
  refine ⟨by omega,?_⟩
  have := h.ho
  rw [drop_stepS hlt,jR,if_pos rfl,join_cons] at this
  rw [← this,jR,if_neg (by omega),List.append_assoc]
theorem JHd.step {sep:List UInt8} {l:List (List UInt8)} {i:Nat} {out:List UInt8} (h:JHd sep l i out) (h0:i ≠ 0) (hlt:i < l.length):JHd sep l (i + 1) (out ++ sep ++ l.getD i []) := by
  refine ⟨by omega,?_⟩
  have := h.ho
  rw [drop_stepS hlt,jR,if_neg h0] at this
  rw [← this,jR,if_neg (by omega)]
  simp [jT]
theorem JHd.len {sep:List UInt8} {l:List (List UInt8)} {i:Nat} {out:List UInt8} (h:JHd sep l i out):out.length ≤ (Lib.join l sep).length := by
  have := congrArg List.length h.ho
  simp only [List.length_append] at this; omega
theorem JHd.done {sep:List UInt8} {l:List (List UInt8)} {i:Nat} {out:List UInt8} (h:JHd sep l i out) (hge:¬ i < l.length):out = Lib.join l sep := by
  have := h.ho
  rw [List.drop_of_length_le (by omega)] at this
  have e:jR sep i [] = [] := by unfold jR; split <;> simp [jT,join_nil]
  rw [e,List.append_nil] at this
  exact this
def dimsB (l:List Int):List UInt8 := Lib.join (l.map showI) [32]
theorem jT_len (sep:List UInt8) (b:Nat):∀ l:List (List UInt8),(∀ x ∈ l,x.length ≤ b)→(jT sep l).length ≤ (sep.length + b) * l.length
  | [],_ => by simp [jT]
  | x :: l,h => by
    have h1 := jT_len sep b l fun y hy => h y (List.mem_cons_of_mem _ hy)
    have h2 := h x List.mem_cons_self
    simp only [jT,List.flatMap_cons,List.length_append,List.length_cons,Nat.mul_succ] at h1 ⊢
    omega
theorem join_len (sep:List UInt8) (b:Nat) (l:List (List UInt8)) (h:∀ x ∈ l,x.length ≤ b):(Lib.join l sep).length ≤ (sep.length + b) * l.length := by
  cases l with
  | nil => simp [join_nil]
  | cons x l =>
    have h1 := jT_len sep b l fun y hy => h y (List.mem_cons_of_mem _ hy)
    have h2 := h x List.mem_cons_self
    rw [join_cons]
    simp only [List.length_append,List.length_cons,Nat.mul_succ]
    omega
theorem dimsB_len {l:List Int} (h:∀ z ∈ l,inI64 z):(dimsB l).length ≤ 22 * l.length := by
  have := join_len [32] 21 (l.map showI) (fun x hx => by
    obtain ⟨z,hz,rfl⟩ := List.mem_map.1 hx
    exact (showI_len (h z hz)).2)
  simpa [dimsB] using this
theorem mapS {l:List Int} {i:Nat} (h:i < l.length):(l.map showI).getD i [] = showI (l.getD i 0) := by
  simp [List.getD_eq_getElem?_getD,List.getElem?_map,List.getElem?_eq_getElem h]
noncomputable def Ejn:Senv := EC conJn 5 1 [2] (fun _ => ([],[]))
noncomputable section
def fm6q7 (p0:List (List UInt8)):List (List UInt8) := strsOf (LN p0) fun (i:Nat) => [D.str (List.getD p0 i [])]
end
theorem fjoin_ok (l:List (List UInt8)) (h:joinOk l [32]):ACalls Tryz.prog 114 [ssl l .any] ⟨[],[]⟩ (SpecR (sC [ssl l .any] (.str (Lib.join l [32]))) ()) := by
  refine con_of (A := sC _ _) (x := ()) (E := Ejn) (eOk conJn_ok rfl) Tryz.func114 rfl (by kernel_rfl) rfl (by simp [sC,Ejn,EC,E0]) ?_
  refine vc_eq (T :=
    ((strsB (LN l) fun (i:Nat) => [D.str (List.getD l i [])]) = true∧joinOk (fm6q7 l) [(32:UInt8)])∧∀ (y:Unit),True→True∧∃ (y:Unit),True∧Lib.join (fm6q7 l) [(32:UInt8)] = Lib.join l [(32:UInt8)]∧True∧True) (by kernel_rfl) ?_
  delta LN fm6q7
  simp only [strsOf_eq (l := l) rfl (fun _ _ => rfl),strsB_eq (l := l) rfl (fun _ _ => rfl),h,and_true,exists_const,implies_true]
end Go.Proofs.YtjnifeedbgefpaaGreatDoor
namespace Go.Proofs.YtjnifeedbgefpaaGreatDoor
open Go Go.Ab
set_option maxRecDepth 100000
theorem tyB:Tryz.prog.underlying 101 = some (.pointer 104) := Tryz.underlying101
theorem tyU:Tryz.prog.underlying 141 = some .unsafePointer := Tryz.underlying141
theorem infoB:∃ j,Tryz.prog.info? 104 = some j∧j.size = 2 := Option.map_eq_some_iff.1 (show (Tryz.prog.info? 104).map (·.size) = some 2 by kernel_rfl)
theorem liesB:liesAt Tryz.prog Tryz.prog.depth 104 (2 / Tryz.prog.cellsOf 104) 0 104 1 = true := by kernel_rfl
theorem cc_used (b : Nat) (w : World) (h0 : w.cell? ⟨b, 0, none⟩ = some (.pointer (some ⟨b, 0, none⟩))) :
    Calls Tryz.prog 120 #[.pointer (some ⟨b,0,none⟩)] w fun e w' => e = .returned (.tuple #[])∧w' = w := by
  obtain ⟨j,hj,hjs⟩ := infoB
  go_enter Tryz.func120,Tryz.ntmps120
  go_wp2
  rw [Lib.run_neq_ptr_same w _ tyB hj]
  go_wp2
  go_end0
  exact ⟨rfl,rfl⟩
theorem cc_fresh (b : Nat) (w : World) (h0 : w.cell? ⟨b, 0, none⟩ = some (.pointer none)) (hsh : w.shape? b = some (104, 2)) (hfz : w.frozen? ⟨b, 0, none⟩ = false) :
    Calls Tryz.prog 120 #[.pointer (some ⟨b,0,none⟩)] w fun e w' => e = .returned (.tuple #[])∧w' = w.setCell ⟨b,0,none⟩ (.pointer (some ⟨b,0,none⟩)) := by
  obtain ⟨j,hj,hjs⟩ := infoB
  go_enter Tryz.func120,Tryz.ntmps120
  go_wp2
  rw [Lib.run_to_unsafe w ⟨b,0,none⟩ tyB tyU hj (by rw [hjs]; decide) hsh (Nat.zero_lt_succ 1)]
  simp only [Result.andThen]
  rw [Oper.upon_value]
  go_wp2
  rw [run_callFunc_extern Tryz.func141 (by kernel_rfl) (by kernel_rfl) (by kernel_rfl) (e := Extern.AbiNoEscape.same) (by kernel_rfl)]
  rw [Lib.run_noEscape]
  simp only [Result.andThen]
  rw [Oper.upon_value]
  go_wp2
  rw [Lib.run_from_unsafe w ⟨b,0,none⟩ tyU tyB hj hsh liesB]
  simp only [Result.andThen]
  rw [Oper.upon_value]
  go_wp2
  go_end0
  exact ⟨rfl,rfl⟩
def sCc (k x E:Nat) (d:D):FnSpec where
  β := Unit
  α := Unit
  args := fun _ => [.ref k x 0]
  st := fun _ => ⟨[(k,x,.bld 104 E d)],[]⟩
  pre := fun _ => True
  post := fun _ _ => True
  res := fun _ _ => .ret (.tup [])
  out := fun _ _ => ⟨[(k,x,.bld 104 E d)],[]⟩
theorem cc_ok (k x E:Nat) (d:D):ACalls Tryz.prog 120 ((sCc k x E d).args ()) ((sCc k x E d).st ()) (SpecR (sCc k x E d) ()) := by
  refine ⟨⟨_,Tryz.func120,by kernel_rfl,by kernel_rfl⟩,fun C F args w ha hs => ?_⟩
  obtain ⟨u,e,hu⟩ := repL_one' ha
  have e2:args = [u].toArray := by rw [← e]
  subst e2
  simp only [Rep] at hu
  subst hu
  have hg:getO ((sCc k x E d).st ()).objs k = some (x,.bld 104 E d) := by simp [sCc,getO]
  obtain ⟨c1,c2,v0,v1,fz,h1,h2,h3,h4,h5⟩ := hs.obj_of hg
  have fin:∀ w',Sat C (((sCc k x E d).st ()).add F) w'→∃ C' r S',C.le C'∧Sat C' (S'.add F) w'∧RepEnd C' r (.returned (.tuple #[]))∧SpecR (sCc k x E d) () r S' := fun w' h =>
    ⟨C,.ret (.tup []),_,.refl C,h,by simp [RepEnd,Rep,RepL],(),trivial,rfl,rfl⟩
  rcases h3 with rfl | rfl
  · have hc:w.cell? ⟨x,0,none⟩ = some (.pointer none) := by rw [cell_of_heap h1]; rfl
    have hsh:w.shape? x = some (104,2) := by simp [World.shape?,h1]
    have hfz:w.frozen? ⟨x,0,none⟩ = false := frozen_of_heap h1 h2 (by simp)
    refine (cc_fresh x w hc hsh hfz).mono fun e w' ⟨he,hw⟩ => ?_
    subst he hw
    refine fin _ ?_
    have hr := setCell_heap h1 (o := 0) (.pointer (some ⟨x,0,none⟩))
    have := hs.replace (o' := .bld 104 E d) (w' := w.setCell ⟨x,0,none⟩ (.pointer (some ⟨x,0,none⟩))) hg (by simp) (fun j hj => Go.RowKit.Below.heap_setCell _ _ _ _ hj) rfl rfl rfl ⟨.pointer (some ⟨x,0,none⟩),v1,fz,by simpa using hr,by simpa using h2.set 0 (.pointer (some ⟨x,0,none⟩)),.inr rfl,h4,h5⟩
    simpa [sCc,St.set,setO] using this
  · have hc:w.cell? ⟨x,0,none⟩ = some (.pointer (some ⟨x,0,none⟩)) := by rw [cell_of_heap h1]; rfl
    refine (cc_used x w hc).mono fun e w' ⟨he,hw⟩ => ?_
    subst he hw
    exact fin _ hs
end Go.Proofs.YtjnifeedbgefpaaGreatDoor
namespace Go.Proofs.YtjnifeedbgefpaaGreatDoor
open Go Go.Ab
set_option maxRecDepth 100000
def conCc:Con := fun k ds S => match k with
  | 120 => match ds with
    | [.ref k x 0] => match getO S.objs k with
      | some (y,.bld T E d) => some ((sCc k x E d).fits () (y = x∧T = 104∧tokD d = true))
      | _ => none
    | _ => none
  | _ => none
theorem conCc_ok:ConOk Tryz.prog conCc := by
  intro k ds S A h
  unfold conCc at h
  split at h
  · split at h
    · rename_i k x
      split at h
      · rename_i y T E d hg
        injection h with h; subst h
        refine ⟨fun _ _ => cc_ok k x E d,fun _ _ hy => ?_,fun h => nomatch h⟩
        obtain ⟨⟨rfl,rfl,ht⟩,_⟩ := hy
        refine ⟨⟨by simp [weakD,chk],trivial⟩,chk_iff.2 ⟨rfl,?_,trivial⟩⟩
        simp only [FnSpec.fits,sCc,leO,hg]
        exact ⟨trivial,chk_iff.2 ⟨by simp [ht],weakD_refl _⟩,trivial⟩
      · cases h
    · cases h
  · cases h
def sWs (f:List UInt8) (E x t:Nat) (l:List UInt8) (r:AEnd) (ar:List D):FnSpec where
  β := Unit
  α := Nat
  args := fun _ => .ref 0 x 0 :: ar
  st := fun _ => ⟨[(0,x,.bld 104 E (bsl l (.tok 0 t)))],[(0,t)]⟩
  pre := fun _ => True
  post := fun _ _ => True
  res := fun _ _ => r
  out := fun _ t' => ⟨[(0,x,.bld 104 E (bsl (l ++ f) (.tok 0 t')))],[(0,t')]⟩
noncomputable def Ews:Senv := { EC conCc 19 2 [4,5] (fun _ => ([],[])) with own := fun t => Nat.beq t 102 }
theorem ws_ok (x t : Nat) (l s : List UInt8) (hl : l.length + s.length ≤ 140737488355328) :
    ACalls Tryz.prog 97 ((sWs s 5 x t l (.ret (.tup [.int .i64 s.length,.nili])) [.str s]).args ()) ((sWs s 5 x t l (.ret (.tup [.int .i64 s.length,.nili])) [.str s]).st ()) (SpecR (sWs s 5 x t l (.ret (.tup [.int .i64 s.length,.nili])) [.str s]) ()) := by
  refine con_of (A := sWs s 5 x t l (.ret (.tup [.int .i64 s.length,.nili])) [.str s]) (x := ()) (E := Ews) (eOk conCc_ok rfl) Tryz.func97 rfl (by kernel_rfl) rfl (by simp [sWs,Ews,EC,E0]) ?_
  refine vc_eq (T :=
    ((SM x∧SM (104:Nat)∧SM true)∧True)∧∀ (y:Unit),True→SM x∧SM t∧side ((LN l + LN s) * N1 ≤ (140737488355328:Nat)∧LN l + LN s ≤ (9223372036854775807:Nat)) (∀ (t1:Nat),(t % (1000003:Nat) = N6→t1 % (1000003:Nat) = N6)→SM x∧(t % (1000003:Nat) = N6→t1 % (1000003:Nat) = N6)∧True∧∃ (y:Nat),True∧(SM (LI s)∧True∧True)∧(SM x∧(LN l + LN s = LN (l ++ s)∧(∀ (i:Nat),i < LN l + LN s→appF (LN l) (fun (i:Nat) => [ZB (BI l i)]) (fun (i:Nat) => [ZB (BI s i)]) i = [ZB (BI (l ++ s) i)])∧t1 = y)∧True)∧t1 = y∧True)) (by kernel_rfl) ?_
  delta BI LI LN N1 N6 SM U0 ZB
  refine ⟨⟨⟨rfl,rfl,rfl⟩,trivial⟩,fun _ _ => ⟨rfl,rfl,?_⟩⟩
  rw [side_iff]
  exact ⟨by omega,fun t1 ht => ⟨rfl,ht,trivial,t1,trivial,⟨rfl,trivial,trivial⟩,⟨rfl,⟨by rw [List.length_append],app_gen rfl (fun _ _ => rfl) (fun _ _ => rfl),rfl⟩,trivial⟩,rfl,trivial⟩⟩
noncomputable def Ewb:Senv := { EC conCc 17 2 [4] (fun _ => ([],[])) with own := fun t => Nat.beq t 102 }
theorem wb_ok (x t : Nat) (l : List UInt8) (b : UInt8) (hl : l.length + 1 ≤ 140737488355328) :
    ACalls Tryz.prog 140 ((sWs [b] 5 x t l (.ret .nili) [.int .u8 (b.toNat:Int)]).args ()) ((sWs [b] 5 x t l (.ret .nili) [.int .u8 (b.toNat:Int)]).st ()) (SpecR (sWs [b] 5 x t l (.ret .nili) [.int .u8 (b.toNat:Int)]) ()) := by
  refine con_of (A := sWs [b] 5 x t l (.ret .nili) [.int .u8 (b.toNat:Int)]) (x := ()) (E := Ewb) (eOk conCc_ok rfl) Tryz.func140 rfl (by kernel_rfl) rfl (by simp [sWs,Ewb,EC,E0]) ?_
  refine vc_eq (T :=
    ((SM x∧SM (104:Nat)∧SM true)∧True)∧∀ (y:Unit),True→SM x∧SM t∧side ((LN l + N1) * N1 ≤ (140737488355328:Nat)∧LN l + N1 ≤ (9223372036854775807:Nat)) (∀ (t1:Nat),(t % (1000003:Nat) = N6→t1 % (1000003:Nat) = N6)→SM x∧(t % (1000003:Nat) = N6→t1 % (1000003:Nat) = N6)∧True∧∃ (y:Nat),True∧True∧(SM x∧(LN l + N1 = LN (l ++ [b])∧(∀ (i:Nat),i < LN l + N1→appF (LN l) (fun (i:Nat) => [ZB (BI l i)]) (fun (i:Nat) => List.getD [[ZB (NI (UInt8.toNat b))]] i []) i = [ZB (BI (l ++ [b]) i)])∧t1 = y)∧True)∧t1 = y∧True)) (by kernel_rfl) ?_
  delta BI LN N1 N6 NI SM U0 ZB
  refine ⟨⟨⟨rfl,rfl,rfl⟩,trivial⟩,fun _ _ => ⟨rfl,rfl,?_⟩⟩
  rw [side_iff]
  exact ⟨by omega,fun t1 ht => ⟨rfl,ht,trivial,t1,trivial,trivial,⟨rfl,⟨by simp,app_row' rfl (fun _ _ => rfl) rfl,rfl⟩,trivial⟩,rfl,trivial⟩⟩
def sBw (f:List UInt8) (k kt x t:Nat) (l:List UInt8) (r:AEnd) (ar:List D):FnSpec where
  β := Unit
  α := Nat
  args := fun _ => .ref k x 0 :: ar
  st := fun _ => ⟨[(k,x,.bld 104 5 (bsl l (.tok kt t)))],[(kt,t)]⟩
  pre := fun _ => True
  post := fun _ _ => True
  res := fun _ _ => r
  out := fun _ t' => ⟨[(k,x,.bld 104 5 (bsl (l ++ f) (.tok kt t')))],[(kt,t')]⟩
theorem bw_of {g : Nat} {f : List UInt8} (k kt x t : Nat) {l : List UInt8} {r : AEnd} {ar : List D} (h : ACalls Tryz.prog g ((sWs f 5 x t l r ar).args ()) ((sWs f 5 x t l r ar).st ()) (SpecR (sWs f 5 x t l r ar) ())) :
    ACalls Tryz.prog g ((sBw f k kt x t l r ar).args ()) ((sBw f k kt x t l r ar).st ()) (SpecR (sBw f k kt x t l r ar) ()) := by
  refine h.respec (A' := sBw f k kt x t l r ar) (x' := ()) ?_ ?_ fun y _ => ⟨y,trivial,?_,?_⟩
  · simp [sBw,sWs,weakL,weakD,chk,weakL_refl]
  · simp [sBw,sWs,posS,posO,posT,weakO,weakD,chk,bsl,weakM,tokD]
  · simp only [sBw,sWs]; cases r <;> simp [weakEnd,weakD_refl]
  · simp [sBw,sWs,posS,posO,posT,weakO,weakD,chk,bsl,weakM,tokD]; rfl
end Go.Proofs.YtjnifeedbgefpaaGreatDoor
namespace Go.Proofs.YtjnifeedbgefpaaGreatDoor
open Go Go.Ab
set_option maxRecDepth 100000
theorem str_some (b g cap cs : Nat) (p : Value) (fz : Nat × Nat) (arr : Array Value) (fg : Nat × Nat) (l : List UInt8) (w : World) (h0 : l ≠ []) (hn : l.length ≤ cap) (hcs : l.length ≤ arr.size) (h63 : l.length ≤ 9223372036854775807)
    (hbk:w.heap[b]? = some (.cells #[p,.slice (some ⟨g,0,none⟩) l.length cap] cs fz)) (hg:w.heap[g]? = some (.cells arr 5 fg))
    (hcell:∀ j x,l[j]? = some x→w.cell? ⟨g,j,none⟩ = some (.int .u8 x.toNat)) :
    Calls Tryz.prog 98 #[.pointer (some ⟨b,0,none⟩)] w fun e w' => e = .returned (.string ⟨l.toArray⟩)∧w' = w.drew.freeze ⟨g,0,none⟩ l.length := by
  have hl0:l.length ≠ 0 := by simpa using h0
  have c1:w.drew.cell? ⟨b,1,none⟩ = some (.slice (some ⟨g,0,none⟩) l.length cap) := by
    have:w.drew.heap[b]? = some (.cells #[p,.slice (some ⟨g,0,none⟩) l.length cap] cs fz) := hbk
    rw [cell_of_heap this]; rfl
  have hSD:(Builtin.unsafeSliceData_ #[102] 128 #[.slice (some ⟨g,0,none⟩) l.length cap]).run Tryz.prog w.drew = .ok (.pointer (some ⟨g,0,none⟩)) w.drew :=
    Lib.run_unsafeSliceData_row _ _ _ _ _ _ (by omega)
  have hUS:(Builtin.unsafeString_ #[128,3] 9 #[.pointer (some ⟨g,0,none⟩),.int .i64 l.length]).run Tryz.prog w.drew = .ok (.string ⟨l.toArray⟩) (w.drew.freeze ⟨g,0,none⟩ l.length) := by
    refine Lib.run_unsafeString_row w.drew 128 3 9 5 Tryz.underlying128 (by kernel_rfl) g arr.size (by have hg':w.drew.heap[g]? = some (.cells arr 5 fg) := hg; simp [World.shape?,hg']) l h0 hcs h63 ?_
    intro j x hx
    have e:w.drew.cell? ⟨g,j,none⟩ = some (.int .u8 x.toNat) := hcell j x hx
    have e2:(if j = 0 then (⟨g,0,none⟩:Addr) else ⟨g,j,none⟩) = ⟨g,j,none⟩ := by split <;> simp_all
    simpa [Addr.add,e2] using e
  have mixed:Tryz.prog.follows .mixedOrders = true := by kernel_rfl
  go_enter Tryz.func98,Tryz.ntmps98
  go_wp2
  go_region_o
  all_goals (go_wp2; go_ret; exact ⟨rfl,rfl⟩)
theorem str_nil (b cs : Nat) (p : Value) (fz : Nat × Nat) (w : World) (hbk : w.heap[b]? = some (.cells #[p, .slice none 0 0] cs fz)) :
    Calls Tryz.prog 98 #[.pointer (some ⟨b,0,none⟩)] w fun e w' => e = .returned (.string ⟨#[]⟩)∧Go.RowKit.Below w.heap.size w w' := by
  have hUS:∀ W,(Builtin.unsafeString_ #[128,3] 9 #[.pointer none,.int .i64 0]).run Tryz.prog W = .ok (.string .empty) W := fun W => Lib.run_unsafeString_none W _ _ _ none
  have c1:w.drew.cell? ⟨b,1,none⟩ = some (.slice none 0 0) := by
    have:w.drew.heap[b]? = some (.cells #[p,.slice none 0 0] cs fz) := hbk
    rw [cell_of_heap this]; rfl
  have hSD:(Builtin.unsafeSliceData_ #[102] 128 #[.slice none 0 0]).run Tryz.prog w.drew = .ok (.pointer none) w.drew := Lib.run_unsafeSliceData_nil _ _ _ _ _
  have mixed:Tryz.prog.follows .mixedOrders = true := by kernel_rfl
  go_enter Tryz.func98,Tryz.ntmps98
  go_wp2
  go_region_o
  all_goals (go_wp2; go_ret; exact ⟨rfl,Go.RowKit.Below.drew (Go.RowKit.Below.refl _ w)⟩)
theorem str_room (b g cap cs : Nat) (p : Value) (fz : Nat × Nat) (w : World) (hc0 : cap ≠ 0) (hbk : w.heap[b]? = some (.cells #[p, .slice (some ⟨g, 0, none⟩) 0 cap] cs fz)) :
    Calls Tryz.prog 98 #[.pointer (some ⟨b,0,none⟩)] w fun e w' => e = .returned (.string ⟨#[]⟩)∧Go.RowKit.Below w.heap.size w w' := by
  have hUS:∀ W,(Builtin.unsafeString_ #[128,3] 9 #[.pointer (some ⟨g,0,none⟩),.int .i64 0]).run Tryz.prog W = .ok (.string .empty) W := fun W => Lib.run_unsafeString_none W _ _ _ _
  have c1:w.drew.cell? ⟨b,1,none⟩ = some (.slice (some ⟨g,0,none⟩) 0 cap) := by
    have:w.drew.heap[b]? = some (.cells #[p,.slice (some ⟨g,0,none⟩) 0 cap] cs fz) := hbk
    rw [cell_of_heap this]; rfl
  have hSD:(Builtin.unsafeSliceData_ #[102] 128 #[.slice (some ⟨g,0,none⟩) 0 cap]).run Tryz.prog w.drew = .ok (.pointer (some ⟨g,0,none⟩)) w.drew :=
    Lib.run_unsafeSliceData_row _ _ _ _ _ _ hc0
  clear hc0
  have mixed:Tryz.prog.follows .mixedOrders = true := by kernel_rfl
  go_enter Tryz.func98,Tryz.ntmps98
  go_wp2
  go_region_o
  all_goals (go_wp2; go_ret; exact ⟨rfl,Go.RowKit.Below.drew (Go.RowKit.Below.refl _ w)⟩)
theorem str_noroom (b g cs : Nat) (p : Value) (fz fg : Nat × Nat) (arr : Array Value) (E : Nat) (w : World) (hg : w.heap[g]? = some (.cells arr E fg)) (hbk : w.heap[b]? = some (.cells #[p, .slice (some ⟨g, 0, none⟩) 0 0] cs fz)) :
    Calls Tryz.prog 98 #[.pointer (some ⟨b,0,none⟩)] w fun e w' => e = .returned (.string ⟨#[]⟩)∧Go.RowKit.Below w.heap.size w w' := by
  have hUS:∀ W q,(Builtin.unsafeString_ #[128,3] 9 #[.pointer q,.int .i64 0]).run Tryz.prog W = .ok (.string .empty) W := fun W q => Lib.run_unsafeString_none W _ _ _ q
  have hb:b < w.heap.size := (Array.getElem?_eq_some_iff.1 hbk).1
  have c1:w.drew.cell? ⟨b,1,none⟩ = some (.slice (some ⟨g,0,none⟩) 0 0) := by
    have:w.drew.heap[b]? = some (.cells #[p,.slice (some ⟨g,0,none⟩) 0 0] cs fz) := hbk
    rw [cell_of_heap this]; rfl
  have c0:w.cell? ⟨b,1,none⟩ = some (.slice (some ⟨g,0,none⟩) 0 0) := c1
  have hSD:(Builtin.unsafeSliceData_ #[102] 128 #[.slice (some ⟨g,0,none⟩) 0 0]).run Tryz.prog w.drew = .ok (.pointer (some ⟨w.drew.heap.size,0,none⟩)) (w.drew.alloc (.view ⟨g,0,none⟩ 5)) :=
    Lib.run_unsafeSliceData_zero _ _ _ _ Tryz.underlying128 _ _ (E,arr.size) (by have hg':w.drew.heap[g]? = some (.cells arr E fg) := hg; simp [World.shape?,hg'])
  have hSD0:(Builtin.unsafeSliceData_ #[102] 128 #[.slice (some ⟨g,0,none⟩) 0 0]).run Tryz.prog w = .ok (.pointer (some ⟨w.heap.size,0,none⟩)) (w.alloc (.view ⟨g,0,none⟩ 5)) :=
    Lib.run_unsafeSliceData_zero _ _ _ _ Tryz.underlying128 _ _ (E,arr.size) (by simp [World.shape?,hg])
  have c2:(w.drew.alloc (.view ⟨g,0,none⟩ 5)).cell? ⟨b,1,none⟩ = some (.slice (some ⟨g,0,none⟩) 0 0) := by
    rw [World.cell?_alloc_lt _ _ _ hb]; exact c1
  have c3:(w.alloc (.view ⟨g,0,none⟩ 5)).drew.cell? ⟨b,1,none⟩ = some (.slice (some ⟨g,0,none⟩) 0 0) := c2
  have mixed:Tryz.prog.follows .mixedOrders = true := by kernel_rfl
  go_enter Tryz.func98,Tryz.ntmps98
  go_wp2
  go_region_o
  all_goals (go_wp2; go_ret; exact ⟨rfl,(Go.RowKit.Below.drew (Go.RowKit.Below.refl _ w)).alloc (Nat.le_refl _) _⟩)
theorem sat_freeze {C:Ctx} {S:St} {w:World} {g n:Nat} (H:Sat C S w) (hg:C.w0.heap.size ≤ g) (ho:∀ p ∈ S.objs,p.2.1 ≠ g) (ht:∀ t ∈ S.toks,∀ x,C.tok t.2 = some x→¬ x.clash g):Sat C S (w.freeze ⟨g,0,none⟩ n) := by
  have hne:∀ k,k ≠ g→(w.freeze ⟨g,0,none⟩ n).heap[k]? = w.heap[k]? := by
    intro k hk
    unfold World.freeze; split <;> simp [Array.getElem?_modify,Ne.symm hk]
  have hcell:∀ a,(w.freeze ⟨g,0,none⟩ n).cell? a = w.cell? a := by
    intro a
    unfold World.cell?
    by_cases e:a.block = g
    · rw [e]
      unfold World.freeze
      by_cases h0:n = 0
      · rw [if_pos h0]
      · rw [if_neg h0]
        simp only [Array.getElem?_modify,if_true]
        cases w.heap[g]? with
        | none => rfl
        | some o => cases o <;> rfl
    · rw [hne _ e]
  refine ⟨H.below.trans ⟨by unfold World.freeze; split <;> rfl,by unfold World.freeze; split <;> rfl,by unfold World.freeze; split <;> rfl,by unfold World.freeze; split <;> simp,fun k hk => hne k (by omega)⟩,fun b o v h => (hcell _).trans (H.imm b o v h),H.one,fun p hp => ?_,H.nodup,fun t htm => ?_,H.tnodup,H.tfin,H.tdist⟩
  · obtain ⟨h1,h2,h3⟩ := H.objs p hp
    exact ⟨h1,h2,h3.of_heap (hne _ (ho p hp))⟩
  · obtain ⟨x,h1,h2,h3⟩ := H.toks t htm
    exact ⟨x,h1,h2.of_heap fun b hb => hne b fun e => ht t htm x h1 (e ▸ hb),h3⟩
def sBs (k kt x t:Nat) (l:List UInt8):FnSpec where
  β := Unit
  α := Unit
  args := fun _ => [.ref k x 0]
  st := fun _ => ⟨[(k,x,.bld 104 5 (bsl l (.tok kt t)))],[(kt,t)]⟩
  pre := fun _ => True
  post := fun _ _ => True
  res := fun _ _ => .ret (.str l)
  out := fun _ _ => ⟨[],[]⟩
theorem bstr_ok (k kt x t:Nat) (l:List UInt8) (h63:l.length ≤ 9223372036854775807):ACalls Tryz.prog 98 ((sBs k kt x t l).args ()) ((sBs k kt x t l).st ()) (SpecR (sBs k kt x t l) ()) := by
  refine ⟨⟨_,Tryz.func98,by kernel_rfl,by kernel_rfl⟩,fun C F args w ha hs => ?_⟩
  obtain ⟨u,e,hu⟩ := repL_one' ha
  have e2:args = [u].toArray := by rw [← e]
  subst e2
  simp only [Rep] at hu
  subst hu
  have hg:getO ((sBs k kt x t l).st ()).objs k = some (x,.bld 104 5 (bsl l (.tok kt t))) := by simp [sBs,getO]
  obtain ⟨c1,c2,v0,v1,fz,h1,h2,h3,h4,h5⟩ := hs.obj_of hg
  have h5:tokE t = 5 + 1 := h5
  simp only [bsl,Rep] at h4
  obtain ⟨a,len,cap,rfl,hh,hr⟩ := h4
  have hlen:len = l.length := hh.1
  subst hlen
  have hF:Sat C F w := by
    have h := hs.le (S' := ⟨[],[]⟩) ⟨List.nil_sublist _,List.nil_sublist _⟩
    simpa [St.add] using h
  have fin:∀ w',Sat C F w'→∃ C' r S',C.le C'∧Sat C' (S'.add F) w'∧RepEnd C' r (.returned (.string ⟨l.toArray⟩))∧SpecR (sBs k kt x t l) () r S' := fun w' h =>
    ⟨C,.ret (.str l),⟨[],[]⟩,.refl C,h,by simp [RepEnd,Rep],(),trivial,rfl,rfl⟩
  have h6 := hh.2.2.2.2.2
  have hcap:l.length ≤ cap := hh.2.1
  simp only at h6
  have hmem:(kt,t) ∈ (((sBs k kt x t l).st ()).add F).toks := by simp [sBs,St.add]
  obtain ⟨q,q1,q2,q3⟩ := hs.toks (kt,t) hmem
  simp only at q1
  rw [q1] at h6
  cases q with
  | no =>
    simp only at h6
    have ha0:a = none := h6.2 (by rw [h5]; omega)
    subst ha0
    have hl0 := (hh.2.2.2.1 rfl)
    have hl:l = [] := List.length_eq_zero_iff.1 hl0.1
    subst hl
    obtain rfl:cap = 0 := hl0.2
    refine (str_nil x _ v0 fz w h1).mono fun e w' ⟨he,hb⟩ => ?_
    subst he
    exact fin w' (hF.kept hb)
  | «at» g n cp wd =>
    obtain ⟨rfl,rfl,rfl,rfl⟩ := h6
    obtain ⟨p1,p2,arr,E,fg,p3,p4,p5,p6⟩ := q2
    have hE:E = 5 := Nat.succ.inj ((p6 (by simp only; rw [h5]; omega)).trans h5)
    subst hE
    by_cases hl:l = []
    · subst hl
      by_cases hc:cp = 0
      · subst hc
        refine (str_noroom x g _ v0 fz fg arr _ w p3 h1).mono fun e w' ⟨he,hb⟩ => ?_
        subst he
        exact fin w' (hF.kept hb)
      · refine (str_room x g cp _ v0 fz w hc h1).mono fun e w' ⟨he,hb⟩ => ?_
        subst he
        exact fin w' (hF.kept hb)
    · refine (str_some x g cp _ v0 fz arr fg l w hl hcap (by rw [p5]; omega) h63 h1 p3 fun j y hy => ?_).mono fun e w' ⟨he,hw⟩ => ?_
      · have hj:j < l.length := (List.getElem?_eq_some_iff.1 hy).1
        have hrow := (hr ⟨g,0,none⟩ rfl j hj).2
        simp only [RepCells] at hrow
        obtain ⟨⟨v,i1,i2⟩,_⟩ := hrow
        simp only [Rep] at i2
        subst i2
        have := hs.imm _ _ _ i1
        have e:l.getD j 0 = y := by rw [List.getD_eq_getElem?_getD,hy]; rfl
        rw [e] at this
        simpa using this
      · subst he hw
        refine fin _ (sat_freeze hF.drew p1 (fun p hp e => q3 p (by simp [St.add,hp]) e.symm) fun s hs2 y hy hcl => ?_)
        cases y with
        | no => exact hcl
        | «at» b' n' c' wd' =>
          have hcl:b' = g := hcl
          have hnd := hs.tnodup
          simp only [St.add,sBs,List.cons_append,List.nil_append,List.map_cons,List.nodup_cons] at hnd
          have hne:t ≠ s.2 := fun e => hnd.1 (e ▸ List.mem_map_of_mem hs2)
          exact hs.tdist (kt,t) s _ _ _ _ _ _ _ _ hmem (by simp [St.add,hs2]) hne q1 hy hcl.symm
end Go.Proofs.YtjnifeedbgefpaaGreatDoor
namespace Go.Proofs.YtjnifeedbgefpaaGreatDoor
open Go Go.Ab
set_option maxRecDepth 100000
def tokIs (ts:List (Nat × Nat)) (kt t:Nat):Prop :=
  match getT ts kt with
  | some t' => t' = t
  | none => False
def bFit (ts:List (Nat × Nat)) (x y T E kt t n:Nat) (g:Nat→List D):Prop := y = x∧T = 104∧E = 5∧tokIs ts kt t∧rowsB n g = true
def byteU (z:Int):UInt8 := UInt8.ofNat z.toNat
def conBd:Con := fun k ds S => match k with
  | 97 => match ds with
    | [.ref k x 0,.str s] => match getO S.objs k with
      | some (y,.bld T E (.sl 1 n g (.tok kt t))) => some ((sBw s k kt x t (bytesOf n g) (.ret (.tup [.int .i64 s.length,.nili])) [.str s]).fits () (bFit S.toks x y T E kt t n g∧n + s.length ≤ 140737488355328))
      | _ => none
    | _ => none
  | 140 => match ds with
    | [.ref k x 0,.int .u8 z] => match getO S.objs k with
      | some (y,.bld T E (.sl 1 n g (.tok kt t))) => some ((sBw [byteU z] k kt x t (bytesOf n g) (.ret .nili) [.int .u8 z]).fits () (bFit S.toks x y T E kt t n g∧(0 ≤ z∧z ≤ 255)∧n + 1 ≤ 140737488355328))
      | _ => none
    | _ => none
  | 98 => match ds with
    | [.ref k x 0] => match getO S.objs k with
      | some (y,.bld T E (.sl 1 n g (.tok kt t))) => some ((sBs k kt x t (bytesOf n g)).fits () (bFit S.toks x y T E kt t n g∧n ≤ 140737488355328))
      | _ => none
    | _ => none
  | k => conJn k ds S
theorem byteU_nat {z:Int} (h:0 ≤ z∧z ≤ 255):((byteU z).toNat:Int) = z := by
  unfold byteU
  rw [UInt8.toNat_ofNat']; omega
theorem leO_bld {os : List (Nat × Nat × AObj)} {k x y T E n kt t : Nat} {g : Nat → List D} (hg : getO os k = some (y, .bld T E (.sl 1 n g (.tok kt t)))) (h1 : y = x) (h2 : T = 104) (h3 : E = 5) (hr : rowsB n g = true) :
    leO [(k,x,.bld 104 5 (bsl (bytesOf n g) (.tok kt t)))] os := by
  subst h1 h2 h3
  simp only [leO,hg,weakO]
  exact ⟨trivial,chk_iff.2 ⟨by simp [tokD,bsl],bsl_weak hr⟩,trivial⟩
theorem leT_tok {ts:List (Nat × Nat)} {kt t:Nat} (h:tokIs ts kt t):leT [(kt,t)] ts := by
  unfold tokIs at h
  simp only [leT]
  split at h
  · rename_i t' e; rw [e]; exact ⟨h,trivial⟩
  · exact h.elim
theorem conBd_ok:ConOk Tryz.prog conBd := by
  intro k ds S A h
  unfold conBd at h
  split at h
  · split at h
    · split at h
      · rename_i k x s _ y T E n g kt t hg
        injection h with h; subst h
        have key:∀ p:n + s.length ≤ 140737488355328,ACalls Tryz.prog 97 ((sBw s k kt x t (bytesOf n g) (.ret (.tup [.int .i64 s.length,.nili])) [.str s]).args ()) ((sBw s k kt x t (bytesOf n g) (.ret (.tup [.int .i64 s.length,.nili])) [.str s]).st ()) (SpecR (sBw s k kt x t (bytesOf n g) (.ret (.tup [.int .i64 s.length,.nili])) [.str s]) ()) := fun p =>
          bw_of k kt x t (ws_ok x t (bytesOf n g) s (by simpa [bytesOf] using p))
        refine ⟨fun _ hy => key hy.1.2,fun _ _ hy => ?_,fun h => nomatch h⟩
        obtain ⟨⟨⟨h1,h2,h3,h4,h5⟩,_⟩,_⟩ := hy
        exact ⟨⟨by simp [weakD,chk],by simp [weakD],trivial⟩,chk_iff.2 ⟨rfl,leO_bld hg h1 h2 h3 h5,leT_tok h4⟩⟩
      · cases h
    · cases h
  · split at h
    · split at h
      · rename_i k x z _ y T E n g kt t hg
        injection h with h; subst h
        have key:∀ p:(0 ≤ z∧z ≤ 255)∧n + 1 ≤ 140737488355328,ACalls Tryz.prog 140 ((sBw [byteU z] k kt x t (bytesOf n g) (.ret .nili) [.int .u8 z]).args ()) ((sBw [byteU z] k kt x t (bytesOf n g) (.ret .nili) [.int .u8 z]).st ()) (SpecR (sBw [byteU z] k kt x t (bytesOf n g) (.ret .nili) [.int .u8 z]) ()) := fun p => by
          have := bw_of k kt x t (wb_ok x t (bytesOf n g) (byteU z) (by simpa [bytesOf] using p.2))
          rw [byteU_nat p.1] at this
          exact this
        refine ⟨fun _ hy => key hy.1.2,fun _ _ hy => ?_,fun h => nomatch h⟩
        obtain ⟨⟨⟨h1,h2,h3,h4,h5⟩,_⟩,_⟩ := hy
        exact ⟨⟨by simp [weakD,chk],weakD_refl _,trivial⟩,chk_iff.2 ⟨rfl,leO_bld hg h1 h2 h3 h5,leT_tok h4⟩⟩
      · cases h
    · cases h
  · split at h
    · split at h
      · rename_i k x _ y T E n g kt t hg
        injection h with h; subst h
        refine ⟨fun _ hy => bstr_ok k kt x t (bytesOf n g) (by have := hy.1.2; simp [bytesOf]; omega),fun _ _ hy => ?_,fun h => nomatch h⟩
        obtain ⟨⟨⟨h1,h2,h3,h4,h5⟩,_⟩,_⟩ := hy
        exact ⟨⟨by simp [weakD,chk],trivial⟩,chk_iff.2 ⟨rfl,leO_bld hg h1 h2 h3 h5,leT_tok h4⟩⟩
      · cases h
    · cases h
  · exact conJn_ok _ _ _ _ h
end Go.Proofs.YtjnifeedbgefpaaGreatDoor
namespace Go.Proofs.YtjnifeedbgefpaaGreatDoor
open Go Go.Ab
set_option maxRecDepth 100000
theorem bfit_ok (t y:Nat) (l:List UInt8):bFit [(0,t)] y y 104 5 0 t l.length (fun i => [.int .u8 ((l.getD i 0).toNat:Int)]) := ⟨rfl,rfl,rfl,rfl,rowsB_bsl l⟩
theorem showI_neg {n:Int} (h:n < 0):showI n = 95 :: (Lib.itoa n).drop 1 := by
  simp only [showI,Lib.itoa,if_pos h]; rfl
theorem showI_pos {n:Int} (h:¬ n < 0):showI n = Lib.itoa n := by
  simp only [showI,Lib.itoa,if_neg h]
theorem app_nil' (l:List UInt8):[].append l = l := rfl
noncomputable def Ess (l:List Int):Senv := { EC conBd 28 1 [2,3,4,5,6,7,8,9,10,15,20] (fun _ => ([],[])) with
  bd := fun t => match t with
    | 104 => some 5
    | _ => none
  ann := fun b _ S => match b with
    | 0 => some { slots := [9],keep := [0,1,3,7,8],α := Nat × Nat × List UInt8,st := fun y => ([.int .i64 y.1],⟨setO S.objs 0 (.bld 104 5 (bsl y.2.2 (.tok 0 y.2.1))),[(0,y.2.1)]⟩),inv := fun y => JHd [32] (l.map showI) y.1 y.2.2,mu := fun y => l.length - y.1 }
    | _ => none }
noncomputable section
def fm8q0 (p0:List Int) (p1:Nat) (p2:List UInt8):Prop := JHd [(32:UInt8)] (List.map showI p0) p1 p2
def fm8q1 (p0:List UInt8) (p1:Nat):List D := [ZB (BI p0 p1)]
def fm8q2 (p0 p1:Nat) (p2:List UInt8):Prop := bFit [(N0,p0)] p1 p1 (104:Nat) (5:Nat) N0 p0 (LN p2) fun (i:Nat) => fm8q1 p2 i
def fm8q3 (p0:List Int) (p1:Nat):List UInt8 := Lib.itoa (GI p0 (Int.toNat (↑p1:Int)))
def fm8q4 (p0:List Int) (p1:Nat):Nat := LN (fm8q3 p0 p1)
def fm8q5 (p0:List Int) (p1:Nat):Int := (NI (fm8q4 p0 p1))
def fm8q6 (p0:List Int) (p1:Nat):List UInt8 := List.drop N1 (List.take (Int.toNat (fm8q5 p0 p1)) (fm8q3 p0 p1))
def fm8q7 (p0:List Int) (p1:Nat):Nat := N1 + LN (fm8q6 p0 p1)
def fm8q8 (p0:List UInt8):List UInt8 := bytesOf (LN p0) fun (i:Nat) => fm8q1 p0 i
def fm8q9 (p0:List UInt8):List UInt8 := fm8q8 p0 ++ [byteU (32:Int)]
def fm8q10 (p0:List UInt8):Nat := LN (fm8q9 p0)
def fm8q11 (p0:List UInt8) (p1:Nat):List D := [ZB (BI (fm8q9 p0) p1)]
def fm8q12 (p0 p1:Nat) (p2:List UInt8):Prop := bFit [(N0,p0)] p1 p1 (104:Nat) (5:Nat) N0 p0 (fm8q10 p2) fun (i:Nat) => fm8q11 p2 i
def fm8q13 (p0:List Int) (p1:Nat):List UInt8 := (95:UInt8) :: List.append [] (fm8q6 p0 p1)
def fm8q14 (p0:List Int) (p1:Nat):Nat := LN (fm8q13 p0 p1)
def fm8q15 (p0:List Int):D := SI p0
def fm8q16 (p0:List Int):Prop := SM (fm8q15 p0)
def fm8q17 (p0:List Int) (p1:Nat):Prop := fm8q16 p0∧SM D.unk∧SM (D.ref N0 p1 N0)∧fm8q16 p0∧SM (ZI (LI p0))∧True
def fm8q18 (p0 p1:Nat):Prop := IntKind.wrap IntKind.i64 ((↑p0:Int) + Z1) = (↑p1:Int)∧True
def fm8q19 (p0:List UInt8):List UInt8 := bytesOf (fm8q10 p0) fun (i:Nat) => fm8q11 p0 i
def fm8q20 (p0:List UInt8) (p1:List Int) (p2:Nat):List UInt8 := fm8q19 p0 ++ fm8q13 p1 p2
def fm8q21 (p0:List UInt8) (p1:List Int) (p2:Nat):Nat := LN (fm8q20 p0 p1 p2)
def fm8q22 (p0:List UInt8) (p1:List Int) (p2:Nat):List UInt8 := fm8q19 p0 ++ fm8q3 p1 p2
def fm8q23 (p0:List UInt8) (p1:List Int) (p2:Nat):Nat := LN (fm8q22 p0 p1 p2)
def fm8q24 (p0:List UInt8) (p1:List Int) (p2:Nat):List UInt8 := fm8q8 p0 ++ fm8q13 p1 p2
def fm8q25 (p0:List UInt8) (p1:List Int) (p2:Nat):Nat := LN (fm8q24 p0 p1 p2)
def fm8q26 (p0:List UInt8) (p1:List Int) (p2:Nat):List UInt8 := fm8q8 p0 ++ fm8q3 p1 p2
def fm8q27 (p0:List UInt8) (p1:List Int) (p2:Nat):Nat := LN (fm8q26 p0 p1 p2)
end
theorem sshow_ok (l:List Int) (hl:l.length ≤ 1099511627776) (hc:∀ z ∈ l,inI64 z):ACalls Tryz.prog 118 [isl l .any] ⟨[],[]⟩ (SpecR (sC [isl l .any] (.str (dimsB l))) ()) := by
  refine con_of (A := sC _ _) (x := ()) (E := Ess l) (eOk conBd_ok rfl) Tryz.func118 rfl (by kernel_rfl) rfl (by simp [sC,Ess,EC,E0]) ?_
  refine vc_eq (T :=
    ∀ (y t:Nat),True→(∃ (x:Nat × Nat × List UInt8),fm8q0 l x.1 x.2.2∧(Z0 = (NI x.1)∧True)∧(SM y∧(N0 = LN x.2.2∧(∀ (i:Nat),i < N0→eqOf (List D) [] (fm8q1 x.2.2 i))∧t = x.2.1)∧True)∧t = x.2.1∧True)∧∀ (x:Nat × Nat × List UInt8),fm8q0 l x.1 x.2.2→ifB (decide ((NI x.1) < (LI l))) (side (Z0 ≤ (NI x.1)∧(NI x.1) < (LI l)) (ifB (decide (Z0 < (NI x.1))) (((fm8q2 x.2.1 y x.2.2∧(Z0 ≤ (32:Int)∧(32:Int) ≤ (255:Int))∧LN x.2.2 + N1 ≤ (140737488355328:Nat))∧True)∧∀ (y_1:Nat),True→inI64 (GI l (TN x.1))∧∀ (y_2:Unit),True→ifB (decide (GI l (TN x.1) < Z0)) (side (Z0 ≤ Z1∧Z1 ≤ fm8q5 l x.1∧fm8q5 l x.1 ≤ fm8q5 l x.1) (side (fm8q7 l x.1 ≤ (9223372036854775807:Nat)) (((fm8q12 y_1 y x.2.2∧fm8q10 x.2.2 + fm8q14 l x.1 ≤ (140737488355328:Nat))∧True)∧∀ (y_3:Nat),True→fm8q17 l y∧∃ (y_4:Nat × Nat × List UInt8),fm8q0 l y_4.1 y_4.2.2∧LN l - y_4.1 < LN l - x.1∧fm8q18 x.1 y_4.1∧(SM y∧(fm8q21 x.2.2 l x.1 = LN y_4.2.2∧(∀ (i:Nat),i < fm8q21 x.2.2 l x.1→[ZB (BI (fm8q20 x.2.2 l x.1) i)] = fm8q1 y_4.2.2 i)∧y_3 = y_4.2.1)∧True)∧y_3 = y_4.2.1∧True))) (((fm8q12 y_1 y x.2.2∧fm8q10 x.2.2 + fm8q4 l x.1 ≤ (140737488355328:Nat))∧True)∧∀ (y_3:Nat),True→fm8q17 l y∧∃ (y_4:Nat × Nat × List UInt8),fm8q0 l y_4.1 y_4.2.2∧LN l - y_4.1 < LN l - x.1∧fm8q18 x.1 y_4.1∧(SM y∧(fm8q23 x.2.2 l x.1 = LN y_4.2.2∧(∀ (i:Nat),i < fm8q23 x.2.2 l x.1→[ZB (BI (fm8q22 x.2.2 l x.1) i)] = fm8q1 y_4.2.2 i)∧y_3 = y_4.2.1)∧True)∧y_3 = y_4.2.1∧True)) (inI64 (GI l (TN x.1))∧∀ (y_1:Unit),True→ifB (decide (GI l (TN x.1) < Z0)) (side (Z0 ≤ Z1∧Z1 ≤ fm8q5 l x.1∧fm8q5 l x.1 ≤ fm8q5 l x.1) (side (fm8q7 l x.1 ≤ (9223372036854775807:Nat)) (((fm8q2 x.2.1 y x.2.2∧LN x.2.2 + fm8q14 l x.1 ≤ (140737488355328:Nat))∧True)∧∀ (y_2:Nat),True→fm8q17 l y∧∃ (y_3:Nat × Nat × List UInt8),fm8q0 l y_3.1 y_3.2.2∧LN l - y_3.1 < LN l - x.1∧fm8q18 x.1 y_3.1∧(SM y∧(fm8q25 x.2.2 l x.1 = LN y_3.2.2∧(∀ (i:Nat),i < fm8q25 x.2.2 l x.1→[ZB (BI (fm8q24 x.2.2 l x.1) i)] = fm8q1 y_3.2.2 i)∧y_2 = y_3.2.1)∧True)∧y_2 = y_3.2.1∧True))) (((fm8q2 x.2.1 y x.2.2∧LN x.2.2 + fm8q4 l x.1 ≤ (140737488355328:Nat))∧True)∧∀ (y_2:Nat),True→fm8q17 l y∧∃ (y_3:Nat × Nat × List UInt8),fm8q0 l y_3.1 y_3.2.2∧LN l - y_3.1 < LN l - x.1∧fm8q18 x.1 y_3.1∧(SM y∧(fm8q27 x.2.2 l x.1 = LN y_3.2.2∧(∀ (i:Nat),i < fm8q27 x.2.2 l x.1→[ZB (BI (fm8q26 x.2.2 l x.1) i)] = fm8q1 y_3.2.2 i)∧y_2 = y_3.2.1)∧True)∧y_2 = y_3.2.1∧True)))) (((fm8q2 x.2.1 y x.2.2∧LN x.2.2 ≤ (140737488355328:Nat))∧True)∧∀ (y:Unit),True→True∧∃ (y:Unit),True∧fm8q8 x.2.2 = dimsB l∧True∧True)) (by kernel_rfl) ?_
  delta BI GI LI LN N0 N1 NI SI SM TN U0 Z0 Z1 ZB ZI fm8q0 fm8q1 fm8q10 fm8q11 fm8q12 fm8q13 fm8q14 fm8q15 fm8q16 fm8q17 fm8q18 fm8q19 fm8q2 fm8q20 fm8q21 fm8q22 fm8q23 fm8q24 fm8q25 fm8q26 fm8q27 fm8q3 fm8q4 fm8q5 fm8q6 fm8q7 fm8q8 fm8q9
  simp only [ifB_iff,side_iff,decide_eq_true_eq,true_and,and_true,exists_const,forall_const,Int.toNat_natCast,eq_self,bytesOf_bsl,bfit_ok,List.take_length,app_nil']
  intro t
  refine ⟨⟨(0,t,[]),JHd.init _ _,rfl,⟨rfl,fun i hi => absurd hi (by omega),rfl⟩,rfl⟩,?_⟩
  rintro ⟨i,t1,out⟩ hh
  simp only at hh ⊢
  have h1 := hh.len
  have hd := dimsB_len hc
  have hdd:Lib.join (l.map showI) [32] = dimsB l := rfl
  rw [hdd] at h1
  refine ⟨fun hlt => ?_,fun hge => ?_⟩
  · have hlt':i < l.length := by omega
    have hz := hc _ (memI hlt')
    have hi := itoa_len hz
    have hb:byteU 32 = 32 := rfl
    have hm:i < (l.map showI).length := by simpa using hlt'
    have st:i ≠ 0→JHd [32] (l.map showI) (i + 1) (out ++ [byteU 32] ++ showI (l.getD i 0)) := fun h0 => by
      have := hh.step h0 hm
      rw [mapS hlt'] at this
      exact this
    have st0:i = 0→JHd [32] (l.map showI) (i + 1) (out ++ showI (l.getD i 0)) := fun h0 => by
      subst h0
      have := hh.step0 hm
      rw [mapS hlt'] at this
      exact this
    refine ⟨⟨by omega,by omega⟩,fun h0 => ⟨⟨⟨by omega,by omega⟩,by omega⟩,hz,fun hn => ⟨⟨by omega,by omega,by omega⟩,by rw [List.length_drop]; omega,?_,fun t3 => ⟨(i + 1,t3,out ++ [byteU 32] ++ 95 :: List.drop 1 (Lib.itoa (l.getD i 0))),?_,by simp only; omega,wrap_i64' (by omega) (by omega),⟨rfl,fun _ _ => rfl,rfl⟩,rfl⟩⟩,fun hn => ⟨?_,fun t3 => ⟨(i + 1,t3,out ++ [byteU 32] ++ Lib.itoa (l.getD i 0)),?_,by simp only; omega,wrap_i64' (by omega) (by omega),⟨rfl,fun _ _ => rfl,rfl⟩,rfl⟩⟩⟩,
      fun h0 => ⟨hz,fun hn => ⟨⟨by omega,by omega,by omega⟩,by rw [List.length_drop]; omega,?_,fun t3 => ⟨(i + 1,t3,out ++ 95 :: List.drop 1 (Lib.itoa (l.getD i 0))),?_,by simp only; omega,wrap_i64' (by omega) (by omega),⟨rfl,fun _ _ => rfl,rfl⟩,rfl⟩⟩,fun hn => ⟨?_,fun t3 => ⟨(i + 1,t3,out ++ Lib.itoa (l.getD i 0)),?_,by simp only; omega,wrap_i64' (by omega) (by omega),⟨rfl,fun _ _ => rfl,rfl⟩,rfl⟩⟩⟩⟩
    · simp only [List.length_append,List.length_cons,List.length_nil,List.length_drop]; omega
    · rw [← showI_neg hn]; exact st (by omega)
    · simp only [List.length_append,List.length_cons,List.length_nil]; omega
    · rw [← showI_pos (n := l.getD i 0) (by simpa using hn)]; exact st (by omega)
    · simp only [List.length_cons,List.length_drop]; omega
    · rw [← showI_neg hn]; exact st0 (by simpa using h0)
    · omega
    · rw [← showI_pos (n := l.getD i 0) (by simpa using hn)]; exact st0 (by simpa using h0)
  · have hge':¬ i < l.length := by simpa using hge
    have hd := hh.done (by simpa using hge')
    exact ⟨by omega,hd⟩
end Go.Proofs.YtjnifeedbgefpaaGreatDoor
namespace Go.Proofs.YtjnifeedbgefpaaGreatDoor
open Go Go.Ab
def boxW:List UInt8 := [98,111,120,32]
def reshW:List UInt8 := [32,114,101,115,104,97,112,101,32]
def scalK (k:Int) (n:List Int) (ls:List (List UInt8)):List UInt8 :=
  if k = 1 then showI (n.getD 0 0) else if k = 2 then quoB 39 [n.getD 0 0] else boxW ++ ls.getD 0 []
def itemB (l:List UInt8):List UInt8 := 40 :: (boxW ++ l ++ [41])
def vecK (k:Int) (n:List Int) (ls:List (List UInt8)):List UInt8 :=
  if k = 2 then quoB 34 n else Lib.join (n.map showI ++ ls.map itemB) [32]
def fillL (k:Int):List UInt8 := if k = 1 then showI 0 else if k = 2 then quoB 39 [32] else boxW ++ (dimsB [0] ++ reshW ++ showI 0)
def litK (k:Int) (s n:List Int) (ls:List (List UInt8)):List UInt8 :=
  if s.length = 0 then scalK k n ls
  else if s.length = 1∧(k = 2∨1 < n.length + ls.length) then vecK k n ls
  else dimsB s ++ reshW ++ (if n.length + ls.length = 0 then fillL k else if n.length + ls.length = 1 then scalK k n ls else vecK k n ls)
mutual
def litA:Arr→List UInt8
  | .mk k s n is => litK k s n (litsL is)
def litsL:List Arr→List (List UInt8)
  | [] => []
  | a :: r => litA a :: litsL r
end
theorem litsL_map:∀ l:List Arr,litsL l = l.map litA
  | [] => rfl
  | a :: l => by simp only [litsL,List.map_cons,litsL_map l]
theorem litA_eq (a:Arr):litA a = litK a.k a.sh a.nu (a.it.map litA) := by
  cases a with
  | mk k s n is => rw [litA,litsL_map]; rfl
def sumL:List (List UInt8)→Nat
  | [] => 0
  | x :: l => x.length + sumL l
theorem sumL_getD:∀ l:List (List UInt8),(l.getD 0 []).length ≤ sumL l
  | [] => by simp [sumL]
  | x :: l => by simp [sumL]
theorem sumL_append:∀ l r:List (List UInt8),sumL (l ++ r) = sumL l + sumL r
  | [],r => by simp [sumL]
  | x :: l,r => by simp only [List.cons_append,sumL,sumL_append l r]; omega
theorem jT_sum (sep:List UInt8):∀ l:List (List UInt8),(jT sep l).length = sep.length * l.length + sumL l
  | [] => by simp [jT,sumL]
  | x :: l => by
    have := jT_sum sep l
    simp only [jT,List.flatMap_cons,List.length_append,List.length_cons,Nat.mul_succ,sumL] at this ⊢
    omega
theorem join_sum (sep:List UInt8) (l:List (List UInt8)):(Lib.join l sep).length ≤ sep.length * l.length + sumL l := by
  cases l with
  | nil => simp [join_nil]
  | cons x l =>
    rw [join_cons]
    have := jT_sum sep l
    simp only [List.length_append,List.length_cons,Nat.mul_succ,sumL]
    omega
theorem sum_show:∀ l:List Int,(∀ z ∈ l,inI64 z)→sumL (l.map showI) ≤ 21 * l.length
  | [],_ => by simp [sumL]
  | x :: l,h => by
    have h1 := sum_show l fun y hy => h y (List.mem_cons_of_mem _ hy)
    have h2 := showI_len (h x List.mem_cons_self)
    simp only [List.map_cons,sumL,List.length_cons]; omega
theorem sum_item:∀ l:List (List UInt8),sumL (l.map itemB) = 6 * l.length + sumL l
  | [] => by simp [sumL]
  | x :: l => by
    have := sum_item l
    simp only [List.map_cons,sumL,List.length_cons,this,itemB,boxW,List.length_append,List.length_nil]; omega
theorem quoB_len (q:Int) (l:List Int):(quoB q l).length ≤ 8 + 6 * l.length := by
  have h1 := utf8_len q
  have h2 := escL_len q l
  simp only [quoB,List.length_append]; omega
theorem show_len' {z:Int} (h:inI64 z):(showI z).length ≤ 21 := (showI_len h).2
theorem getD_i64 {l:List Int} (h:∀ z ∈ l,inI64 z):inI64 (l.getD 0 0) := by
  cases l with
  | nil => exact ⟨by decide,by decide⟩
  | cons x l => exact h x List.mem_cons_self
theorem scalK_len (k:Int) {n:List Int} (hn:∀ z ∈ n,inI64 z) (ls:List (List UInt8)):(scalK k n ls).length ≤ 21 + sumL ls := by
  have h1 := show_len' (getD_i64 hn)
  have h2 := quoB_len 39 [n.getD 0 0]
  have h3 := sumL_getD ls
  simp only [List.length_cons,List.length_nil] at h2
  unfold scalK boxW
  split
  · omega
  split
  · omega
  · simp only [List.length_append,List.length_cons,List.length_nil]; omega
theorem vecK_len (k:Int) {n:List Int} (hn:∀ z ∈ n,inI64 z) (ls:List (List UInt8)):(vecK k n ls).length ≤ 8 + 22 * n.length + 7 * ls.length + sumL ls := by
  have h1 := quoB_len 34 n
  have h2 := join_sum [32] (n.map showI ++ ls.map itemB)
  have h3 := sum_show n hn
  have h4 := sum_item ls
  rw [sumL_append] at h2
  simp only [List.length_append,List.length_map,List.length_cons,List.length_nil] at h2
  unfold vecK
  split <;> omega
theorem fillL_len (k:Int):(fillL k).length ≤ 60 := by
  have h0:inI64 0 := ⟨by decide,by decide⟩
  have h1 := show_len' h0
  have h2 := quoB_len 39 [32]
  have h3 := dimsB_len (l := [0]) (by simpa using h0)
  simp only [List.length_cons,List.length_nil] at h2 h3
  unfold fillL boxW reshW
  split
  · omega
  split
  · omega
  · simp only [List.length_append,List.length_cons,List.length_nil]; omega
theorem litK_len (k : Int) {s n : List Int} (hs8 : s.length ≤ 8) (hs : ∀ z ∈ s, inI64 z) (hn : ∀ z ∈ n, inI64 z) (ls : List (List UInt8)) :
    (litK k s n ls).length ≤ 300 + 22 * n.length + 7 * ls.length + sumL ls := by
  have h1 := scalK_len k hn ls
  have h2 := vecK_len k hn ls
  have h3 := fillL_len k
  have h4 := dimsB_len hs
  unfold litK reshW
  split
  · omega
  split
  · omega
  · simp only [List.length_append,List.length_cons,List.length_nil]
    split
    · omega
    split <;> omega
mutual
def totA:Arr→Nat
  | .mk _ _ n is => n.length + totL is
def totL:List Arr→Nat
  | [] => 0
  | a :: r => 1 + totA a + totL r
end
theorem litA_len:∀ a:Arr,a.ok→(chkA a).1 = 0→(litA a).length ≤ 600 * totA a + 300
  | .mk k s n is,ho,h => by
    obtain ⟨h1,_,_,h4⟩ := chkA_zero h
    simp only [Arr.ok] at ho
    obtain ⟨_,hs,hn,_,_,_,hi⟩ := ho
    have hi := (okL_iff _).1 hi
    have key:∀ l:List Arr,(∀ x ∈ l,x ∈ is)→7 * l.length + sumL (litsL l) ≤ 600 * totL l := fun l => by
      induction l with
      | nil => simp [litsL,sumL,totL]
      | cons x l ih =>
        intro hl
        have h5 := ih fun y hy => hl y (List.mem_cons_of_mem _ hy)
        have hx:x ∈ is := hl x List.mem_cons_self
        have h6 := litA_len x (hi x hx) (h4 x hx)
        simp only [litsL,sumL,totL,List.length_cons]; omega
    have hk := key is fun x hx => hx
    have h7 := litK_len k h1 hs hn (litsL is)
    have h8:(litsL is).length = is.length := by rw [litsL_map,List.length_map]
    simp only [litA,totA]
    omega
termination_by a => SizeOf.sizeOf a
decreasing_by
  have := List.sizeOf_lt_of_mem hx
  simp; omega
theorem chkL_big:∀ (l:List Arr) (d w:Int) (r:Int × Int),chkL l d w = some r→262145 ≤ w→262145 ≤ r.2
  | [],d,w,r,h,hw => by rw [chkL] at h; injection h with h; subst h; exact hw
  | x :: l,d,w,r,h,hw => by
    rw [chkL] at h
    split at h
    · cases h
    · have hb := (chkA_bounds x).2.1
      refine chkL_big l _ _ r h ?_
      split <;> omega
theorem chkL_tot:∀ (l:List Arr),(∀ x ∈ l,(chkA x).1 = 0→(chkA x).2.2 = totA x)→∀ (d w:Int) (r:Int × Int),chkL l d w = some r→r.2 ≤ 262144→r.2 = w + totL l - l.length
  | [],_,d,w,r,h,_ => by rw [chkL] at h; injection h with h; subst h; simp [totL]
  | x :: l,hx,d,w,r,h,hr => by
    rw [chkL] at h
    split at h
    · cases h
    · rename_i h0
      have h0:(chkA x).1 = 0 := Decidable.not_not.1 h0
      have h1 := hx x List.mem_cons_self h0
      by_cases hb:262145 < w + (chkA x).2.2
      · rw [if_pos hb] at h
        have := chkL_big l _ _ r h (Int.le_refl _)
        omega
      · rw [if_neg hb] at h
        have := chkL_tot l (fun y hy => hx y (List.mem_cons_of_mem _ hy)) _ _ r h hr
        simp only [totL,List.length_cons]
        omega
theorem chkA_tot:∀ a:Arr,(chkA a).1 = 0→(chkA a).2.2 = totA a
  | .mk k s n is,h => by
    have hx:∀ x ∈ is,(chkA x).1 = 0→(chkA x).2.2 = totA x := fun x hx h => chkA_tot x h
    rw [chkA] at h ⊢
    by_cases h0:formS k s n.length is.length ≠ 0
    · rw [if_pos h0] at h; exact (h0 h).elim
    · rw [if_neg h0] at h ⊢
      by_cases hb:n.any (badK k) = true
      · rw [if_pos hb] at h; simp at h
      · rw [if_neg hb] at h ⊢
        cases hr:chkL is 0 ((n.length:Int) + is.length) with
        | none => rw [hr] at h; simp at h
        | some r =>
          rw [hr] at h
          simp only at h ⊢
          by_cases hc:16 < r.1∨262144 < r.2
          · rw [if_pos hc] at h; simp at h
          · rw [if_neg hc]
            have := chkL_tot is hx _ _ r hr (by omega)
            simp only [totA]
            omega
termination_by a => SizeOf.sizeOf a
decreasing_by
  have := List.sizeOf_lt_of_mem hx
  simp; omega
theorem tot_le {a:Arr} (h:(chkA a).1 = 0):totA a ≤ 262144 := by
  have h1 := chkA_tot a h
  have h2 := chkA_bounds a
  omega
theorem lit_le {a:Arr} (ho:a.ok) (h:(chkA a).1 = 0):(litA a).length ≤ 157286700 := by
  have h1 := litA_len a ho h
  have h2 := tot_le h
  omega
end Go.Proofs.YtjnifeedbgefpaaGreatDoor
namespace Go.Proofs.YtjnifeedbgefpaaGreatDoor
open Go Go.Ab
set_option maxRecDepth 100000
def conVc (its:List Arr):Con := fun k ds S => match k with
  | 94 => some (sRc Arr.row1 (fun b => b ∈ its) (fun b => .str (litA b)))
  | 114 => match ds with
    | [.sl 1 n f m] => some (pC [.sl 1 n f m] (.str (Lib.join (strsOf n f) [32])) (strsB n f = true∧joinOk (strsOf n f) [32]))
    | _ => none
  | k => conJn k ds S
theorem conVc_ok {its:List Arr} (ih:∀ b ∈ its,ACalls Tryz.prog 94 ((sRc Arr.row2 (fun _ => True) (fun b => .str (litA b))).args b) ⟨[],[]⟩ (SpecR (sRc Arr.row2 (fun _ => True) (fun b => .str (litA b))) b)):ConOk Tryz.prog (conVc its) := by
  intro k ds S A h
  unfold conVc at h
  split at h
  · injection h with h; subst h
    exact ConOk.plain (fun b hb => sRc_row (ih b hb)) rfl rfl
  · split at h
    · injection h with h; subst h
      exact pC_ok fun ⟨h1,h2⟩ => ⟨weakL_refl _,sC_weak (us := [ssl (strsOf _ _) .any]) ⟨ssl_weak h1,trivial⟩ (fjoin_ok _ h2)⟩
    · cases h
  · exact conJn_ok _ _ _ _ h
noncomputable def Evc (a:Arr):Senv := { EC (conVc a.it) 44 4 [5,7,10,15,16,17,18,28,29,30,31] (fun _ => ([],[])) with
  gh := fun b => match b with
    | 0 => [.slot 3]
    | _ => []
  ann := fun b _ S => match b with
    | 0 => some { slots := [17,3],keep := [1,15,16],α := Nat × Nat × List (List UInt8),st := fun y => ([.int .i64 y.1,ssl y.2.2 (.tok 0 y.2.1)],⟨S.objs,[(0,y.2.1)]⟩),inv := fun y => y.1 ≤ a.nu.length∧y.2.2 = (a.nu.take y.1).map showI,mu := fun y => a.nu.length - y.1 }
    | 2 => some { slots := [30,3],keep := [1,28,29],α := Nat × Nat × List (List UInt8),st := fun y => ([.int .i64 y.1,ssl y.2.2 (.tok 0 y.2.1)],⟨S.objs,[(0,y.2.1)]⟩),inv := fun y => y.1 ≤ a.it.length∧y.2.2 = a.nu.map showI ++ (a.it.take y.1).map (fun b => itemB (litA b)),mu := fun y => a.it.length - y.1 }
    | _ => none }
theorem app_str {l : List (List UInt8)} {s : List UInt8} :
    ∀ i,i < l.length + 1→appF l.length (fun i => [D.str (l.getD i [])]) (fun i => [D.str ([s].getD i [])]) i = [D.str ((l ++ [s]).getD i [])] := by
  intro i hi
  simp only [appF]
  split
  · rename_i hlt
    simp [List.getD_eq_getElem?_getD,List.getElem?_append_left hlt]
  · have:i = l.length := by omega
    subst this
    simp [List.getD_eq_getElem?_getD]
theorem take_st {α:Type} {l:List α} {i:Nat} (d:α) (h:i < l.length):l.take (i + 1) = l.take i ++ [l.getD i d] := by
  rw [List.take_add_one,List.getElem?_eq_getElem h,List.getD_eq_getElem?_getD,List.getElem?_eq_getElem h]; rfl
theorem chk_chr {a:Arr} (h:(chkA a).1 = 0) (h2:a.k = 2):∀ c ∈ a.nu,0 ≤ c∧c ≤ 1114111 := by
  cases a with
  | mk k s n is =>
    have h2:k = 2 := h2
    subst h2
    rw [chkA] at h
    by_cases h0:formS 2 s n.length is.length ≠ 0
    · rw [if_pos h0] at h; exact (h0 h).elim
    · rw [if_neg h0] at h
      by_cases hb:n.any (badK 2) = true
      · rw [if_pos hb] at h; simp at h
      · intro c hc
        have hb:¬ badK 2 c = true := fun h => hb (List.any_eq_true.2 ⟨c,hc,h⟩)
        have:chrB c = true := by simpa [badK] using hb
        simp only [chrB,Bool.and_eq_true,decide_eq_true_eq] at this
        omega
theorem items_len {a:Arr} (ho:a.ok) (h:(chkA a).1 = 0):7 * a.it.length + sumL (a.it.map litA) ≤ 157286400 := by
  have ht := tot_le h
  cases a with
  | mk k s n is =>
    obtain ⟨_,_,_,h4⟩ := chkA_zero h
    simp only [Arr.ok] at ho
    have hi := (okL_iff _).1 ho.2.2.2.2.2.2
    have key:∀ l:List Arr,(∀ x ∈ l,x ∈ is)→7 * l.length + sumL (l.map litA) ≤ 600 * totL l := fun l => by
      induction l with
      | nil => simp [sumL,totL]
      | cons x l ih =>
        intro hl
        have h5 := ih fun y hy => hl y (List.mem_cons_of_mem _ hy)
        have hx:x ∈ is := hl x List.mem_cons_self
        have h6 := litA_len x (hi x hx) (h4 x hx)
        simp only [List.map_cons,sumL,totL,List.length_cons]; omega
    have hk := key is fun x hx => hx
    simp only [totA] at ht
    show 7 * is.length + sumL (is.map litA) ≤ _
    omega
theorem mem_sum:∀ {l:List Arr} {x:Arr},x ∈ l→(litA x).length ≤ sumL (l.map litA)
  | y :: l,x,h => by
    simp only [List.map_cons,sumL]
    rcases List.mem_cons.1 h with rfl | h
    · omega
    · have := mem_sum h; omega
theorem arr_dims {a:Arr} (ho:a.ok) (h:(chkA a).1 = 0):a.sh.length ≤ 8∧a.nu.length ≤ 65536∧a.it.length ≤ 65536∧(∀ z ∈ a.sh,inI64 z)∧∀ z ∈ a.nu,inI64 z := by
  cases a with
  | mk k s n is =>
    obtain ⟨h1,h2,h3,_⟩ := chkA_zero h
    simp only [Arr.ok] at ho
    exact ⟨h1,h2,h3,ho.2.1,ho.2.2.1⟩
structure LOk (a:Arr):Prop where
  kd:a.k = 1∨a.k = 2∨a.k = 3
  s8:a.sh.length ≤ 8
  n6:a.nu.length ≤ 65536
  i6:a.it.length ≤ 65536
  si:∀ z ∈ a.sh,inI64 z
  ni:∀ z ∈ a.nu,inI64 z
  sum:7 * a.it.length + sumL (a.it.map litA) ≤ 157286400
  chr:a.k = 2→∀ c ∈ a.nu,0 ≤ c∧c ≤ 1114111
  no:a.k ≠ 3→a.it = []
  bx:a.k = 3→a.nu = []
  sc:a.sh.length = 0→a.nu.length + a.it.length = 1
noncomputable section
def ve1q0 (p0:Arr):Int := Arr.k p0
def ve1q1 (p0:Arr):List Int := Arr.nu p0
def ve1q2 (p0:Arr):Nat := LN (ve1q1 p0)
def ve1q3 (p0:Arr) (p1:Nat):List D := [ZI (GI (ve1q1 p0) p1)]
def ve1q4 (p0:Arr):List Int := intsD (ve1q2 p0) fun (i:Nat) => ve1q3 p0 i
def ve1q5 (p0:Arr):List Arr := Arr.it p0
def ve1q6 (p0:Arr):List UInt8 := vecK (ve1q0 p0) (ve1q1 p0) (List.map litA (ve1q5 p0))
def ve1q7 (p0:Nat) (p1:Arr) (p2:List (List UInt8)):Prop := p0 ≤ ve1q2 p1∧p2 = List.map showI (List.take p0 (ve1q1 p1))
def ve1q8 (p0:List (List UInt8)) (p1:Nat):List D := [D.str (List.getD p0 p1 [])]
def ve1q9 (p0:Arr):Nat := LN (Arr.sh p0)
def ve1q10 (p0:Arr) (p1:Nat):List D := [ZI (GI (Arr.sh p0) p1)]
def ve1q11 (p0:Arr):Nat := LN (ve1q5 p0)
def ve1q12:Arr := DA
def ve1q13 (p0:Arr) (p1:Nat):Arr := List.getD (ve1q5 p0) p1 ve1q12
def ve1q14 (p0:Arr) (p1:Nat):List Int := Arr.sh (ve1q13 p0 p1)
def ve1q15 (p0:Arr) (p1:Nat):List Int := Arr.nu (ve1q13 p0 p1)
def ve1q16 (p0:Arr) (p1:Nat):List Arr := Arr.it (ve1q13 p0 p1)
def ve1q17 (p0:Arr) (p1:Nat):List D := [ZI (Arr.k (ve1q13 p0 p1)),SI (ve1q14 p0 p1),SI (ve1q15 p0 p1),D.sl N4 (LN (ve1q16 p0 p1)) (fun (i:Nat) => Arr.row (List.getD (ve1q16 p0 p1) i ve1q12)) Mode.any]
def ve1q18 (p0:Nat) (p1:Arr) (p2 p3:Nat):Prop := (SM p0∧(SM (ve1q0 p1)∧(SM (ve1q9 p1)∧(∀ (i:Nat),i < ve1q9 p1→SM (ve1q10 p1 i))∧True)∧(SM (ve1q2 p1)∧(∀ (i:Nat),i < ve1q2 p1→SM (ve1q3 p1 i))∧True)∧(SM (ve1q11 p1)∧(∀ (i:Nat),i < ve1q11 p1→SM (ve1q17 p1 i))∧True)∧True)∧True)∧p2 = p3∧True
def ve1q19 (p0:Arr):Int := (NI (ve1q2 p0))
def ve1q20 (p0:Arr):D := D.sl N1 (ve1q2 p0) (fun (i:Nat) => ve1q3 p0 i) Mode.any
def ve1q21 (p0:Arr):List UInt8 := litA p0
def ve1q22 (p0:Nat) (p1:Arr) (p2:List (List UInt8)):Prop := p0 ≤ ve1q11 p1∧p2 = List.map showI (ve1q1 p1) ++ List.map (fun (b:Arr) => itemB (ve1q21 b)) (List.take p0 (ve1q5 p1))
def ve1q23 (p0:Arr):Int := (NI (ve1q11 p0))
def ve1q24 (p0:Arr) (p1:Nat):Arr := List.getD (ve1q5 p0) (Int.toNat (↑p1:Int)) ve1q12
def ve1q25 (p0:Arr) (p1:Nat):List Int := Arr.sh (ve1q24 p0 p1)
def ve1q26 (p0:Arr) (p1:Nat):Nat := LN (ve1q25 p0 p1)
def ve1q27 (p0:Arr) (p1:Nat):List Int := Arr.nu (ve1q24 p0 p1)
def ve1q28 (p0:Arr) (p1:Nat):Nat := LN (ve1q27 p0 p1)
def ve1q29 (p0:Arr) (p1:Nat):List Arr := Arr.it (ve1q24 p0 p1)
def ve1q30 (p0:Arr) (p1:Nat):Nat := LN (ve1q29 p0 p1)
def ve1q31 (p0:Arr):D := D.sl N4 (ve1q11 p0) (fun (i:Nat) => ve1q17 p0 i) Mode.any
def ve1q32 (p0:List (List UInt8)):List (List UInt8) := strsOf (LN p0) fun (i:Nat) => ve1q8 p0 i
end
theorem vec_step (a : Arr) (ho : LOk a) (hc : ConOk Tryz.prog (conVc a.it)) :
    ACalls Tryz.prog 115 ((sRc Arr.row2 (fun _ => True) (fun a => .str (vecK a.k a.nu (a.it.map litA)))).args a) ⟨[],[]⟩ (SpecR (sRc Arr.row2 (fun _ => True) (fun a => .str (vecK a.k a.nu (a.it.map litA)))) a) := by
  refine con_of (A := sRc Arr.row2 (fun _ => True) (fun a => .str (vecK a.k a.nu (a.it.map litA)))) (x := a) (E := Evc a) (eOk hc rfl) Tryz.func115 rfl (by kernel_rfl) rfl (by simp [sRc,Evc,EC,E0]) ?_
  refine vc_eq (T :=
    ∀ (x:Nat),True→SM x∧ifB (ve1q0 a == (2:Int)) (SM x∧(ve1q2 a ≤ (1099511627776:Nat)∧(IntsP (ve1q2 a) fun (i:Nat) => ve1q3 a i)∧∀ (c:Int),c ∈ ve1q4 a→Z0 ≤ c∧c ≤ (1114111:Int))∧∀ (y:Unit),True→True∧∃ (y:Unit),True∧quoB (34:Int) (ve1q4 a) = ve1q6 a∧True∧True) (SM x∧∀ (t:Nat),(∃ (x_1:Nat × Nat × List (List UInt8)),ve1q7 x_1.1 a x_1.2.2∧(Z0 = (NI x_1.1)∧(N0 = LN x_1.2.2∧(∀ (i:Nat),i < N0→eqOf (List D) [] (ve1q8 x_1.2.2 i))∧t = x_1.2.1)∧True)∧ve1q18 x a t x_1.2.1)∧∀ (x_1:Nat × Nat × List (List UInt8)),ve1q7 x_1.1 a x_1.2.2→ifB (decide ((NI x_1.1) < ve1q19 a)) (side (Z0 ≤ (NI x_1.1)∧(NI x_1.1) < ve1q19 a) (inI64 (GI (ve1q1 a) (TN x_1.1))∧∀ (y:Unit),True→SM x_1.2.1∧side ((LN x_1.2.2 + N1) * (16:Nat) ≤ (140737488355328:Nat)∧LN x_1.2.2 + N1 ≤ (9223372036854775807:Nat)) (∀ (t:Nat),(SM (D.ref N0 x N0)∧SM (ve1q20 a)∧SM (ZI (ve1q19 a))∧True)∧∃ (y:Nat × Nat × List (List UInt8)),ve1q7 y.1 a y.2.2∧ve1q2 a - y.1 < ve1q2 a - x_1.1∧(IntKind.wrap IntKind.i64 ((NI x_1.1) + Z1) = (NI y.1)∧(LN x_1.2.2 + N1 = LN y.2.2∧(∀ (i:Nat),i < LN x_1.2.2 + N1→appF (LN x_1.2.2) (fun (i:Nat) => ve1q8 x_1.2.2 i) (fun (i:Nat) => [D.str (List.getD [showI (GI (ve1q1 a) (TN x_1.1))] i [])]) i = ve1q8 y.2.2 i)∧t = y.2.1)∧True)∧ve1q18 x a t y.2.1))) (SM x∧(∃ (x_2:Nat × Nat × List (List UInt8)),ve1q22 x_2.1 a x_2.2.2∧(Z0 = (NI x_2.1)∧(LN x_1.2.2 = LN x_2.2.2∧(∀ (i:Nat),i < LN x_1.2.2→ve1q8 x_1.2.2 i = ve1q8 x_2.2.2 i)∧x_1.2.1 = x_2.2.1)∧True)∧ve1q18 x a x_1.2.1 x_2.2.1)∧∀ (x_2:Nat × Nat × List (List UInt8)),ve1q22 x_2.1 a x_2.2.2→ifB (decide ((NI x_2.1) < ve1q23 a)) (side (Z0 ≤ (NI x_2.1)∧(NI x_2.1) < ve1q23 a) (∀ (x_3:Nat),x ≠ x_3∧True→SM x_3∧SM x_3∧∃ (x_4:Arr),((Arr.k (ve1q24 a x_2.1) = ve1q0 x_4∧(ve1q26 a x_2.1 = ve1q9 x_4∧(∀ (i:Nat),i < ve1q26 a x_2.1→[ZI (GI (ve1q25 a x_2.1) i)] = ve1q10 x_4 i)∧True)∧(ve1q28 a x_2.1 = ve1q2 x_4∧(∀ (i:Nat),i < ve1q28 a x_2.1→[ZI (GI (ve1q27 a x_2.1) i)] = ve1q3 x_4 i)∧True)∧(ve1q30 a x_2.1 = ve1q11 x_4∧(∀ (i:Nat),i < ve1q30 a x_2.1→Arr.row (List.getD (ve1q29 a x_2.1) i ve1q12) = Arr.row (ve1q13 x_4 i))∧True)∧True)∧True)∧(True∧True)∧x_4 ∈ ve1q5 a∧∀ (y:Unit),True→side ((5:Nat) + LN (ve1q21 x_4) ≤ (9223372036854775807:Nat)) (side (LN ((40:UInt8) :: (98:UInt8) :: (111:UInt8) :: (120:UInt8) :: (32:UInt8) :: List.append [] (ve1q21 x_4)) + N1 ≤ (9223372036854775807:Nat)) (SM x_2.2.1∧side ((LN x_2.2.2 + N1) * (16:Nat) ≤ (140737488355328:Nat)∧LN x_2.2.2 + N1 ≤ (9223372036854775807:Nat)) (∀ (t:Nat),(SM (D.ref N0 x N0)∧SM (ve1q31 a)∧SM (ZI (ve1q23 a))∧True)∧∃ (y:Nat × Nat × List (List UInt8)),ve1q22 y.1 a y.2.2∧ve1q11 a - y.1 < ve1q11 a - x_2.1∧(IntKind.wrap IntKind.i64 ((NI x_2.1) + Z1) = (NI y.1)∧(LN x_2.2.2 + N1 = LN y.2.2∧(∀ (i:Nat),i < LN x_2.2.2 + N1→appF (LN x_2.2.2) (fun (i:Nat) => ve1q8 x_2.2.2 i) (fun (i:Nat) => [D.str (List.getD [(40:UInt8) :: (98:UInt8) :: (111:UInt8) :: (120:UInt8) :: (32:UInt8) :: List.append (List.append [] (ve1q21 x_4)) [(41:UInt8)]] i [])]) i = ve1q8 y.2.2 i)∧t = y.2.1)∧True)∧ve1q18 x a t y.2.1))))) (((strsB (LN x_2.2.2) fun (i:Nat) => ve1q8 x_2.2.2 i) = true∧joinOk (ve1q32 x_2.2.2) [(32:UInt8)])∧∀ (y:Unit),True→True∧∃ (y:Unit),True∧Lib.join (ve1q32 x_2.2.2) [(32:UInt8)] = ve1q6 a∧True∧True)))) (by kernel_rfl) ?_
  delta DA GI LN N0 N1 N4 NI SI SM TN Z0 Z1 ZI ve1q0 ve1q1 ve1q10 ve1q11 ve1q12 ve1q13 ve1q14 ve1q15 ve1q16 ve1q17 ve1q18 ve1q19 ve1q2 ve1q20 ve1q21 ve1q22 ve1q23 ve1q24 ve1q25 ve1q26 ve1q27 ve1q28 ve1q29 ve1q3 ve1q30 ve1q31 ve1q32 ve1q4 ve1q5 ve1q6 ve1q7 ve1q8 ve1q9
  have da:(default:Arr) = Arr.mk 0 [] [] [] := rfl
  simp only [← da,ifB_iff,side_iff,decide_eq_true_eq,decide_eq_false_iff_not,true_and,and_true,beq_iff_eq,beq_eq_false_iff_ne,ne_eq,exists_const,forall_const,Int.toNat_natCast]
  simp only [intsD_isl]
  obtain ⟨_,l1,l2,l3,l4,l5,hsum,hchr,_,_,_⟩ := ho
  have tt:(∀ i:Nat,i < a.sh.length→True)∧(∀ i:Nat,i < a.nu.length→True)∧∀ i:Nat,i < a.it.length→True := ⟨fun _ _ => trivial,fun _ _ => trivial,fun _ _ => trivial⟩
  intro x
  refine ⟨fun h2 => ⟨⟨by omega,intsP_isl _,hchr h2⟩,by rw [vecK,if_pos h2]⟩,fun h2 t => ⟨⟨(0,t,[]),⟨Nat.zero_le _,rfl⟩,⟨rfl,rfl,fun i hi => absurd hi (by omega),rfl⟩,tt,rfl⟩,?_⟩⟩
  rintro ⟨i,t1,out⟩ ⟨hi,he⟩
  simp only at hi he ⊢
  have ho1:out.length = i := by rw [he,List.length_map,List.length_take]; omega
  refine ⟨fun hlt => ?_,fun hge => ⟨⟨(0,t1,out),⟨Nat.zero_le _,?_⟩,⟨rfl,rfl,fun _ _ => rfl,rfl⟩,tt,rfl⟩,?_⟩⟩
  · have hlt':i < a.nu.length := by omega
    refine ⟨⟨by omega,by omega⟩,l5 _ (memI hlt'),⟨by omega,by omega⟩,fun t2 => ⟨(i + 1,t2,out ++ [showI (a.nu.getD i 0)]),⟨by simp only; omega,?_⟩,by simp only; omega,⟨wrap_i64' (by omega) (by omega),by simp,app_str,rfl⟩,tt,rfl⟩⟩
    simp only
    rw [take_st 0 hlt',List.map_append,he]; rfl
  · have:i = a.nu.length := by omega
    subst this
    rw [he]; simp
  rintro ⟨j,t3,o2⟩ ⟨hj,he2⟩
  simp only at hj he2 ⊢
  have ho2:o2.length = a.nu.length + j := by rw [he2,List.length_append,List.length_map,List.length_map,List.length_take]; omega
  refine ⟨fun hlt => ⟨⟨by omega,by omega⟩,fun x3 _ => ?_⟩,fun hge => ?_⟩
  · have hlt':j < a.it.length := by omega
    have hm := mem_getD hlt'
    have hl := mem_sum hm
    refine ⟨a.it.getD j default,⟨rfl,⟨rfl,fun _ _ => rfl⟩,⟨rfl,fun _ _ => rfl⟩,rfl,fun _ _ => rfl⟩,hm,by omega,?_,⟨by omega,by omega⟩,fun t4 => ⟨(j + 1,t4,o2 ++ [itemB (litA (a.it.getD j default))]),⟨by simp only; omega,?_⟩,by simp only; omega,⟨wrap_i64' (by omega) (by omega),by simp,app_str,rfl⟩,tt,rfl⟩⟩
    · simp only [List.length_cons,app_nil']; omega
    · simp only
      rw [take_st default hlt',List.map_append,he2,List.append_assoc]; rfl
  · have hj':j = a.it.length := by omega
    subst hj'
    rw [List.take_length] at he2
    have hv:Lib.join o2 [32] = vecK a.k a.nu (a.it.map litA) := by
      rw [vecK,if_neg h2,he2,List.map_map]; rfl
    have hvl := vecK_len a.k l5 (a.it.map litA)
    rw [List.length_map] at hvl
    rw [strsOf_eq (l := o2) rfl (fun _ _ => rfl)]
    exact ⟨⟨strsB_eq (l := o2) rfl (fun _ _ => rfl),by omega,by rw [hv]; omega⟩,hv⟩
end Go.Proofs.YtjnifeedbgefpaaGreatDoor
