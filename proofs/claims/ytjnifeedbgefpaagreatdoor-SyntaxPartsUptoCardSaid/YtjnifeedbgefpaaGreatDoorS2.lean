/- Functions of the given program and what each of them computes: lemmas towards the statement, their conditions stated with each of them. -/
import Derived.Test.YtjnifeedbgefpaaGreatDoorS1
import Derived.Lib.Join
import Derived.Test.YtjnifeedbgefpaaGreatDoorProg
import Derived.Lib.LaidTab
import Derived.Lib.ItoaNum
import Derived.Lib.TrailingZeros
import Derived.Calls
import Derived.Below
import Derived.Laws.Entries
import Derived.Laws.Build
import Derived.Laws.Concat
import Derived.Laws.AppendOwn
import Derived.Laws.IdiomStrings
import Derived.Laws.BytesString
import Derived.Laws.NewFold
import Derived.Laws.MakeOwn
import Derived.Laws.IdiomCopy
import Derived.Laws.Shifts
import Derived.Laws.Strings
import Derived.Laws.Strings2
import Derived.Laws.Strings3
import Derived.Laws.RangeString
import Derived.Laws.Cover4
import Derived.Lib.DecodeN
import Derived.MapKept
import Derived.Laws.StructEq
import Derived.Orders
import Derived.Scope
import Derived.ProofKit
import Derived.WalkKit
import Derived.OpenShut
import Derived.Recover
import Derived.KernelRfl
import Derived.Shelf.Strings.Builder1
import Derived.Shelf.Strings.Builder2
import Derived.Shelf.Strings.OnBuilder
import Derived.Shelf.Strings.BuilderF
import Derived.Shelf.Strconv.Itoa0
import Derived.Shelf.Strconv.Itoa1
import Derived.Shelf.LaysM
import Derived.Shelf.Strconv.Itoa2
import Derived.Shelf.Strconv.Itoa3
import Derived.Shelf.Strconv.Itoa4
import Derived.Shelf.Bits.Mul64
import Derived.Lib.AppendIntMem
import Derived.Lib.ItoaLen
import Derived.Test.YtjnifeedbgefpaaGreatDoorRows
import Derived.Lib.Builder
import Derived.Lib.UnsafeStr
import Derived.Test.YtjnifeedbgefpaaGreatDoorCards
import Derived.Test.YtjnifeedbgefpaaGreatDoorTie
import Derived.Deep.DeepHandedRow
import Derived.Stop.LaidErr
namespace Go.Proofs.YtjnifeedbgefpaaGreatDoor
open Go Go.Ab
set_option maxRecDepth 100000
def conDxx (xm:Nat) (m:Int) (l:List Nd) (p:Nd→Bool):Con := fun k ds S => match k with
  | 55 => some (pE (β := Nd) ds S (fun b => .bool (p b)) (fun b => isN b ds [.ref 1 xm 0]∧b ∈ l∧S = ⟨[(1,xm,.cells [.int .i64 m])],[]⟩))
  | _ => none
theorem conDxx_ok (xm:Nat) (m:Int) {l:List Nd} {p:Nd→Bool} (h:∀ b ∈ l,CS 55 (.agg b.row1 :: [.ref 1 xm 0]) ⟨[(1,xm,.cells [.int .i64 m])],[]⟩ (.bool (p b))):ConOk Tryz.prog (conDxx xm m l p) := by
  intro k ds S A hh
  unfold conDxx at hh
  split at hh
  · injection hh with hh; subst hh
    refine pS_ok fun b ⟨e,hb,hs⟩ => ?_
    rw [hs]
    exact (h b hb).wk e
  · cases hh
noncomputable def EDxx (xm:Nat) (m:Int) (l:List Nd) (p:Nd→Bool):Senv := { EC (conDxx xm m l p) 19 2 [4,5,7,8,9,16] (fun _ => ([],[])) with
  ann := fun b _ S => match b with
    | 0 => some { slots := [8],keep := [0,1,6,7],α := Nat,st := fun i => ([.int .i64 i],S),inv := fun i => IdxG p l i,mu := fun i => l.length - i }
    | _ => none }
noncomputable section
def yb2q0 (p0:Nat) (p1:Int):Prop := (SM p0∧(SM p1∧True)∧True)∧True
def yb2q1:Arr := DA
def yb2q2:Nd := Nd.mk Z0 Z0 Z0 [] Z0 Z0 yb2q1 [] [] Z0 Z0 Z0
def yb2q3 (p0:List Nd) (p1:Nat):Nd := List.getD p0 (Int.toNat (↑p1:Int)) yb2q2
def yb2q4 (p0:List Nd) (p1:Nat):Arr := Nd.va (yb2q3 p0 p1)
def yb2q5 (p0:List Nd) (p1:Nat):List Int := Arr.sh (yb2q4 p0 p1)
def yb2q6 (p0:List Nd) (p1:Nat):List Int := Arr.nu (yb2q4 p0 p1)
def yb2q7 (p0:List Nd) (p1:Nat):List Arr := Arr.it (yb2q4 p0 p1)
def yb2q8 (p0:List Nd) (p1:Nat):List Nd := Nd.ki (yb2q3 p0 p1)
def yb2q9 (p0:List Nd) (p1:Nat):List Sm := Nd.bo (yb2q3 p0 p1)
def yb2q10 (p0:Nat) (p1:Int):St := St.mk [(N1,p0,AObj.cells [ZI p1])] []
def yb2q11 (p0:List Nd):D := D.sl (15:Nat) (LN p0) (fun (i:Nat) => Nd.row1 (List.getD p0 i yb2q2)) Mode.any
end
theorem Dxx_ok (xm : Nat) (m : Int) (l : List Nd) (p : Nd → Bool) (h : ∀ b ∈ l, CS 55 (.agg b.row1 :: [.ref 1 xm 0]) ⟨[(1, xm, .cells [.int .i64 m])], []⟩ (.bool (p b))) (hl : l.length ≤ maxLen) :
    CS 91 [gsl 15 Nd.row1 l,.fn (.func 55) [] [.ref 1 xm 0]] ⟨[(1,xm,.cells [.int .i64 m])],[]⟩ (.int .i64 (idxG p l 0)) := by
  refine CS.of (con_of (A := sS _ _ _) (x := ()) (E := EDxx xm m l p) (eOk (conDxx_ok xm m h) rfl) Tryz.func91 rfl (by kernel_rfl) rfl (by simp [sS,EDxx,EC,E0]) ?_)
  refine vc_eq (T :=
    (∃ (x:Nat),IdxG p l x∧(Z0 = (↑x:Int)∧True)∧yb2q0 xm m)∧∀ (x:Nat),IdxG p l x→ifB (decide ((↑x:Int) < (LI l))) (side (Z0 ≤ (↑x:Int)∧(↑x:Int) < (LI l)) (∃ (x_1:Nd),(isN x_1 [D.agg [ZI (Nd.kd (yb2q3 l x)),ZI (Nd.at_ (yb2q3 l x)),ZI (Nd.cl (yb2q3 l x)),D.str (Nd.tx (yb2q3 l x)),ZI (Nd.pr (yb2q3 l x)),ZI (Nd.op (yb2q3 l x)),ZI (Arr.k (yb2q4 l x)),SI (yb2q5 l x),SI (yb2q6 l x),D.sl N4 (LN (yb2q7 l x)) (fun (i:Nat) => Arr.row (List.getD (yb2q7 l x) i yb2q1)) Mode.any,D.sl (15:Nat) (LN (yb2q8 l x)) (fun (i:Nat) => Nd.row (List.getD (yb2q8 l x) i yb2q2)) Mode.any,D.sl (34:Nat) (LN (yb2q9 l x)) (fun (i:Nat) => Sm.row (List.getD (yb2q9 l x) i (Sm.mk Z0 Z0 [] Z0 yb2q2 yb2q2))) Mode.any,ZI (Nd.de (yb2q3 l x)),ZI (Nd.sl (yb2q3 l x)),ZI (Nd.ss (yb2q3 l x))],D.ref N1 xm N0] [D.ref N1 xm N0]∧x_1 ∈ l∧SM (yb2q10 xm m))∧∀ (y:Unit),True→ifB (p x_1) (True∧∃ (y:Unit),True∧(↑x:Int) = idxG p l Z0∧yb2q0 xm m) ((SM (yb2q11 l)∧SM (D.fn (Fn.func (55:Nat)) [] [D.ref N1 xm N0])∧SM D.unk∧SM (ZI (LI l))∧True)∧∃ (y:Nat),IdxG p l y∧LN l - y < LN l - x∧(IntKind.wrap IntKind.i64 ((↑x:Int) + Z1) = (↑y:Int)∧True)∧yb2q0 xm m))) (True∧∃ (y:Unit),True∧(-1:Int) = idxG p l Z0∧yb2q0 xm m)) (by kernel_rfl) ?_
  delta DA GI LI LN N0 N1 N4 SI SM Z0 Z1 ZI yb2q0 yb2q1 yb2q10 yb2q11 yb2q2 yb2q3 yb2q4 yb2q5 yb2q6 yb2q7 yb2q8 yb2q9
  have dn:(default:Nd) = Nd.mk 0 0 0 [] 0 0 (Arr.mk 0 [] [] []) [] [] 0 0 0 := rfl
  try simp only [← dn]
  simp only [Int.toNat_natCast,ifB_iff,side_iff,decide_eq_true_eq,decide_eq_false_iff_not,true_and,and_true,exists_const]
  simp only [maxLen] at hl
  refine ⟨⟨0,⟨Nat.zero_le _,by simp⟩,rfl⟩,fun i hh => ⟨fun hlt => ?_,fun hge => (hh.done hge).symm⟩⟩
  have hlt':i < l.length := by omega
  obtain ⟨s1,s2⟩ := hh.step hlt'
  have hm:l.getD i default ∈ l := by rw [List.getD_eq_getElem?_getD,List.getElem?_eq_getElem hlt']; exact List.getElem_mem hlt'
  refine ⟨⟨by omega,hlt⟩,l.getD i default,?_,fun _ _ => ⟨fun e => (s1 e).symm,fun e => ⟨i + 1,s2 e,by omega,wrap_i64' (by omega) (by omega)⟩⟩⟩
  first
    | exact ⟨wkL_refl _,hm,rfl⟩
    | exact ⟨wkL_refl _,hm⟩
def conDxc (xm:Nat) (m:Int) (l:List Nd) (p:Nd→Bool):Con := fun k ds S => match k with
  | 91 => some (pA ds S (.int .i64 (idxG p l 0)) (wkL ds [gsl 15 Nd.row1 l,.fn (.func 55) [] [.ref 1 xm 0]]∧S = ⟨[(1,xm,.cells [.int .i64 m])],[]⟩))
  | _ => none
noncomputable def EDxc (xm:Nat) (m:Int) (l:List Nd) (p:Nd→Bool):Senv := EC (conDxc xm m l p) 9 2 [4] (fun _ => ([],[]))
noncomputable section
def yb2q12 (p0:List Nd) (p1:Nat):List D := [D.sl (15:Nat) (LN p0) (fun (i:Nat) => Nd.row1 (List.getD p0 i (Nd.mk Z0 Z0 Z0 [] Z0 Z0 DA [] [] Z0 Z0 Z0))) Mode.any,D.fn (Fn.func (55:Nat)) [] [D.ref N1 p1 N0]]
def yb2q13 (p0:Nat) (p1:Int):St := St.mk [(N1,p0,AObj.cells [ZI p1])] []
end
theorem Dxc_ok (xm : Nat) (m : Int) (l : List Nd) (p : Nd → Bool) (h : ∀ b ∈ l, CS 55 (.agg b.row1 :: [.ref 1 xm 0]) ⟨[(1, xm, .cells [.int .i64 m])], []⟩ (.bool (p b))) (hl : l.length ≤ maxLen) :
    CS 54 [gsl 15 Nd.row1 l,.fn (.func 55) [] [.ref 1 xm 0]] ⟨[(1,xm,.cells [.int .i64 m])],[]⟩ (.bool (l.any p)) := by
  refine CS.of (con_of (A := sS _ _ _) (x := ()) (E := EDxc xm m l p) (eOk ?_ rfl) Tryz.func54 rfl (by kernel_rfl) rfl (by simp [sS,EDxc,EC,E0]) ?_)
  · intro k ds S A hh
    try unfold conDxc at hh
    try dsimp only at hh
    split at hh
    · injection hh with hh; subst hh
      refine pA_ok fun ⟨e,hs⟩ => ?_
      rw [hs]
      exact (Dxx_ok xm m l p h hl).wk e
    · cases hh
  refine vc_eq (T :=
    ∃ (x:Unit),(wkL (yb2q12 l xm) (yb2q12 l xm)∧SM (yb2q13 xm m))∧∀ (y:Unit),True→True∧∃ (y:Unit),True∧decide (Z0 ≤ idxG p l Z0) = List.any l p∧(SM xm∧(SM m∧True)∧True)∧True) (by kernel_rfl) ?_
  delta DA LN N0 N1 SM Z0 ZI yb2q12 yb2q13
  simp only [true_and,and_true,exists_const,forall_const]
  first
    | exact ⟨wkL_refl _,idxG_any _ l 0 (Int.le_refl _)⟩
    | exact ⟨⟨wkL_refl _,rfl⟩,idxG_any _ l 0 (Int.le_refl _)⟩
def conNxx  (l:List Nd) (p:Nd→Bool):Con := fun k ds S => match k with
  | 80 => some (pE (β := Nd) ds S (fun b => .bool (p b)) (fun b => isN b ds []∧b ∈ l∧S = ⟨[],[]⟩))
  | _ => none
theorem conNxx_ok  {l:List Nd} {p:Nd→Bool} (h:∀ b ∈ l,CS 80 (.agg b.row1 :: []) ⟨[],[]⟩ (.bool (p b))):ConOk Tryz.prog (conNxx  l p) := by
  intro k ds S A hh
  unfold conNxx at hh
  split at hh
  · injection hh with hh; subst hh
    refine pS_ok fun b ⟨e,hb,hs⟩ => ?_
    rw [hs]
    exact (h b hb).wk e
  · cases hh
noncomputable def ENxx  (l:List Nd) (p:Nd→Bool):Senv := { EC (conNxx  l p) 19 2 [4,5,7,8,9,16] (fun _ => ([],[])) with
  ann := fun b _ S => match b with
    | 0 => some { slots := [8],keep := [0,1,6,7],α := Nat,st := fun i => ([.int .i64 i],S),inv := fun i => IdxG p l i,mu := fun i => l.length - i }
    | _ => none }
noncomputable section
def yb2q14:Arr := DA
def yb2q15:Nd := Nd.mk Z0 Z0 Z0 [] Z0 Z0 yb2q14 [] [] Z0 Z0 Z0
def yb2q16 (p0:List Nd) (p1:Nat):Nd := List.getD p0 (Int.toNat (↑p1:Int)) yb2q15
def yb2q17 (p0:List Nd) (p1:Nat):Arr := Nd.va (yb2q16 p0 p1)
def yb2q18 (p0:List Nd) (p1:Nat):List Int := Arr.sh (yb2q17 p0 p1)
def yb2q19 (p0:List Nd) (p1:Nat):List Int := Arr.nu (yb2q17 p0 p1)
def yb2q20 (p0:List Nd) (p1:Nat):List Arr := Arr.it (yb2q17 p0 p1)
def yb2q21 (p0:List Nd) (p1:Nat):List Nd := Nd.ki (yb2q16 p0 p1)
def yb2q22 (p0:List Nd) (p1:Nat):List Sm := Nd.bo (yb2q16 p0 p1)
def yb2q23 (p0:List Nd):D := D.sl (15:Nat) (LN p0) (fun (i:Nat) => Nd.row1 (List.getD p0 i yb2q15)) Mode.any
end
theorem Nxx_ok  (l : List Nd) (p : Nd → Bool) (h : ∀ b ∈ l, CS 80 (.agg b.row1 :: []) ⟨[], []⟩ (.bool (p b))) (hl : l.length ≤ maxLen) :
    CS 91 [gsl 15 Nd.row1 l,.fn (.func 80) [] []] ⟨[],[]⟩ (.int .i64 (idxG p l 0)) := by
  refine CS.of (con_of (A := sS _ _ _) (x := ()) (E := ENxx  l p) (eOk (conNxx_ok  h) rfl) Tryz.func91 rfl (by kernel_rfl) rfl (by simp [sS,ENxx,EC,E0]) ?_)
  refine vc_eq (T :=
    (∃ (x:Nat),IdxG p l x∧(Z0 = (↑x:Int)∧True)∧True∧True)∧∀ (x:Nat),IdxG p l x→ifB (decide ((↑x:Int) < (LI l))) (side (Z0 ≤ (↑x:Int)∧(↑x:Int) < (LI l)) (∃ (x_1:Nd),(isN x_1 [D.agg [ZI (Nd.kd (yb2q16 l x)),ZI (Nd.at_ (yb2q16 l x)),ZI (Nd.cl (yb2q16 l x)),D.str (Nd.tx (yb2q16 l x)),ZI (Nd.pr (yb2q16 l x)),ZI (Nd.op (yb2q16 l x)),ZI (Arr.k (yb2q17 l x)),SI (yb2q18 l x),SI (yb2q19 l x),D.sl N4 (LN (yb2q20 l x)) (fun (i:Nat) => Arr.row (List.getD (yb2q20 l x) i yb2q14)) Mode.any,D.sl (15:Nat) (LN (yb2q21 l x)) (fun (i:Nat) => Nd.row (List.getD (yb2q21 l x) i yb2q15)) Mode.any,D.sl (34:Nat) (LN (yb2q22 l x)) (fun (i:Nat) => Sm.row (List.getD (yb2q22 l x) i (Sm.mk Z0 Z0 [] Z0 yb2q15 yb2q15))) Mode.any,ZI (Nd.de (yb2q16 l x)),ZI (Nd.sl (yb2q16 l x)),ZI (Nd.ss (yb2q16 l x))]] []∧x_1 ∈ l∧SM (St.mk [] []))∧∀ (y:Unit),True→ifB (p x_1) (True∧∃ (y:Unit),True∧(↑x:Int) = idxG p l Z0∧True∧True) ((SM (yb2q23 l)∧SM (D.fn (Fn.func (80:Nat)) [] [])∧SM D.unk∧SM (ZI (LI l))∧True)∧∃ (y:Nat),IdxG p l y∧LN l - y < LN l - x∧(IntKind.wrap IntKind.i64 ((↑x:Int) + Z1) = (↑y:Int)∧True)∧True∧True))) (True∧∃ (y:Unit),True∧(-1:Int) = idxG p l Z0∧True∧True)) (by kernel_rfl) ?_
  delta DA GI LI LN N1 N4 SI SM Z0 Z1 ZI yb2q14 yb2q15 yb2q16 yb2q17 yb2q18 yb2q19 yb2q20 yb2q21 yb2q22 yb2q23
  have dn:(default:Nd) = Nd.mk 0 0 0 [] 0 0 (Arr.mk 0 [] [] []) [] [] 0 0 0 := rfl
  try simp only [← dn]
  simp only [Int.toNat_natCast,ifB_iff,side_iff,decide_eq_true_eq,decide_eq_false_iff_not,true_and,and_true,exists_const]
  simp only [maxLen] at hl
  refine ⟨⟨0,⟨Nat.zero_le _,by simp⟩,rfl⟩,fun i hh => ⟨fun hlt => ?_,fun hge => (hh.done hge).symm⟩⟩
  have hlt':i < l.length := by omega
  obtain ⟨s1,s2⟩ := hh.step hlt'
  have hm:l.getD i default ∈ l := by rw [List.getD_eq_getElem?_getD,List.getElem?_eq_getElem hlt']; exact List.getElem_mem hlt'
  refine ⟨⟨by omega,hlt⟩,l.getD i default,?_,fun _ _ => ⟨fun e => (s1 e).symm,fun e => ⟨i + 1,s2 e,by omega,wrap_i64' (by omega) (by omega)⟩⟩⟩
  first
    | exact ⟨wkL_refl _,hm,rfl⟩
    | exact ⟨wkL_refl _,hm⟩
def conNxc  (l:List Nd) (p:Nd→Bool):Con := fun k ds S => match k with
  | 91 => some (pA ds S (.int .i64 (idxG p l 0)) (wkL ds [gsl 15 Nd.row1 l,.fn (.func 80) [] []]∧S = ⟨[],[]⟩))
  | _ => none
noncomputable def ENxc  (l:List Nd) (p:Nd→Bool):Senv := EC (conNxc  l p) 9 2 [4] (fun _ => ([],[]))
noncomputable section
def yb2q24 (p0:List Nd):List D := [D.sl (15:Nat) (LN p0) (fun (i:Nat) => Nd.row1 (List.getD p0 i (Nd.mk Z0 Z0 Z0 [] Z0 Z0 DA [] [] Z0 Z0 Z0))) Mode.any,D.fn (Fn.func (80:Nat)) [] []]
end
theorem Nxc_ok  (l : List Nd) (p : Nd → Bool) (h : ∀ b ∈ l, CS 80 (.agg b.row1 :: []) ⟨[], []⟩ (.bool (p b))) (hl : l.length ≤ maxLen) :
    CS 54 [gsl 15 Nd.row1 l,.fn (.func 80) [] []] ⟨[],[]⟩ (.bool (l.any p)) := by
  refine CS.of (con_of (A := sS _ _ _) (x := ()) (E := ENxc  l p) (eOk ?_ rfl) Tryz.func54 rfl (by kernel_rfl) rfl (by simp [sS,ENxc,EC,E0]) ?_)
  · intro k ds S A hh
    try unfold conNxc at hh
    try dsimp only at hh
    split at hh
    · injection hh with hh; subst hh
      refine pA_ok fun ⟨e,hs⟩ => ?_
      rw [hs]
      exact (Nxx_ok  l p h hl).wk e
    · cases hh
  refine vc_eq (T :=
    ∃ (x:Unit),(wkL (yb2q24 l) (yb2q24 l)∧SM (St.mk [] []))∧∀ (y:Unit),True→True∧∃ (y:Unit),True∧decide (Z0 ≤ idxG p l Z0) = List.any l p∧True∧True) (by kernel_rfl) ?_
  delta DA LN SM Z0 yb2q24
  simp only [true_and,and_true,exists_const,forall_const]
  first
    | exact ⟨wkL_refl _,idxG_any _ l 0 (Int.le_refl _)⟩
    | exact ⟨⟨wkL_refl _,rfl⟩,idxG_any _ l 0 (Int.le_refl _)⟩
def conOxx (xi:Nat) (xk:Nat) (q:Int) (l:List Nd) (p:Nd→Bool):Con := fun k ds S => match k with
  | 82 => some (pE (β := Nd) ds S (fun b => .bool (p b)) (fun b => isN b ds [.ref 0 xk 0,.ref 1 xi 0]∧b ∈ l∧S = ⟨[(1,xi,.cells [.fn (.func 82) [] [.ref 0 xk 0,.ref 1 xi 0]]),(0,xk,.cells [.int .i64 q])],[]⟩))
  | _ => none
theorem conOxx_ok (xi:Nat) (xk:Nat) (q:Int) {l:List Nd} {p:Nd→Bool} (h:∀ b ∈ l,CS 82 (.agg b.row1 :: [.ref 0 xk 0,.ref 1 xi 0]) ⟨[(1,xi,.cells [.fn (.func 82) [] [.ref 0 xk 0,.ref 1 xi 0]]),(0,xk,.cells [.int .i64 q])],[]⟩ (.bool (p b))):ConOk Tryz.prog (conOxx xi xk q l p) := by
  intro k ds S A hh
  unfold conOxx at hh
  split at hh
  · injection hh with hh; subst hh
    refine pS_ok fun b ⟨e,hb,hs⟩ => ?_
    rw [hs]
    exact (h b hb).wk e
  · cases hh
noncomputable def EOxx (xi:Nat) (xk:Nat) (q:Int) (l:List Nd) (p:Nd→Bool):Senv := { EC (conOxx xi xk q l p) 19 2 [4,5,7,8,9,16] (fun _ => ([],[])) with
  ann := fun b _ S => match b with
    | 0 => some { slots := [8],keep := [0,1,6,7],α := Nat,st := fun i => ([.int .i64 i],S),inv := fun i => IdxG p l i,mu := fun i => l.length - i }
    | _ => none }
noncomputable section
def yb2q25 (p0 p1:Nat):List D := [D.ref N0 p0 N0,D.ref N1 p1 N0]
def yb2q26 (p0 p1:Nat):D := D.fn (Fn.func (82:Nat)) [] (yb2q25 p0 p1)
def yb2q27 (p0 p1:Nat):Prop := SM (yb2q26 p0 p1)
def yb2q28 (p0 p1:Nat) (p2:Int):Prop := (SM p0∧(yb2q27 p1 p0∧True)∧SM p1∧(SM p2∧True)∧True)∧True
def yb2q29:Arr := DA
def yb2q30:Nd := Nd.mk Z0 Z0 Z0 [] Z0 Z0 yb2q29 [] [] Z0 Z0 Z0
def yb2q31 (p0:List Nd) (p1:Nat):Nd := List.getD p0 (Int.toNat (↑p1:Int)) yb2q30
def yb2q32 (p0:List Nd) (p1:Nat):Arr := Nd.va (yb2q31 p0 p1)
def yb2q33 (p0:List Nd) (p1:Nat):List Int := Arr.sh (yb2q32 p0 p1)
def yb2q34 (p0:List Nd) (p1:Nat):List Int := Arr.nu (yb2q32 p0 p1)
def yb2q35 (p0:List Nd) (p1:Nat):List Arr := Arr.it (yb2q32 p0 p1)
def yb2q36 (p0:List Nd) (p1:Nat):List Nd := Nd.ki (yb2q31 p0 p1)
def yb2q37 (p0:List Nd) (p1:Nat):List Sm := Nd.bo (yb2q31 p0 p1)
def yb2q38 (p0 p1:Nat) (p2:Int):St := St.mk [(N1,p0,AObj.cells [yb2q26 p1 p0]),(N0,p1,AObj.cells [ZI p2])] []
def yb2q39 (p0:List Nd):D := D.sl (15:Nat) (LN p0) (fun (i:Nat) => Nd.row1 (List.getD p0 i yb2q30)) Mode.any
end
theorem Oxx_ok (xi : Nat) (xk : Nat) (q : Int) (l : List Nd) (p : Nd → Bool) (h : ∀ b ∈ l, CS 82 (.agg b.row1 :: [.ref 0 xk 0, .ref 1 xi 0]) ⟨[(1, xi, .cells [.fn (.func 82) [] [.ref 0 xk 0, .ref 1 xi 0]]), (0, xk, .cells [.int .i64 q])], []⟩ (.bool (p b))) (hl : l.length ≤ maxLen) :
    CS 91 [gsl 15 Nd.row1 l,.fn (.func 82) [] [.ref 0 xk 0,.ref 1 xi 0]] ⟨[(1,xi,.cells [.fn (.func 82) [] [.ref 0 xk 0,.ref 1 xi 0]]),(0,xk,.cells [.int .i64 q])],[]⟩ (.int .i64 (idxG p l 0)) := by
  refine CS.of (con_of (A := sS _ _ _) (x := ()) (E := EOxx xi xk q l p) (eOk (conOxx_ok xi xk q h) rfl) Tryz.func91 rfl (by kernel_rfl) rfl (by simp [sS,EOxx,EC,E0]) ?_)
  refine vc_eq (T :=
    (∃ (x:Nat),IdxG p l x∧(Z0 = (↑x:Int)∧True)∧yb2q28 xi xk q)∧∀ (x:Nat),IdxG p l x→ifB (decide ((↑x:Int) < (LI l))) (side (Z0 ≤ (↑x:Int)∧(↑x:Int) < (LI l)) (∃ (x_1:Nd),(isN x_1 (D.agg [ZI (Nd.kd (yb2q31 l x)),ZI (Nd.at_ (yb2q31 l x)),ZI (Nd.cl (yb2q31 l x)),D.str (Nd.tx (yb2q31 l x)),ZI (Nd.pr (yb2q31 l x)),ZI (Nd.op (yb2q31 l x)),ZI (Arr.k (yb2q32 l x)),SI (yb2q33 l x),SI (yb2q34 l x),D.sl N4 (LN (yb2q35 l x)) (fun (i:Nat) => Arr.row (List.getD (yb2q35 l x) i yb2q29)) Mode.any,D.sl (15:Nat) (LN (yb2q36 l x)) (fun (i:Nat) => Nd.row (List.getD (yb2q36 l x) i yb2q30)) Mode.any,D.sl (34:Nat) (LN (yb2q37 l x)) (fun (i:Nat) => Sm.row (List.getD (yb2q37 l x) i (Sm.mk Z0 Z0 [] Z0 yb2q30 yb2q30))) Mode.any,ZI (Nd.de (yb2q31 l x)),ZI (Nd.sl (yb2q31 l x)),ZI (Nd.ss (yb2q31 l x))] :: yb2q25 xk xi) (yb2q25 xk xi)∧x_1 ∈ l∧SM (yb2q38 xi xk q))∧∀ (y:Unit),True→ifB (p x_1) (True∧∃ (y:Unit),True∧(↑x:Int) = idxG p l Z0∧yb2q28 xi xk q) ((SM (yb2q39 l)∧yb2q27 xk xi∧SM D.unk∧SM (ZI (LI l))∧True)∧∃ (y:Nat),IdxG p l y∧LN l - y < LN l - x∧(IntKind.wrap IntKind.i64 ((↑x:Int) + Z1) = (↑y:Int)∧True)∧yb2q28 xi xk q))) (True∧∃ (y:Unit),True∧(-1:Int) = idxG p l Z0∧yb2q28 xi xk q)) (by kernel_rfl) ?_
  delta DA GI LI LN N0 N1 N4 SI SM Z0 Z1 ZI yb2q25 yb2q26 yb2q27 yb2q28 yb2q29 yb2q30 yb2q31 yb2q32 yb2q33 yb2q34 yb2q35 yb2q36 yb2q37 yb2q38 yb2q39
  have dn:(default:Nd) = Nd.mk 0 0 0 [] 0 0 (Arr.mk 0 [] [] []) [] [] 0 0 0 := rfl
  try simp only [← dn]
  simp only [Int.toNat_natCast,ifB_iff,side_iff,decide_eq_true_eq,decide_eq_false_iff_not,true_and,and_true,exists_const]
  simp only [maxLen] at hl
  refine ⟨⟨0,⟨Nat.zero_le _,by simp⟩,rfl⟩,fun i hh => ⟨fun hlt => ?_,fun hge => (hh.done hge).symm⟩⟩
  have hlt':i < l.length := by omega
  obtain ⟨s1,s2⟩ := hh.step hlt'
  have hm:l.getD i default ∈ l := by rw [List.getD_eq_getElem?_getD,List.getElem?_eq_getElem hlt']; exact List.getElem_mem hlt'
  refine ⟨⟨by omega,hlt⟩,l.getD i default,?_,fun _ _ => ⟨fun e => (s1 e).symm,fun e => ⟨i + 1,s2 e,by omega,wrap_i64' (by omega) (by omega)⟩⟩⟩
  first
    | exact ⟨wkL_refl _,hm,rfl⟩
    | exact ⟨wkL_refl _,hm⟩
def conOxc (xi:Nat) (xk:Nat) (q:Int) (l:List Nd) (p:Nd→Bool):Con := fun k ds S => match k with
  | 91 => some (pA ds S (.int .i64 (idxG p l 0)) (wkL ds [gsl 15 Nd.row1 l,.fn (.func 82) [] [.ref 0 xk 0,.ref 1 xi 0]]∧S = ⟨[(1,xi,.cells [.fn (.func 82) [] [.ref 0 xk 0,.ref 1 xi 0]]),(0,xk,.cells [.int .i64 q])],[]⟩))
  | _ => none
noncomputable def EOxc (xi:Nat) (xk:Nat) (q:Int) (l:List Nd) (p:Nd→Bool):Senv := EC (conOxc xi xk q l p) 9 2 [4] (fun _ => ([],[]))
noncomputable section
def yb2q40 (p0 p1:Nat):D := D.fn (Fn.func (82:Nat)) [] [D.ref N0 p0 N0,D.ref N1 p1 N0]
def yb2q41 (p0 p1:Nat):List D := [yb2q40 p0 p1]
def yb2q42 (p0:List Nd) (p1 p2:Nat):List D := D.sl (15:Nat) (LN p0) (fun (i:Nat) => Nd.row1 (List.getD p0 i (Nd.mk Z0 Z0 Z0 [] Z0 Z0 DA [] [] Z0 Z0 Z0))) Mode.any :: yb2q41 p1 p2
def yb2q43 (p0 p1:Nat) (p2:Int):St := St.mk [(N1,p0,AObj.cells (yb2q41 p1 p0)),(N0,p1,AObj.cells [ZI p2])] []
end
theorem Oxc_ok (xi : Nat) (xk : Nat) (q : Int) (l : List Nd) (p : Nd → Bool) (h : ∀ b ∈ l, CS 82 (.agg b.row1 :: [.ref 0 xk 0, .ref 1 xi 0]) ⟨[(1, xi, .cells [.fn (.func 82) [] [.ref 0 xk 0, .ref 1 xi 0]]), (0, xk, .cells [.int .i64 q])], []⟩ (.bool (p b))) (hl : l.length ≤ maxLen) :
    CS 54 [gsl 15 Nd.row1 l,.fn (.func 82) [] [.ref 0 xk 0,.ref 1 xi 0]] ⟨[(1,xi,.cells [.fn (.func 82) [] [.ref 0 xk 0,.ref 1 xi 0]]),(0,xk,.cells [.int .i64 q])],[]⟩ (.bool (l.any p)) := by
  refine CS.of (con_of (A := sS _ _ _) (x := ()) (E := EOxc xi xk q l p) (eOk ?_ rfl) Tryz.func54 rfl (by kernel_rfl) rfl (by simp [sS,EOxc,EC,E0]) ?_)
  · intro k ds S A hh
    try unfold conOxc at hh
    try dsimp only at hh
    split at hh
    · injection hh with hh; subst hh
      refine pA_ok fun ⟨e,hs⟩ => ?_
      rw [hs]
      exact (Oxx_ok xi xk q l p h hl).wk e
    · cases hh
  refine vc_eq (T :=
    ∃ (x:Unit),(wkL (yb2q42 l xk xi) (yb2q42 l xk xi)∧SM (yb2q43 xi xk q))∧∀ (y:Unit),True→True∧∃ (y:Unit),True∧decide (Z0 ≤ idxG p l Z0) = List.any l p∧(SM xi∧(SM (yb2q40 xk xi)∧True)∧SM xk∧(SM q∧True)∧True)∧True) (by kernel_rfl) ?_
  delta DA LN N0 N1 SM Z0 ZI yb2q40 yb2q41 yb2q42 yb2q43
  simp only [true_and,and_true,exists_const,forall_const]
  first
    | exact ⟨wkL_refl _,idxG_any _ l 0 (Int.le_refl _)⟩
    | exact ⟨⟨wkL_refl _,rfl⟩,idxG_any _ l 0 (Int.le_refl _)⟩
def conPxx (xi:Nat) (xk:Nat) (q:Int) (l:List Sm) (p:Sm→Bool):Con := fun k ds S => match k with
  | 84 => some (pE (β := Sm) ds S (fun b => .bool (p b)) (fun b => isS b ds [.ref 1 xi 0]∧b ∈ l∧S = ⟨[(1,xi,.cells [.fn (.func 82) [] [.ref 0 xk 0,.ref 1 xi 0]]),(0,xk,.cells [.int .i64 q])],[]⟩))
  | _ => none
theorem conPxx_ok (xi:Nat) (xk:Nat) (q:Int) {l:List Sm} {p:Sm→Bool} (h:∀ b ∈ l,CS 84 (.agg b.row1 :: [.ref 1 xi 0]) ⟨[(1,xi,.cells [.fn (.func 82) [] [.ref 0 xk 0,.ref 1 xi 0]]),(0,xk,.cells [.int .i64 q])],[]⟩ (.bool (p b))):ConOk Tryz.prog (conPxx xi xk q l p) := by
  intro k ds S A hh
  unfold conPxx at hh
  split at hh
  · injection hh with hh; subst hh
    refine pS_ok fun b ⟨e,hb,hs⟩ => ?_
    rw [hs]
    exact (h b hb).wk e
  · cases hh
noncomputable def EPxx (xi:Nat) (xk:Nat) (q:Int) (l:List Sm) (p:Sm→Bool):Senv := { EC (conPxx xi xk q l p) 19 2 [4,5,7,8,9,16] (fun _ => ([],[])) with
  ann := fun b _ S => match b with
    | 0 => some { slots := [8],keep := [0,1,6,7],α := Nat,st := fun i => ([.int .i64 i],S),inv := fun i => IdxG p l i,mu := fun i => l.length - i }
    | _ => none }
noncomputable section
def yb2q44 (p0 p1:Nat):D := D.fn (Fn.func (82:Nat)) [] [D.ref N0 p0 N0,D.ref N1 p1 N0]
def yb2q45 (p0 p1:Nat) (p2:Int):Prop := (SM p0∧(SM (yb2q44 p1 p0)∧True)∧SM p1∧(SM p2∧True)∧True)∧True
def yb2q46:Arr := DA
def yb2q47:Nd := Nd.mk Z0 Z0 Z0 [] Z0 Z0 yb2q46 [] [] Z0 Z0 Z0
def yb2q48:Sm := Sm.mk Z0 Z0 [] Z0 yb2q47 yb2q47
def yb2q49 (p0:List Sm) (p1:Nat):Sm := List.getD p0 (Int.toNat (↑p1:Int)) yb2q48
def yb2q50 (p0:List Sm) (p1:Nat):Nd := Sm.te (yb2q49 p0 p1)
def yb2q51 (p0:List Sm) (p1:Nat):Arr := Nd.va (yb2q50 p0 p1)
def yb2q52 (p0:List Sm) (p1:Nat):List Int := Arr.sh (yb2q51 p0 p1)
def yb2q53 (p0:List Sm) (p1:Nat):List Int := Arr.nu (yb2q51 p0 p1)
def yb2q54 (p0:List Sm) (p1:Nat):List Arr := Arr.it (yb2q51 p0 p1)
def yb2q55 (p0:List Sm) (p1:Nat):List Nd := Nd.ki (yb2q50 p0 p1)
def yb2q56 (p0:List Sm) (p1:Nat):List Sm := Nd.bo (yb2q50 p0 p1)
def yb2q57 (p0:List Sm) (p1:Nat):Nd := Sm.nd (yb2q49 p0 p1)
def yb2q58 (p0:List Sm) (p1:Nat):Arr := Nd.va (yb2q57 p0 p1)
def yb2q59 (p0:List Sm) (p1:Nat):List Int := Arr.sh (yb2q58 p0 p1)
def yb2q60 (p0:List Sm) (p1:Nat):List Int := Arr.nu (yb2q58 p0 p1)
def yb2q61 (p0:List Sm) (p1:Nat):List Arr := Arr.it (yb2q58 p0 p1)
def yb2q62 (p0:List Sm) (p1:Nat):List Nd := Nd.ki (yb2q57 p0 p1)
def yb2q63 (p0:List Sm) (p1:Nat):List Sm := Nd.bo (yb2q57 p0 p1)
def yb2q64 (p0 p1:Nat) (p2:Int):St := St.mk [(N1,p0,AObj.cells [yb2q44 p1 p0]),(N0,p1,AObj.cells [ZI p2])] []
def yb2q65 (p0:List Sm):D := D.sl (34:Nat) (LN p0) (fun (i:Nat) => Sm.row1 (List.getD p0 i yb2q48)) Mode.any
end
theorem Pxx_ok (xi : Nat) (xk : Nat) (q : Int) (l : List Sm) (p : Sm → Bool) (h : ∀ b ∈ l, CS 84 (.agg b.row1 :: [.ref 1 xi 0]) ⟨[(1, xi, .cells [.fn (.func 82) [] [.ref 0 xk 0, .ref 1 xi 0]]), (0, xk, .cells [.int .i64 q])], []⟩ (.bool (p b))) (hl : l.length ≤ maxLen) :
    CS 105 [gsl 34 Sm.row1 l,.fn (.func 84) [] [.ref 1 xi 0]] ⟨[(1,xi,.cells [.fn (.func 82) [] [.ref 0 xk 0,.ref 1 xi 0]]),(0,xk,.cells [.int .i64 q])],[]⟩ (.int .i64 (idxG p l 0)) := by
  refine CS.of (con_of (A := sS _ _ _) (x := ()) (E := EPxx xi xk q l p) (eOk (conPxx_ok xi xk q h) rfl) Tryz.func105 rfl (by kernel_rfl) rfl (by simp [sS,EPxx,EC,E0]) ?_)
  refine vc_eq (T :=
    (∃ (x:Nat),IdxG p l x∧(Z0 = (↑x:Int)∧True)∧yb2q45 xi xk q)∧∀ (x:Nat),IdxG p l x→ifB (decide ((↑x:Int) < (LI l))) (side (Z0 ≤ (↑x:Int)∧(↑x:Int) < (LI l)) (∃ (x_1:Sm),(isS x_1 [D.agg [ZI (Sm.kd (yb2q49 l x)),ZI (Sm.at_ (yb2q49 l x)),D.str (Sm.nm (yb2q49 l x)),ZI (Sm.sl (yb2q49 l x)),ZI (Nd.kd (yb2q50 l x)),ZI (Nd.at_ (yb2q50 l x)),ZI (Nd.cl (yb2q50 l x)),D.str (Nd.tx (yb2q50 l x)),ZI (Nd.pr (yb2q50 l x)),ZI (Nd.op (yb2q50 l x)),ZI (Arr.k (yb2q51 l x)),SI (yb2q52 l x),SI (yb2q53 l x),D.sl N4 (LN (yb2q54 l x)) (fun (i:Nat) => Arr.row (List.getD (yb2q54 l x) i yb2q46)) Mode.any,D.sl (15:Nat) (LN (yb2q55 l x)) (fun (i:Nat) => Nd.row (List.getD (yb2q55 l x) i yb2q47)) Mode.any,D.sl (34:Nat) (LN (yb2q56 l x)) (fun (i:Nat) => Sm.row (List.getD (yb2q56 l x) i yb2q48)) Mode.any,ZI (Nd.de (yb2q50 l x)),ZI (Nd.sl (yb2q50 l x)),ZI (Nd.ss (yb2q50 l x)),ZI (Nd.kd (yb2q57 l x)),ZI (Nd.at_ (yb2q57 l x)),ZI (Nd.cl (yb2q57 l x)),D.str (Nd.tx (yb2q57 l x)),ZI (Nd.pr (yb2q57 l x)),ZI (Nd.op (yb2q57 l x)),ZI (Arr.k (yb2q58 l x)),SI (yb2q59 l x),SI (yb2q60 l x),D.sl N4 (LN (yb2q61 l x)) (fun (i:Nat) => Arr.row (List.getD (yb2q61 l x) i yb2q46)) Mode.any,D.sl (15:Nat) (LN (yb2q62 l x)) (fun (i:Nat) => Nd.row (List.getD (yb2q62 l x) i yb2q47)) Mode.any,D.sl (34:Nat) (LN (yb2q63 l x)) (fun (i:Nat) => Sm.row (List.getD (yb2q63 l x) i yb2q48)) Mode.any,ZI (Nd.de (yb2q57 l x)),ZI (Nd.sl (yb2q57 l x)),ZI (Nd.ss (yb2q57 l x))],D.ref N1 xi N0] [D.ref N1 xi N0]∧x_1 ∈ l∧SM (yb2q64 xi xk q))∧∀ (y:Unit),True→ifB (p x_1) (True∧∃ (y:Unit),True∧(↑x:Int) = idxG p l Z0∧yb2q45 xi xk q) ((SM (yb2q65 l)∧SM (D.fn (Fn.func (84:Nat)) [] [D.ref N1 xi N0])∧SM D.unk∧SM (ZI (LI l))∧True)∧∃ (y:Nat),IdxG p l y∧LN l - y < LN l - x∧(IntKind.wrap IntKind.i64 ((↑x:Int) + Z1) = (↑y:Int)∧True)∧yb2q45 xi xk q))) (True∧∃ (y:Unit),True∧(-1:Int) = idxG p l Z0∧yb2q45 xi xk q)) (by kernel_rfl) ?_
  delta DA GI LI LN N0 N1 N4 SI SM Z0 Z1 ZI yb2q44 yb2q45 yb2q46 yb2q47 yb2q48 yb2q49 yb2q50 yb2q51 yb2q52 yb2q53 yb2q54 yb2q55 yb2q56 yb2q57 yb2q58 yb2q59 yb2q60 yb2q61 yb2q62 yb2q63 yb2q64 yb2q65
  have dn:(default:Nd) = Nd.mk 0 0 0 [] 0 0 (Arr.mk 0 [] [] []) [] [] 0 0 0 := rfl
  try simp only [← dn]
  simp only [Int.toNat_natCast,ifB_iff,side_iff,decide_eq_true_eq,decide_eq_false_iff_not,true_and,and_true,exists_const]
  simp only [maxLen] at hl
  refine ⟨⟨0,⟨Nat.zero_le _,by simp⟩,rfl⟩,fun i hh => ⟨fun hlt => ?_,fun hge => (hh.done hge).symm⟩⟩
  have hlt':i < l.length := by omega
  obtain ⟨s1,s2⟩ := hh.step hlt'
  have hm:l.getD i default ∈ l := by rw [List.getD_eq_getElem?_getD,List.getElem?_eq_getElem hlt']; exact List.getElem_mem hlt'
  refine ⟨⟨by omega,hlt⟩,l.getD i default,?_,fun _ _ => ⟨fun e => (s1 e).symm,fun e => ⟨i + 1,s2 e,by omega,wrap_i64' (by omega) (by omega)⟩⟩⟩
  first
    | exact ⟨wkL_refl _,hm,rfl⟩
    | exact ⟨wkL_refl _,hm⟩
def conPxc (xi:Nat) (xk:Nat) (q:Int) (l:List Sm) (p:Sm→Bool):Con := fun k ds S => match k with
  | 105 => some (pA ds S (.int .i64 (idxG p l 0)) (wkL ds [gsl 34 Sm.row1 l,.fn (.func 84) [] [.ref 1 xi 0]]∧S = ⟨[(1,xi,.cells [.fn (.func 82) [] [.ref 0 xk 0,.ref 1 xi 0]]),(0,xk,.cells [.int .i64 q])],[]⟩))
  | _ => none
noncomputable def EPxc (xi:Nat) (xk:Nat) (q:Int) (l:List Sm) (p:Sm→Bool):Senv := EC (conPxc xi xk q l p) 9 2 [4] (fun _ => ([],[]))
noncomputable section
def yb2q66:Nd := Nd.mk Z0 Z0 Z0 [] Z0 Z0 DA [] [] Z0 Z0 Z0
def yb2q67 (p0:List Sm) (p1:Nat):List D := [D.sl (34:Nat) (LN p0) (fun (i:Nat) => Sm.row1 (List.getD p0 i (Sm.mk Z0 Z0 [] Z0 yb2q66 yb2q66))) Mode.any,D.fn (Fn.func (84:Nat)) [] [D.ref N1 p1 N0]]
def yb2q68 (p0 p1:Nat):D := D.fn (Fn.func (82:Nat)) [] [D.ref N0 p0 N0,D.ref N1 p1 N0]
def yb2q69 (p0 p1:Nat) (p2:Int):St := St.mk [(N1,p0,AObj.cells [yb2q68 p1 p0]),(N0,p1,AObj.cells [ZI p2])] []
end
theorem Pxc_ok (xi : Nat) (xk : Nat) (q : Int) (l : List Sm) (p : Sm → Bool) (h : ∀ b ∈ l, CS 84 (.agg b.row1 :: [.ref 1 xi 0]) ⟨[(1, xi, .cells [.fn (.func 82) [] [.ref 0 xk 0, .ref 1 xi 0]]), (0, xk, .cells [.int .i64 q])], []⟩ (.bool (p b))) (hl : l.length ≤ maxLen) :
    CS 83 [gsl 34 Sm.row1 l,.fn (.func 84) [] [.ref 1 xi 0]] ⟨[(1,xi,.cells [.fn (.func 82) [] [.ref 0 xk 0,.ref 1 xi 0]]),(0,xk,.cells [.int .i64 q])],[]⟩ (.bool (l.any p)) := by
  refine CS.of (con_of (A := sS _ _ _) (x := ()) (E := EPxc xi xk q l p) (eOk ?_ rfl) Tryz.func83 rfl (by kernel_rfl) rfl (by simp [sS,EPxc,EC,E0]) ?_)
  · intro k ds S A hh
    try unfold conPxc at hh
    try dsimp only at hh
    split at hh
    · injection hh with hh; subst hh
      refine pA_ok fun ⟨e,hs⟩ => ?_
      rw [hs]
      exact (Pxx_ok xi xk q l p h hl).wk e
    · cases hh
  refine vc_eq (T :=
    ∃ (x:Unit),(wkL (yb2q67 l xi) (yb2q67 l xi)∧SM (yb2q69 xi xk q))∧∀ (y:Unit),True→True∧∃ (y:Unit),True∧decide (Z0 ≤ idxG p l Z0) = List.any l p∧(SM xi∧(SM (yb2q68 xk xi)∧True)∧SM xk∧(SM q∧True)∧True)∧True) (by kernel_rfl) ?_
  delta DA LN N0 N1 SM Z0 ZI yb2q66 yb2q67 yb2q68 yb2q69
  simp only [true_and,and_true,exists_const,forall_const]
  first
    | exact ⟨wkL_refl _,idxG_any _ l 0 (Int.le_refl _)⟩
    | exact ⟨⟨wkL_refl _,rfl⟩,idxG_any _ l 0 (Int.le_refl _)⟩
end Go.Proofs.YtjnifeedbgefpaaGreatDoor
namespace Go.Proofs.YtjnifeedbgefpaaGreatDoor
open Go Go.Ab
set_option maxRecDepth 100000
theorem inner_sz {n b:Nd} (h:b ∈ innerN n):szN b < szN n := by
  have := szL_mem h
  rw [szN_inner n]
  omega
theorem sm_kid {n b:Nd} (h:n.sm) (hb:b ∈ innerN n):b.sm := by
  cases n with
  | mk kd at_ cl tx pr op va ki bo de sl ss =>
    simp only [Nd.sm] at h
    obtain ⟨_,_,h1,h2⟩ := h
    rcases List.mem_append.1 hb with hb | hb
    · exact (ndsSm_iff _).1 h1 b hb
    · obtain ⟨s,hs,hb⟩ := List.mem_flatMap.1 hb
      have h3 := (smsSm_iff _).1 h2 s hs
      cases s with
      | mk k2 a2 nm s2 te nd =>
        simp only [Sm.sm] at h3
        unfold partsS at hb
        split at hb
        · rcases List.mem_cons.1 hb with rfl | hb
          · exact h3.2.1
          · rcases List.mem_cons.1 hb with rfl | hb
            · exact h3.2.2
            · cases hb
        · rcases List.mem_cons.1 hb with rfl | hb
          · exact h3.2.2
          · cases hb
theorem sm_len {n:Nd} (h:n.sm):n.tx.length ≤ maxB∧n.ki.length ≤ maxB∧n.bo.length ≤ maxB := by
  cases n with
  | mk kd at_ cl tx pr op va ki bo de sl ss =>
    simp only [Nd.sm] at h
    exact h.1
theorem sm_inner {n:Nd} (h:n.sm):(innerN n).length ≤ maxLen := by
  obtain ⟨_,h1,h2⟩ := sm_len h
  have := inner_len n
  unfold maxB at h1 h2
  unfold maxLen
  omega
def deepB (n:Nd) (m:Int):Bool := decide (m < (dpN n:Int))
theorem deep_any (m:Int):∀ l:List Nd,(l.any fun b => deepB b m) = true↔(l ≠ []∧m < (dpL l:Int))
  | [] => by simp
  | [x] => by
    simp only [List.any_cons,List.any_nil,Bool.or_false,deepB,decide_eq_true_eq,dpL]
    have := dpN_pos x
    constructor
    · intro h; exact ⟨by simp,by omega⟩
    · rintro ⟨_,h⟩; omega
  | x :: y :: r => by
    have ih := deep_any m (y :: r)
    have e:dpL (x :: y :: r) = max (dpN x) (dpL (y :: r)) := by simp only [dpL]
    rw [List.any_cons,Bool.or_eq_true,ih,e]
    simp only [deepB,decide_eq_true_eq,ne_eq,reduceCtorEq,not_false_eq_true,true_and]
    omega
theorem deep_eq (n:Nd) (m:Int):deepB n m = (decide (m < 1) || (innerN n).any fun b => deepB b (m - 1)) := by
  rw [Bool.eq_iff_iff,Bool.or_eq_true,deep_any,decide_eq_true_eq]
  unfold deepB
  rw [decide_eq_true_eq,dpN_inner n]
  cases hi:innerN n with
  | nil =>
    simp only [dpL,ne_eq,not_true_eq_false,false_and,or_false]
    omega
  | cons x r =>
    simp only [ne_eq,reduceCtorEq,not_false_eq_true,true_and]
    have := dpN_pos x
    have:dpN x ≤ dpL (x :: r) := dpL_mem (by simp)
    omega
def conD1 (b:Nd) (m:Int):Con := fun k ds S => match k with
  | 34 => some (pA ds S (.bool (deepB b m)) (isN b ds [.int .i64 m]))
  | _ => none
noncomputable def Ed1 (b:Nd) (m:Int):Senv := EC (conD1 b (m - 1)) 8 4 [] (fun _ => ([],[]))
noncomputable section
def yb3q0 (p0:Nd):Arr := Nd.va p0
def yb3q1 (p0:Nd):List Int := Arr.sh (yb3q0 p0)
def yb3q2 (p0:Nd):List Int := Arr.nu (yb3q0 p0)
def yb3q3 (p0:Nd):List Arr := Arr.it (yb3q0 p0)
def yb3q4:Arr := DA
def yb3q5:Nd := Nd.mk Z0 Z0 Z0 [] Z0 Z0 yb3q4 [] [] Z0 Z0 Z0
end
theorem d1_ok (b : Nd) (m : Int) (hm : inI64 m) (h1 : 1 ≤ m) (h : CD 34 [.agg b.row1, .int .i64 (m - 1)] (.bool (deepB b (m - 1)))) (xm : Nat) :
    CS 55 [.agg b.row1,.ref 1 xm 0] ⟨[(1,xm,.cells [.int .i64 m])],[]⟩ (.bool (deepB b (m - 1))) := by
  refine CS.of (con_of (A := sS _ _ _) (x := ()) (E := Ed1 b m) (eOk ?_ rfl) Tryz.func55 rfl (by kernel_rfl) rfl (by simp [sS,Ed1,EC,E0]) ?_)
  · intro k ds S A hh
    try unfold conD1 at hh
    try dsimp only at hh
    split at hh
    · injection hh with hh; subst hh
      exact pA_ok fun e => CD.at_ (h.wk e) _
    · cases hh
  refine vc_eq (T :=
    ∀ (x:Nat),xm ≠ x∧True→SM x∧SM xm∧∃ (x:Unit),isN b [D.agg [ZI (Nd.kd b),ZI (Nd.at_ b),ZI (Nd.cl b),D.str (Nd.tx b),ZI (Nd.pr b),ZI (Nd.op b),ZI (Arr.k (yb3q0 b)),SI (yb3q1 b),SI (yb3q2 b),D.sl N4 (LN (yb3q3 b)) (fun (i:Nat) => Arr.row (List.getD (yb3q3 b) i yb3q4)) Mode.any,D.sl (15:Nat) (LN (Nd.ki b)) (fun (i:Nat) => Nd.row (List.getD (Nd.ki b) i yb3q5)) Mode.any,D.sl (34:Nat) (LN (Nd.bo b)) (fun (i:Nat) => Sm.row (List.getD (Nd.bo b) i (Sm.mk Z0 Z0 [] Z0 yb3q5 yb3q5))) Mode.any,ZI (Nd.de b),ZI (Nd.sl b),ZI (Nd.ss b)],ZI (IntKind.wrap IntKind.i64 (m - Z1))] [ZI (m - Z1)]∧∀ (y:Unit),True→True∧∃ (y:Unit),True∧SM (deepB b (m - Z1))∧(SM xm∧(SM m∧True)∧True)∧True) (by kernel_rfl) ?_
  delta DA GI LN N1 N4 SI SM Z0 Z1 ZI yb3q0 yb3q1 yb3q2 yb3q3 yb3q4 yb3q5
  simp only [eq_self,ne_eq,implies_true,true_and,and_true,exists_const]
  have w:IntKind.i64.wrap (m - 1) = m - 1 := by unfold inI64 at hm; exact wrap_i64' (by omega) (by omega)
  rw [w]
  exact fun _ _ => nd_self _ _
def conDe (n:Nd) (m:Int):Con := fun k ds S => match k with
  | 31 => some (pA ds S (gsl 15 Nd.row1 (innerN n)) (isN2 n ds []))
  | 54 => match ds with
    | [_,.fn _ _ [.ref _ xm _]] => some (pA ds S (.bool ((innerN n).any fun b => deepB b (m - 1))) (1 ≤ m∧wkL ds [gsl 15 Nd.row1 (innerN n),.fn (.func 55) [] [.ref 1 xm 0]]∧∃ F,S = St.add ⟨[(1,xm,.cells [.int .i64 m])],[]⟩ F))
    | _ => none
  | _ => none
noncomputable def Ede (n:Nd) (m:Int):Senv := EC (conDe n m) 13 5 [] (fun _ => ([],[]))
noncomputable section
def yb3q6 (p0:Nd):Arr := Nd.va p0
def yb3q7 (p0:Nd):List Int := Arr.sh (yb3q6 p0)
def yb3q8 (p0:Nd):List Int := Arr.nu (yb3q6 p0)
def yb3q9 (p0:Nd):List Arr := Arr.it (yb3q6 p0)
def yb3q10:Arr := DA
def yb3q11:Nd := Nd.mk Z0 Z0 Z0 [] Z0 Z0 yb3q10 [] [] Z0 Z0 Z0
def yb3q12 (p0:Nd):List D := [ZI (Nd.kd p0),ZI (Nd.at_ p0),ZI (Nd.cl p0),D.str (Nd.tx p0),ZI (Nd.pr p0),ZI (Nd.op p0),ZI (Arr.k (yb3q6 p0)),SI (yb3q7 p0),SI (yb3q8 p0),D.sl N4 (LN (yb3q9 p0)) (fun (i:Nat) => Arr.row (List.getD (yb3q9 p0) i yb3q10)) Mode.any,D.sl (15:Nat) (LN (Nd.ki p0)) (fun (i:Nat) => Nd.row1 (List.getD (Nd.ki p0) i yb3q11)) Mode.any,D.sl (34:Nat) (LN (Nd.bo p0)) (fun (i:Nat) => Sm.row1 (List.getD (Nd.bo p0) i (Sm.mk Z0 Z0 [] Z0 yb3q11 yb3q11))) Mode.any,ZI (Nd.de p0),ZI (Nd.sl p0),ZI (Nd.ss p0)]
def yb3q13 (p0:Nd):List Nd := innerN p0
def yb3q14 (p0:Nd):D := D.sl (15:Nat) (LN (yb3q13 p0)) (fun (i:Nat) => Nd.row1 (List.getD (yb3q13 p0) i yb3q11)) Mode.any
end
theorem de_step (n : Nd) (m : Int) (hn : n.sm) (hm : inI64 m) (h : 1 ≤ m → ∀ b ∈ innerN n, CD 34 [.agg b.row1, .int .i64 (m - 1)] (.bool (deepB b (m - 1)))) :
    CD 34 [.agg n.row2,.int .i64 m] (.bool (deepB n m)) := by
  obtain ⟨_,k1,k2⟩ := sm_len hn
  refine con_of (A := sC _ _) (x := ()) (E := Ede n m) (eOk ?_ rfl) Tryz.func34 rfl (by kernel_rfl) rfl (by simp [sC,Ede,EC,E0]) ?_
  · intro k ds S A hh
    try unfold conDe at hh
    try dsimp only at hh
    split at hh
    · injection hh with hh; subst hh
      exact pA_ok fun e => CD.at_ (CD.wk (in0_ok n k1 k2) e) _
    · split at hh
      · injection hh with hh; subst hh
        refine pA_ok fun ⟨h1,e,F,hS⟩ => ?_
        rw [hS]
        exact CS.frame F (CS.wk (Dxc_ok _ m (innerN n) (fun b => deepB b (m - 1)) (fun b hb => d1_ok b m hm h1 (h h1 b hb) _) (sm_inner hn)) e)
      · cases hh
    · cases hh
  refine vc_eq (T :=
    ∀ (x:Nat),True→∀ (x_1:Nat),x ≠ x_1∧True→SM x_1∧ifB (decide (m < Z1)) (True∧∃ (y:Unit),True∧true = deepB n m∧True∧True) (SM x∧∃ (x_2:Unit),isN2 n [D.agg (yb3q12 n)] []∧∀ (y:Unit),True→∃ (x_3:Unit),(Z1 ≤ m∧wkL [yb3q14 n,D.fn (Fn.func (55:Nat)) [] [D.ref (max (N0 + N1) N0) x_1 N0]] [yb3q14 n,D.fn (Fn.func (55:Nat)) [] [D.ref N1 x_1 N0]]∧∃ (F:St),St.mk [(max (N0 + N1) N0,x_1,AObj.cells [ZI m]),(N0,x,AObj.cells (yb3q12 n))] [] = St.mk ((N1,x_1,AObj.cells [ZI m]) :: List.append [] (St.objs F)) ([] ++ St.toks F))∧∀ (y:Unit),True→True∧∃ (y:Unit),True∧(List.any (yb3q13 n) fun (b:Nd) => deepB b (m - Z1)) = deepB n m∧True∧True)) (by kernel_rfl) ?_
  delta DA GI LN N0 N1 N4 SI SM Z0 Z1 ZI yb3q10 yb3q11 yb3q12 yb3q13 yb3q14 yb3q6 yb3q7 yb3q8 yb3q9
  simp only [eq_self,ne_eq,ifB_iff,decide_eq_true_eq,decide_eq_false_iff_not,true_and,and_true,exists_const,forall_const]
  rw [deep_eq]
  exact fun x x1 _ => ⟨fun h => by simp [h],fun h => ⟨nd2_self n _,⟨by omega,wkL_refl _,⟨⟨[_],[]⟩,rfl⟩⟩,by simp [h]⟩⟩
theorem de_ok (n:Nd) (m:Int) (hn:n.sm) (hm:inI64 m):CD 34 [.agg n.row2,.int .i64 m] (.bool (deepB n m)) := by
  refine de_step n m hn hm fun h1 b hb => CD.down (de_ok b (m - 1) (sm_kid hn hb) ?_)
  unfold inI64 at hm ⊢
  omega
termination_by szN n
decreasing_by exact inner_sz hb
end Go.Proofs.YtjnifeedbgefpaaGreatDoor
namespace Go.Proofs.YtjnifeedbgefpaaGreatDoor
open Go Go.Ab
set_option maxRecDepth 100000
def ocSt (xi xk:Nat) (q:Int):St := ⟨[(1,xi,.cells [.fn (.func 82) [] [.ref 0 xk 0,.ref 1 xi 0]]),(0,xk,.cells [.int .i64 q])],[]⟩
theorem kid_inner {n b:Nd} (h:b ∈ n.ki):b ∈ innerN n := List.mem_append.2 (.inl h)
def conO1 (l:List Nd) (xi xk:Nat) (q:Int):Con := fun k ds S => match k with
  | 33 => some (pE (β := Sm) ds S (fun s => gsl 15 Nd.row1 (partsS s)) (fun s => isS s ds []))
  | 54 => some (pA ds S (.bool (l.any (occN q))) (wkL ds [gsl 15 Nd.row1 l,.fn (.func 82) [] [.ref 0 xk 0,.ref 1 xi 0]]∧∃ o,S = ⟨o :: (ocSt xi xk q).objs,[]⟩))
  | _ => none
theorem conO1_ok {l:List Nd} {xi xk:Nat} {q:Int} (hn:l.length ≤ maxLen) (h:∀ b ∈ l,CS 82 [.agg b.row1,.ref 0 xk 0,.ref 1 xi 0] (ocSt xi xk q) (.bool (occN q b))):ConOk Tryz.prog (conO1 l xi xk q) := by
  intro k ds S A hh
  unfold conO1 at hh
  split at hh
  · injection hh with hh; subst hh
    exact pS_ok fun s e => CD.at_ (CD.wk (pa_ok s) e) _
  · injection hh with hh; subst hh
    refine pA_ok fun ⟨e,o,hS⟩ => ?_
    rw [hS]
    exact CS.front o (CS.wk (Oxc_ok xi xk q l (occN q) h hn) e)
  · cases hh
noncomputable def Eo1 (l:List Nd) (xi xk:Nat) (q:Int):Senv := EC (conO1 l xi xk q) 20 5 [] (fun _ => ([],[]))
noncomputable section
def yb5q0 (p0:Nd):Int := Nd.kd p0
def yb5q1 (p0 p1:Nat):D := D.fn (Fn.func (82:Nat)) [] [D.ref N0 p0 N0,D.ref N1 p1 N0]
def yb5q2 (p0 p1:Nat) (p2:Int):Prop := (SM p0∧(SM (yb5q1 p1 p0)∧True)∧SM p1∧(SM p2∧True)∧True)∧True
def yb5q3 (p0:Nd):List Nd := Nd.ki p0
def yb5q4:Arr := DA
def yb5q5:Nd := Nd.mk Z0 Z0 Z0 [] Z0 Z0 yb5q4 [] [] Z0 Z0 Z0
def yb5q6 (p0:Nd):D := D.sl (15:Nat) (LN (yb5q3 p0)) (fun (i:Nat) => Nd.row1 (List.getD (yb5q3 p0) i yb5q5)) Mode.any
def yb5q7 (p0 p1:Nat):List D := [yb5q1 p0 p1]
def yb5q8 (p0:Nd) (p1 p2:Nat):List D := yb5q6 p0 :: yb5q7 p1 p2
def yb5q9 (p0:Nd):Arr := Nd.va p0
def yb5q10 (p0:Nd):List Int := Arr.sh (yb5q9 p0)
def yb5q11 (p0:Nd):List Int := Arr.nu (yb5q9 p0)
def yb5q12 (p0:Nd):List Arr := Arr.it (yb5q9 p0)
def yb5q13 (p0 p1:Nat) (p2:Int):List (Nat × Nat × AObj) := [(N1,p0,AObj.cells (yb5q7 p1 p0)),(N0,p1,AObj.cells [ZI p2])]
end
theorem o1_step (n : Nd) (xi xk : Nat) (q : Int) (hn : n.ki.length ≤ maxLen) (h : ∀ b ∈ n.ki, CS 82 [.agg b.row1, .ref 0 xk 0, .ref 1 xi 0] (ocSt xi xk q) (.bool (occN q b))) :
    CS 82 [.agg n.row2,.ref 0 xk 0,.ref 1 xi 0] (ocSt xi xk q) (.bool (occN q n)) := by
  refine CS.of (con_of (A := sS _ _ _) (x := ()) (E := Eo1 n.ki xi xk q) (eOk (conO1_ok hn h) rfl) Tryz.func82 rfl (by kernel_rfl) rfl (by simp [sS,Eo1,EC,E0]) ?_)
  refine vc_eq (T :=
    ∀ (x:Nat),xi ≠ x∧xk ≠ x∧True→SM x∧SM xk∧ifB (yb5q0 n == q) (True∧∃ (y:Unit),True∧true = occN q n∧yb5q2 xi xk q) (SM x∧ifB (yb5q0 n != (10:Int)) (SM x∧SM xi∧∃ (x_1:Unit),(wkL (yb5q8 n xk xi) (yb5q8 n xk xi)∧∃ (o:Nat × Nat × AObj),St.mk ((N2,x,AObj.cells [ZI (yb5q0 n),ZI (Nd.at_ n),ZI (Nd.cl n),D.str (Nd.tx n),ZI (Nd.pr n),ZI (Nd.op n),ZI (Arr.k (yb5q9 n)),SI (yb5q10 n),SI (yb5q11 n),D.sl N4 (LN (yb5q12 n)) (fun (i:Nat) => Arr.row (List.getD (yb5q12 n) i yb5q4)) Mode.any,yb5q6 n,D.sl (34:Nat) (LN (Nd.bo n)) (fun (i:Nat) => Sm.row1 (List.getD (Nd.bo n) i (Sm.mk Z0 Z0 [] Z0 yb5q5 yb5q5))) Mode.any,ZI (Nd.de n),ZI (Nd.sl n),ZI (Nd.ss n)]) :: yb5q13 xi xk q) [] = St.mk (o :: yb5q13 xi xk q) [])∧∀ (y:Unit),True→True∧∃ (y:Unit),True∧List.any (yb5q3 n) (occN q) = occN q n∧yb5q2 xi xk q) (True∧∃ (y:Unit),True∧false = occN q n∧yb5q2 xi xk q))) (by kernel_rfl) ?_
  delta DA GI LN N0 N1 N2 N4 SI SM Z0 ZI yb5q0 yb5q1 yb5q10 yb5q11 yb5q12 yb5q13 yb5q2 yb5q3 yb5q4 yb5q5 yb5q6 yb5q7 yb5q8 yb5q9
  have dn:(default:Nd) = Nd.mk 0 0 0 [] 0 0 (Arr.mk 0 [] [] []) [] [] 0 0 0 := rfl
  have dm:(default:Sm) = Sm.mk 0 0 [] 0 (Nd.mk 0 0 0 [] 0 0 (Arr.mk 0 [] [] []) [] [] 0 0 0) (Nd.mk 0 0 0 [] 0 0 (Arr.mk 0 [] [] []) [] [] 0 0 0) := rfl
  try simp only [← dm]
  try simp only [← dn]
  simp only [ne_eq,ifB_iff,true_and,and_true,beq_iff_eq,bne_iff_ne,bne_eq_false_iff_eq,beq_eq_false_iff_ne,exists_const,forall_const,Prod.exists]
  have e := occN_eq q n
  refine fun x _ => ⟨fun h => ?_,fun h => ⟨fun h2 => ⟨⟨wkL_refl _,_,_,_,rfl⟩,?_⟩,fun h2 => ?_⟩⟩
  · rw [e,h]; simp
  · have h3:(n.kd == q) = false := by simpa using h
    have h4:(n.kd != 10) = true := by simpa using h2
    rw [e,h3,h4]; simp
  · have h3:(n.kd == q) = false := by simpa using h
    rw [e,h3,h2]; simp
theorem o1_ok (n:Nd) (xi xk:Nat) (q:Int) (hn:n.sm):CS 82 [.agg n.row2,.ref 0 xk 0,.ref 1 xi 0] (ocSt xi xk q) (.bool (occN q n)) :=
  o1_step n xi xk q (maxB_le (sm_len hn).2.1) fun b hb => CS.wk (o1_ok b xi xk q (sm_kid hn (kid_inner hb))) (by simp only [wkL,wkD]; exact ⟨nd1_wk _,by simp [weakD,chk_iff],by simp [weakD,chk_iff],trivial⟩)
termination_by szN n
decreasing_by exact inner_sz (kid_inner hb)
theorem o1_row (n:Nd) (xi xk:Nat) (q:Int) (hn:n.sm):CS 82 [.agg n.row1,.ref 0 xk 0,.ref 1 xi 0] (ocSt xi xk q) (.bool (occN q n)) :=
  CS.wk (o1_ok n xi xk q hn) (by simp only [wkL,wkD]; exact ⟨nd1_wk _,by simp [weakD,chk_iff],by simp [weakD,chk_iff],trivial⟩)
theorem sm_parts {s:Sm} (h:s.sm):∀ b ∈ partsS s,b.sm := by
  cases s with
  | mk kd at_ nm sl te nd =>
    simp only [Sm.sm] at h
    intro b hb
    unfold partsS at hb
    split at hb
    · rcases List.mem_cons.1 hb with rfl | hb
      · exact h.2.1
      · rcases List.mem_cons.1 hb with rfl | hb
        · exact h.2.2
        · cases hb
    · rcases List.mem_cons.1 hb with rfl | hb
      · exact h.2.2
      · cases hb
noncomputable def Eo2 (s:Sm) (xi xk:Nat) (q:Int):Senv := EC (conO1 (partsS s) xi xk q) 8 4 [] (fun id => match id with | 1 => ([0,2,1,3,4],[1,3]) | _ => ([],[]))
noncomputable section
def yb5q14 (p0:Sm):Nd := Sm.te p0
def yb5q15 (p0:Sm):Arr := Nd.va (yb5q14 p0)
def yb5q16 (p0:Sm):List Int := Arr.sh (yb5q15 p0)
def yb5q17 (p0:Sm):List Int := Arr.nu (yb5q15 p0)
def yb5q18 (p0:Sm):List Arr := Arr.it (yb5q15 p0)
def yb5q19:Arr := DA
def yb5q20 (p0:Sm):List Nd := Nd.ki (yb5q14 p0)
def yb5q21:Nd := Nd.mk Z0 Z0 Z0 [] Z0 Z0 yb5q19 [] [] Z0 Z0 Z0
def yb5q22 (p0:Sm):List Sm := Nd.bo (yb5q14 p0)
def yb5q23:Sm := Sm.mk Z0 Z0 [] Z0 yb5q21 yb5q21
def yb5q24 (p0:Sm):Nd := Sm.nd p0
def yb5q25 (p0:Sm):Arr := Nd.va (yb5q24 p0)
def yb5q26 (p0:Sm):List Int := Arr.sh (yb5q25 p0)
def yb5q27 (p0:Sm):List Int := Arr.nu (yb5q25 p0)
def yb5q28 (p0:Sm):List Arr := Arr.it (yb5q25 p0)
def yb5q29 (p0:Sm):List Nd := Nd.ki (yb5q24 p0)
def yb5q30 (p0:Sm):List Sm := Nd.bo (yb5q24 p0)
def yb5q31 (p0:Sm):List D := [ZI (Sm.kd p0),ZI (Sm.at_ p0),D.str (Sm.nm p0),ZI (Sm.sl p0),ZI (Nd.kd (yb5q14 p0)),ZI (Nd.at_ (yb5q14 p0)),ZI (Nd.cl (yb5q14 p0)),D.str (Nd.tx (yb5q14 p0)),ZI (Nd.pr (yb5q14 p0)),ZI (Nd.op (yb5q14 p0)),ZI (Arr.k (yb5q15 p0)),SI (yb5q16 p0),SI (yb5q17 p0),D.sl N4 (LN (yb5q18 p0)) (fun (i:Nat) => Arr.row (List.getD (yb5q18 p0) i yb5q19)) Mode.any,D.sl (15:Nat) (LN (yb5q20 p0)) (fun (i:Nat) => Nd.row (List.getD (yb5q20 p0) i yb5q21)) Mode.any,D.sl (34:Nat) (LN (yb5q22 p0)) (fun (i:Nat) => Sm.row (List.getD (yb5q22 p0) i yb5q23)) Mode.any,ZI (Nd.de (yb5q14 p0)),ZI (Nd.sl (yb5q14 p0)),ZI (Nd.ss (yb5q14 p0)),ZI (Nd.kd (yb5q24 p0)),ZI (Nd.at_ (yb5q24 p0)),ZI (Nd.cl (yb5q24 p0)),D.str (Nd.tx (yb5q24 p0)),ZI (Nd.pr (yb5q24 p0)),ZI (Nd.op (yb5q24 p0)),ZI (Arr.k (yb5q25 p0)),SI (yb5q26 p0),SI (yb5q27 p0),D.sl N4 (LN (yb5q28 p0)) (fun (i:Nat) => Arr.row (List.getD (yb5q28 p0) i yb5q19)) Mode.any,D.sl (15:Nat) (LN (yb5q29 p0)) (fun (i:Nat) => Nd.row (List.getD (yb5q29 p0) i yb5q21)) Mode.any,D.sl (34:Nat) (LN (yb5q30 p0)) (fun (i:Nat) => Sm.row (List.getD (yb5q30 p0) i yb5q23)) Mode.any,ZI (Nd.de (yb5q24 p0)),ZI (Nd.sl (yb5q24 p0)),ZI (Nd.ss (yb5q24 p0))]
def yb5q32 (p0 p1:Nat):D := D.fn (Fn.func (82:Nat)) [] [D.ref N0 p0 N0,D.ref N1 p1 N0]
def yb5q33 (p0 p1:Nat):Prop := SM (yb5q32 p0 p1)
def yb5q34 (p0:Sm):List Nd := partsS p0
def yb5q35 (p0 p1:Nat):List D := [yb5q32 p0 p1]
def yb5q36 (p0:Sm) (p1 p2:Nat):List D := D.sl (15:Nat) (LN (yb5q34 p0)) (fun (i:Nat) => Nd.row1 (List.getD (yb5q34 p0) i yb5q21)) Mode.any :: yb5q35 p1 p2
def yb5q37 (p0 p1:Nat) (p2:Int):List (Nat × Nat × AObj) := [(N1,p0,AObj.cells (yb5q35 p1 p0)),(N0,p1,AObj.cells [ZI p2])]
def yb5q38 (p0:Sm) (p1:Int):Bool := List.any (yb5q34 p0) (occN p1)
end
theorem o2_ok (s:Sm) (xi xk:Nat) (q:Int) (hs:s.sm):CS 84 [.agg s.row1,.ref 1 xi 0] (ocSt xi xk q) (.bool ((partsS s).any (occN q))) := by
  have h2 := parts_two s
  refine CS.of (con_of (A := sS _ _ _) (x := ()) (E := Eo2 s xi xk q) (eOk (conO1_ok (by unfold maxLen; omega) fun b hb => o1_row b xi xk q (sm_parts hs b hb)) rfl) Tryz.func84 rfl (by kernel_rfl) rfl (by simp [sS,Eo2,EC,E0]) ?_)
  refine vc_eq (T :=
    ∀ (x:Nat),xi ≠ x∧xk ≠ x∧True→SM x∧SM xi∧∃ (x_1:Sm),isS x_1 [D.agg (yb5q31 s)] []∧∀ (y:Unit),True→(SM xi∧yb5q33 xk xi)∧∃ (x_2:Unit),(wkL (yb5q36 x_1 xk xi) (yb5q36 s xk xi)∧∃ (o:Nat × Nat × AObj),St.mk ((N2,x,AObj.cells (yb5q31 s)) :: yb5q37 xi xk q) [] = St.mk (o :: yb5q37 xi xk q) [])∧∀ (y:Unit),True→True∧∃ (y:Unit),True∧SM (yb5q38 s q)∧(SM xi∧(yb5q33 xk xi∧True)∧SM xk∧(SM q∧True)∧True)∧True) (by kernel_rfl) ?_
  delta DA GI LN N0 N1 N2 N4 SI SM Z0 ZI yb5q14 yb5q15 yb5q16 yb5q17 yb5q18 yb5q19 yb5q20 yb5q21 yb5q22 yb5q23 yb5q24 yb5q25 yb5q26 yb5q27 yb5q28 yb5q29 yb5q30 yb5q31 yb5q32 yb5q33 yb5q34 yb5q35 yb5q36 yb5q37 yb5q38
  have dn:(default:Nd) = Nd.mk 0 0 0 [] 0 0 (Arr.mk 0 [] [] []) [] [] 0 0 0 := rfl
  have dm:(default:Sm) = Sm.mk 0 0 [] 0 (Nd.mk 0 0 0 [] 0 0 (Arr.mk 0 [] [] []) [] [] 0 0 0) (Nd.mk 0 0 0 [] 0 0 (Arr.mk 0 [] [] []) [] [] 0 0 0) := rfl
  try simp only [← dm]
  try simp only [← dn]
  simp only [ne_eq,implies_true,true_and,and_true,exists_const,forall_const,Prod.exists]
  refine fun x _ => ?_
  first
    | exact ⟨s,sm_self _ _,⟨wkL_refl _,_,_,_,rfl⟩⟩
    | exact ⟨⟨s,sm_self _ _,⟨wkL_refl _,_,_,_,rfl⟩⟩,s,sm_self _ _,⟨wkL_refl _,_,_,_,rfl⟩⟩
def conOc (l:List Sm) (q:Int):Con := fun k ds S => match k with
  | 83 => match ds with
    | [_,.fn _ _ [.ref _ xi _]] => some (pE (β := Nat) ds S (fun _ => .bool (occB l q)) (fun xk => wkL ds [gsl 34 Sm.row1 l,.fn (.func 84) [] [.ref 1 xi 0]]∧S = ocSt xi xk q))
    | _ => none
  | _ => none
noncomputable def Eoc (l:List Sm) (q:Int):Senv := EC (conOc l q) 10 2 [3,4,5] (fun _ => ([],[]))
noncomputable section
def yb5q39:Nd := Nd.mk Z0 Z0 Z0 [] Z0 Z0 DA [] [] Z0 Z0 Z0
def yb5q40 (p0:List Sm) (p1:Nat):List D := [D.sl (34:Nat) (LN p0) (fun (i:Nat) => Sm.row1 (List.getD p0 i (Sm.mk Z0 Z0 [] Z0 yb5q39 yb5q39))) Mode.any,D.fn (Fn.func (84:Nat)) [] [D.ref N1 p1 N0]]
def yb5q41 (p0 p1:Nat) (p2:Int):St := St.mk [(N1,p0,AObj.cells [D.fn (Fn.func (82:Nat)) [] [D.ref N0 p1 N0,D.ref N1 p0 N0]]),(N0,p1,AObj.cells [ZI p2])] []
end
theorem oc_ok (l:List Sm) (q:Int) (hl:l.length ≤ maxLen) (h:∀ s ∈ l,s.sm):CD 49 [gsl 34 Sm.row1 l,.int .i64 q] (.bool (occB l q)) := by
  refine con_of (A := sC _ _) (x := ()) (E := Eoc l q) (eOk ?_ rfl) Tryz.func49 rfl (by kernel_rfl) rfl (by simp [sC,Eoc,EC,E0]) ?_
  · intro k ds S A hh
    try unfold conOc at hh
    try dsimp only at hh
    split at hh
    · split at hh
      · injection hh with hh; subst hh
        refine pS_ok fun xk ⟨e,hS⟩ => ?_
        rw [hS]
        exact CS.wk (Pxc_ok _ xk q l (fun s => (partsS s).any (occN q)) (fun s hs => o2_ok s _ xk q (h s hs)) hl) e
      · cases hh
    · cases hh
  refine vc_eq (T :=
    ∀ (x:Nat),True→∀ (x_1:Nat),x ≠ x_1∧True→SM x_1∧∃ (x_2:Nat),(wkL (yb5q40 l x_1) (yb5q40 l x_1)∧yb5q41 x_1 x q = yb5q41 x_1 x_2 q)∧∀ (y:Unit),True→True∧∃ (y:Unit),True∧SM (occB l q)∧True∧True) (by kernel_rfl) ?_
  delta DA LN N0 N1 SM Z0 ZI yb5q39 yb5q40 yb5q41
  have dn:(default:Nd) = Nd.mk 0 0 0 [] 0 0 (Arr.mk 0 [] [] []) [] [] 0 0 0 := rfl
  have dm:(default:Sm) = Sm.mk 0 0 [] 0 (Nd.mk 0 0 0 [] 0 0 (Arr.mk 0 [] [] []) [] [] 0 0 0) (Nd.mk 0 0 0 [] 0 0 (Arr.mk 0 [] [] []) [] [] 0 0 0) := rfl
  try simp only [← dm]
  try simp only [← dn]
  simp only [ne_eq,implies_true,true_and,and_true,exists_const,forall_const]
  refine fun x x1 _ => ⟨x,wkL_refl _,?_⟩
  first
    | rfl
    | exact ⟨rfl,rfl⟩
def ouSt (xl:Nat) (l:List Sm):St := ⟨[(0,xl,.cells [gsl 34 Sm.row1 l])],[]⟩
def conU1 (l:List Sm) (q:Int):Con := fun k ds S => match k with
  | 49 => some (pA ds S (.bool (occB l q)) (wkL ds [gsl 34 Sm.row1 l,.int .i64 q]))
  | _ => none
noncomputable def Eu1 (l:List Sm) (q:Int):Senv := EC (conU1 l q) 7 2 [3] (fun _ => ([],[]))
noncomputable section
def yb5q42:Nd := Nd.mk Z0 Z0 Z0 [] Z0 Z0 DA [] [] Z0 Z0 Z0
def yb5q43 (p0:List Sm) (p1:Nat):List D := Sm.row1 (List.getD p0 p1 (Sm.mk Z0 Z0 [] Z0 yb5q42 yb5q42))
def yb5q44 (p0:List Sm) (p1:Int):List D := [D.sl (34:Nat) (LN p0) (fun (i:Nat) => yb5q43 p0 i) Mode.any,ZI p1]
end
theorem u1_ok (l:List Sm) (q:Int) (hl:l.length ≤ maxLen) (h:∀ s ∈ l,s.sm) (xl:Nat):CS 48 [.int .i64 q,.ref 0 xl 0] (ouSt xl l) (.bool (occB l q)) := by
  refine CS.of (con_of (A := sS _ _ _) (x := ()) (E := Eu1 l q) (eOk ?_ rfl) Tryz.func48 rfl (by kernel_rfl) rfl (by simp [sS,Eu1,EC,E0]) ?_)
  · intro k ds S A hh
    try unfold conU1 at hh
    try dsimp only at hh
    split at hh
    · injection hh with hh; subst hh
      exact pA_ok fun e => CD.at_ (CD.wk (oc_ok l q hl h) e) _
    · cases hh
  refine vc_eq (T :=
    SM xl∧∃ (x:Unit),wkL (yb5q44 l q) (yb5q44 l q)∧∀ (y:Unit),True→True∧∃ (y:Unit),True∧SM (occB l q)∧(SM xl∧((SM (LN l)∧(∀ (i:Nat),i < LN l→SM (yb5q43 l i))∧True)∧True)∧True)∧True) (by kernel_rfl) ?_
  delta DA LN SM Z0 ZI yb5q42 yb5q43 yb5q44
  have dn:(default:Nd) = Nd.mk 0 0 0 [] 0 0 (Arr.mk 0 [] [] []) [] [] 0 0 0 := rfl
  have dm:(default:Sm) = Sm.mk 0 0 [] 0 (Nd.mk 0 0 0 [] 0 0 (Arr.mk 0 [] [] []) [] [] 0 0 0) (Nd.mk 0 0 0 [] 0 0 (Arr.mk 0 [] [] []) [] [] 0 0 0) := rfl
  try simp only [← dm]
  try simp only [← dn]
  simp only [implies_true,true_and,and_true,exists_const]
  first
    | exact wkL_refl _
    | exact fun _ => wkL_refl _
def conUx (l:List Sm) (xl:Nat):Con := fun k ds S => match k with
  | 48 => match ds with
    | [.int .i64 q,_] => some (pA ds S (.bool (occB l q)) (wkL ds [.int .i64 q,.ref 0 xl 0]∧S = ouSt xl l))
    | _ => none
  | _ => none
noncomputable def Eux (l:List Sm) (xl:Nat) (m:List Int):Senv := { EC (conUx l xl) 19 2 [4,5,7,8,9,16] (fun _ => ([],[])) with
  ann := fun b _ S => match b with
    | 0 => some { slots := [8],keep := [0,1,6,7],α := Nat,st := fun i => ([.int .i64 i],S),inv := fun i => IdxG (fun q => occB l q) m i,mu := fun i => m.length - i }
    | _ => none }
noncomputable section
def yb5q45 (p0:List Sm) (p1:List Int) (p2:Nat):Prop := IdxG (fun (q:Int) => occB p0 q) p1 p2
def yb5q46:Nd := Nd.mk Z0 Z0 Z0 [] Z0 Z0 DA [] [] Z0 Z0 Z0
def yb5q47 (p0:List Sm) (p1:Nat):List D := Sm.row1 (List.getD p0 p1 (Sm.mk Z0 Z0 [] Z0 yb5q46 yb5q46))
def yb5q48 (p0:Nat) (p1:List Sm):Prop := (SM p0∧((SM (LN p1)∧(∀ (i:Nat),i < LN p1→SM (yb5q47 p1 i))∧True)∧True)∧True)∧True
def yb5q49 (p0:Nat) (p1:List Sm):St := St.mk [(N0,p0,AObj.cells [D.sl (34:Nat) (LN p1) (fun (i:Nat) => yb5q47 p1 i) Mode.any])] []
def yb5q50 (p0:List Sm) (p1:List Int):Int := idxG (fun (q:Int) => occB p0 q) p1 Z0
def yb5q51 (p0:List Int):D := SI p0
end
theorem ux_ok (l : List Sm) (xl : Nat) (m : List Int) (hl : l.length ≤ maxLen) (h : ∀ s ∈ l, s.sm) (hm : m.length ≤ maxLen) :
    CS 81 [isl m .any,.fn (.func 48) [] [.ref 0 xl 0]] (ouSt xl l) (.int .i64 (idxG (fun q => occB l q) m 0)) := by
  refine CS.of (con_of (A := sS _ _ _) (x := ()) (E := Eux l xl m) (eOk ?_ rfl) Tryz.func81 rfl (by kernel_rfl) rfl (by simp [sS,Eux,EC,E0]) ?_)
  · intro k ds S A hh
    try unfold conUx at hh
    try dsimp only at hh
    split at hh
    · split at hh
      · injection hh with hh; subst hh
        refine pA_ok fun ⟨e,hS⟩ => ?_
        rw [hS]
        exact CS.wk (u1_ok l _ hl h xl) e
      · cases hh
    · cases hh
  refine vc_eq (T :=
    (∃ (x:Nat),yb5q45 l m x∧(Z0 = (↑x:Int)∧True)∧yb5q48 xl l)∧∀ (x:Nat),yb5q45 l m x→ifB (decide ((↑x:Int) < (LI m))) (side (Z0 ≤ (↑x:Int)∧(↑x:Int) < (LI m)) (∃ (x_1:Unit),(wkL [ZI (GI m (Int.toNat (↑x:Int))),D.ref N0 xl N0] [ZI (GI m (Int.toNat (↑x:Int))),D.ref N0 xl N0]∧SM (yb5q49 xl l))∧∀ (y:Unit),True→ifB (occB l (GI m (Int.toNat (↑x:Int)))) (True∧∃ (y:Unit),True∧(↑x:Int) = yb5q50 l m∧yb5q48 xl l) ((SM (yb5q51 m)∧SM (D.fn (Fn.func (48:Nat)) [] [D.ref N0 xl N0])∧SM D.unk∧SM (ZI (LI m))∧True)∧∃ (y:Nat),yb5q45 l m y∧LN m - y < LN m - x∧(IntKind.wrap IntKind.i64 ((↑x:Int) + Z1) = (↑y:Int)∧True)∧yb5q48 xl l))) (True∧∃ (y:Unit),True∧(-1:Int) = yb5q50 l m∧yb5q48 xl l)) (by kernel_rfl) ?_
  delta DA GI LI LN N0 N1 SI SM Z0 Z1 ZI yb5q45 yb5q46 yb5q47 yb5q48 yb5q49 yb5q50 yb5q51
  have dn:(default:Nd) = Nd.mk 0 0 0 [] 0 0 (Arr.mk 0 [] [] []) [] [] 0 0 0 := rfl
  have dm:(default:Sm) = Sm.mk 0 0 [] 0 (Nd.mk 0 0 0 [] 0 0 (Arr.mk 0 [] [] []) [] [] 0 0 0) (Nd.mk 0 0 0 [] 0 0 (Arr.mk 0 [] [] []) [] [] 0 0 0) := rfl
  try simp only [← dm]
  try simp only [← dn]
  simp only [implies_true,Int.toNat_natCast,ifB_iff,side_iff,decide_eq_true_eq,decide_eq_false_iff_not,true_and,and_true,exists_const,forall_const]
  simp only [maxLen] at hm
  refine ⟨⟨0,⟨Nat.zero_le _,by simp⟩,rfl⟩,fun i hh => ⟨fun hlt => ?_,fun hge => (hh.done hge).symm⟩⟩
  have hlt':i < m.length := by omega
  obtain ⟨s1,s2⟩ := hh.step hlt'
  have e0:m.getD i default = m.getD i 0 := rfl
  rw [e0] at s1 s2
  refine ⟨⟨by omega,hlt⟩,?_⟩
  exact ⟨wkL_refl _,fun e => (s1 e).symm,fun e => ⟨i + 1,s2 e,by omega,wrap_i64' (by omega) (by omega)⟩⟩
def conUc (l:List Sm) (xl:Nat) (m:List Int):Con := fun k ds S => match k with
  | 81 => some (pA ds S (.int .i64 (idxG (fun q => occB l q) m 0)) (wkL ds [isl m .any,.fn (.func 48) [] [.ref 0 xl 0]]∧S = ouSt xl l))
  | _ => none
noncomputable def Euc (l:List Sm) (xl:Nat) (m:List Int):Senv := EC (conUc l xl m) 9 2 [4] (fun _ => ([],[]))
noncomputable section
def yb5q52 (p0:List Int) (p1:Nat):List D := [SI p0,D.fn (Fn.func (48:Nat)) [] [D.ref N0 p1 N0]]
def yb5q53:Nd := Nd.mk Z0 Z0 Z0 [] Z0 Z0 DA [] [] Z0 Z0 Z0
def yb5q54 (p0:List Sm) (p1:Nat):List D := Sm.row1 (List.getD p0 p1 (Sm.mk Z0 Z0 [] Z0 yb5q53 yb5q53))
def yb5q55 (p0:Nat) (p1:List Sm):St := St.mk [(N0,p0,AObj.cells [D.sl (34:Nat) (LN p1) (fun (i:Nat) => yb5q54 p1 i) Mode.any])] []
end
theorem uc_ok (l : List Sm) (xl : Nat) (m : List Int) (hl : l.length ≤ maxLen) (h : ∀ s ∈ l, s.sm) (hm : m.length ≤ maxLen) :
    CS 47 [isl m .any,.fn (.func 48) [] [.ref 0 xl 0]] (ouSt xl l) (.bool (m.any fun q => occB l q)) := by
  refine CS.of (con_of (A := sS _ _ _) (x := ()) (E := Euc l xl m) (eOk ?_ rfl) Tryz.func47 rfl (by kernel_rfl) rfl (by simp [sS,Euc,EC,E0]) ?_)
  · intro k ds S A hh
    try unfold conUc at hh
    try dsimp only at hh
    split at hh
    · injection hh with hh; subst hh
      refine pA_ok fun ⟨e,hS⟩ => ?_
      rw [hS]
      exact CS.wk (ux_ok l xl m hl h hm) e
    · cases hh
  refine vc_eq (T :=
    ∃ (x:Unit),(wkL (yb5q52 m xl) (yb5q52 m xl)∧SM (yb5q55 xl l))∧∀ (y:Unit),True→True∧∃ (y:Unit),True∧(decide (Z0 ≤ idxG (fun (q:Int) => occB l q) m Z0) = List.any m fun (q:Int) => occB l q)∧(SM xl∧((SM (LN l)∧(∀ (i:Nat),i < LN l→SM (yb5q54 l i))∧True)∧True)∧True)∧True) (by kernel_rfl) ?_
  delta DA GI LN N0 N1 SI SM Z0 ZI yb5q52 yb5q53 yb5q54 yb5q55
  simp only [true_and,and_true,exists_const,forall_const]
  have e := idxG_any (fun q => occB l q) m 0 (Int.le_refl _)
  first
    | exact ⟨wkL_refl _,e⟩
    | exact ⟨⟨wkL_refl _,rfl⟩,e⟩
    | exact ⟨wkL_refl _,e,fun _ _ => trivial⟩
def conOu (l:List Sm):Con := fun k ds S => match k with
  | 47 => match ds with
    | [_,.fn _ _ [.ref _ xl _]] => some (pA ds S (.bool (outB l)) (wkL ds [isl [6,7,11,12,13] .any,.fn (.func 48) [] [.ref 0 xl 0]]∧S = ouSt xl l))
    | _ => none
  | _ => none
noncomputable def Eou (l:List Sm):Senv := EC (conOu l) 6 3 [] (fun _ => ([],[]))
noncomputable section
def yb5q56 (p0:Nat):List D := [D.fn (Fn.func (48:Nat)) [] [D.ref N0 p0 N0]]
def yb5q57:Nd := Nd.mk Z0 Z0 Z0 [] Z0 Z0 DA [] [] Z0 Z0 Z0
def yb5q58 (p0:Nat) (p1:List Sm):St := St.mk [(N0,p0,AObj.cells [D.sl (34:Nat) (LN p1) (fun (i:Nat) => Sm.row1 (List.getD p1 i (Sm.mk Z0 Z0 [] Z0 yb5q57 yb5q57))) Mode.any])] []
end
theorem ou_ok (l:List Sm) (hl:l.length ≤ maxLen) (h:∀ s ∈ l,s.sm):CD 25 [gsl 34 Sm.row1 l] (.bool (outB l)) := by
  refine con_of (A := sC _ _) (x := ()) (E := Eou l) (eOk ?_ rfl) Tryz.func25 rfl (by kernel_rfl) rfl (by simp [sC,Eou,EC,E0]) ?_
  · intro k ds S A hh
    try unfold conOu at hh
    try dsimp only at hh
    split at hh
    · split at hh
      · injection hh with hh; subst hh
        refine pA_ok fun ⟨e,hS⟩ => ?_
        rw [hS]
        exact CS.wk (uc_ok l _ [6,7,11,12,13] hl h (by decide)) e
      · cases hh
    · cases hh
  refine vc_eq (T :=
    ∀ (x:Nat),True→∃ (x_1:Unit),(wkL (D.sl N1 (5:Nat) (fun (i:Nat) => List.getD [[ZI (6:Int)],[ZI (7:Int)],[ZI (11:Int)],[ZI (12:Int)],[ZI (13:Int)]] i []) Mode.full :: yb5q56 x) (D.sl N1 (5:Nat) (fun (i:Nat) => [ZI (GI [(6:Int),(7:Int),(11:Int),(12:Int),(13:Int)] i)]) Mode.any :: yb5q56 x)∧SM (yb5q58 x l))∧∀ (y:Unit),True→True∧∃ (y:Unit),True∧SM (outB l)∧True∧True) (by kernel_rfl) ?_
  delta DA GI LN N0 N1 SM Z0 ZI yb5q56 yb5q57 yb5q58
  have dn:(default:Nd) = Nd.mk 0 0 0 [] 0 0 (Arr.mk 0 [] [] []) [] [] 0 0 0 := rfl
  have dm:(default:Sm) = Sm.mk 0 0 [] 0 (Nd.mk 0 0 0 [] 0 0 (Arr.mk 0 [] [] []) [] [] 0 0 0) (Nd.mk 0 0 0 [] 0 0 (Arr.mk 0 [] [] []) [] [] 0 0 0) := rfl
  try simp only [← dm]
  try simp only [← dn]
  simp only [implies_true,and_true,exists_const,forall_const]
  intro x
  simp only [wkL,wkD,chk_iff]
  refine ⟨⟨by simp,by simp,fun i hi => ?_,by simp [weakM]⟩,by simp [weakD],trivial⟩
  match i,hi with
  | 0,_ => exact wkL_refl _
  | 1,_ => exact wkL_refl _
  | 2,_ => exact wkL_refl _
  | 3,_ => exact wkL_refl _
  | 4,_ => exact wkL_refl _
end Go.Proofs.YtjnifeedbgefpaaGreatDoor
namespace Go.Proofs.YtjnifeedbgefpaaGreatDoor
open Go Go.Ab
set_option maxRecDepth 100000
theorem pick_str {L:List D} {M:List (List UInt8)} (h:L = M.map D.str) {n:Nat} (hn:n < M.length):weakD (L.getD n D.unk) (.str (M.getD n [])) := by
  subst h
  have:(M.map D.str).getD n D.unk = .str (M.getD n []) := by simp [List.getD_eq_getElem?_getD,hn]
  rw [this]
  exact weakD_refl _
theorem primL_len:primL.length = 56 := by decide +kernel
theorem opL_len:opL.length = 12 := by decide +kernel
theorem prim_out {p:Int} (h:p < 1∨56 ≤ p):primT p = [] := if_pos h
theorem op_out {p:Int} (h:p < 1∨12 ≤ p):opT p = [] := if_pos h
theorem prim_in {p:Int} (h:¬ (p < 1∨56 ≤ p)):primT p = primL.getD p.toNat [] := if_neg h
theorem op_in {p:Int} (h:¬ (p < 1∨12 ≤ p)):opT p = opL.getD p.toNat [] := if_neg h
noncomputable def Epn:Senv := { EC con0 14 1 [2,3,10] (fun _ => ([],[])) with mg := fun _ => 2 }
noncomputable section
def ya1q0 (p0:Int):Prop := True∧∃ (_y:Unit),True∧eqOf (List UInt8) [] (primT p0)∧True∧True
end
theorem pn_ok (p:Int):ACalls Tryz.prog 64 [.int .i64 p] ⟨[],[]⟩ (SpecR (sC [.int .i64 p] (.str (primT p))) ()) := by
  refine con_of (A := sC _ _) (x := ()) (E := Epn) (eOk con0_ok rfl) Tryz.func64 rfl (by kernel_rfl) rfl (by simp [sC,Epn,EC,E0]) ?_
  refine vc_eq (T :=
    ∀ (x:Nat),True→SM x∧ifB (decide (p < Z1)) (ya1q0 p) (ifB (decide ((56:Int) ≤ p)) (ya1q0 p) (side (Z0 ≤ p∧p < (56:Int)) (SM x∧side (N0 + Int.toNat p * N1 + N1 ≤ (56:Nat)) (True∧∃ (y:Unit),True∧weakD (List.getD [D.str [],D.str [(43:UInt8)],D.str [(45:UInt8)],D.str [(42:UInt8)],D.str [(37:UInt8)],D.str [(124:UInt8)],D.str [(94:UInt8)],D.str [(109:UInt8),(105:UInt8),(110:UInt8)],D.str [(109:UInt8),(97:UInt8),(120:UInt8)],D.str [(60:UInt8)],D.str [(60:UInt8),(61:UInt8)],D.str [(61:UInt8)],D.str [(126:UInt8),(61:UInt8)],D.str [(62:UInt8),(61:UInt8)],D.str [(62:UInt8)],D.str [(97:UInt8),(110:UInt8),(100:UInt8)],D.str [(111:UInt8),(114:UInt8)],D.str [(110:UInt8),(111:UInt8),(116:UInt8)],D.str [(115:UInt8),(104:UInt8),(97:UInt8),(112:UInt8),(101:UInt8)],D.str [(114:UInt8),(101:UInt8),(115:UInt8),(104:UInt8),(97:UInt8),(112:UInt8),(101:UInt8)],D.str [(116:UInt8),(97:UInt8),(108:UInt8),(108:UInt8),(121:UInt8)],D.str [(100:UInt8),(101:UInt8),(112:UInt8),(116:UInt8),(104:UInt8)],D.str [(44:UInt8)],D.str [(115:UInt8),(116:UInt8),(97:UInt8),(99:UInt8),(107:UInt8)],D.str [(105:UInt8),(111:UInt8),(116:UInt8),(97:UInt8)],D.str [(116:UInt8),(97:UInt8),(107:UInt8),(101:UInt8)],D.str [(100:UInt8),(114:UInt8),(111:UInt8),(112:UInt8)],D.str [(102:UInt8),(105:UInt8),(114:UInt8),(115:UInt8),(116:UInt8)],D.str [(114:UInt8),(101:UInt8),(118:UInt8),(101:UInt8),(114:UInt8),(115:UInt8),(101:UInt8)],D.str [(114:UInt8),(111:UInt8),(116:UInt8),(97:UInt8),(116:UInt8),(101:UInt8)],D.str [(116:UInt8),(114:UInt8),(97:UInt8),(110:UInt8),(115:UInt8),(112:UInt8),(111:UInt8),(115:UInt8),(101:UInt8)],D.str [(102:UInt8),(114:UInt8),(111:UInt8),(109:UInt8)],D.str [(112:UInt8),(105:UInt8),(99:UInt8),(107:UInt8)],D.str [(115:UInt8),(101:UInt8),(108:UInt8),(101:UInt8),(99:UInt8),(116:UInt8)],D.str [(97:UInt8),(109:UInt8),(101:UInt8),(110:UInt8),(100:UInt8)],D.str [(117:UInt8),(112:UInt8)],D.str [(100:UInt8),(111:UInt8),(119:UInt8),(110:UInt8)],D.str [(115:UInt8),(111:UInt8),(114:UInt8),(116:UInt8)],D.str [(102:UInt8),(105:UInt8),(110:UInt8),(100:UInt8)],D.str [(105:UInt8),(110:UInt8)],D.str [(117:UInt8),(110:UInt8),(105:UInt8),(113:UInt8),(117:UInt8),(101:UInt8)],D.str [(119:UInt8),(104:UInt8),(101:UInt8),(114:UInt8),(101:UInt8)],D.str [(99:UInt8),(111:UInt8),(112:UInt8),(121:UInt8)],D.str [(101:UInt8),(120:UInt8),(112:UInt8),(97:UInt8),(110:UInt8),(100:UInt8)],D.str [(99:UInt8),(117:UInt8),(116:UInt8)],D.str [(101:UInt8),(110:UInt8),(99:UInt8),(111:UInt8),(100:UInt8),(101:UInt8)],D.str [(100:UInt8),(101:UInt8),(99:UInt8),(111:UInt8),(100:UInt8),(101:UInt8)],D.str [(98:UInt8),(111:UInt8),(120:UInt8)],D.str [(111:UInt8),(112:UInt8),(101:UInt8),(110:UInt8)],D.str [(115:UInt8),(97:UInt8),(109:UInt8),(101:UInt8)],D.str [(107:UInt8),(105:UInt8),(110:UInt8),(100:UInt8)],D.str [(111:UInt8),(114:UInt8),(100:UInt8)],D.str [(99:UInt8),(104:UInt8),(114:UInt8)],D.str [(102:UInt8),(111:UInt8),(114:UInt8),(109:UInt8),(97:UInt8),(116:UInt8)],D.str [(108:UInt8),(101:UInt8),(102:UInt8),(116:UInt8)],D.str [(114:UInt8),(105:UInt8),(103:UInt8),(104:UInt8),(116:UInt8)]] (N0 + Int.toNat p * N1) D.unk) (D.str (primT p))∧True∧True))))) (by kernel_rfl) ?_
  delta N0 N1 SM Z0 Z1 ya1q0
  simp only [ifB_iff,side_iff,decide_eq_true_eq,decide_eq_false_iff_not,Nat.mul_one,true_and,and_true,exists_const]
  refine fun x _ => ⟨fun h => (prim_out (.inl h)).symm,fun h1 => ⟨fun h => (prim_out (.inr h)).symm,fun h2 => ⟨⟨by omega,by omega⟩,by omega,?_⟩⟩⟩
  rw [prim_in (by omega),Nat.zero_add]
  exact pick_str (M := primL) (by kernel_rfl) (by rw [primL_len]; omega)
noncomputable def Eon:Senv := { EC con0 14 1 [2,3,10] (fun _ => ([],[])) with mg := fun _ => 2 }
noncomputable section
def ya1q1 (p0:Int):Prop := True∧∃ (_y:Unit),True∧eqOf (List UInt8) [] (opT p0)∧True∧True
end
theorem on_ok (p:Int):ACalls Tryz.prog 65 [.int .i64 p] ⟨[],[]⟩ (SpecR (sC [.int .i64 p] (.str (opT p))) ()) := by
  refine con_of (A := sC _ _) (x := ()) (E := Eon) (eOk con0_ok rfl) Tryz.func65 rfl (by kernel_rfl) rfl (by simp [sC,Eon,EC,E0]) ?_
  refine vc_eq (T :=
    ∀ (x:Nat),True→SM x∧ifB (decide (p < Z1)) (ya1q1 p) (ifB (decide ((12:Int) ≤ p)) (ya1q1 p) (side (Z0 ≤ p∧p < (12:Int)) (SM x∧side (N0 + Int.toNat p * N1 + N1 ≤ (12:Nat)) (True∧∃ (y:Unit),True∧weakD (List.getD [D.str [],D.str [(47:UInt8)],D.str [(92:UInt8)],D.str [(101:UInt8),(97:UInt8),(99:UInt8),(104:UInt8)],D.str [(115:UInt8),(119:UInt8),(97:UInt8),(112:UInt8)],D.str [(111:UInt8),(117:UInt8),(116:UInt8),(101:UInt8),(114:UInt8)],D.str [(105:UInt8),(110:UInt8),(110:UInt8),(101:UInt8),(114:UInt8)],D.str [(114:UInt8),(97:UInt8),(110:UInt8),(107:UInt8)],D.str [(112:UInt8),(111:UInt8),(119:UInt8),(101:UInt8),(114:UInt8)],D.str [(115:UInt8),(116:UInt8),(101:UInt8),(110:UInt8),(99:UInt8),(105:UInt8),(108:UInt8)],D.str [(97:UInt8),(116:UInt8),(111:UInt8),(112:UInt8)],D.str [(111:UInt8),(118:UInt8),(101:UInt8),(114:UInt8)]] (N0 + Int.toNat p * N1) D.unk) (D.str (opT p))∧True∧True))))) (by kernel_rfl) ?_
  delta N0 N1 SM Z0 Z1 ya1q1
  simp only [ifB_iff,side_iff,decide_eq_true_eq,decide_eq_false_iff_not,Nat.mul_one,true_and,and_true,exists_const]
  refine fun x _ => ⟨fun h => (op_out (.inl h)).symm,fun h1 => ⟨fun h => (op_out (.inr h)).symm,fun h2 => ⟨⟨by omega,by omega⟩,by omega,?_⟩⟩⟩
  rw [op_in (by omega),Nat.zero_add]
  exact pick_str (M := opL) (by kernel_rfl) (by rw [opL_len]; omega)
end Go.Proofs.YtjnifeedbgefpaaGreatDoor
namespace Go.Proofs.YtjnifeedbgefpaaGreatDoor
open Go Go.Ab
set_option maxRecDepth 100000
def utf8 (c:Int):List UInt8 := (Utf8.encode c).data.toList
def escB (c q:Int):List UInt8 :=
  if c = 10 then [92,110] else if c = 9 then [92,116] else if c = 13 then [92,114] else if c = 92∨c = q then 92 :: utf8 c
  else if c < 32∨c = 127 then [92,117,123] ++ hexN c.toNat ++ [125] else utf8 c
theorem utf8_len (c:Int):(utf8 c).length ≤ 4 := by
  have : ∀ c : Nat, ((if c < 0x80 then ⟨#[UInt8.ofNat c]⟩
      else if c < 0x800 then ⟨#[UInt8.ofNat (0xC0 + c / 64),UInt8.ofNat (0x80 + c % 64)]⟩
      else if c < 0x10000 then ⟨#[UInt8.ofNat (0xE0 + c / 4096),UInt8.ofNat (0x80 + c / 64 % 64),UInt8.ofNat (0x80 + c % 64)]⟩
      else ⟨#[UInt8.ofNat (0xF0 + c / 262144),UInt8.ofNat (0x80 + c / 4096 % 64),UInt8.ofNat (0x80 + c / 64 % 64),UInt8.ofNat (0x80 + c % 64)]⟩:ByteArray).data.toList).length ≤ 4 := fun c => by
    (repeat' split) <;> simp
  exact this _
theorem hexN_len (n:Nat):(hexN n).length ≤ 2 := by unfold hexN; split <;> simp
def conEs0:Con := fun k ds S => match k with
  | 155 => match ds with
    | [.int .i64 n,.int .i64 16] => some (pC [.int .i64 n,.int .i64 16] (.str (hexN n.toNat)) (0 ≤ n∧n < 128))
    | _ => none
  | k => conNu k ds S
theorem conEs0_ok:ConOk Tryz.prog conEs0 := by
  intro k ds S A h
  unfold conEs0 at h
  split at h
  · split at h
    · injection h with h; subst h
      exact pC_ok fun h1 => ⟨weakL_refl _,hex_ok _ h1⟩
    · cases h
  · exact conNu_ok _ _ _ _ h
noncomputable def Ees:Senv := EC conEs0 32 2 [4,5,6,8,10,12,24] (fun _ => ([],[]))
noncomputable section
def fm3q0 (p0 p1:Int):List UInt8 := escB p0 p1
def fm3q1 (p0:Int):List UInt8 := Array.toList (ByteArray.data (Utf8.encode p0))
def fm3q2 (p0 p1:Int):Prop := side (N1 + LN (fm3q1 p0) ≤ (9223372036854775807:Nat)) (True∧∃ (_y:Unit),True∧(92:UInt8) :: List.append [] (fm3q1 p0) = fm3q0 p0 p1∧True∧True)
def fm3q3 (p0:Int):Bool := bif decide (p0 < (32:Int)) then true else p0 == (127:Int)
def fm3q4 (p0:Int):List UInt8 := hexN (Int.toNat (IntKind.wrap IntKind.i64 p0))
def fm3q5 (p0:Int):List UInt8 := List.append [] (fm3q4 p0)
def fm3q6 (p0 p1:Int):Prop := ifB (decide (p0 < (32:Int))) (true = fm3q3 p0∧True) ((p0 == (127:Int)) = fm3q3 p0∧True)∧ifB (fm3q3 p0) ((Z0 ≤ IntKind.wrap IntKind.i64 p0∧IntKind.wrap IntKind.i64 p0 < (128:Int))∧∀ (_y:Unit),True→side ((3:Nat) + LN (fm3q4 p0) ≤ (9223372036854775807:Nat)) (side (LN ((92:UInt8) :: (117:UInt8) :: (123:UInt8) :: fm3q5 p0) + N1 ≤ (9223372036854775807:Nat)) (True∧∃ (_y:Unit),True∧(92:UInt8) :: (117:UInt8) :: (123:UInt8) :: List.append (fm3q5 p0) [(125:UInt8)] = fm3q0 p0 p1∧True∧True))) (True∧∃ (_y:Unit),True∧fm3q1 p0 = fm3q0 p0 p1∧True∧True)
end
theorem esc_ok (c q:Int) (h:0 ≤ c∧c ≤ 1114111):ACalls Tryz.prog 137 [.int .i32 c,.int .i32 q] ⟨[],[]⟩ (SpecR (sC [.int .i32 c,.int .i32 q] (.str (escB c q))) ()) := by
  refine con_of (A := sC _ _) (x := ()) (E := Ees) (eOk conEs0_ok rfl) Tryz.func137 rfl (by kernel_rfl) rfl (by simp [sC,Ees,EC,E0]) ?_
  refine vc_eq (T :=
    ifB (c == (10:Int)) (True∧∃ (y:Unit),True∧[(92:UInt8),(110:UInt8)] = fm3q0 c q∧True∧True) (ifB (c == (9:Int)) (True∧∃ (y:Unit),True∧[(92:UInt8),(116:UInt8)] = fm3q0 c q∧True∧True) (ifB (c == (13:Int)) (True∧∃ (y:Unit),True∧[(92:UInt8),(114:UInt8)] = fm3q0 c q∧True∧True) (ifB (c == (92:Int)) (ifB (c == (92:Int)) (fm3q2 c q) (fm3q6 c q)) (ifB (c == q) (fm3q2 c q) (fm3q6 c q)))))) (by kernel_rfl) ?_
  delta LN N1 Z0 fm3q0 fm3q1 fm3q2 fm3q3 fm3q4 fm3q5 fm3q6
  have e:IntKind.i64.wrap c = c := wrap_i64' (by omega) (by omega)
  have l1 := utf8_len c
  have l2 := hexN_len c.toNat
  unfold utf8 at l1
  have a1:∀ l:List UInt8,[].append l = l := fun _ => rfl
  have a2:∀ l r:List UInt8,l.append r = l ++ r := fun _ _ => rfl
  simp only [a1,a2,ifB_iff,side_iff,e,beq_iff_eq,beq_eq_false_iff_ne,decide_eq_true_eq,decide_eq_false_iff_not,Bool.cond_true_left,Bool.or_eq_true,Bool.or_eq_false_iff,true_and,and_true,exists_const,forall_const,List.length_cons]
  refine ⟨fun h => by subst h; rfl,fun h1 => ⟨fun h => by subst h; rfl,fun h2 => ⟨fun h => by subst h; rfl,fun h3 => ⟨fun h4 => ⟨fun _ => ⟨by omega,?_⟩,fun hh => (hh h4).elim⟩,fun h4 => ⟨fun h5 => ⟨by omega,?_⟩,fun h5 => ⟨⟨fun h => by simp [h],fun h => by simp [h]⟩,fun h6 => ⟨by omega,by omega,by omega,?_⟩,fun h6 => ?_⟩⟩⟩⟩⟩⟩
  · unfold escB; rw [if_neg h1,if_neg h2,if_neg h3,if_pos (.inl h4)]; rfl
  · unfold escB; rw [if_neg h1,if_neg h2,if_neg h3,if_pos (.inr h5)]; rfl
  · unfold escB; rw [if_neg h1,if_neg h2,if_neg h3,if_neg (by omega),if_pos h6]; rfl
  · unfold escB; rw [if_neg h1,if_neg h2,if_neg h3,if_neg (by omega),if_neg (by omega)]; rfl
theorem dig16:∀ k,k < 16→List.drop k (List.take (k + 1) ([48,49,50,51,52,53,54,55,56,57,97,98,99,100,101,102]:List UInt8)) = [digU k] := by decide
noncomputable def Erh1:Senv := EC con0 22 1 [2,3,5] (fun id => match id with | 4 => ([0,1,3,4,5,6,7,8,9,2,10,11],[2]) | _ => ([],[]))
theorem rhex1 (n:Int) (h:0 ≤ n∧n < 16):ACalls Tryz.prog 162 [.int .i64 n] ⟨[],[]⟩ (SpecR (sC [.int .i64 n] (.str [digU n.toNat])) ()) := by
  refine con_of (A := sC _ _) (x := ()) (E := { Erh1 with inl := fun _ _ _ _ => False }) ⟨tab_ok,con0_ok,mix,fun _ _ _ _ h => h.elim,eqs_ok⟩ Tryz.func162 rfl (by kernel_rfl) rfl (by simp [sC,Erh1,EC,E0]) ?_
  refine vc_eq (T :=
    ifB (decide (n < (16:Int))) (side (Z0 ≤ n∧n ≤ IntKind.wrap IntKind.i64 (n + Z1)∧IntKind.wrap IntKind.i64 (n + Z1) ≤ (16:Int)) (True∧∃ (y:Unit),True∧List.drop (Int.toNat n) (List.take (Int.toNat (IntKind.wrap IntKind.i64 (n + Z1))) [(48:UInt8),(49:UInt8),(50:UInt8),(51:UInt8),(52:UInt8),(53:UInt8),(54:UInt8),(55:UInt8),(56:UInt8),(57:UInt8),(97:UInt8),(98:UInt8),(99:UInt8),(100:UInt8),(101:UInt8),(102:UInt8)]) = [digU (Int.toNat n)]∧True∧True)) (side (Z0 ≤ Int.tmod n (16:Int)∧Int.tmod n (16:Int) ≤ IntKind.wrap IntKind.i64 (Int.tmod n (16:Int) + Z1)∧IntKind.wrap IntKind.i64 (Int.tmod n (16:Int) + Z1) ≤ (16:Int)) False)) (by kernel_rfl) ?_
  delta Z0 Z1
  rw [ifB_iff]
  refine ⟨fun _ => ?_,fun h1 => absurd h.2 (by simpa using h1)⟩
  rw [side_iff,wrap_i64' (by omega) (by omega)]
  refine ⟨by omega,trivial,(),trivial,?_,trivial,trivial⟩
  rw [show (n + 1).toNat = n.toNat + 1 by omega]
  exact dig16 _ (by omega)
def conRh:Con := fun k ds S => match k with
  | 162 => match ds with
    | [.int .i64 n] => some (pC [.int .i64 n] (.str [digU n.toNat]) (0 ≤ n∧n < 16))
    | _ => none
  | k => conEs0 k ds S
theorem conRh_ok:ConOk Tryz.prog conRh := by
  intro k ds S A h
  unfold conRh at h
  split at h
  · split at h
    · injection h with h; subst h
      exact pC_ok fun h1 => ⟨weakL_refl _,rhex1 _ h1⟩
    · cases h
  · exact conEs0_ok _ _ _ _ h
noncomputable def Erh2:Senv := EC conRh 22 1 [2,3,5] (fun id => match id with | 4 => ([0,1,3,4,5,6,7,8,9,2,10,11],[2]) | _ => ([],[]))
noncomputable section
def fm3q7:List UInt8 := [(48:UInt8),(49:UInt8),(50:UInt8),(51:UInt8),(52:UInt8),(53:UInt8),(54:UInt8),(55:UInt8),(56:UInt8),(57:UInt8),(97:UInt8),(98:UInt8),(99:UInt8),(100:UInt8),(101:UInt8),(102:UInt8)]
def fm3q8 (p0:Int):Int := IntKind.wrap IntKind.i64 (Int.tmod p0 (16:Int) + Z1)
def fm3q9 (p0:Int):List UInt8 := List.drop (Int.toNat (Int.tmod p0 (16:Int))) (List.take (Int.toNat (fm3q8 p0)) fm3q7)
end
theorem rhex_ok (n:Int) (h:0 ≤ n∧n < 128):ACalls Tryz.prog 162 [.int .i64 n] ⟨[],[]⟩ (SpecR (sC [.int .i64 n] (.str (hexN n.toNat))) ()) := by
  refine con_of (A := sC _ _) (x := ()) (E := Erh2) (eOk conRh_ok rfl) Tryz.func162 rfl (by kernel_rfl) rfl (by simp [sC,Erh2,EC,E0]) ?_
  refine vc_eq (T :=
    ifB (decide (n < (16:Int))) (side (Z0 ≤ n∧n ≤ IntKind.wrap IntKind.i64 (n + Z1)∧IntKind.wrap IntKind.i64 (n + Z1) ≤ (16:Int)) (True∧∃ (y:Unit),True∧List.drop (Int.toNat n) (List.take (Int.toNat (IntKind.wrap IntKind.i64 (n + Z1))) fm3q7) = hexN (Int.toNat n)∧True∧True)) (side (Z0 ≤ Int.tmod n (16:Int)∧Int.tmod n (16:Int) ≤ fm3q8 n∧fm3q8 n ≤ (16:Int)) ((Z0 ≤ IntKind.wrap IntKind.i64 (Int.tdiv n (16:Int))∧IntKind.wrap IntKind.i64 (Int.tdiv n (16:Int)) < (16:Int))∧∀ (y:Unit),True→side (N1 + LN (fm3q9 n) ≤ (9223372036854775807:Nat)) (True∧∃ (y:Unit),True∧digU (Int.toNat (IntKind.wrap IntKind.i64 (Int.tdiv n (16:Int)))) :: List.append [] (fm3q9 n) = hexN (Int.toNat n)∧True∧True)))) (by kernel_rfl) ?_
  delta LN N1 Z0 Z1 fm3q7 fm3q8 fm3q9
  rw [ifB_iff]
  have ho:n.tmod 16 = ((n.toNat % 16:Nat):Int) := by
    obtain ⟨m,rfl⟩:∃ m:Nat,n = m := ⟨n.toNat,by omega⟩
    rfl
  have hd:n.tdiv 16 = ((n.toNat / 16:Nat):Int) := by
    obtain ⟨m,rfl⟩:∃ m:Nat,n = m := ⟨n.toNat,by omega⟩
    rfl
  refine ⟨fun h1 => ?_,fun h1 => ?_⟩
  · have h1:n < 16 := by simpa using h1
    rw [side_iff,wrap_i64' (by omega) (by omega)]
    refine ⟨by omega,trivial,(),trivial,?_,trivial,trivial⟩
    rw [show (n + 1).toNat = n.toNat + 1 by omega,dig16 _ (by omega)]
    unfold hexN; rw [if_pos (by omega)]
  · have h1:¬ n < 16 := by simpa using h1
    have e1:IntKind.i64.wrap (((n.toNat % 16:Nat):Int) + 1) = ((n.toNat % 16 + 1:Nat):Int) := by rw [wrap_i64' (by omega) (by omega)]; omega
    have e2:IntKind.i64.wrap ((n.toNat / 16:Nat):Int) = ((n.toNat / 16:Nat):Int) := wrap_i64' (by omega) (by omega)
    rw [ho,hd,e1,e2,side_iff]
    refine ⟨by omega,by omega,fun _ _ => ?_⟩
    rw [Int.toNat_natCast,Int.toNat_natCast,Int.toNat_natCast,dig16 _ (by omega),side_iff]
    refine ⟨by simp,trivial,(),trivial,?_,trivial,trivial⟩
    unfold hexN; rw [if_neg (by omega)]; rfl
def conEs:Con := fun k ds S => match k with
  | 162 => match ds with
    | [.int .i64 n] => some (pC [.int .i64 n] (.str (hexN n.toNat)) (0 ≤ n∧n < 128))
    | _ => none
  | 137 => match ds with
    | [.int .i32 c,.int .i32 q] => some (pC [.int .i32 c,.int .i32 q] (.str (escB c q)) (0 ≤ c∧c ≤ 1114111))
    | _ => none
  | k => conEs0 k ds S
theorem conEs_ok:ConOk Tryz.prog conEs := by
  intro k ds S A h
  unfold conEs at h
  split at h
  · split at h
    · injection h with h; subst h
      exact pC_ok fun h1 => ⟨weakL_refl _,rhex_ok _ h1⟩
    · cases h
  · split at h
    · injection h with h; subst h
      exact pC_ok fun h1 => ⟨weakL_refl _,esc_ok _ _ h1⟩
    · cases h
  · exact conEs0_ok _ _ _ _ h
noncomputable def Erx:Senv := EC conEs 33 2 [4,5,6,8,10,12,25] (fun _ => ([],[]))
noncomputable section
def fm3q10 (p0 p1:Int):List UInt8 := escB p0 p1
def fm3q11 (p0:Int):List UInt8 := Array.toList (ByteArray.data (Utf8.encode (IntKind.wrap IntKind.i32 p0)))
def fm3q12 (p0 p1:Int):Prop := side (N1 + LN (fm3q11 p0) ≤ (9223372036854775807:Nat)) (True∧∃ (_y:Unit),True∧(92:UInt8) :: List.append [] (fm3q11 p0) = fm3q10 p0 p1∧True∧True)
def fm3q13 (p0:Int):Bool := bif decide (p0 < (32:Int)) then true else p0 == (127:Int)
def fm3q14 (p0:Int):List UInt8 := List.append [] (hexN (Int.toNat p0))
def fm3q15 (p0 p1:Int):Prop := ifB (decide (p0 < (32:Int))) (true = fm3q13 p0∧True) ((p0 == (127:Int)) = fm3q13 p0∧True)∧ifB (fm3q13 p0) ((Z0 ≤ p0∧p0 < (128:Int))∧∀ (_y:Unit),True→side ((3:Nat) + LN (hexN (Int.toNat p0)) ≤ (9223372036854775807:Nat)) (side (LN ((92:UInt8) :: (117:UInt8) :: (123:UInt8) :: fm3q14 p0) + N1 ≤ (9223372036854775807:Nat)) (True∧∃ (_y:Unit),True∧(92:UInt8) :: (117:UInt8) :: (123:UInt8) :: List.append (fm3q14 p0) [(125:UInt8)] = fm3q10 p0 p1∧True∧True))) (True∧∃ (_y:Unit),True∧fm3q11 p0 = fm3q10 p0 p1∧True∧True)
end
theorem rchar_ok (c q:Int) (h:0 ≤ c∧c ≤ 1114111):ACalls Tryz.prog 157 [.int .i64 c,.int .i64 q] ⟨[],[]⟩ (SpecR (sC [.int .i64 c,.int .i64 q] (.str (escB c q))) ()) := by
  refine con_of (A := sC _ _) (x := ()) (E := Erx) (eOk conEs_ok rfl) Tryz.func157 rfl (by kernel_rfl) rfl (by simp [sC,Erx,EC,E0]) ?_
  refine vc_eq (T :=
    ifB (c == (10:Int)) (True∧∃ (y:Unit),True∧[(92:UInt8),(110:UInt8)] = fm3q10 c q∧True∧True) (ifB (c == (9:Int)) (True∧∃ (y:Unit),True∧[(92:UInt8),(116:UInt8)] = fm3q10 c q∧True∧True) (ifB (c == (13:Int)) (True∧∃ (y:Unit),True∧[(92:UInt8),(114:UInt8)] = fm3q10 c q∧True∧True) (ifB (c == (92:Int)) (ifB (c == (92:Int)) (fm3q12 c q) (fm3q15 c q)) (ifB (c == q) (fm3q12 c q) (fm3q15 c q)))))) (by kernel_rfl) ?_
  delta LN N1 Z0 fm3q10 fm3q11 fm3q12 fm3q13 fm3q14 fm3q15
  have e:IntKind.i32.wrap c = c := by rw [IntKind.wrap_i32]; omega
  have l1 := utf8_len c
  have l2 := hexN_len c.toNat
  unfold utf8 at l1
  have a1:∀ l:List UInt8,[].append l = l := fun _ => rfl
  have a2:∀ l r:List UInt8,l.append r = l ++ r := fun _ _ => rfl
  simp only [a1,a2,ifB_iff,side_iff,e,beq_iff_eq,beq_eq_false_iff_ne,decide_eq_true_eq,decide_eq_false_iff_not,Bool.cond_true_left,Bool.or_eq_true,Bool.or_eq_false_iff,true_and,and_true,exists_const,forall_const,List.length_cons]
  refine ⟨fun h => by subst h; rfl,fun h1 => ⟨fun h => by subst h; rfl,fun h2 => ⟨fun h => by subst h; rfl,fun h3 => ⟨fun h4 => ⟨fun _ => ⟨by omega,?_⟩,fun hh => (hh h4).elim⟩,fun h4 => ⟨fun h5 => ⟨by omega,?_⟩,fun h5 => ⟨⟨fun h => by simp [h],fun h => by simp [h]⟩,fun h6 => ⟨by omega,by omega,by omega,?_⟩,fun h6 => ?_⟩⟩⟩⟩⟩⟩
  · unfold escB; rw [if_neg h1,if_neg h2,if_neg h3,if_pos (.inl h4)]; rfl
  · unfold escB; rw [if_neg h1,if_neg h2,if_neg h3,if_pos (.inr h5)]; rfl
  · unfold escB; rw [if_neg h1,if_neg h2,if_neg h3,if_neg (by omega),if_pos h6]; rfl
  · unfold escB; rw [if_neg h1,if_neg h2,if_neg h3,if_neg (by omega),if_neg (by omega)]; rfl
end Go.Proofs.YtjnifeedbgefpaaGreatDoor
namespace Go.Proofs.YtjnifeedbgefpaaGreatDoor
open Go Go.Ab
theorem bytesOf_bsl (l:List UInt8):bytesOf l.length (fun i => [.int .u8 ((l.getD i 0).toNat:Int)]) = l := by
  apply List.ext_getElem
  · simp [bytesOf]
  · intro i h1 h2
    simp only [bytesOf,List.getElem_map,List.getElem_range,rowByte,Ab.byteOf,List.getD_eq_getElem?_getD,List.getElem?_eq_getElem h2,Option.getD_some,Int.toNat_natCast,UInt8.ofNat_toNat]
theorem rowsB_bsl (l:List UInt8):rowsB l.length (fun i => [.int .u8 ((l.getD i 0).toNat:Int)]) = true := by
  simp only [rowsB,List.all_eq_true,List.mem_range]
  intro i _
  have := (l.getD i 0).toNat_lt
  simp only [rowB,Ab.byteB,Bool.and_eq_true,decide_eq_true_eq]; omega
theorem bsl_weak {n:Nat} {g:Nat→List D} {m:Ab.Mode} (h:rowsB n g = true):weakD (.sl 1 n g m) (bsl (bytesOf n g) m) := by
  simp only [bsl,weakD,chk_iff]
  refine ⟨by simp,by simp [bytesOf],fun i hi => ?_,weakM_refl m⟩
  have hb:rowB (g i) = true := List.all_eq_true.1 h i (List.mem_range.2 hi)
  have hg:(bytesOf n g).getD i 0 = rowByte (g i) := by simp [bytesOf,List.getD_eq_getElem?_getD,hi]
  rw [hg]
  unfold rowB at hb
  split at hb
  · rename_i d hd
    rw [hd]
    have := byteB_eq hb
    simp only [rowByte]
    rw [← this]
  · cases hb
theorem app_bsl (l r:List UInt8) {i:Nat} (_hi:i < l.length + r.length):appF l.length (fun i => [D.int .u8 ((l.getD i 0).toNat:Int)]) (fun i => [D.int .u8 ((r.getD i 0).toNat:Int)]) i = [D.int .u8 (((l ++ r).getD i 0).toNat:Int)] := by
  simp only [appF]
  split
  · rename_i hlt
    simp [List.getD_eq_getElem?_getD,List.getElem?_append_left hlt]
  · rename_i hge
    simp [List.getD_eq_getElem?_getD,List.getElem?_append_right (Nat.le_of_not_lt hge)]
theorem app_gen {n : Nat} {l r : List UInt8} {F G : Nat → List D} (hn : n = l.length) (hF : ∀ i, i < n → F i = [D.int .u8 ((l.getD i 0).toNat : Int)]) (hG : ∀ i, i < r.length → G i = [D.int .u8 ((r.getD i 0).toNat : Int)]) :
    ∀ i,i < n + r.length→appF n F G i = [D.int .u8 (((l ++ r).getD i 0).toNat:Int)] := by
  intro i hi
  subst hn
  rw [← app_bsl l r hi]
  simp only [appF]
  split
  · exact hF i (by assumption)
  · exact hG _ (by omega)
theorem app_row' {n : Nat} {l : List UInt8} {F : Nat → List D} {z : Int} {b : UInt8} (hn : n = l.length) (hF : ∀ i, i < n → F i = [D.int .u8 ((l.getD i 0).toNat : Int)]) (h : z = (b.toNat : Int)) :
    ∀ i,i < n + 1→appF n F (fun i => [[D.int .u8 z]].getD i []) i = [D.int .u8 (((l ++ [b]).getD i 0).toNat:Int)] := by
  intro i hi
  subst hn
  simp only [appF]
  split
  · rename_i hlt
    rw [hF i hlt]
    simp [List.getD_eq_getElem?_getD,List.getElem?_append_left hlt]
  · have:i = l.length := by omega
    subst this
    simp [List.getD_eq_getElem?_getD,h]
end Go.Proofs.YtjnifeedbgefpaaGreatDoor
namespace Go.Proofs.YtjnifeedbgefpaaGreatDoor
open Go Go.Ab
set_option maxRecDepth 100000
def escL (q:Int) (l:List Int):List UInt8 := l.flatMap fun c => escB c q
def quoB (q:Int) (l:List Int):List UInt8 := utf8 q ++ escL q l ++ utf8 q
theorem escB_len (c q:Int):(escB c q).length ≤ 6 := by
  have h1 := utf8_len c
  have h2 := hexN_len c.toNat
  unfold escB
  (repeat' split) <;> (try simp only [List.length_cons,List.length_nil,List.length_append]) <;> omega
theorem escL_len (q:Int):∀ l:List Int,(escL q l).length ≤ 6 * l.length
  | [] => by simp [escL]
  | c :: l => by
    have h1 := escB_len c q
    have h2 := escL_len q l
    simp only [escL,List.flatMap_cons,List.length_append,List.length_cons] at h2 ⊢
    omega
theorem escL_cons (q c:Int) (l:List Int):escL q (c :: l) = escB c q ++ escL q l := by simp [escL]
theorem escL_nil (q:Int):escL q [] = [] := rfl
theorem memI {l:List Int} {i:Nat} (h:i < l.length):l.getD i 0 ∈ l := by
  rw [List.getD_eq_getElem?_getD,List.getElem?_eq_getElem h]; simp
structure QHd (q:Int) (l:List Int) (i:Nat) (pre out:List UInt8):Prop where
  hi:i ≤ l.length
  ho:out ++ escL q (l.drop i) = pre ++ escL q l
theorem QHd.init (q:Int) (l:List Int) (pre:List UInt8):QHd q l 0 pre pre := ⟨Nat.zero_le _,by simp⟩
theorem QHd.step {q:Int} {l:List Int} {i:Nat} {pre out:List UInt8} (h:QHd q l i pre out) (hlt:i < l.length):QHd q l (i + 1) pre (out ++ escB (l.getD i 0) q) := by
  refine ⟨by omega,?_⟩
  rw [← h.ho,drop_stepI hlt,escL_cons,List.append_assoc]
theorem QHd.len {q:Int} {l:List Int} {i:Nat} {pre out:List UInt8} (h:QHd q l i pre out):out.length ≤ pre.length + 6 * l.length := by
  have := congrArg List.length h.ho
  have := escL_len q l
  simp only [List.length_append] at *; omega
theorem QHd.done {q:Int} {l:List Int} {i:Nat} {pre out:List UInt8} (h:QHd q l i pre out) (hge:¬ i < l.length):out = pre ++ escL q l := by
  have := h.ho
  rw [List.drop_of_length_le (by omega),escL_nil,List.append_nil] at this
  exact this
noncomputable def Equ (q:Int) (l:List Int):Senv := { EC conEs 27 2 [4,5,7,10,11,12,13] (fun _ => ([],[])) with
  ann := fun b _ _ => match b with
    | 0 => some { slots := [12,5],keep := [0,1,10,11],α := Nat × List UInt8,st := fun y => ([.int .i64 y.1,.str y.2],⟨[],[]⟩),inv := fun y => QHd q l y.1 (utf8 q) y.2,mu := fun y => l.length - y.1 }
    | _ => none }
noncomputable section
def fm4q0 (p0:Int) (p1:List Int) (p2:Nat) (p3:List UInt8):Prop := QHd p0 p1 p2 (utf8 p0) p3
def fm4q1 (p0:Int):List UInt8 := Array.toList (ByteArray.data (Utf8.encode p0))
def fm4q2 (p0:List Int) (p1:Nat):Int := IntKind.wrap IntKind.i32 (GI p0 (Int.toNat (↑p1:Int)))
def fm4q3 (p0:List Int) (p1:Nat) (p2:Int):List UInt8 := escB (fm4q2 p0 p1) p2
def fm4q4 (p0:List Int):D := SI p0
def fm4q5 (p0:List Int):Prop := SM (fm4q4 p0)
end
theorem quo_ok (q:Int) (l:List Int) (hl:l.length ≤ 1099511627776) (hc:∀ c ∈ l,0 ≤ c∧c ≤ 1114111):ACalls Tryz.prog 113 [.int .i32 q,isl l .any] ⟨[],[]⟩ (SpecR (sC [.int .i32 q,isl l .any] (.str (quoB q l))) ()) := by
  refine con_of (A := sC _ _) (x := ()) (E := Equ q l) (eOk conEs_ok rfl) Tryz.func113 rfl (by kernel_rfl) rfl (by simp [sC,Equ,EC,E0]) ?_
  refine vc_eq (T :=
    (∃ (x:Nat × List UInt8),fm4q0 q l x.1 x.2∧(Z0 = (NI x.1)∧fm4q1 q = x.2∧True)∧True∧True)∧∀ (x:Nat × List UInt8),fm4q0 q l x.1 x.2→ifB (decide ((NI x.1) < (LI l))) (side (Z0 ≤ (NI x.1)∧(NI x.1) < (LI l)) ((Z0 ≤ fm4q2 l x.1∧fm4q2 l x.1 ≤ (1114111:Int))∧∀ (y:Unit),True→side (LN x.2 + LN (fm4q3 l x.1 q) ≤ (9223372036854775807:Nat)) ((SM (D.int IntKind.i32 q)∧fm4q5 l∧fm4q5 l∧SM (ZI (LI l))∧True)∧∃ (y:Nat × List UInt8),fm4q0 q l y.1 y.2∧LN l - y.1 < LN l - x.1∧(IntKind.wrap IntKind.i64 ((NI x.1) + Z1) = (NI y.1)∧x.2 ++ fm4q3 l x.1 q = y.2∧True)∧True∧True))) (side (LN x.2 + LN (fm4q1 q) ≤ (9223372036854775807:Nat)) (True∧∃ (y:Unit),True∧x.2 ++ fm4q1 q = quoB q l∧True∧True))) (by kernel_rfl) ?_
  delta GI LI LN N1 NI SI SM Z0 Z1 ZI fm4q0 fm4q1 fm4q2 fm4q3 fm4q4 fm4q5
  have hu:∀ c,(Utf8.encode c).data.toList = utf8 c := fun _ => rfl
  simp only [hu,ifB_iff,side_iff,decide_eq_true_eq,true_and,and_true,exists_const,forall_const,Int.toNat_natCast,eq_self]
  refine ⟨⟨(0,utf8 q),QHd.init _ _ _,rfl,rfl⟩,?_⟩
  rintro ⟨i,out⟩ hh
  simp only at hh ⊢
  have h1 := hh.len
  have h2 := utf8_len q
  refine ⟨fun hlt => ?_,fun hge => ?_⟩
  · have hlt':i < l.length := by omega
    have hci := hc (l.getD i 0) (memI hlt')
    have e:IntKind.i32.wrap (l.getD i 0) = l.getD i 0 := by rw [IntKind.wrap_i32]; omega
    have h3 := escB_len (l.getD i 0) q
    rw [e]
    exact ⟨by omega,hci,by omega,(i + 1,out ++ escB (l.getD i 0) q),hh.step hlt',by simp only; omega,wrap_i64' (by omega) (by omega),rfl⟩
  · have hge':¬ i < l.length := by simpa using hge
    have h3 := escL_len q l
    rw [hh.done hge']
    exact ⟨by simp only [List.length_append]; omega,rfl⟩
def conRc:Con := fun k ds S => match k with
  | 157 => match ds with
    | [.int .i64 c,.int .i64 q] => some (pC [.int .i64 c,.int .i64 q] (.str (escB c q)) (0 ≤ c∧c ≤ 1114111))
    | _ => none
  | k => conEs k ds S
theorem conRc_ok:ConOk Tryz.prog conRc := by
  intro k ds S A h
  unfold conRc at h
  split at h
  · split at h
    · injection h with h; subst h
      exact pC_ok fun h1 => ⟨weakL_refl _,rchar_ok _ _ h1⟩
    · cases h
  · exact conEs_ok _ _ _ _ h
end Go.Proofs.YtjnifeedbgefpaaGreatDoor
namespace Go.Proofs.YtjnifeedbgefpaaGreatDoor
open Go Go.Ab
set_option maxRecDepth 100000
def ssl (l:List (List UInt8)) (m:Ab.Mode):D := .sl 1 l.length (fun i => [.str (l.getD i [])]) m
theorem join_ok (l : List (List UInt8)) (sep : List UInt8) (hl : l.length ≤ 140737488355328) (hj : (Lib.join l sep).length ≤ 140737488355328) :
    ACalls Tryz.prog 70 [ssl l .any,.str sep] ⟨[],[]⟩ (SpecR (sC [ssl l .any,.str sep] (.str (Lib.join l sep))) ()) := by
  refine ⟨⟨_,Tryz.func70,by kernel_rfl,by kernel_rfl⟩,fun C F args w ha hs => ?_⟩
  obtain ⟨u,v,e,hu,hv⟩ := repL_two' ha
  have e2:args = [u,v].toArray := by rw [← e]
  subst e2
  simp only [Rep] at hv; subst hv
  simp only [ssl,Rep] at hu
  obtain ⟨a,len,cap,rfl,hh,hr⟩ := hu
  have hlen:len = l.length := hh.1
  subst hlen
  have hF:Sat C F w := by simpa [St.add] using hs
  have fin:∀ w' e,e = Ending.returned (.string ⟨(Lib.join l sep).toArray⟩)→Go.RowKit.Below w.heap.size w w'→∃ C' r S',C.le C'∧Sat C' (S'.add F) w'∧RepEnd C' r e∧SpecR (sC [ssl l .any,.str sep] (.str (Lib.join l sep))) () r S' := fun w' e he h =>
    ⟨C,.ret (.str (Lib.join l sep)),⟨[],[]⟩,.refl C,by simpa [St.add] using hF.kept h,by subst he; simp [RepEnd,Rep],(),trivial,rfl,rfl⟩
  by_cases h0:l = []
  · subst h0
    refine (Tryz.strings_Join_none a cap _ w).mono fun e w' ⟨he,hw⟩ => fin w' e he ?_
    subst hw; exact Go.RowKit.Below.refl _ _
  · have hpos:0 < l.length := List.length_pos_iff.2 h0
    have ha:∃ x,a = some x := by
      cases a with
      | none => have := hh.2.2.2.1 rfl; omega
      | some x => exact ⟨x,rfl⟩
    obtain ⟨⟨bk,o,sp⟩,rfl⟩ := ha
    have hsp:sp = none := hh.2.2.2.2.1 _ rfl (by have := hh.2.1; omega)
    subst hsp
    have hcell:∀ i x,l[i]? = some x→w.cell? ⟨bk,o + i,none⟩ = some (.string ⟨x.toArray⟩) := by
      intro i x hx
      have hi:i < l.length := (List.getElem?_eq_some_iff.1 hx).1
      have hrow := (hr _ rfl i hi).2
      simp only [RepCells] at hrow
      obtain ⟨⟨v,i1,i2⟩,_⟩ := hrow
      simp only [Rep] at i2
      subst i2
      have := hs.imm _ _ _ i1
      have e:l.getD i [] = x := by rw [List.getD_eq_getElem?_getD,hx]; rfl
      rw [e] at this
      simpa using this
    have hsz:bk < w.heap.size := by
      have := hcell 0 (l.getD 0 []) (by rw [List.getD_eq_getElem?_getD,List.getElem?_eq_getElem hpos]; rfl)
      unfold World.cell? at this
      by_cases hb:bk < w.heap.size
      · exact hb
      · rw [Array.getElem?_eq_none (Nat.le_of_not_lt hb)] at this
        cases this
    have hm:(l.map fun s => (⟨s.toArray⟩:ByteArray)).map (·.data.toList) = l := by simp [Function.comp_def]
    have key := Tryz.strings_Join bk o cap (l.map fun s => (⟨s.toArray⟩:ByteArray)) ⟨sep.toArray⟩ w (fun i x hx => by
      rw [List.getElem?_map,Option.map_eq_some_iff] at hx
      obtain ⟨y,h1,h2⟩ := hx
      subst h2
      exact hcell i y h1) hsz (by simpa using hl) (by simpa using hh.2.1) (by rw [hm]; exact hj)
    rw [hm,List.length_map] at key
    exact key.mono fun e w' ⟨he,hb⟩ => fin w' e he hb
def rowStr:List D→List UInt8
  | [.str s] => s
  | _ => []
def rowSB:List D→Bool
  | [.str _] => true
  | _ => false
def strsOf (n:Nat) (f:Nat→List D):List (List UInt8) := (List.range n).map fun i => rowStr (f i)
def strsB (n:Nat) (f:Nat→List D):Bool := (List.range n).all fun i => rowSB (f i)
theorem ssl_weak {n:Nat} {f:Nat→List D} {m:Ab.Mode} (h:strsB n f = true):weakD (.sl 1 n f m) (ssl (strsOf n f) .any) := by
  simp only [ssl,weakD,chk_iff]
  refine ⟨by simp,by simp [strsOf],fun i hi => ?_,by cases m <;> simp [weakM]⟩
  have hb:rowSB (f i) = true := List.all_eq_true.1 h i (List.mem_range.2 hi)
  have hg:(strsOf n f).getD i [] = rowStr (f i) := by simp [strsOf,List.getD_eq_getElem?_getD,hi]
  rw [hg]
  unfold rowSB at hb
  split at hb
  · rename_i s hd; rw [hd]; rfl
  · cases hb
theorem strsOf_eq {n:Nat} {l:List (List UInt8)} {F:Nat→List D} (hn:n = l.length) (hF:∀ i,i < n→F i = [D.str (l.getD i [])]):strsOf n F = l := by
  subst hn
  apply List.ext_getElem
  · simp [strsOf]
  · intro i h1 h2
    simp only [strsOf,List.getElem_map,List.getElem_range,hF i h2,rowStr,List.getD_eq_getElem?_getD,List.getElem?_eq_getElem h2,Option.getD_some]
theorem strsB_eq {n:Nat} {l:List (List UInt8)} {F:Nat→List D} (hn:n = l.length) (hF:∀ i,i < n→F i = [D.str (l.getD i [])]):strsB n F = true := by
  subst hn
  simp only [strsB,List.all_eq_true,List.mem_range]
  intro i hi
  rw [hF i hi]; rfl
def joinOk (l:List (List UInt8)) (sep:List UInt8):Prop := l.length ≤ 140737488355328∧(Lib.join l sep).length ≤ 140737488355328
def conJn:Con := fun k ds S => match k with
  | 70 => match ds with
    | [.sl 1 n f m,.str sep] => some (pC [.sl 1 n f m,.str sep] (.str (Lib.join (strsOf n f) sep)) (strsB n f = true∧joinOk (strsOf n f) sep))
    | _ => none
  | 113 => match ds with
    | [.int .i32 q,.sl 1 n f m] => some (pC [.int .i32 q,.sl 1 n f m] (.str (quoB q (intsD n f))) (n ≤ 1099511627776∧IntsP n f∧∀ c ∈ intsD n f,0 ≤ c∧c ≤ 1114111))
    | _ => none
  | k => conRc k ds S
theorem conJn_ok:ConOk Tryz.prog conJn := by
  intro k ds S A h
  unfold conJn at h
  split at h
  · split at h
    · injection h with h; subst h
      exact pC_ok fun ⟨h1,h2⟩ => ⟨weakL_refl _,sC_weak (us := [ssl (strsOf _ _) .any,_]) ⟨ssl_weak h1,weakD_refl _,trivial⟩ (join_ok _ _ h2.1 h2.2)⟩
    · cases h
  · split at h
    · injection h with h; subst h
      exact pC_ok fun ⟨h1,h2,h3⟩ => ⟨weakL_refl _,sC_weak (us := [_,isl (intsD _ _) .any]) ⟨weakD_refl _,(isl_weak h2).1,trivial⟩ (quo_ok _ _ (by rw [intsD_len]; exact h1) h3)⟩
    · cases h
  · exact conRc_ok _ _ _ _ h
end Go.Proofs.YtjnifeedbgefpaaGreatDoor
namespace Go.Proofs.YtjnifeedbgefpaaGreatDoor
open Go Go.Ab
set_option maxRecDepth 100000
theorem amongR_step {t s:List UInt8} {x:Nat} (h:x < t.length):amongR (t.drop x) s = ((t.getD x 0 == 32 && decide (s.length < (t.drop (x + 1)).length) && (t.drop (x + 1)).take s.length == s && (t.drop (x + 1)).getD s.length 0 == 32) || amongR (t.drop (x + 1)) s) := by
  rw [List.drop_eq_getElem_cons h,amongR]
  simp only [List.getD_eq_getElem?_getD,List.getElem?_eq_getElem h,Option.getD_some]
theorem amongR_short {s:List UInt8}:∀ {r:List UInt8},r.length < s.length + 2→amongR r s = false
  | [],_ => rfl
  | b :: r,h => by
    have h1:¬ s.length < r.length := by simp only [List.length_cons] at h; omega
    rw [amongR,decide_eq_false h1,amongR_short (r := r) (by simp only [List.length_cons] at h; omega)]
    simp
noncomputable def Eam (t s:List UInt8):Senv := { EC con0 57 2 [4,5,6,9,13,19,27,56] (fun _ => ([],[])) with
  ann := fun b _ S => match b with
    | 0 => some { slots := [5],keep := [0,1],α := Nat,st := fun y => ([.int .i64 y],S),inv := fun y => y ≤ s.length∧(s.take y).all (fun b => b != 32) = true,mu := fun y => s.length - y }
    | 2 => some { slots := [6],keep := [0,1],α := Nat,st := fun y => ([.int .i64 y],S),inv := fun y => y ≤ t.length∧amongR (t.drop y) s = amongR t s,mu := fun y => t.length - y }
    | _ => none }
noncomputable section
def tw1q0 (p0 p1:List UInt8):Prop := True∧∃ (_y:Unit),True∧false = amongT p0 p1∧True∧True
def tw1q1 (p0:Nat) (p1:List UInt8):Prop := p0 ≤ LN p1∧(List.all (List.take p0 p1) fun (b:UInt8) => b != (32:UInt8)) = true
def tw1q2 (p0:List UInt8) (p1:Nat):Bool := (BI p0 (Int.toNat (↑p1:Int))) == (32:Int)
def tw1q3 (p0:Nat):Int := IntKind.wrap IntKind.i64 ((↑p0:Int) + Z1)
def tw1q4 (p0:List UInt8) (p1 p2:Nat):Prop := LN p0 - p1 < LN p0 - p2∧(tw1q3 p2 = (↑p1:Int)∧True)∧True∧True
def tw1q5 (p0:Nat) (p1 p2:List UInt8):Prop := p0 ≤ LN p1∧amongR (List.drop p0 p1) p2 = amongR p1 p2
def tw1q6 (p0:Nat) (p1:List UInt8):Int := IntKind.wrap IntKind.i64 (tw1q3 p0 + (LI p1))
def tw1q7 (p0:Nat) (p1:List UInt8):Nat := Int.toNat (tw1q6 p0 p1)
def tw1q8 (p0:Nat) (p1 p2:List UInt8):Bool := List.drop (Int.toNat (tw1q3 p0)) (List.take (tw1q7 p0 p1) p2) == p1
def tw1q9 (p0:List UInt8) (p1:Nat) (p2:List UInt8):Bool := (BI p0 (tw1q7 p1 p2)) == (32:Int)
def tw1q10 (p0:List UInt8) (p1:Nat) (p2:List UInt8):Bool := bif bif tw1q2 p0 p1 then tw1q8 p1 p2 p0 else false then tw1q9 p0 p1 p2 else false
def tw1q11 (p0:List UInt8) (p1:Nat) (p2:List UInt8):Prop := false = tw1q10 p0 p1 p2∧True
end
theorem am_ok (t s:List UInt8) (ht:t.length ≤ maxB) (hs:s.length ≤ maxB):ACalls Tryz.prog 107 [.str t,.str s] ⟨[],[]⟩ (SpecR (sC [.str t,.str s] (.bool (amongT t s))) ()) := by
  refine con_of (A := sC _ _) (x := ()) (E := Eam t s) (eOk con0_ok rfl) Tryz.func107 rfl (by kernel_rfl) rfl (by simp [sC,Eam,EC,E0]) ?_
  refine vc_eq (T :=
    ifB ((LI s) == Z0) (tw1q0 t s) ((∃ (x:Nat),tw1q1 x s∧(Z0 = (↑x:Int)∧True)∧True∧True)∧∀ (x:Nat),tw1q1 x s→ifB (decide ((↑x:Int) < (LI s))) (side (Z0 ≤ (↑x:Int)∧(↑x:Int) < (LI s)) (ifB (tw1q2 s x) (tw1q0 t s) ((SM (D.str t)∧SM (D.str s)∧True)∧∃ (y:Nat),tw1q1 y s∧tw1q4 s y x))) ((∃ (x:Nat),tw1q5 x t s∧(Z0 = (↑x:Int)∧True)∧True∧True)∧∀ (x:Nat),tw1q5 x t s→ifB (decide (IntKind.wrap IntKind.i64 (IntKind.wrap IntKind.i64 ((↑x:Int) + (LI s)) + (2:Int)) ≤ (LI t))) (side (Z0 ≤ (↑x:Int)∧(↑x:Int) < (LI t)) (ifB (tw1q2 t x) (side (Z0 ≤ tw1q3 x∧tw1q3 x ≤ tw1q6 x s∧tw1q6 x s ≤ (LI t)) (ifB (tw1q8 x s t) (side (Z0 ≤ tw1q6 x s∧tw1q6 x s < (LI t)) (tw1q9 t x s = tw1q10 t x s∧True)) (tw1q11 t x s))) (tw1q11 t x s))∧ifB (tw1q10 t x s) (True∧∃ (y:Unit),True∧true = amongT t s∧True∧True) ((SM (D.str t)∧SM (D.str s)∧True)∧∃ (y:Nat),tw1q5 y t s∧tw1q4 t y x)) (tw1q0 t s)))) (by kernel_rfl) ?_
  delta BI LI LN SM U0 Z0 Z1 tw1q0 tw1q1 tw1q10 tw1q11 tw1q2 tw1q3 tw1q4 tw1q5 tw1q6 tw1q7 tw1q8 tw1q9
  simp only [eq_self,ne_eq,Int.toNat_natCast,ifB_iff,side_iff,decide_eq_true_eq,decide_eq_false_iff_not,true_and,and_true,beq_iff_eq,Bool.cond_false_right,Bool.and_eq_true,Bool.and_eq_false_iff,beq_eq_false_iff_ne,exists_const]
  unfold maxB at ht hs
  have b32:∀ b:UInt8,((b.toNat:Int) = 32)↔b = 32 := fun b => ⟨fun h => by
    apply UInt8.toNat_inj.1
    show b.toNat = 32
    omega,fun h => by subst h; rfl⟩
  have tk:∀ x:Nat,x < s.length→s.take (x + 1) = s.take x ++ [s.getD x 0] := fun x hx => by
    rw [List.take_add_one,List.getElem?_eq_getElem hx,List.getD_eq_getElem?_getD,List.getElem?_eq_getElem hx]; rfl
  refine ⟨fun h => ?_,fun h0 => ⟨⟨0,⟨Nat.zero_le _,rfl⟩,rfl⟩,fun x ⟨h1,h2⟩ => ⟨fun h => ⟨⟨by omega,h⟩,fun e => ?_,fun e => ⟨x + 1,⟨by omega,?_⟩,by omega,by rw [wrap_i64' (by omega) (by omega)]; rfl⟩⟩,fun h => ?_⟩⟩⟩
  · have:s = [] := List.length_eq_zero_iff.1 (by omega)
    subst this; rfl
  · have hx:x < s.length := by omega
    have hm:s.getD x 0 ∈ s := by rw [List.getD_eq_getElem?_getD,List.getElem?_eq_getElem hx]; exact List.getElem_mem hx
    have:(s.all fun b => b != 32) = false := by
      rw [List.all_eq_false]
      exact ⟨_,hm,by rw [(b32 _).1 e]; simp⟩
    unfold amongT
    rw [this]; simp
  · rw [tk x (by omega),List.all_append,h2]
    have:s.getD x 0 ≠ 32 := fun he => e ((b32 _).2 he)
    simpa using this
  · have hall:(s.all fun b => b != 32) = true := by
      have:x = s.length := by omega
      rw [this,List.take_length] at h2
      exact h2
    have hne:s.isEmpty = false := by
      cases s with
      | nil => exact (h0 rfl).elim
      | cons => rfl
    have hA:amongT t s = amongR t s := by unfold amongT; rw [hall,hne]; rfl
    rw [hA]
    refine ⟨⟨0,⟨Nat.zero_le _,by rw [List.drop_zero]⟩,rfl⟩,fun y ⟨y1,y2⟩ => ?_⟩
    have w1:IntKind.i64.wrap ((y:Int) + 1) = ((y + 1:Nat):Int) := by rw [wrap_i64' (by omega) (by omega)]; rfl
    have w2:IntKind.i64.wrap (((y + 1:Nat):Int) + (s.length:Int)) = ((y + 1 + s.length:Nat):Int) := by rw [wrap_i64' (by omega) (by omega)]; omega
    have w3:IntKind.i64.wrap (IntKind.i64.wrap ((y:Int) + (s.length:Int)) + 2) = ((y + s.length + 2:Nat):Int) := by rw [wrap_i64' (n := (y:Int) + s.length) (by omega) (by omega),wrap_i64' (by omega) (by omega)]; omega
    rw [w1,w2,w3]
    simp only [Int.toNat_natCast,b32]
    have hdt:List.drop (y + 1) (List.take (y + 1 + s.length) t) = (t.drop (y + 1)).take s.length := by
      rw [List.drop_take]; congr 1; omega
    have hgd:t.getD (y + 1 + s.length) 0 = (t.drop (y + 1)).getD s.length 0 := by simp [List.getD_eq_getElem?_getD]
    rw [hdt,hgd]
    have bi:∀ b:UInt8,(((b.toNat:Int)) == 32) = (b == 32) := fun b => by
      by_cases hb:b = 32
      · rw [hb]; rfl
      · have h1:(b == 32) = false := by simpa using hb
        have h2:(((b.toNat:Int)) == 32) = false := by
          have := fun h => hb ((b32 b).1 h)
          simpa using this
        rw [h1,h2]
    simp only [bi]
    refine ⟨fun hle => ?_,fun hgt => ?_⟩
    · have hy:y < t.length := by omega
      have hstep := amongR_step (s := s) hy
      rw [y2] at hstep
      have hlt:decide (s.length < (t.drop (y + 1)).length) = true := by rw [List.length_drop]; simp; omega
      rw [hlt,Bool.and_true] at hstep
      refine ⟨⟨⟨by omega,by omega⟩,fun e1 => ⟨⟨by omega,by omega,by omega⟩,fun e2 => ⟨⟨by omega,by omega⟩,?_⟩,fun e2 => ?_⟩,fun e1 => ?_⟩,fun ⟨⟨e1,e2⟩,e3⟩ => ?_,fun hno => ⟨y + 1,⟨by omega,?_⟩,by omega,rfl⟩⟩
      · rw [e1,e2]; simp
      · have:((t.drop (y + 1)).take s.length == s) = false := by simpa using e2
        rw [this]; simp
      · have:(t.getD y 0 == 32) = false := by simpa using e1
        rw [this]; simp
      · rw [hstep,e1,e2,e3]; simp
      · have:(t.getD y 0 == 32 && (t.drop (y + 1)).take s.length == s && (t.drop (y + 1)).getD s.length 0 == 32) = false := by
          rw [Bool.and_eq_false_iff,Bool.and_eq_false_iff]
          rcases hno with (h | h) | h
          · exact .inl (.inl (by simpa using h))
          · exact .inl (.inr (by simpa using h))
          · exact .inr (by simpa using h)
        rw [this,Bool.false_or] at hstep
        exact hstep.symm
    · rw [← y2]
      exact (amongR_short (by rw [List.length_drop]; omega)).symm
def conAm:Con := fun k ds _ => match k with
  | 107 => match ds with
    | [.str t,.str s] => some (pC [.str t,.str s] (.bool (amongT t s)) (t.length ≤ maxB∧s.length ≤ maxB))
    | _ => none
  | _ => none
theorem conAm_ok:ConOk Tryz.prog conAm := by
  intro k ds S A h
  unfold conAm at h
  split at h
  · split at h
    · injection h with h; subst h
      exact pC_ok fun ⟨h1,h2⟩ => ⟨weakL_refl _,am_ok _ _ h1 h2⟩
    · cases h
  · cases h
noncomputable def Erres:Senv := { EC conAm 9 1 [2] (fun _ => ([],[])) with mg := fun _ => 2 }
theorem rres_ok (s:List UInt8) (hs:s.length ≤ maxB):ACalls Tryz.prog 92 [.str s] ⟨[],[]⟩ (SpecR (sC [.str s] (.bool (resB s))) ()) := by
  refine con_of (A := sC _ _) (x := ()) (E := Erres) (eOk conAm_ok rfl) Tryz.func92 rfl (by kernel_rfl) rfl (by simp [sC,Erres,EC,E0]) ?_
  refine vc_eq (T :=
    ((298:Nat) ≤ (8589934592:Nat)∧LN s ≤ (8589934592:Nat))∧∀ (y:Unit),True→ifB (amongT [(32:UInt8),(88:UInt8),(32:UInt8),(89:UInt8),(32:UInt8),(70:UInt8),(32:UInt8),(71:UInt8),(32:UInt8),(115:UInt8),(101:UInt8),(108:UInt8),(102:UInt8),(32:UInt8),(97:UInt8),(114:UInt8),(103:UInt8),(32:UInt8),(109:UInt8),(105:UInt8),(110:UInt8),(32:UInt8),(109:UInt8),(97:UInt8),(120:UInt8),(32:UInt8),(97:UInt8),(110:UInt8),(100:UInt8),(32:UInt8),(111:UInt8),(114:UInt8),(32:UInt8),(110:UInt8),(111:UInt8),(116:UInt8),(32:UInt8),(115:UInt8),(104:UInt8),(97:UInt8),(112:UInt8),(101:UInt8),(32:UInt8),(114:UInt8),(101:UInt8),(115:UInt8),(104:UInt8),(97:UInt8),(112:UInt8),(101:UInt8),(32:UInt8),(116:UInt8),(97:UInt8),(108:UInt8),(108:UInt8),(121:UInt8),(32:UInt8),(100:UInt8),(101:UInt8),(112:UInt8),(116:UInt8),(104:UInt8),(32:UInt8),(115:UInt8),(116:UInt8),(97:UInt8),(99:UInt8),(107:UInt8),(32:UInt8),(105:UInt8),(111:UInt8),(116:UInt8),(97:UInt8),(32:UInt8),(116:UInt8),(97:UInt8),(107:UInt8),(101:UInt8),(32:UInt8),(100:UInt8),(114:UInt8),(111:UInt8),(112:UInt8),(32:UInt8),(102:UInt8),(105:UInt8),(114:UInt8),(115:UInt8),(116:UInt8),(32:UInt8),(114:UInt8),(101:UInt8),(118:UInt8),(101:UInt8),(114:UInt8),(115:UInt8),(101:UInt8),(32:UInt8),(114:UInt8),(111:UInt8),(116:UInt8),(97:UInt8),(116:UInt8),(101:UInt8),(32:UInt8),(116:UInt8),(114:UInt8),(97:UInt8),(110:UInt8),(115:UInt8),(112:UInt8),(111:UInt8),(115:UInt8),(101:UInt8),(32:UInt8),(102:UInt8),(114:UInt8),(111:UInt8),(109:UInt8),(32:UInt8),(112:UInt8),(105:UInt8),(99:UInt8),(107:UInt8),(32:UInt8),(115:UInt8),(101:UInt8),(108:UInt8),(101:UInt8),(99:UInt8),(116:UInt8),(32:UInt8),(97:UInt8),(109:UInt8),(101:UInt8),(110:UInt8),(100:UInt8),(32:UInt8),(117:UInt8),(112:UInt8),(32:UInt8),(100:UInt8),(111:UInt8),(119:UInt8),(110:UInt8),(32:UInt8),(115:UInt8),(111:UInt8),(114:UInt8),(116:UInt8),(32:UInt8),(102:UInt8),(105:UInt8),(110:UInt8),(100:UInt8),(32:UInt8),(105:UInt8),(110:UInt8),(32:UInt8),(117:UInt8),(110:UInt8),(105:UInt8),(113:UInt8),(117:UInt8),(101:UInt8),(32:UInt8),(119:UInt8),(104:UInt8),(101:UInt8),(114:UInt8),(101:UInt8),(32:UInt8),(99:UInt8),(111:UInt8),(112:UInt8),(121:UInt8),(32:UInt8),(101:UInt8),(120:UInt8),(112:UInt8),(97:UInt8),(110:UInt8),(100:UInt8),(32:UInt8),(99:UInt8),(117:UInt8),(116:UInt8),(32:UInt8),(101:UInt8),(110:UInt8),(99:UInt8),(111:UInt8),(100:UInt8),(101:UInt8),(32:UInt8),(100:UInt8),(101:UInt8),(99:UInt8),(111:UInt8),(100:UInt8),(101:UInt8),(32:UInt8),(98:UInt8),(111:UInt8),(120:UInt8),(32:UInt8),(111:UInt8),(112:UInt8),(101:UInt8),(110:UInt8),(32:UInt8),(115:UInt8),(97:UInt8),(109:UInt8),(101:UInt8),(32:UInt8),(107:UInt8),(105:UInt8),(110:UInt8),(100:UInt8),(32:UInt8),(111:UInt8),(114:UInt8),(100:UInt8),(32:UInt8),(99:UInt8),(104:UInt8),(114:UInt8),(32:UInt8),(102:UInt8),(111:UInt8),(114:UInt8),(109:UInt8),(97:UInt8),(116:UInt8),(32:UInt8),(108:UInt8),(101:UInt8),(102:UInt8),(116:UInt8),(32:UInt8),(114:UInt8),(105:UInt8),(103:UInt8),(104:UInt8),(116:UInt8),(32:UInt8),(101:UInt8),(97:UInt8),(99:UInt8),(104:UInt8),(32:UInt8),(115:UInt8),(119:UInt8),(97:UInt8),(112:UInt8),(32:UInt8),(111:UInt8),(117:UInt8),(116:UInt8),(101:UInt8),(114:UInt8),(32:UInt8),(105:UInt8),(110:UInt8),(110:UInt8),(101:UInt8),(114:UInt8),(32:UInt8),(114:UInt8),(97:UInt8),(110:UInt8),(107:UInt8),(32:UInt8),(112:UInt8),(111:UInt8),(119:UInt8),(101:UInt8),(114:UInt8),(32:UInt8),(115:UInt8),(116:UInt8),(101:UInt8),(110:UInt8),(99:UInt8),(105:UInt8),(108:UInt8),(32:UInt8),(97:UInt8),(116:UInt8),(111:UInt8),(112:UInt8),(32:UInt8),(111:UInt8),(118:UInt8),(101:UInt8),(114:UInt8),(32:UInt8)] s) (True∧∃ (y:Unit),True∧true = resB s∧True∧True) (((34:Nat) ≤ (8589934592:Nat)∧LN s ≤ (8589934592:Nat))∧∀ (y:Unit),True→True∧∃ (y:Unit),True∧amongT [(32:UInt8),(43:UInt8),(32:UInt8),(45:UInt8),(32:UInt8),(42:UInt8),(32:UInt8),(37:UInt8),(32:UInt8),(124:UInt8),(32:UInt8),(94:UInt8),(32:UInt8),(60:UInt8),(32:UInt8),(60:UInt8),(61:UInt8),(32:UInt8),(61:UInt8),(32:UInt8),(126:UInt8),(61:UInt8),(32:UInt8),(62:UInt8),(61:UInt8),(32:UInt8),(62:UInt8),(32:UInt8),(44:UInt8),(32:UInt8),(47:UInt8),(32:UInt8),(92:UInt8),(32:UInt8)] s = resB s∧True∧True)) (by kernel_rfl) ?_
  delta LN
  simp only [ifB_iff,true_and,and_true,exists_const,forall_const]
  generalize hA:amongT _ s = a
  generalize hB:amongT _ s = b
  have ea:a = resL.contains s := by
    rw [← hA,← among_words s]
    congr 1
  have eb:b = sgnL.contains s := by
    rw [← hB,← among_names s]
    congr 1
  subst ea eb
  unfold maxB at hs
  refine ⟨⟨by decide,hs⟩,fun h => ?_,fun h => ⟨⟨by decide,hs⟩,?_⟩⟩
  · unfold resB; rw [h]; rfl
  · unfold resB; rw [h]; rfl
end Go.Proofs.YtjnifeedbgefpaaGreatDoor
namespace Go.Proofs.YtjnifeedbgefpaaGreatDoor
open Go Go.Ab
set_option maxRecDepth 100000
def ownL : List (List UInt8) := ["X", "Y", "F", "G", "self", "arg"].map asc ++ (primL.drop 1 ++ opL.drop 1)
theorem own_res (s:List UInt8):resB s = ownL.contains s := by
  have h1:∀ x ∈ resL ++ sgnL,ownL.contains x = true := by decide +kernel
  have h2:∀ x ∈ ownL,(resL ++ sgnL).contains x = true := by decide +kernel
  unfold resB
  rw [← List.contains_append]
  cases h:(resL ++ sgnL).contains s with
  | true => exact (h1 s (by simpa using h)).symm
  | false =>
    cases h':ownL.contains s with
    | true => rw [h2 s (by simpa using h')] at h; cases h
    | false => rfl
theorem primT_mem (s:List UInt8):s ∈ primL.drop 1↔∃ q:Nat,1 ≤ q∧q < 56∧primT q = s := by
  have e:∀ q,1 ≤ q→q < 56→primT ((q:Nat):Int) = (primL.drop 1).getD (q - 1) [] := fun q h1 h2 => by
    unfold primT
    rw [if_neg (by omega),Int.toNat_natCast]
    simp [List.getD_eq_getElem?_getD,show q - 1 + 1 = q by omega]
  have hl:(primL.drop 1).length = 55 := by decide +kernel
  constructor
  · intro h
    obtain ⟨i,hi,rfl⟩ := List.getElem_of_mem h
    exact ⟨i + 1,by omega,by omega,by rw [e _ (by omega) (by omega)]; simp only [Nat.add_sub_cancel]; simp only [List.getD_eq_getElem?_getD,List.getElem?_eq_getElem hi,Option.getD_some]⟩
  · rintro ⟨q,h1,h2,rfl⟩
    rw [e q h1 h2]
    have:q - 1 < (primL.drop 1).length := by omega
    rw [List.getD_eq_getElem?_getD,List.getElem?_eq_getElem this]
    exact List.getElem_mem this
theorem opT_mem (s:List UInt8):s ∈ opL.drop 1↔∃ q:Nat,1 ≤ q∧q < 12∧opT q = s := by
  have e:∀ q,1 ≤ q→q < 12→opT ((q:Nat):Int) = (opL.drop 1).getD (q - 1) [] := fun q h1 h2 => by
    unfold opT
    rw [if_neg (by omega),Int.toNat_natCast]
    simp [List.getD_eq_getElem?_getD,show q - 1 + 1 = q by omega]
  have hl:(opL.drop 1).length = 11 := by decide +kernel
  constructor
  · intro h
    obtain ⟨i,hi,rfl⟩ := List.getElem_of_mem h
    exact ⟨i + 1,by omega,by omega,by rw [e _ (by omega) (by omega)]; simp only [Nat.add_sub_cancel]; simp only [List.getD_eq_getElem?_getD,List.getElem?_eq_getElem hi,Option.getD_some]⟩
  · rintro ⟨q,h1,h2,rfl⟩
    rw [e q h1 h2]
    have:q - 1 < (opL.drop 1).length := by omega
    rw [List.getD_eq_getElem?_getD,List.getElem?_eq_getElem this]
    exact List.getElem_mem this
theorem name_iff (s : List UInt8) (h32 : s.length ≤ 32) (hp : plainB s = true) : nameB s = true ↔ (s ≠ asc "self" ∧ s ≠ asc "arg" ∧ (∀ q : Nat, 1 ≤ q → q < 56 → primT q ≠ s) ∧ ∀ q : Nat, 1 ≤ q → q < 12 → opT q ≠ s) := by
  have hx : ∀ x ∈ ["X", "Y", "F", "G"].map asc, plainB x = false := by decide +kernel
  unfold nameB
  rw [hp,decide_eq_true h32,own_res]
  have hs : s ∈ ownL ↔ (s = asc "self" ∨ s = asc "arg" ∨ s ∈ primL.drop 1 ∨ s ∈ opL.drop 1) := by
    unfold ownL
    rw [List.mem_append,List.mem_append]
    constructor
    · rintro (h | h)
      · simp only [List.map_cons,List.map_nil,List.mem_cons,List.not_mem_nil,or_false] at h
        rcases h with h | h | h | h | h | h
        · rw [hx s (by rw [h]; simp)] at hp; cases hp
        · rw [hx s (by rw [h]; simp)] at hp; cases hp
        · rw [hx s (by rw [h]; simp)] at hp; cases hp
        · rw [hx s (by rw [h]; simp)] at hp; cases hp
        · exact .inl h
        · exact .inr (.inl h)
      · exact .inr (.inr h)
    · rintro (h | h | h)
      · rw [h]; exact .inl (by simp)
      · rw [h]; exact .inl (by simp)
      · exact .inr h
  rw [primT_mem,opT_mem] at hs
  simp only [Bool.true_and,Bool.not_eq_true',List.contains_eq_mem,decide_eq_false_iff_not]
  rw [hs]
  constructor
  · intro h
    exact ⟨fun e => h (.inl e),fun e => h (.inr (.inl e)),fun q h1 h2 e => h (.inr (.inr (.inl ⟨q,h1,h2,e⟩))),fun q h1 h2 e => h (.inr (.inr (.inr ⟨q,h1,h2,e⟩)))⟩
  · rintro ⟨h1,h2,h3,h4⟩ (h | h | ⟨q,q1,q2,q3⟩ | ⟨q,q1,q2,q3⟩)
    · exact h1 h
    · exact h2 h
    · exact h3 q q1 q2 q3
    · exact h4 q q1 q2 q3
def conNn:Con := fun k ds _ => match k with
  | 64 => match ds with
    | [.int .i64 p] => some (pC [.int .i64 p] (.str (primT p)) True)
    | _ => none
  | 65 => match ds with
    | [.int .i64 p] => some (pC [.int .i64 p] (.str (opT p)) True)
    | _ => none
  | 92 => match ds with
    | [.str s] => some (pC [.str s] (.bool (resB s)) (s.length ≤ maxB))
    | _ => none
  | _ => none
theorem conNn_ok:ConOk Tryz.prog conNn := by
  intro k ds S A h
  unfold conNn at h
  split at h
  · split at h
    · injection h with h; subst h
      exact pC_ok fun _ => ⟨weakL_refl _,pn_ok _⟩
    · cases h
  · split at h
    · injection h with h; subst h
      exact pC_ok fun _ => ⟨weakL_refl _,on_ok _⟩
    · cases h
  · split at h
    · injection h with h; subst h
      exact pC_ok fun h1 => ⟨weakL_refl _,rres_ok _ h1⟩
    · cases h
  · cases h
def chrN (b:UInt8):Bool := low b || dig b
theorem chrN_iff (b:UInt8):chrN b = true↔((97 ≤ b.toNat∧b.toNat ≤ 122)∨(48 ≤ b.toNat∧b.toNat ≤ 57)) := by
  unfold chrN low dig
  simp only [Bool.or_eq_true,Bool.and_eq_true,decide_eq_true_eq]
theorem plainB_iff (s:List UInt8):plainB s = true↔s ≠ []∧low (s.getD 0 0) = true∧s.all chrN = true := by
  unfold plainB
  simp only [Bool.and_eq_true,Bool.not_eq_true',List.isEmpty_eq_false_iff,and_assoc]
  exact Iff.rfl
theorem all_chr {s:List UInt8} (h:s.all chrN = true) {i:Nat} (hi:i < s.length):chrN (s.getD i 0) = true := by
  rw [List.getD_eq_getElem?_getD,List.getElem?_eq_getElem hi]
  exact List.all_eq_true.1 h _ (List.getElem_mem hi)
theorem take_chr {s:List UInt8} {x:Nat} (hx:x < s.length) (h1:(s.take x).all chrN = true) (h2:chrN (s.getD x 0) = true):(s.take (x + 1)).all chrN = true := by
  have e:s.take (x + 1) = s.take x ++ [s.getD x 0] := by
    rw [List.take_add_one,List.getElem?_eq_getElem hx,List.getD_eq_getElem?_getD,List.getElem?_eq_getElem hx]; rfl
  rw [e,List.all_append,h1,List.all_cons,h2]; rfl
theorem name_facts {s:List UInt8} (h:nameB s = true):s ≠ []∧s.length ≤ 32∧s ≠ [115,101,108,102]∧s ≠ [97,114,103]∧(97 ≤ (s.getD 0 0).toNat∧(s.getD 0 0).toNat ≤ 122)∧(∀ i,i < s.length→((97 ≤ (s.getD i 0).toNat∧(s.getD i 0).toNat ≤ 122)∨(48 ≤ (s.getD i 0).toNat∧(s.getD i 0).toNat ≤ 57)))∧(∀ q:Nat,1 ≤ q→q < 56→primT q ≠ s)∧∀ q:Nat,1 ≤ q→q < 12→opT q ≠ s := by
  have h0 := h
  unfold nameB at h
  simp only [Bool.and_eq_true,decide_eq_true_eq] at h
  obtain ⟨⟨hp,h32⟩,_⟩ := h
  obtain ⟨h1,h2,h3,h4⟩ := (name_iff s h32 hp).1 h0
  obtain ⟨p1,p2,p3⟩ := (plainB_iff s).1 hp
  have e1 : asc "self" = [115, 101, 108, 102] := by decide +kernel
  have e2 : asc "arg" = [97, 114, 103] := by decide +kernel
  rw [e1] at h1
  rw [e2] at h2
  unfold low at p2
  simp only [Bool.and_eq_true,decide_eq_true_eq] at p2
  exact ⟨p1,h32,h1,h2,p2,fun i hi => (chrN_iff _).1 (all_chr p3 hi),h3,h4⟩
theorem name_yes {s:List UInt8} (h1:s ≠ []) (h2:s.length ≤ 32) (h3:s ≠ [115,101,108,102]) (h4:s ≠ [97,114,103]) (h5:97 ≤ (s.getD 0 0).toNat∧(s.getD 0 0).toNat ≤ 122) (h6:s.all chrN = true) (h7:∀ q:Nat,1 ≤ q→q < 56→primT q ≠ s) (h8:∀ q:Nat,1 ≤ q→q < 12→opT q ≠ s):nameB s = true := by
  have e1 : asc "self" = [115, 101, 108, 102] := by decide +kernel
  have e2 : asc "arg" = [97, 114, 103] := by decide +kernel
  refine (name_iff s h2 ((plainB_iff s).2 ⟨h1,?_,h6⟩)).2 ⟨by rw [e1]; exact h3,by rw [e2]; exact h4,h7,h8⟩
  unfold low
  simp only [Bool.and_eq_true,decide_eq_true_eq]
  exact h5
theorem name_not {s:List UInt8} (h:nameB s = true→False):false = nameB s := by
  cases e:nameB s with
  | false => rfl
  | true => exact (h e).elim
noncomputable def Ein (s:List UInt8):Senv := { EC conNn 75 1 [2,3,4,5,30,32,33,34,57,60,66,68,74] (fun _ => ([],[])) with
  mg := fun _ => 2
  ann := fun b _ S => match b with
    | 0 => some { slots := [33],keep := [0,32],α := Nat,st := fun y => ([.int .i64 y],S),inv := fun y => y ≤ s.length∧(s.take y).all chrN = true,mu := fun y => s.length - y }
    | 2 => some { slots := [4],keep := [0],α := Nat,st := fun y => ([.int .i64 y],S),inv := fun y => 1 ≤ y∧y ≤ 56∧∀ q:Nat,1 ≤ q→q < y→primT q ≠ s,mu := fun y => 56 - y }
    | 4 => some { slots := [5],keep := [0],α := Nat,st := fun y => ([.int .i64 y],S),inv := fun y => 1 ≤ y∧y ≤ 12∧∀ q:Nat,1 ≤ q→q < y→opT q ≠ s,mu := fun y => 12 - y }
    | _ => none }
noncomputable section
def ya2q0 (p0:List UInt8):Prop := True∧∃ (_y:Unit),True∧false = nameB p0∧True∧True
def ya2q1 (p0:Nat) (p1:List UInt8):Prop := p0 ≤ LN p1∧List.all (List.take p0 p1) chrN = true
def ya2q2 (p0:List UInt8) (p1:Nat):Int := (BI p0 (Int.toNat (↑p1:Int)))
def ya2q3 (p0 p1:Nat):Prop := (IntKind.wrap IntKind.i64 ((↑p0:Int) + Z1) = (↑p1:Int)∧True)∧True∧True
def ya2q4 (p0:List UInt8) (p1:Nat):Prop := (SM (D.str p0)∧SM (ZI (LI p0))∧True)∧∃ (y:Nat),ya2q1 y p0∧LN p0 - y < LN p0 - p1∧ya2q3 p1 y
def ya2q5 (p0:Nat) (p1:List UInt8):Prop := side (Z0 ≤ (↑p0:Int)∧(↑p0:Int) < (LI p1)) (ifB (decide (ya2q2 p1 p0 < (48:Int))) (ya2q0 p1) (side (Z0 ≤ (↑p0:Int)∧(↑p0:Int) < (LI p1)) (ifB (decide ((57:Int) < ya2q2 p1 p0)) (ya2q0 p1) (ya2q4 p1 p0))))
def ya2q6 (p0:Nat) (p1:List UInt8):Prop := N1 ≤ p0∧p0 ≤ (56:Nat)∧∀ (q:Nat),N1 ≤ q→q < p0→primT (↑q:Int) ≠ p1
def ya2q7 (p0:Nat) (p1:List UInt8):Prop := N1 ≤ p0∧p0 ≤ (12:Nat)∧∀ (q:Nat),N1 ≤ q→q < p0→opT (↑q:Int) ≠ p1
end
theorem in_ok (s:List UInt8):ACalls Tryz.prog 57 [.str s] ⟨[],[]⟩ (SpecR (sC [.str s] (.bool (nameB s))) ()) := by
  refine con_of (A := sC _ _) (x := ()) (E := Ein s) (eOk conNn_ok rfl) Tryz.func57 rfl (by kernel_rfl) rfl (by simp [sC,Ein,EC,E0]) ?_
  refine vc_eq (T :=
    ifB (s == []) (ya2q0 s) (ifB (decide ((32:Int) < (LI s))) (ya2q0 s) (ifB (s == [(115:UInt8),(101:UInt8),(108:UInt8),(102:UInt8)]) (ya2q0 s) (ifB (s == [(97:UInt8),(114:UInt8),(103:UInt8)]) (ya2q0 s) (side (Z0 ≤ Z0∧Z0 < (LI s)) (ifB (decide ((BI s N0) < (97:Int))) (ya2q0 s) (side (Z0 ≤ Z0∧Z0 < (LI s)) (ifB (decide ((122:Int) < (BI s N0))) (ya2q0 s) ((∃ (x:Nat),ya2q1 x s∧(Z0 = (↑x:Int)∧True)∧True∧True)∧∀ (x:Nat),ya2q1 x s→ifB (decide ((↑x:Int) < (LI s))) (side (Z0 ≤ (↑x:Int)∧(↑x:Int) < (LI s)) (ifB (decide (ya2q2 s x < (97:Int))) (ya2q5 x s) (side (Z0 ≤ (↑x:Int)∧(↑x:Int) < (LI s)) (ifB (decide ((122:Int) < ya2q2 s x)) (ya2q5 x s) (ya2q4 s x))))) ((∃ (x:Nat),ya2q6 x s∧(Z1 = (↑x:Int)∧True)∧True∧True)∧∀ (x:Nat),ya2q6 x s→ifB (decide ((↑x:Int) ≤ (55:Int))) (True∧∀ (y:Unit),True→ifB (primT (↑x:Int) == s) (ya2q0 s) ((SM (D.str s)∧True)∧∃ (y:Nat),ya2q6 y s∧(56:Nat) - y < (56:Nat) - x∧ya2q3 x y)) ((∃ (x:Nat),ya2q7 x s∧(Z1 = (↑x:Int)∧True)∧True∧True)∧∀ (x:Nat),ya2q7 x s→ifB (decide ((↑x:Int) ≤ (11:Int))) (True∧∀ (y:Unit),True→ifB (opT (↑x:Int) == s) (ya2q0 s) ((SM (D.str s)∧True)∧∃ (y:Nat),ya2q7 y s∧(12:Nat) - y < (12:Nat) - x∧ya2q3 x y)) (True∧∃ (y:Unit),True∧true = nameB s∧True∧True)))))))))))) (by kernel_rfl) ?_
  delta BI LI LN N0 N1 SM U0 Z0 Z1 ZI ya2q0 ya2q1 ya2q2 ya2q3 ya2q4 ya2q5 ya2q6 ya2q7
  simp only [eq_self,ne_eq,Int.toNat_natCast,ifB_iff,side_iff,decide_eq_true_eq,decide_eq_false_iff_not,true_and,and_true,beq_iff_eq,beq_eq_false_iff_ne,exists_const,forall_const]
  refine ⟨fun h => name_not fun e => (name_facts e).1 h,fun k1 => ⟨fun h => name_not fun e => by have := (name_facts e).2.1; omega,fun k2 => ⟨fun h => name_not fun e => (name_facts e).2.2.1 h,fun k3 => ⟨fun h => name_not fun e => (name_facts e).2.2.2.1 h,fun k4 => ?_⟩⟩⟩⟩
  have hl:0 < s.length := List.length_pos_iff.2 k1
  refine ⟨⟨by omega,by omega⟩,fun h => name_not fun e => by have := (name_facts e).2.2.2.2.1; omega,fun k5 => ⟨⟨by omega,by omega⟩,fun h => name_not fun e => by have := (name_facts e).2.2.2.2.1; omega,fun k6 => ⟨⟨0,⟨Nat.zero_le _,rfl⟩,rfl⟩,fun x ⟨hx,ht⟩ => ⟨fun hlt => ?_,fun hge => ?_⟩⟩⟩⟩
  · have hx':x < s.length := by omega
    have w:IntKind.i64.wrap ((x:Int) + 1) = ((x + 1:Nat):Int) := by rw [wrap_i64' (by omega) (by omega)]; rfl
    have go:((97 ≤ (s.getD x 0).toNat∧(s.getD x 0).toNat ≤ 122)∨(48 ≤ (s.getD x 0).toNat∧(s.getD x 0).toNat ≤ 57))→∃ y,(y ≤ s.length∧(List.take y s).all chrN = true)∧s.length - y < s.length - x∧IntKind.i64.wrap ((x:Int) + 1) = (y:Int) := fun hc =>
      ⟨x + 1,⟨hx',take_chr hx' ht ((chrN_iff _).2 hc)⟩,by omega,w⟩
    have no:¬ ((97 ≤ (s.getD x 0).toNat∧(s.getD x 0).toNat ≤ 122)∨(48 ≤ (s.getD x 0).toNat∧(s.getD x 0).toNat ≤ 57))→false = nameB s := fun hc => name_not fun e => hc ((name_facts e).2.2.2.2.2.1 x hx')
    exact ⟨⟨by omega,by omega⟩,fun a1 => ⟨⟨by omega,by omega⟩,fun a2 => no (by omega),fun a2 => ⟨⟨by omega,by omega⟩,fun a3 => no (by omega),fun a3 => go (by omega)⟩⟩,
      fun a1 => ⟨⟨by omega,by omega⟩,fun a2 => ⟨⟨by omega,by omega⟩,fun a3 => no (by omega),fun a3 => ⟨⟨by omega,by omega⟩,fun a4 => no (by omega),fun a4 => go (by omega)⟩⟩,fun a2 => go (by omega)⟩⟩
  · have hall:s.all chrN = true := by
      have:x = s.length := by omega
      rwa [this,List.take_length] at ht
    refine ⟨⟨1,⟨Nat.le_refl _,by omega,fun q h1 h2 => by omega⟩,rfl⟩,fun y ⟨y1,y2,y3⟩ => ⟨fun hy => ⟨fun e => name_not fun e' => (name_facts e').2.2.2.2.2.2.1 y y1 (by omega) e,fun e => ⟨y + 1,⟨by omega,by omega,fun q h1 h2 => ?_⟩,by omega,by rw [wrap_i64' (by omega) (by omega)]; rfl⟩⟩,
      fun hy => ⟨⟨1,⟨Nat.le_refl _,by omega,fun q h1 h2 => by omega⟩,rfl⟩,fun z ⟨z1,z2,z3⟩ => ⟨fun hz => ⟨fun e => name_not fun e' => (name_facts e').2.2.2.2.2.2.2 z z1 (by omega) e,fun e => ⟨z + 1,⟨by omega,by omega,fun q h1 h2 => ?_⟩,by omega,by rw [wrap_i64' (by omega) (by omega)]; rfl⟩⟩,fun hz => ?_⟩⟩⟩⟩
    · by_cases e':q = y
      · rw [e']; exact e
      · exact y3 q h1 (by omega)
    · by_cases e':q = z
      · rw [e']; exact e
      · exact z3 q h1 (by omega)
    · exact (name_yes k1 (by omega) k3 k4 ⟨by omega,by omega⟩ hall (fun q h1 h2 => y3 q h1 (by omega)) fun q h1 h2 => z3 q h1 (by omega)).symm
end Go.Proofs.YtjnifeedbgefpaaGreatDoor
namespace Go.Proofs.YtjnifeedbgefpaaGreatDoor
open Go Go.Ab
set_option maxRecDepth 100000
def zeroD (vk:Int) (sh nu it:Nat):Bool := vk == 0 && (sh == 0) && (nu == 0) && (it == 0)
def onlyD (kd at_:Int) (tx:List UInt8) (pr op vk:Int) (sh nu it bo:Nat) (de sl ss k:Int):Bool :=
  kd == k && decide (0 ≤ at_) && decide (0 ≤ de) && decide (0 ≤ sl) && decide (0 ≤ ss) && (tx.isEmpty || k == 2) && (pr == 0 || k == 9) && (op == 0 || k == 17) && (zeroD vk sh nu it || k == 1) && ((bo == 0) || k == 10)
def emptyD (kd at_ cl:Int) (tx:List UInt8) (pr op vk:Int) (sh nu it ki bo:Nat) (de sl ss:Int):Bool := kd == 0 && at_ == 0 && cl == 0 && de == 0 && sl == 0 && ss == 0 && onlyD kd at_ tx pr op vk sh nu it bo de sl ss 0 && (ki == 0)
theorem len_zero {α:Type} (l:List α):(l.length == 0) = l.isEmpty := by cases l <;> rfl
theorem onlyD_eq (n:Nd) (k:Int):onlyD n.kd n.at_ n.tx n.pr n.op n.va.k n.va.sh.length n.va.nu.length n.va.it.length n.bo.length n.de n.sl n.ss k = onlyB n k := by
  unfold onlyD onlyB zeroD zeroA
  simp [len_zero]
theorem emptyD_eq (n:Nd):emptyD n.kd n.at_ n.cl n.tx n.pr n.op n.va.k n.va.sh.length n.va.nu.length n.va.it.length n.ki.length n.bo.length n.de n.sl n.ss = emptyB n := by
  unfold emptyD emptyB
  rw [onlyD_eq]
  simp [len_zero]
def ndC (kd at_ cl:Int) (tx:List UInt8) (pr op vk:Int) (sh nu it ki bo:Nat) (f1 f2 f3 f4 f5:Nat→List D) (de sl ss:Int):List D :=
  [.int .i64 kd,.int .i64 at_,.int .i64 cl,.str tx,.int .i64 pr,.int .i64 op,.int .i64 vk,.sl 1 sh f1 .any,.sl 1 nu f2 .any,.sl 4 it f3 .any,.sl 15 ki f4 .any,.sl 34 bo f5 .any,.int .i64 de,.int .i64 sl,.int .i64 ss]
noncomputable def Eiz:Senv := EC con0 24 3 [] (fun _ => ([],[]))
noncomputable section
def ya3q0 (p0:Nat):Bool := (↑p0:Int) == Z0
def ya3q1 (p0:Int) (p1 p2 p3:Nat):Bool := bif bif bif p0 == Z0 then ya3q0 p1 else false then ya3q0 p2 else false then ya3q0 p3 else false
def ya3q2 (p0:Int) (p1 p2 p3:Nat):Prop := false = ya3q1 p0 p1 p2 p3∧True
end
theorem iz_ok (vk:Int) (sh nu it:Nat) (f1 f2 f3:Nat→List D):CD 102 [.agg [.int .i64 vk,.sl 1 sh f1 .any,.sl 1 nu f2 .any,.sl 4 it f3 .any]] (.bool (zeroD vk sh nu it)) := by
  refine con_of (A := sC _ _) (x := ()) (E := Eiz) (eOk con0_ok rfl) Tryz.func102 rfl (by kernel_rfl) rfl (by simp [sC,Eiz,EC,E0]) ?_
  refine vc_eq (T :=
    ∀ (x:Nat),True→(SM x∧ifB (vk == Z0) (SM x∧ifB (ya3q0 sh) (SM x∧ifB (ya3q0 nu) (SM x∧ya3q0 it = ya3q1 vk sh nu it∧True) (ya3q2 vk sh nu it)) (ya3q2 vk sh nu it)) (ya3q2 vk sh nu it))∧True∧∃ (y:Unit),True∧ya3q1 vk sh nu it = zeroD vk sh nu it∧True∧True) (by kernel_rfl) ?_
  delta SM Z0 ya3q0 ya3q1 ya3q2
  have z:∀ n:Nat,((n:Int) == 0) = (n == 0) := fun n => by
    rw [Bool.eq_iff_iff,beq_iff_eq,beq_iff_eq]; omega
  simp only [z]
  unfold zeroD
  generalize (vk == 0) = a
  generalize (sh == 0) = b
  generalize (nu == 0) = c
  generalize (it == 0) = d
  intro x _
  cases a <;> cases b <;> cases c <;> cases d <;> simp [ifB_iff]
def conOl:Con := fun k ds _ => match k with
  | 102 => match ds with
    | [.agg [.int .i64 vk,.sl 1 sh _ _,.sl 1 nu _ _,.sl 4 it _ _]] => some (pC ds (.bool (zeroD vk sh nu it)) True)
    | _ => none
  | _ => none
theorem conOl_ok:ConOk Tryz.prog conOl := by
  intro k ds S A h
  unfold conOl at h
  split at h
  · split at h
    · injection h with h; subst h
      rename_i vk sh f1 _ nu f2 _ it f3 _
      exact pC_ok fun _ => ⟨weakL_refl _,sC_weak (us := [.agg [.int .i64 vk,.sl 1 sh f1 .any,.sl 1 nu f2 .any,.sl 4 it f3 .any]]) (by simp [weakL,weakD,chk_iff,weakM,kEq]) (iz_ok _ _ _ _ _ _ _)⟩
    · cases h
  · cases h
noncomputable def Eol:Senv := EC conOl 75 3 [4] (fun _ => ([],[]))
theorem ol_ok (kd at_ cl : Int) (tx : List UInt8) (pr op vk : Int) (sh nu it ki bo : Nat) (f1 f2 f3 f4 f5 : Nat → List D) (de sl ss k : Int) :
    ACalls Tryz.prog 76 [.agg (ndC kd at_ cl tx pr op vk sh nu it ki bo f1 f2 f3 f4 f5 de sl ss),.int .i64 k] ⟨[],[]⟩ (SpecR (sC [.agg (ndC kd at_ cl tx pr op vk sh nu it ki bo f1 f2 f3 f4 f5 de sl ss),.int .i64 k] (.bool (onlyD kd at_ tx pr op vk sh nu it bo de sl ss k))) ()) := by
  refine con_of (A := sC _ _) (x := ()) (E := Eol) (eOk conOl_ok rfl) Tryz.func76 rfl (by kernel_rfl) rfl (by simp [sC,Eol,EC,E0]) ?_
  refine vc_eq (T :=
    ∀ (x:Nat),True→SM x∧ifB (kd == k) (SM x∧ifB (decide (Z0 ≤ at_)) (SM x∧ifB (decide (Z0 ≤ de)) (SM x∧ifB (decide (Z0 ≤ sl)) (SM x∧ifB (decide (Z0 ≤ ss)) (SM x∧ifB (tx == []) (SM x∧ifB (pr == Z0) (SM x∧ifB (op == Z0) (SM x∧True∧∀ (y:Unit),True→ifB (zeroD vk sh nu it) (SM x∧ifB ((↑bo:Int) == Z0) (True∧∃ (y:Unit),True∧true = onlyD kd at_ tx pr op vk sh nu it bo de sl ss k∧True∧True) (True∧∃ (y:Unit),True∧(k == (10:Int)) = onlyD kd at_ tx pr op vk sh nu it bo de sl ss k∧True∧True)) (ifB (k == Z1) (SM x∧ifB ((↑bo:Int) == Z0) (True∧∃ (y:Unit),True∧true = onlyD kd at_ tx pr op vk sh nu it bo de sl ss k∧True∧True) (True∧∃ (y:Unit),True∧(k == (10:Int)) = onlyD kd at_ tx pr op vk sh nu it bo de sl ss k∧True∧True)) (True∧∃ (y:Unit),True∧false = onlyD kd at_ tx pr op vk sh nu it bo de sl ss k∧True∧True))) (ifB (k == (17:Int)) (SM x∧True∧∀ (y:Unit),True→ifB (zeroD vk sh nu it) (SM x∧ifB ((↑bo:Int) == Z0) (True∧∃ (y:Unit),True∧true = onlyD kd at_ tx pr op vk sh nu it bo de sl ss k∧True∧True) (True∧∃ (y:Unit),True∧(k == (10:Int)) = onlyD kd at_ tx pr op vk sh nu it bo de sl ss k∧True∧True)) (ifB (k == Z1) (SM x∧ifB ((↑bo:Int) == Z0) (True∧∃ (y:Unit),True∧true = onlyD kd at_ tx pr op vk sh nu it bo de sl ss k∧True∧True) (True∧∃ (y:Unit),True∧(k == (10:Int)) = onlyD kd at_ tx pr op vk sh nu it bo de sl ss k∧True∧True)) (True∧∃ (y:Unit),True∧false = onlyD kd at_ tx pr op vk sh nu it bo de sl ss k∧True∧True))) (True∧∃ (y:Unit),True∧false = onlyD kd at_ tx pr op vk sh nu it bo de sl ss k∧True∧True))) (ifB (k == (9:Int)) (SM x∧ifB (op == Z0) (SM x∧True∧∀ (y:Unit),True→ifB (zeroD vk sh nu it) (SM x∧ifB ((↑bo:Int) == Z0) (True∧∃ (y:Unit),True∧true = onlyD kd at_ tx pr op vk sh nu it bo de sl ss k∧True∧True) (True∧∃ (y:Unit),True∧(k == (10:Int)) = onlyD kd at_ tx pr op vk sh nu it bo de sl ss k∧True∧True)) (ifB (k == Z1) (SM x∧ifB ((↑bo:Int) == Z0) (True∧∃ (y:Unit),True∧true = onlyD kd at_ tx pr op vk sh nu it bo de sl ss k∧True∧True) (True∧∃ (y:Unit),True∧(k == (10:Int)) = onlyD kd at_ tx pr op vk sh nu it bo de sl ss k∧True∧True)) (True∧∃ (y:Unit),True∧false = onlyD kd at_ tx pr op vk sh nu it bo de sl ss k∧True∧True))) (ifB (k == (17:Int)) (SM x∧True∧∀ (y:Unit),True→ifB (zeroD vk sh nu it) (SM x∧ifB ((↑bo:Int) == Z0) (True∧∃ (y:Unit),True∧true = onlyD kd at_ tx pr op vk sh nu it bo de sl ss k∧True∧True) (True∧∃ (y:Unit),True∧(k == (10:Int)) = onlyD kd at_ tx pr op vk sh nu it bo de sl ss k∧True∧True)) (ifB (k == Z1) (SM x∧ifB ((↑bo:Int) == Z0) (True∧∃ (y:Unit),True∧true = onlyD kd at_ tx pr op vk sh nu it bo de sl ss k∧True∧True) (True∧∃ (y:Unit),True∧(k == (10:Int)) = onlyD kd at_ tx pr op vk sh nu it bo de sl ss k∧True∧True)) (True∧∃ (y:Unit),True∧false = onlyD kd at_ tx pr op vk sh nu it bo de sl ss k∧True∧True))) (True∧∃ (y:Unit),True∧false = onlyD kd at_ tx pr op vk sh nu it bo de sl ss k∧True∧True))) (True∧∃ (y:Unit),True∧false = onlyD kd at_ tx pr op vk sh nu it bo de sl ss k∧True∧True))) (ifB (k == (2:Int)) (SM x∧ifB (pr == Z0) (SM x∧ifB (op == Z0) (SM x∧True∧∀ (y:Unit),True→ifB (zeroD vk sh nu it) (SM x∧ifB ((↑bo:Int) == Z0) (True∧∃ (y:Unit),True∧true = onlyD kd at_ tx pr op vk sh nu it bo de sl ss k∧True∧True) (True∧∃ (y:Unit),True∧(k == (10:Int)) = onlyD kd at_ tx pr op vk sh nu it bo de sl ss k∧True∧True)) (ifB (k == Z1) (SM x∧ifB ((↑bo:Int) == Z0) (True∧∃ (y:Unit),True∧true = onlyD kd at_ tx pr op vk sh nu it bo de sl ss k∧True∧True) (True∧∃ (y:Unit),True∧(k == (10:Int)) = onlyD kd at_ tx pr op vk sh nu it bo de sl ss k∧True∧True)) (True∧∃ (y:Unit),True∧false = onlyD kd at_ tx pr op vk sh nu it bo de sl ss k∧True∧True))) (ifB (k == (17:Int)) (SM x∧True∧∀ (y:Unit),True→ifB (zeroD vk sh nu it) (SM x∧ifB ((↑bo:Int) == Z0) (True∧∃ (y:Unit),True∧true = onlyD kd at_ tx pr op vk sh nu it bo de sl ss k∧True∧True) (True∧∃ (y:Unit),True∧(k == (10:Int)) = onlyD kd at_ tx pr op vk sh nu it bo de sl ss k∧True∧True)) (ifB (k == Z1) (SM x∧ifB ((↑bo:Int) == Z0) (True∧∃ (y:Unit),True∧true = onlyD kd at_ tx pr op vk sh nu it bo de sl ss k∧True∧True) (True∧∃ (y:Unit),True∧(k == (10:Int)) = onlyD kd at_ tx pr op vk sh nu it bo de sl ss k∧True∧True)) (True∧∃ (y:Unit),True∧false = onlyD kd at_ tx pr op vk sh nu it bo de sl ss k∧True∧True))) (True∧∃ (y:Unit),True∧false = onlyD kd at_ tx pr op vk sh nu it bo de sl ss k∧True∧True))) (ifB (k == (9:Int)) (SM x∧ifB (op == Z0) (SM x∧True∧∀ (y:Unit),True→ifB (zeroD vk sh nu it) (SM x∧ifB ((↑bo:Int) == Z0) (True∧∃ (y:Unit),True∧true = onlyD kd at_ tx pr op vk sh nu it bo de sl ss k∧True∧True) (True∧∃ (y:Unit),True∧(k == (10:Int)) = onlyD kd at_ tx pr op vk sh nu it bo de sl ss k∧True∧True)) (ifB (k == Z1) (SM x∧ifB ((↑bo:Int) == Z0) (True∧∃ (y:Unit),True∧true = onlyD kd at_ tx pr op vk sh nu it bo de sl ss k∧True∧True) (True∧∃ (y:Unit),True∧(k == (10:Int)) = onlyD kd at_ tx pr op vk sh nu it bo de sl ss k∧True∧True)) (True∧∃ (y:Unit),True∧false = onlyD kd at_ tx pr op vk sh nu it bo de sl ss k∧True∧True))) (ifB (k == (17:Int)) (SM x∧True∧∀ (y:Unit),True→ifB (zeroD vk sh nu it) (SM x∧ifB ((↑bo:Int) == Z0) (True∧∃ (y:Unit),True∧true = onlyD kd at_ tx pr op vk sh nu it bo de sl ss k∧True∧True) (True∧∃ (y:Unit),True∧(k == (10:Int)) = onlyD kd at_ tx pr op vk sh nu it bo de sl ss k∧True∧True)) (ifB (k == Z1) (SM x∧ifB ((↑bo:Int) == Z0) (True∧∃ (y:Unit),True∧true = onlyD kd at_ tx pr op vk sh nu it bo de sl ss k∧True∧True) (True∧∃ (y:Unit),True∧(k == (10:Int)) = onlyD kd at_ tx pr op vk sh nu it bo de sl ss k∧True∧True)) (True∧∃ (y:Unit),True∧false = onlyD kd at_ tx pr op vk sh nu it bo de sl ss k∧True∧True))) (True∧∃ (y:Unit),True∧false = onlyD kd at_ tx pr op vk sh nu it bo de sl ss k∧True∧True))) (True∧∃ (y:Unit),True∧false = onlyD kd at_ tx pr op vk sh nu it bo de sl ss k∧True∧True))) (True∧∃ (y:Unit),True∧false = onlyD kd at_ tx pr op vk sh nu it bo de sl ss k∧True∧True))) (True∧∃ (y:Unit),True∧false = onlyD kd at_ tx pr op vk sh nu it bo de sl ss k∧True∧True)) (True∧∃ (y:Unit),True∧false = onlyD kd at_ tx pr op vk sh nu it bo de sl ss k∧True∧True)) (True∧∃ (y:Unit),True∧false = onlyD kd at_ tx pr op vk sh nu it bo de sl ss k∧True∧True)) (True∧∃ (y:Unit),True∧false = onlyD kd at_ tx pr op vk sh nu it bo de sl ss k∧True∧True)) (True∧∃ (y:Unit),True∧false = onlyD kd at_ tx pr op vk sh nu it bo de sl ss k∧True∧True)) (by kernel_rfl) ?_
  delta SM Z0 Z1
  have z:∀ n:Nat,((n:Int) == 0) = (n == 0) := fun n => by
    rw [Bool.eq_iff_iff,beq_iff_eq,beq_iff_eq]; omega
  have e:(tx == []) = tx.isEmpty := by cases tx <;> rfl
  unfold onlyD
  simp only [z,e]
  generalize (kd == k) = a1
  generalize decide (0 ≤ at_) = a2
  generalize decide (0 ≤ de) = a3
  generalize decide (0 ≤ sl) = a4
  generalize decide (0 ≤ ss) = a5
  generalize tx.isEmpty = a6
  generalize (k == 2) = a7
  generalize (pr == 0) = a8
  generalize (k == 9) = a9
  generalize (op == 0) = b1
  generalize (k == 17) = b2
  generalize zeroD vk sh nu it = b3
  generalize (k == 1) = b4
  generalize (bo == 0) = b5
  generalize (k == 10) = b6
  simp only [ifB_iff,true_and,and_true,exists_const,forall_const]
  repeat' (first | refine And.intro ?_ ?_ | intro _)
  all_goals subst_vars
  all_goals simp only [Bool.true_and,Bool.and_true,Bool.false_and,Bool.and_false,Bool.true_or,Bool.false_or,Bool.or_true,Bool.or_false]
def conEm:Con := fun k ds S => match k with
  | 76 => match ds with
    | [.agg [.int .i64 kd,.int .i64 at_,.int .i64 _,.str tx,.int .i64 pr,.int .i64 op,.int .i64 vk,.sl 1 sh _ _,.sl 1 nu _ _,.sl 4 it _ _,.sl 15 _ _ _,.sl 34 bo _ _,.int .i64 de,.int .i64 sl,.int .i64 ss],.int .i64 k] => some (pC ds (.bool (onlyD kd at_ tx pr op vk sh nu it bo de sl ss k)) True)
    | _ => none
  | k => conOl k ds S
theorem nd_any (kd at_ cl : Int) (tx : List UInt8) (pr op vk : Int) (sh nu it ki bo : Nat) (f1 f2 f3 f4 f5 : Nat → List D) (m1 m2 m3 m4 m5 : Ab.Mode) (de sl ss : Int) (ex : List D) :
    weakL (.agg [.int .i64 kd,.int .i64 at_,.int .i64 cl,.str tx,.int .i64 pr,.int .i64 op,.int .i64 vk,.sl 1 sh f1 m1,.sl 1 nu f2 m2,.sl 4 it f3 m3,.sl 15 ki f4 m4,.sl 34 bo f5 m5,.int .i64 de,.int .i64 sl,.int .i64 ss] :: ex) (.agg (ndC kd at_ cl tx pr op vk sh nu it ki bo f1 f2 f3 f4 f5 de sl ss) :: ex) := by
  refine ⟨?_,weakL_refl _⟩
  simp [ndC,weakL,weakD,chk_iff,weakM,kEq]
theorem conEm_ok:ConOk Tryz.prog conEm := by
  intro k ds S A h
  unfold conEm at h
  split at h
  · split at h
    · injection h with h; subst h
      exact pC_ok fun _ => ⟨weakL_refl _,sC_weak (nd_any _ _ _ _ _ _ _ _ _ _ _ _ _ _ _ _ _ _ _ _ _ _ _ _ _ _) (ol_ok _ _ _ _ _ _ _ _ _ _ _ _ _ _ _ _ _ _ _ _ _)⟩
    · cases h
  · exact conOl_ok _ _ _ _ h
noncomputable def Eem:Senv := EC conEm 41 3 [] (fun _ => ([],[]))
theorem em_ok (kd at_ cl : Int) (tx : List UInt8) (pr op vk : Int) (sh nu it ki bo : Nat) (f1 f2 f3 f4 f5 : Nat → List D) (de sl ss : Int) :
    ACalls Tryz.prog 56 [.agg (ndC kd at_ cl tx pr op vk sh nu it ki bo f1 f2 f3 f4 f5 de sl ss)] ⟨[],[]⟩ (SpecR (sC [.agg (ndC kd at_ cl tx pr op vk sh nu it ki bo f1 f2 f3 f4 f5 de sl ss)] (.bool (emptyD kd at_ cl tx pr op vk sh nu it ki bo de sl ss))) ()) := by
  refine con_of (A := sC _ _) (x := ()) (E := Eem) (eOk conEm_ok rfl) Tryz.func56 rfl (by kernel_rfl) rfl (by simp [sC,Eem,EC,E0]) ?_
  refine vc_eq (T :=
    ∀ (x:Nat),True→SM x∧ifB (kd == Z0) (SM x∧ifB (at_ == Z0) (SM x∧ifB (cl == Z0) (SM x∧ifB (de == Z0) (SM x∧ifB (sl == Z0) (SM x∧ifB (ss == Z0) (SM x∧True∧∀ (y:Unit),True→ifB (onlyD kd at_ tx pr op vk sh nu it bo de sl ss Z0) (SM x∧True∧∃ (y:Unit),True∧((↑ki:Int) == Z0) = emptyD kd at_ cl tx pr op vk sh nu it ki bo de sl ss∧True∧True) (True∧∃ (y:Unit),True∧false = emptyD kd at_ cl tx pr op vk sh nu it ki bo de sl ss∧True∧True)) (True∧∃ (y:Unit),True∧false = emptyD kd at_ cl tx pr op vk sh nu it ki bo de sl ss∧True∧True)) (True∧∃ (y:Unit),True∧false = emptyD kd at_ cl tx pr op vk sh nu it ki bo de sl ss∧True∧True)) (True∧∃ (y:Unit),True∧false = emptyD kd at_ cl tx pr op vk sh nu it ki bo de sl ss∧True∧True)) (True∧∃ (y:Unit),True∧false = emptyD kd at_ cl tx pr op vk sh nu it ki bo de sl ss∧True∧True)) (True∧∃ (y:Unit),True∧false = emptyD kd at_ cl tx pr op vk sh nu it ki bo de sl ss∧True∧True)) (True∧∃ (y:Unit),True∧false = emptyD kd at_ cl tx pr op vk sh nu it ki bo de sl ss∧True∧True)) (by kernel_rfl) ?_
  delta SM Z0
  have z:∀ n:Nat,((n:Int) == 0) = (n == 0) := fun n => by
    rw [Bool.eq_iff_iff,beq_iff_eq,beq_iff_eq]; omega
  unfold emptyD
  simp only [z]
  generalize (kd == 0) = a1
  generalize (at_ == 0) = a2
  generalize (cl == 0) = a3
  generalize (de == 0) = a4
  generalize (sl == 0) = a5
  generalize (ss == 0) = a6
  generalize (ki == 0) = a8
  generalize onlyD _ _ _ _ _ _ _ _ _ _ _ _ _ _ = a7
  simp only [ifB_iff,true_and,and_true,exists_const,forall_const]
  repeat' (first | refine And.intro ?_ ?_ | intro _)
  all_goals subst_vars
  all_goals simp only [Bool.true_and,Bool.and_true,Bool.false_and,Bool.and_false]
end Go.Proofs.YtjnifeedbgefpaaGreatDoor
namespace Go.Proofs.YtjnifeedbgefpaaGreatDoor
open Go Go.Ab
set_option maxRecDepth 100000
theorem getD_mem' {α:Type} {l:List α} {i:Nat} {d:α} (h:i < l.length):l.getD i d ∈ l := by
  rw [List.getD_eq_getElem?_getD,List.getElem?_eq_getElem h]; exact List.getElem_mem h
noncomputable def sameT {α:Type} (a b:α):Bool := @decide (a = b) (Classical.propDecidable _)
theorem sameT_iff {α:Type} {a b:α}:sameT a b = true↔a = b := by unfold sameT; exact @decide_eq_true_iff _ (Classical.propDecidable _)
theorem sameT_no {α:Type} {a b:α} (h:a ≠ b):false = sameT a b := by
  cases hs:sameT a b with
  | false => rfl
  | true => exact (h (sameT_iff.1 hs)).elim
theorem sameT_yes {α:Type} {a b:α} (h:a = b):true = sameT a b := (sameT_iff.2 h).symm
theorem eq_getD {α:Type} {l m:List α} (d:α) (h:l.length = m.length) (h2:∀ j,j < l.length→l.getD j d = m.getD j d):l = m := by
  apply List.ext_getElem h
  intro i h3 h4
  have := h2 i h3
  simpa [List.getD_eq_getElem?_getD,List.getElem?_eq_getElem h3,List.getElem?_eq_getElem h4] using this
theorem all_step {α:Type} [Inhabited α] {l m:List α} {i:Nat} (h:∀ j,j < i→l.getD j default = m.getD j default) (e:l.getD i default = m.getD i default):∀ j,j < i + 1→l.getD j default = m.getD j default := fun j hj => by
  by_cases q:j = i
  · subst q; exact e
  · exact h j (by omega)
noncomputable def EqI (l m:List Int):Senv := { EC con0 26 2 [4,5,10,12,13,14,24] (fun id => match id with | 6 => ([0,1,2,3,4,5,6,7,8],[]) | _ => ([],[])) with
  ann := fun q _ S => match q with
    | 0 => some { slots := [13],keep := [0,1,11,12],α := Nat,st := fun i => ([.int .i64 i],S),inv := fun i => i ≤ l.length∧∀ j,j < i→l.getD j default = m.getD j default,mu := fun i => l.length - i }
    | _ => none }
noncomputable section
def ysmq0 (p0 p1:List Int):Prop := True∧∃ (y:Unit),True∧false = sameT p0 p1∧True∧True
def ysmq1 (p0:Nat) (p1 p2:List Int):Prop := p0 ≤ LN p1∧∀ (j:Nat),j < p0→GI p1 j = GI p2 j
def ysmq2 (p0:List Int):D := SI p0
def ysmq3 (p0:List Int):Prop := SM (ysmq2 p0)
end
theorem eqI_ok (l m:List Int) (hl:l.length ≤ maxLen) (hm:m.length ≤ maxLen):ACalls Tryz.prog 60 [isl l .any,isl m .any] ⟨[],[]⟩ (SpecR (sC [isl l .any,isl m .any] (.bool (sameT l m))) ()) := by
  refine con_of (A := sC _ _) (x := ()) (E := EqI l m) (eOk con0_ok rfl) Tryz.func60 rfl (by kernel_rfl) rfl (by simp [sC,EqI,EC,E0]) ?_
  refine vc_eq (T :=
    ifB ((LI l) != (LI m)) (ysmq0 l m) ((∃ (x:Nat),ysmq1 x l m∧(Z0 = (↑x:Int)∧True)∧True∧True)∧∀ (x:Nat),ysmq1 x l m→ifB (decide ((↑x:Int) < (LI l))) (side (Z0 ≤ (↑x:Int)∧(↑x:Int) < (LI l)) (side (Z0 ≤ (↑x:Int)∧(↑x:Int) < (LI m)) (ifB (GI l (Int.toNat (↑x:Int)) != GI m (Int.toNat (↑x:Int))) (ysmq0 l m) ((ysmq3 l∧ysmq3 m∧SM D.unk∧SM (ZI (LI l))∧True)∧∃ (y:Nat),ysmq1 y l m∧LN l - y < LN l - x∧(IntKind.wrap IntKind.i64 ((↑x:Int) + Z1) = (↑y:Int)∧True)∧True∧True)))) (True∧∃ (y:Unit),True∧true = sameT l m∧True∧True))) (by kernel_rfl) ?_
  delta GI LI LN N1 SI SM Z0 Z1 ZI ysmq0 ysmq1 ysmq2 ysmq3
  simp only [ifB_iff,side_iff,decide_eq_true_eq,decide_eq_false_iff_not,true_and,and_true,beq_iff_eq,bne_iff_ne,bne_eq_false_iff_eq,ne_eq,exists_const,forall_const,implies_true,Int.toNat_natCast,Bool.not_eq_true',Bool.not_eq_false']
  simp only [maxLen] at hl hm
  refine ⟨fun h => sameT_no fun e => h (by rw [e]),fun he => ⟨⟨0,⟨Nat.zero_le _,fun j hj => absurd hj (by omega)⟩,rfl⟩,fun i hi => ⟨fun hlt => ⟨⟨by omega,by omega⟩,⟨by omega,by omega⟩,fun hn => sameT_no fun e => hn (by rw [e]),fun hn => ⟨i + 1,⟨by omega,all_step hi.2 hn⟩,by omega,wrap_i64' (by omega) (by omega)⟩⟩,fun hge => sameT_yes (eq_getD default (by omega) fun j hj => hi.2 j (by omega))⟩⟩⟩
noncomputable def sPr {α:Type} (row:α→List D) (q:α × α→Prop):FnSpec where
  β := α × α
  α := Unit
  args := fun x => [.agg (row x.1),.agg (row x.2)]
  st := fun _ => ⟨[],[]⟩
  pre := q
  post := fun _ _ => True
  res := fun x _ => .ret (.bool (sameT x.1 x.2))
  out := fun _ _ => ⟨[],[]⟩
theorem sPr_ok {α : Type} {k : Nat} {row : α → List D} {q : α × α → Prop} {ds : List D} {S : St} (h : ∀ x, q x → ACalls Tryz.prog k [.agg (row x.1), .agg (row x.2)] ⟨[], []⟩ (SpecR (sC [.agg (row x.1), .agg (row x.2)] (.bool (sameT x.1 x.2))) ())) :
    (∀ y,(sPr row q).pre y→ACalls Tryz.prog k ((sPr row q).args y) ((sPr row q).st y) (SpecR (sPr row q) y))∧(∀ y,(sPr row q).fit = some y→(sPr row q).pre y→weakL ds ((sPr row q).args y)∧leS ((sPr row q).st y) S)∧((sPr row q).all = true→∀ y,(sPr row q).pre y→weakL ds ((sPr row q).args y)∧(sPr row q).st y = S) :=
  ConOk.plain (fun (x:α × α) hx => (h x hx).mono fun _ _ ⟨y,q1,q2,q3⟩ => ⟨y,q1,q2,q3⟩) rfl rfl
noncomputable def conEA (l m:List Arr):Con := fun k _ _ => match k with
  | 40 => some (sPr Arr.row1 (fun x => x.1 ∈ l∧x.2 ∈ m))
  | _ => none
noncomputable def EeA (l m:List Arr):Senv := { EC (conEA l m) 32 3 [6,7,8,9,14,15,16,17,18,30] (fun _ => ([],[])) with
  ann := fun q _ S => match q with
    | 0 => some { slots := [17],keep := [0,1,2,15,16],α := Nat,st := fun i => ([.int .i64 i],S),inv := fun i => i ≤ l.length∧∀ j,j < i→l.getD j default = m.getD j default,mu := fun i => l.length - i }
    | _ => none }
noncomputable section
def ysmq4 (p0 p1:List Arr):Prop := True∧∃ (y:Unit),True∧false = sameT p0 p1∧True∧True
def ysmq5:Arr := DA
def ysmq6 (p0:List Arr) (p1:Nat):Arr := List.getD p0 p1 ysmq5
def ysmq7 (p0:Nat) (p1 p2:List Arr):Prop := p0 ≤ LN p1∧∀ (j:Nat),j < p0→ysmq6 p1 j = ysmq6 p2 j
def ysmq8 (p0:List Arr) (p1:Nat):Arr := List.getD p0 (Int.toNat (↑p1:Int)) ysmq5
def ysmq9 (p0:List Arr) (p1:Nat):List Int := Arr.sh (ysmq8 p0 p1)
def ysmq10 (p0:List Arr) (p1:Nat):Nat := LN (ysmq9 p0 p1)
def ysmq11 (p0:List Arr) (p1:Nat):List Int := Arr.nu (ysmq8 p0 p1)
def ysmq12 (p0:List Arr) (p1:Nat):Nat := LN (ysmq11 p0 p1)
def ysmq13 (p0:List Arr) (p1:Nat):List Arr := Arr.it (ysmq8 p0 p1)
def ysmq14 (p0:List Arr) (p1:Nat):Nat := LN (ysmq13 p0 p1)
def ysmq15 (p0:List Arr) (p1:Nat) (p2:Arr):Prop := Arr.k (ysmq8 p0 p1) = Arr.k p2∧(ysmq10 p0 p1 = LN (Arr.sh p2)∧(∀ (i:Nat),i < ysmq10 p0 p1→[ZI (GI (ysmq9 p0 p1) i)] = [ZI (GI (Arr.sh p2) i)])∧True)∧(ysmq12 p0 p1 = LN (Arr.nu p2)∧(∀ (i:Nat),i < ysmq12 p0 p1→[ZI (GI (ysmq11 p0 p1) i)] = [ZI (GI (Arr.nu p2) i)])∧True)∧(ysmq14 p0 p1 = LN (Arr.it p2)∧(∀ (i:Nat),i < ysmq14 p0 p1→Arr.row (List.getD (ysmq13 p0 p1) i ysmq5) = Arr.row (List.getD (Arr.it p2) i ysmq5))∧True)∧True
def ysmq16 (p0:List Arr) (p1:Nat):List Int := Arr.sh (ysmq6 p0 p1)
def ysmq17 (p0:List Arr) (p1:Nat):List Int := Arr.nu (ysmq6 p0 p1)
def ysmq18 (p0:List Arr) (p1:Nat):List Arr := Arr.it (ysmq6 p0 p1)
def ysmq19 (p0:List Arr):D := D.sl N4 (LN p0) (fun (i:Nat) => [ZI (Arr.k (ysmq6 p0 i)),SI (ysmq16 p0 i),SI (ysmq17 p0 i),D.sl N4 (LN (ysmq18 p0 i)) (fun (i_1:Nat) => Arr.row (List.getD (ysmq18 p0 i) i_1 ysmq5)) Mode.any]) Mode.any
def ysmq20 (p0:List Arr):Prop := SM (ysmq19 p0)
end
theorem efA_step (l m:List Arr) (hl:l.length ≤ maxLen) (hm:m.length ≤ maxLen) (hc:ConOk Tryz.prog (conEA l m)):ACalls Tryz.prog 61 [gsl 4 Arr.row1 l,gsl 4 Arr.row1 m,.fn (.func 40) [] []] ⟨[],[]⟩ (SpecR (sC [gsl 4 Arr.row1 l,gsl 4 Arr.row1 m,.fn (.func 40) [] []] (.bool (sameT l m))) ()) := by
  refine con_of (A := sC _ _) (x := ()) (E := EeA l m) (eOk hc rfl) Tryz.func61 rfl (by kernel_rfl) rfl (by simp [sC,EeA,EC,E0]) ?_
  refine vc_eq (T :=
    ifB ((LI l) != (LI m)) (ysmq4 l m) ((∃ (x:Nat),ysmq7 x l m∧(Z0 = (↑x:Int)∧True)∧True∧True)∧∀ (x:Nat),ysmq7 x l m→ifB (decide ((↑x:Int) < (LI l))) (side (Z0 ≤ (↑x:Int)∧(↑x:Int) < (LI l)) (∀ (x_1:Nat),True→SM x_1∧side (Z0 ≤ (↑x:Int)∧(↑x:Int) < (LI m)) (∀ (x_2:Nat),x_1 ≠ x_2∧True→SM x_2∧SM x_1∧SM x_2∧∃ (x_3:Arr × Arr),(ysmq15 l x x_3.1∧ysmq15 m x x_3.2∧True)∧(True∧True)∧(x_3.1 ∈ l∧x_3.2 ∈ m)∧∀ (y:Unit),True→ifB (!sameT x_3.1 x_3.2) (ysmq4 l m) ((ysmq20 l∧ysmq20 m∧SM (D.fn (Fn.func (40:Nat)) [] [])∧ysmq20 l∧SM (ZI (LI l))∧True)∧∃ (y:Nat),ysmq7 y l m∧LN l - y < LN l - x∧(IntKind.wrap IntKind.i64 ((↑x:Int) + Z1) = (↑y:Int)∧True)∧True∧True)))) (True∧∃ (y:Unit),True∧true = sameT l m∧True∧True))) (by kernel_rfl) ?_
  delta DA GI LI LN N1 N4 SI SM Z0 Z1 ZI ysmq10 ysmq11 ysmq12 ysmq13 ysmq14 ysmq15 ysmq16 ysmq17 ysmq18 ysmq19 ysmq20 ysmq4 ysmq5 ysmq6 ysmq7 ysmq8 ysmq9
  simp only [ifB_iff,side_iff,decide_eq_true_eq,decide_eq_false_iff_not,true_and,and_true,beq_iff_eq,bne_iff_ne,bne_eq_false_iff_eq,ne_eq,exists_const,forall_const,implies_true,Int.toNat_natCast,Bool.not_eq_true',Bool.not_eq_false',Prod.exists]
  simp only [maxLen] at hl hm
  refine ⟨fun h => sameT_no fun e => h (by rw [e]),fun he => ⟨⟨0,⟨Nat.zero_le _,fun j hj => absurd hj (by omega)⟩,rfl⟩,fun i hi => ⟨fun hlt => ⟨⟨by omega,by omega⟩,fun _ => ⟨⟨by omega,by omega⟩,fun _ _ => ⟨l.getD i default,m.getD i default,?_,⟨getD_mem' (by omega),getD_mem' (by omega)⟩,fun hn => sameT_no fun e => ?_,fun hs => ⟨i + 1,⟨by omega,all_step hi.2 (sameT_iff.1 hs)⟩,by omega,wrap_i64' (by omega) (by omega)⟩⟩⟩⟩,fun hge => sameT_yes (eq_getD default (by omega) fun j hj => hi.2 j (by omega))⟩⟩⟩
  · repeat' (first | rfl | exact fun _ _ => rfl | refine And.intro ?_ ?_)
  · rw [e,sameT_iff.2 rfl] at hn; cases hn
theorem sameT_congr {α β:Type} {a b:α} {c d:β} (h:a = b↔c = d):sameT a b = sameT c d := by
  rw [Bool.eq_iff_iff,sameT_iff,sameT_iff]; exact h
theorem arr_ext {a b:Arr} (h1:a.k = b.k) (h2:a.sh = b.sh) (h3:a.nu = b.nu) (h4:a.it = b.it):a = b := by
  cases a; cases b
  simp only [Arr.k,Arr.sh,Arr.nu,Arr.it] at h1 h2 h3 h4
  rw [h1,h2,h3,h4]
noncomputable def conAs (l m:List Arr):Con := fun k ds _ => match k with
  | 61 => some (pC ds (.bool (sameT l m)) (weakL ds [gsl 4 Arr.row1 l,gsl 4 Arr.row1 m,.fn (.func 40) [] []]))
  | 60 => match ds with
    | [.sl 1 n f _,.sl 1 p g _] => some (pC ds (.bool (sameT (intsD n f) (intsD p g))) ((IntsP n f∧n ≤ maxLen)∧IntsP p g∧p ≤ maxLen))
    | _ => none
  | _ => none
noncomputable def Eas (a b:Arr):Senv := EC (conAs a.it b.it) 31 5 [] (fun _ => ([],[]))
noncomputable section
def ysmq21 (p0:Arr):Nat := LN (Arr.sh p0)
def ysmq22 (p0:Arr) (p1:Nat):List D := [ZI (GI (Arr.sh p0) p1)]
def ysmq23 (p0:Arr):Prop := (IntsP (ysmq21 p0) fun (i:Nat) => ysmq22 p0 i)∧ysmq21 p0 ≤ (9223372036854775807:Nat)
def ysmq24 (p0:Arr):List Int := intsD (ysmq21 p0) fun (i:Nat) => ysmq22 p0 i
def ysmq25 (p0:Arr):Nat := LN (Arr.nu p0)
def ysmq26 (p0:Arr) (p1:Nat):List D := [ZI (GI (Arr.nu p0) p1)]
def ysmq27 (p0:Arr):Prop := (IntsP (ysmq25 p0) fun (i:Nat) => ysmq26 p0 i)∧ysmq25 p0 ≤ (9223372036854775807:Nat)
def ysmq28 (p0:Arr):List Int := intsD (ysmq25 p0) fun (i:Nat) => ysmq26 p0 i
def ysmq29 (p0:Arr):List Arr := Arr.it p0
def ysmq30 (p0:Arr):Nat := LN (ysmq29 p0)
def ysmq31:Arr := DA
def ysmq32 (p0:Arr) (p1:Nat):Arr := List.getD (ysmq29 p0) p1 ysmq31
def ysmq33 (p0:Arr) (p1:Nat):List Int := Arr.sh (ysmq32 p0 p1)
def ysmq34 (p0:Arr) (p1:Nat):List Int := Arr.nu (ysmq32 p0 p1)
def ysmq35 (p0:Arr) (p1:Nat):List Arr := Arr.it (ysmq32 p0 p1)
def ysmq36 (p0:Arr) (p1:Nat):List D := [ZI (Arr.k (ysmq32 p0 p1)),SI (ysmq33 p0 p1),SI (ysmq34 p0 p1),D.sl N4 (LN (ysmq35 p0 p1)) (fun (i:Nat) => Arr.row (List.getD (ysmq35 p0 p1) i ysmq31)) Mode.any]
def ysmq37 (p0:Arr):Prop := SM (ysmq30 p0)∧(∀ (i:Nat),i < ysmq30 p0→SM (ysmq36 p0 i))∧True
def ysmq38 (p0 p1:Arr):Prop := True∧∃ (y:Unit),True∧false = sameT p0 p1∧True∧True
end
theorem as_step (a b : Arr) (ha : a.sh.length ≤ maxLen ∧ a.nu.length ≤ maxLen ∧ a.it.length ≤ maxLen) (hb : b.sh.length ≤ maxLen ∧ b.nu.length ≤ maxLen ∧ b.it.length ≤ maxLen) (hc : ConOk Tryz.prog (conAs a.it b.it)) :
    ACalls Tryz.prog 40 [.agg a.row2,.agg b.row2] ⟨[],[]⟩ (SpecR (sC [.agg a.row2,.agg b.row2] (.bool (sameT a b))) ()) := by
  refine con_of (A := sC _ _) (x := ()) (E := Eas a b) (eOk hc rfl) Tryz.func40 rfl (by kernel_rfl) rfl (by simp [sC,Eas,EC,E0]) ?_
  refine vc_eq (T :=
    ∀ (x:Nat),True→∀ (x_1:Nat),x ≠ x_1∧True→SM x∧SM x_1∧ifB (Arr.k a == Arr.k b) (SM x∧SM x_1∧(ysmq23 a∧ysmq23 b)∧∀ (y:Unit),True→ifB (sameT (ysmq24 a) (ysmq24 b)) (SM x∧SM x_1∧(ysmq27 a∧ysmq27 b)∧∀ (y:Unit),True→ifB (sameT (ysmq28 a) (ysmq28 b)) (SM x∧SM x_1∧(ysmq37 a∧ysmq37 b∧SM (D.fn (Fn.func (40:Nat)) [] [])∧True)∧∀ (y:Unit),True→True∧∃ (y:Unit),True∧sameT (ysmq29 a) (ysmq29 b) = sameT a b∧True∧True) (ysmq38 a b)) (ysmq38 a b)) (ysmq38 a b)) (by kernel_rfl) ?_
  delta DA GI LN N1 N4 SI SM Z0 ZI ysmq21 ysmq22 ysmq23 ysmq24 ysmq25 ysmq26 ysmq27 ysmq28 ysmq29 ysmq30 ysmq31 ysmq32 ysmq33 ysmq34 ysmq35 ysmq36 ysmq37 ysmq38
  simp only [ifB_iff,side_iff,decide_eq_true_eq,decide_eq_false_iff_not,true_and,and_true,beq_iff_eq,bne_iff_ne,bne_eq_false_iff_eq,beq_eq_false_iff_ne,ne_eq,exists_const,forall_const,implies_true,Int.toNat_natCast,Bool.not_eq_true',Bool.not_eq_false',weakL_refl,eq_self,intsD_isl]
  simp only [maxLen] at ha hb
  obtain ⟨a1,a2,a3⟩ := ha
  obtain ⟨b1,b2,b3⟩ := hb
  have no:∀ {α:Type} {x y:α},sameT x y = false→x ≠ y := fun h e => by rw [sameT_iff.2 e] at h; cases h
  exact fun _ _ _ => ⟨fun hk => ⟨⟨⟨intsP_isl _,a1⟩,intsP_isl _,b1⟩,fun hs => ⟨⟨⟨intsP_isl _,a2⟩,intsP_isl _,b2⟩,fun hn => sameT_congr ⟨fun e => arr_ext hk (sameT_iff.1 hs) (sameT_iff.1 hn) e,fun e => by rw [e]⟩,fun hn => sameT_no fun e => no hn (by rw [e])⟩,fun hs => sameT_no fun e => no hs (by rw [e])⟩,fun h => sameT_no fun e => h (by rw [e])⟩
theorem as_row {a b:Arr} {k:Nat} {d:D} (h:ACalls Tryz.prog k [.agg a.row2,.agg b.row2] ⟨[],[]⟩ (SpecR (sC [.agg a.row2,.agg b.row2] d) ())):ACalls Tryz.prog k [.agg a.row1,.agg b.row1] ⟨[],[]⟩ (SpecR (sC [.agg a.row1,.agg b.row1] d) ()) :=
  (h.wkArgs (by simp only [wkL,wkD]; exact ⟨row1_wk _,row1_wk _,trivial⟩)).mono fun _ _ ⟨y,q1,q2,q3⟩ => ⟨y,q1,q2,q3⟩
theorem as_all:∀ (a b:Arr),a.ok→b.ok→ACalls Tryz.prog 40 [.agg a.row2,.agg b.row2] ⟨[],[]⟩ (SpecR (sC [.agg a.row2,.agg b.row2] (.bool (sameT a b))) ())
  | .mk k s n is,.mk k' s' n' is',ha,hb => by
    simp only [Arr.ok] at ha hb
    obtain ⟨_,_,_,a1,a2,a3,a4⟩ := ha
    obtain ⟨_,_,_,b1,b2,b3,b4⟩ := hb
    refine as_step _ _ ⟨a1,a2,a3⟩ ⟨b1,b2,b3⟩ ?_
    intro f ds S A h
    unfold conAs at h
    split at h
    · injection h with h; subst h
      refine pC_ok fun e => ⟨weakL_refl _,sC_weak e (efA_step _ _ a3 b3 ?_)⟩
      intro f ds S A h
      unfold conEA at h
      split at h
      · injection h with h; subst h
        refine sPr_ok fun (x:Arr × Arr) hx => ?_
        obtain ⟨x,y⟩ := x
        have hx1:x ∈ is := hx.1
        have hx2:y ∈ is' := hx.2
        exact as_row (as_all x y ((okL_iff _).1 a4 x hx1) ((okL_iff _).1 b4 y hx2))
      · cases h
    · split at h
      · injection h with h; subst h
        exact pC_ok fun ⟨⟨h1,h2⟩,h3,h4⟩ => ⟨weakL_refl _,sC_weak (us := [isl (intsD _ _) .any,isl (intsD _ _) .any]) ⟨(isl_weak h1).1,(isl_weak h3).1,trivial⟩ (eqI_ok _ _ (by rw [intsD_len]; exact h2) (by rw [intsD_len]; exact h4))⟩
      · cases h
    · cases h
termination_by a => SizeOf.sizeOf a
decreasing_by
  have := List.sizeOf_lt_of_mem hx1
  simp; omega
end Go.Proofs.YtjnifeedbgefpaaGreatDoor
namespace Go.Proofs.YtjnifeedbgefpaaGreatDoor
open Go Go.Ab
set_option maxRecDepth 100000
theorem cls_iff {l:List Nd} {m:List Int}:(l.map Nd.cl == m) = true↔l.length = m.length∧∀ j,j < l.length→(l.getD j default).cl = m.getD j 0 := by
  rw [beq_iff_eq]
  constructor
  · rintro rfl
    refine ⟨by simp,fun j hj => ?_⟩
    simp [List.getD_eq_getElem?_getD,hj]
  · rintro ⟨h1,h2⟩
    apply List.ext_getElem (by simpa using h1)
    intro i h3 h4
    have h3:i < l.length := by simpa using h3
    have := h2 i h3
    simpa [List.getD_eq_getElem?_getD,h3,h4] using this
theorem cls_no {l:List Nd} {m:List Int} (h:¬ (l.length = m.length∧∀ j,j < l.length→(l.getD j default).cl = m.getD j 0)):false = (l.map Nd.cl == m) := by
  cases e:(l.map Nd.cl == m) with
  | false => rfl
  | true => exact (h (cls_iff.1 e)).elim
noncomputable def Eqc (l:List Nd) (m:List Int):Senv := { EC con0 32 3 [6,7,8,9,14,15,16,17,18,30] (fun _ => ([],[])) with
  ann := fun q _ S => match q with
    | 0 => some { slots := [17],keep := [0,1,2,15,16],α := Nat,st := fun i => ([.int .i64 i],S),inv := fun i => i ≤ l.length∧∀ j,j < i→(l.getD j default).cl = m.getD j 0,mu := fun i => l.length - i }
    | _ => none }
noncomputable section
def ya4q0 (p0:List Nd) (p1:List Int):Prop := True∧∃ (y:Unit),True∧false = (List.map Nd.cl p0 == p1)∧True∧True
def ya4q1:Arr := DA
def ya4q2:Nd := Nd.mk Z0 Z0 Z0 [] Z0 Z0 ya4q1 [] [] Z0 Z0 Z0
def ya4q3 (p0:List Nd) (p1:Nat):Nd := List.getD p0 p1 ya4q2
def ya4q4 (p0:List Nd) (p1:Nat):Int := Nd.cl (ya4q3 p0 p1)
def ya4q5 (p0:Nat) (p1:List Nd) (p2:List Int):Prop := p0 ≤ LN p1∧∀ (j:Nat),j < p0→ya4q4 p1 j = GI p2 j
def ya4q6 (p0:List Nd) (p1:Nat):Arr := Nd.va (ya4q3 p0 p1)
def ya4q7 (p0:List Nd) (p1:Nat):List Int := Arr.sh (ya4q6 p0 p1)
def ya4q8 (p0:List Nd) (p1:Nat):List Int := Arr.nu (ya4q6 p0 p1)
def ya4q9 (p0:List Nd) (p1:Nat):List Arr := Arr.it (ya4q6 p0 p1)
def ya4q10 (p0:List Nd) (p1:Nat):List Nd := Nd.ki (ya4q3 p0 p1)
def ya4q11 (p0:List Nd) (p1:Nat):List Sm := Nd.bo (ya4q3 p0 p1)
def ya4q12 (p0:List Nd):D := D.sl (15:Nat) (LN p0) (fun (i:Nat) => [ZI (Nd.kd (ya4q3 p0 i)),ZI (Nd.at_ (ya4q3 p0 i)),ZI (ya4q4 p0 i),D.str (Nd.tx (ya4q3 p0 i)),ZI (Nd.pr (ya4q3 p0 i)),ZI (Nd.op (ya4q3 p0 i)),ZI (Arr.k (ya4q6 p0 i)),SI (ya4q7 p0 i),SI (ya4q8 p0 i),D.sl N4 (LN (ya4q9 p0 i)) (fun (i_1:Nat) => Arr.row (List.getD (ya4q9 p0 i) i_1 ya4q1)) Mode.any,D.sl (15:Nat) (LN (ya4q10 p0 i)) (fun (i_1:Nat) => Nd.row (List.getD (ya4q10 p0 i) i_1 ya4q2)) Mode.any,D.sl (34:Nat) (LN (ya4q11 p0 i)) (fun (i_1:Nat) => Sm.row (List.getD (ya4q11 p0 i) i_1 (Sm.mk Z0 Z0 [] Z0 ya4q2 ya4q2))) Mode.any,ZI (Nd.de (ya4q3 p0 i)),ZI (Nd.sl (ya4q3 p0 i)),ZI (Nd.ss (ya4q3 p0 i))]) Mode.any
def ya4q13 (p0:List Nd):Prop := SM (ya4q12 p0)
def ya4q14 (p0:List Int):D := SI p0
end
theorem eqc_ok (l:List Nd) (m:List Int) (hl:l.length ≤ maxLen) (hm:m.length ≤ maxLen):CD 123 [gsl 15 Nd.row1 l,isl m .any,.fn (.func 124) [] []] (.bool (l.map Nd.cl == m)) := by
  refine con_of (A := sC _ _) (x := ()) (E := Eqc l m) (eOk con0_ok rfl) Tryz.func123 rfl (by kernel_rfl) rfl (by simp [sC,Eqc,EC,E0]) ?_
  refine vc_eq (T :=
    ifB ((LI l) != (LI m)) (ya4q0 l m) ((∃ (x:Nat),ya4q5 x l m∧(Z0 = (↑x:Int)∧True)∧True∧True)∧∀ (x:Nat),ya4q5 x l m→ifB (decide ((↑x:Int) < (LI l))) (side (Z0 ≤ (↑x:Int)∧(↑x:Int) < (LI l)) (∀ (x_1:Nat),True→SM x_1∧side (Z0 ≤ (↑x:Int)∧(↑x:Int) < (LI m)) (SM x_1∧∀ (x_2:Nat),x_1 ≠ x_2∧True→SM x_2∧True∧ifB (!Nd.cl (List.getD l (Int.toNat (↑x:Int)) ya4q2) == GI m (Int.toNat (↑x:Int))) (ya4q0 l m) ((ya4q13 l∧SM (ya4q14 m)∧SM (D.fn (Fn.func (124:Nat)) [] [])∧ya4q13 l∧SM (ZI (LI l))∧True)∧∃ (y:Nat),ya4q5 y l m∧LN l - y < LN l - x∧(IntKind.wrap IntKind.i64 ((↑x:Int) + Z1) = (↑y:Int)∧True)∧True∧True)))) (True∧∃ (y:Unit),True∧true = (List.map Nd.cl l == m)∧True∧True))) (by kernel_rfl) ?_
  delta DA GI LI LN N1 N4 SI SM Z0 Z1 ZI ya4q0 ya4q1 ya4q10 ya4q11 ya4q12 ya4q13 ya4q14 ya4q2 ya4q3 ya4q4 ya4q5 ya4q6 ya4q7 ya4q8 ya4q9
  simp only [eq_self,ne_eq,implies_true,weakL_refl,Int.toNat_natCast,ifB_iff,side_iff,decide_eq_true_eq,decide_eq_false_iff_not,true_and,and_true,beq_iff_eq,bne_iff_ne,bne_eq_false_iff_eq,beq_eq_false_iff_ne,Bool.not_eq_true',Bool.not_eq_false',exists_const,forall_const]
  have dn:(default:Nd) = Nd.mk 0 0 0 [] 0 0 (Arr.mk 0 [] [] []) [] [] 0 0 0 := rfl
  simp only [← dn]
  simp only [maxLen] at hl hm
  refine ⟨fun h => cls_no fun ⟨e,_⟩ => h (by omega),fun he => ⟨⟨0,⟨Nat.zero_le _,fun j hj => by omega⟩,rfl⟩,fun x ⟨x1,hx⟩ => ⟨fun hlt => ⟨⟨by omega,by omega⟩,fun _ => ⟨⟨by omega,by omega⟩,fun _ _ => ⟨fun h => cls_no fun ⟨_,e⟩ => h (e x (by omega)),fun h => ⟨x + 1,⟨by omega,fun j hj => by
      by_cases e:j = x
      · rw [e]; exact h
      · exact hx j (by omega)⟩,by omega,wrap_i64' (by omega) (by omega)⟩⟩⟩⟩,fun hge => (cls_iff.2 ⟨by omega,fun j hj => hx j (by omega)⟩).symm⟩⟩⟩
def conCls (n:Nd):Con := fun k ds S => match k with
  | 123 => match ds with
    | [_,.sl 1 m f _,_] => some (pA ds S (.bool (n.ki.map Nd.cl == intsD m f)) (wkL ds [gsl 15 Nd.row1 n.ki,isl (intsD m f) .any,.fn (.func 124) [] []]∧m ≤ maxLen))
    | _ => none
  | _ => none
theorem conCls_ok {n:Nd} (h:n.ki.length ≤ maxLen):ConOk Tryz.prog (conCls n) := by
  intro k ds S A hh
  unfold conCls at hh
  split at hh
  · split at hh
    · injection hh with hh; subst hh
      exact pA_ok fun ⟨e,hm⟩ => CD.at_ (CD.wk (eqc_ok _ _ h (by rw [intsD_len]; exact hm)) e) _
    · cases hh
  · cases hh
noncomputable def Ecls (n:Nd):Senv := EC (conCls n) 9 3 [4] (fun _ => ([],[]))
noncomputable section
def ya4q71 (p0:Nd):List Nd := Nd.ki p0
def ya4q72 (p0:Nd):D := D.sl (15:Nat) (LN (ya4q71 p0)) (fun (i:Nat) => Nd.row1 (List.getD (ya4q71 p0) i (Nd.mk Z0 Z0 Z0 [] Z0 Z0 DA [] [] Z0 Z0 Z0))) Mode.any
def ya4q73:List D := [D.fn (Fn.func (124:Nat)) [] []]
def ya4q74 (p0:List Int):List Int := intsD (LN p0) fun (i:Nat) => [ZI (GI p0 i)]
end
theorem clss_ok (n:Nd) (m:List Int) (hl:n.ki.length ≤ maxLen) (hm:m.length ≤ maxLen):CD 103 [.agg n.row2,isl m .any] (.bool (classesB n m)) := by
  refine con_of (A := sC _ _) (x := ()) (E := Ecls n) (eOk (conCls_ok hl) rfl) Tryz.func103 rfl (by kernel_rfl) rfl (by simp [sC,Ecls,EC,E0]) ?_
  refine vc_eq (T :=
    ∀ (x:Nat),True→SM x∧∃ (x:Unit),(wkL (ya4q72 n :: SI m :: ya4q73) (ya4q72 n :: SI (ya4q74 m) :: ya4q73)∧LN m ≤ (9223372036854775807:Nat))∧∀ (y:Unit),True→True∧∃ (y:Unit),True∧(List.map Nd.cl (ya4q71 n) == ya4q74 m) = classesB n m∧True∧True) (by kernel_rfl) ?_
  delta DA GI LN N1 SI SM Z0 ZI ya4q71 ya4q72 ya4q73 ya4q74
  simp only [true_and,and_true,exists_const,forall_const,intsD_isl]
  exact ⟨⟨wkL_refl _,hm⟩,rfl⟩
end Go.Proofs.YtjnifeedbgefpaaGreatDoor
namespace Go.Proofs.YtjnifeedbgefpaaGreatDoor
open Go Go.Ab
set_option maxRecDepth 100000
def conLe (n:Nd):Con := fun k ds S => match k with
  | 93 => some (pA ds S (.int .i64 (chkA n.va).1) (wkL ds [.agg n.va.row1]))
  | 57 => some (pA ds S (.bool (nameB n.tx)) (wkL ds [.str n.tx]))
  | 64 => some (pA ds S (.str (primT n.pr)) (wkL ds [.int .i64 n.pr]))
  | 65 => some (pA ds S (.str (opT n.op)) (wkL ds [.int .i64 n.op]))
  | _ => none
theorem conLe_ok {n:Nd} (h:n.va.ok):ConOk Tryz.prog (conLe n) := by
  intro k ds S A hh
  unfold conLe at hh
  split at hh
  · injection hh with hh; subst hh
    exact pA_ok fun e => CD.at_ (CD.wk (ri_ok n.va h) e) _
  · injection hh with hh; subst hh
    exact pA_ok fun e => CD.at_ (CD.wk (in_ok n.tx) e) _
  · injection hh with hh; subst hh
    exact pA_ok fun e => CD.at_ (CD.wk (pn_ok n.pr) e) _
  · injection hh with hh; subst hh
    exact pA_ok fun e => CD.at_ (CD.wk (on_ok n.op) e) _
  · cases hh
noncomputable def Ele (n:Nd):Senv := EC (conLe n) 104 7 [10,12,13,49,64,71,82,89,93] (fun _ => ([],[]))
noncomputable section
def yb6q0 (p0:Nd):Bool := leafB p0
def yb6q1 (p0:Nd):Prop := True∧∃ (_y:Unit),True∧false = yb6q0 p0∧True∧True
def yb6q2 (p0:Nd):Int := Nd.kd p0
def yb6q3 (p0:Nd):Arr := Nd.va p0
def yb6q4 (p0:Nd):List Int := Arr.sh (yb6q3 p0)
def yb6q5 (p0:Nd):Nat := LN (yb6q4 p0)
def yb6q6 (p0:Nd):Int := (NI (yb6q5 p0))
def yb6q7 (p0:Nd):Bool := yb6q6 p0 == Z0
def yb6q8 (p0:Nd):Int := Arr.k (yb6q3 p0)
def yb6q9 (p0:Nd):Bool := yb6q8 p0 != (3:Int)
def yb6q10 (p0:Nd):Bool := bif yb6q7 p0 then yb6q9 p0 else false
def yb6q11 (p0:Nd):Bool := yb6q6 p0 == Z1
def yb6q12 (p0:Nd):Bool := yb6q8 p0 == (2:Int)
def yb6q13 (p0:Nd):Bool := bif yb6q11 p0 then yb6q12 p0 else false
def yb6q14 (p0:Nd):Int := Nd.cl p0
def yb6q15 (p0:Nd):List Int := Arr.nu (yb6q3 p0)
def yb6q16 (p0:Nd):List Arr := Arr.it (yb6q3 p0)
def yb6q17 (p0:Nd):List D := [D.agg [ZI (yb6q8 p0),D.sl N1 (yb6q5 p0) (fun (i:Nat) => [ZI (GI (yb6q4 p0) i)]) Mode.any,SI (yb6q15 p0),D.sl N4 (LN (yb6q16 p0)) (fun (i:Nat) => Arr.row (GA (yb6q16 p0) i)) Mode.any]]
def yb6q18 (p0:Nat) (p1:Nd):Prop := SM p0∧True∧∃ (_y:Unit),True∧(yb6q14 p1 == Z1) = yb6q0 p1∧True∧True
def yb6q19 (p0:Nat) (p1:Nd):Prop := SM p0∧True∧∃ (_y:Unit),True∧(yb6q14 p1 == (2:Int)) = yb6q0 p1∧True∧True
def yb6q20 (p0:Nd):Int := Nd.op p0
def yb6q21 (p0:Nat) (p1:Nd):Prop := SM p0∧∃ (_x:Unit),wkL [ZI (yb6q20 p1)] [ZI (yb6q20 p1)]∧∀ (_y:Unit),True→True∧∃ (_y:Unit),True∧(opT (yb6q20 p1) != []) = yb6q0 p1∧True∧True
def yb6q22 (p0:Nd) (p1:Nat):Prop := ifB (yb6q2 p0 == (17:Int)) (SM p1∧ifB (decide (yb6q20 p0 ≤ (5:Int))) (SM p1∧ifB (yb6q14 p0 == (3:Int)) (yb6q21 p1 p0) (yb6q1 p0)) (SM p1∧ifB (yb6q14 p0 == (4:Int)) (yb6q21 p1 p0) (yb6q1 p0))) (yb6q1 p0)
def yb6q23 (p0:Nd) (p1:Nat):Prop := ifB (yb6q2 p0 == (9:Int)) (SM p1∧ifB (yb6q14 p0 == (2:Int)) (SM p1∧∃ (_x:Unit),wkL [ZI (Nd.pr p0)] [ZI (Nd.pr p0)]∧∀ (_y:Unit),True→True∧∃ (_y:Unit),True∧(primT (Nd.pr p0) != []) = yb6q0 p0∧True∧True) (yb6q1 p0)) (ifB (yb6q2 p0 == (11:Int)) (ifB (yb6q2 p0 == (11:Int)) (yb6q19 p1 p0) (yb6q22 p0 p1)) (ifB (yb6q2 p0 == (12:Int)) (ifB (yb6q2 p0 == (12:Int)) (yb6q19 p1 p0) (yb6q22 p0 p1)) (ifB (yb6q2 p0 == (13:Int)) (yb6q19 p1 p0) (yb6q22 p0 p1))))
end
theorem le_ok (n:Nd) (h:n.va.ok):CD 78 [.agg n.row2] (.bool (leafB n)) := by
  refine con_of (A := sC _ _) (x := ()) (E := Ele n) (eOk (conLe_ok h) rfl) Tryz.func78 rfl (by kernel_rfl) rfl (by simp [sC,Ele,EC,E0]) ?_
  refine vc_eq (T :=
    ∀ (x:Nat),True→SM x∧ifB (decide (Z0 < (LI (Nd.ki n)))) (yb6q1 n) (SM x∧ifB (yb6q2 n == Z1) (SM x∧∀ (x_1:Nat),x ≠ x_1∧True→SM x_1∧(SM x_1∧ifB (yb6q7 n) (SM x_1∧yb6q9 n = yb6q10 n∧True) (false = yb6q10 n∧True))∧(SM x_1∧ifB (yb6q11 n) (SM x_1∧yb6q12 n = yb6q13 n∧True) (false = yb6q13 n∧True))∧SM x∧ifB (yb6q14 n == Z1) (SM x_1∧∃ (x:Unit),wkL (yb6q17 n) (yb6q17 n)∧∀ (y:Unit),True→ifB (Prod.fst (chkA (yb6q3 n)) == Z0) (ifB (yb6q10 n) (True∧∃ (y:Unit),True∧true = yb6q0 n∧True∧True) (True∧∃ (y:Unit),True∧yb6q13 n = yb6q0 n∧True∧True)) (yb6q1 n)) (yb6q1 n)) (ifB (yb6q2 n == (2:Int)) (SM x∧ifB (decide (Z1 ≤ yb6q14 n)) (SM x∧ifB (decide (yb6q14 n ≤ (4:Int))) (SM x∧∃ (x:Unit),wkL [D.str (Nd.tx n)] [D.str (Nd.tx n)]∧∀ (y:Unit),True→True∧∃ (y:Unit),True∧nameB (Nd.tx n) = yb6q0 n∧True∧True) (yb6q1 n)) (yb6q1 n)) (ifB (yb6q2 n == (6:Int)) (ifB (yb6q2 n == (6:Int)) (yb6q18 x n) (yb6q23 n x)) (ifB (yb6q2 n == (7:Int)) (ifB (yb6q2 n == (7:Int)) (yb6q18 x n) (yb6q23 n x)) (ifB (yb6q2 n == (8:Int)) (yb6q18 x n) (yb6q23 n x))))))) (by kernel_rfl) ?_
  delta DA GA GI LI LN N1 N4 NI SI SM Z0 Z1 ZI yb6q0 yb6q1 yb6q10 yb6q11 yb6q12 yb6q13 yb6q14 yb6q15 yb6q16 yb6q17 yb6q18 yb6q19 yb6q2 yb6q20 yb6q21 yb6q22 yb6q23 yb6q3 yb6q4 yb6q5 yb6q6 yb6q7 yb6q8 yb6q9
  have dn:(default:Nd) = Nd.mk 0 0 0 [] 0 0 (Arr.mk 0 [] [] []) [] [] 0 0 0 := rfl
  have dm:(default:Sm) = Sm.mk 0 0 [] 0 (Nd.mk 0 0 0 [] 0 0 (Arr.mk 0 [] [] []) [] [] 0 0 0) (Nd.mk 0 0 0 [] 0 0 (Arr.mk 0 [] [] []) [] [] 0 0 0) := rfl
  try simp only []
  try simp only [← dn]
  simp only [ne_eq,ifB_iff,decide_eq_true_eq,decide_eq_false_iff_not,true_and,and_true,beq_iff_eq,beq_eq_false_iff_ne,exists_const,forall_const]
  have e1:n.ki.isEmpty = (n.ki.length == 0) := by cases n.ki <;> rfl
  have e2:n.va.sh.isEmpty = (n.va.sh.length == 0) := by cases n.va.sh <;> rfl
  have e3:∀ l:List UInt8,(l != []) = !l.isEmpty := fun l => by cases l <;> rfl
  have e40:((n.va.sh.length:Int) == 0) = (n.va.sh.length == 0) := by rw [Bool.eq_iff_iff,beq_iff_eq,beq_iff_eq]; omega
  have e41:((n.va.sh.length:Int) == 1) = (n.va.sh.length == 1) := by rw [Bool.eq_iff_iff,beq_iff_eq,beq_iff_eq]; omega
  simp only [e3,e40,e41]
  intro x
  repeat' (first | exact wkL_refl _ | refine And.intro ?_ ?_ | intro _)
  all_goals first
    | exact wkL_refl _
    | (exfalso; omega)
    | (simp_all [leafB]; done)
    | (simp_all [leafB]; omega)
    | (have h9 : n.ki.isEmpty = false := by rw [e1, beq_eq_false_iff_ne]; omega
       unfold leafB; rw [h9]; rfl)
end Go.Proofs.YtjnifeedbgefpaaGreatDoor
namespace Go.Proofs.YtjnifeedbgefpaaGreatDoor
open Go Go.Ab
set_option maxRecDepth 100000
theorem mul_ok (x y:Nat) (hx:x < 18446744073709551616) (hy:y < 18446744073709551616):CD 125 [.int .u64 x,.int .u64 y] (.tup [.int .u64 ((x * y / 18446744073709551616:Nat):Int),.int .u64 ((x * y % 18446744073709551616:Nat):Int)]) := by
  refine ACalls.of_shelf ⟨_,Tryz.func125,by kernel_rfl,by kernel_rfl⟩ fun C args w ha => ?_
  obtain ⟨u,v,e,hu,hv⟩ := repL_two' ha
  have e2:args = [u,v].toArray := by rw [← e]
  subst e2
  simp only [Rep] at hu hv; subst hu hv
  have := Tryz.bits_Mul x y hx hy w
  exact this.mono fun e w' ⟨h1,h2⟩ => ⟨⟨_,h1,by simp [Rep,RepL]⟩,by rw [h2]; exact Go.RowKit.Below.refl _ _⟩
def repF (j:Nat):Nat→List D := fun i => [.int .i64 (if i < j then 1 else 0)]
def conRp (n:Nat):Con := fun k ds S => match k with
  | 125 => some (pA ds S (.tup [.int .u64 0,.int .u64 n]) (ds = [.int .u64 1,.int .u64 n]))
  | _ => none
noncomputable def Erp (n:Nat):Senv := { EC (conRp n) 48 2 [4,5,6,7,8,10,26,37] (fun id => match id with | 9 => ([0,1,2,3,4,5,6,7,8,9],[7]) | _ => ([],[])) with
  gr := [.slot 4]
  ann := fun b env _S => match b with
    | 0 => match Ab.look env 7 with
      | .vs _k x _len cap _w => some { slots := [8],keep := [0,1,7],α := Nat,st := fun j => ([.int .i64 j],⟨[(0,x,.vec 1 n cap (repF j))],[]⟩),inv := fun j => 1 ≤ j∧j ≤ n,mu := fun j => n - j }
      | _ => none
    | _ => none }
noncomputable section
def yb7q0 (p0:Nat):Int := IntKind.wrap IntKind.i64 (↑p0:Int)
def yb7q1 (p0:Nat):Nat := Int.toNat (yb7q0 p0)
def yb7q2 (p0:Nat):Prop := SM (yb7q1 p0)
def yb7q3 (p0 p1:Nat):Prop := p0 < yb7q1 p1
def yb7q4 (p0 p1:Nat):List D := repF p0 p1
def yb7q5 (p0:Nat):Int := (NI (yb7q1 p0))
def yb7q6 (p0:Nat):Nat := Int.toNat (↑p0:Int)
def yb7q7:D := D.sl N1 N1 (fun (_x:Nat) => [ZI Z1]) Mode.full
def yb7q8 (p0 p1:Nat):D := D.vs N0 p0 (yb7q1 p1) (yb7q1 p1) N1
def yb7q9 (p0 p1:Nat):Nat := min (yb7q1 p0 - yb7q6 p1) (yb7q6 p1)
end
theorem rp_ok (n:Nat) (h1:2 ≤ n) (h2:n ≤ 1000):CD 104 [.sl 1 1 (fun _ => [.int .i64 1]) .full,.int .i64 n] (isl (List.replicate n 1) .any) := by
  refine con_of (A := sC _ _) (x := ()) (E := Erp n) (eOk ?_ rfl) Tryz.func104 rfl (by kernel_rfl) rfl (by simp [sC,Erp,EC,E0]) ?_
  · intro k ds S A hh
    unfold conRp at hh
    split at hh
    · injection hh with hh; subst hh
      refine pA_ok fun e => ?_
      rw [e]
      have := mul_ok 1 n (by omega) (by omega)
      rw [Nat.one_mul,Nat.div_eq_of_lt (by omega),Nat.mod_eq_of_lt (by omega)] at this
      exact CD.at_ this _
    · cases hh
  refine vc_eq (T :=
    ∃ (x:Unit),[D.int IntKind.u64 Z1,D.int IntKind.u64 (IntKind.wrap IntKind.u64 (↑n:Int))] = [D.int IntKind.u64 Z1,D.int IntKind.u64 (↑n:Int)]∧∀ (y:Unit),True→(SM (decide ((9223372036854775807:Int) < (↑n:Int)))∧True)∧ifB (decide ((9223372036854775807:Int) < (↑n:Int))) (∃ (y:Unit),True∧False∧True∧True) (side (Z0 ≤ yb7q0 n∧yb7q0 n ≤ yb7q0 n∧(8:Int) * yb7q0 n ≤ (281474976710656:Int)∧yb7q0 n ≤ (9223372036854775807:Int)) (∀ (x:Nat),True→SM x∧N1 ≤ yb7q1 n∧yb7q2 n∧(∃ (x_1:Nat),(N1 ≤ x_1∧x_1 ≤ n)∧(Z1 = (↑x_1:Int)∧True)∧(SM x∧(yb7q1 n = n∧yb7q2 n∧∀ (i:Nat),yb7q3 i n→(if i < N1 then [ZI Z1] else [ZI Z0]) = yb7q4 x_1 i)∧True)∧True)∧∀ (x_1:Nat),N1 ≤ x_1∧x_1 ≤ n→ifB (decide ((↑x_1:Int) < yb7q5 n)) (Z0 ≤ (↑x_1:Int)∧(↑x_1:Int) ≤ yb7q5 n∧(↑x_1:Int) < yb7q5 n∧side (Z0 ≤ (↑x_1:Int)∧(↑x_1:Int) ≤ yb7q5 n) (SM x∧SM x∧yb7q6 x_1 * N1 = yb7q6 x_1∧yb7q6 x_1 * N1 + (yb7q1 n - yb7q6 x_1) = n∧(∀ (i:Nat),i < yb7q6 x_1→SM true)∧(SM yb7q7∧SM (ZI (↑n:Int))∧SM (yb7q8 x n)∧True)∧∃ (y:Nat),(N1 ≤ y∧y ≤ n)∧n - y < n - x_1∧(IntKind.wrap IntKind.i64 ((↑x_1:Int) + (NI (yb7q9 n x_1))) = (↑y:Int)∧True)∧(SM x∧(SM n∧yb7q2 n∧∀ (i:Nat),i < n→(if i < yb7q6 x_1 then yb7q4 x_1 i else if i < yb7q6 x_1 + yb7q9 n x_1 then repF x_1 (i - yb7q6 x_1) else yb7q4 x_1 i) = yb7q4 y i)∧True)∧True)) (SM x∧yb7q2 n∧side (yb7q1 n ≤ n) ((∀ (i:Nat),yb7q3 i n→(List.all (yb7q4 x_1 i) fun (x:D) => match x with | D.unk => false | D.agg cs => false | D.tup ds => false | x => true) = true)∧∀ (t:Nat),True∧∃ (y:Unit),True∧(yb7q1 n = LN (List.replicate n Z1)∧(∀ (i:Nat),yb7q3 i n→yb7q4 x_1 i = [ZI (GI (List.replicate n Z1) i)])∧True)∧True∧True))))) (by kernel_rfl) ?_
  delta GI LN N0 N1 NI SM Z0 Z1 ZI yb7q0 yb7q1 yb7q2 yb7q3 yb7q4 yb7q5 yb7q6 yb7q7 yb7q8 yb7q9
  simp only [eq_self,implies_true,Int.toNat_natCast,ifB_iff,side_iff,decide_eq_true_eq,decide_eq_false_iff_not,true_and,and_true,exists_const,forall_const]
  have w64:IntKind.i64.wrap (n:Int) = n := wrap_i64' (by omega) (by omega)
  have wu:IntKind.u64.wrap (n:Int) = n := by
    simp only [IntKind.wrap,IntKind.signed,IntKind.bits]
    simp
    omega
  simp only [w64,wu,Int.toNat_natCast]
  refine ⟨trivial,fun h => by omega,fun _ => ⟨⟨by omega,by omega,by omega,by omega⟩,by omega,⟨1,⟨by omega,by omega⟩,rfl,trivial,fun i _ => ?_⟩,fun j ⟨j1,j2⟩ => ⟨fun hlt => ⟨by omega,by omega,hlt,⟨by omega,by omega⟩,by omega,by omega,j + min (n - j) j,⟨by omega,by omega⟩,by omega,wrap_i64' (by omega) (by omega),fun i hi => ?_⟩,fun hge => ⟨Nat.le_refl _,fun i _ => rfl,by simp,fun i hi => ?_⟩⟩⟩⟩
  · unfold repF
    split <;> rfl
  · unfold repF
    by_cases a1:i < j
    · rw [if_pos a1,if_pos a1,if_pos (by omega)]
    · rw [if_neg a1]
      by_cases a2:i < j + min (n - j) j
      · rw [if_pos a2,if_pos (by omega),if_pos a2]
      · rw [if_neg a2,if_neg a1,if_neg a2]
  · unfold repF
    rw [if_pos (by omega)]
    simp [List.getD_eq_getElem?_getD,hi]
def conCm (n:Nd):Con := fun k ds S => match k with
  | 103 => match ds with
    | [_,.sl 1 m f _] => some (pA ds S (.bool (classesB n (intsD m f))) (wkL ds [.agg n.row2,isl (intsD m f) .any]∧m ≤ maxLen))
    | _ => none
  | 104 => some (pA ds S (isl (List.replicate n.ki.length 1) .any) (2 ≤ n.ki.length∧n.ki.length ≤ 1000∧wkL ds [.sl 1 1 (fun _ => [.int .i64 1]) .full,.int .i64 n.ki.length]))
  | _ => none
theorem conCm_ok {n:Nd} (h:n.ki.length ≤ maxLen):ConOk Tryz.prog (conCm n) := by
  intro k ds S A hh
  unfold conCm at hh
  split at hh
  · split at hh
    · injection hh with hh; subst hh
      exact pA_ok fun ⟨e,hm⟩ => CD.at_ (CD.wk (clss_ok n _ h (by rw [intsD_len]; exact hm)) e) _
    · cases hh
  · injection hh with hh; subst hh
    exact pA_ok fun ⟨h1,h2,e⟩ => CD.at_ (CD.wk (rp_ok _ h1 h2) e) _
  · cases hh
theorem comp15 {n:Nd} (h:n.kd = 15):compB n = (n.cl == 2 && classesB n [4,2,rightK n]) := by
  unfold compB
  simp only [h]
  rfl
theorem cm15_no {n:Nd} (h:n.kd = 15) (hc:(bif n.cl != 2 then true else ((n.ki.length:Int) != 3)) = true):false = compB n := by
  rw [comp15 h]
  by_cases h2:n.cl = 2
  · have e:(n.cl != 2) = false := by simp [h2]
    rw [e] at hc
    have hl:n.ki.length ≠ 3 := by
      have:((n.ki.length:Int) != 3) = true := hc
      rw [bne_iff_ne] at this
      omega
    have:classesB n [4,2,rightK n] = false := by
      unfold classesB
      rw [beq_eq_false_iff_ne]
      intro e
      have := congrArg List.length e
      simp at this
      exact hl this
    rw [this]; simp
  · have:(n.cl == 2) = false := by simpa using h2
    rw [this]; rfl
theorem cm15_cl {n:Nd} (hc:(bif n.cl != 2 then true else ((n.ki.length:Int) != 3)) = false):(n.cl == 2) = true := by
  cases h2:n.cl != 2 with
  | true => rw [h2] at hc; cases hc
  | false => simpa using h2
theorem cm15_a {n:Nd} (h:n.kd = 15) (hc:(bif n.cl != 2 then true else ((n.ki.length:Int) != 3)) = false) (hr:(bif (n.ki.getD 0 default).kd == 17 then bif bif (n.ki.getD 0 default).op == 7 then true else (n.ki.getD 0 default).op == 8 then true else (n.ki.getD 0 default).op == 9 else false) = true):classesB n [4,2,1] = compB n := by
  rw [comp15 h,cm15_cl hc]
  have:rightK n = 1 := by
    unfold rightK
    refine if_pos ?_
    cases a:(n.ki.getD 0 default).kd == 17 <;> cases b:(n.ki.getD 0 default).op == 7 <;> cases c:(n.ki.getD 0 default).op == 8 <;> cases d:(n.ki.getD 0 default).op == 9 <;> simp [] at hr <;> simp_all
  rw [this]; simp
theorem cm15_b {n:Nd} (h:n.kd = 15) (hc:(bif n.cl != 2 then true else ((n.ki.length:Int) != 3)) = false) (hr:(bif (n.ki.getD 0 default).kd == 17 then bif bif (n.ki.getD 0 default).op == 7 then true else (n.ki.getD 0 default).op == 8 then true else (n.ki.getD 0 default).op == 9 else false) = false):classesB n [4,2,2] = compB n := by
  rw [comp15 h,cm15_cl hc]
  have:rightK n = 2 := by
    unfold rightK
    refine if_neg ?_
    cases a:(n.ki.getD 0 default).kd == 17 <;> cases b:(n.ki.getD 0 default).op == 7 <;> cases c:(n.ki.getD 0 default).op == 8 <;> cases d:(n.ki.getD 0 default).op == 9 <;> simp [] at hr <;> simp_all
  rw [this]; simp
theorem cls_arg {r:List D} {m:Nat} {f:Nat→List D} {md:Ab.Mode} (h:IntsP m f):wkL [.agg r,.sl 1 m f md] [.agg r,isl (intsD m f) .any] := by
  simp only [wkL]
  refine ⟨wkD_refl _,?_,trivial⟩
  simp only [isl,wkD,chk_iff]
  refine ⟨by simp,by simp [intsD_len],fun i hi => ?_,by simp [weakM]⟩
  have e:(intsD m f).getD i 0 = intD (f i) := by simp [intsD,List.getD_eq_getElem?_getD,hi]
  rw [e,h i hi]
  exact wkL_refl _
noncomputable def Ecm (n:Nd):Senv := EC (conCm n) 146 7 [8,9,37,50,64,76,87,110,117] (fun id => match id with | 4 => ([0,1,2,3,4,5,6,7,8,9,10,11,12,13,14,15,16,17,18,20,21,22,19,23,24,25,26],[19,23,24]) | _ => ([],[]))
noncomputable section
def yb7q10 (p0:Nd):Int := Nd.kd p0
def yb7q11 (p0:Nd):Int := Nd.cl p0
def yb7q12 (p0:Nd):Bool := yb7q11 p0 == Z1
def yb7q13 (p0:Nd):List Nd := Nd.ki p0
def yb7q14 (p0:Nd):Nat := LN (yb7q13 p0)
def yb7q15 (p0:Nd):Int := (NI (yb7q14 p0))
def yb7q16:Arr := DA
def yb7q17:Nd := Nd.mk Z0 Z0 Z0 [] Z0 Z0 yb7q16 [] [] Z0 Z0 Z0
def yb7q18 (p0:Nd) (p1:Nat):Nd := List.getD (yb7q13 p0) p1 yb7q17
def yb7q19 (p0:Nd) (p1:Nat):Arr := Nd.va (yb7q18 p0 p1)
def yb7q20 (p0:Nd) (p1:Nat):List Int := Arr.sh (yb7q19 p0 p1)
def yb7q21 (p0:Nd) (p1:Nat):List Int := Arr.nu (yb7q19 p0 p1)
def yb7q22 (p0:Nd) (p1:Nat):List Arr := Arr.it (yb7q19 p0 p1)
def yb7q23 (p0:Nd) (p1:Nat):List Nd := Nd.ki (yb7q18 p0 p1)
def yb7q24 (p0:Nd) (p1:Nat):List Sm := Nd.bo (yb7q18 p0 p1)
def yb7q25:Sm := Sm.mk Z0 Z0 [] Z0 yb7q17 yb7q17
def yb7q26 (p0:Nd):D := D.sl (15:Nat) (yb7q14 p0) (fun (i:Nat) => [ZI (Nd.kd (yb7q18 p0 i)),ZI (Nd.at_ (yb7q18 p0 i)),ZI (Nd.cl (yb7q18 p0 i)),D.str (Nd.tx (yb7q18 p0 i)),ZI (Nd.pr (yb7q18 p0 i)),ZI (Nd.op (yb7q18 p0 i)),ZI (Arr.k (yb7q19 p0 i)),SI (yb7q20 p0 i),SI (yb7q21 p0 i),D.sl N4 (LN (yb7q22 p0 i)) (fun (i_1:Nat) => Arr.row (List.getD (yb7q22 p0 i) i_1 yb7q16)) Mode.any,D.sl (15:Nat) (LN (yb7q23 p0 i)) (fun (i_1:Nat) => Nd.row (List.getD (yb7q23 p0 i) i_1 yb7q17)) Mode.any,D.sl (34:Nat) (LN (yb7q24 p0 i)) (fun (i_1:Nat) => Sm.row (List.getD (yb7q24 p0 i) i_1 yb7q25)) Mode.any,ZI (Nd.de (yb7q18 p0 i)),ZI (Nd.sl (yb7q18 p0 i)),ZI (Nd.ss (yb7q18 p0 i))]) Mode.any
def yb7q27 (p0:Nd):Arr := Nd.va p0
def yb7q28 (p0:Nd):List Int := Arr.sh (yb7q27 p0)
def yb7q29 (p0:Nd):List Int := Arr.nu (yb7q27 p0)
def yb7q30 (p0:Nd):List Arr := Arr.it (yb7q27 p0)
def yb7q31 (p0:Nd):D := D.agg [ZI (yb7q10 p0),ZI (Nd.at_ p0),ZI (yb7q11 p0),D.str (Nd.tx p0),ZI (Nd.pr p0),ZI (Nd.op p0),ZI (Arr.k (yb7q27 p0)),SI (yb7q28 p0),SI (yb7q29 p0),D.sl N4 (LN (yb7q30 p0)) (fun (i:Nat) => Arr.row (List.getD (yb7q30 p0) i yb7q16)) Mode.any,yb7q26 p0,D.sl (34:Nat) (LN (Nd.bo p0)) (fun (i:Nat) => Sm.row1 (List.getD (Nd.bo p0) i yb7q25)) Mode.any,ZI (Nd.de p0),ZI (Nd.sl p0),ZI (Nd.ss p0)]
def yb7q32 (p0:Nat) (p1:Nd):Prop := SM p0∧SM (yb7q31 p1)
def yb7q33:List D := [ZI Z1]
def yb7q34:List (List D) := [yb7q33]
def yb7q35 (p0:Nd):List D := [ZI (yb7q15 p0)]
def yb7q36 (p0:Nd):List Int := List.replicate (yb7q14 p0) Z1
def yb7q37 (p0:Nd):Nat := LN (yb7q36 p0)
def yb7q38 (p0:Nd) (p1:Nat):List D := [ZI (GI (yb7q36 p0) p1)]
def yb7q39 (p0:Nd):List Int := intsD (yb7q37 p0) fun (i:Nat) => yb7q38 p0 i
def yb7q40 (p0:Nd):Bool := compB p0
def yb7q41 (p0:Nd):Prop := True∧∃ (_y:Unit),True∧false = yb7q40 p0∧True∧True
def yb7q42:List D := [ZI (2:Int)]
def yb7q43:List (List D) := yb7q42 :: yb7q34
def yb7q44 (p0:Nat):List D := List.getD yb7q43 p0 []
def yb7q45:List Int := intsD N2 fun (i:Nat) => yb7q44 i
def yb7q46 (p0:Nat):List D := List.getD (yb7q42 :: yb7q33 :: yb7q34) p0 []
def yb7q47:List Int := intsD (3:Nat) fun (i:Nat) => yb7q46 i
def yb7q48 (p0:Nat):List D := List.getD [[ZI (3:Int)],yb7q42] p0 []
def yb7q49:List Int := intsD N2 fun (i:Nat) => yb7q48 i
def yb7q50 (p0:Nd):Bool := bif yb7q11 p0 != (2:Int) then true else yb7q15 p0 != (3:Int)
def yb7q51 (p0:Nd):Nd := List.getD (yb7q13 p0) N0 yb7q17
def yb7q52 (p0:Nd):Bool := Nd.kd (yb7q51 p0) == (17:Int)
def yb7q53 (p0:Nd):Int := Nd.op (yb7q51 p0)
def yb7q54 (p0:Nd):Bool := yb7q53 p0 == (7:Int)
def yb7q55 (p0:Nd):Bool := yb7q53 p0 == (8:Int)
def yb7q56 (p0:Nd):Bool := yb7q53 p0 == (9:Int)
def yb7q57 (p0:Nd):Bool := bif yb7q52 p0 then bif bif yb7q54 p0 then true else yb7q55 p0 then true else yb7q56 p0 else false
def yb7q58 (p0:Nd):Prop := true = yb7q57 p0∧True
def yb7q59 (p0:Nat):List D := List.getD ([ZI (4:Int)] :: yb7q43) p0 []
def yb7q60:List Int := intsD (3:Nat) fun (i:Nat) => yb7q59 i
def yb7q61:List (List D) := [yb7q42,yb7q42]
def yb7q62 (p0:Nat):List D := List.getD ([ZI (4:Int)] :: yb7q61) p0 []
def yb7q63:List Int := intsD (3:Nat) fun (i:Nat) => yb7q62 i
def yb7q64 (p0:Nat):List D := List.getD yb7q61 p0 []
def yb7q65:List Int := intsD N2 fun (i:Nat) => yb7q64 i
def yb7q66 (p0:Nd):Prop := True∧∃ (_y:Unit),True∧true = yb7q40 p0∧True∧True
def yb7q67 (p0:Nat):List D := List.getD (yb7q42 :: yb7q61) p0 []
def yb7q68:List Int := intsD (3:Nat) fun (i:Nat) => yb7q67 i
def yb7q69 (p0:Nat):List D := List.getD (yb7q33 :: yb7q61) p0 []
def yb7q70:List Int := intsD (3:Nat) fun (i:Nat) => yb7q69 i
end
theorem cm_ok (n:Nd) (h:n.ki.length ≤ maxLen):CD 79 [.agg n.row2] (.bool (compB n)) := by
  refine con_of (A := sC _ _) (x := ()) (E := Ecm n) (eOk (conCm_ok h) rfl) Tryz.func79 rfl (by kernel_rfl) rfl (by simp [sC,Ecm,EC,E0]) ?_
  refine vc_eq (T :=
    ∀ (x:Nat),True→SM x∧ifB (yb7q10 n == (3:Int)) (SM x∧ifB (yb7q12 n) (SM x∧ifB (decide ((2:Int) ≤ yb7q15 n)) (SM x∧ifB (decide (yb7q15 n ≤ (1000:Int))) (SM x∧SM x∧(SM x∧SM (yb7q26 n))∧yb7q32 x n∧∃ (x_1:Unit),(N2 ≤ yb7q14 n∧yb7q14 n ≤ (1000:Nat)∧wkL (D.sl N1 N1 (fun (i:Nat) => List.getD yb7q34 i []) Mode.full :: yb7q35 n) (D.sl N1 N1 (fun (x:Nat) => yb7q33) Mode.full :: yb7q35 n))∧∀ (y:Unit),True→yb7q32 x n∧∃ (x:Unit),(wkL [yb7q31 n,D.sl N1 (yb7q37 n) (fun (i:Nat) => yb7q38 n i) Mode.any] [yb7q31 n,SI (yb7q39 n)]∧yb7q37 n ≤ (9223372036854775807:Nat))∧∀ (y:Unit),True→True∧∃ (y:Unit),True∧classesB n (yb7q39 n) = yb7q40 n∧True∧True) (yb7q41 n)) (yb7q41 n)) (yb7q41 n)) (ifB (yb7q10 n == (4:Int)) (SM x∧ifB (yb7q12 n) (SM x∧∃ (x:Unit),(wkL [yb7q31 n,D.sl N1 N2 (fun (i:Nat) => yb7q44 i) Mode.full] [yb7q31 n,SI yb7q45]∧N2 ≤ (9223372036854775807:Nat))∧∀ (y:Unit),True→True∧∃ (y:Unit),True∧classesB n yb7q45 = yb7q40 n∧True∧True) (yb7q41 n)) (ifB (yb7q10 n == (5:Int)) (SM x∧ifB (yb7q12 n) (SM x∧∃ (x:Unit),(wkL [yb7q31 n,D.sl N1 (3:Nat) (fun (i:Nat) => yb7q46 i) Mode.full] [yb7q31 n,SI yb7q47]∧(3:Nat) ≤ (9223372036854775807:Nat))∧∀ (y:Unit),True→True∧∃ (y:Unit),True∧classesB n yb7q47 = yb7q40 n∧True∧True) (yb7q41 n)) (ifB (yb7q10 n == (14:Int)) (SM x∧ifB (yb7q11 n == (2:Int)) (SM x∧∃ (x:Unit),(wkL [yb7q31 n,D.sl N1 N2 (fun (i:Nat) => yb7q48 i) Mode.full] [yb7q31 n,SI yb7q49]∧N2 ≤ (9223372036854775807:Nat))∧∀ (y:Unit),True→True∧∃ (y:Unit),True∧classesB n yb7q49 = yb7q40 n∧True∧True) (yb7q41 n)) (ifB (yb7q10 n == (15:Int)) ((SM x∧ifB (yb7q11 n != (2:Int)) (true = yb7q50 n∧True) (SM x∧(yb7q15 n != (3:Int)) = yb7q50 n∧True))∧ifB (yb7q50 n) (yb7q41 n) (SM x∧side (Z0 ≤ Z0∧Z0 < yb7q15 n) (∀ (x_1:Nat),x ≠ x_1∧True→SM x_1∧(SM x_1∧ifB (yb7q52 n) (SM x_1∧ifB (yb7q54 n) (yb7q58 n) (SM x_1∧ifB (yb7q55 n) (yb7q58 n) (SM x_1∧yb7q56 n = yb7q57 n∧True))) (false = yb7q57 n∧True))∧ifB (yb7q57 n) (SM x∧∃ (x:Unit),(wkL [yb7q31 n,D.sl N1 (3:Nat) (fun (i:Nat) => yb7q59 i) Mode.full] [yb7q31 n,SI yb7q60]∧(3:Nat) ≤ (9223372036854775807:Nat))∧∀ (y:Unit),True→True∧∃ (y:Unit),True∧classesB n yb7q60 = yb7q40 n∧True∧True) (SM x∧∃ (x:Unit),(wkL [yb7q31 n,D.sl N1 (3:Nat) (fun (i:Nat) => yb7q62 i) Mode.full] [yb7q31 n,SI yb7q63]∧(3:Nat) ≤ (9223372036854775807:Nat))∧∀ (y:Unit),True→True∧∃ (y:Unit),True∧classesB n yb7q63 = yb7q40 n∧True∧True)))) (ifB (yb7q10 n == (16:Int)) (SM x∧ifB (yb7q11 n == (2:Int)) (SM x∧∃ (x_1:Unit),(wkL [yb7q31 n,D.sl N1 N2 (fun (i:Nat) => yb7q64 i) Mode.full] [yb7q31 n,SI yb7q65]∧N2 ≤ (9223372036854775807:Nat))∧∀ (y:Unit),True→ifB (classesB n yb7q65) (yb7q66 n) (SM x∧∃ (x_2:Unit),(wkL [yb7q31 n,D.sl N1 (3:Nat) (fun (i:Nat) => yb7q67 i) Mode.full] [yb7q31 n,SI yb7q68]∧(3:Nat) ≤ (9223372036854775807:Nat))∧∀ (y:Unit),True→ifB (classesB n yb7q68) (yb7q66 n) (SM x∧∃ (x:Unit),(wkL [yb7q31 n,D.sl N1 (3:Nat) (fun (i:Nat) => yb7q69 i) Mode.full] [yb7q31 n,SI yb7q70]∧(3:Nat) ≤ (9223372036854775807:Nat))∧∀ (y:Unit),True→True∧∃ (y:Unit),True∧classesB n yb7q70 = yb7q40 n∧True∧True))) (yb7q41 n)) (yb7q41 n))))))) (by kernel_rfl) ?_
  delta DA GI LN N0 N1 N2 N4 NI SI SM Z0 Z1 ZI yb7q10 yb7q11 yb7q12 yb7q13 yb7q14 yb7q15 yb7q16 yb7q17 yb7q18 yb7q19 yb7q20 yb7q21 yb7q22 yb7q23 yb7q24 yb7q25 yb7q26 yb7q27 yb7q28 yb7q29 yb7q30 yb7q31 yb7q32 yb7q33 yb7q34 yb7q35 yb7q36 yb7q37 yb7q38 yb7q39 yb7q40 yb7q41 yb7q42 yb7q43 yb7q44 yb7q45 yb7q46 yb7q47 yb7q48 yb7q49 yb7q50 yb7q51 yb7q52 yb7q53 yb7q54 yb7q55 yb7q56 yb7q57 yb7q58 yb7q59 yb7q60 yb7q61 yb7q62 yb7q63 yb7q64 yb7q65 yb7q66 yb7q67 yb7q68 yb7q69 yb7q70
  have dn:(default:Nd) = Nd.mk 0 0 0 [] 0 0 (Arr.mk 0 [] [] []) [] [] 0 0 0 := rfl
  have dm:(default:Sm) = Sm.mk 0 0 [] 0 (Nd.mk 0 0 0 [] 0 0 (Arr.mk 0 [] [] []) [] [] 0 0 0) (Nd.mk 0 0 0 [] 0 0 (Arr.mk 0 [] [] []) [] [] 0 0 0) := rfl
  try simp only [← dm]
  try simp only [← dn]
  simp only [ne_eq,ifB_iff,side_iff,decide_eq_true_eq,decide_eq_false_iff_not,true_and,and_true,beq_iff_eq,bne_iff_ne,bne_eq_false_iff_eq,beq_eq_false_iff_ne,exists_const,forall_const]
  have i2:∀ a b:Int,intsD 2 (fun i => [[D.int IntKind.i64 a],[D.int IntKind.i64 b]].getD i []) = [a,b] := fun _ _ => rfl
  have i3:∀ a b c:Int,intsD 3 (fun i => [[D.int IntKind.i64 a],[D.int IntKind.i64 b],[D.int IntKind.i64 c]].getD i []) = [a,b,c] := fun _ _ _ => rfl
  have p2:∀ a b:Int,IntsP 2 (fun i => [[D.int IntKind.i64 a],[D.int IntKind.i64 b]].getD i []) := fun _ _ i hi => by
    match i,hi with
    | 0,_ => rfl
    | 1,_ => rfl
  have p3:∀ a b c:Int,IntsP 3 (fun i => [[D.int IntKind.i64 a],[D.int IntKind.i64 b],[D.int IntKind.i64 c]].getD i []) := fun _ _ _ i hi => by
    match i,hi with
    | 0,_ => rfl
    | 1,_ => rfl
    | 2,_ => rfl
  have w1:wkL [D.sl 1 1 (fun i => [[D.int IntKind.i64 1]].getD i []) Mode.full,D.int IntKind.i64 n.ki.length] [D.sl 1 1 (fun _ => [D.int IntKind.i64 1]) Mode.full,D.int IntKind.i64 n.ki.length] := by
    simp only [wkL,wkD,chk_iff]
    refine ⟨⟨by simp,by simp,fun i hi => ?_,by simp [weakM]⟩,by simp [weakD,chk_iff,kEq],trivial⟩
    match i,hi with
    | 0,_ => exact wkL_refl _
  intro x
  repeat' (first | exact wkL_refl _ | exact w1 | exact cls_arg (p2 _ _) | exact cls_arg (p3 _ _ _) | exact cls_arg (intsP_isl _) | refine And.intro ?_ ?_ | intro _)
  all_goals try simp only [intsD_isl,i2,i3] at *
  clear w1 i2 i3 p2 p3 dn dm
  all_goals first
    | omega
    | (simp only [List.length_replicate]; omega)
    | (simp_all [compB]; done)
    | exact cm15_no (by assumption) (by assumption)
    | exact cm15_a (by assumption) (by assumption) (by assumption)
    | exact cm15_b (by assumption) (by assumption) (by assumption)
    | (simp_all [compB]; omega)
end Go.Proofs.YtjnifeedbgefpaaGreatDoor
namespace Go.Proofs.YtjnifeedbgefpaaGreatDoor
open Go Go.Ab
set_option maxRecDepth 100000
def namesD (l:List Sm):List (List UInt8) := (l.filter fun s => s.kd == 2).map Sm.nm
theorem namesD_step {l:List Sm} {i:Nat} (h:i < l.length):namesD (l.take (i + 1)) = if (l.getD i default).kd = 2 then namesD (l.take i) ++ [(l.getD i default).nm] else namesD (l.take i) := by
  rw [take_step h]
  unfold namesD
  rw [List.filter_append,List.map_append]
  generalize l.getD i default = x
  by_cases e:x.kd = 2
  · rw [if_pos e]; simp [e]
  · rw [if_neg e]
    simp [e]
theorem stmts_step {g:Bool} {l:List Sm} {i:Nat} (h:i < l.length):stmtsV g (namesD (l.take i)) (l.drop i) = (stmtV g (namesD (l.take i)) (l.getD i default) && stmtsV g (namesD (l.take (i + 1))) (l.drop (i + 1))) := by
  rw [drop_step h,stmtsV,namesD_step h]
theorem stmts_done {g:Bool} {names:List (List UInt8)} {l:List Sm} {i:Nat} (h:l.length ≤ i):stmtsV g names (l.drop i) = true := by
  rw [List.drop_eq_nil_of_le h,stmtsV]
end Go.Proofs.YtjnifeedbgefpaaGreatDoor
