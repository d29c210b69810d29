/- Functions of the given program and what each of them computes: lemmas towards the statement, their conditions stated with each of them. -/
import Derived.Test.YtjnifeedbgefpaaGreatDoorS1
import Derived.Lib.Join
import Derived.Test.YtjnifeedbgefpaaGreatDoorProg
import Derived.Lib.LaidTab
import Derived.Lib.ItoaNum
import Derived.Lib.TrailingZeros
import Derived.Calls
import Derived.Below
import Derived.Laws.Entries
import Derived.Laws.Build
import Derived.Laws.Concat
import Derived.Laws.AppendOwn
import Derived.Laws.IdiomStrings
import Derived.Laws.BytesString
import Derived.Laws.NewFold
import Derived.Laws.MakeOwn
import Derived.Laws.IdiomCopy
import Derived.Laws.Shifts
import Derived.Laws.Strings
import Derived.Laws.Strings2
import Derived.Laws.Strings3
import Derived.Laws.RangeString
import Derived.Laws.Cover4
import Derived.Lib.DecodeN
import Derived.MapKept
import Derived.Laws.StructEq
import Derived.Orders
import Derived.Scope
import Derived.ProofKit
import Derived.WalkKit
import Derived.OpenShut
import Derived.Recover
import Derived.KernelRfl
import Derived.Shelf.Strings.Builder1
import Derived.Shelf.Strings.Builder2
import Derived.Shelf.Strings.OnBuilder
import Derived.Shelf.Strings.BuilderF
import Derived.Shelf.Strconv.Itoa0
import Derived.Shelf.Strconv.Itoa1
import Derived.Shelf.LaysM
import Derived.Shelf.Strconv.Itoa2
import Derived.Shelf.Strconv.Itoa3
import Derived.Shelf.Strconv.Itoa4
import Derived.Shelf.Bits.Mul64
import Derived.Lib.AppendIntMem
import Derived.Lib.ItoaLen
import Derived.Test.YtjnifeedbgefpaaGreatDoorRows
import Derived.Lib.Builder
import Derived.Lib.UnsafeStr
import Derived.Test.YtjnifeedbgefpaaGreatDoorCards
import Derived.Test.YtjnifeedbgefpaaGreatDoorTie
import Derived.Deep.DeepHandedRow
import Derived.Stop.LaidErr
namespace Go.Proofs.YtjnifeedbgefpaaGreatDoor
open Go Go.Ab
set_option maxRecDepth 100000
noncomputable section
def conDxx(xm:Nat)(m:Int)(l:List Nd)(p:Nd→Bool):Con:=fun k ds S=>match k with
 |55=>some (pE (β:=Nd) ds S (fun b=>.bool (p b)) (fun b=>isN b ds [.ref 1 xm 0]∧b∈l∧S=⟨[(1,xm,.cells [.int .i64 m])],[]⟩))
 |_=>none
theorem conDxx_ok(xm:Nat)(m:Int){l:List Nd}{p:Nd→Bool}(h:∀b∈l,CS 55 (.agg b.row1::[.ref 1 xm 0]) ⟨[(1,xm,.cells [.int .i64 m])],[]⟩ (.bool (p b))):ConOk Tryz.prog (conDxx xm m l p):=by
 intro k ds S A hh
 unfold conDxx at hh
 split at hh
 ·injection hh with hh;subst hh
  refine pS_ok fun b ⟨e,hb,hs⟩=>?_
  rw[hs]
  exact (h b hb).wk e
 ·cases hh
noncomputable def EDxx(xm:Nat)(m:Int)(l:List Nd)(p:Nd→Bool):Senv:={ EC (conDxx xm m l p) 19 2 [4,5,7,8,9,16] (fun _=>([],[])) with
 ann:=fun b _ S=>match b with
  |0=>some { slots:=[8],keep:=[0,1,6,7],α:=Nat,st:=fun i=>([.int .i64 i],S),inv:=fun i=>IdxG p l i,mu:=fun i=>l.length-i }
  |_=>none }
def QkT(a:Nat)(b:Int):Prop:=(SM a∧(SM b∧True)∧True)∧True
def Qt6:Arr:=DA
def Qjo:Nd:=Nd.mk Z0 Z0 Z0 [] Z0 Z0 Qt6 [] [] Z0 Z0 Z0
def ZZ(a:List Nd)(b:Nat):Nd:=List.getD a (Int.toNat (↑b:Int)) Qjo
def QkU(a:List Nd)(b:Nat):Arr:=Nd.va (ZZ a b)
def QIZ(a:List Nd)(b:Nat):List Int:=Arr.sh (QkU a b)
def QI0(a:List Nd)(b:Nat):List Int:=Arr.nu (QkU a b)
def Qt7(a:List Nd)(b:Nat):List Arr:=Arr.it (QkU a b)
def Qt8(a:List Nd)(b:Nat):List Nd:=Nd.ki (ZZ a b)
def Qt9(a:List Nd)(b:Nat):List Sm:=Nd.bo (ZZ a b)
def QI1(a:Nat)(b:Int):St:=St.mk [(N1,a,AObj.cells [ZI b])] []
def QI2(a:List Nd):D:=D.sl (15:Nat) (LN a) (fun (i:Nat)=>Nd.row1 (List.getD a i Qjo)) Mode.any
theorem Dxx_ok(xm : Nat)(m : Int)(l : List Nd)(p : Nd → Bool)(h : ∀b∈l, CS 55 (.agg b.row1::[.ref 1 xm 0]) ⟨[(1, xm, .cells [.int .i64 m])], []⟩ (.bool (p b)))(hl : l.length≤maxLen) :
  CS 91 [gsl 15 Nd.row1 l,.fn (.func 55) [] [.ref 1 xm 0]] ⟨[(1,xm,.cells [.int .i64 m])],[]⟩ (.int .i64 (idxG p l 0)):=by
 refine CS.of (con_of (A:=sS _ _ _) (x:=()) (E:=EDxx xm m l p) (eOk (conDxx_ok xm m h) rfl) Tryz.func91 rfl (by kernel_rfl) rfl (by simp[sS,EDxx,EC,E0]) ?_)
 refine vc_eq (T :=
  (∃(x:Nat),IdxG p l x∧(Z0=(↑x:Int)∧True)∧QkT xm m)∧∀(x:Nat),IdxG p l x→ifB (decide ((↑x:Int)<(LI l))) (side (Z0≤(↑x:Int)∧(↑x:Int)<(LI l)) (∃(x_1:Nd),(isN x_1 [D.agg [ZI (Nd.kd (ZZ l x)),ZI (Nd.at_ (ZZ l x)),ZI (Nd.cl (ZZ l x)),D.str (Nd.tx (ZZ l x)),ZI (Nd.pr (ZZ l x)),ZI (Nd.op (ZZ l x)),ZI (Arr.k (QkU l x)),SI (QIZ l x),SI (QI0 l x),D.sl N4 (LN (Qt7 l x)) (fun (i:Nat)=>Arr.row (List.getD (Qt7 l x) i Qt6)) Mode.any,D.sl (15:Nat) (LN (Qt8 l x)) (fun (i:Nat)=>Nd.row (List.getD (Qt8 l x) i Qjo)) Mode.any,D.sl (34:Nat) (LN (Qt9 l x)) (fun (i:Nat)=>Sm.row (List.getD (Qt9 l x) i (Sm.mk Z0 Z0 [] Z0 Qjo Qjo))) Mode.any,ZI (Nd.de (ZZ l x)),ZI (Nd.sl (ZZ l x)),ZI (Nd.ss (ZZ l x))],D.ref N1 xm N0] [D.ref N1 xm N0]∧x_1∈l∧SM (QI1 xm m))∧∀(y:Unit),True→ifB (p x_1) (True∧∃(y:Unit),True∧(↑x:Int)=idxG p l Z0∧QkT xm m) ((SM (QI2 l)∧SM (D.fn (Fn.func (55:Nat)) [] [D.ref N1 xm N0])∧SM D.unk∧SM (ZI (LI l))∧True)∧∃(y:Nat),IdxG p l y∧LN l-y<LN l-x∧(IntKind.wrap IntKind.i64 ((↑x:Int)+Z1)=(↑y:Int)∧True)∧QkT xm m))) (True∧∃(y:Unit),True∧(-1:Int)=idxG p l Z0∧QkT xm m)) (by kernel_rfl) ?_
 delta DA GI LI LN N0 N1 N4 SI SM Z0 Z1 ZI QkT Qt6 QI1 QI2 Qjo ZZ QkU QIZ QI0 Qt7 Qt8 Qt9
 try simp only[← dn]
 simp only[Int.toNat_natCast,ifB_iff,side_iff,decide_eq_true_eq,decide_eq_false_iff_not,true_and,and_true,exists_const]
 simp only[maxLen] at hl
 refine⟨⟨0,⟨Nat.zero_le _,by simp⟩,rfl⟩,fun i hh=>⟨fun hlt=>?_,fun hge=>(hh.done hge).symm⟩⟩
 have hlt':i<l.length:=by omega
 obtain ⟨s1,s2⟩:=hh.step hlt'
 have hm:l.getD i default∈l:=by rw[List.getD_eq_getElem?_getD,List.getElem?_eq_getElem hlt'];exact List.getElem_mem hlt'
 refine⟨⟨by omega,hlt⟩,l.getD i default,?_,fun _ _=>⟨fun e=>(s1 e).symm,fun e=>⟨i+1,s2 e,by omega,wrap_i64' (by omega) (by omega)⟩⟩⟩
 first
  |exact⟨wkL_refl _,hm,rfl⟩
  |exact⟨wkL_refl _,hm⟩
def conDxc(xm:Nat)(m:Int)(l:List Nd)(p:Nd→Bool):Con:=fun k ds S=>match k with
 |91=>some (pA ds S (.int .i64 (idxG p l 0)) (wkL ds [gsl 15 Nd.row1 l,.fn (.func 55) [] [.ref 1 xm 0]]∧S=⟨[(1,xm,.cells [.int .i64 m])],[]⟩))
 |_=>none
noncomputable def EDxc(xm:Nat)(m:Int)(l:List Nd)(p:Nd→Bool):Senv:=EC (conDxc xm m l p) 9 2 [4] (fun _=>([],[]))
def Qua(a:List Nd)(b:Nat):List D:=[D.sl (15:Nat) (LN a) (fun (i:Nat)=>Nd.row1 (List.getD a i (Nd.mk Z0 Z0 Z0 [] Z0 Z0 DA [] [] Z0 Z0 Z0))) Mode.any,D.fn (Fn.func (55:Nat)) [] [D.ref N1 b N0]]
def QI3(a:Nat)(b:Int):St:=St.mk [(N1,a,AObj.cells [ZI b])] []
theorem Dxc_ok(xm : Nat)(m : Int)(l : List Nd)(p : Nd → Bool)(h : ∀b∈l, CS 55 (.agg b.row1::[.ref 1 xm 0]) ⟨[(1, xm, .cells [.int .i64 m])], []⟩ (.bool (p b)))(hl : l.length≤maxLen) :
  CS 54 [gsl 15 Nd.row1 l,.fn (.func 55) [] [.ref 1 xm 0]] ⟨[(1,xm,.cells [.int .i64 m])],[]⟩ (.bool (l.any p)):=by
 refine CS.of (con_of (A:=sS _ _ _) (x:=()) (E:=EDxc xm m l p) (eOk ?_ rfl) Tryz.func54 rfl (by kernel_rfl) rfl (by simp[sS,EDxc,EC,E0]) ?_)
 ·intro k ds S A hh
  try unfold conDxc at hh
  try dsimp only at hh
  split at hh
  ·injection hh with hh;subst hh
   refine pA_ok fun ⟨e,hs⟩=>?_
   rw[hs]
   exact (Dxx_ok xm m l p h hl).wk e
  ·cases hh
 refine vc_eq (T :=
  ∃(x:Unit),(wkL (Qua l xm) (Qua l xm)∧SM (QI3 xm m))∧∀(y:Unit),True→True∧∃(y:Unit),True∧decide (Z0≤idxG p l Z0)=List.any l p∧(SM xm∧(SM m∧True)∧True)∧True) (by kernel_rfl) ?_
 delta DA LN N0 N1 SM Z0 ZI Qua QI3
 simp only[true_and,and_true,exists_const,forall_const]
 first
  |exact⟨wkL_refl _,idxG_any _ l 0 (Int.le_refl _)⟩
  |exact⟨⟨wkL_refl _,rfl⟩,idxG_any _ l 0 (Int.le_refl _)⟩
def conNxx  (l:List Nd)(p:Nd→Bool):Con:=fun k ds S=>match k with
 |80=>some (pE (β:=Nd) ds S (fun b=>.bool (p b)) (fun b=>isN b ds []∧b∈l∧S=⟨[],[]⟩))
 |_=>none
theorem conNxx_ok  {l:List Nd}{p:Nd→Bool}(h:∀b∈l,CS 80 (.agg b.row1::[]) ⟨[],[]⟩ (.bool (p b))):ConOk Tryz.prog (conNxx  l p):=by
 intro k ds S A hh
 unfold conNxx at hh
 split at hh
 ·injection hh with hh;subst hh
  refine pS_ok fun b ⟨e,hb,hs⟩=>?_
  rw[hs]
  exact (h b hb).wk e
 ·cases hh
noncomputable def ENxx  (l:List Nd)(p:Nd→Bool):Senv:={ EC (conNxx  l p) 19 2 [4,5,7,8,9,16] (fun _=>([],[])) with
 ann:=fun b _ S=>match b with
  |0=>some { slots:=[8],keep:=[0,1,6,7],α:=Nat,st:=fun i=>([.int .i64 i],S),inv:=fun i=>IdxG p l i,mu:=fun i=>l.length-i }
  |_=>none }
def Qub:Arr:=DA
def Qjp:Nd:=Nd.mk Z0 Z0 Z0 [] Z0 Z0 Qub [] [] Z0 Z0 Z0
def Z2(a:List Nd)(b:Nat):Nd:=List.getD a (Int.toNat (↑b:Int)) Qjp
def QkV(a:List Nd)(b:Nat):Arr:=Nd.va (Z2 a b)
def QI4(a:List Nd)(b:Nat):List Int:=Arr.sh (QkV a b)
def QI5(a:List Nd)(b:Nat):List Int:=Arr.nu (QkV a b)
def Quc(a:List Nd)(b:Nat):List Arr:=Arr.it (QkV a b)
def Qud(a:List Nd)(b:Nat):List Nd:=Nd.ki (Z2 a b)
def Que(a:List Nd)(b:Nat):List Sm:=Nd.bo (Z2 a b)
def QI6(a:List Nd):D:=D.sl (15:Nat) (LN a) (fun (i:Nat)=>Nd.row1 (List.getD a i Qjp)) Mode.any
theorem Nxx_ok  (l : List Nd)(p : Nd → Bool)(h : ∀b∈l, CS 80 (.agg b.row1::[]) ⟨[], []⟩ (.bool (p b)))(hl : l.length≤maxLen) :
  CS 91 [gsl 15 Nd.row1 l,.fn (.func 80) [] []] ⟨[],[]⟩ (.int .i64 (idxG p l 0)):=by
 refine CS.of (con_of (A:=sS _ _ _) (x:=()) (E:=ENxx  l p) (eOk (conNxx_ok  h) rfl) Tryz.func91 rfl (by kernel_rfl) rfl (by simp[sS,ENxx,EC,E0]) ?_)
 refine vc_eq (T :=
  (∃(x:Nat),IdxG p l x∧(Z0=(↑x:Int)∧True)∧True∧True)∧∀(x:Nat),IdxG p l x→ifB (decide ((↑x:Int)<(LI l))) (side (Z0≤(↑x:Int)∧(↑x:Int)<(LI l)) (∃(x_1:Nd),(isN x_1 [D.agg [ZI (Nd.kd (Z2 l x)),ZI (Nd.at_ (Z2 l x)),ZI (Nd.cl (Z2 l x)),D.str (Nd.tx (Z2 l x)),ZI (Nd.pr (Z2 l x)),ZI (Nd.op (Z2 l x)),ZI (Arr.k (QkV l x)),SI (QI4 l x),SI (QI5 l x),D.sl N4 (LN (Quc l x)) (fun (i:Nat)=>Arr.row (List.getD (Quc l x) i Qub)) Mode.any,D.sl (15:Nat) (LN (Qud l x)) (fun (i:Nat)=>Nd.row (List.getD (Qud l x) i Qjp)) Mode.any,D.sl (34:Nat) (LN (Que l x)) (fun (i:Nat)=>Sm.row (List.getD (Que l x) i (Sm.mk Z0 Z0 [] Z0 Qjp Qjp))) Mode.any,ZI (Nd.de (Z2 l x)),ZI (Nd.sl (Z2 l x)),ZI (Nd.ss (Z2 l x))]] []∧x_1∈l∧SM (St.mk [] []))∧∀(y:Unit),True→ifB (p x_1) (RT ((↑x:Int)=idxG p l Z0)) ((SM (QI6 l)∧SM (D.fn (Fn.func (80:Nat)) [] [])∧SM D.unk∧SM (ZI (LI l))∧True)∧∃(y:Nat),IdxG p l y∧LN l-y<LN l-x∧(IntKind.wrap IntKind.i64 ((↑x:Int)+Z1)=(↑y:Int)∧True)∧True∧True))) (RT ((-1:Int)=idxG p l Z0))) (by kernel_rfl) ?_
 delta DA GI LI LN N1 N4 SI SM Z0 Z1 ZI Qub Qjp Z2 QkV QI4 QI5 Quc Qud Que QI6 RT
 try simp only[← dn]
 simp only[Int.toNat_natCast,ifB_iff,side_iff,decide_eq_true_eq,decide_eq_false_iff_not,true_and,and_true,exists_const]
 simp only[maxLen] at hl
 refine⟨⟨0,⟨Nat.zero_le _,by simp⟩,rfl⟩,fun i hh=>⟨fun hlt=>?_,fun hge=>(hh.done hge).symm⟩⟩
 have hlt':i<l.length:=by omega
 obtain ⟨s1,s2⟩:=hh.step hlt'
 have hm:l.getD i default∈l:=by rw[List.getD_eq_getElem?_getD,List.getElem?_eq_getElem hlt'];exact List.getElem_mem hlt'
 refine⟨⟨by omega,hlt⟩,l.getD i default,?_,fun _ _=>⟨fun e=>(s1 e).symm,fun e=>⟨i+1,s2 e,by omega,wrap_i64' (by omega) (by omega)⟩⟩⟩
 first
  |exact⟨wkL_refl _,hm,rfl⟩
  |exact⟨wkL_refl _,hm⟩
def conNxc  (l:List Nd)(p:Nd→Bool):Con:=fun k ds S=>match k with
 |91=>some (pA ds S (.int .i64 (idxG p l 0)) (wkL ds [gsl 15 Nd.row1 l,.fn (.func 80) [] []]∧S=⟨[],[]⟩))
 |_=>none
noncomputable def ENxc  (l:List Nd)(p:Nd→Bool):Senv:=EC (conNxc  l p) 9 2 [4] (fun _=>([],[]))
def Quf(a:List Nd):List D:=[D.sl (15:Nat) (LN a) (fun (i:Nat)=>Nd.row1 (List.getD a i (Nd.mk Z0 Z0 Z0 [] Z0 Z0 DA [] [] Z0 Z0 Z0))) Mode.any,D.fn (Fn.func (80:Nat)) [] []]
theorem Nxc_ok  (l : List Nd)(p : Nd → Bool)(h : ∀b∈l, CS 80 (.agg b.row1::[]) ⟨[], []⟩ (.bool (p b)))(hl : l.length≤maxLen) :
  CS 54 [gsl 15 Nd.row1 l,.fn (.func 80) [] []] ⟨[],[]⟩ (.bool (l.any p)):=by
 refine CS.of (con_of (A:=sS _ _ _) (x:=()) (E:=ENxc  l p) (eOk ?_ rfl) Tryz.func54 rfl (by kernel_rfl) rfl (by simp[sS,ENxc,EC,E0]) ?_)
 ·intro k ds S A hh
  try unfold conNxc at hh
  try dsimp only at hh
  split at hh
  ·injection hh with hh;subst hh
   refine pA_ok fun ⟨e,hs⟩=>?_
   rw[hs]
   exact (Nxx_ok  l p h hl).wk e
  ·cases hh
 refine vc_eq (T :=
  ∃(x:Unit),(wkL (Quf l) (Quf l)∧SM (St.mk [] []))∧∀(y:Unit),True→RT (decide (Z0≤idxG p l Z0)=List.any l p)) (by kernel_rfl) ?_
 delta DA LN SM Z0 Quf RT
 simp only[true_and,and_true,exists_const,forall_const]
 first
  |exact⟨wkL_refl _,idxG_any _ l 0 (Int.le_refl _)⟩
  |exact⟨⟨wkL_refl _,rfl⟩,idxG_any _ l 0 (Int.le_refl _)⟩
def conOxx(xi:Nat)(xk:Nat)(q:Int)(l:List Nd)(p:Nd→Bool):Con:=fun k ds S=>match k with
 |82=>some (pE (β:=Nd) ds S (fun b=>.bool (p b)) (fun b=>isN b ds [.ref 0 xk 0,.ref 1 xi 0]∧b∈l∧S=⟨[(1,xi,.cells [.fn (.func 82) [] [.ref 0 xk 0,.ref 1 xi 0]]),(0,xk,.cells [.int .i64 q])],[]⟩))
 |_=>none
theorem conOxx_ok(xi:Nat)(xk:Nat)(q:Int){l:List Nd}{p:Nd→Bool}(h:∀b∈l,CS 82 (.agg b.row1::[.ref 0 xk 0,.ref 1 xi 0]) ⟨[(1,xi,.cells [.fn (.func 82) [] [.ref 0 xk 0,.ref 1 xi 0]]),(0,xk,.cells [.int .i64 q])],[]⟩ (.bool (p b))):ConOk Tryz.prog (conOxx xi xk q l p):=by
 intro k ds S A hh
 unfold conOxx at hh
 split at hh
 ·injection hh with hh;subst hh
  refine pS_ok fun b ⟨e,hb,hs⟩=>?_
  rw[hs]
  exact (h b hb).wk e
 ·cases hh
noncomputable def EOxx(xi:Nat)(xk:Nat)(q:Int)(l:List Nd)(p:Nd→Bool):Senv:={ EC (conOxx xi xk q l p) 19 2 [4,5,7,8,9,16] (fun _=>([],[])) with
 ann:=fun b _ S=>match b with
  |0=>some { slots:=[8],keep:=[0,1,6,7],α:=Nat,st:=fun i=>([.int .i64 i],S),inv:=fun i=>IdxG p l i,mu:=fun i=>l.length-i }
  |_=>none }
def QoU(a b:Nat):List D:=[D.ref N0 a N0,D.ref N1 b N0]
def Qug(a b:Nat):D:=D.fn (Fn.func (82:Nat)) [] (QoU a b)
def Quh(a b:Nat):Prop:=SM (Qug a b)
def QkW(a b:Nat)(c:Int):Prop:=(SM a∧(Quh b a∧True)∧SM b∧(SM c∧True)∧True)∧True
def Qui:Arr:=DA
def Qjq:Nd:=Nd.mk Z0 Z0 Z0 [] Z0 Z0 Qui [] [] Z0 Z0 Z0
def Z3(a:List Nd)(b:Nat):Nd:=List.getD a (Int.toNat (↑b:Int)) Qjq
def QkX(a:List Nd)(b:Nat):Arr:=Nd.va (Z3 a b)
def QI7(a:List Nd)(b:Nat):List Int:=Arr.sh (QkX a b)
def QI8(a:List Nd)(b:Nat):List Int:=Arr.nu (QkX a b)
def Quj(a:List Nd)(b:Nat):List Arr:=Arr.it (QkX a b)
def Quk(a:List Nd)(b:Nat):List Nd:=Nd.ki (Z3 a b)
def Qul(a:List Nd)(b:Nat):List Sm:=Nd.bo (Z3 a b)
def QI9(a b:Nat)(c:Int):St:=St.mk [(N1,a,AObj.cells [Qug b a]),(N0,b,AObj.cells [ZI c])] []
def QJa(a:List Nd):D:=D.sl (15:Nat) (LN a) (fun (i:Nat)=>Nd.row1 (List.getD a i Qjq)) Mode.any
theorem Oxx_ok(xi : Nat)(xk : Nat)(q : Int)(l : List Nd)(p : Nd → Bool)(h : ∀b∈l, CS 82 (.agg b.row1::[.ref 0 xk 0, .ref 1 xi 0]) ⟨[(1, xi, .cells [.fn (.func 82) [] [.ref 0 xk 0, .ref 1 xi 0]]), (0, xk, .cells [.int .i64 q])], []⟩ (.bool (p b)))(hl : l.length≤maxLen) :
  CS 91 [gsl 15 Nd.row1 l,.fn (.func 82) [] [.ref 0 xk 0,.ref 1 xi 0]] ⟨[(1,xi,.cells [.fn (.func 82) [] [.ref 0 xk 0,.ref 1 xi 0]]),(0,xk,.cells [.int .i64 q])],[]⟩ (.int .i64 (idxG p l 0)):=by
 refine CS.of (con_of (A:=sS _ _ _) (x:=()) (E:=EOxx xi xk q l p) (eOk (conOxx_ok xi xk q h) rfl) Tryz.func91 rfl (by kernel_rfl) rfl (by simp[sS,EOxx,EC,E0]) ?_)
 refine vc_eq (T :=
  (∃(x:Nat),IdxG p l x∧(Z0=(↑x:Int)∧True)∧QkW xi xk q)∧∀(x:Nat),IdxG p l x→ifB (decide ((↑x:Int)<(LI l))) (side (Z0≤(↑x:Int)∧(↑x:Int)<(LI l)) (∃(x_1:Nd),(isN x_1 (D.agg [ZI (Nd.kd (Z3 l x)),ZI (Nd.at_ (Z3 l x)),ZI (Nd.cl (Z3 l x)),D.str (Nd.tx (Z3 l x)),ZI (Nd.pr (Z3 l x)),ZI (Nd.op (Z3 l x)),ZI (Arr.k (QkX l x)),SI (QI7 l x),SI (QI8 l x),D.sl N4 (LN (Quj l x)) (fun (i:Nat)=>Arr.row (List.getD (Quj l x) i Qui)) Mode.any,D.sl (15:Nat) (LN (Quk l x)) (fun (i:Nat)=>Nd.row (List.getD (Quk l x) i Qjq)) Mode.any,D.sl (34:Nat) (LN (Qul l x)) (fun (i:Nat)=>Sm.row (List.getD (Qul l x) i (Sm.mk Z0 Z0 [] Z0 Qjq Qjq))) Mode.any,ZI (Nd.de (Z3 l x)),ZI (Nd.sl (Z3 l x)),ZI (Nd.ss (Z3 l x))]::QoU xk xi) (QoU xk xi)∧x_1∈l∧SM (QI9 xi xk q))∧∀(y:Unit),True→ifB (p x_1) (True∧∃(y:Unit),True∧(↑x:Int)=idxG p l Z0∧QkW xi xk q) ((SM (QJa l)∧Quh xk xi∧SM D.unk∧SM (ZI (LI l))∧True)∧∃(y:Nat),IdxG p l y∧LN l-y<LN l-x∧(IntKind.wrap IntKind.i64 ((↑x:Int)+Z1)=(↑y:Int)∧True)∧QkW xi xk q))) (True∧∃(y:Unit),True∧(-1:Int)=idxG p l Z0∧QkW xi xk q)) (by kernel_rfl) ?_
 delta DA GI LI LN N0 N1 N4 SI SM Z0 Z1 ZI QoU Qug Quh QkW Qui Qjq Z3 QkX QI7 QI8 Quj Quk Qul QI9 QJa
 try simp only[← dn]
 simp only[Int.toNat_natCast,ifB_iff,side_iff,decide_eq_true_eq,decide_eq_false_iff_not,true_and,and_true,exists_const]
 simp only[maxLen] at hl
 refine⟨⟨0,⟨Nat.zero_le _,by simp⟩,rfl⟩,fun i hh=>⟨fun hlt=>?_,fun hge=>(hh.done hge).symm⟩⟩
 have hlt':i<l.length:=by omega
 obtain ⟨s1,s2⟩:=hh.step hlt'
 have hm:l.getD i default∈l:=by rw[List.getD_eq_getElem?_getD,List.getElem?_eq_getElem hlt'];exact List.getElem_mem hlt'
 refine⟨⟨by omega,hlt⟩,l.getD i default,?_,fun _ _=>⟨fun e=>(s1 e).symm,fun e=>⟨i+1,s2 e,by omega,wrap_i64' (by omega) (by omega)⟩⟩⟩
 first
  |exact⟨wkL_refl _,hm,rfl⟩
  |exact⟨wkL_refl _,hm⟩
def conOxc(xi:Nat)(xk:Nat)(q:Int)(l:List Nd)(p:Nd→Bool):Con:=fun k ds S=>match k with
 |91=>some (pA ds S (.int .i64 (idxG p l 0)) (wkL ds [gsl 15 Nd.row1 l,.fn (.func 82) [] [.ref 0 xk 0,.ref 1 xi 0]]∧S=⟨[(1,xi,.cells [.fn (.func 82) [] [.ref 0 xk 0,.ref 1 xi 0]]),(0,xk,.cells [.int .i64 q])],[]⟩))
 |_=>none
noncomputable def EOxc(xi:Nat)(xk:Nat)(q:Int)(l:List Nd)(p:Nd→Bool):Senv:=EC (conOxc xi xk q l p) 9 2 [4] (fun _=>([],[]))
def Qum(a b:Nat):D:=D.fn (Fn.func (82:Nat)) [] [D.ref N0 a N0,D.ref N1 b N0]
def Qun(a b:Nat):List D:=[Qum a b]
def Quo(a:List Nd)(b c:Nat):List D:=D.sl (15:Nat) (LN a) (fun (i:Nat)=>Nd.row1 (List.getD a i (Nd.mk Z0 Z0 Z0 [] Z0 Z0 DA [] [] Z0 Z0 Z0))) Mode.any::Qun b c
def QJb(a b:Nat)(c:Int):St:=St.mk [(N1,a,AObj.cells (Qun b a)),(N0,b,AObj.cells [ZI c])] []
theorem Oxc_ok(xi : Nat)(xk : Nat)(q : Int)(l : List Nd)(p : Nd → Bool)(h : ∀b∈l, CS 82 (.agg b.row1::[.ref 0 xk 0, .ref 1 xi 0]) ⟨[(1, xi, .cells [.fn (.func 82) [] [.ref 0 xk 0, .ref 1 xi 0]]), (0, xk, .cells [.int .i64 q])], []⟩ (.bool (p b)))(hl : l.length≤maxLen) :
  CS 54 [gsl 15 Nd.row1 l,.fn (.func 82) [] [.ref 0 xk 0,.ref 1 xi 0]] ⟨[(1,xi,.cells [.fn (.func 82) [] [.ref 0 xk 0,.ref 1 xi 0]]),(0,xk,.cells [.int .i64 q])],[]⟩ (.bool (l.any p)):=by
 refine CS.of (con_of (A:=sS _ _ _) (x:=()) (E:=EOxc xi xk q l p) (eOk ?_ rfl) Tryz.func54 rfl (by kernel_rfl) rfl (by simp[sS,EOxc,EC,E0]) ?_)
 ·intro k ds S A hh
  try unfold conOxc at hh
  try dsimp only at hh
  split at hh
  ·injection hh with hh;subst hh
   refine pA_ok fun ⟨e,hs⟩=>?_
   rw[hs]
   exact (Oxx_ok xi xk q l p h hl).wk e
  ·cases hh
 refine vc_eq (T :=
  ∃(x:Unit),(wkL (Quo l xk xi) (Quo l xk xi)∧SM (QJb xi xk q))∧∀(y:Unit),True→True∧∃(y:Unit),True∧decide (Z0≤idxG p l Z0)=List.any l p∧(SM xi∧(SM (Qum xk xi)∧True)∧SM xk∧(SM q∧True)∧True)∧True) (by kernel_rfl) ?_
 delta DA LN N0 N1 SM Z0 ZI Qum Qun Quo QJb
 simp only[true_and,and_true,exists_const,forall_const]
 first
  |exact⟨wkL_refl _,idxG_any _ l 0 (Int.le_refl _)⟩
  |exact⟨⟨wkL_refl _,rfl⟩,idxG_any _ l 0 (Int.le_refl _)⟩
def conPxx(xi:Nat)(xk:Nat)(q:Int)(l:List Sm)(p:Sm→Bool):Con:=fun k ds S=>match k with
 |84=>some (pE (β:=Sm) ds S (fun b=>.bool (p b)) (fun b=>isS b ds [.ref 1 xi 0]∧b∈l∧S=⟨[(1,xi,.cells [.fn (.func 82) [] [.ref 0 xk 0,.ref 1 xi 0]]),(0,xk,.cells [.int .i64 q])],[]⟩))
 |_=>none
theorem conPxx_ok(xi:Nat)(xk:Nat)(q:Int){l:List Sm}{p:Sm→Bool}(h:∀b∈l,CS 84 (.agg b.row1::[.ref 1 xi 0]) ⟨[(1,xi,.cells [.fn (.func 82) [] [.ref 0 xk 0,.ref 1 xi 0]]),(0,xk,.cells [.int .i64 q])],[]⟩ (.bool (p b))):ConOk Tryz.prog (conPxx xi xk q l p):=by
 intro k ds S A hh
 unfold conPxx at hh
 split at hh
 ·injection hh with hh;subst hh
  refine pS_ok fun b ⟨e,hb,hs⟩=>?_
  rw[hs]
  exact (h b hb).wk e
 ·cases hh
noncomputable def EPxx(xi:Nat)(xk:Nat)(q:Int)(l:List Sm)(p:Sm→Bool):Senv:={ EC (conPxx xi xk q l p) 19 2 [4,5,7,8,9,16] (fun _=>([],[])) with
 ann:=fun b _ S=>match b with
  |0=>some { slots:=[8],keep:=[0,1,6,7],α:=Nat,st:=fun i=>([.int .i64 i],S),inv:=fun i=>IdxG p l i,mu:=fun i=>l.length-i }
  |_=>none }
def Qup(a b:Nat):D:=D.fn (Fn.func (82:Nat)) [] [D.ref N0 a N0,D.ref N1 b N0]
def QkY(a b:Nat)(c:Int):Prop:=(SM a∧(SM (Qup b a)∧True)∧SM b∧(SM c∧True)∧True)∧True
def QoV:Arr:=DA
def QkZ:Nd:=Nd.mk Z0 Z0 Z0 [] Z0 Z0 QoV [] [] Z0 Z0 Z0
def Qk0:Sm:=Sm.mk Z0 Z0 [] Z0 QkZ QkZ
def Qiz(a:List Sm)(b:Nat):Sm:=List.getD a (Int.toNat (↑b:Int)) Qk0
def Z4(a:List Sm)(b:Nat):Nd:=Sm.te (Qiz a b)
def Qk1(a:List Sm)(b:Nat):Arr:=Nd.va (Z4 a b)
def QJc(a:List Sm)(b:Nat):List Int:=Arr.sh (Qk1 a b)
def QJd(a:List Sm)(b:Nat):List Int:=Arr.nu (Qk1 a b)
def Quq(a:List Sm)(b:Nat):List Arr:=Arr.it (Qk1 a b)
def Qur(a:List Sm)(b:Nat):List Nd:=Nd.ki (Z4 a b)
def Qus(a:List Sm)(b:Nat):List Sm:=Nd.bo (Z4 a b)
def Z5(a:List Sm)(b:Nat):Nd:=Sm.nd (Qiz a b)
def Qk2(a:List Sm)(b:Nat):Arr:=Nd.va (Z5 a b)
def QJe(a:List Sm)(b:Nat):List Int:=Arr.sh (Qk2 a b)
def QJf(a:List Sm)(b:Nat):List Int:=Arr.nu (Qk2 a b)
def Qut(a:List Sm)(b:Nat):List Arr:=Arr.it (Qk2 a b)
def Quu(a:List Sm)(b:Nat):List Nd:=Nd.ki (Z5 a b)
def Quv(a:List Sm)(b:Nat):List Sm:=Nd.bo (Z5 a b)
def QJg(a b:Nat)(c:Int):St:=St.mk [(N1,a,AObj.cells [Qup b a]),(N0,b,AObj.cells [ZI c])] []
def QJh(a:List Sm):D:=D.sl (34:Nat) (LN a) (fun (i:Nat)=>Sm.row1 (List.getD a i Qk0)) Mode.any
theorem Pxx_ok(xi : Nat)(xk : Nat)(q : Int)(l : List Sm)(p : Sm → Bool)(h : ∀b∈l, CS 84 (.agg b.row1::[.ref 1 xi 0]) ⟨[(1, xi, .cells [.fn (.func 82) [] [.ref 0 xk 0, .ref 1 xi 0]]), (0, xk, .cells [.int .i64 q])], []⟩ (.bool (p b)))(hl : l.length≤maxLen) :
  CS 105 [gsl 34 Sm.row1 l,.fn (.func 84) [] [.ref 1 xi 0]] ⟨[(1,xi,.cells [.fn (.func 82) [] [.ref 0 xk 0,.ref 1 xi 0]]),(0,xk,.cells [.int .i64 q])],[]⟩ (.int .i64 (idxG p l 0)):=by
 refine CS.of (con_of (A:=sS _ _ _) (x:=()) (E:=EPxx xi xk q l p) (eOk (conPxx_ok xi xk q h) rfl) Tryz.func105 rfl (by kernel_rfl) rfl (by simp[sS,EPxx,EC,E0]) ?_)
 refine vc_eq (T :=
  (∃(x:Nat),IdxG p l x∧(Z0=(↑x:Int)∧True)∧QkY xi xk q)∧∀(x:Nat),IdxG p l x→ifB (decide ((↑x:Int)<(LI l))) (side (Z0≤(↑x:Int)∧(↑x:Int)<(LI l)) (∃(x_1:Sm),(isS x_1 [D.agg [ZI (Sm.kd (Qiz l x)),ZI (Sm.at_ (Qiz l x)),D.str (Sm.nm (Qiz l x)),ZI (Sm.sl (Qiz l x)),ZI (Nd.kd (Z4 l x)),ZI (Nd.at_ (Z4 l x)),ZI (Nd.cl (Z4 l x)),D.str (Nd.tx (Z4 l x)),ZI (Nd.pr (Z4 l x)),ZI (Nd.op (Z4 l x)),ZI (Arr.k (Qk1 l x)),SI (QJc l x),SI (QJd l x),D.sl N4 (LN (Quq l x)) (fun (i:Nat)=>Arr.row (List.getD (Quq l x) i QoV)) Mode.any,D.sl (15:Nat) (LN (Qur l x)) (fun (i:Nat)=>Nd.row (List.getD (Qur l x) i QkZ)) Mode.any,D.sl (34:Nat) (LN (Qus l x)) (fun (i:Nat)=>Sm.row (List.getD (Qus l x) i Qk0)) Mode.any,ZI (Nd.de (Z4 l x)),ZI (Nd.sl (Z4 l x)),ZI (Nd.ss (Z4 l x)),ZI (Nd.kd (Z5 l x)),ZI (Nd.at_ (Z5 l x)),ZI (Nd.cl (Z5 l x)),D.str (Nd.tx (Z5 l x)),ZI (Nd.pr (Z5 l x)),ZI (Nd.op (Z5 l x)),ZI (Arr.k (Qk2 l x)),SI (QJe l x),SI (QJf l x),D.sl N4 (LN (Qut l x)) (fun (i:Nat)=>Arr.row (List.getD (Qut l x) i QoV)) Mode.any,D.sl (15:Nat) (LN (Quu l x)) (fun (i:Nat)=>Nd.row (List.getD (Quu l x) i QkZ)) Mode.any,D.sl (34:Nat) (LN (Quv l x)) (fun (i:Nat)=>Sm.row (List.getD (Quv l x) i Qk0)) Mode.any,ZI (Nd.de (Z5 l x)),ZI (Nd.sl (Z5 l x)),ZI (Nd.ss (Z5 l x))],D.ref N1 xi N0] [D.ref N1 xi N0]∧x_1∈l∧SM (QJg xi xk q))∧∀(y:Unit),True→ifB (p x_1) (True∧∃(y:Unit),True∧(↑x:Int)=idxG p l Z0∧QkY xi xk q) ((SM (QJh l)∧SM (D.fn (Fn.func (84:Nat)) [] [D.ref N1 xi N0])∧SM D.unk∧SM (ZI (LI l))∧True)∧∃(y:Nat),IdxG p l y∧LN l-y<LN l-x∧(IntKind.wrap IntKind.i64 ((↑x:Int)+Z1)=(↑y:Int)∧True)∧QkY xi xk q))) (True∧∃(y:Unit),True∧(-1:Int)=idxG p l Z0∧QkY xi xk q)) (by kernel_rfl) ?_
 delta DA GI LI LN N0 N1 N4 SI SM Z0 Z1 ZI Qup QkY QoV QkZ Qk0 Qiz Z4 Qk1 QJc QJd Quq Qur Qus Z5 Qk2 QJe QJf Qut Quu Quv QJg QJh
 try simp only[← dn]
 simp only[Int.toNat_natCast,ifB_iff,side_iff,decide_eq_true_eq,decide_eq_false_iff_not,true_and,and_true,exists_const]
 simp only[maxLen] at hl
 refine⟨⟨0,⟨Nat.zero_le _,by simp⟩,rfl⟩,fun i hh=>⟨fun hlt=>?_,fun hge=>(hh.done hge).symm⟩⟩
 have hlt':i<l.length:=by omega
 obtain ⟨s1,s2⟩:=hh.step hlt'
 have hm:l.getD i default∈l:=by rw[List.getD_eq_getElem?_getD,List.getElem?_eq_getElem hlt'];exact List.getElem_mem hlt'
 refine⟨⟨by omega,hlt⟩,l.getD i default,?_,fun _ _=>⟨fun e=>(s1 e).symm,fun e=>⟨i+1,s2 e,by omega,wrap_i64' (by omega) (by omega)⟩⟩⟩
 first
  |exact⟨wkL_refl _,hm,rfl⟩
  |exact⟨wkL_refl _,hm⟩
def conPxc(xi:Nat)(xk:Nat)(q:Int)(l:List Sm)(p:Sm→Bool):Con:=fun k ds S=>match k with
 |105=>some (pA ds S (.int .i64 (idxG p l 0)) (wkL ds [gsl 34 Sm.row1 l,.fn (.func 84) [] [.ref 1 xi 0]]∧S=⟨[(1,xi,.cells [.fn (.func 82) [] [.ref 0 xk 0,.ref 1 xi 0]]),(0,xk,.cells [.int .i64 q])],[]⟩))
 |_=>none
noncomputable def EPxc(xi:Nat)(xk:Nat)(q:Int)(l:List Sm)(p:Sm→Bool):Senv:=EC (conPxc xi xk q l p) 9 2 [4] (fun _=>([],[]))
def Quw:Nd:=Nd.mk Z0 Z0 Z0 [] Z0 Z0 DA [] [] Z0 Z0 Z0
def Qux(a:List Sm)(b:Nat):List D:=[D.sl (34:Nat) (LN a) (fun (i:Nat)=>Sm.row1 (List.getD a i (Sm.mk Z0 Z0 [] Z0 Quw Quw))) Mode.any,D.fn (Fn.func (84:Nat)) [] [D.ref N1 b N0]]
def Quy(a b:Nat):D:=D.fn (Fn.func (82:Nat)) [] [D.ref N0 a N0,D.ref N1 b N0]
def QJi(a b:Nat)(c:Int):St:=St.mk [(N1,a,AObj.cells [Quy b a]),(N0,b,AObj.cells [ZI c])] []
theorem Pxc_ok(xi : Nat)(xk : Nat)(q : Int)(l : List Sm)(p : Sm → Bool)(h : ∀b∈l, CS 84 (.agg b.row1::[.ref 1 xi 0]) ⟨[(1, xi, .cells [.fn (.func 82) [] [.ref 0 xk 0, .ref 1 xi 0]]), (0, xk, .cells [.int .i64 q])], []⟩ (.bool (p b)))(hl : l.length≤maxLen) :
  CS 83 [gsl 34 Sm.row1 l,.fn (.func 84) [] [.ref 1 xi 0]] ⟨[(1,xi,.cells [.fn (.func 82) [] [.ref 0 xk 0,.ref 1 xi 0]]),(0,xk,.cells [.int .i64 q])],[]⟩ (.bool (l.any p)):=by
 refine CS.of (con_of (A:=sS _ _ _) (x:=()) (E:=EPxc xi xk q l p) (eOk ?_ rfl) Tryz.func83 rfl (by kernel_rfl) rfl (by simp[sS,EPxc,EC,E0]) ?_)
 ·intro k ds S A hh
  try unfold conPxc at hh
  try dsimp only at hh
  split at hh
  ·injection hh with hh;subst hh
   refine pA_ok fun ⟨e,hs⟩=>?_
   rw[hs]
   exact (Pxx_ok xi xk q l p h hl).wk e
  ·cases hh
 refine vc_eq (T :=
  ∃(x:Unit),(wkL (Qux l xi) (Qux l xi)∧SM (QJi xi xk q))∧∀(y:Unit),True→True∧∃(y:Unit),True∧decide (Z0≤idxG p l Z0)=List.any l p∧(SM xi∧(SM (Quy xk xi)∧True)∧SM xk∧(SM q∧True)∧True)∧True) (by kernel_rfl) ?_
 delta DA LN N0 N1 SM Z0 ZI Quw Qux Quy QJi
 simp only[true_and,and_true,exists_const,forall_const]
 first
  |exact⟨wkL_refl _,idxG_any _ l 0 (Int.le_refl _)⟩
  |exact⟨⟨wkL_refl _,rfl⟩,idxG_any _ l 0 (Int.le_refl _)⟩
theorem inner_sz{n b:Nd}(h:b∈innerN n):szN b<szN n:=by
 have:=szL_mem h
 rw[szN_inner n]
 omega
theorem sm_kid{n b:Nd}(h:n.sm)(hb:b∈innerN n):b.sm:=by
 cases n with
 |mk kd at_ cl tx pr op va ki bo de sl ss =>
  simp only[Nd.sm] at h
  obtain ⟨_,_,h1,h2⟩:=h
  rcases List.mem_append.1 hb with hb | hb
  ·exact (ndsSm_iff _).1 h1 b hb
  ·obtain ⟨s,hs,hb⟩:=List.mem_flatMap.1 hb
   have h3:=(smsSm_iff _).1 h2 s hs
   cases s with
   |mk k2 a2 nm s2 te nd =>
    simp only[Sm.sm] at h3
    unfold partsS at hb
    split at hb
    ·rcases List.mem_cons.1 hb with rfl | hb
     ·exact h3.2.1
     ·rcases List.mem_cons.1 hb with rfl | hb
      ·exact h3.2.2
      ·cases hb
    ·rcases List.mem_cons.1 hb with rfl | hb
     ·exact h3.2.2
     ·cases hb
theorem sm_len{n:Nd}(h:n.sm):n.tx.length≤maxB∧n.ki.length≤maxB∧n.bo.length≤maxB:=by
 cases n with
 |mk kd at_ cl tx pr op va ki bo de sl ss =>
  simp only[Nd.sm] at h
  exact h.1
theorem sm_inner{n:Nd}(h:n.sm):(innerN n).length≤maxLen:=by
 obtain ⟨_,h1,h2⟩:=sm_len h
 have:=inner_len n
 unfold maxB at h1 h2
 unfold maxLen
 omega
def deepB(n:Nd)(m:Int):Bool:=decide (m<(dpN n:Int))
theorem deep_any(m:Int):∀l:List Nd,(l.any fun b=>deepB b m)=true↔(l≠[]∧m<(dpL l:Int))
 | []=>by simp
 | [x]=>by
  simp only[List.any_cons,List.any_nil,Bool.or_false,deepB,decide_eq_true_eq,dpL]
  have:=dpN_pos x
  constructor
  ·intro h;exact⟨by simp,by omega⟩
  ·rintro ⟨_,h⟩;omega
 |x::y::r=>by
  have ih:=deep_any m (y::r)
  have e:dpL (x::y::r)=max (dpN x) (dpL (y::r)):=by simp only[dpL]
  rw[List.any_cons,Bool.or_eq_true,ih,e]
  simp only[deepB,decide_eq_true_eq,ne_eq,reduceCtorEq,not_false_eq_true,true_and]
  omega
theorem deep_eq(n:Nd)(m:Int):deepB n m=(decide (m<1)||(innerN n).any fun b=>deepB b (m-1)):=by
 rw[Bool.eq_iff_iff,Bool.or_eq_true,deep_any,decide_eq_true_eq]
 unfold deepB
 rw[decide_eq_true_eq,dpN_inner n]
 cases hi:innerN n with
 |nil =>
  simp only[dpL,ne_eq,not_true_eq_false,false_and,or_false]
  omega
 |cons x r =>
  simp only[ne_eq,reduceCtorEq,not_false_eq_true,true_and]
  have:=dpN_pos x
  have:dpN x≤dpL (x::r):=dpL_mem (by simp)
  omega
def conD1(b:Nd)(m:Int):Con:=fun k ds S=>match k with
 |34=>some (pA ds S (.bool (deepB b m)) (isN b ds [.int .i64 m]))
 |_=>none
noncomputable def Ed1(b:Nd)(m:Int):Senv:=EC (conD1 b (m-1)) 8 4 [] (fun _=>([],[]))
def Qk3(a:Nd):Arr:=Nd.va a
def QJj(a:Nd):List Int:=Arr.sh (Qk3 a)
def QJk(a:Nd):List Int:=Arr.nu (Qk3 a)
def Quz(a:Nd):List Arr:=Arr.it (Qk3 a)
def QuA:Arr:=DA
def QoW:Nd:=Nd.mk Z0 Z0 Z0 [] Z0 Z0 QuA [] [] Z0 Z0 Z0
theorem d1_ok(b : Nd)(m : Int)(hm : inI64 m)(h1 : 1≤m)(h : CD 34 [.agg b.row1, .int .i64 (m-1)] (.bool (deepB b (m-1))))(xm : Nat) :
  CS 55 [.agg b.row1,.ref 1 xm 0] ⟨[(1,xm,.cells [.int .i64 m])],[]⟩ (.bool (deepB b (m-1))):=by
 refine CS.of (con_of (A:=sS _ _ _) (x:=()) (E:=Ed1 b m) (eOk ?_ rfl) Tryz.func55 rfl (by kernel_rfl) rfl (by simp[sS,Ed1,EC,E0]) ?_)
 ·intro k ds S A hh
  try unfold conD1 at hh
  try dsimp only at hh
  split at hh
  ·injection hh with hh;subst hh
   exact pA_ok fun e=>CD.at_ (h.wk e) _
  ·cases hh
 refine vc_eq (T :=
  ∀(x:Nat),xm≠x∧True→SM x∧SM xm∧∃(x:Unit),isN b [D.agg [ZI (Nd.kd b),ZI (Nd.at_ b),ZI (Nd.cl b),D.str (Nd.tx b),ZI (Nd.pr b),ZI (Nd.op b),ZI (Arr.k (Qk3 b)),SI (QJj b),SI (QJk b),D.sl N4 (LN (Quz b)) (fun (i:Nat)=>Arr.row (List.getD (Quz b) i QuA)) Mode.any,D.sl (15:Nat) (LN (Nd.ki b)) (fun (i:Nat)=>Nd.row (List.getD (Nd.ki b) i QoW)) Mode.any,D.sl (34:Nat) (LN (Nd.bo b)) (fun (i:Nat)=>Sm.row (List.getD (Nd.bo b) i (Sm.mk Z0 Z0 [] Z0 QoW QoW))) Mode.any,ZI (Nd.de b),ZI (Nd.sl b),ZI (Nd.ss b)],ZI (IntKind.wrap IntKind.i64 (m-Z1))] [ZI (m-Z1)]∧∀(y:Unit),True→True∧∃(y:Unit),True∧SM (deepB b (m-Z1))∧(SM xm∧(SM m∧True)∧True)∧True) (by kernel_rfl) ?_
 delta DA GI LN N1 N4 SI SM Z0 Z1 ZI Qk3 QJj QJk Quz QuA QoW
 simp only[eq_self,ne_eq,implies_true,true_and,and_true,exists_const]
 have w:IntKind.i64.wrap (m-1)=m-1:=by unfold inI64 at hm;exact wrap_i64' (by omega) (by omega)
 rw[w]
 exact fun _ _=>nd_self _ _
def conDe(n:Nd)(m:Int):Con:=fun k ds S=>match k with
 |31=>some (pA ds S (gsl 15 Nd.row1 (innerN n)) (isN2 n ds []))
 |54=>match ds with
  | [_,.fn _ _ [.ref _ xm _]]=>some (pA ds S (.bool ((innerN n).any fun b=>deepB b (m-1))) (1≤m∧wkL ds [gsl 15 Nd.row1 (innerN n),.fn (.func 55) [] [.ref 1 xm 0]]∧∃F,S=St.add ⟨[(1,xm,.cells [.int .i64 m])],[]⟩ F))
  |_=>none
 |_=>none
noncomputable def Ede(n:Nd)(m:Int):Senv:=EC (conDe n m) 13 5 [] (fun _=>([],[]))
def Qk4(a:Nd):Arr:=Nd.va a
def QJl(a:Nd):List Int:=Arr.sh (Qk4 a)
def QJm(a:Nd):List Int:=Arr.nu (Qk4 a)
def QuB(a:Nd):List Arr:=Arr.it (Qk4 a)
def QuC:Arr:=DA
def Qk5:Nd:=Nd.mk Z0 Z0 Z0 [] Z0 Z0 QuC [] [] Z0 Z0 Z0
def QuD(a:Nd):List D:=[ZI (Nd.kd a),ZI (Nd.at_ a),ZI (Nd.cl a),D.str (Nd.tx a),ZI (Nd.pr a),ZI (Nd.op a),ZI (Arr.k (Qk4 a)),SI (QJl a),SI (QJm a),D.sl N4 (LN (QuB a)) (fun (i:Nat)=>Arr.row (List.getD (QuB a) i QuC)) Mode.any,D.sl (15:Nat) (LN (Nd.ki a)) (fun (i:Nat)=>Nd.row1 (List.getD (Nd.ki a) i Qk5)) Mode.any,D.sl (34:Nat) (LN (Nd.bo a)) (fun (i:Nat)=>Sm.row1 (List.getD (Nd.bo a) i (Sm.mk Z0 Z0 [] Z0 Qk5 Qk5))) Mode.any,ZI (Nd.de a),ZI (Nd.sl a),ZI (Nd.ss a)]
def QoX(a:Nd):List Nd:=innerN a
def QuE(a:Nd):D:=D.sl (15:Nat) (LN (QoX a)) (fun (i:Nat)=>Nd.row1 (List.getD (QoX a) i Qk5)) Mode.any
theorem de_step(n : Nd)(m : Int)(hn : n.sm)(hm : inI64 m)(h : 1≤m → ∀b∈innerN n, CD 34 [.agg b.row1, .int .i64 (m-1)] (.bool (deepB b (m-1)))) :
  CD 34 [.agg n.row2,.int .i64 m] (.bool (deepB n m)):=by
 obtain ⟨_,k1,k2⟩:=sm_len hn
 refine con_of (A:=sC _ _) (x:=()) (E:=Ede n m) (eOk ?_ rfl) Tryz.func34 rfl (by kernel_rfl) rfl (by simp[sC,Ede,EC,E0]) ?_
 ·intro k ds S A hh
  try unfold conDe at hh
  try dsimp only at hh
  split at hh
  ·injection hh with hh;subst hh
   exact pA_ok fun e=>CD.at_ (CD.wk (in0_ok n k1 k2) e) _
  ·split at hh
   ·injection hh with hh;subst hh
    refine pA_ok fun ⟨h1,e,F,hS⟩=>?_
    rw[hS]
    exact CS.frame F (CS.wk (Dxc_ok _ m (innerN n) (fun b=>deepB b (m-1)) (fun b hb=>d1_ok b m hm h1 (h h1 b hb) _) (sm_inner hn)) e)
   ·cases hh
  ·cases hh
 refine vc_eq (T :=
  ∀(x:Nat),True→∀(x_1:Nat),x≠x_1∧True→SM x_1∧ifB (decide (m<Z1)) (RT (true=deepB n m)) (SM x∧∃(x_2:Unit),isN2 n [D.agg (QuD n)] []∧∀(y:Unit),True→∃(x_3:Unit),(Z1≤m∧wkL [QuE n,D.fn (Fn.func (55:Nat)) [] [D.ref (max (N0+N1) N0) x_1 N0]] [QuE n,D.fn (Fn.func (55:Nat)) [] [D.ref N1 x_1 N0]]∧∃(F:St),St.mk [(max (N0+N1) N0,x_1,AObj.cells [ZI m]),(N0,x,AObj.cells (QuD n))] []=St.mk ((N1,x_1,AObj.cells [ZI m])::List.append [] (St.objs F)) ([]++St.toks F))∧∀(y:Unit),True→RT ((List.any (QoX n) fun (b:Nd)=>deepB b (m-Z1))=deepB n m))) (by kernel_rfl) ?_
 delta DA GI LN N0 N1 N4 SI SM Z0 Z1 ZI QuC Qk5 QuD QoX QuE Qk4 QJl QJm QuB RT
 simp only[eq_self,ne_eq,ifB_iff,decide_eq_true_eq,decide_eq_false_iff_not,true_and,and_true,exists_const,forall_const]
 rw[deep_eq]
 exact fun x x1 _=>⟨fun h=>by simp[h],fun h=>⟨nd2_self n _,⟨by omega,wkL_refl _,⟨⟨[_],[]⟩,rfl⟩⟩,by simp[h]⟩⟩
theorem de_ok(n:Nd)(m:Int)(hn:n.sm)(hm:inI64 m):CD 34 [.agg n.row2,.int .i64 m] (.bool (deepB n m)):=by
 refine de_step n m hn hm fun h1 b hb=>CD.down (de_ok b (m-1) (sm_kid hn hb) ?_)
 unfold inI64 at hm ⊢
 omega
termination_by szN n
decreasing_by exact inner_sz hb
def ocSt(xi xk:Nat)(q:Int):St:=⟨[(1,xi,.cells [.fn (.func 82) [] [.ref 0 xk 0,.ref 1 xi 0]]),(0,xk,.cells [.int .i64 q])],[]⟩
theorem kid_inner{n b:Nd}(h:b∈n.ki):b∈innerN n:=List.mem_append.2 (.inl h)
def conO1(l:List Nd)(xi xk:Nat)(q:Int):Con:=fun k ds S=>match k with
 |33=>some (pE (β:=Sm) ds S (fun s=>gsl 15 Nd.row1 (partsS s)) (fun s=>isS s ds []))
 |54=>some (pA ds S (.bool (l.any (occN q))) (wkL ds [gsl 15 Nd.row1 l,.fn (.func 82) [] [.ref 0 xk 0,.ref 1 xi 0]]∧∃o,S=⟨o::(ocSt xi xk q).objs,[]⟩))
 |_=>none
theorem conO1_ok{l:List Nd}{xi xk:Nat}{q:Int}(hn:l.length≤maxLen)(h:∀b∈l,CS 82 [.agg b.row1,.ref 0 xk 0,.ref 1 xi 0] (ocSt xi xk q) (.bool (occN q b))):ConOk Tryz.prog (conO1 l xi xk q):=by
 intro k ds S A hh
 unfold conO1 at hh
 split at hh
 ·injection hh with hh;subst hh
  exact pS_ok fun s e=>CD.at_ (CD.wk (pa_ok s) e) _
 ·injection hh with hh;subst hh
  refine pA_ok fun ⟨e,o,hS⟩=>?_
  rw[hS]
  exact CS.front o (CS.wk (Oxc_ok xi xk q l (occN q) h hn) e)
 ·cases hh
noncomputable def Eo1(l:List Nd)(xi xk:Nat)(q:Int):Senv:=EC (conO1 l xi xk q) 20 5 [] (fun _=>([],[]))
def QoY(a:Nd):Int:=Nd.kd a
def QuF(a b:Nat):D:=D.fn (Fn.func (82:Nat)) [] [D.ref N0 a N0,D.ref N1 b N0]
def QoZ(a b:Nat)(c:Int):Prop:=(SM a∧(SM (QuF b a)∧True)∧SM b∧(SM c∧True)∧True)∧True
def Qo0(a:Nd):List Nd:=Nd.ki a
def QuG:Arr:=DA
def Qo1:Nd:=Nd.mk Z0 Z0 Z0 [] Z0 Z0 QuG [] [] Z0 Z0 Z0
def QuH(a:Nd):D:=D.sl (15:Nat) (LN (Qo0 a)) (fun (i:Nat)=>Nd.row1 (List.getD (Qo0 a) i Qo1)) Mode.any
def QuI(a b:Nat):List D:=[QuF a b]
def QuJ(a:Nd)(b c:Nat):List D:=QuH a::QuI b c
def Qk6(a:Nd):Arr:=Nd.va a
def QJn(a:Nd):List Int:=Arr.sh (Qk6 a)
def QJo(a:Nd):List Int:=Arr.nu (Qk6 a)
def QuK(a:Nd):List Arr:=Arr.it (Qk6 a)
def QuL(a b:Nat)(c:Int):List (Nat×Nat×AObj):=[(N1,a,AObj.cells (QuI b a)),(N0,b,AObj.cells [ZI c])]
theorem o1_step(n : Nd)(xi xk : Nat)(q : Int)(hn : n.ki.length≤maxLen)(h : ∀b∈n.ki, CS 82 [.agg b.row1, .ref 0 xk 0, .ref 1 xi 0] (ocSt xi xk q) (.bool (occN q b))) :
  CS 82 [.agg n.row2,.ref 0 xk 0,.ref 1 xi 0] (ocSt xi xk q) (.bool (occN q n)):=by
 refine CS.of (con_of (A:=sS _ _ _) (x:=()) (E:=Eo1 n.ki xi xk q) (eOk (conO1_ok hn h) rfl) Tryz.func82 rfl (by kernel_rfl) rfl (by simp[sS,Eo1,EC,E0]) ?_)
 refine vc_eq (T :=
  ∀(x:Nat),xi≠x∧xk≠x∧True→SM x∧SM xk∧ifB (QoY n==q) (True∧∃(y:Unit),True∧true=occN q n∧QoZ xi xk q) (SM x∧ifB (QoY n != (10:Int)) (SM x∧SM xi∧∃(x_1:Unit),(wkL (QuJ n xk xi) (QuJ n xk xi)∧∃(o:Nat×Nat×AObj),St.mk ((N2,x,AObj.cells [ZI (QoY n),ZI (Nd.at_ n),ZI (Nd.cl n),D.str (Nd.tx n),ZI (Nd.pr n),ZI (Nd.op n),ZI (Arr.k (Qk6 n)),SI (QJn n),SI (QJo n),D.sl N4 (LN (QuK n)) (fun (i:Nat)=>Arr.row (List.getD (QuK n) i QuG)) Mode.any,QuH n,D.sl (34:Nat) (LN (Nd.bo n)) (fun (i:Nat)=>Sm.row1 (List.getD (Nd.bo n) i (Sm.mk Z0 Z0 [] Z0 Qo1 Qo1))) Mode.any,ZI (Nd.de n),ZI (Nd.sl n),ZI (Nd.ss n)])::QuL xi xk q) []=St.mk (o::QuL xi xk q) [])∧∀(y:Unit),True→True∧∃(y:Unit),True∧List.any (Qo0 n) (occN q)=occN q n∧QoZ xi xk q) (True∧∃(y:Unit),True∧false=occN q n∧QoZ xi xk q))) (by kernel_rfl) ?_
 delta DA GI LN N0 N1 N2 N4 SI SM Z0 ZI QoY QuF QJn QJo QuK QuL QoZ Qo0 QuG Qo1 QuH QuI QuJ Qk6
 try simp only[← dm]
 try simp only[← dn]
 simp only[ne_eq,ifB_iff,true_and,and_true,beq_iff_eq,bne_iff_ne,bne_eq_false_iff_eq,beq_eq_false_iff_ne,exists_const,forall_const,Prod.exists]
 have e:=occN_eq q n
 refine fun x _=>⟨fun h=>?_,fun h=>⟨fun h2=>⟨⟨wkL_refl _,_,_,_,rfl⟩,?_⟩,fun h2=>?_⟩⟩
 ·rw[e,h];simp
 ·have h3:(n.kd==q)=false:=by simpa using h
  have h4:(n.kd != 10)=true:=by simpa using h2
  rw[e,h3,h4];simp
 ·have h3:(n.kd==q)=false:=by simpa using h
  rw[e,h3,h2];simp
theorem o1_ok(n:Nd)(xi xk:Nat)(q:Int)(hn:n.sm):CS 82 [.agg n.row2,.ref 0 xk 0,.ref 1 xi 0] (ocSt xi xk q) (.bool (occN q n)) :=
 o1_step n xi xk q (maxB_le (sm_len hn).2.1) fun b hb=>CS.wk (o1_ok b xi xk q (sm_kid hn (kid_inner hb))) (by simp only[wkL,wkD];exact⟨nd1_wk _,by simp[weakD,chk_iff],by simp[weakD,chk_iff],trivial⟩)
termination_by szN n
decreasing_by exact inner_sz (kid_inner hb)
theorem o1_row(n:Nd)(xi xk:Nat)(q:Int)(hn:n.sm):CS 82 [.agg n.row1,.ref 0 xk 0,.ref 1 xi 0] (ocSt xi xk q) (.bool (occN q n)) :=
 CS.wk (o1_ok n xi xk q hn) (by simp only[wkL,wkD];exact⟨nd1_wk _,by simp[weakD,chk_iff],by simp[weakD,chk_iff],trivial⟩)
theorem sm_parts{s:Sm}(h:s.sm):∀b∈partsS s,b.sm:=by
 cases s with
 |mk kd at_ nm sl te nd =>
  simp only[Sm.sm] at h
  intro b hb
  unfold partsS at hb
  split at hb
  ·rcases List.mem_cons.1 hb with rfl | hb
   ·exact h.2.1
   ·rcases List.mem_cons.1 hb with rfl | hb
    ·exact h.2.2
    ·cases hb
  ·rcases List.mem_cons.1 hb with rfl | hb
   ·exact h.2.2
   ·cases hb
noncomputable def Eo2(s:Sm)(xi xk:Nat)(q:Int):Senv:=EC (conO1 (partsS s) xi xk q) 8 4 [] (fun id=>match id with | 1=>([0,2,1,3,4],[1,3]) | _=>([],[]))
def Z6(a:Sm):Nd:=Sm.te a
def Qk7(a:Sm):Arr:=Nd.va (Z6 a)
def QJp(a:Sm):List Int:=Arr.sh (Qk7 a)
def QJq(a:Sm):List Int:=Arr.nu (Qk7 a)
def QuM(a:Sm):List Arr:=Arr.it (Qk7 a)
def Qo2:Arr:=DA
def QuN(a:Sm):List Nd:=Nd.ki (Z6 a)
def Qjr:Nd:=Nd.mk Z0 Z0 Z0 [] Z0 Z0 Qo2 [] [] Z0 Z0 Z0
def QuO(a:Sm):List Sm:=Nd.bo (Z6 a)
def QuP:Sm:=Sm.mk Z0 Z0 [] Z0 Qjr Qjr
def Z7(a:Sm):Nd:=Sm.nd a
def Qk8(a:Sm):Arr:=Nd.va (Z7 a)
def QJr(a:Sm):List Int:=Arr.sh (Qk8 a)
def QJs(a:Sm):List Int:=Arr.nu (Qk8 a)
def QuQ(a:Sm):List Arr:=Arr.it (Qk8 a)
def QuR(a:Sm):List Nd:=Nd.ki (Z7 a)
def QuS(a:Sm):List Sm:=Nd.bo (Z7 a)
def QuT(a:Sm):List D:=[ZI (Sm.kd a),ZI (Sm.at_ a),D.str (Sm.nm a),ZI (Sm.sl a),ZI (Nd.kd (Z6 a)),ZI (Nd.at_ (Z6 a)),ZI (Nd.cl (Z6 a)),D.str (Nd.tx (Z6 a)),ZI (Nd.pr (Z6 a)),ZI (Nd.op (Z6 a)),ZI (Arr.k (Qk7 a)),SI (QJp a),SI (QJq a),D.sl N4 (LN (QuM a)) (fun (i:Nat)=>Arr.row (List.getD (QuM a) i Qo2)) Mode.any,D.sl (15:Nat) (LN (QuN a)) (fun (i:Nat)=>Nd.row (List.getD (QuN a) i Qjr)) Mode.any,D.sl (34:Nat) (LN (QuO a)) (fun (i:Nat)=>Sm.row (List.getD (QuO a) i QuP)) Mode.any,ZI (Nd.de (Z6 a)),ZI (Nd.sl (Z6 a)),ZI (Nd.ss (Z6 a)),ZI (Nd.kd (Z7 a)),ZI (Nd.at_ (Z7 a)),ZI (Nd.cl (Z7 a)),D.str (Nd.tx (Z7 a)),ZI (Nd.pr (Z7 a)),ZI (Nd.op (Z7 a)),ZI (Arr.k (Qk8 a)),SI (QJr a),SI (QJs a),D.sl N4 (LN (QuQ a)) (fun (i:Nat)=>Arr.row (List.getD (QuQ a) i Qo2)) Mode.any,D.sl (15:Nat) (LN (QuR a)) (fun (i:Nat)=>Nd.row (List.getD (QuR a) i Qjr)) Mode.any,D.sl (34:Nat) (LN (QuS a)) (fun (i:Nat)=>Sm.row (List.getD (QuS a) i QuP)) Mode.any,ZI (Nd.de (Z7 a)),ZI (Nd.sl (Z7 a)),ZI (Nd.ss (Z7 a))]
def QuU(a b:Nat):D:=D.fn (Fn.func (82:Nat)) [] [D.ref N0 a N0,D.ref N1 b N0]
def QuV(a b:Nat):Prop:=SM (QuU a b)
def Qo3(a:Sm):List Nd:=partsS a
def QuW(a b:Nat):List D:=[QuU a b]
def QuX(a:Sm)(b c:Nat):List D:=D.sl (15:Nat) (LN (Qo3 a)) (fun (i:Nat)=>Nd.row1 (List.getD (Qo3 a) i Qjr)) Mode.any::QuW b c
def QuY(a b:Nat)(c:Int):List (Nat×Nat×AObj):=[(N1,a,AObj.cells (QuW b a)),(N0,b,AObj.cells [ZI c])]
def QJt(a:Sm)(b:Int):Bool:=List.any (Qo3 a) (occN b)
theorem o2_ok(s:Sm)(xi xk:Nat)(q:Int)(hs:s.sm):CS 84 [.agg s.row1,.ref 1 xi 0] (ocSt xi xk q) (.bool ((partsS s).any (occN q))):=by
 have h2:=parts_two s
 refine CS.of (con_of (A:=sS _ _ _) (x:=()) (E:=Eo2 s xi xk q) (eOk (conO1_ok (by unfold maxLen;omega) fun b hb=>o1_row b xi xk q (sm_parts hs b hb)) rfl) Tryz.func84 rfl (by kernel_rfl) rfl (by simp[sS,Eo2,EC,E0]) ?_)
 refine vc_eq (T :=
  ∀(x:Nat),xi≠x∧xk≠x∧True→SM x∧SM xi∧∃(x_1:Sm),isS x_1 [D.agg (QuT s)] []∧∀(y:Unit),True→(SM xi∧QuV xk xi)∧∃(x_2:Unit),(wkL (QuX x_1 xk xi) (QuX s xk xi)∧∃(o:Nat×Nat×AObj),St.mk ((N2,x,AObj.cells (QuT s))::QuY xi xk q) []=St.mk (o::QuY xi xk q) [])∧∀(y:Unit),True→True∧∃(y:Unit),True∧SM (QJt s q)∧(SM xi∧(QuV xk xi∧True)∧SM xk∧(SM q∧True)∧True)∧True) (by kernel_rfl) ?_
 delta DA GI LN N0 N1 N2 N4 SI SM Z0 ZI Z6 Qk7 QJp QJq QuM Qo2 QuN Qjr QuO QuP Z7 Qk8 QJr QJs QuQ QuR QuS QuT QuU QuV Qo3 QuW QuX QuY QJt
 try simp only[← dm]
 try simp only[← dn]
 simp only[ne_eq,implies_true,true_and,and_true,exists_const,forall_const,Prod.exists]
 refine fun x _=>?_
 first
  |exact⟨s,sm_self _ _,⟨wkL_refl _,_,_,_,rfl⟩⟩
  |exact⟨⟨s,sm_self _ _,⟨wkL_refl _,_,_,_,rfl⟩⟩,s,sm_self _ _,⟨wkL_refl _,_,_,_,rfl⟩⟩
def conOc(l:List Sm)(q:Int):Con:=fun k ds S=>match k with
 |83=>match ds with
  | [_,.fn _ _ [.ref _ xi _]]=>some (pE (β:=Nat) ds S (fun _=>.bool (occB l q)) (fun xk=>wkL ds [gsl 34 Sm.row1 l,.fn (.func 84) [] [.ref 1 xi 0]]∧S=ocSt xi xk q))
  |_=>none
 |_=>none
noncomputable def Eoc(l:List Sm)(q:Int):Senv:=EC (conOc l q) 10 2 [3,4,5] (fun _=>([],[]))
def QuZ:Nd:=Nd.mk Z0 Z0 Z0 [] Z0 Z0 DA [] [] Z0 Z0 Z0
def Qu0(a:List Sm)(b:Nat):List D:=[D.sl (34:Nat) (LN a) (fun (i:Nat)=>Sm.row1 (List.getD a i (Sm.mk Z0 Z0 [] Z0 QuZ QuZ))) Mode.any,D.fn (Fn.func (84:Nat)) [] [D.ref N1 b N0]]
def Qu1(a b:Nat)(c:Int):St:=St.mk [(N1,a,AObj.cells [D.fn (Fn.func (82:Nat)) [] [D.ref N0 b N0,D.ref N1 a N0]]),(N0,b,AObj.cells [ZI c])] []
theorem oc_ok(l:List Sm)(q:Int)(hl:l.length≤maxLen)(h:∀s∈l,s.sm):CD 49 [gsl 34 Sm.row1 l,.int .i64 q] (.bool (occB l q)):=by
 refine con_of (A:=sC _ _) (x:=()) (E:=Eoc l q) (eOk ?_ rfl) Tryz.func49 rfl (by kernel_rfl) rfl (by simp[sC,Eoc,EC,E0]) ?_
 ·intro k ds S A hh
  try unfold conOc at hh
  try dsimp only at hh
  split at hh
  ·split at hh
   ·injection hh with hh;subst hh
    refine pS_ok fun xk ⟨e,hS⟩=>?_
    rw[hS]
    exact CS.wk (Pxc_ok _ xk q l (fun s=>(partsS s).any (occN q)) (fun s hs=>o2_ok s _ xk q (h s hs)) hl) e
   ·cases hh
  ·cases hh
 refine vc_eq (T :=
  ∀(x:Nat),True→∀(x_1:Nat),x≠x_1∧True→SM x_1∧∃(x_2:Nat),(wkL (Qu0 l x_1) (Qu0 l x_1)∧Qu1 x_1 x q=Qu1 x_1 x_2 q)∧∀(y:Unit),True→RT (SM (occB l q))) (by kernel_rfl) ?_
 delta DA LN N0 N1 SM Z0 ZI QuZ Qu0 Qu1 RT
 try simp only[← dm]
 try simp only[← dn]
 simp only[ne_eq,implies_true,true_and,and_true,exists_const,forall_const]
 refine fun x x1 _=>⟨x,wkL_refl _,?_⟩
 first
  |rfl
  |exact⟨rfl,rfl⟩
def ouSt(xl:Nat)(l:List Sm):St:=⟨[(0,xl,.cells [gsl 34 Sm.row1 l])],[]⟩
def conU1(l:List Sm)(q:Int):Con:=fun k ds S=>match k with
 |49=>some (pA ds S (.bool (occB l q)) (wkL ds [gsl 34 Sm.row1 l,.int .i64 q]))
 |_=>none
noncomputable def Eu1(l:List Sm)(q:Int):Senv:=EC (conU1 l q) 7 2 [3] (fun _=>([],[]))
def Qu2:Nd:=Nd.mk Z0 Z0 Z0 [] Z0 Z0 DA [] [] Z0 Z0 Z0
def Qu3(a:List Sm)(b:Nat):List D:=Sm.row1 (List.getD a b (Sm.mk Z0 Z0 [] Z0 Qu2 Qu2))
def Qu4(a:List Sm)(b:Int):List D:=[D.sl (34:Nat) (LN a) (fun (i:Nat)=>Qu3 a i) Mode.any,ZI b]
theorem u1_ok(l:List Sm)(q:Int)(hl:l.length≤maxLen)(h:∀s∈l,s.sm)(xl:Nat):CS 48 [.int .i64 q,.ref 0 xl 0] (ouSt xl l) (.bool (occB l q)):=by
 refine CS.of (con_of (A:=sS _ _ _) (x:=()) (E:=Eu1 l q) (eOk ?_ rfl) Tryz.func48 rfl (by kernel_rfl) rfl (by simp[sS,Eu1,EC,E0]) ?_)
 ·intro k ds S A hh
  try unfold conU1 at hh
  try dsimp only at hh
  split at hh
  ·injection hh with hh;subst hh
   exact pA_ok fun e=>CD.at_ (CD.wk (oc_ok l q hl h) e) _
  ·cases hh
 refine vc_eq (T :=
  SM xl∧∃(x:Unit),wkL (Qu4 l q) (Qu4 l q)∧∀(y:Unit),True→True∧∃(y:Unit),True∧SM (occB l q)∧(SM xl∧((SM (LN l)∧(∀(i:Nat),i<LN l→SM (Qu3 l i))∧True)∧True)∧True)∧True) (by kernel_rfl) ?_
 delta DA LN SM Z0 ZI Qu2 Qu3 Qu4
 try simp only[← dm]
 try simp only[← dn]
 simp only[implies_true,true_and,and_true,exists_const]
 first
  |exact wkL_refl _
  |exact fun _=>wkL_refl _
def conUx(l:List Sm)(xl:Nat):Con:=fun k ds S=>match k with
 |48=>match ds with
  | [.int .i64 q,_]=>some (pA ds S (.bool (occB l q)) (wkL ds [.int .i64 q,.ref 0 xl 0]∧S=ouSt xl l))
  |_=>none
 |_=>none
noncomputable def Eux(l:List Sm)(xl:Nat)(m:List Int):Senv:={ EC (conUx l xl) 19 2 [4,5,7,8,9,16] (fun _=>([],[])) with
 ann:=fun b _ S=>match b with
  |0=>some { slots:=[8],keep:=[0,1,6,7],α:=Nat,st:=fun i=>([.int .i64 i],S),inv:=fun i=>IdxG (fun q=>occB l q) m i,mu:=fun i=>m.length-i }
  |_=>none }
def Qo4(a:List Sm)(b:List Int)(c:Nat):Prop:=IdxG (fun (q:Int)=>occB a q) b c
def Qu5:Nd:=Nd.mk Z0 Z0 Z0 [] Z0 Z0 DA [] [] Z0 Z0 Z0
def Qu6(a:List Sm)(b:Nat):List D:=Sm.row1 (List.getD a b (Sm.mk Z0 Z0 [] Z0 Qu5 Qu5))
def Qk9(a:Nat)(b:List Sm):Prop:=(SM a∧((SM (LN b)∧(∀(i:Nat),i<LN b→SM (Qu6 b i))∧True)∧True)∧True)∧True
def QJu(a:Nat)(b:List Sm):St:=St.mk [(N0,a,AObj.cells [D.sl (34:Nat) (LN b) (fun (i:Nat)=>Qu6 b i) Mode.any])] []
def Qu7(a:List Sm)(b:List Int):Int:=idxG (fun (q:Int)=>occB a q) b Z0
def QJv(a:List Int):D:=SI a
theorem ux_ok(l : List Sm)(xl : Nat)(m : List Int)(hl : l.length≤maxLen)(h : ∀s∈l, s.sm)(hm : m.length≤maxLen) :
  CS 81 [isl m .any,.fn (.func 48) [] [.ref 0 xl 0]] (ouSt xl l) (.int .i64 (idxG (fun q=>occB l q) m 0)):=by
 refine CS.of (con_of (A:=sS _ _ _) (x:=()) (E:=Eux l xl m) (eOk ?_ rfl) Tryz.func81 rfl (by kernel_rfl) rfl (by simp[sS,Eux,EC,E0]) ?_)
 ·intro k ds S A hh
  try unfold conUx at hh
  try dsimp only at hh
  split at hh
  ·split at hh
   ·injection hh with hh;subst hh
    refine pA_ok fun ⟨e,hS⟩=>?_
    rw[hS]
    exact CS.wk (u1_ok l _ hl h xl) e
   ·cases hh
  ·cases hh
 refine vc_eq (T :=
  (∃(x:Nat),Qo4 l m x∧(Z0=(↑x:Int)∧True)∧Qk9 xl l)∧∀(x:Nat),Qo4 l m x→ifB (decide ((↑x:Int)<(LI m))) (side (Z0≤(↑x:Int)∧(↑x:Int)<(LI m)) (∃(x_1:Unit),(wkL [ZI (GI m (Int.toNat (↑x:Int))),D.ref N0 xl N0] [ZI (GI m (Int.toNat (↑x:Int))),D.ref N0 xl N0]∧SM (QJu xl l))∧∀(y:Unit),True→ifB (occB l (GI m (Int.toNat (↑x:Int)))) (True∧∃(y:Unit),True∧(↑x:Int)=Qu7 l m∧Qk9 xl l) ((SM (QJv m)∧SM (D.fn (Fn.func (48:Nat)) [] [D.ref N0 xl N0])∧SM D.unk∧SM (ZI (LI m))∧True)∧∃(y:Nat),Qo4 l m y∧LN m-y<LN m-x∧(IntKind.wrap IntKind.i64 ((↑x:Int)+Z1)=(↑y:Int)∧True)∧Qk9 xl l))) (True∧∃(y:Unit),True∧(-1:Int)=Qu7 l m∧Qk9 xl l)) (by kernel_rfl) ?_
 delta DA GI LI LN N0 N1 SI SM Z0 Z1 ZI Qo4 Qu5 Qu6 Qk9 QJu Qu7 QJv
 try simp only[← dm]
 try simp only[← dn]
 simp only[implies_true,Int.toNat_natCast,ifB_iff,side_iff,decide_eq_true_eq,decide_eq_false_iff_not,true_and,and_true,exists_const,forall_const]
 simp only[maxLen] at hm
 refine⟨⟨0,⟨Nat.zero_le _,by simp⟩,rfl⟩,fun i hh=>⟨fun hlt=>?_,fun hge=>(hh.done hge).symm⟩⟩
 have hlt':i<m.length:=by omega
 obtain ⟨s1,s2⟩:=hh.step hlt'
 have e0:m.getD i default=m.getD i 0:=rfl
 rw[e0] at s1 s2
 refine⟨⟨by omega,hlt⟩,?_⟩
 exact⟨wkL_refl _,fun e=>(s1 e).symm,fun e=>⟨i+1,s2 e,by omega,wrap_i64' (by omega) (by omega)⟩⟩
def conUc(l:List Sm)(xl:Nat)(m:List Int):Con:=fun k ds S=>match k with
 |81=>some (pA ds S (.int .i64 (idxG (fun q=>occB l q) m 0)) (wkL ds [isl m .any,.fn (.func 48) [] [.ref 0 xl 0]]∧S=ouSt xl l))
 |_=>none
noncomputable def Euc(l:List Sm)(xl:Nat)(m:List Int):Senv:=EC (conUc l xl m) 9 2 [4] (fun _=>([],[]))
def Qu8(a:List Int)(b:Nat):List D:=[SI a,D.fn (Fn.func (48:Nat)) [] [D.ref N0 b N0]]
def Qu9:Nd:=Nd.mk Z0 Z0 Z0 [] Z0 Z0 DA [] [] Z0 Z0 Z0
def Qva(a:List Sm)(b:Nat):List D:=Sm.row1 (List.getD a b (Sm.mk Z0 Z0 [] Z0 Qu9 Qu9))
def QJw(a:Nat)(b:List Sm):St:=St.mk [(N0,a,AObj.cells [D.sl (34:Nat) (LN b) (fun (i:Nat)=>Qva b i) Mode.any])] []
theorem uc_ok(l : List Sm)(xl : Nat)(m : List Int)(hl : l.length≤maxLen)(h : ∀s∈l, s.sm)(hm : m.length≤maxLen) :
  CS 47 [isl m .any,.fn (.func 48) [] [.ref 0 xl 0]] (ouSt xl l) (.bool (m.any fun q=>occB l q)):=by
 refine CS.of (con_of (A:=sS _ _ _) (x:=()) (E:=Euc l xl m) (eOk ?_ rfl) Tryz.func47 rfl (by kernel_rfl) rfl (by simp[sS,Euc,EC,E0]) ?_)
 ·intro k ds S A hh
  try unfold conUc at hh
  try dsimp only at hh
  split at hh
  ·injection hh with hh;subst hh
   refine pA_ok fun ⟨e,hS⟩=>?_
   rw[hS]
   exact CS.wk (ux_ok l xl m hl h hm) e
  ·cases hh
 refine vc_eq (T :=
  ∃(x:Unit),(wkL (Qu8 m xl) (Qu8 m xl)∧SM (QJw xl l))∧∀(y:Unit),True→True∧∃(y:Unit),True∧(decide (Z0≤idxG (fun (q:Int)=>occB l q) m Z0)=List.any m fun (q:Int)=>occB l q)∧(SM xl∧((SM (LN l)∧(∀(i:Nat),i<LN l→SM (Qva l i))∧True)∧True)∧True)∧True) (by kernel_rfl) ?_
 delta DA GI LN N0 N1 SI SM Z0 ZI Qu8 Qu9 Qva QJw
 simp only[true_and,and_true,exists_const,forall_const]
 have e:=idxG_any (fun q=>occB l q) m 0 (Int.le_refl _)
 first
  |exact⟨wkL_refl _,e⟩
  |exact⟨⟨wkL_refl _,rfl⟩,e⟩
  |exact⟨wkL_refl _,e,fun _ _=>trivial⟩
def conOu(l:List Sm):Con:=fun k ds S=>match k with
 |47=>match ds with
  | [_,.fn _ _ [.ref _ xl _]]=>some (pA ds S (.bool (outB l)) (wkL ds [isl [6,7,11,12,13] .any,.fn (.func 48) [] [.ref 0 xl 0]]∧S=ouSt xl l))
  |_=>none
 |_=>none
noncomputable def Eou(l:List Sm):Senv:=EC (conOu l) 6 3 [] (fun _=>([],[]))
def Qvb(a:Nat):List D:=[D.fn (Fn.func (48:Nat)) [] [D.ref N0 a N0]]
def Qvc:Nd:=Nd.mk Z0 Z0 Z0 [] Z0 Z0 DA [] [] Z0 Z0 Z0
def QJx(a:Nat)(b:List Sm):St:=St.mk [(N0,a,AObj.cells [D.sl (34:Nat) (LN b) (fun (i:Nat)=>Sm.row1 (List.getD b i (Sm.mk Z0 Z0 [] Z0 Qvc Qvc))) Mode.any])] []
theorem ou_ok(l:List Sm)(hl:l.length≤maxLen)(h:∀s∈l,s.sm):CD 25 [gsl 34 Sm.row1 l] (.bool (outB l)):=by
 refine con_of (A:=sC _ _) (x:=()) (E:=Eou l) (eOk ?_ rfl) Tryz.func25 rfl (by kernel_rfl) rfl (by simp[sC,Eou,EC,E0]) ?_
 ·intro k ds S A hh
  try unfold conOu at hh
  try dsimp only at hh
  split at hh
  ·split at hh
   ·injection hh with hh;subst hh
    refine pA_ok fun ⟨e,hS⟩=>?_
    rw[hS]
    exact CS.wk (uc_ok l _ [6,7,11,12,13] hl h (by decide)) e
   ·cases hh
  ·cases hh
 refine vc_eq (T :=
  ∀(x:Nat),True→∃(x_1:Unit),(wkL (D.sl N1 (5:Nat) (fun (i:Nat)=>List.getD [[ZI (6:Int)],[ZI (7:Int)],[ZI (11:Int)],[ZI (12:Int)],[ZI (13:Int)]] i []) Mode.full::Qvb x) (D.sl N1 (5:Nat) (fun (i:Nat)=>[ZI (GI [(6:Int),(7:Int),(11:Int),(12:Int),(13:Int)] i)]) Mode.any::Qvb x)∧SM (QJx x l))∧∀(y:Unit),True→RT (SM (outB l))) (by kernel_rfl) ?_
 delta DA GI LN N0 N1 SM Z0 ZI Qvb Qvc QJx RT
 try simp only[← dm]
 try simp only[← dn]
 simp only[implies_true,and_true,exists_const,forall_const]
 intro x
 simp only[wkL,wkD,chk_iff]
 refine⟨⟨by simp,by simp,fun i hi=>?_,by simp[weakM]⟩,by simp[weakD],trivial⟩
 match i,hi with
 |0,_=>exact wkL_refl _
 |1,_=>exact wkL_refl _
 |2,_=>exact wkL_refl _
 |3,_=>exact wkL_refl _
 |4,_=>exact wkL_refl _
theorem pick_str{L:List D}{M:List (List UInt8)}(h:L=M.map D.str){n:Nat}(hn:n<M.length):weakD (L.getD n D.unk) (.str (M.getD n [])):=by
 subst h
 have:(M.map D.str).getD n D.unk=.str (M.getD n []):=by simp[List.getD_eq_getElem?_getD,hn]
 rw[this]
 exact weakD_refl _
theorem primL_len:primL.length=56:=by decide +kernel
theorem opL_len:opL.length=12:=by decide +kernel
theorem prim_out{p:Int}(h:p<1∨56≤p):primT p=[]:=if_pos h
theorem op_out{p:Int}(h:p<1∨12≤p):opT p=[]:=if_pos h
theorem prim_in{p:Int}(h:¬(p<1∨56≤p)):primT p=primL.getD p.toNat []:=if_neg h
theorem op_in{p:Int}(h:¬(p<1∨12≤p)):opT p=opL.getD p.toNat []:=if_neg h
noncomputable def Epn:Senv:={ EC con0 14 1 [2,3,10] (fun _=>([],[])) with mg:=fun _=>2 }
def Qvd(a:Int):Prop:=True∧∃(_y:Unit),True∧eqOf (List UInt8) [] (primT a)∧True∧True
theorem pn_ok(p:Int):ACalls Tryz.prog 64 [.int .i64 p] ⟨[],[]⟩ (SpecR (sC [.int .i64 p] (.str (primT p))) ()):=by
 refine con_of (A:=sC _ _) (x:=()) (E:=Epn) (eOk con0_ok rfl) Tryz.func64 rfl (by kernel_rfl) rfl (by simp[sC,Epn,EC,E0]) ?_
 refine vc_eq (T :=
  ∀(x:Nat),True→SM x∧ifB (decide (p<Z1)) (Qvd p) (ifB (decide ((56:Int)≤p)) (Qvd p) (side (Z0≤p∧p<(56:Int)) (SM x∧side (N0+Int.toNat p*N1+N1≤(56:Nat)) (True∧∃(y:Unit),True∧weakD (List.getD [D.str [],D.str [(43:UInt8)],D.str [(45:UInt8)],D.str [(42:UInt8)],D.str [(37:UInt8)],D.str [(124:UInt8)],D.str [(94:UInt8)],D.str [(109:UInt8),(105:UInt8),(110:UInt8)],D.str [(109:UInt8),(97:UInt8),(120:UInt8)],D.str [(60:UInt8)],D.str [(60:UInt8),(61:UInt8)],D.str [(61:UInt8)],D.str [(126:UInt8),(61:UInt8)],D.str [(62:UInt8),(61:UInt8)],D.str [(62:UInt8)],D.str [(97:UInt8),(110:UInt8),(100:UInt8)],D.str [(111:UInt8),(114:UInt8)],D.str [(110:UInt8),(111:UInt8),(116:UInt8)],D.str [(115:UInt8),(104:UInt8),(97:UInt8),(112:UInt8),(101:UInt8)],D.str [(114:UInt8),(101:UInt8),(115:UInt8),(104:UInt8),(97:UInt8),(112:UInt8),(101:UInt8)],D.str [(116:UInt8),(97:UInt8),(108:UInt8),(108:UInt8),(121:UInt8)],D.str [(100:UInt8),(101:UInt8),(112:UInt8),(116:UInt8),(104:UInt8)],D.str [(44:UInt8)],D.str [(115:UInt8),(116:UInt8),(97:UInt8),(99:UInt8),(107:UInt8)],D.str [(105:UInt8),(111:UInt8),(116:UInt8),(97:UInt8)],D.str [(116:UInt8),(97:UInt8),(107:UInt8),(101:UInt8)],D.str [(100:UInt8),(114:UInt8),(111:UInt8),(112:UInt8)],D.str [(102:UInt8),(105:UInt8),(114:UInt8),(115:UInt8),(116:UInt8)],D.str [(114:UInt8),(101:UInt8),(118:UInt8),(101:UInt8),(114:UInt8),(115:UInt8),(101:UInt8)],D.str [(114:UInt8),(111:UInt8),(116:UInt8),(97:UInt8),(116:UInt8),(101:UInt8)],D.str [(116:UInt8),(114:UInt8),(97:UInt8),(110:UInt8),(115:UInt8),(112:UInt8),(111:UInt8),(115:UInt8),(101:UInt8)],D.str [(102:UInt8),(114:UInt8),(111:UInt8),(109:UInt8)],D.str [(112:UInt8),(105:UInt8),(99:UInt8),(107:UInt8)],D.str [(115:UInt8),(101:UInt8),(108:UInt8),(101:UInt8),(99:UInt8),(116:UInt8)],D.str [(97:UInt8),(109:UInt8),(101:UInt8),(110:UInt8),(100:UInt8)],D.str [(117:UInt8),(112:UInt8)],D.str [(100:UInt8),(111:UInt8),(119:UInt8),(110:UInt8)],D.str [(115:UInt8),(111:UInt8),(114:UInt8),(116:UInt8)],D.str [(102:UInt8),(105:UInt8),(110:UInt8),(100:UInt8)],D.str [(105:UInt8),(110:UInt8)],D.str [(117:UInt8),(110:UInt8),(105:UInt8),(113:UInt8),(117:UInt8),(101:UInt8)],D.str [(119:UInt8),(104:UInt8),(101:UInt8),(114:UInt8),(101:UInt8)],D.str [(99:UInt8),(111:UInt8),(112:UInt8),(121:UInt8)],D.str [(101:UInt8),(120:UInt8),(112:UInt8),(97:UInt8),(110:UInt8),(100:UInt8)],D.str [(99:UInt8),(117:UInt8),(116:UInt8)],D.str [(101:UInt8),(110:UInt8),(99:UInt8),(111:UInt8),(100:UInt8),(101:UInt8)],D.str [(100:UInt8),(101:UInt8),(99:UInt8),(111:UInt8),(100:UInt8),(101:UInt8)],D.str [(98:UInt8),(111:UInt8),(120:UInt8)],D.str [(111:UInt8),(112:UInt8),(101:UInt8),(110:UInt8)],D.str [(115:UInt8),(97:UInt8),(109:UInt8),(101:UInt8)],D.str [(107:UInt8),(105:UInt8),(110:UInt8),(100:UInt8)],D.str [(111:UInt8),(114:UInt8),(100:UInt8)],D.str [(99:UInt8),(104:UInt8),(114:UInt8)],D.str [(102:UInt8),(111:UInt8),(114:UInt8),(109:UInt8),(97:UInt8),(116:UInt8)],D.str [(108:UInt8),(101:UInt8),(102:UInt8),(116:UInt8)],D.str [(114:UInt8),(105:UInt8),(103:UInt8),(104:UInt8),(116:UInt8)]] (N0+Int.toNat p*N1) D.unk) (D.str (primT p))∧True∧True))))) (by kernel_rfl) ?_
 delta N0 N1 SM Z0 Z1 Qvd
 simp only[ifB_iff,side_iff,decide_eq_true_eq,decide_eq_false_iff_not,Nat.mul_one,true_and,and_true,exists_const]
 refine fun x _=>⟨fun h=>(prim_out (.inl h)).symm,fun h1=>⟨fun h=>(prim_out (.inr h)).symm,fun h2=>⟨⟨by omega,by omega⟩,by omega,?_⟩⟩⟩
 rw[prim_in (by omega),Nat.zero_add]
 exact pick_str (M:=primL) (by kernel_rfl) (by rw[primL_len];omega)
noncomputable def Eon:Senv:={ EC con0 14 1 [2,3,10] (fun _=>([],[])) with mg:=fun _=>2 }
def Qve(a:Int):Prop:=True∧∃(_y:Unit),True∧eqOf (List UInt8) [] (opT a)∧True∧True
theorem on_ok(p:Int):ACalls Tryz.prog 65 [.int .i64 p] ⟨[],[]⟩ (SpecR (sC [.int .i64 p] (.str (opT p))) ()):=by
 refine con_of (A:=sC _ _) (x:=()) (E:=Eon) (eOk con0_ok rfl) Tryz.func65 rfl (by kernel_rfl) rfl (by simp[sC,Eon,EC,E0]) ?_
 refine vc_eq (T :=
  ∀(x:Nat),True→SM x∧ifB (decide (p<Z1)) (Qve p) (ifB (decide ((12:Int)≤p)) (Qve p) (side (Z0≤p∧p<(12:Int)) (SM x∧side (N0+Int.toNat p*N1+N1≤(12:Nat)) (True∧∃(y:Unit),True∧weakD (List.getD [D.str [],D.str [(47:UInt8)],D.str [(92:UInt8)],D.str [(101:UInt8),(97:UInt8),(99:UInt8),(104:UInt8)],D.str [(115:UInt8),(119:UInt8),(97:UInt8),(112:UInt8)],D.str [(111:UInt8),(117:UInt8),(116:UInt8),(101:UInt8),(114:UInt8)],D.str [(105:UInt8),(110:UInt8),(110:UInt8),(101:UInt8),(114:UInt8)],D.str [(114:UInt8),(97:UInt8),(110:UInt8),(107:UInt8)],D.str [(112:UInt8),(111:UInt8),(119:UInt8),(101:UInt8),(114:UInt8)],D.str [(115:UInt8),(116:UInt8),(101:UInt8),(110:UInt8),(99:UInt8),(105:UInt8),(108:UInt8)],D.str [(97:UInt8),(116:UInt8),(111:UInt8),(112:UInt8)],D.str [(111:UInt8),(118:UInt8),(101:UInt8),(114:UInt8)]] (N0+Int.toNat p*N1) D.unk) (D.str (opT p))∧True∧True))))) (by kernel_rfl) ?_
 delta N0 N1 SM Z0 Z1 Qve
 simp only[ifB_iff,side_iff,decide_eq_true_eq,decide_eq_false_iff_not,Nat.mul_one,true_and,and_true,exists_const]
 refine fun x _=>⟨fun h=>(op_out (.inl h)).symm,fun h1=>⟨fun h=>(op_out (.inr h)).symm,fun h2=>⟨⟨by omega,by omega⟩,by omega,?_⟩⟩⟩
 rw[op_in (by omega),Nat.zero_add]
 exact pick_str (M:=opL) (by kernel_rfl) (by rw[opL_len];omega)
def utf8(c:Int):List UInt8:=(Utf8.encode c).data.toList
def escB(c q:Int):List UInt8 :=
 if c=10 then [92,110] else if c=9 then [92,116] else if c=13 then [92,114] else if c=92∨c=q then 92::utf8 c
 else if c<32∨c=127 then [92,117,123]++hexN c.toNat++[125] else utf8 c
theorem utf8_len(c:Int):(utf8 c).length≤4:=by
 have : ∀c : Nat, ((if c<0x80 then ⟨#[UInt8.ofNat c]⟩
   else if c<0x800 then ⟨#[UInt8.ofNat (0xC0+c / 64),UInt8.ofNat (0x80+c % 64)]⟩
   else if c<0x10000 then ⟨#[UInt8.ofNat (0xE0+c / 4096),UInt8.ofNat (0x80+c / 64 % 64),UInt8.ofNat (0x80+c % 64)]⟩
   else ⟨#[UInt8.ofNat (0xF0+c / 262144),UInt8.ofNat (0x80+c / 4096 % 64),UInt8.ofNat (0x80+c / 64 % 64),UInt8.ofNat (0x80+c % 64)]⟩:ByteArray).data.toList).length≤4:=fun c=>by
  (repeat' split)<;>simp
 exact this _
theorem hexN_len(n:Nat):(hexN n).length≤2:=by unfold hexN;split<;>simp
def conEs0:Con:=fun k ds S=>match k with
 |155=>match ds with
  | [.int .i64 n,.int .i64 16]=>some (pC [.int .i64 n,.int .i64 16] (.str (hexN n.toNat)) (0≤n∧n<128))
  |_=>none
 |k=>conNu k ds S
theorem conEs0_ok:ConOk Tryz.prog conEs0:=by
 intro k ds S A h
 unfold conEs0 at h
 split at h
 ·split at h
  ·injection h with h;subst h
   exact pC_ok fun h1=>⟨weakL_refl _,hex_ok _ h1⟩
  ·cases h
 ·exact conNu_ok _ _ _ _ h
noncomputable def Ees:Senv:=EC conEs0 32 2 [4,5,6,8,10,12,24] (fun _=>([],[]))
def QiA(a b:Int):List UInt8:=escB a b
def Qo5(a:Int):List UInt8:=Array.toList (ByteArray.data (Utf8.encode a))
def Qvf(a b:Int):Prop:=side (N1+LN (Qo5 a)≤(9223372036854775807:Nat)) (True∧∃(_y:Unit),True∧(92:UInt8)::List.append [] (Qo5 a)=QiA a b∧True∧True)
def Qo6(a:Int):Bool:=bif decide (a<(32:Int)) then true else a==(127:Int)
def Qvg(a:Int):List UInt8:=hexN (Int.toNat (IntKind.wrap IntKind.i64 a))
def Qvh(a:Int):List UInt8:=List.append [] (Qvg a)
def Qvi(a b:Int):Prop:=ifB (decide (a<(32:Int))) (true=Qo6 a∧True) ((a==(127:Int))=Qo6 a∧True)∧ifB (Qo6 a) ((Z0≤IntKind.wrap IntKind.i64 a∧IntKind.wrap IntKind.i64 a<(128:Int))∧∀(_y:Unit),True→side ((3:Nat)+LN (Qvg a)≤(9223372036854775807:Nat)) (side (LN ((92:UInt8)::(117:UInt8)::(123:UInt8)::Qvh a)+N1≤(9223372036854775807:Nat)) (True∧∃(_y:Unit),True∧(92:UInt8)::(117:UInt8)::(123:UInt8)::List.append (Qvh a) [(125:UInt8)]=QiA a b∧True∧True))) (True∧∃(_y:Unit),True∧Qo5 a=QiA a b∧True∧True)
theorem esc_ok(c q:Int)(h:0≤c∧c≤1114111):ACalls Tryz.prog 137 [.int .i32 c,.int .i32 q] ⟨[],[]⟩ (SpecR (sC [.int .i32 c,.int .i32 q] (.str (escB c q))) ()):=by
 refine con_of (A:=sC _ _) (x:=()) (E:=Ees) (eOk conEs0_ok rfl) Tryz.func137 rfl (by kernel_rfl) rfl (by simp[sC,Ees,EC,E0]) ?_
 refine vc_eq (T :=
  ifB (c==(10:Int)) (RT ([(92:UInt8),(110:UInt8)]=QiA c q)) (ifB (c==(9:Int)) (RT ([(92:UInt8),(116:UInt8)]=QiA c q)) (ifB (c==(13:Int)) (RT ([(92:UInt8),(114:UInt8)]=QiA c q)) (ifB (c==(92:Int)) (ifB (c==(92:Int)) (Qvf c q) (Qvi c q)) (ifB (c==q) (Qvf c q) (Qvi c q)))))) (by kernel_rfl) ?_
 delta LN N1 Z0 QiA Qo5 Qvf Qo6 Qvg Qvh Qvi RT
 have e:IntKind.i64.wrap c=c:=wrap_i64' (by omega) (by omega)
 have l1:=utf8_len c
 have l2:=hexN_len c.toNat
 unfold utf8 at l1
 have a1:∀l:List UInt8,[].append l=l:=fun _=>rfl
 have a2:∀l r:List UInt8,l.append r=l++r:=fun _ _=>rfl
 simp only[a1,a2,ifB_iff,side_iff,e,beq_iff_eq,beq_eq_false_iff_ne,decide_eq_true_eq,decide_eq_false_iff_not,Bool.cond_true_left,Bool.or_eq_true,Bool.or_eq_false_iff,true_and,and_true,exists_const,forall_const,List.length_cons]
 refine⟨fun h=>by subst h;rfl,fun h1=>⟨fun h=>by subst h;rfl,fun h2=>⟨fun h=>by subst h;rfl,fun h3=>⟨fun h4=>⟨fun _=>⟨by omega,?_⟩,fun hh=>(hh h4).elim⟩,fun h4=>⟨fun h5=>⟨by omega,?_⟩,fun h5=>⟨⟨fun h=>by simp[h],fun h=>by simp[h]⟩,fun h6=>⟨by omega,by omega,by omega,?_⟩,fun h6=>?_⟩⟩⟩⟩⟩⟩
 ·unfold escB;rw[if_neg h1,if_neg h2,if_neg h3,if_pos (.inl h4)];rfl
 ·unfold escB;rw[if_neg h1,if_neg h2,if_neg h3,if_pos (.inr h5)];rfl
 ·unfold escB;rw[if_neg h1,if_neg h2,if_neg h3,if_neg (by omega),if_pos h6];rfl
 ·unfold escB;rw[if_neg h1,if_neg h2,if_neg h3,if_neg (by omega),if_neg (by omega)];rfl
theorem dig16:∀k,k<16→List.drop k (List.take (k+1) ([48,49,50,51,52,53,54,55,56,57,97,98,99,100,101,102]:List UInt8))=[digU k]:=by decide
noncomputable def Erh1:Senv:=EC con0 22 1 [2,3,5] (fun id=>match id with | 4=>([0,1,3,4,5,6,7,8,9,2,10,11],[2]) | _=>([],[]))
theorem rhex1(n:Int)(h:0≤n∧n<16):ACalls Tryz.prog 162 [.int .i64 n] ⟨[],[]⟩ (SpecR (sC [.int .i64 n] (.str [digU n.toNat])) ()):=by
 refine con_of (A:=sC _ _) (x:=()) (E:={ Erh1 with inl:=fun _ _ _ _=>False }) ⟨tab_ok,con0_ok,mix,fun _ _ _ _ h=>h.elim,eqs_ok⟩ Tryz.func162 rfl (by kernel_rfl) rfl (by simp[sC,Erh1,EC,E0]) ?_
 refine vc_eq (T :=
  ifB (decide (n<(16:Int))) (side (Z0≤n∧n≤IntKind.wrap IntKind.i64 (n+Z1)∧IntKind.wrap IntKind.i64 (n+Z1)≤(16:Int)) (RT (List.drop (Int.toNat n) (List.take (Int.toNat (IntKind.wrap IntKind.i64 (n+Z1))) [(48:UInt8),(49:UInt8),(50:UInt8),(51:UInt8),(52:UInt8),(53:UInt8),(54:UInt8),(55:UInt8),(56:UInt8),(57:UInt8),(97:UInt8),(98:UInt8),(99:UInt8),(100:UInt8),(101:UInt8),(102:UInt8)])=[digU (Int.toNat n)]))) (side (Z0≤Int.tmod n (16:Int)∧Int.tmod n (16:Int)≤IntKind.wrap IntKind.i64 (Int.tmod n (16:Int)+Z1)∧IntKind.wrap IntKind.i64 (Int.tmod n (16:Int)+Z1)≤(16:Int)) False)) (by kernel_rfl) ?_
 delta Z0 Z1 RT
 rw[ifB_iff]
 refine⟨fun _=>?_,fun h1=>absurd h.2 (by simpa using h1)⟩
 rw[side_iff,wrap_i64' (by omega) (by omega)]
 refine⟨by omega,trivial,(),trivial,?_,trivial,trivial⟩
 rw[show (n+1).toNat=n.toNat+1 by omega]
 exact dig16 _ (by omega)
def conRh:Con:=fun k ds S=>match k with
 |162=>match ds with
  | [.int .i64 n]=>some (pC [.int .i64 n] (.str [digU n.toNat]) (0≤n∧n<16))
  |_=>none
 |k=>conEs0 k ds S
theorem conRh_ok:ConOk Tryz.prog conRh:=by
 intro k ds S A h
 unfold conRh at h
 split at h
 ·split at h
  ·injection h with h;subst h
   exact pC_ok fun h1=>⟨weakL_refl _,rhex1 _ h1⟩
  ·cases h
 ·exact conEs0_ok _ _ _ _ h
noncomputable def Erh2:Senv:=EC conRh 22 1 [2,3,5] (fun id=>match id with | 4=>([0,1,3,4,5,6,7,8,9,2,10,11],[2]) | _=>([],[]))
def Qvj:List UInt8:=[(48:UInt8),(49:UInt8),(50:UInt8),(51:UInt8),(52:UInt8),(53:UInt8),(54:UInt8),(55:UInt8),(56:UInt8),(57:UInt8),(97:UInt8),(98:UInt8),(99:UInt8),(100:UInt8),(101:UInt8),(102:UInt8)]
def Qo7(a:Int):Int:=IntKind.wrap IntKind.i64 (Int.tmod a (16:Int)+Z1)
def Qvk(a:Int):List UInt8:=List.drop (Int.toNat (Int.tmod a (16:Int))) (List.take (Int.toNat (Qo7 a)) Qvj)
theorem rhex_ok(n:Int)(h:0≤n∧n<128):ACalls Tryz.prog 162 [.int .i64 n] ⟨[],[]⟩ (SpecR (sC [.int .i64 n] (.str (hexN n.toNat))) ()):=by
 refine con_of (A:=sC _ _) (x:=()) (E:=Erh2) (eOk conRh_ok rfl) Tryz.func162 rfl (by kernel_rfl) rfl (by simp[sC,Erh2,EC,E0]) ?_
 refine vc_eq (T :=
  ifB (decide (n<(16:Int))) (side (Z0≤n∧n≤IntKind.wrap IntKind.i64 (n+Z1)∧IntKind.wrap IntKind.i64 (n+Z1)≤(16:Int)) (RT (List.drop (Int.toNat n) (List.take (Int.toNat (IntKind.wrap IntKind.i64 (n+Z1))) Qvj)=hexN (Int.toNat n)))) (side (Z0≤Int.tmod n (16:Int)∧Int.tmod n (16:Int)≤Qo7 n∧Qo7 n≤(16:Int)) ((Z0≤IntKind.wrap IntKind.i64 (Int.tdiv n (16:Int))∧IntKind.wrap IntKind.i64 (Int.tdiv n (16:Int))<(16:Int))∧∀(y:Unit),True→side (N1+LN (Qvk n)≤(9223372036854775807:Nat)) (RT (digU (Int.toNat (IntKind.wrap IntKind.i64 (Int.tdiv n (16:Int))))::List.append [] (Qvk n)=hexN (Int.toNat n)))))) (by kernel_rfl) ?_
 delta LN N1 Z0 Z1 Qvj Qo7 Qvk RT
 rw[ifB_iff]
 have ho:n.tmod 16=((n.toNat % 16:Nat):Int):=by
  obtain ⟨m,rfl⟩:∃m:Nat,n=m:=⟨n.toNat,by omega⟩
  rfl
 have hd:n.tdiv 16=((n.toNat / 16:Nat):Int):=by
  obtain ⟨m,rfl⟩:∃m:Nat,n=m:=⟨n.toNat,by omega⟩
  rfl
 refine⟨fun h1=>?_,fun h1=>?_⟩
 ·have h1:n<16:=by simpa using h1
  rw[side_iff,wrap_i64' (by omega) (by omega)]
  refine⟨by omega,trivial,(),trivial,?_,trivial,trivial⟩
  rw[show (n+1).toNat=n.toNat+1 by omega,dig16 _ (by omega)]
  unfold hexN;rw[if_pos (by omega)]
 ·have h1:¬n<16:=by simpa using h1
  have e1:IntKind.i64.wrap (((n.toNat % 16:Nat):Int)+1)=((n.toNat % 16+1:Nat):Int):=by rw[wrap_i64' (by omega) (by omega)];omega
  have e2:IntKind.i64.wrap ((n.toNat / 16:Nat):Int)=((n.toNat / 16:Nat):Int):=wrap_i64' (by omega) (by omega)
  rw[ho,hd,e1,e2,side_iff]
  refine⟨by omega,by omega,fun _ _=>?_⟩
  rw[Int.toNat_natCast,Int.toNat_natCast,Int.toNat_natCast,dig16 _ (by omega),side_iff]
  refine⟨by simp,trivial,(),trivial,?_,trivial,trivial⟩
  unfold hexN;rw[if_neg (by omega)];rfl
def conEs:Con:=fun k ds S=>match k with
 |162=>match ds with
  | [.int .i64 n]=>some (pC [.int .i64 n] (.str (hexN n.toNat)) (0≤n∧n<128))
  |_=>none
 |137=>match ds with
  | [.int .i32 c,.int .i32 q]=>some (pC [.int .i32 c,.int .i32 q] (.str (escB c q)) (0≤c∧c≤1114111))
  |_=>none
 |k=>conEs0 k ds S
theorem conEs_ok:ConOk Tryz.prog conEs:=by
 intro k ds S A h
 unfold conEs at h
 split at h
 ·split at h
  ·injection h with h;subst h
   exact pC_ok fun h1=>⟨weakL_refl _,rhex_ok _ h1⟩
  ·cases h
 ·split at h
  ·injection h with h;subst h
   exact pC_ok fun h1=>⟨weakL_refl _,esc_ok _ _ h1⟩
  ·cases h
 ·exact conEs0_ok _ _ _ _ h
noncomputable def Erx:Senv:=EC conEs 33 2 [4,5,6,8,10,12,25] (fun _=>([],[]))
def QiB(a b:Int):List UInt8:=escB a b
def Qo8(a:Int):List UInt8:=Array.toList (ByteArray.data (Utf8.encode (IntKind.wrap IntKind.i32 a)))
def Qvl(a b:Int):Prop:=side (N1+LN (Qo8 a)≤(9223372036854775807:Nat)) (True∧∃(_y:Unit),True∧(92:UInt8)::List.append [] (Qo8 a)=QiB a b∧True∧True)
def Qo9(a:Int):Bool:=bif decide (a<(32:Int)) then true else a==(127:Int)
def Qvm(a:Int):List UInt8:=List.append [] (hexN (Int.toNat a))
def Qvn(a b:Int):Prop:=ifB (decide (a<(32:Int))) (true=Qo9 a∧True) ((a==(127:Int))=Qo9 a∧True)∧ifB (Qo9 a) ((Z0≤a∧a<(128:Int))∧∀(_y:Unit),True→side ((3:Nat)+LN (hexN (Int.toNat a))≤(9223372036854775807:Nat)) (side (LN ((92:UInt8)::(117:UInt8)::(123:UInt8)::Qvm a)+N1≤(9223372036854775807:Nat)) (True∧∃(_y:Unit),True∧(92:UInt8)::(117:UInt8)::(123:UInt8)::List.append (Qvm a) [(125:UInt8)]=QiB a b∧True∧True))) (True∧∃(_y:Unit),True∧Qo8 a=QiB a b∧True∧True)
theorem rchar_ok(c q:Int)(h:0≤c∧c≤1114111):ACalls Tryz.prog 157 [.int .i64 c,.int .i64 q] ⟨[],[]⟩ (SpecR (sC [.int .i64 c,.int .i64 q] (.str (escB c q))) ()):=by
 refine con_of (A:=sC _ _) (x:=()) (E:=Erx) (eOk conEs_ok rfl) Tryz.func157 rfl (by kernel_rfl) rfl (by simp[sC,Erx,EC,E0]) ?_
 refine vc_eq (T :=
  ifB (c==(10:Int)) (RT ([(92:UInt8),(110:UInt8)]=QiB c q)) (ifB (c==(9:Int)) (RT ([(92:UInt8),(116:UInt8)]=QiB c q)) (ifB (c==(13:Int)) (RT ([(92:UInt8),(114:UInt8)]=QiB c q)) (ifB (c==(92:Int)) (ifB (c==(92:Int)) (Qvl c q) (Qvn c q)) (ifB (c==q) (Qvl c q) (Qvn c q)))))) (by kernel_rfl) ?_
 delta LN N1 Z0 QiB Qo8 Qvl Qo9 Qvm Qvn RT
 have e:IntKind.i32.wrap c=c:=by rw[IntKind.wrap_i32];omega
 have l1:=utf8_len c
 have l2:=hexN_len c.toNat
 unfold utf8 at l1
 have a1:∀l:List UInt8,[].append l=l:=fun _=>rfl
 have a2:∀l r:List UInt8,l.append r=l++r:=fun _ _=>rfl
 simp only[a1,a2,ifB_iff,side_iff,e,beq_iff_eq,beq_eq_false_iff_ne,decide_eq_true_eq,decide_eq_false_iff_not,Bool.cond_true_left,Bool.or_eq_true,Bool.or_eq_false_iff,true_and,and_true,exists_const,forall_const,List.length_cons]
 refine⟨fun h=>by subst h;rfl,fun h1=>⟨fun h=>by subst h;rfl,fun h2=>⟨fun h=>by subst h;rfl,fun h3=>⟨fun h4=>⟨fun _=>⟨by omega,?_⟩,fun hh=>(hh h4).elim⟩,fun h4=>⟨fun h5=>⟨by omega,?_⟩,fun h5=>⟨⟨fun h=>by simp[h],fun h=>by simp[h]⟩,fun h6=>⟨by omega,by omega,by omega,?_⟩,fun h6=>?_⟩⟩⟩⟩⟩⟩
 ·unfold escB;rw[if_neg h1,if_neg h2,if_neg h3,if_pos (.inl h4)];rfl
 ·unfold escB;rw[if_neg h1,if_neg h2,if_neg h3,if_pos (.inr h5)];rfl
 ·unfold escB;rw[if_neg h1,if_neg h2,if_neg h3,if_neg (by omega),if_pos h6];rfl
 ·unfold escB;rw[if_neg h1,if_neg h2,if_neg h3,if_neg (by omega),if_neg (by omega)];rfl
theorem bytesOf_bsl(l:List UInt8):bytesOf l.length (fun i=>[.int .u8 ((l.getD i 0).toNat:Int)])=l:=by
 apply List.ext_getElem
 ·simp[bytesOf]
 ·intro i h1 h2
  simp only[bytesOf,List.getElem_map,List.getElem_range,rowByte,Ab.byteOf,List.getD_eq_getElem?_getD,List.getElem?_eq_getElem h2,Option.getD_some,Int.toNat_natCast,UInt8.ofNat_toNat]
theorem rowsB_bsl(l:List UInt8):rowsB l.length (fun i=>[.int .u8 ((l.getD i 0).toNat:Int)])=true:=by
 simp only[rowsB,List.all_eq_true,List.mem_range]
 intro i _
 have:=(l.getD i 0).toNat_lt
 simp only[rowB,Ab.byteB,Bool.and_eq_true,decide_eq_true_eq];omega
theorem bsl_weak{n:Nat}{g:Nat→List D}{m:Ab.Mode}(h:rowsB n g=true):weakD (.sl 1 n g m) (bsl (bytesOf n g) m):=by
 simp only[bsl,weakD,chk_iff]
 refine⟨by simp,by simp[bytesOf],fun i hi=>?_,weakM_refl m⟩
 have hb:rowB (g i)=true:=List.all_eq_true.1 h i (List.mem_range.2 hi)
 have hg:(bytesOf n g).getD i 0=rowByte (g i):=by simp[bytesOf,List.getD_eq_getElem?_getD,hi]
 rw[hg]
 unfold rowB at hb
 split at hb
 ·rename_i d hd
  rw[hd]
  have:=byteB_eq hb
  simp only[rowByte]
  rw[← this]
 ·cases hb
theorem app_bsl(l r:List UInt8){i:Nat}(_hi:i<l.length+r.length):appF l.length (fun i=>[D.int .u8 ((l.getD i 0).toNat:Int)]) (fun i=>[D.int .u8 ((r.getD i 0).toNat:Int)]) i=[D.int .u8 (((l++r).getD i 0).toNat:Int)]:=by
 simp only[appF]
 split
 ·rename_i hlt
  simp[List.getD_eq_getElem?_getD,List.getElem?_append_left hlt]
 ·rename_i hge
  simp[List.getD_eq_getElem?_getD,List.getElem?_append_right (Nat.le_of_not_lt hge)]
theorem app_gen{n : Nat}{l r : List UInt8}{F G : Nat → List D}(hn : n=l.length)(hF : ∀i, i<n → F i=[D.int .u8 ((l.getD i 0).toNat : Int)])(hG : ∀i, i<r.length → G i=[D.int .u8 ((r.getD i 0).toNat : Int)]) :
  ∀i,i<n+r.length→appF n F G i=[D.int .u8 (((l++r).getD i 0).toNat:Int)]:=by
 intro i hi
 subst hn
 rw[← app_bsl l r hi]
 simp only[appF]
 split
 ·exact hF i (by assumption)
 ·exact hG _ (by omega)
theorem app_row'{n : Nat}{l : List UInt8}{F : Nat → List D}{z : Int}{b : UInt8}(hn : n=l.length)(hF : ∀i, i<n → F i=[D.int .u8 ((l.getD i 0).toNat : Int)])(h : z=(b.toNat : Int)) :
  ∀i,i<n+1→appF n F (fun i=>[[D.int .u8 z]].getD i []) i=[D.int .u8 (((l++[b]).getD i 0).toNat:Int)]:=by
 intro i hi
 subst hn
 simp only[appF]
 split
 ·rename_i hlt
  rw[hF i hlt]
  simp[List.getD_eq_getElem?_getD,List.getElem?_append_left hlt]
 ·have:i=l.length:=by omega
  subst this
  simp[List.getD_eq_getElem?_getD,h]
def escL(q:Int)(l:List Int):List UInt8:=l.flatMap fun c=>escB c q
def quoB(q:Int)(l:List Int):List UInt8:=utf8 q++escL q l++utf8 q
theorem escB_len(c q:Int):(escB c q).length≤6:=by
 have h1:=utf8_len c
 have h2:=hexN_len c.toNat
 unfold escB
 (repeat' split)<;>(try simp only[List.length_cons,List.length_nil,List.length_append])<;>omega
theorem escL_len(q:Int):∀l:List Int,(escL q l).length≤6*l.length
 | []=>by simp[escL]
 |c::l=>by
  have h1:=escB_len c q
  have h2:=escL_len q l
  simp only[escL,List.flatMap_cons,List.length_append,List.length_cons] at h2 ⊢
  omega
theorem escL_cons(q c:Int)(l:List Int):escL q (c::l)=escB c q++escL q l:=by simp[escL]
theorem escL_nil(q:Int):escL q []=[]:=rfl
theorem memI{l:List Int}{i:Nat}(h:i<l.length):l.getD i 0∈l:=by
 rw[List.getD_eq_getElem?_getD,List.getElem?_eq_getElem h];simp
structure QHd (q:Int) (l:List Int) (i:Nat) (pre out:List UInt8):Prop where
 hi:i≤l.length
 ho:out++escL q (l.drop i)=pre++escL q l
theorem QHd.init(q:Int)(l:List Int)(pre:List UInt8):QHd q l 0 pre pre:=⟨Nat.zero_le _,by simp⟩
theorem QHd.step{q:Int}{l:List Int}{i:Nat}{pre out:List UInt8}(h:QHd q l i pre out)(hlt:i<l.length):QHd q l (i+1) pre (out++escB (l.getD i 0) q):=by
 refine⟨by omega,?_⟩
 rw[← h.ho,drop_stepI hlt,escL_cons,List.append_assoc]
theorem QHd.len{q:Int}{l:List Int}{i:Nat}{pre out:List UInt8}(h:QHd q l i pre out):out.length≤pre.length+6*l.length:=by
 have:=congrArg List.length h.ho
 have:=escL_len q l
 simp only[List.length_append] at *; omega
theorem QHd.done{q:Int}{l:List Int}{i:Nat}{pre out:List UInt8}(h:QHd q l i pre out)(hge:¬i<l.length):out=pre++escL q l:=by
 have:=h.ho
 rw[List.drop_of_length_le (by omega),escL_nil,List.append_nil] at this
 exact this
noncomputable def Equ(q:Int)(l:List Int):Senv:={ EC conEs 27 2 [4,5,7,10,11,12,13] (fun _=>([],[])) with
 ann:=fun b _ _=>match b with
  |0=>some { slots:=[12,5],keep:=[0,1,10,11],α:=Nat×List UInt8,st:=fun y=>([.int .i64 y.1,.str y.2],⟨[],[]⟩),inv:=fun y=>QHd q l y.1 (utf8 q) y.2,mu:=fun y=>l.length-y.1 }
  |_=>none }
def Qpa(a:Int)(b:List Int)(c:Nat)(d:List UInt8):Prop:=QHd a b c (utf8 a) d
def Qpb(a:Int):List UInt8:=Array.toList (ByteArray.data (Utf8.encode a))
def Qpc(a:List Int)(b:Nat):Int:=IntKind.wrap IntKind.i32 (GI a (Int.toNat (↑b:Int)))
def Qvo(a:List Int)(b:Nat)(c:Int):List UInt8:=escB (Qpc a b) c
def QJy(a:List Int):D:=SI a
def Qvp(a:List Int):Prop:=SM (QJy a)
theorem quo_ok(q:Int)(l:List Int)(hl:l.length≤1099511627776)(hc:∀c∈l,0≤c∧c≤1114111):ACalls Tryz.prog 113 [.int .i32 q,isl l .any] ⟨[],[]⟩ (SpecR (sC [.int .i32 q,isl l .any] (.str (quoB q l))) ()):=by
 refine con_of (A:=sC _ _) (x:=()) (E:=Equ q l) (eOk conEs_ok rfl) Tryz.func113 rfl (by kernel_rfl) rfl (by simp[sC,Equ,EC,E0]) ?_
 refine vc_eq (T :=
  (∃(x:Nat×List UInt8),Qpa q l x.1 x.2∧(Z0=(NI x.1)∧Qpb q=x.2∧True)∧True∧True)∧∀(x:Nat×List UInt8),Qpa q l x.1 x.2→ifB (decide ((NI x.1)<(LI l))) (side (Z0≤(NI x.1)∧(NI x.1)<(LI l)) ((Z0≤Qpc l x.1∧Qpc l x.1≤(1114111:Int))∧∀(y:Unit),True→side (LN x.2+LN (Qvo l x.1 q)≤(9223372036854775807:Nat)) ((SM (D.int IntKind.i32 q)∧Qvp l∧Qvp l∧SM (ZI (LI l))∧True)∧∃(y:Nat×List UInt8),Qpa q l y.1 y.2∧LN l-y.1<LN l-x.1∧(IntKind.wrap IntKind.i64 ((NI x.1)+Z1)=(NI y.1)∧x.2++Qvo l x.1 q=y.2∧True)∧True∧True))) (side (LN x.2+LN (Qpb q)≤(9223372036854775807:Nat)) (RT (x.2++Qpb q=quoB q l)))) (by kernel_rfl) ?_
 delta GI LI LN N1 NI SI SM Z0 Z1 ZI Qpa Qpb Qpc Qvo QJy Qvp RT
 have hu:∀c,(Utf8.encode c).data.toList=utf8 c:=fun _=>rfl
 simp only[hu,ifB_iff,side_iff,decide_eq_true_eq,true_and,and_true,exists_const,forall_const,Int.toNat_natCast,eq_self]
 refine⟨⟨(0,utf8 q),QHd.init _ _ _,rfl,rfl⟩,?_⟩
 rintro ⟨i,out⟩ hh
 simp only at hh ⊢
 have h1:=hh.len
 have h2:=utf8_len q
 refine⟨fun hlt=>?_,fun hge=>?_⟩
 ·have hlt':i<l.length:=by omega
  have hci:=hc (l.getD i 0) (memI hlt')
  have e:IntKind.i32.wrap (l.getD i 0)=l.getD i 0:=by rw[IntKind.wrap_i32];omega
  have h3:=escB_len (l.getD i 0) q
  rw[e]
  exact⟨by omega,hci,by omega,(i+1,out++escB (l.getD i 0) q),hh.step hlt',by simp only;omega,wrap_i64' (by omega) (by omega),rfl⟩
 ·have hge':¬i<l.length:=by simpa using hge
  have h3:=escL_len q l
  rw[hh.done hge']
  exact⟨by simp only[List.length_append];omega,rfl⟩
def conRc:Con:=fun k ds S=>match k with
 |157=>match ds with
  | [.int .i64 c,.int .i64 q]=>some (pC [.int .i64 c,.int .i64 q] (.str (escB c q)) (0≤c∧c≤1114111))
  |_=>none
 |k=>conEs k ds S
theorem conRc_ok:ConOk Tryz.prog conRc:=by
 intro k ds S A h
 unfold conRc at h
 split at h
 ·split at h
  ·injection h with h;subst h
   exact pC_ok fun h1=>⟨weakL_refl _,rchar_ok _ _ h1⟩
  ·cases h
 ·exact conEs_ok _ _ _ _ h
def ssl(l:List (List UInt8))(m:Ab.Mode):D:=.sl 1 l.length (fun i=>[.str (l.getD i [])]) m
theorem join_ok(l : List (List UInt8))(sep : List UInt8)(hl : l.length≤140737488355328)(hj : (Lib.join l sep).length≤140737488355328) :
  ACalls Tryz.prog 70 [ssl l .any,.str sep] ⟨[],[]⟩ (SpecR (sC [ssl l .any,.str sep] (.str (Lib.join l sep))) ()):=by
 refine⟨⟨_,Tryz.func70,by kernel_rfl,by kernel_rfl⟩,fun C F args w ha hs=>?_⟩
 obtain ⟨u,v,e,hu,hv⟩:=repL_two' ha
 have e2:args=[u,v].toArray:=by rw[← e]
 subst e2
 simp only[Rep] at hv;subst hv
 simp only[ssl,Rep] at hu
 obtain ⟨a,len,cap,rfl,hh,hr⟩:=hu
 have hlen:len=l.length:=hh.1
 subst hlen
 have hF:Sat C F w:=by simpa[St.add] using hs
 have fin:∀w' e,e=Ending.returned (.string ⟨(Lib.join l sep).toArray⟩)→Go.RowKit.Below w.heap.size w w'→∃C' r S',C.le C'∧Sat C' (S'.add F) w'∧RepEnd C' r e∧SpecR (sC [ssl l .any,.str sep] (.str (Lib.join l sep))) () r S':=fun w' e he h =>
  ⟨C,.ret (.str (Lib.join l sep)),⟨[],[]⟩,.refl C,by simpa[St.add] using hF.kept h,by subst he;simp[RepEnd,Rep],(),trivial,rfl,rfl⟩
 by_cases h0:l=[]
 ·subst h0
  refine (Tryz.strings_Join_none a cap _ w).mono fun e w' ⟨he,hw⟩=>fin w' e he ?_
  subst hw;exact Go.RowKit.Below.refl _ _
 ·have hpos:0<l.length:=List.length_pos_iff.2 h0
  have ha:∃x,a=some x:=by
   cases a with
   |none=>have:=hh.2.2.2.1 rfl;omega
   |some x=>exact⟨x,rfl⟩
  obtain ⟨⟨bk,o,sp⟩,rfl⟩:=ha
  have hsp:sp=none:=hh.2.2.2.2.1 _ rfl (by have:=hh.2.1;omega)
  subst hsp
  have hcell:∀i x,l[i]? =some x→w.cell? ⟨bk,o+i,none⟩=some (.string ⟨x.toArray⟩):=by
   intro i x hx
   have hi:i<l.length:=(List.getElem?_eq_some_iff.1 hx).1
   have hrow:=(hr _ rfl i hi).2
   simp only[RepCells] at hrow
   obtain ⟨⟨v,i1,i2⟩,_⟩:=hrow
   simp only[Rep] at i2
   subst i2
   have:=hs.imm _ _ _ i1
   have e:l.getD i []=x:=by rw[List.getD_eq_getElem?_getD,hx];rfl
   rw[e] at this
   simpa using this
  have hsz:bk<w.heap.size:=by
   have:=hcell 0 (l.getD 0 []) (by rw[List.getD_eq_getElem?_getD,List.getElem?_eq_getElem hpos];rfl)
   unfold World.cell? at this
   by_cases hb:bk<w.heap.size
   ·exact hb
   ·rw[Array.getElem?_eq_none (Nat.le_of_not_lt hb)] at this
    cases this
  have hm:(l.map fun s=>(⟨s.toArray⟩:ByteArray)).map (·.data.toList)=l:=by simp[Function.comp_def]
  have key:=Tryz.strings_Join bk o cap (l.map fun s=>(⟨s.toArray⟩:ByteArray)) ⟨sep.toArray⟩ w (fun i x hx=>by
   rw[List.getElem?_map,Option.map_eq_some_iff] at hx
   obtain ⟨y,h1,h2⟩:=hx
   subst h2
   exact hcell i y h1) hsz (by simpa using hl) (by simpa using hh.2.1) (by rw[hm];exact hj)
  rw[hm,List.length_map] at key
  exact key.mono fun e w' ⟨he,hb⟩=>fin w' e he hb
def rowStr:List D→List UInt8
 | [.str s]=>s
 |_=>[]
def rowSB:List D→Bool
 | [.str _]=>true
 |_=>false
def strsOf(n:Nat)(f:Nat→List D):List (List UInt8):=(List.range n).map fun i=>rowStr (f i)
def strsB(n:Nat)(f:Nat→List D):Bool:=(List.range n).all fun i=>rowSB (f i)
theorem ssl_weak{n:Nat}{f:Nat→List D}{m:Ab.Mode}(h:strsB n f=true):weakD (.sl 1 n f m) (ssl (strsOf n f) .any):=by
 simp only[ssl,weakD,chk_iff]
 refine⟨by simp,by simp[strsOf],fun i hi=>?_,by cases m<;>simp[weakM]⟩
 have hb:rowSB (f i)=true:=List.all_eq_true.1 h i (List.mem_range.2 hi)
 have hg:(strsOf n f).getD i []=rowStr (f i):=by simp[strsOf,List.getD_eq_getElem?_getD,hi]
 rw[hg]
 unfold rowSB at hb
 split at hb
 ·rename_i s hd;rw[hd];rfl
 ·cases hb
theorem strsOf_eq{n:Nat}{l:List (List UInt8)}{F:Nat→List D}(hn:n=l.length)(hF:∀i,i<n→F i=[D.str (l.getD i [])]):strsOf n F=l:=by
 subst hn
 apply List.ext_getElem
 ·simp[strsOf]
 ·intro i h1 h2
  simp only[strsOf,List.getElem_map,List.getElem_range,hF i h2,rowStr,List.getD_eq_getElem?_getD,List.getElem?_eq_getElem h2,Option.getD_some]
theorem strsB_eq{n:Nat}{l:List (List UInt8)}{F:Nat→List D}(hn:n=l.length)(hF:∀i,i<n→F i=[D.str (l.getD i [])]):strsB n F=true:=by
 subst hn
 simp only[strsB,List.all_eq_true,List.mem_range]
 intro i hi
 rw[hF i hi];rfl
def joinOk(l:List (List UInt8))(sep:List UInt8):Prop:=l.length≤140737488355328∧(Lib.join l sep).length≤140737488355328
def conJn:Con:=fun k ds S=>match k with
 |70=>match ds with
  | [.sl 1 n f m,.str sep]=>some (pC [.sl 1 n f m,.str sep] (.str (Lib.join (strsOf n f) sep)) (strsB n f=true∧joinOk (strsOf n f) sep))
  |_=>none
 |113=>match ds with
  | [.int .i32 q,.sl 1 n f m]=>some (pC [.int .i32 q,.sl 1 n f m] (.str (quoB q (intsD n f))) (n≤1099511627776∧IntsP n f∧∀c∈intsD n f,0≤c∧c≤1114111))
  |_=>none
 |k=>conRc k ds S
theorem conJn_ok:ConOk Tryz.prog conJn:=by
 intro k ds S A h
 unfold conJn at h
 split at h
 ·split at h
  ·injection h with h;subst h
   exact pC_ok fun ⟨h1,h2⟩=>⟨weakL_refl _,sC_weak (us:=[ssl (strsOf _ _) .any,_]) ⟨ssl_weak h1,weakD_refl _,trivial⟩ (join_ok _ _ h2.1 h2.2)⟩
  ·cases h
 ·split at h
  ·injection h with h;subst h
   exact pC_ok fun ⟨h1,h2,h3⟩=>⟨weakL_refl _,sC_weak (us:=[_,isl (intsD _ _) .any]) ⟨weakD_refl _,(isl_weak h2).1,trivial⟩ (quo_ok _ _ (by rw[intsD_len];exact h1) h3)⟩
  ·cases h
 ·exact conRc_ok _ _ _ _ h
theorem amongR_step{t s:List UInt8}{x:Nat}(h:x<t.length):amongR (t.drop x) s=((t.getD x 0==32&&decide (s.length<(t.drop (x+1)).length)&&(t.drop (x+1)).take s.length==s&&(t.drop (x+1)).getD s.length 0==32)||amongR (t.drop (x+1)) s):=by
 rw[List.drop_eq_getElem_cons h,amongR]
 simp only[List.getD_eq_getElem?_getD,List.getElem?_eq_getElem h,Option.getD_some]
theorem amongR_short{s:List UInt8}:∀ {r:List UInt8},r.length<s.length+2→amongR r s=false
 | [],_=>rfl
 |b::r,h=>by
  have h1:¬s.length<r.length:=by simp only[List.length_cons] at h;omega
  rw[amongR,decide_eq_false h1,amongR_short (r:=r) (by simp only[List.length_cons] at h;omega)]
  simp
noncomputable def Eam(t s:List UInt8):Senv:={ EC con0 57 2 [4,5,6,9,13,19,27,56] (fun _=>([],[])) with
 ann:=fun b _ S=>match b with
  |0=>some { slots:=[5],keep:=[0,1],α:=Nat,st:=fun y=>([.int .i64 y],S),inv:=fun y=>y≤s.length∧(s.take y).all (fun b=>b != 32)=true,mu:=fun y=>s.length-y }
  |2=>some { slots:=[6],keep:=[0,1],α:=Nat,st:=fun y=>([.int .i64 y],S),inv:=fun y=>y≤t.length∧amongR (t.drop y) s=amongR t s,mu:=fun y=>t.length-y }
  |_=>none }
def Qpd(a b:List UInt8):Prop:=True∧∃(_y:Unit),True∧false=amongT a b∧True∧True
def Qpe(a:Nat)(c:List UInt8):Prop:=a≤LN c∧(List.all (List.take a c) fun (b:UInt8)=>b != (32:UInt8))=true
def Qpf(a:List UInt8)(b:Nat):Bool:=(BI a (Int.toNat (↑b:Int)))==(32:Int)
def Qjs(a:Nat):Int:=IntKind.wrap IntKind.i64 ((↑a:Int)+Z1)
def Qvq(a:List UInt8)(b c:Nat):Prop:=LN a-b<LN a-c∧(Qjs c=(↑b:Int)∧True)∧True∧True
def Qpg(a:Nat)(b c:List UInt8):Prop:=a≤LN b∧amongR (List.drop a b) c=amongR b c
def Qjt(a:Nat)(b:List UInt8):Int:=IntKind.wrap IntKind.i64 (Qjs a+(LI b))
def Qvr(a:Nat)(b:List UInt8):Nat:=Int.toNat (Qjt a b)
def Qvs(a:Nat)(b c:List UInt8):Bool:=List.drop (Int.toNat (Qjs a)) (List.take (Qvr a b) c)==b
def Qvt(a:List UInt8)(b:Nat)(c:List UInt8):Bool:=(BI a (Qvr b c))==(32:Int)
def Qph(a:List UInt8)(b:Nat)(c:List UInt8):Bool:=bif bif Qpf a b then Qvs b c a else false then Qvt a b c else false
def Qvu(a:List UInt8)(b:Nat)(c:List UInt8):Prop:=false=Qph a b c∧True
theorem am_ok(t s:List UInt8)(ht:t.length≤maxB)(hs:s.length≤maxB):ACalls Tryz.prog 107 [.str t,.str s] ⟨[],[]⟩ (SpecR (sC [.str t,.str s] (.bool (amongT t s))) ()):=by
 refine con_of (A:=sC _ _) (x:=()) (E:=Eam t s) (eOk con0_ok rfl) Tryz.func107 rfl (by kernel_rfl) rfl (by simp[sC,Eam,EC,E0]) ?_
 refine vc_eq (T :=
  ifB ((LI s)==Z0) (Qpd t s) ((∃(x:Nat),Qpe x s∧(Z0=(↑x:Int)∧True)∧True∧True)∧∀(x:Nat),Qpe x s→ifB (decide ((↑x:Int)<(LI s))) (side (Z0≤(↑x:Int)∧(↑x:Int)<(LI s)) (ifB (Qpf s x) (Qpd t s) ((SM (D.str t)∧SM (D.str s)∧True)∧∃(y:Nat),Qpe y s∧Qvq s y x))) ((∃(x:Nat),Qpg x t s∧(Z0=(↑x:Int)∧True)∧True∧True)∧∀(x:Nat),Qpg x t s→ifB (decide (IntKind.wrap IntKind.i64 (IntKind.wrap IntKind.i64 ((↑x:Int)+(LI s))+(2:Int))≤(LI t))) (side (Z0≤(↑x:Int)∧(↑x:Int)<(LI t)) (ifB (Qpf t x) (side (Z0≤Qjs x∧Qjs x≤Qjt x s∧Qjt x s≤(LI t)) (ifB (Qvs x s t) (side (Z0≤Qjt x s∧Qjt x s<(LI t)) (Qvt t x s=Qph t x s∧True)) (Qvu t x s))) (Qvu t x s))∧ifB (Qph t x s) (RT (true=amongT t s)) ((SM (D.str t)∧SM (D.str s)∧True)∧∃(y:Nat),Qpg y t s∧Qvq t y x)) (Qpd t s)))) (by kernel_rfl) ?_
 delta BI LI LN SM U0 Z0 Z1 Qpd Qpe Qph Qvu Qpf Qjs Qvq Qpg Qjt Qvr Qvs Qvt RT
 simp only[eq_self,ne_eq,Int.toNat_natCast,ifB_iff,side_iff,decide_eq_true_eq,decide_eq_false_iff_not,true_and,and_true,beq_iff_eq,Bool.cond_false_right,Bool.and_eq_true,Bool.and_eq_false_iff,beq_eq_false_iff_ne,exists_const]
 unfold maxB at ht hs
 have b32:∀b:UInt8,((b.toNat:Int)=32)↔b=32:=fun b=>⟨fun h=>by
  apply UInt8.toNat_inj.1
  show b.toNat=32
  omega,fun h=>by subst h;rfl⟩
 have tk:∀x:Nat,x<s.length→s.take (x+1)=s.take x++[s.getD x 0]:=fun x hx=>by
  rw[List.take_add_one,List.getElem?_eq_getElem hx,List.getD_eq_getElem?_getD,List.getElem?_eq_getElem hx];rfl
 refine⟨fun h=>?_,fun h0=>⟨⟨0,⟨Nat.zero_le _,rfl⟩,rfl⟩,fun x ⟨h1,h2⟩=>⟨fun h=>⟨⟨by omega,h⟩,fun e=>?_,fun e=>⟨x+1,⟨by omega,?_⟩,by omega,by rw[wrap_i64' (by omega) (by omega)];rfl⟩⟩,fun h=>?_⟩⟩⟩
 ·have:s=[]:=List.length_eq_zero_iff.1 (by omega)
  subst this;rfl
 ·have hx:x<s.length:=by omega
  have hm:s.getD x 0∈s:=by rw[List.getD_eq_getElem?_getD,List.getElem?_eq_getElem hx];exact List.getElem_mem hx
  have:(s.all fun b=>b != 32)=false:=by
   rw[List.all_eq_false]
   exact⟨_,hm,by rw[(b32 _).1 e];simp⟩
  unfold amongT
  rw[this];simp
 ·rw[tk x (by omega),List.all_append,h2]
  have:s.getD x 0≠32:=fun he=>e ((b32 _).2 he)
  simpa using this
 ·have hall:(s.all fun b=>b != 32)=true:=by
   have:x=s.length:=by omega
   rw[this,List.take_length] at h2
   exact h2
  have hne:s.isEmpty=false:=by
   cases s with
   |nil=>exact (h0 rfl).elim
   |cons=>rfl
  have hA:amongT t s=amongR t s:=by unfold amongT;rw[hall,hne];rfl
  rw[hA]
  refine⟨⟨0,⟨Nat.zero_le _,by rw[List.drop_zero]⟩,rfl⟩,fun y ⟨y1,y2⟩=>?_⟩
  have w1:IntKind.i64.wrap ((y:Int)+1)=((y+1:Nat):Int):=by rw[wrap_i64' (by omega) (by omega)];rfl
  have w2:IntKind.i64.wrap (((y+1:Nat):Int)+(s.length:Int))=((y+1+s.length:Nat):Int):=by rw[wrap_i64' (by omega) (by omega)];omega
  have w3:IntKind.i64.wrap (IntKind.i64.wrap ((y:Int)+(s.length:Int))+2)=((y+s.length+2:Nat):Int):=by rw[wrap_i64' (n:=(y:Int)+s.length) (by omega) (by omega),wrap_i64' (by omega) (by omega)];omega
  rw[w1,w2,w3]
  simp only[Int.toNat_natCast,b32]
  have hdt:List.drop (y+1) (List.take (y+1+s.length) t)=(t.drop (y+1)).take s.length:=by
   rw[List.drop_take];congr 1;omega
  have hgd:t.getD (y+1+s.length) 0=(t.drop (y+1)).getD s.length 0:=by simp[List.getD_eq_getElem?_getD]
  rw[hdt,hgd]
  have bi:∀b:UInt8,(((b.toNat:Int))==32)=(b==32):=fun b=>by
   by_cases hb:b=32
   ·rw[hb];rfl
   ·have h1:(b==32)=false:=by simpa using hb
    have h2:(((b.toNat:Int))==32)=false:=by
     have:=fun h=>hb ((b32 b).1 h)
     simpa using this
    rw[h1,h2]
  simp only[bi]
  refine⟨fun hle=>?_,fun hgt=>?_⟩
  ·have hy:y<t.length:=by omega
   have hstep:=amongR_step (s:=s) hy
   rw[y2] at hstep
   have hlt:decide (s.length<(t.drop (y+1)).length)=true:=by rw[List.length_drop];simp;omega
   rw[hlt,Bool.and_true] at hstep
   refine⟨⟨⟨by omega,by omega⟩,fun e1=>⟨⟨by omega,by omega,by omega⟩,fun e2=>⟨⟨by omega,by omega⟩,?_⟩,fun e2=>?_⟩,fun e1=>?_⟩,fun ⟨⟨e1,e2⟩,e3⟩=>?_,fun hno=>⟨y+1,⟨by omega,?_⟩,by omega,rfl⟩⟩
   ·rw[e1,e2];simp
   ·have:((t.drop (y+1)).take s.length==s)=false:=by simpa using e2
    rw[this];simp
   ·have:(t.getD y 0==32)=false:=by simpa using e1
    rw[this];simp
   ·rw[hstep,e1,e2,e3];simp
   ·have:(t.getD y 0==32&&(t.drop (y+1)).take s.length==s&&(t.drop (y+1)).getD s.length 0==32)=false:=by
     rw[Bool.and_eq_false_iff,Bool.and_eq_false_iff]
     rcases hno with (h | h) | h
     ·exact .inl (.inl (by simpa using h))
     ·exact .inl (.inr (by simpa using h))
     ·exact .inr (by simpa using h)
    rw[this,Bool.false_or] at hstep
    exact hstep.symm
  ·rw[← y2]
   exact (amongR_short (by rw[List.length_drop];omega)).symm
def conAm:Con:=fun k ds _=>match k with
 |107=>match ds with
  | [.str t,.str s]=>some (pC [.str t,.str s] (.bool (amongT t s)) (t.length≤maxB∧s.length≤maxB))
  |_=>none
 |_=>none
theorem conAm_ok:ConOk Tryz.prog conAm:=by
 intro k ds S A h
 unfold conAm at h
 split at h
 ·split at h
  ·injection h with h;subst h
   exact pC_ok fun ⟨h1,h2⟩=>⟨weakL_refl _,am_ok _ _ h1 h2⟩
  ·cases h
 ·cases h
noncomputable def Erres:Senv:={ EC conAm 9 1 [2] (fun _=>([],[])) with mg:=fun _=>2 }
theorem rres_ok(s:List UInt8)(hs:s.length≤maxB):ACalls Tryz.prog 92 [.str s] ⟨[],[]⟩ (SpecR (sC [.str s] (.bool (resB s))) ()):=by
 refine con_of (A:=sC _ _) (x:=()) (E:=Erres) (eOk conAm_ok rfl) Tryz.func92 rfl (by kernel_rfl) rfl (by simp[sC,Erres,EC,E0]) ?_
 refine vc_eq (T :=
  ((298:Nat)≤(8589934592:Nat)∧LN s≤(8589934592:Nat))∧∀(y:Unit),True→ifB (amongT [(32:UInt8),(88:UInt8),(32:UInt8),(89:UInt8),(32:UInt8),(70:UInt8),(32:UInt8),(71:UInt8),(32:UInt8),(115:UInt8),(101:UInt8),(108:UInt8),(102:UInt8),(32:UInt8),(97:UInt8),(114:UInt8),(103:UInt8),(32:UInt8),(109:UInt8),(105:UInt8),(110:UInt8),(32:UInt8),(109:UInt8),(97:UInt8),(120:UInt8),(32:UInt8),(97:UInt8),(110:UInt8),(100:UInt8),(32:UInt8),(111:UInt8),(114:UInt8),(32:UInt8),(110:UInt8),(111:UInt8),(116:UInt8),(32:UInt8),(115:UInt8),(104:UInt8),(97:UInt8),(112:UInt8),(101:UInt8),(32:UInt8),(114:UInt8),(101:UInt8),(115:UInt8),(104:UInt8),(97:UInt8),(112:UInt8),(101:UInt8),(32:UInt8),(116:UInt8),(97:UInt8),(108:UInt8),(108:UInt8),(121:UInt8),(32:UInt8),(100:UInt8),(101:UInt8),(112:UInt8),(116:UInt8),(104:UInt8),(32:UInt8),(115:UInt8),(116:UInt8),(97:UInt8),(99:UInt8),(107:UInt8),(32:UInt8),(105:UInt8),(111:UInt8),(116:UInt8),(97:UInt8),(32:UInt8),(116:UInt8),(97:UInt8),(107:UInt8),(101:UInt8),(32:UInt8),(100:UInt8),(114:UInt8),(111:UInt8),(112:UInt8),(32:UInt8),(102:UInt8),(105:UInt8),(114:UInt8),(115:UInt8),(116:UInt8),(32:UInt8),(114:UInt8),(101:UInt8),(118:UInt8),(101:UInt8),(114:UInt8),(115:UInt8),(101:UInt8),(32:UInt8),(114:UInt8),(111:UInt8),(116:UInt8),(97:UInt8),(116:UInt8),(101:UInt8),(32:UInt8),(116:UInt8),(114:UInt8),(97:UInt8),(110:UInt8),(115:UInt8),(112:UInt8),(111:UInt8),(115:UInt8),(101:UInt8),(32:UInt8),(102:UInt8),(114:UInt8),(111:UInt8),(109:UInt8),(32:UInt8),(112:UInt8),(105:UInt8),(99:UInt8),(107:UInt8),(32:UInt8),(115:UInt8),(101:UInt8),(108:UInt8),(101:UInt8),(99:UInt8),(116:UInt8),(32:UInt8),(97:UInt8),(109:UInt8),(101:UInt8),(110:UInt8),(100:UInt8),(32:UInt8),(117:UInt8),(112:UInt8),(32:UInt8),(100:UInt8),(111:UInt8),(119:UInt8),(110:UInt8),(32:UInt8),(115:UInt8),(111:UInt8),(114:UInt8),(116:UInt8),(32:UInt8),(102:UInt8),(105:UInt8),(110:UInt8),(100:UInt8),(32:UInt8),(105:UInt8),(110:UInt8),(32:UInt8),(117:UInt8),(110:UInt8),(105:UInt8),(113:UInt8),(117:UInt8),(101:UInt8),(32:UInt8),(119:UInt8),(104:UInt8),(101:UInt8),(114:UInt8),(101:UInt8),(32:UInt8),(99:UInt8),(111:UInt8),(112:UInt8),(121:UInt8),(32:UInt8),(101:UInt8),(120:UInt8),(112:UInt8),(97:UInt8),(110:UInt8),(100:UInt8),(32:UInt8),(99:UInt8),(117:UInt8),(116:UInt8),(32:UInt8),(101:UInt8),(110:UInt8),(99:UInt8),(111:UInt8),(100:UInt8),(101:UInt8),(32:UInt8),(100:UInt8),(101:UInt8),(99:UInt8),(111:UInt8),(100:UInt8),(101:UInt8),(32:UInt8),(98:UInt8),(111:UInt8),(120:UInt8),(32:UInt8),(111:UInt8),(112:UInt8),(101:UInt8),(110:UInt8),(32:UInt8),(115:UInt8),(97:UInt8),(109:UInt8),(101:UInt8),(32:UInt8),(107:UInt8),(105:UInt8),(110:UInt8),(100:UInt8),(32:UInt8),(111:UInt8),(114:UInt8),(100:UInt8),(32:UInt8),(99:UInt8),(104:UInt8),(114:UInt8),(32:UInt8),(102:UInt8),(111:UInt8),(114:UInt8),(109:UInt8),(97:UInt8),(116:UInt8),(32:UInt8),(108:UInt8),(101:UInt8),(102:UInt8),(116:UInt8),(32:UInt8),(114:UInt8),(105:UInt8),(103:UInt8),(104:UInt8),(116:UInt8),(32:UInt8),(101:UInt8),(97:UInt8),(99:UInt8),(104:UInt8),(32:UInt8),(115:UInt8),(119:UInt8),(97:UInt8),(112:UInt8),(32:UInt8),(111:UInt8),(117:UInt8),(116:UInt8),(101:UInt8),(114:UInt8),(32:UInt8),(105:UInt8),(110:UInt8),(110:UInt8),(101:UInt8),(114:UInt8),(32:UInt8),(114:UInt8),(97:UInt8),(110:UInt8),(107:UInt8),(32:UInt8),(112:UInt8),(111:UInt8),(119:UInt8),(101:UInt8),(114:UInt8),(32:UInt8),(115:UInt8),(116:UInt8),(101:UInt8),(110:UInt8),(99:UInt8),(105:UInt8),(108:UInt8),(32:UInt8),(97:UInt8),(116:UInt8),(111:UInt8),(112:UInt8),(32:UInt8),(111:UInt8),(118:UInt8),(101:UInt8),(114:UInt8),(32:UInt8)] s) (RT (true=resB s)) (((34:Nat)≤(8589934592:Nat)∧LN s≤(8589934592:Nat))∧∀(y:Unit),True→RT (amongT [(32:UInt8),(43:UInt8),(32:UInt8),(45:UInt8),(32:UInt8),(42:UInt8),(32:UInt8),(37:UInt8),(32:UInt8),(124:UInt8),(32:UInt8),(94:UInt8),(32:UInt8),(60:UInt8),(32:UInt8),(60:UInt8),(61:UInt8),(32:UInt8),(61:UInt8),(32:UInt8),(126:UInt8),(61:UInt8),(32:UInt8),(62:UInt8),(61:UInt8),(32:UInt8),(62:UInt8),(32:UInt8),(44:UInt8),(32:UInt8),(47:UInt8),(32:UInt8),(92:UInt8),(32:UInt8)] s=resB s))) (by kernel_rfl) ?_
 delta LN RT
 simp only[ifB_iff,true_and,and_true,exists_const,forall_const]
 generalize hA:amongT _ s=a
 generalize hB:amongT _ s=b
 have ea:a=resL.contains s:=by
  rw[← hA,← among_words s]
  congr 1
 have eb:b=sgnL.contains s:=by
  rw[← hB,← among_names s]
  congr 1
 subst ea eb
 unfold maxB at hs
 refine⟨⟨by decide,hs⟩,fun h=>?_,fun h=>⟨⟨by decide,hs⟩,?_⟩⟩
 ·unfold resB;rw[h];rfl
 ·unfold resB;rw[h];rfl
def ownL : List (List UInt8) := ["X", "Y", "F", "G", "self", "arg"].map asc ++ (primL.drop 1 ++ opL.drop 1)
theorem own_res(s:List UInt8):resB s=ownL.contains s:=by
 have h1:∀x∈resL++sgnL,ownL.contains x=true:=by decide +kernel
 have h2:∀x∈ownL,(resL++sgnL).contains x=true:=by decide +kernel
 unfold resB
 rw[← List.contains_append]
 cases h:(resL++sgnL).contains s with
 |true=>exact (h1 s (by simpa using h)).symm
 |false =>
  cases h':ownL.contains s with
  |true=>rw[h2 s (by simpa using h')] at h;cases h
  |false=>rfl
theorem primT_mem(s:List UInt8):s∈primL.drop 1↔∃q:Nat,1≤q∧q<56∧primT q=s:=by
 have e:∀q,1≤q→q<56→primT ((q:Nat):Int)=(primL.drop 1).getD (q-1) []:=fun q h1 h2=>by
  unfold primT
  rw[if_neg (by omega),Int.toNat_natCast]
  simp[List.getD_eq_getElem?_getD,show q-1+1=q by omega]
 have hl:(primL.drop 1).length=55:=by decide +kernel
 constructor
 ·intro h
  obtain ⟨i,hi,rfl⟩:=List.getElem_of_mem h
  exact⟨i+1,by omega,by omega,by rw[e _ (by omega) (by omega)];simp only[Nat.add_sub_cancel];simp only[List.getD_eq_getElem?_getD,List.getElem?_eq_getElem hi,Option.getD_some]⟩
 ·rintro ⟨q,h1,h2,rfl⟩
  rw[e q h1 h2]
  have:q-1<(primL.drop 1).length:=by omega
  rw[List.getD_eq_getElem?_getD,List.getElem?_eq_getElem this]
  exact List.getElem_mem this
theorem opT_mem(s:List UInt8):s∈opL.drop 1↔∃q:Nat,1≤q∧q<12∧opT q=s:=by
 have e:∀q,1≤q→q<12→opT ((q:Nat):Int)=(opL.drop 1).getD (q-1) []:=fun q h1 h2=>by
  unfold opT
  rw[if_neg (by omega),Int.toNat_natCast]
  simp[List.getD_eq_getElem?_getD,show q-1+1=q by omega]
 have hl:(opL.drop 1).length=11:=by decide +kernel
 constructor
 ·intro h
  obtain ⟨i,hi,rfl⟩:=List.getElem_of_mem h
  exact⟨i+1,by omega,by omega,by rw[e _ (by omega) (by omega)];simp only[Nat.add_sub_cancel];simp only[List.getD_eq_getElem?_getD,List.getElem?_eq_getElem hi,Option.getD_some]⟩
 ·rintro ⟨q,h1,h2,rfl⟩
  rw[e q h1 h2]
  have:q-1<(opL.drop 1).length:=by omega
  rw[List.getD_eq_getElem?_getD,List.getElem?_eq_getElem this]
  exact List.getElem_mem this
theorem name_iff(s : List UInt8)(h32 : s.length ≤ 32)(hp : plainB s = true) : nameB s = true ↔ (s ≠ asc "self" ∧ s ≠ asc "arg" ∧ (∀ q : Nat, 1 ≤ q → q < 56 → primT q ≠ s) ∧ ∀ q : Nat, 1 ≤ q → q < 12 → opT q ≠ s) := by
 have hx : ∀ x ∈ ["X", "Y", "F", "G"].map asc, plainB x = false := by decide +kernel
 unfold nameB
 rw[hp,decide_eq_true h32,own_res]
 have hs : s ∈ ownL ↔ (s = asc "self" ∨ s = asc "arg" ∨ s ∈ primL.drop 1 ∨ s ∈ opL.drop 1) := by
  unfold ownL
  rw[List.mem_append,List.mem_append]
  constructor
  ·rintro (h | h)
   ·simp only[List.map_cons,List.map_nil,List.mem_cons,List.not_mem_nil,or_false] at h
    rcases h with h | h | h | h | h | h
    ·rw[hx s (by rw[h];simp)] at hp;cases hp
    ·rw[hx s (by rw[h];simp)] at hp;cases hp
    ·rw[hx s (by rw[h];simp)] at hp;cases hp
    ·rw[hx s (by rw[h];simp)] at hp;cases hp
    ·exact .inl h
    ·exact .inr (.inl h)
   ·exact .inr (.inr h)
  ·rintro (h | h | h)
   ·rw[h];exact .inl (by simp)
   ·rw[h];exact .inl (by simp)
   ·exact .inr h
 rw[primT_mem,opT_mem] at hs
 simp only[Bool.true_and,Bool.not_eq_true',List.contains_eq_mem,decide_eq_false_iff_not]
 rw[hs]
 constructor
 ·intro h
  exact⟨fun e=>h (.inl e),fun e=>h (.inr (.inl e)),fun q h1 h2 e=>h (.inr (.inr (.inl ⟨q,h1,h2,e⟩))),fun q h1 h2 e=>h (.inr (.inr (.inr ⟨q,h1,h2,e⟩)))⟩
 ·rintro ⟨h1,h2,h3,h4⟩ (h | h | ⟨q,q1,q2,q3⟩ | ⟨q,q1,q2,q3⟩)
  ·exact h1 h
  ·exact h2 h
  ·exact h3 q q1 q2 q3
  ·exact h4 q q1 q2 q3
def conNn:Con:=fun k ds _=>match k with
 |64=>match ds with
  | [.int .i64 p]=>some (pC [.int .i64 p] (.str (primT p)) True)
  |_=>none
 |65=>match ds with
  | [.int .i64 p]=>some (pC [.int .i64 p] (.str (opT p)) True)
  |_=>none
 |92=>match ds with
  | [.str s]=>some (pC [.str s] (.bool (resB s)) (s.length≤maxB))
  |_=>none
 |_=>none
theorem conNn_ok:ConOk Tryz.prog conNn:=by
 intro k ds S A h
 unfold conNn at h
 split at h
 ·split at h
  ·injection h with h;subst h
   exact pC_ok fun _=>⟨weakL_refl _,pn_ok _⟩
  ·cases h
 ·split at h
  ·injection h with h;subst h
   exact pC_ok fun _=>⟨weakL_refl _,on_ok _⟩
  ·cases h
 ·split at h
  ·injection h with h;subst h
   exact pC_ok fun h1=>⟨weakL_refl _,rres_ok _ h1⟩
  ·cases h
 ·cases h
def chrN(b:UInt8):Bool:=low b||dig b
theorem chrN_iff(b:UInt8):chrN b=true↔((97≤b.toNat∧b.toNat≤122)∨(48≤b.toNat∧b.toNat≤57)):=by
 unfold chrN low dig
 simp only[Bool.or_eq_true,Bool.and_eq_true,decide_eq_true_eq]
theorem plainB_iff(s:List UInt8):plainB s=true↔s≠[]∧low (s.getD 0 0)=true∧s.all chrN=true:=by
 unfold plainB
 simp only[Bool.and_eq_true,Bool.not_eq_true',List.isEmpty_eq_false_iff,and_assoc]
 exact Iff.rfl
theorem all_chr{s:List UInt8}(h:s.all chrN=true){i:Nat}(hi:i<s.length):chrN (s.getD i 0)=true:=by
 rw[List.getD_eq_getElem?_getD,List.getElem?_eq_getElem hi]
 exact List.all_eq_true.1 h _ (List.getElem_mem hi)
theorem take_chr{s:List UInt8}{x:Nat}(hx:x<s.length)(h1:(s.take x).all chrN=true)(h2:chrN (s.getD x 0)=true):(s.take (x+1)).all chrN=true:=by
 have e:s.take (x+1)=s.take x++[s.getD x 0]:=by
  rw[List.take_add_one,List.getElem?_eq_getElem hx,List.getD_eq_getElem?_getD,List.getElem?_eq_getElem hx];rfl
 rw[e,List.all_append,h1,List.all_cons,h2];rfl
theorem name_facts{s:List UInt8}(h:nameB s=true):s≠[]∧s.length≤32∧s≠[115,101,108,102]∧s≠[97,114,103]∧(97≤(s.getD 0 0).toNat∧(s.getD 0 0).toNat≤122)∧(∀i,i<s.length→((97≤(s.getD i 0).toNat∧(s.getD i 0).toNat≤122)∨(48≤(s.getD i 0).toNat∧(s.getD i 0).toNat≤57)))∧(∀q:Nat,1≤q→q<56→primT q≠s)∧∀q:Nat,1≤q→q<12→opT q≠s:=by
 have h0:=h
 unfold nameB at h
 simp only[Bool.and_eq_true,decide_eq_true_eq] at h
 obtain ⟨⟨hp,h32⟩,_⟩:=h
 obtain ⟨h1,h2,h3,h4⟩:=(name_iff s h32 hp).1 h0
 obtain ⟨p1,p2,p3⟩:=(plainB_iff s).1 hp
 have e1 : asc "self" = [115, 101, 108, 102] := by decide +kernel
 have e2 : asc "arg" = [97, 114, 103] := by decide +kernel
 rw[e1] at h1
 rw[e2] at h2
 unfold low at p2
 simp only[Bool.and_eq_true,decide_eq_true_eq] at p2
 exact⟨p1,h32,h1,h2,p2,fun i hi=>(chrN_iff _).1 (all_chr p3 hi),h3,h4⟩
theorem name_yes{s:List UInt8}(h1:s≠[])(h2:s.length≤32)(h3:s≠[115,101,108,102])(h4:s≠[97,114,103])(h5:97≤(s.getD 0 0).toNat∧(s.getD 0 0).toNat≤122)(h6:s.all chrN=true)(h7:∀q:Nat,1≤q→q<56→primT q≠s)(h8:∀q:Nat,1≤q→q<12→opT q≠s):nameB s=true:=by
 have e1 : asc "self" = [115, 101, 108, 102] := by decide +kernel
 have e2 : asc "arg" = [97, 114, 103] := by decide +kernel
 refine (name_iff s h2 ((plainB_iff s).2 ⟨h1,?_,h6⟩)).2 ⟨by rw[e1];exact h3,by rw[e2];exact h4,h7,h8⟩
 unfold low
 simp only[Bool.and_eq_true,decide_eq_true_eq]
 exact h5
theorem name_not{s:List UInt8}(h:nameB s=true→False):false=nameB s:=by
 cases e:nameB s with
 |false=>rfl
 |true=>exact (h e).elim
noncomputable def Ein(s:List UInt8):Senv:={ EC conNn 75 1 [2,3,4,5,30,32,33,34,57,60,66,68,74] (fun _=>([],[])) with
 mg:=fun _=>2
 ann:=fun b _ S=>match b with
  |0=>some { slots:=[33],keep:=[0,32],α:=Nat,st:=fun y=>([.int .i64 y],S),inv:=fun y=>y≤s.length∧(s.take y).all chrN=true,mu:=fun y=>s.length-y }
  |2=>some { slots:=[4],keep:=[0],α:=Nat,st:=fun y=>([.int .i64 y],S),inv:=fun y=>1≤y∧y≤56∧∀q:Nat,1≤q→q<y→primT q≠s,mu:=fun y=>56-y }
  |4=>some { slots:=[5],keep:=[0],α:=Nat,st:=fun y=>([.int .i64 y],S),inv:=fun y=>1≤y∧y≤12∧∀q:Nat,1≤q→q<y→opT q≠s,mu:=fun y=>12-y }
  |_=>none }
def Qaa(a:List UInt8):Prop:=True∧∃(_y:Unit),True∧false=nameB a∧True∧True
def Qpi(a:Nat)(b:List UInt8):Prop:=a≤LN b∧List.all (List.take a b) chrN=true
def Qla(a:List UInt8)(b:Nat):Int:=(BI a (Int.toNat (↑b:Int)))
def Qpj(a b:Nat):Prop:=(IntKind.wrap IntKind.i64 ((↑a:Int)+Z1)=(↑b:Int)∧True)∧True∧True
def Qvv(a:List UInt8)(b:Nat):Prop:=(SM (D.str a)∧SM (ZI (LI a))∧True)∧∃(y:Nat),Qpi y a∧LN a-y<LN a-b∧Qpj b y
def Qvw(a:Nat)(b:List UInt8):Prop:=side (Z0≤(↑a:Int)∧(↑a:Int)<(LI b)) (ifB (decide (Qla b a<(48:Int))) (Qaa b) (side (Z0≤(↑a:Int)∧(↑a:Int)<(LI b)) (ifB (decide ((57:Int)<Qla b a)) (Qaa b) (Qvv b a))))
def Qpk(a:Nat)(b:List UInt8):Prop:=N1≤a∧a≤(56:Nat)∧∀(q:Nat),N1≤q→q<a→primT (↑q:Int)≠b
def Qpl(a:Nat)(b:List UInt8):Prop:=N1≤a∧a≤(12:Nat)∧∀(q:Nat),N1≤q→q<a→opT (↑q:Int)≠b
theorem in_ok(s:List UInt8):ACalls Tryz.prog 57 [.str s] ⟨[],[]⟩ (SpecR (sC [.str s] (.bool (nameB s))) ()):=by
 refine con_of (A:=sC _ _) (x:=()) (E:=Ein s) (eOk conNn_ok rfl) Tryz.func57 rfl (by kernel_rfl) rfl (by simp[sC,Ein,EC,E0]) ?_
 refine vc_eq (T :=
  ifB (s==[]) (Qaa s) (ifB (decide ((32:Int)<(LI s))) (Qaa s) (ifB (s==[(115:UInt8),(101:UInt8),(108:UInt8),(102:UInt8)]) (Qaa s) (ifB (s==[(97:UInt8),(114:UInt8),(103:UInt8)]) (Qaa s) (side (Z0≤Z0∧Z0<(LI s)) (ifB (decide ((BI s N0)<(97:Int))) (Qaa s) (side (Z0≤Z0∧Z0<(LI s)) (ifB (decide ((122:Int)<(BI s N0))) (Qaa s) ((∃(x:Nat),Qpi x s∧(Z0=(↑x:Int)∧True)∧True∧True)∧∀(x:Nat),Qpi x s→ifB (decide ((↑x:Int)<(LI s))) (side (Z0≤(↑x:Int)∧(↑x:Int)<(LI s)) (ifB (decide (Qla s x<(97:Int))) (Qvw x s) (side (Z0≤(↑x:Int)∧(↑x:Int)<(LI s)) (ifB (decide ((122:Int)<Qla s x)) (Qvw x s) (Qvv s x))))) ((∃(x:Nat),Qpk x s∧(Z1=(↑x:Int)∧True)∧True∧True)∧∀(x:Nat),Qpk x s→ifB (decide ((↑x:Int)≤(55:Int))) (True∧∀(y:Unit),True→ifB (primT (↑x:Int)==s) (Qaa s) ((SM (D.str s)∧True)∧∃(y:Nat),Qpk y s∧(56:Nat)-y<(56:Nat)-x∧Qpj x y)) ((∃(x:Nat),Qpl x s∧(Z1=(↑x:Int)∧True)∧True∧True)∧∀(x:Nat),Qpl x s→ifB (decide ((↑x:Int)≤(11:Int))) (True∧∀(y:Unit),True→ifB (opT (↑x:Int)==s) (Qaa s) ((SM (D.str s)∧True)∧∃(y:Nat),Qpl y s∧(12:Nat)-y<(12:Nat)-x∧Qpj x y)) (RT (true=nameB s))))))))))))) (by kernel_rfl) ?_
 delta BI LI LN N0 N1 SM U0 Z0 Z1 ZI Qaa Qpi Qla Qpj Qvv Qvw Qpk Qpl RT
 simp only[eq_self,ne_eq,Int.toNat_natCast,ifB_iff,side_iff,decide_eq_true_eq,decide_eq_false_iff_not,true_and,and_true,beq_iff_eq,beq_eq_false_iff_ne,exists_const,forall_const]
 refine⟨fun h=>name_not fun e=>(name_facts e).1 h,fun k1=>⟨fun h=>name_not fun e=>by have:=(name_facts e).2.1;omega,fun k2=>⟨fun h=>name_not fun e=>(name_facts e).2.2.1 h,fun k3=>⟨fun h=>name_not fun e=>(name_facts e).2.2.2.1 h,fun k4=>?_⟩⟩⟩⟩
 have hl:0<s.length:=List.length_pos_iff.2 k1
 refine⟨⟨by omega,by omega⟩,fun h=>name_not fun e=>by have:=(name_facts e).2.2.2.2.1;omega,fun k5=>⟨⟨by omega,by omega⟩,fun h=>name_not fun e=>by have:=(name_facts e).2.2.2.2.1;omega,fun k6=>⟨⟨0,⟨Nat.zero_le _,rfl⟩,rfl⟩,fun x ⟨hx,ht⟩=>⟨fun hlt=>?_,fun hge=>?_⟩⟩⟩⟩
 ·have hx':x<s.length:=by omega
  have w:IntKind.i64.wrap ((x:Int)+1)=((x+1:Nat):Int):=by rw[wrap_i64' (by omega) (by omega)];rfl
  have go:((97≤(s.getD x 0).toNat∧(s.getD x 0).toNat≤122)∨(48≤(s.getD x 0).toNat∧(s.getD x 0).toNat≤57))→∃y,(y≤s.length∧(List.take y s).all chrN=true)∧s.length-y<s.length-x∧IntKind.i64.wrap ((x:Int)+1)=(y:Int):=fun hc =>
   ⟨x+1,⟨hx',take_chr hx' ht ((chrN_iff _).2 hc)⟩,by omega,w⟩
  have no:¬((97≤(s.getD x 0).toNat∧(s.getD x 0).toNat≤122)∨(48≤(s.getD x 0).toNat∧(s.getD x 0).toNat≤57))→false=nameB s:=fun hc=>name_not fun e=>hc ((name_facts e).2.2.2.2.2.1 x hx')
  exact⟨⟨by omega,by omega⟩,fun a1=>⟨⟨by omega,by omega⟩,fun a2=>no (by omega),fun a2=>⟨⟨by omega,by omega⟩,fun a3=>no (by omega),fun a3=>go (by omega)⟩⟩,
   fun a1=>⟨⟨by omega,by omega⟩,fun a2=>⟨⟨by omega,by omega⟩,fun a3=>no (by omega),fun a3=>⟨⟨by omega,by omega⟩,fun a4=>no (by omega),fun a4=>go (by omega)⟩⟩,fun a2=>go (by omega)⟩⟩
 ·have hall:s.all chrN=true:=by
   have:x=s.length:=by omega
   rwa [this,List.take_length] at ht
  refine⟨⟨1,⟨Nat.le_refl _,by omega,fun q h1 h2=>by omega⟩,rfl⟩,fun y ⟨y1,y2,y3⟩=>⟨fun hy=>⟨fun e=>name_not fun e'=>(name_facts e').2.2.2.2.2.2.1 y y1 (by omega) e,fun e=>⟨y+1,⟨by omega,by omega,fun q h1 h2=>?_⟩,by omega,by rw[wrap_i64' (by omega) (by omega)];rfl⟩⟩,
   fun hy=>⟨⟨1,⟨Nat.le_refl _,by omega,fun q h1 h2=>by omega⟩,rfl⟩,fun z ⟨z1,z2,z3⟩=>⟨fun hz=>⟨fun e=>name_not fun e'=>(name_facts e').2.2.2.2.2.2.2 z z1 (by omega) e,fun e=>⟨z+1,⟨by omega,by omega,fun q h1 h2=>?_⟩,by omega,by rw[wrap_i64' (by omega) (by omega)];rfl⟩⟩,fun hz=>?_⟩⟩⟩⟩
  ·by_cases e':q=y
   ·rw[e'];exact e
   ·exact y3 q h1 (by omega)
  ·by_cases e':q=z
   ·rw[e'];exact e
   ·exact z3 q h1 (by omega)
  ·exact (name_yes k1 (by omega) k3 k4 ⟨by omega,by omega⟩ hall (fun q h1 h2=>y3 q h1 (by omega)) fun q h1 h2=>z3 q h1 (by omega)).symm
def zeroD(vk:Int)(sh nu it:Nat):Bool:=vk==0&&(sh==0)&&(nu==0)&&(it==0)
def onlyD(kd at_:Int)(tx:List UInt8)(pr op vk:Int)(sh nu it bo:Nat)(de sl ss k:Int):Bool :=
 kd==k&&decide (0≤at_)&&decide (0≤de)&&decide (0≤sl)&&decide (0≤ss)&&(tx.isEmpty||k==2)&&(pr==0||k==9)&&(op==0||k==17)&&(zeroD vk sh nu it||k==1)&&((bo==0)||k==10)
def emptyD(kd at_ cl:Int)(tx:List UInt8)(pr op vk:Int)(sh nu it ki bo:Nat)(de sl ss:Int):Bool:=kd==0&&at_==0&&cl==0&&de==0&&sl==0&&ss==0&&onlyD kd at_ tx pr op vk sh nu it bo de sl ss 0&&(ki==0)
theorem len_zero{α:Type}(l:List α):(l.length==0)=l.isEmpty:=by cases l<;>rfl
theorem onlyD_eq(n:Nd)(k:Int):onlyD n.kd n.at_ n.tx n.pr n.op n.va.k n.va.sh.length n.va.nu.length n.va.it.length n.bo.length n.de n.sl n.ss k=onlyB n k:=by
 unfold onlyD onlyB zeroD zeroA
 simp[len_zero]
theorem emptyD_eq(n:Nd):emptyD n.kd n.at_ n.cl n.tx n.pr n.op n.va.k n.va.sh.length n.va.nu.length n.va.it.length n.ki.length n.bo.length n.de n.sl n.ss=emptyB n:=by
 unfold emptyD emptyB
 rw[onlyD_eq]
 simp[len_zero]
def ndC(kd at_ cl:Int)(tx:List UInt8)(pr op vk:Int)(sh nu it ki bo:Nat)(f1 f2 f3 f4 f5:Nat→List D)(de sl ss:Int):List D :=
 [.int .i64 kd,.int .i64 at_,.int .i64 cl,.str tx,.int .i64 pr,.int .i64 op,.int .i64 vk,.sl 1 sh f1 .any,.sl 1 nu f2 .any,.sl 4 it f3 .any,.sl 15 ki f4 .any,.sl 34 bo f5 .any,.int .i64 de,.int .i64 sl,.int .i64 ss]
noncomputable def Eiz:Senv:=EC con0 24 3 [] (fun _=>([],[]))
def QiC(a:Nat):Bool:=(↑a:Int)==Z0
def Qpm(a:Int)(b c d:Nat):Bool:=bif bif bif a==Z0 then QiC b else false then QiC c else false then QiC d else false
def Qpn(a:Int)(b c d:Nat):Prop:=false=Qpm a b c d∧True
theorem iz_ok(vk:Int)(sh nu it:Nat)(f1 f2 f3:Nat→List D):CD 102 [.agg [.int .i64 vk,.sl 1 sh f1 .any,.sl 1 nu f2 .any,.sl 4 it f3 .any]] (.bool (zeroD vk sh nu it)):=by
 refine con_of (A:=sC _ _) (x:=()) (E:=Eiz) (eOk con0_ok rfl) Tryz.func102 rfl (by kernel_rfl) rfl (by simp[sC,Eiz,EC,E0]) ?_
 refine vc_eq (T :=
  ∀(x:Nat),True→(SM x∧ifB (vk==Z0) (SM x∧ifB (QiC sh) (SM x∧ifB (QiC nu) (SM x∧QiC it=Qpm vk sh nu it∧True) (Qpn vk sh nu it)) (Qpn vk sh nu it)) (Qpn vk sh nu it))∧RT (Qpm vk sh nu it=zeroD vk sh nu it)) (by kernel_rfl) ?_
 delta SM Z0 QiC Qpm Qpn RT
 have z:∀n:Nat,((n:Int)==0)=(n==0):=fun n=>by
  rw[Bool.eq_iff_iff,beq_iff_eq,beq_iff_eq];omega
 simp only[z]
 unfold zeroD
 generalize (vk==0)=a
 generalize (sh==0)=b
 generalize (nu==0)=c
 generalize (it==0)=d
 intro x _
 cases a<;>cases b<;>cases c<;>cases d<;>simp[ifB_iff]
def conOl:Con:=fun k ds _=>match k with
 |102=>match ds with
  | [.agg [.int .i64 vk,.sl 1 sh _ _,.sl 1 nu _ _,.sl 4 it _ _]]=>some (pC ds (.bool (zeroD vk sh nu it)) True)
  |_=>none
 |_=>none
theorem conOl_ok:ConOk Tryz.prog conOl:=by
 intro k ds S A h
 unfold conOl at h
 split at h
 ·split at h
  ·injection h with h;subst h
   rename_i vk sh f1 _ nu f2 _ it f3 _
   exact pC_ok fun _=>⟨weakL_refl _,sC_weak (us:=[.agg [.int .i64 vk,.sl 1 sh f1 .any,.sl 1 nu f2 .any,.sl 4 it f3 .any]]) (by simp[weakL,weakD,chk_iff,weakM,kEq]) (iz_ok _ _ _ _ _ _ _)⟩
  ·cases h
 ·cases h
noncomputable def Eol:Senv:=EC conOl 75 3 [4] (fun _=>([],[]))
theorem ol_ok(kd at_ cl : Int)(tx : List UInt8)(pr op vk : Int)(sh nu it ki bo : Nat)(f1 f2 f3 f4 f5 : Nat → List D)(de sl ss k : Int) :
  ACalls Tryz.prog 76 [.agg (ndC kd at_ cl tx pr op vk sh nu it ki bo f1 f2 f3 f4 f5 de sl ss),.int .i64 k] ⟨[],[]⟩ (SpecR (sC [.agg (ndC kd at_ cl tx pr op vk sh nu it ki bo f1 f2 f3 f4 f5 de sl ss),.int .i64 k] (.bool (onlyD kd at_ tx pr op vk sh nu it bo de sl ss k))) ()):=by
 refine con_of (A:=sC _ _) (x:=()) (E:=Eol) (eOk conOl_ok rfl) Tryz.func76 rfl (by kernel_rfl) rfl (by simp[sC,Eol,EC,E0]) ?_
 refine vc_eq (T :=
  ∀(x:Nat),True→SM x∧ifB (kd==k) (SM x∧ifB (decide (Z0≤at_)) (SM x∧ifB (decide (Z0≤de)) (SM x∧ifB (decide (Z0≤sl)) (SM x∧ifB (decide (Z0≤ss)) (SM x∧ifB (tx==[]) (SM x∧ifB (pr==Z0) (SM x∧ifB (op==Z0) (SM x∧True∧∀(y:Unit),True→ifB (zeroD vk sh nu it) (SM x∧ifB ((↑bo:Int)==Z0) (RT (true=onlyD kd at_ tx pr op vk sh nu it bo de sl ss k)) (RT ((k==(10:Int))=onlyD kd at_ tx pr op vk sh nu it bo de sl ss k))) (ifB (k==Z1) (SM x∧ifB ((↑bo:Int)==Z0) (RT (true=onlyD kd at_ tx pr op vk sh nu it bo de sl ss k)) (RT ((k==(10:Int))=onlyD kd at_ tx pr op vk sh nu it bo de sl ss k))) (RT (false=onlyD kd at_ tx pr op vk sh nu it bo de sl ss k)))) (ifB (k==(17:Int)) (SM x∧True∧∀(y:Unit),True→ifB (zeroD vk sh nu it) (SM x∧ifB ((↑bo:Int)==Z0) (RT (true=onlyD kd at_ tx pr op vk sh nu it bo de sl ss k)) (RT ((k==(10:Int))=onlyD kd at_ tx pr op vk sh nu it bo de sl ss k))) (ifB (k==Z1) (SM x∧ifB ((↑bo:Int)==Z0) (RT (true=onlyD kd at_ tx pr op vk sh nu it bo de sl ss k)) (RT ((k==(10:Int))=onlyD kd at_ tx pr op vk sh nu it bo de sl ss k))) (RT (false=onlyD kd at_ tx pr op vk sh nu it bo de sl ss k)))) (RT (false=onlyD kd at_ tx pr op vk sh nu it bo de sl ss k)))) (ifB (k==(9:Int)) (SM x∧ifB (op==Z0) (SM x∧True∧∀(y:Unit),True→ifB (zeroD vk sh nu it) (SM x∧ifB ((↑bo:Int)==Z0) (RT (true=onlyD kd at_ tx pr op vk sh nu it bo de sl ss k)) (RT ((k==(10:Int))=onlyD kd at_ tx pr op vk sh nu it bo de sl ss k))) (ifB (k==Z1) (SM x∧ifB ((↑bo:Int)==Z0) (RT (true=onlyD kd at_ tx pr op vk sh nu it bo de sl ss k)) (RT ((k==(10:Int))=onlyD kd at_ tx pr op vk sh nu it bo de sl ss k))) (RT (false=onlyD kd at_ tx pr op vk sh nu it bo de sl ss k)))) (ifB (k==(17:Int)) (SM x∧True∧∀(y:Unit),True→ifB (zeroD vk sh nu it) (SM x∧ifB ((↑bo:Int)==Z0) (RT (true=onlyD kd at_ tx pr op vk sh nu it bo de sl ss k)) (RT ((k==(10:Int))=onlyD kd at_ tx pr op vk sh nu it bo de sl ss k))) (ifB (k==Z1) (SM x∧ifB ((↑bo:Int)==Z0) (RT (true=onlyD kd at_ tx pr op vk sh nu it bo de sl ss k)) (RT ((k==(10:Int))=onlyD kd at_ tx pr op vk sh nu it bo de sl ss k))) (RT (false=onlyD kd at_ tx pr op vk sh nu it bo de sl ss k)))) (RT (false=onlyD kd at_ tx pr op vk sh nu it bo de sl ss k)))) (RT (false=onlyD kd at_ tx pr op vk sh nu it bo de sl ss k)))) (ifB (k==(2:Int)) (SM x∧ifB (pr==Z0) (SM x∧ifB (op==Z0) (SM x∧True∧∀(y:Unit),True→ifB (zeroD vk sh nu it) (SM x∧ifB ((↑bo:Int)==Z0) (RT (true=onlyD kd at_ tx pr op vk sh nu it bo de sl ss k)) (RT ((k==(10:Int))=onlyD kd at_ tx pr op vk sh nu it bo de sl ss k))) (ifB (k==Z1) (SM x∧ifB ((↑bo:Int)==Z0) (RT (true=onlyD kd at_ tx pr op vk sh nu it bo de sl ss k)) (RT ((k==(10:Int))=onlyD kd at_ tx pr op vk sh nu it bo de sl ss k))) (RT (false=onlyD kd at_ tx pr op vk sh nu it bo de sl ss k)))) (ifB (k==(17:Int)) (SM x∧True∧∀(y:Unit),True→ifB (zeroD vk sh nu it) (SM x∧ifB ((↑bo:Int)==Z0) (RT (true=onlyD kd at_ tx pr op vk sh nu it bo de sl ss k)) (RT ((k==(10:Int))=onlyD kd at_ tx pr op vk sh nu it bo de sl ss k))) (ifB (k==Z1) (SM x∧ifB ((↑bo:Int)==Z0) (RT (true=onlyD kd at_ tx pr op vk sh nu it bo de sl ss k)) (RT ((k==(10:Int))=onlyD kd at_ tx pr op vk sh nu it bo de sl ss k))) (RT (false=onlyD kd at_ tx pr op vk sh nu it bo de sl ss k)))) (RT (false=onlyD kd at_ tx pr op vk sh nu it bo de sl ss k)))) (ifB (k==(9:Int)) (SM x∧ifB (op==Z0) (SM x∧True∧∀(y:Unit),True→ifB (zeroD vk sh nu it) (SM x∧ifB ((↑bo:Int)==Z0) (RT (true=onlyD kd at_ tx pr op vk sh nu it bo de sl ss k)) (RT ((k==(10:Int))=onlyD kd at_ tx pr op vk sh nu it bo de sl ss k))) (ifB (k==Z1) (SM x∧ifB ((↑bo:Int)==Z0) (RT (true=onlyD kd at_ tx pr op vk sh nu it bo de sl ss k)) (RT ((k==(10:Int))=onlyD kd at_ tx pr op vk sh nu it bo de sl ss k))) (RT (false=onlyD kd at_ tx pr op vk sh nu it bo de sl ss k)))) (ifB (k==(17:Int)) (SM x∧True∧∀(y:Unit),True→ifB (zeroD vk sh nu it) (SM x∧ifB ((↑bo:Int)==Z0) (RT (true=onlyD kd at_ tx pr op vk sh nu it bo de sl ss k)) (RT ((k==(10:Int))=onlyD kd at_ tx pr op vk sh nu it bo de sl ss k))) (ifB (k==Z1) (SM x∧ifB ((↑bo:Int)==Z0) (RT (true=onlyD kd at_ tx pr op vk sh nu it bo de sl ss k)) (RT ((k==(10:Int))=onlyD kd at_ tx pr op vk sh nu it bo de sl ss k))) (RT (false=onlyD kd at_ tx pr op vk sh nu it bo de sl ss k)))) (RT (false=onlyD kd at_ tx pr op vk sh nu it bo de sl ss k)))) (RT (false=onlyD kd at_ tx pr op vk sh nu it bo de sl ss k)))) (RT (false=onlyD kd at_ tx pr op vk sh nu it bo de sl ss k)))) (RT (false=onlyD kd at_ tx pr op vk sh nu it bo de sl ss k))) (RT (false=onlyD kd at_ tx pr op vk sh nu it bo de sl ss k))) (RT (false=onlyD kd at_ tx pr op vk sh nu it bo de sl ss k))) (RT (false=onlyD kd at_ tx pr op vk sh nu it bo de sl ss k))) (RT (false=onlyD kd at_ tx pr op vk sh nu it bo de sl ss k))) (by kernel_rfl) ?_
 delta SM Z0 Z1 RT
 have z:∀n:Nat,((n:Int)==0)=(n==0):=fun n=>by
  rw[Bool.eq_iff_iff,beq_iff_eq,beq_iff_eq];omega
 have e:(tx==[])=tx.isEmpty:=by cases tx<;>rfl
 unfold onlyD
 simp only[z,e]
 generalize (kd==k)=a1
 generalize decide (0≤at_)=a2
 generalize decide (0≤de)=a3
 generalize decide (0≤sl)=a4
 generalize decide (0≤ss)=a5
 generalize tx.isEmpty=a6
 generalize (k==2)=a7
 generalize (pr==0)=a8
 generalize (k==9)=a9
 generalize (op==0)=b1
 generalize (k==17)=b2
 generalize zeroD vk sh nu it=b3
 generalize (k==1)=b4
 generalize (bo==0)=b5
 generalize (k==10)=b6
 simp only[ifB_iff,true_and,and_true,exists_const,forall_const]
 repeat' (first | refine And.intro ?_ ?_ | intro _)
 all_goals subst_vars
 all_goals simp only[Bool.true_and,Bool.and_true,Bool.false_and,Bool.and_false,Bool.true_or,Bool.false_or,Bool.or_true,Bool.or_false]
def conEm:Con:=fun k ds S=>match k with
 |76=>match ds with
  | [.agg [.int .i64 kd,.int .i64 at_,.int .i64 _,.str tx,.int .i64 pr,.int .i64 op,.int .i64 vk,.sl 1 sh _ _,.sl 1 nu _ _,.sl 4 it _ _,.sl 15 _ _ _,.sl 34 bo _ _,.int .i64 de,.int .i64 sl,.int .i64 ss],.int .i64 k]=>some (pC ds (.bool (onlyD kd at_ tx pr op vk sh nu it bo de sl ss k)) True)
  |_=>none
 |k=>conOl k ds S
theorem nd_any(kd at_ cl : Int)(tx : List UInt8)(pr op vk : Int)(sh nu it ki bo : Nat)(f1 f2 f3 f4 f5 : Nat → List D)(m1 m2 m3 m4 m5 : Ab.Mode)(de sl ss : Int)(ex : List D) :
  weakL (.agg [.int .i64 kd,.int .i64 at_,.int .i64 cl,.str tx,.int .i64 pr,.int .i64 op,.int .i64 vk,.sl 1 sh f1 m1,.sl 1 nu f2 m2,.sl 4 it f3 m3,.sl 15 ki f4 m4,.sl 34 bo f5 m5,.int .i64 de,.int .i64 sl,.int .i64 ss]::ex) (.agg (ndC kd at_ cl tx pr op vk sh nu it ki bo f1 f2 f3 f4 f5 de sl ss)::ex):=by
 refine⟨?_,weakL_refl _⟩
 simp[ndC,weakL,weakD,chk_iff,weakM,kEq]
theorem conEm_ok:ConOk Tryz.prog conEm:=by
 intro k ds S A h
 unfold conEm at h
 split at h
 ·split at h
  ·injection h with h;subst h
   exact pC_ok fun _=>⟨weakL_refl _,sC_weak (nd_any _ _ _ _ _ _ _ _ _ _ _ _ _ _ _ _ _ _ _ _ _ _ _ _ _ _) (ol_ok _ _ _ _ _ _ _ _ _ _ _ _ _ _ _ _ _ _ _ _ _)⟩
  ·cases h
 ·exact conOl_ok _ _ _ _ h
noncomputable def Eem:Senv:=EC conEm 41 3 [] (fun _=>([],[]))
theorem em_ok(kd at_ cl : Int)(tx : List UInt8)(pr op vk : Int)(sh nu it ki bo : Nat)(f1 f2 f3 f4 f5 : Nat → List D)(de sl ss : Int) :
  ACalls Tryz.prog 56 [.agg (ndC kd at_ cl tx pr op vk sh nu it ki bo f1 f2 f3 f4 f5 de sl ss)] ⟨[],[]⟩ (SpecR (sC [.agg (ndC kd at_ cl tx pr op vk sh nu it ki bo f1 f2 f3 f4 f5 de sl ss)] (.bool (emptyD kd at_ cl tx pr op vk sh nu it ki bo de sl ss))) ()):=by
 refine con_of (A:=sC _ _) (x:=()) (E:=Eem) (eOk conEm_ok rfl) Tryz.func56 rfl (by kernel_rfl) rfl (by simp[sC,Eem,EC,E0]) ?_
 refine vc_eq (T :=
  ∀(x:Nat),True→SM x∧ifB (kd==Z0) (SM x∧ifB (at_==Z0) (SM x∧ifB (cl==Z0) (SM x∧ifB (de==Z0) (SM x∧ifB (sl==Z0) (SM x∧ifB (ss==Z0) (SM x∧True∧∀(y:Unit),True→ifB (onlyD kd at_ tx pr op vk sh nu it bo de sl ss Z0) (SM x∧RT (((↑ki:Int)==Z0)=emptyD kd at_ cl tx pr op vk sh nu it ki bo de sl ss)) (RT (false=emptyD kd at_ cl tx pr op vk sh nu it ki bo de sl ss))) (RT (false=emptyD kd at_ cl tx pr op vk sh nu it ki bo de sl ss))) (RT (false=emptyD kd at_ cl tx pr op vk sh nu it ki bo de sl ss))) (RT (false=emptyD kd at_ cl tx pr op vk sh nu it ki bo de sl ss))) (RT (false=emptyD kd at_ cl tx pr op vk sh nu it ki bo de sl ss))) (RT (false=emptyD kd at_ cl tx pr op vk sh nu it ki bo de sl ss))) (RT (false=emptyD kd at_ cl tx pr op vk sh nu it ki bo de sl ss))) (by kernel_rfl) ?_
 delta SM Z0 RT
 have z:∀n:Nat,((n:Int)==0)=(n==0):=fun n=>by
  rw[Bool.eq_iff_iff,beq_iff_eq,beq_iff_eq];omega
 unfold emptyD
 simp only[z]
 generalize (kd==0)=a1
 generalize (at_==0)=a2
 generalize (cl==0)=a3
 generalize (de==0)=a4
 generalize (sl==0)=a5
 generalize (ss==0)=a6
 generalize (ki==0)=a8
 generalize onlyD _ _ _ _ _ _ _ _ _ _ _ _ _ _=a7
 simp only[ifB_iff,true_and,and_true,exists_const,forall_const]
 repeat' (first | refine And.intro ?_ ?_ | intro _)
 all_goals subst_vars
 all_goals simp only[Bool.true_and,Bool.and_true,Bool.false_and,Bool.and_false]
theorem getD_mem'{α:Type}{l:List α}{i:Nat}{d:α}(h:i<l.length):l.getD i d∈l:=by
 rw[List.getD_eq_getElem?_getD,List.getElem?_eq_getElem h];exact List.getElem_mem h
noncomputable def sameT{α:Type}(a b:α):Bool:=@decide (a=b) (Classical.propDecidable _)
theorem sameT_iff{α:Type}{a b:α}:sameT a b=true↔a=b:=by unfold sameT;exact @decide_eq_true_iff _ (Classical.propDecidable _)
theorem sameT_no{α:Type}{a b:α}(h:a≠b):false=sameT a b:=by
 cases hs:sameT a b with
 |false=>rfl
 |true=>exact (h (sameT_iff.1 hs)).elim
theorem sameT_yes{α:Type}{a b:α}(h:a=b):true=sameT a b:=(sameT_iff.2 h).symm
theorem eq_getD{α:Type}{l m:List α}(d:α)(h:l.length=m.length)(h2:∀j,j<l.length→l.getD j d=m.getD j d):l=m:=by
 apply List.ext_getElem h
 intro i h3 h4
 have:=h2 i h3
 simpa[List.getD_eq_getElem?_getD,List.getElem?_eq_getElem h3,List.getElem?_eq_getElem h4] using this
theorem all_step{α:Type}[Inhabited α]{l m:List α}{i:Nat}(h:∀j,j<i→l.getD j default=m.getD j default)(e:l.getD i default=m.getD i default):∀j,j<i+1→l.getD j default=m.getD j default:=fun j hj=>by
 by_cases q:j=i
 ·subst q;exact e
 ·exact h j (by omega)
noncomputable def EqI(l m:List Int):Senv:={ EC con0 26 2 [4,5,10,12,13,14,24] (fun id=>match id with | 6=>([0,1,2,3,4,5,6,7,8],[]) | _=>([],[])) with
 ann:=fun q _ S=>match q with
  |0=>some { slots:=[13],keep:=[0,1,11,12],α:=Nat,st:=fun i=>([.int .i64 i],S),inv:=fun i=>i≤l.length∧∀j,j<i→l.getD j default=m.getD j default,mu:=fun i=>l.length-i }
  |_=>none }
def Qvx(a b:List Int):Prop:=RT (false=sameT a b)
def Qpo(a:Nat)(b c:List Int):Prop:=a≤LN b∧∀(j:Nat),j<a→GI b j=GI c j
def QJz(a:List Int):D:=SI a
def Qvy(a:List Int):Prop:=SM (QJz a)
theorem eqI_ok(l m:List Int)(hl:l.length≤maxLen)(hm:m.length≤maxLen):ACalls Tryz.prog 60 [isl l .any,isl m .any] ⟨[],[]⟩ (SpecR (sC [isl l .any,isl m .any] (.bool (sameT l m))) ()):=by
 refine con_of (A:=sC _ _) (x:=()) (E:=EqI l m) (eOk con0_ok rfl) Tryz.func60 rfl (by kernel_rfl) rfl (by simp[sC,EqI,EC,E0]) ?_
 refine vc_eq (T :=
  ifB ((LI l) != (LI m)) (Qvx l m) ((∃(x:Nat),Qpo x l m∧(Z0=(↑x:Int)∧True)∧True∧True)∧∀(x:Nat),Qpo x l m→ifB (decide ((↑x:Int)<(LI l))) (side (Z0≤(↑x:Int)∧(↑x:Int)<(LI l)) (side (Z0≤(↑x:Int)∧(↑x:Int)<(LI m)) (ifB (GI l (Int.toNat (↑x:Int)) != GI m (Int.toNat (↑x:Int))) (Qvx l m) ((Qvy l∧Qvy m∧SM D.unk∧SM (ZI (LI l))∧True)∧∃(y:Nat),Qpo y l m∧LN l-y<LN l-x∧(IntKind.wrap IntKind.i64 ((↑x:Int)+Z1)=(↑y:Int)∧True)∧True∧True)))) (RT (true=sameT l m)))) (by kernel_rfl) ?_
 delta GI LI LN N1 SI SM Z0 Z1 ZI Qvx Qpo QJz Qvy RT
 simp only[ifB_iff,side_iff,decide_eq_true_eq,decide_eq_false_iff_not,true_and,and_true,beq_iff_eq,bne_iff_ne,bne_eq_false_iff_eq,ne_eq,exists_const,forall_const,implies_true,Int.toNat_natCast,Bool.not_eq_true',Bool.not_eq_false']
 simp only[maxLen] at hl hm
 refine⟨fun h=>sameT_no fun e=>h (by rw[e]),fun he=>⟨⟨0,⟨Nat.zero_le _,fun j hj=>absurd hj (by omega)⟩,rfl⟩,fun i hi=>⟨fun hlt=>⟨⟨by omega,by omega⟩,⟨by omega,by omega⟩,fun hn=>sameT_no fun e=>hn (by rw[e]),fun hn=>⟨i+1,⟨by omega,all_step hi.2 hn⟩,by omega,wrap_i64' (by omega) (by omega)⟩⟩,fun hge=>sameT_yes (eq_getD default (by omega) fun j hj=>hi.2 j (by omega))⟩⟩⟩
noncomputable def sPr{α:Type}(row:α→List D)(q:α×α→Prop):FnSpec where
 β:=α×α
 α:=Unit
 args:=fun x=>[.agg (row x.1),.agg (row x.2)]
 st:=fun _=>⟨[],[]⟩
 pre:=q
 post:=fun _ _=>True
 res:=fun x _=>.ret (.bool (sameT x.1 x.2))
 out:=fun _ _=>⟨[],[]⟩
theorem sPr_ok{α : Type}{k : Nat}{row : α → List D}{q : α×α → Prop}{ds : List D}{S : St}(h : ∀x, q x → ACalls Tryz.prog k [.agg (row x.1), .agg (row x.2)] ⟨[], []⟩ (SpecR (sC [.agg (row x.1), .agg (row x.2)] (.bool (sameT x.1 x.2))) ())) :
  (∀y,(sPr row q).pre y→ACalls Tryz.prog k ((sPr row q).args y) ((sPr row q).st y) (SpecR (sPr row q) y))∧(∀y,(sPr row q).fit=some y→(sPr row q).pre y→weakL ds ((sPr row q).args y)∧leS ((sPr row q).st y) S)∧((sPr row q).all=true→∀y,(sPr row q).pre y→weakL ds ((sPr row q).args y)∧(sPr row q).st y=S) :=
 ConOk.plain (fun (x:α×α) hx=>(h x hx).mono fun _ _ ⟨y,q1,q2,q3⟩=>⟨y,q1,q2,q3⟩) rfl rfl
noncomputable def conEA(l m:List Arr):Con:=fun k _ _=>match k with
 |40=>some (sPr Arr.row1 (fun x=>x.1∈l∧x.2∈m))
 |_=>none
noncomputable def EeA(l m:List Arr):Senv:={ EC (conEA l m) 32 3 [6,7,8,9,14,15,16,17,18,30] (fun _=>([],[])) with
 ann:=fun q _ S=>match q with
  |0=>some { slots:=[17],keep:=[0,1,2,15,16],α:=Nat,st:=fun i=>([.int .i64 i],S),inv:=fun i=>i≤l.length∧∀j,j<i→l.getD j default=m.getD j default,mu:=fun i=>l.length-i }
  |_=>none }
def Qvz(a b:List Arr):Prop:=RT (false=sameT a b)
def Qju:Arr:=DA
def QiD(a:List Arr)(b:Nat):Arr:=List.getD a b Qju
def Qpp(a:Nat)(b c:List Arr):Prop:=a≤LN b∧∀(j:Nat),j<a→QiD b j=QiD c j
def Qlb(a:List Arr)(b:Nat):Arr:=List.getD a (Int.toNat (↑b:Int)) Qju
def QvA(a:List Arr)(b:Nat):List Int:=Arr.sh (Qlb a b)
def QvB(a:List Arr)(b:Nat):Nat:=LN (QvA a b)
def QvC(a:List Arr)(b:Nat):List Int:=Arr.nu (Qlb a b)
def QvD(a:List Arr)(b:Nat):Nat:=LN (QvC a b)
def QvE(a:List Arr)(b:Nat):List Arr:=Arr.it (Qlb a b)
def QvF(a:List Arr)(b:Nat):Nat:=LN (QvE a b)
def QvG(a:List Arr)(b:Nat)(c:Arr):Prop:=Arr.k (Qlb a b)=Arr.k c∧(QvB a b=LN (Arr.sh c)∧(∀(i:Nat),i<QvB a b→[ZI (GI (QvA a b) i)]=[ZI (GI (Arr.sh c) i)])∧True)∧(QvD a b=LN (Arr.nu c)∧(∀(i:Nat),i<QvD a b→[ZI (GI (QvC a b) i)]=[ZI (GI (Arr.nu c) i)])∧True)∧(QvF a b=LN (Arr.it c)∧(∀(i:Nat),i<QvF a b→Arr.row (List.getD (QvE a b) i Qju)=Arr.row (List.getD (Arr.it c) i Qju))∧True)∧True
def QJA(a:List Arr)(b:Nat):List Int:=Arr.sh (QiD a b)
def QJB(a:List Arr)(b:Nat):List Int:=Arr.nu (QiD a b)
def QvH(a:List Arr)(b:Nat):List Arr:=Arr.it (QiD a b)
def QJC(a:List Arr):D:=D.sl N4 (LN a) (fun (i:Nat)=>[ZI (Arr.k (QiD a i)),SI (QJA a i),SI (QJB a i),D.sl N4 (LN (QvH a i)) (fun (i_1:Nat)=>Arr.row (List.getD (QvH a i) i_1 Qju)) Mode.any]) Mode.any
def Qpq(a:List Arr):Prop:=SM (QJC a)
theorem efA_step(l m:List Arr)(hl:l.length≤maxLen)(hm:m.length≤maxLen)(hc:ConOk Tryz.prog (conEA l m)):ACalls Tryz.prog 61 [gsl 4 Arr.row1 l,gsl 4 Arr.row1 m,.fn (.func 40) [] []] ⟨[],[]⟩ (SpecR (sC [gsl 4 Arr.row1 l,gsl 4 Arr.row1 m,.fn (.func 40) [] []] (.bool (sameT l m))) ()):=by
 refine con_of (A:=sC _ _) (x:=()) (E:=EeA l m) (eOk hc rfl) Tryz.func61 rfl (by kernel_rfl) rfl (by simp[sC,EeA,EC,E0]) ?_
 refine vc_eq (T :=
  ifB ((LI l) != (LI m)) (Qvz l m) ((∃(x:Nat),Qpp x l m∧(Z0=(↑x:Int)∧True)∧True∧True)∧∀(x:Nat),Qpp x l m→ifB (decide ((↑x:Int)<(LI l))) (side (Z0≤(↑x:Int)∧(↑x:Int)<(LI l)) (∀(x_1:Nat),True→SM x_1∧side (Z0≤(↑x:Int)∧(↑x:Int)<(LI m)) (∀(x_2:Nat),x_1≠x_2∧True→SM x_2∧SM x_1∧SM x_2∧∃(x_3:Arr×Arr),(QvG l x x_3.1∧QvG m x x_3.2∧True)∧(True∧True)∧(x_3.1∈l∧x_3.2∈m)∧∀(y:Unit),True→ifB (!sameT x_3.1 x_3.2) (Qvz l m) ((Qpq l∧Qpq m∧SM (D.fn (Fn.func (40:Nat)) [] [])∧Qpq l∧SM (ZI (LI l))∧True)∧∃(y:Nat),Qpp y l m∧LN l-y<LN l-x∧(IntKind.wrap IntKind.i64 ((↑x:Int)+Z1)=(↑y:Int)∧True)∧True∧True)))) (RT (true=sameT l m)))) (by kernel_rfl) ?_
 delta DA GI LI LN N1 N4 SI SM Z0 Z1 ZI QvB QvC QvD QvE QvF QvG QJA QJB QvH QJC Qpq Qvz Qju QiD Qpp Qlb QvA RT
 simp only[ifB_iff,side_iff,decide_eq_true_eq,decide_eq_false_iff_not,true_and,and_true,beq_iff_eq,bne_iff_ne,bne_eq_false_iff_eq,ne_eq,exists_const,forall_const,implies_true,Int.toNat_natCast,Bool.not_eq_true',Bool.not_eq_false',Prod.exists]
 simp only[maxLen] at hl hm
 refine⟨fun h=>sameT_no fun e=>h (by rw[e]),fun he=>⟨⟨0,⟨Nat.zero_le _,fun j hj=>absurd hj (by omega)⟩,rfl⟩,fun i hi=>⟨fun hlt=>⟨⟨by omega,by omega⟩,fun _=>⟨⟨by omega,by omega⟩,fun _ _=>⟨l.getD i default,m.getD i default,?_,⟨getD_mem' (by omega),getD_mem' (by omega)⟩,fun hn=>sameT_no fun e=>?_,fun hs=>⟨i+1,⟨by omega,all_step hi.2 (sameT_iff.1 hs)⟩,by omega,wrap_i64' (by omega) (by omega)⟩⟩⟩⟩,fun hge=>sameT_yes (eq_getD default (by omega) fun j hj=>hi.2 j (by omega))⟩⟩⟩
 ·repeat' (first | rfl | exact fun _ _=>rfl | refine And.intro ?_ ?_)
 ·rw[e,sameT_iff.2 rfl] at hn;cases hn
theorem sameT_congr{α β:Type}{a b:α}{c d:β}(h:a=b↔c=d):sameT a b=sameT c d:=by
 rw[Bool.eq_iff_iff,sameT_iff,sameT_iff];exact h
theorem arr_ext{a b:Arr}(h1:a.k=b.k)(h2:a.sh=b.sh)(h3:a.nu=b.nu)(h4:a.it=b.it):a=b:=by
 cases a;cases b
 simp only[Arr.k,Arr.sh,Arr.nu,Arr.it] at h1 h2 h3 h4
 rw[h1,h2,h3,h4]
noncomputable def conAs(l m:List Arr):Con:=fun k ds _=>match k with
 |61=>some (pC ds (.bool (sameT l m)) (weakL ds [gsl 4 Arr.row1 l,gsl 4 Arr.row1 m,.fn (.func 40) [] []]))
 |60=>match ds with
  | [.sl 1 n f _,.sl 1 p g _]=>some (pC ds (.bool (sameT (intsD n f) (intsD p g))) ((IntsP n f∧n≤maxLen)∧IntsP p g∧p≤maxLen))
  |_=>none
 |_=>none
noncomputable def Eas(a b:Arr):Senv:=EC (conAs a.it b.it) 31 5 [] (fun _=>([],[]))
def Qpr(a:Arr):Nat:=LN (Arr.sh a)
def QvI(a:Arr)(b:Nat):List D:=[ZI (GI (Arr.sh a) b)]
def QvJ(a:Arr):Prop:=(IntsP (Qpr a) fun (i:Nat)=>QvI a i)∧Qpr a≤(9223372036854775807:Nat)
def QvK(a:Arr):List Int:=intsD (Qpr a) fun (i:Nat)=>QvI a i
def Qps(a:Arr):Nat:=LN (Arr.nu a)
def QvL(a:Arr)(b:Nat):List D:=[ZI (GI (Arr.nu a) b)]
def QvM(a:Arr):Prop:=(IntsP (Qps a) fun (i:Nat)=>QvL a i)∧Qps a≤(9223372036854775807:Nat)
def QvN(a:Arr):List Int:=intsD (Qps a) fun (i:Nat)=>QvL a i
def Qlc(a:Arr):List Arr:=Arr.it a
def QvO(a:Arr):Nat:=LN (Qlc a)
def QvP:Arr:=DA
def Qld(a:Arr)(b:Nat):Arr:=List.getD (Qlc a) b QvP
def QJD(a:Arr)(b:Nat):List Int:=Arr.sh (Qld a b)
def QJE(a:Arr)(b:Nat):List Int:=Arr.nu (Qld a b)
def QvQ(a:Arr)(b:Nat):List Arr:=Arr.it (Qld a b)
def QJF(a:Arr)(b:Nat):List D:=[ZI (Arr.k (Qld a b)),SI (QJD a b),SI (QJE a b),D.sl N4 (LN (QvQ a b)) (fun (i:Nat)=>Arr.row (List.getD (QvQ a b) i QvP)) Mode.any]
def QvR(a:Arr):Prop:=SM (QvO a)∧(∀(i:Nat),i<QvO a→SM (QJF a i))∧True
def Qpt(a b:Arr):Prop:=RT (false=sameT a b)
theorem as_step(a b : Arr)(ha : a.sh.length≤maxLen ∧ a.nu.length≤maxLen ∧ a.it.length≤maxLen)(hb : b.sh.length≤maxLen ∧ b.nu.length≤maxLen ∧ b.it.length≤maxLen)(hc : ConOk Tryz.prog (conAs a.it b.it)) :
  ACalls Tryz.prog 40 [.agg a.row2,.agg b.row2] ⟨[],[]⟩ (SpecR (sC [.agg a.row2,.agg b.row2] (.bool (sameT a b))) ()):=by
 refine con_of (A:=sC _ _) (x:=()) (E:=Eas a b) (eOk hc rfl) Tryz.func40 rfl (by kernel_rfl) rfl (by simp[sC,Eas,EC,E0]) ?_
 refine vc_eq (T :=
  ∀(x:Nat),True→∀(x_1:Nat),x≠x_1∧True→SM x∧SM x_1∧ifB (Arr.k a==Arr.k b) (SM x∧SM x_1∧(QvJ a∧QvJ b)∧∀(y:Unit),True→ifB (sameT (QvK a) (QvK b)) (SM x∧SM x_1∧(QvM a∧QvM b)∧∀(y:Unit),True→ifB (sameT (QvN a) (QvN b)) (SM x∧SM x_1∧(QvR a∧QvR b∧SM (D.fn (Fn.func (40:Nat)) [] [])∧True)∧∀(y:Unit),True→RT (sameT (Qlc a) (Qlc b)=sameT a b)) (Qpt a b)) (Qpt a b)) (Qpt a b)) (by kernel_rfl) ?_
 delta DA GI LN N1 N4 SI SM Z0 ZI Qpr QvI QvJ QvK Qps QvL QvM QvN Qlc QvO QvP Qld QJD QJE QvQ QJF QvR Qpt RT
 simp only[ifB_iff,side_iff,decide_eq_true_eq,decide_eq_false_iff_not,true_and,and_true,beq_iff_eq,bne_iff_ne,bne_eq_false_iff_eq,beq_eq_false_iff_ne,ne_eq,exists_const,forall_const,implies_true,Int.toNat_natCast,Bool.not_eq_true',Bool.not_eq_false',weakL_refl,eq_self,intsD_isl]
 simp only[maxLen] at ha hb
 obtain ⟨a1,a2,a3⟩:=ha
 obtain ⟨b1,b2,b3⟩:=hb
 have no:∀ {α:Type} {x y:α},sameT x y=false→x≠y:=fun h e=>by rw[sameT_iff.2 e] at h;cases h
 exact fun _ _ _=>⟨fun hk=>⟨⟨⟨intsP_isl _,a1⟩,intsP_isl _,b1⟩,fun hs=>⟨⟨⟨intsP_isl _,a2⟩,intsP_isl _,b2⟩,fun hn=>sameT_congr ⟨fun e=>arr_ext hk (sameT_iff.1 hs) (sameT_iff.1 hn) e,fun e=>by rw[e]⟩,fun hn=>sameT_no fun e=>no hn (by rw[e])⟩,fun hs=>sameT_no fun e=>no hs (by rw[e])⟩,fun h=>sameT_no fun e=>h (by rw[e])⟩
theorem as_row{a b:Arr}{k:Nat}{d:D}(h:ACalls Tryz.prog k [.agg a.row2,.agg b.row2] ⟨[],[]⟩ (SpecR (sC [.agg a.row2,.agg b.row2] d) ())):ACalls Tryz.prog k [.agg a.row1,.agg b.row1] ⟨[],[]⟩ (SpecR (sC [.agg a.row1,.agg b.row1] d) ()) :=
 (h.wkArgs (by simp only[wkL,wkD];exact⟨row1_wk _,row1_wk _,trivial⟩)).mono fun _ _ ⟨y,q1,q2,q3⟩=>⟨y,q1,q2,q3⟩
theorem as_all:∀(a b:Arr),a.ok→b.ok→ACalls Tryz.prog 40 [.agg a.row2,.agg b.row2] ⟨[],[]⟩ (SpecR (sC [.agg a.row2,.agg b.row2] (.bool (sameT a b))) ())
 |.mk k s n is,.mk k' s' n' is',ha,hb=>by
  simp only[Arr.ok] at ha hb
  obtain ⟨_,_,_,a1,a2,a3,a4⟩:=ha
  obtain ⟨_,_,_,b1,b2,b3,b4⟩:=hb
  refine as_step _ _ ⟨a1,a2,a3⟩ ⟨b1,b2,b3⟩ ?_
  intro f ds S A h
  unfold conAs at h
  split at h
  ·injection h with h;subst h
   refine pC_ok fun e=>⟨weakL_refl _,sC_weak e (efA_step _ _ a3 b3 ?_)⟩
   intro f ds S A h
   unfold conEA at h
   split at h
   ·injection h with h;subst h
    refine sPr_ok fun (x:Arr×Arr) hx=>?_
    obtain ⟨x,y⟩:=x
    have hx1:x∈is:=hx.1
    have hx2:y∈is':=hx.2
    exact as_row (as_all x y ((okL_iff _).1 a4 x hx1) ((okL_iff _).1 b4 y hx2))
   ·cases h
  ·split at h
   ·injection h with h;subst h
    exact pC_ok fun ⟨⟨h1,h2⟩,h3,h4⟩=>⟨weakL_refl _,sC_weak (us:=[isl (intsD _ _) .any,isl (intsD _ _) .any]) ⟨(isl_weak h1).1,(isl_weak h3).1,trivial⟩ (eqI_ok _ _ (by rw[intsD_len];exact h2) (by rw[intsD_len];exact h4))⟩
   ·cases h
  ·cases h
termination_by a=>SizeOf.sizeOf a
decreasing_by
 have:=List.sizeOf_lt_of_mem hx1
 simp;omega
theorem cls_iff{l:List Nd}{m:List Int}:(l.map Nd.cl==m)=true↔l.length=m.length∧∀j,j<l.length→(l.getD j default).cl=m.getD j 0:=by
 rw[beq_iff_eq]
 constructor
 ·rintro rfl
  refine⟨by simp,fun j hj=>?_⟩
  simp[List.getD_eq_getElem?_getD,hj]
 ·rintro ⟨h1,h2⟩
  apply List.ext_getElem (by simpa using h1)
  intro i h3 h4
  have h3:i<l.length:=by simpa using h3
  have:=h2 i h3
  simpa[List.getD_eq_getElem?_getD,h3,h4] using this
theorem cls_no{l:List Nd}{m:List Int}(h:¬(l.length=m.length∧∀j,j<l.length→(l.getD j default).cl=m.getD j 0)):false=(l.map Nd.cl==m):=by
 cases e:(l.map Nd.cl==m) with
 |false=>rfl
 |true=>exact (h (cls_iff.1 e)).elim
noncomputable def Eqc(l:List Nd)(m:List Int):Senv:={ EC con0 32 3 [6,7,8,9,14,15,16,17,18,30] (fun _=>([],[])) with
 ann:=fun q _ S=>match q with
  |0=>some { slots:=[17],keep:=[0,1,2,15,16],α:=Nat,st:=fun i=>([.int .i64 i],S),inv:=fun i=>i≤l.length∧∀j,j<i→(l.getD j default).cl=m.getD j 0,mu:=fun i=>l.length-i }
  |_=>none }
def QvS(a:List Nd)(b:List Int):Prop:=RT (false=(List.map Nd.cl a==b))
def QvT:Arr:=DA
def Qjv:Nd:=Nd.mk Z0 Z0 Z0 [] Z0 Z0 QvT [] [] Z0 Z0 Z0
def Z8(a:List Nd)(b:Nat):Nd:=List.getD a b Qjv
def QvU(a:List Nd)(b:Nat):Int:=Nd.cl (Z8 a b)
def Qpu(a:Nat)(b:List Nd)(c:List Int):Prop:=a≤LN b∧∀(j:Nat),j<a→QvU b j=GI c j
def Qle(a:List Nd)(b:Nat):Arr:=Nd.va (Z8 a b)
def QJG(a:List Nd)(b:Nat):List Int:=Arr.sh (Qle a b)
def QJH(a:List Nd)(b:Nat):List Int:=Arr.nu (Qle a b)
def QvV(a:List Nd)(b:Nat):List Arr:=Arr.it (Qle a b)
def QvW(a:List Nd)(b:Nat):List Nd:=Nd.ki (Z8 a b)
def QvX(a:List Nd)(b:Nat):List Sm:=Nd.bo (Z8 a b)
def QJI(a:List Nd):D:=D.sl (15:Nat) (LN a) (fun (i:Nat)=>[ZI (Nd.kd (Z8 a i)),ZI (Nd.at_ (Z8 a i)),ZI (QvU a i),D.str (Nd.tx (Z8 a i)),ZI (Nd.pr (Z8 a i)),ZI (Nd.op (Z8 a i)),ZI (Arr.k (Qle a i)),SI (QJG a i),SI (QJH a i),D.sl N4 (LN (QvV a i)) (fun (i_1:Nat)=>Arr.row (List.getD (QvV a i) i_1 QvT)) Mode.any,D.sl (15:Nat) (LN (QvW a i)) (fun (i_1:Nat)=>Nd.row (List.getD (QvW a i) i_1 Qjv)) Mode.any,D.sl (34:Nat) (LN (QvX a i)) (fun (i_1:Nat)=>Sm.row (List.getD (QvX a i) i_1 (Sm.mk Z0 Z0 [] Z0 Qjv Qjv))) Mode.any,ZI (Nd.de (Z8 a i)),ZI (Nd.sl (Z8 a i)),ZI (Nd.ss (Z8 a i))]) Mode.any
def QvY(a:List Nd):Prop:=SM (QJI a)
def QJJ(a:List Int):D:=SI a
theorem eqc_ok(l:List Nd)(m:List Int)(hl:l.length≤maxLen)(hm:m.length≤maxLen):CD 123 [gsl 15 Nd.row1 l,isl m .any,.fn (.func 124) [] []] (.bool (l.map Nd.cl==m)):=by
 refine con_of (A:=sC _ _) (x:=()) (E:=Eqc l m) (eOk con0_ok rfl) Tryz.func123 rfl (by kernel_rfl) rfl (by simp[sC,Eqc,EC,E0]) ?_
 refine vc_eq (T :=
  ifB ((LI l) != (LI m)) (QvS l m) ((∃(x:Nat),Qpu x l m∧(Z0=(↑x:Int)∧True)∧True∧True)∧∀(x:Nat),Qpu x l m→ifB (decide ((↑x:Int)<(LI l))) (side (Z0≤(↑x:Int)∧(↑x:Int)<(LI l)) (∀(x_1:Nat),True→SM x_1∧side (Z0≤(↑x:Int)∧(↑x:Int)<(LI m)) (SM x_1∧∀(x_2:Nat),x_1≠x_2∧True→SM x_2∧True∧ifB (!Nd.cl (List.getD l (Int.toNat (↑x:Int)) Qjv)==GI m (Int.toNat (↑x:Int))) (QvS l m) ((QvY l∧SM (QJJ m)∧SM (D.fn (Fn.func (124:Nat)) [] [])∧QvY l∧SM (ZI (LI l))∧True)∧∃(y:Nat),Qpu y l m∧LN l-y<LN l-x∧(IntKind.wrap IntKind.i64 ((↑x:Int)+Z1)=(↑y:Int)∧True)∧True∧True)))) (RT (true=(List.map Nd.cl l==m))))) (by kernel_rfl) ?_
 delta DA GI LI LN N1 N4 SI SM Z0 Z1 ZI QvS QvT QvW QvX QJI QvY QJJ Qjv Z8 QvU Qpu Qle QJG QJH QvV RT
 simp only[eq_self,ne_eq,implies_true,weakL_refl,Int.toNat_natCast,ifB_iff,side_iff,decide_eq_true_eq,decide_eq_false_iff_not,true_and,and_true,beq_iff_eq,bne_iff_ne,bne_eq_false_iff_eq,beq_eq_false_iff_ne,Bool.not_eq_true',Bool.not_eq_false',exists_const,forall_const]
 simp only[← dn]
 simp only[maxLen] at hl hm
 refine⟨fun h=>cls_no fun ⟨e,_⟩=>h (by omega),fun he=>⟨⟨0,⟨Nat.zero_le _,fun j hj=>by omega⟩,rfl⟩,fun x ⟨x1,hx⟩=>⟨fun hlt=>⟨⟨by omega,by omega⟩,fun _=>⟨⟨by omega,by omega⟩,fun _ _=>⟨fun h=>cls_no fun ⟨_,e⟩=>h (e x (by omega)),fun h=>⟨x+1,⟨by omega,fun j hj=>by
   by_cases e:j=x
   ·rw[e];exact h
   ·exact hx j (by omega)⟩,by omega,wrap_i64' (by omega) (by omega)⟩⟩⟩⟩,fun hge=>(cls_iff.2 ⟨by omega,fun j hj=>hx j (by omega)⟩).symm⟩⟩⟩
def conCls(n:Nd):Con:=fun k ds S=>match k with
 |123=>match ds with
  | [_,.sl 1 m f _,_]=>some (pA ds S (.bool (n.ki.map Nd.cl==intsD m f)) (wkL ds [gsl 15 Nd.row1 n.ki,isl (intsD m f) .any,.fn (.func 124) [] []]∧m≤maxLen))
  |_=>none
 |_=>none
theorem conCls_ok{n:Nd}(h:n.ki.length≤maxLen):ConOk Tryz.prog (conCls n):=by
 intro k ds S A hh
 unfold conCls at hh
 split at hh
 ·split at hh
  ·injection hh with hh;subst hh
   exact pA_ok fun ⟨e,hm⟩=>CD.at_ (CD.wk (eqc_ok _ _ h (by rw[intsD_len];exact hm)) e) _
  ·cases hh
 ·cases hh
noncomputable def Ecls(n:Nd):Senv:=EC (conCls n) 9 3 [4] (fun _=>([],[]))
def Qpv(a:Nd):List Nd:=Nd.ki a
def QvZ(a:Nd):D:=D.sl (15:Nat) (LN (Qpv a)) (fun (i:Nat)=>Nd.row1 (List.getD (Qpv a) i (Nd.mk Z0 Z0 Z0 [] Z0 Z0 DA [] [] Z0 Z0 Z0))) Mode.any
def Qv0:List D:=[D.fn (Fn.func (124:Nat)) [] []]
def Qv1(a:List Int):List Int:=intsD (LN a) fun (i:Nat)=>[ZI (GI a i)]
theorem clss_ok(n:Nd)(m:List Int)(hl:n.ki.length≤maxLen)(hm:m.length≤maxLen):CD 103 [.agg n.row2,isl m .any] (.bool (classesB n m)):=by
 refine con_of (A:=sC _ _) (x:=()) (E:=Ecls n) (eOk (conCls_ok hl) rfl) Tryz.func103 rfl (by kernel_rfl) rfl (by simp[sC,Ecls,EC,E0]) ?_
 refine vc_eq (T :=
  ∀(x:Nat),True→SM x∧∃(x:Unit),(wkL (QvZ n::SI m::Qv0) (QvZ n::SI (Qv1 m)::Qv0)∧LN m≤(9223372036854775807:Nat))∧∀(y:Unit),True→RT ((List.map Nd.cl (Qpv n)==Qv1 m)=classesB n m)) (by kernel_rfl) ?_
 delta DA GI LN N1 SI SM Z0 ZI Qpv QvZ Qv0 Qv1 RT
 simp only[true_and,and_true,exists_const,forall_const,intsD_isl]
 exact⟨⟨wkL_refl _,hm⟩,rfl⟩
def conLe(n:Nd):Con:=fun k ds S=>match k with
 |93=>some (pA ds S (.int .i64 (chkA n.va).1) (wkL ds [.agg n.va.row1]))
 |57=>some (pA ds S (.bool (nameB n.tx)) (wkL ds [.str n.tx]))
 |64=>some (pA ds S (.str (primT n.pr)) (wkL ds [.int .i64 n.pr]))
 |65=>some (pA ds S (.str (opT n.op)) (wkL ds [.int .i64 n.op]))
 |_=>none
theorem conLe_ok{n:Nd}(h:n.va.ok):ConOk Tryz.prog (conLe n):=by
 intro k ds S A hh
 unfold conLe at hh
 split at hh
 ·injection hh with hh;subst hh
  exact pA_ok fun e=>CD.at_ (CD.wk (ri_ok n.va h) e) _
 ·injection hh with hh;subst hh
  exact pA_ok fun e=>CD.at_ (CD.wk (in_ok n.tx) e) _
 ·injection hh with hh;subst hh
  exact pA_ok fun e=>CD.at_ (CD.wk (pn_ok n.pr) e) _
 ·injection hh with hh;subst hh
  exact pA_ok fun e=>CD.at_ (CD.wk (on_ok n.op) e) _
 ·cases hh
noncomputable def Ele(n:Nd):Senv:=EC (conLe n) 104 7 [10,12,13,49,64,71,82,89,93] (fun _=>([],[]))
def Qgy(a:Nd):Bool:=leafB a
def Qgg(a:Nd):Prop:=True∧∃(_y:Unit),True∧false=Qgy a∧True∧True
def V9(a:Nd):Int:=Nd.kd a
def Qjw(a:Nd):Arr:=Nd.va a
def Qv2(a:Nd):List Int:=Arr.sh (Qjw a)
def Qv3(a:Nd):Nat:=LN (Qv2 a)
def Qv4(a:Nd):Int:=(NI (Qv3 a))
def Qv5(a:Nd):Bool:=Qv4 a==Z0
def Qpw(a:Nd):Int:=Arr.k (Qjw a)
def Qv6(a:Nd):Bool:=Qpw a != (3:Int)
def Qpx(a:Nd):Bool:=bif Qv5 a then Qv6 a else false
def Qv7(a:Nd):Bool:=Qv4 a==Z1
def Qv8(a:Nd):Bool:=Qpw a==(2:Int)
def Qpy(a:Nd):Bool:=bif Qv7 a then Qv8 a else false
def Qgz(a:Nd):Int:=Nd.cl a
def QJK(a:Nd):List Int:=Arr.nu (Qjw a)
def Qv9(a:Nd):List Arr:=Arr.it (Qjw a)
def Qwa(a:Nd):List D:=[D.agg [ZI (Qpw a),D.sl N1 (Qv3 a) (fun (i:Nat)=>[ZI (GI (Qv2 a) i)]) Mode.any,SI (QJK a),D.sl N4 (LN (Qv9 a)) (fun (i:Nat)=>Arr.row (GA (Qv9 a) i)) Mode.any]]
def Qpz(a:Nat)(b:Nd):Prop:=SM a∧True∧∃(_y:Unit),True∧(Qgz b==Z1)=Qgy b∧True∧True
def QpA(a:Nat)(b:Nd):Prop:=SM a∧True∧∃(_y:Unit),True∧(Qgz b==(2:Int))=Qgy b∧True∧True
def Qlf(a:Nd):Int:=Nd.op a
def Qwb(a:Nat)(b:Nd):Prop:=SM a∧∃(_x:Unit),wkL [ZI (Qlf b)] [ZI (Qlf b)]∧∀(_y:Unit),True→True∧∃(_y:Unit),True∧(opT (Qlf b) != [])=Qgy b∧True∧True
def QpB(a:Nd)(b:Nat):Prop:=ifB (V9 a==(17:Int)) (SM b∧ifB (decide (Qlf a≤(5:Int))) (SM b∧ifB (Qgz a==(3:Int)) (Qwb b a) (Qgg a)) (SM b∧ifB (Qgz a==(4:Int)) (Qwb b a) (Qgg a))) (Qgg a)
def QpC(a:Nd)(b:Nat):Prop:=ifB (V9 a==(9:Int)) (SM b∧ifB (Qgz a==(2:Int)) (SM b∧∃(_x:Unit),wkL [ZI (Nd.pr a)] [ZI (Nd.pr a)]∧∀(_y:Unit),True→True∧∃(_y:Unit),True∧(primT (Nd.pr a) != [])=Qgy a∧True∧True) (Qgg a)) (ifB (V9 a==(11:Int)) (ifB (V9 a==(11:Int)) (QpA b a) (QpB a b)) (ifB (V9 a==(12:Int)) (ifB (V9 a==(12:Int)) (QpA b a) (QpB a b)) (ifB (V9 a==(13:Int)) (QpA b a) (QpB a b))))
theorem le_ok(n:Nd)(h:n.va.ok):CD 78 [.agg n.row2] (.bool (leafB n)) := by
  refine con_of (A := sC _ _) (x := ()) (E := Ele n) (eOk (conLe_ok h) rfl) Tryz.func78 rfl (by kernel_rfl) rfl (by simp [sC,Ele,EC,E0]) ?_
  refine vc_eq (T :=
    ∀ (x:Nat),True→SM x∧ifB (decide (Z0 < (LI (Nd.ki n)))) (Qgg n) (SM x∧ifB (V9 n == Z1) (SM x∧∀ (x_1:Nat),x ≠ x_1∧True→SM x_1∧(SM x_1∧ifB (Qv5 n) (SM x_1∧Qv6 n = Qpx n∧True) (false = Qpx n∧True))∧(SM x_1∧ifB (Qv7 n) (SM x_1∧Qv8 n = Qpy n∧True) (false = Qpy n∧True))∧SM x∧ifB (Qgz n == Z1) (SM x_1∧∃ (x:Unit),wkL (Qwa n) (Qwa n)∧∀ (y:Unit),True→ifB (Prod.fst (chkA (Qjw n)) == Z0) (ifB (Qpx n) (True∧∃ (y:Unit),True∧true = Qgy n∧True∧True) (True∧∃ (y:Unit),True∧Qpy n = Qgy n∧True∧True)) (Qgg n)) (Qgg n)) (ifB (V9 n == (2:Int)) (SM x∧ifB (decide (Z1 ≤ Qgz n)) (SM x∧ifB (decide (Qgz n ≤ (4:Int))) (SM x∧∃ (x:Unit),wkL [D.str (Nd.tx n)] [D.str (Nd.tx n)]∧∀ (y:Unit),True→True∧∃ (y:Unit),True∧nameB (Nd.tx n) = Qgy n∧True∧True) (Qgg n)) (Qgg n)) (ifB (V9 n == (6:Int)) (ifB (V9 n == (6:Int)) (Qpz x n) (QpC n x)) (ifB (V9 n == (7:Int)) (ifB (V9 n == (7:Int)) (Qpz x n) (QpC n x)) (ifB (V9 n == (8:Int)) (Qpz x n) (QpC n x))))))) (by kernel_rfl) ?_
  delta DA GA GI LI LN N1 N4 NI SI SM Z0 Z1 ZI Qgy Qgg Qpx Qv7 Qv8 Qpy Qgz QJK Qv9 Qwa Qpz QpA V9 Qlf Qwb QpB QpC Qjw Qv2 Qv3 Qv4 Qv5 Qpw Qv6
  try simp only []
  try simp only [← dn]
  simp only [ne_eq,ifB_iff,decide_eq_true_eq,decide_eq_false_iff_not,true_and,and_true,beq_iff_eq,beq_eq_false_iff_ne,exists_const,forall_const]
  have e1:n.ki.isEmpty = (n.ki.length == 0) := by cases n.ki <;> rfl
  have e2:n.va.sh.isEmpty = (n.va.sh.length == 0) := by cases n.va.sh <;> rfl
  have e3:∀ l:List UInt8,(l != []) = !l.isEmpty := fun l => by cases l <;> rfl
  have e40:((n.va.sh.length:Int) == 0) = (n.va.sh.length == 0) := by rw [Bool.eq_iff_iff,beq_iff_eq,beq_iff_eq]; omega
  have e41:((n.va.sh.length:Int) == 1) = (n.va.sh.length == 1) := by rw [Bool.eq_iff_iff,beq_iff_eq,beq_iff_eq]; omega
  simp only [e3,e40,e41]
  intro x
  repeat' (first | exact wkL_refl _ | refine And.intro ?_ ?_ | intro _)
  all_goals first
    | exact wkL_refl _
    | (exfalso; omega)
    | (simp_all [leafB]; done)
    | (simp_all [leafB]; omega)
    | (have h9 : n.ki.isEmpty = false := by rw [e1, beq_eq_false_iff_ne]; omega
       unfold leafB; rw [h9]; rfl)
theorem mul_ok(x y:Nat)(hx:x<18446744073709551616)(hy:y<18446744073709551616):CD 125 [.int .u64 x,.int .u64 y] (.tup [.int .u64 ((x*y / 18446744073709551616:Nat):Int),.int .u64 ((x*y % 18446744073709551616:Nat):Int)]):=by
 refine ACalls.of_shelf ⟨_,Tryz.func125,by kernel_rfl,by kernel_rfl⟩ fun C args w ha=>?_
 obtain ⟨u,v,e,hu,hv⟩:=repL_two' ha
 have e2:args=[u,v].toArray:=by rw[← e]
 subst e2
 simp only[Rep] at hu hv;subst hu hv
 have:=Tryz.bits_Mul x y hx hy w
 exact this.mono fun e w' ⟨h1,h2⟩=>⟨⟨_,h1,by simp[Rep,RepL]⟩,by rw[h2];exact Go.RowKit.Below.refl _ _⟩
def repF(j:Nat):Nat→List D:=fun i=>[.int .i64 (if i<j then 1 else 0)]
def conRp(n:Nat):Con:=fun k ds S=>match k with
 |125=>some (pA ds S (.tup [.int .u64 0,.int .u64 n]) (ds=[.int .u64 1,.int .u64 n]))
 |_=>none
noncomputable def Erp(n:Nat):Senv:={ EC (conRp n) 48 2 [4,5,6,7,8,10,26,37] (fun id=>match id with | 9=>([0,1,2,3,4,5,6,7,8,9],[7]) | _=>([],[])) with
 gr:=[.slot 4]
 ann:=fun b env _S=>match b with
  |0=>match Ab.look env 7 with
   |.vs _k x _len cap _w=>some { slots:=[8],keep:=[0,1,7],α:=Nat,st:=fun j=>([.int .i64 j],⟨[(0,x,.vec 1 n cap (repF j))],[]⟩),inv:=fun j=>1≤j∧j≤n,mu:=fun j=>n-j }
   |_=>none
  |_=>none }
def QiE(a:Nat):Int:=IntKind.wrap IntKind.i64 (↑a:Int)
def H3(a:Nat):Nat:=Int.toNat (QiE a)
def Qlg(a:Nat):Prop:=SM (H3 a)
def QpD(a b:Nat):Prop:=a<H3 b
def QiF(a b:Nat):List D:=repF a b
def Qlh(a:Nat):Int:=(NI (H3 a))
def Qab(a:Nat):Nat:=Int.toNat (↑a:Int)
def QJL:D:=D.sl N1 N1 (fun (_x:Nat)=>[ZI Z1]) Mode.full
def QJM(a b:Nat):D:=D.vs N0 a (H3 b) (H3 b) N1
def Qwc(a b:Nat):Nat:=min (H3 a-Qab b) (Qab b)
theorem rp_ok(n:Nat)(h1:2≤n)(h2:n≤1000):CD 104 [.sl 1 1 (fun _=>[.int .i64 1]) .full,.int .i64 n] (isl (List.replicate n 1) .any):=by
 refine con_of (A:=sC _ _) (x:=()) (E:=Erp n) (eOk ?_ rfl) Tryz.func104 rfl (by kernel_rfl) rfl (by simp[sC,Erp,EC,E0]) ?_
 ·intro k ds S A hh
  unfold conRp at hh
  split at hh
  ·injection hh with hh;subst hh
   refine pA_ok fun e=>?_
   rw[e]
   have:=mul_ok 1 n (by omega) (by omega)
   rw[Nat.one_mul,Nat.div_eq_of_lt (by omega),Nat.mod_eq_of_lt (by omega)] at this
   exact CD.at_ this _
  ·cases hh
 refine vc_eq (T :=
  ∃(x:Unit),[D.int IntKind.u64 Z1,D.int IntKind.u64 (IntKind.wrap IntKind.u64 (↑n:Int))]=[D.int IntKind.u64 Z1,D.int IntKind.u64 (↑n:Int)]∧∀(y:Unit),True→(SM (decide ((9223372036854775807:Int)<(↑n:Int)))∧True)∧ifB (decide ((9223372036854775807:Int)<(↑n:Int))) (∃(y:Unit),True∧False∧True∧True) (side (Z0≤QiE n∧QiE n≤QiE n∧(8:Int)*QiE n≤(281474976710656:Int)∧QiE n≤(9223372036854775807:Int)) (∀(x:Nat),True→SM x∧N1≤H3 n∧Qlg n∧(∃(x_1:Nat),(N1≤x_1∧x_1≤n)∧(Z1=(↑x_1:Int)∧True)∧(SM x∧(H3 n=n∧Qlg n∧∀(i:Nat),QpD i n→(if i<N1 then [ZI Z1] else [ZI Z0])=QiF x_1 i)∧True)∧True)∧∀(x_1:Nat),N1≤x_1∧x_1≤n→ifB (decide ((↑x_1:Int)<Qlh n)) (Z0≤(↑x_1:Int)∧(↑x_1:Int)≤Qlh n∧(↑x_1:Int)<Qlh n∧side (Z0≤(↑x_1:Int)∧(↑x_1:Int)≤Qlh n) (SM x∧SM x∧Qab x_1*N1=Qab x_1∧Qab x_1*N1+(H3 n-Qab x_1)=n∧(∀(i:Nat),i<Qab x_1→SM true)∧(SM QJL∧SM (ZI (↑n:Int))∧SM (QJM x n)∧True)∧∃(y:Nat),(N1≤y∧y≤n)∧n-y<n-x_1∧(IntKind.wrap IntKind.i64 ((↑x_1:Int)+(NI (Qwc n x_1)))=(↑y:Int)∧True)∧(SM x∧(SM n∧Qlg n∧∀(i:Nat),i<n→(if i<Qab x_1 then QiF x_1 i else if i<Qab x_1+Qwc n x_1 then repF x_1 (i-Qab x_1) else QiF x_1 i)=QiF y i)∧True)∧True)) (SM x∧Qlg n∧side (H3 n≤n) ((∀(i:Nat),QpD i n→(List.all (QiF x_1 i) fun (x:D)=>match x with | D.unk=>false | D.agg cs=>false | D.tup ds=>false | x=>true)=true)∧∀(t:Nat),True∧∃(y:Unit),True∧(H3 n=LN (List.replicate n Z1)∧(∀(i:Nat),QpD i n→QiF x_1 i=[ZI (GI (List.replicate n Z1) i)])∧True)∧True∧True))))) (by kernel_rfl) ?_
 delta GI LN N0 N1 NI SM Z0 Z1 ZI QiE H3 Qlg QpD QiF Qlh Qab QJL QJM Qwc
 simp only[eq_self,implies_true,Int.toNat_natCast,ifB_iff,side_iff,decide_eq_true_eq,decide_eq_false_iff_not,true_and,and_true,exists_const,forall_const]
 have w64:IntKind.i64.wrap (n:Int)=n:=wrap_i64' (by omega) (by omega)
 have wu:IntKind.u64.wrap (n:Int)=n:=by
  simp only[IntKind.wrap,IntKind.signed,IntKind.bits]
  simp
  omega
 simp only[w64,wu,Int.toNat_natCast]
 refine⟨trivial,fun h=>by omega,fun _=>⟨⟨by omega,by omega,by omega,by omega⟩,by omega,⟨1,⟨by omega,by omega⟩,rfl,trivial,fun i _=>?_⟩,fun j ⟨j1,j2⟩=>⟨fun hlt=>⟨by omega,by omega,hlt,⟨by omega,by omega⟩,by omega,by omega,j+min (n-j) j,⟨by omega,by omega⟩,by omega,wrap_i64' (by omega) (by omega),fun i hi=>?_⟩,fun hge=>⟨Nat.le_refl _,fun i _=>rfl,by simp,fun i hi=>?_⟩⟩⟩⟩
 ·unfold repF
  split<;>rfl
 ·unfold repF
  by_cases a1:i<j
  ·rw[if_pos a1,if_pos a1,if_pos (by omega)]
  ·rw[if_neg a1]
   by_cases a2:i<j+min (n-j) j
   ·rw[if_pos a2,if_pos (by omega),if_pos a2]
   ·rw[if_neg a2,if_neg a1,if_neg a2]
 ·unfold repF
  rw[if_pos (by omega)]
  simp[List.getD_eq_getElem?_getD,hi]
def conCm(n:Nd):Con:=fun k ds S=>match k with
 |103=>match ds with
  | [_,.sl 1 m f _]=>some (pA ds S (.bool (classesB n (intsD m f))) (wkL ds [.agg n.row2,isl (intsD m f) .any]∧m≤maxLen))
  |_=>none
 |104=>some (pA ds S (isl (List.replicate n.ki.length 1) .any) (2≤n.ki.length∧n.ki.length≤1000∧wkL ds [.sl 1 1 (fun _=>[.int .i64 1]) .full,.int .i64 n.ki.length]))
 |_=>none
theorem conCm_ok{n:Nd}(h:n.ki.length≤maxLen):ConOk Tryz.prog (conCm n):=by
 intro k ds S A hh
 unfold conCm at hh
 split at hh
 ·split at hh
  ·injection hh with hh;subst hh
   exact pA_ok fun ⟨e,hm⟩=>CD.at_ (CD.wk (clss_ok n _ h (by rw[intsD_len];exact hm)) e) _
  ·cases hh
 ·injection hh with hh;subst hh
  exact pA_ok fun ⟨h1,h2,e⟩=>CD.at_ (CD.wk (rp_ok _ h1 h2) e) _
 ·cases hh
theorem comp15{n:Nd}(h:n.kd=15):compB n=(n.cl==2&&classesB n [4,2,rightK n]):=by
 unfold compB
 simp only[h]
 rfl
theorem cm15_no{n:Nd}(h:n.kd=15)(hc:(bif n.cl != 2 then true else ((n.ki.length:Int) != 3))=true):false=compB n:=by
 rw[comp15 h]
 by_cases h2:n.cl=2
 ·have e:(n.cl != 2)=false:=by simp[h2]
  rw[e] at hc
  have hl:n.ki.length≠3:=by
   have:((n.ki.length:Int) != 3)=true:=hc
   rw[bne_iff_ne] at this
   omega
  have:classesB n [4,2,rightK n]=false:=by
   unfold classesB
   rw[beq_eq_false_iff_ne]
   intro e
   have:=congrArg List.length e
   simp at this
   exact hl this
  rw[this];simp
 ·have:(n.cl==2)=false:=by simpa using h2
  rw[this];rfl
theorem cm15_cl{n:Nd}(hc:(bif n.cl != 2 then true else ((n.ki.length:Int) != 3))=false):(n.cl==2)=true:=by
 cases h2:n.cl != 2 with
 |true=>rw[h2] at hc;cases hc
 |false=>simpa using h2
theorem cm15_a{n:Nd}(h:n.kd=15)(hc:(bif n.cl != 2 then true else ((n.ki.length:Int) != 3))=false)(hr:(bif (n.ki.getD 0 default).kd==17 then bif bif (n.ki.getD 0 default).op==7 then true else (n.ki.getD 0 default).op==8 then true else (n.ki.getD 0 default).op==9 else false)=true):classesB n [4,2,1]=compB n:=by
 rw[comp15 h,cm15_cl hc]
 have:rightK n=1:=by
  unfold rightK
  refine if_pos ?_
  cases a:(n.ki.getD 0 default).kd==17<;>cases b:(n.ki.getD 0 default).op==7<;>cases c:(n.ki.getD 0 default).op==8<;>cases d:(n.ki.getD 0 default).op==9<;>simp[] at hr<;>simp_all
 rw[this];simp
theorem cm15_b{n:Nd}(h:n.kd=15)(hc:(bif n.cl != 2 then true else ((n.ki.length:Int) != 3))=false)(hr:(bif (n.ki.getD 0 default).kd==17 then bif bif (n.ki.getD 0 default).op==7 then true else (n.ki.getD 0 default).op==8 then true else (n.ki.getD 0 default).op==9 else false)=false):classesB n [4,2,2]=compB n:=by
 rw[comp15 h,cm15_cl hc]
 have:rightK n=2:=by
  unfold rightK
  refine if_neg ?_
  cases a:(n.ki.getD 0 default).kd==17<;>cases b:(n.ki.getD 0 default).op==7<;>cases c:(n.ki.getD 0 default).op==8<;>cases d:(n.ki.getD 0 default).op==9<;>simp[] at hr<;>simp_all
 rw[this];simp
theorem cls_arg{r:List D}{m:Nat}{f:Nat→List D}{md:Ab.Mode}(h:IntsP m f):wkL [.agg r,.sl 1 m f md] [.agg r,isl (intsD m f) .any]:=by
 simp only[wkL]
 refine⟨wkD_refl _,?_,trivial⟩
 simp only[isl,wkD,chk_iff]
 refine⟨by simp,by simp[intsD_len],fun i hi=>?_,by simp[weakM]⟩
 have e:(intsD m f).getD i 0=intD (f i):=by simp[intsD,List.getD_eq_getElem?_getD,hi]
 rw[e,h i hi]
 exact wkL_refl _
noncomputable def Ecm(n:Nd):Senv:=EC (conCm n) 146 7 [8,9,37,50,64,76,87,110,117] (fun id=>match id with | 4=>([0,1,2,3,4,5,6,7,8,9,10,11,12,13,14,15,16,17,18,20,21,22,19,23,24,25,26],[19,23,24]) | _=>([],[]))
def QgU(a:Nd):Int:=Nd.kd a
def QiG(a:Nd):Int:=Nd.cl a
def QpE(a:Nd):Bool:=QiG a==Z1
def QpF(a:Nd):List Nd:=Nd.ki a
def Qjx(a:Nd):Nat:=LN (QpF a)
def QiH(a:Nd):Int:=(NI (Qjx a))
def QpG:Arr:=DA
def Qjy:Nd:=Nd.mk Z0 Z0 Z0 [] Z0 Z0 QpG [] [] Z0 Z0 Z0
def Z9(a:Nd)(b:Nat):Nd:=List.getD (QpF a) b Qjy
def Qli(a:Nd)(b:Nat):Arr:=Nd.va (Z9 a b)
def QJN(a:Nd)(b:Nat):List Int:=Arr.sh (Qli a b)
def QJO(a:Nd)(b:Nat):List Int:=Arr.nu (Qli a b)
def Qwd(a:Nd)(b:Nat):List Arr:=Arr.it (Qli a b)
def Qwe(a:Nd)(b:Nat):List Nd:=Nd.ki (Z9 a b)
def Qwf(a:Nd)(b:Nat):List Sm:=Nd.bo (Z9 a b)
def Qwg:Sm:=Sm.mk Z0 Z0 [] Z0 Qjy Qjy
def Qwh(a:Nd):D:=D.sl (15:Nat) (Qjx a) (fun (i:Nat)=>[ZI (Nd.kd (Z9 a i)),ZI (Nd.at_ (Z9 a i)),ZI (Nd.cl (Z9 a i)),D.str (Nd.tx (Z9 a i)),ZI (Nd.pr (Z9 a i)),ZI (Nd.op (Z9 a i)),ZI (Arr.k (Qli a i)),SI (QJN a i),SI (QJO a i),D.sl N4 (LN (Qwd a i)) (fun (i_1:Nat)=>Arr.row (List.getD (Qwd a i) i_1 QpG)) Mode.any,D.sl (15:Nat) (LN (Qwe a i)) (fun (i_1:Nat)=>Nd.row (List.getD (Qwe a i) i_1 Qjy)) Mode.any,D.sl (34:Nat) (LN (Qwf a i)) (fun (i_1:Nat)=>Sm.row (List.getD (Qwf a i) i_1 Qwg)) Mode.any,ZI (Nd.de (Z9 a i)),ZI (Nd.sl (Z9 a i)),ZI (Nd.ss (Z9 a i))]) Mode.any
def Qlj(a:Nd):Arr:=Nd.va a
def QJP(a:Nd):List Int:=Arr.sh (Qlj a)
def QJQ(a:Nd):List Int:=Arr.nu (Qlj a)
def Qwi(a:Nd):List Arr:=Arr.it (Qlj a)
def Jh(a:Nd):D:=D.agg [ZI (QgU a),ZI (Nd.at_ a),ZI (QiG a),D.str (Nd.tx a),ZI (Nd.pr a),ZI (Nd.op a),ZI (Arr.k (Qlj a)),SI (QJP a),SI (QJQ a),D.sl N4 (LN (Qwi a)) (fun (i:Nat)=>Arr.row (List.getD (Qwi a) i QpG)) Mode.any,Qwh a,D.sl (34:Nat) (LN (Nd.bo a)) (fun (i:Nat)=>Sm.row1 (List.getD (Nd.bo a) i Qwg)) Mode.any,ZI (Nd.de a),ZI (Nd.sl a),ZI (Nd.ss a)]
def Qwj(a:Nat)(b:Nd):Prop:=SM a∧SM (Jh b)
def Qlk:List D:=[ZI Z1]
def QpH:List (List D):=[Qlk]
def Qwk(a:Nd):List D:=[ZI (QiH a)]
def Qwl(a:Nd):List Int:=List.replicate (Qjx a) Z1
def QpI(a:Nd):Nat:=LN (Qwl a)
def Qwm(a:Nd)(b:Nat):List D:=[ZI (GI (Qwl a) b)]
def Qwn(a:Nd):List Int:=intsD (QpI a) fun (i:Nat)=>Qwm a i
def Qgh(a:Nd):Bool:=compB a
def Qgi(a:Nd):Prop:=True∧∃(_y:Unit),True∧false=Qgh a∧True∧True
def QiI:List D:=[ZI (2:Int)]
def Qwo:List (List D):=QiI::QpH
def Qwp(a:Nat):List D:=List.getD Qwo a []
def Qwq:List Int:=intsD N2 fun (i:Nat)=>Qwp i
def Qwr(a:Nat):List D:=List.getD (QiI::Qlk::QpH) a []
def Qws:List Int:=intsD (3:Nat) fun (i:Nat)=>Qwr i
def Qwt(a:Nat):List D:=List.getD [[ZI (3:Int)],QiI] a []
def Qwu:List Int:=intsD N2 fun (i:Nat)=>Qwt i
def QpJ(a:Nd):Bool:=bif QiG a != (2:Int) then true else QiH a != (3:Int)
def Qwv(a:Nd):Nd:=List.getD (QpF a) N0 Qjy
def Qww(a:Nd):Bool:=Nd.kd (Qwv a)==(17:Int)
def QpK(a:Nd):Int:=Nd.op (Qwv a)
def Qwx(a:Nd):Bool:=QpK a==(7:Int)
def Qwy(a:Nd):Bool:=QpK a==(8:Int)
def Qwz(a:Nd):Bool:=QpK a==(9:Int)
def Qll(a:Nd):Bool:=bif Qww a then bif bif Qwx a then true else Qwy a then true else Qwz a else false
def QwA(a:Nd):Prop:=true=Qll a∧True
def QwB(a:Nat):List D:=List.getD ([ZI (4:Int)]::Qwo) a []
def QwC:List Int:=intsD (3:Nat) fun (i:Nat)=>QwB i
def Qlm:List (List D):=[QiI,QiI]
def QwD(a:Nat):List D:=List.getD ([ZI (4:Int)]::Qlm) a []
def QwE:List Int:=intsD (3:Nat) fun (i:Nat)=>QwD i
def QwF(a:Nat):List D:=List.getD Qlm a []
def QwG:List Int:=intsD N2 fun (i:Nat)=>QwF i
def QwH(a:Nd):Prop:=True∧∃(_y:Unit),True∧true=Qgh a∧True∧True
def QwI(a:Nat):List D:=List.getD (QiI::Qlm) a []
def QwJ:List Int:=intsD (3:Nat) fun (i:Nat)=>QwI i
def QwK(a:Nat):List D:=List.getD (Qlk::Qlm) a []
def QwL:List Int:=intsD (3:Nat) fun (i:Nat)=>QwK i
theorem cm_ok(n:Nd)(h:n.ki.length≤maxLen):CD 79 [.agg n.row2] (.bool (compB n)):=by
 refine con_of (A:=sC _ _) (x:=()) (E:=Ecm n) (eOk (conCm_ok h) rfl) Tryz.func79 rfl (by kernel_rfl) rfl (by simp[sC,Ecm,EC,E0]) ?_
 refine vc_eq (T :=
  ∀(x:Nat),True→SM x∧ifB (QgU n==(3:Int)) (SM x∧ifB (QpE n) (SM x∧ifB (decide ((2:Int)≤QiH n)) (SM x∧ifB (decide (QiH n≤(1000:Int))) (SM x∧SM x∧(SM x∧SM (Qwh n))∧Qwj x n∧∃(x_1:Unit),(N2≤Qjx n∧Qjx n≤(1000:Nat)∧wkL (D.sl N1 N1 (fun (i:Nat)=>List.getD QpH i []) Mode.full::Qwk n) (D.sl N1 N1 (fun (x:Nat)=>Qlk) Mode.full::Qwk n))∧∀(y:Unit),True→Qwj x n∧∃(x:Unit),(wkL [Jh n,D.sl N1 (QpI n) (fun (i:Nat)=>Qwm n i) Mode.any] [Jh n,SI (Qwn n)]∧QpI n≤(9223372036854775807:Nat))∧∀(y:Unit),True→RT (classesB n (Qwn n)=Qgh n)) (Qgi n)) (Qgi n)) (Qgi n)) (ifB (QgU n==(4:Int)) (SM x∧ifB (QpE n) (SM x∧∃(x:Unit),(wkL [Jh n,D.sl N1 N2 (fun (i:Nat)=>Qwp i) Mode.full] [Jh n,SI Qwq]∧N2≤(9223372036854775807:Nat))∧∀(y:Unit),True→RT (classesB n Qwq=Qgh n)) (Qgi n)) (ifB (QgU n==(5:Int)) (SM x∧ifB (QpE n) (SM x∧∃(x:Unit),(wkL [Jh n,D.sl N1 (3:Nat) (fun (i:Nat)=>Qwr i) Mode.full] [Jh n,SI Qws]∧(3:Nat)≤(9223372036854775807:Nat))∧∀(y:Unit),True→RT (classesB n Qws=Qgh n)) (Qgi n)) (ifB (QgU n==(14:Int)) (SM x∧ifB (QiG n==(2:Int)) (SM x∧∃(x:Unit),(wkL [Jh n,D.sl N1 N2 (fun (i:Nat)=>Qwt i) Mode.full] [Jh n,SI Qwu]∧N2≤(9223372036854775807:Nat))∧∀(y:Unit),True→RT (classesB n Qwu=Qgh n)) (Qgi n)) (ifB (QgU n==(15:Int)) ((SM x∧ifB (QiG n != (2:Int)) (true=QpJ n∧True) (SM x∧(QiH n != (3:Int))=QpJ n∧True))∧ifB (QpJ n) (Qgi n) (SM x∧side (Z0≤Z0∧Z0<QiH n) (∀(x_1:Nat),x≠x_1∧True→SM x_1∧(SM x_1∧ifB (Qww n) (SM x_1∧ifB (Qwx n) (QwA n) (SM x_1∧ifB (Qwy n) (QwA n) (SM x_1∧Qwz n=Qll n∧True))) (false=Qll n∧True))∧ifB (Qll n) (SM x∧∃(x:Unit),(wkL [Jh n,D.sl N1 (3:Nat) (fun (i:Nat)=>QwB i) Mode.full] [Jh n,SI QwC]∧(3:Nat)≤(9223372036854775807:Nat))∧∀(y:Unit),True→RT (classesB n QwC=Qgh n)) (SM x∧∃(x:Unit),(wkL [Jh n,D.sl N1 (3:Nat) (fun (i:Nat)=>QwD i) Mode.full] [Jh n,SI QwE]∧(3:Nat)≤(9223372036854775807:Nat))∧∀(y:Unit),True→RT (classesB n QwE=Qgh n))))) (ifB (QgU n==(16:Int)) (SM x∧ifB (QiG n==(2:Int)) (SM x∧∃(x_1:Unit),(wkL [Jh n,D.sl N1 N2 (fun (i:Nat)=>QwF i) Mode.full] [Jh n,SI QwG]∧N2≤(9223372036854775807:Nat))∧∀(y:Unit),True→ifB (classesB n QwG) (QwH n) (SM x∧∃(x_2:Unit),(wkL [Jh n,D.sl N1 (3:Nat) (fun (i:Nat)=>QwI i) Mode.full] [Jh n,SI QwJ]∧(3:Nat)≤(9223372036854775807:Nat))∧∀(y:Unit),True→ifB (classesB n QwJ) (QwH n) (SM x∧∃(x:Unit),(wkL [Jh n,D.sl N1 (3:Nat) (fun (i:Nat)=>QwK i) Mode.full] [Jh n,SI QwL]∧(3:Nat)≤(9223372036854775807:Nat))∧∀(y:Unit),True→RT (classesB n QwL=Qgh n)))) (Qgi n)) (Qgi n))))))) (by kernel_rfl) ?_
 delta DA GI LN N0 N1 N2 N4 NI SI SM Z0 Z1 ZI QgU QiG QpE QpF Qjx QiH QpG Qjy Z9 Qli QJN QJO Qwd Qwe Qwf Qwg Qwh Qlj QJP QJQ Qwi Jh Qwj Qlk QpH Qwk Qwl QpI Qwm Qwn Qgh Qgi QiI Qwo Qwp Qwq Qwr Qws Qwt Qwu QpJ Qwv Qww QpK Qwx Qwy Qwz Qll QwA QwB QwC Qlm QwD QwE QwF QwG QwH QwI QwJ QwK QwL RT
 try simp only[← dm]
 try simp only[← dn]
 simp only[ne_eq,ifB_iff,side_iff,decide_eq_true_eq,decide_eq_false_iff_not,true_and,and_true,beq_iff_eq,bne_iff_ne,bne_eq_false_iff_eq,beq_eq_false_iff_ne,exists_const,forall_const]
 have i2:∀a b:Int,intsD 2 (fun i=>[[D.int IntKind.i64 a],[D.int IntKind.i64 b]].getD i [])=[a,b]:=fun _ _=>rfl
 have i3:∀a b c:Int,intsD 3 (fun i=>[[D.int IntKind.i64 a],[D.int IntKind.i64 b],[D.int IntKind.i64 c]].getD i [])=[a,b,c]:=fun _ _ _=>rfl
 have p2:∀a b:Int,IntsP 2 (fun i=>[[D.int IntKind.i64 a],[D.int IntKind.i64 b]].getD i []):=fun _ _ i hi=>by
  match i,hi with
  |0,_=>rfl
  |1,_=>rfl
 have p3:∀a b c:Int,IntsP 3 (fun i=>[[D.int IntKind.i64 a],[D.int IntKind.i64 b],[D.int IntKind.i64 c]].getD i []):=fun _ _ _ i hi=>by
  match i,hi with
  |0,_=>rfl
  |1,_=>rfl
  |2,_=>rfl
 have w1:wkL [D.sl 1 1 (fun i=>[[D.int IntKind.i64 1]].getD i []) Mode.full,D.int IntKind.i64 n.ki.length] [D.sl 1 1 (fun _=>[D.int IntKind.i64 1]) Mode.full,D.int IntKind.i64 n.ki.length]:=by
  simp only[wkL,wkD,chk_iff]
  refine⟨⟨by simp,by simp,fun i hi=>?_,by simp[weakM]⟩,by simp[weakD,chk_iff,kEq],trivial⟩
  match i,hi with
  |0,_=>exact wkL_refl _
 intro x
 repeat' (first | exact wkL_refl _ | exact w1 | exact cls_arg (p2 _ _) | exact cls_arg (p3 _ _ _) | exact cls_arg (intsP_isl _) | refine And.intro ?_ ?_ | intro _)
 all_goals try simp only[intsD_isl,i2,i3] at *
 clear w1 i2 i3 p2 p3
 all_goals first
  |omega
  |(simp only[List.length_replicate];omega)
  |(simp_all[compB];done)
  |exact cm15_no (by assumption) (by assumption)
  |exact cm15_a (by assumption) (by assumption) (by assumption)
  |exact cm15_b (by assumption) (by assumption) (by assumption)
  |(simp_all[compB];omega)
def namesD(l:List Sm):List (List UInt8):=(l.filter fun s=>s.kd==2).map Sm.nm
theorem namesD_step{l:List Sm}{i:Nat}(h:i<l.length):namesD (l.take (i+1))=if (l.getD i default).kd=2 then namesD (l.take i)++[(l.getD i default).nm] else namesD (l.take i):=by
 rw[take_step h]
 unfold namesD
 rw[List.filter_append,List.map_append]
 generalize l.getD i default=x
 by_cases e:x.kd=2
 ·rw[if_pos e];simp[e]
 ·rw[if_neg e]
  simp[e]
theorem stmts_step{g:Bool}{l:List Sm}{i:Nat}(h:i<l.length):stmtsV g (namesD (l.take i)) (l.drop i)=(stmtV g (namesD (l.take i)) (l.getD i default)&&stmtsV g (namesD (l.take (i+1))) (l.drop (i+1))):=by
 rw[drop_step h,stmtsV,namesD_step h]
theorem stmts_done{g:Bool}{names:List (List UInt8)}{l:List Sm}{i:Nat}(h:l.length≤i):stmtsV g names (l.drop i)=true:=by
 rw[List.drop_eq_nil_of_le h,stmtsV]
theorem only_nd(n:Nd)(k:Int):CD 76 [.agg n.row2,.int .i64 k] (.bool (onlyB n k)):=by
 rw[← onlyD_eq]
 exact ol_ok n.kd n.at_ n.cl n.tx n.pr n.op n.va.k _ _ _ _ _ _ _ _ _ _ n.de n.sl n.ss k
theorem empty_nd(n:Nd):CD 56 [.agg n.row2] (.bool (emptyB n)):=by
 rw[← emptyD_eq]
 exact em_ok n.kd n.at_ n.cl n.tx n.pr n.op n.va.k _ _ _ _ _ _ _ _ _ _ n.de n.sl n.ss
def RNode(n:Nd):Prop:=CD 46 [.agg n.row2] (.bool (nodeV n))
def RBody(l:List Sm)(g:Bool):Prop:=CD 35 [gsl 34 Sm.row1 l,.bool g] (.bool (bodyV g l))
def conLa(n:Nd):Con:=fun k ds S=>match k with
 |49=>match ds with
  | [_,.int .i64 q]=>some (pA ds S (.bool (occB n.bo q)) (wkL ds [gsl 34 Sm.row1 n.bo,.int .i64 q]))
  |_=>none
 |35=>some (pA ds S (.bool (bodyV true n.bo)) (wkL ds [gsl 34 Sm.row1 n.bo,.bool true]))
 |_=>none
theorem sm_bo{n:Nd}(h:n.sm):∀s∈n.bo,s.sm:=by
 cases n with
 |mk kd at_ cl tx pr op va ki bo de sl ss =>
  simp only[Nd.sm] at h
  exact (smsSm_iff _).1 h.2.2.2
theorem conLa_ok{n:Nd}(hn:n.sm)(h:RBody n.bo true):ConOk Tryz.prog (conLa n):=by
 intro k ds S A hh
 unfold conLa at hh
 split at hh
 ·split at hh
  ·injection hh with hh;subst hh
   exact pA_ok fun e=>CD.at_ (CD.wk (oc_ok n.bo _ (maxB_le (sm_len hn).2.2) (sm_bo hn)) e) _
  ·cases hh
 ·injection hh with hh;subst hh
  exact pA_ok fun e=>CD.at_ (CD.wk h e) _
 ·cases hh
noncomputable def Ela(n:Nd):Senv:={ EC (conLa n) 55 5 [26,34,35,40,41,47,48,51] (fun id=>match id with | 3=>([0,1,3,4,2,5,6,7],[2,5]) | _=>([],[])) with mg:=fun _=>2 }
def QgV(a:Nd):List Sm:=Nd.bo a
def QwM(a:Nd):Bool:=bodyV true (QgV a)
def QwN(a:Nd):Bool:=lamC a&&QwM a
def QgA(a:Nd):Prop:=True∧∃(_y:Unit),True∧false=QwN a∧True∧True
def QpL(a:Nd):Int:=(LI (QgV a))
def QpM(a:Nd):Int:=IntKind.wrap IntKind.i64 (QpL a-Z1)
def QpN:Arr:=DA
def Qln:Nd:=Nd.mk Z0 Z0 Z0 [] Z0 Z0 QpN [] [] Z0 Z0 Z0
def Qlo:Sm:=Sm.mk Z0 Z0 [] Z0 Qln Qln
def QiJ(a:Nd)(b:Nat):Sm:=List.getD (QgV a) b Qlo
def Ha(a:Nd)(b:Nat):Nd:=Sm.te (QiJ a b)
def Qlp(a:Nd)(b:Nat):Arr:=Nd.va (Ha a b)
def QJR(a:Nd)(b:Nat):List Int:=Arr.sh (Qlp a b)
def QJS(a:Nd)(b:Nat):List Int:=Arr.nu (Qlp a b)
def QwO(a:Nd)(b:Nat):List Arr:=Arr.it (Qlp a b)
def QwP(a:Nd)(b:Nat):List Nd:=Nd.ki (Ha a b)
def QwQ(a:Nd)(b:Nat):List Sm:=Nd.bo (Ha a b)
def Hb(a:Nd)(b:Nat):Nd:=Sm.nd (QiJ a b)
def Qlq(a:Nd)(b:Nat):Arr:=Nd.va (Hb a b)
def QJT(a:Nd)(b:Nat):List Int:=Arr.sh (Qlq a b)
def QJU(a:Nd)(b:Nat):List Int:=Arr.nu (Qlq a b)
def QwR(a:Nd)(b:Nat):List Arr:=Arr.it (Qlq a b)
def QwS(a:Nd)(b:Nat):List Nd:=Nd.ki (Hb a b)
def QwT(a:Nd)(b:Nat):List Sm:=Nd.bo (Hb a b)
def Qlr(a:Nd):D:=D.sl (34:Nat) (LN (QgV a)) (fun (i:Nat)=>[ZI (Sm.kd (QiJ a i)),ZI (Sm.at_ (QiJ a i)),D.str (Sm.nm (QiJ a i)),ZI (Sm.sl (QiJ a i)),ZI (Nd.kd (Ha a i)),ZI (Nd.at_ (Ha a i)),ZI (Nd.cl (Ha a i)),D.str (Nd.tx (Ha a i)),ZI (Nd.pr (Ha a i)),ZI (Nd.op (Ha a i)),ZI (Arr.k (Qlp a i)),SI (QJR a i),SI (QJS a i),D.sl N4 (LN (QwO a i)) (fun (i_1:Nat)=>Arr.row (List.getD (QwO a i) i_1 QpN)) Mode.any,D.sl (15:Nat) (LN (QwP a i)) (fun (i_1:Nat)=>Nd.row (List.getD (QwP a i) i_1 Qln)) Mode.any,D.sl (34:Nat) (LN (QwQ a i)) (fun (i_1:Nat)=>Sm.row (List.getD (QwQ a i) i_1 Qlo)) Mode.any,ZI (Nd.de (Ha a i)),ZI (Nd.sl (Ha a i)),ZI (Nd.ss (Ha a i)),ZI (Nd.kd (Hb a i)),ZI (Nd.at_ (Hb a i)),ZI (Nd.cl (Hb a i)),D.str (Nd.tx (Hb a i)),ZI (Nd.pr (Hb a i)),ZI (Nd.op (Hb a i)),ZI (Arr.k (Qlq a i)),SI (QJT a i),SI (QJU a i),D.sl N4 (LN (QwR a i)) (fun (i_1:Nat)=>Arr.row (List.getD (QwR a i) i_1 QpN)) Mode.any,D.sl (15:Nat) (LN (QwS a i)) (fun (i_1:Nat)=>Nd.row (List.getD (QwS a i) i_1 Qln)) Mode.any,D.sl (34:Nat) (LN (QwT a i)) (fun (i_1:Nat)=>Sm.row (List.getD (QwT a i) i_1 Qlo)) Mode.any,ZI (Nd.de (Hb a i)),ZI (Nd.sl (Hb a i)),ZI (Nd.ss (Hb a i))]) Mode.any
def QwU(a:Nd):List D:=[Qlr a,ZI (12:Int)]
def QwV(a:Nd):List D:=[Qlr a,ZI (13:Int)]
def QpO(a:Nd):Int:=Nd.cl a
def QwW(a:Nd):Bool:=occB (QgV a) (12:Int)
def QwX(a:Nd):Bool:=occB (QgV a) (13:Int)
def QwY(a:Nd):List D:=[Qlr a,D.bool true]
def QwZ(a:Nat)(b:Nd):Prop:=SM a∧∃(_x:Unit),wkL (QwY b) (QwY b)∧∀(_y:Unit),True→True∧∃(_y:Unit),True∧QwM b=QwN b∧True∧True
def Qw0(a:Nd)(b:Nat):Prop:=ifB (QwX a) (QgA a) (QwZ b a)
theorem la_step(n:Nd)(hn:n.sm)(h:RBody n.bo true):CD 77 [.agg n.row2] (.bool (lamC n && bodyV true n.bo)) := by
  refine con_of (A := sC _ _) (x := ()) (E := Ela n) (eOk (conLa_ok hn h) rfl) Tryz.func77 rfl (by kernel_rfl) rfl (by simp [sC,Ela,EC,E0]) ?_
  refine vc_eq (T :=
    ∀ (x:Nat),True→SM x∧ifB (decide (Z0 < (LI (Nd.ki n)))) (QgA n) (SM x∧ifB (QpL n == Z0) (QgA n) (SM x∧SM x∧side (Z0 ≤ QpM n∧QpM n < QpL n) (ifB (Sm.kd (List.getD (QgV n) (Int.toNat (QpM n)) Qlo) != Z1) (QgA n) (SM x∧SM x∧∃ (x_1:Unit),wkL (QwU n) (QwU n)∧∀ (y:Unit),True→(SM x∧SM (Qlr n))∧∃ (x_2:Unit),wkL (QwV n) (QwV n)∧∀ (y:Unit),True→SM x∧ifB (QpO n == (2:Int)) (ifB (QwW n) (QgA n) (Qw0 n x)) (ifB (QpO n == (3:Int)) (ifB (!QwW n) (QgA n) (Qw0 n x)) (ifB (QpO n == (4:Int)) (ifB (!QwX n) (QgA n) (QwZ x n)) (QgA n)))))))) (by kernel_rfl) ?_
  delta DA GI LI LN N1 N4 SI SM Z0 Z1 ZI QgV QwM Ha Qlp QJR QJS QwO QwP QwQ Hb Qlq QJT QwN QJU QwR QwS QwT Qlr QwU QwV QpO QwW QwX QgA QwY QwZ Qw0 QpL QpM QpN Qln Qlo QiJ
  try simp only [← dm]
  try simp only [← dn]
  simp only [ne_eq,ifB_iff,side_iff,decide_eq_true_eq,decide_eq_false_iff_not,true_and,and_true,beq_iff_eq,bne_iff_ne,bne_eq_false_iff_eq,beq_eq_false_iff_ne,Bool.not_eq_true',Bool.not_eq_false',exists_const,forall_const]
  have e1:n.ki.isEmpty = (n.ki.length == 0) := by cases n.ki <;> rfl
  have e2:n.bo.isEmpty = (n.bo.length == 0) := by cases n.bo <;> rfl
  have hlen := (sm_len hn).2.2
  unfold maxB at hlen
  by_cases hb:n.bo.length = 0
  · skip
    repeat' (first | exact wkL_refl _ | refine And.intro ?_ ?_ | intro _)
    all_goals first
      | (exfalso; omega)
      | (unfold lamC; rw [e1,e2,hb]; simp; done)
  · have w:IntKind.i64.wrap ((n.bo.length:Int) - 1) = ((n.bo.length - 1:Nat):Int) := by rw [wrap_i64' (by omega) (by omega)]; omega
    simp only [w,Int.toNat_natCast]
    have e3:(n.bo.length == 0) = false := by simpa using hb
    repeat' (first | exact wkL_refl _ | refine And.intro ?_ ?_ | intro _)
    all_goals first
      | omega
      | (unfold lamC; rw [e1,e2,e3]; simp_all; done)
      | (have h9 : n.ki.isEmpty = false := by rw [e1, beq_eq_false_iff_ne]; omega
         unfold lamC; rw [h9]; simp; done)
def conNd(n:Nd):Con:=fun k ds S=>match k with
 |76=>match ds with
  | [_,.int .i64 q]=>some (pA ds S (.bool (onlyB n q)) (isN2 n ds [.int .i64 q]))
  |_=>none
 |77=>some (pA ds S (.bool (lamC n&&bodyV true n.bo)) (isN2 n ds []))
 |78=>some (pA ds S (.bool (leafB n)) (isN2 n ds []))
 |79=>some (pA ds S (.bool (compB n)) (isN2 n ds []))
 |54=>some (pA ds S (.bool (n.ki.any fun b=>!nodeV b)) (wkL ds [gsl 15 Nd.row1 n.ki,.fn (.func 80) [] []]))
 |_=>none
def conN1(b:Nd):Con:=fun k ds S=>match k with
 |46=>some (pA ds S (.bool (nodeV b)) (isN b ds []))
 |_=>none
noncomputable def En1(b:Nd):Senv:=EC (conN1 b) 6 3 [] (fun _=>([],[]))
def Qls(a:Nd):Arr:=Nd.va a
def QJV(a:Nd):List Int:=Arr.sh (Qls a)
def QJW(a:Nd):List Int:=Arr.nu (Qls a)
def Qw1(a:Nd):List Arr:=Arr.it (Qls a)
def Qw2:Arr:=DA
def QpP:Nd:=Nd.mk Z0 Z0 Z0 [] Z0 Z0 Qw2 [] [] Z0 Z0 Z0
theorem n1_ok(b:Nd)(h:RNode b):CS 80 [.agg b.row1] ⟨[],[]⟩ (.bool (!nodeV b)):=by
 refine CS.of (con_of (A:=sS _ _ _) (x:=()) (E:=En1 b) (eOk ?_ rfl) Tryz.func80 rfl (by kernel_rfl) rfl (by simp[sS,En1,EC,E0]) ?_)
 ·intro k ds S A hh
  try unfold conN1 at hh
  try dsimp only at hh
  split at hh
  ·injection hh with hh;subst hh
   exact pA_ok fun e=>CD.at_ (CD.isN h e) _
  ·cases hh
 refine vc_eq (T :=
  ∀(x:Nat),True→SM x∧∃(x:Unit),isN b [D.agg [ZI (Nd.kd b),ZI (Nd.at_ b),ZI (Nd.cl b),D.str (Nd.tx b),ZI (Nd.pr b),ZI (Nd.op b),ZI (Arr.k (Qls b)),SI (QJV b),SI (QJW b),D.sl N4 (LN (Qw1 b)) (fun (i:Nat)=>Arr.row (List.getD (Qw1 b) i Qw2)) Mode.any,D.sl (15:Nat) (LN (Nd.ki b)) (fun (i:Nat)=>Nd.row (List.getD (Nd.ki b) i QpP)) Mode.any,D.sl (34:Nat) (LN (Nd.bo b)) (fun (i:Nat)=>Sm.row (List.getD (Nd.bo b) i (Sm.mk Z0 Z0 [] Z0 QpP QpP))) Mode.any,ZI (Nd.de b),ZI (Nd.sl b),ZI (Nd.ss b)]] []∧∀(y:Unit),True→RT ((!nodeV b)=!nodeV b)) (by kernel_rfl) ?_
 delta DA GI LN N1 N4 SI SM Z0 ZI Qls QJV QJW Qw1 Qw2 QpP RT
 try simp only[← dm]
 try simp only[← dn]
 simp only[implies_true,true_and,and_true,exists_const,forall_const]
 first
  |exact nd_self _ _
  |exact fun _=>nd_self _ _
theorem conNd_ok{n:Nd}(hn:n.sm)(ho:n.va.ok)(h1:RBody n.bo true)(h2:∀b∈n.ki,RNode b):ConOk Tryz.prog (conNd n):=by
 intro k ds S A hh
 have hl:=maxB_le (sm_len hn).2.1
 unfold conNd at hh
 split at hh
 ·split at hh
  ·injection hh with hh;subst hh
   exact pA_ok fun e=>CD.at_ (CD.wk (only_nd n _) e) _
  ·cases hh
 ·injection hh with hh;subst hh
  exact pA_ok fun e=>CD.at_ (CD.wk (la_step n hn h1) e) _
 ·injection hh with hh;subst hh
  exact pA_ok fun e=>CD.at_ (CD.wk (le_ok n ho) e) _
 ·injection hh with hh;subst hh
  exact pA_ok fun e=>CD.at_ (CD.wk (cm_ok n hl) e) _
 ·injection hh with hh;subst hh
  exact pA_ok fun e=>CD.at_ (CD.wk (CS.cd (Nxc_ok n.ki (fun b=>!nodeV b) (fun b hb=>n1_ok b (h2 b hb)) hl)) e) _
 ·cases hh
noncomputable def End(n:Nd):Senv:=EC (conNd n) 25 3 [7,10] (fun _=>([],[]))
def Qjz(a:Nd):Int:=Nd.kd a
def Qlt(a:Nd):Arr:=Nd.va a
def QJX(a:Nd):List Int:=Arr.sh (Qlt a)
def QJY(a:Nd):List Int:=Arr.nu (Qlt a)
def Qw3(a:Nd):List Arr:=Arr.it (Qlt a)
def Qw4:Arr:=DA
def QpQ(a:Nd):List Nd:=Nd.ki a
def QpR:Nd:=Nd.mk Z0 Z0 Z0 [] Z0 Z0 Qw4 [] [] Z0 Z0 Z0
def Qw5(a:Nd):D:=D.sl (15:Nat) (LN (QpQ a)) (fun (i:Nat)=>Nd.row1 (List.getD (QpQ a) i QpR)) Mode.any
def QpS(a:Nd):List Sm:=Nd.bo a
def Qw6(a:Nd):D:=D.agg [ZI (Qjz a),ZI (Nd.at_ a),ZI (Nd.cl a),D.str (Nd.tx a),ZI (Nd.pr a),ZI (Nd.op a),ZI (Arr.k (Qlt a)),SI (QJX a),SI (QJY a),D.sl N4 (LN (Qw3 a)) (fun (i:Nat)=>Arr.row (List.getD (Qw3 a) i Qw4)) Mode.any,Qw5 a,D.sl (34:Nat) (LN (QpS a)) (fun (i:Nat)=>Sm.row1 (List.getD (QpS a) i (Sm.mk Z0 Z0 [] Z0 QpR QpR))) Mode.any,ZI (Nd.de a),ZI (Nd.sl a),ZI (Nd.ss a)]
def QjA(a:Nd):Bool:=nodeV a
def Qw7(a:Nd):Prop:=True∧∃(_y:Unit),True∧false=QjA a∧True∧True
def QpT(a:Nd):Prop:=isN2 a [Qw6 a] []
def Qw8(a:Nd):List D:=[Qw5 a,D.fn (Fn.func (80:Nat)) [] []]
theorem nd_step(n:Nd)(hn:n.sm)(ho:n.va.ok)(h1:RBody n.bo true)(h2:∀b∈n.ki,RNode b):RNode n:=by
 refine con_of (A:=sC _ _) (x:=()) (E:=End n) (eOk (conNd_ok hn ho h1 h2) rfl) Tryz.func46 rfl (by kernel_rfl) rfl (by simp[sC,End,EC,E0]) ?_
 refine vc_eq (T :=
  ∀(x:Nat),True→SM x∧SM x∧∃(x_1:Unit),isN2 n [Qw6 n,ZI (Qjz n)] [ZI (Qjz n)]∧∀(y:Unit),True→ifB (!onlyB n (Qjz n)) (Qw7 n) (SM x∧ifB (Qjz n==(10:Int)) (SM x∧∃(x:Unit),QpT n∧∀(y:Unit),True→RT ((lamC n&&bodyV true (QpS n))=QjA n)) (SM x∧∃(x_2:Unit),QpT n∧∀(y:Unit),True→ifB (leafB n) (RT (true=QjA n)) (SM x∧∃(x_3:Unit),QpT n∧∀(y:Unit),True→ifB (compB n) (SM x∧∃(x:Unit),wkL (Qw8 n) (Qw8 n)∧∀(y:Unit),True→RT ((!List.any (QpQ n) fun (b:Nd)=>!QjA b)=QjA n)) (Qw7 n))))) (by kernel_rfl) ?_
 delta DA GI LN N1 N4 SI SM Z0 ZI Qjz Qlt QJX QJY Qw3 Qw4 QpQ QpR Qw5 QpS Qw6 QjA Qw7 QpT Qw8 RT
 try simp only[← dm]
 try simp only[← dn]
 simp only[ne_eq,ifB_iff,true_and,and_true,beq_iff_eq,beq_eq_false_iff_ne,Bool.not_eq_true',Bool.not_eq_false',exists_const,forall_const]
 have e:n.ki.all nodeV=!(n.ki.any fun b=>!nodeV b):=List.all_eq_not_any_not
 rw[nodeV_eq,e]
 repeat' (first | exact nd2_self n _ | exact wkL_refl _ | refine And.intro ?_ ?_ | intro _)
 all_goals first
  |(simp_all;done)
def cntR(prs:List (List UInt8×Int))(names:List (List UInt8)):Prop:=∀s,(sget prs s).getD 0=(names.count s:Int)
theorem sget_put(nm:List UInt8)(v:Int):∀(l:List (List UInt8×Int)) (s:List UInt8),sget (sput l nm v) s=if nm=s then some v else sget l s
 | [],s=>by
  simp only[sput,sget]
 |(t,n)::r,s=>by
  simp only[sput]
  by_cases e:t=nm
  ·rw[if_pos e]
   simp only[sget,e]
   by_cases e2:nm=s
   ·rw[if_pos e2,if_pos e2]
   ·rw[if_neg e2,if_neg e2,if_neg e2]
  ·rw[if_neg e]
   simp only[sget,sget_put nm v r s]
   by_cases e2:t=s
   ·rw[if_pos e2,if_pos e2,if_neg (fun e3=>e (e2.trans e3.symm))]
   ·rw[if_neg e2,if_neg e2]
theorem cntR_put{prs:List (List UInt8×Int)}{names:List (List UInt8)}(h:cntR prs names)(nm:List UInt8):cntR (sput prs nm ((sget prs nm).getD 0+1)) (names++[nm]):=by
 intro s
 rw[sget_put,List.count_append,h nm]
 by_cases e:nm=s
 ·subst e
  rw[if_pos rfl]
  simp
 ·rw[if_neg e,h s]
  simp[e]
theorem cntR_one{prs:List (List UInt8×Int)}{names:List (List UInt8)}(h:cntR prs names)(nm:List UInt8):((sget prs nm).getD 0+1=1)↔names.contains nm=false:=by
 rw[h nm]
 constructor
 ·intro e
  have:names.count nm=0:=by omega
  simpa using List.count_eq_zero.1 this
 ·intro e
  have:names.count nm=0:=List.count_eq_zero.2 (by simpa using e)
  omega
def conBo:Con:=fun k ds S=>match k with
 |46=>some (pE (β:=Nd) ds S (fun b=>.bool (nodeV b)) (fun b=>isN b ds []∧RNode b))
 |56=>some (pE (β:=Nd) ds S (fun b=>.bool (emptyB b)) (fun b=>isN b ds []))
 |57=>match ds with
  | [.str s]=>some (pA ds S (.bool (nameB s)) True)
  |_=>none
 |_=>none
theorem conBo_ok:ConOk Tryz.prog conBo:=by
 intro k ds S A hh
 unfold conBo at hh
 split at hh
 ·injection hh with hh;subst hh
  exact pS_ok fun b ⟨e,h⟩=>CD.at_ (CD.isN h e) _
 ·injection hh with hh;subst hh
  exact pS_ok fun b e=>CD.at_ (CD.isN (empty_nd b) e) _
 ·split at hh
  ·injection hh with hh;subst hh
   exact pA_ok fun _=>CD.at_ (in_ok _) _
  ·cases hh
 ·cases hh
structure BoI (l:List Sm) (g:Bool) (i:Nat) (r:Bool) (prs:List (List UInt8×Int)):Prop where
 le:i≤l.length
 cnt:r=true→cntR prs (namesD (l.take i))
 tot:bodyV g l=(r&&stmtsV g (namesD (l.take i)) (l.drop i))
noncomputable def Ebo(l:List Sm)(g:Bool):Senv:={ EC conBo 128 2 [4,5,6,8,9,14,15,16,17,32,37,38,57,98] (fun _=>([],[])) with
 mg:=fun _=>2
 ann:=fun b env _S=>match b with
  |0=>match Ab.look env 6 with
   |.map _k x=>some { slots:=[16,5],keep:=[0,1,6,14,15],α:=Nat×Bool×List (List UInt8×Int),st:=fun y=>([.int .i64 y.1,.bool y.2.1],⟨[(0,x,.amap .i64 y.2.2)],[]⟩),inv:=fun y=>BoI l g y.1 y.2.1 y.2.2,mu:=fun y=>l.length-y.1 }
   |_=>none
  |_=>none }
def QgW(a:List Sm)(b:Bool)(c:Nat)(d:Bool)(e:List (List UInt8×Int)):Prop:=BoI a b c d e
def QjB:Arr:=DA
def QiK:Nd:=Nd.mk Z0 Z0 Z0 [] Z0 Z0 QjB [] [] Z0 Z0 Z0
def QiL:Sm:=Sm.mk Z0 Z0 [] Z0 QiK QiK
def QiM(a:List Sm)(b:Nat):Sm:=List.getD a (Int.toNat (↑b:Int)) QiL
def Hc(a:List Sm)(b:Nat):Nd:=Sm.nd (QiM a b)
def Qw9(a:List Sm)(b:Nat):Int:=Nd.kd (Hc a b)
def QpU(a:List Sm)(b:Nat):Int:=Nd.cl (Hc a b)
def Qlu(a:List Sm)(b:Nat):Arr:=Nd.va (Hc a b)
def QJZ(a:List Sm)(b:Nat):List Int:=Arr.sh (Qlu a b)
def QJ0(a:List Sm)(b:Nat):List Int:=Arr.nu (Qlu a b)
def Qxa(a:List Sm)(b:Nat):List Arr:=Arr.it (Qlu a b)
def Qxb(a:List Sm)(b:Nat):List Nd:=Nd.ki (Hc a b)
def Qxc(a:List Sm)(b:Nat):List Sm:=Nd.bo (Hc a b)
def QpV(a:Nd):Bool:=nodeV a
def QpW(a:List Sm)(b:Nat):Int:=Sm.kd (QiM a b)
def QpX(a:List Sm)(b:Nat):Bool:=QpU a b==Z1
def QjC(a:List Sm)(b:Nat):List UInt8:=Sm.nm (QiM a b)
def Qxd(a:List Sm)(b:Nat):Bool:=QjC a b==[]
def Qxe(a:List Sm)(b:Nat):Int:=Sm.sl (QiM a b)
def Qxf(a:List Sm)(b:Nat):Bool:=Qxe a b==Z0
def Hd(a:List Sm)(b:Nat):Nd:=Sm.te (QiM a b)
def Qxg(a:List Sm)(b:Nat):Int:=Nd.cl (Hd a b)
def Qlv(a:List Sm)(b:Nat):Arr:=Nd.va (Hd a b)
def QJ1(a:List Sm)(b:Nat):List Int:=Arr.sh (Qlv a b)
def QJ2(a:List Sm)(b:Nat):List Int:=Arr.nu (Qlv a b)
def Qxh(a:List Sm)(b:Nat):List Arr:=Arr.it (Qlv a b)
def Qxi(a:List Sm)(b:Nat):List Nd:=Nd.ki (Hd a b)
def Qxj(a:List Sm)(b:Nat):List Sm:=Nd.bo (Hd a b)
def QpY(a:Nd)(b:List Sm)(c:Nat):Prop:=isN a [D.agg [ZI (Nd.kd (Hd b c)),ZI (Nd.at_ (Hd b c)),ZI (Qxg b c),D.str (Nd.tx (Hd b c)),ZI (Nd.pr (Hd b c)),ZI (Nd.op (Hd b c)),ZI (Arr.k (Qlv b c)),SI (QJ1 b c),SI (QJ2 b c),D.sl N4 (LN (Qxh b c)) (fun (i:Nat)=>Arr.row (List.getD (Qxh b c) i QjB)) Mode.any,D.sl (15:Nat) (LN (Qxi b c)) (fun (i:Nat)=>Nd.row (List.getD (Qxi b c) i QiK)) Mode.any,D.sl (34:Nat) (LN (Qxj b c)) (fun (i:Nat)=>Sm.row (List.getD (Qxj b c) i QiL)) Mode.any,ZI (Nd.de (Hd b c)),ZI (Nd.sl (Hd b c)),ZI (Nd.ss (Hd b c))]] []
def QiN(a:List Sm)(b:Nat):Sm:=List.getD a b QiL
def He(a:List Sm)(b:Nat):Nd:=Sm.te (QiN a b)
def Qlw(a:List Sm)(b:Nat):Arr:=Nd.va (He a b)
def QJ3(a:List Sm)(b:Nat):List Int:=Arr.sh (Qlw a b)
def QJ4(a:List Sm)(b:Nat):List Int:=Arr.nu (Qlw a b)
def Qxk(a:List Sm)(b:Nat):List Arr:=Arr.it (Qlw a b)
def Qxl(a:List Sm)(b:Nat):List Nd:=Nd.ki (He a b)
def Qxm(a:List Sm)(b:Nat):List Sm:=Nd.bo (He a b)
def Hf(a:List Sm)(b:Nat):Nd:=Sm.nd (QiN a b)
def Qlx(a:List Sm)(b:Nat):Arr:=Nd.va (Hf a b)
def QJ5(a:List Sm)(b:Nat):List Int:=Arr.sh (Qlx a b)
def QJ6(a:List Sm)(b:Nat):List Int:=Arr.nu (Qlx a b)
def Qxn(a:List Sm)(b:Nat):List Arr:=Arr.it (Qlx a b)
def Qxo(a:List Sm)(b:Nat):List Nd:=Nd.ki (Hf a b)
def Qxp(a:List Sm)(b:Nat):List Sm:=Nd.bo (Hf a b)
def QJ7(a:List Sm):D:=D.sl (34:Nat) (LN a) (fun (i:Nat)=>[ZI (Sm.kd (QiN a i)),ZI (Sm.at_ (QiN a i)),D.str (Sm.nm (QiN a i)),ZI (Sm.sl (QiN a i)),ZI (Nd.kd (He a i)),ZI (Nd.at_ (He a i)),ZI (Nd.cl (He a i)),D.str (Nd.tx (He a i)),ZI (Nd.pr (He a i)),ZI (Nd.op (He a i)),ZI (Arr.k (Qlw a i)),SI (QJ3 a i),SI (QJ4 a i),D.sl N4 (LN (Qxk a i)) (fun (i_1:Nat)=>Arr.row (List.getD (Qxk a i) i_1 QjB)) Mode.any,D.sl (15:Nat) (LN (Qxl a i)) (fun (i_1:Nat)=>Nd.row (List.getD (Qxl a i) i_1 QiK)) Mode.any,D.sl (34:Nat) (LN (Qxm a i)) (fun (i_1:Nat)=>Sm.row (List.getD (Qxm a i) i_1 QiL)) Mode.any,ZI (Nd.de (He a i)),ZI (Nd.sl (He a i)),ZI (Nd.ss (He a i)),ZI (Nd.kd (Hf a i)),ZI (Nd.at_ (Hf a i)),ZI (Nd.cl (Hf a i)),D.str (Nd.tx (Hf a i)),ZI (Nd.pr (Hf a i)),ZI (Nd.op (Hf a i)),ZI (Arr.k (Qlx a i)),SI (QJ5 a i),SI (QJ6 a i),D.sl N4 (LN (Qxn a i)) (fun (i_1:Nat)=>Arr.row (List.getD (Qxn a i) i_1 QjB)) Mode.any,D.sl (15:Nat) (LN (Qxo a i)) (fun (i_1:Nat)=>Nd.row (List.getD (Qxo a i) i_1 QiK)) Mode.any,D.sl (34:Nat) (LN (Qxp a i)) (fun (i_1:Nat)=>Sm.row (List.getD (Qxp a i) i_1 QiL)) Mode.any,ZI (Nd.de (Hf a i)),ZI (Nd.sl (Hf a i)),ZI (Nd.ss (Hf a i))]) Mode.any
def Qxq(a:List Sm):Prop:=SM (QJ7 a)
def QjD(a:List Sm)(b:Bool)(c:Nat):Prop:=Qxq a∧SM (D.bool b)∧SM (D.map N0 c)∧Qxq a∧SM (ZI (LI a))∧True
def Qly(a b:Nat):Prop:=IntKind.wrap IntKind.i64 ((↑a:Int)+Z1)=(↑b:Int)
def Qxr(a b:Nat)(c:Nd)(d:Bool):Prop:=Qly a b∧emptyB c=d∧True
def Qgj(a:List Sm)(b:Bool)(c d:Nat)(e:List (List UInt8×Int)):Prop:=QjD a b c∧∃(y:Nat×Bool×List (List UInt8×Int)),QgW a b y.1 y.2.1 y.2.2∧LN a-y.1<LN a-d∧(Qly d y.1∧false=y.2.1∧True)∧(SM c∧e=y.2.2∧True)∧True
def Qxs(a:List (List UInt8×Int))(b:List Sm)(c:Nat):List (List UInt8×Int):=sput a (QjC b c) (IntKind.wrap IntKind.i64 (Option.getD (sget a (QjC b c)) Z0+Z1))
def Qxt(a:Nat)(b:List (List UInt8×Int))(c:List Sm)(d:Nat)(e:List (List UInt8×Int)):Prop:=(SM a∧Qxs b c d=e∧True)∧True
def Qlz(a:List Sm)(b:Bool)(c d:Nat)(e:List (List UInt8×Int)):Prop:=QjD a b c∧∃(y:Nat×Bool×List (List UInt8×Int)),QgW a b y.1 y.2.1 y.2.2∧LN a-y.1<LN a-d∧(Qly d y.1∧false=y.2.1∧True)∧Qxt c e a d y.2.2
def QpZ(a:Nat)(b:List Sm)(c:Nat)(d:Bool)(e:Nat)(f:List (List UInt8×Int)):Prop:=SM a∧ifB (decide (Z0≤Qxe b c)) (SM a∧∃(x:Nd),QpY x b c∧∀(_y:Unit),True→QjD b d e∧∃(y:Nat×Bool×List (List UInt8×Int)),QgW b d y.1 y.2.1 y.2.2∧LN b-y.1<LN b-c∧Qxr c y.1 x y.2.1∧Qxt e f b c y.2.2) (Qlz b d e c f)
def Qxu(a:Bool)(b:List Sm):Prop:=True∧∃(_y:Unit),True∧false=bodyV a b∧True∧True
theorem bo_step(l:List Sm)(g:Bool)(hl:l.length≤maxB)(h:∀s∈l,RNode s.nd∧RNode s.te):RBody l g:=by
 refine con_of (A:=sC _ _) (x:=()) (E:=Ebo l g) (eOk conBo_ok rfl) Tryz.func35 rfl (by kernel_rfl) rfl (by simp[sC,Ebo,EC,E0]) ?_
 refine vc_eq (T :=
  ∀(y:Nat),True→(∃(x:Nat×Bool×List (List UInt8×Int)),QgW l g x.1 x.2.1 x.2.2∧(Z0=(NI x.1)∧decide ((LI l)≤(1000:Int))=x.2.1∧True)∧(SM y∧eqOf (List (List UInt8×Int)) [] x.2.2∧True)∧True)∧∀(x:Nat×Bool×List (List UInt8×Int)),QgW l g x.1 x.2.1 x.2.2→ifB (decide ((NI x.1)<(LI l))) (side (Z0≤(NI x.1)∧(NI x.1)<(LI l)) (∀(x_1:Nat),y≠x_1∧True→SM x_1∧ifB x.2.1 (SM x_1∧ifB (decide (Z0≤Sm.at_ (QiM l x.1))) (SM x_1∧∃(x_2:Nd),(isN x_2 [D.agg [ZI (Qw9 l x.1),ZI (Nd.at_ (Hc l x.1)),ZI (QpU l x.1),D.str (Nd.tx (Hc l x.1)),ZI (Nd.pr (Hc l x.1)),ZI (Nd.op (Hc l x.1)),ZI (Arr.k (Qlu l x.1)),SI (QJZ l x.1),SI (QJ0 l x.1),D.sl N4 (LN (Qxa l x.1)) (fun (i:Nat)=>Arr.row (List.getD (Qxa l x.1) i QjB)) Mode.any,D.sl (15:Nat) (LN (Qxb l x.1)) (fun (i:Nat)=>Nd.row (List.getD (Qxb l x.1) i QiK)) Mode.any,D.sl (34:Nat) (LN (Qxc l x.1)) (fun (i:Nat)=>Sm.row (List.getD (Qxc l x.1) i QiL)) Mode.any,ZI (Nd.de (Hc l x.1)),ZI (Nd.sl (Hc l x.1)),ZI (Nd.ss (Hc l x.1))]] []∧RNode x_2)∧∀(y_1:Unit),True→ifB (!QpV x_2) (RT (QpV x_2=bodyV g l)) (SM x_1∧SM x_1∧ifB (QpW l x.1==Z1) (ifB (QpX l x.1) (SM x_1∧ifB (Qxd l x.1) (SM x_1∧ifB (Qxf l x.1) (SM x_1∧∃(x_3:Nd),QpY x_3 l x.1∧∀(y_2:Unit),True→QjD l g y∧∃(y_3:Nat×Bool×List (List UInt8×Int)),QgW l g y_3.1 y_3.2.1 y_3.2.2∧LN l-y_3.1<LN l-x.1∧Qxr x.1 y_3.1 x_3 y_3.2.1∧(SM y∧x.2.2=y_3.2.2∧True)∧True) (Qgj l g y x.1 x.2.2)) (Qgj l g y x.1 x.2.2)) (Qgj l g y x.1 x.2.2)) (ifB (QpW l x.1==(2:Int)) (SM x_1∧SM y∧SM y∧SM x_1∧∃(x_3:Unit),True∧∀(y_2:Unit),True→ifB (nameB (QjC l x.1)) (SM x_1∧SM y∧ifB (Option.getD (sget (Qxs x.2.2 l x.1) (QjC l x.1)) Z0==Z1) (ifB (QpX l x.1) (QpZ x_1 l x.1 g y x.2.2) (ifB (QpU l x.1==(2:Int)) (QpZ x_1 l x.1 g y x.2.2) (SM x_1∧ifB (Qw9 l x.1==(10:Int)) (QpZ x_1 l x.1 g y x.2.2) (Qlz l g y x.1 x.2.2)))) (Qlz l g y x.1 x.2.2)) (Qlz l g y x.1 x.2.2)) (ifB (QpW l x.1==(3:Int)) (ifB g (SM x_1∧∃(x_3:Nd),(QpY x_3 l x.1∧RNode x_3)∧∀(y_2:Unit),True→ifB (QpV x_3) (SM x_1∧ifB (Qxg l x.1==Z1) (ifB (QpX l x.1) (SM x_1∧ifB (Qxd l x.1) (SM x_1∧QjD l g y∧∃(y_3:Nat×Bool×List (List UInt8×Int)),QgW l g y_3.1 y_3.2.1 y_3.2.2∧LN l-y_3.1<LN l-x.1∧(Qly x.1 y_3.1∧Qxf l x.1=y_3.2.1∧True)∧(SM y∧x.2.2=y_3.2.2∧True)∧True) (Qgj l g y x.1 x.2.2)) (Qgj l g y x.1 x.2.2)) (Qgj l g y x.1 x.2.2)) (Qgj l g y x.1 x.2.2)) (Qgj l g y x.1 x.2.2)) (Qgj l g y x.1 x.2.2))))) (Qxu g l)) (Qxu g l))) (RT (x.2.1=bodyV g l))) (by kernel_rfl) ?_
 delta DA GI LI LN N0 N1 N4 NI SI SM Z0 Z1 ZI QgW QjB QJ0 Qxa Qxb Qxc QpV QpW QpX QjC Qxd Qxe QiK Qxf Hd Qxg Qlv QJ1 QJ2 Qxh Qxi Qxj QpY QiL QiN He Qlw QJ3 QJ4 Qxk Qxl Qxm Hf Qlx QiM QJ5 QJ6 Qxn Qxo Qxp QJ7 Qxq QjD Qly Qxr Hc Qgj Qxs Qxt Qlz QpZ Qxu Qw9 QpU Qlu QJZ RT
 try simp only[← dm]
 try simp only[← dn]
 simp only[ne_eq,Int.toNat_natCast,ifB_iff,side_iff,decide_eq_true_eq,decide_eq_false_iff_not,true_and,and_true,beq_iff_eq,beq_eq_false_iff_ne,Bool.not_eq_true',Bool.not_eq_false',exists_const,forall_const,Prod.exists]
 intro y
 unfold maxB at hl
 have hnd1:(decide ((l.length:Int)≤1000))=decide (l.length≤1000):=decide_eq_decide.2 (by omega)
 refine⟨⟨0,decide ((l.length:Int)≤1000),[],⟨Nat.zero_le _,fun _ s=>by simp[sget,namesD],?_⟩,⟨rfl,rfl⟩,rfl⟩,?_⟩
 ·rw[hnd1]
  rfl
 rintro ⟨i,r,prs⟩ hI
 simp only at hI ⊢
 refine⟨fun hlt=>⟨⟨by omega,hlt⟩,fun z _=>?_⟩,fun hge=>?_⟩
 ·have hlt':i<l.length:=by omega
  have hm:=sm_getD hlt'
  have hnm:=namesD_step hlt'
  obtain ⟨hnd,hte⟩:=h _ hm
  have tot:=hI.tot
  rw[stmts_step hlt',stmtV_eq] at tot
  have w:IntKind.i64.wrap ((i:Int)+1)=((i+1:Nat):Int):=by rw[wrap_i64' (by omega) (by omega)];rfl
  have go : ∀(r2 : Bool) (prs2 : List (List UInt8×Int)), (r2=true → cntR prs2 (namesD (l.take (i+1)))) → bodyV g l=(r2&&stmtsV g (namesD (l.take (i+1))) (l.drop (i+1))) →
    ∃a a_1 b,BoI l g a a_1 b∧l.length-a<l.length-i∧(IntKind.i64.wrap ((i:Int)+1)=(a:Int)∧r2=a_1)∧prs2=b:=fun r2 prs2 c1 c2 =>
   ⟨i+1,r2,prs2,⟨hlt',c1,c2⟩,by omega,⟨w,rfl⟩,rfl⟩
  have hcount:∀nm,(namesD (l.take i)).count nm≤8589934592:=fun nm=>by
   have h1:=List.count_le_length (a:=nm) (l:=namesD (l.take i))
   have h2:(namesD (l.take i)).length≤(l.take i).length:=by
    unfold namesD
    rw[List.length_map]
    exact List.length_filter_le _ _
   rw[List.length_take] at h2
   omega
  generalize stmtsV g (namesD (l.take (i+1))) (l.drop (i+1))=rest at tot go
  generalize hs:l.getD i default=s at *
  cases r with
  |false =>
   simp only[Bool.false_and] at tot
   simp[tot]
  |true =>
   have hc:=hI.cnt rfl
   have wc:IntKind.i64.wrap ((sget prs s.nm).getD 0+1)=(sget prs s.nm).getD 0+1:=by
    have:=hcount s.nm
    rw[hc s.nm]
    exact wrap_i64' (by omega) (by omega)
   have one:=cntR_one hc s.nm
   have put:=cntR_put hc s.nm
   simp only[wc,sget_put,if_true,Option.getD_some,one]
   have c1:s.kd≠2→cntR prs (namesD (l.take (i+1))):=fun e=>by rw[hnm,if_neg e];exact hc
   have c2:s.kd=2→cntR (sput prs s.nm ((sget prs s.nm).getD 0+1)) (namesD (l.take (i+1))):=fun e=>by rw[hnm,if_pos e];exact put
   clear hs hI hm h hc put
   repeat' (first
    |exact fun _=>c1 (by omega)
    |exact fun _=>c2 (by assumption)
    |refine⟨s.nd,⟨nd_self _ _,hnd⟩,?_⟩
    |refine⟨s.te,⟨nd_self _ _,hte⟩,?_⟩
    |refine⟨s.te,nd_self _ _,?_⟩
    |refine go _ _ ?_ ?_
    |refine And.intro ?_ ?_
    |intro _)
   all_goals first
    |(clear c1 c2 hnm go;rw[tot];simp_all;done)
    |(clear c1 c2 hnm go;rw[tot];simp_all;omega)
    |trace_state
 ·have e:i=l.length:=by have:=hI.le;omega
  have tot:=hI.tot
  rw[e,stmts_done (Nat.le_refl _),Bool.and_true] at tot
  exact tot.symm
end
end Go.Proofs.YtjnifeedbgefpaaGreatDoor
