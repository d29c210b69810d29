/- Functions of the given program and what each of them computes: lemmas towards the statement, their conditions stated with each of them. -/
import Derived.Test.YtaagdbcaeokjkaaGreatDoorS1
namespace Go.Proofs.YtaagdbcaeokjkaaGreatDoor
open Go Go.Ab
set_option maxRecDepth 100000
noncomputable section
def BeZ(xm:Nat)(m:Int)(l:List Nd)(p:Nd->Bool):Con:=fun k ds S=>match k with
 |62=>some (pE (β:=Nd) ds S (fun b=>.bool (p b)) (fun b=>isN b ds [.ref 1 xm 0]/\b∈l/\S=⟨[(1,xm,.cells [.int .i64 m])],[]⟩))
 |_=>none
theorem Bij(xm:Nat)(m:Int){l:List Nd}{p:Nd->Bool}(h:∀b∈l,CS 62 (.agg b.row1::[.ref 1 xm 0]) ⟨[(1,xm,.cells [.int .i64 m])],[]⟩ (.bool (p b))):ConOk Tryz.prog (BeZ xm m l p):=by
 intro k ds S A hh
 unfold BeZ at hh
 split at hh
 ·injection hh with hh;subst hh
  refine EJ fun b ⟨e,hb,hs⟩=>?_
  rw[hs]
  exact (h b hb).wk e
 ·cases hh
noncomputable def EDxx(xm:Nat)(m:Int)(l:List Nd)(p:Nd->Bool):Senv:={ EC (BeZ xm m l p) 19 2 [4,5,7,8,9,16] (fun _=>([],[])) with
 ann:=fun b _ S=>match b with
  |0=>some { slots:=[8],keep:=[0,1,6,7],α:=Nat,st:=fun i=>([.int .i64 i],S),inv:=fun i=>IdxG p l i,mu:=fun i=>l.length-i }
  |_=>none }
def Yh(a:Nat)(b:Int):Prop:=(SM a/\(SM b/\True)/\True)/\True
def Qgu:Arr:=DA
def VO:Nd:=Nd.mk Z0 Z0 Z0 [] Z0 Z0 Qgu [] [] Z0 Z0 Z0
def QL(a:List Nd)(b:Nat):Nd:=List.getD a (Int.toNat (↑b:Int)) VO
def Quo(a:Nat)(b:Int):St:=St.mk [(N1,a,AObj.cells [ZI b])] []
def Qup(a:List Nd):D:=D.sl 15 (LN a) (fun i=>Nd.row1 (List.getD a i VO)) Mode.any
theorem Dxx_ok(xm : Nat)(m : Int)(l : List Nd)(p : Nd -> Bool)(h : ∀b∈l, CS 62 (.agg b.row1::[.ref 1 xm 0]) ⟨[(1, xm, .cells [.int .i64 m])], []⟩ (.bool (p b)))(hl : l.length<=maxLen) :
  CS 92 [gsl 15 Nd.row1 l,.fn (.func 62) [] [.ref 1 xm 0]] ⟨[(1,xm,.cells [.int .i64 m])],[]⟩ (.int .i64 (CZ p l 0)):=by
 refine CS.of (Bf (A:=sS _ _ _) (x:=()) (E:=EDxx xm m l p) (eOk (Bij xm m h) rfl) Tryz.func92 rfl (by kernel_rfl) rfl (by simp[sS,EDxx,EC,E0]) ?_)
 refine Bk (T :=
  (∃(x:Nat),IdxG p l x/\(Z0=(↑x:Int)/\True)/\Yh xm m)/\∀(x:Nat),IdxG p l x->ifB (decide ((↑x:Int)<(LI l))) (Be (Z0<=(↑x:Int)/\(↑x:Int)<(LI l)) (∃(x_1:Nd),(isN x_1 [D.agg (Nd.rowE (QL l x)),D.ref N1 xm N0] [D.ref N1 xm N0]/\x_1∈l/\SM (Quo xm m))/\∀(y:Unit),True->ifB (p x_1) (True/\∃(y:Unit),True/\(↑x:Int)=CZ p l Z0/\Yh xm m) ((SM (Qup l)/\SM (D.fn (Fn.func (62:Nat)) [] [D.ref N1 xm N0])/\SM D.unk/\SM (ZI (LI l))/\True)/\∃(y:Nat),IdxG p l y/\LN l-y<LN l-x/\(IntKind.wrap IntKind.i64 ((↑x:Int)+Z1)=(↑y:Int)/\True)/\Yh xm m))) (True/\∃(y:Unit),True/\(-1:Int)=CZ p l Z0/\Yh xm m)) (by kernel_rfl) ?_
 delta DA GI LI LN N0 N1 N4 SI SM Z0 Z1 ZI Yh Qgu Quo Qup VO QL
 try simp only[<- dn]
 simp only[Int.toNat_natCast,Bh,Bc,decide_eq_true_eq,decide_eq_false_iff_not,true_and,and_true,exists_const]
 simp only[maxLen] at hl
 refine⟨⟨0,⟨Nat.zero_le _,by simp⟩,rfl⟩,fun i hh=>⟨fun hlt=>?_,fun hge=>(hh.done hge).symm⟩⟩
 have hlt':i<l.length:=by omega
 obtain ⟨s1,s2⟩:=hh.step hlt'
 have hm:l.getD i default∈l:=by rw[List.getD_eq_getElem?_getD,List.getElem?_eq_getElem hlt'];exact List.getElem_mem hlt'
 refine⟨⟨by omega,hlt⟩,l.getD i default,?_,fun _ _=>⟨fun e=>(s1 e).symm,fun e=>⟨i+1,s2 e,by omega,Bb (by omega) (by omega)⟩⟩⟩
 first
  |exact⟨Bi _,hm,rfl⟩
  |exact⟨Bi _,hm⟩
def BkD(xm:Nat)(m:Int)(l:List Nd)(p:Nd->Bool):Con:=fun k ds S=>match k with
 |92=>some (pA ds S (.int .i64 (CZ p l 0)) (wkL ds [gsl 15 Nd.row1 l,.fn (.func 62) [] [.ref 1 xm 0]]/\S=⟨[(1,xm,.cells [.int .i64 m])],[]⟩))
 |_=>none
noncomputable def EDxc(xm:Nat)(m:Int)(l:List Nd)(p:Nd->Bool):Senv:=EC (BkD xm m l p) 9 2 [4] (fun _=>([],[]))
def Qgy(a:List Nd)(b:Nat):List D:=[D.sl 15 (LN a) (fun i=>Nd.row1 (List.getD a i (Nd.mk Z0 Z0 Z0 [] Z0 Z0 DA [] [] Z0 Z0 Z0))) Mode.any,D.fn (Fn.func (62:Nat)) [] [D.ref N1 b N0]]
def Quq(a:Nat)(b:Int):St:=St.mk [(N1,a,AObj.cells [ZI b])] []
theorem Dxc_ok(xm : Nat)(m : Int)(l : List Nd)(p : Nd -> Bool)(h : ∀b∈l, CS 62 (.agg b.row1::[.ref 1 xm 0]) ⟨[(1, xm, .cells [.int .i64 m])], []⟩ (.bool (p b)))(hl : l.length<=maxLen) :
  CS 60 [gsl 15 Nd.row1 l,.fn (.func 62) [] [.ref 1 xm 0]] ⟨[(1,xm,.cells [.int .i64 m])],[]⟩ (.bool (l.any p)):=by
 refine CS.of (Bf (A:=sS _ _ _) (x:=()) (E:=EDxc xm m l p) (eOk ?_ rfl) Tryz.func60 rfl (by kernel_rfl) rfl (by simp[sS,EDxc,EC,E0]) ?_)
 ·intro k ds S A hh
  try unfold BkD at hh
  try dsimp only at hh
  split at hh
  ·injection hh with hh;subst hh
   refine Bv fun ⟨e,hs⟩=>?_
   rw[hs]
   exact (Dxx_ok xm m l p h hl).wk e
  ·cases hh
 refine Bk (T :=
  ∃(x:Unit),(wkL (Qgy l xm) (Qgy l xm)/\SM (Quq xm m))/\∀(y:Unit),True->True/\∃(y:Unit),True/\decide (Z0<=CZ p l Z0)=List.any l p/\(SM xm/\(SM m/\True)/\True)/\True) (by kernel_rfl) ?_
 delta DA LN N0 N1 SM Z0 ZI Qgy Quq
 simp only[true_and,and_true,exists_const,forall_const]
 first
  |exact⟨Bi _,Ec _ l 0 (Int.le_refl _)⟩
  |exact⟨⟨Bi _,rfl⟩,Ec _ l 0 (Int.le_refl _)⟩
def Bee  (l:List Nd)(p:Nd->Bool):Con:=fun k ds S=>match k with
 |97=>some (pE (β:=Nd) ds S (fun b=>.bool (p b)) (fun b=>isN b ds []/\b∈l/\S=⟨[],[]⟩))
 |_=>none
theorem Bil  {l:List Nd}{p:Nd->Bool}(h:∀b∈l,CS 97 (.agg b.row1::[]) ⟨[],[]⟩ (.bool (p b))):ConOk Tryz.prog (Bee  l p):=by
 intro k ds S A hh
 unfold Bee at hh
 split at hh
 ·injection hh with hh;subst hh
  refine EJ fun b ⟨e,hb,hs⟩=>?_
  rw[hs]
  exact (h b hb).wk e
 ·cases hh
noncomputable def ENxx  (l:List Nd)(p:Nd->Bool):Senv:={ EC (Bee  l p) 19 2 [4,5,7,8,9,16] (fun _=>([],[])) with
 ann:=fun b _ S=>match b with
  |0=>some { slots:=[8],keep:=[0,1,6,7],α:=Nat,st:=fun i=>([.int .i64 i],S),inv:=fun i=>IdxG p l i,mu:=fun i=>l.length-i }
  |_=>none }
def Qgz:Arr:=DA
def VP:Nd:=Nd.mk Z0 Z0 Z0 [] Z0 Z0 Qgz [] [] Z0 Z0 Z0
def QM(a:List Nd)(b:Nat):Nd:=List.getD a (Int.toNat (↑b:Int)) VP
def Qut(a:List Nd):D:=D.sl 15 (LN a) (fun i=>Nd.row1 (List.getD a i VP)) Mode.any
theorem Nxx_ok  (l : List Nd)(p : Nd -> Bool)(h : ∀b∈l, CS 97 (.agg b.row1::[]) ⟨[], []⟩ (.bool (p b)))(hl : l.length<=maxLen) :
  CS 92 [gsl 15 Nd.row1 l,.fn (.func 97) [] []] ⟨[],[]⟩ (.int .i64 (CZ p l 0)):=by
 refine CS.of (Bf (A:=sS _ _ _) (x:=()) (E:=ENxx  l p) (eOk (Bil  h) rfl) Tryz.func92 rfl (by kernel_rfl) rfl (by simp[sS,ENxx,EC,E0]) ?_)
 refine Bk (T :=
  (∃(x:Nat),IdxG p l x/\(Z0=(↑x:Int)/\True)/\True/\True)/\∀(x:Nat),IdxG p l x->ifB (decide ((↑x:Int)<(LI l))) (Be (Z0<=(↑x:Int)/\(↑x:Int)<(LI l)) (∃(x_1:Nd),(isN x_1 [D.agg (Nd.rowE (QM l x))] []/\x_1∈l/\SM (St.mk [] []))/\∀(y:Unit),True->ifB (p x_1) (RT ((↑x:Int)=CZ p l Z0)) ((SM (Qut l)/\SM (D.fn (Fn.func (97:Nat)) [] [])/\SM D.unk/\SM (ZI (LI l))/\True)/\∃(y:Nat),IdxG p l y/\LN l-y<LN l-x/\(IntKind.wrap IntKind.i64 ((↑x:Int)+Z1)=(↑y:Int)/\True)/\True/\True))) (RT ((-1:Int)=CZ p l Z0))) (by kernel_rfl) ?_
 delta DA GI LI LN N1 N4 SI SM Z0 Z1 ZI Qgz VP QM Qut RT
 try simp only[<- dn]
 simp only[Int.toNat_natCast,Bh,Bc,decide_eq_true_eq,decide_eq_false_iff_not,true_and,and_true,exists_const]
 simp only[maxLen] at hl
 refine⟨⟨0,⟨Nat.zero_le _,by simp⟩,rfl⟩,fun i hh=>⟨fun hlt=>?_,fun hge=>(hh.done hge).symm⟩⟩
 have hlt':i<l.length:=by omega
 obtain ⟨s1,s2⟩:=hh.step hlt'
 have hm:l.getD i default∈l:=by rw[List.getD_eq_getElem?_getD,List.getElem?_eq_getElem hlt'];exact List.getElem_mem hlt'
 refine⟨⟨by omega,hlt⟩,l.getD i default,?_,fun _ _=>⟨fun e=>(s1 e).symm,fun e=>⟨i+1,s2 e,by omega,Bb (by omega) (by omega)⟩⟩⟩
 first
  |exact⟨Bi _,hm,rfl⟩
  |exact⟨Bi _,hm⟩
def Bj6  (l:List Nd)(p:Nd->Bool):Con:=fun k ds S=>match k with
 |92=>some (pA ds S (.int .i64 (CZ p l 0)) (wkL ds [gsl 15 Nd.row1 l,.fn (.func 97) [] []]/\S=⟨[],[]⟩))
 |_=>none
noncomputable def ENxc  (l:List Nd)(p:Nd->Bool):Senv:=EC (Bj6  l p) 9 2 [4] (fun _=>([],[]))
def QgD(a:List Nd):List D:=[D.sl 15 (LN a) (fun i=>Nd.row1 (List.getD a i (Nd.mk Z0 Z0 Z0 [] Z0 Z0 DA [] [] Z0 Z0 Z0))) Mode.any,D.fn (Fn.func (97:Nat)) [] []]
theorem Nxc_ok  (l : List Nd)(p : Nd -> Bool)(h : ∀b∈l, CS 97 (.agg b.row1::[]) ⟨[], []⟩ (.bool (p b)))(hl : l.length<=maxLen) :
  CS 60 [gsl 15 Nd.row1 l,.fn (.func 97) [] []] ⟨[],[]⟩ (.bool (l.any p)):=by
 refine CS.of (Bf (A:=sS _ _ _) (x:=()) (E:=ENxc  l p) (eOk ?_ rfl) Tryz.func60 rfl (by kernel_rfl) rfl (by simp[sS,ENxc,EC,E0]) ?_)
 ·intro k ds S A hh
  try unfold Bj6 at hh
  try dsimp only at hh
  split at hh
  ·injection hh with hh;subst hh
   refine Bv fun ⟨e,hs⟩=>?_
   rw[hs]
   exact (Nxx_ok  l p h hl).wk e
  ·cases hh
 refine Bk (T :=
  ∃(x:Unit),(wkL (QgD l) (QgD l)/\SM (St.mk [] []))/\∀(y:Unit),True->RT (decide (Z0<=CZ p l Z0)=List.any l p)) (by kernel_rfl) ?_
 delta DA LN SM Z0 QgD RT
 simp only[true_and,and_true,exists_const,forall_const]
 first
  |exact⟨Bi _,Ec _ l 0 (Int.le_refl _)⟩
  |exact⟨⟨Bi _,rfl⟩,Ec _ l 0 (Int.le_refl _)⟩
def Bfh(xi:Nat)(xk:Nat)(q:Int)(l:List Nd)(p:Nd->Bool):Con:=fun k ds S=>match k with
 |101=>some (pE (β:=Nd) ds S (fun b=>.bool (p b)) (fun b=>isN b ds [.ref 0 xk 0,.ref 1 xi 0]/\b∈l/\S=⟨[(1,xi,.cells [.fn (.func 101) [] [.ref 0 xk 0,.ref 1 xi 0]]),(0,xk,.cells [.int .i64 q])],[]⟩))
 |_=>none
theorem Bhb(xi:Nat)(xk:Nat)(q:Int){l:List Nd}{p:Nd->Bool}(h:∀b∈l,CS 101 (.agg b.row1::[.ref 0 xk 0,.ref 1 xi 0]) ⟨[(1,xi,.cells [.fn (.func 101) [] [.ref 0 xk 0,.ref 1 xi 0]]),(0,xk,.cells [.int .i64 q])],[]⟩ (.bool (p b))):ConOk Tryz.prog (Bfh xi xk q l p):=by
 intro k ds S A hh
 unfold Bfh at hh
 split at hh
 ·injection hh with hh;subst hh
  refine EJ fun b ⟨e,hb,hs⟩=>?_
  rw[hs]
  exact (h b hb).wk e
 ·cases hh
noncomputable def EOxx(xi:Nat)(xk:Nat)(q:Int)(l:List Nd)(p:Nd->Bool):Senv:={ EC (Bfh xi xk q l p) 19 2 [4,5,7,8,9,16] (fun _=>([],[])) with
 ann:=fun b _ S=>match b with
  |0=>some { slots:=[8],keep:=[0,1,6,7],α:=Nat,st:=fun i=>([.int .i64 i],S),inv:=fun i=>IdxG p l i,mu:=fun i=>l.length-i }
  |_=>none }
def QaY(a b:Nat):List D:=[D.ref N0 a N0,D.ref N1 b N0]
def QgE(a b:Nat):D:=D.fn (Fn.func (101:Nat)) [] (QaY a b)
def QgF(a b:Nat):Prop:=SM (QgE a b)
def Yk(a b:Nat)(c:Int):Prop:=(SM a/\(QgF b a/\True)/\SM b/\(SM c/\True)/\True)/\True
def QgG:Arr:=DA
def VQ:Nd:=Nd.mk Z0 Z0 Z0 [] Z0 Z0 QgG [] [] Z0 Z0 Z0
def QN(a:List Nd)(b:Nat):Nd:=List.getD a (Int.toNat (↑b:Int)) VQ
def Quw(a b:Nat)(c:Int):St:=St.mk [(N1,a,AObj.cells [QgE b a]),(N0,b,AObj.cells [ZI c])] []
def Qux(a:List Nd):D:=D.sl 15 (LN a) (fun i=>Nd.row1 (List.getD a i VQ)) Mode.any
theorem Oxx_ok(xi : Nat)(xk : Nat)(q : Int)(l : List Nd)(p : Nd -> Bool)(h : ∀b∈l, CS 101 (.agg b.row1::[.ref 0 xk 0, .ref 1 xi 0]) ⟨[(1, xi, .cells [.fn (.func 101) [] [.ref 0 xk 0, .ref 1 xi 0]]), (0, xk, .cells [.int .i64 q])], []⟩ (.bool (p b)))(hl : l.length<=maxLen) :
  CS 92 [gsl 15 Nd.row1 l,.fn (.func 101) [] [.ref 0 xk 0,.ref 1 xi 0]] ⟨[(1,xi,.cells [.fn (.func 101) [] [.ref 0 xk 0,.ref 1 xi 0]]),(0,xk,.cells [.int .i64 q])],[]⟩ (.int .i64 (CZ p l 0)):=by
 refine CS.of (Bf (A:=sS _ _ _) (x:=()) (E:=EOxx xi xk q l p) (eOk (Bhb xi xk q h) rfl) Tryz.func92 rfl (by kernel_rfl) rfl (by simp[sS,EOxx,EC,E0]) ?_)
 refine Bk (T :=
  (∃(x:Nat),IdxG p l x/\(Z0=(↑x:Int)/\True)/\Yk xi xk q)/\∀(x:Nat),IdxG p l x->ifB (decide ((↑x:Int)<(LI l))) (Be (Z0<=(↑x:Int)/\(↑x:Int)<(LI l)) (∃(x_1:Nd),(isN x_1 (D.agg (Nd.rowE (QN l x))::QaY xk xi) (QaY xk xi)/\x_1∈l/\SM (Quw xi xk q))/\∀(y:Unit),True->ifB (p x_1) (True/\∃(y:Unit),True/\(↑x:Int)=CZ p l Z0/\Yk xi xk q) ((SM (Qux l)/\QgF xk xi/\SM D.unk/\SM (ZI (LI l))/\True)/\∃(y:Nat),IdxG p l y/\LN l-y<LN l-x/\(IntKind.wrap IntKind.i64 ((↑x:Int)+Z1)=(↑y:Int)/\True)/\Yk xi xk q))) (True/\∃(y:Unit),True/\(-1:Int)=CZ p l Z0/\Yk xi xk q)) (by kernel_rfl) ?_
 delta DA GI LI LN N0 N1 N4 SI SM Z0 Z1 ZI QaY QgE QgF Yk QgG VQ QN Quw Qux
 try simp only[<- dn]
 simp only[Int.toNat_natCast,Bh,Bc,decide_eq_true_eq,decide_eq_false_iff_not,true_and,and_true,exists_const]
 simp only[maxLen] at hl
 refine⟨⟨0,⟨Nat.zero_le _,by simp⟩,rfl⟩,fun i hh=>⟨fun hlt=>?_,fun hge=>(hh.done hge).symm⟩⟩
 have hlt':i<l.length:=by omega
 obtain ⟨s1,s2⟩:=hh.step hlt'
 have hm:l.getD i default∈l:=by rw[List.getD_eq_getElem?_getD,List.getElem?_eq_getElem hlt'];exact List.getElem_mem hlt'
 refine⟨⟨by omega,hlt⟩,l.getD i default,?_,fun _ _=>⟨fun e=>(s1 e).symm,fun e=>⟨i+1,s2 e,by omega,Bb (by omega) (by omega)⟩⟩⟩
 first
  |exact⟨Bi _,hm,rfl⟩
  |exact⟨Bi _,hm⟩
def BlL(xi:Nat)(xk:Nat)(q:Int)(l:List Nd)(p:Nd->Bool):Con:=fun k ds S=>match k with
 |92=>some (pA ds S (.int .i64 (CZ p l 0)) (wkL ds [gsl 15 Nd.row1 l,.fn (.func 101) [] [.ref 0 xk 0,.ref 1 xi 0]]/\S=⟨[(1,xi,.cells [.fn (.func 101) [] [.ref 0 xk 0,.ref 1 xi 0]]),(0,xk,.cells [.int .i64 q])],[]⟩))
 |_=>none
noncomputable def EOxc(xi:Nat)(xk:Nat)(q:Int)(l:List Nd)(p:Nd->Bool):Senv:=EC (BlL xi xk q l p) 9 2 [4] (fun _=>([],[]))
def QgK(a b:Nat):D:=D.fn (Fn.func (101:Nat)) [] [D.ref N0 a N0,D.ref N1 b N0]
def QgL(a b:Nat):List D:=[QgK a b]
def QgM(a:List Nd)(b c:Nat):List D:=D.sl 15 (LN a) (fun i=>Nd.row1 (List.getD a i (Nd.mk Z0 Z0 Z0 [] Z0 Z0 DA [] [] Z0 Z0 Z0))) Mode.any::QgL b c
def Quy(a b:Nat)(c:Int):St:=St.mk [(N1,a,AObj.cells (QgL b a)),(N0,b,AObj.cells [ZI c])] []
theorem Oxc_ok(xi : Nat)(xk : Nat)(q : Int)(l : List Nd)(p : Nd -> Bool)(h : ∀b∈l, CS 101 (.agg b.row1::[.ref 0 xk 0, .ref 1 xi 0]) ⟨[(1, xi, .cells [.fn (.func 101) [] [.ref 0 xk 0, .ref 1 xi 0]]), (0, xk, .cells [.int .i64 q])], []⟩ (.bool (p b)))(hl : l.length<=maxLen) :
  CS 60 [gsl 15 Nd.row1 l,.fn (.func 101) [] [.ref 0 xk 0,.ref 1 xi 0]] ⟨[(1,xi,.cells [.fn (.func 101) [] [.ref 0 xk 0,.ref 1 xi 0]]),(0,xk,.cells [.int .i64 q])],[]⟩ (.bool (l.any p)):=by
 refine CS.of (Bf (A:=sS _ _ _) (x:=()) (E:=EOxc xi xk q l p) (eOk ?_ rfl) Tryz.func60 rfl (by kernel_rfl) rfl (by simp[sS,EOxc,EC,E0]) ?_)
 ·intro k ds S A hh
  try unfold BlL at hh
  try dsimp only at hh
  split at hh
  ·injection hh with hh;subst hh
   refine Bv fun ⟨e,hs⟩=>?_
   rw[hs]
   exact (Oxx_ok xi xk q l p h hl).wk e
  ·cases hh
 refine Bk (T :=
  ∃(x:Unit),(wkL (QgM l xk xi) (QgM l xk xi)/\SM (Quy xi xk q))/\∀(y:Unit),True->True/\∃(y:Unit),True/\decide (Z0<=CZ p l Z0)=List.any l p/\(SM xi/\(SM (QgK xk xi)/\True)/\SM xk/\(SM q/\True)/\True)/\True) (by kernel_rfl) ?_
 delta DA LN N0 N1 SM Z0 ZI QgK QgL QgM Quy
 simp only[true_and,and_true,exists_const,forall_const]
 first
  |exact⟨Bi _,Ec _ l 0 (Int.le_refl _)⟩
  |exact⟨⟨Bi _,rfl⟩,Ec _ l 0 (Int.le_refl _)⟩
def Bfo(xi:Nat)(xk:Nat)(q:Int)(l:List Sm)(p:Sm->Bool):Con:=fun k ds S=>match k with
 |103=>some (pE (β:=Sm) ds S (fun b=>.bool (p b)) (fun b=>isS b ds [.ref 1 xi 0]/\b∈l/\S=⟨[(1,xi,.cells [.fn (.func 101) [] [.ref 0 xk 0,.ref 1 xi 0]]),(0,xk,.cells [.int .i64 q])],[]⟩))
 |_=>none
theorem Biv(xi:Nat)(xk:Nat)(q:Int){l:List Sm}{p:Sm->Bool}(h:∀b∈l,CS 103 (.agg b.row1::[.ref 1 xi 0]) ⟨[(1,xi,.cells [.fn (.func 101) [] [.ref 0 xk 0,.ref 1 xi 0]]),(0,xk,.cells [.int .i64 q])],[]⟩ (.bool (p b))):ConOk Tryz.prog (Bfo xi xk q l p):=by
 intro k ds S A hh
 unfold Bfo at hh
 split at hh
 ·injection hh with hh;subst hh
  refine EJ fun b ⟨e,hb,hs⟩=>?_
  rw[hs]
  exact (h b hb).wk e
 ·cases hh
noncomputable def EPxx(xi:Nat)(xk:Nat)(q:Int)(l:List Sm)(p:Sm->Bool):Senv:={ EC (Bfo xi xk q l p) 19 2 [4,5,7,8,9,16] (fun _=>([],[])) with
 ann:=fun b _ S=>match b with
  |0=>some { slots:=[8],keep:=[0,1,6,7],α:=Nat,st:=fun i=>([.int .i64 i],S),inv:=fun i=>IdxG p l i,mu:=fun i=>l.length-i }
  |_=>none }
def QgN(a b:Nat):D:=D.fn (Fn.func (101:Nat)) [] [D.ref N0 a N0,D.ref N1 b N0]
def Ym(a b:Nat)(c:Int):Prop:=(SM a/\(SM (QgN b a)/\True)/\SM b/\(SM c/\True)/\True)/\True
def QaZ:Arr:=DA
def Yn:Nd:=Nd.mk Z0 Z0 Z0 [] Z0 Z0 QaZ [] [] Z0 Z0 Z0
def Yo:Sm:=Sm.mk Z0 Z0 [] Z0 Yn Yn
def JX(a:List Sm)(b:Nat):Sm:=List.getD a (Int.toNat (↑b:Int)) Yo
def QuD(a b:Nat)(c:Int):St:=St.mk [(N1,a,AObj.cells [QgN b a]),(N0,b,AObj.cells [ZI c])] []
def QuE(a:List Sm):D:=D.sl 34 (LN a) (fun i=>Sm.row1 (List.getD a i Yo)) Mode.any
theorem Pxx_ok(xi : Nat)(xk : Nat)(q : Int)(l : List Sm)(p : Sm -> Bool)(h : ∀b∈l, CS 103 (.agg b.row1::[.ref 1 xi 0]) ⟨[(1, xi, .cells [.fn (.func 101) [] [.ref 0 xk 0, .ref 1 xi 0]]), (0, xk, .cells [.int .i64 q])], []⟩ (.bool (p b)))(hl : l.length<=maxLen) :
  CS 126 [gsl 34 Sm.row1 l,.fn (.func 103) [] [.ref 1 xi 0]] ⟨[(1,xi,.cells [.fn (.func 101) [] [.ref 0 xk 0,.ref 1 xi 0]]),(0,xk,.cells [.int .i64 q])],[]⟩ (.int .i64 (CZ p l 0)):=by
 refine CS.of (Bf (A:=sS _ _ _) (x:=()) (E:=EPxx xi xk q l p) (eOk (Biv xi xk q h) rfl) Tryz.func126 rfl (by kernel_rfl) rfl (by simp[sS,EPxx,EC,E0]) ?_)
 refine Bk (T :=
  (∃(x:Nat),IdxG p l x/\(Z0=(↑x:Int)/\True)/\Ym xi xk q)/\∀(x:Nat),IdxG p l x->ifB (decide ((↑x:Int)<(LI l))) (Be (Z0<=(↑x:Int)/\(↑x:Int)<(LI l)) (∃(x_1:Sm),(isS x_1 [D.agg (Sm.row1 (JX l x)),D.ref N1 xi N0] [D.ref N1 xi N0]/\x_1∈l/\SM (QuD xi xk q))/\∀(y:Unit),True->ifB (p x_1) (True/\∃(y:Unit),True/\(↑x:Int)=CZ p l Z0/\Ym xi xk q) ((SM (QuE l)/\SM (D.fn (Fn.func (103:Nat)) [] [D.ref N1 xi N0])/\SM D.unk/\SM (ZI (LI l))/\True)/\∃(y:Nat),IdxG p l y/\LN l-y<LN l-x/\(IntKind.wrap IntKind.i64 ((↑x:Int)+Z1)=(↑y:Int)/\True)/\Ym xi xk q))) (True/\∃(y:Unit),True/\(-1:Int)=CZ p l Z0/\Ym xi xk q)) (by kernel_rfl) ?_
 delta DA GI LI LN N0 N1 N4 SI SM Z0 Z1 ZI QgN Ym QaZ Yn Yo JX QuD QuE
 try simp only[<- dn]
 simp only[Int.toNat_natCast,Bh,Bc,decide_eq_true_eq,decide_eq_false_iff_not,true_and,and_true,exists_const]
 simp only[maxLen] at hl
 refine⟨⟨0,⟨Nat.zero_le _,by simp⟩,rfl⟩,fun i hh=>⟨fun hlt=>?_,fun hge=>(hh.done hge).symm⟩⟩
 have hlt':i<l.length:=by omega
 obtain ⟨s1,s2⟩:=hh.step hlt'
 have hm:l.getD i default∈l:=by rw[List.getD_eq_getElem?_getD,List.getElem?_eq_getElem hlt'];exact List.getElem_mem hlt'
 refine⟨⟨by omega,hlt⟩,l.getD i default,?_,fun _ _=>⟨fun e=>(s1 e).symm,fun e=>⟨i+1,s2 e,by omega,Bb (by omega) (by omega)⟩⟩⟩
 first
  |exact⟨Bi _,hm,rfl⟩
  |exact⟨Bi _,hm⟩
def Bls(xi:Nat)(xk:Nat)(q:Int)(l:List Sm)(p:Sm->Bool):Con:=fun k ds S=>match k with
 |126=>some (pA ds S (.int .i64 (CZ p l 0)) (wkL ds [gsl 34 Sm.row1 l,.fn (.func 103) [] [.ref 1 xi 0]]/\S=⟨[(1,xi,.cells [.fn (.func 101) [] [.ref 0 xk 0,.ref 1 xi 0]]),(0,xk,.cells [.int .i64 q])],[]⟩))
 |_=>none
noncomputable def EPxc(xi:Nat)(xk:Nat)(q:Int)(l:List Sm)(p:Sm->Bool):Senv:=EC (Bls xi xk q l p) 9 2 [4] (fun _=>([],[]))
def QgU:Nd:=Nd.mk Z0 Z0 Z0 [] Z0 Z0 DA [] [] Z0 Z0 Z0
def QgV(a:List Sm)(b:Nat):List D:=[D.sl 34 (LN a) (fun i=>Sm.row1 (List.getD a i (Sm.mk Z0 Z0 [] Z0 QgU QgU))) Mode.any,D.fn (Fn.func (103:Nat)) [] [D.ref N1 b N0]]
def QgW(a b:Nat):D:=D.fn (Fn.func (101:Nat)) [] [D.ref N0 a N0,D.ref N1 b N0]
def QuF(a b:Nat)(c:Int):St:=St.mk [(N1,a,AObj.cells [QgW b a]),(N0,b,AObj.cells [ZI c])] []
theorem Pxc_ok(xi : Nat)(xk : Nat)(q : Int)(l : List Sm)(p : Sm -> Bool)(h : ∀b∈l, CS 103 (.agg b.row1::[.ref 1 xi 0]) ⟨[(1, xi, .cells [.fn (.func 101) [] [.ref 0 xk 0, .ref 1 xi 0]]), (0, xk, .cells [.int .i64 q])], []⟩ (.bool (p b)))(hl : l.length<=maxLen) :
  CS 102 [gsl 34 Sm.row1 l,.fn (.func 103) [] [.ref 1 xi 0]] ⟨[(1,xi,.cells [.fn (.func 101) [] [.ref 0 xk 0,.ref 1 xi 0]]),(0,xk,.cells [.int .i64 q])],[]⟩ (.bool (l.any p)):=by
 refine CS.of (Bf (A:=sS _ _ _) (x:=()) (E:=EPxc xi xk q l p) (eOk ?_ rfl) Tryz.func102 rfl (by kernel_rfl) rfl (by simp[sS,EPxc,EC,E0]) ?_)
 ·intro k ds S A hh
  try unfold Bls at hh
  try dsimp only at hh
  split at hh
  ·injection hh with hh;subst hh
   refine Bv fun ⟨e,hs⟩=>?_
   rw[hs]
   exact (Pxx_ok xi xk q l p h hl).wk e
  ·cases hh
 refine Bk (T :=
  ∃(x:Unit),(wkL (QgV l xi) (QgV l xi)/\SM (QuF xi xk q))/\∀(y:Unit),True->True/\∃(y:Unit),True/\decide (Z0<=CZ p l Z0)=List.any l p/\(SM xi/\(SM (QgW xk xi)/\True)/\SM xk/\(SM q/\True)/\True)/\True) (by kernel_rfl) ?_
 delta DA LN N0 N1 SM Z0 ZI QgU QgV QgW QuF
 simp only[true_and,and_true,exists_const,forall_const]
 first
  |exact⟨Bi _,Ec _ l 0 (Int.le_refl _)⟩
  |exact⟨⟨Bi _,rfl⟩,Ec _ l 0 (Int.le_refl _)⟩
theorem IB{n b:Nd}(h:b∈BH n):szN b<szN n:=by
 have:=BgS h
 rw[Tz n]
 omega
theorem Tw{n b:Nd}(h:n.sm)(hb:b∈BH n):b.sm:=by
 cases n with
 |mk kd at_ cl tx pr op va ki bo de sl ss =>
  simp only[Nd.sm] at h
  obtain ⟨_,_,h1,h2⟩:=h
  rcases List.mem_append.1 hb with hb | hb
  ·exact (TO _).1 h1 b hb
  ·obtain ⟨s,hs,hb⟩:=List.mem_flatMap.1 hb
   have h3:=(MT _).1 h2 s hs
   cases s with
   |mk k2 a2 nm s2 te nd =>
    simp only[Sm.sm] at h3
    unfold Bn at hb
    split at hb
    ·rcases List.mem_cons.1 hb with rfl | hb
     ·exact h3.2.1
     ·rcases List.mem_cons.1 hb with rfl | hb
      ·exact h3.2.2
      ·cases hb
    ·rcases List.mem_cons.1 hb with rfl | hb
     ·exact h3.2.2
     ·cases hb
theorem It{n:Nd}(h:n.sm):n.tx.length<=By/\n.ki.length<=By/\n.bo.length<=By:=by
 cases n with
 |mk kd at_ cl tx pr op va ki bo de sl ss =>
  simp only[Nd.sm] at h
  exact h.1
theorem BcC{n:Nd}(h:n.sm):(BH n).length<=maxLen:=by
 obtain ⟨_,h1,h2⟩:=It h
 have:=BhH n
 unfold By at h1 h2
 unfold maxLen
 omega
def Cm(n:Nd)(m:Int):Bool:=decide (m<(dpN n:Int))
theorem Ry(m:Int):∀l:List Nd,(l.any fun b=>Cm b m)=true↔(l≠[]/\m<(dpL l:Int))
 | []=>by simp
 | [x]=>by
  simp only[List.any_cons,List.any_nil,Bool.or_false,Cm,decide_eq_true_eq,dpL]
  have:=BgW x
  constructor
  ·intro h;exact⟨by simp,by omega⟩
  ·rintro ⟨_,h⟩;omega
 |x::y::r=>by
  have ih:=Ry m (y::r)
  have e:dpL (x::y::r)=max (dpN x) (dpL (y::r)):=by simp only[dpL]
  rw[List.any_cons,Bool.or_eq_true,ih,e]
  simp only[Cm,decide_eq_true_eq,ne_eq,reduceCtorEq,not_false_eq_true,true_and]
  omega
theorem Bnc(n:Nd)(m:Int):Cm n m=(decide (m<1)||(BH n).any fun b=>Cm b (m-1)):=by
 rw[Bool.eq_iff_iff,Bool.or_eq_true,Ry,decide_eq_true_eq]
 unfold Cm
 rw[decide_eq_true_eq,Bae n]
 cases hi:BH n with
 |nil =>
  simp only[dpL,ne_eq,not_true_eq_false,false_and,or_false]
  omega
 |cons x r =>
  simp only[ne_eq,reduceCtorEq,not_false_eq_true,true_and]
  have:=BgW x
  have:dpN x<=dpL (x::r):=Bgz (by simp)
  omega
def Bn8(b:Nd)(m:Int):Con:=fun k ds S=>match k with
 |34=>some (pA ds S (.bool (Cm b m)) (isN b ds [.int .i64 m]))
 |_=>none
noncomputable def Ed1(b:Nd)(m:Int):Senv:=EC (Bn8 b (m-1)) 8 4 [] (fun _=>([],[]))
theorem BqE(b : Nd)(m : Int)(hm : Bs m)(h1 : 1<=m)(h : CD 34 [.agg b.row1, .int .i64 (m-1)] (.bool (Cm b (m-1))))(xm : Nat) :
  CS 62 [.agg b.row1,.ref 1 xm 0] ⟨[(1,xm,.cells [.int .i64 m])],[]⟩ (.bool (Cm b (m-1))):=by
 refine CS.of (Bf (A:=sS _ _ _) (x:=()) (E:=Ed1 b m) (eOk ?_ rfl) Tryz.func62 rfl (by kernel_rfl) rfl (by simp[sS,Ed1,EC,E0]) ?_)
 ·intro k ds S A hh
  try unfold Bn8 at hh
  try dsimp only at hh
  split at hh
  ·injection hh with hh;subst hh
   exact Bv fun e=>CD.at_ (h.wk e) _
  ·cases hh
 refine Bk (T :=
  ∀(x:Nat),xm≠x/\True->SM x/\SM xm/\∃(x:Unit),isN b [D.agg (Nd.rowE b),ZI (IntKind.wrap IntKind.i64 (m-Z1))] [ZI (m-Z1)]/\∀(y:Unit),True->True/\∃(y:Unit),True/\SM (Cm b (m-Z1))/\(SM xm/\(SM m/\True)/\True)/\True) (by kernel_rfl) ?_
 delta DA GI LN N1 N4 SI SM Z0 Z1 ZI
 simp only[eq_self,ne_eq,implies_true,true_and,and_true,exists_const]
 have w:IntKind.i64.wrap (m-1)=m-1:=by unfold Bs at hm;exact Bb (by omega) (by omega)
 rw[w]
 exact fun _ _=>BB _ _
def Bob(n:Nd)(m:Int):Con:=fun k ds S=>match k with
 |61=>some (pA ds S (gsl 15 Nd.row1 (BH n)) (isN2 n ds []))
 |60=>match ds with
  | [_,.fn _ _ [.ref _ xm _]]=>some (pA ds S (.bool ((BH n).any fun b=>Cm b (m-1))) (1<=m/\wkL ds [gsl 15 Nd.row1 (BH n),.fn (.func 62) [] [.ref 1 xm 0]]/\∃F,S=St.add ⟨[(1,xm,.cells [.int .i64 m])],[]⟩ F))
  |_=>none
 |_=>none
noncomputable def Ede(n:Nd)(m:Int):Senv:=EC (Bob n m) 13 5 [] (fun _=>([],[]))
def Qg0:Arr:=DA
def Yt:Nd:=Nd.mk Z0 Z0 Z0 [] Z0 Z0 Qg0 [] [] Z0 Z0 Z0
def Qg1(a:Nd):List D:=(Nd.row2 a)
def Qa1(a:Nd):List Nd:=BH a
def Qg2(a:Nd):D:=D.sl 15 (LN (Qa1 a)) (fun i=>Nd.row1 (List.getD (Qa1 a) i Yt)) Mode.any
theorem BmJ(n : Nd)(m : Int)(hn : n.sm)(hm : Bs m)(h : 1<=m -> ∀b∈BH n, CD 34 [.agg b.row1, .int .i64 (m-1)] (.bool (Cm b (m-1)))) :
  CD 34 [.agg n.row2,.int .i64 m] (.bool (Cm n m)):=by
 obtain ⟨_,k1,k2⟩:=It hn
 refine Bf (A:=sC _ _) (x:=()) (E:=Ede n m) (eOk ?_ rfl) Tryz.func34 rfl (by kernel_rfl) rfl (by simp[sC,Ede,EC,E0]) ?_
 ·intro k ds S A hh
  try unfold Bob at hh
  try dsimp only at hh
  split at hh
  ·injection hh with hh;subst hh
   exact Bv fun e=>CD.at_ (CD.wk (Blz n k1 k2) e) _
  ·split at hh
   ·injection hh with hh;subst hh
    refine Bv fun ⟨h1,e,F,hS⟩=>?_
    rw[hS]
    exact CS.frame F (CS.wk (Dxc_ok _ m (BH n) (fun b=>Cm b (m-1)) (fun b hb=>BqE b m hm h1 (h h1 b hb) _) (BcC hn)) e)
   ·cases hh
  ·cases hh
 refine Bk (T :=
  ∀(x:Nat),True->∀(x_1:Nat),x≠x_1/\True->SM x_1/\ifB (decide (m<Z1)) (RT (true=Cm n m)) (SM x/\∃(x_2:Unit),isN2 n [D.agg (Qg1 n)] []/\∀(y:Unit),True->∃(x_3:Unit),(Z1<=m/\wkL [Qg2 n,D.fn (Fn.func (62:Nat)) [] [D.ref (max (N0+N1) N0) x_1 N0]] [Qg2 n,D.fn (Fn.func (62:Nat)) [] [D.ref N1 x_1 N0]]/\∃(F:St),St.mk [(max (N0+N1) N0,x_1,AObj.cells [ZI m]),(N0,x,AObj.cells (Qg1 n))] []=St.mk ((N1,x_1,AObj.cells [ZI m])::List.append [] (St.objs F)) ([]++St.toks F))/\∀(y:Unit),True->RT ((List.any (Qa1 n) fun (b:Nd)=>Cm b (m-Z1))=Cm n m))) (by kernel_rfl) ?_
 delta DA GI LN N0 N1 N4 SI SM Z0 Z1 ZI Qg0 Yt Qg1 Qa1 Qg2 RT
 simp only[eq_self,ne_eq,Bh,decide_eq_true_eq,decide_eq_false_iff_not,true_and,and_true,exists_const,forall_const]
 rw[Bnc]
 exact fun x x1 _=>⟨fun h=>by simp[h],fun h=>⟨Mg n _,⟨by omega,Bi _,⟨⟨[_],[]⟩,rfl⟩⟩,by simp[h]⟩⟩
theorem BjX(n:Nd)(m:Int)(hn:n.sm)(hm:Bs m):CD 34 [.agg n.row2,.int .i64 m] (.bool (Cm n m)):=by
 refine BmJ n m hn hm fun h1 b hb=>CD.down (BjX b (m-1) (Tw hn hb) ?_)
 unfold Bs at hm ⊢
 omega
termination_by szN n
decreasing_by exact IB hb
def Bb9(xi xk:Nat)(q:Int):St:=⟨[(1,xi,.cells [.fn (.func 101) [] [.ref 0 xk 0,.ref 1 xi 0]]),(0,xk,.cells [.int .i64 q])],[]⟩
theorem GC{n b:Nd}(h:b∈n.ki):b∈BH n:=List.mem_append.2 (.inl h)
def BgG(l:List Nd)(xi xk:Nat)(q:Int):Con:=fun k ds S=>match k with
 |33=>some (pE (β:=Sm) ds S (fun s=>gsl 15 Nd.row1 (Bn s)) (fun s=>isS s ds []))
 |60=>some (pA ds S (.bool (l.any (IA q))) (wkL ds [gsl 15 Nd.row1 l,.fn (.func 101) [] [.ref 0 xk 0,.ref 1 xi 0]]/\∃o,S=⟨o::(Bb9 xi xk q).objs,[]⟩))
 |_=>none
theorem BdN{l:List Nd}{xi xk:Nat}{q:Int}(hn:l.length<=maxLen)(h:∀b∈l,CS 101 [.agg b.row1,.ref 0 xk 0,.ref 1 xi 0] (Bb9 xi xk q) (.bool (IA q b))):ConOk Tryz.prog (BgG l xi xk q):=by
 intro k ds S A hh
 unfold BgG at hh
 split at hh
 ·injection hh with hh;subst hh
  exact EJ fun s e=>CD.at_ (CD.wk (BiA s) e) _
 ·injection hh with hh;subst hh
  refine Bv fun ⟨e,o,hS⟩=>?_
  rw[hS]
  exact CS.front o (CS.wk (Oxc_ok xi xk q l (IA q) h hn) e)
 ·cases hh
noncomputable def Eo1(l:List Nd)(xi xk:Nat)(q:Int):Senv:=EC (BgG l xi xk q) 20 5 [] (fun _=>([],[]))
def Qa2(a:Nd):Int:=Nd.kd a
def Qg3(a b:Nat):D:=D.fn (Fn.func (101:Nat)) [] [D.ref N0 a N0,D.ref N1 b N0]
def Qa3(a b:Nat)(c:Int):Prop:=(SM a/\(SM (Qg3 b a)/\True)/\SM b/\(SM c/\True)/\True)/\True
def Qa4(a:Nd):List Nd:=Nd.ki a
def Qg4:Arr:=DA
def Qa5:Nd:=Nd.mk Z0 Z0 Z0 [] Z0 Z0 Qg4 [] [] Z0 Z0 Z0
def Qg5(a:Nd):D:=D.sl 15 (LN (Qa4 a)) (fun i=>Nd.row1 (List.getD (Qa4 a) i Qa5)) Mode.any
def Qg6(a b:Nat):List D:=[Qg3 a b]
def Qg7(a:Nd)(b c:Nat):List D:=Qg5 a::Qg6 b c
def Qg9(a b:Nat)(c:Int):List (Nat×Nat×AObj):=[(N1,a,AObj.cells (Qg6 b a)),(N0,b,AObj.cells [ZI c])]
theorem BmZ(n : Nd)(xi xk : Nat)(q : Int)(hn : n.ki.length<=maxLen)(h : ∀b∈n.ki, CS 101 [.agg b.row1, .ref 0 xk 0, .ref 1 xi 0] (Bb9 xi xk q) (.bool (IA q b))) :
  CS 101 [.agg n.row2,.ref 0 xk 0,.ref 1 xi 0] (Bb9 xi xk q) (.bool (IA q n)):=by
 refine CS.of (Bf (A:=sS _ _ _) (x:=()) (E:=Eo1 n.ki xi xk q) (eOk (BdN hn h) rfl) Tryz.func101 rfl (by kernel_rfl) rfl (by simp[sS,Eo1,EC,E0]) ?_)
 refine Bk (T :=
  ∀(x:Nat),xi≠x/\xk≠x/\True->SM x/\SM xk/\ifB (Qa2 n==q) (True/\∃(y:Unit),True/\true=IA q n/\Qa3 xi xk q) (SM x/\ifB (Qa2 n != (10:Int)) (SM x/\SM xi/\∃(x_1:Unit),(wkL (Qg7 n xk xi) (Qg7 n xk xi)/\∃(o:Nat×Nat×AObj),St.mk ((N2,x,AObj.cells (Nd.row2 n))::Qg9 xi xk q) []=St.mk (o::Qg9 xi xk q) [])/\∀(y:Unit),True->True/\∃(y:Unit),True/\List.any (Qa4 n) (IA q)=IA q n/\Qa3 xi xk q) (True/\∃(y:Unit),True/\false=IA q n/\Qa3 xi xk q))) (by kernel_rfl) ?_
 delta DA GI LN N0 N1 N2 N4 SI SM Z0 ZI Qa2 Qg3 Qg9 Qa3 Qa4 Qg4 Qa5 Qg5 Qg6 Qg7
 try simp only[<- dm]
 try simp only[<- dn]
 simp only[ne_eq,Bh,true_and,and_true,beq_iff_eq,bne_iff_ne,bne_eq_false_iff_eq,beq_eq_false_iff_ne,exists_const,forall_const,Prod.exists]
 have e:=BmM q n
 refine fun x _=>⟨fun h=>?_,fun h=>⟨fun h2=>⟨⟨Bi _,_,_,_,rfl⟩,?_⟩,fun h2=>?_⟩⟩
 ·rw[e,h];simp
 ·have h3:(n.kd==q)=false:=by simpa using h
  have h4:(n.kd != 10)=true:=by simpa using h2
  rw[e,h3,h4];simp
 ·have h3:(n.kd==q)=false:=by simpa using h
  rw[e,h3,h2];simp
theorem Bog(n:Nd)(xi xk:Nat)(q:Int)(hn:n.sm):CS 101 [.agg n.row2,.ref 0 xk 0,.ref 1 xi 0] (Bb9 xi xk q) (.bool (IA q n)) :=
 BmZ n xi xk q (I1 (It hn).2.1) fun b hb=>CS.wk (Bog b xi xk q (Tw hn (GC hb))) (by simp only[wkL,wkD];exact⟨TJ _,by simp[Bg,Ba],by simp[Bg,Ba],trivial⟩)
termination_by szN n
decreasing_by exact IB (GC hb)
theorem Bpk(n:Nd)(xi xk:Nat)(q:Int)(hn:n.sm):CS 101 [.agg n.row1,.ref 0 xk 0,.ref 1 xi 0] (Bb9 xi xk q) (.bool (IA q n)) :=
 CS.wk (Bog n xi xk q hn) (by simp only[wkL,wkD];exact⟨TJ _,by simp[Bg,Ba],by simp[Bg,Ba],trivial⟩)
theorem Rb{s:Sm}(h:s.sm):∀b∈Bn s,b.sm:=by
 cases s with
 |mk kd at_ nm sl te nd =>
  simp only[Sm.sm] at h
  intro b hb
  unfold Bn at hb
  split at hb
  ·rcases List.mem_cons.1 hb with rfl | hb
   ·exact h.2.1
   ·rcases List.mem_cons.1 hb with rfl | hb
    ·exact h.2.2
    ·cases hb
  ·rcases List.mem_cons.1 hb with rfl | hb
   ·exact h.2.2
   ·cases hb
noncomputable def Eo2(s:Sm)(xi xk:Nat)(q:Int):Senv:=EC (BgG (Bn s) xi xk q) 8 4 [] (fun id=>match id with | 1=>([0,2,1,3,4],[1,3]) | _=>([],[]))
def Qa6:Arr:=DA
def VR:Nd:=Nd.mk Z0 Z0 Z0 [] Z0 Z0 Qa6 [] [] Z0 Z0 Z0
def Qhh(a:Sm):List D:=(Sm.row1 a)
def Qhi(a b:Nat):D:=D.fn (Fn.func (101:Nat)) [] [D.ref N0 a N0,D.ref N1 b N0]
def Qhj(a b:Nat):Prop:=SM (Qhi a b)
def Qa7(a:Sm):List Nd:=Bn a
def Qhk(a b:Nat):List D:=[Qhi a b]
def Qhl(a:Sm)(b c:Nat):List D:=D.sl 15 (LN (Qa7 a)) (fun i=>Nd.row1 (List.getD (Qa7 a) i VR)) Mode.any::Qhk b c
def Qhm(a b:Nat)(c:Int):List (Nat×Nat×AObj):=[(N1,a,AObj.cells (Qhk b a)),(N0,b,AObj.cells [ZI c])]
def QuQ(a:Sm)(b:Int):Bool:=List.any (Qa7 a) (IA b)
theorem Bp4(s:Sm)(xi xk:Nat)(q:Int)(hs:s.sm):CS 103 [.agg s.row1,.ref 1 xi 0] (Bb9 xi xk q) (.bool ((Bn s).any (IA q))):=by
 have h2:=Gz s
 refine CS.of (Bf (A:=sS _ _ _) (x:=()) (E:=Eo2 s xi xk q) (eOk (BdN (by unfold maxLen;omega) fun b hb=>Bpk b xi xk q (Rb hs b hb)) rfl) Tryz.func103 rfl (by kernel_rfl) rfl (by simp[sS,Eo2,EC,E0]) ?_)
 refine Bk (T :=
  ∀(x:Nat),xi≠x/\xk≠x/\True->SM x/\SM xi/\∃(x_1:Sm),isS x_1 [D.agg (Qhh s)] []/\∀(y:Unit),True->(SM xi/\Qhj xk xi)/\∃(x_2:Unit),(wkL (Qhl x_1 xk xi) (Qhl s xk xi)/\∃(o:Nat×Nat×AObj),St.mk ((N2,x,AObj.cells (Qhh s))::Qhm xi xk q) []=St.mk (o::Qhm xi xk q) [])/\∀(y:Unit),True->True/\∃(y:Unit),True/\SM (QuQ s q)/\(SM xi/\(Qhj xk xi/\True)/\SM xk/\(SM q/\True)/\True)/\True) (by kernel_rfl) ?_
 delta DA GI LN N0 N1 N2 N4 SI SM Z0 ZI Qa6 VR Qhh Qhi Qhj Qa7 Qhk Qhl Qhm QuQ
 try simp only[<- dm]
 try simp only[<- dn]
 simp only[ne_eq,implies_true,true_and,and_true,exists_const,forall_const,Prod.exists]
 refine fun x _=>?_
 first
  |exact⟨s,Ie _ _,⟨Bi _,_,_,_,rfl⟩⟩
  |exact⟨⟨s,Ie _ _,⟨Bi _,_,_,_,rfl⟩⟩,s,Ie _ _,⟨Bi _,_,_,_,rfl⟩⟩
def Bn9(l:List Sm)(q:Int):Con:=fun k ds S=>match k with
 |102=>match ds with
  | [_,.fn _ _ [.ref _ xi _]]=>some (pE (β:=Nat) ds S (fun _=>.bool (Gb l q)) (fun xk=>wkL ds [gsl 34 Sm.row1 l,.fn (.func 103) [] [.ref 1 xi 0]]/\S=Bb9 xi xk q))
  |_=>none
 |_=>none
noncomputable def Eoc(l:List Sm)(q:Int):Senv:=EC (Bn9 l q) 10 2 [3,4,5] (fun _=>([],[]))
def Qhn:Nd:=Nd.mk Z0 Z0 Z0 [] Z0 Z0 DA [] [] Z0 Z0 Z0
def Qho(a:List Sm)(b:Nat):List D:=[D.sl 34 (LN a) (fun i=>Sm.row1 (List.getD a i (Sm.mk Z0 Z0 [] Z0 Qhn Qhn))) Mode.any,D.fn (Fn.func (103:Nat)) [] [D.ref N1 b N0]]
def Qhp(a b:Nat)(c:Int):St:=St.mk [(N1,a,AObj.cells [D.fn (Fn.func (101:Nat)) [] [D.ref N0 b N0,D.ref N1 a N0]]),(N0,b,AObj.cells [ZI c])] []
theorem Bou(l:List Sm)(q:Int)(hl:l.length<=maxLen)(h:∀s∈l,s.sm):CD 69 [gsl 34 Sm.row1 l,.int .i64 q] (.bool (Gb l q)):=by
 refine Bf (A:=sC _ _) (x:=()) (E:=Eoc l q) (eOk ?_ rfl) Tryz.func69 rfl (by kernel_rfl) rfl (by simp[sC,Eoc,EC,E0]) ?_
 ·intro k ds S A hh
  try unfold Bn9 at hh
  try dsimp only at hh
  split at hh
  ·split at hh
   ·injection hh with hh;subst hh
    refine EJ fun xk ⟨e,hS⟩=>?_
    rw[hS]
    exact CS.wk (Pxc_ok _ xk q l (fun s=>(Bn s).any (IA q)) (fun s hs=>Bp4 s _ xk q (h s hs)) hl) e
   ·cases hh
  ·cases hh
 refine Bk (T :=
  ∀(x:Nat),True->∀(x_1:Nat),x≠x_1/\True->SM x_1/\∃(x_2:Nat),(wkL (Qho l x_1) (Qho l x_1)/\Qhp x_1 x q=Qhp x_1 x_2 q)/\∀(y:Unit),True->RT (SM (Gb l q))) (by kernel_rfl) ?_
 delta DA LN N0 N1 SM Z0 ZI Qhn Qho Qhp RT
 try simp only[<- dm]
 try simp only[<- dn]
 simp only[ne_eq,implies_true,true_and,and_true,exists_const,forall_const]
 refine fun x x1 _=>⟨x,Bi _,?_⟩
 first
  |rfl
  |exact⟨rfl,rfl⟩
def Bhw(xl:Nat)(l:List Sm):St:=⟨[(0,xl,.cells [gsl 34 Sm.row1 l])],[]⟩
def Boo(l:List Sm)(q:Int):Con:=fun k ds S=>match k with
 |69=>some (pA ds S (.bool (Gb l q)) (wkL ds [gsl 34 Sm.row1 l,.int .i64 q]))
 |_=>none
noncomputable def Eu1(l:List Sm)(q:Int):Senv:=EC (Boo l q) 7 2 [3] (fun _=>([],[]))
def Qhq:Nd:=Nd.mk Z0 Z0 Z0 [] Z0 Z0 DA [] [] Z0 Z0 Z0
def Qhr(a:List Sm)(b:Nat):List D:=Sm.row1 (List.getD a b (Sm.mk Z0 Z0 [] Z0 Qhq Qhq))
def Qhs(a:List Sm)(b:Int):List D:=[D.sl 34 (LN a) (fun i=>Qhr a i) Mode.any,ZI b]
theorem BqM(l:List Sm)(q:Int)(hl:l.length<=maxLen)(h:∀s∈l,s.sm)(xl:Nat):CS 68 [.int .i64 q,.ref 0 xl 0] (Bhw xl l) (.bool (Gb l q)):=by
 refine CS.of (Bf (A:=sS _ _ _) (x:=()) (E:=Eu1 l q) (eOk ?_ rfl) Tryz.func68 rfl (by kernel_rfl) rfl (by simp[sS,Eu1,EC,E0]) ?_)
 ·intro k ds S A hh
  try unfold Boo at hh
  try dsimp only at hh
  split at hh
  ·injection hh with hh;subst hh
   exact Bv fun e=>CD.at_ (CD.wk (Bou l q hl h) e) _
  ·cases hh
 refine Bk (T :=
  SM xl/\∃(x:Unit),wkL (Qhs l q) (Qhs l q)/\∀(y:Unit),True->True/\∃(y:Unit),True/\SM (Gb l q)/\(SM xl/\((SM (LN l)/\(∀(i:Nat),i<LN l->SM (Qhr l i))/\True)/\True)/\True)/\True) (by kernel_rfl) ?_
 delta DA LN SM Z0 ZI Qhq Qhr Qhs
 try simp only[<- dm]
 try simp only[<- dn]
 simp only[implies_true,true_and,and_true,exists_const]
 first
  |exact Bi _
  |exact fun _=>Bi _
def Boq(l:List Sm)(xl:Nat):Con:=fun k ds S=>match k with
 |68=>match ds with
  | [.int .i64 q,_]=>some (pA ds S (.bool (Gb l q)) (wkL ds [.int .i64 q,.ref 0 xl 0]/\S=Bhw xl l))
  |_=>none
 |_=>none
noncomputable def Eux(l:List Sm)(xl:Nat)(m:List Int):Senv:={ EC (Boq l xl) 19 2 [4,5,7,8,9,16] (fun _=>([],[])) with
 ann:=fun b _ S=>match b with
  |0=>some { slots:=[8],keep:=[0,1,6,7],α:=Nat,st:=fun i=>([.int .i64 i],S),inv:=fun i=>IdxG (fun q=>Gb l q) m i,mu:=fun i=>m.length-i }
  |_=>none }
def Qa8(a:List Sm)(b:List Int)(c:Nat):Prop:=IdxG (fun (q:Int)=>Gb a q) b c
def Qht:Nd:=Nd.mk Z0 Z0 Z0 [] Z0 Z0 DA [] [] Z0 Z0 Z0
def Qhu(a:List Sm)(b:Nat):List D:=Sm.row1 (List.getD a b (Sm.mk Z0 Z0 [] Z0 Qht Qht))
def Yx(a:Nat)(b:List Sm):Prop:=(SM a/\((SM (LN b)/\(∀(i:Nat),i<LN b->SM (Qhu b i))/\True)/\True)/\True)/\True
def QuR(a:Nat)(b:List Sm):St:=St.mk [(N0,a,AObj.cells [D.sl 34 (LN b) (fun i=>Qhu b i) Mode.any])] []
def Qhv(a:List Sm)(b:List Int):Int:=CZ (fun (q:Int)=>Gb a q) b Z0
def QuS(a:List Int):D:=SI a
theorem Bqy(l : List Sm)(xl : Nat)(m : List Int)(hl : l.length<=maxLen)(h : ∀s∈l, s.sm)(hm : m.length<=maxLen) :
  CS 100 [isl m .any,.fn (.func 68) [] [.ref 0 xl 0]] (Bhw xl l) (.int .i64 (CZ (fun q=>Gb l q) m 0)):=by
 refine CS.of (Bf (A:=sS _ _ _) (x:=()) (E:=Eux l xl m) (eOk ?_ rfl) Tryz.func100 rfl (by kernel_rfl) rfl (by simp[sS,Eux,EC,E0]) ?_)
 ·intro k ds S A hh
  try unfold Boq at hh
  try dsimp only at hh
  split at hh
  ·split at hh
   ·injection hh with hh;subst hh
    refine Bv fun ⟨e,hS⟩=>?_
    rw[hS]
    exact CS.wk (BqM l _ hl h xl) e
   ·cases hh
  ·cases hh
 refine Bk (T :=
  (∃(x:Nat),Qa8 l m x/\(Z0=(↑x:Int)/\True)/\Yx xl l)/\∀(x:Nat),Qa8 l m x->ifB (decide ((↑x:Int)<(LI m))) (Be (Z0<=(↑x:Int)/\(↑x:Int)<(LI m)) (∃(x_1:Unit),(wkL [ZI (GI m (Int.toNat (↑x:Int))),D.ref N0 xl N0] [ZI (GI m (Int.toNat (↑x:Int))),D.ref N0 xl N0]/\SM (QuR xl l))/\∀(y:Unit),True->ifB (Gb l (GI m (Int.toNat (↑x:Int)))) (True/\∃(y:Unit),True/\(↑x:Int)=Qhv l m/\Yx xl l) ((SM (QuS m)/\SM (D.fn (Fn.func (68:Nat)) [] [D.ref N0 xl N0])/\SM D.unk/\SM (ZI (LI m))/\True)/\∃(y:Nat),Qa8 l m y/\LN m-y<LN m-x/\(IntKind.wrap IntKind.i64 ((↑x:Int)+Z1)=(↑y:Int)/\True)/\Yx xl l))) (True/\∃(y:Unit),True/\(-1:Int)=Qhv l m/\Yx xl l)) (by kernel_rfl) ?_
 delta DA GI LI LN N0 N1 SI SM Z0 Z1 ZI Qa8 Qht Qhu Yx QuR Qhv QuS
 try simp only[<- dm]
 try simp only[<- dn]
 simp only[implies_true,Int.toNat_natCast,Bh,Bc,decide_eq_true_eq,decide_eq_false_iff_not,true_and,and_true,exists_const,forall_const]
 simp only[maxLen] at hm
 refine⟨⟨0,⟨Nat.zero_le _,by simp⟩,rfl⟩,fun i hh=>⟨fun hlt=>?_,fun hge=>(hh.done hge).symm⟩⟩
 have hlt':i<m.length:=by omega
 obtain ⟨s1,s2⟩:=hh.step hlt'
 have e0:m.getD i default=m.getD i 0:=rfl
 rw[e0] at s1 s2
 refine⟨⟨by omega,hlt⟩,?_⟩
 exact⟨Bi _,fun e=>(s1 e).symm,fun e=>⟨i+1,s2 e,by omega,Bb (by omega) (by omega)⟩⟩
def Bn4(l:List Sm)(xl:Nat)(m:List Int):Con:=fun k ds S=>match k with
 |100=>some (pA ds S (.int .i64 (CZ (fun q=>Gb l q) m 0)) (wkL ds [isl m .any,.fn (.func 68) [] [.ref 0 xl 0]]/\S=Bhw xl l))
 |_=>none
noncomputable def Euc(l:List Sm)(xl:Nat)(m:List Int):Senv:=EC (Bn4 l xl m) 9 2 [4] (fun _=>([],[]))
def Qhw(a:List Int)(b:Nat):List D:=[SI a,D.fn (Fn.func (68:Nat)) [] [D.ref N0 b N0]]
def Qhx:Nd:=Nd.mk Z0 Z0 Z0 [] Z0 Z0 DA [] [] Z0 Z0 Z0
def Qhy(a:List Sm)(b:Nat):List D:=Sm.row1 (List.getD a b (Sm.mk Z0 Z0 [] Z0 Qhx Qhx))
def QuT(a:Nat)(b:List Sm):St:=St.mk [(N0,a,AObj.cells [D.sl 34 (LN b) (fun i=>Qhy b i) Mode.any])] []
theorem Bp6(l : List Sm)(xl : Nat)(m : List Int)(hl : l.length<=maxLen)(h : ∀s∈l, s.sm)(hm : m.length<=maxLen) :
  CS 67 [isl m .any,.fn (.func 68) [] [.ref 0 xl 0]] (Bhw xl l) (.bool (m.any fun q=>Gb l q)):=by
 refine CS.of (Bf (A:=sS _ _ _) (x:=()) (E:=Euc l xl m) (eOk ?_ rfl) Tryz.func67 rfl (by kernel_rfl) rfl (by simp[sS,Euc,EC,E0]) ?_)
 ·intro k ds S A hh
  try unfold Bn4 at hh
  try dsimp only at hh
  split at hh
  ·injection hh with hh;subst hh
   refine Bv fun ⟨e,hS⟩=>?_
   rw[hS]
   exact CS.wk (Bqy l xl m hl h hm) e
  ·cases hh
 refine Bk (T :=
  ∃(x:Unit),(wkL (Qhw m xl) (Qhw m xl)/\SM (QuT xl l))/\∀(y:Unit),True->True/\∃(y:Unit),True/\(decide (Z0<=CZ (fun (q:Int)=>Gb l q) m Z0)=List.any m fun (q:Int)=>Gb l q)/\(SM xl/\((SM (LN l)/\(∀(i:Nat),i<LN l->SM (Qhy l i))/\True)/\True)/\True)/\True) (by kernel_rfl) ?_
 delta DA GI LN N0 N1 SI SM Z0 ZI Qhw Qhx Qhy QuT
 simp only[true_and,and_true,exists_const,forall_const]
 have e:=Ec (fun q=>Gb l q) m 0 (Int.le_refl _)
 first
  |exact⟨Bi _,e⟩
  |exact⟨⟨Bi _,rfl⟩,e⟩
  |exact⟨Bi _,e,fun _ _=>trivial⟩
def Bop(l:List Sm):Con:=fun k ds S=>match k with
 |67=>match ds with
  | [_,.fn _ _ [.ref _ xl _]]=>some (pA ds S (.bool (Bcf l)) (wkL ds [isl [6,7,11,12,13] .any,.fn (.func 68) [] [.ref 0 xl 0]]/\S=Bhw xl l))
  |_=>none
 |_=>none
noncomputable def Eou(l:List Sm):Senv:=EC (Bop l) 6 3 [] (fun _=>([],[]))
def Qhz(a:Nat):List D:=[D.fn (Fn.func (68:Nat)) [] [D.ref N0 a N0]]
def QhA:Nd:=Nd.mk Z0 Z0 Z0 [] Z0 Z0 DA [] [] Z0 Z0 Z0
def QuU(a:Nat)(b:List Sm):St:=St.mk [(N0,a,AObj.cells [D.sl 34 (LN b) (fun i=>Sm.row1 (List.getD b i (Sm.mk Z0 Z0 [] Z0 QhA QhA))) Mode.any])] []
theorem BqC(l:List Sm)(hl:l.length<=maxLen)(h:∀s∈l,s.sm):CD 37 [gsl 34 Sm.row1 l] (.bool (Bcf l)):=by
 refine Bf (A:=sC _ _) (x:=()) (E:=Eou l) (eOk ?_ rfl) Tryz.func37 rfl (by kernel_rfl) rfl (by simp[sC,Eou,EC,E0]) ?_
 ·intro k ds S A hh
  try unfold Bop at hh
  try dsimp only at hh
  split at hh
  ·split at hh
   ·injection hh with hh;subst hh
    refine Bv fun ⟨e,hS⟩=>?_
    rw[hS]
    exact CS.wk (Bp6 l _ [6,7,11,12,13] hl h (by decide)) e
   ·cases hh
  ·cases hh
 refine Bk (T :=
  ∀(x:Nat),True->∃(x_1:Unit),(wkL (D.sl N1 (5:Nat) (fun i=>List.getD [[ZI 6],[ZI 7],[ZI 11],[ZI 12],[ZI 13]] i []) Mode.full::Qhz x) (D.sl N1 (5:Nat) (fun i=>[ZI (GI [(6:Int),(7:Int),(11:Int),(12:Int),(13:Int)] i)]) Mode.any::Qhz x)/\SM (QuU x l))/\∀(y:Unit),True->RT (SM (Bcf l))) (by kernel_rfl) ?_
 delta DA GI LN N0 N1 SM Z0 ZI Qhz QhA QuU RT
 try simp only[<- dm]
 try simp only[<- dn]
 simp only[implies_true,and_true,exists_const,forall_const]
 intro x
 simp only[wkL,wkD,Ba]
 refine⟨⟨by simp,by simp,fun i hi=>?_,by simp[BE]⟩,by simp[Bg],trivial⟩
 match i,hi with
 |0,_=>exact Bi _
 |1,_=>exact Bi _
 |2,_=>exact Bi _
 |3,_=>exact Bi _
 |4,_=>exact Bi _
theorem Bdb{L:List D}{M:List (List UInt8)}(h:L=M.map D.str){n:Nat}(hn:n<M.length):Bg (L.getD n D.unk) (.str (M.getD n [])):=by
 subst h
 have:(M.map D.str).getD n D.unk=.str (M.getD n []):=by simp[List.getD_eq_getElem?_getD,hn]
 rw[this]
 exact Bd _
theorem BhP:primL.length=56:=by decide +kernel
theorem Bmk:opL.length=12:=by decide +kernel
theorem BdK{p:Int}(h:p<1\/56<=p):Ci p=[]:=if_pos h
theorem BjC{p:Int}(h:p<1\/12<=p):opT p=[]:=if_pos h
theorem BnD{p:Int}(h:¬(p<1\/56<=p)):Ci p=primL.getD p.toNat []:=if_neg h
theorem Bqo{p:Int}(h:¬(p<1\/12<=p)):opT p=opL.getD p.toNat []:=if_neg h
noncomputable def Epn:Senv:={ EC E5 14 1 [2,3,10] (fun _=>([],[])) with mg:=fun _=>2 }
def QhB(a:Int):Prop:=True/\∃(_y:Unit),True/\CN (List UInt8) [] (Ci a)/\True/\True
theorem Biy(p:Int):ACalls Tryz.prog 98 [.int .i64 p] ⟨[],[]⟩ (SpecR (sC [.int .i64 p] (.str (Ci p))) ()):=by
 refine Bf (A:=sC _ _) (x:=()) (E:=Epn) (eOk BJ rfl) Tryz.func98 rfl (by kernel_rfl) rfl (by simp[sC,Epn,EC,E0]) ?_
 refine Bk (T :=
  ∀(x:Nat),True->SM x/\ifB (decide (p<Z1)) (QhB p) (ifB (decide ((56:Int)<=p)) (QhB p) (Be (Z0<=p/\p<56) (SM x/\Be (N0+Int.toNat p*N1+N1<=56) (True/\∃(y:Unit),True/\Bg (List.getD [D.str [],D.str [43],D.str [45],D.str [42],D.str [37],D.str [124],D.str [94],D.str [109,105,110],D.str [109,97,120],D.str [60],D.str [60,61],D.str [61],D.str [126,61],D.str [62,61],D.str [62],D.str [97,110,100],D.str [111,114],D.str [110,111,116],D.str [115,104,97,112,101],D.str [114,101,115,104,97,112,101],D.str [116,97,108,108,121],D.str [100,101,112,116,104],D.str [44],D.str [115,116,97,99,107],D.str [105,111,116,97],D.str [116,97,107,101],D.str [100,114,111,112],D.str [102,105,114,115,116],D.str [114,101,118,101,114,115,101],D.str [114,111,116,97,116,101],D.str [116,114,97,110,115,112,111,115,101],D.str [102,114,111,109],D.str [112,105,99,107],D.str [115,101,108,101,99,116],D.str [97,109,101,110,100],D.str [117,112],D.str [100,111,119,110],D.str [115,111,114,116],D.str [102,105,110,100],D.str [105,110],D.str [117,110,105,113,117,101],D.str [119,104,101,114,101],D.str [99,111,112,121],D.str [101,120,112,97,110,100],D.str [99,117,116],D.str [101,110,99,111,100,101],D.str [100,101,99,111,100,101],D.str [98,111,120],D.str [111,112,101,110],D.str [115,97,109,101],D.str [107,105,110,100],D.str [111,114,100],D.str [99,104,114],D.str [102,111,114,109,97,116],D.str [108,101,102,116],D.str [114,105,103,104,116]] (N0+Int.toNat p*N1) D.unk) (D.str (Ci p))/\True/\True))))) (by kernel_rfl) ?_
 delta N0 N1 SM Z0 Z1 QhB
 simp only[Bh,Bc,decide_eq_true_eq,decide_eq_false_iff_not,Nat.mul_one,true_and,and_true,exists_const]
 refine fun x _=>⟨fun h=>(BdK (.inl h)).symm,fun h1=>⟨fun h=>(BdK (.inr h)).symm,fun h2=>⟨⟨by omega,by omega⟩,by omega,?_⟩⟩⟩
 rw[BnD (by omega),Nat.zero_add]
 exact Bdb (M:=primL) (by kernel_rfl) (by rw[BhP];omega)
noncomputable def Eon:Senv:={ EC E5 14 1 [2,3,10] (fun _=>([],[])) with mg:=fun _=>2 }
def QhC(a:Int):Prop:=True/\∃(_y:Unit),True/\CN (List UInt8) [] (opT a)/\True/\True
theorem Bjn(p:Int):ACalls Tryz.prog 99 [.int .i64 p] ⟨[],[]⟩ (SpecR (sC [.int .i64 p] (.str (opT p))) ()):=by
 refine Bf (A:=sC _ _) (x:=()) (E:=Eon) (eOk BJ rfl) Tryz.func99 rfl (by kernel_rfl) rfl (by simp[sC,Eon,EC,E0]) ?_
 refine Bk (T :=
  ∀(x:Nat),True->SM x/\ifB (decide (p<Z1)) (QhC p) (ifB (decide ((12:Int)<=p)) (QhC p) (Be (Z0<=p/\p<12) (SM x/\Be (N0+Int.toNat p*N1+N1<=12) (True/\∃(y:Unit),True/\Bg (List.getD [D.str [],D.str [47],D.str [92],D.str [101,97,99,104],D.str [115,119,97,112],D.str [111,117,116,101,114],D.str [105,110,110,101,114],D.str [114,97,110,107],D.str [112,111,119,101,114],D.str [115,116,101,110,99,105,108],D.str [97,116,111,112],D.str [111,118,101,114]] (N0+Int.toNat p*N1) D.unk) (D.str (opT p))/\True/\True))))) (by kernel_rfl) ?_
 delta N0 N1 SM Z0 Z1 QhC
 simp only[Bh,Bc,decide_eq_true_eq,decide_eq_false_iff_not,Nat.mul_one,true_and,and_true,exists_const]
 refine fun x _=>⟨fun h=>(BjC (.inl h)).symm,fun h1=>⟨fun h=>(BjC (.inr h)).symm,fun h2=>⟨⟨by omega,by omega⟩,by omega,?_⟩⟩⟩
 rw[Bqo (by omega),Nat.zero_add]
 exact Bdb (M:=opL) (by kernel_rfl) (by rw[Bmk];omega)
noncomputable def Enum:Senv:=EC E5 9 1 [2] (fun _=>([],[]))
def Qa9(a:Int):Bool:=bif decide ((-4611686018427387903:Int)<=a) then decide (a<=4611686018427387903) else false
theorem BpD(z:Int):ACalls Tryz.prog 154 [.int .i64 z] ⟨[],[]⟩ (SpecR (sC [.int .i64 z] (.bool (Bht z))) ()):=by
 refine Bf (A:=sC _ _) (x:=()) (E:=Enum) (eOk BJ rfl) Tryz.func154 rfl (by kernel_rfl) rfl (by simp[sC,Enum,EC,E0]) ?_
 refine Bk (T :=
  ifB (decide ((-4611686018427387903:Int)<=z)) (decide (z<=4611686018427387903)=Qa9 z/\True) (false=Qa9 z/\True)/\RT (Qa9 z=Bht z)) (by kernel_rfl) ?_
 delta Qa9 RT
 simp only[Bh,decide_eq_true_eq,decide_eq_false_iff_not,true_and,and_true,Bool.cond_false_right,exists_const]
 refine⟨⟨fun h=>by rw[decide_eq_true h];rfl,fun h=>by rw[decide_eq_false h];rfl⟩,rfl⟩
noncomputable def Echr:Senv:=EC E5 17 1 [2] (fun _=>([],[]))
def Yy(a:Int):Bool:=bif bif decide (Z0<=a) then decide (a<=1114111) else false then bif decide (a<55296) then true else decide ((57343:Int)<a) else false
def QhD(a:Int):Prop:=false=Yy a/\True
theorem BoK(z:Int):ACalls Tryz.prog 155 [.int .i64 z] ⟨[],[]⟩ (SpecR (sC [.int .i64 z] (.bool (Bdv z))) ()):=by
 refine Bf (A:=sC _ _) (x:=()) (E:=Echr) (eOk BJ rfl) Tryz.func155 rfl (by kernel_rfl) rfl (by simp[sC,Echr,EC,E0]) ?_
 refine Bk (T :=
  ifB (decide (Z0<=z)) (ifB (decide (z<=1114111)) (ifB (decide (z<55296)) (true=Yy z/\True) (decide ((57343:Int)<z)=Yy z/\True)) (QhD z)) (QhD z)/\RT (Yy z=Bdv z)) (by kernel_rfl) ?_
 delta Z0 Yy QhD RT
 simp only[Bh,decide_eq_true_eq,decide_eq_false_iff_not,true_and,and_true,Bool.cond_false_right,Bool.cond_true_left,exists_const]
 refine⟨⟨fun h1=>⟨fun h2=>⟨fun h3=>by simp[h1,h2,h3],fun h3=>by simp[h1,h2,h3]⟩,fun h2=>by simp[h1,h2]⟩,fun h1=>by simp[h1]⟩,rfl⟩
def Iq(row:Arr->List D)(xb:Nat)(q:Arr->Prop):FnSpec where
 β:=Arr
 α:=Unit
 args:=fun a=>[.agg (row a),.ref 1 xb 0]
 st:=fun _=>⟨[(1,xb,.cells [.fn (.func 152) [] [.ref 1 xb 0]])],[]⟩
 pre:=q
 post:=fun _ _=>True
 res:=fun a _=>.ret (.tup [.int .i64 (BG a).1,.int .i64 (BG a).2.1,.int .i64 (BG a).2.2])
 out:=fun _ _=>⟨[(1,xb,.cells [.fn (.func 152) [] [.ref 1 xb 0]])],[]⟩
def BeT(xb:Nat)(its:List Arr):Con:=fun k ds S=>match k with
 |152=>some (Iq Arr.row1 xb (fun b=>b∈its))
 |153=>match ds with
  | [.agg [.int .i64 k,.sl 1 n f _,.sl 1 nn _g _,.sl 4 ni _h _]]=>some (pC ds (.int .i64 (Cq k (Bp n f) nn ni)) (IntsP n f/\n<=maxLen/\nn<=maxLen/\ni<=maxLen))
  |_=>none
 |154=>match ds with
  | [.int .i64 z]=>some (pC [.int .i64 z] (.bool (Bht z)) True)
  |_=>none
 |155=>match ds with
  | [.int .i64 z]=>some (pC [.int .i64 z] (.bool (Bdv z)) True)
  |_=>none
 |k=>R5 k ds S
theorem Bg7{xb:Nat}{its:List Arr}(ih:∀b∈its,ACalls Tryz.prog 152 ((Iq Arr.row2 xb (fun _=>True)).args b) ((Iq Arr.row2 xb (fun _=>True)).st b) (SpecR (Iq Arr.row2 xb (fun _=>True)) b)):ConOk Tryz.prog (BeT xb its):=by
 intro k ds S A h
 unfold BeT at h
 split at h
 ·injection h with h;subst h
  refine ConOk.plain (fun b hb=>?_) rfl rfl
  refine ((ih b hb).wkArgs ?_).mono fun _ _ ⟨y,h1,h2,h3⟩=>⟨y,h1,h2,h3⟩
  simp only[Iq,wkL,wkD]
  exact⟨UP b,by simp[Bg,Ba]⟩
 ·split at h
  ·rename_i k n f _ nn g _ ni g' _
   injection h with h;subst h
   refine BM fun ⟨h1,h2,h3,h4⟩=>⟨Bj _,Cb (us:=[.agg [.int .i64 k,isl (Bp n f) .any,.sl 1 nn g .any,.sl 4 ni g' .any]]) ?_ (Bnr _ _ _ _ _ _ (by rw[B3];exact h2) h3 h4)⟩
   refine⟨?_,trivial⟩
   simp only[Bg,Br]
   refine⟨by simp[Ba,kEq],(Eb h1).1,?_,?_,trivial⟩
   ·simp[Ba,BE]
   ·simp[Ba,BE]
  ·cases h
 ·split at h
  ·injection h with h;subst h
   exact BM fun _=>⟨Bj _,BpD _⟩
  ·cases h
 ·split at h
  ·injection h with h;subst h
   exact BM fun _=>⟨Bj _,BoK _⟩
  ·cases h
 ·exact Tj _ _ _ _ h
theorem Bgd(a : Arr) : BG a=if Cq a.k a.sh a.nu.length a.it.length≠0 then (Cq a.k a.sh a.nu.length a.it.length, 0, 0)
  else if a.nu.any (Gd a.k) then (17,0,0)
  else match G3 a.it 0 ((a.nu.length:Int)+a.it.length) with
   |none=>(17,0,0)
   |some r=>if 16<r.1\/262144<r.2 then (21,0,0) else (0,r.1,r.2):=by
 cases a with
 |mk k s n is=>rw[BG];rfl
theorem BiN{s:List Int}:C5 s<=65536:=by
 unfold C5
 split
 ·omega
 ·cases hg:goO s 1 with
  |none=>simp
  |some p=>have:=Bb2 s 1 (by omega) p hg;simpa using this
theorem OA{k:Int}{s:List Int}{nn ni:Nat}(h:Cq k s nn ni=0):nn<=65536/\ni<=65536:=by
 have hs:=BiN (s:=s)
 unfold Cq at h
 by_cases hk:k=1\/k=2\/k=3
 ·rw[if_pos hk] at h
  by_cases hd:El s≠0
  ·rw[if_pos hd] at h;exact (hd h).elim
  ·rw[if_neg hd] at h
   by_cases hc:((if k=3 then (ni:Int) else nn)≠C5 s)\/((if k=3 then (nn:Int) else ni)≠0)
   ·rw[if_pos hc] at h;omega
   ·simp only[not_or,ne_eq,Decidable.not_not] at hc
    obtain ⟨c1,c2⟩:=hc
    by_cases k3:k=3<;>simp only[k3,if_true,if_false] at c1 c2<;>omega
 ·rw[if_neg hk] at h;omega
theorem GR{α:Type}[Inhabited α]{l:List α}{i:Nat}(h:i<l.length):l.getD i default∈l:=by
 rw[List.getD_eq_getElem?_getD,List.getElem?_eq_getElem h];exact List.getElem_mem h
def cutV(k:Int)(d8:D)(S:St):Option LoopAnn :=
 match d8 with
 |.int _ z=>some { slots:=[45],keep:=[],α:=Unit,st:=fun _=>([.bool (Gd k z)],S),inv:=fun _=>True,mu:=fun _=>0 }
 |_=>none
noncomputable def Evis(xb:Nat)(a:Arr):Senv:={ EC (BeT xb a.it) 87 7 [8,9,10,12,13,14,15,19,22,23,24,25,45,55,56,57,58,69,84] (fun id=>match id with | 10=>([0,1,2,3,4,5,6,7,8],[]) | _=>([],[])) with
 cut:=fun id env S=>match id with
  |7=>cutV a.k (Ab.look env 8) S
  |_=>none
 ann:=fun b _ S=>match b with
  |0=>some { slots:=[24],keep:=[0,1,2,22,23],α:=Nat,st:=fun i=>([.int .i64 i],S),inv:=fun i=>i<=a.nu.length/\∀z∈a.nu.take i,Gd a.k z=false,mu:=fun i=>a.nu.length-i }
  |2=>some { slots:=[57,9,10],keep:=[0,1,2,55,56],α:=Nat×Int×Int,st:=fun y=>([.int .i64 y.1,.int .i64 y.2.1,.int .i64 y.2.2],S),inv:=fun y=>y.1<=a.it.length/\0<=y.2.1/\y.2.1<=17/\0<=y.2.2/\y.2.2<=262145/\G3 (a.it.drop y.1) y.2.1 y.2.2=G3 a.it 0 ((a.nu.length:Int)+a.it.length),mu:=fun y=>a.it.length-y.1 }
  |_=>none }
def Jw(a:Arr):Nat:=LN (Arr.sh a)
def VS(a:Arr)(b:Nat):List D:=[ZI (GI (Arr.sh a) b)]
def Yz(a:Arr):List Int:=Arr.nu a
def KI(a:Arr):Nat:=LN (Yz a)
def JY(a:Arr):List Arr:=Arr.it a
def KJ(a:Arr):Nat:=LN (JY a)
def K8(a:Arr):Int:=Arr.k a
def QhE(a:Arr):Int:=Cq (K8 a) (Bp (Jw a) fun i=>VS a i) (KI a) (KJ a)
def VT(a:Arr):Int:=Prod.fst (BG a)
def Qba(a:Arr):Int:=Prod.fst (Prod.snd (BG a))
def YA(a:Arr):Int:=Prod.snd (Prod.snd (BG a))
def Qbb(a:Arr):Prop:=Z0=Qba a/\Z0=YA a/\True
def QhF(a:Nat):Prop:=SM a/\(SM (D.fn (Fn.func (152:Nat)) [] [D.ref N1 a N0])/\True)/\True
def VU(a:Nat):Prop:=QhF a/\True
def Qbc(a:Nat)(b:Arr):Prop:=a<=KI b/\∀(z:Int),z∈List.take a (Yz b)->Gd (K8 b) z=false
def Qbd(a:Arr)(b:Nat):List D:=[ZI (GI (Yz a) b)]
def YB:Arr:=DA
def VV(a:Arr)(b:Nat):Arr:=List.getD (JY a) b YB
def QuV(a:Arr)(b:Nat):List Int:=Arr.sh (VV a b)
def QuW(a:Arr)(b:Nat):List Int:=Arr.nu (VV a b)
def QhG(a:Arr)(b:Nat):List Arr:=Arr.it (VV a b)
def QhH(a:Arr)(b:Nat):List D:=[ZI (Arr.k (VV a b)),SI (QuV a b),SI (QuW a b),D.sl N4 (LN (QhG a b)) (fun i=>Arr.row (List.getD (QhG a b) i YB)) Mode.any]
def Jx(a:Nat)(b:Arr)(c:Nat):Prop:=(SM a/\(SM (K8 b)/\(SM (Jw b)/\(∀(i:Nat),i<Jw b->SM (VS b i))/\True)/\(SM (KI b)/\(∀(i:Nat),i<KI b->SM (Qbd b i))/\True)/\(SM (KJ b)/\(∀(i:Nat),i<KJ b->SM (QhH b i))/\True)/\True)/\QhF c)/\True
def YC(a:Arr):Int:=(NI (KI a))
def Qbe(a:Arr)(b:Nat):Int:=GI (Yz a) (Int.toNat (↑b:Int))
def YD(a:Arr)(b:Nat):Bool:=Gd (K8 a) (Qbe a b)
def QhI(a:Nat)(b:Arr)(c d:Nat):Prop:=SM a/\ifB (K8 b==2) (True/\∀(_y:Unit),True->∃(_x:Unit),True/\((!Bdv (Qbe b c))=YD b c/\True)/\Jx a b d) (∃(_x:Unit),True/\(false=YD b c/\True)/\Jx a b d)
def QhJ(a:Arr)(b:Nat):Prop:=True/\∃(_y:Unit),True/\((17:Int)=VT a/\Qbb a)/\VU b
def QhK(a:Arr):D:=D.sl N1 (KI a) (fun i=>Qbd a i) Mode.any
def QhL(a:Arr):D:=D.sl N4 (KJ a) (fun i=>QhH a i) Mode.any
def QuX(a:Arr):D:=D.agg [ZI (K8 a),D.sl N1 (Jw a) (fun i=>VS a i) Mode.any,QhK a,QhL a]
def QhM(a:Arr):Prop:=SM (QuX a)
def YE(a:Arr):Int:=(NI (KJ a))
def QhN(a:Arr):Int:=YC a+YE a
def Qbf(a:Nat)(b:Arr)(c d:Int):Prop:=a<=KJ b/\Z0<=c/\c<=17/\Z0<=d/\d<=262145/\G3 (List.drop a (JY b)) c d=G3 (JY b) Z0 (QhN b)
def YF(a:Arr)(b:Nat):Arr:=List.getD (JY a) (Int.toNat (↑b:Int)) YB
def QhO(a:Arr)(b:Nat):List Int:=Arr.sh (YF a b)
def QhP(a:Arr)(b:Nat):Nat:=LN (QhO a b)
def QhQ(a:Arr)(b:Nat):List Int:=Arr.nu (YF a b)
def QhR(a:Arr)(b:Nat):Nat:=LN (QhQ a b)
def QhS(a:Arr)(b:Nat):List Arr:=Arr.it (YF a b)
def QhT(a:Arr)(b:Nat):Nat:=LN (QhS a b)
def QhU(a:Arr):Int:=IntKind.wrap IntKind.i64 (Qba a+Z1)
def Qbg(a b:Int):Bool:=bif decide ((16:Int)<a) then true else decide ((262144:Int)<b)
theorem Bjt(xb : Nat)(a : Arr)(ha : a.nu.length<=maxLen /\ a.it.length<=maxLen /\ a.sh.length<=maxLen)(ih : ∀b∈a.it, ACalls Tryz.prog 152 ((Iq Arr.row2 xb (fun _=>True)).args b) ((Iq Arr.row2 xb (fun _=>True)).st b) (SpecR (Iq Arr.row2 xb (fun _=>True)) b)) :
  ACalls Tryz.prog 152 ((Iq Arr.row2 xb (fun _=>True)).args a) ((Iq Arr.row2 xb (fun _=>True)).st a) (SpecR (Iq Arr.row2 xb (fun _=>True)) a):=by
 refine Bf (A:=Iq Arr.row2 xb (fun _=>True)) (x:=a) (E:=Evis xb a) (eOk (Bg7 ih) rfl) Tryz.func152 rfl (by kernel_rfl) rfl (by simp[Iq,Evis,EC,E0]) ?_
 refine Bk (T :=
  ∀(x:Nat),xb≠x/\True->SM x/\((IntsP (Jw a) fun i=>VS a i)/\Jw a<=9223372036854775807/\KI a<=9223372036854775807/\KJ a<=9223372036854775807)/\∀(y:Unit),True->ifB (QhE a != Z0) (True/\∃(y:Unit),True/\(QhE a=VT a/\Qbb a)/\VU xb) (SM x/\(∃(x_1:Nat),Qbc x_1 a/\(Z0=(↑x_1:Int)/\True)/\Jx x a xb)/\∀(x_1:Nat),Qbc x_1 a->ifB (decide ((↑x_1:Int)<YC a)) (Be (Z0<=(↑x_1:Int)/\(↑x_1:Int)<YC a) ((SM x/\ifB (K8 a==Z1) (True/\∀(y:Unit),True->ifB (!Bht (Qbe a x_1)) (∃(x_2:Unit),True/\(true=YD a x_1/\True)/\Jx x a xb) (QhI x a x_1 xb)) (QhI x a x_1 xb))/\∀(x_2:Unit),True->ifB (YD a x_1) (QhJ a xb) ((QhM a/\SM (D.ref N1 xb N0)/\SM (D.ref N2 x N0)/\SM (QhK a)/\SM (ZI (YC a))/\True)/\∃(y:Nat),Qbc y a/\KI a-y<KI a-x_1/\(IntKind.wrap IntKind.i64 ((↑x_1:Int)+Z1)=(↑y:Int)/\True)/\Jx x a xb))) (SM x/\SM x/\SM x/\(∃(x_2:Nat×Int×Int),Qbf x_2.1 a x_2.2.1 x_2.2.2/\(Z0=(NI x_2.1)/\Z0=x_2.2.1/\IntKind.wrap IntKind.i64 (QhN a)=x_2.2.2/\True)/\Jx x a xb)/\∀(x_2:Nat×Int×Int),Qbf x_2.1 a x_2.2.1 x_2.2.2->ifB (decide ((NI x_2.1)<YE a)) (Be (Z0<=(NI x_2.1)/\(NI x_2.1)<YE a) (∀(x_3:Nat),x≠x_3/\xb≠x_3/\True->SM x_3/\SM xb/\SM x_3/\∃(x_4:Arr),((Arr.k (YF a x_2.1)=K8 x_4/\(QhP a x_2.1=Jw x_4/\(∀(i:Nat),i<QhP a x_2.1->[ZI (GI (QhO a x_2.1) i)]=VS x_4 i)/\True)/\(QhR a x_2.1=KI x_4/\(∀(i:Nat),i<QhR a x_2.1->[ZI (GI (QhQ a x_2.1) i)]=Qbd x_4 i)/\True)/\(QhT a x_2.1=KJ x_4/\(∀(i:Nat),i<QhT a x_2.1->Arr.row (List.getD (QhS a x_2.1) i YB)=Arr.row (VV x_4 i))/\True)/\True)/\SM xb/\True)/\VU xb/\x_4∈JY a/\∀(y:Unit),True->ifB (VT x_4 != Z0) (QhJ a xb) ((QhM a/\SM (D.ref N1 xb N0)/\SM (D.ref N2 x N0)/\SM (QhL a)/\SM (ZI (YE a))/\True)/\∃(y:Nat×Int×Int),Qbf y.1 a y.2.1 y.2.2/\KJ a-y.1<KJ a-x_2.1/\(IntKind.wrap IntKind.i64 ((NI x_2.1)+Z1)=(NI y.1)/\(if x_2.2.1<QhU x_4 then QhU x_4 else x_2.2.1)=y.2.1/\(if (262145:Int)<IntKind.wrap IntKind.i64 (x_2.2.2+YA x_4) then (262145:Int) else IntKind.wrap IntKind.i64 (x_2.2.2+YA x_4))=y.2.2/\True)/\Jx x a xb))) (ifB (decide ((16:Int)<x_2.2.1)) (true=Qbg x_2.2.1 x_2.2.2/\True) (decide ((262144:Int)<x_2.2.2)=Qbg x_2.2.1 x_2.2.2/\True)/\ifB (Qbg x_2.2.1 x_2.2.2) (True/\∃(y:Unit),True/\((21:Int)=VT a/\Qbb a)/\VU xb) (True/\∃(y:Unit),True/\(Z0=VT a/\x_2.2.1=Qba a/\x_2.2.2=YA a/\True)/\VU xb))))) (by kernel_rfl) ?_
 delta DA GI LN N0 N1 N2 N4 NI SI SM Z0 Z1 ZI QhE VT Qba YA Qbb QhF VU Qbc Qbd YB VV QuV QuW QhG QhH Jx YC Qbe YD QhI Jw QhJ QhK QhL QuX QhM YE QhN Qbf YF QhO VS QhP QhQ QhR QhS QhT QhU Qbg Yz KI JY KJ K8
 have da:(default:Arr)=Arr.mk 0 [] [] []:=rfl
 simp only[<- da,Cl,Int.toNat_natCast,Bh,Bc,decide_eq_true_eq,decide_eq_false_iff_not,true_and,and_true,beq_iff_eq,bne_iff_ne,Bool.cond_true_left,beq_eq_false_iff_ne,ne_eq,exists_const,forall_const]
 intro x _
 have hA:=Bgd a
 obtain ⟨l1,l2,l3⟩:=ha
 have tt:(∀i:Nat,i<a.sh.length->True)/\(∀i:Nat,i<a.nu.length->True)/\∀i:Nat,i<a.it.length->True:=⟨fun _ _=>trivial,fun _ _=>trivial,fun _ _=>trivial⟩
 refine⟨⟨CF _,l3,l1,l2⟩,fun h=>?_,fun h=>⟨⟨0,⟨Nat.zero_le _,by simp⟩,rfl,tt⟩,fun i hi=>⟨fun hlt=>?_,fun hge=>?_⟩⟩⟩
 ·rw[hA,if_pos h];exact⟨rfl,rfl,rfl⟩
 ·have h0:Cq a.k a.sh a.nu.length a.it.length=0:=by simpa using h
  have hsm:=OA h0
  have hlt':i<a.nu.length:=by omega
  have hmem:a.nu.getD i 0∈a.nu:=by rw[List.getD_eq_getElem?_getD,List.getElem?_eq_getElem hlt'];exact List.getElem_mem hlt'
  have htk:a.nu.take (i+1)=a.nu.take i++[a.nu.getD i 0]:=by
   rw[List.take_add_one];simp[List.getD_eq_getElem?_getD,hlt']
  generalize a.nu.getD i 0=z at *
  refine⟨by omega,?_,fun hb=>?_,fun hb=>⟨i+1,⟨by omega,fun y hy=>?_⟩,by omega,Bb (by omega) (by omega),tt⟩⟩
  ·refine⟨fun k1=>⟨fun hn=>⟨by simp at hn;simp[Gd,k1,hn],tt⟩,fun hn=>⟨fun k2=>by omega,fun k2=>⟨by simp at hn;simp[Gd,k1,hn],tt⟩⟩⟩,fun k1=>⟨fun k2=>⟨by simp[Gd,k2],tt⟩,fun k2=>⟨by simp[Gd,k1,k2],tt⟩⟩⟩
  ·have:a.nu.any (Gd a.k)=true:=List.any_eq_true.2 ⟨z,hmem,hb⟩
   rw[hA,if_neg (by simp[h0]),if_pos this]
   exact⟨rfl,rfl,rfl⟩
  ·rw[htk,List.mem_append] at hy
   rcases hy with hy | hy
   ·exact hi.2 y hy
   ·simp at hy;rw[hy];exact hb
 ·have h0:Cq a.k a.sh a.nu.length a.it.length=0:=by simpa using h
  have hsm:=OA h0
  have hii:i=a.nu.length:=by omega
  rw[hii,List.take_length] at hi
  have hany:¬a.nu.any (Gd a.k)=true:=by
   rw[List.any_eq_true]
   rintro ⟨z,hz,hb⟩
   rw[hi.2 z hz] at hb
   cases hb
  rw[if_neg (by simp[h0]),if_neg hany] at hA
  refine⟨⟨(0,0,(a.nu.length:Int)+a.it.length),⟨Nat.zero_le _,Int.le_refl _,by simp,by simp only;omega,by simp only;omega,by simp⟩,⟨rfl,rfl,Bb (by omega) (by omega)⟩,tt⟩,?_⟩
  rintro ⟨j,d,w⟩ ⟨b1,b2,b3,b4,b5,hch⟩
  simp only at b1 b2 b3 b4 b5 hch ⊢
  refine⟨fun hlt=>⟨by omega,fun x3 _=>?_⟩,fun hge=>?_⟩
  ·have hlt':j<a.it.length:=by omega
   have hbd:=Il (a.it.getD j default)
   rw[ML hlt',G3] at hch
   refine⟨a.it.getD j default,⟨rfl,⟨rfl,fun _ _=>rfl⟩,⟨rfl,fun _ _=>rfl⟩,rfl,fun _ _=>rfl⟩,GR hlt',fun herr=>?_,fun hok=>?_⟩
   ·rw[if_pos herr] at hch
    rw[<- hch] at hA
    rw[hA]
    exact⟨rfl,rfl,rfl⟩
   ·have hok:(BG (a.it.getD j default)).1=0:=by simpa using hok
    rw[if_neg (fun hne=>hne hok)] at hch
    have w1:IntKind.i64.wrap ((BG (a.it.getD j default)).2.1+1)=(BG (a.it.getD j default)).2.1+1:=Bb (by omega) (by omega)
    have w2:IntKind.i64.wrap (w+(BG (a.it.getD j default)).2.2)=w+(BG (a.it.getD j default)).2.2:=Bb (by omega) (by omega)
    rw[w1,w2]
    refine⟨(j+1,(if d<(BG (a.it.getD j default)).2.1+1 then (BG (a.it.getD j default)).2.1+1 else d),(if 262145<w+(BG (a.it.getD j default)).2.2 then 262145 else w+(BG (a.it.getD j default)).2.2)),⟨by simp only;omega,?_,?_,?_,?_,hch⟩,by simp only;omega,⟨Bb (by omega) (by omega),rfl,rfl⟩,tt⟩
    ·simp only;split<;>omega
    ·simp only;split<;>omega
    ·simp only;split<;>omega
    ·simp only;split<;>omega
  ·have hj:j=a.it.length:=by omega
   rw[hj,List.drop_length,G3] at hch
   rw[<- hch] at hA
   simp only at hA
   refine⟨⟨fun h1=>by rw[decide_eq_true h1];rfl,fun h1=>by rw[decide_eq_false h1];rfl⟩,fun hc=>?_,fun hc=>?_⟩
   ·rw[Bool.or_eq_true,decide_eq_true_eq,decide_eq_true_eq] at hc
    rw[if_pos hc] at hA
    rw[hA];exact⟨rfl,rfl,rfl⟩
   ·rw[Bool.or_eq_false_iff,decide_eq_false_iff_not,decide_eq_false_iff_not] at hc
    rw[if_neg (by omega)] at hA
    rw[hA];exact⟨rfl,rfl,rfl⟩
theorem Bgi:∀(a:Arr),a.ok->∀xb,ACalls Tryz.prog 152 ((Iq Arr.row2 xb (fun _=>True)).args a) ((Iq Arr.row2 xb (fun _=>True)).st a) (SpecR (Iq Arr.row2 xb (fun _=>True)) a)
 |.mk k s n is,h,xb=>by
  have h':=h
  simp only[Arr.ok] at h'
  obtain ⟨_,_,_,h1,h2,h3,h4⟩:=h'
  refine Bjt xb (.mk k s n is) ⟨h2,h3,h1⟩ fun b hb=>?_
  have hb':b∈is:=hb
  exact Bgi b ((M3 _).1 h4 b hb') xb
termination_by a=>SizeOf.sizeOf a
decreasing_by
 have:=List.sizeOf_lt_of_mem hb'
 simp;omega
theorem Bme(a:Arr)(ha:a.ok)(xb:Nat)(q:Arr->Prop):ACalls Tryz.prog 152 ((Iq Arr.row1 xb q).args a) ((Iq Arr.row1 xb q).st a) (SpecR (Iq Arr.row1 xb q) a):=by
 refine ((Bgi a ha xb).wkArgs ?_).mono fun _ _ ⟨y,h1,h2,h3⟩=>⟨y,h1,h2,h3⟩
 simp only[Iq,wkL,wkD]
 exact⟨UP a,by simp[Bg,Ba]⟩
def BjK(a:Arr):Con:=fun k ds _=>match k with
 |152=>match ds with
  | [_,.ref _ xb _]=>some (Iq Arr.row1 xb (fun b=>b=a))
  |_=>none
 |_=>none
theorem Bk0{a:Arr}(ha:a.ok):ConOk Tryz.prog (BjK a):=by
 intro k ds S A h
 unfold BjK at h
 split at h
 ·split at h
  ·injection h with h;subst h
   refine ConOk.plain (fun b hb=>?_) rfl rfl
   have hb:b=a:=hb
   rw[hb]
   exact Bme a ha _ _
  ·cases h
 ·cases h
noncomputable def Eri(a:Arr):Senv:=EC (BjK a) 16 7 [] (fun _=>([],[]))
def Qbh(a:Arr):Nat:=LN (Arr.sh a)
def QhV(a:Arr)(b:Nat):List D:=[ZI (GI (Arr.sh a) b)]
def Qbi(a:Arr):Nat:=LN (Arr.nu a)
def QhW(a:Arr)(b:Nat):List D:=[ZI (GI (Arr.nu a) b)]
def Qbj(a:Arr):Nat:=LN (Arr.it a)
def QhX(a:Arr)(b:Nat):List D:=Arr.row (GA (Arr.it a) b)
theorem Bol(a:Arr)(ha:a.ok):ACalls Tryz.prog 123 [.agg a.row1] ⟨[],[]⟩ (SpecR (sC [.agg a.row1] (.int .i64 (BG a).1)) ()):=by
 refine Bf (A:=sC _ _) (x:=()) (E:=Eri a) (eOk (Bk0 ha) rfl) Tryz.func123 rfl (by kernel_rfl) rfl (by simp[sC,Eri,EC,E0]) ?_
 refine Bk (T :=
  ∀(x:Nat),True->∀(x_1:Nat),x≠x_1/\True->SM x_1/\SM x_1/\SM x/\∃(x:Arr),((Arr.k a=Arr.k x/\(Qbh a=Qbh x/\(∀(i:Nat),i<Qbh a->QhV a i=QhV x i)/\True)/\(Qbi a=Qbi x/\(∀(i:Nat),i<Qbi a->QhW a i=QhW x i)/\True)/\(Qbj a=Qbj x/\(∀(i:Nat),i<Qbj a->QhX a i=QhX x i)/\True)/\True)/\SM x_1/\True)/\((SM x_1/\(D.fn (Fn.func (152:Nat)) [] [D.ref (max (N0+N1) N0) x_1 N0]=D.fn (Fn.func (152:Nat)) [] [D.ref N1 x_1 N0]/\True)/\True)/\True)/\x=a/\∀(y:Unit),True->RT (Prod.fst (BG x)=Prod.fst (BG a))) (by kernel_rfl) ?_
 delta DA GA GI LN N0 N1 SM Z0 ZI Qbh QhV Qbi QhW Qbj QhX RT
 intro x _ x1 hx
 exact⟨rfl,rfl,rfl,a,⟨⟨rfl,⟨rfl,fun _ _=>rfl,trivial⟩,⟨rfl,fun _ _=>rfl,trivial⟩,⟨rfl,fun _ _=>rfl,trivial⟩,trivial⟩,rfl,trivial⟩,⟨⟨rfl,⟨rfl,trivial⟩,trivial⟩,trivial⟩,rfl,fun _ _=>⟨trivial,(),trivial,rfl,trivial,trivial⟩⟩
def Bcm(k:Int)(nn ni:Nat):Int:=if k=1\/k=2 then nn else if k=3 then ni else 0
def sRc(row:Arr->List D)(q:Arr->Prop)(r:Arr->D):FnSpec where
 β:=Arr
 α:=Unit
 args:=fun a=>[.agg (row a)]
 st:=fun _=>⟨[],[]⟩
 pre:=q
 post:=fun _ _=>True
 res:=fun a _=>.ret (r a)
 out:=fun _ _=>⟨[],[]⟩
theorem BaZ{k:Nat}{q q':Arr->Prop}{r:Arr->D}{b:Arr}(h:ACalls Tryz.prog k ((sRc Arr.row2 q r).args b) ⟨[],[]⟩ (SpecR (sRc Arr.row2 q r) b)):ACalls Tryz.prog k ((sRc Arr.row1 q' r).args b) ⟨[],[]⟩ (SpecR (sRc Arr.row1 q' r) b):=by
 refine (h.wkArgs ?_).mono fun _ _ ⟨y,h1,h2,h3⟩=>⟨y,h1,h2,h3⟩
 simp only[sRc,wkL,wkD]
 exact⟨UP b,trivial⟩
theorem Bnb(n:Int)(h:Bs n):ACalls Tryz.prog 201 [.int .i64 n] ⟨[],[]⟩ (SpecR (sC [.int .i64 n] (.str (Lib.itoa n))) ()):=by
 refine ACalls.of_shelf_g ⟨_,Tryz.func201,by kernel_rfl,by kernel_rfl⟩ fun C args w ha hG hb=>?_
 obtain ⟨u,e,hu⟩:=CE ha
 have e2:args=[u].toArray:=by rw[<- e]
 subst e2
 simp only[Rep] at hu;subst hu
 have:=Tryz.strconv_Itoa n h.1 h.2 w (R8 hG.1 hb)
 exact this.mono fun e w' ⟨h1,k,os,h2⟩=>⟨⟨_,h1,by simp[Rep]⟩,by subst h2;exact Lib.below_grow _ _ (Nat.le_refl _) _ _⟩
def Bds:Con:=fun k ds S=>match k with
 |201=>match ds with
  | [.int .i64 n]=>some (pC [.int .i64 n] (.str (Lib.itoa n)) (Bs n))
  |_=>none
 |k=>R5 k ds S
theorem RJ:ConOk Tryz.prog Bds:=by
 intro k ds S A h
 unfold Bds at h
 split at h
 ·split at h
  ·injection h with h;subst h
   exact BM fun h1=>⟨Bj _,Bnb _ h1⟩
  ·cases h
 ·exact Tj _ _ _ _ h
theorem Rz{n:Int}(h:Bs n):1<=(Lib.itoa n).length/\(Lib.itoa n).length<=21:=by
 have k:∀u,u<18446744073709551616->1<=(Lib.decDigits u).length/\(Lib.decDigits u).length<=20:=fun u hu=>by
  rw[Lib.decDigits_length];exact⟨Lib.nDigits_pos u,Lib.nDigits_le20 u hu⟩
 unfold Bs at h
 unfold Lib.itoa
 split
 ·have:=k n.natAbs (by omega);simp only[List.length_cons];omega
 ·have:=k n.toNat (by omega);omega
theorem R9:∀u,48<=((Lib.decDigits u).getD 0 0).toNat/\((Lib.decDigits u).getD 0 0).toNat<=57
 |u=>by
  rw[Lib.decDigits]
  by_cases hu:u<10
  ·rw[dif_pos hu,List.getD_cons_zero,UInt8.toNat_ofNat'];omega
  ·rw[dif_neg hu]
   have:=R9 (u / 10)
   have hl:1<=(Lib.decDigits (u / 10)).length:=by rw[Lib.decDigits_length];exact Lib.nDigits_pos _
   rw[List.getD_eq_getElem?_getD,List.getElem?_append_left (l₁:=Lib.decDigits (u / 10)) (i:=0) (by omega),<- List.getD_eq_getElem?_getD]
   exact this
termination_by u=>u
decreasing_by omega
theorem Bia{n:Int}(_:Bs n)(e:(((Lib.itoa n).getD 0 0).toNat:Int)=45):n<0:=by
 unfold Lib.itoa at e
 split at e
 ·assumption
 ·have:=R9 n.toNat
  omega
def Bu(n:Int):List UInt8:=if n<0 then 95::Lib.decDigits n.natAbs else Lib.decDigits n.toNat
noncomputable def Esh(_n:Int):Senv:=EC Bds 13 1 [2,3,8] (fun _=>([],[]))
def QhY(a:Int):List UInt8:=List.drop N1 (List.take (TL (Lib.itoa a)) (Lib.itoa a))
theorem Bmy(n:Int)(h:Bs n):ACalls Tryz.prog 175 [.int .i64 n] ⟨[],[]⟩ (SpecR (sC [.int .i64 n] (.str (Bu n))) ()):=by
 refine Bf (A:=sC _ _) (x:=()) (E:=Esh n) (eOk RJ rfl) Tryz.func175 rfl (by kernel_rfl) rfl (by simp[sC,Esh,EC,E0]) ?_
 refine Bk (T :=
  Bs n/\∀(y:Unit),True->Be (Z0<=Z0/\Z0<(LI (Lib.itoa n))) (ifB ((BI (Lib.itoa n) N0)==45) (Be (Z0<=Z1/\Z1<=(LI (Lib.itoa n))/\(LI (Lib.itoa n))<=(LI (Lib.itoa n))) (Be (N1+LN (QhY n)<=9223372036854775807) (RT ((95:UInt8)::List.append [] (QhY n)=Bu n)))) (RT (Lib.itoa n=Bu n)))) (by kernel_rfl) ?_
 delta BI LI LN N0 N1 TL U0 Z0 Z1 QhY RT
 refine⟨h,fun _ _=>?_⟩
 have hl:=Rz h
 rw[Bc]
 refine⟨by omega,?_⟩
 simp only[Bc,Bh,beq_iff_eq,beq_eq_false_iff_ne,Int.toNat_natCast,List.take_length,true_and,and_true,exists_const]
 refine⟨fun e=>⟨by omega,?_,?_⟩,fun e=>?_⟩
 ·rw[List.length_drop];omega
 ·have hn:n<0:=Bia h (by omega)
  simp only[Bu,Lib.itoa,if_pos hn];rfl
 ·have hn:¬n<0:=fun hn=>by
   have:((Lib.itoa n).getD 0 0).toNat=45:=by simp[Lib.itoa,if_pos hn]
   have e:¬(((Lib.itoa n).getD 0 0).toNat:Int)=45:=by simpa using e
   omega
  simp only[Bu,Lib.itoa,if_neg hn]
theorem MP{n:Int}(h:Bs n):1<=(Bu n).length/\(Bu n).length<=21:=by
 have:=Rz h
 unfold Bu;unfold Lib.itoa at this
 split<;>simp_all
theorem Bbd(n:Int):n.tdiv 10=if n<0 then -((n.natAbs / 10:Nat):Int) else ((n.natAbs / 10:Nat):Int):=by
 cases n with
 |ofNat k=>rw[if_neg (by simp)];rfl
 |negSucc k=>rw[if_pos (Int.negSucc_lt_zero k)];rfl
theorem BpJ(n:Int):n.tmod 10=if n<0 then -((n.natAbs % 10:Nat):Int) else ((n.natAbs % 10:Nat):Int):=by
 cases n with
 |ofNat k=>rw[if_neg (by simp)];rfl
 |negSucc k=>rw[if_pos (Int.negSucc_lt_zero k)];rfl
theorem Bgr:∀k,k<10->List.drop k (List.take (k+1) [48,49,50,51,52,53,54,55,56,57])=[UInt8.ofNat (48+k)]:=by decide
theorem Wx{n:Int}(h:10<=n.natAbs):Bu n=Bu (n.tdiv 10)++[UInt8.ofNat (48+n.natAbs % 10)]:=by
 have e:∀u,10<=u->Lib.decDigits u=Lib.decDigits (u / 10)++[UInt8.ofNat (48+u % 10)]:=fun u hu=>by
  rw[Lib.decDigits,dif_neg (by omega)]
 unfold Bu
 by_cases hn:n<0
 ·have h2:n.tdiv 10 = -((n.natAbs / 10:Nat):Int):=by rw[Bbd,if_pos hn]
  have h1:n.tdiv 10<0:=by omega
  rw[if_pos hn,if_pos h1,e _ h,show (n.tdiv 10).natAbs=n.natAbs / 10 by omega];rfl
 ·have h2:n.tdiv 10=((n.natAbs / 10:Nat):Int):=by rw[Bbd,if_neg hn]
  have h1:¬n.tdiv 10<0:=by omega
  rw[if_neg hn,if_neg h1,e n.toNat (by omega),show (n.tdiv 10).toNat=n.toNat / 10 by omega,show n.toNat=n.natAbs by omega]
def BkI(z:Nat):Con:=fun k ds _S=>match k with
 |222=>match ds with
  | [.int .i64 n]=>some (pC [.int .i64 n] (.str (Bu n)) (Bs n/\n.natAbs<z))
  |_=>none
 |_k=>none
noncomputable def Ers(z:Nat):Senv:=EC (BkI z) 41 1 [2,3,4,10,23] (fun id=>match id with | 7=>([0,1,3,4,5,6,7,2,8,9],[2]) | _=>([],[]))
def Qbk(a:Int):Bool:=bif decide ((-10:Int)<a) then decide (a<Z0) else false
def YG:List UInt8:=[(48:UInt8),(49:UInt8),(50:UInt8),(51:UInt8),(52:UInt8),(53:UInt8),(54:UInt8),(55:UInt8),(56:UInt8),(57:UInt8)]
def QhZ(a:Int):List UInt8:=List.drop (Int.toNat (IntKind.wrap IntKind.i64 (Z0-a))) (List.take (Int.toNat (IntKind.wrap IntKind.i64 (Z1-a))) YG)
def YH(a:Int):List UInt8:=Bu a
def Qbl(a:Int):Bool:=bif decide (Z0<=a) then decide (a<10) else false
def YI(a:Int):Int:=IntKind.wrap IntKind.i64 (Z0-Int.tmod a (10:Int))
def Qbm(a:Int):Int:=IntKind.wrap IntKind.i64 (YI a+Z1)
def Qh0(a:Int):Prop:=Bs (IntKind.wrap IntKind.i64 (Int.tdiv a (10:Int)))/\Int.natAbs (IntKind.wrap IntKind.i64 (Int.tdiv a (10:Int)))<Int.natAbs a
def Qbn(a:Int):List UInt8:=Bu (IntKind.wrap IntKind.i64 (Int.tdiv a (10:Int)))
def Qh1(a:Int):Nat:=LN (Qbn a)
def Qh2(a:Int):List UInt8:=List.drop (Int.toNat (YI a)) (List.take (Int.toNat (Qbm a)) YG)
def Qbo(a:Int):Int:=IntKind.wrap IntKind.i64 (Int.tmod a (10:Int)+Z1)
def Qh3(a:Int):List UInt8:=List.drop (Int.toNat (Int.tmod a (10:Int))) (List.take (Int.toNat (Qbo a)) YG)
theorem BmA(n:Int)(h:Bs n)(hc:ConOk Tryz.prog (BkI n.natAbs)):ACalls Tryz.prog 222 [.int .i64 n] ⟨[],[]⟩ (SpecR (sC [.int .i64 n] (.str (Bu n))) ()):=by
 refine Bf (A:=sC _ _) (x:=()) (E:=Ers n.natAbs) (eOk hc rfl) Tryz.func222 rfl (by kernel_rfl) rfl (by simp[sC,Ers,EC,E0]) ?_
 refine Bk (T :=
  ifB (decide ((-10:Int)<n)) (decide (n<Z0)=Qbk n/\True) (false=Qbk n/\True)/\ifB (Qbk n) (Be (Z0<=IntKind.wrap IntKind.i64 (Z0-n)/\IntKind.wrap IntKind.i64 (Z0-n)<=IntKind.wrap IntKind.i64 (Z1-n)/\IntKind.wrap IntKind.i64 (Z1-n)<=10) (Be (N1+LN (QhZ n)<=9223372036854775807) (RT ((95:UInt8)::List.append [] (QhZ n)=YH n)))) (ifB (decide (Z0<=n)) (decide (n<10)=Qbl n/\True) (false=Qbl n/\True)/\ifB (Qbl n) (Be (Z0<=n/\n<=IntKind.wrap IntKind.i64 (n+Z1)/\IntKind.wrap IntKind.i64 (n+Z1)<=10) (RT (List.drop (Int.toNat n) (List.take (Int.toNat (IntKind.wrap IntKind.i64 (n+Z1))) YG)=YH n))) (ifB (decide (Int.tmod n (10:Int)<Z0)) (True/\Be (Z0<=YI n/\YI n<=Qbm n/\Qbm n<=10) (Qh0 n/\∀(y:Unit),True->Be (Qh1 n+LN (Qh2 n)<=9223372036854775807) (RT (Qbn n++Qh2 n=YH n)))) (True/\Be (Z0<=Int.tmod n (10:Int)/\Int.tmod n (10:Int)<=Qbo n/\Qbo n<=10) (Qh0 n/\∀(y:Unit),True->Be (Qh1 n+LN (Qh3 n)<=9223372036854775807) (RT (Qbn n++Qh3 n=YH n))))))) (by kernel_rfl) ?_
 delta LN N1 Z0 Z1 Qbk Qh1 Qh2 Qbo Qh3 YG QhZ YH Qbl YI Qbm Qh0 Qbn RT
 have h':=h
 unfold Bs at h'
 have hd:=Bbd n
 have ho:=BpJ n
 simp only[Bh,Bool.cond_false_right,Bool.and_eq_true,Bool.and_eq_false_iff,decide_eq_true_eq,decide_eq_false_iff_not,true_and,and_true,exists_const,forall_const]
 refine⟨⟨fun h=>by simp[h],fun h=>by simp[h]⟩,fun ⟨h1,h2⟩=>?_,fun h1=>⟨⟨fun h=>by simp[h],fun h=>by simp[h]⟩,fun ⟨h2,h3⟩=>?_,fun h2=>?_⟩⟩
 ·have e1:IntKind.i64.wrap (0-n)=(n.natAbs:Int):=by rw[Bb (by omega) (by omega)];omega
  have e2:IntKind.i64.wrap (1-n)=((n.natAbs+1:Nat):Int):=by rw[Bb (by omega) (by omega)];omega
  rw[e1,e2]
  rw[Bc]
  refine⟨by omega,?_⟩
  rw[Int.toNat_natCast,Int.toNat_natCast,Bgr _ (by omega)]
  rw[Bc]
  refine⟨by simp,?_⟩
  unfold Bu
  rw[if_pos h2,Lib.decDigits_one (by omega)];rfl
 ·have e2:IntKind.i64.wrap (n+1)=n+1:=Bb (by omega) (by omega)
  rw[e2]
  rw[Bc]
  refine⟨by omega,?_⟩
  rw[show (n+1).toNat=n.toNat+1 by omega,Bgr _ (by omega)]
  unfold Bu
  rw[if_neg (by omega),Lib.decDigits_one (by omega)]
 ·have hb:10<=n.natAbs:=by omega
  have e0:IntKind.i64.wrap (n.tdiv 10)=n.tdiv 10:=by
   refine Bb ?_ ?_<;>(rw[hd];split<;>omega)
  have i0:Bs (n.tdiv 10)/\(n.tdiv 10).natAbs<n.natAbs:=by
   unfold Bs;rw[hd];split<;>omega
  have hl:=(MP i0.1).2
  refine⟨fun h3=>?_,fun h3=>?_⟩
  ·have hn:n<0:=by
    by_cases hn:n<0
    ·exact hn
    ·rw[ho,if_neg hn] at h3;omega
   rw[if_pos hn] at ho
   have e1:IntKind.i64.wrap (0-n.tmod 10)=((n.natAbs % 10:Nat):Int):=by rw[Bb (by omega) (by omega)];omega
   have e2:IntKind.i64.wrap (((n.natAbs % 10:Nat):Int)+1)=((n.natAbs % 10+1:Nat):Int):=by rw[Bb (by omega) (by omega)];omega
   rw[e1,e2,e0]
   rw[Bc]
   refine⟨by omega,i0,?_⟩
   rw[Int.toNat_natCast,Int.toNat_natCast,Bgr _ (by omega)]
   rw[Bc]
   exact⟨by simp only[List.length_cons,List.length_nil];omega,(Wx hb).symm⟩
  ·have e1:n.tmod 10=((n.natAbs % 10:Nat):Int):=by
    rw[ho];split
    ·rename_i hn;rw[ho,if_pos hn] at h3;omega
    ·rfl
   have e2:IntKind.i64.wrap (((n.natAbs % 10:Nat):Int)+1)=((n.natAbs % 10+1:Nat):Int):=by rw[Bb (by omega) (by omega)];omega
   rw[e1,e2,e0]
   rw[Bc]
   refine⟨by omega,i0,?_⟩
   rw[Int.toNat_natCast,Int.toNat_natCast,Bgr _ (by omega)]
   rw[Bc]
   exact⟨by simp only[List.length_cons,List.length_nil];omega,(Wx hb).symm⟩
theorem Boc:∀(z:Nat) (n:Int),Bs n->n.natAbs<z->ACalls Tryz.prog 222 [.int .i64 n] ⟨[],[]⟩ (SpecR (sC [.int .i64 n] (.str (Bu n))) ())
 |0,_,_,hz=>absurd hz (by omega)
 |z+1,n,h,hz=>BmA n h (by
  intro k ds S A hk
  unfold BkI at hk
  split at hk
  ·split at hk
   ·injection hk with hk;subst hk
    exact BM fun ⟨h1,h2⟩=>⟨Bj _,Boc z _ h1 (by omega)⟩
   ·cases hk
  ·cases hk)
theorem Bke(n:Int)(h:Bs n):ACalls Tryz.prog 222 [.int .i64 n] ⟨[],[]⟩ (SpecR (sC [.int .i64 n] (.str (Bu n))) ()):=Boc _ n h (Nat.lt_succ_self _)
def BgK:Con:=fun k ds S=>match k with
 |175=>match ds with
  | [.int .i64 n]=>some (pC [.int .i64 n] (.str (Bu n)) (Bs n))
  |_=>none
 |222=>match ds with
  | [.int .i64 n]=>some (pC [.int .i64 n] (.str (Bu n)) (Bs n))
  |_=>none
 |k=>Bds k ds S
theorem Bdh:ConOk Tryz.prog BgK:=by
 intro k ds S A h
 unfold BgK at h
 split at h
 ·split at h
  ·injection h with h;subst h
   exact BM fun h1=>⟨Bj _,Bmy _ h1⟩
  ·cases h
 ·split at h
  ·injection h with h;subst h
   exact BM fun h1=>⟨Bj _,Bke _ h1⟩
  ·cases h
 ·exact RJ _ _ _ _ h
theorem gTz : Tryz.prog.globalNamed "math/bits.deBruijn64tab" = some 8 := by kernel_rfl
theorem BnJ(w:World)(hc:w.cell? ⟨8,(IntKind.u64.wrap (bits BinOp.and IntKind.u64 16 (IntKind.u64.wrap (-16))*285870213051353865) / 288230376151711744).toNat,none⟩=some (.int .u8 4)):Calls Tryz.prog 235 #[.int .u64 16] w fun e w'=>e=.returned (.int .i64 4)/\Go.RowKit.Below w.heap.size w w':=by
 go_enter Tryz.func235,Tryz.ntmps235
 go_wp2
 all_goals go_ret
 all_goals exact⟨rfl,Go.RowKit.Below.refl _ _⟩
theorem BqA:ACalls Tryz.prog 235 [.int .u64 16] ⟨[],[]⟩ (SpecR (sC [.int .u64 16] (.int .i64 4)) ()):=by
 refine ACalls.of_shelf_g ⟨_,Tryz.func235,by kernel_rfl,by kernel_rfl⟩ fun C args w ha hG hb=>?_
 obtain ⟨u,e,hu⟩:=CE ha
 have e2:args=[u].toArray:=by rw[<- e]
 subst e2
 simp only[Rep] at hu;subst hu
 have ht : Lib.TabIs Tryz.prog w "math/bits.deBruijn64tab" .u8 (Lib.deBruijn64tab.map Int.ofNat) := R8 hG.2.1 hb
 have hc:=ht.cell gTz 15 (by decide)
 exact (BnJ w hc).mono fun e w' ⟨h1,h2⟩=>⟨⟨_,h1,by simp[Rep]⟩,h2⟩
def BiP:Con:=fun k ds S=>match k with
 |235=>some (pC ds (.int .i64 4) (Br ds [.int .u64 16]))
 |k=>Bds k ds S
theorem Bj3:ConOk Tryz.prog BiP:=by
 intro k ds S A h
 unfold BiP at h
 split at h
 ·injection h with h;subst h
  exact BM fun h1=>⟨Bj _,Cb h1 BqA⟩
 ·exact RJ _ _ _ _ h
def BbS(k:Nat):UInt8:=[48,49,50,51,52,53,54,55,56,57,97,98,99,100,101,102].getD k 0
def B6(n:Nat):List UInt8:=if n<16 then [BbS n] else [BbS (n / 16),BbS (n % 16)]
noncomputable def Ehb:Senv:={ EC BiP 102 5 [10,11,12,13,14,15,16,17,18,28,30,34,46,68,89,94] (fun _=>([],[])) with unr:=fun b=>match b with | 0=>2 | _=>0 }
def Qbp:List UInt8:=[(48:UInt8),(49:UInt8),(50:UInt8),(51:UInt8),(52:UInt8),(53:UInt8),(54:UInt8),(55:UInt8),(56:UInt8),(57:UInt8),(97:UInt8),(98:UInt8),(99:UInt8),(100:UInt8),(101:UInt8),(102:UInt8),(103:UInt8),(104:UInt8),(105:UInt8),(106:UInt8),(107:UInt8),(108:UInt8),(109:UInt8),(110:UInt8),(111:UInt8),(112:UInt8),(113:UInt8),(114:UInt8),(115:UInt8),(116:UInt8),(117:UInt8),(118:UInt8),(119:UInt8),(120:UInt8),(121:UInt8),(122:UInt8)]
def Qh4(a:Int):Int:=(BI Qbp (Int.toNat (Int.fdiv a (16:Int))))
def Qh5(a:Int):Int:=(BI Qbp (Int.toNat (Mq IntKind.u64 a (15:Int))))
def Qh6(a:Int):List D:=[ZB (Qh4 a),ZB (Qh5 a)]
def Qa:D:=ZB Z0
def Qh7:Prop:=SM N0/\(∀(i:Nat),i<N0->CN (List D) [] [])/\True
def Qh8(a:Int):Int:=(BI Qbp (Int.toNat a))
def Qh9(a:Int):List D:=[ZB (Qh8 a)]
theorem Bni(n:Int)(h:0<=n/\n<128):ACalls Tryz.prog 228 [.sl 1 0 (fun _=>[]) .nil,.int .u64 n,.int .i64 16,.bool false,.bool false] ⟨[],[]⟩ (SpecR (sC [.sl 1 0 (fun _=>[]) .nil,.int .u64 n,.int .i64 16,.bool false,.bool false] (.tup [.sl 1 0 (fun _=>[]) .nil,.str (B6 n.toNat)])) ()):=by
 refine Bf (A:=sC _ _) (x:=()) (E:=Ehb) (eOk Bj3 rfl) Tryz.func228 rfl (by kernel_rfl) rfl (by simp[sC,Ehb,EC,E0]) ?_
 refine Bk (T :=
  (SM false/\True)/\∀(x:Nat),True->True/\(SM (16:Int)/\True)/\∀(y:Unit),True->ifB (decide ((16:Int)<=n)) (Be (Z0<=Mq IntKind.u64 n (15:Int)/\Mq IntKind.u64 n (15:Int)<36) (SM x/\ifB (decide ((16:Int)<=Int.fdiv n (16:Int))) (Be (Z0<=Mq IntKind.u64 (Int.fdiv n (16:Int)) (15:Int)/\Mq IntKind.u64 (Int.fdiv n (16:Int)) (15:Int)<36) (SM x/\False)) (Be (Z0<=Int.fdiv n (16:Int)/\Int.fdiv n (16:Int)<36) (SM x/\True/\SM x/\chk (List.all (Qh6 n) byteB&&decide (LN (List.take N2 (List.drop (63:Nat) (Qa::Qa::Qa::Qa::Qa::Qa::Qa::Qa::Qa::Qa::Qa::Qa::Qa::Qa::Qa::Qa::Qa::Qa::Qa::Qa::Qa::Qa::Qa::Qa::Qa::Qa::Qa::Qa::Qa::Qa::Qa::Qa::Qa::Qa::Qa::Qa::Qa::Qa::Qa::Qa::Qa::Qa::Qa::Qa::Qa::Qa::Qa::Qa::Qa::Qa::Qa::Qa::Qa::Qa::Qa::Qa::Qa::Qa::Qa::Qa::Qa::Qa::Qa::Qh6 n)))=N2)) (True/\∃(y:Unit),True/\(Qh7/\[UInt8.ofNat (Int.toNat (Qh4 n)),UInt8.ofNat (Int.toNat (Qh5 n))]=B6 (Int.toNat n)/\True)/\True/\True))))) (Be (Z0<=n/\n<36) (SM x/\True/\SM x/\chk (List.all (Qh9 n) byteB&&decide (LN (List.take N1 (List.drop (64:Nat) (Qa::Qa::Qa::Qa::Qa::Qa::Qa::Qa::Qa::Qa::Qa::Qa::Qa::Qa::Qa::Qa::Qa::Qa::Qa::Qa::Qa::Qa::Qa::Qa::Qa::Qa::Qa::Qa::Qa::Qa::Qa::Qa::Qa::Qa::Qa::Qa::Qa::Qa::Qa::Qa::Qa::Qa::Qa::Qa::Qa::Qa::Qa::Qa::Qa::Qa::Qa::Qa::Qa::Qa::Qa::Qa::Qa::Qa::Qa::Qa::Qa::Qa::Qa::Qa::Qh9 n)))=N1)) (True/\∃(y:Unit),True/\(Qh7/\[UInt8.ofNat (Int.toNat (Qh8 n))]=B6 (Int.toNat n)/\True)/\True/\True)))) (by kernel_rfl) ?_
 delta BI LN N0 N1 N2 SM U0 Z0 ZB Qbp Qh4 Qh5 Qh6 Qa Qh7 Qh8 Qh9
 obtain ⟨m,rfl⟩:∃m:Nat,n=m:=⟨n.toNat,by omega⟩
 have hm:m<128:=by omega
 refine⟨⟨rfl,trivial⟩,fun x _=>⟨trivial,⟨rfl,trivial⟩,fun _ _=>?_⟩⟩
 simp only[Bh,Bc,Ba,true_and,and_true,exists_const,decide_eq_true_eq,decide_eq_false_iff_not,Bool.and_eq_true,Int.toNat_natCast,and_false,implies_true]
 have ha:Mq .u64 (m:Int) 15=((m % 16:Nat):Int):=by
  have h1:Mq .u64 (m:Int) ((15:Nat):Int)=((m &&& 15:Nat):Int):=BlJ rfl (by simp only[IntKind.bits];omega) (by simp only[IntKind.bits];omega)
  rw[show ((15:Nat):Int)=15 from rfl] at h1
  rw[h1,show (15:Nat)=2 ^ 4-1 from rfl,Nat.and_two_pow_sub_one_eq_mod]
 have hf:(m:Int).fdiv 16=((m / 16:Nat):Int):=BlP m 16
 have hd:∀k,k<16->([48,49,50,51,52,53,54,55,56,57,97,98,99,100,101,102,103,104,105,106,107,108,109,110,111,112,113,114,115,116,117,118,119,120,121,122]:List UInt8).getD k 0=BbS k:=by decide
 have hb:∀b:UInt8,byteB (.int .u8 (b.toNat:Int))=true:=fun b=>by
  have:=b.toNat_lt
  simp only[byteB,Bool.and_eq_true,decide_eq_true_eq];omega
 simp only[ha,hf,Int.toNat_natCast]
 refine⟨fun h16=>⟨by omega,by omega,fun _=>⟨by omega,⟨?_,rfl⟩,?_⟩⟩,fun h16=>⟨by omega,⟨?_,rfl⟩,?_⟩⟩
 ·rw[hd _ (by omega),hd _ (by omega)];simp only[List.all_cons,List.all_nil,hb];rfl
 ·rw[hd _ (by omega),hd _ (by omega)];simp only[UInt8.ofNat_toNat];unfold B6;rw[if_neg (by omega)]
 ·rw[hd _ (by omega)];simp only[List.all_cons,List.all_nil,hb];rfl
 ·rw[hd _ (by omega)];simp only[UInt8.ofNat_toNat];unfold B6;rw[if_pos (by omega)]
def Bly:Con:=fun k ds S=>match k with
 |228=>match ds with
  | [_,.int .u64 n,_,_,_]=>some (pC ds (.tup [.sl 1 0 (fun _=>[]) .nil,.str (B6 n.toNat)]) (Br ds [.sl 1 0 (fun _=>[]) .nil,.int .u64 n,.int .i64 16,.bool false,.bool false]/\0<=n/\n<128))
  |_=>none
 |k=>BgK k ds S
theorem BkW:ConOk Tryz.prog Bly:=by
 intro k ds S A h
 unfold Bly at h
 split at h
 ·split at h
  ·injection h with h;subst h
   exact BM fun h1=>⟨Bj _,Cb h1.1 (Bni _ h1.2)⟩
  ·cases h
 ·exact Bdh _ _ _ _ h
noncomputable def Ehx:Senv:=EC Bly 8 2 [4] (fun _=>([],[]))
theorem BoD(n:Int)(h:0<=n/\n<128):ACalls Tryz.prog 213 [.int .i64 n,.int .i64 16] ⟨[],[]⟩ (SpecR (sC [.int .i64 n,.int .i64 16] (.str (B6 n.toNat))) ()):=by
 refine Bf (A:=sC _ _) (x:=()) (E:=Ehx) (eOk BkW rfl) Tryz.func213 rfl (by kernel_rfl) rfl (by simp[sC,Ehx,EC,E0]) ?_
 refine Bk (T :=
  (((SM N0/\(∀(i:Nat),i<N0->CN (List D) [] [])/\True)/\SM (IntKind.wrap IntKind.u64 n)/\SM (16:Int)/\decide (n<Z0)=false/\SM false/\True)/\Z0<=IntKind.wrap IntKind.u64 n/\IntKind.wrap IntKind.u64 n<128)/\∀(y:Unit),True->True/\RT (B6 (Int.toNat (IntKind.wrap IntKind.u64 n))=B6 (Int.toNat n))) (by kernel_rfl) ?_
 delta N0 SM Z0 RT
 have e:IntKind.u64.wrap n=n:=by rw[IntKind.wrap_u64];omega
 have e1:decide (n<0)=false:=by simp;omega
 simp only[e,e1]
 simpa using h
def utf8(c:Int):List UInt8:=(Utf8.encode c).data.toList
def Cw(c q:Int):List UInt8 :=
 if c=10 then [92,110] else if c=9 then [92,116] else if c=13 then [92,114] else if c=92\/c=q then 92::utf8 c
 else if c<32\/c=127 then [92,117,123]++B6 c.toNat++[125] else utf8 c
theorem E7(c:Int):(utf8 c).length<=4:=by
 have : ∀c : Nat, ((if c<0x80 then ⟨#[UInt8.ofNat c]⟩
   else if c<0x800 then ⟨#[UInt8.ofNat (0xC0+c / 64),UInt8.ofNat (0x80+c % 64)]⟩
   else if c<0x10000 then ⟨#[UInt8.ofNat (0xE0+c / 4096),UInt8.ofNat (0x80+c / 64 % 64),UInt8.ofNat (0x80+c % 64)]⟩
   else ⟨#[UInt8.ofNat (0xF0+c / 262144),UInt8.ofNat (0x80+c / 4096 % 64),UInt8.ofNat (0x80+c / 64 % 64),UInt8.ofNat (0x80+c % 64)]⟩:ByteArray).data.toList).length<=4:=fun c=>by
  (repeat' split)<;>simp
 exact this _
theorem WL(n:Nat):(B6 n).length<=2:=by unfold B6;split<;>simp
def U3:Con:=fun k ds S=>match k with
 |213=>match ds with
  | [.int .i64 n,.int .i64 16]=>some (pC [.int .i64 n,.int .i64 16] (.str (B6 n.toNat)) (0<=n/\n<128))
  |_=>none
 |k=>BgK k ds S
theorem TU:ConOk Tryz.prog U3:=by
 intro k ds S A h
 unfold U3 at h
 split at h
 ·split at h
  ·injection h with h;subst h
   exact BM fun h1=>⟨Bj _,BoD _ h1⟩
  ·cases h
 ·exact Bdh _ _ _ _ h
noncomputable def Ees:Senv:=EC U3 32 2 [4,5,6,8,10,12,24] (fun _=>([],[]))
def JZ(a b:Int):List UInt8:=Cw a b
def Qbq(a:Int):List UInt8:=Array.toList (ByteArray.data (Utf8.encode a))
def Qia(a b:Int):Prop:=Be (N1+LN (Qbq a)<=9223372036854775807) (True/\∃(_y:Unit),True/\(92:UInt8)::List.append [] (Qbq a)=JZ a b/\True/\True)
def Qbr(a:Int):Bool:=bif decide (a<32) then true else a==127
def Qib(a:Int):List UInt8:=B6 (Int.toNat (IntKind.wrap IntKind.i64 a))
def Qic(a:Int):List UInt8:=List.append [] (Qib a)
def Qid(a b:Int):Prop:=ifB (decide (a<32)) (true=Qbr a/\True) ((a==127)=Qbr a/\True)/\ifB (Qbr a) ((Z0<=IntKind.wrap IntKind.i64 a/\IntKind.wrap IntKind.i64 a<128)/\∀(_y:Unit),True->Be ((3:Nat)+LN (Qib a)<=9223372036854775807) (Be (LN ((92:UInt8)::(117:UInt8)::(123:UInt8)::Qic a)+N1<=9223372036854775807) (True/\∃(_y:Unit),True/\(92:UInt8)::(117:UInt8)::(123:UInt8)::List.append (Qic a) [(125:UInt8)]=JZ a b/\True/\True))) (True/\∃(_y:Unit),True/\Qbq a=JZ a b/\True/\True)
theorem BoT(c q:Int)(h:0<=c/\c<=1114111):ACalls Tryz.prog 202 [.int .i32 c,.int .i32 q] ⟨[],[]⟩ (SpecR (sC [.int .i32 c,.int .i32 q] (.str (Cw c q))) ()):=by
 refine Bf (A:=sC _ _) (x:=()) (E:=Ees) (eOk TU rfl) Tryz.func202 rfl (by kernel_rfl) rfl (by simp[sC,Ees,EC,E0]) ?_
 refine Bk (T :=
  ifB (c==10) (RT ([(92:UInt8),(110:UInt8)]=JZ c q)) (ifB (c==9) (RT ([(92:UInt8),(116:UInt8)]=JZ c q)) (ifB (c==13) (RT ([(92:UInt8),(114:UInt8)]=JZ c q)) (ifB (c==92) (ifB (c==92) (Qia c q) (Qid c q)) (ifB (c==q) (Qia c q) (Qid c q)))))) (by kernel_rfl) ?_
 delta LN N1 Z0 JZ Qbq Qia Qbr Qib Qic Qid RT
 have e:IntKind.i64.wrap c=c:=Bb (by omega) (by omega)
 have l1:=E7 c
 have l2:=WL c.toNat
 unfold utf8 at l1
 have a1:∀l:List UInt8,[].append l=l:=fun _=>rfl
 have a2:∀l r:List UInt8,l.append r=l++r:=fun _ _=>rfl
 simp only[a1,a2,Bh,Bc,e,beq_iff_eq,beq_eq_false_iff_ne,decide_eq_true_eq,decide_eq_false_iff_not,Bool.cond_true_left,Bool.or_eq_true,Bool.or_eq_false_iff,true_and,and_true,exists_const,forall_const,List.length_cons]
 refine⟨fun h=>by subst h;rfl,fun h1=>⟨fun h=>by subst h;rfl,fun h2=>⟨fun h=>by subst h;rfl,fun h3=>⟨fun h4=>⟨fun _=>⟨by omega,?_⟩,fun hh=>(hh h4).elim⟩,fun h4=>⟨fun h5=>⟨by omega,?_⟩,fun h5=>⟨⟨fun h=>by simp[h],fun h=>by simp[h]⟩,fun h6=>⟨by omega,by omega,by omega,?_⟩,fun h6=>?_⟩⟩⟩⟩⟩⟩
 ·unfold Cw;rw[if_neg h1,if_neg h2,if_neg h3,if_pos (.inl h4)];rfl
 ·unfold Cw;rw[if_neg h1,if_neg h2,if_neg h3,if_pos (.inr h5)];rfl
 ·unfold Cw;rw[if_neg h1,if_neg h2,if_neg h3,if_neg (by omega),if_pos h6];rfl
 ·unfold Cw;rw[if_neg h1,if_neg h2,if_neg h3,if_neg (by omega),if_neg (by omega)];rfl
theorem BkT:∀k,k<16->List.drop k (List.take (k+1) ([48,49,50,51,52,53,54,55,56,57,97,98,99,100,101,102]:List UInt8))=[BbS k]:=by decide
noncomputable def Erh1:Senv:=EC E5 22 1 [2,3,5] (fun id=>match id with | 4=>([0,1,3,4,5,6,7,8,9,2,10,11],[2]) | _=>([],[]))
theorem BpS(n:Int)(h:0<=n/\n<16):ACalls Tryz.prog 230 [.int .i64 n] ⟨[],[]⟩ (SpecR (sC [.int .i64 n] (.str [BbS n.toNat])) ()):=by
 refine Bf (A:=sC _ _) (x:=()) (E:={ Erh1 with inl:=fun _ _ _ _=>False }) ⟨Bd2,BJ,mix,fun _ _ _ _ h=>h.elim,Bez⟩ Tryz.func230 rfl (by kernel_rfl) rfl (by simp[sC,Erh1,EC,E0]) ?_
 refine Bk (T :=
  ifB (decide (n<16)) (Be (Z0<=n/\n<=IntKind.wrap IntKind.i64 (n+Z1)/\IntKind.wrap IntKind.i64 (n+Z1)<=16) (RT (List.drop (Int.toNat n) (List.take (Int.toNat (IntKind.wrap IntKind.i64 (n+Z1))) [(48:UInt8),(49:UInt8),(50:UInt8),(51:UInt8),(52:UInt8),(53:UInt8),(54:UInt8),(55:UInt8),(56:UInt8),(57:UInt8),(97:UInt8),(98:UInt8),(99:UInt8),(100:UInt8),(101:UInt8),(102:UInt8)])=[BbS (Int.toNat n)]))) (Be (Z0<=Int.tmod n (16:Int)/\Int.tmod n (16:Int)<=IntKind.wrap IntKind.i64 (Int.tmod n (16:Int)+Z1)/\IntKind.wrap IntKind.i64 (Int.tmod n (16:Int)+Z1)<=16) False)) (by kernel_rfl) ?_
 delta Z0 Z1 RT
 rw[Bh]
 refine⟨fun _=>?_,fun h1=>absurd h.2 (by simpa using h1)⟩
 rw[Bc,Bb (by omega) (by omega)]
 refine⟨by omega,trivial,(),trivial,?_,trivial,trivial⟩
 rw[show (n+1).toNat=n.toNat+1 by omega]
 exact BkT _ (by omega)
def Bkm:Con:=fun k ds S=>match k with
 |230=>match ds with
  | [.int .i64 n]=>some (pC [.int .i64 n] (.str [BbS n.toNat]) (0<=n/\n<16))
  |_=>none
 |k=>U3 k ds S
theorem Bl8:ConOk Tryz.prog Bkm:=by
 intro k ds S A h
 unfold Bkm at h
 split at h
 ·split at h
  ·injection h with h;subst h
   exact BM fun h1=>⟨Bj _,BpS _ h1⟩
  ·cases h
 ·exact TU _ _ _ _ h
noncomputable def Erh2:Senv:=EC Bkm 22 1 [2,3,5] (fun id=>match id with | 4=>([0,1,3,4,5,6,7,8,9,2,10,11],[2]) | _=>([],[]))
def Qie:List UInt8:=[(48:UInt8),(49:UInt8),(50:UInt8),(51:UInt8),(52:UInt8),(53:UInt8),(54:UInt8),(55:UInt8),(56:UInt8),(57:UInt8),(97:UInt8),(98:UInt8),(99:UInt8),(100:UInt8),(101:UInt8),(102:UInt8)]
def Qbs(a:Int):Int:=IntKind.wrap IntKind.i64 (Int.tmod a (16:Int)+Z1)
def Qif(a:Int):List UInt8:=List.drop (Int.toNat (Int.tmod a (16:Int))) (List.take (Int.toNat (Qbs a)) Qie)
theorem Bmv(n:Int)(h:0<=n/\n<128):ACalls Tryz.prog 230 [.int .i64 n] ⟨[],[]⟩ (SpecR (sC [.int .i64 n] (.str (B6 n.toNat))) ()):=by
 refine Bf (A:=sC _ _) (x:=()) (E:=Erh2) (eOk Bl8 rfl) Tryz.func230 rfl (by kernel_rfl) rfl (by simp[sC,Erh2,EC,E0]) ?_
 refine Bk (T :=
  ifB (decide (n<16)) (Be (Z0<=n/\n<=IntKind.wrap IntKind.i64 (n+Z1)/\IntKind.wrap IntKind.i64 (n+Z1)<=16) (RT (List.drop (Int.toNat n) (List.take (Int.toNat (IntKind.wrap IntKind.i64 (n+Z1))) Qie)=B6 (Int.toNat n)))) (Be (Z0<=Int.tmod n (16:Int)/\Int.tmod n (16:Int)<=Qbs n/\Qbs n<=16) ((Z0<=IntKind.wrap IntKind.i64 (Int.tdiv n (16:Int))/\IntKind.wrap IntKind.i64 (Int.tdiv n (16:Int))<16)/\∀(y:Unit),True->Be (N1+LN (Qif n)<=9223372036854775807) (RT (BbS (Int.toNat (IntKind.wrap IntKind.i64 (Int.tdiv n (16:Int))))::List.append [] (Qif n)=B6 (Int.toNat n)))))) (by kernel_rfl) ?_
 delta LN N1 Z0 Z1 Qie Qbs Qif RT
 rw[Bh]
 have ho:n.tmod 16=((n.toNat % 16:Nat):Int):=by
  obtain ⟨m,rfl⟩:∃m:Nat,n=m:=⟨n.toNat,by omega⟩
  rfl
 have hd:n.tdiv 16=((n.toNat / 16:Nat):Int):=by
  obtain ⟨m,rfl⟩:∃m:Nat,n=m:=⟨n.toNat,by omega⟩
  rfl
 refine⟨fun h1=>?_,fun h1=>?_⟩
 ·have h1:n<16:=by simpa using h1
  rw[Bc,Bb (by omega) (by omega)]
  refine⟨by omega,trivial,(),trivial,?_,trivial,trivial⟩
  rw[show (n+1).toNat=n.toNat+1 by omega,BkT _ (by omega)]
  unfold B6;rw[if_pos (by omega)]
 ·have h1:¬n<16:=by simpa using h1
  have e1:IntKind.i64.wrap (((n.toNat % 16:Nat):Int)+1)=((n.toNat % 16+1:Nat):Int):=by rw[Bb (by omega) (by omega)];omega
  have e2:IntKind.i64.wrap ((n.toNat / 16:Nat):Int)=((n.toNat / 16:Nat):Int):=Bb (by omega) (by omega)
  rw[ho,hd,e1,e2,Bc]
  refine⟨by omega,by omega,fun _ _=>?_⟩
  rw[Int.toNat_natCast,Int.toNat_natCast,Int.toNat_natCast,BkT _ (by omega),Bc]
  refine⟨by simp,trivial,(),trivial,?_,trivial,trivial⟩
  unfold B6;rw[if_neg (by omega)];rfl
def BcG:Con:=fun k ds S=>match k with
 |230=>match ds with
  | [.int .i64 n]=>some (pC [.int .i64 n] (.str (B6 n.toNat)) (0<=n/\n<128))
  |_=>none
 |202=>match ds with
  | [.int .i32 c,.int .i32 q]=>some (pC [.int .i32 c,.int .i32 q] (.str (Cw c q)) (0<=c/\c<=1114111))
  |_=>none
 |k=>U3 k ds S
theorem RF:ConOk Tryz.prog BcG:=by
 intro k ds S A h
 unfold BcG at h
 split at h
 ·split at h
  ·injection h with h;subst h
   exact BM fun h1=>⟨Bj _,Bmv _ h1⟩
  ·cases h
 ·split at h
  ·injection h with h;subst h
   exact BM fun h1=>⟨Bj _,BoT _ _ h1⟩
  ·cases h
 ·exact TU _ _ _ _ h
noncomputable def Erx:Senv:=EC BcG 33 2 [4,5,6,8,10,12,25] (fun _=>([],[]))
def J0(a b:Int):List UInt8:=Cw a b
def Qbt(a:Int):List UInt8:=Array.toList (ByteArray.data (Utf8.encode (IntKind.wrap IntKind.i32 a)))
def Qig(a b:Int):Prop:=Be (N1+LN (Qbt a)<=9223372036854775807) (True/\∃(_y:Unit),True/\(92:UInt8)::List.append [] (Qbt a)=J0 a b/\True/\True)
def Qbu(a:Int):Bool:=bif decide (a<32) then true else a==127
def Qih(a:Int):List UInt8:=List.append [] (B6 (Int.toNat a))
def Qii(a b:Int):Prop:=ifB (decide (a<32)) (true=Qbu a/\True) ((a==127)=Qbu a/\True)/\ifB (Qbu a) ((Z0<=a/\a<128)/\∀(_y:Unit),True->Be ((3:Nat)+LN (B6 (Int.toNat a))<=9223372036854775807) (Be (LN ((92:UInt8)::(117:UInt8)::(123:UInt8)::Qih a)+N1<=9223372036854775807) (True/\∃(_y:Unit),True/\(92:UInt8)::(117:UInt8)::(123:UInt8)::List.append (Qih a) [(125:UInt8)]=J0 a b/\True/\True))) (True/\∃(_y:Unit),True/\Qbt a=J0 a b/\True/\True)
theorem Bj0(c q:Int)(h:0<=c/\c<=1114111):ACalls Tryz.prog 223 [.int .i64 c,.int .i64 q] ⟨[],[]⟩ (SpecR (sC [.int .i64 c,.int .i64 q] (.str (Cw c q))) ()):=by
 refine Bf (A:=sC _ _) (x:=()) (E:=Erx) (eOk RF rfl) Tryz.func223 rfl (by kernel_rfl) rfl (by simp[sC,Erx,EC,E0]) ?_
 refine Bk (T :=
  ifB (c==10) (RT ([(92:UInt8),(110:UInt8)]=J0 c q)) (ifB (c==9) (RT ([(92:UInt8),(116:UInt8)]=J0 c q)) (ifB (c==13) (RT ([(92:UInt8),(114:UInt8)]=J0 c q)) (ifB (c==92) (ifB (c==92) (Qig c q) (Qii c q)) (ifB (c==q) (Qig c q) (Qii c q)))))) (by kernel_rfl) ?_
 delta LN N1 Z0 J0 Qbt Qig Qbu Qih Qii RT
 have e:IntKind.i32.wrap c=c:=by rw[IntKind.wrap_i32];omega
 have l1:=E7 c
 have l2:=WL c.toNat
 unfold utf8 at l1
 have a1:∀l:List UInt8,[].append l=l:=fun _=>rfl
 have a2:∀l r:List UInt8,l.append r=l++r:=fun _ _=>rfl
 simp only[a1,a2,Bh,Bc,e,beq_iff_eq,beq_eq_false_iff_ne,decide_eq_true_eq,decide_eq_false_iff_not,Bool.cond_true_left,Bool.or_eq_true,Bool.or_eq_false_iff,true_and,and_true,exists_const,forall_const,List.length_cons]
 refine⟨fun h=>by subst h;rfl,fun h1=>⟨fun h=>by subst h;rfl,fun h2=>⟨fun h=>by subst h;rfl,fun h3=>⟨fun h4=>⟨fun _=>⟨by omega,?_⟩,fun hh=>(hh h4).elim⟩,fun h4=>⟨fun h5=>⟨by omega,?_⟩,fun h5=>⟨⟨fun h=>by simp[h],fun h=>by simp[h]⟩,fun h6=>⟨by omega,by omega,by omega,?_⟩,fun h6=>?_⟩⟩⟩⟩⟩⟩
 ·unfold Cw;rw[if_neg h1,if_neg h2,if_neg h3,if_pos (.inl h4)];rfl
 ·unfold Cw;rw[if_neg h1,if_neg h2,if_neg h3,if_pos (.inr h5)];rfl
 ·unfold Cw;rw[if_neg h1,if_neg h2,if_neg h3,if_neg (by omega),if_pos h6];rfl
 ·unfold Cw;rw[if_neg h1,if_neg h2,if_neg h3,if_neg (by omega),if_neg (by omega)];rfl
theorem Cp(l:List UInt8):bytesOf l.length (fun i=>[.int .u8 ((l.getD i 0).toNat:Int)])=l:=by
 apply List.ext_getElem
 ·simp[bytesOf]
 ·intro i h1 h2
  simp only[bytesOf,List.getElem_map,List.getElem_range,MG,Ab.byteOf,List.getD_eq_getElem?_getD,List.getElem?_eq_getElem h2,Option.getD_some,Int.toNat_natCast,UInt8.ofNat_toNat]
theorem Ix(l:List UInt8):Cg l.length (fun i=>[.int .u8 ((l.getD i 0).toNat:Int)])=true:=by
 simp only[Cg,List.all_eq_true,List.mem_range]
 intro i _
 have:=(l.getD i 0).toNat_lt
 simp only[BkZ,Ab.byteB,Bool.and_eq_true,decide_eq_true_eq];omega
theorem OF{n:Nat}{g:Nat->List D}{m:Ab.Mode}(h:Cg n g=true):Bg (.sl 1 n g m) (bsl (bytesOf n g) m):=by
 simp only[bsl,Bg,Ba]
 refine⟨by simp,by simp[bytesOf],fun i hi=>?_,Oq m⟩
 have hb:BkZ (g i)=true:=List.all_eq_true.1 h i (List.mem_range.2 hi)
 have hg:(bytesOf n g).getD i 0=MG (g i):=by simp[bytesOf,List.getD_eq_getElem?_getD,hi]
 rw[hg]
 unfold BkZ at hb
 split at hb
 ·rename_i d hd
  rw[hd]
  have:=WA hb
  simp only[MG]
  rw[<- this]
 ·cases hb
theorem BmI(l r:List UInt8){i:Nat}(_hi:i<l.length+r.length):BW l.length (fun i=>[D.int .u8 ((l.getD i 0).toNat:Int)]) (fun i=>[D.int .u8 ((r.getD i 0).toNat:Int)]) i=[D.int .u8 (((l++r).getD i 0).toNat:Int)]:=by
 simp only[BW]
 split
 ·rename_i hlt
  simp[List.getD_eq_getElem?_getD,List.getElem?_append_left hlt]
 ·rename_i hge
  simp[List.getD_eq_getElem?_getD,List.getElem?_append_right (Nat.le_of_not_lt hge)]
theorem BbL{n : Nat}{l r : List UInt8}{F G : Nat -> List D}(hn : n=l.length)(hF : ∀i, i<n -> F i=[D.int .u8 ((l.getD i 0).toNat : Int)])(hG : ∀i, i<r.length -> G i=[D.int .u8 ((r.getD i 0).toNat : Int)]) :
  ∀i,i<n+r.length->BW n F G i=[D.int .u8 (((l++r).getD i 0).toNat:Int)]:=by
 intro i hi
 subst hn
 rw[<- BmI l r hi]
 simp only[BW]
 split
 ·exact hF i (by assumption)
 ·exact hG _ (by omega)
theorem BcK{n : Nat}{l : List UInt8}{F : Nat -> List D}{z : Int}{b : UInt8}(hn : n=l.length)(hF : ∀i, i<n -> F i=[D.int .u8 ((l.getD i 0).toNat : Int)])(h : z=(b.toNat : Int)) :
  ∀i,i<n+1->BW n F (fun i=>[[D.int .u8 z]].getD i []) i=[D.int .u8 (((l++[b]).getD i 0).toNat:Int)]:=by
 intro i hi
 subst hn
 simp only[BW]
 split
 ·rename_i hlt
  rw[hF i hlt]
  simp[List.getD_eq_getElem?_getD,List.getElem?_append_left hlt]
 ·have:i=l.length:=by omega
  subst this
  simp[List.getD_eq_getElem?_getD,h]
def ET(q:Int)(l:List Int):List UInt8:=l.flatMap fun c=>Cw c q
def Gn(q:Int)(l:List Int):List UInt8:=utf8 q++ET q l++utf8 q
theorem Bdp(c q:Int):(Cw c q).length<=6:=by
 have h1:=E7 c
 have h2:=WL c.toNat
 unfold Cw
 (repeat' split)<;>(try simp only[List.length_cons,List.length_nil,List.length_append])<;>omega
theorem O4(q:Int):∀l:List Int,(ET q l).length<=6*l.length
 | []=>by simp[ET]
 |c::l=>by
  have h1:=Bdp c q
  have h2:=O4 q l
  simp only[ET,List.flatMap_cons,List.length_append,List.length_cons] at h2 ⊢
  omega
theorem MQ(q c:Int)(l:List Int):ET q (c::l)=Cw c q++ET q l:=by simp[ET]
theorem W3(q:Int):ET q []=[]:=rfl
theorem Bjd{l:List Int}{i:Nat}(h:i<l.length):l.getD i 0∈l:=by
 rw[List.getD_eq_getElem?_getD,List.getElem?_eq_getElem h];simp
structure QHd (q:Int) (l:List Int) (i:Nat) (pre out:List UInt8):Prop where
 hi:i<=l.length
 ho:out++ET q (l.drop i)=pre++ET q l
theorem QHd.init(q:Int)(l:List Int)(pre:List UInt8):QHd q l 0 pre pre:=⟨Nat.zero_le _,by simp⟩
theorem QHd.step{q:Int}{l:List Int}{i:Nat}{pre out:List UInt8}(h:QHd q l i pre out)(hlt:i<l.length):QHd q l (i+1) pre (out++Cw (l.getD i 0) q):=by
 refine⟨by omega,?_⟩
 rw[<- h.ho,Ox hlt,MQ,List.append_assoc]
theorem QHd.len{q:Int}{l:List Int}{i:Nat}{pre out:List UInt8}(h:QHd q l i pre out):out.length<=pre.length+6*l.length:=by
 have:=congrArg List.length h.ho
 have:=O4 q l
 simp only[List.length_append] at *; omega
theorem QHd.done{q:Int}{l:List Int}{i:Nat}{pre out:List UInt8}(h:QHd q l i pre out)(hge:¬i<l.length):out=pre++ET q l:=by
 have:=h.ho
 rw[List.drop_of_length_le (by omega),W3,List.append_nil] at this
 exact this
noncomputable def Equ(q:Int)(l:List Int):Senv:={ EC BcG 27 2 [4,5,7,10,11,12,13] (fun _=>([],[])) with
 ann:=fun b _ _=>match b with
  |0=>some { slots:=[12,5],keep:=[0,1,10,11],α:=Nat×List UInt8,st:=fun y=>([.int .i64 y.1,.str y.2],⟨[],[]⟩),inv:=fun y=>QHd q l y.1 (utf8 q) y.2,mu:=fun y=>l.length-y.1 }
  |_=>none }
def Qbv(a:Int)(b:List Int)(c:Nat)(d:List UInt8):Prop:=QHd a b c (utf8 a) d
def Qbw(a:Int):List UInt8:=Array.toList (ByteArray.data (Utf8.encode a))
def Qbx(a:List Int)(b:Nat):Int:=IntKind.wrap IntKind.i32 (GI a (Int.toNat (↑b:Int)))
def Qij(a:List Int)(b:Nat)(c:Int):List UInt8:=Cw (Qbx a b) c
def QuY(a:List Int):D:=SI a
def Qik(a:List Int):Prop:=SM (QuY a)
theorem BpA(q:Int)(l:List Int)(hl:l.length<=1099511627776)(hc:∀c∈l,0<=c/\c<=1114111):ACalls Tryz.prog 176 [.int .i32 q,isl l .any] ⟨[],[]⟩ (SpecR (sC [.int .i32 q,isl l .any] (.str (Gn q l))) ()):=by
 refine Bf (A:=sC _ _) (x:=()) (E:=Equ q l) (eOk RF rfl) Tryz.func176 rfl (by kernel_rfl) rfl (by simp[sC,Equ,EC,E0]) ?_
 refine Bk (T :=
  (∃(x:Nat×List UInt8),Qbv q l x.1 x.2/\(Z0=(NI x.1)/\Qbw q=x.2/\True)/\True/\True)/\∀(x:Nat×List UInt8),Qbv q l x.1 x.2->ifB (decide ((NI x.1)<(LI l))) (Be (Z0<=(NI x.1)/\(NI x.1)<(LI l)) ((Z0<=Qbx l x.1/\Qbx l x.1<=1114111)/\∀(y:Unit),True->Be (LN x.2+LN (Qij l x.1 q)<=9223372036854775807) ((SM (D.int IntKind.i32 q)/\Qik l/\Qik l/\SM (ZI (LI l))/\True)/\∃(y:Nat×List UInt8),Qbv q l y.1 y.2/\LN l-y.1<LN l-x.1/\(IntKind.wrap IntKind.i64 ((NI x.1)+Z1)=(NI y.1)/\x.2++Qij l x.1 q=y.2/\True)/\True/\True))) (Be (LN x.2+LN (Qbw q)<=9223372036854775807) (RT (x.2++Qbw q=Gn q l)))) (by kernel_rfl) ?_
 delta GI LI LN N1 NI SI SM Z0 Z1 ZI Qbv Qbw Qbx Qij QuY Qik RT
 have hu:∀c,(Utf8.encode c).data.toList=utf8 c:=fun _=>rfl
 simp only[hu,Bh,Bc,decide_eq_true_eq,true_and,and_true,exists_const,forall_const,Int.toNat_natCast,eq_self]
 refine⟨⟨(0,utf8 q),QHd.init _ _ _,rfl,rfl⟩,?_⟩
 rintro ⟨i,out⟩ hh
 simp only at hh ⊢
 have h1:=hh.len
 have h2:=E7 q
 refine⟨fun hlt=>?_,fun hge=>?_⟩
 ·have hlt':i<l.length:=by omega
  have hci:=hc (l.getD i 0) (Bjd hlt')
  have e:IntKind.i32.wrap (l.getD i 0)=l.getD i 0:=by rw[IntKind.wrap_i32];omega
  have h3:=Bdp (l.getD i 0) q
  rw[e]
  exact⟨by omega,hci,by omega,(i+1,out++Cw (l.getD i 0) q),hh.step hlt',by simp only;omega,Bb (by omega) (by omega),rfl⟩
 ·have hge':¬i<l.length:=by simpa using hge
  have h3:=O4 q l
  rw[hh.done hge']
  exact⟨by simp only[List.length_append];omega,rfl⟩
def BiS:Con:=fun k ds S=>match k with
 |223=>match ds with
  | [.int .i64 c,.int .i64 q]=>some (pC [.int .i64 c,.int .i64 q] (.str (Cw c q)) (0<=c/\c<=1114111))
  |_=>none
 |k=>BcG k ds S
theorem BkA:ConOk Tryz.prog BiS:=by
 intro k ds S A h
 unfold BiS at h
 split at h
 ·split at h
  ·injection h with h;subst h
   exact BM fun h1=>⟨Bj _,Bj0 _ _ h1⟩
  ·cases h
 ·exact RF _ _ _ _ h
def BZ(c:Nat):Prop:=c<55296\/(57344<=c/\c<=1114111)
theorem Ml{c:Nat}:Utf8.valid (c:Int)=true↔BZ c:=by
 unfold Utf8.valid BZ
 simp only[Bool.or_eq_true,Bool.and_eq_true,decide_eq_true_eq]
 omega
def Bfg(c:Nat):List UInt8 :=
 if c<128 then [UInt8.ofNat c]
 else if c<2048 then [UInt8.ofNat (192+c / 64),UInt8.ofNat (128+c % 64)]
 else if c<65536 then [UInt8.ofNat (224+c / 4096),UInt8.ofNat (128+c / 64 % 64),UInt8.ofNat (128+c % 64)]
 else [UInt8.ofNat (240+c / 262144),UInt8.ofNat (128+c / 4096 % 64),UInt8.ofNat (128+c / 64 % 64),UInt8.ofNat (128+c % 64)]
theorem IC{c:Nat}(h:BZ c):utf8 (c:Int)=Bfg c:=by
 unfold utf8 Utf8.encode Bfg
 rw[if_pos (Ml.2 h)]
 simp only[Int.toNat_natCast]
 repeat' split
 all_goals rfl
theorem BX(n:Nat)(h:n<256):(UInt8.ofNat n).toNat=n:=by rw[UInt8.toNat_ofNat'];omega
theorem BlD{c:Nat}(h:BZ c)(x:List UInt8):Cn (utf8 (c:Int)++x)=(c,(utf8 (c:Int)).length):=by
 rw[IC h]
 unfold BZ at h
 unfold Bfg Cn
 split
 ·rename_i h1
  simp only[List.cons_append,List.nil_append,List.getD_cons_zero,List.length_cons,List.length_nil]
  rw[BX c (by omega)]
  unfold Lib.decodeN
  rw[if_pos h1]
 split
 ·rename_i h1 h2
  simp only[List.cons_append,List.nil_append,List.getD_cons_zero,List.getD_cons_succ,List.length_cons,List.length_nil]
  rw[BX (192+c / 64) (by omega),BX (128+c % 64) (by omega)]
  unfold Lib.decodeN
  rw[if_neg (by omega),if_pos (by omega),if_pos (by omega)]
  refine Prod.ext ?_ rfl
  simp only;omega
 split
 ·rename_i h1 h2 h3
  simp only[List.cons_append,List.nil_append,List.getD_cons_zero,List.getD_cons_succ,List.length_cons,List.length_nil]
  rw[BX (224+c / 4096) (by omega),BX (128+c / 64 % 64) (by omega),BX (128+c % 64) (by omega)]
  unfold Lib.decodeN
  have e:(224+c / 4096) % 16*4096+(128+c / 64 % 64) % 64*64+(128+c % 64) % 64=c:=by omega
  rw[e,if_neg (by omega),if_neg (by omega),if_pos (by omega),if_pos (by omega)]
 ·rename_i h1 h2 h3
  simp only[List.cons_append,List.nil_append,List.getD_cons_zero,List.getD_cons_succ,List.length_cons,List.length_nil]
  rw[BX (240+c / 262144) (by omega),BX (128+c / 4096 % 64) (by omega),BX (128+c / 64 % 64) (by omega),BX (128+c % 64) (by omega)]
  unfold Lib.decodeN
  have e:(240+c / 262144) % 8*262144+(128+c / 4096 % 64) % 64*4096+(128+c / 64 % 64) % 64*64+(128+c % 64) % 64=c:=by omega
  rw[e,if_neg (by omega),if_neg (by omega),if_neg (by omega),if_pos (by omega),if_pos (by omega)]
theorem Bm4(c:Int):utf8 c≠[]:=by
 have : ∀c : Nat, ((if c<0x80 then ⟨#[UInt8.ofNat c]⟩
   else if c<0x800 then ⟨#[UInt8.ofNat (0xC0+c / 64),UInt8.ofNat (0x80+c % 64)]⟩
   else if c<0x10000 then ⟨#[UInt8.ofNat (0xE0+c / 4096),UInt8.ofNat (0x80+c / 64 % 64),UInt8.ofNat (0x80+c % 64)]⟩
   else ⟨#[UInt8.ofNat (0xF0+c / 262144),UInt8.ofNat (0x80+c / 4096 % 64),UInt8.ofNat (0x80+c / 64 % 64),UInt8.ofNat (0x80+c % 64)]⟩:ByteArray).data.toList)≠[]:=fun c=>by
  (repeat' split)<;>simp
 exact this _
theorem BeW{c:Nat}(h:c<128):utf8 (c:Int)=[UInt8.ofNat c]:=by
 rw[IC (.inl (by omega))]
 unfold Bfg
 rw[if_pos h]
theorem Bhn{c:Nat}(h:BZ c)(x:List UInt8):(c<128->(utf8 (c:Int)++x).getD 0 0=UInt8.ofNat c)/\(128<=c->128<=((utf8 (c:Int)++x).getD 0 0).toNat):=by
 refine⟨fun hc=>by rw[BeW hc];rfl,fun hc=>?_⟩
 rw[IC h]
 unfold BZ at h
 unfold Bfg
 rw[if_neg (by omega)]
 split
 ·show 128<=(UInt8.ofNat _).toNat
  rw[BX _ (by omega)];omega
 split
 ·show 128<=(UInt8.ofNat _).toNat
  rw[BX _ (by omega)];omega
 ·show 128<=(UInt8.ofNat _).toNat
  rw[BX _ (by omega)];omega
theorem Bnv:∀n,n<128->(B6 n).all B0=true/\hxV (B6 n) 0=n/\1<=(B6 n).length/\(B6 n).length<=2:=by
 have:((List.range 128).all fun n=>(B6 n).all B0&&(hxV (B6 n) 0==n)&&decide (1<=(B6 n).length)&&decide ((B6 n).length<=2))=true:=by decide +kernel
 intro n hn
 have:=List.all_eq_true.1 this n (List.mem_range.2 hn)
 simp only[Bool.and_eq_true,beq_iff_eq,decide_eq_true_eq] at this
 exact⟨this.1.1.1,this.1.1.2,this.1.2,this.2⟩
theorem BkR{p:UInt8->Bool}{b:UInt8}{x:List UInt8}(hb:p b=false):∀w:List UInt8,w.all p=true->(w++b::x).takeWhile p=w
 | [],_=>by simp[hb]
 |c::w,h=>by
  simp only[List.all_cons,Bool.and_eq_true] at h
  simp only[List.cons_append,List.takeWhile_cons,h.1,if_true]
  rw[BkR hb w h.2]
theorem Bjb{n:Nat}(h:n<128)(x:List UInt8):Es (123::(B6 n++125::x))=some (n,(B6 n).length+2):=by
 obtain ⟨h1,h2,h3,h4⟩:=Bnv n h
 have e:(123::(B6 n++125::x)).drop 1=B6 n++125::x:=rfl
 have ew:(B6 n++125::x).takeWhile B0=B6 n:=BkR (by rfl) _ h1
 unfold Es
 rw[if_pos (show (123::(B6 n++125::x)).getD 0 0=123 from rfl)]
 simp only[e,ew]
 have ed:(123::(B6 n++125::x)).drop (1+(B6 n).length)=125::x:=by
  rw[Nat.add_comm,List.drop_succ_cons,List.drop_left]
 rw[ed,h2,if_pos ⟨h3,by omega,rfl,Ml.2 (.inl (by omega))⟩]
theorem BfJ{c : Nat}(h : BZ c){q : Int}(hq : q=34 \/ q=39)(x : List UInt8) :
  Gh (Cw c q++x)=some (c,(Cw c q).length)/\UB (Cw c q++x)=false/\(Cw c q++x).getD 0 0≠UInt8.ofNat q.toNat:=by
 have hq0:UInt8.ofNat q.toNat≠92:=by rcases hq with rfl | rfl<;>decide
 unfold Cw
 split
 ·rename_i h1
  have:c=10:=by omega
  subst this
  exact⟨rfl,rfl,fun e=>hq0 e.symm⟩
 split
 ·rename_i h1
  have:c=9:=by omega
  subst this
  exact⟨rfl,rfl,fun e=>hq0 e.symm⟩
 split
 ·rename_i h1
  have:c=13:=by omega
  subst this
  exact⟨rfl,rfl,fun e=>hq0 e.symm⟩
 split
 ·rename_i h1
  have h1:c=92\/c=34\/c=39:=by omega
  refine⟨?_,rfl,fun e=>hq0 e.symm⟩
  rcases h1 with rfl | rfl | rfl<;>rfl
 split
 ·rename_i h1
  have hc:c<128:=by omega
  refine⟨?_,rfl,fun e=>hq0 e.symm⟩
  have e:[92,117,123]++B6 (c:Int).toNat++[125]++x=92::117::123::(B6 c++125::x):=by simp
  rw[e]
  have e2:Gh (92::117::123::(B6 c++125::x))=(Es (123::(B6 c++125::x))).map fun y=>(y.1,y.2+2):=rfl
  rw[e2,Bjb hc]
  simp
 ·rename_i h1 h2 h3 h4 h5
  have hd:=BlD h x
  obtain ⟨hh1,hh2⟩:=Bhn h x
  have hn92:(utf8 (c:Int)++x).getD 0 0≠92/\¬((utf8 (c:Int)++x).getD 0 0).toNat<32/\(utf8 (c:Int)++x).getD 0 0≠10/\(utf8 (c:Int)++x).getD 0 0≠UInt8.ofNat q.toNat:=by
   by_cases hc:c<128
   ·have e:=hh1 hc
    have e2:((utf8 (c:Int)++x).getD 0 0).toNat=c:=by rw[e,BX c (by omega)]
    refine⟨fun h=>?_,by omega,fun h=>?_,fun h=>?_⟩
    ·rw[h] at e2;simp at e2;omega
    ·rw[h] at e2;simp at e2;omega
    ·rw[h] at e2
     rcases hq with rfl | rfl
     ·simp at e2;omega
     ·simp at e2;omega
   ·have e:=hh2 (by omega)
    refine⟨fun h=>?_,by omega,fun h=>?_,fun h=>?_⟩
    ·rw[h] at e;simp at e
    ·rw[h] at e;simp at e
    ·rw[h] at e
     rcases hq with rfl | rfl<;>simp at e
  refine⟨?_,?_,hn92.2.2.2⟩
  ·unfold Gh
   rw[if_neg hn92.1,if_neg hn92.2.1,hd,if_neg ?_]
   intro e
   injection e with e1 e2
   subst e1
   rw[IC h] at e2
   exact absurd e2 (by decide)
  ·unfold UB
   have hne:(utf8 (c:Int)++x).isEmpty=false:=by
    cases hu:utf8 (c:Int) with
    |nil=>exact (Bm4 _ hu).elim
    |cons=>rfl
   rw[hne]
   simpa using hn92.2.2.1
def BaJ(cs:List Nat):List UInt8:=cs.flatMap fun c:Nat=>utf8 (c:Int)
theorem BeY(c:Nat)(cs:List Nat):BaJ (c::cs)=utf8 (c:Int)++BaJ cs:=by simp[BaJ]
theorem Bjm{r:List UInt8}(h:Cn r≠(65533,1)):BZ (Cn r).1:=by
 revert h
 unfold Cn BZ Lib.decodeN
 repeat' split
 all_goals (intro h;simp only at h ⊢; first | omega | exact (h rfl).elim)
theorem Bhr{r:List UInt8}{c w:Nat}(h:Es r=some (c,w)):BZ c:=by
 unfold Es at h
 split at h
 ·simp only at h
  split at h
  ·rename_i hc
   injection h with h;injection h with ha hb
   rw[<- ha]
   exact Ml.1 hc.2.2.2
  ·cases h
 ·cases h
theorem Bjr{r:List UInt8}{c w:Nat}(h:Bb7 r=some (c,w)):BZ c:=by
 unfold Bb7 at h
 simp only at h
 split at h
 ·injection h with h;injection h with ha hb;rw[<- ha];exact .inl (by decide)
 split at h
 ·injection h with h;injection h with ha hb;rw[<- ha];exact .inl (by decide)
 split at h
 ·injection h with h;injection h with ha hb;rw[<- ha];exact .inl (by decide)
 split at h
 ·injection h with h;injection h with ha hb
  have:=(r.getD 1 0).toNat_lt
  exact .inl (by omega)
 split at h
 ·cases hc:Es (r.drop 2) with
  |none=>rw[hc] at h;cases h
  |some x =>
   rw[hc] at h
   injection h with h;injection h with ha hb
   rw[<- ha]
   exact Bhr (c:=x.1) (w:=x.2) hc
 ·cases h
theorem Bdn{r:List UInt8}{c w:Nat}(h:Gh r=some (c,w)):BZ c:=by
 unfold Gh at h
 split at h
 ·exact Bjr h
 split at h
 ·cases h
 split at h
 ·cases h
 ·rename_i hd
  injection h with h
  have:=Bjm hd
  rw[h] at this
  exact this
theorem Bde{k n m:Int}{a b:Nat}{t u:List UInt8}(h1:a=b)(h2:n=m)(h3:t=u):(Except.ok (k,a,n,t):Lex)=.ok (k,b,m,u):=by rw[h1,h2,h3]
theorem Bax{k:Nat}(h:k<10):dig (UInt8.ofNat (48+k))=true/\(UInt8.ofNat (48+k)).toNat-48=k:=by
 have:=BX (48+k) (by omega)
 unfold dig
 rw[this]
 refine⟨by simp;omega,by omega⟩
theorem OX:∀(a b:List UInt8) (n:Nat),IK (a++b) n=(IK a n).bind (IK b)
 | [],_,_=>rfl
 |x::a,b,n=>by
  simp only[List.cons_append,IK]
  split
  ·exact OX a b _
  ·rfl
theorem Bb5:∀k:Nat,(Lib.decDigits k).all dig=true/\Lib.decDigits k≠[]/\(k<=GX->IK (Lib.decDigits k) 0=some k):=by
 intro k
 induction k using Nat.strongRecOn with
 |_ k ih =>
  rw[Lib.decDigits]
  split
  ·rename_i h
   obtain ⟨h1,h2⟩:=Bax h
   refine⟨by simp only[List.all_cons,List.all_nil,h1,Bool.and_self],by simp,fun hk=>?_⟩
   simp only[IK,h2]
   rw[if_pos (by omega)]
   simp
  ·rename_i h
   obtain ⟨i1,i2,i3⟩:=ih (k / 10) (by omega)
   obtain ⟨h1,h2⟩:=Bax (k:=k % 10) (by omega)
   refine⟨by simp only[List.all_append,List.all_cons,List.all_nil,i1,h1,Bool.and_self],by simp,fun hk=>?_⟩
   rw[OX,i3 (by omega)]
   simp only[Option.bind_some,IK,h2]
   rw[if_pos (by unfold GX at *; omega)]
   congr 1
   omega
theorem UU{p:UInt8->Bool}:∀ {w:List UInt8},w.all p=true->w.takeWhile p=w
 | [],_=>rfl
 |c::w,h=>by
  simp only[List.all_cons,Bool.and_eq_true] at h
  simp only[List.takeWhile_cons,h.1,if_true]
  rw[UU h.2]
theorem BjL{n:Int}(h:n.natAbs<=GX):B4 (Bu n)=.ok (1,(Bu n).length,n,[]):=by
 by_cases hn:n<0
 ·obtain ⟨d1,d2,d3⟩:=Bb5 n.natAbs
  have e:Bu n=95::Lib.decDigits n.natAbs:=if_pos hn
  rw[e]
  have e1:B4 (95::Lib.decDigits n.natAbs)=Gj (95::Lib.decDigits n.natAbs):=rfl
  have e2:(95::Lib.decDigits n.natAbs).getD 0 0=95:=rfl
  have e3:(95::Lib.decDigits n.natAbs).drop (1+(Lib.decDigits n.natAbs).length)=[]:=by
   rw[Nat.add_comm,List.drop_succ_cons,List.drop_length]
  rw[e1]
  unfold Gj
  rw[e2,if_pos rfl]
  simp only[List.drop_succ_cons,List.drop_zero,UU d1,e3,d3 h,if_true]
  rw[if_neg (by
   intro hc
   rcases hc with hc | hc
   ·exact d2 hc
   ·exact absurd hc (by decide))]
  exact Bde (by simp only[List.length_cons];omega) (by omega) rfl
 ·obtain ⟨d1,d2,d3⟩:=Bb5 n.toNat
  have e:Bu n=Lib.decDigits n.toNat:=if_neg hn
  rw[e]
  have hm:n.toNat<=GX:=by omega
  match hD:Lib.decDigits n.toNat,d2 with
  |b::D,_ =>
   rw[hD] at d1 d3
   have hb:dig b=true:=by
    simp only[List.all_cons,Bool.and_eq_true] at d1
    exact d1.1
   have hb2:48<=b.toNat/\b.toNat<=57:=by
    unfold dig at hb
    simpa using hb
   have n10:b≠10:=fun e=>by rw[e] at hb2;exact absurd hb2.1 (by decide)
   have n59:b≠59:=fun e=>by rw[e] at hb2;exact absurd hb2.2 (by decide)
   have n95:b≠95:=fun e=>by rw[e] at hb2;exact absurd hb2.2 (by decide)
   have e1:B4 (b::D)=Gj (b::D):=by
    unfold B4
    simp only[List.getD_cons_zero]
    rw[if_neg (by rintro (h | h);exact n10 h;exact n59 h),if_pos (by rw[hb];rfl)]
   rw[e1]
   unfold Gj
   simp only[List.getD_cons_zero]
   rw[if_neg n95]
   have e3:(b::D).drop (0+(b::D).length)=[]:=by rw[Nat.zero_add,List.drop_length]
   simp only[List.drop_zero,UU d1,e3,d3 hm]
   rw[if_neg (by
    intro hc
    rcases hc with hc | hc
    ·cases hc
    ·exact absurd hc (by decide))]
   rw[if_neg (by decide)]
   exact Bde (by omega) (by omega) rfl
theorem Bii{w:List UInt8}(h:Cz w=true):B4 w=.ok (4,w.length,0,w):=by
 unfold Cz Ob at h
 simp only[Bool.and_eq_true,Bool.not_eq_true',decide_eq_true_eq] at h
 obtain ⟨⟨⟨⟨h1,h2⟩,h3⟩,h4⟩,h5⟩:=h
 have hh:97<=(w.getD 0 0).toNat/\(w.getD 0 0).toNat<=122:=by
  unfold low at h2
  simpa using h2
 have hall:w.all aln=true:=List.all_eq_true.2 fun b hb=>by
  have:=List.all_eq_true.1 h3 b hb
  unfold aln alp
  rw[Bool.or_eq_true] at this
  rcases this with h | h<;>rw[h]<;>simp
 have hno:w.any upp=false:=by
  cases ha:w.any upp with
  |false=>rfl
  |true =>
   obtain ⟨b,hb,hu⟩:=List.any_eq_true.1 ha
   have:=List.all_eq_true.1 h3 b hb
   unfold low dig upp at *
   simp at this hu
   omega
 unfold B4
 simp only
 rw[if_neg (by rintro (h | h)<;>rw[h] at hh<;>exact absurd hh (by decide))]
 have hd:(dig (w.getD 0 0)||w.getD 0 0==95)=false:=by
  cases hq:(dig (w.getD 0 0)||w.getD 0 0==95) with
  |false=>rfl
  |true =>
   rw[Bool.or_eq_true] at hq
   rcases hq with h | h
   ·unfold dig at h
    rw[Bool.and_eq_true,decide_eq_true_eq,decide_eq_true_eq] at h
    omega
   ·rw[beq_iff_eq] at h
    rw[h] at hh
    exact absurd hh (by decide)
 rw[hd,if_neg (by simp),if_pos (by unfold alp;rw[h2];rfl)]
 unfold E4
 simp only[UU hall,h5,hno,Bool.false_eq_true,if_false]
 rw[if_neg (by omega)]
theorem BlG:∀x:List UInt8,(resL++symL).contains x=true->B4 x=.ok (5,x.length,0,x):=by
 have:((resL++symL).all fun x=>match B4 x with | .ok (k,l,n,t)=>k==5&&l==x.length&&n==0&&t==x | _=>false)=true:=by decide +kernel
 intro x hx
 have:=List.all_eq_true.1 this x (List.contains_iff_mem.1 hx)
 split at this
 ·rename_i k l n t e
  simp only[Bool.and_eq_true,beq_iff_eq] at this
  obtain ⟨⟨⟨rfl,rfl⟩,rfl⟩,rfl⟩:=this
  exact e
 ·cases this
theorem Bja{b:UInt8}(h:b=32\/b=9\/b=13\/b=35)(x:List UInt8):symL.contains (b::x)=false:=by
 have:(symL.all fun y=>y.getD 0 0 != 32&&y.getD 0 0 != 9&&y.getD 0 0 != 13&&y.getD 0 0 != 35)=true:=by decide +kernel
 cases hc:symL.contains (b::x) with
 |false=>rfl
 |true =>
  have:=List.all_eq_true.1 this _ (List.contains_iff_mem.1 hc)
  rcases h with rfl | rfl | rfl | rfl<;>simp at this
theorem BpM{b:UInt8}(h:b=32\/b=9\/b=13\/b=35)(x:List UInt8):B4 (b::x)=.error (6,0):=by
 have h1:B4 (b::x)=Ma (b::x):=by rcases h with rfl | rfl | rfl | rfl<;>rfl
 rw[h1]
 unfold Ma
 have e1:=Bja h []
 have e2:symL.contains ((b::x).take 2)=false:=Bja h _
 rw[e2,if_neg (by simp)]
 simp only[List.take_succ_cons,List.take_zero,e1]
 simp
theorem Bk8{x y:List UInt8}{z:Int×Nat×Int×List UInt8}(h:x≠[])(he:B4 x=.ok z):BK false (x++y)=0:=by
 match x,h with
 |b::x,_ =>
  have hb:¬(b=32\/b=9\/b=13\/b=35):=fun hb=>by
   rw[BpM hb] at he
   cases he
  simp only[List.cons_append,BK]
  rw[if_neg (by unfold BaP;simp only[Bool.or_eq_true,beq_iff_eq];intro h;exact hb (by rcases h with (h | h) | h<;>simp[h])),if_neg (fun h=>hb (.inr (.inr (.inr h))))]
theorem Rc{n p:Nat}{y:List UInt8}:Ep (n+1) (32::y) p=Ep (n+1) y (p+1):=by
 have e:BK false (32::y)=BK false y+1:=rfl
 simp only[Ep]
 rw[e,List.drop_succ_cons]
 have e2:p+(BK false y+1)=p+1+BK false y:=by omega
 rw[e2]
theorem BbX:B4 []=.error (6,0):=by kernel_rfl
theorem Bey{n p : Nat}{r : List UInt8}(hs : BK false r=0)(hr : r≠[]) : Ep (n+1) r p=match B4 r with
  |.error (e,o)=>.error (e,p+0+o)
  |.ok (kd,len,num,text)=>match Ep n (r.drop len) (p+0+len) with
   |.error e=>.error e
   |.ok l=>.ok (⟨kd,((p+0:Nat):Int),len,num,text⟩::l):=by
 simp only[Ep]
 rw[hs,List.drop_zero,if_neg hr]
 all_goals
  cases B4 r with
  |error x=>rfl
  |ok x =>
   obtain ⟨kd,len,num,text⟩:=x
   simp only
   cases Ep n (r.drop len) (p+0+len)<;>rfl
def ssl(l:List (List UInt8))(m:Ab.Mode):D:=.sl 1 l.length (fun i=>[.str (l.getD i [])]) m
theorem BnB(l : List (List UInt8))(sep : List UInt8)(hl : l.length<=140737488355328)(hj : (Lib.join l sep).length<=140737488355328) :
  ACalls Tryz.prog 132 [ssl l .any,.str sep] ⟨[],[]⟩ (SpecR (sC [ssl l .any,.str sep] (.str (Lib.join l sep))) ()):=by
 refine⟨⟨_,Tryz.func132,by kernel_rfl,by kernel_rfl⟩,fun C F args w ha hs=>?_⟩
 obtain ⟨u,v,e,hu,hv⟩:=EO ha
 have e2:args=[u,v].toArray:=by rw[<- e]
 subst e2
 simp only[Rep] at hv;subst hv
 simp only[ssl,Rep] at hu
 obtain ⟨a,len,cap,rfl,hh,hr⟩:=hu
 have hlen:len=l.length:=hh.1
 subst hlen
 have hF:Sat C F w:=by simpa[St.add] using hs
 have fin:∀w' e,e=Ending.returned (.string ⟨(Lib.join l sep).toArray⟩)->Go.RowKit.Below w.heap.size w w'->∃C' r S',C.le C'/\Sat C' (S'.add F) w'/\RepEnd C' r e/\SpecR (sC [ssl l .any,.str sep] (.str (Lib.join l sep))) () r S':=fun w' e he h =>
  ⟨C,.ret (.str (Lib.join l sep)),⟨[],[]⟩,.refl C,by simpa[St.add] using hF.kept h,by subst he;simp[RepEnd,Rep],(),trivial,rfl,rfl⟩
 by_cases h0:l=[]
 ·subst h0
  refine (Tryz.strings_Join_none a cap _ w).mono fun e w' ⟨he,hw⟩=>fin w' e he ?_
  subst hw;exact Go.RowKit.Below.refl _ _
 ·have hpos:0<l.length:=List.length_pos_iff.2 h0
  have ha:∃x,a=some x:=by
   cases a with
   |none=>have:=hh.2.2.2.1 rfl;omega
   |some x=>exact⟨x,rfl⟩
  obtain ⟨⟨bk,o,sp⟩,rfl⟩:=ha
  have hsp:sp=none:=hh.2.2.2.2.1 _ rfl (by have:=hh.2.1;omega)
  subst hsp
  have hcell:∀i x,l[i]? =some x->w.cell? ⟨bk,o+i,none⟩=some (.string ⟨x.toArray⟩):=by
   intro i x hx
   have hi:i<l.length:=(List.getElem?_eq_some_iff.1 hx).1
   have hrow:=(hr _ rfl i hi).2
   simp only[RepCells] at hrow
   obtain ⟨⟨v,i1,i2⟩,_⟩:=hrow
   simp only[Rep] at i2
   subst i2
   have:=hs.imm _ _ _ i1
   have e:l.getD i []=x:=by rw[List.getD_eq_getElem?_getD,hx];rfl
   rw[e] at this
   simpa using this
  have hsz:bk<w.heap.size:=by
   have:=hcell 0 (l.getD 0 []) (by rw[List.getD_eq_getElem?_getD,List.getElem?_eq_getElem hpos];rfl)
   unfold World.cell? at this
   by_cases hb:bk<w.heap.size
   ·exact hb
   ·rw[Array.getElem?_eq_none (Nat.le_of_not_lt hb)] at this
    cases this
  have hm:(l.map fun s=>(⟨s.toArray⟩:ByteArray)).map (·.data.toList)=l:=by simp[Function.comp_def]
  have key:=Tryz.strings_Join bk o cap (l.map fun s=>(⟨s.toArray⟩:ByteArray)) ⟨sep.toArray⟩ w (fun i x hx=>by
   rw[List.getElem?_map,Option.map_eq_some_iff] at hx
   obtain ⟨y,h1,h2⟩:=hx
   subst h2
   exact hcell i y h1) hsz (by simpa using hl) (by simpa using hh.2.1) (by rw[hm];exact hj)
  rw[hm,List.length_map] at key
  exact key.mono fun e w' ⟨he,hb⟩=>fin w' e he hb
def Be7:List D->List UInt8
 | [.str s]=>s
 |_=>[]
def Bi2:List D->Bool
 | [.str _]=>true
 |_=>false
def BF(n:Nat)(f:Nat->List D):List (List UInt8):=(List.range n).map fun i=>Be7 (f i)
def C3(n:Nat)(f:Nat->List D):Bool:=(List.range n).all fun i=>Bi2 (f i)
theorem Me{n:Nat}{f:Nat->List D}{m:Ab.Mode}(h:C3 n f=true):Bg (.sl 1 n f m) (ssl (BF n f) .any):=by
 simp only[ssl,Bg,Ba]
 refine⟨by simp,by simp[BF],fun i hi=>?_,by cases m<;>simp[BE]⟩
 have hb:Bi2 (f i)=true:=List.all_eq_true.1 h i (List.mem_range.2 hi)
 have hg:(BF n f).getD i []=Be7 (f i):=by simp[BF,List.getD_eq_getElem?_getD,hi]
 rw[hg]
 unfold Bi2 at hb
 split at hb
 ·rename_i s hd;rw[hd];rfl
 ·cases hb
theorem Iw{n:Nat}{l:List (List UInt8)}{F:Nat->List D}(hn:n=l.length)(hF:∀i,i<n->F i=[D.str (l.getD i [])]):BF n F=l:=by
 subst hn
 apply List.ext_getElem
 ·simp[BF]
 ·intro i h1 h2
  simp only[BF,List.getElem_map,List.getElem_range,hF i h2,Be7,List.getD_eq_getElem?_getD,List.getElem?_eq_getElem h2,Option.getD_some]
theorem Md{n:Nat}{l:List (List UInt8)}{F:Nat->List D}(hn:n=l.length)(hF:∀i,i<n->F i=[D.str (l.getD i [])]):C3 n F=true:=by
 subst hn
 simp only[C3,List.all_eq_true,List.mem_range]
 intro i hi
 rw[hF i hi];rfl
def Gf(l:List (List UInt8))(sep:List UInt8):Prop:=l.length<=140737488355328/\(Lib.join l sep).length<=140737488355328
def WJ:Con:=fun k ds S=>match k with
 |132=>match ds with
  | [.sl 1 n f m,.str sep]=>some (pC [.sl 1 n f m,.str sep] (.str (Lib.join (BF n f) sep)) (C3 n f=true/\Gf (BF n f) sep))
  |_=>none
 |176=>match ds with
  | [.int .i32 q,.sl 1 n f m]=>some (pC [.int .i32 q,.sl 1 n f m] (.str (Gn q (Bp n f))) (n<=1099511627776/\IntsP n f/\∀c∈Bp n f,0<=c/\c<=1114111))
  |_=>none
 |k=>BiS k ds S
theorem Mh:ConOk Tryz.prog WJ:=by
 intro k ds S A h
 unfold WJ at h
 split at h
 ·split at h
  ·injection h with h;subst h
   exact BM fun ⟨h1,h2⟩=>⟨Bj _,Cb (us:=[ssl (BF _ _) .any,_]) ⟨Me h1,Bd _,trivial⟩ (BnB _ _ h2.1 h2.2)⟩
  ·cases h
 ·split at h
  ·injection h with h;subst h
   exact BM fun ⟨h1,h2,h3⟩=>⟨Bj _,Cb (us:=[_,isl (Bp _ _) .any]) ⟨Bd _,(Eb h2).1,trivial⟩ (BpA _ _ (by rw[B3];exact h1) h3)⟩
  ·cases h
 ·exact BkA _ _ _ _ h
noncomputable def EixK(L:List (List UInt8))(s:List UInt8):Senv:={ EC E5 19 2 [4,5,7,8,9,16] (fun _=>([],[])) with
 ann:=fun b _ S=>match b with
  |0=>some { slots:=[8],keep:=[0,1,7],α:=Nat,st:=fun y=>([.int .i64 y],S),inv:=fun y=>y<=L.length/\s ∉ L.take y,mu:=fun y=>L.length-y }
  |_=>none }
def QuZ(a:List (List UInt8)):D:=D.sl N1 (LN a) (fun i=>[D.str (List.getD a i [])]) Mode.any
theorem Bpl(L:List (List UInt8))(s:List UInt8)(hl:L.length<=By):ACalls Tryz.prog 143 [ssl L .any,.str s] ⟨[],[]⟩ (SpecR (pQ [ssl L .any,.str s] (fun z:Int=>.int .i64 z) (fun z=>(0<=z)↔s∈L) True) ()):=by
 refine Bf (A:=pQ _ _ _ _) (x:=()) (E:=EixK L s) (eOk BJ rfl) Tryz.func143 rfl (by kernel_rfl) rfl (by simp[pQ,EixK,EC,E0]) ?_
 refine Bk (T :=
  (∃(x:Nat),(x<=LN L/\¬s∈List.take x L)/\(Z0=(↑x:Int)/\True)/\True/\True)/\∀(x:Nat),x<=LN L/\¬s∈List.take x L->ifB (decide ((↑x:Int)<(LI L))) (Be (Z0<=(↑x:Int)/\(↑x:Int)<(LI L)) (ifB (s==List.getD L (Int.toNat (↑x:Int)) []) (True/\∃(y:Int),(Z0<=y↔s∈L)/\(↑x:Int)=y/\True/\True) ((SM (QuZ L)/\SM (D.str s)/\SM (ZI (LI L))/\True)/\∃(y:Nat),(y<=LN L/\¬s∈List.take y L)/\LN L-y<LN L-x/\(IntKind.wrap IntKind.i64 ((↑x:Int)+Z1)=(↑y:Int)/\True)/\True/\True))) (True/\∃(y:Int),(Z0<=y↔s∈L)/\(-1:Int)=y/\True/\True)) (by kernel_rfl) ?_
 delta LI LN N1 SM Z0 Z1 ZI QuZ
 simp only[eq_self,ne_eq,Int.toNat_natCast,Bh,Bc,decide_eq_true_eq,decide_eq_false_iff_not,true_and,and_true,beq_iff_eq,beq_eq_false_iff_ne]
 have tk:∀x:Nat,x<L.length->L.take (x+1)=L.take x++[L.getD x []]:=fun x hx=>by
  rw[List.take_add_one,List.getElem?_eq_getElem hx,List.getD_eq_getElem?_getD,List.getElem?_eq_getElem hx];rfl
 unfold By at hl
 refine⟨⟨0,⟨Nat.zero_le _,by simp⟩,rfl⟩,fun x ⟨h1,h2⟩=>⟨fun h=>⟨⟨by omega,h⟩,fun e=>⟨x,⟨fun _=>?_,fun _=>by omega⟩,rfl⟩,fun e=>⟨x+1,⟨by omega,?_⟩,by omega,by rw[Bb (by omega) (by omega)];rfl⟩⟩,fun h=>⟨-1,⟨fun h=>by omega,fun hm=>?_⟩,rfl⟩⟩⟩
 ·have hx:x<L.length:=by omega
  rw[e,List.getD_eq_getElem?_getD,List.getElem?_eq_getElem hx]
  exact List.getElem_mem hx
 ·rw[tk x (by omega)]
  simpa using ⟨h2,e⟩
 ·have:x=L.length:=by omega
  rw[this,List.take_length] at h2
  exact (h2 hm).elim
def Bmd:Con:=fun k ds _=>match k with
 |143=>match ds with
  | [.sl 1 n f m,.str s]=>some (pQ [.sl 1 n f m,.str s] (fun z:Int=>.int .i64 z) (fun z=>(0<=z)↔s∈BF n f) (C3 n f=true/\n<=By))
  |_=>none
 |_=>none
theorem BiK:ConOk Tryz.prog Bmd:=by
 intro k ds S A h
 unfold Bmd at h
 split at h
 ·split at h
  ·injection h with h;subst h
   exact BqH fun ⟨h1,h2⟩=>⟨Bj _,(ACalls.weakArgs (Bpl (BF _ _) _ (by simpa[BF] using h2)) (show Br [_,_] [_,_] from ⟨Me h1,Bd _,trivial⟩)).mono fun _ _ ⟨y,q1,q2,q3⟩=>⟨y,q1,q2,q3⟩⟩
  ·cases h
 ·cases h
noncomputable def Ect:Senv:=EC Bmd 9 2 [4] (fun _=>([],[]))
theorem BoP(L:List (List UInt8))(s:List UInt8)(hl:L.length<=By):ACalls Tryz.prog 115 [ssl L .any,.str s] ⟨[],[]⟩ (SpecR (sC [ssl L .any,.str s] (.bool (L.contains s))) ()):=by
 refine Bf (A:=sC _ _) (x:=()) (E:=Ect) (eOk BiK rfl) Tryz.func115 rfl (by kernel_rfl) rfl (by simp[sC,Ect,EC,E0]) ?_
 refine Bk (T :=
  ((C3 (LN L) fun i=>[D.str (List.getD L i [])])=true/\LN L<=8589934592)/\∀(y:Int),(Z0<=y↔s∈BF (LN L) fun i=>[D.str (List.getD L i [])])->True/\∃(y_1:Unit),True/\decide (Z0<=y)=List.contains L s/\True/\True) (by kernel_rfl) ?_
 delta LN Z0
 simp only[true_and,and_true,exists_const]
 have e:=Iw (l:=L) rfl (fun i _=>rfl:∀i,i<L.length->(fun i=>[D.str (L.getD i [])]) i=[D.str (L.getD i [])])
 rw[e]
 refine⟨⟨Md rfl fun i _=>rfl,hl⟩,fun y h=>?_⟩
 by_cases hm:s∈L
 ·rw[decide_eq_true (h.2 hm)];simpa using hm
 ·rw[decide_eq_false fun hy=>hm (h.1 hy)];simpa using hm
def Bk6:Con:=fun k ds _=>match k with
 |115=>match ds with
  | [.sl 1 n f m,.str s]=>some (pC [.sl 1 n f m,.str s] (.bool ((BF n f).contains s)) (C3 n f=true/\n<=By))
  |_=>none
 |_=>none
theorem Bks:ConOk Tryz.prog Bk6:=by
 intro k ds S A h
 unfold Bk6 at h
 split at h
 ·split at h
  ·injection h with h;subst h
   exact BM fun ⟨h1,h2⟩=>⟨Bj _,Cb (us:=[ssl (BF _ _) .any,_]) ⟨Me h1,Bd _,trivial⟩ (BoP _ _ (by simpa[BF] using h2))⟩
  ·cases h
 ·cases h
noncomputable def Erv:Senv:={ EC Bk6 11 1 [2] (fun _=>([],[])) with mg:=fun _=>2 }
def Qil(a:Nat):List D:=[D.str (List.getD [[(88:UInt8)],[(89:UInt8)],[(70:UInt8)],[(71:UInt8)],[(115:UInt8),(101:UInt8),(108:UInt8),(102:UInt8)],[(97:UInt8),(114:UInt8),(103:UInt8)],[(109:UInt8),(105:UInt8),(110:UInt8)],[(109:UInt8),(97:UInt8),(120:UInt8)],[(97:UInt8),(110:UInt8),(100:UInt8)],[(111:UInt8),(114:UInt8)],[(110:UInt8),(111:UInt8),(116:UInt8)],[(115:UInt8),(104:UInt8),(97:UInt8),(112:UInt8),(101:UInt8)],[(114:UInt8),(101:UInt8),(115:UInt8),(104:UInt8),(97:UInt8),(112:UInt8),(101:UInt8)],[(116:UInt8),(97:UInt8),(108:UInt8),(108:UInt8),(121:UInt8)],[(100:UInt8),(101:UInt8),(112:UInt8),(116:UInt8),(104:UInt8)],[(115:UInt8),(116:UInt8),(97:UInt8),(99:UInt8),(107:UInt8)],[(105:UInt8),(111:UInt8),(116:UInt8),(97:UInt8)],[(116:UInt8),(97:UInt8),(107:UInt8),(101:UInt8)],[(100:UInt8),(114:UInt8),(111:UInt8),(112:UInt8)],[(102:UInt8),(105:UInt8),(114:UInt8),(115:UInt8),(116:UInt8)],[(114:UInt8),(101:UInt8),(118:UInt8),(101:UInt8),(114:UInt8),(115:UInt8),(101:UInt8)],[(114:UInt8),(111:UInt8),(116:UInt8),(97:UInt8),(116:UInt8),(101:UInt8)],[(116:UInt8),(114:UInt8),(97:UInt8),(110:UInt8),(115:UInt8),(112:UInt8),(111:UInt8),(115:UInt8),(101:UInt8)],[(102:UInt8),(114:UInt8),(111:UInt8),(109:UInt8)],[(112:UInt8),(105:UInt8),(99:UInt8),(107:UInt8)],[(115:UInt8),(101:UInt8),(108:UInt8),(101:UInt8),(99:UInt8),(116:UInt8)],[(97:UInt8),(109:UInt8),(101:UInt8),(110:UInt8),(100:UInt8)],[(117:UInt8),(112:UInt8)],[(100:UInt8),(111:UInt8),(119:UInt8),(110:UInt8)],[(115:UInt8),(111:UInt8),(114:UInt8),(116:UInt8)],[(102:UInt8),(105:UInt8),(110:UInt8),(100:UInt8)],[(105:UInt8),(110:UInt8)],[(117:UInt8),(110:UInt8),(105:UInt8),(113:UInt8),(117:UInt8),(101:UInt8)],[(119:UInt8),(104:UInt8),(101:UInt8),(114:UInt8),(101:UInt8)],[(99:UInt8),(111:UInt8),(112:UInt8),(121:UInt8)],[(101:UInt8),(120:UInt8),(112:UInt8),(97:UInt8),(110:UInt8),(100:UInt8)],[(99:UInt8),(117:UInt8),(116:UInt8)],[(101:UInt8),(110:UInt8),(99:UInt8),(111:UInt8),(100:UInt8),(101:UInt8)],[(100:UInt8),(101:UInt8),(99:UInt8),(111:UInt8),(100:UInt8),(101:UInt8)],[(98:UInt8),(111:UInt8),(120:UInt8)],[(111:UInt8),(112:UInt8),(101:UInt8),(110:UInt8)],[(115:UInt8),(97:UInt8),(109:UInt8),(101:UInt8)],[(107:UInt8),(105:UInt8),(110:UInt8),(100:UInt8)],[(111:UInt8),(114:UInt8),(100:UInt8)],[(99:UInt8),(104:UInt8),(114:UInt8)],[(102:UInt8),(111:UInt8),(114:UInt8),(109:UInt8),(97:UInt8),(116:UInt8)],[(108:UInt8),(101:UInt8),(102:UInt8),(116:UInt8)],[(114:UInt8),(105:UInt8),(103:UInt8),(104:UInt8),(116:UInt8)],[(101:UInt8),(97:UInt8),(99:UInt8),(104:UInt8)],[(115:UInt8),(119:UInt8),(97:UInt8),(112:UInt8)],[(111:UInt8),(117:UInt8),(116:UInt8),(101:UInt8),(114:UInt8)],[(105:UInt8),(110:UInt8),(110:UInt8),(101:UInt8),(114:UInt8)],[(114:UInt8),(97:UInt8),(110:UInt8),(107:UInt8)],[(112:UInt8),(111:UInt8),(119:UInt8),(101:UInt8),(114:UInt8)],[(115:UInt8),(116:UInt8),(101:UInt8),(110:UInt8),(99:UInt8),(105:UInt8),(108:UInt8)],[(97:UInt8),(116:UInt8),(111:UInt8),(112:UInt8)],[(111:UInt8),(118:UInt8),(101:UInt8),(114:UInt8)]] a [])]
def Qim(a:Nat):List D:=[D.str (List.getD [[(43:UInt8)],[(45:UInt8)],[(42:UInt8)],[(37:UInt8)],[(124:UInt8)],[(94:UInt8)],[(60:UInt8)],[(60:UInt8),(61:UInt8)],[(61:UInt8)],[(126:UInt8),(61:UInt8)],[(62:UInt8),(61:UInt8)],[(62:UInt8)],[(44:UInt8)],[(47:UInt8)],[(92:UInt8)]] a [])]
theorem BoL(s:List UInt8):ACalls Tryz.prog 86 [.str s] ⟨[],[]⟩ (SpecR (sC [.str s] (.bool (Mu s))) ()):=by
 refine Bf (A:=sC _ _) (x:=()) (E:=Erv) (eOk Bks rfl) Tryz.func86 rfl (by kernel_rfl) rfl (by simp[sC,Erv,EC,E0]) ?_
 refine Bk (T :=
  True/\((C3 (57:Nat) fun i=>Qil i)=true/\(57:Nat)<=8589934592)/\∀(y:Unit),True->ifB (List.contains (BF (57:Nat) fun i=>Qil i) s) (RT (true=Mu s)) (True/\((C3 (15:Nat) fun i=>Qim i)=true/\(15:Nat)<=8589934592)/\∀(y:Unit),True->RT (List.contains (BF (15:Nat) fun i=>Qim i) s=Mu s))) (by kernel_rfl) ?_
 delta Qil Qim RT
 simp only[Bh,true_and,and_true,exists_const,forall_const]
 generalize h57:BF 57 _=A
 generalize h15:BF 15 _=B
 have eA:A=resL:=by rw[<- h57];decide +kernel
 have eB:B=sgnL:=by rw[<- h15];decide +kernel
 subst eA eB
 refine⟨⟨by decide +kernel,by decide⟩,fun h=>?_,fun h=>⟨⟨by decide +kernel,by decide⟩,?_⟩⟩
 ·unfold Mu;rw[h];rfl
 ·unfold Mu;rw[h];rfl
theorem Bb6{t s:List UInt8}{x:Nat}(h:x<t.length):CH (t.drop x) s=((t.getD x 0==32&&decide (s.length<(t.drop (x+1)).length)&&(t.drop (x+1)).take s.length==s&&(t.drop (x+1)).getD s.length 0==32)||CH (t.drop (x+1)) s):=by
 rw[List.drop_eq_getElem_cons h,CH]
 simp only[List.getD_eq_getElem?_getD,List.getElem?_eq_getElem h,Option.getD_some]
theorem Tg{s:List UInt8}:∀ {r:List UInt8},r.length<s.length+2->CH r s=false
 | [],_=>rfl
 |b::r,h=>by
  have h1:¬s.length<r.length:=by simp only[List.length_cons] at h;omega
  rw[CH,decide_eq_false h1,Tg (r:=r) (by simp only[List.length_cons] at h;omega)]
  simp
noncomputable def Eam(t s:List UInt8):Senv:={ EC E5 57 2 [4,5,6,9,13,19,27,56] (fun _=>([],[])) with
 ann:=fun b _ S=>match b with
  |0=>some { slots:=[5],keep:=[0,1],α:=Nat,st:=fun y=>([.int .i64 y],S),inv:=fun y=>y<=s.length/\(s.take y).all (fun b=>b != 32)=true,mu:=fun y=>s.length-y }
  |2=>some { slots:=[6],keep:=[0,1],α:=Nat,st:=fun y=>([.int .i64 y],S),inv:=fun y=>y<=t.length/\CH (t.drop y) s=CH t s,mu:=fun y=>t.length-y }
  |_=>none }
def Qby(a b:List UInt8):Prop:=True/\∃(_y:Unit),True/\false=Ee a b/\True/\True
def Qbz(a:Nat)(c:List UInt8):Prop:=a<=LN c/\(List.all (List.take a c) fun (b:UInt8)=>b != (32:UInt8))=true
def QbA(a:List UInt8)(b:Nat):Bool:=(BI a (Int.toNat (↑b:Int)))==32
def VW(a:Nat):Int:=IntKind.wrap IntKind.i64 ((↑a:Int)+Z1)
def Qin(a:List UInt8)(b c:Nat):Prop:=LN a-b<LN a-c/\(VW c=(↑b:Int)/\True)/\True/\True
def QbB(a:Nat)(b c:List UInt8):Prop:=a<=LN b/\CH (List.drop a b) c=CH b c
def VX(a:Nat)(b:List UInt8):Int:=IntKind.wrap IntKind.i64 (VW a+(LI b))
def Qio(a:Nat)(b:List UInt8):Nat:=Int.toNat (VX a b)
def Qip(a:Nat)(b c:List UInt8):Bool:=List.drop (Int.toNat (VW a)) (List.take (Qio a b) c)==b
def Qiq(a:List UInt8)(b:Nat)(c:List UInt8):Bool:=(BI a (Qio b c))==32
def QbC(a:List UInt8)(b:Nat)(c:List UInt8):Bool:=bif bif QbA a b then Qip b c a else false then Qiq a b c else false
def Qir(a:List UInt8)(b:Nat)(c:List UInt8):Prop:=false=QbC a b c/\True
theorem Bqx(t s:List UInt8)(ht:t.length<=By)(hs:s.length<=By):ACalls Tryz.prog 141 [.str t,.str s] ⟨[],[]⟩ (SpecR (sC [.str t,.str s] (.bool (Ee t s))) ()):=by
 refine Bf (A:=sC _ _) (x:=()) (E:=Eam t s) (eOk BJ rfl) Tryz.func141 rfl (by kernel_rfl) rfl (by simp[sC,Eam,EC,E0]) ?_
 refine Bk (T :=
  ifB ((LI s)==Z0) (Qby t s) ((∃(x:Nat),Qbz x s/\(Z0=(↑x:Int)/\True)/\True/\True)/\∀(x:Nat),Qbz x s->ifB (decide ((↑x:Int)<(LI s))) (Be (Z0<=(↑x:Int)/\(↑x:Int)<(LI s)) (ifB (QbA s x) (Qby t s) ((SM (D.str t)/\SM (D.str s)/\True)/\∃(y:Nat),Qbz y s/\Qin s y x))) ((∃(x:Nat),QbB x t s/\(Z0=(↑x:Int)/\True)/\True/\True)/\∀(x:Nat),QbB x t s->ifB (decide (IntKind.wrap IntKind.i64 (IntKind.wrap IntKind.i64 ((↑x:Int)+(LI s))+2)<=(LI t))) (Be (Z0<=(↑x:Int)/\(↑x:Int)<(LI t)) (ifB (QbA t x) (Be (Z0<=VW x/\VW x<=VX x s/\VX x s<=(LI t)) (ifB (Qip x s t) (Be (Z0<=VX x s/\VX x s<(LI t)) (Qiq t x s=QbC t x s/\True)) (Qir t x s))) (Qir t x s))/\ifB (QbC t x s) (RT (true=Ee t s)) ((SM (D.str t)/\SM (D.str s)/\True)/\∃(y:Nat),QbB y t s/\Qin t y x)) (Qby t s)))) (by kernel_rfl) ?_
 delta BI LI LN SM U0 Z0 Z1 Qio Qip Qiq QbC Qir Qby Qbz QbA VW Qin QbB VX RT
 simp only[eq_self,ne_eq,Int.toNat_natCast,Bh,Bc,decide_eq_true_eq,decide_eq_false_iff_not,true_and,and_true,beq_iff_eq,Bool.cond_false_right,Bool.and_eq_true,Bool.and_eq_false_iff,beq_eq_false_iff_ne,exists_const]
 unfold By at ht hs
 have b32:∀b:UInt8,((b.toNat:Int)=32)↔b=32:=fun b=>⟨fun h=>by
  apply UInt8.toNat_inj.1
  show b.toNat=32
  omega,fun h=>by subst h;rfl⟩
 have tk:∀x:Nat,x<s.length->s.take (x+1)=s.take x++[s.getD x 0]:=fun x hx=>by
  rw[List.take_add_one,List.getElem?_eq_getElem hx,List.getD_eq_getElem?_getD,List.getElem?_eq_getElem hx];rfl
 refine⟨fun h=>?_,fun h0=>⟨⟨0,⟨Nat.zero_le _,rfl⟩,rfl⟩,fun x ⟨h1,h2⟩=>⟨fun h=>⟨⟨by omega,h⟩,fun e=>?_,fun e=>⟨x+1,⟨by omega,?_⟩,by omega,by rw[Bb (by omega) (by omega)];rfl⟩⟩,fun h=>?_⟩⟩⟩
 ·have:s=[]:=List.length_eq_zero_iff.1 (by omega)
  subst this;rfl
 ·have hx:x<s.length:=by omega
  have hm:s.getD x 0∈s:=by rw[List.getD_eq_getElem?_getD,List.getElem?_eq_getElem hx];exact List.getElem_mem hx
  have:(s.all fun b=>b != 32)=false:=by
   rw[List.all_eq_false]
   exact⟨_,hm,by rw[(b32 _).1 e];simp⟩
  unfold Ee
  rw[this];simp
 ·rw[tk x (by omega),List.all_append,h2]
  have:s.getD x 0≠32:=fun he=>e ((b32 _).2 he)
  simpa using this
 ·have hall:(s.all fun b=>b != 32)=true:=by
   have:x=s.length:=by omega
   rw[this,List.take_length] at h2
   exact h2
  have hne:s.isEmpty=false:=by
   cases s with
   |nil=>exact (h0 rfl).elim
   |cons=>rfl
  have hA:Ee t s=CH t s:=by unfold Ee;rw[hall,hne];rfl
  rw[hA]
  refine⟨⟨0,⟨Nat.zero_le _,by rw[List.drop_zero]⟩,rfl⟩,fun y ⟨y1,y2⟩=>?_⟩
  have w1:IntKind.i64.wrap ((y:Int)+1)=((y+1:Nat):Int):=by rw[Bb (by omega) (by omega)];rfl
  have w2:IntKind.i64.wrap (((y+1:Nat):Int)+(s.length:Int))=((y+1+s.length:Nat):Int):=by rw[Bb (by omega) (by omega)];omega
  have w3:IntKind.i64.wrap (IntKind.i64.wrap ((y:Int)+(s.length:Int))+2)=((y+s.length+2:Nat):Int):=by rw[Bb (n:=(y:Int)+s.length) (by omega) (by omega),Bb (by omega) (by omega)];omega
  rw[w1,w2,w3]
  simp only[Int.toNat_natCast,b32]
  have hdt:List.drop (y+1) (List.take (y+1+s.length) t)=(t.drop (y+1)).take s.length:=by
   rw[List.drop_take];congr 1;omega
  have hgd:t.getD (y+1+s.length) 0=(t.drop (y+1)).getD s.length 0:=by simp[List.getD_eq_getElem?_getD]
  rw[hdt,hgd]
  have bi:∀b:UInt8,(((b.toNat:Int))==32)=(b==32):=fun b=>by
   by_cases hb:b=32
   ·rw[hb];rfl
   ·have h1:(b==32)=false:=by simpa using hb
    have h2:(((b.toNat:Int))==32)=false:=by
     have:=fun h=>hb ((b32 b).1 h)
     simpa using this
    rw[h1,h2]
  simp only[bi]
  refine⟨fun hle=>?_,fun hgt=>?_⟩
  ·have hy:y<t.length:=by omega
   have hstep:=Bb6 (s:=s) hy
   rw[y2] at hstep
   have hlt:decide (s.length<(t.drop (y+1)).length)=true:=by rw[List.length_drop];simp;omega
   rw[hlt,Bool.and_true] at hstep
   refine⟨⟨⟨by omega,by omega⟩,fun e1=>⟨⟨by omega,by omega,by omega⟩,fun e2=>⟨⟨by omega,by omega⟩,?_⟩,fun e2=>?_⟩,fun e1=>?_⟩,fun ⟨⟨e1,e2⟩,e3⟩=>?_,fun hno=>⟨y+1,⟨by omega,?_⟩,by omega,rfl⟩⟩
   ·rw[e1,e2];simp
   ·have:((t.drop (y+1)).take s.length==s)=false:=by simpa using e2
    rw[this];simp
   ·have:(t.getD y 0==32)=false:=by simpa using e1
    rw[this];simp
   ·rw[hstep,e1,e2,e3];simp
   ·have:(t.getD y 0==32&&(t.drop (y+1)).take s.length==s&&(t.drop (y+1)).getD s.length 0==32)=false:=by
     rw[Bool.and_eq_false_iff,Bool.and_eq_false_iff]
     rcases hno with (h | h) | h
     ·exact .inl (.inl (by simpa using h))
     ·exact .inl (.inr (by simpa using h))
     ·exact .inr (by simpa using h)
    rw[this,Bool.false_or] at hstep
    exact hstep.symm
  ·rw[<- y2]
   exact (Tg (by rw[List.length_drop];omega)).symm
def BjY:Con:=fun k ds _=>match k with
 |141=>match ds with
  | [.str t,.str s]=>some (pC [.str t,.str s] (.bool (Ee t s)) (t.length<=By/\s.length<=By))
  |_=>none
 |_=>none
theorem Bkh:ConOk Tryz.prog BjY:=by
 intro k ds S A h
 unfold BjY at h
 split at h
 ·split at h
  ·injection h with h;subst h
   exact BM fun ⟨h1,h2⟩=>⟨Bj _,Bqx _ _ h1 h2⟩
  ·cases h
 ·cases h
noncomputable def ErrK:Senv:={ EC BjY 9 1 [2] (fun _=>([],[])) with mg:=fun _=>2 }
theorem Bm0(s:List UInt8)(hs:s.length<=By):ACalls Tryz.prog 112 [.str s] ⟨[],[]⟩ (SpecR (sC [.str s] (.bool (Mu s))) ()):=by
 refine Bf (A:=sC _ _) (x:=()) (E:=ErrK) (eOk Bkh rfl) Tryz.func112 rfl (by kernel_rfl) rfl (by simp[sC,ErrK,EC,E0]) ?_
 refine Bk (T :=
  ((298:Nat)<=8589934592/\LN s<=8589934592)/\∀(y:Unit),True->ifB (Ee [(32:UInt8),(88:UInt8),(32:UInt8),(89:UInt8),(32:UInt8),(70:UInt8),(32:UInt8),(71:UInt8),(32:UInt8),(115:UInt8),(101:UInt8),(108:UInt8),(102:UInt8),(32:UInt8),(97:UInt8),(114:UInt8),(103:UInt8),(32:UInt8),(109:UInt8),(105:UInt8),(110:UInt8),(32:UInt8),(109:UInt8),(97:UInt8),(120:UInt8),(32:UInt8),(97:UInt8),(110:UInt8),(100:UInt8),(32:UInt8),(111:UInt8),(114:UInt8),(32:UInt8),(110:UInt8),(111:UInt8),(116:UInt8),(32:UInt8),(115:UInt8),(104:UInt8),(97:UInt8),(112:UInt8),(101:UInt8),(32:UInt8),(114:UInt8),(101:UInt8),(115:UInt8),(104:UInt8),(97:UInt8),(112:UInt8),(101:UInt8),(32:UInt8),(116:UInt8),(97:UInt8),(108:UInt8),(108:UInt8),(121:UInt8),(32:UInt8),(100:UInt8),(101:UInt8),(112:UInt8),(116:UInt8),(104:UInt8),(32:UInt8),(115:UInt8),(116:UInt8),(97:UInt8),(99:UInt8),(107:UInt8),(32:UInt8),(105:UInt8),(111:UInt8),(116:UInt8),(97:UInt8),(32:UInt8),(116:UInt8),(97:UInt8),(107:UInt8),(101:UInt8),(32:UInt8),(100:UInt8),(114:UInt8),(111:UInt8),(112:UInt8),(32:UInt8),(102:UInt8),(105:UInt8),(114:UInt8),(115:UInt8),(116:UInt8),(32:UInt8),(114:UInt8),(101:UInt8),(118:UInt8),(101:UInt8),(114:UInt8),(115:UInt8),(101:UInt8),(32:UInt8),(114:UInt8),(111:UInt8),(116:UInt8),(97:UInt8),(116:UInt8),(101:UInt8),(32:UInt8),(116:UInt8),(114:UInt8),(97:UInt8),(110:UInt8),(115:UInt8),(112:UInt8),(111:UInt8),(115:UInt8),(101:UInt8),(32:UInt8),(102:UInt8),(114:UInt8),(111:UInt8),(109:UInt8),(32:UInt8),(112:UInt8),(105:UInt8),(99:UInt8),(107:UInt8),(32:UInt8),(115:UInt8),(101:UInt8),(108:UInt8),(101:UInt8),(99:UInt8),(116:UInt8),(32:UInt8),(97:UInt8),(109:UInt8),(101:UInt8),(110:UInt8),(100:UInt8),(32:UInt8),(117:UInt8),(112:UInt8),(32:UInt8),(100:UInt8),(111:UInt8),(119:UInt8),(110:UInt8),(32:UInt8),(115:UInt8),(111:UInt8),(114:UInt8),(116:UInt8),(32:UInt8),(102:UInt8),(105:UInt8),(110:UInt8),(100:UInt8),(32:UInt8),(105:UInt8),(110:UInt8),(32:UInt8),(117:UInt8),(110:UInt8),(105:UInt8),(113:UInt8),(117:UInt8),(101:UInt8),(32:UInt8),(119:UInt8),(104:UInt8),(101:UInt8),(114:UInt8),(101:UInt8),(32:UInt8),(99:UInt8),(111:UInt8),(112:UInt8),(121:UInt8),(32:UInt8),(101:UInt8),(120:UInt8),(112:UInt8),(97:UInt8),(110:UInt8),(100:UInt8),(32:UInt8),(99:UInt8),(117:UInt8),(116:UInt8),(32:UInt8),(101:UInt8),(110:UInt8),(99:UInt8),(111:UInt8),(100:UInt8),(101:UInt8),(32:UInt8),(100:UInt8),(101:UInt8),(99:UInt8),(111:UInt8),(100:UInt8),(101:UInt8),(32:UInt8),(98:UInt8),(111:UInt8),(120:UInt8),(32:UInt8),(111:UInt8),(112:UInt8),(101:UInt8),(110:UInt8),(32:UInt8),(115:UInt8),(97:UInt8),(109:UInt8),(101:UInt8),(32:UInt8),(107:UInt8),(105:UInt8),(110:UInt8),(100:UInt8),(32:UInt8),(111:UInt8),(114:UInt8),(100:UInt8),(32:UInt8),(99:UInt8),(104:UInt8),(114:UInt8),(32:UInt8),(102:UInt8),(111:UInt8),(114:UInt8),(109:UInt8),(97:UInt8),(116:UInt8),(32:UInt8),(108:UInt8),(101:UInt8),(102:UInt8),(116:UInt8),(32:UInt8),(114:UInt8),(105:UInt8),(103:UInt8),(104:UInt8),(116:UInt8),(32:UInt8),(101:UInt8),(97:UInt8),(99:UInt8),(104:UInt8),(32:UInt8),(115:UInt8),(119:UInt8),(97:UInt8),(112:UInt8),(32:UInt8),(111:UInt8),(117:UInt8),(116:UInt8),(101:UInt8),(114:UInt8),(32:UInt8),(105:UInt8),(110:UInt8),(110:UInt8),(101:UInt8),(114:UInt8),(32:UInt8),(114:UInt8),(97:UInt8),(110:UInt8),(107:UInt8),(32:UInt8),(112:UInt8),(111:UInt8),(119:UInt8),(101:UInt8),(114:UInt8),(32:UInt8),(115:UInt8),(116:UInt8),(101:UInt8),(110:UInt8),(99:UInt8),(105:UInt8),(108:UInt8),(32:UInt8),(97:UInt8),(116:UInt8),(111:UInt8),(112:UInt8),(32:UInt8),(111:UInt8),(118:UInt8),(101:UInt8),(114:UInt8),(32:UInt8)] s) (RT (true=Mu s)) (((34:Nat)<=8589934592/\LN s<=8589934592)/\∀(y:Unit),True->RT (Ee [(32:UInt8),(43:UInt8),(32:UInt8),(45:UInt8),(32:UInt8),(42:UInt8),(32:UInt8),(37:UInt8),(32:UInt8),(124:UInt8),(32:UInt8),(94:UInt8),(32:UInt8),(60:UInt8),(32:UInt8),(60:UInt8),(61:UInt8),(32:UInt8),(61:UInt8),(32:UInt8),(126:UInt8),(61:UInt8),(32:UInt8),(62:UInt8),(61:UInt8),(32:UInt8),(62:UInt8),(32:UInt8),(44:UInt8),(32:UInt8),(47:UInt8),(32:UInt8),(92:UInt8),(32:UInt8)] s=Mu s))) (by kernel_rfl) ?_
 delta LN RT
 simp only[Bh,true_and,and_true,exists_const,forall_const]
 generalize hA:Ee _ s=a
 generalize hB:Ee _ s=b
 have ea:a=resL.contains s:=by
  rw[<- hA,<- BcE s]
  congr 1
 have eb:b=sgnL.contains s:=by
  rw[<- hB,<- BdD s]
  congr 1
 subst ea eb
 unfold By at hs
 refine⟨⟨by decide,hs⟩,fun h=>?_,fun h=>⟨⟨by decide,hs⟩,?_⟩⟩
 ·unfold Mu;rw[h];rfl
 ·unfold Mu;rw[h];rfl
def ownL : List (List UInt8) := ["X", "Y", "F", "G", "self", "arg"].map asc ++ (primL.drop 1 ++ opL.drop 1)
theorem BnV(s:List UInt8):Mu s=ownL.contains s:=by
 have h1:∀x∈resL++sgnL,ownL.contains x=true:=by decide +kernel
 have h2:∀x∈ownL,(resL++sgnL).contains x=true:=by decide +kernel
 unfold Mu
 rw[<- List.contains_append]
 cases h:(resL++sgnL).contains s with
 |true=>exact (h1 s (by simpa using h)).symm
 |false =>
  cases h':ownL.contains s with
  |true=>rw[h2 s (by simpa using h')] at h;cases h
  |false=>rfl
theorem Bh0(s:List UInt8):s∈primL.drop 1↔∃q:Nat,1<=q/\q<56/\Ci q=s:=by
 have e:∀q,1<=q->q<56->Ci ((q:Nat):Int)=(primL.drop 1).getD (q-1) []:=fun q h1 h2=>by
  unfold Ci
  rw[if_neg (by omega),Int.toNat_natCast]
  simp[List.getD_eq_getElem?_getD,show q-1+1=q by omega]
 have hl:(primL.drop 1).length=55:=by decide +kernel
 constructor
 ·intro h
  obtain ⟨i,hi,rfl⟩:=List.getElem_of_mem h
  exact⟨i+1,by omega,by omega,by rw[e _ (by omega) (by omega)];simp only[Nat.add_sub_cancel];simp only[List.getD_eq_getElem?_getD,List.getElem?_eq_getElem hi,Option.getD_some]⟩
 ·rintro ⟨q,h1,h2,rfl⟩
  rw[e q h1 h2]
  have:q-1<(primL.drop 1).length:=by omega
  rw[List.getD_eq_getElem?_getD,List.getElem?_eq_getElem this]
  exact List.getElem_mem this
theorem Bny(s:List UInt8):s∈opL.drop 1↔∃q:Nat,1<=q/\q<12/\opT q=s:=by
 have e:∀q,1<=q->q<12->opT ((q:Nat):Int)=(opL.drop 1).getD (q-1) []:=fun q h1 h2=>by
  unfold opT
  rw[if_neg (by omega),Int.toNat_natCast]
  simp[List.getD_eq_getElem?_getD,show q-1+1=q by omega]
 have hl:(opL.drop 1).length=11:=by decide +kernel
 constructor
 ·intro h
  obtain ⟨i,hi,rfl⟩:=List.getElem_of_mem h
  exact⟨i+1,by omega,by omega,by rw[e _ (by omega) (by omega)];simp only[Nat.add_sub_cancel];simp only[List.getD_eq_getElem?_getD,List.getElem?_eq_getElem hi,Option.getD_some]⟩
 ·rintro ⟨q,h1,h2,rfl⟩
  rw[e q h1 h2]
  have:q-1<(opL.drop 1).length:=by omega
  rw[List.getD_eq_getElem?_getD,List.getElem?_eq_getElem this]
  exact List.getElem_mem this
theorem BdX(s : List UInt8)(h32 : s.length ≤ 32)(hp : Ob s = true) : Cz s = true ↔ (s ≠ asc "self" ∧ s ≠ asc "arg" ∧ (∀ q : Nat, 1 ≤ q → q < 56 → Ci q ≠ s) ∧ ∀ q : Nat, 1 ≤ q → q < 12 → opT q ≠ s) := by
 have hx : ∀ x ∈ ["X", "Y", "F", "G"].map asc, Ob x = false := by decide +kernel
 unfold Cz
 rw[hp,decide_eq_true h32,BnV]
 have hs : s ∈ ownL ↔ (s = asc "self" ∨ s = asc "arg" ∨ s ∈ primL.drop 1 ∨ s ∈ opL.drop 1) := by
  unfold ownL
  rw[List.mem_append,List.mem_append]
  constructor
  ·rintro (h | h)
   ·simp only[List.map_cons,List.map_nil,List.mem_cons,List.not_mem_nil,or_false] at h
    rcases h with h | h | h | h | h | h
    ·rw[hx s (by rw[h];simp)] at hp;cases hp
    ·rw[hx s (by rw[h];simp)] at hp;cases hp
    ·rw[hx s (by rw[h];simp)] at hp;cases hp
    ·rw[hx s (by rw[h];simp)] at hp;cases hp
    ·exact .inl h
    ·exact .inr (.inl h)
   ·exact .inr (.inr h)
  ·rintro (h | h | h)
   ·rw[h];exact .inl (by simp)
   ·rw[h];exact .inl (by simp)
   ·exact .inr h
 rw[Bh0,Bny] at hs
 simp only[Bool.true_and,Bool.not_eq_true',List.contains_eq_mem,decide_eq_false_iff_not]
 rw[hs]
 constructor
 ·intro h
  exact⟨fun e=>h (.inl e),fun e=>h (.inr (.inl e)),fun q h1 h2 e=>h (.inr (.inr (.inl ⟨q,h1,h2,e⟩))),fun q h1 h2 e=>h (.inr (.inr (.inr ⟨q,h1,h2,e⟩)))⟩
 ·rintro ⟨h1,h2,h3,h4⟩ (h | h | ⟨q,q1,q2,q3⟩ | ⟨q,q1,q2,q3⟩)
  ·exact h1 h
  ·exact h2 h
  ·exact h3 q q1 q2 q3
  ·exact h4 q q1 q2 q3
def Bk7:Con:=fun k ds _=>match k with
 |98=>match ds with
  | [.int .i64 p]=>some (pC [.int .i64 p] (.str (Ci p)) True)
  |_=>none
 |99=>match ds with
  | [.int .i64 p]=>some (pC [.int .i64 p] (.str (opT p)) True)
  |_=>none
 |112=>match ds with
  | [.str s]=>some (pC [.str s] (.bool (Mu s)) (s.length<=By))
  |_=>none
 |_=>none
theorem BjT:ConOk Tryz.prog Bk7:=by
 intro k ds S A h
 unfold Bk7 at h
 split at h
 ·split at h
  ·injection h with h;subst h
   exact BM fun _=>⟨Bj _,Biy _⟩
  ·cases h
 ·split at h
  ·injection h with h;subst h
   exact BM fun _=>⟨Bj _,Bjn _⟩
  ·cases h
 ·split at h
  ·injection h with h;subst h
   exact BM fun h1=>⟨Bj _,Bm0 _ h1⟩
  ·cases h
 ·cases h
def TR(b:UInt8):Bool:=low b||dig b
theorem Bdo(b:UInt8):TR b=true↔((97<=b.toNat/\b.toNat<=122)\/(48<=b.toNat/\b.toNat<=57)):=by
 unfold TR low dig
 simp only[Bool.or_eq_true,Bool.and_eq_true,decide_eq_true_eq]
theorem Wa(s:List UInt8):Ob s=true↔s≠[]/\low (s.getD 0 0)=true/\s.all TR=true:=by
 unfold Ob
 simp only[Bool.and_eq_true,Bool.not_eq_true',List.isEmpty_eq_false_iff,and_assoc]
 exact Iff.rfl
theorem Bmj{s:List UInt8}(h:s.all TR=true){i:Nat}(hi:i<s.length):TR (s.getD i 0)=true:=by
 rw[List.getD_eq_getElem?_getD,List.getElem?_eq_getElem hi]
 exact List.all_eq_true.1 h _ (List.getElem_mem hi)
theorem Bjg{s:List UInt8}{x:Nat}(hx:x<s.length)(h1:(s.take x).all TR=true)(h2:TR (s.getD x 0)=true):(s.take (x+1)).all TR=true:=by
 have e:s.take (x+1)=s.take x++[s.getD x 0]:=by
  rw[List.take_add_one,List.getElem?_eq_getElem hx,List.getD_eq_getElem?_getD,List.getElem?_eq_getElem hx];rfl
 rw[e,List.all_append,h1,List.all_cons,h2];rfl
theorem BS{s:List UInt8}(h:Cz s=true):s≠[]/\s.length<=32/\s≠[115,101,108,102]/\s≠[97,114,103]/\(97<=(s.getD 0 0).toNat/\(s.getD 0 0).toNat<=122)/\(∀i,i<s.length->((97<=(s.getD i 0).toNat/\(s.getD i 0).toNat<=122)\/(48<=(s.getD i 0).toNat/\(s.getD i 0).toNat<=57)))/\(∀q:Nat,1<=q->q<56->Ci q≠s)/\∀q:Nat,1<=q->q<12->opT q≠s:=by
 have h0:=h
 unfold Cz at h
 simp only[Bool.and_eq_true,decide_eq_true_eq] at h
 obtain ⟨⟨hp,h32⟩,_⟩:=h
 obtain ⟨h1,h2,h3,h4⟩:=(BdX s h32 hp).1 h0
 obtain ⟨p1,p2,p3⟩:=(Wa s).1 hp
 have e1 : asc "self" = [115, 101, 108, 102] := by decide +kernel
 have e2 : asc "arg" = [97, 114, 103] := by decide +kernel
 rw[e1] at h1
 rw[e2] at h2
 unfold low at p2
 simp only[Bool.and_eq_true,decide_eq_true_eq] at p2
 exact⟨p1,h32,h1,h2,p2,fun i hi=>(Bdo _).1 (Bmj p3 hi),h3,h4⟩
theorem Bko{s:List UInt8}(h1:s≠[])(h2:s.length<=32)(h3:s≠[115,101,108,102])(h4:s≠[97,114,103])(h5:97<=(s.getD 0 0).toNat/\(s.getD 0 0).toNat<=122)(h6:s.all TR=true)(h7:∀q:Nat,1<=q->q<56->Ci q≠s)(h8:∀q:Nat,1<=q->q<12->opT q≠s):Cz s=true:=by
 have e1 : asc "self" = [115, 101, 108, 102] := by decide +kernel
 have e2 : asc "arg" = [97, 114, 103] := by decide +kernel
 refine (BdX s h2 ((Wa s).2 ⟨h1,?_,h6⟩)).2 ⟨by rw[e1];exact h3,by rw[e2];exact h4,h7,h8⟩
 unfold low
 simp only[Bool.and_eq_true,decide_eq_true_eq]
 exact h5
theorem Ey{s:List UInt8}(h:Cz s=true->False):false=Cz s:=by
 cases e:Cz s with
 |false=>rfl
 |true=>exact (h e).elim
noncomputable def Ein(s:List UInt8):Senv:={ EC Bk7 75 1 [2,3,4,5,30,32,33,34,57,60,66,68,74] (fun _=>([],[])) with
 mg:=fun _=>2
 ann:=fun b _ S=>match b with
  |0=>some { slots:=[33],keep:=[0,32],α:=Nat,st:=fun y=>([.int .i64 y],S),inv:=fun y=>y<=s.length/\(s.take y).all TR=true,mu:=fun y=>s.length-y }
  |2=>some { slots:=[4],keep:=[0],α:=Nat,st:=fun y=>([.int .i64 y],S),inv:=fun y=>1<=y/\y<=56/\∀q:Nat,1<=q->q<y->Ci q≠s,mu:=fun y=>56-y }
  |4=>some { slots:=[5],keep:=[0],α:=Nat,st:=fun y=>([.int .i64 y],S),inv:=fun y=>1<=y/\y<=12/\∀q:Nat,1<=q->q<y->opT q≠s,mu:=fun y=>12-y }
  |_=>none }
def KK(a:List UInt8):Prop:=True/\∃(_y:Unit),True/\false=Cz a/\True/\True
def QbD(a:Nat)(b:List UInt8):Prop:=a<=LN b/\List.all (List.take a b) TR=true
def YJ(a:List UInt8)(b:Nat):Int:=(BI a (Int.toNat (↑b:Int)))
def QbE(a b:Nat):Prop:=(IntKind.wrap IntKind.i64 ((↑a:Int)+Z1)=(↑b:Int)/\True)/\True/\True
def Qis(a:List UInt8)(b:Nat):Prop:=(SM (D.str a)/\SM (ZI (LI a))/\True)/\∃(y:Nat),QbD y a/\LN a-y<LN a-b/\QbE b y
def Qit(a:Nat)(b:List UInt8):Prop:=Be (Z0<=(↑a:Int)/\(↑a:Int)<(LI b)) (ifB (decide (YJ b a<48)) (KK b) (Be (Z0<=(↑a:Int)/\(↑a:Int)<(LI b)) (ifB (decide ((57:Int)<YJ b a)) (KK b) (Qis b a))))
def QbF(a:Nat)(b:List UInt8):Prop:=N1<=a/\a<=56/\∀(q:Nat),N1<=q->q<a->Ci (↑q:Int)≠b
def QbG(a:Nat)(b:List UInt8):Prop:=N1<=a/\a<=12/\∀(q:Nat),N1<=q->q<a->opT (↑q:Int)≠b
theorem Bor(s:List UInt8):ACalls Tryz.prog 66 [.str s] ⟨[],[]⟩ (SpecR (sC [.str s] (.bool (Cz s))) ()):=by
 refine Bf (A:=sC _ _) (x:=()) (E:=Ein s) (eOk BjT rfl) Tryz.func66 rfl (by kernel_rfl) rfl (by simp[sC,Ein,EC,E0]) ?_
 refine Bk (T :=
  ifB (s==[]) (KK s) (ifB (decide ((32:Int)<(LI s))) (KK s) (ifB (s==[(115:UInt8),(101:UInt8),(108:UInt8),(102:UInt8)]) (KK s) (ifB (s==[(97:UInt8),(114:UInt8),(103:UInt8)]) (KK s) (Be (Z0<=Z0/\Z0<(LI s)) (ifB (decide ((BI s N0)<97)) (KK s) (Be (Z0<=Z0/\Z0<(LI s)) (ifB (decide ((122:Int)<(BI s N0))) (KK s) ((∃(x:Nat),QbD x s/\(Z0=(↑x:Int)/\True)/\True/\True)/\∀(x:Nat),QbD x s->ifB (decide ((↑x:Int)<(LI s))) (Be (Z0<=(↑x:Int)/\(↑x:Int)<(LI s)) (ifB (decide (YJ s x<97)) (Qit x s) (Be (Z0<=(↑x:Int)/\(↑x:Int)<(LI s)) (ifB (decide ((122:Int)<YJ s x)) (Qit x s) (Qis s x))))) ((∃(x:Nat),QbF x s/\(Z1=(↑x:Int)/\True)/\True/\True)/\∀(x:Nat),QbF x s->ifB (decide ((↑x:Int)<=55)) (True/\∀(y:Unit),True->ifB (Ci (↑x:Int)==s) (KK s) ((SM (D.str s)/\True)/\∃(y:Nat),QbF y s/\(56:Nat)-y<56-x/\QbE x y)) ((∃(x:Nat),QbG x s/\(Z1=(↑x:Int)/\True)/\True/\True)/\∀(x:Nat),QbG x s->ifB (decide ((↑x:Int)<=11)) (True/\∀(y:Unit),True->ifB (opT (↑x:Int)==s) (KK s) ((SM (D.str s)/\True)/\∃(y:Nat),QbG y s/\(12:Nat)-y<12-x/\QbE x y)) (RT (true=Cz s))))))))))))) (by kernel_rfl) ?_
 delta BI LI LN N0 N1 SM U0 Z0 Z1 ZI KK QbD YJ QbE Qis Qit QbF QbG RT
 simp only[eq_self,ne_eq,Int.toNat_natCast,Bh,Bc,decide_eq_true_eq,decide_eq_false_iff_not,true_and,and_true,beq_iff_eq,beq_eq_false_iff_ne,exists_const,forall_const]
 refine⟨fun h=>Ey fun e=>(BS e).1 h,fun k1=>⟨fun h=>Ey fun e=>by have:=(BS e).2.1;omega,fun k2=>⟨fun h=>Ey fun e=>(BS e).2.2.1 h,fun k3=>⟨fun h=>Ey fun e=>(BS e).2.2.2.1 h,fun k4=>?_⟩⟩⟩⟩
 have hl:0<s.length:=List.length_pos_iff.2 k1
 refine⟨⟨by omega,by omega⟩,fun h=>Ey fun e=>by have:=(BS e).2.2.2.2.1;omega,fun k5=>⟨⟨by omega,by omega⟩,fun h=>Ey fun e=>by have:=(BS e).2.2.2.2.1;omega,fun k6=>⟨⟨0,⟨Nat.zero_le _,rfl⟩,rfl⟩,fun x ⟨hx,ht⟩=>⟨fun hlt=>?_,fun hge=>?_⟩⟩⟩⟩
 ·have hx':x<s.length:=by omega
  have w:IntKind.i64.wrap ((x:Int)+1)=((x+1:Nat):Int):=by rw[Bb (by omega) (by omega)];rfl
  have go:((97<=(s.getD x 0).toNat/\(s.getD x 0).toNat<=122)\/(48<=(s.getD x 0).toNat/\(s.getD x 0).toNat<=57))->∃y,(y<=s.length/\(List.take y s).all TR=true)/\s.length-y<s.length-x/\IntKind.i64.wrap ((x:Int)+1)=(y:Int):=fun hc =>
   ⟨x+1,⟨hx',Bjg hx' ht ((Bdo _).2 hc)⟩,by omega,w⟩
  have no:¬((97<=(s.getD x 0).toNat/\(s.getD x 0).toNat<=122)\/(48<=(s.getD x 0).toNat/\(s.getD x 0).toNat<=57))->false=Cz s:=fun hc=>Ey fun e=>hc ((BS e).2.2.2.2.2.1 x hx')
  exact⟨⟨by omega,by omega⟩,fun a1=>⟨⟨by omega,by omega⟩,fun a2=>no (by omega),fun a2=>⟨⟨by omega,by omega⟩,fun a3=>no (by omega),fun a3=>go (by omega)⟩⟩,
   fun a1=>⟨⟨by omega,by omega⟩,fun a2=>⟨⟨by omega,by omega⟩,fun a3=>no (by omega),fun a3=>⟨⟨by omega,by omega⟩,fun a4=>no (by omega),fun a4=>go (by omega)⟩⟩,fun a2=>go (by omega)⟩⟩
 ·have hall:s.all TR=true:=by
   have:x=s.length:=by omega
   rwa [this,List.take_length] at ht
  refine⟨⟨1,⟨Nat.le_refl _,by omega,fun q h1 h2=>by omega⟩,rfl⟩,fun y ⟨y1,y2,y3⟩=>⟨fun hy=>⟨fun e=>Ey fun e'=>(BS e').2.2.2.2.2.2.1 y y1 (by omega) e,fun e=>⟨y+1,⟨by omega,by omega,fun q h1 h2=>?_⟩,by omega,by rw[Bb (by omega) (by omega)];rfl⟩⟩,
   fun hy=>⟨⟨1,⟨Nat.le_refl _,by omega,fun q h1 h2=>by omega⟩,rfl⟩,fun z ⟨z1,z2,z3⟩=>⟨fun hz=>⟨fun e=>Ey fun e'=>(BS e').2.2.2.2.2.2.2 z z1 (by omega) e,fun e=>⟨z+1,⟨by omega,by omega,fun q h1 h2=>?_⟩,by omega,by rw[Bb (by omega) (by omega)];rfl⟩⟩,fun hz=>?_⟩⟩⟩⟩
  ·by_cases e':q=y
   ·rw[e'];exact e
   ·exact y3 q h1 (by omega)
  ·by_cases e':q=z
   ·rw[e'];exact e
   ·exact z3 q h1 (by omega)
  ·exact (Bko k1 (by omega) k3 k4 ⟨by omega,by omega⟩ hall (fun q h1 h2=>y3 q h1 (by omega)) fun q h1 h2=>z3 q h1 (by omega)).symm
def GO(vk:Int)(sh nu it:Nat):Bool:=vk==0&&(sh==0)&&(nu==0)&&(it==0)
def Bx(kd at_:Int)(tx:List UInt8)(pr op vk:Int)(sh nu it bo:Nat)(de sl ss k:Int):Bool :=
 kd==k&&decide (0<=at_)&&decide (0<=de)&&decide (0<=sl)&&decide (0<=ss)&&(tx.isEmpty||k==2)&&(pr==0||k==9)&&(op==0||k==17)&&(GO vk sh nu it||k==1)&&((bo==0)||k==10)
def Gg(kd at_ cl:Int)(tx:List UInt8)(pr op vk:Int)(sh nu it ki bo:Nat)(de sl ss:Int):Bool:=kd==0&&at_==0&&cl==0&&de==0&&sl==0&&ss==0&&Bx kd at_ tx pr op vk sh nu it bo de sl ss 0&&(ki==0)
theorem Bcj{α:Type}(l:List α):(l.length==0)=l.isEmpty:=by cases l<;>rfl
theorem BcO(n:Nd)(k:Int):Bx n.kd n.at_ n.tx n.pr n.op n.va.k n.va.sh.length n.va.nu.length n.va.it.length n.bo.length n.de n.sl n.ss k=Ug n k:=by
 unfold Bx Ug GO Bn7
 simp[Bcj]
theorem Bhp(n:Nd):Gg n.kd n.at_ n.cl n.tx n.pr n.op n.va.k n.va.sh.length n.va.nu.length n.va.it.length n.ki.length n.bo.length n.de n.sl n.ss=Iu n:=by
 unfold Gg Iu
 rw[BcO]
 simp[Bcj]
def ndC(kd at_ cl:Int)(tx:List UInt8)(pr op vk:Int)(sh nu it ki bo:Nat)(f1 f2 f3 f4 f5:Nat->List D)(de sl ss:Int):List D :=
 [.int .i64 kd,.int .i64 at_,.int .i64 cl,.str tx,.int .i64 pr,.int .i64 op,.int .i64 vk,.sl 1 sh f1 .any,.sl 1 nu f2 .any,.sl 4 it f3 .any,.sl 15 ki f4 .any,.sl 34 bo f5 .any,.int .i64 de,.int .i64 sl,.int .i64 ss]
noncomputable def Eiz:Senv:=EC E5 24 3 [] (fun _=>([],[]))
def J1(a:Nat):Bool:=(↑a:Int)==Z0
def QbH(a:Int)(b c d:Nat):Bool:=bif bif bif a==Z0 then J1 b else false then J1 c else false then J1 d else false
def QbI(a:Int)(b c d:Nat):Prop:=false=QbH a b c d/\True
theorem Bqt(vk:Int)(sh nu it:Nat)(f1 f2 f3:Nat->List D):CD 122 [.agg [.int .i64 vk,.sl 1 sh f1 .any,.sl 1 nu f2 .any,.sl 4 it f3 .any]] (.bool (GO vk sh nu it)):=by
 refine Bf (A:=sC _ _) (x:=()) (E:=Eiz) (eOk BJ rfl) Tryz.func122 rfl (by kernel_rfl) rfl (by simp[sC,Eiz,EC,E0]) ?_
 refine Bk (T :=
  ∀(x:Nat),True->(SM x/\ifB (vk==Z0) (SM x/\ifB (J1 sh) (SM x/\ifB (J1 nu) (SM x/\J1 it=QbH vk sh nu it/\True) (QbI vk sh nu it)) (QbI vk sh nu it)) (QbI vk sh nu it))/\RT (QbH vk sh nu it=GO vk sh nu it)) (by kernel_rfl) ?_
 delta SM Z0 J1 QbH QbI RT
 have z:∀n:Nat,((n:Int)==0)=(n==0):=fun n=>by
  rw[Bool.eq_iff_iff,beq_iff_eq,beq_iff_eq];omega
 simp only[z]
 unfold GO
 generalize (vk==0)=a
 generalize (sh==0)=b
 generalize (nu==0)=c
 generalize (it==0)=d
 intro x _
 cases a<;>cases b<;>cases c<;>cases d<;>simp[Bh]
def BgB:Con:=fun k ds _=>match k with
 |122=>match ds with
  | [.agg [.int .i64 vk,.sl 1 sh _ _,.sl 1 nu _ _,.sl 4 it _ _]]=>some (pC ds (.bool (GO vk sh nu it)) True)
  |_=>none
 |_=>none
theorem Bcr:ConOk Tryz.prog BgB:=by
 intro k ds S A h
 unfold BgB at h
 split at h
 ·split at h
  ·injection h with h;subst h
   rename_i vk sh f1 _ nu f2 _ it f3 _
   exact BM fun _=>⟨Bj _,Cb (us:=[.agg [.int .i64 vk,.sl 1 sh f1 .any,.sl 1 nu f2 .any,.sl 4 it f3 .any]]) (by simp[Br,Bg,Ba,BE,kEq]) (Bqt _ _ _ _ _ _ _)⟩
  ·cases h
 ·cases h
noncomputable def Eol:Senv:=EC BgB 75 3 [4] (fun _=>([],[]))
theorem Bn5(kd at_ cl : Int)(tx : List UInt8)(pr op vk : Int)(sh nu it ki bo : Nat)(f1 f2 f3 f4 f5 : Nat -> List D)(de sl ss k : Int) :
  ACalls Tryz.prog 93 [.agg (ndC kd at_ cl tx pr op vk sh nu it ki bo f1 f2 f3 f4 f5 de sl ss),.int .i64 k] ⟨[],[]⟩ (SpecR (sC [.agg (ndC kd at_ cl tx pr op vk sh nu it ki bo f1 f2 f3 f4 f5 de sl ss),.int .i64 k] (.bool (Bx kd at_ tx pr op vk sh nu it bo de sl ss k))) ()):=by
 refine Bf (A:=sC _ _) (x:=()) (E:=Eol) (eOk Bcr rfl) Tryz.func93 rfl (by kernel_rfl) rfl (by simp[sC,Eol,EC,E0]) ?_
 refine Bk (T :=
  ∀(x:Nat),True->SM x/\ifB (kd==k) (SM x/\ifB (decide (Z0<=at_)) (SM x/\ifB (decide (Z0<=de)) (SM x/\ifB (decide (Z0<=sl)) (SM x/\ifB (decide (Z0<=ss)) (SM x/\ifB (tx==[]) (SM x/\ifB (pr==Z0) (SM x/\ifB (op==Z0) (SM x/\True/\∀(y:Unit),True->ifB (GO vk sh nu it) (SM x/\ifB ((↑bo:Int)==Z0) (RT (true=Bx kd at_ tx pr op vk sh nu it bo de sl ss k)) (RT ((k==10)=Bx kd at_ tx pr op vk sh nu it bo de sl ss k))) (ifB (k==Z1) (SM x/\ifB ((↑bo:Int)==Z0) (RT (true=Bx kd at_ tx pr op vk sh nu it bo de sl ss k)) (RT ((k==10)=Bx kd at_ tx pr op vk sh nu it bo de sl ss k))) (RT (false=Bx kd at_ tx pr op vk sh nu it bo de sl ss k)))) (ifB (k==17) (SM x/\True/\∀(y:Unit),True->ifB (GO vk sh nu it) (SM x/\ifB ((↑bo:Int)==Z0) (RT (true=Bx kd at_ tx pr op vk sh nu it bo de sl ss k)) (RT ((k==10)=Bx kd at_ tx pr op vk sh nu it bo de sl ss k))) (ifB (k==Z1) (SM x/\ifB ((↑bo:Int)==Z0) (RT (true=Bx kd at_ tx pr op vk sh nu it bo de sl ss k)) (RT ((k==10)=Bx kd at_ tx pr op vk sh nu it bo de sl ss k))) (RT (false=Bx kd at_ tx pr op vk sh nu it bo de sl ss k)))) (RT (false=Bx kd at_ tx pr op vk sh nu it bo de sl ss k)))) (ifB (k==9) (SM x/\ifB (op==Z0) (SM x/\True/\∀(y:Unit),True->ifB (GO vk sh nu it) (SM x/\ifB ((↑bo:Int)==Z0) (RT (true=Bx kd at_ tx pr op vk sh nu it bo de sl ss k)) (RT ((k==10)=Bx kd at_ tx pr op vk sh nu it bo de sl ss k))) (ifB (k==Z1) (SM x/\ifB ((↑bo:Int)==Z0) (RT (true=Bx kd at_ tx pr op vk sh nu it bo de sl ss k)) (RT ((k==10)=Bx kd at_ tx pr op vk sh nu it bo de sl ss k))) (RT (false=Bx kd at_ tx pr op vk sh nu it bo de sl ss k)))) (ifB (k==17) (SM x/\True/\∀(y:Unit),True->ifB (GO vk sh nu it) (SM x/\ifB ((↑bo:Int)==Z0) (RT (true=Bx kd at_ tx pr op vk sh nu it bo de sl ss k)) (RT ((k==10)=Bx kd at_ tx pr op vk sh nu it bo de sl ss k))) (ifB (k==Z1) (SM x/\ifB ((↑bo:Int)==Z0) (RT (true=Bx kd at_ tx pr op vk sh nu it bo de sl ss k)) (RT ((k==10)=Bx kd at_ tx pr op vk sh nu it bo de sl ss k))) (RT (false=Bx kd at_ tx pr op vk sh nu it bo de sl ss k)))) (RT (false=Bx kd at_ tx pr op vk sh nu it bo de sl ss k)))) (RT (false=Bx kd at_ tx pr op vk sh nu it bo de sl ss k)))) (ifB (k==2) (SM x/\ifB (pr==Z0) (SM x/\ifB (op==Z0) (SM x/\True/\∀(y:Unit),True->ifB (GO vk sh nu it) (SM x/\ifB ((↑bo:Int)==Z0) (RT (true=Bx kd at_ tx pr op vk sh nu it bo de sl ss k)) (RT ((k==10)=Bx kd at_ tx pr op vk sh nu it bo de sl ss k))) (ifB (k==Z1) (SM x/\ifB ((↑bo:Int)==Z0) (RT (true=Bx kd at_ tx pr op vk sh nu it bo de sl ss k)) (RT ((k==10)=Bx kd at_ tx pr op vk sh nu it bo de sl ss k))) (RT (false=Bx kd at_ tx pr op vk sh nu it bo de sl ss k)))) (ifB (k==17) (SM x/\True/\∀(y:Unit),True->ifB (GO vk sh nu it) (SM x/\ifB ((↑bo:Int)==Z0) (RT (true=Bx kd at_ tx pr op vk sh nu it bo de sl ss k)) (RT ((k==10)=Bx kd at_ tx pr op vk sh nu it bo de sl ss k))) (ifB (k==Z1) (SM x/\ifB ((↑bo:Int)==Z0) (RT (true=Bx kd at_ tx pr op vk sh nu it bo de sl ss k)) (RT ((k==10)=Bx kd at_ tx pr op vk sh nu it bo de sl ss k))) (RT (false=Bx kd at_ tx pr op vk sh nu it bo de sl ss k)))) (RT (false=Bx kd at_ tx pr op vk sh nu it bo de sl ss k)))) (ifB (k==9) (SM x/\ifB (op==Z0) (SM x/\True/\∀(y:Unit),True->ifB (GO vk sh nu it) (SM x/\ifB ((↑bo:Int)==Z0) (RT (true=Bx kd at_ tx pr op vk sh nu it bo de sl ss k)) (RT ((k==10)=Bx kd at_ tx pr op vk sh nu it bo de sl ss k))) (ifB (k==Z1) (SM x/\ifB ((↑bo:Int)==Z0) (RT (true=Bx kd at_ tx pr op vk sh nu it bo de sl ss k)) (RT ((k==10)=Bx kd at_ tx pr op vk sh nu it bo de sl ss k))) (RT (false=Bx kd at_ tx pr op vk sh nu it bo de sl ss k)))) (ifB (k==17) (SM x/\True/\∀(y:Unit),True->ifB (GO vk sh nu it) (SM x/\ifB ((↑bo:Int)==Z0) (RT (true=Bx kd at_ tx pr op vk sh nu it bo de sl ss k)) (RT ((k==10)=Bx kd at_ tx pr op vk sh nu it bo de sl ss k))) (ifB (k==Z1) (SM x/\ifB ((↑bo:Int)==Z0) (RT (true=Bx kd at_ tx pr op vk sh nu it bo de sl ss k)) (RT ((k==10)=Bx kd at_ tx pr op vk sh nu it bo de sl ss k))) (RT (false=Bx kd at_ tx pr op vk sh nu it bo de sl ss k)))) (RT (false=Bx kd at_ tx pr op vk sh nu it bo de sl ss k)))) (RT (false=Bx kd at_ tx pr op vk sh nu it bo de sl ss k)))) (RT (false=Bx kd at_ tx pr op vk sh nu it bo de sl ss k)))) (RT (false=Bx kd at_ tx pr op vk sh nu it bo de sl ss k))) (RT (false=Bx kd at_ tx pr op vk sh nu it bo de sl ss k))) (RT (false=Bx kd at_ tx pr op vk sh nu it bo de sl ss k))) (RT (false=Bx kd at_ tx pr op vk sh nu it bo de sl ss k))) (RT (false=Bx kd at_ tx pr op vk sh nu it bo de sl ss k))) (by kernel_rfl) ?_
 delta SM Z0 Z1 RT
 have z:∀n:Nat,((n:Int)==0)=(n==0):=fun n=>by
  rw[Bool.eq_iff_iff,beq_iff_eq,beq_iff_eq];omega
 have e:(tx==[])=tx.isEmpty:=by cases tx<;>rfl
 unfold Bx
 simp only[z,e]
 generalize (kd==k)=a1
 generalize decide (0<=at_)=a2
 generalize decide (0<=de)=a3
 generalize decide (0<=sl)=a4
 generalize decide (0<=ss)=a5
 generalize tx.isEmpty=a6
 generalize (k==2)=a7
 generalize (pr==0)=a8
 generalize (k==9)=a9
 generalize (op==0)=b1
 generalize (k==17)=b2
 generalize GO vk sh nu it=b3
 generalize (k==1)=b4
 generalize (bo==0)=b5
 generalize (k==10)=b6
 simp only[Bh,true_and,and_true,exists_const,forall_const]
 repeat' (first | refine And.intro ?_ ?_ | intro _)
 all_goals subst_vars
 all_goals simp only[Bool.true_and,Bool.and_true,Bool.false_and,Bool.and_false,Bool.true_or,Bool.false_or,Bool.or_true,Bool.or_false]
def Bkb:Con:=fun k ds S=>match k with
 |93=>match ds with
  | [.agg [.int .i64 kd,.int .i64 at_,.int .i64 _,.str tx,.int .i64 pr,.int .i64 op,.int .i64 vk,.sl 1 sh _ _,.sl 1 nu _ _,.sl 4 it _ _,.sl 15 _ _ _,.sl 34 bo _ _,.int .i64 de,.int .i64 sl,.int .i64 ss],.int .i64 k]=>some (pC ds (.bool (Bx kd at_ tx pr op vk sh nu it bo de sl ss k)) True)
  |_=>none
 |k=>BgB k ds S
theorem Bpa(kd at_ cl : Int)(tx : List UInt8)(pr op vk : Int)(sh nu it ki bo : Nat)(f1 f2 f3 f4 f5 : Nat -> List D)(m1 m2 m3 m4 m5 : Ab.Mode)(de sl ss : Int)(ex : List D) :
  Br (.agg [.int .i64 kd,.int .i64 at_,.int .i64 cl,.str tx,.int .i64 pr,.int .i64 op,.int .i64 vk,.sl 1 sh f1 m1,.sl 1 nu f2 m2,.sl 4 it f3 m3,.sl 15 ki f4 m4,.sl 34 bo f5 m5,.int .i64 de,.int .i64 sl,.int .i64 ss]::ex) (.agg (ndC kd at_ cl tx pr op vk sh nu it ki bo f1 f2 f3 f4 f5 de sl ss)::ex):=by
 refine⟨?_,Bj _⟩
 simp[ndC,Br,Bg,Ba,BE,kEq]
theorem BlF:ConOk Tryz.prog Bkb:=by
 intro k ds S A h
 unfold Bkb at h
 split at h
 ·split at h
  ·injection h with h;subst h
   exact BM fun _=>⟨Bj _,Cb (Bpa _ _ _ _ _ _ _ _ _ _ _ _ _ _ _ _ _ _ _ _ _ _ _ _ _ _) (Bn5 _ _ _ _ _ _ _ _ _ _ _ _ _ _ _ _ _ _ _ _ _)⟩
  ·cases h
 ·exact Bcr _ _ _ _ h
noncomputable def Eem:Senv:=EC Bkb 41 3 [] (fun _=>([],[]))
theorem BqI(kd at_ cl : Int)(tx : List UInt8)(pr op vk : Int)(sh nu it ki bo : Nat)(f1 f2 f3 f4 f5 : Nat -> List D)(de sl ss : Int) :
  ACalls Tryz.prog 65 [.agg (ndC kd at_ cl tx pr op vk sh nu it ki bo f1 f2 f3 f4 f5 de sl ss)] ⟨[],[]⟩ (SpecR (sC [.agg (ndC kd at_ cl tx pr op vk sh nu it ki bo f1 f2 f3 f4 f5 de sl ss)] (.bool (Gg kd at_ cl tx pr op vk sh nu it ki bo de sl ss))) ()):=by
 refine Bf (A:=sC _ _) (x:=()) (E:=Eem) (eOk BlF rfl) Tryz.func65 rfl (by kernel_rfl) rfl (by simp[sC,Eem,EC,E0]) ?_
 refine Bk (T :=
  ∀(x:Nat),True->SM x/\ifB (kd==Z0) (SM x/\ifB (at_==Z0) (SM x/\ifB (cl==Z0) (SM x/\ifB (de==Z0) (SM x/\ifB (sl==Z0) (SM x/\ifB (ss==Z0) (SM x/\True/\∀(y:Unit),True->ifB (Bx kd at_ tx pr op vk sh nu it bo de sl ss Z0) (SM x/\RT (((↑ki:Int)==Z0)=Gg kd at_ cl tx pr op vk sh nu it ki bo de sl ss)) (RT (false=Gg kd at_ cl tx pr op vk sh nu it ki bo de sl ss))) (RT (false=Gg kd at_ cl tx pr op vk sh nu it ki bo de sl ss))) (RT (false=Gg kd at_ cl tx pr op vk sh nu it ki bo de sl ss))) (RT (false=Gg kd at_ cl tx pr op vk sh nu it ki bo de sl ss))) (RT (false=Gg kd at_ cl tx pr op vk sh nu it ki bo de sl ss))) (RT (false=Gg kd at_ cl tx pr op vk sh nu it ki bo de sl ss))) (RT (false=Gg kd at_ cl tx pr op vk sh nu it ki bo de sl ss))) (by kernel_rfl) ?_
 delta SM Z0 RT
 have z:∀n:Nat,((n:Int)==0)=(n==0):=fun n=>by
  rw[Bool.eq_iff_iff,beq_iff_eq,beq_iff_eq];omega
 unfold Gg
 simp only[z]
 generalize (kd==0)=a1
 generalize (at_==0)=a2
 generalize (cl==0)=a3
 generalize (de==0)=a4
 generalize (sl==0)=a5
 generalize (ss==0)=a6
 generalize (ki==0)=a8
 generalize Bx _ _ _ _ _ _ _ _ _ _ _ _ _ _=a7
 simp only[Bh,true_and,and_true,exists_const,forall_const]
 repeat' (first | refine And.intro ?_ ?_ | intro _)
 all_goals subst_vars
 all_goals simp only[Bool.true_and,Bool.and_true,Bool.false_and,Bool.and_false]
theorem Bgp{l:List Nd}{m:List Int}:(l.map Nd.cl==m)=true↔l.length=m.length/\∀j,j<l.length->(l.getD j default).cl=m.getD j 0:=by
 rw[beq_iff_eq]
 constructor
 ·rintro rfl
  refine⟨by simp,fun j hj=>?_⟩
  simp[List.getD_eq_getElem?_getD,hj]
 ·rintro ⟨h1,h2⟩
  apply List.ext_getElem (by simpa using h1)
  intro i h3 h4
  have h3:i<l.length:=by simpa using h3
  have:=h2 i h3
  simpa[List.getD_eq_getElem?_getD,h3,h4] using this
theorem Bjk{l:List Nd}{m:List Int}(h:¬(l.length=m.length/\∀j,j<l.length->(l.getD j default).cl=m.getD j 0)):false=(l.map Nd.cl==m):=by
 cases e:(l.map Nd.cl==m) with
 |false=>rfl
 |true=>exact (h (Bgp.1 e)).elim
noncomputable def Eqc(l:List Nd)(m:List Int):Senv:={ EC E5 32 3 [6,7,8,9,14,15,16,17,18,30] (fun _=>([],[])) with
 ann:=fun q _ S=>match q with
  |0=>some { slots:=[17],keep:=[0,1,2,15,16],α:=Nat,st:=fun i=>([.int .i64 i],S),inv:=fun i=>i<=l.length/\∀j,j<i->(l.getD j default).cl=m.getD j 0,mu:=fun i=>l.length-i }
  |_=>none }
def Qiu(a:List Nd)(b:List Int):Prop:=True/\∃(_y:Unit),True/\false=(List.map Nd.cl a==b)/\True/\True
def Qiv:Arr:=DA
def VY:Nd:=Nd.mk Z0 Z0 Z0 [] Z0 Z0 Qiv [] [] Z0 Z0 Z0
def QS(a:List Nd)(b:Nat):Nd:=List.getD a b VY
def Qiw(a:List Nd)(b:Nat):Int:=Nd.cl (QS a b)
def QbJ(a:Nat)(b:List Nd)(c:List Int):Prop:=a<=LN b/\∀(j:Nat),j<a->Qiw b j=GI c j
def Qu2(a:List Nd):D:=D.sl 15 (LN a) (fun i=>(Nd.rowE (QS a i))) Mode.any
def QiA(a:List Nd):Prop:=SM (Qu2 a)
def Qu3(a:List Int):D:=SI a
theorem Bpt(l:List Nd)(m:List Int)(hl:l.length<=maxLen)(hm:m.length<=maxLen):CD 156 [gsl 15 Nd.row1 l,isl m .any,.fn (.func 157) [] []] (.bool (l.map Nd.cl==m)):=by
 refine Bf (A:=sC _ _) (x:=()) (E:=Eqc l m) (eOk BJ rfl) Tryz.func156 rfl (by kernel_rfl) rfl (by simp[sC,Eqc,EC,E0]) ?_
 refine Bk (T :=
  ifB ((LI l) != (LI m)) (Qiu l m) ((∃(x:Nat),QbJ x l m/\(Z0=(↑x:Int)/\True)/\True/\True)/\∀(x:Nat),QbJ x l m->ifB (decide ((↑x:Int)<(LI l))) (Be (Z0<=(↑x:Int)/\(↑x:Int)<(LI l)) (∀(x_1:Nat),True->SM x_1/\Be (Z0<=(↑x:Int)/\(↑x:Int)<(LI m)) (SM x_1/\∀(x_2:Nat),x_1≠x_2/\True->SM x_2/\True/\ifB (!Nd.cl (List.getD l (Int.toNat (↑x:Int)) VY)==GI m (Int.toNat (↑x:Int))) (Qiu l m) ((QiA l/\SM (Qu3 m)/\SM (D.fn (Fn.func (157:Nat)) [] [])/\QiA l/\SM (ZI (LI l))/\True)/\∃(y:Nat),QbJ y l m/\LN l-y<LN l-x/\(IntKind.wrap IntKind.i64 ((↑x:Int)+Z1)=(↑y:Int)/\True)/\True/\True)))) (RT (true=(List.map Nd.cl l==m))))) (by kernel_rfl) ?_
 delta DA GI LI LN N1 N4 SI SM Z0 Z1 ZI Qiu Qiv Qu2 QiA Qu3 VY QS Qiw QbJ RT
 simp only[eq_self,ne_eq,Int.toNat_natCast,Bh,Bc,decide_eq_true_eq,decide_eq_false_iff_not,true_and,and_true,beq_iff_eq,bne_iff_ne,bne_eq_false_iff_eq,beq_eq_false_iff_ne,Bool.not_eq_true',Bool.not_eq_false',exists_const,forall_const]
 simp only[<- dn]
 simp only[maxLen] at hl hm
 refine⟨fun h=>Bjk fun ⟨e,_⟩=>h (by omega),fun he=>⟨⟨0,⟨Nat.zero_le _,fun j hj=>by omega⟩,rfl⟩,fun x ⟨x1,hx⟩=>⟨fun hlt=>⟨⟨by omega,by omega⟩,fun _=>⟨⟨by omega,by omega⟩,fun _ _=>⟨fun h=>Bjk fun ⟨_,e⟩=>h (e x (by omega)),fun h=>⟨x+1,⟨by omega,fun j hj=>by
   by_cases e:j=x
   ·rw[e];exact h
   ·exact hx j (by omega)⟩,by omega,Bb (by omega) (by omega)⟩⟩⟩⟩,fun hge=>(Bgp.2 ⟨by omega,fun j hj=>hx j (by omega)⟩).symm⟩⟩⟩
def Beq(n:Nd):Con:=fun k ds S=>match k with
 |156=>match ds with
  | [_,.sl 1 m f _,_]=>some (pA ds S (.bool (n.ki.map Nd.cl==Bp m f)) (wkL ds [gsl 15 Nd.row1 n.ki,isl (Bp m f) .any,.fn (.func 157) [] []]/\m<=maxLen))
  |_=>none
 |_=>none
theorem Big{n:Nd}(h:n.ki.length<=maxLen):ConOk Tryz.prog (Beq n):=by
 intro k ds S A hh
 unfold Beq at hh
 split at hh
 ·split at hh
  ·injection hh with hh;subst hh
   exact Bv fun ⟨e,hm⟩=>CD.at_ (CD.wk (Bpt _ _ h (by rw[B3];exact hm)) e) _
  ·cases hh
 ·cases hh
noncomputable def Ecls(n:Nd):Senv:=EC (Beq n) 9 3 [4] (fun _=>([],[]))
def QbK(a:Nd):List Nd:=Nd.ki a
def QiB(a:Nd):D:=D.sl 15 (LN (QbK a)) (fun i=>Nd.row1 (List.getD (QbK a) i (Nd.mk Z0 Z0 Z0 [] Z0 Z0 DA [] [] Z0 Z0 Z0))) Mode.any
def QiC:List D:=[D.fn (Fn.func (157:Nat)) [] []]
def QiD(a:List Int):List Int:=Bp (LN a) fun i=>[ZI (GI a i)]
theorem BmG(n:Nd)(m:List Int)(hl:n.ki.length<=maxLen)(hm:m.length<=maxLen):CD 124 [.agg n.row2,isl m .any] (.bool (BA n m)):=by
 refine Bf (A:=sC _ _) (x:=()) (E:=Ecls n) (eOk (Big hl) rfl) Tryz.func124 rfl (by kernel_rfl) rfl (by simp[sC,Ecls,EC,E0]) ?_
 refine Bk (T :=
  ∀(x:Nat),True->SM x/\∃(x:Unit),(wkL (QiB n::SI m::QiC) (QiB n::SI (QiD m)::QiC)/\LN m<=9223372036854775807)/\∀(y:Unit),True->RT ((List.map Nd.cl (QbK n)==QiD m)=BA n m)) (by kernel_rfl) ?_
 delta DA GI LN N1 SI SM Z0 ZI QbK QiB QiC QiD RT
 simp only[true_and,and_true,exists_const,forall_const,Cl]
 exact⟨⟨Bi _,hm⟩,rfl⟩
def Bld(n:Nd):Con:=fun k ds S=>match k with
 |123=>some (pA ds S (.int .i64 (BG n.va).1) (wkL ds [.agg n.va.row1]))
 |66=>some (pA ds S (.bool (Cz n.tx)) (wkL ds [.str n.tx]))
 |98=>some (pA ds S (.str (Ci n.pr)) (wkL ds [.int .i64 n.pr]))
 |99=>some (pA ds S (.str (opT n.op)) (wkL ds [.int .i64 n.op]))
 |_=>none
theorem BlH{n:Nd}(h:n.va.ok):ConOk Tryz.prog (Bld n):=by
 intro k ds S A hh
 unfold Bld at hh
 split at hh
 ·injection hh with hh;subst hh
  exact Bv fun e=>CD.at_ (CD.wk (Bol n.va h) e) _
 ·injection hh with hh;subst hh
  exact Bv fun e=>CD.at_ (CD.wk (Bor n.tx) e) _
 ·injection hh with hh;subst hh
  exact Bv fun e=>CD.at_ (CD.wk (Biy n.pr) e) _
 ·injection hh with hh;subst hh
  exact Bv fun e=>CD.at_ (CD.wk (Bjn n.op) e) _
 ·cases hh
noncomputable def Ele(n:Nd):Senv:=EC (Bld n) 104 7 [10,12,13,49,64,71,82,89,93] (fun _=>([],[]))
def K9(a:Nd):Bool:=C9 a
def KR(a:Nd):Prop:=True/\∃(_y:Unit),True/\false=K9 a/\True/\True
def Qy(a:Nd):Int:=Nd.kd a
def VZ(a:Nd):Arr:=Nd.va a
def QiE(a:Nd):List Int:=Arr.sh (VZ a)
def QiF(a:Nd):Nat:=LN (QiE a)
def QiG(a:Nd):Int:=(NI (QiF a))
def QiH(a:Nd):Bool:=QiG a==Z0
def QbL(a:Nd):Int:=Arr.k (VZ a)
def QiI(a:Nd):Bool:=QbL a != (3:Int)
def QbM(a:Nd):Bool:=bif QiH a then QiI a else false
def QiJ(a:Nd):Bool:=QiG a==Z1
def QiK(a:Nd):Bool:=QbL a==2
def QbN(a:Nd):Bool:=bif QiJ a then QiK a else false
def Ja(a:Nd):Int:=Nd.cl a
def Qu4(a:Nd):List Int:=Arr.nu (VZ a)
def QiL(a:Nd):List Arr:=Arr.it (VZ a)
def QiM(a:Nd):List D:=[D.agg [ZI (QbL a),D.sl N1 (QiF a) (fun i=>[ZI (GI (QiE a) i)]) Mode.any,SI (Qu4 a),D.sl N4 (LN (QiL a)) (fun i=>Arr.row (GA (QiL a) i)) Mode.any]]
def QbO(a:Nat)(b:Nd):Prop:=SM a/\True/\∃(_y:Unit),True/\(Ja b==Z1)=K9 b/\True/\True
def QbP(a:Nat)(b:Nd):Prop:=SM a/\True/\∃(_y:Unit),True/\(Ja b==2)=K9 b/\True/\True
def YL(a:Nd):Int:=Nd.op a
def QiN(a:Nat)(b:Nd):Prop:=SM a/\∃(_x:Unit),wkL [ZI (YL b)] [ZI (YL b)]/\∀(_y:Unit),True->True/\∃(_y:Unit),True/\(opT (YL b) != [])=K9 b/\True/\True
def QbQ(a:Nd)(b:Nat):Prop:=ifB (Qy a==17) (SM b/\ifB (decide (YL a<=5)) (SM b/\ifB (Ja a==3) (QiN b a) (KR a)) (SM b/\ifB (Ja a==4) (QiN b a) (KR a))) (KR a)
def QbR(a:Nd)(b:Nat):Prop:=ifB (Qy a==9) (SM b/\ifB (Ja a==2) (SM b/\∃(_x:Unit),wkL [ZI (Nd.pr a)] [ZI (Nd.pr a)]/\∀(_y:Unit),True->True/\∃(_y:Unit),True/\(Ci (Nd.pr a) != [])=K9 a/\True/\True) (KR a)) (ifB (Qy a==11) (ifB (Qy a==11) (QbP b a) (QbQ a b)) (ifB (Qy a==12) (ifB (Qy a==12) (QbP b a) (QbQ a b)) (ifB (Qy a==13) (QbP b a) (QbQ a b))))
theorem Bqn(n:Nd)(h:n.va.ok):CD 95 [.agg n.row2] (.bool (C9 n)) := by
  refine Bf (A := sC _ _) (x := ()) (E := Ele n) (eOk (BlH h) rfl) Tryz.func95 rfl (by kernel_rfl) rfl (by simp [sC,Ele,EC,E0]) ?_
  refine Bk (T :=
    ∀ (x:Nat),True->SM x/\ifB (decide (Z0 < (LI (Nd.ki n)))) (KR n) (SM x/\ifB (Qy n == Z1) (SM x/\∀ (x_1:Nat),x ≠ x_1/\True->SM x_1/\(SM x_1/\ifB (QiH n) (SM x_1/\QiI n = QbM n/\True) (false = QbM n/\True))/\(SM x_1/\ifB (QiJ n) (SM x_1/\QiK n = QbN n/\True) (false = QbN n/\True))/\SM x/\ifB (Ja n == Z1) (SM x_1/\∃ (x:Unit),wkL (QiM n) (QiM n)/\∀ (y:Unit),True->ifB (Prod.fst (BG (VZ n)) == Z0) (ifB (QbM n) (True/\∃ (y:Unit),True/\true = K9 n/\True/\True) (True/\∃ (y:Unit),True/\QbN n = K9 n/\True/\True)) (KR n)) (KR n)) (ifB (Qy n == (2:Int)) (SM x/\ifB (decide (Z1 <= Ja n)) (SM x/\ifB (decide (Ja n <= (4:Int))) (SM x/\∃ (x:Unit),wkL [D.str (Nd.tx n)] [D.str (Nd.tx n)]/\∀ (y:Unit),True->True/\∃ (y:Unit),True/\Cz (Nd.tx n) = K9 n/\True/\True) (KR n)) (KR n)) (ifB (Qy n == (6:Int)) (ifB (Qy n == (6:Int)) (QbO x n) (QbR n x)) (ifB (Qy n == (7:Int)) (ifB (Qy n == (7:Int)) (QbO x n) (QbR n x)) (ifB (Qy n == (8:Int)) (QbO x n) (QbR n x))))))) (by kernel_rfl) ?_
  delta DA GA GI LI LN N1 N4 NI SI SM Z0 Z1 ZI K9 KR QbM QiJ QiK QbN Ja Qu4 QiL QiM QbO QbP Qy YL QiN QbQ QbR VZ QiE QiF QiG QiH QbL QiI
  try simp only []
  try simp only [<- dn]
  simp only [ne_eq,Bh,decide_eq_true_eq,decide_eq_false_iff_not,true_and,and_true,beq_iff_eq,beq_eq_false_iff_ne,exists_const,forall_const]
  have e1:n.ki.isEmpty = (n.ki.length == 0) := by cases n.ki <;> rfl
  have e2:n.va.sh.isEmpty = (n.va.sh.length == 0) := by cases n.va.sh <;> rfl
  have e3:∀ l:List UInt8,(l != []) = !l.isEmpty := fun l => by cases l <;> rfl
  have e40:((n.va.sh.length:Int) == 0) = (n.va.sh.length == 0) := by rw [Bool.eq_iff_iff,beq_iff_eq,beq_iff_eq]; omega
  have e41:((n.va.sh.length:Int) == 1) = (n.va.sh.length == 1) := by rw [Bool.eq_iff_iff,beq_iff_eq,beq_iff_eq]; omega
  simp only [e3,e40,e41]
  intro x
  repeat' (first | exact Bi _ | refine And.intro ?_ ?_ | intro _)
  all_goals first
    | exact Bi _
    | (exfalso; omega)
    | (simp_all [C9]; done)
    | (simp_all [C9]; omega)
    | (have h9 : n.ki.isEmpty = false := by rw [e1, beq_eq_false_iff_ne]; omega
       unfold C9; rw [h9]; rfl)
end
end Go.Proofs.YtaagdbcaeokjkaaGreatDoor
