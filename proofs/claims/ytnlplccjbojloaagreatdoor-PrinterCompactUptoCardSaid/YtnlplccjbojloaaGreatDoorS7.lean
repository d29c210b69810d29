/- Functions of the given program and what each of them computes: lemmas towards the statement, their conditions stated with each of them. -/
import Derived.Test.YtnlplccjbojloaaGreatDoorS6
namespace Go.Proofs.YtnlplccjbojloaaGreatDoor
open Go Go.Ab
set_option maxRecDepth 100000
noncomputable section
def pEG{β α:Type}(ds:List D)(S:St)(d:α->D)(q:α->Prop)(p:β->Prop):FnSpec where
 β:=β
 α:=α
 args:=fun _=>ds
 st:=fun _=>S
 pre:=p
 post:=fun _ y=>q y
 res:=fun _ y=>.ret (d y)
 out:=fun _ _=>S
 all:=true
def CG{α:Type}(k:Nat)(ds:List D)(d:α->D)(q:α->Prop):Prop:=ACalls Tryz.prog k ds ⟨[],[]⟩ (SpecR (pQ ds d q True) ())
theorem CG.wk{α:Type}{k:Nat}{ds us:List D}{d:α->D}{q:α->Prop}(h:CG k us d q)(hw:wkL ds us):CG k ds d q :=
 (ACalls.wkArgs h hw).mono fun _ _ ⟨y,q1,q2,q3⟩=>⟨y,q1,q2,q3⟩
theorem Bb0{β α : Type}{k : Nat}{ds : List D}{S : St}{d : α -> D}{q : α -> Prop}{p : β -> Prop}(h : ∀x, p x -> CG k ds d q) :
  (∀x,(pEG ds S d q p).pre x->ACalls Tryz.prog k ((pEG ds S d q p).args x) ((pEG ds S d q p).st x) (SpecR (pEG ds S d q p) x))/\(∀x,(pEG ds S d q p).fit=some x->(pEG ds S d q p).pre x->BD ds ((pEG ds S d q p).args x)/\leS ((pEG ds S d q p).st x) S)/\((pEG ds S d q p).all=true->∀x,(pEG ds S d q p).pre x->BD ds ((pEG ds S d q p).args x)/\(pEG ds S d q p).st x=S):=by
 refine⟨fun x hp=>?_,fun _ e=>(by cases e),fun _ _ _=>⟨Bk ds,rfl⟩⟩
 refine (((h x hp).frame S).from fun C F w H=>?_).mono ?_
 ·have e:(pEG ds S d q p).st x=S:=rfl
  rw[e] at H
  simpa[St.add] using H
 ·rintro r S' ⟨S0,⟨y,q1,rfl,rfl⟩,rfl⟩
  exact⟨y,q1,rfl,by simp[St.add,pQ,pEG]⟩
def RNds(n:Nd)(m:Int):Prop:=CG (α:=Int) 28 [.agg n.row2,.int .i64 m] (fun z=>.int .i64 z) (fun z=>0<=z/\z<=m)
def RSts(l:List Sm)(m:Int):Prop:=CG (α:=Int) 11 [gsl 34 Sm.row1 l,.int .i64 m] (fun z=>.int .i64 z) (fun z=>0<=z/\z<=m)
def Bbh(p:Nd->Prop):Con:=fun k ds S=>match k with
 |28=>match ds with
  | [_,.int .i64 m]=>some (pEG (β:=Nd) (α:=Int) ds S (fun z=>.int .i64 z) (fun z=>0<=z/\z<=m) (fun b=>isN b ds [.int .i64 m]/\0<=m/\m<=2000/\p b))
  |_=>none
 |_=>none
theorem Bai{p:Nd->Prop}(h:∀b,p b->∀m,0<=m->m<=2000->RNds b m):ConOk Tryz.prog (Bbh p):=by
 intro k ds S A hh
 unfold Bbh at hh
 split at hh
 ·split at hh
  ·injection hh with hh;subst hh
   exact Bb0 fun b ⟨e,h0,h1,hb⟩=>CG.wk (CG.wk (h b hb _ h0 h1) (by simp only[wkL];exact⟨by simp only[wkD];exact Mq b,Bh _,trivial⟩)) e
  ·cases hh
 ·cases hh
def Ber(p:Nd->Prop)(l:List Sm):Con:=fun k ds S=>match k with
 |11=>match ds with
  | [_,.int .i64 m]=>some (pEG (β:=Unit) (α:=Int) ds S (fun z=>.int .i64 z) (fun z=>0<=z/\z<=m) (fun _=>wkL ds [gsl 34 Sm.row1 l,.int .i64 m]/\0<=m/\m<=2000))
  |_=>none
 |k=>Bbh p k ds S
theorem Bij{p:Nd->Prop}{l:List Sm}(h:∀b,p b->∀m,0<=m->m<=2000->RNds b m)(h2:∀m,0<=m->m<=2000->RSts l m):ConOk Tryz.prog (Ber p l):=by
 intro k ds S A hh
 unfold Ber at hh
 split at hh
 ·split at hh
  ·injection hh with hh;subst hh
   exact Bb0 fun _ ⟨e,h0,h1⟩=>CG.wk (h2 _ h0 h1) e
  ·cases hh
 ·exact Bai h _ _ _ _ hh
noncomputable def Ests(p:Nd->Prop)(l:List Sm):Senv:={ EC (Bbh p) 53 2 [4,5,6,17,38] (fun id=>match id with | 5=>([0,1,2,3,4,5,6,7,8,9,10,11,12,13,14,15,16],[14]) | _=>([],[])) with
 mg:=fun _=>2
 ann:=fun b _ S=>match b with
  |0=>some { slots:=[6,5],keep:=[0,1],α:=Nat×Int,st:=fun y=>([.int .i64 y.1,.int .i64 y.2],S),inv:=fun y=>y.1<=l.length/\0<=y.2/\y.2<=20000000000,mu:=fun y=>l.length-y.1 }
  |_=>none }
def Qf2(a:Nat)(b:List Sm)(c:Int):Prop:=a<=LN b/\Z0<=c/\c<=20000000000
def H8:Arr:=DA
def Y8:Nd:=Nd.mk Z0 Z0 Z0 [] Z0 Z0 H8 [] [] Z0 Z0 Z0
def Y9:Sm:=Sm.mk Z0 Z0 [] Z0 Y8 Y8
def Qm6(a:List Sm)(b:Nat):Sm:=List.getD a (Int.toNat (↑b:Int)) Y9
def Jt(a:List Sm)(b:Nat):Nd:=Sm.te (Qm6 a b)
def Qf4(a:Int)(b:List Sm)(c:Nat)(d:Int):Int:=IntKind.wrap IntKind.i64 (IntKind.wrap IntKind.i64 (a+(LI (Sm.nm (Qm6 b c))))+d)
def Ju(a:List Sm)(b:Nat):Nd:=Sm.nd (Qm6 a b)
def Qf6(a b:Int)(c:List Sm)(d:Nat)(e:Int):Int:=IntKind.wrap IntKind.i64 (a-Qf4 b c d e)
def QMz(a b:Int)(c:List Sm)(d:Nat)(e:Int):List D:=[ZI (Qf6 a b c d e)]
def Za(a:List Sm)(b:Nat):Sm:=List.getD a b Y9
def QS2(a:List Sm):D:=D.sl 34 (LN a) (fun i=>(Sm.row1 (Za a i))) Mode.any
def QMG(a:List Sm)(b:Int):Prop:=SM (QS2 a)/\SM (ZI b)/\True
def QMH(a b:Int):Prop:=True/\∃(y:Int),(Z0<=y/\y<=a)/\(if a<b then a else b)=y/\True/\True
theorem Bcs(p:Nd->Prop)(l:List Sm)(m:Int)(h0:0<=m)(h1:m<=2000)(hl:l.length<=BC)(hn:∀s∈l,s.nm.length<=BC)(h:∀b,p b->∀m,0<=m->m<=2000->RNds b m)(hb:∀s∈l,p s.te/\p s.nd):RSts l m:=by
 refine Bg (A:=pQ _ _ _ _) (x:=()) (E:=Ests p l) (eOk (Bai h) rfl) Tryz.func11 rfl (by kernel_rfl) rfl (by simp[pQ,Ests,EC,E0]) ?_
 refine Bi (T :=
  (∃(x:Nat×Int),Qf2 x.1 l x.2/\(Z0=(NI x.1)/\(LI l)=x.2/\True)/\True/\True)/\∀(x:Nat×Int),Qf2 x.1 l x.2->ifB (decide ((NI x.1)<(LI l))) (ifB (decide (x.2<m)) (Bc (Z0<=(NI x.1)/\(NI x.1)<(LI l)) (Bc (Z0<=(NI x.1)/\(NI x.1)<(LI l)) (∃(x_1:Nd),(isN x_1 [D.agg (Nd.rowE (Jt l x.1)),ZI m] [ZI m]/\Z0<=m/\m<=2000/\p x_1)/\∀(y:Int),Z0<=y/\y<=m->ifB (decide (Qf4 x.2 l x.1 y<m)) (Bc (Z0<=(NI x.1)/\(NI x.1)<(LI l)) (∃(x_2:Nd),(isN x_2 (D.agg (Nd.rowE (Ju l x.1))::QMz m x.2 l x.1 y) (QMz m x.2 l x.1 y)/\Z0<=Qf6 m x.2 l x.1 y/\Qf6 m x.2 l x.1 y<=2000/\p x_2)/\∀(y_1:Int),Z0<=y_1/\y_1<=Qf6 m x.2 l x.1 y->QMG l m/\∃(y_2:Nat×Int),Qf2 y_2.1 l y_2.2/\LN l-y_2.1<LN l-x.1/\(IntKind.wrap IntKind.i64 ((NI x.1)+Z1)=(NI y_2.1)/\IntKind.wrap IntKind.i64 (Qf4 x.2 l x.1 y+y_1)=y_2.2/\True)/\True/\True)) (QMG l m/\∃(y_1:Nat×Int),Qf2 y_1.1 l y_1.2/\LN l-y_1.1<LN l-x.1/\(IntKind.wrap IntKind.i64 ((NI x.1)+Z1)=(NI y_1.1)/\Qf4 x.2 l x.1 y=y_1.2/\True)/\True/\True)))) (QMH m x.2)) (QMH m x.2)) (by kernel_rfl) ?_
 delta DA GI LI LN N1 N4 NI SI SM Z0 Z1 ZI Qf2 H8 Qf4 Ju Y8 Qf6 QMz Za Y9 QS2 QMG QMH Qm6 Jt
 try simp only[<- dm]
 try simp only[<- dn]
 simp only[Int.toNat_natCast,Bf,Bd,decide_eq_true_eq,decide_eq_false_iff_not,true_and,and_true,Prod.exists]
 unfold BC at hl hn
 have fin:∀c:Int,0<=c->∃y,(0<=y/\y<=m)/\(if m<c then m else c)=y:=fun c hc=>⟨_,⟨by split<;>omega,by split<;>omega⟩,rfl⟩
 refine⟨⟨0,_,⟨Nat.zero_le _,by omega,by omega⟩,rfl,rfl⟩,?_⟩
 rintro ⟨i,c⟩ ⟨i1,c0,c1⟩
 simp only at i1 c0 c1 ⊢
 refine⟨fun hlt=>⟨fun hc=>?_,fun _=>fin c c0⟩,fun _=>fin c c0⟩
 have hlt':i<l.length:=by omega
 obtain ⟨q1,q2⟩:=hb _ (C3 hlt')
 have hnm:=hn _ (C3 hlt')
 have wi:IntKind.i64.wrap ((i:Int)+1)=((i+1:Nat):Int):=by rw[Ba (by omega) (by omega)];rfl
 have w1:IntKind.i64.wrap (c+((l.getD i default).nm.length:Int))=c+((l.getD i default).nm.length:Int):=Ba (by omega) (by omega)
 rw[w1]
 refine⟨⟨by omega,hlt⟩,⟨by omega,hlt⟩,(l.getD i default).te,⟨Bl _ _,h0,h1,q1⟩,fun y ⟨y0,y1⟩=>?_⟩
 have w2:IntKind.i64.wrap (c+((l.getD i default).nm.length:Int)+y)=c+((l.getD i default).nm.length:Int)+y:=Ba (by omega) (by omega)
 rw[w2]
 refine⟨fun h2=>?_,fun h2=>⟨i+1,_,⟨hlt',by omega,by omega⟩,by omega,wi,rfl⟩⟩
 have w3:IntKind.i64.wrap (m-(c+((l.getD i default).nm.length:Int)+y))=m-(c+((l.getD i default).nm.length:Int)+y):=Ba (by omega) (by omega)
 rw[w3]
 refine⟨⟨by omega,hlt⟩,(l.getD i default).nd,⟨Bl _ _,by omega,by omega,q2⟩,fun z ⟨z0,z1⟩=>⟨i+1,_,⟨hlt',?_,?_⟩,by omega,wi,rfl⟩⟩
 ·rw[Ba (by omega) (by omega)];omega
 ·rw[Ba (by omega) (by omega)];omega
noncomputable def Ends(p:Nd->Prop)(n:Nd):Senv:={ EC (Ber p n.bo) 63 3 [4,5,6,35,51] (fun _=>([],[])) with
 mg:=fun _=>2
 ann:=fun b _ S=>match b with
  |0=>some { slots:=[6,5],keep:=[0,1,2],α:=Nat×Int,st:=fun y=>([.int .i64 y.1,.int .i64 y.2],S),inv:=fun y=>y.1<=n.ki.length/\0<=y.2/\y.2<=100000000000000,mu:=fun y=>n.ki.length-y.1 }
  |_=>none }
def Qm7(a:Nd):List Nd:=Nd.ki a
def VN(a:Nd):Nat:=LN (Qm7 a)
def Qm8(a:Nat)(b:Nd)(c:Int):Prop:=a<=VN b/\Z0<=c/\c<=100000000000000
def Qm9(a:Nd):List UInt8:=Nd.tx a
def Qf9(a:Nd):Arr:=Nd.va a
def QMI(a:Nd):List Int:=Arr.nu (Qf9 a)
def Qga(a:Nd):Nat:=LN (QMI a)
def QMJ(a:Nd):List Int:=Arr.sh (Qf9 a)
def Qgb(a:Nd):Nat:=LN (QMJ a)
def QMK(a:Nd):List Arr:=Arr.it (Qf9 a)
def Qgc(a:Nd):Nat:=LN (QMK a)
def QML(a:Nd):Int:=Nd.kd a
def QMM(a:Nd):Int:=Nd.at_ a
def QMN(a:Nd):Int:=Nd.cl a
def QMO(a:Nd):Int:=Nd.pr a
def QMP(a:Nd):Int:=Nd.op a
def QMQ(a:Nd):Int:=Arr.k (Qf9 a)
def QMR(a:Nd)(b:Nat):List D:=[ZI (GI (QMJ a) b)]
def QMS(a:Nd)(b:Nat):List D:=[ZI (GI (QMI a) b)]
def Qna:Arr:=DA
def QMT(a:Nd)(b:Nat):List D:=Arr.row (List.getD (QMK a) b Qna)
def H9:Nd:=Nd.mk Z0 Z0 Z0 [] Z0 Z0 Qna [] [] Z0 Z0 Z0
def QMU(a:Nd)(b:Nat):List D:=Nd.row1 (List.getD (Qm7 a) b H9)
def Qnb(a:Nd):Nat:=LN (Nd.bo a)
def QMV:Sm:=Sm.mk Z0 Z0 [] Z0 H9 H9
def QMW(a:Nd)(b:Nat):List D:=Sm.row1 (List.getD (Nd.bo a) b QMV)
def QMX(a:Nd):Int:=Nd.de a
def QMY(a:Nd):Int:=Nd.sl a
def QMZ(a:Nd):Int:=Nd.ss a
def QM0(a:Nat)(b:Nd):Prop:=(SM a/\(SM (QML b)/\SM (QMM b)/\SM (QMN b)/\SM (Qm9 b)/\SM (QMO b)/\SM (QMP b)/\SM (QMQ b)/\(SM (Qgb b)/\(∀(i:Nat),i<Qgb b->SM (QMR b i))/\True)/\(SM (Qga b)/\(∀(i:Nat),i<Qga b->SM (QMS b i))/\True)/\(SM (Qgc b)/\(∀(i:Nat),i<Qgc b->SM (QMT b i))/\True)/\(SM (VN b)/\(∀(i:Nat),i<VN b->SM (QMU b i))/\True)/\(SM (Qnb b)/\(∀(i:Nat),i<Qnb b->SM (QMW b i))/\True)/\SM (QMX b)/\SM (QMY b)/\SM (QMZ b)/\True)/\True)/\True
def Jx(a:Nd)(b:Nat):Nd:=List.getD (Qm7 a) (Int.toNat (↑b:Int)) H9
def Qnc(a b:Int):List D:=[ZI (IntKind.wrap IntKind.i64 (a-b))]
def QM4(a:Nd):D:=D.sl 34 (Qnb a) (fun i=>QMW a i) Mode.any
def QS5(a:Nd):D:=D.agg [ZI (QML a),ZI (QMM a),ZI (QMN a),D.str (Qm9 a),ZI (QMO a),ZI (QMP a),ZI (QMQ a),D.sl N1 (Qgb a) (fun i=>QMR a i) Mode.any,D.sl N1 (Qga a) (fun i=>QMS a i) Mode.any,D.sl N4 (Qgc a) (fun i=>QMT a i) Mode.any,D.sl 15 (VN a) (fun i=>QMU a i) Mode.any,QM4 a,ZI (QMX a),ZI (QMY a),ZI (QMZ a)]
def QM5(a:Nd)(b c:Int):List D:=QM4 a::Qnc b c
def QM6(a b:Int)(c:Nat)(d:Nd):Prop:=ifB (decide (a<b)) (SM c/\∃(_x:Unit),(wkL (QM5 d b a) (QM5 d b a)/\Z0<=IntKind.wrap IntKind.i64 (b-a)/\IntKind.wrap IntKind.i64 (b-a)<=2000)/\∀(y:Int),Z0<=y/\y<=IntKind.wrap IntKind.i64 (b-a)->True/\∃(y_1:Int),(Z0<=y_1/\y_1<=b)/\(if b<IntKind.wrap IntKind.i64 (a+y) then b else IntKind.wrap IntKind.i64 (a+y))=y_1/\True/\True) (True/\∃(y:Int),(Z0<=y/\y<=b)/\(if b<a then b else a)=y/\True/\True)
theorem Bl2(p:Nd->Prop)(n:Nd)(m:Int)(h0:0<=m)(h1:m<=2000)(hn:n.sm)(_ho:n.va.ok)(hvs:n.va.sm)(h:∀b,p b->∀m,0<=m->m<=2000->RNds b m)(hk:∀b∈n.ki,p b)(hst:∀m,0<=m->m<=2000->RSts n.bo m):RNds n m:=by
 refine Bg (A:=pQ _ _ _ _) (x:=()) (E:=Ends p n) (eOk (Bij h hst) rfl) Tryz.func28 rfl (by kernel_rfl) rfl (by simp[pQ,Ends,EC,E0]) ?_
 refine Bi (T :=
  ∀(x:Nat),True->SM x/\SM x/\SM x/\SM x/\(∃(x_1:Nat×Int),Qm8 x_1.1 n x_1.2/\(Z0=(NI x_1.1)/\IntKind.wrap IntKind.i64 (IntKind.wrap IntKind.i64 (IntKind.wrap IntKind.i64 (IntKind.wrap IntKind.i64 (Z1+(LI (Qm9 n)))+(NI (Qga n)))+(NI (Qgb n)))+(NI (Qgc n)))=x_1.2/\True)/\QM0 x n)/\∀(x_1:Nat×Int),Qm8 x_1.1 n x_1.2->SM x/\ifB (decide ((NI x_1.1)<(NI (VN n)))) (ifB (decide (x_1.2<m)) (SM x/\Bc (Z0<=(NI x_1.1)/\(NI x_1.1)<(NI (VN n))) (∃(x_2:Nd),(isN x_2 (D.agg (Nd.rowE (Jx n x_1.1))::Qnc m x_1.2) (Qnc m x_1.2)/\Z0<=IntKind.wrap IntKind.i64 (m-x_1.2)/\IntKind.wrap IntKind.i64 (m-x_1.2)<=2000/\p x_2)/\∀(y:Int),Z0<=y/\y<=IntKind.wrap IntKind.i64 (m-x_1.2)->(SM (QS5 n)/\SM (ZI m)/\SM (D.ref N0 x N0)/\True)/\∃(y_1:Nat×Int),Qm8 y_1.1 n y_1.2/\VN n-y_1.1<VN n-x_1.1/\(IntKind.wrap IntKind.i64 ((NI x_1.1)+Z1)=(NI y_1.1)/\IntKind.wrap IntKind.i64 (x_1.2+y)=y_1.2/\True)/\QM0 x n)) (QM6 x_1.2 m x n)) (QM6 x_1.2 m x n)) (by kernel_rfl) ?_
 delta DA GI LI LN N0 N1 N4 NI SI SM Z0 Z1 ZI Qm7 VN Qm8 Qm9 Qf9 QMI Qga QMJ Qgb QMK Qgc QML QMM QMN QMO QMP QMQ QMR QMS Qna QMT H9 QMU Qnb QMV QMW QMX QMY QMZ QM0 Jx Qnc QM4 QS5 QM5 QM6
 try simp only[<- dm]
 try simp only[<- dn]
 simp only[implies_true,Int.toNat_natCast,Bf,Bd,decide_eq_true_eq,decide_eq_false_iff_not,true_and,and_true,exists_const,forall_const,Prod.exists]
 obtain ⟨k1,k2,_⟩:=Cb hn
 have hva:n.va.sh.length<=BC/\n.va.nu.length<=BC/\n.va.it.length<=BC:=by
  cases hv:n.va with
  |mk k s nu it=>rw[hv] at hvs;simp only[Arr.sm] at hvs;exact⟨hvs.1,hvs.2.1,hvs.2.2.1⟩
 unfold BC at k1 k2 hva
 obtain ⟨v1,v2,v3⟩:=hva
 have fin:∀c:Int,0<=c->∃y,(0<=y/\y<=m)/\(if m<c then m else c)=y:=fun c hc=>⟨_,⟨by split<;>omega,by split<;>omega⟩,rfl⟩
 have tail : ∀c : Int, 0<=c -> c<=100000000000000 -> (c<m -> (wkL [D.sl 34 n.bo.length (fun i=>(n.bo.getD i default).row1) Mode.any, D.int IntKind.i64 (IntKind.i64.wrap (m-c))] [D.sl 34 n.bo.length (fun i=>(n.bo.getD i default).row1) Mode.any, D.int IntKind.i64 (IntKind.i64.wrap (m-c))] /\ 0<=IntKind.i64.wrap (m-c) /\ IntKind.i64.wrap (m-c)<=2000) /\
   ∀(y:Int),0<=y/\y<=IntKind.i64.wrap (m-c)->∃y_1,(0<=y_1/\y_1<=m)/\(if m<IntKind.i64.wrap (c+y) then m else IntKind.i64.wrap (c+y))=y_1)/\(¬c<m->∃y,(0<=y/\y<=m)/\(if m<c then m else c)=y):=fun c c0 c1=>by
  refine⟨fun hc=>?_,fun _=>fin c c0⟩
  have w1:IntKind.i64.wrap (m-c)=m-c:=Ba (by omega) (by omega)
  rw[w1]
  refine⟨⟨Be _,by omega,by omega⟩,fun y ⟨y0,y1⟩=>?_⟩
  rw[Ba (show (-9223372036854775808:Int)<=c+y by omega) (by omega)]
  exact fin _ (by omega)
 have w0:IntKind.i64.wrap (IntKind.i64.wrap (IntKind.i64.wrap (IntKind.i64.wrap (1+(n.tx.length:Int))+(n.va.nu.length:Int))+(n.va.sh.length:Int))+(n.va.it.length:Int))=1+(n.tx.length:Int)+n.va.nu.length+n.va.sh.length+n.va.it.length:=by
  rw[Ba (show (-9223372036854775808:Int)<=1+(n.tx.length:Int) by omega) (by omega),Ba (show (-9223372036854775808:Int)<=1+(n.tx.length:Int)+n.va.nu.length by omega) (by omega),Ba (show (-9223372036854775808:Int)<=1+(n.tx.length:Int)+n.va.nu.length+n.va.sh.length by omega) (by omega),Ba (by omega) (by omega)]
 rw[w0]
 refine⟨⟨0,_,⟨Nat.zero_le _,by omega,by omega⟩,rfl,rfl⟩,?_⟩
 rintro ⟨i,c⟩ ⟨i1,c0,c1⟩
 simp only at i1 c0 c1 ⊢
 refine⟨fun hlt=>⟨fun hc=>?_,fun _=>tail c c0 c1⟩,fun _=>tail c c0 c1⟩
 have hlt':i<n.ki.length:=by omega
 have w1:IntKind.i64.wrap (m-c)=m-c:=Ba (by omega) (by omega)
 rw[w1]
 refine⟨⟨by omega,hlt⟩,n.ki.getD i default,⟨Bl _ _,by omega,by omega,hk _ (BX hlt')⟩,fun y ⟨y0,y1⟩=>⟨i+1,_,⟨hlt',?_,?_⟩,by omega,by rw[Ba (by omega) (by omega)];rfl,rfl⟩⟩
 ·rw[Ba (by omega) (by omega)];omega
 ·rw[Ba (by omega) (by omega)];omega
theorem BqT{n:Nd}(h:n.sm):n.va.sm:=by
 cases n with
 |mk kd at_ cl tx pr op va ki bo de sl ss =>
  simp only[Nd.sm] at h
  exact h.2.1
theorem Bn0{s:Sm}(h:s.sm):s.nm.length<=BC:=by
 cases s with
 |mk kd at_ nm sl te nd =>
  simp only[Sm.sm] at h
  exact h.1
theorem BdZ(n:Nd)(ho:n.ok)(hn:n.sm)(m:Int)(h0:0<=m)(h1:m<=2000):RNds n m :=
 Bl2 (fun b=>(b.ok/\b.sm)/\SizeOf.sizeOf b<SizeOf.sizeOf n) n m h0 h1 hn (OI ho) (BqT hn) (fun b hb m h0 h1=>BdZ b hb.1.1 hb.1.2 m h0 h1) (fun b hb=>⟨⟨M8 ho b hb,EW hn (BS hb)⟩,Nd.size_kid hb⟩) fun m h0 h1 =>
  Bcs (fun b=>(b.ok/\b.sm)/\SizeOf.sizeOf b<SizeOf.sizeOf n) n.bo m h0 h1 (Cb hn).2.2 (fun s hs=>Bn0 (GC hn s hs)) (fun b hb m h0 h1=>BdZ b hb.1.1 hb.1.2 m h0 h1) fun s hs =>
   have h2:=Cl (GC hn s hs)
   have o2:=Cq (GM ho s hs)
   have e:=Nd.size_stmt hs
   have e1:=Sm.size_te s
   have e2:=Sm.size_nd s
   ⟨⟨⟨o2.1,h2.1⟩,by omega⟩,⟨⟨o2.2,h2.2⟩,by omega⟩⟩
termination_by SizeOf.sizeOf n
decreasing_by
 ·exact hb.2
 ·exact hb.2
theorem BpR(l:List Sm)(hl:l.length<=BC)(ho:∀s∈l,s.ok)(hs:∀s∈l,s.sm)(m:Int)(h0:0<=m)(h1:m<=2000):RSts l m :=
 Bcs (fun b=>b.ok/\b.sm) l m h0 h1 hl (fun s h=>Bn0 (hs s h)) (fun b hb m h0 h1=>BdZ b hb.1 hb.2 m h0 h1) fun s h=>⟨⟨(Cq (ho s h)).1,(Cl (hs s h)).1⟩,(Cq (ho s h)).2,(Cl (hs s h)).2⟩
def Bhr:D:=.sl 1 0 (fun _=>[]) .nil
def BlZ:List Int->D
 | []=>Bhr
 |z::l=>.sl 1 (l.length+1) (fun i=>((z::l).map fun z=>[D.int .i64 z]).getD i []) .full
def Bee(w:Nat):List (List D)->D
 | []=>Bhr
 |r::l=>.sl w (l.length+1) (fun i=>(r::l).getD i []) .full
def BpK:List Arr->D
 | []=>Bhr
 |a::l=>gsl 4 Arr.row (a::l)
mutual
def Nd.lit:Nd->List D
 |.mk kd at_ cl tx pr op va ki bo de sl ss=>[.int .i64 kd,.int .i64 at_,.int .i64 cl,.str tx,.int .i64 pr,.int .i64 op,.int .i64 va.k,BlZ va.sh,BlZ va.nu,BpK va.it,Bee 15 (Ic ki),Bee 34 (Gg bo),.int .i64 de,.int .i64 sl,.int .i64 ss]
def Sm.lit:Sm->List D
 |.mk kd at_ nm sl te nd=>.int .i64 kd::.int .i64 at_::.str nm::.int .i64 sl::(te.lit++nd.lit)
def Ic:List Nd->List (List D)
 | []=>[]
 |x::r=>x.lit::Ic r
def Gg:List Sm->List (List D)
 | []=>[]
 |x::r=>x.lit::Gg r
end
theorem BfV:∀l:List Int,wkD (BlZ l) (isl l .any)
 | []=>by simp[BlZ,Bhr,isl,wkD,Bb,BG]
 |z::l=>by
  simp only[BlZ,isl,wkD,Bb]
  refine⟨by simp,by simp,fun i hi=>?_,by simp[BG]⟩
  have hi:i<(z::l).length:=by simpa using hi
  have e:((z::l).map fun z=>[D.int .i64 z]).getD i []=[D.int .i64 ((z::l).getD i 0)]:=by
   rw[List.getD_eq_getElem?_getD,List.getElem?_map,List.getD_eq_getElem?_getD,List.getElem?_eq_getElem hi]
   rfl
  rw[e]
  exact Be _
theorem BmJ:∀l:List Arr,wkD (BpK l) (gsl 4 Arr.row l)
 | []=>by simp[BpK,Bhr,gsl,wkD,Bb,BG,M9]
 |a::l=>Bh _
theorem BaS{w:Nat}:∀ {a b:List (List D)},a.length=b.length->(∀i,i<a.length->wkL (a.getD i []) (b.getD i []))->wkD (Bee w a) (lsl w b)
 | [],[],_,_=>by simp[Bee,Bhr,lsl,wkD,Bb,BG,M9]
 | [],_::_,h,_=>by simp at h
 |_::_,[],h,_=>by simp at h
 |x::a,y::b,h,h2=>by
  simp only[Bee,lsl,wkD,Bb]
  exact⟨by simp,by simpa using h,fun i hi=>h2 i (by simpa using hi),by simp[BG]⟩
theorem WP:∀l:List Nd,(Ic l).length=l.length
 | []=>by simp only[Ic,List.length_nil]
 |x::r=>by simp only[Ic,List.length_cons,WP r]
theorem Of:∀l:List Sm,(Gg l).length=l.length
 | []=>by simp only[Gg,List.length_nil]
 |x::r=>by simp only[Gg,List.length_cons,Of r]
mutual
theorem BdY:∀n:Nd,wkL n.lit n.row
 |.mk kd at_ cl tx pr op va ki bo de sl ss=>by
  simp only[Nd.lit,Nd.row,wkL]
  refine⟨Bh _,Bh _,Bh _,Bh _,Bh _,Bh _,Bh _,BfV _,BfV _,BmJ _,BaS ?_ (BfJ ki),BaS ?_ (Bbj bo),Bh _,Bh _,Bh _,trivial⟩
  ·rw[WP,Ia,List.length_map]
  ·rw[Of,Ec,List.length_map]
theorem BoU:∀s:Sm,wkL s.lit s.row
 |.mk kd at_ nm sl te nd=>by
  simp only[Sm.lit,Sm.row,wkL]
  exact⟨Bh _,Bh _,Bh _,Bh _,OF (BdY te) (BdY nd)⟩
theorem BfJ:∀(l:List Nd) (i:Nat),i<(Ic l).length->wkL ((Ic l).getD i []) ((Mm l).getD i [])
 | [],i,h=>by simp[Ic] at h
 |x::r,0,_=>by simp only[Ic,Mm,List.getD_cons_zero];exact BdY x
 |x::r,i+1,h=>by
  simp only[Ic,Mm,List.getD_cons_succ]
  exact BfJ r i (by simpa[Ic] using h)
theorem Bbj:∀(l:List Sm) (i:Nat),i<(Gg l).length->wkL ((Gg l).getD i []) ((Ee l).getD i [])
 | [],i,h=>by simp[Gg] at h
 |x::r,0,_=>by simp only[Gg,Ee,List.getD_cons_zero];exact BoU x
 |x::r,i+1,h=>by
  simp only[Gg,Ee,List.getD_cons_succ]
  exact Bbj r i (by simpa[Gg] using h)
end
def isP(l:List Sm)(ds:List D)(ex:List D):Prop:=wkL ds (.agg [lsl 34 (Ee l)]::ex)
theorem Bo3(l:List Sm):wkD (Bee 34 (Gg l)) (lsl 34 (Ee l)):=BaS (by rw[Of,Ec,List.length_map]) (Bbj l)
theorem UX(l:List Sm)(ds:List D)(h:ds=[.agg [Bee 34 (Gg l)]]):isP l ds []:=by
 subst h
 simp only[isP,wkL,wkD]
 exact⟨⟨Bo3 l,trivial⟩,trivial⟩
theorem Bmv(l:List Sm):wkD (lsl 34 (Ee l)) (gsl 34 Sm.row l):=by rw[Ec];exact Be6
theorem CD.isP{k:Nat}{l:List Sm}{ds:List D}{d:D}(h:CD k [.agg [gsl 34 Sm.row1 l]] d)(hi:isP l ds []):CD k ds d:=by
 refine CD.wk (CD.wk (CD.wk h (us:=[.agg [gsl 34 Sm.row1 l]]) ?_) (ds:=[.agg [lsl 34 (Ee l)]]) (us:=[.agg [gsl 34 Sm.row l]]) ?_) hi
 ·simp only[wkL,wkD];exact⟨⟨U2 Boh,trivial⟩,trivial⟩
 ·simp only[wkL,wkD];exact⟨⟨Bmv l,trivial⟩,trivial⟩
def MG(p:Int):Nd:=.mk 9 0 2 [] p 0 (.mk 0 [] [] []) [] [] 0 0 0
def BeX:Nd:=.mk 16 0 2 [] 0 0 (.mk 0 [] [] []) [.mk 14 0 2 [] 0 0 (.mk 0 [] [] []) [.mk 17 0 3 [] 0 1 (.mk 0 [] [] []) [] [] 0 0 0,MG 1] [] 0 0 0,MG 4,MG 20] [] 0 0 0
theorem f0:BoN nd0=11:=by decide +kernel
noncomputable def Epri:Senv:=EC EB 5 1 [2] (fun _=>([],[]))
def Qaa:Prop:=SM N0/\(∀(i:Nat),i<N0->Cw (List D) [] [])/\True
theorem BoO(p:Int):CD 12 [.int .i64 p] (.agg (MG p).lit):=by
 refine Bg (A:=sC _ _) (x:=()) (E:=Epri) (eOk BM rfl) Tryz.func12 rfl (by kernel_rfl) rfl (by simp[sC,Epri,EC,E0]) ?_
 refine Bi (T :=
  ∀(x:Nat),True->SM x/\(SM x/\True)/\∃(y:Unit),True/\(SM (9:Int)/\SM Z0/\SM (2:Int)/\Cw (List UInt8) [] []/\SM p/\SM Z0/\SM Z0/\Qaa/\Qaa/\Qaa/\Qaa/\Qaa/\SM Z0/\SM Z0/\SM Z0/\True)/\True/\True) (by kernel_rfl) ?_
 delta N0 SM Z0 Qaa
 simp only[eq_self,implies_true,and_true,exists_const]
 try trivial
def Ben:List Sm:=[.mk 2 0 [97,118,103] 0 nd0 BeX]
def Bmq:List Sm:=[.mk 2 0 [102] 0 nd0 (.mk 16 0 2 [] 0 0 (.mk 0 [] [] []) [MG 9,MG 11] [] 0 0 0)]
theorem fPA:Ch Ben=[97,118,103,32,60,45,32,43,32,47,32,37,32,116,97,108,108,121,10]:=by decide +kernel
theorem fCA:EN Ben=[97,118,103,60,45,43,47,37,116,97,108,108,121]:=by decide +kernel
theorem fCT:EN Bmq=[102,60,45,60,32,61]:=by decide +kernel
theorem fP0:Ch []=[]:=by decide +kernel
theorem gAvg:okS Ben:=by
 refine⟨by decide,fun s hs=>?_,fun s hs=>?_⟩
 ·rw[List.mem_singleton.1 hs]
  simp[Sm.ok,nd0,BeX,MG,Nd.ok,Arr.ok,okL,Ux,Up,Bt,maxLen]
 ·rw[List.mem_singleton.1 hs]
  simp[Sm.sm,nd0,BeX,MG,Nd.sm,Arr.sm,smL,ON,OW,BC]
theorem gTwo:okS Bmq:=by
 refine⟨by decide,fun s hs=>?_,fun s hs=>?_⟩
 ·rw[List.mem_singleton.1 hs]
  simp[Sm.ok,nd0,MG,Nd.ok,Arr.ok,okL,Ux,Up,Bt,maxLen]
 ·rw[List.mem_singleton.1 hs]
  simp[Sm.sm,nd0,MG,Nd.sm,Arr.sm,smL,ON,OW,BC]
theorem gNil:okS []:=⟨by decide,by simp,by simp⟩
noncomputable def Bi0:Con:=fun k ds S=>match k with
 |12=>match ds with
  | [.int .i64 p]=>some (pA ds S (.agg (MG p).lit) True)
  |_=>none
 |7=>some (pE (β:=List Sm) ds S (fun l=>.str (Ch l)) (fun l=>isP l ds []/\okS l))
 |9=>some (pE (β:=List Sm) ds S (fun l=>.str (EN l)) (fun l=>isP l ds []/\okS l))
 |_=>none
theorem BiT:ConOk Tryz.prog Bi0:=by
 intro k ds S A hh
 unfold Bi0 at hh
 split at hh
 ·split at hh
  ·injection hh with hh;subst hh
   exact Bo fun _=>CD.at_ (BoO _) _
  ·cases hh
 ·injection hh with hh;subst hh
  exact Co fun l ⟨e,h⟩=>CD.at_ (CD.isP (BnY l h.1 h.2.1 h.2.2) e) _
 ·injection hh with hh;subst hh
  exact Co fun l ⟨e,h⟩=>CD.at_ (CD.isP (Bkh l h.1 h.2.1 h.2.2) e) _
 ·cases hh
noncomputable def Eli:Senv:={ EC Bi0 41 4 [] (fun id=>match id with | 2=>([0,1,2,3,4,5,6,7,8,9],[1,2,3,6,8,9]) | _=>([],[])) with mg:=fun _=>2 }
def Qf:D:=ZI Z0
def JX:D:=ZI 2
def JJ:D:=D.str []
def Qk:D:=D.sl N1 N0 (fun _x=>[]) Mode.nil
def Qge:List D:=[Qk,Qf,Qf,Qf]
def QM7:List D:=Qf::Qk::Qk::Qk::Qk::Qge
def Qab:List D:=Qf::QM7
def QM8:List D:=ZI 14::Qf::JX::JJ::Qf::Qf::Qf::Qk::Qk::Qk::D.sl 15 N2 (fun i=>List.getD [ZI 17::Qf::ZI 3::JJ::Qf::ZI Z1::QM7,ZI 9::Qf::JX::JJ::ZI Z1::Qab] i []) Mode.full::Qge
def QS6:D:=D.agg QM8
def Qac(a:Nat):Prop:=SM a/\SM QS6
def QM9(a:List Sm):Prop:=isP a [D.agg [D.sl 34 N1 (fun i=>List.getD [JX::Qf::D.str [97,118,103]::Qf::Qf::Qf::Qf::JJ::Qf::Qf::Qf::Qk::Qk::Qk::Qk::Qk::Qf::Qf::Qf::ZI 16::Qf::JX::JJ::Qf::Qf::Qf::Qk::Qk::Qk::D.sl 15 (3:Nat) (fun i=>List.getD [QM8,ZI 9::Qf::JX::JJ::ZI 4::Qab,ZI 9::Qf::JX::JJ::ZI 20::Qab] i []) Mode.full::Qge] i []) Mode.full]] []/\okS a
def Qnd:Prop:=True/\∃(_y:Unit),True/\false=true/\True/\True
def QNa(a b:Nat):Prop:=SM a/\∃(_x:Unit),True/\∀(_y:Unit),True->∃(_x:Unit),True/\∀(_y:Unit),True->∀(x:Nat),a≠x/\b≠x/\True->SM x/\SM a/\∃(x_1:List Sm),QM9 x_1/\∀(_y:Unit),True->ifB (Ch x_1==[(97:UInt8),(118:UInt8),(103:UInt8),(32:UInt8),(60:UInt8),(45:UInt8),(32:UInt8),(43:UInt8),(32:UInt8),(47:UInt8),(32:UInt8),(37:UInt8),(32:UInt8),(116:UInt8),(97:UInt8),(108:UInt8),(108:UInt8),(121:UInt8),(10:UInt8)]) (SM a/\∃(x_2:List Sm),QM9 x_2/\∀(_y:Unit),True->ifB (EN x_2==[(97:UInt8),(118:UInt8),(103:UInt8),(60:UInt8),(45:UInt8),(43:UInt8),(47:UInt8),(37:UInt8),(116:UInt8),(97:UInt8),(108:UInt8),(108:UInt8),(121:UInt8)]) (SM x/\∃(x:List Sm),(isP x [D.agg [D.sl 34 N1 (fun i=>List.getD [JX::Qf::D.str [102]::Qf::Qf::Qf::Qf::JJ::Qf::Qf::Qf::Qk::Qk::Qk::Qk::Qk::Qf::Qf::Qf::ZI 16::Qf::JX::JJ::Qf::Qf::Qf::Qk::Qk::Qk::D.sl 15 N2 (fun i=>List.getD [ZI 9::Qf::JX::JJ::ZI 9::Qab,ZI 9::Qf::JX::JJ::ZI 11::Qab] i []) Mode.full::Qge] i []) Mode.full]] []/\okS x)/\∀(_y:Unit),True->ifB (EN x==[(102:UInt8),(60:UInt8),(45:UInt8),(60:UInt8),(32:UInt8),(61:UInt8)]) (∃(x:List Sm),(isP x [D.agg [Qk]] []/\okS x)/\∀(_y:Unit),True->True/\∃(_y:Unit),True/\(Ch x==[])=true/\True/\True) Qnd) Qnd) Qnd
def QNb(a:Nat):Prop:=∀(x:Nat),a≠x/\True->QNa x a
def QNc(a b:Nat):Prop:=Qac a/\QNa b a
def QNd(a b:Nat):Prop:=Qac a/\∃(_x:Unit),True/\∀(_y:Unit),True->QNc a b
theorem Bqr:CD 6 [] (.bool true):=by
 refine Bg (A:=sC _ _) (x:=()) (E:=Eli) (eOk BiT rfl) Tryz.func6 rfl (by kernel_rfl) rfl (by simp[sC,Eli,EC,E0]) ?_
 refine Bi (T :=
  ∃(x:Unit),True/\∀(y:Unit),True->∀(x:Nat),True->SM x/\SM x/\(∃(x_1:Unit),True/\∀(y:Unit),True->Qac x/\(∃(x_2:Unit),True/\∀(y:Unit),True->Qac x/\(QNb x/\QNb x)/\∀(x_3:Nat),x≠x_3/\True->QNc x x_3)/\∀(x_2:Nat),x≠x_2/\True->QNd x x_2)/\∀(x_1:Nat),x≠x_1/\True->Qac x/\∃(x_2:Unit),True/\∀(y:Unit),True->QNd x x_1) (by kernel_rfl) ?_
 delta N0 N1 N2 SM Z0 Z1 ZI Qf Qac QM9 Qnd QNa QNb QNc QNd JX JJ Qk Qge QM7 Qab QM8 QS6
 simp only[eq_self,ne_eq,Bf,true_and,and_true,beq_iff_eq,beq_eq_false_iff_ne,exists_const,forall_const]
 intro x
 repeat' refine And.intro ?_ ?_
 all_goals exact fun _ _ _ _=>⟨Ben,⟨UX Ben _ rfl,gAvg⟩,fun _=>⟨Ben,⟨UX Ben _ rfl,gAvg⟩,fun _=>⟨Bmq,⟨UX Bmq _ rfl,gTwo⟩,fun _=>⟨[],⟨UX [] _ rfl,gNil⟩,fP0⟩,fun h=>absurd fCT h⟩,fun h=>absurd fCA h⟩,fun h=>absurd fPA h⟩
def BiW(l:List Sm):Con:=fun k ds S=>match k with
 |11=>some (pEG (β:=Unit) (α:=Int) ds S (fun z=>.int .i64 z) (fun z=>0<=z/\z<=2000) (fun _=>wkL ds [gsl 34 Sm.row1 l,.int .i64 2000]))
 |_=>none
theorem Bk6{l:List Sm}(h:okS l):ConOk Tryz.prog (BiW l):=by
 intro k ds S A hh
 unfold BiW at hh
 split at hh
 ·injection hh with hh;subst hh
  exact Bb0 fun _ e=>CG.wk (BpR l h.1 h.2.1 h.2.2 2000 (by omega) (by omega)) e
 ·cases hh
noncomputable def Esl(l:List Sm):Senv:=EC (BiW l) 7 3 [] (fun _=>([],[]))
def Qne:Arr:=DA
def Qgf:Nd:=Nd.mk Z0 Z0 Z0 [] Z0 Z0 Qne [] [] Z0 Z0 Z0
def Qnf:Sm:=Sm.mk Z0 Z0 [] Z0 Qgf Qgf
def Zb(a:List Sm)(b:Nat):Sm:=List.getD a b Qnf
def QNk(a:List Sm):List D:=[D.sl 34 (LN a) (fun i=>(Sm.row1 (Zb a i))) Mode.any,ZI 2000]
theorem Bqu(l:List Sm)(h:okS l):CG (α:=Bool) 5 [.agg [gsl 34 Sm.row1 l]] (fun b=>.bool b) (fun _=>True):=by
 refine Bg (A:=pQ _ _ _ _) (x:=()) (E:=Esl l) (eOk (Bk6 h) rfl) Tryz.func5 rfl (by kernel_rfl) rfl (by simp[pQ,Esl,EC,E0]) ?_
 refine Bi (T :=
  ∀(x:Nat),True->SM x/\∃(x:Unit),wkL (QNk l) (QNk l)/\∀(y:Int),Z0<=y/\y<=2000->True/\∃(y_1:Bool),True/\decide (y<2000)=y_1/\True/\True) (by kernel_rfl) ?_
 delta DA GI LN N1 N4 SI SM Z0 ZI Qne Qgf Qnf Zb QNk
 try simp only[<- dm]
 try simp only[<- dn]
 simp only[true_and,and_true,exists_const,forall_const]
 exact⟨Be _,fun y _=>⟨_,rfl⟩⟩
noncomputable def Bgc(l:List Sm):Con:=fun k ds S=>match k with
 |5=>some (pEG (β:=Unit) (α:=Bool) ds S (fun b=>.bool b) (fun _=>True) (fun _=>wkL ds [.agg [gsl 34 Sm.row1 l]]))
 |6=>some (pA ds S (.bool true) (ds=[]))
 |7=>some (pA ds S (.str (Ch l)) (wkL ds [.agg [gsl 34 Sm.row1 l]]))
 |9=>some (pA ds S (.str (EN l)) (wkL ds [.agg [gsl 34 Sm.row1 l]]))
 |8=>some (pA ds S (.str (Ch l)) (wkL ds [.agg [gsl 34 Sm.row1 l]]))
 |10=>some (pA ds S (.str (EN l)) (wkL ds [.agg [gsl 34 Sm.row1 l]]))
 |_=>none
theorem BcB{l:List Sm}(h:okS l):ConOk Tryz.prog (Bgc l):=by
 intro k ds S A hh
 unfold Bgc at hh
 split at hh
 ·injection hh with hh;subst hh
  exact Bb0 fun _ e=>CG.wk (Bqu l h) e
 ·injection hh with hh;subst hh
  exact Bo fun e=>by rw[e];exact CD.at_ Bqr _
 ·injection hh with hh;subst hh
  exact Bo fun e=>CD.at_ (CD.wk (BnY l h.1 h.2.1 h.2.2) e) _
 ·injection hh with hh;subst hh
  exact Bo fun e=>CD.at_ (CD.wk (Bkh l h.1 h.2.1 h.2.2) e) _
 ·injection hh with hh;subst hh
  exact Bo fun e=>CD.at_ (CD.wk (BoH l h.1 h.2.1 h.2.2 fun h0=>Bi4 l h0 h.1 h.2.1 h.2.2) e) _
 ·injection hh with hh;subst hh
  exact Bo fun e=>CD.at_ (CD.wk (Bpt l h.1 h.2.1 h.2.2 fun h0=>Bi4 l h0 h.1 h.2.1 h.2.2) e) _
 ·cases hh
end
end Go.Proofs.YtnlplccjbojloaaGreatDoor
