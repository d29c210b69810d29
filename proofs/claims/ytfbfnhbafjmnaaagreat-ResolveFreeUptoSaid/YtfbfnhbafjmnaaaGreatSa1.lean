/- resolve: Free answers as the reference; a program resolves if and only if it mentions nothing that is not defined -/
import Derived.Test.YtfbfnhbafjmnaaaGreatS5
namespace Go.Proofs.YtfbfnhbafjmnaaaGreat
open Go Go.Ab
noncomputable section
def TL{α:Type}(l:List α):Nat:=Int.toNat (↑(List.length l):Int)
set_option maxRecDepth 100000
def Gq(k:Nat)(m:Int):Int:=if (k:Int)<=m+1 then (k:Int) else m+1
def RDep(n:Nd)(m:Int):Prop:=CD 35 [.agg n.row2,.int .i64 m] (.int .i64 (Gq (dpN n) m))
theorem BhS{l:List Nd}{i:Nat}(h:i<l.length):dpL (l.take (i+1))=max (dpL (l.take i)) (dpN (l.getD i default)):=by
 rw[CE h,Uc]
 simp only[dpL]
 omega
theorem BdO:∀a b:List Sm,dpB (a++b)=max (dpB a) (dpB b)
 | [],b=>by simp only[List.nil_append,dpB];omega
 |x::a,b=>by simp only[List.cons_append,dpB,BdO a b];omega
theorem BkK(s:Sm):dpM s=if s.kd=3 then max (dpN s.te) (dpN s.nd) else dpN s.nd:=by
 cases s
 simp only[dpM]
 rfl
theorem BhE{l:List Sm}{i:Nat}(h:i<l.length):dpB (l.take (i+1))=max (dpB (l.take i)) (dpM (l.getD i default)):=by
 rw[CE h,BdO]
 simp only[dpB]
 omega
theorem Bk9(n:Nd):dpN n=1+max (dpL n.ki) (dpB n.bo):=by
 cases n
 simp only[dpN]
 rfl
def Bcm(p:Nd->Prop):Con:=fun k ds S=>match k with
 |35=>match ds with
  | [_,.int .i64 m]=>some (pE (β:=Nd) ds S (fun b=>.int .i64 (Gq (dpN b) m)) (fun b=>isN b ds [.int .i64 m]/\0<=m/\m<=60/\p b))
  |_=>none
 |_=>none
theorem Be4{p:Nd->Prop}(h:∀b,p b->∀m,0<=m->m<=60->RDep b m):ConOk Tryz.prog (Bcm p):=by
 intro k ds S A hh
 unfold Bcm at hh
 split at hh
 ·split at hh
  ·injection hh with hh;subst hh
   exact Cl fun b ⟨e,h0,h1,hb⟩=>CD.at_ (CD.isN (h b hb _ h0 h1) e) _
  ·cases hh
 ·cases hh
noncomputable def Erdp(p:Nd->Prop)(n:Nd)(m:Int):Senv:={ EC (Bcm p) 65 3 [4,5,6,7,9,14,31,51] (fun _=>([],[])) with
 mg:=fun _=>2
 ann:=fun b _ S=>match b with
  |0=>some { slots:=[6,5],keep:=[0,1,2],α:=Nat×Int,st:=fun y=>([.int .i64 y.1,.int .i64 y.2],S),inv:=fun y=>y.1<=n.ki.length/\0<=y.2/\y.2=Gq (dpL (n.ki.take y.1)) (m-1),mu:=fun y=>n.ki.length-y.1 }
  |2=>some { slots:=[7,5],keep:=[0,1,2],α:=Nat×Int,st:=fun y=>([.int .i64 y.1,.int .i64 y.2],S),inv:=fun y=>y.1<=n.bo.length/\0<=y.2/\y.2=Gq (max (dpL n.ki) (dpB (n.bo.take y.1))) (m-1),mu:=fun y=>n.bo.length-y.1 }
  |_=>none }
def YA(a:Nd):List Nd:=Nd.ki a
def Vk(a:Nd):Nat:=LN (YA a)
def QdJ(a:Nat)(b:Nd)(c d:Int):Prop:=a<=Vk b/\Z0<=c/\c=Gq (dpL (List.take a (YA b))) (d-Z1)
def Qo8(a:Nd):Int:=Nd.at_ a
def Qam(a:Nd):Arr:=Nd.va a
def Qo9(a:Nd):Int:=Arr.k (Qam a)
def Qpa(a:Nd):List Int:=Arr.sh (Qam a)
def QdK(a:Nd):Nat:=LN (Qpa a)
def Qpb(a:Nd)(b:Nat):List D:=[ZI (GI (Qpa a) b)]
def Qpc(a:Nd):List Int:=Arr.nu (Qam a)
def QdL(a:Nd):Nat:=LN (Qpc a)
def Qpd(a:Nd)(b:Nat):List D:=[ZI (GI (Qpc a) b)]
def Qpe(a:Nd):List Arr:=Arr.it (Qam a)
def QdM(a:Nd):Nat:=LN (Qpe a)
def YB:Arr:=DA
def Qpf(a:Nd)(b:Nat):List D:=Arr.row (List.getD (Qpe a) b YB)
def VM:Nd:=Nd.mk Z0 Z0 Z0 [] Z0 Z0 YB [] [] Z0 Z0 Z0
def Qpg(a:Nd)(b:Nat):List D:=Nd.row1 (List.getD (YA a) b VM)
def Qan(a:Nd):List Sm:=Nd.bo a
def VN(a:Nd):Nat:=LN (Qan a)
def YC:Sm:=Sm.mk Z0 Z0 [] Z0 VM VM
def Qph(a:Nd)(b:Nat):List D:=Sm.row1 (List.getD (Qan a) b YC)
def Qao(a:Nat)(b:Nd):Prop:=(SM a/\(SM (Nd.kd b)/\SM (Qo8 b)/\SM (Nd.cl b)/\SM (Nd.tx b)/\SM (Nd.pr b)/\SM (Nd.op b)/\SM (Qo9 b)/\(SM (QdK b)/\(∀(i:Nat),i<QdK b->SM (Qpb b i))/\True)/\(SM (QdL b)/\(∀(i:Nat),i<QdL b->SM (Qpd b i))/\True)/\(SM (QdM b)/\(∀(i:Nat),i<QdM b->SM (Qpf b i))/\True)/\(SM (Vk b)/\(∀(i:Nat),i<Vk b->SM (Qpg b i))/\True)/\(SM (VN b)/\(∀(i:Nat),i<VN b->SM (Qph b i))/\True)/\SM (Nd.de b)/\SM (Nd.sl b)/\SM (Nd.ss b)/\True)/\True)/\True
def Jf(a:Nd)(b:Nat):Nd:=List.getD (YA a) (Int.toNat (↑b:Int)) VM
def Qap(a:Nd)(b:Nat):Arr:=Nd.va (Jf a b)
def QtP(a:Nd)(b:Nat):List Int:=Arr.sh (Qap a b)
def QtQ(a:Nd)(b:Nat):List Int:=Arr.nu (Qap a b)
def Qpi(a:Nd)(b:Nat):List Arr:=Arr.it (Qap a b)
def Qpj(a:Nd)(b:Nat):List Nd:=Nd.ki (Jf a b)
def Qpk(a:Nd)(b:Nat):List Sm:=Nd.bo (Jf a b)
def Qaq(a:Int):Int:=IntKind.wrap IntKind.i64 (a-Z1)
def XK(a:Int):List D:=[ZI (Qaq a)]
def QdN(a:Int)(b:Nd->Prop)(c:Nd):Prop:=Z0<=Qaq a/\Qaq a<=60/\b c
def QtR(a:Nd):D:=D.agg [ZI (Nd.kd a),ZI (Qo8 a),ZI (Nd.cl a),D.str (Nd.tx a),ZI (Nd.pr a),ZI (Nd.op a),ZI (Qo9 a),D.sl N1 (QdK a) (fun i=>Qpb a i) Mode.any,D.sl N1 (QdL a) (fun i=>Qpd a i) Mode.any,D.sl N4 (QdM a) (fun i=>Qpf a i) Mode.any,D.sl 15 (Vk a) (fun i=>Qpg a i) Mode.any,D.sl 34 (VN a) (fun i=>Qph a i) Mode.any,ZI (Nd.de a),ZI (Nd.sl a),ZI (Nd.ss a)]
def QdO(a:Nd)(b:Int)(c:Nat):Prop:=SM (QtR a)/\SM (ZI b)/\SM (D.ref N0 c N0)/\True
def Qar(a:Nd)(b:Int):Int:=Gq (dpN a) (Qaq b)
def QdP(a:Int)(b:Nd)(c:Int):Int:=if a<Qar b c then Qar b c else a
def Qpl(a b:Nat)(c:Int)(d:Nd)(e f:Int)(g:Nat)(h:Nd):Prop:=(IntKind.wrap IntKind.i64 ((↑a:Int)+Z1)=(↑b:Int)/\QdP c d e=f/\True)/\Qao g h
def Qas(a:Nat)(b:Nd)(c d:Int):Prop:=a<=VN b/\Z0<=c/\c=Gq (max (dpL (YA b)) (dpB (List.take a (Qan b)))) (d-Z1)
def Qat(a:Nd):Int:=(NI (VN a))
def QdQ(a:Nd)(b:Nat):Sm:=List.getD (Qan a) (Int.toNat (↑b:Int)) YC
def Jg(a:Nd)(b:Nat):Nd:=Sm.nd (QdQ a b)
def Qau(a:Nd)(b:Nat):Arr:=Nd.va (Jg a b)
def QtS(a:Nd)(b:Nat):List Int:=Arr.sh (Qau a b)
def QtT(a:Nd)(b:Nat):List Int:=Arr.nu (Qau a b)
def Qpm(a:Nd)(b:Nat):List Arr:=Arr.it (Qau a b)
def Qpn(a:Nd)(b:Nat):List Nd:=Nd.ki (Jg a b)
def Qpo(a:Nd)(b:Nat):List Sm:=Nd.bo (Jg a b)
def Jh(a:Nd)(b:Nat):Nd:=Sm.te (QdQ a b)
def Qav(a:Nd)(b:Nat):Arr:=Nd.va (Jh a b)
def QtU(a:Nd)(b:Nat):List Int:=Arr.sh (Qav a b)
def QtV(a:Nd)(b:Nat):List Int:=Arr.nu (Qav a b)
def Qpp(a:Nd)(b:Nat):List Arr:=Arr.it (Qav a b)
def Qpq(a:Nd)(b:Nat):List Nd:=Nd.ki (Jh a b)
def Qpr(a:Nd)(b:Nat):List Sm:=Nd.bo (Jh a b)
def Qps(a:Nd)(b c:Nat):Prop:=VN a-b<VN a-c
theorem BhQ(p:Nd->Prop)(n:Nd)(m:Int)(h0:0<=m)(h1:m<=60)(hn:n.sm)(h:∀b,p b->∀m,0<=m->m<=60->RDep b m)(hk:∀b∈n.ki,p b)(hb:∀s∈n.bo,p s.te/\p s.nd):RDep n m:=by
 refine Bi (A:=sC _ _) (x:=()) (E:=Erdp p n m) (eOk (Be4 h) rfl) Tryz.func35 rfl (by kernel_rfl) rfl (by simp[sC,Erdp,EC,E0]) ?_
 refine Bj (T :=
  ∀(x:Nat),True->ifB (decide (m<=Z0)) (RT (Z1=Gq (dpN n) m)) ((∃(x_1:Nat×Int),QdJ x_1.1 n x_1.2 m/\(Z0=(NI x_1.1)/\Z0=x_1.2/\True)/\Qao x n)/\∀(x_1:Nat×Int),QdJ x_1.1 n x_1.2 m->SM x/\ifB (decide ((NI x_1.1)<(NI (Vk n)))) (SM x/\Bd (Z0<=(NI x_1.1)/\(NI x_1.1)<(NI (Vk n))) (∃(x_2:Nd),(isN x_2 (D.agg [ZI (Nd.kd (Jf n x_1.1)),ZI (Nd.at_ (Jf n x_1.1)),ZI (Nd.cl (Jf n x_1.1)),D.str (Nd.tx (Jf n x_1.1)),ZI (Nd.pr (Jf n x_1.1)),ZI (Nd.op (Jf n x_1.1)),ZI (Arr.k (Qap n x_1.1)),SI (QtP n x_1.1),SI (QtQ n x_1.1),D.sl N4 (LN (Qpi n x_1.1)) (fun i=>Arr.row (List.getD (Qpi n x_1.1) i YB)) Mode.any,D.sl 15 (LN (Qpj n x_1.1)) (fun i=>Nd.row (List.getD (Qpj n x_1.1) i VM)) Mode.any,D.sl 34 (LN (Qpk n x_1.1)) (fun i=>Sm.row (List.getD (Qpk n x_1.1) i YC)) Mode.any,ZI (Nd.de (Jf n x_1.1)),ZI (Nd.sl (Jf n x_1.1)),ZI (Nd.ss (Jf n x_1.1))]::XK m) (XK m)/\QdN m p x_2)/\∀(y:Unit),True->QdO n m x/\∃(y:Nat×Int),QdJ y.1 n y.2 m/\Vk n-y.1<Vk n-x_1.1/\Qpl x_1.1 y.1 x_1.2 x_2 m y.2 x n)) ((∃(x_2:Nat×Int),Qas x_2.1 n x_2.2 m/\(Z0=(NI x_2.1)/\x_1.2=x_2.2/\True)/\Qao x n)/\∀(x_2:Nat×Int),Qas x_2.1 n x_2.2 m->SM x/\ifB (decide ((NI x_2.1)<Qat n)) (SM x/\Bd (Z0<=(NI x_2.1)/\(NI x_2.1)<Qat n) (∃(x_3:Nd),(isN x_3 (D.agg [ZI (Nd.kd (Jg n x_2.1)),ZI (Nd.at_ (Jg n x_2.1)),ZI (Nd.cl (Jg n x_2.1)),D.str (Nd.tx (Jg n x_2.1)),ZI (Nd.pr (Jg n x_2.1)),ZI (Nd.op (Jg n x_2.1)),ZI (Arr.k (Qau n x_2.1)),SI (QtS n x_2.1),SI (QtT n x_2.1),D.sl N4 (LN (Qpm n x_2.1)) (fun i=>Arr.row (List.getD (Qpm n x_2.1) i YB)) Mode.any,D.sl 15 (LN (Qpn n x_2.1)) (fun i=>Nd.row (List.getD (Qpn n x_2.1) i VM)) Mode.any,D.sl 34 (LN (Qpo n x_2.1)) (fun i=>Sm.row (List.getD (Qpo n x_2.1) i YC)) Mode.any,ZI (Nd.de (Jg n x_2.1)),ZI (Nd.sl (Jg n x_2.1)),ZI (Nd.ss (Jg n x_2.1))]::XK m) (XK m)/\QdN m p x_3)/\∀(y:Unit),True->SM x/\Bd (Z0<=(NI x_2.1)/\(NI x_2.1)<Qat n) (ifB (Sm.kd (QdQ n x_2.1)==3) (SM x/\Bd (Z0<=(NI x_2.1)/\(NI x_2.1)<Qat n) (∃(x_4:Nd),(isN x_4 (D.agg [ZI (Nd.kd (Jh n x_2.1)),ZI (Nd.at_ (Jh n x_2.1)),ZI (Nd.cl (Jh n x_2.1)),D.str (Nd.tx (Jh n x_2.1)),ZI (Nd.pr (Jh n x_2.1)),ZI (Nd.op (Jh n x_2.1)),ZI (Arr.k (Qav n x_2.1)),SI (QtU n x_2.1),SI (QtV n x_2.1),D.sl N4 (LN (Qpp n x_2.1)) (fun i=>Arr.row (List.getD (Qpp n x_2.1) i YB)) Mode.any,D.sl 15 (LN (Qpq n x_2.1)) (fun i=>Nd.row (List.getD (Qpq n x_2.1) i VM)) Mode.any,D.sl 34 (LN (Qpr n x_2.1)) (fun i=>Sm.row (List.getD (Qpr n x_2.1) i YC)) Mode.any,ZI (Nd.de (Jh n x_2.1)),ZI (Nd.sl (Jh n x_2.1)),ZI (Nd.ss (Jh n x_2.1))]::XK m) (XK m)/\QdN m p x_4)/\∀(y:Unit),True->QdO n m x/\∃(y:Nat×Int),Qas y.1 n y.2 m/\Qps n y.1 x_2.1/\(IntKind.wrap IntKind.i64 ((NI x_2.1)+Z1)=(NI y.1)/\(if QdP x_2.2 x_3 m<Qar x_4 m then Qar x_4 m else QdP x_2.2 x_3 m)=y.2/\True)/\Qao x n)) (QdO n m x/\∃(y:Nat×Int),Qas y.1 n y.2 m/\Qps n y.1 x_2.1/\Qpl x_2.1 y.1 x_2.2 x_3 m y.2 x n)))) (RT (IntKind.wrap IntKind.i64 (x_2.2+Z1)=Gq (dpN n) m))))) (by kernel_rfl) ?_
 delta DA GI LN N0 N1 N4 NI SI SM Z0 Z1 ZI YA Vk QdL Qpd Qpe QdM YB Qpf VM Qpg Qan VN QdJ YC Qph Qao Jf Qap QtP QtQ Qpi Qpj Qpk Qo8 Qaq XK QdN QtR QdO Qar QdP Qpl Qas Qat Qam QdQ Jg Qau QtS QtT Qpm Qpn Qpo Jh Qav Qo9 QtU QtV Qpp Qpq Qpr Qps Qpa QdK Qpb Qpc RT
 try simp only[<- dm]
 try simp only[<- dn]
 simp only[ne_eq,implies_true,Int.toNat_natCast,Bh,Bf,decide_eq_true_eq,decide_eq_false_iff_not,true_and,and_true,beq_iff_eq,beq_eq_false_iff_ne,exists_const,forall_const,Prod.exists]
 have hz:=Bk9 n
 have k1:=Ci (EM hn).2.1
 have k2:=Ci (EM hn).2.2
 unfold maxLen at k1 k2
 refine⟨fun h2=>?_,fun h2=>?_⟩
 ·unfold Gq;split<;>omega
 have w:IntKind.i64.wrap (m-1)=m-1:=Be (by omega) (by omega)
 rw[w]
 refine⟨⟨0,0,⟨Nat.zero_le _,Int.le_refl _,?_⟩,rfl,rfl⟩,?_⟩
 ·simp only[List.take_zero,dpL];unfold Gq;split<;>omega
 rintro ⟨i,d⟩ ⟨i1,d0,hd⟩
 simp only at i1 d0 hd ⊢
 refine⟨fun hlt=>?_,fun hge=>?_⟩
 ·have hlt':i<n.ki.length:=by omega
  have ht:=BhS hlt'
  refine⟨⟨by omega,hlt⟩,n.ki.getD i default,⟨B1 _ _,by omega,by omega,hk _ (GJ hlt')⟩,i+1,_,⟨hlt',?_,?_⟩,by omega,Be (by omega) (by omega),rfl⟩
  ·unfold Gq;split<;>(try split)<;>omega
  ·rw[ht]
   unfold Gq at hd ⊢
   split at hd<;>split<;>(try split)<;>(try split)<;>omega
 ·have e:i=n.ki.length:=by omega
  rw[e,List.take_length] at hd
  refine⟨⟨0,d,⟨Nat.zero_le _,d0,?_⟩,rfl,rfl⟩,?_⟩
  ·simp only[List.take_zero,dpB,Nat.max_zero];exact hd
  rintro ⟨j,c⟩ ⟨j1,c0,hc⟩
  simp only at j1 c0 hc ⊢
  refine⟨fun hlt=>?_,fun hge=>?_⟩
  ·have hlt':j<n.bo.length:=by omega
   have ht:=BhE hlt'
   have hs:=BkK (n.bo.getD j default)
   obtain ⟨q1,q2⟩:=hb _ (E6 hlt')
   have wj:IntKind.i64.wrap ((j:Int)+1)=((j+1:Nat):Int):=by rw[Be (by omega) (by omega)];rfl
   refine⟨⟨by omega,hlt⟩,(n.bo.getD j default).nd,⟨B1 _ _,by omega,by omega,q2⟩,⟨by omega,hlt⟩,fun h3=>⟨⟨by omega,hlt⟩,(n.bo.getD j default).te,⟨B1 _ _,by omega,by omega,q1⟩,j+1,_,⟨hlt',?_,?_⟩,by omega,wj,rfl⟩,fun h3=>⟨j+1,_,⟨hlt',?_,?_⟩,by omega,wj,rfl⟩⟩
   ·generalize dpN (n.bo.getD j default).nd=u
    generalize dpN (n.bo.getD j default).te=v
    unfold Gq
    repeat' split
    all_goals omega
   ·rw[ht,hs,if_pos h3]
    generalize dpN (n.bo.getD j default).nd=u
    generalize dpN (n.bo.getD j default).te=v
    generalize dpB (List.take j n.bo)=t at hc
    generalize dpL n.ki=z at hc
    clear hs ht
    unfold Gq at hc ⊢
    split at hc<;>repeat' split
    all_goals omega
   ·generalize dpN (n.bo.getD j default).nd=u
    unfold Gq
    repeat' split
    all_goals omega
   ·rw[ht,hs,if_neg h3]
    generalize dpN (n.bo.getD j default).nd=u
    generalize dpB (List.take j n.bo)=t at hc
    generalize dpL n.ki=z at hc
    clear hs ht
    unfold Gq at hc ⊢
    split at hc<;>repeat' split
    all_goals omega
  ·have e2:j=n.bo.length:=by omega
   rw[e2,List.take_length] at hc
   have cb:c<=60:=by unfold Gq at hc;split at hc<;>omega
   rw[Be (by omega) (by omega),hc,hz]
   unfold Gq
   split<;>split<;>omega
theorem Bgw(n:Nd)(hn:n.sm)(m:Int)(h0:0<=m)(h1:m<=60):RDep n m :=
 BhQ (fun b=>b.sm/\SizeOf.sizeOf b<SizeOf.sizeOf n) n m h0 h1 hn (fun b hb m h0 h1=>Bgw b hb.1 m h0 h1) (fun b hb=>⟨IP hn (Co hb),Nd.size_kid hb⟩) fun s hs =>
  have h2:=EW (U7 hn s hs)
  have e:=Nd.size_stmt hs
  have e1:=Sm.size_te s
  have e2:=Sm.size_nd s
  ⟨⟨h2.1,by omega⟩,⟨h2.2,by omega⟩⟩
termination_by SizeOf.sizeOf n
decreasing_by exact hb.2
open Go Go.Ab Go.Proofs Go.RowKit Go.Shelf
attribute [local go_sem] Oper.semAt_some
def lkA(x:Option (Nat×Nat×Int)):Int×Int×Int×Bool:=match x with
 |some (d,i,c)=>(d,i,c,true)
 |none=>(0,0,0,false)
theorem Biw{sc:Scp}{d:Nat}(h:d<sc.length):sc.reverse.getD (sc.length-1-d) []=sc.getD d []:=by
 rw[List.getD_eq_getElem?_getD,List.getElem?_reverse (by omega),List.getD_eq_getElem?_getD]
 congr 2
 omega
theorem BaY(x:Option (Nat×Int)):MQ 0 x=x:=by cases x<;>rfl
theorem RI(d e:Nat)(x:Option (Nat×Int)):MQ d (MQ e x)=MQ (d+e) x:=by
 cases x with
 |none=>rfl
 |some y=>simp[MQ];omega
noncomputable def Elk(sc:Scp)(nm:List UInt8):Senv:={ EC CM 55 3 [4,5,6,7,8,9,10,15,31,39] (fun id=>match id with | 9=>([0,1,2,3,4,5,6,7,8,9,10,11,12,13,14,15,16,17,18],[]) | _=>([],[])) with
 ann:=fun b env S=>match b with
  |0=>some { slots:=[8],keep:=[0,1,2,3],α:=Nat,st:=fun d=>([.int .i64 (d:Nat)],S),inv:=fun d=>LkO nm sc d,mu:=fun d=>sc.length-d }
  |2=>some { slots:=[10],keep:=[0,1,2,3,8,9],α:=Nat,st:=fun i=>([.int .i64 (i:Nat)],S),inv:=fun i=>LkI nm (sc.getD (Wy (Ab.look env 8)) []) i,mu:=fun i=>(sc.getD (Wy (Ab.look env 8)) []).length-i }
  |_=>none }
def Qpt(a:Scp)(b:Nat):List D:=[D.sl N1 (LN (nmF (List.getD (List.reverse a) b []))) (fun i=>[D.str (List.getD (nmF (List.getD (List.reverse a) b [])) i [])]) Mode.any]
def Qpu(a:Scp)(b:Nat):List D:=[SI (clF (List.getD (List.reverse a) b []))]
def Qpv(a:Nat)(b:Scp):Prop:=(SM a/\((SM (LN b)/\(∀(i:Nat),i<LN b->SM (Qpt b i))/\True)/\(SM (LN b)/\(∀(i:Nat),i<LN b->SM (Qpu b i))/\True)/\True)/\True)/\True
def Qpw(a b:Nat)(c:Scp):Prop:=(Z0=(↑a:Int)/\True)/\Qpv b c
def YD(a:Scp)(b:Nat):Int:=IntKind.wrap IntKind.i64 (IntKind.wrap IntKind.i64 ((LI a)-Z1)-(↑b:Int))
def QdR(a:List UInt8)(b:Scp)(c d:Nat):Prop:=LkI a (List.getD b (Wy (ZI (↑c:Int))) []) d
def Qpx(a:Scp)(b:Nat):Frm1:=List.getD (List.reverse a) (Int.toNat (YD a b)) []
def QdS(a:Scp)(b:Nat):List (List UInt8):=nmF (Qpx a b)
def Qpy(a:Scp)(b:Nat):Nat:=LN (QdS a b)
def Qpz(a:Scp)(b:Nat):Int:=(NI (Qpy a b))
def QpA(a:Scp)(b:Nat):List Int:=clF (Qpx a b)
def QtW(a:Scp):D:=D.agg [D.sl N1 (LN a) (fun i=>Qpt a i) Mode.any,D.sl N1 (LN a) (fun i=>Qpu a i) Mode.any]
def QpB(a:Scp):Prop:=SM (QtW a)
def QtX(a:Scp)(b:Nat):D:=D.sl N1 (Qpy a b) (fun i=>[D.str (List.getD (QdS a b) i [])]) Mode.any
def QpC(a b c:Nat)(d:Scp):Prop:=(IntKind.wrap IntKind.i64 ((↑a:Int)+Z1)=(↑b:Int)/\True)/\Qpv c d
theorem Bl3(sc:Scp)(nm:List UInt8)(h:sc.length<=1000000/\∀f∈sc,f.length<=1000000):CD 61 [.agg (scC sc),.str nm] (.tup [.int .i64 (lkA (Bp nm sc)).1,.int .i64 (lkA (Bp nm sc)).2.1,.int .i64 (lkA (Bp nm sc)).2.2.1,.bool (lkA (Bp nm sc)).2.2.2]):=by
 refine Bi (A:=sC _ _) (x:=()) (E:=Elk sc nm) (eOk BE rfl) Tryz.func61 rfl (by kernel_rfl) rfl (by simp[sC,Elk,EC,E0]) ?_
 refine Bj (T :=
  ∀(x:Nat),True->(∃(x_1:Nat),LkO nm sc x_1/\Qpw x_1 x sc)/\∀(x_1:Nat),LkO nm sc x_1->SM x/\ifB (decide ((↑x_1:Int)<(LI sc))) (SM x/\SM x/\Bd (Z0<=YD sc x_1/\YD sc x_1<(LI sc)) ((∃(x_2:Nat),QdR nm sc x_1 x_2/\Qpw x_2 x sc)/\∀(x_2:Nat),QdR nm sc x_1 x_2->ifB (decide ((↑x_2:Int)<Qpz sc x_1)) (Bd (Z0<=(↑x_2:Int)/\(↑x_2:Int)<Qpz sc x_1) (ifB (List.getD (QdS sc x_1) (Int.toNat (↑x_2:Int)) []==nm) (SM x/\SM x/\Bd (Z0<=YD sc x_1/\YD sc x_1<(LI sc)) (Bd (Z0<=(↑x_2:Int)/\(↑x_2:Int)<(LI (QpA sc x_1))) (True/\∃(y:Unit),True/\((↑x_1:Int)=Prod.fst (lkA (Bp nm sc))/\(↑x_2:Int)=Prod.fst (Prod.snd (lkA (Bp nm sc)))/\GI (QpA sc x_1) (Int.toNat (↑x_2:Int))=Prod.fst (Prod.snd (Prod.snd (lkA (Bp nm sc))))/\true=Prod.snd (Prod.snd (Prod.snd (lkA (Bp nm sc))))/\True)/\True/\True))) ((QpB sc/\SM (D.str nm)/\SM (D.ref N0 x N0)/\SM D.unk/\SM (ZI (↑x_1:Int))/\SM (QtX sc x_1)/\True)/\∃(y:Nat),QdR nm sc x_1 y/\LN (List.getD sc (Wy (ZI (↑x_1:Int))) [])-y<LN (List.getD sc (Wy (ZI (↑x_1:Int))) [])-x_2/\QpC x_2 y x sc))) ((QpB sc/\SM (D.str nm)/\SM (D.ref N0 x N0)/\SM D.unk/\True)/\∃(y:Nat),LkO nm sc y/\LN sc-y<LN sc-x_1/\QpC x_1 y x sc))) (True/\∃(y:Unit),True/\(Z0=Prod.fst (lkA (Bp nm sc))/\Z0=Prod.fst (Prod.snd (lkA (Bp nm sc)))/\Z0=Prod.fst (Prod.snd (Prod.snd (lkA (Bp nm sc))))/\false=Prod.snd (Prod.snd (Prod.snd (lkA (Bp nm sc))))/\True)/\True/\True)) (by kernel_rfl) ?_
 delta GI LI LN N0 N1 NI SI SM Z0 Z1 ZI Qpt Qpu QpA QtW QpB QtX QpC Qpv Qpw YD QdR Qpx QdS Qpy Qpz
 simp only[eq_self,ne_eq,implies_true,Int.toNat_natCast,Bh,Bf,decide_eq_true_eq,decide_eq_false_iff_not,true_and,and_true,beq_iff_eq,beq_eq_false_iff_ne,exists_const,forall_const]
 have hw:∀d:Nat,d<sc.length->IntKind.i64.wrap (IntKind.i64.wrap ((List.length sc:Int)-1)-(d:Int))=((sc.length-1-d:Nat):Int):=fun d hd=>by
  rw[Be (n:=(List.length sc:Int)-1) (by omega) (by omega),Be (by omega) (by omega)]
  omega
 refine⟨⟨0,⟨Nat.zero_le _,(Wp _).symm⟩,rfl⟩,fun d hd=>⟨fun hlt=>?_,fun hge=>?_⟩⟩
 ·have hlt':d<sc.length:=by simpa using hlt
  rw[hw d hlt']
  simp only[Int.toNat_natCast,Biw hlt',Wy]
  have hstep:sc.drop d=sc.getD d []::sc.drop (d+1):=Bt hlt'
  have hmem:sc.getD d []∈sc:=by rw[List.getD_eq_getElem?_getD,List.getElem?_eq_getElem hlt'];exact List.getElem_mem hlt'
  have hfl:=h.2 _ hmem
  generalize hf:sc.getD d []=f at *
  have hn:(nmF f).length=f.length:=by simp[nmF]
  have hc:(clF f).length=f.length:=by simp[clF]
  have b0:(0:Int)<=((sc.length-1-d:Nat):Int)/\((sc.length-1-d:Nat):Int)<(sc.length:Int):=⟨by omega,by omega⟩
  refine⟨b0,⟨0,⟨Nat.zero_le _,(BaY _).symm⟩,rfl⟩,fun i hi=>⟨fun hli=>?_,fun hgi=>?_⟩⟩
  ·have hli':i<f.length:=by rw[hn] at hli;simpa using hli
   have hs2:f.drop i=f.getD i ([],0)::f.drop (i+1):=by
    rw[List.drop_eq_getElem_cons hli']
    simp[List.getD_eq_getElem?_getD,hli']
   have e1:(nmF f).getD i []=(f.getD i ([],0)).1:=E4 f i
   have e2:(clF f).getD i 0=(f.getD i ([],0)).2:=Ot f i
   refine⟨⟨Int.natCast_nonneg i,hli⟩,fun he=>?_,fun he=>?_⟩
   ·rw[e1] at he
    have hsl:B3 nm f=some (i,(f.getD i ([],0)).2):=by
     rw[hi.eq,hs2,B3,if_pos he]
     simp[MQ]
    have hl:Bp nm sc=some (d,i,(f.getD i ([],0)).2):=by
     rw[hd.eq,hstep,Bp,hsl]
     simp[Gz]
    rw[hl,e2]
    exact⟨b0,⟨Int.natCast_nonneg i,by rw[hc];omega⟩,rfl,rfl,rfl,rfl⟩
   ·rw[e1] at he
    refine⟨i+1,⟨hli',?_⟩,by omega,by rw[Be (by omega) (by omega)];rfl⟩
    rw[hi.eq,hs2,B3,if_neg he]
    have:=RI i 1 (B3 nm (f.drop (i+1)))
    rw[<- this]
    rfl
  ·have hie:i=f.length:=by have:=hi.le;rw[hn] at hgi;omega
   refine⟨d+1,⟨hlt',?_⟩,by omega,by rw[Be (by omega) (by omega)];rfl⟩
   have hsl:B3 nm f=none:=by
    rw[hi.eq,hie,List.drop_length];rfl
   rw[hd.eq,hstep,Bp,hsl]
   have:=Tu d 1 (Bp nm (sc.drop (d+1)))
   rw[<- this]
   rfl
 ·have hde:d=sc.length:=by have:=hd.le;omega
  have hl:Bp nm sc=none:=by
   rw[hd.eq,hde,List.drop_length];rfl
  rw[hl]
  exact⟨rfl,rfl,rfl,rfl⟩
theorem OZ(f:Frm1)(r:Scp){i:Nat}(hi:i<r.length):Cb (f::r) i=Cb r i:=by
 unfold Cb
 rw[List.reverse_cons,List.getD_eq_getElem?_getD,List.getElem?_append_left (by simpa using hi),<- List.getD_eq_getElem?_getD]
theorem Ti(f:Frm1)(r:Scp){i:Nat}(hi:i<r.length):B8 (f::r) i=B8 r i:=by
 unfold B8
 rw[List.reverse_cons,List.getD_eq_getElem?_getD,List.getElem?_append_left (by simpa using hi),<- List.getD_eq_getElem?_getD]
theorem Re(f:Frm1)(r:Scp):Cb (f::r) r.length=[ssl (nmF f) .any]:=by
 unfold Cb
 rw[List.reverse_cons,List.getD_eq_getElem?_getD,List.getElem?_append_right (by simp)]
 simp
theorem Rf(f:Frm1)(r:Scp):B8 (f::r) r.length=[isl (clF f) .any]:=by
 unfold B8
 rw[List.reverse_cons,List.getD_eq_getElem?_getD,List.getElem?_append_right (by simp)]
 simp
theorem Bgh{F : Scp -> Nat -> List D}(sc : Scp){G : List D}(h1 : ∀i, i<sc.length -> F ([]::sc) i=F sc i)(h2 : wkL G (F ([]::sc) sc.length))(i : Nat)(hi : i<0+sc.length+1) :
  wkL (Br (0+sc.length) (Br 0 (fun _=>[]) (F sc)) (fun i=>[G].getD i []) i) (F ([]::sc) i):=by
 by_cases h:i<sc.length
 ·have e:Br (0+sc.length) (Br 0 (fun _=>[]) (F sc)) (fun i=>[G].getD i []) i=F sc i:=by simp[Br,h]
  rw[e,h1 i h]
  exact Bc _
 ·obtain rfl:i=sc.length:=by omega
  have e:Br (0+sc.length) (Br 0 (fun _=>[]) (F sc)) (fun i=>[G].getD i []) sc.length=G:=by simp[Br]
  rw[e]
  exact h2
theorem Biu{F : Scp -> Nat -> List D}(f g : Frm1)(r : Scp){G : List D}(h1 : ∀i, i<r.length -> F (g::r) i=F (f::r) i)(h2 : wkL G (F (g::r) r.length))(i : Nat)(hi : i<r.length+1) :
  wkL (Br r.length (Br 0 (fun _=>[]) (F (f::r))) (fun i=>[G].getD i []) i) (F (g::r) i):=by
 by_cases h:i<r.length
 ·have e:Br r.length (Br 0 (fun _=>[]) (F (f::r))) (fun i=>[G].getD i []) i=F (f::r) i:=by simp[Br,h]
  rw[e,h1 i h]
  exact Bc _
 ·obtain rfl:i=r.length:=by omega
  have e:Br r.length (Br 0 (fun _=>[]) (F (f::r))) (fun i=>[G].getD i []) r.length=G:=by simp[Br]
  rw[e]
  exact h2
noncomputable def Eop:Senv:=EC CM 21 4 [] (fun _=>([],[]))
def Vl(a:Scp):Nat:=N0+LN a+N1
def QpD(a:Nat):List D:=List.getD [[D.sl N1 N0 (fun _x=>[]) Mode.nil]] a []
theorem Bka(sc:Scp)(h:sc.length<=1000000):CD 25 [.agg (scC sc)] (.agg (scC ([]::sc))):=by
 refine CD.ofW (CK (E:=Eop) (eOk BE rfl) Tryz.func25 rfl (by kernel_rfl) rfl (by simp[Eop,EC,E0]) ?_)
 refine Bj (T :=
  ∀(x:Nat),True->∀(x_1:Nat),x≠x_1/\True->∀(x_2:Nat),x_1≠x_2/\x≠x_2/\True->SM x_2/\SM x/\Bd ((N0+LN sc)*24<=140737488355328/\N0+LN sc<=9223372036854775807) (∀(t:Nat),SM t/\Bd (Vl sc*24<=140737488355328/\Vl sc<=9223372036854775807) (∀(t:Nat),SM x_2/\SM x_2/\SM x/\Bd ((N0+LN sc)*24<=140737488355328/\N0+LN sc<=9223372036854775807) (∀(t:Nat),SM t/\Bd (Vl sc*24<=140737488355328/\Vl sc<=9223372036854775807) (∀(t:Nat),SM x_2/\SM x_2/\SM x_1/\(SM x_1/\True)/\(Vl sc=LN ([]::sc)/\(∀(i:Nat),i<Vl sc->wkL (Br (N0+LN sc) (Br N0 (fun x=>[]) (Cb sc)) (fun i=>QpD i) i) (Cb ([]::sc) i))/\True)/\(Vl sc=LN ([]::sc)/\(∀(i:Nat),i<Vl sc->wkL (Br (N0+LN sc) (Br N0 (fun x=>[]) (B8 sc)) (fun i=>QpD i) i) (B8 ([]::sc) i))/\True)/\True))))) (by kernel_rfl) ?_
 delta LN N0 N1 SM Vl QpD
 simp only[eq_self,ne_eq,Bf,true_and,and_true,forall_const]
 intro _ _ _ _ _
 refine⟨⟨by omega,by omega⟩,⟨by omega,by omega⟩,⟨by omega,by omega⟩,⟨by omega,by omega⟩,⟨by simp,fun i hi=>?_⟩,by simp,fun i hi=>?_⟩
 ·exact Bgh (F:=Cb) sc (fun i h=>OZ [] sc h) (by rw[Re];simp[wkL,wkD,ssl,nmF,Ba,M1,BB]) i hi
 ·exact Bgh (F:=B8) sc (fun i h=>Ti [] sc h) (by rw[Rf];simp[wkL,wkD,isl,clF,Ba,M1,BB]) i hi
theorem BjQ(f : Frm1)(r : Scp)(nm : List UInt8)(c : Int)(t : Nat)(i : Nat)(hi : i<r.length+1) :
  wkL (Br r.length (Br 0 (fun _=>[]) (Cb (f::r))) (fun i=>[[.sl 1 (f.length+1) (Br f.length (Br 0 (fun _=>[D.str []]) fun i=>[D.str ((nmF f).getD i [])]) fun i=>[D.str ([nm].getD i [])]) (.tok 1 t)]].getD i []) i) (Cb ((f++[(nm,c)])::r) i):=by
 refine Biu (F:=Cb) f (f++[(nm,c)]) r (fun i h=>by rw[OZ _ _ h,OZ _ _ h]) ?_ i hi
 rw[Re]
 refine⟨?_,trivial⟩
 simp only[ssl,wkD,Ba]
 refine⟨by simp,by simp[nmF],fun j hj=>?_,by simp[BB]⟩
 have e:Br f.length (Br 0 (fun _=>[D.str []]) fun i=>[D.str ((nmF f).getD i [])]) (fun i=>[D.str ([nm].getD i [])]) j=Br f.length (fun j=>[D.str ((nmF f).getD j [])]) (fun i=>[D.str ([nm].getD i [])]) j:=by
  simp[Br]
 rw[e,Baz f nm c j hj]
 exact Bc _
theorem Bjy(f : Frm1)(r : Scp)(nm : List UInt8)(c : Int)(t : Nat)(i : Nat)(hi : i<r.length+1) :
  wkL (Br r.length (Br 0 (fun _=>[]) (B8 (f::r))) (fun i=>[[.sl 1 (f.length+1) (Br f.length (Br 0 (fun _=>[D.str []]) fun i=>[D.int .i64 ((clF f).getD i 0)]) fun i=>[[D.int .i64 c]].getD i []) (.tok 3 t)]].getD i []) i) (B8 ((f++[(nm,c)])::r) i):=by
 refine Biu (F:=B8) f (f++[(nm,c)]) r (fun i h=>by rw[Ti _ _ h,Ti _ _ h]) ?_ i hi
 rw[Rf]
 refine⟨?_,trivial⟩
 simp only[isl,wkD,Ba]
 refine⟨by simp,by simp[clF],fun j hj=>?_,by simp[BB]⟩
 have e:Br f.length (Br 0 (fun _=>[D.str []]) fun i=>[D.int .i64 ((clF f).getD i 0)]) (fun i=>[[D.int .i64 c]].getD i []) j=Br f.length (fun j=>[D.int .i64 ((clF f).getD j 0)]) (fun i=>[[D.int .i64 c]].getD i []) j:=by
  simp[Br]
 rw[e,RP f nm c j hj]
 exact Bc _
noncomputable def Edf:Senv:=EC CM 54 4 [6,7,8] (fun id=>match id with | 3=>([0,1,2,3,4,5,8,9,10,11,12,14,6,7,13,15,16,17,18,19,20],[6,7,13,15,16,17,18,20]) | 4=>([0,1,2,3,4,5,8,9,10,11,12,14,6,7,13,15,16,17,18,19,20],[6,7,13,15,16,17,18,20]) | _=>([],[]))
def JH(a:Frm1)(b:Scp):Int:=IntKind.wrap IntKind.i64 ((LI (a::b))-Z1)
def Ji(a:Frm1)(b:Scp):Nat:=N0+(Int.toNat (JH a b)-N0)
def Vm(a:Frm1)(b:Scp):Nat:=Ji a b*24
def QtY(a:Frm1)(b:Scp):D:=D.sl N1 (LN (a::b)) (fun i=>[D.sl N1 (LN (nmF (List.getD (List.reverse (a::b)) i []))) (fun i_1=>[D.str (List.getD (nmF (List.getD (List.reverse (a::b)) i [])) i_1 [])]) Mode.any]) Mode.any
def JI(a:Nat)(b:Frm1)(c:Scp):Prop:=SM a/\SM (QtY b c)
def QpE(a:Frm1)(b:Scp):Frm1:=List.getD (List.reverse (a::b)) (Int.toNat (JH a b)) []
def QpF(a:Frm1)(b:Scp):List (List UInt8):=nmF (QpE a b)
def Qaw(a:Frm1)(b:Scp):Nat:=N0+LN (QpF a b)
def QdT(a:Frm1)(b:Scp):Nat:=Qaw a b+N1
def XL(a:Frm1)(b:Scp):Nat:=Ji a b+N1
def QpG(a:Frm1)(b:Scp):Nat:=XL a b*24
def QtZ(a:Frm1)(b:Scp):D:=D.sl N1 (LN (a::b)) (fun i=>[SI (clF (List.getD (List.reverse (a::b)) i []))]) Mode.any
def JJ(a:Nat)(b:Frm1)(c:Scp):Prop:=SM a/\SM (QtZ b c)
def QpH(a:Frm1)(b:Scp):List Int:=clF (QpE a b)
def Qax(a:Frm1)(b:Scp):Nat:=N0+LN (QpH a b)
def QdU(a:Frm1)(b:Scp):Nat:=Qax a b+N1
def QpI(a:Frm1)(b:Scp)(c:List UInt8)(d:Int):Prop:=XL a b=LN ((a++[(c,d)])::b)
def QpJ(a:Frm1)(b:Scp)(c d e:Nat)(f:List UInt8)(g:Int)(h:Nat):Prop:=Bd (Qax a b*8<=140737488355328/\Qax a b<=9223372036854775807) (∀(t:Nat),SM t/\Bd (QdU a b*8<=140737488355328/\QdU a b<=9223372036854775807) (∀(t:Nat),SM c/\Bd (QpG a b<=140737488355328/\XL a b<=9223372036854775807) (∀(_t_1:Nat),SM d/\SM d/\SM e/\(SM e/\True)/\(QpI a b f g/\(∀(i:Nat),i<XL a b->wkL (Br (Ji a b) (Br N0 (fun _x=>[]) fun i=>[D.sl N1 (LN (nmF (List.getD (List.reverse (a::b)) (N0+i) []))) (fun i_1=>[D.str (List.getD (nmF (List.getD (List.reverse (a::b)) (N0+i) [])) i_1 [])]) Mode.any]) (fun i=>List.getD [[D.sl N1 (QdT a b) (Br (Qaw a b) (Br N0 (fun _i=>[D.str []]) fun i=>[D.str (List.getD (QpF a b) i [])]) fun i=>[D.str (List.getD [f] i [])]) (Mode.tok N1 h)]] i []) i) [D.sl N1 (LN (nmF (List.getD (List.reverse ((a++[(f,g)])::b)) i []))) (fun i_1=>[D.str (List.getD (nmF (List.getD (List.reverse ((a++[(f,g)])::b)) i [])) i_1 [])]) Mode.any])/\True)/\(QpI a b f g/\(∀(i:Nat),i<XL a b->wkL (Br (Ji a b) (Br N0 (fun _x=>[]) fun i=>[SI (clF (List.getD (List.reverse (a::b)) (N0+i) []))]) (fun i=>List.getD [[D.sl N1 (QdU a b) (Br (Qax a b) (Br N0 (fun _i=>[D.str []]) fun i=>[ZI (GI (QpH a b) i)]) fun i=>List.getD [[ZI g]] i []) (Mode.tok (3:Nat) t)]] i []) i) [SI (clF (List.getD (List.reverse ((a++[(f,g)])::b)) i []))])/\True)/\True)))
def QdV(a:Nat)(b:Frm1)(c:Scp)(d e f:Nat)(g:List UInt8)(h:Int)(k:Nat):Prop:=JJ a b c/\QpJ b c d e f g h k
def QpK(a:Nat)(b:Frm1)(c:Scp)(d e f:Nat)(g:List UInt8)(h:Int)(k:Nat):Prop:=JJ a b c/\QpJ b c d e f g h k/\QdV a b c d e f g h k
def QpL(a:Nat)(b:Frm1)(c:Scp)(d e f:Nat)(g:List UInt8)(h:Int)(k:Nat):Prop:=JJ a b c/\QdV a b c d e f g h k
def XM(a:Nat):Prop:=SM a/\SM (D.sl N1 N0 (fun _x=>[]) Mode.nil)
def QpM(a:Nat)(b:Frm1)(c:Scp)(d e:Nat)(f:List UInt8)(g:Int)(h:Nat):Prop:=JJ a b c/\JJ a b c/\XM d/\Bd (Vm b c<=140737488355328/\Ji b c<=9223372036854775807) (∀(t:Nat),QdV a b c t d e f g h)
def QpN(a:Frm1)(b:Scp)(c d e f:Nat)(g:List UInt8)(h:Int):Prop:=Bd (Qaw a b*16<=140737488355328/\Qaw a b<=9223372036854775807) (∀(t:Nat),SM t/\Bd (QdT a b*16<=140737488355328/\QdT a b<=9223372036854775807) (∀(t:Nat),SM c/\Bd (QpG a b<=140737488355328/\XL a b<=9223372036854775807) (∀(_t_1:Nat),SM d/\SM d/\SM e/\Bd (Z0<=Z0/\Z0<=JH a b/\JH a b<=(LI (a::b))) (SM e/\Bd (Z0<=JH a b/\JH a b<(LI (a::b))) (Bd (Vm a b<=140737488355328/\Ji a b<=9223372036854775807) (∀(t_2:Nat),JJ e a b/\QpK e a b t_2 d f g h t/\QpL e a b t_2 d f g h t)/\(JJ e a b/\JJ e a b/\XM d/\Bd (Vm a b<=140737488355328/\Ji a b<=9223372036854775807) (∀(t_2:Nat),QpK e a b t_2 d f g h t)/\QpM e a b d f g h t)/\JJ e a b/\JJ e a b/\XM d/\Bd (Vm a b<=140737488355328/\Ji a b<=9223372036854775807) (∀(t_2:Nat),QpL e a b t_2 d f g h t)/\QpM e a b d f g h t)))))
def QdW(a:Nat)(b:Frm1)(c:Scp)(d e f:Nat)(g:List UInt8)(h:Int):Prop:=JI a b c/\QpN b c d e a f g h
def QpO(a:Nat)(b:Frm1)(c:Scp)(d e f:Nat)(g:List UInt8)(h:Int):Prop:=JI a b c/\QpN b c d e a f g h/\QdW a b c d e f g h
def QpP(a:Nat)(b:Frm1)(c:Scp)(d e f:Nat)(g:List UInt8)(h:Int):Prop:=JI a b c/\QdW a b c d e f g h
def QpQ(a:Nat)(b:Frm1)(c:Scp)(d e:Nat)(f:List UInt8)(g:Int):Prop:=JI a b c/\JI a b c/\XM d/\Bd (Vm b c<=140737488355328/\Ji b c<=9223372036854775807) (∀(t:Nat),QdW a b c t d e f g)
theorem BlZ(f:Frm1)(r:Scp)(nm:List UInt8)(c:Int)(h:r.length<=1000000)(hf:f.length<=1000000):CD 50 [.agg (scC (f::r)),.str nm,.int .i64 c] (.agg (scC ((f++[(nm,c)])::r))):=by
 refine CD.ofW (CK (E:=Edf) (eOk BE rfl) Tryz.func50 rfl (by kernel_rfl) rfl (by simp[Edf,EC,E0]) ?_)
 refine Bj (T :=
  ∀(x:Nat),True->∀(x_1:Nat),x≠x_1/\True->∀(x_2:Nat),x_1≠x_2/\x≠x_2/\True->SM x/\SM x_2/\SM x/\Bd (Z0<=Z0/\Z0<=JH f r/\JH f r<=(LI (f::r))) (SM x/\Bd (Z0<=JH f r/\JH f r<(LI (f::r))) (Bd (Vm f r<=140737488355328/\Ji f r<=9223372036854775807) (∀(t:Nat),JI x f r/\QpO x f r t x_2 x_1 nm c/\QpP x f r t x_2 x_1 nm c)/\(JI x f r/\JI x f r/\XM x_2/\Bd (Vm f r<=140737488355328/\Ji f r<=9223372036854775807) (∀(t:Nat),QpO x f r t x_2 x_1 nm c)/\QpQ x f r x_2 x_1 nm c)/\JI x f r/\JI x f r/\XM x_2/\Bd (Vm f r<=140737488355328/\Ji f r<=9223372036854775807) (∀(t:Nat),QpP x f r t x_2 x_1 nm c)/\QpQ x f r x_2 x_1 nm c))) (by kernel_rfl) ?_
 delta GI LI LN N0 N1 SI SM Z0 Z1 ZI JH Ji Vm QtY JI QpE QpF Qaw QdT XL QpG QtZ JJ QpH Qax QdU QpI QpJ QdV QpK QpL XM QpM QpN QdW QpO QpP QpQ
 simp only[eq_self,ne_eq,Bf,true_and,and_true,forall_const]
 have hw:IntKind.i64.wrap (((f::r).length:Nat)-1)=(r.length:Nat):=by
  have e:(((f::r).length:Nat):Int)=r.length+1:=by simp
  rw[e,Be (by omega) (by omega)]
  omega
 have hl:(f::r).reverse.getD r.length []=f:=by
  rw[List.reverse_cons,List.getD_eq_getElem?_getD,List.getElem?_append_right (by simp)]
  simp
 have hn:(nmF f).length=f.length:=by simp[nmF]
 have hc:(clF f).length=f.length:=by simp[clF]
 have hL:((f::r).length:Nat)=r.length+1:=rfl
 intro _ _ _ _ _
 simp only[hw,Int.toNat_natCast,Nat.sub_zero,Nat.zero_add,hl,hn,hc]
 have hL':(((f::r).length:Nat):Int)=r.length+1:=by simp
 repeat' first | apply And.intro | intro _
 all_goals first | omega | rfl | exact BjQ f r nm c _ _ ‹_› | exact Bjy f r nm c _ _ ‹_›
theorem Ba4(nm:List UInt8):∀(sc:Scp),Bp nm (sc++[[]])=Bp nm sc
 | []=>by simp[Bp,B3]
 |f::r=>by
  rw[List.cons_append,Bp,Bp,Ba4 nm r]
mutual
theorem Ua:∀(n:Nd) (sc:Scp),fnN (sc++[[]]) n=fnN sc n
 |.mk kd _ _ tx _ _ _ ki bo _ _ _,sc=>by
  rw[fnN,fnN,Ba4,BeA ki sc,Bej bo sc []]
theorem BeA:∀(l:List Nd) (sc:Scp),fnL (sc++[[]]) l=fnL sc l
 | [],_=>by rw[fnL,fnL]
 |x::r,sc=>by rw[fnL,fnL,Ua x sc,BeA r sc]
theorem Bej:∀(l:List Sm) (sc:Scp) (f:Frm1),fnB (sc++[[]]) f l=fnB sc f l
 | [],_,_=>by rw[fnB,fnB]
 |s::r,sc,f=>by
  rw[fnB,fnB,Bej r sc _]
  have:=BiN s (f::sc)
  rw[List.cons_append] at this
  rw[this]
theorem BiN:∀(s:Sm) (sc:Scp),fnM (sc++[[]]) s=fnM sc s
 |.mk _ _ _ _ te nd,sc=>by
  rw[fnM,fnM,Ua te sc,Ua nd sc]
end
theorem AtI.here{s:List UInt8}{L:List (List UInt8)}{i:Nat}(h:AtI s L i)(hi:i<L.length)(he:L.getD i []=s)(hlt:¬L.getD i []<s):CC s L=L:=by
 have hd:L.drop i=L.getD i []::L.drop (i+1):=by
  rw[List.drop_eq_getElem_cons hi]
  simp[List.getD_eq_getElem?_getD,hi]
 rw[h.eq,hd,CC,if_neg hlt,if_pos he,<- hd,List.take_append_drop]
theorem Bjc{s : List UInt8}{L : List (List UInt8)}{x : Nat}(e : CC s L=(L.take x++[s])++L.drop x)(hx : x<=L.length)(i : Nat) :
  Br (0+(x-0)+1) (Br (0+(x-0)) (Br 0 (fun _=>[]) fun i=>[D.str (L.getD (0+i) [])]) fun i=>[D.str ([s].getD i [])]) (fun i=>[D.str (L.getD (x+i) [])]) i=[D.str ((CC s L).getD i [])]:=by
 rw[e]
 simp only[Br,Nat.zero_add,Nat.sub_zero,List.getD_eq_getElem?_getD]
 have hl:(L.take x++[s]).length=x+1:=by simp;omega
 have ht:(L.take x).length=x:=by simp;omega
 by_cases h1:i<x+1
 ·rw[if_pos h1,List.getElem?_append_left (by omega)]
  by_cases h2:i<x
  ·rw[if_pos h2,if_neg (Nat.not_lt_zero _),List.getElem?_append_left (by omega),List.getElem?_take_of_lt h2]
   try simp
  ·obtain rfl:i=x:=by omega
   rw[if_neg h2,List.getElem?_append_right (by omega),ht]
 ·rw[if_neg h1,List.getElem?_append_right (by omega),hl,List.getElem?_drop]
noncomputable def Eis(s:List UInt8)(L:List (List UInt8)):Senv:={ EC CM 47 2 [4,5,6,18,32] (fun _=>([],[])) with
 mg:=fun _=>2
 ann:=fun b _ S=>match b with
  |0=>some { slots:=[5],keep:=[0,1],α:=Nat,st:=fun i=>([.int .i64 (i:Nat)],S),inv:=fun i=>AtI s L i,mu:=fun i=>L.length-i }
  |_=>none }
def Qt0(a:List (List UInt8)):D:=D.sl N1 (LN a) (fun i=>[D.str (List.getD a i [])]) Mode.any
def Qay(a:Nat):Nat:=N0+(Int.toNat (↑a:Int)-N0)
def Qaz(a:Nat):Nat:=Qay a+N1
def QaA(a:Nat)(b:List (List UInt8)):Nat:=Qaz a+(TL b-Int.toNat (↑a:Int))
def QpR(a:Nat)(b:List (List UInt8))(c:List UInt8):Prop:=Bd (Z0<=Z0/\Z0<=(↑a:Int)/\(↑a:Int)<=(LI b)) (Bd (Qay a*16<=140737488355328/\Qay a<=9223372036854775807) (∀(t:Nat),SM t/\Bd (Qaz a*16<=140737488355328/\Qaz a<=9223372036854775807) (∀(t:Nat),Bd (Z0<=(↑a:Int)/\(↑a:Int)<=(LI b)/\(LI b)<=(LI b)) (SM t/\Bd (QaA a b*16<=140737488355328/\QaA a b<=9223372036854775807) (∀(_t:Nat),True/\QaA a b=LN (CC c b)/\(∀(i:Nat),i<QaA a b->wkL (Br (Qaz a) (Br (Qay a) (Br N0 (fun _x=>[]) fun i=>[D.str (List.getD b (N0+i) [])]) fun i=>[D.str (List.getD [c] i [])]) (fun i=>[D.str (List.getD b (Int.toNat (↑a:Int)+i) [])]) i) [D.str (List.getD (CC c b) i [])])/\True)))))
def QpS(a:Nat)(b:List (List UInt8))(c:List UInt8):Prop:=ifB (decide ((↑a:Int)<(LI b))) (Bd (Z0<=(↑a:Int)/\(↑a:Int)<(LI b)) (ifB (List.getD b (Int.toNat (↑a:Int)) []==c) (True/\LN b=LN (CC c b)/\(∀(i:Nat),i<LN b->List.getD b i []=List.getD (CC c b) i []/\True)/\True) (QpR a b c))) (QpR a b c)
theorem Bl4(s:List UInt8)(L:List (List UInt8))(hL:L.length<=1000000000):CD 62 [ssl L .any,.str s] (ssl (CC s L) .any):=by
 refine CD.ofW (CK (E:=Eis s L) (eOk BE rfl) Tryz.func62 rfl (by kernel_rfl) rfl (by simp[Eis,EC,E0]) ?_)
 refine Bj (T :=
  (∃(x:Nat),AtI s L x/\(Z0=(↑x:Int)/\True)/\True/\True)/\∀(x:Nat),AtI s L x->ifB (decide ((↑x:Int)<(LI L))) (Bd (Z0<=(↑x:Int)/\(↑x:Int)<(LI L)) (ifB (Op.bytesLess (List.getD L (Int.toNat (↑x:Int)) []) s) ((SM (Qt0 L)/\SM (D.str s)/\True)/\∃(y:Nat),AtI s L y/\LN L-y<LN L-x/\(IntKind.wrap IntKind.i64 ((↑x:Int)+Z1)=(↑y:Int)/\True)/\True/\True) (QpS x L s))) (QpS x L s)) (by kernel_rfl) ?_
 delta LI LN N0 N1 SM TL Z0 Z1 Qt0 Qay Qaz QaA QpR QpS
 simp only[eq_self,ne_eq,Int.toNat_natCast,Bh,Bf,decide_eq_true_eq,decide_eq_false_iff_not,true_and,and_true,beq_iff_eq,beq_eq_false_iff_ne,forall_const]
 refine⟨⟨0,AtI.zero s L,rfl⟩,fun x hI=>?_⟩
 have hle:=hI.le
 have new:(x<L.length->¬L.getD x []<s/\¬L.getD x []=s)->0+(x-0)+1+(L.length-x)=(CC s L).length/\∀i,i<0+(x-0)+1+(L.length-x)->wkL (Br (0+(x-0)+1) (Br (0+(x-0)) (Br 0 (fun _=>[]) fun i=>[D.str (L.getD (0+i) [])]) fun i=>[D.str ([s].getD i [])]) (fun i=>[D.str (L.getD (x+i) [])]) i) [D.str ((CC s L).getD i [])]:=fun hn=>by
  have e:=hI.new hn
  refine⟨by rw[e];simp;omega,fun i _=>?_⟩
  rw[Bjc e hle i]
  exact Bc _
 have less:Op.bytesLess (L.getD x []) s=true↔L.getD x []<s:=by rw[Go.Proofs.bytesLess_eq,decide_eq_true_iff]
 have less2:Op.bytesLess (L.getD x []) s=false↔¬L.getD x []<s:=by rw[Go.Proofs.bytesLess_eq,decide_eq_false_iff_not]
 have sz:∀k:Nat,k<=2000000000->k*16<=140737488355328/\k<=9223372036854775807:=fun k hk=>⟨by omega,by omega⟩
 refine⟨fun hlt=>⟨⟨by omega,hlt⟩,fun hb=>⟨x+1,hI.step (by omega) (less.1 hb),by omega,Be (by omega) (by omega)⟩,fun hb=>⟨fun _=>⟨⟨by omega,hlt⟩,fun he=>?_,fun he=>?_⟩,fun hg=>absurd hlt hg⟩⟩,fun hge=>⟨fun hlt=>absurd hlt hge,fun _=>?_⟩⟩
 ·rw[hI.here (by omega) he (less2.1 hb)]
  exact⟨rfl,fun _ _=>rfl⟩
 ·exact⟨⟨by omega,by omega,by omega⟩,sz _ (by omega),sz _ (by omega),⟨by omega,by omega,by omega⟩,sz _ (by omega),new fun _=>⟨less2.1 hb,he⟩⟩
 ·exact⟨⟨by omega,by omega,by omega⟩,sz _ (by omega),sz _ (by omega),⟨by omega,by omega,by omega⟩,sz _ (by omega),new fun h=>by omega⟩
def BgT(sc:Scp)(nm:List UInt8):Con:=fun k ds S=>match k with
 |61=>some (pA ds S (.tup [.int .i64 (lkA (Bp nm sc)).1,.int .i64 (lkA (Bp nm sc)).2.1,.int .i64 (lkA (Bp nm sc)).2.2.1,.bool (lkA (Bp nm sc)).2.2.2]) (ds=[.agg (scC sc),.str nm]))
 |62=>some (pE (β:=List (List UInt8)) ds S (fun L=>ssl (CC nm L) .any) (fun L=>ds=[ssl L .any,.str nm]/\L.length<=1000000000))
 |25=>some (pA ds S (.agg (scC ([]::sc))) (ds=[.agg (scC sc)]))
 |50=>some (pE (β:=Frm1×List UInt8×Int) ds S (fun x=>.agg (scC ((x.1++[(x.2.1,x.2.2)])::sc))) (fun x=>ds=[.agg (scC (x.1::sc)),.str x.2.1,.int .i64 x.2.2]/\x.1.length<=1000000))
 |36=>some (pE (β:=Scp×Nd×List (List UInt8)) ds S (fun x=>ssl (CY x.2.2 (fnN x.1 x.2.1)) .any) (fun x=>ds=[.agg (scC x.1),.agg x.2.1.row1,ssl x.2.2 .any]/\VQf x.1 x.2.1/\x.2.2.length+(fnN x.1 x.2.1).length<=1000000000))
 |_=>none
theorem BhZ{sc:Scp}(hs:sc.length<=1000000/\∀f∈sc,f.length<=1000000)(nm:List UInt8):ConOk Tryz.prog (BgT sc nm):=by
 intro k ds S A hh
 unfold BgT at hh
 split at hh
 ·injection hh with hh;subst hh
  exact Bs fun e=>by subst e;exact CD.at_ (Bl3 sc nm hs) _
 ·injection hh with hh;subst hh
  refine Cl fun L ⟨e,h⟩=>?_
  subst e
  exact CD.at_ (Bl4 nm L h) _
 ·injection hh with hh;subst hh
  exact Bs fun e=>by subst e;exact CD.at_ (Bka sc hs.1) _
 ·injection hh with hh;subst hh
  refine Cl fun x ⟨e,h⟩=>?_
  subst e
  exact CD.at_ (BlZ x.1 sc x.2.1 x.2.2 hs.1 h) _
 ·injection hh with hh;subst hh
  refine Cl fun x ⟨e,h1,h2⟩=>?_
  subst e
  exact CD.at_ (h1.down h2) _
 ·cases hh
noncomputable def Eqf(sc:Scp)(nm:List UInt8)(ki:List Nd)(bo:List Sm)(A:List (List UInt8)):Senv:={ EC (BgT sc nm) 104 5 [6,7,8,9,10,11,12,13,16,27,36,53,62,87] (fun id=>match id with | 8=>([0,1,2,3,4,5,6,7,8],[7]) | 14=>([0,1,2,3,4,5,6,7,8,9],[8]) | 15=>([0,1,2,3,4,5,6,7,8,9],[8]) | 17=>([0,1,2,3,4,5,6,7,8,9,10,11,12,13,14,15],[14,15]) | _=>([],[])) with
 ann:=fun b _env S=>match b with
  |0=>some { slots:=[11,2],keep:=[3,4],α:=Nat×List (List UInt8),st:=fun y=>([.int .i64 (y.1:Nat),ssl y.2 .any],S),inv:=fun y=>KQ sc ki (fnB sc [] bo) A y.1 y.2,mu:=fun y=>ki.length-y.1 }
  |2=>some { slots:=[13,2],keep:=[3,4,12],α:=Nat×List (List UInt8)×Frm1,st:=fun y=>([.int .i64 (y.1:Nat),ssl y.2.1 .any],⟨C5 S.objs 2 (.cells (scC (y.2.2::sc))),S.toks⟩),inv:=fun y=>BQ sc bo A y.1 y.2.1 y.2.2,mu:=fun y=>bo.length-y.1 }
  |_=>none }
def XN(a:Scp):D:=D.agg [D.sl N1 (LN a) (Cb a) Mode.any,D.sl N1 (LN a) (B8 a) Mode.any]
def Qt1(a:Scp)(b:List UInt8):List D:=[XN a,D.str b]
def YE(a:List (List UInt8))(b:Nat):List D:=[D.str (List.getD a b [])]
def QpT(a:List (List UInt8)):D:=D.sl N1 (LN a) (fun i=>YE a i) Mode.any
def QpU(a:List (List UInt8))(b:List UInt8):List D:=[QpT a,D.str b]
def J5(a:Scp)(b:List Nd)(c:List Sm)(d:List (List UInt8))(e:Nat)(f:List (List UInt8)):Prop:=KQ a b (fnB a [] c) d e f
def Ql(a:Arr):Nat:=LN (Arr.sh a)
def Qm(a:Arr):Nat:=LN (Arr.nu a)
def Qn(a:Arr):Nat:=LN (Arr.it a)
def Jw:Arr:=DA
def QM(a:Arr)(b:Nat):List D:=Arr.row (List.getD (Arr.it a) b Jw)
def Kc:Nd:=Nd.mk Z0 Z0 Z0 [] Z0 Z0 Jw [] [] Z0 Z0 Z0
def Jj(a:List Nd)(b:Nat):Nd:=List.getD a b Kc
def QaB(a:List Nd)(b:Nat):Arr:=Nd.va (Jj a b)
def Qt2(a:List Nd)(b:Nat):List Int:=Arr.sh (QaB a b)
def Qt3(a:List Nd)(b:Nat):List Int:=Arr.nu (QaB a b)
def QpV(a:List Nd)(b:Nat):List Arr:=Arr.it (QaB a b)
def QpW(a:List Nd)(b:Nat):List Nd:=Nd.ki (Jj a b)
def QpX(a:List Nd)(b:Nat):List Sm:=Nd.bo (Jj a b)
def Jy:Sm:=Sm.mk Z0 Z0 [] Z0 Kc Kc
def QN(a:List Nd)(b:Nat):List D:=[ZI (Nd.kd (Jj a b)),ZI (Nd.at_ (Jj a b)),ZI (Nd.cl (Jj a b)),D.str (Nd.tx (Jj a b)),ZI (Nd.pr (Jj a b)),ZI (Nd.op (Jj a b)),ZI (Arr.k (QaB a b)),SI (Qt2 a b),SI (Qt3 a b),D.sl N4 (LN (QpV a b)) (fun i=>Arr.row (List.getD (QpV a b) i Jw)) Mode.any,D.sl 15 (LN (QpW a b)) (fun i=>Nd.row (List.getD (QpW a b) i Kc)) Mode.any,D.sl 34 (LN (QpX a b)) (fun i=>Sm.row (List.getD (QpX a b) i Jy)) Mode.any,ZI (Nd.de (Jj a b)),ZI (Nd.sl (Jj a b)),ZI (Nd.ss (Jj a b))]
def QO(a:List Sm)(b:Nat):List D:=Sm.row1 (List.getD a b Jy)
def Qv(a:List Nd)(b:Nat):Nd:=List.getD a (Int.toNat (↑b:Int)) Kc
def XO(a:List Nd)(b:Nat):Arr:=Nd.va (Qv a b)
def QdX(a:List Nd)(b:Nat):List Int:=Arr.sh (XO a b)
def QdY(a:List Nd)(b:Nat):List Int:=Arr.nu (XO a b)
def XP(a:List Nd)(b:Nat):List Arr:=Arr.it (XO a b)
def XQ(a:List Nd)(b:Nat):List Nd:=Nd.ki (Qv a b)
def XR(a:List Nd)(b:Nat):List Sm:=Nd.bo (Qv a b)
def JK(a:List (List UInt8)):List D:=[QpT a]
def QaC(a:Nd):Arr:=Nd.va a
def Qt4(a:Nd):List Int:=Arr.sh (QaC a)
def Qt5(a:Nd):List Int:=Arr.nu (QaC a)
def QpY(a:Nd):List Arr:=Arr.it (QaC a)
def Jk(a:Scp)(b:Nd)(c:List (List UInt8)):List D:=XN a::D.agg [ZI (Nd.kd b),ZI (Nd.at_ b),ZI (Nd.cl b),D.str (Nd.tx b),ZI (Nd.pr b),ZI (Nd.op b),ZI (Arr.k (QaC b)),SI (Qt4 b),SI (Qt5 b),D.sl N4 (LN (QpY b)) (fun i=>Arr.row (List.getD (QpY b) i Jw)) Mode.any,D.sl 15 (LN (Nd.ki b)) (fun i=>Nd.row (List.getD (Nd.ki b) i Kc)) Mode.any,D.sl 34 (LN (Nd.bo b)) (fun i=>Sm.row (List.getD (Nd.bo b) i Jy)) Mode.any,ZI (Nd.de b),ZI (Nd.sl b),ZI (Nd.ss b)]::JK c
def Jl(a:Scp)(b:Nd)(c:List (List UInt8)):Prop:=VQf a b/\LN c+LN (fnN a b)<=1000000000
def QaD(a:Nat):Prop:=SM (D.ref (max (N0+N1) N0) a N0)
def YF(a:List (List UInt8))(b:Scp)(c:Nd):Nat:=LN (CY a (fnN b c))
def Q3(a b:Nat)(c:List (List UInt8))(d:Scp)(e:Nd)(f:List (List UInt8)):Prop:=IntKind.wrap IntKind.i64 ((↑a:Int)+Z1)=(↑b:Int)/\(YF c d e=LN f/\(∀(i:Nat),i<YF c d e->[D.str (List.getD (CY c (fnN d e)) i [])]=YE f i)/\True)/\True
def QdZ(a:Scp):List D:=[XN a]
def QaE(a b:List (List UInt8)):Prop:=LN a=LN b/\(∀(i:Nat),i<LN a->YE a i=YE b i)/\True
def YG(a:Nat)(b c:List (List UInt8)):Prop:=Z0=(↑a:Int)/\QaE b c/\True
def QP(a:Frm1)(b:Scp)(c:Nat):List D:=Cb (a::b) c
def QQ(a:Frm1)(b:Scp)(c:Nat):List D:=B8 (a::b) c
def J6(a:List Sm)(b:Nat):Sm:=List.getD a (Int.toNat (↑b:Int)) Jy
def J7(a:List Sm)(b:Nat):Int:=Sm.kd (J6 a b)
def QR(a:Frm1)(b:Scp):D:=D.agg [D.sl N1 (LN (a::b)) (Cb (a::b)) Mode.any,D.sl N1 (LN (a::b)) (B8 (a::b)) Mode.any]
def Qw(a:List Sm)(b:Nat):Nd:=Sm.te (J6 a b)
def XS(a:List Sm)(b:Nat):Arr:=Nd.va (Qw a b)
def Qd0(a:List Sm)(b:Nat):List Int:=Arr.sh (XS a b)
def Qd1(a:List Sm)(b:Nat):List Int:=Arr.nu (XS a b)
def XT(a:List Sm)(b:Nat):List Arr:=Arr.it (XS a b)
def XU(a:List Sm)(b:Nat):List Nd:=Nd.ki (Qw a b)
def XV(a:List Sm)(b:Nat):List Sm:=Nd.bo (Qw a b)
def Jm(a:List Sm)(b:Nat):Nd:=Sm.nd (J6 a b)
def VO(a:List Sm)(b:Nat):D:=ZI (Nd.cl (Jm a b))
def QaF(a:List Sm)(b:Nat):Arr:=Nd.va (Jm a b)
def Qt6(a:List Sm)(b:Nat):List Int:=Arr.sh (QaF a b)
def Qt7(a:List Sm)(b:Nat):List Int:=Arr.nu (QaF a b)
def QpZ(a:List Sm)(b:Nat):List Arr:=Arr.it (QaF a b)
def Qp0(a:List Sm)(b:Nat):List Nd:=Nd.ki (Jm a b)
def Qp1(a:List Sm)(b:Nat):List Sm:=Nd.bo (Jm a b)
def XW(a:List Sm)(b:Nat):D:=D.agg [ZI (Nd.kd (Jm a b)),ZI (Nd.at_ (Jm a b)),VO a b,D.str (Nd.tx (Jm a b)),ZI (Nd.pr (Jm a b)),ZI (Nd.op (Jm a b)),ZI (Arr.k (QaF a b)),SI (Qt6 a b),SI (Qt7 a b),D.sl N4 (LN (QpZ a b)) (fun i=>Arr.row (List.getD (QpZ a b) i Jw)) Mode.any,D.sl 15 (LN (Qp0 a b)) (fun i=>Nd.row (List.getD (Qp0 a b) i Kc)) Mode.any,D.sl 34 (LN (Qp1 a b)) (fun i=>Sm.row (List.getD (Qp1 a b) i Jy)) Mode.any,ZI (Nd.de (Jm a b)),ZI (Nd.sl (Jm a b)),ZI (Nd.ss (Jm a b))]
def Jn(a b c:Nat):Prop:=SM (D.ref N0 a N0)/\QaD b/\SM (D.ref (max (N1+N1) (max (N0+N1) N0)) c N0)/\True
theorem Bjv(sc : Scp)(kd at_ cl : Int)(tx : List UInt8)(pr op : Int)(va : Arr)(ki : List Nd)(bo : List Sm)(de sl ss : Int)(L : List (List UInt8))(A : List (List UInt8))(hA : A=CY L (fnN sc (.mk kd at_ cl tx pr op va ki bo de sl ss)))(hL : L.length+(fnN sc (.mk kd at_ cl tx pr op va ki bo de sl ss)).length<=1000000000)
  (hs:sc.length<=900000/\∀f∈sc,f.length<=1000000) (hki:ki.length<=1000000) (hbo:bo.length<=900000) (hn:∀b∈ki,VQf sc b) (hb:∀f,f.length<=bo.length->∀s∈bo,(s.kd=3->VQf (f::sc) s.te)/\VQf (f::sc) s.nd) :
  CD 36 [.agg (scC sc),.agg [.int .i64 kd,.int .i64 at_,.int .i64 cl,.str tx,.int .i64 pr,.int .i64 op,.int .i64 va.k,isl va.sh .any,isl va.nu .any,gsl 4 Arr.row va.it,gsl 15 Nd.row1 ki,gsl 34 Sm.row1 bo,.int .i64 de,.int .i64 sl,.int .i64 ss],ssl L .any] (ssl A .any):=by
 refine Bi (A:=sC _ _) (x:=()) (E:=Eqf sc tx ki bo A) (eOk (BhZ ⟨by omega,hs.2⟩ tx) rfl) Tryz.func36 rfl (by kernel_rfl) rfl (by simp[sC,Eqf,EC,E0]) ?_
 refine Bj (T :=
  ∀(x:Nat),True->∀(x_1:Nat),x≠x_1/\True->SM x_1/\ifB (kd==2) (SM x/\SM x_1/\∃(x_2:Unit),SM (Qt1 sc tx)/\∀(y:Unit),True->ifB (!Prod.snd (Prod.snd (Prod.snd (lkA (Bp tx sc))))) (SM x_1/\∃(x_3:List (List UInt8)),(QpU L tx=QpU x_3 tx/\LN x_3<=1000000000)/\∀(y:Unit),True->(∃(x_4:Nat×List (List UInt8)),J5 sc ki bo A x_4.1 x_4.2/\(Z0=(NI x_4.1)/\(LN (CC tx x_3)=LN x_4.2/\(∀(i:Nat),i<LN (CC tx x_3)->[D.str (List.getD (CC tx x_3) i [])]=YE x_4.2 i)/\True)/\True)/\(SM x_1/\(SM kd/\SM at_/\SM cl/\SM tx/\SM pr/\SM op/\SM (Arr.k va)/\(SM (Ql va)/\(∀(i:Nat),i<Ql va->SM [ZI (GI (Arr.sh va) i)])/\True)/\(SM (Qm va)/\(∀(i:Nat),i<Qm va->SM [ZI (GI (Arr.nu va) i)])/\True)/\(SM (Qn va)/\(∀(i:Nat),i<Qn va->SM (QM va i))/\True)/\(SM (LN ki)/\(∀(i:Nat),i<LN ki->SM (QN ki i))/\True)/\(SM (LN bo)/\(∀(i:Nat),i<LN bo->SM (QO bo i))/\True)/\SM de/\SM sl/\SM ss/\True)/\SM x/\((SM (LN sc)/\(∀(i:Nat),i<LN sc->SM (Cb sc i))/\True)/\(SM (LN sc)/\(∀(i:Nat),i<LN sc->SM (B8 sc i))/\True)/\True)/\True)/\True)/\∀(x_4:Nat×List (List UInt8)),J5 sc ki bo A x_4.1 x_4.2->SM x_1/\ifB (decide ((NI x_4.1)<(LI ki))) (SM x/\SM x_1/\Bd (Z0<=(NI x_4.1)/\(NI x_4.1)<(LI ki)) (∃(x_5:Scp×Nd×List (List UInt8)),(XN sc::D.agg [ZI (Nd.kd (Qv ki x_4.1)),ZI (Nd.at_ (Qv ki x_4.1)),ZI (Nd.cl (Qv ki x_4.1)),D.str (Nd.tx (Qv ki x_4.1)),ZI (Nd.pr (Qv ki x_4.1)),ZI (Nd.op (Qv ki x_4.1)),ZI (Arr.k (XO ki x_4.1)),SI (QdX ki x_4.1),SI (QdY ki x_4.1),D.sl N4 (LN (XP ki x_4.1)) (fun i=>Arr.row (List.getD (XP ki x_4.1) i Jw)) Mode.any,D.sl 15 (LN (XQ ki x_4.1)) (fun i=>Nd.row (List.getD (XQ ki x_4.1) i Kc)) Mode.any,D.sl 34 (LN (XR ki x_4.1)) (fun i=>Sm.row (List.getD (XR ki x_4.1) i Jy)) Mode.any,ZI (Nd.de (Qv ki x_4.1)),ZI (Nd.sl (Qv ki x_4.1)),ZI (Nd.ss (Qv ki x_4.1))]::JK x_4.2=Jk x_5.1 x_5.2.1 x_5.2.2/\Jl x_5.1 x_5.2.1 x_5.2.2)/\∀(y:Unit),True->(SM (D.ref N0 x N0)/\QaD x_1/\True)/\∃(y:Nat×List (List UInt8)),J5 sc ki bo A y.1 y.2/\LN ki-y.1<LN ki-x_4.1/\Q3 x_4.1 y.1 x_5.2.2 x_5.1 x_5.2.1 y.2/\(SM x_1/\(SM kd/\SM at_/\SM cl/\SM tx/\SM pr/\SM op/\SM (Arr.k va)/\(SM (Ql va)/\(∀(i:Nat),i<Ql va->SM [ZI (GI (Arr.sh va) i)])/\True)/\(SM (Qm va)/\(∀(i:Nat),i<Qm va->SM [ZI (GI (Arr.nu va) i)])/\True)/\(SM (Qn va)/\(∀(i:Nat),i<Qn va->SM (QM va i))/\True)/\(SM (LN ki)/\(∀(i:Nat),i<LN ki->SM (QN ki i))/\True)/\(SM (LN bo)/\(∀(i:Nat),i<LN bo->SM (QO bo i))/\True)/\SM de/\SM sl/\SM ss/\True)/\SM x/\((SM (LN sc)/\(∀(i:Nat),i<LN sc->SM (Cb sc i))/\True)/\(SM (LN sc)/\(∀(i:Nat),i<LN sc->SM (B8 sc i))/\True)/\True)/\True)/\True)) (SM x/\∃(x_5:Unit),SM (QdZ sc)/\∀(y:Unit),True->∀(x_6:Nat),x_1≠x_6/\x≠x_6/\True->SM x_6/\(∃(x_7:Nat×List (List UInt8)×Frm1),BQ sc bo A x_7.1 x_7.2.1 x_7.2.2/\YG x_7.1 x_4.2 x_7.2.1/\(SM x_6/\((LN ([]::sc)=LN (x_7.2.2::sc)/\(∀(i:Nat),i<LN ([]::sc)->Cb ([]::sc) i=QP x_7.2.2 sc i)/\True)/\(LN ([]::sc)=LN (x_7.2.2::sc)/\(∀(i:Nat),i<LN ([]::sc)->B8 ([]::sc) i=QQ x_7.2.2 sc i)/\True)/\True)/\SM x_1/\(SM kd/\SM at_/\SM cl/\SM tx/\SM pr/\SM op/\SM (Arr.k va)/\(SM (Ql va)/\(∀(i:Nat),i<Ql va->SM [ZI (GI (Arr.sh va) i)])/\True)/\(SM (Qm va)/\(∀(i:Nat),i<Qm va->SM [ZI (GI (Arr.nu va) i)])/\True)/\(SM (Qn va)/\(∀(i:Nat),i<Qn va->SM (QM va i))/\True)/\(SM (LN ki)/\(∀(i:Nat),i<LN ki->SM (QN ki i))/\True)/\(SM (LN bo)/\(∀(i:Nat),i<LN bo->SM (QO bo i))/\True)/\SM de/\SM sl/\SM ss/\True)/\SM x/\((SM (LN sc)/\(∀(i:Nat),i<LN sc->SM (Cb sc i))/\True)/\(SM (LN sc)/\(∀(i:Nat),i<LN sc->SM (B8 sc i))/\True)/\True)/\True)/\True)/\∀(x_7:Nat×List (List UInt8)×Frm1),BQ sc bo A x_7.1 x_7.2.1 x_7.2.2->SM x_1/\ifB (decide ((NI x_7.1)<(LI bo))) (SM x_1/\Bd (Z0<=(NI x_7.1)/\(NI x_7.1)<(LI bo)) (ifB (J7 bo x_7.1==3) (SM x_6/\SM x_1/\Bd (Z0<=(NI x_7.1)/\(NI x_7.1)<(LI bo)) (∃(x_8:Scp×Nd×List (List UInt8)),(QR x_7.2.2 sc::D.agg [ZI (Nd.kd (Qw bo x_7.1)),ZI (Nd.at_ (Qw bo x_7.1)),ZI (Nd.cl (Qw bo x_7.1)),D.str (Nd.tx (Qw bo x_7.1)),ZI (Nd.pr (Qw bo x_7.1)),ZI (Nd.op (Qw bo x_7.1)),ZI (Arr.k (XS bo x_7.1)),SI (Qd0 bo x_7.1),SI (Qd1 bo x_7.1),D.sl N4 (LN (XT bo x_7.1)) (fun i=>Arr.row (List.getD (XT bo x_7.1) i Jw)) Mode.any,D.sl 15 (LN (XU bo x_7.1)) (fun i=>Nd.row (List.getD (XU bo x_7.1) i Kc)) Mode.any,D.sl 34 (LN (XV bo x_7.1)) (fun i=>Sm.row (List.getD (XV bo x_7.1) i Jy)) Mode.any,ZI (Nd.de (Qw bo x_7.1)),ZI (Nd.sl (Qw bo x_7.1)),ZI (Nd.ss (Qw bo x_7.1))]::JK x_7.2.1=Jk x_8.1 x_8.2.1 x_8.2.2/\Jl x_8.1 x_8.2.1 x_8.2.2)/\∀(y:Unit),True->SM x_6/\SM x_1/\Bd (Z0<=(NI x_7.1)/\(NI x_7.1)<(LI bo)) (∃(x_9:Scp×Nd×List (List UInt8)),([QR x_7.2.2 sc,XW bo x_7.1,D.sl N1 (YF x_8.2.2 x_8.1 x_8.2.1) (fun i=>[D.str (List.getD (CY x_8.2.2 (fnN x_8.1 x_8.2.1)) i [])]) Mode.any]=Jk x_9.1 x_9.2.1 x_9.2.2/\Jl x_9.1 x_9.2.1 x_9.2.2)/\∀(y:Unit),True->SM x_1/\Bd (Z0<=(NI x_7.1)/\(NI x_7.1)<(LI bo)) (ifB (J7 bo x_7.1==2) (SM x_6/\SM x_1/\Bd (Z0<=(NI x_7.1)/\(NI x_7.1)<(LI bo)) (SM x_1/\Bd (Z0<=(NI x_7.1)/\(NI x_7.1)<(LI bo)) (∃(x_10:Frm1×List UInt8×Int),([QR x_7.2.2 sc,D.str (Sm.nm (J6 bo x_7.1)),VO bo x_7.1]=[QR x_10.1 sc,D.str x_10.2.1,ZI x_10.2.2]/\LN x_10.1<=1000000)/\∀(y:Unit),True->SM x_6/\Jn x x_1 x_6/\∃(y:Nat×List (List UInt8)×Frm1),BQ sc bo A y.1 y.2.1 y.2.2/\LN bo-y.1<LN bo-x_7.1/\Q3 x_7.1 y.1 x_9.2.2 x_9.1 x_9.2.1 y.2.1/\(SM x_6/\((LN ((x_10.1++[(x_10.2.1,x_10.2.2)])::sc)=LN (y.2.2::sc)/\(∀(i:Nat),i<LN ((x_10.1++[(x_10.2.1,x_10.2.2)])::sc)->Cb ((x_10.1++[(x_10.2.1,x_10.2.2)])::sc) i=QP y.2.2 sc i)/\True)/\(LN ((x_10.1++[(x_10.2.1,x_10.2.2)])::sc)=LN (y.2.2::sc)/\(∀(i:Nat),i<LN ((x_10.1++[(x_10.2.1,x_10.2.2)])::sc)->B8 ((x_10.1++[(x_10.2.1,x_10.2.2)])::sc) i=QQ y.2.2 sc i)/\True)/\True)/\SM x_1/\(SM kd/\SM at_/\SM cl/\SM tx/\SM pr/\SM op/\SM (Arr.k va)/\(SM (Ql va)/\(∀(i:Nat),i<Ql va->SM [ZI (GI (Arr.sh va) i)])/\True)/\(SM (Qm va)/\(∀(i:Nat),i<Qm va->SM [ZI (GI (Arr.nu va) i)])/\True)/\(SM (Qn va)/\(∀(i:Nat),i<Qn va->SM (QM va i))/\True)/\(SM (LN ki)/\(∀(i:Nat),i<LN ki->SM (QN ki i))/\True)/\(SM (LN bo)/\(∀(i:Nat),i<LN bo->SM (QO bo i))/\True)/\SM de/\SM sl/\SM ss/\True)/\SM x/\((SM (LN sc)/\(∀(i:Nat),i<LN sc->SM (Cb sc i))/\True)/\(SM (LN sc)/\(∀(i:Nat),i<LN sc->SM (B8 sc i))/\True)/\True)/\True)/\True))) (Jn x x_1 x_6/\∃(y:Nat×List (List UInt8)×Frm1),BQ sc bo A y.1 y.2.1 y.2.2/\LN bo-y.1<LN bo-x_7.1/\Q3 x_7.1 y.1 x_9.2.2 x_9.1 x_9.2.1 y.2.1/\(SM x_6/\((LN (x_7.2.2::sc)=LN (y.2.2::sc)/\(∀(i:Nat),i<LN (x_7.2.2::sc)->QP x_7.2.2 sc i=QP y.2.2 sc i)/\True)/\(LN (x_7.2.2::sc)=LN (y.2.2::sc)/\(∀(i:Nat),i<LN (x_7.2.2::sc)->QQ x_7.2.2 sc i=QQ y.2.2 sc i)/\True)/\True)/\SM x_1/\(SM kd/\SM at_/\SM cl/\SM tx/\SM pr/\SM op/\SM (Arr.k va)/\(SM (Ql va)/\(∀(i:Nat),i<Ql va->SM [ZI (GI (Arr.sh va) i)])/\True)/\(SM (Qm va)/\(∀(i:Nat),i<Qm va->SM [ZI (GI (Arr.nu va) i)])/\True)/\(SM (Qn va)/\(∀(i:Nat),i<Qn va->SM (QM va i))/\True)/\(SM (LN ki)/\(∀(i:Nat),i<LN ki->SM (QN ki i))/\True)/\(SM (LN bo)/\(∀(i:Nat),i<LN bo->SM (QO bo i))/\True)/\SM de/\SM sl/\SM ss/\True)/\SM x/\((SM (LN sc)/\(∀(i:Nat),i<LN sc->SM (Cb sc i))/\True)/\(SM (LN sc)/\(∀(i:Nat),i<LN sc->SM (B8 sc i))/\True)/\True)/\True)/\True))))) (SM x_6/\SM x_1/\Bd (Z0<=(NI x_7.1)/\(NI x_7.1)<(LI bo)) (∃(x_8:Scp×Nd×List (List UInt8)),(QR x_7.2.2 sc::XW bo x_7.1::JK x_7.2.1=Jk x_8.1 x_8.2.1 x_8.2.2/\Jl x_8.1 x_8.2.1 x_8.2.2)/\∀(y:Unit),True->SM x_1/\Bd (Z0<=(NI x_7.1)/\(NI x_7.1)<(LI bo)) (ifB (J7 bo x_7.1==2) (SM x_6/\SM x_1/\Bd (Z0<=(NI x_7.1)/\(NI x_7.1)<(LI bo)) (SM x_1/\Bd (Z0<=(NI x_7.1)/\(NI x_7.1)<(LI bo)) (∃(x_9:Frm1×List UInt8×Int),([QR x_7.2.2 sc,D.str (Sm.nm (J6 bo x_7.1)),VO bo x_7.1]=[QR x_9.1 sc,D.str x_9.2.1,ZI x_9.2.2]/\LN x_9.1<=1000000)/\∀(y:Unit),True->SM x_6/\Jn x x_1 x_6/\∃(y:Nat×List (List UInt8)×Frm1),BQ sc bo A y.1 y.2.1 y.2.2/\LN bo-y.1<LN bo-x_7.1/\Q3 x_7.1 y.1 x_8.2.2 x_8.1 x_8.2.1 y.2.1/\(SM x_6/\((LN ((x_9.1++[(x_9.2.1,x_9.2.2)])::sc)=LN (y.2.2::sc)/\(∀(i:Nat),i<LN ((x_9.1++[(x_9.2.1,x_9.2.2)])::sc)->Cb ((x_9.1++[(x_9.2.1,x_9.2.2)])::sc) i=QP y.2.2 sc i)/\True)/\(LN ((x_9.1++[(x_9.2.1,x_9.2.2)])::sc)=LN (y.2.2::sc)/\(∀(i:Nat),i<LN ((x_9.1++[(x_9.2.1,x_9.2.2)])::sc)->B8 ((x_9.1++[(x_9.2.1,x_9.2.2)])::sc) i=QQ y.2.2 sc i)/\True)/\True)/\SM x_1/\(SM kd/\SM at_/\SM cl/\SM tx/\SM pr/\SM op/\SM (Arr.k va)/\(SM (Ql va)/\(∀(i:Nat),i<Ql va->SM [ZI (GI (Arr.sh va) i)])/\True)/\(SM (Qm va)/\(∀(i:Nat),i<Qm va->SM [ZI (GI (Arr.nu va) i)])/\True)/\(SM (Qn va)/\(∀(i:Nat),i<Qn va->SM (QM va i))/\True)/\(SM (LN ki)/\(∀(i:Nat),i<LN ki->SM (QN ki i))/\True)/\(SM (LN bo)/\(∀(i:Nat),i<LN bo->SM (QO bo i))/\True)/\SM de/\SM sl/\SM ss/\True)/\SM x/\((SM (LN sc)/\(∀(i:Nat),i<LN sc->SM (Cb sc i))/\True)/\(SM (LN sc)/\(∀(i:Nat),i<LN sc->SM (B8 sc i))/\True)/\True)/\True)/\True))) (Jn x x_1 x_6/\∃(y:Nat×List (List UInt8)×Frm1),BQ sc bo A y.1 y.2.1 y.2.2/\LN bo-y.1<LN bo-x_7.1/\Q3 x_7.1 y.1 x_8.2.2 x_8.1 x_8.2.1 y.2.1/\(SM x_6/\((LN (x_7.2.2::sc)=LN (y.2.2::sc)/\(∀(i:Nat),i<LN (x_7.2.2::sc)->QP x_7.2.2 sc i=QP y.2.2 sc i)/\True)/\(LN (x_7.2.2::sc)=LN (y.2.2::sc)/\(∀(i:Nat),i<LN (x_7.2.2::sc)->QQ x_7.2.2 sc i=QQ y.2.2 sc i)/\True)/\True)/\SM x_1/\(SM kd/\SM at_/\SM cl/\SM tx/\SM pr/\SM op/\SM (Arr.k va)/\(SM (Ql va)/\(∀(i:Nat),i<Ql va->SM [ZI (GI (Arr.sh va) i)])/\True)/\(SM (Qm va)/\(∀(i:Nat),i<Qm va->SM [ZI (GI (Arr.nu va) i)])/\True)/\(SM (Qn va)/\(∀(i:Nat),i<Qn va->SM (QM va i))/\True)/\(SM (LN ki)/\(∀(i:Nat),i<LN ki->SM (QN ki i))/\True)/\(SM (LN bo)/\(∀(i:Nat),i<LN bo->SM (QO bo i))/\True)/\SM de/\SM sl/\SM ss/\True)/\SM x/\((SM (LN sc)/\(∀(i:Nat),i<LN sc->SM (Cb sc i))/\True)/\(SM (LN sc)/\(∀(i:Nat),i<LN sc->SM (B8 sc i))/\True)/\True)/\True)/\True)))))) (RT (QaE x_7.2.1 A)))) ((∃(x_3:Nat×List (List UInt8)),J5 sc ki bo A x_3.1 x_3.2/\YG x_3.1 L x_3.2/\(SM x_1/\(SM kd/\SM at_/\SM cl/\SM tx/\SM pr/\SM op/\SM (Arr.k va)/\(SM (Ql va)/\(∀(i:Nat),i<Ql va->SM [ZI (GI (Arr.sh va) i)])/\True)/\(SM (Qm va)/\(∀(i:Nat),i<Qm va->SM [ZI (GI (Arr.nu va) i)])/\True)/\(SM (Qn va)/\(∀(i:Nat),i<Qn va->SM (QM va i))/\True)/\(SM (LN ki)/\(∀(i:Nat),i<LN ki->SM (QN ki i))/\True)/\(SM (LN bo)/\(∀(i:Nat),i<LN bo->SM (QO bo i))/\True)/\SM de/\SM sl/\SM ss/\True)/\SM x/\((SM (LN sc)/\(∀(i:Nat),i<LN sc->SM (Cb sc i))/\True)/\(SM (LN sc)/\(∀(i:Nat),i<LN sc->SM (B8 sc i))/\True)/\True)/\True)/\True)/\∀(x_3:Nat×List (List UInt8)),J5 sc ki bo A x_3.1 x_3.2->SM x_1/\ifB (decide ((NI x_3.1)<(LI ki))) (SM x/\SM x_1/\Bd (Z0<=(NI x_3.1)/\(NI x_3.1)<(LI ki)) (∃(x_4:Scp×Nd×List (List UInt8)),(XN sc::D.agg [ZI (Nd.kd (Qv ki x_3.1)),ZI (Nd.at_ (Qv ki x_3.1)),ZI (Nd.cl (Qv ki x_3.1)),D.str (Nd.tx (Qv ki x_3.1)),ZI (Nd.pr (Qv ki x_3.1)),ZI (Nd.op (Qv ki x_3.1)),ZI (Arr.k (XO ki x_3.1)),SI (QdX ki x_3.1),SI (QdY ki x_3.1),D.sl N4 (LN (XP ki x_3.1)) (fun i=>Arr.row (List.getD (XP ki x_3.1) i Jw)) Mode.any,D.sl 15 (LN (XQ ki x_3.1)) (fun i=>Nd.row (List.getD (XQ ki x_3.1) i Kc)) Mode.any,D.sl 34 (LN (XR ki x_3.1)) (fun i=>Sm.row (List.getD (XR ki x_3.1) i Jy)) Mode.any,ZI (Nd.de (Qv ki x_3.1)),ZI (Nd.sl (Qv ki x_3.1)),ZI (Nd.ss (Qv ki x_3.1))]::JK x_3.2=Jk x_4.1 x_4.2.1 x_4.2.2/\Jl x_4.1 x_4.2.1 x_4.2.2)/\∀(y:Unit),True->(SM (D.ref N0 x N0)/\QaD x_1/\True)/\∃(y:Nat×List (List UInt8)),J5 sc ki bo A y.1 y.2/\LN ki-y.1<LN ki-x_3.1/\Q3 x_3.1 y.1 x_4.2.2 x_4.1 x_4.2.1 y.2/\(SM x_1/\(SM kd/\SM at_/\SM cl/\SM tx/\SM pr/\SM op/\SM (Arr.k va)/\(SM (Ql va)/\(∀(i:Nat),i<Ql va->SM [ZI (GI (Arr.sh va) i)])/\True)/\(SM (Qm va)/\(∀(i:Nat),i<Qm va->SM [ZI (GI (Arr.nu va) i)])/\True)/\(SM (Qn va)/\(∀(i:Nat),i<Qn va->SM (QM va i))/\True)/\(SM (LN ki)/\(∀(i:Nat),i<LN ki->SM (QN ki i))/\True)/\(SM (LN bo)/\(∀(i:Nat),i<LN bo->SM (QO bo i))/\True)/\SM de/\SM sl/\SM ss/\True)/\SM x/\((SM (LN sc)/\(∀(i:Nat),i<LN sc->SM (Cb sc i))/\True)/\(SM (LN sc)/\(∀(i:Nat),i<LN sc->SM (B8 sc i))/\True)/\True)/\True)/\True)) (SM x/\∃(x_4:Unit),SM (QdZ sc)/\∀(y:Unit),True->∀(x_5:Nat),x_1≠x_5/\x≠x_5/\True->SM x_5/\(∃(x_6:Nat×List (List UInt8)×Frm1),BQ sc bo A x_6.1 x_6.2.1 x_6.2.2/\YG x_6.1 x_3.2 x_6.2.1/\(SM x_5/\((LN ([]::sc)=LN (x_6.2.2::sc)/\(∀(i:Nat),i<LN ([]::sc)->Cb ([]::sc) i=QP x_6.2.2 sc i)/\True)/\(LN ([]::sc)=LN (x_6.2.2::sc)/\(∀(i:Nat),i<LN ([]::sc)->B8 ([]::sc) i=QQ x_6.2.2 sc i)/\True)/\True)/\SM x_1/\(SM kd/\SM at_/\SM cl/\SM tx/\SM pr/\SM op/\SM (Arr.k va)/\(SM (Ql va)/\(∀(i:Nat),i<Ql va->SM [ZI (GI (Arr.sh va) i)])/\True)/\(SM (Qm va)/\(∀(i:Nat),i<Qm va->SM [ZI (GI (Arr.nu va) i)])/\True)/\(SM (Qn va)/\(∀(i:Nat),i<Qn va->SM (QM va i))/\True)/\(SM (LN ki)/\(∀(i:Nat),i<LN ki->SM (QN ki i))/\True)/\(SM (LN bo)/\(∀(i:Nat),i<LN bo->SM (QO bo i))/\True)/\SM de/\SM sl/\SM ss/\True)/\SM x/\((SM (LN sc)/\(∀(i:Nat),i<LN sc->SM (Cb sc i))/\True)/\(SM (LN sc)/\(∀(i:Nat),i<LN sc->SM (B8 sc i))/\True)/\True)/\True)/\True)/\∀(x_6:Nat×List (List UInt8)×Frm1),BQ sc bo A x_6.1 x_6.2.1 x_6.2.2->SM x_1/\ifB (decide ((NI x_6.1)<(LI bo))) (SM x_1/\Bd (Z0<=(NI x_6.1)/\(NI x_6.1)<(LI bo)) (ifB (J7 bo x_6.1==3) (SM x_5/\SM x_1/\Bd (Z0<=(NI x_6.1)/\(NI x_6.1)<(LI bo)) (∃(x_7:Scp×Nd×List (List UInt8)),(QR x_6.2.2 sc::D.agg [ZI (Nd.kd (Qw bo x_6.1)),ZI (Nd.at_ (Qw bo x_6.1)),ZI (Nd.cl (Qw bo x_6.1)),D.str (Nd.tx (Qw bo x_6.1)),ZI (Nd.pr (Qw bo x_6.1)),ZI (Nd.op (Qw bo x_6.1)),ZI (Arr.k (XS bo x_6.1)),SI (Qd0 bo x_6.1),SI (Qd1 bo x_6.1),D.sl N4 (LN (XT bo x_6.1)) (fun i=>Arr.row (List.getD (XT bo x_6.1) i Jw)) Mode.any,D.sl 15 (LN (XU bo x_6.1)) (fun i=>Nd.row (List.getD (XU bo x_6.1) i Kc)) Mode.any,D.sl 34 (LN (XV bo x_6.1)) (fun i=>Sm.row (List.getD (XV bo x_6.1) i Jy)) Mode.any,ZI (Nd.de (Qw bo x_6.1)),ZI (Nd.sl (Qw bo x_6.1)),ZI (Nd.ss (Qw bo x_6.1))]::JK x_6.2.1=Jk x_7.1 x_7.2.1 x_7.2.2/\Jl x_7.1 x_7.2.1 x_7.2.2)/\∀(y:Unit),True->SM x_5/\SM x_1/\Bd (Z0<=(NI x_6.1)/\(NI x_6.1)<(LI bo)) (∃(x_8:Scp×Nd×List (List UInt8)),([QR x_6.2.2 sc,XW bo x_6.1,D.sl N1 (YF x_7.2.2 x_7.1 x_7.2.1) (fun i=>[D.str (List.getD (CY x_7.2.2 (fnN x_7.1 x_7.2.1)) i [])]) Mode.any]=Jk x_8.1 x_8.2.1 x_8.2.2/\Jl x_8.1 x_8.2.1 x_8.2.2)/\∀(y:Unit),True->SM x_1/\Bd (Z0<=(NI x_6.1)/\(NI x_6.1)<(LI bo)) (ifB (J7 bo x_6.1==2) (SM x_5/\SM x_1/\Bd (Z0<=(NI x_6.1)/\(NI x_6.1)<(LI bo)) (SM x_1/\Bd (Z0<=(NI x_6.1)/\(NI x_6.1)<(LI bo)) (∃(x_9:Frm1×List UInt8×Int),([QR x_6.2.2 sc,D.str (Sm.nm (J6 bo x_6.1)),VO bo x_6.1]=[QR x_9.1 sc,D.str x_9.2.1,ZI x_9.2.2]/\LN x_9.1<=1000000)/\∀(y:Unit),True->SM x_5/\Jn x x_1 x_5/\∃(y:Nat×List (List UInt8)×Frm1),BQ sc bo A y.1 y.2.1 y.2.2/\LN bo-y.1<LN bo-x_6.1/\Q3 x_6.1 y.1 x_8.2.2 x_8.1 x_8.2.1 y.2.1/\(SM x_5/\((LN ((x_9.1++[(x_9.2.1,x_9.2.2)])::sc)=LN (y.2.2::sc)/\(∀(i:Nat),i<LN ((x_9.1++[(x_9.2.1,x_9.2.2)])::sc)->Cb ((x_9.1++[(x_9.2.1,x_9.2.2)])::sc) i=QP y.2.2 sc i)/\True)/\(LN ((x_9.1++[(x_9.2.1,x_9.2.2)])::sc)=LN (y.2.2::sc)/\(∀(i:Nat),i<LN ((x_9.1++[(x_9.2.1,x_9.2.2)])::sc)->B8 ((x_9.1++[(x_9.2.1,x_9.2.2)])::sc) i=QQ y.2.2 sc i)/\True)/\True)/\SM x_1/\(SM kd/\SM at_/\SM cl/\SM tx/\SM pr/\SM op/\SM (Arr.k va)/\(SM (Ql va)/\(∀(i:Nat),i<Ql va->SM [ZI (GI (Arr.sh va) i)])/\True)/\(SM (Qm va)/\(∀(i:Nat),i<Qm va->SM [ZI (GI (Arr.nu va) i)])/\True)/\(SM (Qn va)/\(∀(i:Nat),i<Qn va->SM (QM va i))/\True)/\(SM (LN ki)/\(∀(i:Nat),i<LN ki->SM (QN ki i))/\True)/\(SM (LN bo)/\(∀(i:Nat),i<LN bo->SM (QO bo i))/\True)/\SM de/\SM sl/\SM ss/\True)/\SM x/\((SM (LN sc)/\(∀(i:Nat),i<LN sc->SM (Cb sc i))/\True)/\(SM (LN sc)/\(∀(i:Nat),i<LN sc->SM (B8 sc i))/\True)/\True)/\True)/\True))) (Jn x x_1 x_5/\∃(y:Nat×List (List UInt8)×Frm1),BQ sc bo A y.1 y.2.1 y.2.2/\LN bo-y.1<LN bo-x_6.1/\Q3 x_6.1 y.1 x_8.2.2 x_8.1 x_8.2.1 y.2.1/\(SM x_5/\((LN (x_6.2.2::sc)=LN (y.2.2::sc)/\(∀(i:Nat),i<LN (x_6.2.2::sc)->QP x_6.2.2 sc i=QP y.2.2 sc i)/\True)/\(LN (x_6.2.2::sc)=LN (y.2.2::sc)/\(∀(i:Nat),i<LN (x_6.2.2::sc)->QQ x_6.2.2 sc i=QQ y.2.2 sc i)/\True)/\True)/\SM x_1/\(SM kd/\SM at_/\SM cl/\SM tx/\SM pr/\SM op/\SM (Arr.k va)/\(SM (Ql va)/\(∀(i:Nat),i<Ql va->SM [ZI (GI (Arr.sh va) i)])/\True)/\(SM (Qm va)/\(∀(i:Nat),i<Qm va->SM [ZI (GI (Arr.nu va) i)])/\True)/\(SM (Qn va)/\(∀(i:Nat),i<Qn va->SM (QM va i))/\True)/\(SM (LN ki)/\(∀(i:Nat),i<LN ki->SM (QN ki i))/\True)/\(SM (LN bo)/\(∀(i:Nat),i<LN bo->SM (QO bo i))/\True)/\SM de/\SM sl/\SM ss/\True)/\SM x/\((SM (LN sc)/\(∀(i:Nat),i<LN sc->SM (Cb sc i))/\True)/\(SM (LN sc)/\(∀(i:Nat),i<LN sc->SM (B8 sc i))/\True)/\True)/\True)/\True))))) (SM x_5/\SM x_1/\Bd (Z0<=(NI x_6.1)/\(NI x_6.1)<(LI bo)) (∃(x_7:Scp×Nd×List (List UInt8)),(QR x_6.2.2 sc::XW bo x_6.1::JK x_6.2.1=Jk x_7.1 x_7.2.1 x_7.2.2/\Jl x_7.1 x_7.2.1 x_7.2.2)/\∀(y:Unit),True->SM x_1/\Bd (Z0<=(NI x_6.1)/\(NI x_6.1)<(LI bo)) (ifB (J7 bo x_6.1==2) (SM x_5/\SM x_1/\Bd (Z0<=(NI x_6.1)/\(NI x_6.1)<(LI bo)) (SM x_1/\Bd (Z0<=(NI x_6.1)/\(NI x_6.1)<(LI bo)) (∃(x_8:Frm1×List UInt8×Int),([QR x_6.2.2 sc,D.str (Sm.nm (J6 bo x_6.1)),VO bo x_6.1]=[QR x_8.1 sc,D.str x_8.2.1,ZI x_8.2.2]/\LN x_8.1<=1000000)/\∀(y:Unit),True->SM x_5/\Jn x x_1 x_5/\∃(y:Nat×List (List UInt8)×Frm1),BQ sc bo A y.1 y.2.1 y.2.2/\LN bo-y.1<LN bo-x_6.1/\Q3 x_6.1 y.1 x_7.2.2 x_7.1 x_7.2.1 y.2.1/\(SM x_5/\((LN ((x_8.1++[(x_8.2.1,x_8.2.2)])::sc)=LN (y.2.2::sc)/\(∀(i:Nat),i<LN ((x_8.1++[(x_8.2.1,x_8.2.2)])::sc)->Cb ((x_8.1++[(x_8.2.1,x_8.2.2)])::sc) i=QP y.2.2 sc i)/\True)/\(LN ((x_8.1++[(x_8.2.1,x_8.2.2)])::sc)=LN (y.2.2::sc)/\(∀(i:Nat),i<LN ((x_8.1++[(x_8.2.1,x_8.2.2)])::sc)->B8 ((x_8.1++[(x_8.2.1,x_8.2.2)])::sc) i=QQ y.2.2 sc i)/\True)/\True)/\SM x_1/\(SM kd/\SM at_/\SM cl/\SM tx/\SM pr/\SM op/\SM (Arr.k va)/\(SM (Ql va)/\(∀(i:Nat),i<Ql va->SM [ZI (GI (Arr.sh va) i)])/\True)/\(SM (Qm va)/\(∀(i:Nat),i<Qm va->SM [ZI (GI (Arr.nu va) i)])/\True)/\(SM (Qn va)/\(∀(i:Nat),i<Qn va->SM (QM va i))/\True)/\(SM (LN ki)/\(∀(i:Nat),i<LN ki->SM (QN ki i))/\True)/\(SM (LN bo)/\(∀(i:Nat),i<LN bo->SM (QO bo i))/\True)/\SM de/\SM sl/\SM ss/\True)/\SM x/\((SM (LN sc)/\(∀(i:Nat),i<LN sc->SM (Cb sc i))/\True)/\(SM (LN sc)/\(∀(i:Nat),i<LN sc->SM (B8 sc i))/\True)/\True)/\True)/\True))) (Jn x x_1 x_5/\∃(y:Nat×List (List UInt8)×Frm1),BQ sc bo A y.1 y.2.1 y.2.2/\LN bo-y.1<LN bo-x_6.1/\Q3 x_6.1 y.1 x_7.2.2 x_7.1 x_7.2.1 y.2.1/\(SM x_5/\((LN (x_6.2.2::sc)=LN (y.2.2::sc)/\(∀(i:Nat),i<LN (x_6.2.2::sc)->QP x_6.2.2 sc i=QP y.2.2 sc i)/\True)/\(LN (x_6.2.2::sc)=LN (y.2.2::sc)/\(∀(i:Nat),i<LN (x_6.2.2::sc)->QQ x_6.2.2 sc i=QQ y.2.2 sc i)/\True)/\True)/\SM x_1/\(SM kd/\SM at_/\SM cl/\SM tx/\SM pr/\SM op/\SM (Arr.k va)/\(SM (Ql va)/\(∀(i:Nat),i<Ql va->SM [ZI (GI (Arr.sh va) i)])/\True)/\(SM (Qm va)/\(∀(i:Nat),i<Qm va->SM [ZI (GI (Arr.nu va) i)])/\True)/\(SM (Qn va)/\(∀(i:Nat),i<Qn va->SM (QM va i))/\True)/\(SM (LN ki)/\(∀(i:Nat),i<LN ki->SM (QN ki i))/\True)/\(SM (LN bo)/\(∀(i:Nat),i<LN bo->SM (QO bo i))/\True)/\SM de/\SM sl/\SM ss/\True)/\SM x/\((SM (LN sc)/\(∀(i:Nat),i<LN sc->SM (Cb sc i))/\True)/\(SM (LN sc)/\(∀(i:Nat),i<LN sc->SM (B8 sc i))/\True)/\True)/\True)/\True)))))) (RT (QaE x_6.2.1 A))))) ((∃(x_2:Nat×List (List UInt8)),J5 sc ki bo A x_2.1 x_2.2/\YG x_2.1 L x_2.2/\(SM x_1/\(SM kd/\SM at_/\SM cl/\SM tx/\SM pr/\SM op/\SM (Arr.k va)/\(SM (Ql va)/\(∀(i:Nat),i<Ql va->SM [ZI (GI (Arr.sh va) i)])/\True)/\(SM (Qm va)/\(∀(i:Nat),i<Qm va->SM [ZI (GI (Arr.nu va) i)])/\True)/\(SM (Qn va)/\(∀(i:Nat),i<Qn va->SM (QM va i))/\True)/\(SM (LN ki)/\(∀(i:Nat),i<LN ki->SM (QN ki i))/\True)/\(SM (LN bo)/\(∀(i:Nat),i<LN bo->SM (QO bo i))/\True)/\SM de/\SM sl/\SM ss/\True)/\SM x/\((SM (LN sc)/\(∀(i:Nat),i<LN sc->SM (Cb sc i))/\True)/\(SM (LN sc)/\(∀(i:Nat),i<LN sc->SM (B8 sc i))/\True)/\True)/\True)/\True)/\∀(x_2:Nat×List (List UInt8)),J5 sc ki bo A x_2.1 x_2.2->SM x_1/\ifB (decide ((NI x_2.1)<(LI ki))) (SM x/\SM x_1/\Bd (Z0<=(NI x_2.1)/\(NI x_2.1)<(LI ki)) (∃(x_3:Scp×Nd×List (List UInt8)),(XN sc::D.agg [ZI (Nd.kd (Qv ki x_2.1)),ZI (Nd.at_ (Qv ki x_2.1)),ZI (Nd.cl (Qv ki x_2.1)),D.str (Nd.tx (Qv ki x_2.1)),ZI (Nd.pr (Qv ki x_2.1)),ZI (Nd.op (Qv ki x_2.1)),ZI (Arr.k (XO ki x_2.1)),SI (QdX ki x_2.1),SI (QdY ki x_2.1),D.sl N4 (LN (XP ki x_2.1)) (fun i=>Arr.row (List.getD (XP ki x_2.1) i Jw)) Mode.any,D.sl 15 (LN (XQ ki x_2.1)) (fun i=>Nd.row (List.getD (XQ ki x_2.1) i Kc)) Mode.any,D.sl 34 (LN (XR ki x_2.1)) (fun i=>Sm.row (List.getD (XR ki x_2.1) i Jy)) Mode.any,ZI (Nd.de (Qv ki x_2.1)),ZI (Nd.sl (Qv ki x_2.1)),ZI (Nd.ss (Qv ki x_2.1))]::JK x_2.2=Jk x_3.1 x_3.2.1 x_3.2.2/\Jl x_3.1 x_3.2.1 x_3.2.2)/\∀(y:Unit),True->(SM (D.ref N0 x N0)/\QaD x_1/\True)/\∃(y:Nat×List (List UInt8)),J5 sc ki bo A y.1 y.2/\LN ki-y.1<LN ki-x_2.1/\Q3 x_2.1 y.1 x_3.2.2 x_3.1 x_3.2.1 y.2/\(SM x_1/\(SM kd/\SM at_/\SM cl/\SM tx/\SM pr/\SM op/\SM (Arr.k va)/\(SM (Ql va)/\(∀(i:Nat),i<Ql va->SM [ZI (GI (Arr.sh va) i)])/\True)/\(SM (Qm va)/\(∀(i:Nat),i<Qm va->SM [ZI (GI (Arr.nu va) i)])/\True)/\(SM (Qn va)/\(∀(i:Nat),i<Qn va->SM (QM va i))/\True)/\(SM (LN ki)/\(∀(i:Nat),i<LN ki->SM (QN ki i))/\True)/\(SM (LN bo)/\(∀(i:Nat),i<LN bo->SM (QO bo i))/\True)/\SM de/\SM sl/\SM ss/\True)/\SM x/\((SM (LN sc)/\(∀(i:Nat),i<LN sc->SM (Cb sc i))/\True)/\(SM (LN sc)/\(∀(i:Nat),i<LN sc->SM (B8 sc i))/\True)/\True)/\True)/\True)) (SM x/\∃(x_3:Unit),SM (QdZ sc)/\∀(y:Unit),True->∀(x_4:Nat),x_1≠x_4/\x≠x_4/\True->SM x_4/\(∃(x_5:Nat×List (List UInt8)×Frm1),BQ sc bo A x_5.1 x_5.2.1 x_5.2.2/\YG x_5.1 x_2.2 x_5.2.1/\(SM x_4/\((LN ([]::sc)=LN (x_5.2.2::sc)/\(∀(i:Nat),i<LN ([]::sc)->Cb ([]::sc) i=QP x_5.2.2 sc i)/\True)/\(LN ([]::sc)=LN (x_5.2.2::sc)/\(∀(i:Nat),i<LN ([]::sc)->B8 ([]::sc) i=QQ x_5.2.2 sc i)/\True)/\True)/\SM x_1/\(SM kd/\SM at_/\SM cl/\SM tx/\SM pr/\SM op/\SM (Arr.k va)/\(SM (Ql va)/\(∀(i:Nat),i<Ql va->SM [ZI (GI (Arr.sh va) i)])/\True)/\(SM (Qm va)/\(∀(i:Nat),i<Qm va->SM [ZI (GI (Arr.nu va) i)])/\True)/\(SM (Qn va)/\(∀(i:Nat),i<Qn va->SM (QM va i))/\True)/\(SM (LN ki)/\(∀(i:Nat),i<LN ki->SM (QN ki i))/\True)/\(SM (LN bo)/\(∀(i:Nat),i<LN bo->SM (QO bo i))/\True)/\SM de/\SM sl/\SM ss/\True)/\SM x/\((SM (LN sc)/\(∀(i:Nat),i<LN sc->SM (Cb sc i))/\True)/\(SM (LN sc)/\(∀(i:Nat),i<LN sc->SM (B8 sc i))/\True)/\True)/\True)/\True)/\∀(x_5:Nat×List (List UInt8)×Frm1),BQ sc bo A x_5.1 x_5.2.1 x_5.2.2->SM x_1/\ifB (decide ((NI x_5.1)<(LI bo))) (SM x_1/\Bd (Z0<=(NI x_5.1)/\(NI x_5.1)<(LI bo)) (ifB (J7 bo x_5.1==3) (SM x_4/\SM x_1/\Bd (Z0<=(NI x_5.1)/\(NI x_5.1)<(LI bo)) (∃(x_6:Scp×Nd×List (List UInt8)),(QR x_5.2.2 sc::D.agg [ZI (Nd.kd (Qw bo x_5.1)),ZI (Nd.at_ (Qw bo x_5.1)),ZI (Nd.cl (Qw bo x_5.1)),D.str (Nd.tx (Qw bo x_5.1)),ZI (Nd.pr (Qw bo x_5.1)),ZI (Nd.op (Qw bo x_5.1)),ZI (Arr.k (XS bo x_5.1)),SI (Qd0 bo x_5.1),SI (Qd1 bo x_5.1),D.sl N4 (LN (XT bo x_5.1)) (fun i=>Arr.row (List.getD (XT bo x_5.1) i Jw)) Mode.any,D.sl 15 (LN (XU bo x_5.1)) (fun i=>Nd.row (List.getD (XU bo x_5.1) i Kc)) Mode.any,D.sl 34 (LN (XV bo x_5.1)) (fun i=>Sm.row (List.getD (XV bo x_5.1) i Jy)) Mode.any,ZI (Nd.de (Qw bo x_5.1)),ZI (Nd.sl (Qw bo x_5.1)),ZI (Nd.ss (Qw bo x_5.1))]::JK x_5.2.1=Jk x_6.1 x_6.2.1 x_6.2.2/\Jl x_6.1 x_6.2.1 x_6.2.2)/\∀(y:Unit),True->SM x_4/\SM x_1/\Bd (Z0<=(NI x_5.1)/\(NI x_5.1)<(LI bo)) (∃(x_7:Scp×Nd×List (List UInt8)),([QR x_5.2.2 sc,XW bo x_5.1,D.sl N1 (YF x_6.2.2 x_6.1 x_6.2.1) (fun i=>[D.str (List.getD (CY x_6.2.2 (fnN x_6.1 x_6.2.1)) i [])]) Mode.any]=Jk x_7.1 x_7.2.1 x_7.2.2/\Jl x_7.1 x_7.2.1 x_7.2.2)/\∀(y:Unit),True->SM x_1/\Bd (Z0<=(NI x_5.1)/\(NI x_5.1)<(LI bo)) (ifB (J7 bo x_5.1==2) (SM x_4/\SM x_1/\Bd (Z0<=(NI x_5.1)/\(NI x_5.1)<(LI bo)) (SM x_1/\Bd (Z0<=(NI x_5.1)/\(NI x_5.1)<(LI bo)) (∃(x_8:Frm1×List UInt8×Int),([QR x_5.2.2 sc,D.str (Sm.nm (J6 bo x_5.1)),VO bo x_5.1]=[QR x_8.1 sc,D.str x_8.2.1,ZI x_8.2.2]/\LN x_8.1<=1000000)/\∀(y:Unit),True->SM x_4/\Jn x x_1 x_4/\∃(y:Nat×List (List UInt8)×Frm1),BQ sc bo A y.1 y.2.1 y.2.2/\LN bo-y.1<LN bo-x_5.1/\Q3 x_5.1 y.1 x_7.2.2 x_7.1 x_7.2.1 y.2.1/\(SM x_4/\((LN ((x_8.1++[(x_8.2.1,x_8.2.2)])::sc)=LN (y.2.2::sc)/\(∀(i:Nat),i<LN ((x_8.1++[(x_8.2.1,x_8.2.2)])::sc)->Cb ((x_8.1++[(x_8.2.1,x_8.2.2)])::sc) i=QP y.2.2 sc i)/\True)/\(LN ((x_8.1++[(x_8.2.1,x_8.2.2)])::sc)=LN (y.2.2::sc)/\(∀(i:Nat),i<LN ((x_8.1++[(x_8.2.1,x_8.2.2)])::sc)->B8 ((x_8.1++[(x_8.2.1,x_8.2.2)])::sc) i=QQ y.2.2 sc i)/\True)/\True)/\SM x_1/\(SM kd/\SM at_/\SM cl/\SM tx/\SM pr/\SM op/\SM (Arr.k va)/\(SM (Ql va)/\(∀(i:Nat),i<Ql va->SM [ZI (GI (Arr.sh va) i)])/\True)/\(SM (Qm va)/\(∀(i:Nat),i<Qm va->SM [ZI (GI (Arr.nu va) i)])/\True)/\(SM (Qn va)/\(∀(i:Nat),i<Qn va->SM (QM va i))/\True)/\(SM (LN ki)/\(∀(i:Nat),i<LN ki->SM (QN ki i))/\True)/\(SM (LN bo)/\(∀(i:Nat),i<LN bo->SM (QO bo i))/\True)/\SM de/\SM sl/\SM ss/\True)/\SM x/\((SM (LN sc)/\(∀(i:Nat),i<LN sc->SM (Cb sc i))/\True)/\(SM (LN sc)/\(∀(i:Nat),i<LN sc->SM (B8 sc i))/\True)/\True)/\True)/\True))) (Jn x x_1 x_4/\∃(y:Nat×List (List UInt8)×Frm1),BQ sc bo A y.1 y.2.1 y.2.2/\LN bo-y.1<LN bo-x_5.1/\Q3 x_5.1 y.1 x_7.2.2 x_7.1 x_7.2.1 y.2.1/\(SM x_4/\((LN (x_5.2.2::sc)=LN (y.2.2::sc)/\(∀(i:Nat),i<LN (x_5.2.2::sc)->QP x_5.2.2 sc i=QP y.2.2 sc i)/\True)/\(LN (x_5.2.2::sc)=LN (y.2.2::sc)/\(∀(i:Nat),i<LN (x_5.2.2::sc)->QQ x_5.2.2 sc i=QQ y.2.2 sc i)/\True)/\True)/\SM x_1/\(SM kd/\SM at_/\SM cl/\SM tx/\SM pr/\SM op/\SM (Arr.k va)/\(SM (Ql va)/\(∀(i:Nat),i<Ql va->SM [ZI (GI (Arr.sh va) i)])/\True)/\(SM (Qm va)/\(∀(i:Nat),i<Qm va->SM [ZI (GI (Arr.nu va) i)])/\True)/\(SM (Qn va)/\(∀(i:Nat),i<Qn va->SM (QM va i))/\True)/\(SM (LN ki)/\(∀(i:Nat),i<LN ki->SM (QN ki i))/\True)/\(SM (LN bo)/\(∀(i:Nat),i<LN bo->SM (QO bo i))/\True)/\SM de/\SM sl/\SM ss/\True)/\SM x/\((SM (LN sc)/\(∀(i:Nat),i<LN sc->SM (Cb sc i))/\True)/\(SM (LN sc)/\(∀(i:Nat),i<LN sc->SM (B8 sc i))/\True)/\True)/\True)/\True))))) (SM x_4/\SM x_1/\Bd (Z0<=(NI x_5.1)/\(NI x_5.1)<(LI bo)) (∃(x_6:Scp×Nd×List (List UInt8)),(QR x_5.2.2 sc::XW bo x_5.1::JK x_5.2.1=Jk x_6.1 x_6.2.1 x_6.2.2/\Jl x_6.1 x_6.2.1 x_6.2.2)/\∀(y:Unit),True->SM x_1/\Bd (Z0<=(NI x_5.1)/\(NI x_5.1)<(LI bo)) (ifB (J7 bo x_5.1==2) (SM x_4/\SM x_1/\Bd (Z0<=(NI x_5.1)/\(NI x_5.1)<(LI bo)) (SM x_1/\Bd (Z0<=(NI x_5.1)/\(NI x_5.1)<(LI bo)) (∃(x_7:Frm1×List UInt8×Int),([QR x_5.2.2 sc,D.str (Sm.nm (J6 bo x_5.1)),VO bo x_5.1]=[QR x_7.1 sc,D.str x_7.2.1,ZI x_7.2.2]/\LN x_7.1<=1000000)/\∀(y:Unit),True->SM x_4/\Jn x x_1 x_4/\∃(y:Nat×List (List UInt8)×Frm1),BQ sc bo A y.1 y.2.1 y.2.2/\LN bo-y.1<LN bo-x_5.1/\Q3 x_5.1 y.1 x_6.2.2 x_6.1 x_6.2.1 y.2.1/\(SM x_4/\((LN ((x_7.1++[(x_7.2.1,x_7.2.2)])::sc)=LN (y.2.2::sc)/\(∀(i:Nat),i<LN ((x_7.1++[(x_7.2.1,x_7.2.2)])::sc)->Cb ((x_7.1++[(x_7.2.1,x_7.2.2)])::sc) i=QP y.2.2 sc i)/\True)/\(LN ((x_7.1++[(x_7.2.1,x_7.2.2)])::sc)=LN (y.2.2::sc)/\(∀(i:Nat),i<LN ((x_7.1++[(x_7.2.1,x_7.2.2)])::sc)->B8 ((x_7.1++[(x_7.2.1,x_7.2.2)])::sc) i=QQ y.2.2 sc i)/\True)/\True)/\SM x_1/\(SM kd/\SM at_/\SM cl/\SM tx/\SM pr/\SM op/\SM (Arr.k va)/\(SM (Ql va)/\(∀(i:Nat),i<Ql va->SM [ZI (GI (Arr.sh va) i)])/\True)/\(SM (Qm va)/\(∀(i:Nat),i<Qm va->SM [ZI (GI (Arr.nu va) i)])/\True)/\(SM (Qn va)/\(∀(i:Nat),i<Qn va->SM (QM va i))/\True)/\(SM (LN ki)/\(∀(i:Nat),i<LN ki->SM (QN ki i))/\True)/\(SM (LN bo)/\(∀(i:Nat),i<LN bo->SM (QO bo i))/\True)/\SM de/\SM sl/\SM ss/\True)/\SM x/\((SM (LN sc)/\(∀(i:Nat),i<LN sc->SM (Cb sc i))/\True)/\(SM (LN sc)/\(∀(i:Nat),i<LN sc->SM (B8 sc i))/\True)/\True)/\True)/\True))) (Jn x x_1 x_4/\∃(y:Nat×List (List UInt8)×Frm1),BQ sc bo A y.1 y.2.1 y.2.2/\LN bo-y.1<LN bo-x_5.1/\Q3 x_5.1 y.1 x_6.2.2 x_6.1 x_6.2.1 y.2.1/\(SM x_4/\((LN (x_5.2.2::sc)=LN (y.2.2::sc)/\(∀(i:Nat),i<LN (x_5.2.2::sc)->QP x_5.2.2 sc i=QP y.2.2 sc i)/\True)/\(LN (x_5.2.2::sc)=LN (y.2.2::sc)/\(∀(i:Nat),i<LN (x_5.2.2::sc)->QQ x_5.2.2 sc i=QQ y.2.2 sc i)/\True)/\True)/\SM x_1/\(SM kd/\SM at_/\SM cl/\SM tx/\SM pr/\SM op/\SM (Arr.k va)/\(SM (Ql va)/\(∀(i:Nat),i<Ql va->SM [ZI (GI (Arr.sh va) i)])/\True)/\(SM (Qm va)/\(∀(i:Nat),i<Qm va->SM [ZI (GI (Arr.nu va) i)])/\True)/\(SM (Qn va)/\(∀(i:Nat),i<Qn va->SM (QM va i))/\True)/\(SM (LN ki)/\(∀(i:Nat),i<LN ki->SM (QN ki i))/\True)/\(SM (LN bo)/\(∀(i:Nat),i<LN bo->SM (QO bo i))/\True)/\SM de/\SM sl/\SM ss/\True)/\SM x/\((SM (LN sc)/\(∀(i:Nat),i<LN sc->SM (Cb sc i))/\True)/\(SM (LN sc)/\(∀(i:Nat),i<LN sc->SM (B8 sc i))/\True)/\True)/\True)/\True)))))) (RT (QaE x_5.2.1 A))))) (by kernel_rfl) ?_
 delta DA GI LI LN N0 N1 N4 NI SI SM Z0 Z1 ZI XN Qt1 QM Kc Jj QaB Qt2 Qt3 QpV QpW QpX Jy YE QN QO Qv XO QdX QdY XP XQ XR JK QpT QaC Qt4 Qt5 QpY Jk Jl QaD YF Q3 QdZ QpU QaE YG QP QQ J6 J7 QR Qw XS Qd0 J5 Qd1 XT XU XV Jm VO QaF Qt6 Qt7 QpZ Ql Qp0 Qp1 XW Jn Qm Qn Jw RT
 try simp only[<- dm]
 try simp only[<- dn]
 simp only[ne_eq,implies_true,Int.toNat_natCast,Bh,Bf,decide_eq_true_eq,decide_eq_false_iff_not,true_and,and_true,beq_iff_eq,beq_eq_false_iff_ne,Bool.not_eq_true',Bool.not_eq_false',exists_const,forall_const,Prod.exists]
 have hN:fnN sc (.mk kd at_ cl tx pr op va ki bo de sl ss)=(if kd=2 then (match Bp tx sc with | none=>[tx] | some _=>[]) else [])++(fnL sc ki++fnB sc [] bo):=by rw[fnN]<;>rfl
 rw[hN] at hA hL
 simp only[List.length_append] at hL
 have n0:∀B:List (List UInt8),B=[]->CY L (B++(fnL sc ki++fnB sc [] bo))=CY L (fnL sc ki++fnB sc [] bo):=fun B hB=>by rw[hB];rfl
 have en1:kd=2->(lkA (Bp tx sc)).2.2.2=false->L.length<=1000000000/\KQ sc ki (fnB sc [] bo) A 0 (CC tx L):=fun h2 hk=>by
  have hk2:Bp tx sc=none:=by
   cases he:Bp tx sc with
   |none=>rfl
   |some y=>rw[he] at hk;simp[lkA] at hk
  rw[if_pos h2,hk2] at hA hL
  have:=Wl tx L
  simp only[List.length_cons,List.length_nil] at hL
  exact⟨by omega,Nat.zero_le _,by rw[List.drop_zero];omega,by rw[List.drop_zero,hA];rfl⟩
 have en2:kd=2->(lkA (Bp tx sc)).2.2.2=true->KQ sc ki (fnB sc [] bo) A 0 L:=fun h2 hk=>by
  cases he:Bp tx sc with
  |none=>rw[he] at hk;simp[lkA] at hk
  |some y =>
   rw[if_pos h2,he] at hA hL
   exact⟨Nat.zero_le _,by rw[List.drop_zero];omega,by rw[List.drop_zero,hA];rfl⟩
 have en3:¬kd=2->KQ sc ki (fnB sc [] bo) A 0 L:=fun h2=>by
  rw[if_neg h2] at hA hL
  exact⟨Nat.zero_le _,by rw[List.drop_zero];omega,by rw[List.drop_zero,hA];rfl⟩
 clear hA hN n0
 refine fun x x1 _=>⟨fun h2=>⟨fun hlk=>⟨L,⟨rfl,(en1 h2 hlk).1⟩,⟨0,CC tx L,(en1 h2 hlk).2,rfl,rfl,fun _ _=>rfl⟩,?_⟩,fun hlk=>⟨⟨0,L,en2 h2 hlk,rfl,rfl,fun _ _=>rfl⟩,?_⟩⟩,fun h2=>⟨⟨0,L,en3 h2,rfl,rfl,fun _ _=>rfl⟩,?_⟩⟩
 all_goals
  clear en1 en2 en3
  rintro ⟨i,L1⟩ hK
  simp only at hK ⊢
  refine⟨fun hlt=>?_,fun hge x6 _=>?_⟩
  ·have hi:i<ki.length:=by omega
   obtain ⟨s1,s2⟩:=hK.step hi
   exact⟨⟨Int.natCast_nonneg i,hlt⟩,sc,ki.getD i default,L1,⟨rfl,hn _ (GJ hi),s1⟩,i+1,_,s2,by omega,Be (by omega) (by omega),rfl,fun _ _=>rfl⟩
  ·obtain ⟨d1,d2⟩:=hK.done (by omega)
   refine⟨⟨0,L1,[],⟨Nat.zero_le _,Nat.le_refl _,d1,d2⟩,⟨rfl,rfl,fun _ _=>rfl⟩,⟨rfl,fun _ _=>rfl⟩,rfl,fun _ _=>rfl⟩,?_⟩
   rintro ⟨i,L2,f⟩ hB
   simp only at hB ⊢
   refine⟨fun hlt=>?_,fun hge2=>?_⟩
   ·have hi:i<bo.length:=by omega
    have hfl:=hB.fl
    have b1:(0:Int)<=(i:Int)/\(i:Int)<(bo.length:Int):=⟨Int.natCast_nonneg i,hlt⟩
    have hw:IntKind.i64.wrap ((i:Int)+1)=((i+1:Nat):Int):=Be (by omega) (by omega)
    have hvn:=hb f (by omega) _ (E6 hi)
    refine⟨b1,fun h3=>?_,fun h3=>?_⟩
    ·obtain ⟨s1,s2⟩:=hB.step hi (X:=fnN (f::sc) (bo.getD i default).te++fnN (f::sc) (bo.getD i default).nd) (by rw[Ban,if_pos h3])
     rw[List.length_append] at s1
     have hz:=G5 (fnN (f::sc) (bo.getD i default).te) L2
     refine⟨b1,f::sc,_,L2,⟨rfl,hvn.1 h3,by omega⟩,b1,f::sc,_,_,⟨rfl,hvn.2,by omega⟩,b1,fun h2=>absurd (h3.symm.trans h2) (by decide),fun h2=>?_⟩
     have s3:=s2 f (by unfold Ce;rw[if_neg h2])
     rw[UQ] at s3
     exact⟨i+1,_,f,s3,by omega,⟨hw,rfl,fun _ _=>rfl⟩,⟨rfl,fun _ _=>rfl⟩,rfl,fun _ _=>rfl⟩
    ·obtain ⟨s1,s2⟩:=hB.step hi (X:=fnN (f::sc) (bo.getD i default).nd) (by rw[Ban,if_neg h3];rfl)
     refine⟨b1,f::sc,_,L2,⟨rfl,hvn.2,by omega⟩,b1,fun h2=>⟨b1,b1,f,(bo.getD i default).nm,(bo.getD i default).nd.cl,⟨rfl,by omega⟩,?_⟩,fun h2=>?_⟩
     ·exact⟨i+1,_,_,s2 _ (by unfold Ce;rw[if_pos h2]),by omega,⟨hw,rfl,fun _ _=>rfl⟩,⟨rfl,fun _ _=>rfl⟩,rfl,fun _ _=>rfl⟩
     ·exact⟨i+1,_,f,s2 f (by unfold Ce;rw[if_neg h2]),by omega,⟨hw,rfl,fun _ _=>rfl⟩,⟨rfl,fun _ _=>rfl⟩,rfl,fun _ _=>rfl⟩
   ·rw[hB.done (by omega)]
    exact⟨rfl,fun _ _=>rfl⟩
theorem Bad(n:Nd)(sc:Scp)(hs:∀f∈sc,f.length<=1000000)(hd:sc.length+szN n<=900000):VQf sc n:=by
 have hz:=BbK n
 have h1:=Bai n.ki
 have h2:=T3 n.bo
 have hn:∀b∈n.ki,VQf sc b:=fun b hb=>Bad b sc hs (by have:=C7 (Co hb);omega)
 have hb:∀f,f.length<=n.bo.length->∀s∈n.bo,(s.kd=3->VQf (f::sc) s.te)/\VQf (f::sc) s.nd:=fun f hf s hsm=>by
  have hfs:∀g∈f::sc,g.length<=1000000:=fun g hg=>by
   rcases List.mem_cons.1 hg with rfl | hg
   ·omega
   ·exact hs g hg
  have hin:∀x∈Bg s,szN x<szN n:=fun x hx=>C7 (List.mem_append_right _ (List.mem_flatMap.2 ⟨s,hsm,hx⟩))
  refine⟨fun q=>Bad s.te (f::sc) hfs ?_,Bad s.nd (f::sc) hfs ?_⟩
  ·have:=hin s.te (by unfold Bg;rw[if_pos q];simp)
   simp only[List.length_cons]
   omega
  ·have:=hin s.nd (by unfold Bg;split<;>simp)
   simp only[List.length_cons]
   omega
 intro L hL
 cases n with
 |mk kd at_ cl tx pr op va ki bo de sl ss =>
  simp only[Nd.ki,Nd.bo] at hn hb h1 h2 hz
  exact Bjv sc kd at_ cl tx pr op va ki bo de sl ss L _ rfl hL ⟨by omega,hs⟩ (by omega) (by omega) hn hb
termination_by szN n
decreasing_by
 ·exact C7 (Co hb)
 ·exact hin s.te (by unfold Bg;rw[if_pos q];simp)
 ·exact hin s.nd (by unfold Bg;split<;>simp)
def Bg3(n:Nd):Con:=fun k ds S=>match k with
 |35=>some (pA ds S (.int .i64 (Gq (dpN n) 60)) (isN n ds [.int .i64 60]))
 |25=>some (pA ds S (.agg (scC [[]])) (wkL ds [.agg (scC [])]))
 |36=>some (pA ds S (ssl (CY [] (fnN [] n)) .any) (wkL ds [.agg (scC [[]]),.agg n.row1,ssl [] .any]/\szN n<=800000))
 |_=>none
theorem Bit{n:Nd}(hn:n.sm):ConOk Tryz.prog (Bg3 n):=by
 intro k ds S A hh
 unfold Bg3 at hh
 split at hh
 ·injection hh with hh;subst hh
  exact Bs fun e=>CD.at_ (CD.wk (CD.down (Bgw n hn 60 (by omega) (by omega))) e) _
 ·injection hh with hh;subst hh
  exact Bs fun e=>CD.at_ (CD.wk (Bka [] (by simp)) e) _
 ·injection hh with hh;subst hh
  refine Bs fun ⟨e,h⟩=>?_
  have hl:=GP n [[]]
  have h1:=(Bad n [[]] (by simp) (by simp only[List.length_cons,List.length_nil];omega)).down (L:=[]) (by simp only[List.length_nil];omega)
  have h2:=Ua n []
  rw[List.nil_append] at h2
  rw[h2] at h1
  exact CD.at_ (CD.wk h1 e) _
 ·cases hh
noncomputable def Eqg(n:Nd):Senv:=EC (Bg3 n) 10 3 [5] (fun id=>match id with | 3=>([0,2,1,3,4],[1,3]) | _=>([],[]))
def QaG(a:Nd):Arr:=Nd.va a
def Qt8(a:Nd):List Int:=Arr.sh (QaG a)
def Qt9(a:Nd):List Int:=Arr.nu (QaG a)
def Qp2(a:Nd):List Arr:=Arr.it (QaG a)
def Qp3:Arr:=DA
def Qd2:Nd:=Nd.mk Z0 Z0 Z0 [] Z0 Z0 Qp3 [] [] Z0 Z0 Z0
def QaH(a:Nd):D:=D.agg [ZI (Nd.kd a),ZI (Nd.at_ a),ZI (Nd.cl a),D.str (Nd.tx a),ZI (Nd.pr a),ZI (Nd.op a),ZI (Arr.k (QaG a)),SI (Qt8 a),SI (Qt9 a),D.sl N4 (LN (Qp2 a)) (fun i=>Arr.row (List.getD (Qp2 a) i Qp3)) Mode.any,D.sl 15 (LN (Nd.ki a)) (fun i=>Nd.row (List.getD (Nd.ki a) i Qd2)) Mode.any,D.sl 34 (LN (Nd.bo a)) (fun i=>Sm.row (List.getD (Nd.bo a) i (Sm.mk Z0 Z0 [] Z0 Qd2 Qd2))) Mode.any,ZI (Nd.de a),ZI (Nd.sl a),ZI (Nd.ss a)]
def Qp4:List D:=[D.sl N1 N0 (fun _x=>[]) Mode.nil]
def Qp5:D:=D.agg [D.sl N1 N1 (Cb [[]]) Mode.any,D.sl N1 N1 (B8 [[]]) Mode.any]
def Qp6(a:Nd):List (List UInt8):=CY [] (fnN [] a)
def Qp7(a:Nd):Nat:=LN (Qp6 a)
theorem BlG(n:Nd)(hn:n.sm)(hd:szN n<=800000):CD 17 [.agg n.row1] (ssl (EZ n) .any):=by
 refine Bi (A:=sC _ _) (x:=()) (E:=Eqg n) (eOk (Bit hn) rfl) Tryz.func17 rfl (by kernel_rfl) rfl (by simp[sC,Eqg,EC,E0]) ?_
 refine Bj (T :=
  ∀(x:Nat),True->SM x/\∃(x_1:Unit),isN n [QaH n,ZI 60] [ZI 60]/\∀(y:Unit),True->ifB (decide ((60:Int)<Gq (dpN n) (60:Int))) (True/\∃(y:Unit),True/\(N0=LN (EZ n)/\(∀(i:Nat),i<N0->Cw (List D) [] [D.str (List.getD (EZ n) i [])])/\True)/\True/\True) (SM x/\∃(x_2:Unit),wkL [D.agg (D.sl N1 N0 (fun x=>[]) Mode.nil::Qp4)] [D.agg [D.sl N1 N0 (Cb []) Mode.any,D.sl N1 N0 (B8 []) Mode.any]]/\∀(y:Unit),True->(SM x/\SM (QaH n))/\∃(x:Unit),(wkL (Qp5::QaH n::Qp4) [Qp5,QaH n,D.sl N1 N0 (fun i=>[D.str []]) Mode.any]/\szN n<=800000)/\∀(y:Unit),True->True/\∃(y:Unit),True/\(Qp7 n=LN (EZ n)/\(∀(i:Nat),i<Qp7 n->[D.str (List.getD (Qp6 n) i [])]=[D.str (List.getD (EZ n) i [])])/\True)/\True/\True)) (by kernel_rfl) ?_
 delta DA GI LN N0 N1 N4 SI SM Z0 ZI QaG Qt8 Qp7 Qt9 Qp2 Qp3 Qd2 QaH Qp4 Qp5 Qp6
 try simp only[<- dm]
 try simp only[<- dn]
 simp only[Bh,decide_eq_true_eq,decide_eq_false_iff_not,true_and,and_true,exists_const,forall_const]
 have hdp:60<Gq (dpN n) 60↔BD n 60=true:=by
  unfold Gq BD
  rw[decide_eq_true_iff]
  split<;>omega
 have w0:∀ {F G:Nat->List D},wkD (.sl 1 0 F .nil) (.sl 1 0 G .any):=fun {F G}=>by
  simp only[wkD]
  exact Ba.2 ⟨by simp,by trivial,fun i hi=>absurd hi (Nat.not_lt_zero _),by simp[BB]⟩
 have wag:∀a b:List D,wkL a b->wkD (.agg a) (.agg b):=fun a b h=>by simpa only[wkD] using h
 refine⟨B1 n _,fun h=>?_,fun h=>⟨⟨wag _ _ ⟨w0,w0,trivial⟩,trivial⟩,⟨⟨Bb _,Bb _,w0,trivial⟩,hd⟩,?_⟩⟩
 ·have e:EZ n=[]:=by rw[EZ,if_pos (hdp.1 h)]
  rw[e]
  exact⟨rfl,fun i hi=>absurd hi (Nat.not_lt_zero _)⟩
 ·have e:EZ n=CY [] (fnN [] n):=by rw[EZ,if_neg (fun q=>h (hdp.2 q))]
  rw[e]
  exact⟨rfl,fun _ _=>rfl⟩
def Big(A:List (List UInt8))(n:Nd):Con:=fun k ds S=>match k with
 |16=>some (pA ds S (ssl A .any) (isN n ds []))
 |17=>some (pA ds S (ssl A .any) (isN n ds []))
 |12=>some (pA ds S (.bool true) (ds=[]))
 |_=>none
theorem BhD{n:Nd}(hn:n.sm)(hd:szN n<=800000)(hk:CD 12 [] (.bool true)):ConOk Tryz.prog (Big (EZ n) n):=by
 intro k ds S A hh
 unfold Big at hh
 split at hh
 ·injection hh with hh;subst hh
  refine Bs fun e=>CD.at_ (CD.wk ?_ e) _
  rw[<- Bew]
  exact Bj8 n hn (by omega)
 ·injection hh with hh;subst hh
  exact Bs fun e=>CD.at_ (CD.wk (BlG n hn hd) e) _
 ·injection hh with hh;subst hh
  exact Bs fun e=>by subst e;exact CD.at_ hk _
 ·cases hh
noncomputable def Elf(A:List (List UInt8))(n:Nd):Senv:={ EC (Big A n) 31 6 [14,18,29] (fun id=>match id with | 1=>([0,2,1,3,4,5],[1,3]) | 7=>([0,1,2,3,4,5,6,7,8],[]) | _=>([],[])) with
 ann:=fun b _ S=>match b with
  |0=>some { slots:=[5],keep:=[3,4],α:=Nat,st:=fun i=>([.int .i64 (i:Nat)],S),inv:=fun i=>i<=A.length,mu:=fun i=>A.length-i }
  |_=>none }
def Qp8(a:Nd):Int:=Nd.at_ a
def QaI(a:Nd):Arr:=Nd.va a
def Qp9(a:Nd):Int:=Arr.k (QaI a)
def Qqa(a:Nd):List Int:=Arr.sh (QaI a)
def Qd3(a:Nd):Nat:=LN (Qqa a)
def Qqb(a:Nd)(b:Nat):List D:=[ZI (GI (Qqa a) b)]
def Qqc(a:Nd):List Int:=Arr.nu (QaI a)
def Qd4(a:Nd):Nat:=LN (Qqc a)
def Qqd(a:Nd)(b:Nat):List D:=[ZI (GI (Qqc a) b)]
def Qqe(a:Nd):List Arr:=Arr.it (QaI a)
def Qd5(a:Nd):Nat:=LN (Qqe a)
def Qqf:Arr:=DA
def Qqg(a:Nd)(b:Nat):List D:=Arr.row (List.getD (Qqe a) b Qqf)
def Qd6(a:Nd):Nat:=LN (Nd.ki a)
def Qd7:Nd:=Nd.mk Z0 Z0 Z0 [] Z0 Z0 Qqf [] [] Z0 Z0 Z0
def Qqh(a:Nd)(b:Nat):List D:=Nd.row (List.getD (Nd.ki a) b Qd7)
def Qd8(a:Nd):Nat:=LN (Nd.bo a)
def Qqi(a:Nd)(b:Nat):List D:=Sm.row (List.getD (Nd.bo a) b (Sm.mk Z0 Z0 [] Z0 Qd7 Qd7))
def Qqj(a:Nd):D:=D.agg [ZI (Nd.kd a),ZI (Qp8 a),ZI (Nd.cl a),D.str (Nd.tx a),ZI (Nd.pr a),ZI (Nd.op a),ZI (Qp9 a),D.sl N1 (Qd3 a) (fun i=>Qqb a i) Mode.any,D.sl N1 (Qd4 a) (fun i=>Qqd a i) Mode.any,D.sl N4 (Qd5 a) (fun i=>Qqg a i) Mode.any,D.sl 15 (Qd6 a) (fun i=>Qqh a i) Mode.any,D.sl 34 (Qd8 a) (fun i=>Qqi a i) Mode.any,ZI (Nd.de a),ZI (Nd.sl a),ZI (Nd.ss a)]
def Qqk(a:Nd):Prop:=isN a [Qqj a] []
def Qql:Prop:=True/\∃(_y:Unit),True/\false=true/\True/\True
def Qqm(a:Nat)(b:Nd):Prop:=(SM a/\(SM (Nd.kd b)/\SM (Qp8 b)/\SM (Nd.cl b)/\SM (Nd.tx b)/\SM (Nd.pr b)/\SM (Nd.op b)/\SM (Qp9 b)/\(SM (Qd3 b)/\(∀(i:Nat),i<Qd3 b->SM (Qqb b i))/\True)/\(SM (Qd4 b)/\(∀(i:Nat),i<Qd4 b->SM (Qqd b i))/\True)/\(SM (Qd5 b)/\(∀(i:Nat),i<Qd5 b->SM (Qqg b i))/\True)/\(SM (Qd6 b)/\(∀(i:Nat),i<Qd6 b->SM (Qqh b i))/\True)/\(SM (Qd8 b)/\(∀(i:Nat),i<Qd8 b->SM (Qqi b i))/\True)/\SM (Nd.de b)/\SM (Nd.sl b)/\SM (Nd.ss b)/\True)/\True)/\True
def Qua(a:List (List UInt8)):D:=D.sl N1 (LN a) (fun i=>[D.str (List.getD a i [])]) Mode.any
def Qqn(a:List (List UInt8)):Prop:=SM (Qua a)
theorem Bfj(hk:CD 12 [] (.bool true))(n:Nd)(hn:n.sm)(hd:szN n<=800000):CD 5 [.agg n.row1] (.bool true):=by
 have hlen:(EZ n).length<=800000:=by
  unfold EZ
  split
  ·simp
  ·have h1:=G5 (fnN [] n) []
   have h2:=GP n []
   simp only[List.length_nil] at h1
   omega
 have hc:=BhD hn hd hk
 generalize EZ n=A at hlen hc
 refine Bi (A:=sC _ _) (x:=()) (E:=Elf A n) (eOk hc rfl) Tryz.func5 rfl (by kernel_rfl) rfl (by simp[sC,Elf,EC,E0]) ?_
 refine Bj (T :=
  ∀(x:Nat),True->SM x/\SM x/\∃(x_1:Unit),Qqk n/\∀(y:Unit),True->(SM x/\SM (Qqj n))/\∃(x_2:Unit),Qqk n/\∀(y:Unit),True->ifB ((LI A) != (LI A)) Qql ((∃(x_3:Nat),x_3<=LN A/\(Z0=(↑x_3:Int)/\True)/\Qqm x n)/\∀(x_3:Nat),x_3<=LN A->ifB (decide ((↑x_3:Int)<(LI A))) (Bd (Z0<=(↑x_3:Int)/\(↑x_3:Int)<(LI A)) (Bd (Z0<=(↑x_3:Int)/\(↑x_3:Int)<(LI A)) (ifB (List.getD A (Int.toNat (↑x_3:Int)) [] != List.getD A (Int.toNat (↑x_3:Int)) []) Qql ((Qqn A/\Qqn A/\True)/\∃(y:Nat),y<=LN A/\LN A-y<LN A-x_3/\(IntKind.wrap IntKind.i64 ((↑x_3:Int)+Z1)=(↑y:Int)/\True)/\Qqm x n)))) (∃(x:Unit),Cw (List D) [] []/\∀(y:Unit),True->RT (SM true)))) (by kernel_rfl) ?_
 delta DA GI LI LN N1 N4 SM Z0 Z1 ZI Qp8 QaI Qd5 Qqf Qqg Qd6 Qd7 Qqh Qd8 Qqi Qqj Qqk Qp9 Qql Qqm Qua Qqn Qqa Qd3 Qqb Qqc Qd4 Qqd Qqe RT
 try simp only[<- dm]
 try simp only[<- dn]
 simp only[eq_self,ne_eq,implies_true,Int.toNat_natCast,Bh,Bf,decide_eq_true_eq,decide_eq_false_iff_not,true_and,and_true,bne_iff_ne,bne_eq_false_iff_eq,exists_const,forall_const]
 refine⟨B1 n _,B1 n _,fun h=>absurd trivial h,⟨0,Nat.zero_le _,rfl⟩,fun i _ hlt=>?_⟩
 have b1:(0:Int)<=(i:Int)/\(i:Int)<(A.length:Int):=⟨Int.natCast_nonneg i,hlt⟩
 exact⟨b1,b1,fun h=>absurd trivial h,i+1,by omega,by omega,Be (by omega) (by omega)⟩
open Go Go.Ab Go.RowKit
noncomputable def Bi2:Array Value:=#[.agg #[.int .i64 0,.int .i64 0,.int .i64 0,.string ⟨#[]⟩,.int .i64 0,.int .i64 0,.int .i64 0,.slice none 0 0,.slice none 0 0,.slice none 0 0,.slice none 0 0,.slice none 0 0,.int .i64 0,.int .i64 0,.int .i64 0]]
theorem Be7(os:Os):laidMet Tryz.prog UZ ((Gb os).forCall (fun _ _=>0) ⟨#[],Bi2,[]⟩).memory :=
 ⟨[],(by first | exact .nil | constructor | simp[DataW.LaidVars,UZ]),List.nodup_nil,fun _ _ h=>(by cases h)⟩
theorem Bla(os:Os){H:Type}(enc:TypeId×Value->H):∃x,DataW.whole enc Tryz.prog ((Gb os).forCall (fun _ _=>0) ⟨#[],Bi2,[]⟩).memory [48] [] false (Bi2).toList 8=some x/\Rows.uptoSmall H (x.1++x.2.1)=true :=
 Rj (by kernel_rfl)
theorem BeZ{H : Type}{enc : TypeId×Value -> H}
  (W:World) (base:Nat) (args:Array Value) (ds gs:List (DataW H)) (before:List MemPlace)
  (hval:∀(j:Nat) t v,Tryz.f5.params[j]? =some t->args[j]? =some v->Value.okWide Tryz.prog W .any base t v)
  (hW:DataW.Whole enc Tryz.prog Tryz.f5.params.toList Rows.resolveFreeSpec.vars false W args.toList ds gs before)
  (hsz:(DataW.weightsEach Tryz.prog (Tryz.f5.params.toList++Rows.resolveFreeSpec.plain.varTypes Tryz.prog) (ds++gs)).all (·<=BU)=true) (hL:laidMetH Tryz.prog UZ W) (hk:Rows.uptoSmall H (ds++gs)=true) :
  Calls Tryz.prog 5 args W fun e W'=>∃v,e=.returned v/\Rows.resolveFreeSpec.post enc Tryz.prog Tryz.f5 false true false false W args v W':=by
 refine Ib (rs:=[(48,RNd)]) laid (by rw[Tryz.params5];kernel_rfl) rfl (fun ds hd=>?_) (rt:=4) rfl Tryz.underlying4 (by rw[Tryz.params5];rfl) ?_ W (T1 hL) base args ds gs before hval hW hsz ?_
 ·rw[Tryz.params5] at hd
  match ds,hd with
  | [_],_=>exact⟨rfl,rfl,rfl⟩
 ·intro r hr
  simp only[List.mem_cons,List.not_mem_nil,or_false] at hr
  subst hr
  exact fun W n=>Bdx W n
 ·intro Ds h hrep
  obtain ⟨dx,_,rfl,hx,h⟩:=h.agg (by kernel_rfl)
  obtain rfl:=h.nil
  obtain ⟨x,⟨_,hsm⟩,rfl⟩:=hx
  have hsz2:2*szN x<=1048576:=by
   obtain ⟨p,q,hA,_⟩:=hW
   rw[Tryz.params5] at hA
   obtain ⟨v,hv,hr⟩:=Cq hrep
   rw[hv] at hA
   simp only[Rep] at hr
   obtain ⟨vs,rfl,hr⟩:=hr
   match ds,hA with
   | [d],hA =>
    obtain ⟨p1,p2,⟨fuel,ht⟩,_,_⟩:=hA
    have h1:=BhM (hG:=T1 hL) fuel x _ _ ht hr
    have h2:Rows.uptoBulkAll ([d]++gs)<=1048576:=of_decide_eq_true hk
    simp only[List.cons_append,Rows.uptoBulkAll] at h2
    simp only at h1
    omega
  have hc:=CD.wk (Bfj Bkz x hsm (by omega)) (ds:=[.agg x.row]) (by
   simp only[wkL,wkD]
   exact⟨BaW x,trivial⟩)
  exact hc.mono fun r S' ⟨_,_,hr,_⟩=>hr
theorem BjY(os : Os)(started : os.Started)(H : Type)(enc : TypeId×Value -> H)(F : Stop.Interp) :
  ReturnsInHanded {} Tryz.checked os 5 .any ((Rows.OpenSpec.upto Rows.resolveFreeSpec).preRow enc Tryz.prog Tryz.f5 Rows.resolveFreeUptoRow.domain false Rows.resolveFreeUptoRow.laid) (((Rows.OpenSpec.upto Rows.resolveFreeSpec).at F).post enc Tryz.prog Tryz.f5 false true false false):=by
 obtain ⟨x,hx,hxk⟩:=Bla os enc
 refine returnsInHanded_of_row (C:=Tryz.checked) (s:=Rows.OpenSpec.upto Rows.resolveFreeSpec) own started (by kernel_rfl) Tryz.func5
  (witness_row_at (enc:=enc) (C:=Tryz.checked) false (Gb os) Bi2 rfl (by kernel_rfl) (by kernel_rfl) (by kernel_rfl)
   (OpenSpec.preRow_of_cond 8 hx rfl (fun k hk=>by cases hk;exact hxk) (by kernel_rfl) (Be7 os))) ?_
 intro W base args ds gs before hval hW _ hk _ hL _ _
 refine BeZ W base args ds gs before hval hW ?_ hL (hk _ rfl)
 have e:Tryz.f5.params.toList++Rows.resolveFreeSpec.plain.varTypes Tryz.prog=[48]:=by rw[Tryz.params5];kernel_rfl
 rw[e]
 exact Bd7 Bkl (by decide +kernel) (hk _ rfl)
theorem BlS:Rows.ResolveFreeUptoSaid :=
 OpenClaim.holds_of_cond 5 Tryz.f5 rfl rfl rfl rfl rfl rfl rfl ⟨rfl,rfl,rfl,rfl,rfl⟩ rfl rfl rfl rfl rfl (by kernel_rfl) Tryz.func5 (by kernel_rfl)
  (of_decide_eq_true (by kernel_rfl)) (by unfold Func.isWrapper;first | (rw[if_pos (by decide +kernel)];kernel_rfl) | (rw[if_neg (by decide +kernel)];exact⟨rfl,rfl⟩))
  (fun os started H enc _ F=>by rw[OpenClaim.pre_eq_preRow];exact BjY os started H enc F)
theorem provedResolveFree:Rows.ResolveFreeUptoSaid:=BlS
end
end Go.Proofs.YtfbfnhbafjmnaaaGreat
