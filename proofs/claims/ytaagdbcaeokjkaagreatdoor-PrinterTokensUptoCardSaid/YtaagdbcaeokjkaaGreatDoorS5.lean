/- Functions of the given program and what each of them computes: lemmas towards the statement, their conditions stated with each of them. -/
import Derived.Test.YtaagdbcaeokjkaaGreatDoorS4
namespace Go.Proofs.YtaagdbcaeokjkaaGreatDoor
open Go Go.Ab
set_option maxRecDepth 100000
noncomputable section
def BbO(l:List Sm):Con:=fun k ds S=>match k with
 |15=>some (pA ds S (.int .i64 (CI l)) (wkL ds [.agg [gsl 34 Sm.row1 l]]))
 |16=>some (pA ds S (ssl ((ptB l).map prT) .any) (wkL ds [.agg [gsl 34 Sm.row1 l]]/\CI l=0))
 |_=>none
theorem Bai{l:List Sm}(hl:l.length<=By)(ho:∀s∈l,s.ok)(hs:∀s∈l,s.sm):ConOk Tryz.prog (BbO l):=by
 intro k ds S A hh
 unfold BbO at hh
 split at hh
 ·injection hh with hh;subst hh
  exact Bv fun e=>CD.at_ (CD.wk (BpX l hl ho hs) e) _
 ·injection hh with hh;subst hh
  exact Bv fun ⟨e,h⟩=>CD.at_ (CD.wk (BqJ l h hl ho hs) e) _
 ·cases hh
def BcR(o:Nat)(last y:List UInt8)(lv:Int):Prop:=y≠[]/\0<=lv/\lv<=90000/\o+y.length<=100000000000000/\last.length<=100000000000000
def Bgy(bl ln:Nat)(cmp:Bool)(base:Con):Con:=fun k ds S=>match k with
 |17=>match ds with
  | [.ref k x 0,.str y,.fn (.func b1) [] [],.fn (.func b2) [] []]=>match Bt S.objs k with
   |some (y',.bldx T E (.sl 1 n g (.tok kt t)) [.str last,.int .i64 lv])=>some ((sWr bl ln cmp k kt x t (bytesOf n g) last lv y).fits () (Ow S.toks x y' T E kt t n g/\BcR n last y lv/\b1=bl/\b2=ln))
   |_=>none
  |_=>none
 |k=>Bf5 base k ds S
theorem BcH{bl ln:Nat}{cmp:Bool}{base:Con}(hb:ConOk Tryz.prog base)(h:∀(k kt x t:Nat) (o last y:List UInt8) (lv:Int),BcR o.length last y lv->ACalls Tryz.prog 17 ((sWr bl ln cmp k kt x t o last lv y).args ()) ((sWr bl ln cmp k kt x t o last lv y).st ()) (SpecR (sWr bl ln cmp k kt x t o last lv y) ())):ConOk Tryz.prog (Bgy bl ln cmp base):=by
 intro k ds S A hh
 unfold Bgy at hh
 split at hh
 ·split at hh
  ·split at hh
   ·rename_i k x y b1 b2 _ y' T E n g kt t last lv hg
    injection hh with hh;subst hh
    refine⟨fun _ hy=>h k kt x t (bytesOf n g) last y lv (by simpa[bytesOf] using hy.1.2.1),fun _ _ hy=>?_,fun h=>nomatch h⟩
    obtain ⟨⟨⟨h1,h2,h3,h4,h5⟩,_,rfl,rfl⟩,_⟩:=hy
    exact⟨⟨by simp[Bg,chk],Bd _,Bd _,Bd _,trivial⟩,Ba.2 ⟨rfl,Tm hg h1 h2 h3 h5,IS h4⟩⟩
   ·cases hh
  ·cases hh
 ·exact WK hb _ _ _ _ hh
theorem BpW(cmp:Bool){p:Pt}(hp:okP p)(s:List UInt8×List UInt8×Int):wrS cmp s p=(wrO cmp s.1 s.2.1 s.2.2 (prT p),wrL (prT p),wrV s.2.2 (prT p)):=by
 cases p with
 |sp=>rfl
 |op=>rfl
 |cl=>rfl
 |tx y =>
  obtain ⟨_,_,h59,h123,h125⟩:=hp
  have n59:¬y=[59]:=fun e=>h59 (by rw[e];rfl)
  have n123:¬y=[123]:=fun e=>h123 (by rw[e];rfl)
  have n125:¬y=[125]:=fun e=>h125 (by rw[e];rfl)
  show wrS cmp s (.tx y)=(wrO cmp s.1 s.2.1 s.2.2 y,wrL y,wrV s.2.2 y)
  rw[wrO,wrL,wrV,if_neg n59,if_neg n59,if_neg n123,if_neg n125]
  rfl
theorem BgV{ps:List Pt}{p:Pt}(h:p∈ps):(prT p).length+1<=IF ps:=by
 induction ps with
 |nil=>cases h
 |cons x r ih =>
  unfold IF at ih ⊢
  rw[List.map_cons,List.sum_cons]
  rcases List.mem_cons.1 h with rfl | h
  ·omega
  ·have:=ih h;omega
structure WrI (cmp:Bool) (l:List Sm) (i:Nat):Prop where
 ol:(wrF cmp ((ptB l).take i)).1.length<=3400000000000
 ll:(wrF cmp ((ptB l).take i)).2.1.length<=3400000000000
 l0:0<=(wrF cmp ((ptB l).take i)).2.2
 l1:(wrF cmp ((ptB l).take i)).2.2<=90000
theorem Ws(cmp:Bool){l:List Sm}(h:PrR l)(ho:∀s∈l,s.ok){i:Nat}(hi:i<=(ptB l).length):WrI cmp l i:=by
 obtain ⟨f1,f2⟩:=TD cmp (ptB l) i hi
 have b:=(balB l).2 i
 have hz:=h.hz
 have n1:=Bli ((ptB l).take i) 0
 have n2:=Bbo (ptB l) i
 have n3:=nbB l
 have s1:=Ri (ptB l)
 have s2:=BbN h ho
 refine⟨Bpr h ho cmp i hi,?_,by rw[f1];exact b,by rw[f1];omega⟩
 rw[f2]
 split
 ·rename_i hc
  have hm:(ptB l).getD (i-1) .sp∈ptB l:=by
   rw[List.getD_eq_getElem?_getD,List.getElem?_eq_getElem (show i-1<(ptB l).length by omega)]
   exact List.getElem_mem _
  have:=BgV hm
  omega
 ·simp
theorem BjN(cmp:Bool){l:List Sm}(h:PrR l)(ho:∀s∈l,s.ok){i:Nat}(hi:i<(ptB l).length):BcR (wrF cmp ((ptB l).take i)).1.length (wrF cmp ((ptB l).take i)).2.1 (((ptB l).map prT).getD i []) (wrF cmp ((ptB l).take i)).2.2/\(wrF cmp ((ptB l).take (i+1)))=(wrO cmp (wrF cmp ((ptB l).take i)).1 (wrF cmp ((ptB l).take i)).2.1 (wrF cmp ((ptB l).take i)).2.2 (((ptB l).map prT).getD i []),wrL (((ptB l).map prT).getD i []),wrV (wrF cmp ((ptB l).take i)).2.2 (((ptB l).map prT).getD i [])):=by
 have w:=Ws cmp h ho (i:=i) (by omega)
 have e:((ptB l).map prT).getD i []=prT ((ptB l).getD i .sp):=by simp[List.getD_eq_getElem?_getD,hi]
 have hp:=BmK (okB h ho) i
 have hm:(ptB l).getD i .sp∈ptB l:=by
  rw[List.getD_eq_getElem?_getD,List.getElem?_eq_getElem hi]
  exact List.getElem_mem _
 have s1:=Ri (ptB l)
 have s2:=BbN h ho
 have s3:=BgV hm
 have w1:=w.ol
 have w2:=w.ll
 rw[e]
 exact⟨⟨Bqv hp,w.l0,w.l1,by omega,by omega⟩,by rw[Wi cmp hi,BpW cmp hp]⟩
noncomputable def Epi(l:List Sm):Senv:={ EC (Bgy 18 19 false (BbO l)) 29 4 [5,14,16,17,18,19] (fun _=>([],[])) with
 mg:=fun _=>2
 bd:=fun t=>match t with
  |60=>some 5
  |_=>none
 ann:=fun b env S=>match b with
  |0=>match Ab.look env 3 with
   |.ref k _ _=>some { slots:=[18],keep:=[0,1,3,16,17],α:=Nat×Nat,st:=fun y=>([.int .i64 y.1],⟨Gu S.objs k (.bldx 60 5 (bsl (wrF false ((ptB l).take y.1)).1 (.tok 0 y.2)) [.str (wrF false ((ptB l).take y.1)).2.1,.int .i64 (wrF false ((ptB l).take y.1)).2.2]),[(0,y.2)]⟩),inv:=fun y=>y.1<=(ptB l).length,mu:=fun y=>(ptB l).length-y.1 }
   |_=>none
  |_=>none }
def Qd3:Arr:=DA
def HD:Nd:=Nd.mk Z0 Z0 Z0 [] Z0 Z0 Qd3 [] [] Z0 Z0 Z0
def Qd4:Sm:=Sm.mk Z0 Z0 [] Z0 HD HD
def Vs(a:List Sm)(b:Nat):Sm:=List.getD a b Qd4
def QqB(a:List Sm)(b:Nat):List D:=(Sm.row1 (Vs a b))
def QqC(a:List Sm):D:=D.agg [D.sl 34 (LN a) (fun i=>QqB a i) Mode.any]
def QqD(a:List Sm):List D:=[QqC a]
def QqE(a:List Sm):Prop:=wkL (QqD a) (QqD a)
def QqF(a:List Sm):Prop:=True/\∃(_y:Unit),True/\CN (List UInt8) [] (BT a)/\True/\True
def Qd5(a:Nat)(b:List Sm):Prop:=a<=LN (ptB b)
def QqG(a:Nat)(b:List Sm):List UInt8×List UInt8×Int:=wrF false (List.take a (ptB b))
def QqH(a:Nat)(b:List Sm):List UInt8:=Prod.fst (QqG a b)
def Vt(a:Nat)(b:List Sm):Nat:=LN (QqH a b)
def HG(a:Nat)(b:List Sm)(c:Nat):List D:=[ZB (BI (QqH a b) c)]
def QqI(a:Nat)(b:List Sm):List UInt8×Int:=Prod.snd (QqG a b)
def HH(a:Nat)(b:List Sm):List UInt8:=Prod.fst (QqI a b)
def Xv(a:Nat)(b:List Sm):Int:=Prod.snd (QqI a b)
def QqJ(a:Nat)(b:List Sm):Prop:=SM a/\((SM (LN b)/\(∀(i:Nat),i<LN b->SM (QqB b i))/\True)/\True)/\True
def HI(a:List Sm):List (List UInt8):=List.map prT (ptB a)
def Qd6(a:List Sm):Int:=(LI (HI a))
def QqK(a b c:Nat)(d:List Sm):Prop:=Ow [(N0,a)] b b (60:Nat) (5:Nat) N0 a (Vt c d) fun i=>HG c d i
def HJ(a:List Sm)(b:Nat):List UInt8:=List.getD (HI a) (Int.toNat (↑b:Int)) []
def QwB(a:List Sm):D:=D.sl N1 (LN (HI a)) (fun i=>[D.str (List.getD (HI a) i [])]) Mode.any
def QwC(a:List Sm):D:=ZI (Qd6 a)
def QqL(a:Nat)(b:List Sm):List UInt8:=bytesOf (Vt a b) fun i=>HG a b i
def QqM(a:Nat)(b:List Sm):List UInt8:=wrO false (QqL a b) (HH a b) (Xv a b) (HJ b a)
def QqN(a:Nat)(b:List Sm):Nat:=LN (QqM a b)
def QqO(a:Nat)(b:List Sm):List UInt8:=QqL a b++[Co (10:Int)]
def Qd7(a:Nat)(b:List Sm):Nat:=LN (QqO a b)
def QqP(a:Nat)(b:List Sm)(c:Nat):List D:=[ZB (BI (QqO a b) c)]
theorem Boh(l:List Sm)(hl:l.length<=By)(ho:∀s∈l,s.ok)(hs:∀s∈l,s.sm):CD 8 [.agg [gsl 34 Sm.row1 l]] (.str (BT l)):=by
 refine Bf (A:=sC _ _) (x:=()) (E:=Epi l) (eOk (BcH (Bai hl ho hs) fun k kt x t o last y lv hp=>BnX _ _ _ k kt x t (Bo1 x t o last y lv hp.1 hp.2.1 hp.2.2.1 hp.2.2.2.1)) rfl) Tryz.func8 rfl (by kernel_rfl) rfl (by simp[sC,Epi,EC,E0]) ?_
 refine Bk (T :=
  ∀(x:Nat),True->SM x/\∃(x_1:Unit),QqE l/\∀(y:Unit),True->ifB (CI l != Z0) (QqF l) (SM x/\ifB ((LI l)==Z0) (QqF l) (∀(y t:Nat),x≠y/\True->SM x/\∃(x_2:Unit),(QqE l/\CI l=Z0)/\∀(y_1:Unit),True->(∃(x_3:Nat×Nat),Qd5 x_3.1 l/\(Z0=(NI x_3.1)/\True)/\(SM y/\((N0=Vt x_3.1 l/\(∀(i:Nat),i<N0->CN (List D) [] (HG x_3.1 l i))/\t=x_3.2)/\CN (List UInt8) [] (HH x_3.1 l)/\Z0=Xv x_3.1 l/\True)/\QqJ x l)/\t=x_3.2/\True)/\∀(x_3:Nat×Nat),Qd5 x_3.1 l->ifB (decide ((NI x_3.1)<Qd6 l)) (Be (Z0<=(NI x_3.1)/\(NI x_3.1)<Qd6 l) (((QqK x_3.2 y x_3.1 l/\BcR (Vt x_3.1 l) (HH x_3.1 l) (HJ l x_3.1) (Xv x_3.1 l)/\SM (18:Nat)/\SM (19:Nat))/\True)/\∀(y_2:Nat),True->(SM (QqC l)/\SM (D.ref N0 x N0)/\SM (D.ref (max (N0+N1) N0) y N0)/\SM (QwB l)/\SM (QwC l)/\True)/\∃(y_3:Nat×Nat),Qd5 y_3.1 l/\LN (ptB l)-y_3.1<LN (ptB l)-x_3.1/\(IntKind.wrap IntKind.i64 ((NI x_3.1)+Z1)=(NI y_3.1)/\True)/\(SM y/\((QqN x_3.1 l=Vt y_3.1 l/\(∀(i:Nat),i<QqN x_3.1 l->[ZB (BI (QqM x_3.1 l) i)]=HG y_3.1 l i)/\y_2=y_3.2)/\wrL (HJ l x_3.1)=HH y_3.1 l/\wrV (Xv x_3.1 l) (HJ l x_3.1)=Xv y_3.1 l/\True)/\QqJ x l)/\y_2=y_3.2/\True)) (((QqK x_3.2 y x_3.1 l/\(Z0<=10/\(10:Int)<=255)/\Vt x_3.1 l+N1<=140737488355328)/\True)/\∀(y_2:Nat),True->(((Ow [(N0,y_2)] y y (60:Nat) (5:Nat) N0 y_2 (Qd7 x_3.1 l) fun i=>QqP x_3.1 l i)/\Qd7 x_3.1 l<=140737488355328)/\True)/\∀(y:Unit),True->RT ((bytesOf (Qd7 x_3.1 l) fun i=>QqP x_3.1 l i)=BT l))))) (by kernel_rfl) ?_
 delta BI DA GI LI LN N0 N1 N4 NI SI SM U0 Z0 Z1 ZB ZI Qd3 HD QqB QqC Qd4 QqD QqE QqF Qd5 QqG QqH Vt HG QqI HH Vs Xv QqJ HI Qd6 QqK HJ QwB QwC QqL QqM QqN QqO Qd7 QqP RT
 try simp only[<- dm]
 try simp only[<- dn]
 simp only[ne_eq,implies_true,Int.toNat_natCast,Bh,Bc,decide_eq_true_eq,decide_eq_false_iff_not,true_and,and_true,beq_iff_eq,bne_iff_ne,bne_eq_false_iff_eq,beq_eq_false_iff_ne,exists_const,forall_const,Prod.exists]
 intro x
 refine⟨Bi _,fun h=>?_,fun h0=>⟨fun hl0=>?_,fun hl1=>?_⟩⟩
 ·rw[BT,if_neg fun hh=>h hh.1]
 ·rw[BT,if_neg fun hh=>hh.2 (List.length_eq_zero_iff.1 (by omega))]
 ·have e10:Co 10=10:=rfl
  simp only[Cp,e10]
  have hR:=GJ h0
  have hpt:=Beb hR ho
  have hm:((ptB l).map prT).length=(ptB l).length:=List.length_map ..
  intro y t hxy
  refine⟨⟨Bi _,h0⟩,⟨0,t,Nat.zero_le _,rfl,⟨⟨rfl,fun i hi=>absurd hi (by omega),rfl⟩,rfl,rfl⟩,rfl⟩,?_⟩
  rintro ⟨i,t1⟩ hi
  simp only at hi ⊢
  refine⟨fun hlt=>?_,fun hge=>?_⟩
  ·have hi':i<(ptB l).length:=by omega
   obtain ⟨wp,we⟩:=BjN false hR ho hi'
   refine⟨⟨by omega,hlt⟩,⟨EX _ _ _,wp⟩,fun t2=>⟨i+1,t2,hi',by omega,Bb (by omega) (by omega),⟨⟨?_,?_,rfl⟩,?_,?_⟩,rfl⟩⟩
   ·rw[we]
   ·intro j _
    rw[we]
   ·rw[we]
   ·rw[we]
  ·have hil:i=(ptB l).length:=by omega
   have w:=(Ws false hR ho hi).ol
   refine⟨⟨EX _ _ _,⟨by omega,by omega⟩,by omega⟩,fun t2=>⟨⟨EX _ _ _,?_⟩,?_⟩⟩
   ·simp only[List.length_append,List.length_cons,List.length_nil]
    omega
   ·rw[BT,if_pos ⟨h0,fun h=>hl1 (by rw[h];rfl)⟩,hil,List.take_length]
noncomputable def Ecm3(l:List Sm):Senv:={ EC (Bgy 26 28 true (BbO l)) 23 5 [6,9,11,12,13,14] (fun _=>([],[])) with
 mg:=fun _=>2
 bd:=fun t=>match t with
  |60=>some 5
  |_=>none
 ann:=fun b env S=>match b with
  |0=>match Ab.look env 4 with
   |.ref k _ _=>some { slots:=[13],keep:=[0,1,3,4,11,12],α:=Nat×Nat,st:=fun y=>([.int .i64 y.1],⟨Gu S.objs k (.bldx 60 5 (bsl (wrF true ((ptB l).take y.1)).1 (.tok 0 y.2)) [.str (wrF true ((ptB l).take y.1)).2.1,.int .i64 (wrF true ((ptB l).take y.1)).2.2]),[(0,y.2)]⟩),inv:=fun y=>y.1<=(ptB l).length,mu:=fun y=>(ptB l).length-y.1 }
   |_=>none
  |_=>none }
def Qd8:Arr:=DA
def HK:Nd:=Nd.mk Z0 Z0 Z0 [] Z0 Z0 Qd8 [] [] Z0 Z0 Z0
def Qd9:Sm:=Sm.mk Z0 Z0 [] Z0 HK HK
def Vu(a:List Sm)(b:Nat):Sm:=List.getD a b Qd9
def QqW(a:List Sm)(b:Nat):List D:=(Sm.row1 (Vu a b))
def QqX(a:List Sm):D:=D.agg [D.sl 34 (LN a) (fun i=>QqW a i) Mode.any]
def QqY(a:List Sm):List D:=[QqX a]
def QqZ(a:List Sm):Prop:=wkL (QqY a) (QqY a)
def Qea(a:Nat)(b:List Sm):Prop:=a<=LN (ptB b)
def Qq0(a:Nat)(b:List Sm):List UInt8×List UInt8×Int:=wrF true (List.take a (ptB b))
def Qq1(a:Nat)(b:List Sm):List UInt8:=Prod.fst (Qq0 a b)
def Vv(a:Nat)(b:List Sm):Nat:=LN (Qq1 a b)
def HN(a:Nat)(b:List Sm)(c:Nat):List D:=[ZB (BI (Qq1 a b) c)]
def Qq2(a:Nat)(b:List Sm):List UInt8×Int:=Prod.snd (Qq0 a b)
def HO(a:Nat)(b:List Sm):List UInt8:=Prod.fst (Qq2 a b)
def Xw(a:Nat)(b:List Sm):Int:=Prod.snd (Qq2 a b)
def Qq3(a:Nat)(b:List Sm):Prop:=SM a/\((SM (LN b)/\(∀(i:Nat),i<LN b->SM (QqW b i))/\True)/\True)/\True
def HP(a:List Sm):List (List UInt8):=List.map prT (ptB a)
def Qeb(a:List Sm):Int:=(LI (HP a))
def Qq4(a b c:Nat)(d:List Sm):Prop:=Ow [(N0,a)] b b (60:Nat) (5:Nat) N0 a (Vv c d) fun i=>HN c d i
def HQ(a:List Sm)(b:Nat):List UInt8:=List.getD (HP a) (Int.toNat (↑b:Int)) []
def QwH(a:List Sm):D:=D.sl N1 (LN (HP a)) (fun i=>[D.str (List.getD (HP a) i [])]) Mode.any
def QwI(a:List Sm):D:=ZI (Qeb a)
def Qq5(a:Nat)(b:List Sm):List UInt8:=bytesOf (Vv a b) fun i=>HN a b i
def Qq6(a:Nat)(b:List Sm):List UInt8:=wrO true (Qq5 a b) (HO a b) (Xw a b) (HQ b a)
def Qq7(a:Nat)(b:List Sm):Nat:=LN (Qq6 a b)
theorem Bj8(l:List Sm)(hl:l.length<=By)(ho:∀s∈l,s.ok)(hs:∀s∈l,s.sm):CD 10 [.agg [gsl 34 Sm.row1 l]] (.str (Cc l)):=by
 refine Bf (A:=sC _ _) (x:=()) (E:=Ecm3 l) (eOk (BcH (Bai hl ho hs) fun k kt x t o last y lv hp=>BnX _ _ _ k kt x t (Box x t o last y lv hp.1 hp.2.1 hp.2.2.1 hp.2.2.2.1 hp.2.2.2.2)) rfl) Tryz.func10 rfl (by kernel_rfl) rfl (by simp[sC,Ecm3,EC,E0]) ?_
 refine Bk (T :=
  ∀(x:Nat),True->SM x/\∃(x_1:Unit),QqZ l/\∀(y:Unit),True->ifB (CI l != Z0) (RT (CN (List UInt8) [] (Cc l))) (∀(y t:Nat),x≠y/\True->SM x/\∃(x_2:Unit),(QqZ l/\CI l=Z0)/\∀(y_1:Unit),True->(∃(x_3:Nat×Nat),Qea x_3.1 l/\(Z0=(NI x_3.1)/\True)/\(SM y/\((N0=Vv x_3.1 l/\(∀(i:Nat),i<N0->CN (List D) [] (HN x_3.1 l i))/\t=x_3.2)/\CN (List UInt8) [] (HO x_3.1 l)/\Z0=Xw x_3.1 l/\True)/\Qq3 x l)/\t=x_3.2/\True)/\∀(x_3:Nat×Nat),Qea x_3.1 l->ifB (decide ((NI x_3.1)<Qeb l)) (Be (Z0<=(NI x_3.1)/\(NI x_3.1)<Qeb l) (((Qq4 x_3.2 y x_3.1 l/\BcR (Vv x_3.1 l) (HO x_3.1 l) (HQ l x_3.1) (Xw x_3.1 l)/\SM (26:Nat)/\SM (28:Nat))/\True)/\∀(y_2:Nat),True->(SM (QqX l)/\SM (D.ref N0 x N0)/\SM (D.fn (Fn.func (26:Nat)) [] [])/\SM (D.ref (max (N0+N1) N0) y N0)/\SM (QwH l)/\SM (QwI l)/\True)/\∃(y_3:Nat×Nat),Qea y_3.1 l/\LN (ptB l)-y_3.1<LN (ptB l)-x_3.1/\(IntKind.wrap IntKind.i64 ((NI x_3.1)+Z1)=(NI y_3.1)/\True)/\(SM y/\((Qq7 x_3.1 l=Vv y_3.1 l/\(∀(i:Nat),i<Qq7 x_3.1 l->[ZB (BI (Qq6 x_3.1 l) i)]=HN y_3.1 l i)/\y_2=y_3.2)/\wrL (HQ l x_3.1)=HO y_3.1 l/\wrV (Xw x_3.1 l) (HQ l x_3.1)=Xw y_3.1 l/\True)/\Qq3 x l)/\y_2=y_3.2/\True)) (((Qq4 x_3.2 y x_3.1 l/\Vv x_3.1 l<=140737488355328)/\True)/\∀(y:Unit),True->RT (Qq5 x_3.1 l=Cc l)))) (by kernel_rfl) ?_
 delta BI DA GI LI LN N0 N1 N4 NI SI SM U0 Z0 Z1 ZB ZI Qd8 HK Qd9 Vu QqW QqX QqY QqZ Qea Qq0 Qq1 Vv HN Qq2 HO Xw Qq3 HP Qeb Qq4 HQ QwH QwI Qq5 Qq6 Qq7 RT
 try simp only[<- dm]
 try simp only[<- dn]
 simp only[ne_eq,implies_true,Int.toNat_natCast,Bh,Bc,decide_eq_true_eq,decide_eq_false_iff_not,true_and,and_true,bne_iff_ne,bne_eq_false_iff_eq,exists_const,forall_const,Prod.exists]
 intro x
 refine⟨Bi _,fun h=>?_,fun h0=>?_⟩
 ·rw[Cc,if_neg h]
 ·simp only[Cp]
  have hR:=GJ h0
  have hpt:=Beb hR ho
  have hm:((ptB l).map prT).length=(ptB l).length:=List.length_map ..
  intro y t hxy
  refine⟨⟨Bi _,h0⟩,⟨0,t,Nat.zero_le _,rfl,⟨⟨rfl,fun i hi=>absurd hi (by omega),rfl⟩,rfl,rfl⟩,rfl⟩,?_⟩
  rintro ⟨i,t1⟩ hi
  simp only at hi ⊢
  refine⟨fun hlt=>?_,fun hge=>?_⟩
  ·have hi':i<(ptB l).length:=by omega
   obtain ⟨wp,we⟩:=BjN true hR ho hi'
   refine⟨⟨by omega,hlt⟩,⟨EX _ _ _,wp⟩,fun t2=>⟨i+1,t2,hi',by omega,Bb (by omega) (by omega),⟨⟨?_,?_,rfl⟩,?_,?_⟩,rfl⟩⟩
   ·rw[we]
   ·intro j _
    rw[we]
   ·rw[we]
   ·rw[we]
  ·have hil:i=(ptB l).length:=by omega
   have w:=(Ws true hR ho hi).ol
   refine⟨⟨EX _ _ _,by omega⟩,?_⟩
   rw[Cc,if_pos h0,hil,List.take_length]
def pEG{β α:Type}(ds:List D)(S:St)(d:α->D)(q:α->Prop)(p:β->Prop):FnSpec where
 β:=β
 α:=α
 args:=fun _=>ds
 st:=fun _=>S
 pre:=p
 post:=fun _ y=>q y
 res:=fun _ y=>.ret (d y)
 out:=fun _ _=>S
 all:=true
def CG{α:Type}(k:Nat)(ds:List D)(d:α->D)(q:α->Prop):Prop:=ACalls Tryz.prog k ds ⟨[],[]⟩ (SpecR (pQ ds d q True) ())
theorem CG.wk{α:Type}{k:Nat}{ds us:List D}{d:α->D}{q:α->Prop}(h:CG k us d q)(hw:wkL ds us):CG k ds d q :=
 (ACalls.wkArgs h hw).mono fun _ _ ⟨y,q1,q2,q3⟩=>⟨y,q1,q2,q3⟩
theorem Ba2{β α : Type}{k : Nat}{ds : List D}{S : St}{d : α -> D}{q : α -> Prop}{p : β -> Prop}(h : ∀x, p x -> CG k ds d q) :
  (∀x,(pEG ds S d q p).pre x->ACalls Tryz.prog k ((pEG ds S d q p).args x) ((pEG ds S d q p).st x) (SpecR (pEG ds S d q p) x))/\(∀x,(pEG ds S d q p).fit=some x->(pEG ds S d q p).pre x->Br ds ((pEG ds S d q p).args x)/\leS ((pEG ds S d q p).st x) S)/\((pEG ds S d q p).all=true->∀x,(pEG ds S d q p).pre x->Br ds ((pEG ds S d q p).args x)/\(pEG ds S d q p).st x=S):=by
 refine⟨fun x hp=>?_,fun _ e=>(by cases e),fun _ _ _=>⟨Bj ds,rfl⟩⟩
 refine (((h x hp).frame S).from fun C F w H=>?_).mono ?_
 ·have e:(pEG ds S d q p).st x=S:=rfl
  rw[e] at H
  simpa[St.add] using H
 ·rintro r S' ⟨S0,⟨y,q1,rfl,rfl⟩,rfl⟩
  exact⟨y,q1,rfl,by simp[St.add,pQ,pEG]⟩
def RNds(n:Nd)(m:Int):Prop:=CG (α:=Int) 32 [.agg n.row2,.int .i64 m] (fun z=>.int .i64 z) (fun z=>0<=z/\z<=m)
def RSts(l:List Sm)(m:Int):Prop:=CG (α:=Int) 13 [gsl 34 Sm.row1 l,.int .i64 m] (fun z=>.int .i64 z) (fun z=>0<=z/\z<=m)
def BbR(p:Nd->Prop):Con:=fun k ds S=>match k with
 |32=>match ds with
  | [_,.int .i64 m]=>some (pEG (β:=Nd) (α:=Int) ds S (fun z=>.int .i64 z) (fun z=>0<=z/\z<=m) (fun b=>isN b ds [.int .i64 m]/\0<=m/\m<=2000/\p b))
  |_=>none
 |_=>none
theorem BaU{p:Nd->Prop}(h:∀b,p b->∀m,0<=m->m<=2000->RNds b m):ConOk Tryz.prog (BbR p):=by
 intro k ds S A hh
 unfold BbR at hh
 split at hh
 ·split at hh
  ·injection hh with hh;subst hh
   exact Ba2 fun b ⟨e,h0,h1,hb⟩=>CG.wk (CG.wk (h b hb _ h0 h1) (by simp only[wkL];exact⟨by simp only[wkD];exact TJ b,Bl _,trivial⟩)) e
  ·cases hh
 ·cases hh
def Bd9(p:Nd->Prop)(l:List Sm):Con:=fun k ds S=>match k with
 |13=>match ds with
  | [_,.int .i64 m]=>some (pEG (β:=Unit) (α:=Int) ds S (fun z=>.int .i64 z) (fun z=>0<=z/\z<=m) (fun _=>wkL ds [gsl 34 Sm.row1 l,.int .i64 m]/\0<=m/\m<=2000))
  |_=>none
 |k=>BbR p k ds S
theorem Biu{p:Nd->Prop}{l:List Sm}(h:∀b,p b->∀m,0<=m->m<=2000->RNds b m)(h2:∀m,0<=m->m<=2000->RSts l m):ConOk Tryz.prog (Bd9 p l):=by
 intro k ds S A hh
 unfold Bd9 at hh
 split at hh
 ·split at hh
  ·injection hh with hh;subst hh
   exact Ba2 fun _ ⟨e,h0,h1⟩=>CG.wk (h2 _ h0 h1) e
  ·cases hh
 ·exact BaU h _ _ _ _ hh
noncomputable def Ests(p:Nd->Prop)(l:List Sm):Senv:={ EC (BbR p) 53 2 [4,5,6,17,38] (fun id=>match id with | 5=>([0,1,2,3,4,5,6,7,8,9,10,11,12,13,14,15,16],[14]) | _=>([],[])) with
 mg:=fun _=>2
 ann:=fun b _ S=>match b with
  |0=>some { slots:=[6,5],keep:=[0,1],α:=Nat×Int,st:=fun y=>([.int .i64 y.1,.int .i64 y.2],S),inv:=fun y=>y.1<=l.length/\0<=y.2/\y.2<=20000000000,mu:=fun y=>l.length-y.1 }
  |_=>none }
def HR(a:Nat)(b:List Sm)(c:Int):Prop:=a<=LN b/\Z0<=c/\c<=20000000000
def Xx:Arr:=DA
def Vw:Nd:=Nd.mk Z0 Z0 Z0 [] Z0 Z0 Xx [] [] Z0 Z0 Z0
def Vx:Sm:=Sm.mk Z0 Z0 [] Z0 Vw Vw
def Qec(a:List Sm)(b:Nat):Sm:=List.getD a (Int.toNat (↑b:Int)) Vx
def Ks(a:List Sm)(b:Nat):Nd:=Sm.te (Qec a b)
def HT(a:Int)(b:List Sm)(c:Nat)(d:Int):Int:=IntKind.wrap IntKind.i64 (IntKind.wrap IntKind.i64 (a+(LI (Sm.nm (Qec b c))))+d)
def Kt(a:List Sm)(b:Nat):Nd:=Sm.nd (Qec a b)
def HV(a b:Int)(c:List Sm)(d:Nat)(e:Int):Int:=IntKind.wrap IntKind.i64 (a-HT b c d e)
def Qre(a b:Int)(c:List Sm)(d:Nat)(e:Int):List D:=[ZI (HV a b c d e)]
def Vy(a:List Sm)(b:Nat):Sm:=List.getD a b Vx
def QwR(a:List Sm):D:=D.sl 34 (LN a) (fun i=>(Sm.row1 (Vy a i))) Mode.any
def Qrl(a:List Sm)(b:Int):Prop:=SM (QwR a)/\SM (ZI b)/\True
def Qrm(a b:Int):Prop:=True/\∃(y:Int),(Z0<=y/\y<=a)/\(if a<b then a else b)=y/\True/\True
theorem BcN(p:Nd->Prop)(l:List Sm)(m:Int)(h0:0<=m)(h1:m<=2000)(hl:l.length<=By)(hn:∀s∈l,s.nm.length<=By)(h:∀b,p b->∀m,0<=m->m<=2000->RNds b m)(hb:∀s∈l,p s.te/\p s.nd):RSts l m:=by
 refine Bf (A:=pQ _ _ _ _) (x:=()) (E:=Ests p l) (eOk (BaU h) rfl) Tryz.func13 rfl (by kernel_rfl) rfl (by simp[pQ,Ests,EC,E0]) ?_
 refine Bk (T :=
  (∃(x:Nat×Int),HR x.1 l x.2/\(Z0=(NI x.1)/\(LI l)=x.2/\True)/\True/\True)/\∀(x:Nat×Int),HR x.1 l x.2->ifB (decide ((NI x.1)<(LI l))) (ifB (decide (x.2<m)) (Be (Z0<=(NI x.1)/\(NI x.1)<(LI l)) (Be (Z0<=(NI x.1)/\(NI x.1)<(LI l)) (∃(x_1:Nd),(isN x_1 [D.agg (Nd.rowE (Ks l x.1)),ZI m] [ZI m]/\Z0<=m/\m<=2000/\p x_1)/\∀(y:Int),Z0<=y/\y<=m->ifB (decide (HT x.2 l x.1 y<m)) (Be (Z0<=(NI x.1)/\(NI x.1)<(LI l)) (∃(x_2:Nd),(isN x_2 (D.agg (Nd.rowE (Kt l x.1))::Qre m x.2 l x.1 y) (Qre m x.2 l x.1 y)/\Z0<=HV m x.2 l x.1 y/\HV m x.2 l x.1 y<=2000/\p x_2)/\∀(y_1:Int),Z0<=y_1/\y_1<=HV m x.2 l x.1 y->Qrl l m/\∃(y_2:Nat×Int),HR y_2.1 l y_2.2/\LN l-y_2.1<LN l-x.1/\(IntKind.wrap IntKind.i64 ((NI x.1)+Z1)=(NI y_2.1)/\IntKind.wrap IntKind.i64 (HT x.2 l x.1 y+y_1)=y_2.2/\True)/\True/\True)) (Qrl l m/\∃(y_1:Nat×Int),HR y_1.1 l y_1.2/\LN l-y_1.1<LN l-x.1/\(IntKind.wrap IntKind.i64 ((NI x.1)+Z1)=(NI y_1.1)/\HT x.2 l x.1 y=y_1.2/\True)/\True/\True)))) (Qrm m x.2)) (Qrm m x.2)) (by kernel_rfl) ?_
 delta DA GI LI LN N1 N4 NI SI SM Z0 Z1 ZI HR Xx HT Kt Vw HV Qre Vy Vx QwR Qrl Qrm Qec Ks
 try simp only[<- dm]
 try simp only[<- dn]
 simp only[Int.toNat_natCast,Bh,Bc,decide_eq_true_eq,decide_eq_false_iff_not,true_and,and_true,Prod.exists]
 unfold By at hl hn
 have fin:∀c:Int,0<=c->∃y,(0<=y/\y<=m)/\(if m<c then m else c)=y:=fun c hc=>⟨_,⟨by split<;>omega,by split<;>omega⟩,rfl⟩
 refine⟨⟨0,_,⟨Nat.zero_le _,by omega,by omega⟩,rfl,rfl⟩,?_⟩
 rintro ⟨i,c⟩ ⟨i1,c0,c1⟩
 simp only at i1 c0 c1 ⊢
 refine⟨fun hlt=>⟨fun hc=>?_,fun _=>fin c c0⟩,fun _=>fin c c0⟩
 have hlt':i<l.length:=by omega
 obtain ⟨q1,q2⟩:=hb _ (IR hlt')
 have hnm:=hn _ (IR hlt')
 have wi:IntKind.i64.wrap ((i:Int)+1)=((i+1:Nat):Int):=by rw[Bb (by omega) (by omega)];rfl
 have w1:IntKind.i64.wrap (c+((l.getD i default).nm.length:Int))=c+((l.getD i default).nm.length:Int):=Bb (by omega) (by omega)
 rw[w1]
 refine⟨⟨by omega,hlt⟩,⟨by omega,hlt⟩,(l.getD i default).te,⟨BB _ _,h0,h1,q1⟩,fun y ⟨y0,y1⟩=>?_⟩
 have w2:IntKind.i64.wrap (c+((l.getD i default).nm.length:Int)+y)=c+((l.getD i default).nm.length:Int)+y:=Bb (by omega) (by omega)
 rw[w2]
 refine⟨fun h2=>?_,fun h2=>⟨i+1,_,⟨hlt',by omega,by omega⟩,by omega,wi,rfl⟩⟩
 have w3:IntKind.i64.wrap (m-(c+((l.getD i default).nm.length:Int)+y))=m-(c+((l.getD i default).nm.length:Int)+y):=Bb (by omega) (by omega)
 rw[w3]
 refine⟨⟨by omega,hlt⟩,(l.getD i default).nd,⟨BB _ _,by omega,by omega,q2⟩,fun z ⟨z0,z1⟩=>⟨i+1,_,⟨hlt',?_,?_⟩,by omega,wi,rfl⟩⟩
 ·rw[Bb (by omega) (by omega)];omega
 ·rw[Bb (by omega) (by omega)];omega
noncomputable def Ends(p:Nd->Prop)(n:Nd):Senv:={ EC (Bd9 p n.bo) 63 3 [4,5,6,35,51] (fun _=>([],[])) with
 mg:=fun _=>2
 ann:=fun b _ S=>match b with
  |0=>some { slots:=[6,5],keep:=[0,1,2],α:=Nat×Int,st:=fun y=>([.int .i64 y.1,.int .i64 y.2],S),inv:=fun y=>y.1<=n.ki.length/\0<=y.2/\y.2<=100000000000000,mu:=fun y=>n.ki.length-y.1 }
  |_=>none }
def Qed(a:Nd):List Nd:=Nd.ki a
def Ji(a:Nd):Nat:=LN (Qed a)
def Qee(a:Nat)(b:Nd)(c:Int):Prop:=a<=Ji b/\Z0<=c/\c<=100000000000000
def Qef(a:Nd):List UInt8:=Nd.tx a
def HY(a:Nd):Arr:=Nd.va a
def Qrn(a:Nd):List Int:=Arr.nu (HY a)
def HZ(a:Nd):Nat:=LN (Qrn a)
def Qro(a:Nd):List Int:=Arr.sh (HY a)
def H0(a:Nd):Nat:=LN (Qro a)
def Qrp(a:Nd):List Arr:=Arr.it (HY a)
def H1(a:Nd):Nat:=LN (Qrp a)
def Qrq(a:Nd):Int:=Nd.kd a
def Qrr(a:Nd):Int:=Nd.at_ a
def Qrs(a:Nd):Int:=Nd.cl a
def Qrt(a:Nd):Int:=Nd.pr a
def Qru(a:Nd):Int:=Nd.op a
def Qrv(a:Nd):Int:=Arr.k (HY a)
def Qrw(a:Nd)(b:Nat):List D:=[ZI (GI (Qro a) b)]
def Qrx(a:Nd)(b:Nat):List D:=[ZI (GI (Qrn a) b)]
def Qeg:Arr:=DA
def Qry(a:Nd)(b:Nat):List D:=Arr.row (List.getD (Qrp a) b Qeg)
def Xy:Nd:=Nd.mk Z0 Z0 Z0 [] Z0 Z0 Qeg [] [] Z0 Z0 Z0
def Qrz(a:Nd)(b:Nat):List D:=Nd.row1 (List.getD (Qed a) b Xy)
def Qeh(a:Nd):Nat:=LN (Nd.bo a)
def QrA:Sm:=Sm.mk Z0 Z0 [] Z0 Xy Xy
def QrB(a:Nd)(b:Nat):List D:=Sm.row1 (List.getD (Nd.bo a) b QrA)
def QrC(a:Nd):Int:=Nd.de a
def QrD(a:Nd):Int:=Nd.sl a
def QrE(a:Nd):Int:=Nd.ss a
def QrF(a:Nat)(b:Nd):Prop:=(SM a/\(SM (Qrq b)/\SM (Qrr b)/\SM (Qrs b)/\SM (Qef b)/\SM (Qrt b)/\SM (Qru b)/\SM (Qrv b)/\(SM (H0 b)/\(∀(i:Nat),i<H0 b->SM (Qrw b i))/\True)/\(SM (HZ b)/\(∀(i:Nat),i<HZ b->SM (Qrx b i))/\True)/\(SM (H1 b)/\(∀(i:Nat),i<H1 b->SM (Qry b i))/\True)/\(SM (Ji b)/\(∀(i:Nat),i<Ji b->SM (Qrz b i))/\True)/\(SM (Qeh b)/\(∀(i:Nat),i<Qeh b->SM (QrB b i))/\True)/\SM (QrC b)/\SM (QrD b)/\SM (QrE b)/\True)/\True)/\True
def Kw(a:Nd)(b:Nat):Nd:=List.getD (Qed a) (Int.toNat (↑b:Int)) Xy
def Qei(a b:Int):List D:=[ZI (IntKind.wrap IntKind.i64 (a-b))]
def QrJ(a:Nd):D:=D.sl 34 (Qeh a) (fun i=>QrB a i) Mode.any
def QwU(a:Nd):D:=D.agg [ZI (Qrq a),ZI (Qrr a),ZI (Qrs a),D.str (Qef a),ZI (Qrt a),ZI (Qru a),ZI (Qrv a),D.sl N1 (H0 a) (fun i=>Qrw a i) Mode.any,D.sl N1 (HZ a) (fun i=>Qrx a i) Mode.any,D.sl N4 (H1 a) (fun i=>Qry a i) Mode.any,D.sl 15 (Ji a) (fun i=>Qrz a i) Mode.any,QrJ a,ZI (QrC a),ZI (QrD a),ZI (QrE a)]
def QrK(a:Nd)(b c:Int):List D:=QrJ a::Qei b c
def QrL(a b:Int)(c:Nat)(d:Nd):Prop:=ifB (decide (a<b)) (SM c/\∃(_x:Unit),(wkL (QrK d b a) (QrK d b a)/\Z0<=IntKind.wrap IntKind.i64 (b-a)/\IntKind.wrap IntKind.i64 (b-a)<=2000)/\∀(y:Int),Z0<=y/\y<=IntKind.wrap IntKind.i64 (b-a)->True/\∃(y_1:Int),(Z0<=y_1/\y_1<=b)/\(if b<IntKind.wrap IntKind.i64 (a+y) then b else IntKind.wrap IntKind.i64 (a+y))=y_1/\True/\True) (True/\∃(y:Int),(Z0<=y/\y<=b)/\(if b<a then b else a)=y/\True/\True)
theorem BlV(p:Nd->Prop)(n:Nd)(m:Int)(h0:0<=m)(h1:m<=2000)(hn:n.sm)(_ho:n.va.ok)(hvs:n.va.sm)(h:∀b,p b->∀m,0<=m->m<=2000->RNds b m)(hk:∀b∈n.ki,p b)(hst:∀m,0<=m->m<=2000->RSts n.bo m):RNds n m:=by
 refine Bf (A:=pQ _ _ _ _) (x:=()) (E:=Ends p n) (eOk (Biu h hst) rfl) Tryz.func32 rfl (by kernel_rfl) rfl (by simp[pQ,Ends,EC,E0]) ?_
 refine Bk (T :=
  ∀(x:Nat),True->SM x/\SM x/\SM x/\SM x/\(∃(x_1:Nat×Int),Qee x_1.1 n x_1.2/\(Z0=(NI x_1.1)/\IntKind.wrap IntKind.i64 (IntKind.wrap IntKind.i64 (IntKind.wrap IntKind.i64 (IntKind.wrap IntKind.i64 (Z1+(LI (Qef n)))+(NI (HZ n)))+(NI (H0 n)))+(NI (H1 n)))=x_1.2/\True)/\QrF x n)/\∀(x_1:Nat×Int),Qee x_1.1 n x_1.2->SM x/\ifB (decide ((NI x_1.1)<(NI (Ji n)))) (ifB (decide (x_1.2<m)) (SM x/\Be (Z0<=(NI x_1.1)/\(NI x_1.1)<(NI (Ji n))) (∃(x_2:Nd),(isN x_2 (D.agg (Nd.rowE (Kw n x_1.1))::Qei m x_1.2) (Qei m x_1.2)/\Z0<=IntKind.wrap IntKind.i64 (m-x_1.2)/\IntKind.wrap IntKind.i64 (m-x_1.2)<=2000/\p x_2)/\∀(y:Int),Z0<=y/\y<=IntKind.wrap IntKind.i64 (m-x_1.2)->(SM (QwU n)/\SM (ZI m)/\SM (D.ref N0 x N0)/\True)/\∃(y_1:Nat×Int),Qee y_1.1 n y_1.2/\Ji n-y_1.1<Ji n-x_1.1/\(IntKind.wrap IntKind.i64 ((NI x_1.1)+Z1)=(NI y_1.1)/\IntKind.wrap IntKind.i64 (x_1.2+y)=y_1.2/\True)/\QrF x n)) (QrL x_1.2 m x n)) (QrL x_1.2 m x n)) (by kernel_rfl) ?_
 delta DA GI LI LN N0 N1 N4 NI SI SM Z0 Z1 ZI Qed Ji Qee Qef HY Qrn HZ Qro H0 Qrp H1 Qrq Qrr Qrs Qrt Qru Qrv Qrw Qrx Qeg Qry Xy Qrz Qeh QrA QrB QrC QrD QrE QrF Kw Qei QrJ QwU QrK QrL
 try simp only[<- dm]
 try simp only[<- dn]
 simp only[implies_true,Int.toNat_natCast,Bh,Bc,decide_eq_true_eq,decide_eq_false_iff_not,true_and,and_true,exists_const,forall_const,Prod.exists]
 obtain ⟨k1,k2,_⟩:=It hn
 have hva:n.va.sh.length<=By/\n.va.nu.length<=By/\n.va.it.length<=By:=by
  cases hv:n.va with
  |mk k s nu it=>rw[hv] at hvs;simp only[Arr.sm] at hvs;exact⟨hvs.1,hvs.2.1,hvs.2.2.1⟩
 unfold By at k1 k2 hva
 obtain ⟨v1,v2,v3⟩:=hva
 have fin:∀c:Int,0<=c->∃y,(0<=y/\y<=m)/\(if m<c then m else c)=y:=fun c hc=>⟨_,⟨by split<;>omega,by split<;>omega⟩,rfl⟩
 have tail : ∀c : Int, 0<=c -> c<=100000000000000 -> (c<m -> (wkL [D.sl 34 n.bo.length (fun i=>(n.bo.getD i default).row1) Mode.any, D.int IntKind.i64 (IntKind.i64.wrap (m-c))] [D.sl 34 n.bo.length (fun i=>(n.bo.getD i default).row1) Mode.any, D.int IntKind.i64 (IntKind.i64.wrap (m-c))] /\ 0<=IntKind.i64.wrap (m-c) /\ IntKind.i64.wrap (m-c)<=2000) /\
   ∀(y:Int),0<=y/\y<=IntKind.i64.wrap (m-c)->∃y_1,(0<=y_1/\y_1<=m)/\(if m<IntKind.i64.wrap (c+y) then m else IntKind.i64.wrap (c+y))=y_1)/\(¬c<m->∃y,(0<=y/\y<=m)/\(if m<c then m else c)=y):=fun c c0 c1=>by
  refine⟨fun hc=>?_,fun _=>fin c c0⟩
  have w1:IntKind.i64.wrap (m-c)=m-c:=Bb (by omega) (by omega)
  rw[w1]
  refine⟨⟨Bi _,by omega,by omega⟩,fun y ⟨y0,y1⟩=>?_⟩
  rw[Bb (show (-9223372036854775808:Int)<=c+y by omega) (by omega)]
  exact fin _ (by omega)
 have w0:IntKind.i64.wrap (IntKind.i64.wrap (IntKind.i64.wrap (IntKind.i64.wrap (1+(n.tx.length:Int))+(n.va.nu.length:Int))+(n.va.sh.length:Int))+(n.va.it.length:Int))=1+(n.tx.length:Int)+n.va.nu.length+n.va.sh.length+n.va.it.length:=by
  rw[Bb (show (-9223372036854775808:Int)<=1+(n.tx.length:Int) by omega) (by omega),Bb (show (-9223372036854775808:Int)<=1+(n.tx.length:Int)+n.va.nu.length by omega) (by omega),Bb (show (-9223372036854775808:Int)<=1+(n.tx.length:Int)+n.va.nu.length+n.va.sh.length by omega) (by omega),Bb (by omega) (by omega)]
 rw[w0]
 refine⟨⟨0,_,⟨Nat.zero_le _,by omega,by omega⟩,rfl,rfl⟩,?_⟩
 rintro ⟨i,c⟩ ⟨i1,c0,c1⟩
 simp only at i1 c0 c1 ⊢
 refine⟨fun hlt=>⟨fun hc=>?_,fun _=>tail c c0 c1⟩,fun _=>tail c c0 c1⟩
 have hlt':i<n.ki.length:=by omega
 have w1:IntKind.i64.wrap (m-c)=m-c:=Bb (by omega) (by omega)
 rw[w1]
 refine⟨⟨by omega,hlt⟩,n.ki.getD i default,⟨BB _ _,by omega,by omega,hk _ (CY hlt')⟩,fun y ⟨y0,y1⟩=>⟨i+1,_,⟨hlt',?_,?_⟩,by omega,by rw[Bb (by omega) (by omega)];rfl,rfl⟩⟩
 ·rw[Bb (by omega) (by omega)];omega
 ·rw[Bb (by omega) (by omega)];omega
theorem BqL{n:Nd}(h:n.sm):n.va.sm:=by
 cases n with
 |mk kd at_ cl tx pr op va ki bo de sl ss =>
  simp only[Nd.sm] at h
  exact h.2.1
theorem Bot{s:Sm}(h:s.sm):s.nm.length<=By:=by
 cases s with
 |mk kd at_ nm sl te nd =>
  simp only[Sm.sm] at h
  exact h.1
theorem Bfi(n:Nd)(ho:n.ok)(hn:n.sm)(m:Int)(h0:0<=m)(h1:m<=2000):RNds n m :=
 BlV (fun b=>(b.ok/\b.sm)/\SizeOf.sizeOf b<SizeOf.sizeOf n) n m h0 h1 hn (BaY ho) (BqL hn) (fun b hb m h0 h1=>Bfi b hb.1.1 hb.1.2 m h0 h1) (fun b hb=>⟨⟨Baq ho b hb,Tw hn (GC hb)⟩,Nd.size_kid hb⟩) fun m h0 h1 =>
  BcN (fun b=>(b.ok/\b.sm)/\SizeOf.sizeOf b<SizeOf.sizeOf n) n.bo m h0 h1 (It hn).2.2 (fun s hs=>Bot (Bar hn s hs)) (fun b hb m h0 h1=>Bfi b hb.1.1 hb.1.2 m h0 h1) fun s hs =>
   have h2:=ME (Bar hn s hs)
   have o2:=EH (T8 ho s hs)
   have e:=Nd.size_stmt hs
   have e1:=Sm.size_te s
   have e2:=Sm.size_nd s
   ⟨⟨⟨o2.1,h2.1⟩,by omega⟩,⟨⟨o2.2,h2.2⟩,by omega⟩⟩
termination_by SizeOf.sizeOf n
decreasing_by
 ·exact hb.2
 ·exact hb.2
theorem BoY(l:List Sm)(hl:l.length<=By)(ho:∀s∈l,s.ok)(hs:∀s∈l,s.sm)(m:Int)(h0:0<=m)(h1:m<=2000):RSts l m :=
 BcN (fun b=>b.ok/\b.sm) l m h0 h1 hl (fun s h=>Bot (hs s h)) (fun b hb m h0 h1=>Bfi b hb.1 hb.2 m h0 h1) fun s h=>⟨⟨(EH (ho s h)).1,(ME (hs s h)).1⟩,(EH (ho s h)).2,(ME (hs s h)).2⟩
def Bg5:D:=.sl 1 0 (fun _=>[]) .nil
def BjB:List Int->D
 | []=>Bg5
 |z::l=>.sl 1 (l.length+1) (fun i=>((z::l).map fun z=>[D.int .i64 z]).getD i []) .full
def Bfm(w:Nat):List (List D)->D
 | []=>Bg5
 |r::l=>.sl w (l.length+1) (fun i=>(r::l).getD i []) .full
def Bpy:List Arr->D
 | []=>Bg5
 |a::l=>gsl 4 Arr.row (a::l)
mutual
def Nd.lit:Nd->List D
 |.mk kd at_ cl tx pr op va ki bo de sl ss=>[.int .i64 kd,.int .i64 at_,.int .i64 cl,.str tx,.int .i64 pr,.int .i64 op,.int .i64 va.k,BjB va.sh,BjB va.nu,Bpy va.it,Bfm 15 (GK ki),Bfm 34 (EV bo),.int .i64 de,.int .i64 sl,.int .i64 ss]
def Sm.lit:Sm->List D
 |.mk kd at_ nm sl te nd=>.int .i64 kd::.int .i64 at_::.str nm::.int .i64 sl::(te.lit++nd.lit)
def GK:List Nd->List (List D)
 | []=>[]
 |x::r=>x.lit::GK r
def EV:List Sm->List (List D)
 | []=>[]
 |x::r=>x.lit::EV r
end
theorem BfS:∀l:List Int,wkD (BjB l) (isl l .any)
 | []=>by simp[BjB,Bg5,isl,wkD,Ba,BE]
 |z::l=>by
  simp only[BjB,isl,wkD,Ba]
  refine⟨by simp,by simp,fun i hi=>?_,by simp[BE]⟩
  have hi:i<(z::l).length:=by simpa using hi
  have e:((z::l).map fun z=>[D.int .i64 z]).getD i []=[D.int .i64 ((z::l).getD i 0)]:=by
   rw[List.getD_eq_getElem?_getD,List.getElem?_map,List.getD_eq_getElem?_getD,List.getElem?_eq_getElem hi]
   rfl
  rw[e]
  exact Bi _
theorem Bmr:∀l:List Arr,wkD (Bpy l) (gsl 4 Arr.row l)
 | []=>by simp[Bpy,Bg5,gsl,wkD,Ba,BE,Uj]
 |a::l=>Bl _
theorem BbQ{w:Nat}:∀ {a b:List (List D)},a.length=b.length->(∀i,i<a.length->wkL (a.getD i []) (b.getD i []))->wkD (Bfm w a) (lsl w b)
 | [],[],_,_=>by simp[Bfm,Bg5,lsl,wkD,Ba,BE,Uj]
 | [],_::_,h,_=>by simp at h
 |_::_,[],h,_=>by simp at h
 |x::a,y::b,h,h2=>by
  simp only[Bfm,lsl,wkD,Ba]
  exact⟨by simp,by simpa using h,fun i hi=>h2 i (by simpa using hi),by simp[BE]⟩
theorem Ru:∀l:List Nd,(GK l).length=l.length
 | []=>by simp only[GK,List.length_nil]
 |x::r=>by simp only[GK,List.length_cons,Ru r]
theorem Ol:∀l:List Sm,(EV l).length=l.length
 | []=>by simp only[EV,List.length_nil]
 |x::r=>by simp only[EV,List.length_cons,Ol r]
mutual
theorem Bfv:∀n:Nd,wkL n.lit n.row
 |.mk kd at_ cl tx pr op va ki bo de sl ss=>by
  simp only[Nd.lit,Nd.row,wkL]
  refine⟨Bl _,Bl _,Bl _,Bl _,Bl _,Bl _,Bl _,BfS _,BfS _,Bmr _,BbQ ?_ (BgO ki),BbQ ?_ (Bbu bo),Bl _,Bl _,Bl _,trivial⟩
  ·rw[Ru,I2,List.length_map]
  ·rw[Ol,Ej,List.length_map]
theorem Bpq:∀s:Sm,wkL s.lit s.row
 |.mk kd at_ nm sl te nd=>by
  simp only[Sm.lit,Sm.row,wkL]
  exact⟨Bl _,Bl _,Bl _,Bl _,UJ (Bfv te) (Bfv nd)⟩
theorem BgO:∀(l:List Nd) (i:Nat),i<(GK l).length->wkL ((GK l).getD i []) ((I7 l).getD i [])
 | [],i,h=>by simp[GK] at h
 |x::r,0,_=>by simp only[GK,I7,List.getD_cons_zero];exact Bfv x
 |x::r,i+1,h=>by
  simp only[GK,I7,List.getD_cons_succ]
  exact BgO r i (by simpa[GK] using h)
theorem Bbu:∀(l:List Sm) (i:Nat),i<(EV l).length->wkL ((EV l).getD i []) ((Ei l).getD i [])
 | [],i,h=>by simp[EV] at h
 |x::r,0,_=>by simp only[EV,Ei,List.getD_cons_zero];exact Bpq x
 |x::r,i+1,h=>by
  simp only[EV,Ei,List.getD_cons_succ]
  exact Bbu r i (by simpa[EV] using h)
end
def isP(l:List Sm)(ds:List D)(ex:List D):Prop:=wkL ds (.agg [lsl 34 (Ei l)]::ex)
def Bpm(b:Nd):Prop:=b.ok/\b.sm
theorem Bph(l:List Sm):wkD (Bfm 34 (EV l)) (lsl 34 (Ei l)):=BbQ (by rw[Ol,Ej,List.length_map]) (Bbu l)
theorem UO(l:List Sm)(ds:List D)(h:ds=[.agg [Bfm 34 (EV l)]]):isP l ds []:=by
 subst h
 simp only[isP,wkL,wkD]
 exact⟨⟨Bph l,trivial⟩,trivial⟩
theorem Bnf(l:List Sm):wkD (lsl 34 (Ei l)) (gsl 34 Sm.row l):=by rw[Ej];exact BeV
theorem CD.isP{k:Nat}{l:List Sm}{ds:List D}{d:D}(h:CD k [.agg [gsl 34 Sm.row1 l]] d)(hi:isP l ds []):CD k ds d:=by
 refine CD.wk (CD.wk (CD.wk h (us:=[.agg [gsl 34 Sm.row1 l]]) ?_) (ds:=[.agg [lsl 34 (Ei l)]]) (us:=[.agg [gsl 34 Sm.row l]]) ?_) hi
 ·simp only[wkL,wkD];exact⟨⟨Bef Bn1,trivial⟩,trivial⟩
 ·simp only[wkL,wkD];exact⟨⟨Bnf l,trivial⟩,trivial⟩
def MA(p:Int):Nd:=.mk 9 0 2 [] p 0 (.mk 0 [] [] []) [] [] 0 0 0
def Bd1:Nd:=.mk 16 0 2 [] 0 0 (.mk 0 [] [] []) [.mk 14 0 2 [] 0 0 (.mk 0 [] [] []) [.mk 17 0 3 [] 0 1 (.mk 0 [] [] []) [] [] 0 0 0,MA 1] [] 0 0 0,MA 4,MA 20] [] 0 0 0
def pB:List Sm:=[.mk 1 0 [] 0 nd0 (.mk 7 0 1 [] 0 0 (.mk 0 [] [] []) [] [] 0 0 0)]
theorem f0:Bpj nd0=11:=by decide +kernel
noncomputable def Epri:Senv:=EC E5 5 1 [2] (fun _=>([],[]))
def Xz:Prop:=SM N0/\(∀(i:Nat),i<N0->CN (List D) [] [])/\True
theorem Bo6(p:Int):CD 14 [.int .i64 p] (.agg (MA p).lit):=by
 refine Bf (A:=sC _ _) (x:=()) (E:=Epri) (eOk BJ rfl) Tryz.func14 rfl (by kernel_rfl) rfl (by simp[sC,Epri,EC,E0]) ?_
 refine Bk (T :=
  ∀(x:Nat),True->SM x/\(SM x/\True)/\∃(y:Unit),True/\(SM (9:Int)/\SM Z0/\SM (2:Int)/\CN (List UInt8) [] []/\SM p/\SM Z0/\SM Z0/\Xz/\Xz/\Xz/\Xz/\Xz/\SM Z0/\SM Z0/\SM Z0/\True)/\True/\True) (by kernel_rfl) ?_
 delta N0 SM Z0 Xz
 simp only[eq_self,implies_true,and_true,exists_const]
 try trivial
def Be2:List Sm:=[.mk 2 0 [97,118,103] 0 nd0 Bd1]
def Bmn:List Sm:=[.mk 2 0 [102] 0 nd0 (.mk 16 0 2 [] 0 0 (.mk 0 [] [] []) [MA 9,MA 11] [] 0 0 0)]
theorem fPA:BT Be2=[97,118,103,32,60,45,32,43,32,47,32,37,32,116,97,108,108,121,10]:=by decide +kernel
theorem fCA:Cc Be2=[97,118,103,60,45,43,47,37,116,97,108,108,121]:=by decide +kernel
theorem fCT:Cc Bmn=[102,60,45,60,32,61]:=by decide +kernel
theorem fP0:BT []=[]:=by decide +kernel
theorem gAvg:okS Be2:=by
 refine⟨by decide,fun s hs=>?_,fun s hs=>?_⟩
 ·rw[List.mem_singleton.1 hs]
  simp[Sm.ok,nd0,Bd1,MA,Nd.ok,Arr.ok,okL,Rq,Rw,Bs,maxLen]
 ·rw[List.mem_singleton.1 hs]
  simp[Sm.sm,nd0,Bd1,MA,Nd.sm,Arr.sm,smL,U2,WE,By]
theorem gTwo:okS Bmn:=by
 refine⟨by decide,fun s hs=>?_,fun s hs=>?_⟩
 ·rw[List.mem_singleton.1 hs]
  simp[Sm.ok,nd0,MA,Nd.ok,Arr.ok,okL,Rq,Rw,Bs,maxLen]
 ·rw[List.mem_singleton.1 hs]
  simp[Sm.sm,nd0,MA,Nd.sm,Arr.sm,smL,U2,WE,By]
theorem gNil:okS []:=⟨by decide,by simp,by simp⟩
noncomputable def Bky:Con:=fun k ds S=>match k with
 |14=>match ds with
  | [.int .i64 p]=>some (pA ds S (.agg (MA p).lit) True)
  |_=>none
 |8=>some (pE (β:=List Sm) ds S (fun l=>.str (BT l)) (fun l=>isP l ds []/\okS l))
 |10=>some (pE (β:=List Sm) ds S (fun l=>.str (Cc l)) (fun l=>isP l ds []/\okS l))
 |_=>none
theorem Bkv:ConOk Tryz.prog Bky:=by
 intro k ds S A hh
 unfold Bky at hh
 split at hh
 ·split at hh
  ·injection hh with hh;subst hh
   exact Bv fun _=>CD.at_ (Bo6 _) _
  ·cases hh
 ·injection hh with hh;subst hh
  exact EJ fun l ⟨e,h⟩=>CD.at_ (CD.isP (Boh l h.1 h.2.1 h.2.2) e) _
 ·injection hh with hh;subst hh
  exact EJ fun l ⟨e,h⟩=>CD.at_ (CD.isP (Bj8 l h.1 h.2.1 h.2.2) e) _
 ·cases hh
noncomputable def Eli:Senv:={ EC Bky 41 4 [] (fun id=>match id with | 2=>([0,1,2,3,4,5,6,7,8,9],[1,2,3,6,8,9]) | _=>([],[])) with mg:=fun _=>2 }
def Qf:D:=ZI Z0
def KO:D:=ZI 2
def KE:D:=D.str []
def Qj:D:=D.sl N1 N0 (fun _x=>[]) Mode.nil
def H3:List D:=[Qj,Qf,Qf,Qf]
def QrM:List D:=Qf::Qj::Qj::Qj::Qj::H3
def XA:List D:=Qf::QrM
def QrN:List D:=ZI 14::Qf::KO::KE::Qf::Qf::Qf::Qj::Qj::Qj::D.sl 15 N2 (fun i=>List.getD [ZI 17::Qf::ZI 3::KE::Qf::ZI Z1::QrM,ZI 9::Qf::KO::KE::ZI Z1::XA] i []) Mode.full::H3
def QwV:D:=D.agg QrN
def XB(a:Nat):Prop:=SM a/\SM QwV
def QrO(a:List Sm):Prop:=isP a [D.agg [D.sl 34 N1 (fun i=>List.getD [KO::Qf::D.str [97,118,103]::Qf::Qf::Qf::Qf::KE::Qf::Qf::Qf::Qj::Qj::Qj::Qj::Qj::Qf::Qf::Qf::ZI 16::Qf::KO::KE::Qf::Qf::Qf::Qj::Qj::Qj::D.sl 15 (3:Nat) (fun i=>List.getD [QrN,ZI 9::Qf::KO::KE::ZI 4::XA,ZI 9::Qf::KO::KE::ZI 20::XA] i []) Mode.full::H3] i []) Mode.full]] []/\okS a
def Qej:Prop:=True/\∃(_y:Unit),True/\false=true/\True/\True
def QrP(a b:Nat):Prop:=SM a/\∃(_x:Unit),True/\∀(_y:Unit),True->∃(_x:Unit),True/\∀(_y:Unit),True->∀(x:Nat),a≠x/\b≠x/\True->SM x/\SM a/\∃(x_1:List Sm),QrO x_1/\∀(_y:Unit),True->ifB (BT x_1==[(97:UInt8),(118:UInt8),(103:UInt8),(32:UInt8),(60:UInt8),(45:UInt8),(32:UInt8),(43:UInt8),(32:UInt8),(47:UInt8),(32:UInt8),(37:UInt8),(32:UInt8),(116:UInt8),(97:UInt8),(108:UInt8),(108:UInt8),(121:UInt8),(10:UInt8)]) (SM a/\∃(x_2:List Sm),QrO x_2/\∀(_y:Unit),True->ifB (Cc x_2==[(97:UInt8),(118:UInt8),(103:UInt8),(60:UInt8),(45:UInt8),(43:UInt8),(47:UInt8),(37:UInt8),(116:UInt8),(97:UInt8),(108:UInt8),(108:UInt8),(121:UInt8)]) (SM x/\∃(x:List Sm),(isP x [D.agg [D.sl 34 N1 (fun i=>List.getD [KO::Qf::D.str [102]::Qf::Qf::Qf::Qf::KE::Qf::Qf::Qf::Qj::Qj::Qj::Qj::Qj::Qf::Qf::Qf::ZI 16::Qf::KO::KE::Qf::Qf::Qf::Qj::Qj::Qj::D.sl 15 N2 (fun i=>List.getD [ZI 9::Qf::KO::KE::ZI 9::XA,ZI 9::Qf::KO::KE::ZI 11::XA] i []) Mode.full::H3] i []) Mode.full]] []/\okS x)/\∀(_y:Unit),True->ifB (Cc x==[(102:UInt8),(60:UInt8),(45:UInt8),(60:UInt8),(32:UInt8),(61:UInt8)]) (∃(x:List Sm),(isP x [D.agg [Qj]] []/\okS x)/\∀(_y:Unit),True->True/\∃(_y:Unit),True/\(BT x==[])=true/\True/\True) Qej) Qej) Qej
def QrQ(a:Nat):Prop:=∀(x:Nat),a≠x/\True->QrP x a
def QrR(a b:Nat):Prop:=XB a/\QrP b a
def QrS(a b:Nat):Prop:=XB a/\∃(_x:Unit),True/\∀(_y:Unit),True->QrR a b
theorem BpQ:CD 7 [] (.bool true):=by
 refine Bf (A:=sC _ _) (x:=()) (E:=Eli) (eOk Bkv rfl) Tryz.func7 rfl (by kernel_rfl) rfl (by simp[sC,Eli,EC,E0]) ?_
 refine Bk (T :=
  ∃(x:Unit),True/\∀(y:Unit),True->∀(x:Nat),True->SM x/\SM x/\(∃(x_1:Unit),True/\∀(y:Unit),True->XB x/\(∃(x_2:Unit),True/\∀(y:Unit),True->XB x/\(QrQ x/\QrQ x)/\∀(x_3:Nat),x≠x_3/\True->QrR x x_3)/\∀(x_2:Nat),x≠x_2/\True->QrS x x_2)/\∀(x_1:Nat),x≠x_1/\True->XB x/\∃(x_2:Unit),True/\∀(y:Unit),True->QrS x x_1) (by kernel_rfl) ?_
 delta N0 N1 N2 SM Z0 Z1 ZI Qf XB QrO Qej QrP QrQ QrR QrS KO KE Qj H3 QrM XA QrN QwV
 simp only[eq_self,ne_eq,Bh,true_and,and_true,beq_iff_eq,beq_eq_false_iff_ne,exists_const,forall_const]
 intro x
 repeat' refine And.intro ?_ ?_
 all_goals exact fun _ _ _ _=>⟨Be2,⟨UO Be2 _ rfl,gAvg⟩,fun _=>⟨Be2,⟨UO Be2 _ rfl,gAvg⟩,fun _=>⟨Bmn,⟨UO Bmn _ rfl,gTwo⟩,fun _=>⟨[],⟨UO [] _ rfl,gNil⟩,fP0⟩,fun h=>absurd fCT h⟩,fun h=>absurd fCA h⟩,fun h=>absurd fPA h⟩
def Bkd(l:List Sm):Con:=fun k ds S=>match k with
 |13=>some (pEG (β:=Unit) (α:=Int) ds S (fun z=>.int .i64 z) (fun z=>0<=z/\z<=2000) (fun _=>wkL ds [gsl 34 Sm.row1 l,.int .i64 2000]))
 |_=>none
theorem Bi8{l:List Sm}(h:okS l):ConOk Tryz.prog (Bkd l):=by
 intro k ds S A hh
 unfold Bkd at hh
 split at hh
 ·injection hh with hh;subst hh
  exact Ba2 fun _ e=>CG.wk (BoY l h.1 h.2.1 h.2.2 2000 (by omega) (by omega)) e
 ·cases hh
noncomputable def Esl(l:List Sm):Senv:=EC (Bkd l) 7 3 [] (fun _=>([],[]))
def Qek:Arr:=DA
def H4:Nd:=Nd.mk Z0 Z0 Z0 [] Z0 Z0 Qek [] [] Z0 Z0 Z0
def Qel:Sm:=Sm.mk Z0 Z0 [] Z0 H4 H4
def Vz(a:List Sm)(b:Nat):Sm:=List.getD a b Qel
def QrZ(a:List Sm):List D:=[D.sl 34 (LN a) (fun i=>(Sm.row1 (Vz a i))) Mode.any,ZI 2000]
theorem Bp5(l:List Sm)(h:okS l):CG (α:=Bool) 6 [.agg [gsl 34 Sm.row1 l]] (fun b=>.bool b) (fun _=>True):=by
 refine Bf (A:=pQ _ _ _ _) (x:=()) (E:=Esl l) (eOk (Bi8 h) rfl) Tryz.func6 rfl (by kernel_rfl) rfl (by simp[pQ,Esl,EC,E0]) ?_
 refine Bk (T :=
  ∀(x:Nat),True->SM x/\∃(x:Unit),wkL (QrZ l) (QrZ l)/\∀(y:Int),Z0<=y/\y<=2000->True/\∃(y_1:Bool),True/\decide (y<2000)=y_1/\True/\True) (by kernel_rfl) ?_
 delta DA GI LN N1 N4 SI SM Z0 ZI Qek H4 Qel Vz QrZ
 try simp only[<- dm]
 try simp only[<- dn]
 simp only[true_and,and_true,exists_const,forall_const]
 exact⟨Bi _,fun y _=>⟨_,rfl⟩⟩
def sSt(args:List D)(S:St)(d:D):FnSpec where
 β:=Unit
 α:=Unit
 args:=fun _=>args
 st:=fun _=>S
 pre:=fun _=>True
 post:=fun _ _=>True
 res:=fun _ _=>.ret d
 out:=fun _ _=>S
abbrev scS (x:Nat) (s:List UInt8) (p:Int) (l:D):St:=⟨[(0,x,.cells [.str s,.int .i64 p,l])],[]⟩
def BC(q:UInt8->Bool)(s:List UInt8)(a:Nat):Nat:=a+((s.drop a).takeWhile q).length
theorem Ti{q:UInt8->Bool}{s:List UInt8}{a:Nat}(h:¬a<s.length):BC q s a=a:=by
 unfold BC
 rw[List.drop_eq_nil_of_le (by omega)];rfl
theorem Mm{q:UInt8->Bool}{s:List UInt8}{a:Nat}(h:a<s.length)(hq:q (s.getD a 0)=true):BC q s (a+1)=BC q s a:=by
 unfold BC
 rw[List.getD_eq_getElem?_getD,List.getElem?_eq_getElem h] at hq
 have hq:q s[a]=true:=hq
 rw[List.drop_eq_getElem_cons h,List.takeWhile_cons,if_pos hq,List.length_cons]
 omega
theorem UG{q:UInt8->Bool}{s:List UInt8}{a:Nat}(h:a<s.length)(hq:¬q (s.getD a 0)=true):BC q s a=a:=by
 unfold BC
 rw[List.getD_eq_getElem?_getD,List.getElem?_eq_getElem h] at hq
 have hq:¬q s[a]=true:=hq
 rw[List.drop_eq_getElem_cons h,List.takeWhile_cons,if_neg hq];rfl
theorem UF{q:UInt8->Bool}{s:List UInt8}{a:Nat}(h:a<=s.length):a<=BC q s a/\BC q s a<=s.length:=by
 have:=TK q (s.drop a)
 rw[List.length_drop] at this
 unfold BC
 omega
noncomputable def Eru(s:List UInt8)(a:Nat)(q:UInt8->Bool):Senv:={ EC E5 27 3 [6,23] (fun _=>([],[])) with
 ann:=fun b _ S=>match b with
  |0=>some { slots:=[1],keep:=[0,2],α:=Nat,st:=fun y=>([.int .i64 y],S),inv:=fun y=>y<=s.length/\BC q s y=BC q s a,mu:=fun y=>s.length-y }
  |_=>none }
def nln(b:UInt8):Bool:=b != 10
theorem Cy{P Q:Prop}[Decidable P][Decidable Q](h:P):decide Q=(decide P&&decide Q):=by simp[h]
theorem Cx{P Q:Prop}[Decidable P][Decidable Q](h:¬P):false=(decide P&&decide Q):=by simp[h]
theorem M4{b:UInt8}{n:Nat}(h:(b.toNat:Int)=n)(hn:n<256):b=UInt8.ofNat n:=by
 apply UInt8.toNat_inj.1
 rw[BX n hn];omega
theorem Gt(b:UInt8):dig b=true↔48<=(b.toNat:Int)/\(b.toNat:Int)<=57:=by
 unfold dig
 rw[Bool.and_eq_true,decide_eq_true_eq,decide_eq_true_eq];omega
theorem BgP(b:UInt8):alp b=true↔(97<=(b.toNat:Int)/\(b.toNat:Int)<=122)\/(65<=(b.toNat:Int)/\(b.toNat:Int)<=90):=by
 unfold alp low upp
 rw[Bool.or_eq_true,Bool.and_eq_true,Bool.and_eq_true,decide_eq_true_eq,decide_eq_true_eq,decide_eq_true_eq,decide_eq_true_eq];omega
theorem BgC(b:UInt8):aln b=true↔((97<=(b.toNat:Int)/\(b.toNat:Int)<=122)\/(65<=(b.toNat:Int)/\(b.toNat:Int)<=90))\/(48<=(b.toNat:Int)/\(b.toNat:Int)<=57):=by
 unfold aln
 rw[Bool.or_eq_true,BgP,Gt]
theorem W7(b:UInt8):B0 b=true↔(48<=(b.toNat:Int)/\(b.toNat:Int)<=57)\/(97<=(b.toNat:Int)/\(b.toNat:Int)<=102):=by
 unfold B0 TM
 cases h:dig b with
 |true=>simp only[if_true,Option.isSome_some,true_iff];exact .inl ((Gt b).1 h)
 |false =>
  have h0:¬(48<=(b.toNat:Int)/\(b.toNat:Int)<=57):=fun e=>by rw[(Gt b).2 e] at h;cases h
  simp only[Bool.false_eq_true,if_false]
  by_cases h2:(decide (97<=b.toNat)&&decide (b.toNat<=102))=true
  ·rw[if_pos h2]
   rw[Bool.and_eq_true,decide_eq_true_eq,decide_eq_true_eq] at h2
   exact⟨fun _=>.inr (by omega),fun _=>rfl⟩
  ·rw[if_neg h2]
   rw[Bool.and_eq_true,decide_eq_true_eq,decide_eq_true_eq] at h2
   exact⟨fun h=>(by cases h),fun h=>(by omega)⟩
theorem BmS(b:UInt8):nln b=true↔¬(b.toNat:Int)=10:=by
 unfold nln
 rw[bne_iff_ne]
 exact⟨fun h e=>h (M4 (n:=10) e (by decide)),fun h e=>h (by rw[e];rfl)⟩
def Qem(a:Nat)(b:List UInt8)(c:Nat):Prop:=a<=LN b/\BC dig b a=BC dig b c
def Qen(a:Nat)(b:List UInt8)(c:Int)(d:D):Prop:=(SM a/\(SM b/\SM c/\Bg d d/\True)/\True)/\True
def Qeo(a:List UInt8)(b:Nat):Bool:=bif decide ((48:Int)<=(BI a (Int.toNat (↑b:Int)))) then decide ((BI a (Int.toNat (↑b:Int)))<=57) else false
def Qr0(a:Nat)(b:List UInt8)(c d:Nat)(e:Int)(f:D):Prop:=True/\∃(_y:Unit),True/\(↑a:Int)=(NI (BC dig b c))/\Qen d b e f
theorem BmU(x : Nat)(s : List UInt8)(p : Int)(l : D)(a : Nat)(ha : a<=s.length)(hs : s.length<=By) :
  ACalls Tryz.prog 52 [.ref 0 x 0,.int .i64 a,.fn (.func 54) [] []] (scS x s p l) (SpecR (sSt [.ref 0 x 0,.int .i64 a,.fn (.func 54) [] []] (scS x s p l) (.int .i64 (BC dig s a:Nat))) ()):=by
 refine Bf (A:=sSt _ _ _) (x:=()) (E:=Eru s a dig) (eOk BJ rfl) Tryz.func52 rfl (by kernel_rfl) rfl (by simp[sSt,Eru,EC,E0]) ?_
 refine Bk (T :=
  (∃(x_1:Nat),Qem x_1 s a/\((↑a:Int)=(↑x_1:Int)/\True)/\Qen x s p l)/\∀(x_1:Nat),Qem x_1 s a->SM x/\ifB (decide ((↑x_1:Int)<(LI s))) (SM x/\Be (Z0<=(↑x_1:Int)/\(↑x_1:Int)<(LI s)) (ifB (decide ((48:Int)<=(BI s (Int.toNat (↑x_1:Int))))) (decide ((BI s (Int.toNat (↑x_1:Int)))<=57)=Qeo s x_1/\True) (false=Qeo s x_1/\True)/\True/\ifB (Qeo s x_1) ((SM (D.ref N0 x N0)/\SM (D.fn (Fn.func (54:Nat)) [] [])/\True)/\∃(y:Nat),Qem y s a/\LN s-y<LN s-x_1/\(IntKind.wrap IntKind.i64 ((↑x_1:Int)+Z1)=(↑y:Int)/\True)/\Qen x s p l) (Qr0 x_1 s a x p l))) (Qr0 x_1 s a x p l)) (by kernel_rfl) ?_
 delta BI LI LN N0 NI SM U0 Z0 Z1 Qem Qen Qeo Qr0
 simp only[eq_self,Bd,Int.toNat_natCast,Bh,Bc,decide_eq_true_eq,decide_eq_false_iff_not,true_and,and_true,Bool.cond_false_right,Bool.and_eq_true,Bool.and_eq_false_iff,exists_const]
 unfold By at hs
 refine⟨⟨a,⟨ha,rfl⟩,rfl⟩,fun y ⟨i1,i2⟩=>⟨fun hy=>?_,fun hy=>?_⟩⟩
 ·have hy':y<s.length:=by omega
  have hyes:dig (s.getD y 0)=true->∃z,(z<=s.length/\BC dig s z=BC dig s a)/\s.length-z<s.length-y/\IntKind.i64.wrap ((y:Int)+1)=(z:Int):=fun h=>⟨y+1,⟨by omega,by rw[Mm hy' h,i2]⟩,by omega,by rw[Bb (by omega) (by omega)];rfl⟩
  have hno:¬dig (s.getD y 0)=true->(y:Int)=((BC dig s a:Nat):Int):=fun h=>by rw[<- i2,UG hy' h]
  have hq:=Gt (s.getD y 0)
  refine⟨⟨by omega,hy⟩,?_⟩
  try simp only[bne_iff_ne,bne_eq_false_iff_eq,ne_eq]
  repeat' (first | intro _ | refine And.intro ?_ ?_)
  all_goals first
   |exact hyes (hq.2 (by omega))
   |exact hno (fun h=>by have:=hq.1 h;omega)
   |exact Cy (by assumption)
   |exact Cx (by assumption)
 ·rw[<- i2,Ti (by omega)]
def Qep(a:Nat)(b:List UInt8)(c:Nat):Prop:=a<=LN b/\BC aln b a=BC aln b c
def Qeq(a:Nat)(b:List UInt8)(c:Int)(d:D):Prop:=(SM a/\(SM b/\SM c/\Bg d d/\True)/\True)/\True
def KP(a:List UInt8)(b:Nat):Int:=(BI a (Int.toNat (↑b:Int)))
def Qer(a:List UInt8)(b:Nat):Bool:=bif decide ((97:Int)<=KP a b) then decide (KP a b<=122) else false
def Qr1(a:Nat)(b:List UInt8)(c d:Nat)(e:Int)(f:D):Prop:=(SM (D.ref N0 a N0)/\SM (D.fn (Fn.func (85:Nat)) [] [])/\True)/\∃(y:Nat),Qep y b c/\LN b-y<LN b-d/\(IntKind.wrap IntKind.i64 ((↑d:Int)+Z1)=(↑y:Int)/\True)/\Qeq a b e f
def Qr2(a:Nat)(b:List UInt8)(c d:Nat)(e:Int)(f:D):Prop:=True/\Qr1 a b c d e f
def Qes(a:List UInt8)(b:Nat):Bool:=bif decide ((48:Int)<=KP a b) then decide (KP a b<=57) else false
def Qr3(a:Nat)(b:List UInt8)(c d:Nat)(e:Int)(f:D):Prop:=True/\∃(_y:Unit),True/\(↑a:Int)=(NI (BC aln b c))/\Qeq d b e f
def Qr4(a:List UInt8)(b c d:Nat)(e:Int)(f:D):Prop:=ifB (decide ((48:Int)<=KP a b)) (decide (KP a b<=57)=Qes a b/\True) (false=Qes a b/\True)/\True/\True/\ifB (Qes a b) (Qr1 c a d b e f) (Qr3 b a d c e f)
theorem BmL(x : Nat)(s : List UInt8)(p : Int)(l : D)(a : Nat)(ha : a<=s.length)(hs : s.length<=By) :
  ACalls Tryz.prog 52 [.ref 0 x 0,.int .i64 a,.fn (.func 85) [] []] (scS x s p l) (SpecR (sSt [.ref 0 x 0,.int .i64 a,.fn (.func 85) [] []] (scS x s p l) (.int .i64 (BC aln s a:Nat))) ()):=by
 refine Bf (A:=sSt _ _ _) (x:=()) (E:=Eru s a aln) (eOk BJ rfl) Tryz.func52 rfl (by kernel_rfl) rfl (by simp[sSt,Eru,EC,E0]) ?_
 refine Bk (T :=
  (∃(x_1:Nat),Qep x_1 s a/\((↑a:Int)=(↑x_1:Int)/\True)/\Qeq x s p l)/\∀(x_1:Nat),Qep x_1 s a->SM x/\ifB (decide ((↑x_1:Int)<(LI s))) (SM x/\Be (Z0<=(↑x_1:Int)/\(↑x_1:Int)<(LI s)) (ifB (decide ((97:Int)<=KP s x_1)) (decide (KP s x_1<=122)=Qer s x_1/\True) (false=Qer s x_1/\True)/\True/\ifB (Qer s x_1) (True/\Qr2 x s a x_1 p l) (ifB (decide ((65:Int)<=KP s x_1)) (True/\ifB (decide (KP s x_1<=90)) (Qr2 x s a x_1 p l) (Qr4 s x_1 x a p l)) (True/\Qr4 s x_1 x a p l)))) (Qr3 x_1 s a x p l)) (by kernel_rfl) ?_
 delta BI LI LN N0 NI SM U0 Z0 Z1 Qes Qr3 Qr4 Qep Qeq KP Qer Qr1 Qr2
 simp only[eq_self,Bd,Int.toNat_natCast,Bh,Bc,decide_eq_true_eq,decide_eq_false_iff_not,true_and,and_true,Bool.cond_false_right,Bool.and_eq_true,Bool.and_eq_false_iff,exists_const]
 unfold By at hs
 refine⟨⟨a,⟨ha,rfl⟩,rfl⟩,fun y ⟨i1,i2⟩=>⟨fun hy=>?_,fun hy=>?_⟩⟩
 ·have hy':y<s.length:=by omega
  have hyes:aln (s.getD y 0)=true->∃z,(z<=s.length/\BC aln s z=BC aln s a)/\s.length-z<s.length-y/\IntKind.i64.wrap ((y:Int)+1)=(z:Int):=fun h=>⟨y+1,⟨by omega,by rw[Mm hy' h,i2]⟩,by omega,by rw[Bb (by omega) (by omega)];rfl⟩
  have hno:¬aln (s.getD y 0)=true->(y:Int)=((BC aln s a:Nat):Int):=fun h=>by rw[<- i2,UG hy' h]
  have hq:=BgC (s.getD y 0)
  refine⟨⟨by omega,hy⟩,?_⟩
  try simp only[bne_iff_ne,bne_eq_false_iff_eq,ne_eq]
  repeat' (first | intro _ | refine And.intro ?_ ?_)
  all_goals first
   |exact hyes (hq.2 (by omega))
   |exact hno (fun h=>by have:=hq.1 h;omega)
   |exact Cy (by assumption)
   |exact Cx (by assumption)
 ·rw[<- i2,Ti (by omega)]
def Qet(a:Nat)(b:List UInt8)(c:Nat):Prop:=a<=LN b/\BC B0 b a=BC B0 b c
def Qeu(a:Nat)(b:List UInt8)(c:Int)(d:D):Prop:=(SM a/\(SM b/\SM c/\Bg d d/\True)/\True)/\True
def VA(a:List UInt8)(b:Nat):Int:=(BI a (Int.toNat (↑b:Int)))
def Qev(a:List UInt8)(b:Nat):Bool:=bif decide ((48:Int)<=VA a b) then decide (VA a b<=57) else false
def Qr5(a:Nat)(b:List UInt8)(c d:Nat)(e:Int)(f:D):Prop:=(SM (D.ref N0 a N0)/\SM (D.fn (Fn.func (148:Nat)) [] [])/\True)/\∃(y:Nat),Qet y b c/\LN b-y<LN b-d/\(IntKind.wrap IntKind.i64 ((↑d:Int)+Z1)=(↑y:Int)/\True)/\Qeu a b e f
def Qew(a:Nat)(b:List UInt8)(c d:Nat)(e:Int)(f:D):Prop:=True/\∃(_y:Unit),True/\(↑a:Int)=(NI (BC B0 b c))/\Qeu d b e f
theorem Bm5(x : Nat)(s : List UInt8)(p : Int)(l : D)(a : Nat)(ha : a<=s.length)(hs : s.length<=By) :
  ACalls Tryz.prog 52 [.ref 0 x 0,.int .i64 a,.fn (.func 148) [] []] (scS x s p l) (SpecR (sSt [.ref 0 x 0,.int .i64 a,.fn (.func 148) [] []] (scS x s p l) (.int .i64 (BC B0 s a:Nat))) ()):=by
 refine Bf (A:=sSt _ _ _) (x:=()) (E:=Eru s a B0) (eOk BJ rfl) Tryz.func52 rfl (by kernel_rfl) rfl (by simp[sSt,Eru,EC,E0]) ?_
 refine Bk (T :=
  (∃(x_1:Nat),Qet x_1 s a/\((↑a:Int)=(↑x_1:Int)/\True)/\Qeu x s p l)/\∀(x_1:Nat),Qet x_1 s a->SM x/\ifB (decide ((↑x_1:Int)<(LI s))) (SM x/\Be (Z0<=(↑x_1:Int)/\(↑x_1:Int)<(LI s)) (ifB (decide ((48:Int)<=VA s x_1)) (decide (VA s x_1<=57)=Qev s x_1/\True) (false=Qev s x_1/\True)/\True/\ifB (Qev s x_1) (True/\Qr5 x s a x_1 p l) (ifB (decide ((97:Int)<=VA s x_1)) (True/\ifB (decide (VA s x_1<=102)) (Qr5 x s a x_1 p l) (Qew x_1 s a x p l)) (True/\Qew x_1 s a x p l)))) (Qew x_1 s a x p l)) (by kernel_rfl) ?_
 delta BI LI LN N0 NI SM U0 Z0 Z1 Qet Qeu VA Qev Qr5 Qew
 simp only[eq_self,Bd,Int.toNat_natCast,Bh,Bc,decide_eq_true_eq,decide_eq_false_iff_not,true_and,and_true,Bool.cond_false_right,Bool.and_eq_true,Bool.and_eq_false_iff,exists_const]
 unfold By at hs
 refine⟨⟨a,⟨ha,rfl⟩,rfl⟩,fun y ⟨i1,i2⟩=>⟨fun hy=>?_,fun hy=>?_⟩⟩
 ·have hy':y<s.length:=by omega
  have hyes:B0 (s.getD y 0)=true->∃z,(z<=s.length/\BC B0 s z=BC B0 s a)/\s.length-z<s.length-y/\IntKind.i64.wrap ((y:Int)+1)=(z:Int):=fun h=>⟨y+1,⟨by omega,by rw[Mm hy' h,i2]⟩,by omega,by rw[Bb (by omega) (by omega)];rfl⟩
  have hno:¬B0 (s.getD y 0)=true->(y:Int)=((BC B0 s a:Nat):Int):=fun h=>by rw[<- i2,UG hy' h]
  have hq:=W7 (s.getD y 0)
  refine⟨⟨by omega,hy⟩,?_⟩
  try simp only[bne_iff_ne,bne_eq_false_iff_eq,ne_eq]
  repeat' (first | intro _ | refine And.intro ?_ ?_)
  all_goals first
   |exact hyes (hq.2 (by omega))
   |exact hno (fun h=>by have:=hq.1 h;omega)
   |exact Cy (by assumption)
   |exact Cx (by assumption)
 ·rw[<- i2,Ti (by omega)]
def Qex(a:Nat)(b:List UInt8)(c:Nat):Prop:=a<=LN b/\BC nln b a=BC nln b c
def Qey(a:Nat)(b:List UInt8)(c:Int)(d:D):Prop:=(SM a/\(SM b/\SM c/\Bg d d/\True)/\True)/\True
def Qr6(a:Nat)(b:List UInt8)(c d:Nat)(e:Int)(f:D):Prop:=True/\∃(_y:Unit),True/\(↑a:Int)=(NI (BC nln b c))/\Qey d b e f
theorem BfB(x : Nat)(s : List UInt8)(p : Int)(l : D)(a : Nat)(ha : a<=s.length)(hs : s.length<=By) :
  ACalls Tryz.prog 52 [.ref 0 x 0,.int .i64 a,.fn (.func 53) [] []] (scS x s p l) (SpecR (sSt [.ref 0 x 0,.int .i64 a,.fn (.func 53) [] []] (scS x s p l) (.int .i64 (BC nln s a:Nat))) ()):=by
 refine Bf (A:=sSt _ _ _) (x:=()) (E:=Eru s a nln) (eOk BJ rfl) Tryz.func52 rfl (by kernel_rfl) rfl (by simp[sSt,Eru,EC,E0]) ?_
 refine Bk (T :=
  (∃(x_1:Nat),Qex x_1 s a/\((↑a:Int)=(↑x_1:Int)/\True)/\Qey x s p l)/\∀(x_1:Nat),Qex x_1 s a->SM x/\ifB (decide ((↑x_1:Int)<(LI s))) (SM x/\Be (Z0<=(↑x_1:Int)/\(↑x_1:Int)<(LI s)) (True/\ifB ((BI s (Int.toNat (↑x_1:Int))) != (10:Int)) ((SM (D.ref N0 x N0)/\SM (D.fn (Fn.func (53:Nat)) [] [])/\True)/\∃(y:Nat),Qex y s a/\LN s-y<LN s-x_1/\(IntKind.wrap IntKind.i64 ((↑x_1:Int)+Z1)=(↑y:Int)/\True)/\Qey x s p l) (Qr6 x_1 s a x p l))) (Qr6 x_1 s a x p l)) (by kernel_rfl) ?_
 delta BI LI LN N0 NI SM U0 Z0 Z1 Qex Qey Qr6
 simp only[eq_self,Bd,Int.toNat_natCast,Bh,Bc,decide_eq_true_eq,decide_eq_false_iff_not,true_and,and_true,exists_const]
 unfold By at hs
 refine⟨⟨a,⟨ha,rfl⟩,rfl⟩,fun y ⟨i1,i2⟩=>⟨fun hy=>?_,fun hy=>?_⟩⟩
 ·have hy':y<s.length:=by omega
  have hyes:nln (s.getD y 0)=true->∃z,(z<=s.length/\BC nln s z=BC nln s a)/\s.length-z<s.length-y/\IntKind.i64.wrap ((y:Int)+1)=(z:Int):=fun h=>⟨y+1,⟨by omega,by rw[Mm hy' h,i2]⟩,by omega,by rw[Bb (by omega) (by omega)];rfl⟩
  have hno:¬nln (s.getD y 0)=true->(y:Int)=((BC nln s a:Nat):Int):=fun h=>by rw[<- i2,UG hy' h]
  have hq:=BmS (s.getD y 0)
  refine⟨⟨by omega,hy⟩,?_⟩
  try simp only[bne_iff_ne,bne_eq_false_iff_eq,ne_eq]
  repeat' (first | intro _ | refine And.intro ?_ ?_)
  all_goals first
   |exact hyes (hq.2 (by omega))
   |exact hno (fun h=>by have:=hq.1 h;omega)
   |exact Cy (by assumption)
   |exact Cx (by assumption)
 ·rw[<- i2,Ti (by omega)]
theorem Bjq{s:List UInt8}{i:Nat}(_h:i<s.length)(ha:(s.getD i 0).toNat<128):Ir s i=((s.getD i 0).toNat,1):=by
 unfold Ir
 rw[I9]
 unfold Bj9
 have e:(s.drop i).getD 0 0=s.getD i 0:=by simp[List.getD_eq_getElem?_getD]
 rw[e]
 unfold Lib.decodeN
 rw[if_pos ha]
def IH(u:Bool)(ds:List UInt8):List UInt8:=if u=true then 95::ds else ds
def uL(u:Bool):Nat:=if u=true then 1 else 0
theorem BhZ{ds : List UInt8}{j n : Nat}(h : j<ds.length)(hn : IK (ds.take j) 0=some n) :
  IK (ds.take (j+1)) 0=if n<=(GX-((ds.getD j 0).toNat-48)) / 10 then some (10*n+((ds.getD j 0).toNat-48)) else none:=by
 have e:ds.take (j+1)=ds.take j++[ds.getD j 0]:=by
  rw[List.take_add_one,List.getElem?_eq_getElem h,List.getD_eq_getElem?_getD,List.getElem?_eq_getElem h];rfl
 rw[e,OX,hn]
 rfl
theorem BhW{ds:List UInt8}{j:Nat}(hn:IK (ds.take j) 0=none):IK ds 0=none:=by
 rw[<- List.take_append_drop j ds,OX,hn]
 rfl
noncomputable def ErdK(u:Bool)(ds:List UInt8):Senv:={ EC E5 49 1 [2,3,4,5,6,7,8,9,11,12,13,16,23,39,45] (fun _=>([],[])) with
 ann:=fun b env _=>match b,Ab.look env 11 with
  |0,.ref k y 0=>some { slots:=[4,5,6],keep:=[0,11],α:=Nat×Nat,st:=fun z=>([.int .i64 z.2,.int .i64 ((z.1-uL u:Nat):Int),.int .i64 (if u=true/\1<=z.1 then -1 else 1)],⟨[(k,y,.sit (IH u ds) z.1)],[]⟩),inv:=fun z=>z.1<=(IH u ds).length/\z.2<=GX/\IK (ds.take (z.1-uL u)) 0=some z.2,mu:=fun z=>(IH u ds).length-z.1 }
  |_,_=>none }
def rdN(u:Bool)(ds:List UInt8):Int:=match IK ds 0 with
 |none=>0
 |some n=>if u=true then -(n:Int) else n
def rdE(ds:List UInt8):Int:=match IK ds 0 with
 |none=>4
 |some _=>0
def Bow(u:Bool)(ds:List UInt8):D:=.tup [.int .i64 (rdN u ds),.int .i64 (rdE ds)]
def Jj(a:Bool)(b:List UInt8):List UInt8:=IH a b
def H7(a:Nat)(b:Bool)(c:List UInt8)(d:Nat):Prop:=a<=LN (Jj b c)/\d<=4611686018427387903/\IK (List.take (a-uL b) c) N0=some d
def VB(a:Nat)(b:Bool):Int:=(NI (a-uL b))
def XC(a:Bool)(b:Nat):Int:=if a=true/\N1<=b then (-1:Int) else Z1
def Qr7(a:Bool)(b:List UInt8):Prop:=SM (Jj a b)
def JN(a:Bool)(b:List UInt8)(c:Nat):Int:=(NI (Prod.fst (Ir (Jj a b) c)))
def Qez(a:Nat)(b:Bool)(c:List UInt8):Bool:=bif (↑a:Int)==Z0 then JN b c a==95 else false
def Qr8(a:Bool)(b:List UInt8)(c:Nat):Prop:=SM (D.str (Jj a b))/\SM (D.ref N0 c N0)/\True
def Qr9(a:Bool)(b:List UInt8)(c d:Nat):Prop:=LN (Jj a b)-c<LN (Jj a b)-d
def Qsa(a:Nat)(b:Bool)(c:List UInt8)(d e:Nat):Prop:=(SM a/\(Qr7 b c/\d+Prod.snd (Ir (Jj b c) d)=e)/\True)/\True
def QeA(a:Bool)(b:List UInt8)(c:Nat):Bool:=bif decide (JN a b c<48) then true else decide ((57:Int)<JN a b c)
def QeB(a:Bool)(b:List UInt8):Prop:=True/\∃(_y:Unit),True/\(Z0=rdN a b/\(4:Int)=rdE b/\True)/\True/\True
def Qsb(a:Bool)(b:List UInt8)(c:Nat):Int:=IntKind.wrap IntKind.i64 (IntKind.wrap IntKind.i32 (JN a b c-48))
theorem BmH(u:Bool)(ds:List UInt8)(hd:ds.all dig=true)(hne:ds≠[])(hl:ds.length<=4294967296):ACalls Tryz.prog 83 [.str (IH u ds)] ⟨[],[]⟩ (SpecR (sC [.str (IH u ds)] (Bow u ds)) ()):=by
 refine Bf (A:=sC _ _) (x:=()) (E:=ErdK u ds) (eOk BJ rfl) Tryz.func83 rfl (by kernel_rfl) rfl (by simp[sC,ErdK,EC,E0]) ?_
 refine Bk (T :=
  ∀(y:Nat),True->(∃(x:Nat×Nat),H7 x.1 u ds x.2/\(Z0=(NI x.2)/\Z0=VB x.1 u/\Z1=XC u x.1/\True)/\(SM y/\(Qr7 u ds/\N0=x.1)/\True)/\True)/\∀(x:Nat×Nat),H7 x.1 u ds x.2->SM y/\ifB (decide (x.1<LN (Jj u ds))) (ifB ((NI x.1)==Z0) ((JN u ds x.1==95)=Qez x.1 u ds/\True) (false=Qez x.1 u ds/\True)/\ifB (Qez x.1 u ds) (Qr8 u ds y/\∃(y_1:Nat×Nat),H7 y_1.1 u ds y_1.2/\Qr9 u ds y_1.1 x.1/\((NI x.2)=(NI y_1.2)/\VB x.1 u=VB y_1.1 u/\(-1:Int)=XC u y_1.1/\True)/\Qsa y u ds x.1 y_1.1) (ifB (decide (JN u ds x.1<48)) (true=QeA u ds x.1/\True) (decide ((57:Int)<JN u ds x.1)=QeA u ds x.1/\True)/\ifB (QeA u ds x.1) (QeB u ds) (ifB (decide (IntKind.wrap IntKind.i64 (Int.tdiv (IntKind.wrap IntKind.i64 ((4611686018427387903:Int)-Qsb u ds x.1)) (10:Int))<(NI x.2))) (QeB u ds) (Qr8 u ds y/\∃(y_1:Nat×Nat),H7 y_1.1 u ds y_1.2/\Qr9 u ds y_1.1 x.1/\(IntKind.wrap IntKind.i64 (IntKind.wrap IntKind.i64 ((10:Int)*(NI x.2))+Qsb u ds x.1)=(NI y_1.2)/\IntKind.wrap IntKind.i64 (VB x.1 u+Z1)=VB y_1.1 u/\XC u x.1=XC u y_1.1/\True)/\Qsa y u ds x.1 y_1.1)))) (ifB (VB x.1 u==Z0) (QeB u ds) (True/\∃(y:Unit),True/\(IntKind.wrap IntKind.i64 (XC u x.1*(NI x.2))=rdN u ds/\Z0=rdE ds/\True)/\True/\True))) (by kernel_rfl) ?_
 delta LN N0 N1 NI SM Z0 Z1 Jj H7 QeA QeB Qsb VB XC Qr7 JN Qez Qr8 Qr9 Qsa
 simp only[eq_self,ne_eq,Bh,decide_eq_true_eq,decide_eq_false_iff_not,true_and,and_true,beq_iff_eq,Bool.cond_false_right,Bool.cond_true_left,Bool.and_eq_true,Bool.and_eq_false_iff,Bool.or_eq_true,Bool.or_eq_false_iff,beq_eq_false_iff_ne,exists_const,forall_const]
 have hlen:(IH u ds).length=uL u+ds.length:=by cases u<;>simp[IH,uL];omega
 have hu:uL u<=1/\(u=true->uL u=1)/\(u=false->uL u=0):=by cases u<;>simp[uL]
 have hdl:0<ds.length:=List.length_pos_iff.2 hne
 have hby:∀j,j<ds.length->48<=((ds.getD j 0).toNat:Int)/\((ds.getD j 0).toNat:Int)<=57:=fun j hj=>by
  refine (Gt _).1 (List.all_eq_true.1 hd _ ?_)
  rw[List.getD_eq_getElem?_getD,List.getElem?_eq_getElem hj];exact List.getElem_mem hj
 have hat:∀i,i<(IH u ds).length->¬(u=true/\i=0)->(IH u ds).getD i 0=ds.getD (i-uL u) 0/\i-uL u<ds.length/\uL u<=i:=fun i hi hn=>by
  cases u with
  |false=>exact⟨rfl,by simpa[uL] using (by simpa[IH] using hi),Nat.zero_le _⟩
  |true =>
   cases i with
   |zero=>exact (hn ⟨rfl,rfl⟩).elim
   |succ i=>exact⟨rfl,by simpa[IH,uL] using hi,by simp[uL]⟩
 have h95:u=true->(IH u ds).getD 0 0=95:=fun h=>by subst h;rfl
 have hru:∀i,i<(IH u ds).length->Ir (IH u ds) i=(((IH u ds).getD i 0).toNat,1):=fun i hi=>by
  refine Bjq hi ?_
  by_cases h:u=true/\i=0
  ·rw[h.2,h95 h.1];decide
  ·obtain ⟨e,h1,_⟩:=hat i hi h
   rw[e]
   have:=hby _ h1
   omega
 refine⟨⟨(0,0),⟨Nat.zero_le _,by omega,by rw[Nat.zero_sub,List.take_zero];rfl⟩,⟨rfl,by simp,by simp⟩,rfl⟩,fun ⟨i,n⟩ ⟨i1,i2,i3⟩=>⟨fun hi=>?_,fun hi=>?_⟩⟩
 ·simp only at i1 i2 i3 hi ⊢
  rw[hru i hi]
  simp only
  by_cases hz:u=true/\i=0
  ·obtain ⟨rfl,rfl⟩:=hz
   rw[h95 rfl]
   refine⟨⟨fun _=>by simp,fun h=>absurd rfl h⟩,fun _=>⟨(1,n),⟨by simp only;omega,i2,i3⟩,by simp only;omega,⟨rfl,rfl,by simp⟩,rfl⟩,fun h=>?_⟩
   rcases h with h | h
   ·exact (h rfl).elim
   ·exact absurd rfl h
  ·obtain ⟨e,hj,hge⟩:=hat i hi hz
   rw[e]
   have hb:=hby _ hj
   have hstep:=BhZ hj i3
   have hiu:i+1-uL u=(i-uL u)+1:=by omega
   have hsg:(if u=true/\1<=i then (-1:Int) else 1)=if u=true/\1<=i+1 then -1 else 1:=by
    cases hu0:u with
    |false=>simp
    |true =>
     have:1<=i:=by
      refine Nat.pos_of_ne_zero fun h0=>hz ⟨hu0,h0⟩
     simp[this]
   have w1:IntKind.i32.wrap (((ds.getD (i-uL u) 0).toNat:Int)-48)=(((ds.getD (i-uL u) 0).toNat-48:Nat):Int):=by
    rw[Go.Ab.wrap_small (k:=.i32) rfl (by simp only[IntKind.bits];omega) (by simp only[IntKind.bits];omega)];omega
   have hd9:(ds.getD (i-uL u) 0).toNat-48<=9:=by omega
   rw[w1]
   generalize hdv:(ds.getD (i-uL u) 0).toNat-48=d at *
   have w2:IntKind.i64.wrap (d:Int)=(d:Int):=Bb (by omega) (by omega)
   have w3:IntKind.i64.wrap (4611686018427387903-(d:Int))=((4611686018427387903-d:Nat):Int):=by rw[Bb (by omega) (by omega)];omega
   have w4:IntKind.i64.wrap ((((4611686018427387903-d:Nat):Int)).tdiv 10)=(((4611686018427387903-d) / 10:Nat):Int):=by
    rw[Bbd,if_neg (by omega),Int.natAbs_natCast,Bb (by omega) (by omega)]
   rw[w2,w3,w4]
   have hm:GX=4611686018427387903:=rfl
   rw[hm] at hstep
   have h0:¬((ds.getD (i-uL u) 0).toNat:Int)=95:=by omega
   refine⟨⟨fun h=>by rw[show ((i:Int)==0)=true from by simpa using h];rfl,fun h=>by rw[show ((i:Int)==0)=false from by simpa using h];rfl⟩,fun h=>(h0 h.2).elim,fun _=>⟨⟨fun h=>by omega,fun h=>by rw[decide_eq_false h];rfl⟩,fun h=>by omega,fun _=>⟨fun hov=>?_,fun hov=>?_⟩⟩⟩
   ·rw[if_neg (by omega)] at hstep
    unfold rdN rdE
    rw[BhW hstep]
    exact⟨rfl,rfl⟩
   ·have hle:n<=(4611686018427387903-d) / 10:=by omega
    rw[if_pos hle] at hstep
    refine⟨(i+1,10*n+d),⟨by simp only;omega,by simp only;omega,by simp only;rw[hiu];exact hstep⟩,by simp only;omega,⟨?_,?_,hsg⟩,rfl⟩
    ·rw[Bb (n:=10*(n:Int)) (by omega) (by omega),Bb (by omega) (by omega)]
     simp only
     omega
    ·rw[Bb (by omega) (by omega)]
     simp only
     omega
 ·simp only at i1 i2 i3 hi ⊢
  have hie:i=uL u+ds.length:=by omega
  have htk:ds.take (i-uL u)=ds:=by rw[hie,Nat.add_sub_cancel_left,List.take_length]
  rw[htk] at i3
  refine⟨fun h=>by omega,fun _=>?_⟩
  unfold rdN rdE
  rw[i3]
  have h1:1<=i:=by omega
  refine⟨?_,rfl⟩
  cases hu0:u with
  |false =>
   simp only[Bool.false_eq_true,false_and,if_false,Int.one_mul]
   rw[Bb (by omega) (by omega)]
  |true =>
   simp only[true_and,h1,if_true]
   rw[Bb (by omega) (by omega)];omega
theorem OS{q:UInt8->Bool}{s:List UInt8}{a:Nat}:List.drop a (List.take (BC q s a) s)=(s.drop a).takeWhile q:=by
 unfold BC
 rw[List.drop_take,Nat.add_sub_cancel_left,Bgv]
theorem Ty{s : List UInt8}{p : Nat}(hp : p<s.length)(u : Bool)(hu : u=(s.getD p 0==95)) :
  Gj (s.drop p)=(if ((s.drop (p+uL u)).takeWhile dig)=[]\/(alp (s.getD (BC dig s (p+uL u)) 0)||s.getD (BC dig s (p+uL u)) 0==95)=true then .error (4,0)
   else match IK ((s.drop (p+uL u)).takeWhile dig) 0 with
    |none=>.error (4,0)
    |some n=>.ok (1,uL u+((s.drop (p+uL u)).takeWhile dig).length,if u=true then -(n:Int) else n,[])) /\
  List.drop p (List.take (BC dig s (p+uL u)) s)=IH u ((s.drop (p+uL u)).takeWhile dig):=by
 have e0:(s.drop p).getD 0 0=s.getD p 0:=by simp[List.getD_eq_getElem?_getD]
 have eu:(if (s.drop p).getD 0 0=95 then 1 else 0)=uL u:=by
  rw[e0,hu]
  by_cases h:s.getD p 0=95
  ·rw[if_pos h,h];rfl
  ·have h2:(s.getD p 0==95)=false:=by simpa using h
   rw[if_neg h,h2];rfl
 have eg:∀k,(s.drop (p+k)).getD 0 0=s.getD (p+k) 0:=fun k=>by simp[List.getD_eq_getElem?_getD]
 have e1:uL u=1↔u=true:=by cases u<;>simp[uL]
 constructor
 ·unfold Gj
  rw[eu]
  simp only
  rw[List.drop_drop,List.drop_drop,eg]
  have er:p+(uL u+((s.drop (p+uL u)).takeWhile dig).length)=BC dig s (p+uL u):=by unfold BC;omega
  rw[er]
  cases IK ((s.drop (p+uL u)).takeWhile dig) 0 with
  |none=>rfl
  |some n =>
   simp only[e1]
 ·cases hu0:u with
  |false=>rw[show p+uL false=p from rfl,OS];rfl
  |true =>
   have h95:s.getD p 0=95:=by rw[hu0] at hu;simpa using hu.symm
   have hr:=OS (q:=dig) (s:=s) (a:=p+1)
   have hle:p+1<=BC dig s (p+1):=by unfold BC;omega
   have e2:List.drop p (List.take (BC dig s (p+1)) s)=s.getD p 0::List.drop (p+1) (List.take (BC dig s (p+1)) s):=by
    have hl:p<(List.take (BC dig s (p+1)) s).length:=by rw[List.length_take];omega
    rw[List.drop_eq_getElem_cons hl]
    congr 1
    rw[List.getElem_take,List.getD_eq_getElem?_getD,List.getElem?_eq_getElem hp];rfl
   show List.drop p (List.take (BC dig s (p+1)) s)=95::_
   rw[e2,hr,h95]
   rfl
def R0(args:List D)(S:St)(d:D)(p:Prop):FnSpec where
 β:=Unit
 α:=Unit
 args:=fun _=>args
 st:=fun _=>S
 pre:=fun _=>p
 post:=fun _ _=>True
 res:=fun _ _=>.ret d
 out:=fun _ _=>S
def Wo:Lex->D
 |.error (e,_)=>.tup [.agg [.int .i64 0,.int .i64 0,.int .i64 0,.int .i64 0,.str []],.int .i64 e]
 |.ok (k,len,num,text)=>.tup [.agg [.int .i64 k,.int .i64 0,.int .i64 len,.int .i64 num,.str text],.int .i64 0]
def BdB(x:Nat)(s:List UInt8)(p:Int)(l:D):Con:=fun k ds _=>match k with
 |52=>match ds with
  | [_,.int .i64 a,.fn (.func 54) [] []]=>some (R0 [.ref 0 x 0,.int .i64 a,.fn (.func 54) [] []] (scS x s p l) (.int .i64 (BC dig s a.toNat:Nat)) (0<=a/\a<=s.length/\s.length<=By))
  | [_,.int .i64 a,.fn (.func 85) [] []]=>some (R0 [.ref 0 x 0,.int .i64 a,.fn (.func 85) [] []] (scS x s p l) (.int .i64 (BC aln s a.toNat:Nat)) (0<=a/\a<=s.length/\s.length<=By))
  | [_,.int .i64 a,.fn (.func 148) [] []]=>some (R0 [.ref 0 x 0,.int .i64 a,.fn (.func 148) [] []] (scS x s p l) (.int .i64 (BC B0 s a.toNat:Nat)) (0<=a/\a<=s.length/\s.length<=By))
  | [_,.int .i64 a,.fn (.func 53) [] []]=>some (R0 [.ref 0 x 0,.int .i64 a,.fn (.func 53) [] []] (scS x s p l) (.int .i64 (BC nln s a.toNat:Nat)) (0<=a/\a<=s.length/\s.length<=By))
  |_=>none
 |56=>match ds with
  | [.int .u8 z]=>some (pC [.int .u8 z] (.bool (alp (UInt8.ofNat z.toNat))) (0<=z/\z<256))
  |_=>none
 |54=>match ds with
  | [.int .u8 z]=>some (pC [.int .u8 z] (.bool (dig (UInt8.ofNat z.toNat))) (0<=z/\z<256))
  |_=>none
 |83=>match ds with
  | [.str t]=>some (pC [.str t] (Bow (t.getD 0 0==95) (if t.getD 0 0=95 then t.drop 1 else t)) ((if t.getD 0 0=95 then t.drop 1 else t).all dig=true/\(if t.getD 0 0=95 then t.drop 1 else t)≠[]/\t.length<=4294967296))
  |_=>none
 |_=>none
noncomputable def Enb(x:Nat)(s:List UInt8)(p:Int)(l:D):Senv:=EC (BdB x s p l) 80 1 [2,3,4,5,6,7,18,53,70] (fun id=>match id with | 7=>([0,1,2,3,4,5,6,7,8,9,10,11,12,13,14,15],[10]) | _=>([],[]))
def XD(a:Nat):Int:=IntKind.wrap IntKind.i64 ((↑a:Int)+Z1)
def Qsc:Prop:=SM (D.fn (Fn.func (54:Nat)) [] [])/\True
def XE(a:Nat)(b:List UInt8)(c:Nat)(d:D):Prop:=(SM a/\(SM b/\SM (↑c:Int)/\Bg d d/\True)/\True)/\True
def KQ(a:List UInt8)(b:Nat):Int:=(NI (BC dig a (Int.toNat (XD b))))
def QeC(a:Nat)(b:List UInt8):D:=Wo (Gj (List.drop a b))
def Jk(a b:Nat)(c:List UInt8)(d:Nat)(e:D):Prop:=SM a/\(SM a/\True)/\∃(_y:Unit),True/\Bg (D.tup [D.agg [ZI Z0,ZI Z0,ZI Z0,ZI Z0,D.str []],ZI 4]) (QeC b c)/\XE d c b e
def Qsd(a:List UInt8)(b:Nat):Nat:=Int.toNat (KQ a b)
def H8(a:List UInt8)(b:Nat):Int:=(BI a (Qsd a b))
def H9(a:Nat)(b:List UInt8):List UInt8:=List.drop (Int.toNat (↑a:Int)) (List.take (Qsd b a) b)
def Qse(a:Nat)(b:List UInt8):UInt8:=List.getD (H9 a b) N0 U0
def Qaa(a:Nat)(b:List UInt8):List UInt8:=if Qse a b=(95:UInt8) then List.drop N1 (H9 a b) else H9 a b
def Qsf(a b:Nat)(c:List UInt8)(d:Nat)(e:D):Prop:=SM a/\SM a/\Be (Z0<=(↑b:Int)/\(↑b:Int)<=KQ c b/\KQ c b<=(LI c)) ((List.all (Qaa b c) dig=true/\Qaa b c≠[]/\LN (H9 b c)<=4294967296)/\∀(_y:Unit),True->ifB (rdE (Qaa b c) != Z0) (Jk d b c a e) (SM a/\SM d/\(SM d/\True)/\∃(_y:Unit),True/\Bg (D.tup [D.agg [ZI Z1,ZI Z0,ZI (IntKind.wrap IntKind.i64 (KQ c b-(↑b:Int))),ZI (rdN (Qse b c==(95:UInt8)) (Qaa b c)),D.str []],ZI Z0]) (QeC b c)/\XE a c b e))
def KF(a:List UInt8)(b:Nat):Int:=(NI (BC dig a (Int.toNat (↑b:Int))))
def Qab(a:List UInt8)(b:Nat):Int:=(BI a (Int.toNat (KF a b)))
def Qac(a:Nat)(b:List UInt8):List UInt8:=List.drop (Int.toNat (↑a:Int)) (List.take (Int.toNat (KF b a)) b)
def Qsg(a:Nat)(b:List UInt8):UInt8:=List.getD (Qac a b) N0 U0
def Qad(a:Nat)(b:List UInt8):List UInt8:=if Qsg a b=(95:UInt8) then List.drop N1 (Qac a b) else Qac a b
def Qsh(a b:Nat)(c:List UInt8)(d:Nat)(e:D):Prop:=SM a/\SM a/\Be (Z0<=(↑b:Int)/\(↑b:Int)<=KF c b/\KF c b<=(LI c)) ((List.all (Qad b c) dig=true/\Qad b c≠[]/\LN (Qac b c)<=4294967296)/\∀(_y:Unit),True->ifB (rdE (Qad b c) != Z0) (Jk d b c a e) (SM a/\SM d/\(SM d/\True)/\∃(_y:Unit),True/\Bg (D.tup [D.agg [ZI Z1,ZI Z0,ZI (IntKind.wrap IntKind.i64 (KF c b-(↑b:Int))),ZI (rdN (Qsg b c==(95:UInt8)) (Qad b c)),D.str []],ZI Z0]) (QeC b c)/\XE a c b e))
theorem Bh9(hcon : ∀x s p l, ConOk Tryz.prog (BdB x s p l))(x : Nat)(s : List UInt8)(p : Nat)(l : D)(hp : p<s.length)(hs : s.length<=4294967296) :
  ACalls Tryz.prog 55 [.ref 0 x 0] (scS x s p l) (SpecR (sSt [.ref 0 x 0] (scS x s p l) (Wo (Gj (s.drop p)))) ()):=by
 refine Bf (A:=sSt _ _ _) (x:=()) (E:=Enb x s p l) (eOk (hcon x s p l) rfl) Tryz.func55 rfl (by kernel_rfl) rfl (by simp[sSt,Enb,EC,E0]) ?_
 refine Bk (T :=
  ∀(x_1:Nat),x≠x_1/\True->SM x/\SM x/\Be (Z0<=(↑p:Int)/\(↑p:Int)<(LI s)) (ifB ((BI s (Int.toNat (↑p:Int)))==95) (∃(x_2:Unit),(SM x/\SM (XD p)/\Qsc)/\XE x s p l/\(Z0<=XD p/\XD p<=(LI s)/\LN s<=8589934592)/\∀(y:Unit),True->ifB (KQ s p==XD p) (Jk x_1 p s x l) (SM x/\ifB (decide (KQ s p<(LI s))) (SM x/\Be (Z0<=KQ s p/\KQ s p<(LI s)) ((Z0<=H8 s p/\H8 s p<256)/\∀(y:Unit),True->ifB (alp (UInt8.ofNat (Int.toNat (H8 s p)))) (Jk x_1 p s x l) (SM x/\Be (Z0<=KQ s p/\KQ s p<(LI s)) (ifB (H8 s p==95) (Jk x_1 p s x l) (Qsf x p s x_1 l))))) (Qsf x p s x_1 l))) (∃(x_2:Unit),(SM x/\SM (↑p:Int)/\Qsc)/\XE x s p l/\(Z0<=(↑p:Int)/\(↑p:Int)<=(LI s)/\LN s<=8589934592)/\∀(y:Unit),True->ifB (KF s p==(↑p:Int)) (Jk x_1 p s x l) (SM x/\ifB (decide (KF s p<(LI s))) (SM x/\Be (Z0<=KF s p/\KF s p<(LI s)) ((Z0<=Qab s p/\Qab s p<256)/\∀(y:Unit),True->ifB (alp (UInt8.ofNat (Int.toNat (Qab s p)))) (Jk x_1 p s x l) (SM x/\Be (Z0<=KF s p/\KF s p<(LI s)) (ifB (Qab s p==95) (Jk x_1 p s x l) (Qsh x p s x_1 l))))) (Qsh x p s x_1 l))))) (by kernel_rfl) ?_
 delta BI LI LN N0 N1 NI SM U0 Z0 Z1 ZI XD Qsc Qaa Qsf KF Qab Qac Qsg Qad Qsh XE KQ QeC Jk Qsd H8 H9 Qse
 simp only[eq_self,ne_eq,Bd,Int.toNat_natCast,Bh,Bc,decide_eq_true_eq,decide_eq_false_iff_not,true_and,and_true,beq_iff_eq,beq_eq_false_iff_ne,exists_const,forall_const]
 have hal:∀u:Bool,(IH u ((s.drop (p+uL u)).takeWhile dig)).length<=s.length:=fun u=>by
  have:=TK dig (s.drop (p+uL u))
  rw[List.length_drop] at this
  cases u<;>simp only[IH,uL,if_true,if_false,Bool.false_eq_true,List.length_cons] at this ⊢<;>omega
 have had:∀k,((s.drop k).takeWhile dig).all dig=true:=fun k=>List.all_eq_true.2 fun b hb=>Wn dig _ b hb
 have hrl:∀k,k<=s.length->k<=BC dig s k/\BC dig s k<=s.length:=fun k hk=>UF hk
 have hru:∀k,BC dig s k=k+((s.drop k).takeWhile dig).length:=fun k=>rfl
 have hob:∀b:UInt8,UInt8.ofNat b.toNat=b:=fun b=>by simp
 have h95:∀b:UInt8,(b.toNat:Int)=95↔b=95:=fun b=>⟨fun h=>M4 (n:=95) h (by decide),fun h=>by rw[h];rfl⟩
 have key : ∀(u : Bool) (ds : List UInt8) (R : Nat), u=(s.getD p 0==95) -> ds=(s.drop (p+uL u)).takeWhile dig -> R=BC dig s (p+uL u) ->
   (ds=[]\/alp (s.getD R 0)=true\/s.getD R 0=95->Bg (.tup [.agg [.int .i64 0,.int .i64 0,.int .i64 0,.int .i64 0,.str []],.int .i64 4]) (Wo (Gj (s.drop p)))) /\
   (¬ds=[]->¬alp (s.getD R 0)=true->¬s.getD R 0=95->((rdE ds != 0)=true->Bg (.tup [.agg [.int .i64 0,.int .i64 0,.int .i64 0,.int .i64 0,.str []],.int .i64 4]) (Wo (Gj (s.drop p)))) /\
    ((rdE ds != 0)=false->Bg (.tup [.agg [.int .i64 1,.int .i64 0,.int .i64 ((uL u+ds.length:Nat):Int),.int .i64 (rdN u ds),.str []],.int .i64 0]) (Wo (Gj (s.drop p))))):=by
  intro u ds R hu hds hR
  obtain ⟨n1,_⟩:=Ty hp u hu
  rw[<- hds,<- hR] at n1
  rw[n1]
  refine⟨fun h=>?_,fun q1 q2 q3=>?_⟩
  ·rw[if_pos (by
    rcases h with h | h | h
    ·exact .inl h
    ·exact .inr (by rw[h];rfl)
    ·exact .inr (by rw[h];simp))]
   exact Bd _
  ·rw[if_neg (by
    rintro (h | h)
    ·exact q1 h
    ·rw[Bool.or_eq_true,beq_iff_eq] at h
     rcases h with h | h
     ·exact q2 h
     ·exact q3 h)]
   unfold rdE rdN
   cases IK ds 0 with
   |none=>exact⟨fun _=>Bd _,fun h=>by simp at h⟩
   |some n=>exact⟨fun h=>by simp at h,fun _=>Bd _⟩
 have nxe:∀R,¬R<s.length->s.getD R 0=0:=fun R h=>Bao (by omega)
 intro x1 _
 refine⟨⟨by omega,by omega⟩,fun hp95=>?_,fun hp95=>?_⟩
 ·have hb:=(h95 _).1 hp95
  have hu:true=(s.getD p 0==95):=by rw[hb];rfl
  obtain ⟨_,hT⟩:=Ty hp true hu
  have w1:IntKind.i64.wrap ((p:Int)+1)=((p+1:Nat):Int):=by rw[Bb (by omega) (by omega)];rfl
  have hT:List.drop p (List.take (BC dig s (p+1)) s)=95::(s.drop (p+1)).takeWhile dig:=hT
  rw[w1]
  simp only[Int.toNat_natCast,hT,hob,h95,List.getD_cons_zero,if_true,List.drop_succ_cons,List.drop_zero,beq_self_eq_true]
  have hl:=hal true
  have hl:(95::(s.drop (p+1)).takeWhile dig).length<=s.length:=hl
  obtain ⟨k1,k2⟩:=key true _ _ hu rfl rfl
  obtain ⟨r1,r2⟩:=hrl (p+1) (by omega)
  have hR:=hru (p+1)
  have had:=had (p+1)
  revert k1 k2 hl hR r1 r2 had
  simp only[show uL true=1 from rfl]
  generalize BC dig s (p+1)=R
  generalize (s.drop (p+1)).takeWhile dig=ds
  intro hl k1 k2 r1 r2 hR had
  have hde:∀h:¬((R:Nat):Int)=((p+1:Nat):Int),¬ds=[]:=fun h e=>h (by rw[hR,e];rfl)
  have hlen:IntKind.i64.wrap ((R:Int)-(p:Int))=((1+ds.length:Nat):Int):=by rw[Bb (by omega) (by omega)];omega
  rw[hlen]
  have hb256:(0:Int)<=((s.getD R 0).toNat:Int)/\((s.getD R 0).toNat:Int)<256:=by
   have:=(s.getD R 0).toNat_lt;omega
  refine⟨⟨by omega,by omega,by omega⟩,fun h=>k1 (.inl (List.length_eq_zero_iff.1 (by omega))),fun h=>⟨fun hlt=>⟨⟨by omega,hlt⟩,hb256,fun ha=>k1 (.inr (.inl ha)),fun ha=>⟨⟨by omega,hlt⟩,fun hq=>k1 (.inr (.inr hq)),fun hq=>⟨⟨by omega,by omega,by omega⟩,⟨had,hde h,by omega⟩,(k2 (hde h) (by rw[ha];simp) hq).1,(k2 (hde h) (by rw[ha];simp) hq).2⟩⟩⟩,fun hge=>?_⟩⟩
  have hz:=nxe R (by omega)
  have hk:=k2 (hde h) (by rw[hz];decide) (by rw[hz];decide)
  exact⟨⟨by omega,by omega,by omega⟩,⟨had,hde h,by omega⟩,hk.1,hk.2⟩
 ·have hb:¬s.getD p 0=95:=fun h=>hp95 ((h95 _).2 h)
  have hu:false=(s.getD p 0==95):=by
   have:(s.getD p 0==95)=false:=by simpa using hb
   exact this.symm
  obtain ⟨_,hT⟩:=Ty hp false hu
  have hT:List.drop p (List.take (BC dig s p) s)=(s.drop p).takeWhile dig:=hT
  have hl:=hal false
  have hl:((s.drop p).takeWhile dig).length<=s.length:=hl
  have hh:¬((s.drop p).takeWhile dig).getD 0 0=95:=fun e=>by
   cases hd:(s.drop p).takeWhile dig with
   |nil=>rw[hd] at e;exact absurd e (by decide)
   |cons c r =>
    have hc:=Wn dig (s.drop p) c (by rw[hd];simp)
    rw[hd] at e
    have e:c=95:=e
    rw[e] at hc
    exact absurd hc (by decide)
  have hhb:(((s.drop p).takeWhile dig).getD 0 0==95)=false:=by simpa using hh
  simp only[hT,hob,h95,if_neg hh,hhb]
  obtain ⟨k1,k2⟩:=key false _ _ hu rfl rfl
  obtain ⟨r1,r2⟩:=hrl p (by omega)
  have hR:=hru p
  have had:=had p
  revert k1 k2 hl hR r1 r2 had
  simp only[show uL false=0 from rfl,Nat.add_zero,Nat.zero_add]
  generalize BC dig s p=R
  generalize (s.drop p).takeWhile dig=ds
  intro hl k1 k2 r1 r2 hR had
  have hde:∀h:¬((R:Nat):Int)=(p:Int),¬ds=[]:=fun h e=>h (by rw[hR,e];rfl)
  have hlen:IntKind.i64.wrap ((R:Int)-(p:Int))=((ds.length:Nat):Int):=by rw[Bb (by omega) (by omega)];omega
  rw[hlen]
  have hb256:(0:Int)<=((s.getD R 0).toNat:Int)/\((s.getD R 0).toNat:Int)<256:=by
   have:=(s.getD R 0).toNat_lt;omega
  refine⟨⟨by omega,by omega,by omega⟩,fun h=>k1 (.inl (List.length_eq_zero_iff.1 (by omega))),fun h=>⟨fun hlt=>⟨⟨by omega,hlt⟩,hb256,fun ha=>k1 (.inr (.inl ha)),fun ha=>⟨⟨by omega,hlt⟩,fun hq=>k1 (.inr (.inr hq)),fun hq=>⟨⟨by omega,by omega,by omega⟩,⟨had,hde h,by omega⟩,(k2 (hde h) (by rw[ha];simp) hq).1,(k2 (hde h) (by rw[ha];simp) hq).2⟩⟩⟩,fun hge=>?_⟩⟩
  have hz:=nxe R (by omega)
  have hk:=k2 (hde h) (by rw[hz];decide) (by rw[hz];decide)
  exact⟨⟨by omega,by omega,by omega⟩,⟨had,hde h,by omega⟩,hk.1,hk.2⟩
noncomputable def Edg:Senv:=EC E5 9 1 [2] (fun _=>([],[]))
noncomputable def Ealp:Senv:=EC E5 13 1 [2] (fun _=>([],[]))
def QeD(a:Int):Bool:=bif decide ((48:Int)<=a) then decide (a<=57) else false
theorem Bl4(z:Int)(h:0<=z/\z<256):ACalls Tryz.prog 54 [.int .u8 z] ⟨[],[]⟩ (SpecR (sC [.int .u8 z] (.bool (dig (UInt8.ofNat z.toNat)))) ()):=by
 refine Bf (A:=sC _ _) (x:=()) (E:=Edg) (eOk BJ rfl) Tryz.func54 rfl (by kernel_rfl) rfl (by simp[sC,Edg,EC,E0]) ?_
 refine Bk (T :=
  ifB (decide ((48:Int)<=z)) (decide (z<=57)=QeD z/\True) (false=QeD z/\True)/\RT (QeD z=dig (UInt8.ofNat (Int.toNat z)))) (by kernel_rfl) ?_
 delta QeD RT
 simp only[Bh,decide_eq_true_eq,decide_eq_false_iff_not,true_and,and_true,exists_const]
 have hb:((UInt8.ofNat z.toNat).toNat:Int)=z:=by rw[BX _ (by omega)];omega
 have hq:=Gt (UInt8.ofNat z.toNat)
 rw[hb] at hq
 simp only[Bool.cond_false_right]
 refine⟨⟨fun h=>Cy h,fun h=>Cx h⟩,?_⟩
 rw[Bool.eq_iff_iff,Bool.and_eq_true,decide_eq_true_eq,decide_eq_true_eq,hq]
def QeE(a:Int):Bool:=bif decide ((97:Int)<=a) then decide (a<=122) else false
def QeF(a:Int):Bool:=alp (UInt8.ofNat (Int.toNat a))
theorem BkO(z:Int)(h:0<=z/\z<256):ACalls Tryz.prog 56 [.int .u8 z] ⟨[],[]⟩ (SpecR (sC [.int .u8 z] (.bool (alp (UInt8.ofNat z.toNat)))) ()):=by
 refine Bf (A:=sC _ _) (x:=()) (E:=Ealp) (eOk BJ rfl) Tryz.func56 rfl (by kernel_rfl) rfl (by simp[sC,Ealp,EC,E0]) ?_
 refine Bk (T :=
  ifB (decide ((97:Int)<=z)) (decide (z<=122)=QeE z/\True) (false=QeE z/\True)/\True/\ifB (QeE z) (RT (true=QeF z)) (ifB (decide ((65:Int)<=z)) (RT (decide (z<=90)=QeF z)) (RT (false=QeF z)))) (by kernel_rfl) ?_
 delta QeE QeF RT
 simp only[Bh,decide_eq_true_eq,decide_eq_false_iff_not,true_and,and_true,exists_const]
 have hb:((UInt8.ofNat z.toNat).toNat:Int)=z:=by rw[BX _ (by omega)];omega
 have hq:=BgP (UInt8.ofNat z.toNat)
 rw[hb] at hq
 simp only[Bool.cond_false_right,Bool.and_eq_true,Bool.and_eq_false_iff,decide_eq_true_eq,decide_eq_false_iff_not]
 refine⟨⟨fun h=>Cy h,fun h=>Cx h⟩,fun h=>(hq.2 (.inl h)).symm,fun h=>⟨fun h1=>?_,fun h1=>?_⟩⟩
 ·rw[Bool.eq_iff_iff,decide_eq_true_eq,hq];omega
 ·cases ha:alp (UInt8.ofNat z.toNat) with
  |false=>rfl
  |true=>have:=hq.1 ha;omega
theorem Gm{k:Nat}{args:List D}{S:St}{d:D}{p:Prop}(h:p->ACalls Tryz.prog k args S (SpecR (sSt args S d) ())):∀x:Unit,p->ACalls Tryz.prog k args S (SpecR (R0 args S d p) x) :=
 fun _ hp=>(h hp).mono fun _ _ ⟨_,_q1,q2,q3⟩=>⟨(),trivial,q2,q3⟩
theorem Bfn(t:List UInt8):IH (t.getD 0 0==95) (if t.getD 0 0=95 then t.drop 1 else t)=t:=by
 by_cases h:t.getD 0 0=95
 ·rw[if_pos h,h]
  cases t with
  |nil=>exact absurd h (by decide)
  |cons c r =>
   have h:c=95:=h
   subst h;rfl
 ·have h2:(t.getD 0 0==95)=false:=by simpa using h
  rw[if_neg h,h2];rfl
theorem Bcb(x:Nat)(s:List UInt8)(p:Int)(l:D):ConOk Tryz.prog (BdB x s p l):=by
 have nn:∀ {a:Int},0<=a->((a.toNat:Nat):Int)=a:=fun h=>by omega
 intro k ds S A h
 unfold BdB at h
 split at h
 ·split at h
  ·injection h with h;subst h
   refine ConOk.plain (Gm fun ⟨h1,h2,h3⟩=>?_) rfl rfl
   have h2':=Int.toNat_le.2 h2
   have:=BmU x s p l _ h2' h3
   rw[nn h1] at this
   exact this
  ·injection h with h;subst h
   refine ConOk.plain (Gm fun ⟨h1,h2,h3⟩=>?_) rfl rfl
   have h2':=Int.toNat_le.2 h2
   have:=BmL x s p l _ h2' h3
   rw[nn h1] at this
   exact this
  ·injection h with h;subst h
   refine ConOk.plain (Gm fun ⟨h1,h2,h3⟩=>?_) rfl rfl
   have h2':=Int.toNat_le.2 h2
   have:=Bm5 x s p l _ h2' h3
   rw[nn h1] at this
   exact this
  ·injection h with h;subst h
   refine ConOk.plain (Gm fun ⟨h1,h2,h3⟩=>?_) rfl rfl
   have h2':=Int.toNat_le.2 h2
   have:=BfB x s p l _ h2' h3
   rw[nn h1] at this
   exact this
  ·cases h
 ·split at h
  ·injection h with h;subst h
   exact BM fun h=>⟨Bj _,BkO _ h⟩
  ·cases h
 ·split at h
  ·injection h with h;subst h
   exact BM fun h=>⟨Bj _,Bl4 _ h⟩
  ·cases h
 ·split at h
  ·rename_i t
   injection h with h;subst h
   refine BM fun ⟨h1,h2,h3⟩=>⟨Bj _,?_⟩
   have:=BmH (t.getD 0 0==95) _ h1 h2 (by split<;>(try rw[List.length_drop])<;>omega)
   rw[Bfn] at this
   exact this
  ·cases h
 ·cases h
theorem Bnj(x : Nat)(s : List UInt8)(p : Nat)(l : D)(hp : p<s.length)(hs : s.length<=4294967296) :
  ACalls Tryz.prog 55 [.ref 0 x 0] (scS x s p l) (SpecR (sSt [.ref 0 x 0] (scS x s p l) (Wo (Gj (s.drop p)))) ()):=Bh9 Bcb x s p l hp hs
theorem BfM{P Q:Prop}[Decidable P][Decidable Q](h:¬P):decide Q=(decide P||decide Q):=by simp[h]
theorem BfX:∀(a b:List UInt8) (n:Nat),hxV (a++b) n=hxV b (hxV a n)
 | [],_,_=>rfl
 |x::a,b,n=>by simp only[List.cons_append,hxV];exact BfX a b _
theorem Bns{b:UInt8}:(TM b).getD 0<16:=by
 unfold TM
 split
 ·rename_i h
  have:=(Gt b).1 h
  simp only[Option.getD_some];omega
 ·split
  ·rename_i h
   rw[Bool.and_eq_true,decide_eq_true_eq,decide_eq_true_eq] at h
   simp only[Option.getD_some];omega
  ·decide
theorem Bl5:∀(l:List UInt8) (n:Nat),hxV l n<(n+1)*16 ^ l.length
 | [],n=>by simp[hxV]
 |b::l,n=>by
  have h1:=Bl5 l (16*n+(TM b).getD 0)
  have h2:=Bns (b:=b)
  simp only[hxV,List.length_cons,Nat.pow_succ]
  refine Nat.lt_of_lt_of_le h1 ?_
  have:(16*n+(TM b).getD 0+1)*16 ^ l.length<=(16*(n+1))*16 ^ l.length:=Nat.mul_le_mul_right _ (by omega)
  refine Nat.le_trans this ?_
  rw[Nat.mul_comm 16 (n+1),Nat.mul_assoc,Nat.mul_comm 16 (16 ^ l.length)]
  exact Nat.le_refl _
theorem Ro{l:List UInt8}(h:l.length<=6):hxV l 0<16777216:=by
 have h1:=Bl5 l 0
 have h2:16 ^ l.length<=16 ^ 6:=Nat.pow_le_pow_right (by decide) h
 simp at h1
 omega
theorem Bms{l:List UInt8}{x:Nat}(h:x<l.length):hxV (l.take (x+1)) 0=16*hxV (l.take x) 0+(TM (l.getD x 0)).getD 0:=by
 have e:l.take (x+1)=l.take x++[l.getD x 0]:=by
  rw[List.take_add_one,List.getElem?_eq_getElem h,List.getD_eq_getElem?_getD,List.getElem?_eq_getElem h];rfl
 rw[e,BfX]
 rfl
theorem or32:∀n:Nat,97<=n->n<=102->orI .u8 (n:Int) 32=(n:Int):=by
 intro n h1 h2
 have:n=97\/n=98\/n=99\/n=100\/n=101\/n=102:=by omega
 rcases this with rfl | rfl | rfl | rfl | rfl | rfl<;>decide
noncomputable def Epu(ds:List UInt8):Senv:={ EC E5 172 3 [6,7,8,9,10,11,12,13,15,16,17,19,25,32,37,40,52,64,77,83,85,90,92,99,100,101,102,106,112,121,137,141,159,169] (fun _=>([],[])) with
 ann:=fun b _ S=>match b with
  |3=>some { slots:=[101,13],keep:=[0,1,6,7,8,10,11,12,99,100],α:=Nat,st:=fun y=>([.int .i64 y,.int .u64 (hxV (ds.take y) 0:Nat)],S),inv:=fun y=>y<=ds.length,mu:=fun y=>ds.length-y }
  |_=>none }
def QeG(a:List UInt8):Int:=(NI (hxV a N0))
def XF(a:List UInt8):Prop:=True/\∃(_y:Unit),True/\(Z0=QeG a/\D.iface (202:Nat) (ZI 2)=D.nili/\True)/\True/\True
def Jl(a:Nat)(b:List UInt8):Int:=(NI (hxV (List.take a b) N0))
def K4(a:List UInt8)(b:Nat):Int:=(BI a (Int.toNat (↑b:Int)))
def Qsi(a:List UInt8)(b:Nat):Bool:=bif K4 a b==95 then false else false
def Qsj(a:List UInt8)(b:Nat):Prop:=false=Qsi a b/\True
def QeH:Prop:=SM (D.bool false)
def Qw0(a:List UInt8)(b:Nat):D:=D.sl N1 (LN a) (fun i=>[ZB (BI a i)]) (Mode.tok N0 b)
def Qsk(a:List UInt8)(b:Nat):Prop:=SM (Qw0 a b)/\SM (ZI (LI a))/\True
def QeI(a b:Nat):Prop:=IntKind.wrap IntKind.i64 ((↑a:Int)+Z1)=(↑b:Int)
def QeJ(a:List UInt8)(b:Nat):Bool:=bif decide ((48:Int)<=K4 a b) then decide (K4 a b<=57) else false
def Qsl(a:Nat)(b:List UInt8):Bool:=decide ((1152921504606846976:Int)<=Jl a b)
def Qae(a:List UInt8):Prop:=True/\∃(_y:Unit),True/\((4294967295:Int)=QeG a/\D.iface (202:Nat) (ZI Z1)=D.nili/\True)/\True/\True
def Qaf(a:Nat)(b:List UInt8):Int:=IntKind.wrap IntKind.u64 (Jl a b*16)
def QeK(a:Nat)(b:List UInt8):Int:=IntKind.wrap IntKind.u64 (Qaf a b+IntKind.wrap IntKind.u64 (IntKind.wrap IntKind.u8 (K4 b a-48)))
def Qsm(a:Nat)(b:List UInt8):Bool:=decide (QeK a b<Qaf a b)
def Qsn(a:Nat)(b:List UInt8):Bool:=decide ((4294967295:Int)<QeK a b)
def QeL(a:Nat)(b:List UInt8):Bool:=bif Qsm a b then true else Qsn a b
def Qso(a:List UInt8)(b:Nat):Prop:=SM (D.str a)/\SM (ZI 16)/\SM (D.int IntKind.u64 Z0)/\SM D.nili/\QeH/\SM (D.int IntKind.u64 (1152921504606846976:Int))/\SM (D.int IntKind.u64 (4294967295:Int))/\QeH/\Qsk a b
def QeM(a:List UInt8)(b:Nat):Int:=orI IntKind.u8 (K4 a b) (32:Int)
def Qsp(a:List UInt8)(b:Nat):Int:=IntKind.wrap IntKind.u8 (IntKind.wrap IntKind.u8 (QeM a b-97)+10)
def QeN(a:Nat)(b:List UInt8):Int:=IntKind.wrap IntKind.u64 (Qaf a b+IntKind.wrap IntKind.u64 (Qsp b a))
def Qsq(a:Nat)(b:List UInt8):Bool:=decide (QeN a b<Qaf a b)
def Qsr(a:Nat)(b:List UInt8):Bool:=decide ((4294967295:Int)<QeN a b)
def QeO(a:Nat)(b:List UInt8):Bool:=bif Qsq a b then true else Qsr a b
theorem Bqj(ds:List UInt8)(hd:ds.all B0=true)(h1:1<=ds.length)(h6:ds.length<=6):ACalls Tryz.prog 194 [.str ds,.int .i64 16,.int .i64 32] ⟨[],[]⟩ (SpecR (sC [.str ds,.int .i64 16,.int .i64 32] (.tup [.int .u64 (hxV ds 0:Nat),.nili])) ()):=by
 refine Bf (A:=sC _ _) (x:=()) (E:=Epu ds) (eOk BJ rfl) Tryz.func194 rfl (by kernel_rfl) rfl (by simp[sC,Epu,EC,E0]) ?_
 refine Bk (T :=
  ifB (ds==[]) (XF ds) ((SM true/\True)/\(SM false/\True)/\True/\Be (LN ds<=9223372036854775807) (∀(t:Nat),(∃(x:Nat),x<=LN ds/\(Z0=(↑x:Int)/\Z0=Jl x ds/\True)/\True/\SM t/\True)/\∀(x:Nat),x<=LN ds->ifB (decide ((↑x:Int)<(LI ds))) (Be (Z0<=(↑x:Int)/\(↑x:Int)<(LI ds)) (ifB (K4 ds x==95) (Qsj ds x) (Qsj ds x)/\ifB (Qsi ds x) ((SM (D.str ds)/\SM (ZI 16)/\SM (D.int IntKind.u64 Z0)/\SM D.nili/\QeH/\SM (D.int IntKind.u64 (1152921504606846976:Int))/\SM (D.int IntKind.u64 (4294967295:Int))/\D.bool true=D.bool false/\Qsk ds t)/\∃(y:Nat),y<=LN ds/\LN ds-y<LN ds-x/\(QeI x y/\Jl x ds=Jl y ds/\True)/\True/\SM t/\True) (ifB (decide ((48:Int)<=K4 ds x)) (decide (K4 ds x<=57)=QeJ ds x/\True) (false=QeJ ds x/\True)/\ifB (QeJ ds x) (ifB (decide ((16:Int)<=IntKind.wrap IntKind.u8 (K4 ds x-48))) (XF ds) (ifB (Qsl x ds) (Qae ds) (ifB (Qsm x ds) (true=QeL x ds/\True) (Qsn x ds=QeL x ds/\True)/\ifB (QeL x ds) (Qae ds) (Qso ds t/\∃(y:Nat),y<=LN ds/\LN ds-y<LN ds-x/\(QeI x y/\QeK x ds=Jl y ds/\True)/\True/\SM t/\True)))) (True/\ifB (decide ((97:Int)<=QeM ds x)) (True/\ifB (decide (QeM ds x<=122)) (True/\ifB (decide ((16:Int)<=Qsp ds x)) (XF ds) (ifB (Qsl x ds) (Qae ds) (ifB (Qsq x ds) (true=QeO x ds/\True) (Qsr x ds=QeO x ds/\True)/\ifB (QeO x ds) (Qae ds) (Qso ds t/\∃(y:Nat),y<=LN ds/\LN ds-y<LN ds-x/\(QeI x y/\QeN x ds=Jl y ds/\True)/\True/\SM t/\True)))) (XF ds)) (XF ds))))) (True/\∃(y:Unit),True/\(Jl x ds=QeG ds/\True/\True)/\True/\True)))) (by kernel_rfl) ?_
 delta BI LI LN N0 N1 NI SM U0 Z0 Z1 ZB ZI QeG XF QeJ Qsl Qae Qaf QeK Qsm Qsn QeL Qso QeM Jl Qsp QeN Qsq Qsr QeO K4 Qsi Qsj QeH Qw0 Qsk QeI
 simp only[eq_self,ne_eq,Int.toNat_natCast,Bh,Bc,decide_eq_true_eq,decide_eq_false_iff_not,true_and,and_true,beq_iff_eq,Bool.cond_false_right,Bool.cond_true_left,Bool.and_eq_true,Bool.and_eq_false_iff,Bool.or_eq_true,Bool.or_eq_false_iff,beq_eq_false_iff_ne,exists_const,forall_const]
 have hne:¬ds=[]:=fun e=>by rw[e] at h1;exact absurd h1 (by decide)
 refine⟨fun h=>(hne h).elim,fun _=>⟨by omega,⟨0,Nat.zero_le _,rfl,rfl⟩,fun x hx=>⟨fun hlt=>?_,fun hge=>?_⟩⟩⟩
 ·have hlt':x<ds.length:=by omega
  have hb:=(W7 (ds.getD x 0)).1 (List.all_eq_true.1 hd _ (by rw[List.getD_eq_getElem?_getD,List.getElem?_eq_getElem hlt'];exact List.getElem_mem hlt'))
  have hn:=Ro (l:=ds.take x) (by rw[List.length_take];omega)
  have hst:=Bms hlt'
  have ex:∀v:Nat,(TM (ds.getD x 0)).getD 0=v->∃y,y<=ds.length/\ds.length-y<ds.length-x/\IntKind.i64.wrap ((x:Int)+1)=(y:Int)/\((hxV (ds.take x) 0*16+v:Nat):Int)=((hxV (ds.take y) 0:Nat):Int):=fun v hv=>⟨x+1,by omega,by omega,by rw[Bb (by omega) (by omega)];rfl,by rw[hst,hv];omega⟩
  have u1:IntKind.u64.wrap (((hxV (ds.take x) 0:Nat):Int)*16)=((hxV (ds.take x) 0*16:Nat):Int):=by
   have:=Ga (k:=.u64) rfl (a:=hxV (ds.take x) 0*16) (by simp only[IntKind.bits];omega)
   rw[<- this];congr 1;try omega
  have u2:∀v:Nat,v<16->IntKind.u64.wrap (v:Int)=(v:Int):=fun v hv=>Ga (k:=.u64) rfl (by simp only[IntKind.bits];omega)
  have u3:∀v:Nat,v<16->IntKind.u64.wrap (((hxV (ds.take x) 0*16:Nat):Int)+(v:Int))=((hxV (ds.take x) 0*16+v:Nat):Int):=fun v hv=>by
   have:=Ga (k:=.u64) rfl (a:=hxV (ds.take x) 0*16+v) (by simp only[IntKind.bits];omega)
   rw[<- this];try congr 1
  have u8:∀v:Nat,v<16->IntKind.u8.wrap (v:Int)=(v:Int):=fun v hv=>Ga (k:=.u8) rfl (by simp only[IntKind.bits];omega)
  simp only[u1]
  rcases hb with hb | hb
  ·obtain ⟨v,hv⟩:∃v:Nat,((ds.getD x 0).toNat:Int)-48=(v:Int):=⟨(ds.getD x 0).toNat-48,by omega⟩
   have hv9:v<16:=by omega
   have hx:(TM (ds.getD x 0)).getD 0=v:=by
    unfold TM
    rw[if_pos ((Gt _).2 hb)]
    simp only[Option.getD_some];omega
   have ex:=ex v hx
   simp only[hv,u8 v hv9,u2 v hv9,u3 v hv9]
   repeat' (first | intro _ | refine And.intro ?_ ?_)
   all_goals first
    |exact ex
    |exact Cy (by assumption)
    |exact Cx (by assumption)
    |exact BfM (by assumption)
    |(exfalso;omega)
    |omega
    |simp
    |skip
  ·obtain ⟨v,hv⟩:∃v:Nat,((ds.getD x 0).toNat:Int)-97+10=(v:Int):=⟨(ds.getD x 0).toNat-87,by omega⟩
   have hv9:v<16:=by omega
   have hx:(TM (ds.getD x 0)).getD 0=v:=by
    unfold TM
    rw[if_neg (fun h=>by have:=(Gt _).1 h;omega),if_pos (by rw[Bool.and_eq_true,decide_eq_true_eq,decide_eq_true_eq];omega)]
    simp only[Option.getD_some];omega
   have o1:=or32 (ds.getD x 0).toNat (by omega) (by omega)
   have o2:IntKind.u8.wrap (((ds.getD x 0).toNat:Int)-97)=((ds.getD x 0).toNat:Int)-97:=by
    have:=Ga (k:=.u8) rfl (a:=(ds.getD x 0).toNat-97) (by simp only[IntKind.bits];omega)
    rw[show ((ds.getD x 0).toNat:Int)-97=(((ds.getD x 0).toNat-97:Nat):Int) by omega]
    exact this
   have ex:=ex v hx
   simp only[o1,o2,hv,u8 v hv9,u2 v hv9,u3 v hv9]
   repeat' (first | intro _ | refine And.intro ?_ ?_)
   all_goals first
    |exact ex
    |exact Cy (by assumption)
    |exact Cx (by assumption)
    |exact BfM (by assumption)
    |(exfalso;omega)
    |omega
    |simp
    |skip
 ·have:ds.take x=ds:=List.take_of_length_le (by omega)
  rw[this]
def BiY:Con:=fun k ds _=>match k with
 |194=>match ds with
  | [.str t,.int .i64 16,.int .i64 32]=>some (pC [.str t,.int .i64 16,.int .i64 32] (.tup [.int .u64 (hxV t 0:Nat),.nili]) (t.all B0=true/\1<=t.length/\t.length<=6))
  |_=>none
 |_=>none
theorem Bkz:ConOk Tryz.prog BiY:=by
 intro k ds S A h
 unfold BiY at h
 split at h
 ·split at h
  ·injection h with h;subst h
   exact BM fun ⟨h1,h2,h3⟩=>⟨Bj _,Bqj _ h1 h2 h3⟩
  ·cases h
 ·cases h
noncomputable def EpiK:Senv:=EC BiY 25 3 [6,7,8,17] (fun _=>([],[]))
def Qag(a:List UInt8):List UInt8:=List.drop N1 (List.take (TL a) a)
def Qss(a:List UInt8):Prop:=List.all (Qag a) B0=true/\N1<=LN (Qag a)/\LN (Qag a)<=N6
def VC:Prop:=SM false/\True
def QeP(a:List UInt8):Int:=(NI (hxV (Qag a) N0))
def Qst(a:List UInt8):Bool:=decide ((2147483648:Int)<=QeP a)
def Qsu(a:List UInt8):Int:=IntKind.wrap IntKind.i64 (QeP a)
def XG(a:List UInt8):Int:=(NI (hxV a N0))
def Qsv(a:List UInt8):Bool:=decide ((2147483648:Int)<QeP a)
def Qsw(a:List UInt8):Bool:=decide ((2147483648:Int)<=XG a)
theorem BoX(ds:List UInt8)(hd:ds.all B0=true)(h1:1<=ds.length)(h6:ds.length<=6):ACalls Tryz.prog 149 [.str ds,.int .i64 16,.int .i64 32] ⟨[],[]⟩ (SpecR (sC [.str ds,.int .i64 16,.int .i64 32] (.tup [.int .i64 (hxV ds 0:Nat),.nili])) ()):=by
 refine Bf (A:=sC _ _) (x:=()) (E:=EpiK) (eOk Bkz rfl) Tryz.func149 rfl (by kernel_rfl) rfl (by simp[sC,EpiK,EC,E0]) ?_
 refine Bk (T :=
  ifB (ds==[]) (True/\False) (Be (Z0<=Z0/\Z0<(LI ds)) (ifB ((BI ds N0)==43) (Be (Z0<=Z1/\Z1<=(LI ds)/\(LI ds)<=(LI ds)) (Qss ds/\∀(y:Unit),True->VC/\(SM (Qst ds)/\True)/\ifB (Qst ds) (True/\False) (VC/\True/\True/\∃(y:Unit),True/\(Qsu ds=XG ds/\True/\True)/\True/\True))) (ifB ((BI ds N0)==45) (Be (Z0<=Z1/\Z1<=(LI ds)/\(LI ds)<=(LI ds)) (Qss ds/\∀(y:Unit),True->VC/\VC/\(SM (Qsv ds)/\True)/\ifB (Qsv ds) (True/\False) (True/\True/\∃(y:Unit),True/\(IntKind.wrap IntKind.i64 (Z0-Qsu ds)=XG ds/\True/\True)/\True/\True))) ((List.all ds B0=true/\N1<=LN ds/\LN ds<=N6)/\∀(y:Unit),True->VC/\(SM (Qsw ds)/\True)/\ifB (Qsw ds) (True/\False) (VC/\True/\True/\∃(y:Unit),True/\(IntKind.wrap IntKind.i64 (XG ds)=XG ds/\True/\True)/\True/\True)))))) (by kernel_rfl) ?_
 delta BI LI LN N0 N1 N6 NI SM TL U0 Z0 Z1 Qag Qss VC QeP Qst Qsu XG Qsv Qsw
 simp only[eq_self,ne_eq,Int.toNat_natCast,Bh,Bc,decide_eq_true_eq,decide_eq_false_iff_not,true_and,and_true,beq_iff_eq,beq_eq_false_iff_ne,exists_const,forall_const]
 have hne:¬ds=[]:=fun e=>by rw[e] at h1;exact absurd h1 (by decide)
 have hb:=(W7 (ds.getD 0 0)).1 (List.all_eq_true.1 hd _ (by rw[List.getD_eq_getElem?_getD,List.getElem?_eq_getElem (show 0<ds.length by omega)];exact List.getElem_mem _))
 have hs:=Ro h6
 refine⟨fun h=>hne h,fun _=>⟨⟨by omega,by omega⟩,fun h=>by omega,fun _=>⟨fun h=>by omega,fun _=>⟨⟨hd,h1,h6⟩,fun h=>by omega,fun _=>Bb (by omega) (by omega)⟩⟩⟩⟩
def G4{α:Type}(args:List D)(S:St)(d:α->D)(q:α->Prop)(p:Prop):FnSpec where
 β:=Unit
 α:=α
 args:=fun _=>args
 st:=fun _=>S
 pre:=fun _=>p
 post:=fun _ y=>q y
 res:=fun _ y=>.ret (d y)
 out:=fun _ _=>S
def BnE(z:Int×Int×Bool):D:=.tup [.int .i32 z.1,.int .i64 z.2.1,.bool z.2.2]
def Mo(a:Nat)(r:Option (Nat×Nat))(z:Int×Int×Bool):Prop:=(r=none->z.2.2=false)/\∀c w,r=some (c,w)->z=((c:Int),((a+w:Nat):Int),true)
def BfP(x:Nat)(s:List UInt8)(p:Int)(l:D):Con:=fun k ds S=>match k with
 |149=>match ds with
  | [.str t,.int .i64 16,.int .i64 32]=>some (pC [.str t,.int .i64 16,.int .i64 32] (.tup [.int .i64 (hxV t 0:Nat),.nili]) (t.all B0=true/\1<=t.length/\t.length<=6))
  |_=>none
 |k=>BdB x s p l k ds S
theorem Bcp(x:Nat)(s:List UInt8)(p:Int)(l:D):ConOk Tryz.prog (BfP x s p l):=by
 intro k ds S A h
 unfold BfP at h
 split at h
 ·split at h
  ·injection h with h;subst h
   exact BM fun ⟨h1,h2,h3⟩=>⟨Bj _,BoX _ h1 h2 h3⟩
  ·cases h
 ·exact Bcb x s p l _ _ _ _ h
theorem BnC{s:List UInt8}{a:Nat}:Es (s.drop a) = if s.getD a 0 = 123 then
      (if 1 <= ((s.drop (a + 1)).takeWhile B0).length/\((s.drop (a + 1)).takeWhile B0).length <= 6/\s.getD (BC B0 s (a + 1)) 0 = 125/\Utf8.valid (hxV ((s.drop (a + 1)).takeWhile B0) 0) = true
       then some (hxV ((s.drop (a + 1)).takeWhile B0) 0,((s.drop (a + 1)).takeWhile B0).length + 2) else none) else none := by
  have e0:(s.drop a).getD 0 0 = s.getD a 0 := by simp [List.getD_eq_getElem?_getD]
  unfold Es
  rw [e0]
  simp only [List.drop_drop]
  have e1:(s.drop (a + (1 + ((s.drop (a + 1)).takeWhile B0).length))).getD 0 0 = s.getD (BC B0 s (a + 1)) 0 := by
    unfold BC
    rw [<- Nat.add_assoc]
    simp [List.getD_eq_getElem?_getD]
  rw [e1]
theorem Bie(c:Nat):Utf8.valid (c:Int)=true↔c<55296\/(57343<c/\c<=1114111):=by
 unfold Utf8.valid
 simp
 omega
noncomputable def Ecd(x:Nat)(s:List UInt8)(p:Int)(l:D):Senv:=EC (BfP x s p l) 77 2 [4,5,6,7,8,9,25,57] (fun _=>([],[]))
def QeQ(a:List UInt8)(b:Nat):Bool:=bif decide ((LI a)<=(↑b:Int)) then true else (BI a (Int.toNat (↑b:Int))) != (123:Int)
def QeR(a:Nat)(b:List UInt8)(c:Int×Int×Bool):Prop:=Mo a (Es (List.drop a b)) c
def Qah(a:Nat)(b:List UInt8)(c:Nat)(d:D):Prop:=(SM a/\(SM b/\SM (↑c:Int)/\Bg d d/\True)/\True)/\True
def Qsx(a:Nat)(b:List UInt8)(c d:Nat)(e:D):Prop:=True/\∃(y:Int×Int×Bool),QeR a b y/\(Z0=y.1/\Z0=y.2.1/\false=y.2.2/\True)/\Qah c b d e
def Jm(a:Nat):Int:=IntKind.wrap IntKind.i64 ((↑a:Int)+Z1)
def K5(a:List UInt8)(b:Nat):Int:=(NI (BC B0 a (Int.toNat (Jm b))))
def Qsy(a:List UInt8)(b:Nat):Bool:=K5 a b==Jm b
def Qsz(a:Nat)(b:List UInt8):Bool:=decide (IntKind.wrap IntKind.i64 ((↑a:Int)+7)<K5 b a)
def QsA(a:List UInt8)(b:Nat):Bool:=decide ((LI a)<=K5 a b)
def QsB(a:List UInt8)(b:Nat):Nat:=Int.toNat (K5 a b)
def QsC(a:List UInt8)(b:Nat):Bool:=(BI a (QsB a b)) != (125:Int)
def QeS(a:List UInt8)(b:Nat):Bool:=bif bif bif Qsy a b then true else Qsz b a then true else QsA a b then true else QsC a b
def QeT(a:List UInt8)(b:Nat):Prop:=true=QeS a b/\True
def QeU(a:Nat)(b:List UInt8):List UInt8:=List.drop (Int.toNat (Jm a)) (List.take (QsB b a) b)
def QsD(a:Nat)(b:List UInt8):Nat:=LN (QeU a b)
def XH(a:Nat)(b:List UInt8):Int:=IntKind.wrap IntKind.i32 (NI (hxV (QeU a b) N0))
def QsE(a:Nat)(b:List UInt8):Bool:=decide (Z0<=XH a b)
def QsF(a:Nat)(b:List UInt8):Bool:=decide (XH a b<55296)
def QeV(a:Nat)(b:List UInt8):Bool:=bif QsE a b then QsF a b else false
def QsG(a:Nat)(b:List UInt8)(c:Int):Prop:=XH a b=c
def QsH(a:List UInt8)(b:Nat)(c:Int):Prop:=IntKind.wrap IntKind.i64 (K5 a b+Z1)=c
def QsI(a:Nat)(b:List UInt8)(c d:Nat)(e:D):Prop:=True/\True/\∃(y:Int×Int×Bool),QeR a b y/\(QsG a b y.1/\QsH b a y.2.1/\true=y.2.2/\True)/\Qah c b d e
def QsJ(a:Nat)(b:List UInt8):Bool:=decide ((57343:Int)<XH a b)
def QsK(a:Nat)(b:List UInt8):Bool:=decide (XH a b<=1114111)
def QeW(a:Nat)(b:List UInt8):Bool:=bif QsJ a b then QsK a b else false
theorem BmF(x : Nat)(s : List UInt8)(p : Nat)(l : D)(a : Nat)(ha : a<=s.length)(hs : s.length<=4294967296) :
  ACalls Tryz.prog 120 [.ref 0 x 0,.int .i64 a] (scS x s p l) (SpecR (G4 [.ref 0 x 0,.int .i64 a] (scS x s p l) BnE (Mo a (Es (s.drop a))) True) ()):=by
 refine Bf (A:=G4 _ _ _ _ _) (x:=()) (E:=Ecd x s p l) (eOk (Bcp x s p l) rfl) Tryz.func120 rfl (by kernel_rfl) rfl (by simp[G4,Ecd,EC,E0]) ?_
 refine Bk (T :=
  (SM x/\ifB (decide ((LI s)<=(↑a:Int))) (true=QeQ s a/\True) (SM x/\Be (Z0<=(↑a:Int)/\(↑a:Int)<(LI s)) (((BI s (Int.toNat (↑a:Int))) != (123:Int))=QeQ s a/\True)))/\ifB (QeQ s a) (Qsx a s x p l) (∃(x_1:Unit),(SM x/\SM (Jm a)/\SM (D.fn (Fn.func (148:Nat)) [] [])/\True)/\Qah x s p l/\(Z0<=Jm a/\Jm a<=(LI s)/\LN s<=8589934592)/\∀(y:Unit),True->ifB (Qsy s a) (QeT s a) (ifB (Qsz a s) (QeT s a) (SM x/\ifB (QsA s a) (QeT s a) (SM x/\Be (Z0<=K5 s a/\K5 s a<(LI s)) (QsC s a=QeS s a/\True))))/\ifB (QeS s a) (Qsx a s x p l) (SM x/\Be (Z0<=Jm a/\Jm a<=K5 s a/\K5 s a<=(LI s)) ((List.all (QeU a s) B0=true/\N1<=QsD a s/\QsD a s<=N6)/\∀(y:Unit),True->ifB (QsE a s) (QsF a s=QeV a s/\True) (false=QeV a s/\True)/\ifB (QeV a s) (QsI a s x p l) (ifB (QsJ a s) (QsK a s=QeW a s/\True) (false=QeW a s/\True)/\ifB (QeW a s) (QsI a s x p l) (True/\True/\∃(y:Int×Int×Bool),QeR a s y/\(QsG a s y.1/\QsH s a y.2.1/\false=y.2.2/\True)/\Qah x s p l)))))) (by kernel_rfl) ?_
 delta BI LI LN N0 N1 N6 NI SM U0 Z0 Z1 QeQ QeR QsC QeS QeT QeU QsD XH QsE QsF QeV QsG Qah QsH QsI QsJ QsK QeW Qsx Jm K5 Qsy Qsz QsA QsB
 simp only[eq_self,ne_eq,Bd,Int.toNat_natCast,Bh,Bc,decide_eq_true_eq,decide_eq_false_iff_not,true_and,and_true,beq_iff_eq,Bool.cond_false_right,Bool.cond_true_left,Bool.and_eq_true,Bool.and_eq_false_iff,Bool.or_eq_true,Bool.or_eq_false_iff,beq_eq_false_iff_ne,exists_const,forall_const]
 have h123:∀b:UInt8,(((b.toNat:Int)) != 123)=(b != 123):=fun b=>by
  by_cases hb:b=123
  ·rw[hb];rfl
  ·have h1:(b != 123)=true:=by simpa using hb
   rw[h1]
   simpa using fun e=>hb (M4 (n:=123) e (by decide))
 have h125:∀b:UInt8,(((b.toNat:Int)) != 125)=(b != 125):=fun b=>by
  by_cases hb:b=125
  ·rw[hb];rfl
  ·have h1:(b != 125)=true:=by simpa using hb
   rw[h1]
   simpa using fun e=>hb (M4 (n:=125) e (by decide))
 rw[BnC]
 simp only[h123,h125]
 have fail:∀r:Option (Nat×Nat),r=none->∃y:Int×Int×Bool,Mo a r y/\0=y.1/\0=y.2.1/\false=y.2.2:=fun r hr=>⟨(0,0,false),⟨fun _=>rfl,fun c w h=>by rw[hr] at h;cases h⟩,rfl,rfl,rfl⟩
 refine⟨⟨fun h=>by rw[decide_eq_true h];rfl,fun h=>⟨⟨by omega,by omega⟩,by rw[decide_eq_false h];rfl⟩⟩,fun h=>fail _ ?_,fun ⟨hlt,hb⟩=>?_⟩
 ·refine if_neg fun e=>?_
  rcases h with h | h
  ·rw[Bao (by omega)] at e;exact absurd e (by decide)
  ·rw[e] at h;exact absurd h (by decide)
 ·have hb:s.getD a 0=123:=by simpa using hb
  rw[if_pos hb]
  have w1:IntKind.i64.wrap ((a:Int)+1)=((a+1:Nat):Int):=by rw[Bb (by omega) (by omega)];rfl
  have w7:IntKind.i64.wrap ((a:Int)+7)=((a+7:Nat):Int):=by rw[Bb (by omega) (by omega)];rfl
  rw[w1,w7]
  simp only[Int.toNat_natCast,OS]
  have hall:((s.drop (a+1)).takeWhile B0).all B0=true:=List.all_eq_true.2 fun b hb=>Wn B0 _ b hb
  have hR:BC B0 s (a+1)=a+1+((s.drop (a+1)).takeWhile B0).length:=rfl
  have hRl:=(UF (q:=B0) (s:=s) (a:=a+1) (by omega)).2
  have or1:∀ {p q r t:Bool},p=true->true=(p||q||r||t):=fun h=>by rw[h];rfl
  have or2:∀ {p q r t:Bool},q=true->true=(p||q||r||t):=fun {p q r t} h=>by rw[h];cases p<;>rfl
  have or3:∀ {p q r t:Bool},r=true->true=(p||q||r||t):=fun {p q r t} h=>by rw[h];cases p<;>cases q<;>rfl
  have or4:∀ {p q r t:Bool},p=false->q=false->r=false->t=(p||q||r||t):=fun h1 h2 h3=>by rw[h1,h2,h3];rfl
  refine⟨⟨by omega,by omega,by omega⟩,⟨fun h=>or1 (by simpa using h),fun h1=>⟨fun h=>or2 (by simpa using h),fun h2=>⟨fun h=>or3 (by simpa using h),fun h3=>⟨⟨by omega,by omega⟩,or4 (by simpa using h1) (by simpa using h2) (by simpa using h3)⟩⟩⟩⟩,fun h=>?_,fun h=>?_⟩
  ·refine fail _ (if_neg fun he=>?_)
   obtain ⟨e1,e2,e3,_⟩:=he
   rcases h with ((h | h) | h) | h
   ·omega
   ·omega
   ·rw[Bao (by omega)] at e3;exact absurd e3 (by decide)
   ·rw[e3] at h;exact absurd h (by decide)
  ·obtain ⟨⟨⟨h1,h2⟩,h3⟩,h4⟩:=h
   have h4:s.getD (BC B0 s (a+1)) 0=125:=by simpa using h4
   have hn:=Ro (l:=((s.drop (a+1)).takeWhile B0)) (by omega)
   have v1:IntKind.i32.wrap ((hxV ((s.drop (a+1)).takeWhile B0) 0:Nat):Int)=((hxV ((s.drop (a+1)).takeWhile B0) 0:Nat):Int):=Go.Ab.wrap_small (k:=.i32) rfl (by simp only[IntKind.bits];omega) (by simp only[IntKind.bits];omega)
   have w:IntKind.i64.wrap (((BC B0 s (a+1)):Int)+1)=((a+(((s.drop (a+1)).takeWhile B0).length+2):Nat):Int):=by rw[Bb (by omega) (by omega)];omega
   refine⟨⟨by omega,by omega,by omega⟩,⟨hall,by omega,by omega⟩,?_⟩
   rw[v1,w]
   have k1:1<=((s.drop (a+1)).takeWhile B0).length:=by omega
   have k6:((s.drop (a+1)).takeWhile B0).length<=6:=by omega
   revert hn k1 k6 h4
   generalize BC B0 s (a+1)=R
   generalize hxV ((s.drop (a+1)).takeWhile B0) 0=c
   generalize ((s.drop (a+1)).takeWhile B0).length=n
   intro h4 hn k1 k6
   have Bpm:Utf8.valid (c:Int)=true->∃y:Int×Int×Bool,Mo a (if 1<=n/\n<=6/\s.getD R 0=125/\Utf8.valid (c:Int)=true then some (c,n+2) else none) y/\(c:Int)=y.1/\((a+(n+2):Nat):Int)=y.2.1/\true=y.2.2:=fun hv=>by
    rw[if_pos ⟨k1,k6,h4,hv⟩]
    exact⟨((c:Int),((a+(n+2):Nat):Int),true),⟨fun h=>(by cases h),fun c' w' h=>by
     have h:=Option.some.inj h
     have e1:c=c':=congrArg Prod.fst h
     have e2:n+2=w':=congrArg Prod.snd h
     rw[<- e1,<- e2]⟩,rfl,rfl,rfl⟩
   have bad:Utf8.valid (c:Int)=false->∃y:Int×Int×Bool,Mo a (if 1<=n/\n<=6/\s.getD R 0=125/\Utf8.valid (c:Int)=true then some (c,n+2) else none) y/\(c:Int)=y.1/\((a+(n+2):Nat):Int)=y.2.1/\false=y.2.2:=fun hv=>by
    rw[if_neg (fun h=>by rw[hv] at h;exact absurd h.2.2.2 (by decide))]
    exact⟨((c:Int),((a+(n+2):Nat):Int),false),⟨fun _=>rfl,fun c' w' h=>by cases h⟩,rfl,rfl,rfl⟩
   have hval:=Bie c
   have hnv:¬(c<55296\/(57343<c/\c<=1114111))->Utf8.valid (c:Int)=false:=fun h=>by
    cases hv:Utf8.valid (c:Int) with
    |false=>rfl
    |true=>exact (h (hval.1 hv)).elim
   refine⟨⟨fun h=>Cy h,fun h=>Cx h⟩,fun h=>Bpm (hval.2 (by omega)),fun h=>⟨⟨fun h=>Cy h,fun h=>Cx h⟩,fun h'=>Bpm (hval.2 (by omega)),fun h'=>bad (hnv (by omega))⟩⟩
theorem BoJ(t:List UInt8)(ht:t.all (fun b=>decide (b.toNat<128))=true)(hl:t.length<=140737488355328):ACalls Tryz.prog 87 [.str t] ⟨[],[]⟩ (SpecR (sC [.str t] (.str (Lib.toLowerA t))) ()):=by
 refine ACalls.of_shelf ⟨_,Tryz.func87,by kernel_rfl,by kernel_rfl⟩ fun C args w ha=>?_
 obtain ⟨u,e,hu⟩:=CE ha
 have e2:args=[u].toArray:=by rw[<- e]
 subst e2
 simp only[Rep] at hu;subst hu
 have key:=Tryz.strings_ToLower_ascii ⟨t.toArray⟩ w (by simpa[ByteArray.size] using hl) fun j b hj=>by
  have hj:t[j]? =some b:=by simpa using hj
  have:=List.all_eq_true.1 ht b (List.mem_of_getElem? hj)
  simpa using this
 exact key.mono fun e w' ⟨h1,h2⟩=>⟨⟨_,h1,by simp[Rep]⟩,h2⟩
theorem BeP(w:List UInt8):(Lib.toLowerA w==w)=!w.any upp:=by
 have hb:∀b:UInt8,(Lib.lowerB b==b)=!upp b:=by
  intro b
  have:∀n:Fin 256,(Lib.lowerB (UInt8.ofNat n.val)==UInt8.ofNat n.val)=!upp (UInt8.ofNat n.val):=by decide +kernel
  have h:=this ⟨b.toNat,b.toNat_lt⟩
  simpa using h
 unfold Lib.toLowerA
 induction w with
 |nil=>rfl
 |cons b w ih =>
  simp only[List.map_cons,List.any_cons,Bool.not_or]
  rw[<- ih,<- hb b]
  rfl
def Ba5(x:Nat)(s:List UInt8)(p:Int)(l:D):Con:=fun k ds S=>match k with
 |86=>match ds with
  | [.str t]=>some (pC [.str t] (.bool (Mu t)) True)
  |_=>none
 |87=>match ds with
  | [.str t]=>some (pC [.str t] (.str (Lib.toLowerA t)) (t.all (fun b=>decide (b.toNat<128))=true/\t.length<=140737488355328))
  |_=>none
 |k=>BfP x s p l k ds S
theorem BaE(x:Nat)(s:List UInt8)(p:Int)(l:D):ConOk Tryz.prog (Ba5 x s p l):=by
 intro k ds S A h
 unfold Ba5 at h
 split at h
 ·split at h
  ·injection h with h;subst h
   exact BM fun _=>⟨Bj _,BoL _⟩
  ·cases h
 ·split at h
  ·injection h with h;subst h
   exact BM fun ⟨h1,h2⟩=>⟨Bj _,BoJ _ h1 h2⟩
  ·cases h
 ·exact Bcp x s p l _ _ _ _ h
noncomputable def EwdK(x:Nat)(s:List UInt8)(p:Int)(l:D):Senv:=EC (Ba5 x s p l) 44 1 [2,3,4,5,22,29,35] (fun id=>match id with | 2=>([0,1,2,3,4,5,6,7,8,9,10],[]) | _=>([],[]))
def XI(a:Nat)(b:List UInt8)(c:Nat)(d:D):Prop:=(SM a/\(SM b/\SM (↑c:Int)/\Bg d d/\True)/\True)/\True
def QeX(a:List UInt8)(b:Nat):Int:=(NI (BC aln a (Int.toNat (↑b:Int))))
def VD(a:Nat)(b:List UInt8):List UInt8:=List.drop (Int.toNat (↑a:Int)) (List.take (Int.toNat (QeX b a)) b)
def QsL(a:Nat)(b:List UInt8):Nat:=LN (VD a b)
def QsM(a:Nat)(b:List UInt8):Int:=(NI (QsL a b))
def QsN(a:Nat)(b:List UInt8):List D:=[ZI Z0,ZI (QsM a b),ZI Z0,D.str (VD a b)]
def Qai(a:Nat)(b:List UInt8):D:=Wo (E4 (List.drop a b))
def QsO:D:=D.agg [ZI Z0,ZI Z0,ZI Z0,ZI Z0,D.str []]
theorem BnG(x : Nat)(s : List UInt8)(p : Nat)(l : D)(hp : p<s.length)(hs : s.length<=4294967296) :
  ACalls Tryz.prog 57 [.ref 0 x 0] (scS x s p l) (SpecR (sSt [.ref 0 x 0] (scS x s p l) (Wo (E4 (s.drop p)))) ()):=by
 refine Bf (A:=sSt _ _ _) (x:=()) (E:=EwdK x s p l) (eOk (BaE x s p l) rfl) Tryz.func57 rfl (by kernel_rfl) rfl (by simp[sSt,EwdK,EC,E0]) ?_
 refine Bk (T :=
  ∀(x_1:Nat),x≠x_1/\True->SM x/\∃(x_2:Unit),(SM x/\SM (↑p:Int)/\SM (D.fn (Fn.func (85:Nat)) [] [])/\True)/\XI x s p l/\(Z0<=(↑p:Int)/\(↑p:Int)<=(LI s)/\LN s<=8589934592)/\∀(y:Unit),True->SM x/\SM x/\Be (Z0<=(↑p:Int)/\(↑p:Int)<=QeX s p/\QeX s p<=(LI s)) (True/\∀(y:Unit),True->ifB (Mu (VD p s)) (SM x_1/\(SM x_1/\True)/\∃(y:Unit),True/\Bg (D.tup [D.agg (ZI 5::QsN p s),ZI Z0]) (Qai p s)/\XI x s p l) (((List.all (VD p s) fun (b:UInt8)=>decide (UInt8.toNat b<128))=true/\QsL p s<=140737488355328)/\∀(y:Unit),True->ifB (Lib.toLowerA (VD p s) != VD p s) (SM x_1/\(SM x_1/\True)/\∃(y:Unit),True/\Bg (D.tup [QsO,ZI 6]) (Qai p s)/\XI x s p l) (ifB (decide ((32:Int)<QsM p s)) (SM x_1/\(SM x_1/\True)/\∃(y:Unit),True/\Bg (D.tup [QsO,ZI 9]) (Qai p s)/\XI x s p l) (SM x_1/\(SM x_1/\True)/\∃(y:Unit),True/\Bg (D.tup [D.agg (ZI 4::QsN p s),ZI Z0]) (Qai p s)/\XI x s p l))))) (by kernel_rfl) ?_
 delta LI LN NI SM Z0 ZI XI QeX VD QsL QsM QsN Qai QsO
 simp only[eq_self,ne_eq,Bd,Int.toNat_natCast,Bh,Bc,decide_eq_true_eq,decide_eq_false_iff_not,true_and,and_true,exists_const,forall_const]
 simp only[OS]
 have hR:=UF (q:=aln) (s:=s) (a:=p) (by omega)
 have hl:((s.drop p).takeWhile aln).length<=s.length:=by
  have:=TK aln (s.drop p)
  rw[List.length_drop] at this;omega
 have ha:((s.drop p).takeWhile aln).all (fun b=>decide (b.toNat<128))=true:=List.all_eq_true.2 fun b hb=>by
  have:=(BgC b).1 (Wn aln _ b hb)
  rw[decide_eq_true_eq];omega
 have hlow:(Lib.toLowerA ((s.drop p).takeWhile aln) != (s.drop p).takeWhile aln)=((s.drop p).takeWhile aln).any upp:=by
  unfold bne
  rw[BeP,Bool.not_not]
 rw[hlow]
 unfold E4
 revert hl ha
 generalize (s.drop p).takeWhile aln=w
 intro hl ha x1 _
 simp only
 refine⟨⟨by omega,by omega,by omega⟩,⟨by omega,by omega,by omega⟩,fun h=>?_,fun h=>⟨⟨ha,by omega⟩,fun h1=>?_,fun h1=>⟨fun h2=>?_,fun h2=>?_⟩⟩⟩
 ·rw[if_pos h];exact Bd _
 ·rw[if_neg (by rw[h];decide),if_pos h1];exact Bd _
 ·rw[if_neg (by rw[h];decide),if_neg (by rw[h1];decide),if_pos (by omega)];exact Bd _
 ·rw[if_neg (by rw[h];decide),if_neg (by rw[h1];decide),if_neg (by omega)];exact Bd _
theorem BqS(t:List UInt8)(h:t≠[]):Lib.decodeGo ⟨t.toArray⟩=Cn t:=by
 have hl:0<t.length:=List.length_pos_iff.2 h
 have hs:((⟨t.toArray⟩:ByteArray)).size=t.length:=by simp[ByteArray.size]
 unfold Lib.decodeGo
 rw[if_neg (by omega),I9,List.drop_zero]
 rfl
theorem BoU(t:List UInt8)(ht:t≠[]):ACalls Tryz.prog 119 [.str t] ⟨[],[]⟩ (SpecR (sC [.str t] (.tup [.int .i32 ((Cn t).1:Nat),.int .i64 ((Cn t).2:Nat)])) ()):=by
 refine ACalls.of_shelf_g ⟨_,Tryz.func119,by kernel_rfl,by kernel_rfl⟩ fun C args w ha hG hb=>?_
 obtain ⟨u,e,hu⟩:=CE ha
 have e2:args=[u].toArray:=by rw[<- e]
 subst e2
 simp only[Rep] at hu;subst hu
 have hT:Lib.Utf8Tabs 2 3 w:=Utf8Tabs_below hG.2.2.2 hb
 have key:=Tryz.utf8_DecodeRuneInString ⟨t.toArray⟩ w hT
 rw[BqS t ht] at key
 exact key.mono fun e w' ⟨h1,h2⟩=>⟨⟨_,h1,by simp[Rep,RepL]⟩,h2⟩
def BfV(x:Nat)(s:List UInt8)(p:Int)(l:D):Con:=fun k ds S=>match k with
 |119=>match ds with
  | [.str t]=>some (pC [.str t] (.tup [.int .i32 ((Cn t).1:Nat),.int .i64 ((Cn t).2:Nat)]) (t≠[]))
  |_=>none
 |120=>match ds with
  | [_,.int .i64 a]=>some (G4 [.ref 0 x 0,.int .i64 a] (scS x s p l) BnE (Mo a.toNat (Es (s.drop a.toNat))) (0<=a/\a<=s.length/\s.length<=4294967296/\0<=p))
  |_=>none
 |k=>Ba5 x s p l k ds S
theorem Bgx{α:Type}{k:Nat}{args:List D}{S:St}{d:α->D}{q:α->Prop}{p:Prop}(h:p->ACalls Tryz.prog k args S (SpecR (G4 args S d q True) ())):∀x:Unit,p->ACalls Tryz.prog k args S (SpecR (G4 args S d q p) x) :=
 fun _ hp=>(h hp).mono fun _ _ ⟨y,q1,q2,q3⟩=>⟨y,q1,q2,q3⟩
theorem Bdg(x:Nat)(s:List UInt8)(p:Int)(l:D):ConOk Tryz.prog (BfV x s p l):=by
 have nn:∀ {a:Int},0<=a->((a.toNat:Nat):Int)=a:=fun h=>by omega
 intro k ds S A h
 unfold BfV at h
 split at h
 ·split at h
  ·injection h with h;subst h
   exact BM fun h=>⟨Bj _,BoU _ h⟩
  ·cases h
 ·split at h
  ·injection h with h;subst h
   refine ConOk.plain (Bgx fun ⟨h1,h2,h3,h4⟩=>?_) rfl rfl
   have:=BmF x s p.toNat l _ (Int.toNat_le.2 h2) h3
   rw[nn h1,nn h4] at this
   exact this
  ·cases h
 ·exact BaE x s p l _ _ _ _ h
theorem Bo0{r:List UInt8}(_h:r≠[]):((r.getD 0 0).toNat<32->(Cn r).1<32)/\(¬(r.getD 0 0).toNat<32->32<=(Cn r).1):=by
 unfold Cn Lib.decodeN
 constructor
 ·intro h1
  rw[if_pos (by omega)]
  exact h1
 ·intro h1
  repeat' split
  all_goals (simp only;omega)
theorem Bg2{r:List UInt8}(h92:r.getD 0 0≠92)(h:r≠[]):(Gh r=none/\(decide (32<=((Cn r).1:Int))&&(((Cn r).1:Int) != 65533||decide (1<((Cn r).2:Int))))=false)\/(Gh r=some (Cn r)/\(decide (32<=((Cn r).1:Int))&&(((Cn r).1:Int) != 65533||decide (1<((Cn r).2:Int))))=true):=by
 obtain ⟨l1,l2⟩:=Bo0 h
 obtain ⟨l3,_⟩:=Bbs h
 unfold Gh
 rw[if_neg h92]
 by_cases h1:(r.getD 0 0).toNat<32
 ·have:=l1 h1
  rw[if_pos h1]
  refine .inl ⟨rfl,?_⟩
  rw[decide_eq_false (by omega)];rfl
 ·have:=l2 h1
  rw[if_neg h1,decide_eq_true (show 32<=((Cn r).1:Int) by omega),Bool.true_and]
  by_cases h2:Cn r=(65533,1)
  ·rw[if_pos h2,h2]
   exact .inl ⟨rfl,by decide⟩
  ·rw[if_neg h2]
   refine .inr ⟨rfl,?_⟩
   by_cases h3:(Cn r).1=65533
   ·have h4:(Cn r).2≠1:=fun e=>h2 (Prod.ext h3 e)
    rw[decide_eq_true (show 1<((Cn r).2:Int) by omega),Bool.or_true]
   ·have:(((Cn r).1:Int) != 65533)=true:=by
     rw[bne_iff_ne];omega
    rw[this];rfl
def BpG(s:List UInt8)(a:Nat)(c:UInt8):Option (Nat×Nat):=if c=110 then some (10,2) else if c=116 then some (9,2) else if c=114 then some (13,2)
 else if c=92\/c=39\/c=34 then some (c.toNat,2)
 else if c=117 then (Es (s.drop (a+2))).map fun x=>(x.1,x.2+2)
 else none
theorem Bi1{s:List UInt8}{a:Nat}(h:s.getD a 0=92):Gh (s.drop a)=BpG s a (s.getD (a+1) 0):=by
 have e0:(s.drop a).getD 0 0=s.getD a 0:=by simp[List.getD_eq_getElem?_getD]
 have e1:(s.drop a).getD 1 0=s.getD (a+1) 0:=by simp[List.getD_eq_getElem?_getD]
 unfold Gh
 rw[e0,if_pos h]
 unfold Bb7 BpG
 rw[e1,List.drop_drop]
noncomputable def Erd2(x:Nat)(s:List UInt8)(p:Int)(l:D):Senv:=EC (BfV x s p l) 80 2 [4,5,6,7,8,9,16,48,57,58,60,62,64,68] (fun _=>([],[]))
def QsP(a:Nat)(b:List UInt8):Nat×Nat:=Cn (List.drop (Int.toNat (↑a:Int)) (List.take (TL b) b))
def Qaj(a:Nat)(b:List UInt8):Int:=(NI (Prod.fst (QsP a b)))
def QsQ(a:Nat)(b:List UInt8):Bool:=decide ((32:Int)<=Qaj a b)
def QsR(a:Nat)(b:List UInt8):Bool:=Qaj a b != (65533:Int)
def QeY(a:Nat)(b:List UInt8):Prop:=SM (Qaj a b)
def QsS(a:Nat)(b:List UInt8):Int:=(NI (Prod.snd (QsP a b)))
def QsT(a:Nat)(b:List UInt8):Int:=IntKind.wrap IntKind.i64 ((↑a:Int)+QsS a b)
def QeZ(a:Nat)(b:List UInt8):Prop:=SM (QsT a b)
def QsU(a:Nat)(b:List UInt8):Bool:=decide (Z1<QsS a b)
def Qak(a:Nat)(b:List UInt8):Bool:=bif QsQ a b then bif QsR a b then true else QsU a b else false
def JO(a:Nat)(b:List UInt8)(c:Int×Int×Bool):Prop:=Mo a (Gh (List.drop a b)) c
def Jn(a:Nat)(b:List UInt8)(c:Nat)(d:D):Prop:=(SM a/\(SM b/\SM (↑c:Int)/\Bg d d/\True)/\True)/\True
def Qal(a:Nat):Int:=IntKind.wrap IntKind.i64 ((↑a:Int)+Z1)
def QsV(a:Nat)(b:List UInt8)(c d:Nat)(e:D):Prop:=True/\∃(y:Int×Int×Bool),JO a b y/\(Z0=y.1/\Z0=y.2.1/\false=y.2.2/\True)/\Jn c b d e
def Jo(a:List UInt8)(b:Nat):Int:=IntKind.wrap IntKind.i32 (BI a (Int.toNat (Qal b)))
def VE(a:Nat):Int:=IntKind.wrap IntKind.i64 ((↑a:Int)+2)
def Qam(a:Nat)(b:Int)(c:Bool):Prop:=VE a=b/\true=c/\True
def QsW(a:List UInt8)(b:Nat):Bool:=Jo a b==92
def Qe0(a:Nat)(b:List UInt8)(c d:Nat)(e:D):Prop:=True/\∃(y:Int×Int×Bool),JO a b y/\(Jo b a=y.1/\Qam a y.2.1 y.2.2)/\Jn c b d e
def Qe1(a:List UInt8)(b c d:Nat)(e:D):Prop:=ifB (Jo a b==117) (∃(_x:Unit),(SM c/\SM (VE b)/\True)/\Jn c a d e/\(Z0<=VE b/\VE b<=(LI a)/\LN a<=4294967296/\Z0<=(↑d:Int))/\∀(y:Int×Int×Bool),Mo (Int.toNat (VE b)) (Es (List.drop (Int.toNat (VE b)) a)) y->True/\∃(y_1:Int×Int×Bool),JO b a y_1/\(y.1=y_1.1/\y.2.1=y_1.2.1/\y.2.2=y_1.2.2/\True)/\Jn c a d e) (QsV b a c d e)
def QsX(a:List UInt8)(b:Nat):Bool:=Jo a b==39
theorem Bha(x : Nat)(s : List UInt8)(p : Nat)(l : D)(a : Nat)(ha : a<s.length)(hs : s.length<=4294967296) :
  ACalls Tryz.prog 88 [.ref 0 x 0,.int .i64 a] (scS x s p l) (SpecR (G4 [.ref 0 x 0,.int .i64 a] (scS x s p l) BnE (Mo a (Gh (s.drop a))) True) ()):=by
 refine Bf (A:=G4 _ _ _ _ _) (x:=()) (E:=Erd2 x s p l) (eOk (Bdg x s p l) rfl) Tryz.func88 rfl (by kernel_rfl) rfl (by simp[G4,Erd2,EC,E0]) ?_
 refine Bk (T :=
  SM x/\Be (Z0<=(↑a:Int)/\(↑a:Int)<(LI s)) (ifB ((BI s (Int.toNat (↑a:Int))) != (92:Int)) (SM x/\Be (Z0<=(↑a:Int)/\(↑a:Int)<=(LI s)/\(LI s)<=(LI s)) (List.drop (Int.toNat (↑a:Int)) (List.take (TL s) s)≠[]/\∀(y:Unit),True->ifB (QsQ a s) (ifB (QsR a s) (QeY a s/\QeZ a s/\true=Qak a s/\True) (QeY a s/\QeZ a s/\QsU a s=Qak a s/\True)) (QeY a s/\QeZ a s/\false=Qak a s/\True)/\True/\∃(y:Int×Int×Bool),JO a s y/\(Qaj a s=y.1/\QsT a s=y.2.1/\Qak a s=y.2.2/\True)/\Jn x s p l)) (SM x/\ifB (decide ((LI s)<=Qal a)) (QsV a s x p l) (SM x/\Be (Z0<=Qal a/\Qal a<(LI s)) (ifB (Jo s a==110) (True/\∃(y:Int×Int×Bool),JO a s y/\((10:Int)=y.1/\Qam a y.2.1 y.2.2)/\Jn x s p l) (ifB (Jo s a==116) (True/\∃(y:Int×Int×Bool),JO a s y/\((9:Int)=y.1/\Qam a y.2.1 y.2.2)/\Jn x s p l) (ifB (Jo s a==114) (True/\∃(y:Int×Int×Bool),JO a s y/\((13:Int)=y.1/\Qam a y.2.1 y.2.2)/\Jn x s p l) (ifB (QsW s a) (ifB (QsW s a) (Qe0 a s x p l) (Qe1 s a x p l)) (ifB (QsX s a) (ifB (QsX s a) (Qe0 a s x p l) (Qe1 s a x p l)) (ifB (Jo s a==34) (Qe0 a s x p l) (Qe1 s a x p l))))))))))) (by kernel_rfl) ?_
 delta BI LI LN NI SM TL U0 Z0 Z1 QsP Qaj JO Jn Qal QsV Jo VE Qam QsW Qe0 Qe1 QsQ QsX QsR QeY QsS QsT QeZ QsU Qak
 simp only[eq_self,ne_eq,Bd,Int.toNat_natCast,Bh,Bc,decide_eq_true_eq,decide_eq_false_iff_not,true_and,and_true,beq_iff_eq,Bool.cond_false_right,Bool.cond_true_left,beq_eq_false_iff_ne,exists_const,forall_const]
 have hbn:∀b:UInt8,IntKind.i32.wrap (b.toNat:Int)=(b.toNat:Int):=fun b=>by
  have:=b.toNat_lt
  exact Go.Ab.wrap_small (k:=.i32) rfl (by simp only[IntKind.bits];omega) (by simp only[IntKind.bits];omega)
 have h92:∀b:UInt8,(((b.toNat:Int)) != 92)=(b != 92):=fun b=>by
  by_cases hb:b=92
  ·rw[hb];rfl
  ·have h1:(b != 92)=true:=by simpa using hb
   rw[h1]
   simpa using fun e=>hb (M4 (n:=92) e (by decide))
 have w1:IntKind.i64.wrap ((a:Int)+1)=((a+1:Nat):Int):=by rw[Bb (by omega) (by omega)];rfl
 have w2:IntKind.i64.wrap ((a:Int)+2)=((a+2:Nat):Int):=by rw[Bb (by omega) (by omega)];rfl
 have ne:s.drop a≠[]:=fun e=>by
  have:=congrArg List.length e
  rw[List.length_drop,List.length_nil] at this;omega
 have e0:(s.drop a).getD 0 0=s.getD a 0:=by simp[List.getD_eq_getElem?_getD]
 have dl:=Bbs ne
 rw[List.length_drop] at dl
 simp only[hbn,h92,w1,w2,List.take_length,Int.toNat_natCast]
 have k110:∀b:UInt8,(b.toNat:Int)=110↔b=110:=fun b=>⟨fun h=>M4 (n:=110) h (by decide),fun h=>by rw[h];rfl⟩
 have k116:∀b:UInt8,(b.toNat:Int)=116↔b=116:=fun b=>⟨fun h=>M4 (n:=116) h (by decide),fun h=>by rw[h];rfl⟩
 have k114:∀b:UInt8,(b.toNat:Int)=114↔b=114:=fun b=>⟨fun h=>M4 (n:=114) h (by decide),fun h=>by rw[h];rfl⟩
 have k92:∀b:UInt8,(b.toNat:Int)=92↔b=92:=fun b=>⟨fun h=>M4 (n:=92) h (by decide),fun h=>by rw[h];rfl⟩
 have k39:∀b:UInt8,(b.toNat:Int)=39↔b=39:=fun b=>⟨fun h=>M4 (n:=39) h (by decide),fun h=>by rw[h];rfl⟩
 have k34:∀b:UInt8,(b.toNat:Int)=34↔b=34:=fun b=>⟨fun h=>M4 (n:=34) h (by decide),fun h=>by rw[h];rfl⟩
 have k117:∀b:UInt8,(b.toNat:Int)=117↔b=117:=fun b=>⟨fun h=>M4 (n:=117) h (by decide),fun h=>by rw[h];rfl⟩
 simp only[k110,k116,k114,k92,k39,k34,k117]
 refine⟨by omega,fun h=>⟨by omega,ne,?_,?_⟩,fun h=>?_⟩
 ·generalize (((Cn (s.drop a)).1:Int) != 65533)=P
  refine⟨fun h1=>⟨fun h2=>?_,fun h2=>?_⟩,fun h1=>?_⟩
  ·rw[decide_eq_true h1,h2];rfl
  ·rw[decide_eq_true h1,h2];rfl
  ·rw[decide_eq_false h1];rfl
 ·have w3:IntKind.i64.wrap ((a:Int)+((Cn (s.drop a)).2:Int))=((a+(Cn (s.drop a)).2:Nat):Int):=by rw[Bb (by omega) (by omega)];omega
  rw[w3]
  refine⟨(((Cn (s.drop a)).1:Int),((a+(Cn (s.drop a)).2:Nat):Int),decide (32<=((Cn (s.drop a)).1:Int))&&(((Cn (s.drop a)).1:Int) != 65533||decide (1<((Cn (s.drop a)).2:Int)))),?_,rfl,rfl,rfl⟩
  rcases Bg2 (by rw[e0];simpa using h) ne with ⟨q1,q2⟩ | ⟨q1,q2⟩
  ·rw[q1,q2]
   exact⟨fun _=>rfl,fun c w h=>by cases h⟩
  ·rw[q1,q2]
   exact⟨fun h=>(by cases h),fun c w h=>by rw[Option.some.inj h]⟩
 ·have h:s.getD a 0=92:=by simpa using h
  rw[Bi1 h]
  have fin:∀(c w:Nat) (r:Option (Nat×Nat)) (C W:Int),r=some (c,w)->C=c->W=((a+w:Nat):Int)->∃y:Int×Int×Bool,Mo a r y/\C=y.1/\W=y.2.1/\true=y.2.2:=fun c w r C W hr hC hW=>⟨(C,W,true),⟨fun h=>(by rw[hr] at h;cases h),fun c' w' h=>by
   rw[hr] at h
   have h:=Option.some.inj h
   have e1:c=c':=congrArg Prod.fst h
   have e2:w=w':=congrArg Prod.snd h
   rw[hC,hW,e1,e2]⟩,rfl,rfl,rfl⟩
  have fail:∀r:Option (Nat×Nat),r=none->∃y:Int×Int×Bool,Mo a r y/\0=y.1/\0=y.2.1/\false=y.2.2:=fun r hr=>⟨(0,0,false),⟨fun _=>rfl,fun c w h=>(by rw[hr] at h;cases h)⟩,rfl,rfl,rfl⟩
  have fcod:∀y:Int×Int×Bool,Mo (a+2) (Es (s.drop (a+2))) y->∃z:Int×Int×Bool,Mo a ((Es (s.drop (a+2))).map fun x=>(x.1,x.2+2)) z/\y.1=z.1/\y.2.1=z.2.1/\y.2.2=z.2.2:=fun y ⟨q1,q2⟩=>⟨y,by
   cases hc:Es (s.drop (a+2)) with
   |none=>exact⟨fun _=>q1 hc,fun c w h=>by cases h⟩
   |some v =>
    obtain ⟨c,w⟩:=v
    refine⟨fun h=>(by cases h),fun c' w' h=>?_⟩
    have h:=Option.some.inj h
    have e1:c=c':=congrArg Prod.fst h
    have e2:w+2=w':=congrArg Prod.snd h
    rw[q2 c w hc,<- e1,<- e2,Nat.add_assoc,Nat.add_comm 2 w],rfl,rfl,rfl⟩
  refine⟨fun h1=>fail _ ?_,fun h1=>⟨by omega,?_⟩⟩
  ·rw[Bao (by omega)]
   rfl
  ·generalize hc:s.getD (a+1) 0=c
   unfold BpG
   refine⟨fun q=>fin 10 2 _ _ _ (if_pos q) rfl rfl,fun q=>?_⟩
   rw[if_neg q]
   refine⟨fun q=>fin 9 2 _ _ _ (if_pos q) rfl rfl,fun q=>?_⟩
   rw[if_neg q]
   refine⟨fun q=>fin 13 2 _ _ _ (if_pos q) rfl rfl,fun q=>?_⟩
   rw[if_neg q]
   refine⟨fun q1=>⟨fun q=>fin c.toNat 2 _ _ _ (if_pos (.inl q)) rfl rfl,fun q=>(q q1).elim⟩,fun q1=>⟨fun q2=>⟨fun q=>fin c.toNat 2 _ _ _ (if_pos (.inr (.inl q))) rfl rfl,fun q=>(q q2).elim⟩,fun q2=>⟨fun q=>fin c.toNat 2 _ _ _ (if_pos (.inr (.inr q))) rfl rfl,fun q3=>?_⟩⟩⟩
   rw[if_neg (by rintro (h | h | h)<;>contradiction)]
   refine⟨fun q=>⟨by omega,fun y hy=>?_⟩,fun q=>fail _ (if_neg q)⟩
   rw[if_pos q]
   exact fcod y hy
theorem orN:(∀x:Fin 32,orI .u8 192 (x.val:Int)=((192+x.val:Nat):Int))/\(∀x:Fin 16,orI .u8 224 (x.val:Int)=((224+x.val:Nat):Int))/\(∀x:Fin 8,orI .u8 240 (x.val:Int)=((240+x.val:Nat):Int))/\(∀x:Fin 64,orI .u8 128 (x.val:Int)=((128+x.val:Nat):Int))/\(∀x:Fin 256,Mq .u8 (x.val:Int) 63=((x.val % 64:Nat):Int)):=by
 refine⟨?_,?_,?_,?_,?_⟩<;>decide +kernel
theorem BjH(m:Nat):IntKind.u8.wrap (m:Int)=((m % 256:Nat):Int):=by
 rw[IntKind.wrap_u8];omega
theorem Bki(n k:Nat):(n:Int).fdiv (k:Int)=((n / k:Nat):Int):=by
 rw[Int.fdiv_eq_ediv_of_nonneg _ (by omega)];rfl
theorem Bqk(m:Nat):orI .u8 128 (Mq .u8 (IntKind.u8.wrap (m:Int)) 63)=((128+m % 64:Nat):Int):=by
 obtain ⟨_,_,_,h4,h5⟩:=orN
 rw[BjH]
 have:=h5 ⟨m % 256,by omega⟩
 rw[this]
 have e:m % 256 % 64=m % 64:=by omega
 rw[e]
 exact h4 ⟨m % 64,by omega⟩
theorem BpY:(∀m,m<32->orI .u8 192 (IntKind.u8.wrap (m:Nat))=((192+m:Nat):Int))/\(∀m,m<16->orI .u8 224 (IntKind.u8.wrap (m:Nat))=((224+m:Nat):Int))/\(∀m,m<8->orI .u8 240 (IntKind.u8.wrap (m:Nat))=((240+m:Nat):Int)):=by
 obtain ⟨h1,h2,h3,_,_⟩:=orN
 refine⟨fun m h=>?_,fun m h=>?_,fun m h=>?_⟩
 all_goals rw[BjH,Nat.mod_eq_of_lt (by omega)]
 ·exact h1 ⟨m,h⟩
 ·exact h2 ⟨m,h⟩
 ·exact h3 ⟨m,h⟩
theorem RM{l bs : List UInt8}{c : Int}{t k : Nat}{F : Nat -> List D}(hl : l.length+4<=140737488355328)(hb : utf8 c=bs)(hk : bs.length=k)(h4 : k<=4)(hF : ∀i, i<k -> F i=[D.int .u8 ((bs.getD i 0).toNat : Int)]) :
  ((l.length+k)*1<=140737488355328/\l.length+k<=9223372036854775807)/\∀t1:Nat,(t % 1000003=5+1->t1 % 1000003=5+1)->∃y:Nat,(t % 1000003=5+1->y % 1000003=5+1)/\(l.length+k=(l++utf8 c).length/\(∀i,i<l.length+k->BW l.length (fun i=>[D.int .u8 ((l.getD i 0).toNat:Int)]) F i=[D.int .u8 (((l++utf8 c).getD i 0).toNat:Int)])/\t1=y)/\t1=y:=by
 subst hb
 refine⟨by omega,fun t1 ht=>⟨t1,ht,⟨by rw[List.length_append,hk],?_,rfl⟩,rfl⟩⟩
 intro i hi
 have:=BbL (l:=l) (r:=utf8 c) (G:=F) rfl (fun _ _=>rfl) (by rw[hk];exact hF) i (by rw[hk];exact hi)
 exact this
def sAp(t:Nat)(l:List UInt8)(c:Int)(p:Prop):FnSpec where
 β:=Unit
 α:=Nat
 args:=fun _=>[bsl l (.tok 0 t),.int .i32 c]
 st:=fun _=>⟨[],[(0,t)]⟩
 pre:=fun _=>p
 post:=fun _ t'=>t % 1000003=5+1->t' % 1000003=5+1
 res:=fun _ t'=>.ret (bsl (l++utf8 c) (.tok 0 t'))
 out:=fun _ t'=>⟨[],[(0,t')]⟩
noncomputable def Ean:Senv:={ EC E5 78 2 [4,5,11,25,50] (fun _=>([],[])) with own:=fun t=>Nat.beq t 56 }
def Jp(a b:Nat):Prop:=a % (1000003:Nat)=N6->b % (1000003:Nat)=N6
def Qe2(a:List UInt8)(b:Int):Nat:=LN (a++utf8 b)
def Qan(a:List UInt8)(b:Nat):List D:=[ZB (BI a b)]
def QsY(a:Int):List (List D):=[[ZB (orI IntKind.u8 (128:Int) (Mq IntKind.u8 (IntKind.wrap IntKind.u8 a) (63:Int)))]]
def Qao(a:List UInt8)(b:Int)(c:Nat):List D:=[ZB (BI (a++utf8 b) c)]
def QsZ(a:List UInt8)(b:Int):Prop:=LN a+3=Qe2 a b
def Qs0(a:Int):List (List D):=[ZB (orI IntKind.u8 (128:Int) (Mq IntKind.u8 (IntKind.wrap IntKind.u8 (Int.fdiv a (64:Int))) (63:Int)))]::QsY a
def Qs1(a:Nat)(b:List UInt8)(c:Int):Prop:=SM a/\Be ((LN b+3)*N1<=140737488355328/\LN b+3<=9223372036854775807) (∀(t1:Nat),Jp a t1->True/\∃(y:Nat),Jp a y/\(QsZ b c/\(∀(i:Nat),i<LN b+3->BW (LN b) (fun i=>Qan b i) (fun i=>List.getD ([ZB (orI IntKind.u8 (224:Int) (IntKind.wrap IntKind.u8 (Int.fdiv c (4096:Int))))]::Qs0 c) i []) i=Qao b c i)/\t1=y)/\True/\t1=y/\True)
def Qe3(a:Int):Bool:=bif decide ((65535:Int)<IntKind.wrap IntKind.u32 a) then decide (IntKind.wrap IntKind.u32 a<=1114111) else false
def Qs2(a:Int)(b:Nat)(c:List UInt8):Prop:=ifB (decide ((65535:Int)<IntKind.wrap IntKind.u32 a)) (decide (IntKind.wrap IntKind.u32 a<=1114111)=Qe3 a/\True) (false=Qe3 a/\True)/\ifB (Qe3 a) (SM b/\Be ((LN c+N4)*N1<=140737488355328/\LN c+N4<=9223372036854775807) (∀(t1:Nat),Jp b t1->True/\∃(y:Nat),Jp b y/\(LN c+N4=Qe2 c a/\(∀(i:Nat),i<LN c+N4->BW (LN c) (fun i=>Qan c i) (fun i=>List.getD ([ZB (orI IntKind.u8 (240:Int) (IntKind.wrap IntKind.u8 (Int.fdiv a (262144:Int))))]::[ZB (orI IntKind.u8 (128:Int) (Mq IntKind.u8 (IntKind.wrap IntKind.u8 (Int.fdiv a (4096:Int))) (63:Int)))]::Qs0 a) i []) i=Qao c a i)/\t1=y)/\True/\t1=y/\True)) (SM b/\Be ((LN c+3)*N1<=140737488355328/\LN c+3<=9223372036854775807) (∀(t1:Nat),Jp b t1->True/\∃(y:Nat),Jp b y/\(QsZ c a/\(∀(i:Nat),i<LN c+3->BW (LN c) (fun i=>Qan c i) (fun i=>List.getD [[ZB (239:Int)],[ZB (191:Int)],[ZB (189:Int)]] i []) i=Qao c a i)/\t1=y)/\True/\t1=y/\True))
def Qe4(a:Int):Bool:=bif decide ((57343:Int)<IntKind.wrap IntKind.u32 a) then decide (IntKind.wrap IntKind.u32 a<=65535) else false
theorem Bp2(t : Nat)(l : List UInt8)(c : Int)(h0 : 128<=c)(hc : BZ c.toNat)(hl : l.length+4<=140737488355328) :
  ACalls Tryz.prog 151 [bsl l (.tok 0 t),.int .i32 c] ⟨[],[(0,t)]⟩ (SpecR (sAp t l c True) ()):=by
 refine Bf (A:=sAp t l c True) (x:=()) (E:=Ean) (eOk BJ rfl) Tryz.func151 rfl (by kernel_rfl) rfl (by simp[sAp,Ean,EC,E0]) ?_
 refine Bk (T :=
  ifB (decide (IntKind.wrap IntKind.u32 c<=2047)) (SM t/\Be ((LN l+N2)*N1<=140737488355328/\LN l+N2<=9223372036854775807) (∀(t1:Nat),Jp t t1->True/\∃(y:Nat),Jp t y/\(LN l+N2=Qe2 l c/\(∀(i:Nat),i<LN l+N2->BW (LN l) (fun i=>Qan l i) (fun i=>List.getD ([ZB (orI IntKind.u8 (192:Int) (IntKind.wrap IntKind.u8 (Int.fdiv c (64:Int))))]::QsY c) i []) i=Qao l c i)/\t1=y)/\True/\t1=y/\True)) (ifB (decide (IntKind.wrap IntKind.u32 c<55296)) (ifB (decide (IntKind.wrap IntKind.u32 c<55296)) (Qs1 t l c) (Qs2 c t l)) (ifB (decide ((57343:Int)<IntKind.wrap IntKind.u32 c)) (decide (IntKind.wrap IntKind.u32 c<=65535)=Qe4 c/\True) (false=Qe4 c/\True)/\ifB (Qe4 c) (Qs1 t l c) (Qs2 c t l)))) (by kernel_rfl) ?_
 delta BI LN N1 N2 N4 N6 SM U0 ZB Jp Qe2 Qe4 Qan QsY Qao QsZ Qs0 Qs1 Qe3 Qs2
 simp only[eq_self,Bh,Bc,decide_eq_true_eq,decide_eq_false_iff_not,true_and,and_true]
 obtain ⟨n,rfl⟩:∃n:Nat,c=n:=⟨c.toNat,by omega⟩
 rw[Int.toNat_natCast] at hc
 have hn:n<=1114111:=by unfold BZ at hc;omega
 have hu:IntKind.u32.wrap (n:Int)=(n:Int):=Ga (k:=.u32) rfl (by simp only[IntKind.bits];omega)
 have he:=IC hc
 unfold Bfg at he
 obtain ⟨b1,b2,b3⟩:=BpY
 have f1:((n:Int).fdiv 64)=((n / 64:Nat):Int):=Bki n 64
 have f2:((n:Int).fdiv 4096)=((n / 4096:Nat):Int):=Bki n 4096
 have f3:((n:Int).fdiv 262144)=((n / 262144:Nat):Int):=Bki n 262144
 simp only[hu,f1,f2,f3,Bqk,Bool.cond_false_right,Bool.and_eq_true,Bool.and_eq_false_iff,decide_eq_true_eq,decide_eq_false_iff_not]
 refine⟨fun h=>RM hl (by rw[he,if_neg (by omega),if_pos (by omega)]) rfl (by decide) ?_,fun h2=>⟨fun h3=>⟨fun h4=>RM hl (by rw[he,if_neg (by omega),if_neg (by omega),if_pos (by omega)]) rfl (by decide) ?_,fun h4=>(h4 h3).elim⟩,fun h3=>⟨⟨fun h=>Cy h,fun h=>Cx h⟩,fun h4=>RM hl (by rw[he,if_neg (by omega),if_neg (by omega),if_pos (by omega)]) rfl (by decide) ?_,fun h4=>⟨⟨fun h=>Cy h,fun h=>Cx h⟩,fun h5=>RM hl (by rw[he,if_neg (by omega),if_neg (by omega),if_neg (by omega)]) rfl (by decide) ?_,fun h5=>?_⟩⟩⟩⟩
 ·intro i hi
  rcases (by omega:i=0\/i=1) with rfl | rfl
  ·simp only[List.getD_cons_zero]
   rw[b1 _ (by omega),BX _ (by omega)]
  ·simp only[List.getD_cons_zero,List.getD_cons_succ]
   rw[BX _ (by omega)]
 ·intro i hi
  rcases (by omega:i=0\/i=1\/i=2) with rfl | rfl | rfl
  ·simp only[List.getD_cons_zero]
   rw[b2 _ (by omega),BX _ (by omega)]
  ·simp only[List.getD_cons_zero,List.getD_cons_succ]
   rw[BX _ (by omega)]
  ·simp only[List.getD_cons_zero,List.getD_cons_succ]
   rw[BX _ (by omega)]
 ·intro i hi
  rcases (by omega:i=0\/i=1\/i=2) with rfl | rfl | rfl
  ·simp only[List.getD_cons_zero]
   rw[b2 _ (by omega),BX _ (by omega)]
  ·simp only[List.getD_cons_zero,List.getD_cons_succ]
   rw[BX _ (by omega)]
  ·simp only[List.getD_cons_zero,List.getD_cons_succ]
   rw[BX _ (by omega)]
 ·intro i hi
  rcases (by omega:i=0\/i=1\/i=2\/i=3) with rfl | rfl | rfl | rfl
  ·simp only[List.getD_cons_zero]
   rw[b3 _ (by omega),BX _ (by omega)]
  ·simp only[List.getD_cons_zero,List.getD_cons_succ]
   rw[BX _ (by omega)]
  ·simp only[List.getD_cons_zero,List.getD_cons_succ]
   rw[BX _ (by omega)]
  ·simp only[List.getD_cons_zero,List.getD_cons_succ]
   rw[BX _ (by omega)]
 ·exfalso
  unfold BZ at hc
  omega
def BlX:Con:=fun k ds S=>match k with
 |151=>match ds with
  | [.sl 1 n f (.tok 0 t),.int .i32 c]=>match Mf S.toks 0 with
   |some t'=>some ((sAp t (bytesOf n f) c True).fits () (Cg n f=true/\t'=t/\128<=c/\BZ c.toNat/\n+4<=140737488355328))
   |_=>none
  |_=>none
 |_=>none
theorem Bdx{g : Nat}{n t t' : Nat}{f : Nat -> List D}{c : Int}{p : Prop}{S : St}(hg : Mf S.toks 0=some t')(h : p -> ACalls Tryz.prog g [bsl (bytesOf n f) (.tok 0 t), .int .i32 c] ⟨[], [(0, t)]⟩ (SpecR (sAp t (bytesOf n f) c True) ())) :
  (∀x,((sAp t (bytesOf n f) c True).fits () (Cg n f=true/\t'=t/\p)).pre x->ACalls Tryz.prog g (((sAp t (bytesOf n f) c True).fits () (Cg n f=true/\t'=t/\p)).args x) (((sAp t (bytesOf n f) c True).fits () (Cg n f=true/\t'=t/\p)).st x) (SpecR ((sAp t (bytesOf n f) c True).fits () (Cg n f=true/\t'=t/\p)) x)) /\
  (∀x,((sAp t (bytesOf n f) c True).fits () (Cg n f=true/\t'=t/\p)).fit=some x->((sAp t (bytesOf n f) c True).fits () (Cg n f=true/\t'=t/\p)).pre x->Br [.sl 1 n f (.tok 0 t),.int .i32 c] (((sAp t (bytesOf n f) c True).fits () (Cg n f=true/\t'=t/\p)).args x)/\leS (((sAp t (bytesOf n f) c True).fits () (Cg n f=true/\t'=t/\p)).st x) S) /\
  (((sAp t (bytesOf n f) c True).fits () (Cg n f=true/\t'=t/\p)).all=true->∀x,((sAp t (bytesOf n f) c True).fits () (Cg n f=true/\t'=t/\p)).pre x->Br [.sl 1 n f (.tok 0 t),.int .i32 c] (((sAp t (bytesOf n f) c True).fits () (Cg n f=true/\t'=t/\p)).args x)/\((sAp t (bytesOf n f) c True).fits () (Cg n f=true/\t'=t/\p)).st x=S):=by
 refine⟨fun _ ⟨⟨_,_,hp⟩,_⟩=>h hp,fun _ _ ⟨⟨h1,h2,_⟩,_⟩=>?_,fun e=>nomatch e⟩
 subst h2
 refine⟨⟨OF h1,Bd _,trivial⟩,Ba.2 ⟨rfl,trivial,?_⟩⟩
 simp only[FnSpec.fits,sAp,leT,hg]
 exact⟨trivial,trivial⟩
theorem Bji:ConOk Tryz.prog BlX:=by
 intro k ds S A h
 unfold BlX at h
 split at h
 ·split at h
  ·split at h
   ·rename_i hg
    injection h with h;subst h
    exact Bdx hg fun ⟨h1,h2,h3⟩=>Bp2 _ _ _ h1 h2 (by simpa[bytesOf] using h3)
   ·cases h
  ·cases h
 ·cases h
noncomputable def Eap:Senv:={ EC BlX 16 2 [4,7] (fun _=>([],[])) with own:=fun t=>Nat.beq t 56 }
def Qap(a b:Nat):Prop:=a % (1000003:Nat)=N6->b % (1000003:Nat)=N6
def Qe5(a:List UInt8)(b:Nat):List D:=[ZB (BI a b)]
def Qs3(a:List UInt8)(b:Int)(c:Nat):List D:=[ZB (BI (a++utf8 b) c)]
def Qs4(a:List UInt8)(b:Int):List UInt8:=(bytesOf (LN a) fun i=>Qe5 a i)++utf8 b
def Qs5(a:List UInt8)(b:Int):Nat:=LN (Qs4 a b)
theorem BpR(t : Nat)(l : List UInt8)(c : Int)(h0 : 0<=c)(hc : BZ c.toNat)(hl : l.length+4<=140737488355328) :
  ACalls Tryz.prog 121 [bsl l (.tok 0 t),.int .i32 c] ⟨[],[(0,t)]⟩ (SpecR (sAp t l c True) ()):=by
 refine Bf (A:=sAp t l c True) (x:=()) (E:=Eap) (eOk Bji rfl) Tryz.func121 rfl (by kernel_rfl) rfl (by simp[sAp,Eap,EC,E0]) ?_
 refine Bk (T :=
  ifB (decide (IntKind.wrap IntKind.u32 c<=127)) (SM t/\Be ((LN l+N1)*N1<=140737488355328/\LN l+N1<=9223372036854775807) (∀(t1:Nat),Qap t t1->True/\∃(y:Nat),Qap t y/\(LN l+N1=LN (l++utf8 c)/\(∀(i:Nat),i<LN l+N1->BW (LN l) (fun i=>Qe5 l i) (fun i=>List.getD [[ZB (IntKind.wrap IntKind.u8 c)]] i []) i=Qs3 l c i)/\t1=y)/\True/\t1=y/\True)) ((((Cg (LN l) fun i=>Qe5 l i)=true/\SM t/\(128:Int)<=c/\BZ (Int.toNat c)/\LN l+N4<=140737488355328)/\True)/\∀(y:Nat),Qap t y->True/\∃(y_1:Nat),Qap t y_1/\(Qs5 l c=LN (l++utf8 c)/\(∀(i:Nat),i<Qs5 l c->[ZB (BI (Qs4 l c) i)]=Qs3 l c i)/\y=y_1)/\True/\y=y_1/\True)) (by kernel_rfl) ?_
 delta BI LN N1 N4 N6 SM U0 ZB Qap Qe5 Qs3 Qs4 Qs5
 have eb:bytesOf l.length (fun i=>[.int .u8 ((l.getD i 0).toNat:Int)])=l:=Cp l
 have er:Cg l.length (fun i=>[.int .u8 ((l.getD i 0).toNat:Int)])=true:=Ix l
 simp only[eb,er,eq_self,implies_true,Bh,Bc,decide_eq_true_eq,decide_eq_false_iff_not,true_and,and_true]
 obtain ⟨n,rfl⟩:∃n:Nat,c=n:=⟨c.toNat,by omega⟩
 rw[Int.toNat_natCast] at hc
 have hn:n<=1114111:=by unfold BZ at hc;omega
 have hu:IntKind.u32.wrap (n:Int)=(n:Int):=Ga (k:=.u32) rfl (by simp only[IntKind.bits];omega)
 rw[hu]
 refine⟨fun h=>RM hl (bs:=[UInt8.ofNat n]) (by rw[IC hc];unfold Bfg;rw[if_pos (show n<128 by omega)]) rfl (by decide) ?_,fun h=>⟨⟨by omega,by rw[Int.toNat_natCast];exact hc,hl⟩,fun y hy=>⟨y,hy,rfl,rfl⟩⟩⟩
 intro i hi
 obtain rfl:i=0:=by omega
 simp only[List.getD_cons_zero]
 rw[BjH,BX _ (by omega),Nat.mod_eq_of_lt (by omega)]
def Bft:Con:=fun k ds S=>match k with
 |121=>match ds with
  | [.sl 1 n f (.tok 0 t),.int .i32 c]=>match Mf S.toks 0 with
   |some t'=>some ((sAp t (bytesOf n f) c True).fits () (Cg n f=true/\t'=t/\0<=c/\BZ c.toNat/\n+4<=140737488355328))
   |_=>none
  |_=>none
 |k=>BdU k ds S
theorem Bh5:ConOk Tryz.prog Bft:=by
 intro k ds S A h
 unfold Bft at h
 split at h
 ·split at h
  ·split at h
   ·rename_i hg
    injection h with h;subst h
    exact Bdx hg fun ⟨h1,h2,h3⟩=>BpR _ _ _ h1 h2 (by simpa[bytesOf] using h3)
   ·cases h
  ·cases h
 ·exact WG _ _ _ _ h
noncomputable def EwrK:Senv:={ EC Bft 30 2 [4,5,6] (fun _=>([],[])) with own:=fun t=>Nat.beq t 56 }
def Qaq(a:Int):List UInt8:=utf8 a
def Qs6(a:List UInt8)(b:Int):List UInt8:=(bytesOf (LN a) fun i=>[ZB (BI a i)])++Qaq b
def Qe6(a:List UInt8)(b:Int):Nat:=LN (Qs6 a b)
theorem Bqa(x t : Nat)(l : List UInt8)(c : Int)(h0 : 0<=c)(hc : BZ c.toNat)(hl : l.length+4<=140737488355328) :
  ACalls Tryz.prog 90 ((sWs (utf8 c) 5 x t l (.ret (.tup [.int .i64 (utf8 c).length,.nili])) [.int .i32 c]).args ()) ((sWs (utf8 c) 5 x t l (.ret (.tup [.int .i64 (utf8 c).length,.nili])) [.int .i32 c]).st ()) (SpecR (sWs (utf8 c) 5 x t l (.ret (.tup [.int .i64 (utf8 c).length,.nili])) [.int .i32 c]) ()):=by
 refine Bf (A:=sWs (utf8 c) 5 x t l (.ret (.tup [.int .i64 (utf8 c).length,.nili])) [.int .i32 c]) (x:=()) (E:=EwrK) (eOk Bh5 rfl) Tryz.func90 rfl (by kernel_rfl) rfl (by simp[sWs,EwrK,EC,E0]) ?_
 refine Bk (T :=
  ((SM x/\SM (58:Nat)/\SM true)/\True)/\∀(y:Unit),True->SM x/\SM x/\(((Cg (LN l) fun i=>[ZB (BI l i)])=true/\SM t/\Z0<=c/\BZ (Int.toNat c)/\LN l+N4<=140737488355328)/\True)/\∀(y:Nat),(t % (1000003:Nat)=N6->y % (1000003:Nat)=N6)->SM x/\(t % (1000003:Nat)=N6->y % (1000003:Nat)=N6)/\SM x/\True/\∃(y_1:Nat),True/\(IntKind.wrap IntKind.i64 ((NI (Qe6 l c))-(LI l))=(LI (Qaq c))/\True/\True)/\(SM x/\(Qe6 l c=LN (l++Qaq c)/\(∀(i:Nat),i<Qe6 l c->[ZB (BI (Qs6 l c) i)]=[ZB (BI (l++Qaq c) i)])/\y=y_1)/\True)/\y=y_1/\True) (by kernel_rfl) ?_
 delta BI LI LN N4 N6 NI SM U0 Z0 ZB Qaq Qs6 Qe6
 have eb:bytesOf l.length (fun i=>[.int .u8 ((l.getD i 0).toNat:Int)])=l:=Cp l
 have er:Cg l.length (fun i=>[.int .u8 ((l.getD i 0).toNat:Int)])=true:=Ix l
 simp only[eb,er,eq_self,implies_true,true_and,and_true,forall_const]
 refine⟨⟨h0,hc,hl⟩,fun y hy=>⟨hy,y,?_,rfl,rfl⟩⟩
 have:=E7 c
 rw[Bb (by rw[List.length_append];omega) (by rw[List.length_append];omega),List.length_append]
 omega
def Bfd(ts:List (Nat×Nat))(kt t:Nat):Prop :=
 match Mf ts kt with
 |some t'=>t'=t
 |none=>False
def OL(ts:List (Nat×Nat))(x y T E kt t n:Nat)(g:Nat->List D):Prop:=y=x/\T=58/\E=5/\Bfd ts kt t/\Cg n g=true
def OB(z:Int):UInt8:=UInt8.ofNat z.toNat
def BfT(base:Con):Con:=fun k ds S=>match k with
 |39=>match ds with
  | [.ref k x 0,.str s]=>match Bt S.objs k with
   |some (y,.bld T E (.sl 1 n g (.tok kt t)))=>some ((sBw s k kt x t (bytesOf n g) (.ret (.tup [.int .i64 s.length,.nili])) [.str s]).fits () (OL S.toks x y T E kt t n g/\n+s.length<=140737488355328))
   |_=>none
  |_=>none
 |21=>match ds with
  | [.ref k x 0,.int .u8 z]=>match Bt S.objs k with
   |some (y,.bld T E (.sl 1 n g (.tok kt t)))=>some ((sBw [OB z] k kt x t (bytesOf n g) (.ret .nili) [.int .u8 z]).fits () (OL S.toks x y T E kt t n g/\(0<=z/\z<=255)/\n+1<=140737488355328))
   |_=>none
  |_=>none
 |22=>match ds with
  | [.ref k x 0]=>match Bt S.objs k with
   |some (y,.bld T E (.sl 1 n g (.tok kt t)))=>some ((sBs k kt x t (bytesOf n g)).fits () (OL S.toks x y T E kt t n g/\n<=140737488355328))
   |_=>none
  |_=>none
 |90=>match ds with
  | [.ref k x 0,.int .i32 c]=>match Bt S.objs k with
   |some (y,.bld T E (.sl 1 n g (.tok kt t)))=>some ((sBw (utf8 c) k kt x t (bytesOf n g) (.ret (.tup [.int .i64 (utf8 c).length,.nili])) [.int .i32 c]).fits () (OL S.toks x y T E kt t n g/\(0<=c/\BZ c.toNat)/\n+4<=140737488355328))
   |_=>none
  |_=>none
 |k=>base k ds S
theorem Bec{z:Int}(h:0<=z/\z<=255):((OB z).toNat:Int)=z:=by
 unfold OB
 rw[UInt8.toNat_ofNat'];omega
theorem OT{os : List (Nat×Nat×AObj)}{k x y T E n kt t : Nat}{g : Nat -> List D}(hg : Bt os k=some (y, .bld T E (.sl 1 n g (.tok kt t))))(h1 : y=x)(h2 : T=58)(h3 : E=5)(hr : Cg n g=true) :
  leO [(k,x,.bld 58 5 (bsl (bytesOf n g) (.tok kt t)))] os:=by
 subst h1 h2 h3
 simp only[leO,hg,CT]
 exact⟨trivial,Ba.2 ⟨by simp[Ot,bsl],OF hr⟩,trivial⟩
theorem Tr{ts:List (Nat×Nat)}{kt t:Nat}(h:Bfd ts kt t):leT [(kt,t)] ts:=by
 unfold Bfd at h
 simp only[leT]
 split at h
 ·rename_i t' e;rw[e];exact⟨h,trivial⟩
 ·exact h.elim
theorem BcA{base:Con}(hb:ConOk Tryz.prog base):ConOk Tryz.prog (BfT base):=by
 intro k ds S A h
 unfold BfT at h
 split at h
 ·split at h
  ·split at h
   ·rename_i k x s _ y T E n g kt t hg
    injection h with h;subst h
    have key:∀p:n+s.length<=140737488355328,ACalls Tryz.prog 39 ((sBw s k kt x t (bytesOf n g) (.ret (.tup [.int .i64 s.length,.nili])) [.str s]).args ()) ((sBw s k kt x t (bytesOf n g) (.ret (.tup [.int .i64 s.length,.nili])) [.str s]).st ()) (SpecR (sBw s k kt x t (bytesOf n g) (.ret (.tup [.int .i64 s.length,.nili])) [.str s]) ()):=fun p =>
     Bdr k kt x t (Bn2 x t (bytesOf n g) s (by simpa[bytesOf] using p))
    refine⟨fun _ hy=>key hy.1.2,fun _ _ hy=>?_,fun h=>nomatch h⟩
    obtain ⟨⟨⟨h1,h2,h3,h4,h5⟩,_⟩,_⟩:=hy
    exact⟨⟨by simp[Bg,chk],by simp[Bg],trivial⟩,Ba.2 ⟨rfl,OT hg h1 h2 h3 h5,Tr h4⟩⟩
   ·cases h
  ·cases h
 ·split at h
  ·split at h
   ·rename_i k x z _ y T E n g kt t hg
    injection h with h;subst h
    have key:∀p:(0<=z/\z<=255)/\n+1<=140737488355328,ACalls Tryz.prog 21 ((sBw [OB z] k kt x t (bytesOf n g) (.ret .nili) [.int .u8 z]).args ()) ((sBw [OB z] k kt x t (bytesOf n g) (.ret .nili) [.int .u8 z]).st ()) (SpecR (sBw [OB z] k kt x t (bytesOf n g) (.ret .nili) [.int .u8 z]) ()):=fun p=>by
     have:=Bdr k kt x t (Boj x t (bytesOf n g) (OB z) (by simpa[bytesOf] using p.2))
     rw[Bec p.1] at this
     exact this
    refine⟨fun _ hy=>key hy.1.2,fun _ _ hy=>?_,fun h=>nomatch h⟩
    obtain ⟨⟨⟨h1,h2,h3,h4,h5⟩,_⟩,_⟩:=hy
    exact⟨⟨by simp[Bg,chk],Bd _,trivial⟩,Ba.2 ⟨rfl,OT hg h1 h2 h3 h5,Tr h4⟩⟩
   ·cases h
  ·cases h
 ·split at h
  ·split at h
   ·rename_i k x _ y T E n g kt t hg
    injection h with h;subst h
    refine⟨fun _ hy=>BfD k kt x t (bytesOf n g) (by have:=hy.1.2;simp[bytesOf];omega),fun _ _ hy=>?_,fun h=>nomatch h⟩
    obtain ⟨⟨⟨h1,h2,h3,h4,h5⟩,_⟩,_⟩:=hy
    exact⟨⟨by simp[Bg,chk],trivial⟩,Ba.2 ⟨rfl,OT hg h1 h2 h3 h5,Tr h4⟩⟩
   ·cases h
  ·cases h
 ·split at h
  ·split at h
   ·rename_i k x c _ y T E n g kt t hg
    injection h with h;subst h
    have key:∀p:(0<=c/\BZ c.toNat)/\n+4<=140737488355328,ACalls Tryz.prog 90 ((sBw (utf8 c) k kt x t (bytesOf n g) (.ret (.tup [.int .i64 (utf8 c).length,.nili])) [.int .i32 c]).args ()) ((sBw (utf8 c) k kt x t (bytesOf n g) (.ret (.tup [.int .i64 (utf8 c).length,.nili])) [.int .i32 c]).st ()) (SpecR (sBw (utf8 c) k kt x t (bytesOf n g) (.ret (.tup [.int .i64 (utf8 c).length,.nili])) [.int .i32 c]) ()):=fun p =>
     Bdr k kt x t (Bqa x t (bytesOf n g) c p.1.1 p.1.2 (by simpa[bytesOf] using p.2))
    refine⟨fun _ hy=>key hy.1.2,fun _ _ hy=>?_,fun h=>nomatch h⟩
    obtain ⟨⟨⟨h1,h2,h3,h4,h5⟩,_⟩,_⟩:=hy
    exact⟨⟨by simp[Bg,chk],Bd _,trivial⟩,Ba.2 ⟨rfl,OT hg h1 h2 h3 h5,Tr h4⟩⟩
   ·cases h
  ·cases h
 ·exact hb _ _ _ _ h
theorem Bc9(t y:Nat)(l:List UInt8):OL [(0,t)] y y 58 5 0 t l.length (fun i=>[.int .u8 ((l.getD i 0).toNat:Int)]):=⟨rfl,rfl,rfl,rfl,Ix l⟩
def Bhu(p:Nat):Lex->D
 |.error (e,o)=>.tup [.agg [.int .i64 0,.int .i64 0,.int .i64 0,.int .i64 0,.str []],.int .i64 ((p+o:Nat):Int),.int .i64 e]
 |.ok (k,len,num,text)=>.tup [.agg [.int .i64 k,.int .i64 0,.int .i64 len,.int .i64 num,.str text],.int .i64 0,.int .i64 0]
def UZ(x:Nat)(s:List UInt8)(p:Int)(l:D):Con:=fun k ds S=>match k with
 |88=>match ds with
  | [_,.int .i64 a]=>some (G4 [.ref 0 x 0,.int .i64 a] (scS x s p l) BnE (Mo a.toNat (Gh (s.drop a.toNat))) (0<=a/\a<s.length/\s.length<=4294967296/\0<=p))
  |_=>none
 |k=>BfV x s p l k ds S
theorem Ub(x:Nat)(s:List UInt8)(p:Int)(l:D):ConOk Tryz.prog (UZ x s p l):=by
 have nn:∀ {a:Int},0<=a->((a.toNat:Nat):Int)=a:=fun h=>by omega
 intro k ds S A h
 unfold UZ at h
 split at h
 ·split at h
  ·injection h with h;subst h
   refine ConOk.plain (Bgx fun ⟨h1,h2,h3,h4⟩=>?_) rfl rfl
   have:=Bha x s p.toNat l _ ((Int.toNat_lt h1).2 h2) h3
   rw[nn h1,nn h4] at this
   exact this
  ·cases h
 ·exact Bdg x s p l _ _ _ _ h
theorem Bbx{s:List UInt8}{a:Nat}:UB (s.drop a)=true↔(s.length:Int)<=(a:Int)\/s.getD a 0=10:=by
 have e0:(s.drop a).getD 0 0=s.getD a 0:=by simp[List.getD_eq_getElem?_getD]
 unfold UB
 rw[Bool.or_eq_true,e0,beq_iff_eq,List.isEmpty_iff,List.drop_eq_nil_iff,Int.ofNat_le]
theorem UR{a:Nat}{r:Option (Nat×Nat)}{z:Int×Int×Bool}(h:Mo a r z)(hz:(!z.2.2)=false):∃c w,r=some (c,w)/\z=((c:Int),((a+w:Nat):Int),true):=by
 cases r with
 |none =>
  rw[h.1 rfl] at hz
  exact Bool.noConfusion hz
 |some v=>exact⟨v.1,v.2,rfl,h.2 _ _ rfl⟩
structure StrI (s:List UInt8) (p:Nat) (a m:Nat) (acc:List UInt8):Prop where
 lo:p+1<=a
 hi:a<=s.length
 many:m<=a
 len:acc.length<=4*a
 go:∃n,s.length-a<n/\G9 n (s.drop a) (a-p) acc=TT (s.drop p)
noncomputable def EliK(x:Nat)(s:List UInt8)(p:Nat)(l:D):Senv:={ EC (BfT (UZ x s p l)) 105 2 [4,5,6,7,8,9,10,11,12,13,14,15,25,34,61,68,98] (fun id=>match id with | 7=>([0,1,2,3,4,5,6,7],[5]) | 9=>([0,1,2,3,4,5,6,7,8,9,10],[7,9,10]) | 14=>([0,1,2,3,4,5,6,7],[5]) | _=>([],[])) with
 bd:=fun t=>match t with
  |58=>some 5
  |_=>none
 ann:=fun b _ S=>match b with
  |0=>some { slots:=[11,9,10],keep:=[0,1,4,7,8],α:=Nat×Nat×Int×Nat×List UInt8,st:=fun y=>([.int .i64 y.1,.int .i64 y.2.1,.int .i32 y.2.2.1],⟨Gu S.objs 2 (.bld 58 5 (bsl y.2.2.2.2 (.tok 0 y.2.2.2.1))),[(0,y.2.2.2.1)]⟩),inv:=fun y=>StrI s p y.1 y.2.1 y.2.2.2.2,mu:=fun y=>s.length-y.1 }
  |_=>none }
def Qar(a:List UInt8)(b:Nat):List D:=[ZB (BI a b)]
def Qs7(a b:Nat)(c:List UInt8)(d:Nat)(e:D):Prop:=SM a/\(SM Z0/\SM Z0/\SM Z0/\SM Z0/\CN (List UInt8) [] []/\True)/\SM b/\(SM c/\SM (↑d:Int)/\Bg e e/\True)/\True
def Qe7(a:List UInt8)(b:Nat):Bool:=bif decide ((LI a)<=(↑b:Int)) then true else (BI a (Int.toNat (↑b:Int)))==10
def Qas(a b:Nat):Prop:=SM a/\SM (ZI (↑b:Int))
def Qs8:D:=D.agg [ZI Z0,ZI Z0,ZI Z0,ZI Z0,D.str []]
def Qe8(a:Nat)(b:List UInt8):D:=Bhu a (TT (List.drop a b))
def Qat(a:Nat)(b:List UInt8)(c:Nat)(d:D):Prop:=(SM a/\(SM b/\SM (↑c:Int)/\Bg d d/\True)/\True)/\True
def Qe9(a:List UInt8)(b:Nat):Bool:=bif (BI a (Int.toNat (↑b:Int)))==34 then true else false
def Qs9(a b:Nat)(c:List UInt8):Prop:=OL [(N0,a)] b b (58:Nat) (5:Nat) N0 a (LN c) fun i=>Qar c i
def Qta(a b:Nat)(c:List UInt8):Prop:=(Qs9 a b c/\LN c<=140737488355328)/\True
def Qtb(a:List UInt8):List UInt8:=bytesOf (LN a) fun i=>Qar a i
def Qtc(a b c d e:Nat)(f g:List UInt8)(h:D):Prop:=Qas a b/\SM c/\SM c/\SM d/\(SM d/\True)/\∃(_y:Unit),True/\Bg (D.tup [D.agg [ZI 3,ZI Z0,ZI (IntKind.wrap IntKind.i64 (IntKind.wrap IntKind.i64 ((↑e:Int)+Z1)-(↑b:Int))),ZI Z0,D.str (Qtb f)],ZI Z0,ZI Z0]) (Qe8 b g)/\Qat a g b h
def Qtd(a:List UInt8)(b:Int):List UInt8:=Qtb a++utf8 b
def Qte(a:List UInt8)(b:Int):Nat:=LN (Qtd a b)
theorem BlI(x : Nat)(s : List UInt8)(p : Nat)(l : D)(hp : p<s.length)(hs : s.length<=4294967296) :
  ACalls Tryz.prog 58 [.ref 0 x 0,.int .u8 34] (scS x s p l) (SpecR (sSt [.ref 0 x 0,.int .u8 34] (scS x s p l) (Bhu p (TT (s.drop p)))) ()):=by
 refine Bf (A:=sSt _ _ _) (x:=()) (E:=EliK x s p l) (eOk (BcA (Ub x s p l)) rfl) Tryz.func58 rfl (by kernel_rfl) rfl (by simp[sSt,EliK,EC,E0]) ?_
 refine Bk (T :=
  ∀(x_1:Nat),x≠x_1/\True->∀(y t:Nat),x_1≠y/\x≠y/\True->SM x/\(∃(x_2:Nat×Nat×Int×Nat×List UInt8),StrI s p x_2.1 x_2.2.1 x_2.2.2.2.2/\(IntKind.wrap IntKind.i64 ((↑p:Int)+Z1)=(NI x_2.1)/\Z0=(NI x_2.2.1)/\Z0=x_2.2.2.1/\True)/\(SM y/\(N0=LN x_2.2.2.2.2/\(∀(i:Nat),i<N0->CN (List D) [] (Qar x_2.2.2.2.2 i))/\t=x_2.2.2.2.1)/\Qs7 x_1 x s p l)/\t=x_2.2.2.2.1/\True)/\∀(x_2:Nat×Nat×Int×Nat×List UInt8),StrI s p x_2.1 x_2.2.1 x_2.2.2.2.2->(SM x/\ifB (decide ((LI s)<=(NI x_2.1))) (true=Qe7 s x_2.1/\True) (SM x/\Be (Z0<=(NI x_2.1)/\(NI x_2.1)<(LI s)) (((BI s (TN x_2.1))==10)=Qe7 s x_2.1/\True)))/\True/\ifB (Qe7 s x_2.1) (SM x/\SM x_1/\Qas x p/\(SM x_1/\True)/\∃(y:Unit),True/\Bg (D.tup [Qs8,ZI (↑p:Int),ZI 5]) (Qe8 p s)/\Qat x s p l) ((SM x/\Be (Z0<=(NI x_2.1)/\(NI x_2.1)<(LI s)) (ifB ((BI s (TN x_2.1))==34) (true=Qe9 s x_2.1/\True) (false=Qe9 s x_2.1/\True)))/\ifB (Qe9 s x_2.1) (SM x/\(Qta x_2.2.2.2.1 y x_2.2.2.2.2/\∀(y:Unit),True->Qas x p/\∀(x_3:Nat),x_1≠x_3/\x≠x_3/\True->Qtc x p x_3 x_1 x_2.1 x_2.2.2.2.2 s l)/\∀(x_3:Nat),y≠x_3/\x_1≠x_3/\x≠x_3/\True->Qas x p/\Qta x_2.2.2.2.1 y x_2.2.2.2.2/\∀(y:Unit),True->Qtc x p x_3 x_1 x_2.1 x_2.2.2.2.2 s l) ((SM false/\True)/\∃(x_3:Unit),(SM x/\SM (NI x_2.1)/\True)/\Qat x s p l/\(Z0<=(NI x_2.1)/\(NI x_2.1)<(LI s)/\LN s<=4294967296/\Z0<=(↑p:Int))/\∀(y_1:Int×Int×Bool),Mo (TN x_2.1) (Gh (List.drop (TN x_2.1) s)) y_1->ifB (!Prod.snd y_1.2) (SM x_1/\(SM x_1/\True)/\∃(y:Unit),True/\Bg (D.tup [Qs8,ZI (NI x_2.1),ZI 3]) (Qe8 p s)/\Qat x s p l) (((Qs9 x_2.2.2.2.1 y x_2.2.2.2.2/\(Z0<=y_1.1/\BZ (Int.toNat y_1.1))/\LN x_2.2.2.2.2+N4<=140737488355328)/\True)/\∀(y_2:Nat),True->(SM (D.ref N0 x N0)/\SM (ZB (34:Int))/\SM (D.ref N1 x_1 N0)/\SM (D.fn (Fn.func (88:Nat)) [D.ref N0 x N0] [])/\SM (D.ref N2 y N0)/\True)/\∃(y_3:Nat×Nat×Int×Nat×List UInt8),StrI s p y_3.1 y_3.2.1 y_3.2.2.2.2/\LN s-y_3.1<LN s-x_2.1/\(y_1.2.1=(NI y_3.1)/\IntKind.wrap IntKind.i64 ((NI x_2.2.1)+Z1)=(NI y_3.2.1)/\y_1.1=y_3.2.2.1/\True)/\(SM y/\(Qte x_2.2.2.2.2 y_1.1=LN y_3.2.2.2.2/\(∀(i:Nat),i<Qte x_2.2.2.2.2 y_1.1->[ZB (BI (Qtd x_2.2.2.2.2 y_1.1) i)]=Qar y_3.2.2.2.2 i)/\y_2=y_3.2.2.2.1)/\Qs7 x_1 x s p l)/\y_2=y_3.2.2.2.1/\True)))) (by kernel_rfl) ?_
 delta BI LI LN N0 N1 N2 N4 NI SM TN U0 Z0 Z1 ZB ZI Qar Qs7 Qtb Qtc Qtd Qte Qe7 Qas Qs8 Qe8 Qat Qe9 Qs9 Qta
 simp only[eq_self,ne_eq,Bd,Int.toNat_natCast,Bh,Bc,decide_eq_true_eq,decide_eq_false_iff_not,true_and,and_true,beq_iff_eq,Bool.cond_false_right,Bool.cond_true_left,Bool.or_eq_true,Bool.or_eq_false_iff,beq_eq_false_iff_ne,exists_const,forall_const,Cp,Bc9,Bool.and_true]
 have ku:∀(b:UInt8) (n:Nat),n<256->((b.toNat:Int)=(n:Int)↔b=UInt8.ofNat n):=fun b n hn=>⟨fun h=>M4 h hn,fun h=>by rw[h,BX n hn]⟩
 have k10:∀b:UInt8,(b.toNat:Int)=10↔b=10:=fun b=>ku b 10 (by decide)
 have k34:∀b:UInt8,(b.toNat:Int)=34↔b=34:=fun b=>ku b 34 (by decide)
 have p10:∀b:UInt8,((b.toNat:Int)==10)=(b==10):=fun b=>by
  rw[Bool.eq_iff_iff,beq_iff_eq,beq_iff_eq];exact k10 b
 have p34:∀b:UInt8,((b.toNat:Int)==34)=(b==34):=fun b=>by
  rw[Bool.eq_iff_iff,beq_iff_eq,beq_iff_eq];exact k34 b
 simp only[k10,k34,p10,p34]
 intro x1 _ y t _
 refine⟨⟨(p+1,0,0,t,[]),⟨Nat.le_refl _,by omega,Nat.zero_le _,Nat.zero_le _,s.length-p,by simp only;omega,?_⟩,⟨Bb (by omega) (by omega),rfl,rfl⟩,⟨rfl,fun i hi=>absurd hi (by omega),rfl⟩,rfl⟩,?_⟩
 ·unfold TT
  rw[List.length_drop,List.drop_drop]
  simp only[Nat.add_sub_cancel_left]
 rintro ⟨a,m,z,t1,acc⟩ hI
 simp only at hI ⊢
 obtain ⟨i1,i2,i3,i4,n,i5,i6⟩:=hI
 obtain ⟨n,rfl⟩:∃k,n=k+1:=⟨n-1,by omega⟩
 have e0:(s.drop a).getD 0 0=s.getD a 0:=by simp[List.getD_eq_getElem?_getD]
 have hT:=Bbx (s:=s) (a:=a)
 simp only[G9] at i6
 refine⟨⟨fun h=>by rw[decide_eq_true h];rfl,fun h=>⟨by omega,by rw[decide_eq_false h];rfl⟩⟩,fun h=>?_,fun h=>⟨⟨⟨by omega,by omega⟩,fun h=>by rw[h];rfl,fun h=>?_⟩,fun h34=>⟨⟨by omega,fun _ _=>?_⟩,fun _ _=>⟨by omega,?_⟩⟩,fun h34=>⟨⟨by omega,by omega,hs,by omega⟩,fun z1 hz=>⟨fun hz2=>?_,fun hz2=>⟨⟨⟨?_,?_⟩,by omega⟩,fun t2=>?_⟩⟩⟩⟩⟩
 ·rw[<- i6,if_pos (hT.2 h)]
  exact Bd _
 ·exact (by simpa using h:(s.getD a 0==34)=false).symm
 ·rw[<- i6,if_neg (fun h2=>(hT.1 h2).elim h.1 h.2),if_pos (by rw[e0];exact h34)]
  rw[Bb (n:=(a:Int)+1) (by omega) (by omega),Bb (by omega) (by omega),show (a:Int)+1-(p:Int)=((a-p+1:Nat):Int) by omega]
  exact Bd _
 ·rw[<- i6,if_neg (fun h2=>(hT.1 h2).elim h.1 h.2),if_pos (by rw[e0];exact h34)]
  rw[Bb (n:=(a:Int)+1) (by omega) (by omega),Bb (by omega) (by omega),show (a:Int)+1-(p:Int)=((a-p+1:Nat):Int) by omega]
  exact Bd _
 ·have hn:Gh (s.drop a)=none:=by
   cases hl:Gh (s.drop a) with
   |none=>rfl
   |some v =>
    obtain ⟨c,w⟩:=v
    rw[hz.2 c w hl] at hz2
    exact Bool.noConfusion hz2
  rw[hn] at i6
  rw[<- i6,if_neg (fun h2=>(hT.1 h2).elim h.1 h.2),if_neg (by rw[e0];exact h34)]
  simp only[Bhu]
  rw[show p+(a-p)=a by omega]
  exact Bd _
 ·obtain ⟨c,w,hl,rfl⟩:=UR hz hz2
  exact Int.natCast_nonneg c
 ·obtain ⟨c,w,hl,rfl⟩:=UR hz hz2
  exact Bdn hl
 ·obtain ⟨c,w,hl,rfl⟩:=UR hz hz2
  obtain ⟨w1,w2⟩:=OR (fun e=>by have:=congrArg List.length e;rw[List.length_drop,List.length_nil] at this;omega) hl
  rw[List.length_drop] at w2
  have hu:=E7 (c:Int)
  refine⟨(a+w,m+1,(c:Int),t2,acc++utf8 (c:Int)),⟨by simp only;omega,by simp only;omega,by simp only;omega,by simp only;rw[List.length_append];omega,n,by simp only;omega,?_⟩,by simp only;omega,⟨rfl,Bb (by omega) (by omega),rfl⟩,⟨rfl,fun _ _=>rfl,rfl⟩,rfl⟩
  rw[hl] at i6
  rw[<- i6,if_neg (fun h2=>(hT.1 h2).elim h.1 h.2),if_neg (by rw[e0];exact h34)]
  simp only
  rw[List.drop_drop,show a+w-p=a-p+w by omega]
  rfl
theorem BmT{s : List UInt8}{p : Nat} : GV (s.drop p)=if UB (s.drop (p+1))=true then .error (5, 0) else if s.getD (p+1) 0=39 then .error (3, 0)
  else match Gh (s.drop (p+1)) with
   |none=>.error (3,1)
   |some (c,w)=>if UB (s.drop (p+1+w))=true then .error (5,0) else if s.getD (p+1+w) 0=39 then .ok (2,w+2,c,[]) else .error (3,0):=by
 have e:∀k,(s.drop k).getD 0 0=s.getD k 0:=fun k=>by simp[List.getD_eq_getElem?_getD]
 unfold GV
 simp only[List.drop_drop,e]
 rfl
noncomputable def Elj(x:Nat)(s:List UInt8)(p:Nat)(l:D):Senv:={ EC (BfT (UZ x s p l)) 105 2 [4,5,6,7,8,9,10,11,12,13,14,15,25,34,61,68,98] (fun id=>match id with | 7=>([0,1,2,3,4,5,6,7],[5]) | 9=>([0,1,2,3,4,5,6,7,8,9,10],[7,9,10]) | 14=>([0,1,2,3,4,5,6,7],[5]) | _=>([],[])) with
 bd:=fun t=>match t with
  |58=>some 5
  |_=>none
 unr:=fun b=>match b with
  |0=>2
  |_=>0 }
def QA(a:Nat):Int:=IntKind.wrap IntKind.i64 ((↑a:Int)+Z1)
def Qau(a:Nat):Nat:=Int.toNat (QA a)
def Qtf(a:List UInt8)(b:Nat):Bool:=(BI a (Qau b))==10
def Qfa(a:List UInt8)(b:Nat):Bool:=bif decide ((LI a)<=QA b) then true else Qtf a b
def Jq(a b:Nat):Prop:=SM a/\SM (ZI (↑b:Int))
def Qfb:D:=D.agg [ZI Z0,ZI Z0,ZI Z0,ZI Z0,D.str []]
def XJ(a:Nat)(b:List UInt8):D:=Bhu a (GV (List.drop a b))
def VF(a:Nat)(b:List UInt8)(c:Nat)(d:D):Prop:=(SM a/\(SM b/\SM (↑c:Int)/\Bg d d/\True)/\True)/\True
def Qtg(a b c:Nat)(d:List UInt8)(e:D):Prop:=SM a/\SM b/\Jq a c/\(SM b/\True)/\∃(_y:Unit),True/\Bg (D.tup [Qfb,ZI (↑c:Int),ZI 5]) (XJ c d)/\VF a d c e
def Qav(a:List UInt8)(b:Nat):Bool:=(BI a (Qau b))==39
def Qth(a:List UInt8)(b:Nat):Bool:=bif Qav a b then false else false
def Qti(a:List UInt8)(b:Nat):Prop:=false=Qth a b/\True
def Qtj(a b:Nat):Prop:=OL [(N0,a)] b b (58:Nat) (5:Nat) N0 a N0 fun _x=>[]
def Qtk(a b:Nat):Prop:=(Qtj a b/\N0<=140737488355328)/\True
def Qtl(a b c d:Nat)(e:List UInt8)(f:D):Prop:=Jq a b/\SM c/\SM c/\SM c/\SM c/\SM c/\SM d/\(SM d/\True)/\∃(_y:Unit),True/\Bg (D.tup [D.agg [ZI 2,ZI Z0,ZI (IntKind.wrap IntKind.i64 (IntKind.wrap IntKind.i64 (QA b+Z1)-(↑b:Int))),ZI Z0,D.str []],ZI Z0,ZI Z0]) (XJ b e)/\VF a e b f
def Qtm(a b c:Nat)(d:List UInt8)(e:D):Prop:=SM a/\SM b/\Jq a c/\(SM b/\True)/\∃(_y:Unit),True/\Bg (D.tup [Qfb,ZI (↑c:Int),ZI 3]) (XJ c d)/\VF a d c e
def Qfc(a:List UInt8)(b:Int):Bool:=bif decide ((LI a)<=b) then true else (BI a (Int.toNat b))==10
def Qfd(a:List UInt8)(b:Int):Bool:=bif (BI a (Int.toNat b))==39 then true else false
def Qtn(a:Int):List UInt8:=[]++utf8 a
def Qto(a:Int):Nat:=LN (Qtn a)
def Qtp(a b:Nat)(c:Int):Prop:=((OL [(N0,a)] b b (58:Nat) (5:Nat) N0 a (Qto c) fun i=>[ZB (BI (Qtn c) i)])/\Qto c<=140737488355328)/\True
def Qtq(a b c d:Nat)(e f:Int)(g:List UInt8)(h:D):Prop:=Jq a b/\SM c/\SM c/\SM c/\SM c/\SM c/\SM d/\(SM d/\True)/\∃(_y:Unit),True/\Bg (D.tup [D.agg [ZI 2,ZI Z0,ZI (IntKind.wrap IntKind.i64 (IntKind.wrap IntKind.i64 (e+Z1)-(↑b:Int))),ZI (IntKind.wrap IntKind.i64 f),D.str []],ZI Z0,ZI Z0]) (XJ b g)/\VF a g b h
theorem Bi3(x : Nat)(s : List UInt8)(p : Nat)(l : D)(hp : p<s.length)(hs : s.length<=4294967296) :
  ACalls Tryz.prog 58 [.ref 0 x 0,.int .u8 39] (scS x s p l) (SpecR (sSt [.ref 0 x 0,.int .u8 39] (scS x s p l) (Bhu p (GV (s.drop p)))) ()):=by
 refine Bf (A:=sSt _ _ _) (x:=()) (E:=Elj x s p l) (eOk (BcA (Ub x s p l)) rfl) Tryz.func58 rfl (by kernel_rfl) rfl (by simp[sSt,Elj,EC,E0]) ?_
 refine Bk (T :=
  ∀(x_1:Nat),x≠x_1/\True->∀(y t:Nat),x_1≠y/\x≠y/\True->SM x/\(SM x/\ifB (decide ((LI s)<=QA p)) (true=Qfa s p/\True) (SM x/\Be (Z0<=QA p/\QA p<(LI s)) (Qtf s p=Qfa s p/\True)))/\True/\ifB (Qfa s p) (Qtg x x_1 p s l) ((SM x/\Be (Z0<=QA p/\QA p<(LI s)) (ifB (Qav s p) (Qti s p) (Qti s p)))/\ifB (Qth s p) (SM x/\(Qtk t y/\∀(y:Unit),True->Jq x p/\∀(x_2:Nat),x_1≠x_2/\x≠x_2/\True->Qtl x p x_2 x_1 s l)/\∀(x_2:Nat),y≠x_2/\x_1≠x_2/\x≠x_2/\True->Jq x p/\Qtk t y/\∀(y:Unit),True->Qtl x p x_2 x_1 s l) ((SM x/\Be (Z0<=QA p/\QA p<(LI s)) (SM (Qav s p)/\True))/\ifB (Qav s p) (Qtm x x_1 p s l) (∃(x_2:Unit),(SM x/\SM (QA p)/\True)/\VF x s p l/\(Z0<=QA p/\QA p<(LI s)/\LN s<=4294967296/\Z0<=(↑p:Int))/\∀(y_1:Int×Int×Bool),Mo (Qau p) (Gh (List.drop (Qau p) s)) y_1->ifB (!Prod.snd y_1.2) (SM x_1/\(SM x_1/\True)/\∃(y:Unit),True/\Bg (D.tup [Qfb,ZI (QA p),ZI 3]) (XJ p s)/\VF x s p l) (((Qtj t y/\(Z0<=y_1.1/\BZ (Int.toNat y_1.1))/\N4<=140737488355328)/\True)/\∀(y_2:Nat),True->(SM x/\ifB (decide ((LI s)<=y_1.2.1)) (true=Qfc s y_1.2.1/\True) (SM x/\Be (Z0<=y_1.2.1/\y_1.2.1<(LI s)) (((BI s (Int.toNat y_1.2.1))==10)=Qfc s y_1.2.1/\True)))/\True/\ifB (Qfc s y_1.2.1) (Qtg x x_1 p s l) ((SM x/\Be (Z0<=y_1.2.1/\y_1.2.1<(LI s)) (ifB ((BI s (Int.toNat y_1.2.1))==39) (true=Qfd s y_1.2.1/\True) (false=Qfd s y_1.2.1/\True)))/\ifB (Qfd s y_1.2.1) (SM x/\(Qtp y_2 y y_1.1/\∀(y:Unit),True->Jq x p/\∀(x_3:Nat),x≠x_3/\x_1≠x_3/\True->Qtq x p x_3 x_1 y_1.2.1 y_1.1 s l)/\∀(x_3:Nat),y≠x_3/\x≠x_3/\x_1≠x_3/\True->Jq x p/\Qtp y_2 y y_1.1/\∀(y:Unit),True->Qtq x p x_3 x_1 y_1.2.1 y_1.1 s l) ((SM true/\True)/\Qtm x x_1 p s l))))))) (by kernel_rfl) ?_
 delta BI LI LN N0 N4 SM U0 Z0 Z1 ZB ZI QA Qau Qth Qti Qtj Qtk Qtl Qtm Qfc Qfd Qtn Qto Qtf Qtp Qtq Qfa Jq Qfb XJ VF Qtg Qav
 simp only[eq_self,ne_eq,Bd,Bh,Bc,decide_eq_true_eq,decide_eq_false_iff_not,true_and,and_true,beq_iff_eq,Bool.cond_false_right,Bool.cond_true_left,Bool.and_eq_true,Bool.and_eq_false_iff,Bool.or_eq_true,Bool.or_eq_false_iff,beq_eq_false_iff_ne,exists_const,forall_const,Bc9,Bool.and_true,reduceCtorEq]
 have ku:∀(b:UInt8) (n:Nat),n<256->((b.toNat:Int)=(n:Int)↔b=UInt8.ofNat n):=fun b n hn=>⟨fun h=>M4 h hn,fun h=>by rw[h,BX n hn]⟩
 have k10:∀b:UInt8,(b.toNat:Int)=10↔b=10:=fun b=>ku b 10 (by decide)
 have k39:∀b:UInt8,(b.toNat:Int)=39↔b=39:=fun b=>ku b 39 (by decide)
 have p10:∀b:UInt8,((b.toNat:Int)==10)=(b==10):=fun b=>by
  rw[Bool.eq_iff_iff,beq_iff_eq,beq_iff_eq];exact k10 b
 have p39:∀b:UInt8,((b.toNat:Int)==39)=(b==39):=fun b=>by
  rw[Bool.eq_iff_iff,beq_iff_eq,beq_iff_eq];exact k39 b
 have w1:IntKind.i64.wrap ((p:Int)+1)=((p+1:Nat):Int):=by rw[Bb (by omega) (by omega)];rfl
 simp only[k10,k39,p10,p39,w1,Int.toNat_natCast,Bool.and_false,implies_true,and_true,true_and,and_false,false_implies,or_true,true_implies]
 intro x1 _ y t _
 have hb:OL [(0,t)] y y 58 5 0 t 0 (fun _=>[]):=⟨rfl,rfl,rfl,rfl,rfl⟩
 have hT:=Bbx (s:=s) (a:=p+1)
 rw[BmT]
 refine⟨⟨fun h=>by rw[decide_eq_true h];rfl,fun h=>⟨by omega,by rw[decide_eq_false h];rfl⟩⟩,fun h=>?_,fun h=>⟨by omega,by omega,fun h39=>?_,fun h39=>⟨⟨by omega,by omega,hs,by omega⟩,fun z hz=>⟨fun hz2=>?_,fun hz2=>?_⟩⟩⟩⟩
 ·rw[if_pos (hT.2 h)];exact Bd _
 ·rw[if_neg (fun h2=>(hT.1 h2).elim h.1 h.2),if_pos h39];exact Bd _
 ·have hn:Gh (s.drop (p+1))=none:=by
   cases hl:Gh (s.drop (p+1)) with
   |none=>rfl
   |some v =>
    obtain ⟨c,w⟩:=v
    rw[hz.2 c w hl] at hz2
    exact Bool.noConfusion hz2
  rw[if_neg (fun h2=>(hT.1 h2).elim h.1 h.2),if_neg h39,hn];exact Bd _
 ·obtain ⟨c,w,hl,rfl⟩:=UR hz hz2
  have hr:=Bdn hl
  have hc:c<=1114111:=by unfold BZ at hr;omega
  obtain ⟨l1,l2⟩:=OR (fun e=>by have:=congrArg List.length e;rw[List.length_drop,List.length_nil] at this;omega) hl
  rw[List.length_drop] at l2
  have hU:=Bbx (s:=s) (a:=p+1+w)
  have hu:=E7 (c:Int)
  have w2:IntKind.i64.wrap ((((p+1+w:Nat):Int))+1)=((p+1+w+1:Nat):Int):=by rw[Bb (by omega) (by omega)];rfl
  have w3:IntKind.i64.wrap ((((p+1+w+1:Nat):Int))-(p:Int))=((w+2:Nat):Int):=by rw[Bb (by omega) (by omega)];omega
  have w4:IntKind.i64.wrap (c:Int)=(c:Int):=Bb (by omega) (by omega)
  simp only[w2,w3,w4,Int.toNat_natCast]
  rw[if_neg (fun h2=>(hT.1 h2).elim h.1 h.2),if_neg h39,hl]
  simp only
  refine⟨⟨hb,⟨by omega,hr⟩,by omega⟩,⟨fun h=>by rw[decide_eq_true h];rfl,fun h=>⟨by omega,by rw[decide_eq_false h];rfl⟩⟩,fun h=>?_,fun h=>⟨⟨by omega,fun h3=>by rw[h3];rfl,fun h3=>?_⟩,fun h3=>⟨⟨by simp only[List.nil_append];omega,fun _ _=>?_⟩,fun _ _=>⟨by simp only[List.nil_append];omega,?_⟩⟩,fun h3=>?_⟩⟩
  ·rw[if_pos (hU.2 h)];exact Bd _
  ·exact (by simpa using h3:(s.getD (p+1+w) 0==39)=false).symm
  ·rw[if_neg (fun h2=>(hU.1 h2).elim h.1 h.2),if_pos h3];exact Bd _
  ·rw[if_neg (fun h2=>(hU.1 h2).elim h.1 h.2),if_pos h3];exact Bd _
  ·rw[if_neg (fun h2=>(hU.1 h2).elim h.1 h.2),if_neg h3];exact Bd _
def Ip(r b w:List UInt8):List UInt8:=if b.length<w.length/\w.isPrefixOf r=true then w else b
def Bfj(r:List UInt8)(l:List (List UInt8)):List UInt8:=l.foldl (Ip r) []
theorem R3(r : List UInt8) : ∀(l : List (List UInt8)) (b : List UInt8), (b=[] \/ b.isPrefixOf r=true) ->
  (l.foldl (Ip r) b=b\/l.foldl (Ip r) b∈l)/\(l.foldl (Ip r) b=[]\/(l.foldl (Ip r) b).isPrefixOf r=true)/\b.length<=(l.foldl (Ip r) b).length/\∀w∈l,w.isPrefixOf r=true->w.length<=(l.foldl (Ip r) b).length
 | [],b,h=>⟨.inl rfl,h,Nat.le_refl _,fun w hw=>by cases hw⟩
 |v::l,b,h=>by
  have hb:Ip r b v=[]\/(Ip r b v).isPrefixOf r=true:=by
   unfold Ip
   split
   ·rename_i hc;exact .inr hc.2
   ·exact h
  obtain ⟨i1,i2,i3,i4⟩:=R3 r l (Ip r b v) hb
  simp only[List.foldl_cons]
  have hle:b.length<=(Ip r b v).length/\(v.isPrefixOf r=true->v.length<=(Ip r b v).length)/\(Ip r b v=b\/Ip r b v=v):=by
   unfold Ip
   split
   ·rename_i hc;exact⟨by omega,fun _=>Nat.le_refl _,.inr rfl⟩
   ·rename_i hc;exact⟨Nat.le_refl _,fun hp=>by
     refine Nat.le_of_not_lt fun hl=>hc ⟨hl,hp⟩,.inl rfl⟩
  refine⟨?_,i2,by omega,fun w hw hp=>?_⟩
  ·rcases i1 with e | e
   ·rcases hle.2.2 with q | q
    ·exact .inl (e.trans q)
    ·right;rw[e,q];simp
   ·right;simp[e]
  ·rcases List.mem_cons.1 hw with rfl | hw
   ·have:=hle.2.1 hp;omega
   ·exact i4 w hw hp
theorem BlQ:(symL.all fun w=>decide (w.length=1)||decide (w.length=2))=true:=by decide +kernel
theorem Bkr{w r:List UInt8}(h:w.isPrefixOf r=true):w=r.take w.length/\w.length<=r.length:=by
 have:=List.isPrefixOf_iff_prefix.1 h
 exact⟨(List.prefix_iff_eq_take.1 this),this.length_le⟩
theorem Bmg(r:List UInt8):Bfj r symL=if symL.contains (r.take 2)=true/\2<=r.length then r.take 2 else if symL.contains (r.take 1)=true then r.take 1 else []:=by
 obtain ⟨h1,h2,_,h4⟩:=R3 r symL [] (.inl rfl)
 have hl:∀w∈symL,w.length=1\/w.length=2:=fun w hw=>by
  have:=List.all_eq_true.1 BlQ w hw
  simpa using this
 have hp:∀k,(r.take k).isPrefixOf r=true:=fun k=>List.isPrefixOf_iff_prefix.2 (List.take_prefix k r)
 unfold Bfj
 generalize hb:symL.foldl (Ip r) []=b at *
 have hmem:1<=b.length->b∈symL/\b=r.take b.length/\b.length<=r.length:=fun h=>by
  have hne:b≠[]:=fun e=>by rw[e] at h;exact absurd h (by decide)
  have hm:b∈symL:=by
   rcases h1 with e | e
   ·exact (hne e).elim
   ·exact e
  have hq:b.isPrefixOf r=true:=by
   rcases h2 with e | e
   ·exact (hne e).elim
   ·exact e
  exact⟨hm,Bkr hq⟩
 split
 ·rename_i hc
  obtain ⟨c1,c2⟩:=hc
  have c1:r.take 2∈symL:=by simpa using c1
  have k1:=h4 _ c1 (hp 2)
  rw[List.length_take,Nat.min_eq_left c2] at k1
  obtain ⟨m1,m2,_⟩:=hmem (by omega)
  have:=hl b m1
  rw[m2,show b.length=2 by omega]
 ·rename_i hc
  split
  ·rename_i c1
   have c1:r.take 1∈symL:=by simpa using c1
   have k1:=h4 _ c1 (hp 1)
   have k2:=hl _ c1
   have k3:(r.take 1).length<=1:=by rw[List.length_take];omega
   obtain ⟨m1,m2,m3⟩:=hmem (by omega)
   rcases hl b m1 with e | e
   ·rw[m2,e]
   ·refine (hc ⟨?_,by omega⟩).elim
    rw[e] at m2
    rw[<- m2];simpa using m1
  ·rename_i c1
   by_cases h:1<=b.length
   ·exfalso
    obtain ⟨m1,m2,m3⟩:=hmem h
    rcases hl b m1 with e | e
    ·rw[e] at m2
     rw[m2] at m1
     exact c1 (by simpa using m1)
    ·rw[e] at m2
     rw[m2] at m1
     exact hc ⟨by simpa using m1,by omega⟩
   ·exact List.length_eq_zero_iff.1 (by omega)
theorem BpO(a b:List UInt8):ACalls Tryz.prog 41 [.str a,.str b] ⟨[],[]⟩ (SpecR (sC [.str a,.str b] (.bool (b.isPrefixOf a))) ()):=by
 refine ACalls.of_shelf ⟨_,Tryz.func41,by kernel_rfl,by kernel_rfl⟩ fun C args w ha=>?_
 obtain ⟨u,v,e,hu,hv⟩:=EO ha
 have e2:args=[u,v].toArray:=by rw[<- e]
 subst e2
 simp only[Rep] at hu hv;subst hu hv
 exact (Tryz.strings_HasPrefix ⟨a.toArray⟩ ⟨b.toArray⟩ w).mono fun e w' ⟨h1,h2⟩=>⟨⟨_,h1,by simp[Rep,Lib.hasPrefix]⟩,by subst h2;exact Go.RowKit.Below.refl _ _⟩
def Bge(x:Nat)(s:List UInt8)(p:Int)(l:D):Con:=fun k ds S=>match k with
 |41=>match ds with
  | [.str a,.str b]=>some (pC [.str a,.str b] (.bool (b.isPrefixOf a)) True)
  |_=>none
 |k=>UZ x s p l k ds S
theorem BcV(x:Nat)(s:List UInt8)(p:Int)(l:D):ConOk Tryz.prog (Bge x s p l):=by
 intro k ds S A h
 unfold Bge at h
 split at h
 ·split at h
  ·injection h with h;subst h
   exact BM fun _=>⟨Bj _,BpO _ _⟩
  ·cases h
 ·exact Ub x s p l _ _ _ _ h
noncomputable def Esg(x:Nat)(s:List UInt8)(p:Nat)(l:D):Senv:={ EC (Bge x s p l) 42 1 [2,3,4,6,9,10,11,12,32,36] (fun id=>match id with | 5=>([0,1,2,3,4,5,6,7,8,9,10,11,12,13,14,15,16,17],[16]) | _=>([],[])) with
 ann:=fun b _ S=>match b with
  |0=>some { slots:=[11,4,9],keep:=[0,2,10],α:=Nat,st:=fun y=>([.int .i64 y,.str (Bfj (s.drop p) (symL.take y)),ssl symL .any],S),inv:=fun y=>y<=21,mu:=fun y=>21-y }
  |_=>none }
def Jr(a:Nat)(b:List UInt8)(c:Nat):List UInt8:=Bfj (List.drop a b) (List.take c symL)
def Qtr(a:Nat):List D:=[D.str (List.getD symL a [])]
def Qfe(a b:Nat)(c:List UInt8)(d:Nat)(e:D)(f:Nat):Prop:=(SM a/\(SM Z0/\SM Z0/\SM Z0/\SM Z0/\CN (List UInt8) [] []/\True)/\SM b/\(SM c/\SM (↑d:Int)/\Bg e e/\True)/\True)/\SM f/\True
def Qff(a:Nat):List UInt8:=List.getD symL (Int.toNat (↑a:Int)) []
def Qts(a b:Nat):Prop:=SM (D.ref N0 a N0)/\SM (D.ref N1 b N0)/\SM (ZI 21)/\True
def Qtt:Prop:=(SM (LN symL)/\(∀(i:Nat),i<LN symL->SM (Qtr i))/\True)/\True
def Qtu(a b c d:Nat)(e:List UInt8)(f:D)(g:Nat):Prop:=Qts a b/\∃(y:Nat),y<=21/\(21:Nat)-y<21-c/\(IntKind.wrap IntKind.i64 ((↑c:Int)+Z1)=(↑y:Int)/\Jr d e c=Jr d e y/\Qtt)/\Qfe b a e d f g
def Qtv(a:Nat)(b:List UInt8):D:=Wo (Ma (List.drop a b))
theorem BmR(x : Nat)(s : List UInt8)(p : Nat)(l : D)(hp : p<s.length)(_hs : s.length<=4294967296) :
  ACalls Tryz.prog 59 [.ref 0 x 0] (scS x s p l) (SpecR (sSt [.ref 0 x 0] (scS x s p l) (Wo (Ma (s.drop p)))) ()):=by
 refine Bf (A:=sSt _ _ _) (x:=()) (E:=Esg x s p l) (eOk (BcV x s p l) rfl) Tryz.func59 rfl (by kernel_rfl) rfl (by simp[sSt,Esg,EC,E0]) ?_
 refine Bk (T :=
  ∀(x_1:Nat),x≠x_1/\True->True/\∀(t:Nat),(∃(x_2:Nat),x_2<=21/\(Z0=(↑x_2:Int)/\CN (List UInt8) [] (Jr p s x_2)/\((21:Nat)=LN symL/\(∀(i:Nat),i<21->(if i<15 then [D.str (List.getD [[(43:UInt8)],[(45:UInt8)],[(42:UInt8)],[(37:UInt8)],[(124:UInt8)],[(94:UInt8)],[(60:UInt8)],[(60:UInt8),(61:UInt8)],[(61:UInt8)],[(126:UInt8),(61:UInt8)],[(62:UInt8),(61:UInt8)],[(62:UInt8)],[(44:UInt8)],[(47:UInt8)],[(92:UInt8)]] i [])] else [D.str (List.getD [[(40:UInt8)],[(41:UInt8)],[(123:UInt8)],[(125:UInt8)],[(58:UInt8)],[(60:UInt8),(45:UInt8)]] (i-15) [])])=Qtr i)/\True)/\True)/\Qfe x_1 x s p l t)/\∀(x_2:Nat),x_2<=21->ifB (decide ((↑x_2:Int)<21)) (Be (Z0<=(↑x_2:Int)/\(↑x_2:Int)<(LI symL)) (ifB (decide ((LI (Jr p s x_2))<(LI (Qff x_2)))) (SM x/\SM x/\Be (Z0<=(↑p:Int)/\(↑p:Int)<=(LI s)/\(LI s)<=(LI s)) (True/\∀(y:Unit),True->ifB (List.isPrefixOf (Qff x_2) (List.drop (Int.toNat (↑p:Int)) (List.take (TL s) s))) (Qts x x_1/\∃(y:Nat),y<=21/\(21:Nat)-y<21-x_2/\(IntKind.wrap IntKind.i64 ((↑x_2:Int)+Z1)=(↑y:Int)/\Qff x_2=Jr p s y/\Qtt)/\Qfe x_1 x s p l t) (Qtu x x_1 x_2 p s l t))) (Qtu x x_1 x_2 p s l t))) (ifB (Jr p s x_2==[]) (SM x_1/\(SM x_1/\True)/\∃(y:Unit),True/\Bg (D.tup [D.agg [ZI Z0,ZI Z0,ZI Z0,ZI Z0,D.str []],ZI 6]) (Qtv p s)/\(SM x/\(SM s/\SM (↑p:Int)/\Bg l l/\True)/\True)/\True) (SM x_1/\(SM x_1/\True)/\∃(y:Unit),True/\Bg (D.tup [D.agg [ZI 5,ZI Z0,ZI (LI (Jr p s x_2)),ZI Z0,D.str (Jr p s x_2)],ZI Z0]) (Qtv p s)/\(SM x/\(SM s/\SM (↑p:Int)/\Bg l l/\True)/\True)/\True))) (by kernel_rfl) ?_
 delta LI LN N0 N1 SM TL Z0 Z1 ZI Jr Qtr Qfe Qff Qts Qtt Qtu Qtv
 simp only[eq_self,ne_eq,implies_true,Bd,Int.toNat_natCast,Bh,Bc,decide_eq_true_eq,decide_eq_false_iff_not,true_and,and_true,beq_iff_eq,beq_eq_false_iff_ne,exists_const,forall_const]
 have hL:symL.length=21:=by decide +kernel
 have hrow:∀i,i<21->(if i<15 then [D.str (([[43],[45],[42],[37],[124],[94],[60],[60,61],[61],[126,61],[62,61],[62],[44],[47],[92]]:List (List UInt8)).getD i [])] else [D.str (([[40],[41],[123],[125],[58],[60,45]]:List (List UInt8)).getD (i-15) [])])=[D.str (symL.getD i [])]:=by
  have:∀i:Fin 21,(if i.val<15 then (([[43],[45],[42],[37],[124],[94],[60],[60,61],[61],[126,61],[62,61],[62],[44],[47],[92]]:List (List UInt8)).getD i.val []) else (([[40],[41],[123],[125],[58],[60,45]]:List (List UInt8)).getD (i.val-15) []))=symL.getD i.val []:=by decide +kernel
  intro i hi
  have h:=this ⟨i,hi⟩
  split
  ·rename_i hc;rw[if_pos hc] at h;rw[h]
  ·rename_i hc;rw[if_neg hc] at h;rw[h]
 have stp:∀i,i<21->Bfj (s.drop p) (symL.take (i+1))=Ip (s.drop p) (Bfj (s.drop p) (symL.take i)) (symL.getD i []):=fun i hi=>by
  unfold Bfj
  rw[List.take_add_one,List.getElem?_eq_getElem (by omega),List.getD_eq_getElem?_getD,List.getElem?_eq_getElem (by omega)]
  simp only[Option.toList_some,List.foldl_append,List.foldl_cons,List.foldl_nil,Option.getD_some]
 intro x1 _
 refine⟨⟨0,Nat.zero_le _,rfl,rfl,by omega,hrow⟩,fun j hj=>⟨fun hlt=>⟨by omega,fun h=>⟨by omega,?_⟩,fun h=>?_⟩,fun hge=>?_⟩⟩
 ·rw[List.take_length]
  refine⟨fun hq=>⟨j+1,by omega,by omega,by rw[Bb (by omega) (by omega)];rfl,?_⟩,fun hq=>⟨j+1,by omega,by omega,by rw[Bb (by omega) (by omega)];rfl,?_⟩⟩
  ·rw[stp j (by omega),Ip,if_pos ⟨by omega,hq⟩]
  ·rw[stp j (by omega),Ip,if_neg (fun hc=>by rw[hq] at hc;exact Bool.noConfusion hc.2)]
 ·refine⟨j+1,by omega,by omega,by rw[Bb (by omega) (by omega)];rfl,?_⟩
  rw[stp j (by omega),Ip,if_neg (fun hc=>by omega)]
 ·have hall:symL.take j=symL:=List.take_of_length_le (by omega)
  rw[hall,Bmg]
  have hn:¬symL.contains []=true:=by decide +kernel
  have hd:(s.drop p).length=s.length-p:=List.length_drop
  unfold Ma
  by_cases h2:symL.contains ((s.drop p).take 2)=true/\2<=(s.drop p).length
  ·rw[if_pos h2,if_pos h2]
   have hl:((s.drop p).take 2).length=2:=by rw[List.length_take];omega
   refine⟨fun e=>by rw[e] at hl;exact absurd hl (by decide),fun _=>?_⟩
   rw[hl];exact Bd _
  ·rw[if_neg h2,if_neg h2]
   by_cases h1:symL.contains ((s.drop p).take 1)=true
   ·rw[if_pos h1,if_pos h1]
    have hl:((s.drop p).take 1).length=1:=by rw[List.length_take];omega
    refine⟨fun e=>by rw[e] at hl;exact absurd hl (by decide),fun _=>?_⟩
    rw[hl];exact Bd _
   ·rw[if_neg h1,if_neg h1]
    exact⟨fun _=>Bd _,fun h=>(h rfl).elim⟩
end
end Go.Proofs.YtaagdbcaeokjkaaGreatDoor
