/- Functions of the given program and what each of them computes: lemmas towards the statement, their conditions stated with each of them. -/
import Derived.Test.YtnlplccjbojloaaGreatDoorS6
namespace Go.Proofs.YtnlplccjbojloaaGreatDoor
open Go Go.Ab
set_option maxRecDepth 100000
noncomputable section
def okC(n:Nd):Prop:=BV n=0/\n.ok/\n.sm
def BjX:Con:=fun k ds S=>match k with
 |34=>some (pE (β:=Nd) ds S (fun n=>ssl (ptX n) .any) (fun n=>isN n ds []/\okC n))
 |_=>none
theorem Bj0:ConOk Tryz.prog BjX:=by
 intro k ds S A hh
 unfold BjX at hh
 split at hh
 ·injection hh with hh;subst hh
  exact Cn fun n ⟨e,h1,h2,h3⟩=>CD.at_ (CD.wk (Bp3 n h1 h2 h3) e) _
 ·cases hh
def In(l:List Sm)(i:Nat):List (List UInt8):=(ptB (l.take i)).map prT
theorem Bd0{l:List Sm}{i:Nat}(h:i<l.length)(k3:(l.getD i default).kd≠3):In l (i+1)=In l i++((if 0<i then [[59]] else [])++if (l.getD i default).kd=2 then (l.getD i default).nm::[60,45]::ptX (l.getD i default).nd else ptX (l.getD i default).nd):=by
 unfold In ptB
 rw[BbY ptM h,List.map_append,List.map_append,II,if_neg k3]
 congr 1
 split<;>split<;>rfl
noncomputable def Epg(l:List Sm):Senv:={ EC BjX 34 6 [7,8,9,10,15,21] (fun _=>([],[])) with
 mg:=fun _=>2
 gh:=fun b=>match b with
  |0=>[.slot 3]
  |_=>[]
 ann:=fun b _ S=>match b with
  |0=>some { slots:=[9,3],keep:=[0,1,7,8],α:=Nat×Nat,st:=fun y=>([.int .i64 y.1,ssl (In l y.1) (.tok 0 y.2)],⟨S.objs,[(0,y.2)]⟩),inv:=fun y=>y.1<=l.length,mu:=fun y=>l.length-y.1 }
  |_=>none }
def QH(a:List Sm)(b:Nat):Nat:=LN (In a b)
def JY(a:List Sm)(b c:Nat):List D:=[D.str (List.getD (In a b) c [])]
def QfB:Arr:=DA
def H5:Nd:=Nd.mk Z0 Z0 Z0 [] Z0 Z0 QfB [] [] Z0 Z0 Z0
def H6:Sm:=Sm.mk Z0 Z0 [] Z0 H5 H5
def Y4(a:List Sm)(b:Nat):Sm:=List.getD a b H6
def QLL(a:List Sm)(b:Nat):List D:=(Sm.row1 (Y4 a b))
def H7(a:Nat)(b:List Sm)(c d:Nat):Prop:=(SM a/\((SM (LN b)/\(∀(i:Nat),i<LN b->SM (QLL b i))/\True)/\True)/\True)/\c=d/\True
def Y5(a:List Sm)(b:Nat):Nat:=QH a b+N1
def QmY(a:List Sm)(b:Nat):Sm:=List.getD a (Int.toNat (↑b:Int)) H6
def QLM(a:List Sm)(b:Nat):Bool:=Sm.kd (QmY a b)==2
def QfE(a:List Sm)(b:Nat):Nat:=Y5 a b+N2
def Jq(a:List Sm)(b:Nat):Nd:=Sm.nd (QmY a b)
def QfG(a:Nd)(b:List Sm)(c:Nat):Prop:=isN a [D.agg (Nd.rowE (Jq b c))] []/\okC a
def QfH(a:Nd):Nat:=LN (ptX a)
def QfI(a:List Sm)(b:Nat)(c:Nd):Nat:=QfE a b+QfH c
def QLQ(a:List Sm):D:=D.sl 34 (LN a) (fun i=>QLL a i) Mode.any
def QSJ(a:List Sm):D:=D.agg [QLQ a]
def QfJ(a:List Sm)(b:Nat):Prop:=SM (QSJ a)/\SM (D.ref N0 b N0)/\SM (QLQ a)/\SM (ZI (LI a))/\True
def QfK(a b:Nat):Prop:=IntKind.wrap IntKind.i64 ((↑a:Int)+Z1)=(↑b:Int)
def QLR(a:List Sm)(b c:Nat):List D:=[D.str (List.getD [Sm.nm (QmY a b),[(60:UInt8),(45:UInt8)]] c [])]
def QfL(a:Nd)(b:Nat):List D:=[D.str (List.getD (ptX a) b [])]
def QfM(a:List Sm)(b:Nat)(c:Nd):Nat:=Y5 a b+QfH c
def QfN(a:List Sm)(b:Nat):Nat:=QH a b+N2
def QfO(a:List Sm)(b:Nat)(c:Nd):Nat:=QfN a b+QfH c
def QfP(a:List Sm)(b:Nat)(c:Nd):Nat:=QH a b+QfH c
theorem Bqx(l:List Sm)(h:B2 l=0)(hl:l.length<=BC)(ho:∀s∈l,s.ok)(hs:∀s∈l,s.sm):CD 14 [.agg [gsl 34 Sm.row1 l]] (ssl ((ptB l).map prT) .any):=by
 refine Bh (A:=sC _ _) (x:=()) (E:=Epg l) (eOk Bj0 rfl) Tryz.func14 rfl (by kernel_rfl) rfl (by simp[sC,Epg,EC,E0]) ?_
 refine Bj (T :=
  ∀(x:Nat),True->SM x/\∀(t:Nat),(∃(x_1:Nat×Nat),x_1.1<=LN l/\(Z0=(NI x_1.1)/\(N0=QH l x_1.1/\(∀(i:Nat),i<N0->Cw (List D) [] (JY l x_1.1 i))/\t=x_1.2)/\True)/\H7 x l t x_1.2)/\∀(x_1:Nat×Nat),x_1.1<=LN l->ifB (decide ((NI x_1.1)<(LI l))) (Be (Z0<=(NI x_1.1)/\(NI x_1.1)<(LI l)) (∀(x_2:Nat),x≠x_2/\True->SM x_2/\ifB (decide (Z0<(NI x_1.1))) (SM x_1.2/\Be (Y5 l x_1.1*16<=140737488355328/\Y5 l x_1.1<=9223372036854775807) (∀(t:Nat),SM x_2/\ifB (QLM l x_1.1) (SM x_2/\SM t/\Be (QfE l x_1.1*16<=140737488355328/\QfE l x_1.1<=9223372036854775807) (∀(t:Nat),SM x_2/\∃(x_3:Nd),QfG x_3 l x_1.1/\∀(y:Unit),True->SM t/\Be (QfI l x_1.1 x_3*16<=140737488355328/\QfI l x_1.1 x_3<=9223372036854775807) (∀(t:Nat),QfJ l x/\∃(y:Nat×Nat),y.1<=LN l/\LN l-y.1<LN l-x_1.1/\(QfK x_1.1 y.1/\(QfI l x_1.1 x_3=QH l y.1/\(∀(i:Nat),i<QfI l x_1.1 x_3->BM (QfE l x_1.1) (BM (Y5 l x_1.1) (BM (QH l x_1.1) (fun i=>JY l x_1.1 i) fun i=>[D.str (List.getD [[(59:UInt8)]] i [])]) fun i=>QLR l x_1.1 i) (fun i=>QfL x_3 i) i=JY l y.1 i)/\t=y.2)/\True)/\H7 x l t y.2))) (SM x_2/\∃(x_3:Nd),QfG x_3 l x_1.1/\∀(y:Unit),True->SM t/\Be (QfM l x_1.1 x_3*16<=140737488355328/\QfM l x_1.1 x_3<=9223372036854775807) (∀(t:Nat),QfJ l x/\∃(y:Nat×Nat),y.1<=LN l/\LN l-y.1<LN l-x_1.1/\(QfK x_1.1 y.1/\(QfM l x_1.1 x_3=QH l y.1/\(∀(i:Nat),i<QfM l x_1.1 x_3->BM (Y5 l x_1.1) (BM (QH l x_1.1) (fun i=>JY l x_1.1 i) fun i=>[D.str (List.getD [[(59:UInt8)]] i [])]) (fun i=>QfL x_3 i) i=JY l y.1 i)/\t=y.2)/\True)/\H7 x l t y.2)))) (SM x_2/\ifB (QLM l x_1.1) (SM x_2/\SM x_1.2/\Be (QfN l x_1.1*16<=140737488355328/\QfN l x_1.1<=9223372036854775807) (∀(t:Nat),SM x_2/\∃(x_3:Nd),QfG x_3 l x_1.1/\∀(y:Unit),True->SM t/\Be (QfO l x_1.1 x_3*16<=140737488355328/\QfO l x_1.1 x_3<=9223372036854775807) (∀(t:Nat),QfJ l x/\∃(y:Nat×Nat),y.1<=LN l/\LN l-y.1<LN l-x_1.1/\(QfK x_1.1 y.1/\(QfO l x_1.1 x_3=QH l y.1/\(∀(i:Nat),i<QfO l x_1.1 x_3->BM (QfN l x_1.1) (BM (QH l x_1.1) (fun i=>JY l x_1.1 i) fun i=>QLR l x_1.1 i) (fun i=>QfL x_3 i) i=JY l y.1 i)/\t=y.2)/\True)/\H7 x l t y.2))) (SM x_2/\∃(x_3:Nd),QfG x_3 l x_1.1/\∀(y:Unit),True->SM x_1.2/\Be (QfP l x_1.1 x_3*16<=140737488355328/\QfP l x_1.1 x_3<=9223372036854775807) (∀(t:Nat),QfJ l x/\∃(y:Nat×Nat),y.1<=LN l/\LN l-y.1<LN l-x_1.1/\(QfK x_1.1 y.1/\(QfP l x_1.1 x_3=QH l y.1/\(∀(i:Nat),i<QfP l x_1.1 x_3->BM (QH l x_1.1) (fun i=>JY l x_1.1 i) (fun i=>QfL x_3 i) i=JY l y.1 i)/\t=y.2)/\True)/\H7 x l t y.2))))) (True/\∃(y:Unit),True/\(QH l x_1.1=LN (List.map prT (ptB l))/\(∀(i:Nat),i<QH l x_1.1->JY l x_1.1 i=[D.str (List.getD (List.map prT (ptB l)) i [])])/\True)/\True/\True)) (by kernel_rfl) ?_
 delta DA GI LI LN N0 N1 N2 N4 NI SI SM Z0 Z1 ZI QH JY QfB QLL H7 Y5 QmY QLM QfE Jq H5 QfG QfH QfI QLQ QSJ QfJ QfK H6 QLR QfL QfM QfN QfO QfP Y4
 try simp only[<- dm]
 try simp only[<- dn]
 simp only[eq_self,ne_eq,implies_true,Ba,Int.toNat_natCast,Bf,Bc,decide_eq_true_eq,decide_eq_false_iff_not,true_and,and_true,beq_iff_eq,bne_iff_ne,bne_eq_false_iff_eq,beq_eq_false_iff_ne,Bool.not_eq_true',Bool.not_eq_false',exists_const,forall_const,Prod.exists]
 have hR:=GD h
 have hpt:=TU hR ho
 unfold BC at hl
 have len:∀i,(In l i).length<=3400000000000:=fun i=>by
  have:=Bdi l i
  unfold In
  rw[List.length_map]
  omega
 intro xb t
 refine⟨⟨0,t,Nat.zero_le _,⟨rfl,rfl,fun i hi=>absurd hi (by omega),rfl⟩,rfl⟩,?_⟩
 rintro ⟨i,t1⟩ hi
 simp only at hi ⊢
 refine⟨fun hlt=>?_,fun hge=>?_⟩
 ·have hi':i<l.length:=by omega
  have sm:=C4 hi'
  obtain ⟨_,c,k3,_⟩:=UG hR sm
  have ok:okC (l.getD i default).nd:=⟨c,(Cq (ho _ sm)).2,(Cm (hs _ sm)).2⟩
  have st:=Bd0 hi' k3
  have e1:=len (i+1)
  have fin:∀(n:Nat) (F:Nat->List D) (L:List (List UInt8)),L=In l (i+1)->n=L.length->(∀j,j<n->F j=[D.str (L.getD j [])])->∀t2:Nat,∃a b:Nat,a<=l.length/\l.length-a<l.length-i/\(IntKind.i64.wrap ((i:Int)+1)=(a:Int)/\n=(In l a).length/\(∀j,j<n->F j=[D.str ((In l a).getD j [])])/\t2=b)/\t2=b:=fun n F L hL hn hF t2=>by
   subst hL
   exact⟨i+1,t2,hi',by omega,⟨Bb (by omega) (by omega),hn,hF,rfl⟩,rfl⟩
  generalize hA:In l i=A at *
  generalize hB:In l (i+1)=B at *
  refine⟨⟨by omega,hlt⟩,fun x2 _=>⟨fun hp=>⟨?_,fun k2=>?_,fun n2=>?_⟩,fun hp=>⟨fun k2=>?_,fun n2=>?_⟩⟩⟩
  ·have:=congrArg List.length st
   rw[if_pos (by omega)] at this
   simp only[List.length_append,List.length_cons,List.length_nil] at this
   exact⟨by omega,by omega⟩
  ·rw[if_pos (by omega),if_pos k2] at st
   have:=congrArg List.length st
   simp only[List.length_append,List.length_cons,List.length_nil] at this
   refine⟨⟨by omega,by omega⟩,(l.getD i default).nd,⟨Bl _ _,ok⟩,⟨by omega,by omega⟩,fin _ _ (A++[[59]]++[(l.getD i default).nm,[60,45]]++ptX (l.getD i default).nd) (by rw[st];simp) (by simp only[List.length_append,List.length_cons,List.length_nil]) (C8 (by simp only[List.length_append,List.length_cons,List.length_nil]) (C8 (L:=A++[[59]]) (r:=[(l.getD i default).nm,[60,45]]) (by simp only[List.length_append,List.length_cons,List.length_nil]) (E3 rfl (fun _ _=>rfl) _) fun _ _=>rfl) fun _ _=>rfl)⟩
  ·rw[if_pos (by omega),if_neg n2] at st
   have:=congrArg List.length st
   simp only[List.length_append,List.length_cons,List.length_nil] at this
   refine⟨(l.getD i default).nd,⟨Bl _ _,ok⟩,⟨by omega,by omega⟩,fin _ _ (A++[[59]]++ptX (l.getD i default).nd) (by rw[st];simp) (by simp only[List.length_append,List.length_cons,List.length_nil]) (C8 (by simp only[List.length_append,List.length_cons,List.length_nil]) (E3 rfl (fun _ _=>rfl) _) fun _ _=>rfl)⟩
  ·rw[if_neg (by omega),if_pos k2] at st
   have:=congrArg List.length st
   simp only[List.length_append,List.length_cons,List.length_nil] at this
   refine⟨⟨by omega,by omega⟩,(l.getD i default).nd,⟨Bl _ _,ok⟩,⟨by omega,by omega⟩,fin _ _ (A++[(l.getD i default).nm,[60,45]]++ptX (l.getD i default).nd) (by rw[st];simp) (by simp only[List.length_append,List.length_cons,List.length_nil]) (C8 (by simp only[List.length_append,List.length_cons,List.length_nil]) (C8 (r:=[(l.getD i default).nm,[60,45]]) rfl (fun _ _=>rfl) fun _ _=>rfl) fun _ _=>rfl)⟩
  ·rw[if_neg (by omega),if_neg n2] at st
   have:=congrArg List.length st
   simp only[List.length_append,List.length_cons,List.length_nil] at this
   exact⟨(l.getD i default).nd,⟨Bl _ _,ok⟩,⟨by omega,by omega⟩,fin _ _ (A++ptX (l.getD i default).nd) (by rw[st];simp) (by simp only[List.length_append,List.length_cons,List.length_nil]) (C8 rfl (fun _ _=>rfl) fun _ _=>rfl)⟩
 ·refine CY ?_
  unfold In
  rw[show i=l.length by omega,List.take_length]
def Bbg(l:List Sm):Con:=fun k ds S=>match k with
 |13=>some (pA ds S (.int .i64 (B2 l)) (wkL ds [.agg [gsl 34 Sm.row1 l]]))
 |14=>some (pA ds S (ssl ((ptB l).map prT) .any) (wkL ds [.agg [gsl 34 Sm.row1 l]]/\B2 l=0))
 |_=>none
theorem Baz{l:List Sm}(hl:l.length<=BC)(ho:∀s∈l,s.ok)(hs:∀s∈l,s.sm):ConOk Tryz.prog (Bbg l):=by
 intro k ds S A hh
 unfold Bbg at hh
 split at hh
 ·injection hh with hh;subst hh
  exact Bo fun e=>CD.at_ (CD.wk (Bqn l hl ho hs) e) _
 ·injection hh with hh;subst hh
  exact Bo fun ⟨e,h⟩=>CD.at_ (CD.wk (Bqx l h hl ho hs) e) _
 ·cases hh
def Bcw(o:Nat)(last y:List UInt8)(lv:Int):Prop:=y≠[]/\0<=lv/\lv<=90000/\o+y.length<=100000000000000/\last.length<=100000000000000
def BgC(bl ln:Nat)(cmp:Bool)(base:Con):Con:=fun k ds S=>match k with
 |15=>match ds with
  | [.ref k x 0,.str y,.fn (.func b1) [] [],.fn (.func b2) [] []]=>match BK S.objs k with
   |some (y',.bldx T E (.sl 1 n g (.tok kt t)) [.str last,.int .i64 lv])=>some ((sWr bl ln cmp k kt x t (bytesOf n g) last lv y).fits () (Oz S.toks x y' T E kt t n g/\Bcw n last y lv/\b1=bl/\b2=ln))
   |_=>none
  |_=>none
 |k=>Bf2 base k ds S
theorem BcZ{bl ln:Nat}{cmp:Bool}{base:Con}(hb:ConOk Tryz.prog base)(h:∀(k kt x t:Nat) (o last y:List UInt8) (lv:Int),Bcw o.length last y lv->ACalls Tryz.prog 15 ((sWr bl ln cmp k kt x t o last lv y).args ()) ((sWr bl ln cmp k kt x t o last lv y).st ()) (SpecR (sWr bl ln cmp k kt x t o last lv y) ())):ConOk Tryz.prog (BgC bl ln cmp base):=by
 intro k ds S A hh
 unfold BgC at hh
 split at hh
 ·split at hh
  ·split at hh
   ·rename_i k x y b1 b2 _ y' T E n g kt t last lv hg
    injection hh with hh;subst hh
    refine⟨fun _ hy=>h k kt x t (bytesOf n g) last y lv (by simpa[bytesOf] using hy.1.2.1),fun _ _ hy=>?_,fun h=>nomatch h⟩
    obtain ⟨⟨⟨h1,h2,h3,h4,h5⟩,_,rfl,rfl⟩,_⟩:=hy
    exact⟨⟨by simp[Bn,chk],Bp _,Bp _,Bp _,trivial⟩,Bd.2 ⟨rfl,OM hg h1 h2 h3 h5,I8 h4⟩⟩
   ·cases hh
  ·cases hh
 ·exact Rl hb _ _ _ _ hh
theorem Bqv(cmp:Bool){p:Pt}(hp:okP p)(s:List UInt8×List UInt8×Int):wrS cmp s p=(wrO cmp s.1 s.2.1 s.2.2 (prT p),wrL (prT p),wrV s.2.2 (prT p)):=by
 cases p with
 |sp=>rfl
 |op=>rfl
 |cl=>rfl
 |tx y =>
  obtain ⟨_,_,h59,h123,h125⟩:=hp
  have n59:¬y=[59]:=fun e=>h59 (by rw[e];rfl)
  have n123:¬y=[123]:=fun e=>h123 (by rw[e];rfl)
  have n125:¬y=[125]:=fun e=>h125 (by rw[e];rfl)
  show wrS cmp s (.tx y)=(wrO cmp s.1 s.2.1 s.2.2 y,wrL y,wrV s.2.2 y)
  rw[wrO,wrL,wrV,if_neg n59,if_neg n59,if_neg n123,if_neg n125]
  rfl
theorem BgL{ps:List Pt}{p:Pt}(h:p∈ps):(prT p).length+1<=IT ps:=by
 induction ps with
 |nil=>cases h
 |cons x r ih =>
  unfold IT at ih ⊢
  rw[List.map_cons,List.sum_cons]
  rcases List.mem_cons.1 h with rfl | h
  ·omega
  ·have:=ih h;omega
structure WrI (cmp:Bool) (l:List Sm) (i:Nat):Prop where
 ol:(wrF cmp ((ptB l).take i)).1.length<=3400000000000
 ll:(wrF cmp ((ptB l).take i)).2.1.length<=3400000000000
 l0:0<=(wrF cmp ((ptB l).take i)).2.2
 l1:(wrF cmp ((ptB l).take i)).2.2<=90000
theorem Bet(cmp:Bool){l:List Sm}(h:PrR l)(ho:∀s∈l,s.ok){i:Nat}(hi:i<=(ptB l).length):WrI cmp l i:=by
 obtain ⟨f1,f2⟩:=G2 cmp (ptB l) i hi
 have b:=(BoC l).2 i
 have hz:=h.hz
 have n1:=BiQ ((ptB l).take i) 0
 have n2:=Ba6 (ptB l) i
 have n3:=nbB l
 have s1:=TO (ptB l)
 have s2:=BbV h ho
 refine⟨Ot h ho cmp i hi,?_,by rw[f1];exact b,by rw[f1];omega⟩
 rw[f2]
 split
 ·rename_i hc
  have hm:(ptB l).getD (i-1) .sp∈ptB l:=by
   rw[List.getD_eq_getElem?_getD,List.getElem?_eq_getElem (show i-1<(ptB l).length by omega)]
   exact List.getElem_mem _
  have:=BgL hm
  omega
 ·simp
theorem BkD(cmp:Bool){l:List Sm}(h:PrR l)(ho:∀s∈l,s.ok){i:Nat}(hi:i<(ptB l).length):Bcw (wrF cmp ((ptB l).take i)).1.length (wrF cmp ((ptB l).take i)).2.1 (((ptB l).map prT).getD i []) (wrF cmp ((ptB l).take i)).2.2/\(wrF cmp ((ptB l).take (i+1)))=(wrO cmp (wrF cmp ((ptB l).take i)).1 (wrF cmp ((ptB l).take i)).2.1 (wrF cmp ((ptB l).take i)).2.2 (((ptB l).map prT).getD i []),wrL (((ptB l).map prT).getD i []),wrV (wrF cmp ((ptB l).take i)).2.2 (((ptB l).map prT).getD i [])):=by
 have w:=Bet cmp h ho (i:=i) (by omega)
 have e:((ptB l).map prT).getD i []=prT ((ptB l).getD i .sp):=by simp[List.getD_eq_getElem?_getD,hi]
 have hp:=O2 (okB h ho) i
 have hm:(ptB l).getD i .sp∈ptB l:=by
  rw[List.getD_eq_getElem?_getD,List.getElem?_eq_getElem hi]
  exact List.getElem_mem _
 have s1:=TO (ptB l)
 have s2:=BbV h ho
 have s3:=BgL hm
 have w1:=w.ol
 have w2:=w.ll
 rw[e]
 exact⟨⟨Bkz hp,w.l0,w.l1,by omega,by omega⟩,by rw[IM cmp hi,Bqv cmp hp]⟩
noncomputable def Epi(l:List Sm):Senv:={ EC (BgC 16 17 false (Bbg l)) 29 4 [5,14,16,17,18,19] (fun _=>([],[])) with
 mg:=fun _=>2
 bd:=fun t=>match t with
  |52=>some 5
  |_=>none
 ann:=fun b env S=>match b with
  |0=>match Ab.look env 3 with
   |.ref k _ _=>some { slots:=[18],keep:=[0,1,3,16,17],α:=Nat×Nat,st:=fun y=>([.int .i64 y.1],⟨Id S.objs k (.bldx 52 5 (bsl (wrF false ((ptB l).take y.1)).1 (.tok 0 y.2)) [.str (wrF false ((ptB l).take y.1)).2.1,.int .i64 (wrF false ((ptB l).take y.1)).2.2]),[(0,y.2)]⟩),inv:=fun y=>y.1<=(ptB l).length,mu:=fun y=>(ptB l).length-y.1 }
   |_=>none
  |_=>none }
def QmZ:Arr:=DA
def QfQ:Nd:=Nd.mk Z0 Z0 Z0 [] Z0 Z0 QmZ [] [] Z0 Z0 Z0
def Qm0:Sm:=Sm.mk Z0 Z0 [] Z0 QfQ QfQ
def Y6(a:List Sm)(b:Nat):Sm:=List.getD a b Qm0
def QLY(a:List Sm)(b:Nat):List D:=(Sm.row1 (Y6 a b))
def QLZ(a:List Sm):D:=D.agg [D.sl 34 (LN a) (fun i=>QLY a i) Mode.any]
def QL0(a:List Sm):List D:=[QLZ a]
def QL1(a:List Sm):Prop:=wkL (QL0 a) (QL0 a)
def QL2(a:List Sm):Prop:=RT (Cw (List UInt8) [] (Cj a))
def Qm1(a:Nat)(b:List Sm):Prop:=a<=LN (ptB b)
def QL3(a:Nat)(b:List Sm):List UInt8×List UInt8×Int:=wrF false (List.take a (ptB b))
def QL4(a:Nat)(b:List Sm):List UInt8:=Prod.fst (QL3 a b)
def Y7(a:Nat)(b:List Sm):Nat:=LN (QL4 a b)
def QfT(a:Nat)(b:List Sm)(c:Nat):List D:=[ZB (BI (QL4 a b) c)]
def QL5(a:Nat)(b:List Sm):List UInt8×Int:=Prod.snd (QL3 a b)
def QfU(a:Nat)(b:List Sm):List UInt8:=Prod.fst (QL5 a b)
def H8(a:Nat)(b:List Sm):Int:=Prod.snd (QL5 a b)
def QL6(a:Nat)(b:List Sm):Prop:=SM a/\((SM (LN b)/\(∀(i:Nat),i<LN b->SM (QLY b i))/\True)/\True)/\True
def QfV(a:List Sm):List (List UInt8):=List.map prT (ptB a)
def Qm2(a:List Sm):Int:=(LI (QfV a))
def QL7(a b c:Nat)(d:List Sm):Prop:=Oz [(N0,a)] b b (52:Nat) (5:Nat) N0 a (Y7 c d) fun i=>QfT c d i
def QfW(a:List Sm)(b:Nat):List UInt8:=List.getD (QfV a) (Int.toNat (↑b:Int)) []
def QSO(a:List Sm):D:=D.sl N1 (LN (QfV a)) (fun i=>[D.str (List.getD (QfV a) i [])]) Mode.any
def QSP(a:List Sm):D:=ZI (Qm2 a)
def QL8(a:Nat)(b:List Sm):List UInt8:=bytesOf (Y7 a b) fun i=>QfT a b i
def QL9(a:Nat)(b:List Sm):List UInt8:=wrO false (QL8 a b) (QfU a b) (H8 a b) (QfW b a)
def QMa(a:Nat)(b:List Sm):Nat:=LN (QL9 a b)
def QMb(a:Nat)(b:List Sm):List UInt8:=QL8 a b++[Cu (10:Int)]
def Qm3(a:Nat)(b:List Sm):Nat:=LN (QMb a b)
def QMc(a:Nat)(b:List Sm)(c:Nat):List D:=[ZB (BI (QMb a b) c)]
theorem BnC(l:List Sm)(hl:l.length<=BC)(ho:∀s∈l,s.ok)(hs:∀s∈l,s.sm):CD 7 [.agg [gsl 34 Sm.row1 l]] (.str (Cj l)):=by
 refine Bh (A:=sC _ _) (x:=()) (E:=Epi l) (eOk (BcZ (Baz hl ho hs) fun k kt x t o last y lv hp=>BnU _ _ _ k kt x t (Bo2 x t o last y lv hp.1 hp.2.1 hp.2.2.1 hp.2.2.2.1)) rfl) Tryz.func7 rfl (by kernel_rfl) rfl (by simp[sC,Epi,EC,E0]) ?_
 refine Bj (T :=
  ∀(x:Nat),True->SM x/\∃(x_1:Unit),QL1 l/\∀(y:Unit),True->ifB (B2 l != Z0) (QL2 l) (SM x/\ifB ((LI l)==Z0) (QL2 l) (∀(y t:Nat),x≠y/\True->SM x/\∃(x_2:Unit),(QL1 l/\B2 l=Z0)/\∀(y_1:Unit),True->(∃(x_3:Nat×Nat),Qm1 x_3.1 l/\(Z0=(NI x_3.1)/\True)/\(SM y/\((N0=Y7 x_3.1 l/\(∀(i:Nat),i<N0->Cw (List D) [] (QfT x_3.1 l i))/\t=x_3.2)/\Cw (List UInt8) [] (QfU x_3.1 l)/\Z0=H8 x_3.1 l/\True)/\QL6 x l)/\t=x_3.2/\True)/\∀(x_3:Nat×Nat),Qm1 x_3.1 l->ifB (decide ((NI x_3.1)<Qm2 l)) (Be (Z0<=(NI x_3.1)/\(NI x_3.1)<Qm2 l) (((QL7 x_3.2 y x_3.1 l/\Bcw (Y7 x_3.1 l) (QfU x_3.1 l) (QfW l x_3.1) (H8 x_3.1 l)/\SM (16:Nat)/\SM (17:Nat))/\True)/\∀(y_2:Nat),True->(SM (QLZ l)/\SM (D.ref N0 x N0)/\SM (D.ref (max (N0+N1) N0) y N0)/\SM (QSO l)/\SM (QSP l)/\True)/\∃(y_3:Nat×Nat),Qm1 y_3.1 l/\LN (ptB l)-y_3.1<LN (ptB l)-x_3.1/\(IntKind.wrap IntKind.i64 ((NI x_3.1)+Z1)=(NI y_3.1)/\True)/\(SM y/\((QMa x_3.1 l=Y7 y_3.1 l/\(∀(i:Nat),i<QMa x_3.1 l->[ZB (BI (QL9 x_3.1 l) i)]=QfT y_3.1 l i)/\y_2=y_3.2)/\wrL (QfW l x_3.1)=QfU y_3.1 l/\wrV (H8 x_3.1 l) (QfW l x_3.1)=H8 y_3.1 l/\True)/\QL6 x l)/\y_2=y_3.2/\True)) (((QL7 x_3.2 y x_3.1 l/\(Z0<=10/\(10:Int)<=255)/\Y7 x_3.1 l+N1<=140737488355328)/\True)/\∀(y_2:Nat),True->(((Oz [(N0,y_2)] y y (52:Nat) (5:Nat) N0 y_2 (Qm3 x_3.1 l) fun i=>QMc x_3.1 l i)/\Qm3 x_3.1 l<=140737488355328)/\True)/\∀(y:Unit),True->RT ((bytesOf (Qm3 x_3.1 l) fun i=>QMc x_3.1 l i)=Cj l))))) (by kernel_rfl) ?_
 delta BI DA GI LI LN N0 N1 N4 NI SI SM U0 Z0 Z1 ZB ZI QmZ QfQ QLY QLZ Qm0 QL0 QL1 QL2 Qm1 QL3 QL4 Y7 QfT QL5 QfU Y6 H8 QL6 QfV Qm2 QL7 QfW QSO QSP QL8 QL9 QMa QMb Qm3 QMc RT
 try simp only[<- dm]
 try simp only[<- dn]
 simp only[eq_self,ne_eq,implies_true,Ba,Int.toNat_natCast,Bf,Bc,decide_eq_true_eq,decide_eq_false_iff_not,true_and,and_true,beq_iff_eq,bne_iff_ne,bne_eq_false_iff_eq,beq_eq_false_iff_ne,Bool.not_eq_true',Bool.not_eq_false',exists_const,forall_const,Prod.exists]
 intro x
 refine⟨Bg _,fun h=>?_,fun h0=>⟨fun hl0=>?_,fun hl1=>?_⟩⟩
 ·rw[Cj,if_neg fun hh=>h hh.1]
 ·rw[Cj,if_neg fun hh=>hh.2 (List.length_eq_zero_iff.1 (by omega))]
 ·have e10:Cu 10=10:=rfl
  simp only[CK,e10]
  have hR:=GD h0
  have hpt:=TU hR ho
  have hm:((ptB l).map prT).length=(ptB l).length:=List.length_map ..
  intro y t hxy
  refine⟨⟨Bg _,h0⟩,⟨0,t,Nat.zero_le _,rfl,⟨⟨rfl,fun i hi=>absurd hi (by omega),rfl⟩,rfl,rfl⟩,rfl⟩,?_⟩
  rintro ⟨i,t1⟩ hi
  simp only at hi ⊢
  refine⟨fun hlt=>?_,fun hge=>?_⟩
  ·have hi':i<(ptB l).length:=by omega
   obtain ⟨wp,we⟩:=BkD false hR ho hi'
   refine⟨⟨by omega,hlt⟩,⟨Gw _ _ _,wp⟩,fun t2=>⟨i+1,t2,hi',by omega,Bb (by omega) (by omega),⟨⟨?_,?_,rfl⟩,?_,?_⟩,rfl⟩⟩
   ·rw[we]
   ·intro j _
    rw[we]
   ·rw[we]
   ·rw[we]
  ·have hil:i=(ptB l).length:=by omega
   have w:=(Bet false hR ho hi).ol
   refine⟨⟨Gw _ _ _,⟨by omega,by omega⟩,by omega⟩,fun t2=>⟨⟨Gw _ _ _,?_⟩,?_⟩⟩
   ·simp only[List.length_append,List.length_cons,List.length_nil]
    omega
   ·rw[Cj,if_pos ⟨h0,fun h=>hl1 (by rw[h];rfl)⟩,hil,List.take_length]
noncomputable def Ecm3(l:List Sm):Senv:={ EC (BgC 24 26 true (Bbg l)) 23 5 [6,9,11,12,13,14] (fun _=>([],[])) with
 mg:=fun _=>2
 bd:=fun t=>match t with
  |52=>some 5
  |_=>none
 ann:=fun b env S=>match b with
  |0=>match Ab.look env 4 with
   |.ref k _ _=>some { slots:=[13],keep:=[0,1,3,4,11,12],α:=Nat×Nat,st:=fun y=>([.int .i64 y.1],⟨Id S.objs k (.bldx 52 5 (bsl (wrF true ((ptB l).take y.1)).1 (.tok 0 y.2)) [.str (wrF true ((ptB l).take y.1)).2.1,.int .i64 (wrF true ((ptB l).take y.1)).2.2]),[(0,y.2)]⟩),inv:=fun y=>y.1<=(ptB l).length,mu:=fun y=>(ptB l).length-y.1 }
   |_=>none
  |_=>none }
def Qm4:Arr:=DA
def QfX:Nd:=Nd.mk Z0 Z0 Z0 [] Z0 Z0 Qm4 [] [] Z0 Z0 Z0
def Qm5:Sm:=Sm.mk Z0 Z0 [] Z0 QfX QfX
def Y8(a:List Sm)(b:Nat):Sm:=List.getD a b Qm5
def QMj(a:List Sm)(b:Nat):List D:=(Sm.row1 (Y8 a b))
def QMk(a:List Sm):D:=D.agg [D.sl 34 (LN a) (fun i=>QMj a i) Mode.any]
def QMl(a:List Sm):List D:=[QMk a]
def QMm(a:List Sm):Prop:=wkL (QMl a) (QMl a)
def Qm6(a:Nat)(b:List Sm):Prop:=a<=LN (ptB b)
def QMn(a:Nat)(b:List Sm):List UInt8×List UInt8×Int:=wrF true (List.take a (ptB b))
def QMo(a:Nat)(b:List Sm):List UInt8:=Prod.fst (QMn a b)
def Y9(a:Nat)(b:List Sm):Nat:=LN (QMo a b)
def Qf0(a:Nat)(b:List Sm)(c:Nat):List D:=[ZB (BI (QMo a b) c)]
def QMp(a:Nat)(b:List Sm):List UInt8×Int:=Prod.snd (QMn a b)
def Qf1(a:Nat)(b:List Sm):List UInt8:=Prod.fst (QMp a b)
def H9(a:Nat)(b:List Sm):Int:=Prod.snd (QMp a b)
def QMq(a:Nat)(b:List Sm):Prop:=SM a/\((SM (LN b)/\(∀(i:Nat),i<LN b->SM (QMj b i))/\True)/\True)/\True
def Qf2(a:List Sm):List (List UInt8):=List.map prT (ptB a)
def Qm7(a:List Sm):Int:=(LI (Qf2 a))
def QMr(a b c:Nat)(d:List Sm):Prop:=Oz [(N0,a)] b b (52:Nat) (5:Nat) N0 a (Y9 c d) fun i=>Qf0 c d i
def Qf3(a:List Sm)(b:Nat):List UInt8:=List.getD (Qf2 a) (Int.toNat (↑b:Int)) []
def QSU(a:List Sm):D:=D.sl N1 (LN (Qf2 a)) (fun i=>[D.str (List.getD (Qf2 a) i [])]) Mode.any
def QSV(a:List Sm):D:=ZI (Qm7 a)
def QMs(a:Nat)(b:List Sm):List UInt8:=bytesOf (Y9 a b) fun i=>Qf0 a b i
def QMt(a:Nat)(b:List Sm):List UInt8:=wrO true (QMs a b) (Qf1 a b) (H9 a b) (Qf3 b a)
def QMu(a:Nat)(b:List Sm):Nat:=LN (QMt a b)
theorem Bis(l:List Sm)(hl:l.length<=BC)(ho:∀s∈l,s.ok)(hs:∀s∈l,s.sm):CD 9 [.agg [gsl 34 Sm.row1 l]] (.str (EM l)):=by
 refine Bh (A:=sC _ _) (x:=()) (E:=Ecm3 l) (eOk (BcZ (Baz hl ho hs) fun k kt x t o last y lv hp=>BnU _ _ _ k kt x t (Bpy x t o last y lv hp.1 hp.2.1 hp.2.2.1 hp.2.2.2.1 hp.2.2.2.2)) rfl) Tryz.func9 rfl (by kernel_rfl) rfl (by simp[sC,Ecm3,EC,E0]) ?_
 refine Bj (T :=
  ∀(x:Nat),True->SM x/\∃(x_1:Unit),QMm l/\∀(y:Unit),True->ifB (B2 l != Z0) (RT (Cw (List UInt8) [] (EM l))) (∀(y t:Nat),x≠y/\True->SM x/\∃(x_2:Unit),(QMm l/\B2 l=Z0)/\∀(y_1:Unit),True->(∃(x_3:Nat×Nat),Qm6 x_3.1 l/\(Z0=(NI x_3.1)/\True)/\(SM y/\((N0=Y9 x_3.1 l/\(∀(i:Nat),i<N0->Cw (List D) [] (Qf0 x_3.1 l i))/\t=x_3.2)/\Cw (List UInt8) [] (Qf1 x_3.1 l)/\Z0=H9 x_3.1 l/\True)/\QMq x l)/\t=x_3.2/\True)/\∀(x_3:Nat×Nat),Qm6 x_3.1 l->ifB (decide ((NI x_3.1)<Qm7 l)) (Be (Z0<=(NI x_3.1)/\(NI x_3.1)<Qm7 l) (((QMr x_3.2 y x_3.1 l/\Bcw (Y9 x_3.1 l) (Qf1 x_3.1 l) (Qf3 l x_3.1) (H9 x_3.1 l)/\SM (24:Nat)/\SM (26:Nat))/\True)/\∀(y_2:Nat),True->(SM (QMk l)/\SM (D.ref N0 x N0)/\SM (D.fn (Fn.func (24:Nat)) [] [])/\SM (D.ref (max (N0+N1) N0) y N0)/\SM (QSU l)/\SM (QSV l)/\True)/\∃(y_3:Nat×Nat),Qm6 y_3.1 l/\LN (ptB l)-y_3.1<LN (ptB l)-x_3.1/\(IntKind.wrap IntKind.i64 ((NI x_3.1)+Z1)=(NI y_3.1)/\True)/\(SM y/\((QMu x_3.1 l=Y9 y_3.1 l/\(∀(i:Nat),i<QMu x_3.1 l->[ZB (BI (QMt x_3.1 l) i)]=Qf0 y_3.1 l i)/\y_2=y_3.2)/\wrL (Qf3 l x_3.1)=Qf1 y_3.1 l/\wrV (H9 x_3.1 l) (Qf3 l x_3.1)=H9 y_3.1 l/\True)/\QMq x l)/\y_2=y_3.2/\True)) (((QMr x_3.2 y x_3.1 l/\Y9 x_3.1 l<=140737488355328)/\True)/\∀(y:Unit),True->RT (QMs x_3.1 l=EM l)))) (by kernel_rfl) ?_
 delta BI DA GI LI LN N0 N1 N4 NI SI SM U0 Z0 Z1 ZB ZI Qm4 QfX Qm5 Y8 QMj QMk QMl QMm Qm6 QMn QMo Y9 Qf0 QMp Qf1 H9 QMq Qf2 Qm7 QMr Qf3 QSU QSV QMs QMt QMu RT
 try simp only[<- dm]
 try simp only[<- dn]
 simp only[eq_self,ne_eq,implies_true,Ba,Int.toNat_natCast,Bf,Bc,decide_eq_true_eq,decide_eq_false_iff_not,true_and,and_true,beq_iff_eq,bne_iff_ne,bne_eq_false_iff_eq,beq_eq_false_iff_ne,Bool.not_eq_true',Bool.not_eq_false',exists_const,forall_const,Prod.exists]
 intro x
 refine⟨Bg _,fun h=>?_,fun h0=>?_⟩
 ·rw[EM,if_neg h]
 ·simp only[CK]
  have hR:=GD h0
  have hpt:=TU hR ho
  have hm:((ptB l).map prT).length=(ptB l).length:=List.length_map ..
  intro y t hxy
  refine⟨⟨Bg _,h0⟩,⟨0,t,Nat.zero_le _,rfl,⟨⟨rfl,fun i hi=>absurd hi (by omega),rfl⟩,rfl,rfl⟩,rfl⟩,?_⟩
  rintro ⟨i,t1⟩ hi
  simp only at hi ⊢
  refine⟨fun hlt=>?_,fun hge=>?_⟩
  ·have hi':i<(ptB l).length:=by omega
   obtain ⟨wp,we⟩:=BkD true hR ho hi'
   refine⟨⟨by omega,hlt⟩,⟨Gw _ _ _,wp⟩,fun t2=>⟨i+1,t2,hi',by omega,Bb (by omega) (by omega),⟨⟨?_,?_,rfl⟩,?_,?_⟩,rfl⟩⟩
   ·rw[we]
   ·intro j _
    rw[we]
   ·rw[we]
   ·rw[we]
  ·have hil:i=(ptB l).length:=by omega
   have w:=(Bet true hR ho hi).ol
   refine⟨⟨Gw _ _ _,by omega⟩,?_⟩
   rw[EM,if_pos h0,hil,List.take_length]
def pEG{β α:Type}(ds:List D)(S:St)(d:α->D)(q:α->Prop)(p:β->Prop):FnSpec where
 β:=β
 α:=α
 args:=fun _=>ds
 st:=fun _=>S
 pre:=p
 post:=fun _ y=>q y
 res:=fun _ y=>.ret (d y)
 out:=fun _ _=>S
 all:=true
def CG{α:Type}(k:Nat)(ds:List D)(d:α->D)(q:α->Prop):Prop:=ACalls Tryz.prog k ds ⟨[],[]⟩ (SpecR (pQ ds d q True) ())
theorem CG.wk{α:Type}{k:Nat}{ds us:List D}{d:α->D}{q:α->Prop}(h:CG k us d q)(hw:wkL ds us):CG k ds d q :=
 (ACalls.wkArgs h hw).mono fun _ _ ⟨y,q1,q2,q3⟩=>⟨y,q1,q2,q3⟩
theorem Bbx{β α : Type}{k : Nat}{ds : List D}{S : St}{d : α -> D}{q : α -> Prop}{p : β -> Prop}(h : ∀x, p x -> CG k ds d q) :
  (∀x,(pEG ds S d q p).pre x->ACalls Tryz.prog k ((pEG ds S d q p).args x) ((pEG ds S d q p).st x) (SpecR (pEG ds S d q p) x))/\(∀x,(pEG ds S d q p).fit=some x->(pEG ds S d q p).pre x->BD ds ((pEG ds S d q p).args x)/\leS ((pEG ds S d q p).st x) S)/\((pEG ds S d q p).all=true->∀x,(pEG ds S d q p).pre x->BD ds ((pEG ds S d q p).args x)/\(pEG ds S d q p).st x=S):=by
 refine⟨fun x hp=>?_,fun _ e=>(by cases e),fun _ _ _=>⟨Ba ds,rfl⟩⟩
 refine (((h x hp).frame S).from fun C F w H=>?_).mono ?_
 ·have e:(pEG ds S d q p).st x=S:=rfl
  rw[e] at H
  simpa[St.add] using H
 ·rintro r S' ⟨S0,⟨y,q1,rfl,rfl⟩,rfl⟩
  exact⟨y,q1,rfl,by simp[St.add,pQ,pEG]⟩
def RNds(n:Nd)(m:Int):Prop:=CG (α:=Int) 28 [.agg n.row2,.int .i64 m] (fun z=>.int .i64 z) (fun z=>0<=z/\z<=m)
def RSts(l:List Sm)(m:Int):Prop:=CG (α:=Int) 11 [gsl 34 Sm.row1 l,.int .i64 m] (fun z=>.int .i64 z) (fun z=>0<=z/\z<=m)
def Bbq(p:Nd->Prop):Con:=fun k ds S=>match k with
 |28=>match ds with
  | [_,.int .i64 m]=>some (pEG (β:=Nd) (α:=Int) ds S (fun z=>.int .i64 z) (fun z=>0<=z/\z<=m) (fun b=>isN b ds [.int .i64 m]/\0<=m/\m<=2000/\p b))
  |_=>none
 |_=>none
theorem R2{p:Nd->Prop}(h:∀b,p b->∀m,0<=m->m<=2000->RNds b m):ConOk Tryz.prog (Bbq p):=by
 intro k ds S A hh
 unfold Bbq at hh
 split at hh
 ·split at hh
  ·injection hh with hh;subst hh
   exact Bbx fun b ⟨e,h0,h1,hb⟩=>CG.wk (CG.wk (h b hb _ h0 h1) (by simp only[wkL];exact⟨by simp only[wkD];exact MA b,Bi _,trivial⟩)) e
  ·cases hh
 ·cases hh
def Bew(p:Nd->Prop)(l:List Sm):Con:=fun k ds S=>match k with
 |11=>match ds with
  | [_,.int .i64 m]=>some (pEG (β:=Unit) (α:=Int) ds S (fun z=>.int .i64 z) (fun z=>0<=z/\z<=m) (fun _=>wkL ds [gsl 34 Sm.row1 l,.int .i64 m]/\0<=m/\m<=2000))
  |_=>none
 |k=>Bbq p k ds S
theorem Bg6{p:Nd->Prop}{l:List Sm}(h:∀b,p b->∀m,0<=m->m<=2000->RNds b m)(h2:∀m,0<=m->m<=2000->RSts l m):ConOk Tryz.prog (Bew p l):=by
 intro k ds S A hh
 unfold Bew at hh
 split at hh
 ·split at hh
  ·injection hh with hh;subst hh
   exact Bbx fun _ ⟨e,h0,h1⟩=>CG.wk (h2 _ h0 h1) e
  ·cases hh
 ·exact R2 h _ _ _ _ hh
noncomputable def Ests(p:Nd->Prop)(l:List Sm):Senv:={ EC (Bbq p) 53 2 [4,5,6,17,38] (fun id=>match id with | 5=>([0,1,2,3,4,5,6,7,8,9,10,11,12,13,14,15,16],[14]) | _=>([],[])) with
 mg:=fun _=>2
 ann:=fun b _ S=>match b with
  |0=>some { slots:=[6,5],keep:=[0,1],α:=Nat×Int,st:=fun y=>([.int .i64 y.1,.int .i64 y.2],S),inv:=fun y=>y.1<=l.length/\0<=y.2/\y.2<=20000000000,mu:=fun y=>l.length-y.1 }
  |_=>none }
def Qf4(a:Nat)(b:List Sm)(c:Int):Prop:=a<=LN b/\Z0<=c/\c<=20000000000
def Qaa:Arr:=DA
def Za:Nd:=Nd.mk Z0 Z0 Z0 [] Z0 Z0 Qaa [] [] Z0 Z0 Z0
def Zb:Sm:=Sm.mk Z0 Z0 [] Z0 Za Za
def Qm8(a:List Sm)(b:Nat):Sm:=List.getD a (Int.toNat (↑b:Int)) Zb
def Jv(a:List Sm)(b:Nat):Nd:=Sm.te (Qm8 a b)
def Qf6(a:Int)(b:List Sm)(c:Nat)(d:Int):Int:=IntKind.wrap IntKind.i64 (IntKind.wrap IntKind.i64 (a+(LI (Sm.nm (Qm8 b c))))+d)
def Jw(a:List Sm)(b:Nat):Nd:=Sm.nd (Qm8 a b)
def Qf8(a b:Int)(c:List Sm)(d:Nat)(e:Int):Int:=IntKind.wrap IntKind.i64 (a-Qf6 b c d e)
def QMB(a b:Int)(c:List Sm)(d:Nat)(e:Int):List D:=[ZI (Qf8 a b c d e)]
def Zc(a:List Sm)(b:Nat):Sm:=List.getD a b Zb
def QS4(a:List Sm):D:=D.sl 34 (LN a) (fun i=>(Sm.row1 (Zc a i))) Mode.any
def QMI(a:List Sm)(b:Int):Prop:=SM (QS4 a)/\SM (ZI b)/\True
def QMJ(a b:Int):Prop:=True/\∃(y:Int),(Z0<=y/\y<=a)/\(if a<b then a else b)=y/\True/\True
theorem BcO(p:Nd->Prop)(l:List Sm)(m:Int)(h0:0<=m)(h1:m<=2000)(hl:l.length<=BC)(hn:∀s∈l,s.nm.length<=BC)(h:∀b,p b->∀m,0<=m->m<=2000->RNds b m)(hb:∀s∈l,p s.te/\p s.nd):RSts l m:=by
 refine Bh (A:=pQ _ _ _ _) (x:=()) (E:=Ests p l) (eOk (R2 h) rfl) Tryz.func11 rfl (by kernel_rfl) rfl (by simp[pQ,Ests,EC,E0]) ?_
 refine Bj (T :=
  (∃(x:Nat×Int),Qf4 x.1 l x.2/\(Z0=(NI x.1)/\(LI l)=x.2/\True)/\True/\True)/\∀(x:Nat×Int),Qf4 x.1 l x.2->ifB (decide ((NI x.1)<(LI l))) (ifB (decide (x.2<m)) (Be (Z0<=(NI x.1)/\(NI x.1)<(LI l)) (Be (Z0<=(NI x.1)/\(NI x.1)<(LI l)) (∃(x_1:Nd),(isN x_1 [D.agg (Nd.rowE (Jv l x.1)),ZI m] [ZI m]/\Z0<=m/\m<=2000/\p x_1)/\∀(y:Int),Z0<=y/\y<=m->ifB (decide (Qf6 x.2 l x.1 y<m)) (Be (Z0<=(NI x.1)/\(NI x.1)<(LI l)) (∃(x_2:Nd),(isN x_2 (D.agg (Nd.rowE (Jw l x.1))::QMB m x.2 l x.1 y) (QMB m x.2 l x.1 y)/\Z0<=Qf8 m x.2 l x.1 y/\Qf8 m x.2 l x.1 y<=2000/\p x_2)/\∀(y_1:Int),Z0<=y_1/\y_1<=Qf8 m x.2 l x.1 y->QMI l m/\∃(y_2:Nat×Int),Qf4 y_2.1 l y_2.2/\LN l-y_2.1<LN l-x.1/\(IntKind.wrap IntKind.i64 ((NI x.1)+Z1)=(NI y_2.1)/\IntKind.wrap IntKind.i64 (Qf6 x.2 l x.1 y+y_1)=y_2.2/\True)/\True/\True)) (QMI l m/\∃(y_1:Nat×Int),Qf4 y_1.1 l y_1.2/\LN l-y_1.1<LN l-x.1/\(IntKind.wrap IntKind.i64 ((NI x.1)+Z1)=(NI y_1.1)/\Qf6 x.2 l x.1 y=y_1.2/\True)/\True/\True)))) (QMJ m x.2)) (QMJ m x.2)) (by kernel_rfl) ?_
 delta DA GI LI LN N1 N4 NI SI SM Z0 Z1 ZI Qf4 Qaa Qf6 Jw Za Qf8 QMB Zc Zb QS4 QMI QMJ Qm8 Jv
 try simp only[<- dm]
 try simp only[<- dn]
 simp only[eq_self,ne_eq,implies_true,Ba,Int.toNat_natCast,Bf,Bc,decide_eq_true_eq,decide_eq_false_iff_not,true_and,and_true,beq_iff_eq,bne_iff_ne,bne_eq_false_iff_eq,beq_eq_false_iff_ne,Bool.not_eq_true',Bool.not_eq_false',exists_const,forall_const,Prod.exists]
 unfold BC at hl hn
 have fin:∀c:Int,0<=c->∃y,(0<=y/\y<=m)/\(if m<c then m else c)=y:=fun c hc=>⟨_,⟨by split<;>omega,by split<;>omega⟩,rfl⟩
 refine⟨⟨0,_,⟨Nat.zero_le _,by omega,by omega⟩,rfl,rfl⟩,?_⟩
 rintro ⟨i,c⟩ ⟨i1,c0,c1⟩
 simp only at i1 c0 c1 ⊢
 refine⟨fun hlt=>⟨fun hc=>?_,fun _=>fin c c0⟩,fun _=>fin c c0⟩
 have hlt':i<l.length:=by omega
 obtain ⟨q1,q2⟩:=hb _ (C4 hlt')
 have hnm:=hn _ (C4 hlt')
 have wi:IntKind.i64.wrap ((i:Int)+1)=((i+1:Nat):Int):=by rw[Bb (by omega) (by omega)];rfl
 have w1:IntKind.i64.wrap (c+((l.getD i default).nm.length:Int))=c+((l.getD i default).nm.length:Int):=Bb (by omega) (by omega)
 rw[w1]
 refine⟨⟨by omega,hlt⟩,⟨by omega,hlt⟩,(l.getD i default).te,⟨Bl _ _,h0,h1,q1⟩,fun y ⟨y0,y1⟩=>?_⟩
 have w2:IntKind.i64.wrap (c+((l.getD i default).nm.length:Int)+y)=c+((l.getD i default).nm.length:Int)+y:=Bb (by omega) (by omega)
 rw[w2]
 refine⟨fun h2=>?_,fun h2=>⟨i+1,_,⟨hlt',by omega,by omega⟩,by omega,wi,rfl⟩⟩
 have w3:IntKind.i64.wrap (m-(c+((l.getD i default).nm.length:Int)+y))=m-(c+((l.getD i default).nm.length:Int)+y):=Bb (by omega) (by omega)
 rw[w3]
 refine⟨⟨by omega,hlt⟩,(l.getD i default).nd,⟨Bl _ _,by omega,by omega,q2⟩,fun z ⟨z0,z1⟩=>⟨i+1,_,⟨hlt',?_,?_⟩,by omega,wi,rfl⟩⟩
 ·rw[Bb (by omega) (by omega)];omega
 ·rw[Bb (by omega) (by omega)];omega
noncomputable def Ends(p:Nd->Prop)(n:Nd):Senv:={ EC (Bew p n.bo) 63 3 [4,5,6,35,51] (fun _=>([],[])) with
 mg:=fun _=>2
 ann:=fun b _ S=>match b with
  |0=>some { slots:=[6,5],keep:=[0,1,2],α:=Nat×Int,st:=fun y=>([.int .i64 y.1,.int .i64 y.2],S),inv:=fun y=>y.1<=n.ki.length/\0<=y.2/\y.2<=100000000000000,mu:=fun y=>n.ki.length-y.1 }
  |_=>none }
def Qm9(a:Nd):List Nd:=Nd.ki a
def VP(a:Nd):Nat:=LN (Qm9 a)
def Qna(a:Nat)(b:Nd)(c:Int):Prop:=a<=VP b/\Z0<=c/\c<=100000000000000
def Qnb(a:Nd):List UInt8:=Nd.tx a
def Qgb(a:Nd):Arr:=Nd.va a
def QMK(a:Nd):List Int:=Arr.nu (Qgb a)
def Qgc(a:Nd):Nat:=LN (QMK a)
def QML(a:Nd):List Int:=Arr.sh (Qgb a)
def Qgd(a:Nd):Nat:=LN (QML a)
def QMM(a:Nd):List Arr:=Arr.it (Qgb a)
def Qge(a:Nd):Nat:=LN (QMM a)
def QMN(a:Nd):Int:=Nd.kd a
def QMO(a:Nd):Int:=Nd.at_ a
def QMP(a:Nd):Int:=Nd.cl a
def QMQ(a:Nd):Int:=Nd.pr a
def QMR(a:Nd):Int:=Nd.op a
def QMS(a:Nd):Int:=Arr.k (Qgb a)
def QMT(a:Nd)(b:Nat):List D:=[ZI (GI (QML a) b)]
def QMU(a:Nd)(b:Nat):List D:=[ZI (GI (QMK a) b)]
def Qnc:Arr:=DA
def QMV(a:Nd)(b:Nat):List D:=Arr.row (List.getD (QMM a) b Qnc)
def Qab:Nd:=Nd.mk Z0 Z0 Z0 [] Z0 Z0 Qnc [] [] Z0 Z0 Z0
def QMW(a:Nd)(b:Nat):List D:=Nd.row1 (List.getD (Qm9 a) b Qab)
def Qnd(a:Nd):Nat:=LN (Nd.bo a)
def QMX:Sm:=Sm.mk Z0 Z0 [] Z0 Qab Qab
def QMY(a:Nd)(b:Nat):List D:=Sm.row1 (List.getD (Nd.bo a) b QMX)
def QMZ(a:Nd):Int:=Nd.de a
def QM0(a:Nd):Int:=Nd.sl a
def QM1(a:Nd):Int:=Nd.ss a
def QM2(a:Nat)(b:Nd):Prop:=(SM a/\(SM (QMN b)/\SM (QMO b)/\SM (QMP b)/\SM (Qnb b)/\SM (QMQ b)/\SM (QMR b)/\SM (QMS b)/\(SM (Qgd b)/\(∀(i:Nat),i<Qgd b->SM (QMT b i))/\True)/\(SM (Qgc b)/\(∀(i:Nat),i<Qgc b->SM (QMU b i))/\True)/\(SM (Qge b)/\(∀(i:Nat),i<Qge b->SM (QMV b i))/\True)/\(SM (VP b)/\(∀(i:Nat),i<VP b->SM (QMW b i))/\True)/\(SM (Qnd b)/\(∀(i:Nat),i<Qnd b->SM (QMY b i))/\True)/\SM (QMZ b)/\SM (QM0 b)/\SM (QM1 b)/\True)/\True)/\True
def Jz(a:Nd)(b:Nat):Nd:=List.getD (Qm9 a) (Int.toNat (↑b:Int)) Qab
def Qne(a b:Int):List D:=[ZI (IntKind.wrap IntKind.i64 (a-b))]
def QM6(a:Nd):D:=D.sl 34 (Qnd a) (fun i=>QMY a i) Mode.any
def QS7(a:Nd):D:=D.agg (Nd.row2 a)
def QM7(a:Nd)(b c:Int):List D:=QM6 a::Qne b c
def QM8(a b:Int)(c:Nat)(d:Nd):Prop:=ifB (decide (a<b)) (SM c/\∃(x:Unit),(wkL (QM7 d b a) (QM7 d b a)/\Z0<=IntKind.wrap IntKind.i64 (b-a)/\IntKind.wrap IntKind.i64 (b-a)<=2000)/\∀(y:Int),Z0<=y/\y<=IntKind.wrap IntKind.i64 (b-a)->True/\∃(y_1:Int),(Z0<=y_1/\y_1<=b)/\(if b<IntKind.wrap IntKind.i64 (a+y) then b else IntKind.wrap IntKind.i64 (a+y))=y_1/\True/\True) (True/\∃(y:Int),(Z0<=y/\y<=b)/\(if b<a then b else a)=y/\True/\True)
theorem Bjm(p:Nd->Prop)(n:Nd)(m:Int)(h0:0<=m)(h1:m<=2000)(hn:n.sm)(ho:n.va.ok)(hvs:n.va.sm)(h:∀b,p b->∀m,0<=m->m<=2000->RNds b m)(hk:∀b∈n.ki,p b)(hst:∀m,0<=m->m<=2000->RSts n.bo m):RNds n m:=by
 refine Bh (A:=pQ _ _ _ _) (x:=()) (E:=Ends p n) (eOk (Bg6 h hst) rfl) Tryz.func28 rfl (by kernel_rfl) rfl (by simp[pQ,Ends,EC,E0]) ?_
 refine Bj (T :=
  ∀(x:Nat),True->SM x/\SM x/\SM x/\SM x/\(∃(x_1:Nat×Int),Qna x_1.1 n x_1.2/\(Z0=(NI x_1.1)/\IntKind.wrap IntKind.i64 (IntKind.wrap IntKind.i64 (IntKind.wrap IntKind.i64 (IntKind.wrap IntKind.i64 (Z1+(LI (Qnb n)))+(NI (Qgc n)))+(NI (Qgd n)))+(NI (Qge n)))=x_1.2/\True)/\QM2 x n)/\∀(x_1:Nat×Int),Qna x_1.1 n x_1.2->SM x/\ifB (decide ((NI x_1.1)<(NI (VP n)))) (ifB (decide (x_1.2<m)) (SM x/\Be (Z0<=(NI x_1.1)/\(NI x_1.1)<(NI (VP n))) (∃(x_2:Nd),(isN x_2 (D.agg (Nd.rowE (Jz n x_1.1))::Qne m x_1.2) (Qne m x_1.2)/\Z0<=IntKind.wrap IntKind.i64 (m-x_1.2)/\IntKind.wrap IntKind.i64 (m-x_1.2)<=2000/\p x_2)/\∀(y:Int),Z0<=y/\y<=IntKind.wrap IntKind.i64 (m-x_1.2)->(SM (QS7 n)/\SM (ZI m)/\SM (D.ref N0 x N0)/\True)/\∃(y_1:Nat×Int),Qna y_1.1 n y_1.2/\VP n-y_1.1<VP n-x_1.1/\(IntKind.wrap IntKind.i64 ((NI x_1.1)+Z1)=(NI y_1.1)/\IntKind.wrap IntKind.i64 (x_1.2+y)=y_1.2/\True)/\QM2 x n)) (QM8 x_1.2 m x n)) (QM8 x_1.2 m x n)) (by kernel_rfl) ?_
 delta DA GI LI LN N0 N1 N4 NI SI SM Z0 Z1 ZI Qm9 VP Qna Qnb Qgb QMK Qgc QML Qgd QMM Qge QMN QMO QMP QMQ QMR QMS QMT QMU Qnc QMV Qab QMW Qnd QMX QMY QMZ QM0 QM1 QM2 Jz Qne QM6 QS7 QM7 QM8
 try simp only[<- dm]
 try simp only[<- dn]
 simp only[eq_self,ne_eq,implies_true,Ba,Int.toNat_natCast,Bf,Bc,decide_eq_true_eq,decide_eq_false_iff_not,true_and,and_true,beq_iff_eq,bne_iff_ne,bne_eq_false_iff_eq,beq_eq_false_iff_ne,Bool.not_eq_true',Bool.not_eq_false',exists_const,forall_const,Prod.exists]
 obtain ⟨k1,k2,_⟩:=Cc hn
 have hva:n.va.sh.length<=BC/\n.va.nu.length<=BC/\n.va.it.length<=BC:=by
  cases hv:n.va with
  |mk k s nu it=>rw[hv] at hvs;simp only[Arr.sm] at hvs;exact⟨hvs.1,hvs.2.1,hvs.2.2.1⟩
 unfold BC at k1 k2 hva
 obtain ⟨v1,v2,v3⟩:=hva
 have fin:∀c:Int,0<=c->∃y,(0<=y/\y<=m)/\(if m<c then m else c)=y:=fun c hc=>⟨_,⟨by split<;>omega,by split<;>omega⟩,rfl⟩
 have tail : ∀c : Int, 0<=c -> c<=100000000000000 -> (c<m -> (wkL [D.sl 34 n.bo.length (fun i=>(n.bo.getD i default).row1) Mode.any, D.int IntKind.i64 (IntKind.i64.wrap (m-c))] [D.sl 34 n.bo.length (fun i=>(n.bo.getD i default).row1) Mode.any, D.int IntKind.i64 (IntKind.i64.wrap (m-c))] /\ 0<=IntKind.i64.wrap (m-c) /\ IntKind.i64.wrap (m-c)<=2000) /\
   ∀(y:Int),0<=y/\y<=IntKind.i64.wrap (m-c)->∃y_1,(0<=y_1/\y_1<=m)/\(if m<IntKind.i64.wrap (c+y) then m else IntKind.i64.wrap (c+y))=y_1)/\(¬c<m->∃y,(0<=y/\y<=m)/\(if m<c then m else c)=y):=fun c c0 c1=>by
  refine⟨fun hc=>?_,fun _=>fin c c0⟩
  have w1:IntKind.i64.wrap (m-c)=m-c:=Bb (by omega) (by omega)
  rw[w1]
  refine⟨⟨Bg _,by omega,by omega⟩,fun y ⟨y0,y1⟩=>?_⟩
  rw[Bb (show (-9223372036854775808:Int)<=c+y by omega) (by omega)]
  exact fin _ (by omega)
 have w0:IntKind.i64.wrap (IntKind.i64.wrap (IntKind.i64.wrap (IntKind.i64.wrap (1+(n.tx.length:Int))+(n.va.nu.length:Int))+(n.va.sh.length:Int))+(n.va.it.length:Int))=1+(n.tx.length:Int)+n.va.nu.length+n.va.sh.length+n.va.it.length:=by
  rw[Bb (show (-9223372036854775808:Int)<=1+(n.tx.length:Int) by omega) (by omega),Bb (show (-9223372036854775808:Int)<=1+(n.tx.length:Int)+n.va.nu.length by omega) (by omega),Bb (show (-9223372036854775808:Int)<=1+(n.tx.length:Int)+n.va.nu.length+n.va.sh.length by omega) (by omega),Bb (by omega) (by omega)]
 rw[w0]
 refine⟨⟨0,_,⟨Nat.zero_le _,by omega,by omega⟩,rfl,rfl⟩,?_⟩
 rintro ⟨i,c⟩ ⟨i1,c0,c1⟩
 simp only at i1 c0 c1 ⊢
 refine⟨fun hlt=>⟨fun hc=>?_,fun _=>tail c c0 c1⟩,fun _=>tail c c0 c1⟩
 have hlt':i<n.ki.length:=by omega
 have w1:IntKind.i64.wrap (m-c)=m-c:=Bb (by omega) (by omega)
 rw[w1]
 refine⟨⟨by omega,hlt⟩,n.ki.getD i default,⟨Bl _ _,by omega,by omega,hk _ (B0 hlt')⟩,fun y ⟨y0,y1⟩=>⟨i+1,_,⟨hlt',?_,?_⟩,by omega,by rw[Bb (by omega) (by omega)];rfl,rfl⟩⟩
 ·rw[Bb (by omega) (by omega)];omega
 ·rw[Bb (by omega) (by omega)];omega
theorem BqD{n:Nd}(h:n.sm):n.va.sm:=by
 cases n with
 |mk kd at_ cl tx pr op va ki bo de sl ss =>
  simp only[Nd.sm] at h
  exact h.2.1
theorem BnR{s:Sm}(h:s.sm):s.nm.length<=BC:=by
 cases s with
 |mk kd at_ nm sl te nd =>
  simp only[Sm.sm] at h
  exact h.1
theorem Be6(n:Nd)(ho:n.ok)(hn:n.sm)(m:Int)(h0:0<=m)(h1:m<=2000):RNds n m :=
 Bjm (fun b=>(b.ok/\b.sm)/\SizeOf.sizeOf b<SizeOf.sizeOf n) n m h0 h1 hn (Ti ho) (BqD hn) (fun b hb m h0 h1=>Be6 b hb.1.1 hb.1.2 m h0 h1) (fun b hb=>⟨⟨Oc ho b hb,EW hn (BT hb)⟩,Nd.size_kid hb⟩) fun m h0 h1 =>
  BcO (fun b=>(b.ok/\b.sm)/\SizeOf.sizeOf b<SizeOf.sizeOf n) n.bo m h0 h1 (Cc hn).2.2 (fun s hs=>BnR (Gy hn s hs)) (fun b hb m h0 h1=>Be6 b hb.1.1 hb.1.2 m h0 h1) fun s hs =>
   have h2:=Cm (Gy hn s hs)
   have o2:=Cq (GK ho s hs)
   have e:=Nd.size_stmt hs
   have e1:=Sm.size_te s
   have e2:=Sm.size_nd s
   ⟨⟨⟨o2.1,h2.1⟩,by omega⟩,⟨⟨o2.2,h2.2⟩,by omega⟩⟩
termination_by SizeOf.sizeOf n
decreasing_by
 ·exact hb.2
 ·exact hb.2
theorem Boc(l:List Sm)(hl:l.length<=BC)(ho:∀s∈l,s.ok)(hs:∀s∈l,s.sm)(m:Int)(h0:0<=m)(h1:m<=2000):RSts l m :=
 BcO (fun b=>b.ok/\b.sm) l m h0 h1 hl (fun s h=>BnR (hs s h)) (fun b hb m h0 h1=>Be6 b hb.1 hb.2 m h0 h1) fun s h=>⟨⟨(Cq (ho s h)).1,(Cm (hs s h)).1⟩,(Cq (ho s h)).2,(Cm (hs s h)).2⟩
def Bhz:D:=.sl 1 0 (fun _=>[]) .nil
def BjO:List Int->D
 | []=>Bhz
 |z::l=>.sl 1 (l.length+1) (fun i=>((z::l).map fun z=>[D.int .i64 z]).getD i []) .full
def BeK(w:Nat):List (List D)->D
 | []=>Bhz
 |r::l=>.sl w (l.length+1) (fun i=>(r::l).getD i []) .full
def BoQ:List Arr->D
 | []=>Bhz
 |a::l=>gsl 4 Arr.row (a::l)
mutual
def Nd.lit:Nd->List D
 |.mk kd at_ cl tx pr op va ki bo de sl ss=>[.int .i64 kd,.int .i64 at_,.int .i64 cl,.str tx,.int .i64 pr,.int .i64 op,.int .i64 va.k,BjO va.sh,BjO va.nu,BoQ va.it,BeK 15 (G7 ki),BeK 34 (Gt bo),.int .i64 de,.int .i64 sl,.int .i64 ss]
def Sm.lit:Sm->List D
 |.mk kd at_ nm sl te nd=>.int .i64 kd::.int .i64 at_::.str nm::.int .i64 sl::(te.lit++nd.lit)
def G7:List Nd->List (List D)
 | []=>[]
 |x::r=>x.lit::G7 r
def Gt:List Sm->List (List D)
 | []=>[]
 |x::r=>x.lit::Gt r
end
theorem Bgh:∀l:List Int,wkD (BjO l) (isl l .any)
 | []=>by simp[BjO,Bhz,isl,wkD,Bd,BF]
 |z::l=>by
  simp only[BjO,isl,wkD,Bd]
  refine⟨by simp,by simp,fun i hi=>?_,by simp[BF]⟩
  have hi:i<(z::l).length:=by simpa using hi
  have e:((z::l).map fun z=>[D.int .i64 z]).getD i []=[D.int .i64 ((z::l).getD i 0)]:=by
   rw[List.getD_eq_getElem?_getD,List.getElem?_map,List.getD_eq_getElem?_getD,List.getElem?_eq_getElem hi]
   rfl
  rw[e]
  exact Bg _
theorem Bnl:∀l:List Arr,wkD (BoQ l) (gsl 4 Arr.row l)
 | []=>by simp[BoQ,Bhz,gsl,wkD,Bd,BF,Oe]
 |a::l=>Bi _
theorem BbU{w:Nat}:∀ {a b:List (List D)},a.length=b.length->(∀i,i<a.length->wkL (a.getD i []) (b.getD i []))->wkD (BeK w a) (lsl w b)
 | [],[],_,_=>by simp[BeK,Bhz,lsl,wkD,Bd,BF,Oe]
 | [],_::_,h,_=>by simp at h
 |_::_,[],h,_=>by simp at h
 |x::a,y::b,h,h2=>by
  simp only[BeK,lsl,wkD,Bd]
  exact⟨by simp,by simpa using h,fun i hi=>h2 i (by simpa using hi),by simp[BF]⟩
theorem Wy:∀l:List Nd,(G7 l).length=l.length
 | []=>by simp only[G7,List.length_nil]
 |x::r=>by simp only[G7,List.length_cons,Wy r]
theorem Ou:∀l:List Sm,(Gt l).length=l.length
 | []=>by simp only[Gt,List.length_nil]
 |x::r=>by simp only[Gt,List.length_cons,Ou r]
mutual
theorem Bex:∀n:Nd,wkL n.lit n.row
 |.mk kd at_ cl tx pr op va ki bo de sl ss=>by
  simp only[Nd.lit,Nd.row,wkL]
  refine⟨Bi _,Bi _,Bi _,Bi _,Bi _,Bi _,Bi _,Bgh _,Bgh _,Bnl _,BbU ?_ (Bfv ki),BbU ?_ (BaL bo),Bi _,Bi _,Bi _,trivial⟩
  ·rw[Wy,Ib,List.length_map]
  ·rw[Ou,Eh,List.length_map]
theorem Boz:∀s:Sm,wkL s.lit s.row
 |.mk kd at_ nm sl te nd=>by
  simp only[Sm.lit,Sm.row,wkL]
  exact⟨Bi _,Bi _,Bi _,Bi _,OZ (Bex te) (Bex nd)⟩
theorem Bfv:∀(l:List Nd) (i:Nat),i<(G7 l).length->wkL ((G7 l).getD i []) ((Mv l).getD i [])
 | [],i,h=>by simp[G7] at h
 |x::r,0,_=>by simp only[G7,Mv,List.getD_cons_zero];exact Bex x
 |x::r,i+1,h=>by
  simp only[G7,Mv,List.getD_cons_succ]
  exact Bfv r i (by simpa[G7] using h)
theorem BaL:∀(l:List Sm) (i:Nat),i<(Gt l).length->wkL ((Gt l).getD i []) ((Ed l).getD i [])
 | [],i,h=>by simp[Gt] at h
 |x::r,0,_=>by simp only[Gt,Ed,List.getD_cons_zero];exact Boz x
 |x::r,i+1,h=>by
  simp only[Gt,Ed,List.getD_cons_succ]
  exact BaL r i (by simpa[Gt] using h)
end
def isP(l:List Sm)(ds:List D)(ex:List D):Prop:=wkL ds (.agg [lsl 34 (Ed l)]::ex)
theorem BpE(l:List Sm):wkD (BeK 34 (Gt l)) (lsl 34 (Ed l)):=BbU (by rw[Ou,Eh,List.length_map]) (BaL l)
theorem UO(l:List Sm)(ds:List D)(h:ds=[.agg [BeK 34 (Gt l)]]):isP l ds []:=by
 subst h
 simp only[isP,wkL,wkD]
 exact⟨⟨BpE l,trivial⟩,trivial⟩
theorem Bnc(l:List Sm):wkD (lsl 34 (Ed l)) (gsl 34 Sm.row l):=by rw[Eh];exact Bei
theorem CD.isP{k:Nat}{l:List Sm}{ds:List D}{d:D}(h:CD k [.agg [gsl 34 Sm.row1 l]] d)(hi:isP l ds []):CD k ds d:=by
 refine CD.wk (CD.wk (CD.wk h (us:=[.agg [gsl 34 Sm.row1 l]]) ?_) (ds:=[.agg [lsl 34 (Ed l)]]) (us:=[.agg [gsl 34 Sm.row l]]) ?_) hi
 ·simp only[wkL,wkD];exact⟨⟨Wv Bn7,trivial⟩,trivial⟩
 ·simp only[wkL,wkD];exact⟨⟨Bnc l,trivial⟩,trivial⟩
def Mt(p:Int):Nd:=.mk 9 0 2 [] p 0 (.mk 0 [] [] []) [] [] 0 0 0
def BeL:Nd:=.mk 16 0 2 [] 0 0 (.mk 0 [] [] []) [.mk 14 0 2 [] 0 0 (.mk 0 [] [] []) [.mk 17 0 3 [] 0 1 (.mk 0 [] [] []) [] [] 0 0 0,Mt 1] [] 0 0 0,Mt 4,Mt 20] [] 0 0 0
theorem f0:BpB nd0=11:=by decide +kernel
noncomputable def Epri:Senv:=EC Ex 5 1 [2] (fun _=>([],[]))
def Qac:Prop:=SM N0/\(∀(i:Nat),i<N0->Cw (List D) [] [])/\True
theorem Bon(p:Int):CD 12 [.int .i64 p] (.agg (Mt p).lit):=by
 refine Bh (A:=sC _ _) (x:=()) (E:=Epri) (eOk BL rfl) Tryz.func12 rfl (by kernel_rfl) rfl (by simp[sC,Epri,EC,E0]) ?_
 refine Bj (T :=
  ∀(x:Nat),True->SM x/\(SM x/\True)/\∃(y:Unit),True/\(SM (9:Int)/\SM Z0/\SM (2:Int)/\Cw (List UInt8) [] []/\SM p/\SM Z0/\SM Z0/\Qac/\Qac/\Qac/\Qac/\Qac/\SM Z0/\SM Z0/\SM Z0/\True)/\True/\True) (by kernel_rfl) ?_
 delta N0 SM Z0 Qac
 simp only[eq_self,ne_eq,implies_true,Ba,Int.toNat_natCast,Bf,Bc,decide_eq_true_eq,decide_eq_false_iff_not,true_and,and_true,beq_iff_eq,bne_iff_ne,bne_eq_false_iff_eq,beq_eq_false_iff_ne,Bool.not_eq_true',Bool.not_eq_false',exists_const,forall_const,Prod.exists]
 try trivial
def Bfk:List Sm:=[.mk 2 0 [97,118,103] 0 nd0 BeL]
def Bns:List Sm:=[.mk 2 0 [102] 0 nd0 (.mk 16 0 2 [] 0 0 (.mk 0 [] [] []) [Mt 9,Mt 11] [] 0 0 0)]
theorem fPA:Cj Bfk=[97,118,103,32,60,45,32,43,32,47,32,37,32,116,97,108,108,121,10]:=by decide +kernel
theorem fCA:EM Bfk=[97,118,103,60,45,43,47,37,116,97,108,108,121]:=by decide +kernel
theorem fCT:EM Bns=[102,60,45,60,32,61]:=by decide +kernel
theorem fP0:Cj []=[]:=by decide +kernel
theorem gAvg:okS Bfk:=by
 refine⟨by decide,fun s hs=>?_,fun s hs=>?_⟩
 ·rw[List.mem_singleton.1 hs]
  simp[Sm.ok,nd0,BeL,Mt,Nd.ok,Arr.ok,okL,Uq,Uk,Br,maxLen]
 ·rw[List.mem_singleton.1 hs]
  simp[Sm.sm,nd0,BeL,Mt,Nd.sm,Arr.sm,smL,Tg,OQ,BC]
theorem gTwo:okS Bns:=by
 refine⟨by decide,fun s hs=>?_,fun s hs=>?_⟩
 ·rw[List.mem_singleton.1 hs]
  simp[Sm.ok,nd0,Mt,Nd.ok,Arr.ok,okL,Uq,Uk,Br,maxLen]
 ·rw[List.mem_singleton.1 hs]
  simp[Sm.sm,nd0,Mt,Nd.sm,Arr.sm,smL,Tg,OQ,BC]
theorem gNil:okS []:=⟨by decide,by simp,by simp⟩
noncomputable def BlH:Con:=fun k ds S=>match k with
 |12=>match ds with
  | [.int .i64 p]=>some (pA ds S (.agg (Mt p).lit) True)
  |_=>none
 |7=>some (pE (β:=List Sm) ds S (fun l=>.str (Cj l)) (fun l=>isP l ds []/\okS l))
 |9=>some (pE (β:=List Sm) ds S (fun l=>.str (EM l)) (fun l=>isP l ds []/\okS l))
 |_=>none
theorem Bk3:ConOk Tryz.prog BlH:=by
 intro k ds S A hh
 unfold BlH at hh
 split at hh
 ·split at hh
  ·injection hh with hh;subst hh
   exact Bo fun _=>CD.at_ (Bon _) _
  ·cases hh
 ·injection hh with hh;subst hh
  exact Cn fun l ⟨e,h⟩=>CD.at_ (CD.isP (BnC l h.1 h.2.1 h.2.2) e) _
 ·injection hh with hh;subst hh
  exact Cn fun l ⟨e,h⟩=>CD.at_ (CD.isP (Bis l h.1 h.2.1 h.2.2) e) _
 ·cases hh
noncomputable def Eli:Senv:={ EC BlH 41 4 [] (fun id=>match id with | 2=>([0,1,2,3,4,5,6,7,8,9],[1,2,3,6,8,9]) | _=>([],[])) with mg:=fun _=>2 }
def Qf:D:=ZI Z0
def JZ:D:=ZI 2
def JL:D:=D.str []
def Qk:D:=D.sl N1 N0 (fun x=>[]) Mode.nil
def Qgg:List D:=[Qk,Qf,Qf,Qf]
def QM9:List D:=Qf::Qk::Qk::Qk::Qk::Qgg
def Qad:List D:=Qf::QM9
def QNa:List D:=ZI 14::Qf::JZ::JL::Qf::Qf::Qf::Qk::Qk::Qk::D.sl 15 N2 (fun i=>List.getD [ZI 17::Qf::ZI 3::JL::Qf::ZI Z1::QM9,ZI 9::Qf::JZ::JL::ZI Z1::Qad] i []) Mode.full::Qgg
def QS8:D:=D.agg QNa
def Qae(a:Nat):Prop:=SM a/\SM QS8
def QNb(a:List Sm):Prop:=isP a [D.agg [D.sl 34 N1 (fun i=>List.getD [JZ::Qf::D.str [97,118,103]::Qf::Qf::Qf::Qf::JL::Qf::Qf::Qf::Qk::Qk::Qk::Qk::Qk::Qf::Qf::Qf::ZI 16::Qf::JZ::JL::Qf::Qf::Qf::Qk::Qk::Qk::D.sl 15 (3:Nat) (fun i=>List.getD [QNa,ZI 9::Qf::JZ::JL::ZI 4::Qad,ZI 9::Qf::JZ::JL::ZI 20::Qad] i []) Mode.full::Qgg] i []) Mode.full]] []/\okS a
def Qnf:Prop:=RT (false=true)
def QNc(a b:Nat):Prop:=SM a/\∃(x:Unit),True/\∀(y:Unit),True->∃(x:Unit),True/\∀(y:Unit),True->∀(x:Nat),a≠x/\b≠x/\True->SM x/\SM a/\∃(x_1:List Sm),QNb x_1/\∀(y:Unit),True->ifB (Cj x_1==[(97:UInt8),(118:UInt8),(103:UInt8),(32:UInt8),(60:UInt8),(45:UInt8),(32:UInt8),(43:UInt8),(32:UInt8),(47:UInt8),(32:UInt8),(37:UInt8),(32:UInt8),(116:UInt8),(97:UInt8),(108:UInt8),(108:UInt8),(121:UInt8),(10:UInt8)]) (SM a/\∃(x_2:List Sm),QNb x_2/\∀(y:Unit),True->ifB (EM x_2==[(97:UInt8),(118:UInt8),(103:UInt8),(60:UInt8),(45:UInt8),(43:UInt8),(47:UInt8),(37:UInt8),(116:UInt8),(97:UInt8),(108:UInt8),(108:UInt8),(121:UInt8)]) (SM x/\∃(x:List Sm),(isP x [D.agg [D.sl 34 N1 (fun i=>List.getD [JZ::Qf::D.str [102]::Qf::Qf::Qf::Qf::JL::Qf::Qf::Qf::Qk::Qk::Qk::Qk::Qk::Qf::Qf::Qf::ZI 16::Qf::JZ::JL::Qf::Qf::Qf::Qk::Qk::Qk::D.sl 15 N2 (fun i=>List.getD [ZI 9::Qf::JZ::JL::ZI 9::Qad,ZI 9::Qf::JZ::JL::ZI 11::Qad] i []) Mode.full::Qgg] i []) Mode.full]] []/\okS x)/\∀(y:Unit),True->ifB (EM x==[(102:UInt8),(60:UInt8),(45:UInt8),(60:UInt8),(32:UInt8),(61:UInt8)]) (∃(x:List Sm),(isP x [D.agg [Qk]] []/\okS x)/\∀(y:Unit),True->RT ((Cj x==[])=true)) Qnf) Qnf) Qnf
def QNd(a:Nat):Prop:=∀(x:Nat),a≠x/\True->QNc x a
def QNe(a b:Nat):Prop:=Qae a/\QNc b a
def QNf(a b:Nat):Prop:=Qae a/\∃(x:Unit),True/\∀(y:Unit),True->QNe a b
theorem Bqu:CD 6 [] (.bool true):=by
 refine Bh (A:=sC _ _) (x:=()) (E:=Eli) (eOk Bk3 rfl) Tryz.func6 rfl (by kernel_rfl) rfl (by simp[sC,Eli,EC,E0]) ?_
 refine Bj (T :=
  ∃(x:Unit),True/\∀(y:Unit),True->∀(x:Nat),True->SM x/\SM x/\(∃(x_1:Unit),True/\∀(y:Unit),True->Qae x/\(∃(x_2:Unit),True/\∀(y:Unit),True->Qae x/\(QNd x/\QNd x)/\∀(x_3:Nat),x≠x_3/\True->QNe x x_3)/\∀(x_2:Nat),x≠x_2/\True->QNf x x_2)/\∀(x_1:Nat),x≠x_1/\True->Qae x/\∃(x_2:Unit),True/\∀(y:Unit),True->QNf x x_1) (by kernel_rfl) ?_
 delta N0 N1 N2 SM Z0 Z1 ZI Qf Qae QNb Qnf QNc QNd QNe QNf JZ JL Qk Qgg QM9 Qad QNa QS8 RT
 simp only[eq_self,ne_eq,implies_true,Ba,Int.toNat_natCast,Bf,Bc,decide_eq_true_eq,decide_eq_false_iff_not,true_and,and_true,beq_iff_eq,bne_iff_ne,bne_eq_false_iff_eq,beq_eq_false_iff_ne,Bool.not_eq_true',Bool.not_eq_false',exists_const,forall_const,Prod.exists]
 intro x
 repeat' refine And.intro ?_ ?_
 all_goals exact fun _ _ _ _=>⟨Bfk,⟨UO Bfk _ rfl,gAvg⟩,fun _=>⟨Bfk,⟨UO Bfk _ rfl,gAvg⟩,fun _=>⟨Bns,⟨UO Bns _ rfl,gTwo⟩,fun _=>⟨[],⟨UO [] _ rfl,gNil⟩,fP0⟩,fun h=>absurd fCT h⟩,fun h=>absurd fCA h⟩,fun h=>absurd fPA h⟩
def BlS(l:List Sm):Con:=fun k ds S=>match k with
 |11=>some (pEG (β:=Unit) (α:=Int) ds S (fun z=>.int .i64 z) (fun z=>0<=z/\z<=2000) (fun _=>wkL ds [gsl 34 Sm.row1 l,.int .i64 2000]))
 |_=>none
theorem Bk6{l:List Sm}(h:okS l):ConOk Tryz.prog (BlS l):=by
 intro k ds S A hh
 unfold BlS at hh
 split at hh
 ·injection hh with hh;subst hh
  exact Bbx fun _ e=>CG.wk (Boc l h.1 h.2.1 h.2.2 2000 (by omega) (by omega)) e
 ·cases hh
noncomputable def Esl(l:List Sm):Senv:=EC (BlS l) 7 3 [] (fun _=>([],[]))
def Qng:Arr:=DA
def Qgh:Nd:=Nd.mk Z0 Z0 Z0 [] Z0 Z0 Qng [] [] Z0 Z0 Z0
def Qnh:Sm:=Sm.mk Z0 Z0 [] Z0 Qgh Qgh
def Zd(a:List Sm)(b:Nat):Sm:=List.getD a b Qnh
def QNm(a:List Sm):List D:=[D.sl 34 (LN a) (fun i=>(Sm.row1 (Zd a i))) Mode.any,ZI 2000]
theorem Bp6(l:List Sm)(h:okS l):CG (α:=Bool) 5 [.agg [gsl 34 Sm.row1 l]] (fun b=>.bool b) (fun _=>True):=by
 refine Bh (A:=pQ _ _ _ _) (x:=()) (E:=Esl l) (eOk (Bk6 h) rfl) Tryz.func5 rfl (by kernel_rfl) rfl (by simp[pQ,Esl,EC,E0]) ?_
 refine Bj (T :=
  ∀(x:Nat),True->SM x/\∃(x:Unit),wkL (QNm l) (QNm l)/\∀(y:Int),Z0<=y/\y<=2000->True/\∃(y_1:Bool),True/\decide (y<2000)=y_1/\True/\True) (by kernel_rfl) ?_
 delta DA GI LN N1 N4 SI SM Z0 ZI Qng Qgh Qnh Zd QNm
 try simp only[<- dm]
 try simp only[<- dn]
 simp only[eq_self,ne_eq,implies_true,Ba,Int.toNat_natCast,Bf,Bc,decide_eq_true_eq,decide_eq_false_iff_not,true_and,and_true,beq_iff_eq,bne_iff_ne,bne_eq_false_iff_eq,beq_eq_false_iff_ne,Bool.not_eq_true',Bool.not_eq_false',exists_const,forall_const,Prod.exists]
 exact⟨Bg _,fun y _=>⟨_,rfl⟩⟩
noncomputable def Bgn(l:List Sm):Con:=fun k ds S=>match k with
 |5=>some (pEG (β:=Unit) (α:=Bool) ds S (fun b=>.bool b) (fun _=>True) (fun _=>wkL ds [.agg [gsl 34 Sm.row1 l]]))
 |6=>some (pA ds S (.bool true) (ds=[]))
 |7=>some (pA ds S (.str (Cj l)) (wkL ds [.agg [gsl 34 Sm.row1 l]]))
 |9=>some (pA ds S (.str (EM l)) (wkL ds [.agg [gsl 34 Sm.row1 l]]))
 |8=>some (pA ds S (.str (Cj l)) (wkL ds [.agg [gsl 34 Sm.row1 l]]))
 |10=>some (pA ds S (.str (EM l)) (wkL ds [.agg [gsl 34 Sm.row1 l]]))
 |_=>none
theorem BcM{l:List Sm}(h:okS l):ConOk Tryz.prog (Bgn l):=by
 intro k ds S A hh
 unfold Bgn at hh
 split at hh
 ·injection hh with hh;subst hh
  exact Bbx fun _ e=>CG.wk (Bp6 l h) e
 ·injection hh with hh;subst hh
  exact Bo fun e=>by rw[e];exact CD.at_ Bqu _
 ·injection hh with hh;subst hh
  exact Bo fun e=>CD.at_ (CD.wk (BnC l h.1 h.2.1 h.2.2) e) _
 ·injection hh with hh;subst hh
  exact Bo fun e=>CD.at_ (CD.wk (Bis l h.1 h.2.1 h.2.2) e) _
 ·injection hh with hh;subst hh
  exact Bo fun e=>CD.at_ (CD.wk (Bom l h.1 h.2.1 h.2.2 fun h0=>Bko l h0 h.1 h.2.1 h.2.2) e) _
 ·injection hh with hh;subst hh
  exact Bo fun e=>CD.at_ (CD.wk (Boy l h.1 h.2.1 h.2.2 fun h0=>Bko l h0 h.1 h.2.1 h.2.2) e) _
 ·cases hh
end
end Go.Proofs.YtnlplccjbojloaaGreatDoor
