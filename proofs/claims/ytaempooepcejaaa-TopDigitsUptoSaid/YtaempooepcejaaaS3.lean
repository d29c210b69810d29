/- Functions of the given program and what each of them computes: lemmas towards the statement, their conditions stated with each of them. -/
import Derived.Test.YtaempooepcejaaaS2
namespace Go.Proofs.Ytaempooepcejaaa
open Go Go.Ab
set_option maxRecDepth 100000
noncomputable section
def CU(yn:List Nat)(i j:Nat):List Int:=((List.range i).flatMap fun r=>yn.map fun n=>(dgL n).getD r 0)++(yn.take j).map fun n=>(dgL n).getD i 0
theorem IJ(yn:List Nat)(i:Nat):CU yn i 0=(List.range i).flatMap fun r=>yn.map fun n=>(dgL n).getD r 0:=by
 rw[CU,List.take_zero,List.map_nil,List.append_nil]
theorem BaC{yn:List Nat}(i:Nat){j:Nat}(h:j<yn.length):CU yn i (j+1)=CU yn i j++[(dgL (yn.getD j 0)).getD i 0]:=by
 have e:yn.take (j+1)=yn.take j++[yn.getD j 0]:=CR (show j<yn.length from h)
 rw[CU,CU,e,List.map_append,<- List.append_assoc];rfl
theorem U0(yn:List Nat)(i:Nat):CU yn i yn.length=CU yn (i+1) 0:=by
 rw[IJ,CU,List.take_length,List.range_succ,List.flatMap_append,List.flatMap_singleton]
theorem Ip(yn:List Nat)(i j:Nat):(CU yn i j).length=i*yn.length+min j yn.length:=by
 have e:∀i,((List.range i).flatMap fun r=>yn.map fun n=>(dgL n).getD r 0).length=i*yn.length:=fun i=>by
  induction i with
  |zero=>simp
  |succ i ih=>rw[List.range_succ,List.flatMap_append,List.flatMap_singleton,List.length_append,ih,List.length_map,Nat.succ_mul]
 rw[CU,List.length_append,e,List.length_map,List.length_take]
structure EnH (y:Arr) (yn:List Nat):Prop where
 v:Val y
 hk:y.k=1
 hn:y.nu=Cb yn
 h9:∀n∈yn,n<=999
 hl:yn.length<=50
 h0:0<yn.length
 hr:Bt (3::y.sh)=true
def colR(yn:List Nat)(j:Nat):List D:=[isl (dgL (yn.getD j 0)) .any]
def EP(y:Arr)(yn:List Nat):Arr:=.mk 1 (3::y.sh) (CU yn 3 0) []
def Baz(x y:Arr)(ds:List D):Prop:=∃b,(b=x\/b=y)/\wkL ds [.agg b.row1]
def BcD(y:Arr)(_yn:List Nat):Con:=fun k ds S=>match k with
 |45=>some (pA ds S (.int .i64 0) (Baz (vcA tens) y ds))
 |35=>some (pA ds S (.bool false) (wkL ds [isl tens .any,.fn (.func 40) [] []]))
 |28=>some (pA ds S (isl (3::y.sh) .any) (wkL ds [gsl 1 (fun s=>[isl s .any]) [[3],y.sh]]))
 |30=>some (pA ds S (.bool true) (wkL ds [isl (3::y.sh) .any]))
 |41=>some (pE (β:=Nat) ds S (fun n=>isl (dgL n) .any) (fun n=>wkL ds [isl tens .any,.int .i64 (n:Nat)]/\n<=1000000))
 |_=>none
theorem tens_val:Val (vcA tens):=⟨Re (by decide) (by decide),by decide⟩
theorem Bbu{y:Arr}{yn:List Nat}(h:EnH y yn):ConOk Try.prog (BcD y yn):=by
 have h8:=((Bn _).1 h.hr).1
 intro k ds S A hh
 unfold BcD at hh
 split at hh
 ·injection hh with hh;subst hh
  refine Bv fun ⟨b,hb,e⟩=>CD.at_ (CD.wk ?_ e) _
  obtain rfl | rfl:=hb
  ·have:=GU _ tens_val.ok
   rw[tens_val.c] at this;exact this
  ·have:=GU _ h.v.ok
   rw[h.v.c] at this;exact this
 ·injection hh with hh;subst hh
  exact Bv fun e=>CD.at_ (CD.wk (Bd8 _ (by decide) (by decide)) e) _
 ·injection hh with hh;subst hh
  refine Bv fun e=>CD.at_ (CD.wk ?_ e) _
  have e0:[[3],y.sh].flatten=3::y.sh:=by simp
  have:=BdO [[3],y.sh] (by rw[Eh,e0];simp only[List.length_cons] at h8 ⊢; omega) (by simp)
  rw[e0] at this
  exact this
 ·injection hh with hh;subst hh
  refine Bv fun e=>CD.at_ (CD.wk ?_ e) _
  have:=Oj (3::y.sh)
  rw[h.hr] at this
  exact this
 ·injection hh with hh;subst hh
  exact B0 fun n ⟨e,hn⟩=>CD.at_ (CD.wk (BeI n hn) e) _
 ·cases hh
noncomputable def Een(y:Arr)(yn:List Nat):Senv:={ EC (BcD y yn) 80 9 [10,11,13,18,23,35,42,43,44,45,58,59,60,62,63,64,65] (fun id=>match id with | 21=>([0,1,2,3,4,5,6,7,8,9],[6,7,9]) | _=>([],[])) with
 gh:=fun b=>match b with
  |2=>[.cell 5 102,.cell 5 403]
  |_=>[]
 ann:=fun b env S=>match b with
  |0=>some { slots:=[44,8],keep:=[2,3,4,7,42,43],α:=Nat×Nat×Nat×Nat×(Nat->List D),st:=fun z=>([.int .i64 z.1,.vs (vsK (Ab.look env 8)) z.2.1 z.1 z.2.2.2.1 1],⟨(vsK (Ab.look env 8),z.2.1,.vec 1 z.2.2.1 z.2.2.2.1 z.2.2.2.2)::BN S.objs (vsK (Ab.look env 8)),S.toks⟩),inv:=fun z=>z.1<=yn.length/\z.1<=z.2.2.1/\(0<z.1->z.2.2.1=z.1)/\∀j,j<z.1->z.2.2.2.2 j=colR yn j,mu:=fun z=>yn.length-z.1 }
  |2=>match Bx S.objs 5,Ab.look env 8 with
   |some (_,.cells (c0::c1::_::_::cs)),.vs k _ _ cap _=>some { slots:=[59],keep:=[2,3,4,7,8,58],α:=Nat×Nat×Nat,st:=fun z=>([.int .i64 z.1],⟨Et (Et S.objs k (.vec 1 yn.length cap (colR yn))) 5 (.cells (c0::c1::.sl 1 (CU yn z.1 0).length (fun i=>[.int .i64 ((CU yn z.1 0).getD i 0)]) (.tok 0 z.2.1)::.sl 4 0 (fun _=>[]) (.tok 1 z.2.2)::cs)),[(1,z.2.2),(0,z.2.1)]⟩),inv:=fun z=>z.1<=3,mu:=fun z=>3-z.1 }
   |_,_=>none
  |4=>match Bx S.objs 5,Ab.look env 11 with
   |some (_,.cells (c0::c1::_::_::cs)),.int _ i=>some { slots:=[64],keep:=[2,3,4,7,8,11,58,59,62,63],α:=Nat×Nat×Nat,st:=fun z=>([.int .i64 z.1],⟨Et S.objs 5 (.cells (c0::c1::.sl 1 (CU yn i.toNat z.1).length (fun j=>[.int .i64 ((CU yn i.toNat z.1).getD j 0)]) (.tok 0 z.2.1)::.sl 4 0 (fun _=>[]) (.tok 1 z.2.2)::cs)),[(1,z.2.2),(0,z.2.1)]⟩),inv:=fun z=>z.1<=yn.length,mu:=fun z=>yn.length-z.1 }
   |_,_=>none
  |_=>none }
def KH:Arr:=vcA tens
def Qfw:Int:=Arr.k KH
def Qfx:List Int:=Arr.sh KH
def ZA:Nat:=LN Qfx
def Qfy(a:Nat):List D:=[ZI (GI Qfx a)]
def Qfz:D:=D.sl N1 ZA (fun i=>Qfy i) Mode.any
def QfA:List Int:=Arr.nu KH
def Jn:Nat:=LN QfA
def QfB(a:Nat):Int:=GI QfA a
def QfC(a:Nat):List D:=[ZI (QfB a)]
def ZB:Nat:=LN (Arr.it KH)
def QfD:Arr:=DA
def ZC:List D:=Arr.row QfD
def ZD(a:Arr):Int:=Arr.k a
def KI(a:Arr):List Int:=Arr.sh a
def ZE(a:Arr):Nat:=LN (KI a)
def QfE(a:Arr)(b:Nat):List D:=[ZI (GI (KI a) b)]
def QfF(a:Arr):D:=D.sl N1 (ZE a) (fun i=>QfE a i) Mode.any
def Xl(a:Arr):Nat:=LN (Arr.nu a)
def QfG(a:Arr)(b:Nat):List D:=[ZI (GI (Arr.nu a) b)]
def QfH(a:Arr):D:=D.sl N1 (Xl a) (fun i=>QfG a i) Mode.any
def ZF(a:Arr):Nat:=LN (Arr.it a)
def QfI(a:Arr)(b:Nat):List D:=Arr.row (List.getD (Arr.it a) b QfD)
def QfJ(a:Arr):Bool:=ZD a != Z1
def QfK(a:Arr)(b:List Nat)(c:Nat):List D:=[ZI (GI (Arr.sh (EP a b)) c)]
def QfL(a:Arr)(b:List Nat)(c:Nat):List D:=[ZI (GI (Arr.nu (EP a b)) c)]
def QfM(a:Nat):Prop:=a<Jn
def QfN:Prop:=Jn=LN tens/\(∀(i:Nat),QfM i->QfB i=GI tens i/\True)/\True
def Qiz(a:Arr)(b:Nat):List Int:=List.getD [[(3:Int)],KI a] b []
def ZG(a:Arr):Nat:=LN ((3:Int)::KI a)
def QfO(a:Arr):Prop:=SM (ZG a)
def ZH(a:Nat)(b:Arr):Prop:=a<ZG b
def QfP(a:Arr)(b:Nat):Int:=GI ((3:Int)::KI a) b
def Kp(a:Arr):Int:=(NI (Xl a))
def QfQ(a:List Nat)(b:Nat):List D:=[SI (dgL (List.getD a b N0))]
def QfR(a:Nat)(b:Nat->List D)(c:List Nat):Prop:=∀(j:Nat),j<a->b j=QfQ c j
def ZJ(a:Nat)(b:List Nat)(c:Nat)(d:Nat->List D):Prop:=a<=LN b/\a<=c/\(N0<a->c=a)/\QfR a d b
def ZK(a:Arr):Nat:=Int.toNat (Kp a)
def ZL(a:Arr)(b:Nat):Prop:=ZK a=b
def QfS(a:Arr)(b:Nat):List D:=[ZI (QfP a b)]
def Jo(a:Arr):Prop:=QfO a/\(∀(i:Nat),ZH i a->SM (QfS a i))/\True
def QfT:Prop:=∀(i:Nat),i<N0->C8 (List D) [] []
def ZM:Prop:=SM N0/\QfT/\True
def QfU:Prop:=ZM/\ZM/\True
def QfV(a:Arr):Prop:=SM (ZD a)/\(SM (ZE a)/\(∀(i:Nat),i<ZE a->SM (QfE a i))/\True)/\(SM (Xl a)/\(∀(i:Nat),i<Xl a->SM (QfG a i))/\True)/\(SM (ZF a)/\(∀(i:Nat),i<ZF a->SM (QfI a i))/\True)/\True
def QfW:Prop:=SM Qfw/\(SM ZA/\(∀(i:Nat),i<ZA->SM (Qfy i))/\True)/\(SM Jn/\(∀(i:Nat),QfM i->SM (QfC i))/\True)/\(SM ZB/\(∀(i:Nat),i<ZB->SM ZC)/\True)/\True
def Jp(a:Nat)(b:Arr)(c d e f:Nat):Prop:=SM a/\QfV b/\SM c/\QfW/\SM d/\(SM Z0/\ZM/\QfU)/\SM e/\QfV b/\SM f/\QfW/\True
def QfX(a:Nat)(b:Arr)(c d e f g:Nat):Prop:=SM a/\(SM Z1/\Jo b/\QfU)/\Jp c b d e f g
def ZN(a:Nat):Prop:=SM (D.ref N0 a N0)
def ZO(a:Nat):Prop:=SM (D.ref (max (N0+N1) N0) a N0)
def ZP(a:Nat):Prop:=SM (D.ref (max (N1+N1) (max (N0+N1) N0)) a N0)
def QfY:Nat:=max (N4+N1) (max ((3:Nat)+N1) (max (3:Nat) (max (N1+N1) (max (N0+N1) N0))))
def QiA(a:Nat):D:=D.ref QfY a N0
def ZQ(a:Nat):Prop:=SM (QiA a)
def KJ(a:List Nat)(b:Nat):Nat:=LN (CU a b N0)
def Xm(a:List Nat)(b c:Nat):List D:=[ZI (GI (CU a b N0) c)]
def Xn(a b:Nat):Prop:=(SM N0/\QfT/\a=b)/\True
def QfZ:Int:=(↑Jn:Int)
def ZR(a:List Nat)(b:Nat):Prop:=SM (LN a)/\SM b/\∀(i:Nat),i<LN a->SM (QfQ a i)
def Kq(a:List Nat)(b c:Nat):Nat:=LN (CU a (Int.toNat (↑b:Int)) c)
def Jq(a:List Nat)(b c d:Nat):List D:=[ZI (GI (CU a (Int.toNat (↑b:Int)) c) d)]
def QiB(a:List Nat)(b c d:Nat):D:=D.sl N1 (Kq a b c) (fun j=>Jq a b c j) (Mode.tok N0 d)
def Xo(a:List Nat)(b c:Nat):Nat:=Kq a b c+N1
def QiC(a:Nat)(b:Arr)(c d e:Nat):D:=D.vs (vsK (D.vs (max ((5:Nat)+N1) QfY) a N0 (ZK b) N1)) c d e N1
def ZS(a:Nat)(b:Arr)(c d e:Nat):Prop:=SM (QiC a b c d e)
def ZT(a:Nat):Prop:=SM (ZI (↑a:Int))
def QiD:D:=ZI QfZ
def Qf0:Prop:=SM QiD
theorem BeL(y:Arr)(yn:List Nat)(h:EnH y yn):CD 15 [.agg (vcA tens).row1,.agg y.row1] (.tup [.agg (EP y yn).row1,.int .i64 0]):=by
 refine Bg (A:=sC _ _) (x:=()) (E:=Een y yn) (eOk (Bbu h) rfl) Try.func15 rfl (by kernel_rfl) rfl (by simp[sC,Een,EC,E0]) ?_
 refine Bl (T :=
  ∀(x:Nat),True->∀(x_1:Nat),x≠x_1/\True->∀(x_2:Nat),x_1≠x_2/\x≠x_2/\True->SM x/\SM x_1/\∀(x_3:Nat),x_2≠x_3/\x_1≠x_3/\x≠x_3/\True->∀(x_4:Nat),x_3≠x_4/\x_2≠x_4/\x_1≠x_4/\x≠x_4/\True->SM x_3/\∃(x_5:Unit),Baz KH y [D.agg [ZI Qfw,Qfz,D.sl N1 Jn (fun i=>QfC i) Mode.any,D.sl N4 ZB (fun i=>ZC) Mode.any]]/\∀(y_1:Unit),True->SM x_4/\∃(x_6:Unit),Baz KH y [D.agg [ZI (ZD y),QfF y,QfH y,D.sl N4 (ZF y) (fun i=>QfI y i) Mode.any]]/\∀(y_2:Unit),True->(SM x_3/\SM x_4/\SM (QfJ y)/\True)/\ifB (QfJ y) (True/\SM x_2/\(SM x_2/\True)/\∃(y_3:Unit),True/\((Z0=Arr.k (EP y yn)/\(N0=LN (Arr.sh (EP y yn))/\(∀(i:Nat),i<N0->C8 (List D) [] (QfK y yn i))/\True)/\(N0=LN (Arr.nu (EP y yn))/\(∀(i:Nat),i<N0->C8 (List D) [] (QfL y yn i))/\True)/\False/\True)/\(14:Int)=Z0/\True)/\True/\True) (SM x_3/\True/\SM x/\∃(x_7:Unit),(QfN/\SM (D.fn (Fn.func (40:Nat)) [] [])/\True)/\∀(y_3:Unit),True->SM x/\SM x_1/\∃(x_8:Unit),((N2=LN [[(3:Int)],KI y]/\(∀(i:Nat),i<N2->wkL (List.getD [[Qfz],[QfF y]] i []) [SI (Qiz y i)])/\True)/\True)/\∀(y_4:Unit),True->∀(x_9:Nat),x_4≠x_9/\x_3≠x_9/\x_2≠x_9/\x_1≠x_9/\x≠x_9/\True->SM x_9/\SM x_9/\∃(x_10:Unit),((QfO y/\(∀(i:Nat),ZH i y->SM (QfP y i)/\True)/\True)/\True)/\∀(y_5:Unit),True->SM x_1/\Bd (Z0<=Z0/\Z0<=Kp y/\(24:Int)*Kp y<=281474976710656/\Kp y<=9223372036854775807) (∀(x_11:Nat),x_9≠x_11/\x_4≠x_11/\x_3≠x_11/\x_2≠x_11/\x_1≠x_11/\x≠x_11/\True->SM x_1/\(∃(x_12:Nat×Nat×Nat×Nat×(Nat->List D)),ZJ x_12.1 yn x_12.2.2.1 x_12.2.2.2.2/\(Z0=(NI x_12.1)/\(x_11=x_12.2.1/\N0=x_12.1/\ZL y x_12.2.2.2.1)/\True)/\(x_11=x_12.2.1/\(ZL y x_12.2.2.1/\ZL y x_12.2.2.2.1/\∀(i:Nat),i<ZK y->[D.sl N1 N0 (fun x=>[]) Mode.nil]=x_12.2.2.2.2 i)/\QfX x_9 y x_4 x_3 x_2 x_1 x)/\True)/\∀(x_12:Nat×Nat×Nat×Nat×(Nat->List D)),ZJ x_12.1 yn x_12.2.2.1 x_12.2.2.2.2->ifB (decide ((NI x_12.1)<Kp y)) (Bd (Z0<=(NI x_12.1)/\(NI x_12.1)<Kp y) (SM x/\∃(x_13:Nat),((QfN/\GI (Arr.nu y) (TN x_12.1)=(↑x_13:Int)/\True)/\x_13<=1000000)/\∀(y_6:Unit),True->SM x_12.2.1/\SM x_12.2.2.2.1/\Bd (x_12.1<=x_12.2.2.1/\(x_12.1+N1)*24<=140737488355328/\x_12.1+N1<=9223372036854775807) (∀(y_7 cap':Nat),x_12.1+N1<=cap'->(ZN x/\ZO x_1/\ZP x_2/\ZQ x_9/\SM (QfH y)/\SM (ZI (Kp y))/\True)/\∃(y_8:Nat×Nat×Nat×Nat×(Nat->List D)),ZJ y_8.1 yn y_8.2.2.1 y_8.2.2.2.2/\LN yn-y_8.1<LN yn-x_12.1/\(IntKind.wrap IntKind.i64 ((NI x_12.1)+Z1)=(NI y_8.1)/\(y_7=y_8.2.1/\x_12.1+N1=y_8.1/\cap'=y_8.2.2.2.1)/\True)/\(y_7=y_8.2.1/\(x_12.1+N1=y_8.2.2.1/\cap'=y_8.2.2.2.1/\∀(i:Nat),i<x_12.1+N1->BG x_12.1 x_12.2.2.2.2 (fun i=>List.getD [[SI (dgL x_13)]] i []) i=y_8.2.2.2.2 i)/\QfX x_9 y x_4 x_3 x_2 x_1 x)/\True))) (SM x/\∀(t t_1:Nat),(∃(x_13:Nat×Nat×Nat),x_13.1<=3/\(Z0=(NI x_13.1)/\True)/\(SM x_12.2.1/\(x_12.2.2.1=LN yn/\SM x_12.2.2.2.1/\QfR x_12.2.2.1 x_12.2.2.2.2 yn)/\SM x_9/\(SM Z1/\Jo y/\(N0=KJ yn x_13.1/\(∀(i:Nat),i<N0->C8 (List D) [] (Xm yn x_13.1 i))/\t=x_13.2.1)/\Xn t_1 x_13.2.2)/\Jp x_4 y x_3 x_2 x_1 x)/\t_1=x_13.2.2/\t=x_13.2.1/\True)/\∀(x_13:Nat×Nat×Nat),x_13.1<=3->ifB (decide ((NI x_13.1)<QfZ)) ((∃(x_14:Nat×Nat×Nat),x_14.1<=LN yn/\(Z0=(NI x_14.1)/\True)/\(SM x_12.2.1/\ZR yn x_12.2.2.2.1/\SM x_9/\(SM Z1/\Jo y/\(KJ yn x_13.1=Kq yn x_13.1 x_14.1/\(∀(i:Nat),i<KJ yn x_13.1->Xm yn x_13.1 i=Jq yn x_13.1 x_14.1 i)/\x_13.2.1=x_14.2.1)/\Xn x_13.2.2 x_14.2.2)/\Jp x_4 y x_3 x_2 x_1 x)/\x_13.2.2=x_14.2.2/\x_13.2.1=x_14.2.1/\True)/\∀(x_14:Nat×Nat×Nat),x_14.1<=LN yn->ifB (decide ((NI x_14.1)<(NI x_12.1))) (Bd (Z0<=(NI x_14.1)/\(NI x_14.1)<(NI x_12.1)) (SM x_12.2.1/\Bd (TN x_14.1<LN yn) (SM x_9/\Bd (Z0<=(NI x_13.1)/\(NI x_13.1)<(LI (dgL (List.getD yn (TN x_14.1) N0)))) ((SM x_9/\SM (QiB yn x_13.1 x_14.1 x_14.2.1))/\SM x_14.2.1/\Bd (Xo yn x_13.1 x_14.1*8<=140737488355328/\Xo yn x_13.1 x_14.1<=9223372036854775807) (∀(t:Nat),SM x_9/\(ZN x/\ZO x_1/\ZP x_2/\ZQ x_9/\ZS x_11 y x_12.2.1 x_12.1 x_12.2.2.2.1/\ZT x_13.1/\Qf0/\ZT x_13.1/\ZS x_11 y x_12.2.1 x_12.1 x_12.2.2.2.1/\ZT x_12.1/\True)/\∃(y_6:Nat×Nat×Nat),y_6.1<=LN yn/\LN yn-y_6.1<LN yn-x_14.1/\(IntKind.wrap IntKind.i64 ((NI x_14.1)+Z1)=(NI y_6.1)/\True)/\(SM x_12.2.1/\ZR yn x_12.2.2.2.1/\SM x_9/\(SM Z1/\Jo y/\(Xo yn x_13.1 x_14.1=Kq yn x_13.1 y_6.1/\(∀(i:Nat),i<Xo yn x_13.1 x_14.1->BG (Kq yn x_13.1 x_14.1) (fun j=>Jq yn x_13.1 x_14.1 j) (fun i=>List.getD [[ZI (GI (dgL (List.getD yn (TN x_14.1) N0)) (TN x_13.1))]] i []) i=Jq yn x_13.1 y_6.1 i)/\t=y_6.2.1)/\Xn x_14.2.2 y_6.2.2)/\Jp x_4 y x_3 x_2 x_1 x)/\x_14.2.2=y_6.2.2/\t=y_6.2.1/\True))))) ((ZN x/\ZO x_1/\ZP x_2/\ZQ x_9/\ZS x_11 y x_12.2.1 x_12.1 x_12.2.2.2.1/\Qf0/\True)/\∃(y_6:Nat×Nat×Nat),y_6.1<=3/\(3:Nat)-y_6.1<3-x_13.1/\(IntKind.wrap IntKind.i64 ((NI x_13.1)+Z1)=(NI y_6.1)/\True)/\(SM x_12.2.1/\ZR yn x_12.2.2.2.1/\SM x_9/\(SM Z1/\Jo y/\(Kq yn x_13.1 x_14.1=KJ yn y_6.1/\(∀(i:Nat),i<Kq yn x_13.1 x_14.1->Jq yn x_13.1 x_14.1 i=Xm yn y_6.1 i)/\x_14.2.1=y_6.2.1)/\Xn x_14.2.2 y_6.2.2)/\Jp x_4 y x_3 x_2 x_1 x)/\x_14.2.2=y_6.2.2/\x_14.2.1=y_6.2.1/\True)) (SM x_9/\SM x_2/\(SM x_2/\True)/\∃(y_6:Unit),True/\((Z1=Arr.k (EP y yn)/\(ZG y=LN (Arr.sh (EP y yn))/\(∀(i:Nat),ZH i y->QfS y i=QfK y yn i)/\True)/\(KJ yn x_13.1=LN (Arr.nu (EP y yn))/\(∀(i:Nat),i<KJ yn x_13.1->Xm yn x_13.1 i=QfL y yn i)/\True)/\(N0=LN (Arr.it (EP y yn))/\(∀(i:Nat),i<N0->C8 (List D) [] ZC)/\True)/\True)/\SM Z0/\True)/\True/\True))))) (by kernel_rfl) ?_
 delta DA GI LI LN N0 N1 N2 N4 NI SI SM TN Z0 Z1 ZI KH Qfw ZB QfD ZC ZD KI ZE QfE QfF Xl QfG Qfx QfH ZF QfI QfJ QfK QfL QfM QfN Qiz ZG ZA QfO ZH QfP Kp QfQ QfR ZJ ZK ZL QfS Qfy Jo QfT ZM QfU QfV QfW Jp QfX ZN ZO Qfz ZP QfY QiA ZQ KJ Xm Xn QfZ ZR Kq QfA Jq QiB Xo QiC ZS ZT QiD Qf0 Jn QfB QfC
 have da:(default:Arr)=Arr.mk 0 [] [] []:=rfl
 simp only[<- da]
 simp only[ne_eq,implies_true,Int.toNat_natCast,Bh,Bc,decide_eq_true_eq,decide_eq_false_iff_not,true_and,and_true,bne_iff_ne,bne_eq_false_iff_eq,exists_const,forall_const,Prod.exists]
 obtain ⟨hv,hk,hn,h9,hl,h0,hr⟩:=h
 have t3:(vcA tens).nu.length=3:=rfl
 have yl:y.nu.length=yn.length:=by rw[hn,CW]
 have tn:(vcA tens).nu.length=tens.length/\∀i,i<(vcA tens).nu.length->(vcA tens).nu.getD i 0=tens.getD i 0:=⟨rfl,fun _ _=>rfl⟩
 have d3:∀n,(dgL n).length=3:=fun _=>rfl
 rw[yl]
 refine fun x x1 _ x2 _ x3 _ x4 _=>⟨⟨vcA tens,.inl rfl,Be _⟩,⟨y,.inr rfl,?_⟩,fun q=>absurd hk q,fun _=>⟨tn,⟨rfl,fun i hi=>?_⟩,fun x9 _=>⟨⟨by omega,by omega,by omega,by omega⟩,fun x11 _=>⟨⟨0,x11,yn.length,yn.length,fun _=>[D.sl 1 0 (fun _=>[]) .nil],⟨Nat.zero_le _,Nat.zero_le _,fun q=>absurd q (Nat.lt_irrefl 0),fun j hj=>absurd hj (Nat.not_lt_zero j)⟩,⟨rfl,rfl,rfl,rfl⟩,rfl,rfl,rfl,fun _ _=>rfl⟩,?_⟩⟩⟩⟩
 ·rw[<- yl];exact Be _
 ·rcases i with _ | _ | i
  ·exact Be _
  ·exact Be _
  ·omega
 rintro ⟨i,w,n,cap,f⟩ ⟨i1,i2,i3,i4⟩
 simp only at i1 i2 i3 i4 ⊢
 refine⟨fun hlt=>?_,fun hge=>?_⟩
 ·have hlt:i<yn.length:=by omega
  have hm:yn.getD i 0∈yn:=by rw[List.getD_eq_getElem?_getD,List.getElem?_eq_getElem hlt];exact List.getElem_mem hlt
  refine⟨⟨by omega,by omega⟩,yn.getD i 0,⟨⟨tn,by rw[hn,ES yn hlt]⟩,by have:=h9 _ hm;omega⟩,⟨i2,by omega,by omega⟩,fun y7 c7 hc7=>⟨i+1,y7,i+1,c7,_,⟨by omega,Nat.le_refl _,fun _=>rfl,fun j hj=>?_⟩,by omega,⟨Bb (by omega) (by omega),rfl,rfl,rfl⟩,rfl,rfl,rfl,fun _ _=>rfl⟩⟩
  rw[BG]
  split
  ·rename_i hj2;exact i4 j hj2
  ·obtain rfl:j=i:=by omega
   rw[Nat.sub_self];rfl
 ·obtain rfl:i=yn.length:=by omega
  obtain rfl:n=yn.length:=i3 h0
  refine fun t t1=>⟨⟨0,t,t1,Nat.zero_le _,rfl,⟨⟨rfl,i4⟩,⟨by rw[Ip];simp,(fun i hi=>absurd hi (Nat.not_lt_zero i)),rfl⟩,rfl⟩,rfl,rfl⟩,?_⟩
  rintro ⟨i,t2,t3⟩ hi
  simp only at hi ⊢
  refine⟨fun hlt=>?_,fun hge=>?_⟩
  ·have hlt:i<3:=by omega
   refine⟨⟨0,t2,t3,Nat.zero_le _,rfl,⟨⟨rfl,fun _ _=>rfl,rfl⟩,rfl⟩,rfl,rfl⟩,?_⟩
   rintro ⟨j,t4,t5⟩ hj
   simp only at hj ⊢
   have el:=Ip yn i j
   have em:i*yn.length<=3*yn.length:=Nat.mul_le_mul_right _ (by omega)
   refine⟨fun hlt2=>?_,fun hge2=>?_⟩
   ·have hlt2:j<yn.length:=by omega
    have e1:=BaC i hlt2
    refine⟨⟨by omega,by omega⟩,hlt2,⟨by omega,by rw[d3];omega⟩,⟨by omega,by omega⟩,fun t6=>⟨j+1,t6,t5,by omega,by omega,Bb (by omega) (by omega),⟨⟨by rw[e1,List.length_append];rfl,fun k hk=>?_,rfl⟩,rfl⟩,rfl,rfl⟩⟩
    rw[e1];exact BaV _ _ k hk
   ·obtain rfl:j=yn.length:=by omega
    refine⟨i+1,t4,t5,by omega,by omega,Bb (by omega) (by omega),⟨⟨by rw[U0],fun k hk=>by rw[U0],rfl⟩,rfl⟩,rfl,rfl⟩
  ·obtain rfl:i=3:=by omega
   exact⟨rfl,⟨rfl,fun _ _=>rfl⟩,⟨rfl,fun _ _=>rfl⟩,rfl,fun j hj=>absurd hj (Nat.not_lt_zero j)⟩
theorem MG{α:Type}{R:Nat}:∀(ls:List (List α)) (i:Nat),(∀l∈ls,l.length=R)->i<ls.length->(ls.flatten.drop (i*R)).take R=ls.getD i []
 | [],i,_,h=>absurd h (Nat.not_lt_zero i)
 |a::ls,0,h,_=>by
  have ha:=h a (by simp)
  rw[List.flatten_cons,Nat.zero_mul,List.drop_zero,List.take_append_of_le_length (by omega),List.take_of_length_le (by omega)];rfl
 |a::ls,i+1,h,hi=>by
  have ha:=h a (by simp)
  rw[List.flatten_cons,Nat.succ_mul,Nat.add_comm,<- ha,<- List.drop_drop,List.drop_left,ha,MG ls i (fun l hl=>h l (by simp[hl])) (by simpa using hi)];rfl
theorem Uf{α:Type}(l:List α)(z:α)(m R:Nat)(h:m+R<=l.length):(l.drop m).take R=(List.range R).map fun k=>l.getD (m+k) z:=by
 apply List.ext_getElem
 ·simp;omega
 ·intro i h1 h2
  simp only[List.length_map,List.length_range] at h2
  simp[List.getD_eq_getElem?_getD,show m+i<l.length by omega]
section
variable {N:Nat} {y:Arr} (h:GrH N y)
include h
omit h in
theorem Tv{p:Rw}(hp:p∈Cx N y):p.1<(y.sh.headD 0).toNat/\p.2=rwA y p.1:=by
 obtain ⟨i,hi,rfl⟩:=Rh ((EZ N y).mem_iff.1 hp)
 exact⟨hi,rfl⟩
theorem BdD:((Cx N y).length:Int)=y.sh.headD 0:=by
 have:=E8 h.v h.hr
 rw[(EZ N y).length_eq,TA];omega
theorem Bcc:(GS (Cx N y)).sh++y.sh.tail=y.sh:=by
 show ((Cx N y).length:Int)::y.sh.tail=y.sh
 rw[BdD h]
 have:=h.hr
 cases hs:y.sh with
 |nil=>exact absurd hs this
 |cons d r=>rfl
theorem BcW:prL (shN y.sh)=(y.sh.headD 0).toNat*Bs y:=by
 have:=h.hr
 cases hs:y.sh with
 |nil=>exact absurd hs this
 |cons d r=>simp[shN,prL,Bs,hs]
theorem Bdy:Val (GS (Cx N y)):=by
 have hl:=h.slen
 have hd:=E8 h.v h.hr
 have hb:∀z∈(Cx N y).map (fun p=>(p.1:Int)),0<=z/\z<=65536:=fun z hz=>by
  obtain ⟨p,hp,rfl⟩:=List.mem_map.1 hz
  have:=(Tv hp).1
  omega
 refine⟨?_,?_⟩
 ·simp only[GS,Arr.ok]
  refine⟨by unfold EY;omega,fun z hz=>?_,fun z hz=>?_,by simp[maxLen],by simp only[List.length_map,maxLen];omega,by simp[maxLen],trivial⟩
  ·rw[List.mem_singleton.1 hz];unfold EY;omega
  ·have:=hb z hz;unfold EY;omega
 ·obtain ⟨o1,o2⟩:=Baw hl
  refine UG (B7.2 ⟨.inl rfl,o1,?_,rfl⟩) ?_ (fun b hb=>by cases hb) ?_
  ·rw[if_neg (by decide),o2,List.length_map]
  ·rw[List.any_eq_false]
   intro z hz
   have:=hb z hz
   simp only[CJ,M9]
   simp
   omega
  ·simp only[List.length_map,wtS,List.length_nil];omega
def OK(N:Nat)(y:Arr):List Nat:=(Cx N y).map (·.1)
omit h in
theorem Bej:(GS (Cx N y)).nu=Cb (OK N y):=by
 simp[GS,Arr.nu,Cb,OK]
theorem Bdg:(frL (Bs y) (OK N y)).Perm (List.range (prL (shN y.sh))):=by
 have e:∀d,frL (Bs y) (List.range d)=List.range (d*Bs y):=fun d=>by
  induction d with
  |zero=>simp[frL]
  |succ d ih =>
   rw[frL,List.range_succ,List.flatMap_append,List.flatMap_singleton,Nat.succ_mul,List.range_add]
   rw[frL] at ih
   rw[ih]
 have p:(OK N y).Perm (List.range (y.sh.headD 0).toNat):=by
  have:=(EZ N y).map (fun p:Rw=>p.1)
  refine this.trans ?_
  rw[rwL,List.map_map]
  have:((fun p:Rw=>p.1) ∘ fun i=>(i,rwA y i))=id:=rfl
  rw[this,List.map_id]
 rw[BcW h,<- e]
 exact List.Perm.flatMap_right _ p
theorem BbJ:gaA y y.sh (frL (Bs y) (OK N y))=Ug N y:=by
 obtain ⟨z1,z2,z3⟩:=Bw h.v.c
 have f4:=(B7.1 (Cr h.v.c)).2.2.2
 have hd:=E8 h.v h.hr
 have hrow:∀p∈Cx N y,p.2=rwA y p.1/\p.1*Bs y+Bs y<=szN y:=fun p hp=>by
  obtain ⟨h1,h2⟩:=Tv hp
  exact⟨h2,(IV h.v h.hr (by omega)).2⟩
 have fm:∀ {α:Type} (f g:Rw->List α),(∀p∈Cx N y,f p=g p)->(Cx N y).flatMap f=(Cx N y).flatMap g:=fun f g hfg=>by
  rw[List.flatMap,List.flatMap,List.map_congr_left hfg]
 rw[gaA,Ug]
 congr 1
 ·rw[gaN,Wp]
  by_cases hk:y.k=3
  ·rw[if_pos hk] at f4 ⊢
   have hn:y.nu=[]:=List.eq_nil_of_length_eq_zero f4
   symm
   rw[List.flatMap_eq_nil_iff]
   intro p hp
   rw[(hrow p hp).1]
   show (y.nu.drop _).take _=[]
   rw[hn];simp
  ·rw[if_neg hk,frL,OK,List.flatMap_map,List.map_flatMap]
   refine fm _ _ fun p hp=>?_
   obtain ⟨e1,e2⟩:=hrow p hp
   rw[szN,if_neg hk] at e2
   rw[e1,List.map_map]
   exact (Uf y.nu 0 _ _ e2).symm
 ·rw[gaI,W2]
  by_cases hk:y.k=3
  ·rw[if_pos hk,frL,OK,List.flatMap_map,List.map_flatMap]
   refine fm _ _ fun p hp=>?_
   obtain ⟨e1,e2⟩:=hrow p hp
   rw[szN,if_pos hk] at e2
   rw[e1,List.map_map]
   exact (Uf y.it default _ _ e2).symm
  ·rw[if_neg hk] at f4 ⊢
   have hn:y.it=[]:=List.eq_nil_of_length_eq_zero f4
   symm
   rw[List.flatMap_eq_nil_iff]
   intro p hp
   rw[(hrow p hp).1]
   show (y.it.drop _).take _=[]
   rw[hn];simp
end
def dgN(n r:Nat):Nat:=if r=0 then n / 10 / 10 % 10 else if r=1 then n / 10 % 10 else n % 10
theorem MZ{yn:List Nat}{i a:Nat}(hi:i<3)(ha:a<yn.length):(CU yn 3 0).getD (a+i*yn.length) 0=(dgN (yn.getD a 0) i:Nat):=by
 rw[IJ]
 have hf:((List.range 3).flatMap fun r=>yn.map fun n=>(dgL n).getD r 0)=((List.range 3).map fun r=>yn.map fun n=>(dgL n).getD r 0).flatten:=rfl
 have hc:=MG (R:=yn.length) ((List.range 3).map fun r=>yn.map fun n=>(dgL n).getD r 0) i (fun l hl=>by
  obtain ⟨r,_,rfl⟩:=List.mem_map.1 hl
  rw[List.length_map]) (by simpa using hi)
 rw[<- hf] at hc
 generalize ((List.range 3).flatMap fun r=>yn.map fun n=>(dgL n).getD r 0)=L at hc ⊢
 have e:L.getD (a+i*yn.length) 0=((L.drop (i*yn.length)).take yn.length).getD a 0:=by rw[Ep _ ha,Ch,Nat.add_comm]
 rw[e,hc]
 have e2:((List.range 3).map fun r=>yn.map fun n=>(dgL n).getD r 0).getD i []=yn.map fun n=>(dgL n).getD i 0:=by
  rw[List.getD_eq_getElem?_getD,List.getElem?_map,List.getElem?_range hi];rfl
 rw[e2]
 have e3:(yn.map fun n=>(dgL n).getD i 0).getD a 0=(dgL (yn.getD a 0)).getD i 0:=by
  rw[List.getD_eq_getElem?_getD,List.getElem?_map,List.getElem?_eq_getElem ha]
  simp[List.getD_eq_getElem?_getD,ha]
 rw[e3]
 rcases i with _ | _ | _ | i
 ·rfl
 ·rfl
 ·rfl
 ·omega
def BbC:Con:=fun k ds S=>match k with
 |58=>some (pE (β:=Nat) ds S (fun n=>.tup [.int .i64 (n*10:Nat),.int .i64 0]) (fun n=>ds=[.int .i64 (n:Nat),.int .i64 10]/\n<=1000000))
 |59=>some (pE (β:=Nat×Nat) ds S (fun y=>.tup [.int .i64 (y.1+y.2:Nat),.int .i64 0]) (fun y=>ds=[.int .i64 (y.1:Nat),.int .i64 (y.2:Nat)]/\y.1<=100000000/\y.2<=100000000))
 |_=>none
theorem Ba0:ConOk Try.prog BbC:=by
 intro k ds S A hh
 unfold BbC at hh
 split at hh
 ·injection hh with hh;subst hh
  refine B0 fun n ⟨e,h⟩=>CD.at_ ?_ _
  rw[e];exact Be7 n h
 ·injection hh with hh;subst hh
  refine B0 fun y ⟨e,h⟩=>CD.at_ ?_ _
  rw[e];exact BeF _ _ h
 ·cases hh
noncomputable def Eva : Senv:={ EC BbC 56 5 [10, 11, 12, 13, 14, 15, 16, 17, 18, 19, 36, 52] (fun _=>([], [])) with unr:=fun b=>match b with
  |0=>4
  |_=>0 }
def ZU(a:Nat)(b:List Nat):Int:=IntKind.wrap IntKind.i64 ((↑a:Int)+IntKind.wrap IntKind.i64 (Z0*(LI b)))
def Xp(a:List Nat):List Int:=CU a (3:Nat) N0
def ZV(a:List Nat):Int:=(LI (Xp a))
def ZW(a b:Nat):List D:=[ZI (↑a:Int),ZI (↑b:Int)]
def Qf1(a b c:Nat):Prop:=[ZI (NI (a+b)),ZI 10]=[ZI (↑c:Int),ZI 10]/\c<=1000000
def ZX(a:Nat)(b:List Nat):Int:=IntKind.wrap IntKind.i64 ((↑a:Int)+IntKind.wrap IntKind.i64 (Z1*(LI b)))
def ZY(a:Nat)(b:List Nat):Int:=IntKind.wrap IntKind.i64 ((↑a:Int)+IntKind.wrap IntKind.i64 ((2:Int)*(LI b)))
theorem BeQ(_y:Arr)(yn:List Nat)(a:Nat)(ha:a<yn.length)(hl:yn.length<=50)(h9:∀n∈yn,n<=999):CD 42 [isl tens .any,isl (CU yn 3 0) .any,.int .i64 a,.int .i64 (yn.length:Nat),.int .i64 3] (.tup [.int .i64 (yn.getD a 0:Nat),.int .i64 0]):=by
 refine Bg (A:=sC _ _) (x:=()) (E:=Eva) (eOk Ba0 rfl) Try.func42 rfl (by kernel_rfl) rfl (by simp[sC,Eva,EC,E0]) ?_
 refine Bl (T :=
  ∃(x:Nat),([ZI Z0,ZI 10]=[ZI (↑x:Int),ZI 10]/\x<=1000000)/\∀(y:Unit),True->Bd (Z0<=ZU a yn/\ZU a yn<ZV yn) (∃(x_1:Nat×Nat),([ZI (NI (x*10)),ZI (GI (Xp yn) (Int.toNat (ZU a yn)))]=ZW x_1.1 x_1.2/\x_1.1<=100000000/\x_1.2<=100000000)/\∀(y:Unit),True->∃(x:Nat),Qf1 x_1.1 x_1.2 x/\∀(y:Unit),True->Bd (Z0<=ZX a yn/\ZX a yn<ZV yn) (∃(x_2:Nat×Nat),([ZI (NI (x*10)),ZI (GI (Xp yn) (Int.toNat (ZX a yn)))]=ZW x_2.1 x_2.2/\x_2.1<=100000000/\x_2.2<=100000000)/\∀(y:Unit),True->∃(x:Nat),Qf1 x_2.1 x_2.2 x/\∀(y:Unit),True->Bd (Z0<=ZY a yn/\ZY a yn<ZV yn) (∃(x_3:Nat×Nat),([ZI (NI (x*10)),ZI (GI (Xp yn) (Int.toNat (ZY a yn)))]=ZW x_3.1 x_3.2/\x_3.1<=100000000/\x_3.2<=100000000)/\∀(y:Unit),True->True/\∃(y:Unit),True/\((NI (x_3.1+x_3.2))=(NI (List.getD yn a N0))/\SM Z0/\True)/\True/\True)))) (by kernel_rfl) ?_
 delta GI LI LN N0 NI SM Z0 Z1 ZI ZU Xp ZV ZW Qf1 ZX ZY
 simp only[eq_self,Bc,true_and,and_true,exists_const,forall_const,Prod.exists]
 have el:=Ip yn 3 0
 have hm:yn.getD a 0∈yn:=by rw[List.getD_eq_getElem?_getD,List.getElem?_eq_getElem ha];exact List.getElem_mem ha
 have h99:=h9 _ hm
 have w:∀r:Nat,r<3->IntKind.i64.wrap ((a:Int)+IntKind.i64.wrap ((r:Int)*(yn.length:Nat)))=((a+r*yn.length:Nat):Int):=fun r hr=>by
  have:r*yn.length<=3*yn.length:=Nat.mul_le_mul_right _ (by omega)
  rw[<- Int.natCast_mul,Bb (n:=((r*yn.length:Nat):Int)) (by omega) (by omega),<- Int.natCast_add]
  exact Bb (by omega) (by omega)
 have w0:=w 0 (by omega)
 have w1:=w 1 (by omega)
 have w2:=w 2 (by omega)
 have g0:=MZ (i:=0) (by omega) ha
 have g1:=MZ (i:=1) (by omega) ha
 have g2:=MZ (i:=2) (by omega) ha
 have c0:((0:Nat):Int)=0:=rfl
 have c1:((1:Nat):Int)=1:=rfl
 have c2:((2:Nat):Int)=2:=rfl
 rw[c0] at w0
 rw[c1] at w1
 rw[c2] at w2
 simp only[w0,w1,w2,Int.toNat_natCast,g0,g1,g2]
 generalize hn:yn.getD a 0=n at *
 have b0:dgN n 0=n / 10 / 10 % 10:=rfl
 have b1:dgN n 1=n / 10 % 10:=rfl
 have b2:dgN n 2=n % 10:=rfl
 rw[b0,b1,b2]
 refine⟨0,⟨rfl,by omega⟩,⟨by omega,by omega⟩,0*10,n / 10 / 10 % 10,⟨rfl,by omega,by omega⟩,0*10+n / 10 / 10 % 10,⟨rfl,by omega⟩,⟨by omega,by omega⟩,(0*10+n / 10 / 10 % 10)*10,n / 10 % 10,⟨rfl,by omega,by omega⟩,
  (0*10+n / 10 / 10 % 10)*10+n / 10 % 10,⟨rfl,by omega⟩,⟨by omega,by omega⟩,((0*10+n / 10 / 10 % 10)*10+n / 10 % 10)*10,n % 10,⟨rfl,by omega,by omega⟩,?_⟩
 omega
theorem Bbj{y:Arr}{yn:List Nat}(h:EnH y yn):prL (shN y.sh)=yn.length:=by
 obtain ⟨_,z,_⟩:=Bw h.v.c
 rw[<- z,szN,if_neg (by rw[h.hk];decide),h.hn,CW]
theorem BcY{y:Arr}{yn:List Nat}(h:EnH y yn):Val (EP y yn):=by
 have hs:=Bbj h
 have el:=Ip yn 3 0
 have hl:=h.hl
 have h8:=((Bn _).1 h.hr)
 have hb:∀z∈CU yn 3 0,0<=z/\z<=9:=fun z hz=>by
  rw[IJ] at hz
  obtain ⟨r,hr,hz⟩:=List.mem_flatMap.1 hz
  obtain ⟨n,hn,rfl⟩:=List.mem_map.1 hz
  have hr:=List.mem_range.1 hr
  rcases r with _ | _ | _ | r
  ·show 0<=((n / 10 / 10 % 10:Nat):Int)/\((n / 10 / 10 % 10:Nat):Int)<=9
   omega
  ·show 0<=((n / 10 % 10:Nat):Int)/\((n / 10 % 10:Nat):Int)<=9
   omega
  ·show 0<=((n % 10:Nat):Int)/\((n % 10:Nat):Int)<=9
   omega
  ·omega
 refine⟨?_,?_⟩
 ·simp only[EP,Arr.ok]
  refine⟨by unfold EY;omega,fun z hz=>?_,fun z hz=>?_,by have:=h8.1;simp only[maxLen];omega,by simp only[maxLen];omega,by simp[maxLen],trivial⟩
  ·have:=h8.2.1 z hz;unfold EY;omega
  ·have:=hb z hz;unfold EY;omega
 ·refine UG (B7.2 ⟨.inl rfl,h.hr,?_,rfl⟩) ?_ (fun b hb=>by cases hb) ?_
  ·rw[if_neg (by decide),el]
   have e:prL (shN (3::y.sh))=3*prL (shN y.sh):=by simp[shN,prL]
   rw[e,hs];omega
  ·rw[List.any_eq_false]
   intro z hz
   have:=hb z hz
   simp only[CJ,M9]
   simp
   omega
  ·simp only[wtS,List.length_nil];omega
def Bb5(y:Arr)(yn:List Nat):Con:=fun k ds S=>match k with
 |45=>some (pA ds S (.int .i64 0) (Baz (vcA tens) (EP y yn) ds))
 |25=>some (pA ds S (isl y.sh .any) (wkL ds [isl y.sh .any]))
 |32=>some (pA ds S (.int .i64 (yn.length:Nat)) (wkL ds [isl y.sh .any]))
 |42=>some (pE (β:=Nat) ds S (fun a=>.tup [.int .i64 (yn.getD a 0:Nat),.int .i64 0]) (fun a=>wkL ds [isl tens .any,isl (CU yn 3 0) .any,.int .i64 a,.int .i64 (yn.length:Nat),.int .i64 3]/\a<yn.length))
 |_=>none
theorem Bce{y:Arr}{yn:List Nat}(h:EnH y yn):ConOk Try.prog (Bb5 y yn):=by
 have h8:=((Bn _).1 h.hr).1
 have hv:=BcY h
 intro k ds S A hh
 unfold Bb5 at hh
 split at hh
 ·injection hh with hh;subst hh
  refine Bv fun ⟨b,hb,e⟩=>CD.at_ (CD.wk ?_ e) _
  obtain rfl | rfl:=hb
  ·have:=GU _ tens_val.ok
   rw[tens_val.c] at this;exact this
  ·have:=GU _ hv.ok
   rw[hv.c] at this;exact this
 ·injection hh with hh;subst hh
  exact Bv fun e=>CD.at_ (CD.wk (Mm _ (by simp only[List.length_cons] at h8;omega)) e) _
 ·injection hh with hh;subst hh
  refine Bv fun e=>CD.at_ (CD.wk ?_ e) _
  have hr:=(Bw h.v.c).1
  have:=Mp _ hr
  rw[Iw hr,Bbj h] at this
  exact this
 ·injection hh with hh;subst hh
  exact B0 fun a ⟨e,ha⟩=>CD.at_ (CD.wk (BeQ y yn a ha h.hl h.h9) e) _
 ·cases hh
def Tn(y:Arr)(yn:List Nat):Arr:=.mk 1 y.sh (Cb yn) []
noncomputable def Edc(y:Arr)(yn:List Nat):Senv:={ EC (Bb5 y yn) 82 13 [17,24,44,53,54,55,71] (fun id=>match id with | 7=>([0,1,2,3,4,5,6,7,8,9,10,11,12,13,14,15,16,17,18],[]) | 14=>([0,1,2,3,4,5,6,7,8,9,10,11,12,13,14],[9]) | _=>([],[])) with
 gh:=fun b=>match b with
  |0=>[.cell 5 102,.cell 5 403]
  |_=>[]
 ann:=fun b _ S=>match b with
  |0=>match Bx S.objs 5 with
   |some (_,.cells (c0::c1::_::_::cs))=>some { slots:=[54],keep:=[2,3,4,7,8,9,53],α:=Nat×Nat×Nat,st:=fun z=>([.int .i64 z.1],⟨Et S.objs 5 (.cells (c0::c1::.sl 1 z.1 (fun j=>[.int .i64 ((yn.getD j 0:Nat):Int)]) (.tok 0 z.2.1)::.sl 4 0 (fun _=>[]) (.tok 1 z.2.2)::cs)),[(1,z.2.2),(0,z.2.1)]⟩),inv:=fun z=>z.1<=yn.length,mu:=fun z=>yn.length-z.1 }
   |_=>none
  |_=>none }
def KK:Arr:=vcA tens
def Q2(a:Arr)(b:List Nat):Arr:=EP a b
def Qf2:Int:=Arr.k KK
def Qf3:List Int:=Arr.sh KK
def ZZ:Nat:=LN Qf3
def Qf4(a:Nat):List D:=[ZI (GI Qf3 a)]
def Qf5:List Int:=Arr.nu KK
def Jr:Nat:=LN Qf5
def Qf6(a:Nat):Int:=GI Qf5 a
def Qf7(a:Nat):List D:=[ZI (Qf6 a)]
def Z2:Nat:=LN (Arr.it KK)
def Xq:List D:=Arr.row DA
def Z3(a:Arr)(b:List Nat):Int:=Arr.k (Q2 a b)
def Xr(a:Arr)(b:List Nat):List Int:=Arr.sh (Q2 a b)
def Xs(a:Arr)(b:List Nat):Nat:=LN (Xr a b)
def Qf8(a:Arr)(b:List Nat)(c:Nat):List D:=[ZI (GI (Xr a b) c)]
def Qf9(a:Arr)(b:List Nat):D:=D.sl N1 (Xs a b) (fun i=>Qf8 a b i) Mode.any
def Js(a:Arr)(b:List Nat):Nat:=LN (Arr.nu (Q2 a b))
def Qga(a:Arr)(b:List Nat)(c:Nat):List D:=[ZI (GI (Arr.nu (Q2 a b)) c)]
def Z4(a:Arr)(b:List Nat):Nat:=LN (Arr.it (Q2 a b))
def QN(a:Arr)(b:List Nat):Int:=(NI (Xs a b))
def Qgb(a:Arr)(b:List Nat):Int:=GI (Xr a b) N0
def QiE(a:Arr)(b:List Nat):Bool:=(↑Jr:Int) != Qgb a b
def Qgc(a:Arr)(b:List Nat):Nat:=Int.toNat (QN a b)-N1
def Jt(a:Arr):Nat:=LN (Arr.sh a)
def Qgd(a:Arr)(b:List Nat):Prop:=(Qgc a b=Jt a/\(∀(i:Nat),i<Qgc a b->GI (Xr a b) (N1+i)=GI (Arr.sh a) i/\True)/\True)/\True
def Qge(a:Arr)(b:Nat):List D:=[ZI (GI (Arr.sh a) b)]
def Qgf(a:Arr):Prop:=SM (Jt a)/\(∀(i:Nat),i<Jt a->SM (Qge a i))/\True
def Ju(a:List Nat)(b:Nat):List D:=[ZI (NI (List.getD a b N0))]
def Qgg:Prop:=∀(i:Nat),i<N0->C8 (List D) [] []
def Qgh(a b:Nat):Prop:=(SM N0/\Qgg/\a=b)/\True
def Qgi:Prop:=SM Xq
def Qgj(a:Arr)(b:List Nat):Prop:=SM (Z3 a b)/\(SM (Xs a b)/\(∀(i:Nat),i<Xs a b->SM (Qf8 a b i))/\True)/\(SM (Js a b)/\(∀(i:Nat),i<Js a b->SM (Qga a b i))/\True)/\(SM (Z4 a b)/\(∀(i:Nat),i<Z4 a b->Qgi)/\True)/\True
def Qgk(a:Nat):Prop:=a<Jr
def Qgl:Prop:=SM Qf2/\(SM ZZ/\(∀(i:Nat),i<ZZ->SM (Qf4 i))/\True)/\(SM Jr/\(∀(i:Nat),Qgk i->SM (Qf7 i))/\True)/\(SM Z2/\(∀(i:Nat),i<Z2->Qgi)/\True)/\True
def Z5:Prop:=SM N0/\Qgg/\True
def Qgm(a:Nat)(b:Arr)(c:List Nat)(d e f g:Nat):Prop:=SM a/\Qgj b c/\SM d/\Qgl/\SM e/\(SM Z0/\Z5/\Z5/\Z5/\True)/\SM f/\Qgj b c/\SM g/\Qgl/\True
def QiF(a:Nat):D:=D.ref (max (N4+N1) (max ((3:Nat)+N1) (max (3:Nat) (max (N1+N1) (max (N0+N1) N0))))) a N0
theorem Bev(y:Arr)(yn:List Nat)(h:EnH y yn):CD 17 [.agg (vcA tens).row1,.agg (EP y yn).row1] (.tup [.agg (Tn y yn).row1,.int .i64 0]):=by
 refine Bg (A:=sC _ _) (x:=()) (E:=Edc y yn) (eOk (Bce h) rfl) Try.func17 rfl (by kernel_rfl) rfl (by simp[sC,Edc,EC,E0]) ?_
 refine Bl (T :=
  ∀(x:Nat),True->∀(x_1:Nat),x≠x_1/\True->∀(x_2:Nat),x_1≠x_2/\x≠x_2/\True->SM x/\SM x_1/\∀(x_3:Nat),x_2≠x_3/\x_1≠x_3/\x≠x_3/\True->∀(x_4:Nat),x_3≠x_4/\x_2≠x_4/\x_1≠x_4/\x≠x_4/\True->SM x_3/\∃(x_5:Unit),Baz KK (Q2 y yn) [D.agg [ZI Qf2,D.sl N1 ZZ (fun i=>Qf4 i) Mode.any,D.sl N1 Jr (fun i=>Qf7 i) Mode.any,D.sl N4 Z2 (fun i=>Xq) Mode.any]]/\∀(y_1:Unit),True->SM x_4/\∃(x_6:Unit),Baz KK (Q2 y yn) [D.agg [ZI (Z3 y yn),Qf9 y yn,D.sl N1 (Js y yn) (fun i=>Qga y yn i) Mode.any,D.sl N4 (Z4 y yn) (fun i=>Xq) Mode.any]]/\∀(y_2:Unit),True->(SM x_3/\SM x_4/\SM (Z3 y yn != Z1)/\True)/\SM x_3/\True/\SM x_1/\(SM x/\SM x/\SM x/\Bd (Z0<=Z0/\Z0<QN y yn) (SM (QiE y yn)/\True))/\Bd (Z0<=Z1/\Z1<=QN y yn/\QN y yn<=QN y yn) (∃(x_7:Unit),Qgd y yn/\∀(y_3:Unit),True->∀(x_8:Nat),x_4≠x_8/\x_3≠x_8/\x_2≠x_8/\x_1≠x_8/\x≠x_8/\True->SM x_8/\Bd (Z0<=Z1/\Z1<=QN y yn/\QN y yn<=QN y yn) (∃(x_9:Unit),Qgd y yn/\∀(y_4:Unit),True->∀(t t_1:Nat),(∃(x_10:Nat×Nat×Nat),x_10.1<=LN yn/\(Z0=(NI x_10.1)/\True)/\(SM x_8/\(SM Z1/\Qgf y/\(N0=x_10.1/\(∀(i:Nat),i<N0->C8 (List D) [] (Ju yn i))/\t=x_10.2.1)/\Qgh t_1 x_10.2.2)/\Qgm x_4 y yn x_3 x_2 x_1 x)/\t_1=x_10.2.2/\t=x_10.2.1/\True)/\∀(x_10:Nat×Nat×Nat),x_10.1<=LN yn->ifB (decide ((NI x_10.1)<(LI yn))) (SM x/\SM x_1/\Bd (Z0<=Z0/\Z0<QN y yn) (∃(x_11:Nat),(((Jr=LN tens/\(∀(i:Nat),Qgk i->Qf6 i=GI tens i/\True)/\True)/\(Js y yn=LN (CU yn (3:Nat) N0)/\(∀(i:Nat),i<Js y yn->GI (Arr.nu (Q2 y yn)) i=GI (CU yn (3:Nat) N0) i/\True)/\True)/\(NI x_10.1)=(↑x_11:Int)/\SM (LI yn)/\Qgb y yn=3/\True)/\x_11<LN yn)/\∀(y_5:Unit),True->SM x_8/\SM x_10.2.1/\Bd ((x_10.1+N1)*8<=140737488355328/\x_10.1+N1<=9223372036854775807) (∀(t:Nat),SM x_8/\(SM (D.ref N0 x N0)/\SM (D.ref (max (N0+N1) N0) x_1 N0)/\SM (D.ref (max (N1+N1) (max (N0+N1) N0)) x_2 N0)/\SM (Qf9 y yn)/\SM (QiF x_8)/\SM (ZI (LI yn))/\SM (ZI (LI yn))/\True)/\∃(y_6:Nat×Nat×Nat),y_6.1<=LN yn/\LN yn-y_6.1<LN yn-x_10.1/\(IntKind.wrap IntKind.i64 ((NI x_10.1)+Z1)=(NI y_6.1)/\True)/\(SM x_8/\(SM Z1/\Qgf y/\(x_10.1+N1=y_6.1/\(∀(i:Nat),i<x_10.1+N1->BG x_10.1 (fun j=>Ju yn j) (fun i=>List.getD [Ju yn x_11] i []) i=Ju yn i)/\t=y_6.2.1)/\Qgh x_10.2.2 y_6.2.2)/\Qgm x_4 y yn x_3 x_2 x_1 x)/\x_10.2.2=y_6.2.2/\t=y_6.2.1/\True))) (SM x_8/\SM x_2/\(SM x_2/\True)/\∃(y_5:Unit),True/\((Z1=Arr.k (Tn y yn)/\(Jt y=LN (Arr.sh (Tn y yn))/\(∀(i:Nat),i<Jt y->Qge y i=[ZI (GI (Arr.sh (Tn y yn)) i)])/\True)/\(x_10.1=LN (Arr.nu (Tn y yn))/\(∀(i:Nat),i<x_10.1->Ju yn i=[ZI (GI (Arr.nu (Tn y yn)) i)])/\True)/\(N0=LN (Arr.it (Tn y yn))/\(∀(i:Nat),i<N0->C8 (List D) [] Xq)/\True)/\True)/\SM Z0/\True)/\True/\True)))) (by kernel_rfl) ?_
 delta DA GI LI LN N0 N1 N4 NI SM Z0 Z1 ZI KK Q2 Z2 Xq Z3 Xr Xs Qf8 Qf9 Js Qga Z4 Qf2 QN Qgb QiE Qgc Jt Qgd Qge Qgf Ju Qgg Qf3 Qgh Qgi Qgj Qgk Qgl Z5 Qgm QiF ZZ Qf4 Qf5 Jr Qf6 Qf7
 have da:(default:Arr)=Arr.mk 0 [] [] []:=rfl
 simp only[<- da]
 simp only[ne_eq,implies_true,Int.toNat_natCast,Bh,Bc,decide_eq_true_eq,decide_eq_false_iff_not,true_and,and_true,exists_const,forall_const,Prod.exists]
 have es:(EP y yn).sh.length=y.sh.length+1:=rfl
 have eg:∀i,(EP y yn).sh.getD (1+i) 0=y.sh.getD i 0:=fun i=>by
  show (3::y.sh).getD (1+i) 0=_
  rw[Nat.add_comm];rfl
 have tn:(vcA tens).nu.length=tens.length/\∀i,i<(vcA tens).nu.length->(vcA tens).nu.getD i 0=tens.getD i 0:=⟨rfl,fun _ _=>rfl⟩
 have hl:=h.hl
 refine fun x x1 _ x2 _ x3 _ x4 _=>⟨⟨vcA tens,.inl rfl,Be _⟩,⟨EP y yn,.inr rfl,Be _⟩,⟨by omega,by omega⟩,⟨by omega,by omega,by omega⟩,⟨by omega,fun i _=>eg i⟩,fun x8 _=>⟨⟨by omega,by omega,by omega⟩,⟨by omega,fun i _=>eg i⟩,fun t t1=>⟨⟨0,t,t1,Nat.zero_le _,rfl,⟨⟨rfl,(fun i hi=>absurd hi (Nat.not_lt_zero i)),rfl⟩,rfl⟩,rfl,rfl⟩,?_⟩⟩⟩
 rintro ⟨i,t2,t3⟩ hi
 simp only at hi ⊢
 refine⟨fun hlt=>⟨⟨by omega,by omega⟩,i,⟨⟨tn,⟨rfl,fun _ _=>rfl⟩,rfl,rfl⟩,by omega⟩,⟨by omega,by omega⟩,fun t4=>⟨i+1,t4,t3,by omega,by omega,Bb (by omega) (by omega),⟨⟨rfl,(fun j hj=>?_),rfl⟩,rfl⟩,rfl,rfl⟩⟩,fun hge=>?_⟩
 ·rw[BG]
  split
  ·rfl
  ·obtain rfl:j=i:=by omega
   rw[Nat.sub_self];rfl
 ·obtain rfl:i=yn.length:=by omega
  exact⟨rfl,⟨rfl,fun _ _=>rfl⟩,⟨(CW yn).symm,fun j hj=>by rw[show (Tn y yn).nu.getD j 0=(Cb yn).getD j 0 from rfl,ES yn hj]⟩,rfl,fun j hj=>absurd hj (Nat.not_lt_zero j)⟩
section
variable {N:Nat} {y:Arr} (h:GrH N y)
include h
theorem Bap:(Ug N y).nu.Perm y.nu/\(Ug N y).it.Perm y.it:=by
 obtain ⟨e1,e2⟩:=WG h.v h.hr
 have p1:=Bai (EZ N y)
 have p2:=Baf (EZ N y)
 rw[e1] at p1
 rw[e2] at p2
 exact⟨p1,p2⟩
theorem BdY:FrH (GS (Cx N y)) y (OK N y):=by
 have hd:=BdD h
 have fp:=Bdg h
 have hp:=BdE (Bw h.v.c).1
 refine⟨Bdy h,h.v,h.hr,rfl,Bej,fun i hi=>?_,?_,?_,?_,by simp[GS,Arr.sh],?_⟩
 ·obtain ⟨p,hp,rfl⟩:=List.mem_map.1 hi
  have:=(Tv hp).1
  have:=E8 h.v h.hr
  omega
 ·rw[Bcc h];exact (Bw h.v.c).1
 ·rw[fp.length_eq,List.length_range];exact hp
 ·rw[OK,List.length_map];exact h.slen
 ·rw[gaW]
  split
  ·rename_i hk
   have e:gaI y (frL (Bs y) (OK N y))=(Ug N y).it:=congrArg Arr.it (BbJ h)
   rw[e,Bb4 (Bap h).2,fp.length_eq,List.length_range]
   have z:=(Bw h.v.c).2.1
   rw[szN,if_pos hk] at z
   have hc:=h.v.c
   have hh:=h.v.c
   cases y with
   |mk k s nu it =>
    obtain ⟨f1,f2,f3,f4,f5⟩:=Bas hc
    have z:it.length=prL (shN (Arr.mk k s nu it).sh):=z
    show (prL (shN (Arr.mk k s nu it).sh):Int)+wtS it<=262144
    omega
  ·omega
theorem Bcm:CD 9 [.agg (GS (Cx N y)).row1,.agg y.row1] (.tup [.agg (Ug N y).row1,.int .i64 0]):=by
 have:=BeH _ _ _ (BdY h)
 rw[Bcc h,BbJ h] at this
 exact this
end
def v27:Arr:=vcA [30,10,20]
theorem BdA:Val v27:=⟨Re (by decide) (by decide),by decide⟩
theorem Bct:GrH 1000 v27:=by
 refine⟨BdA,by decide,fun p hp=>?_⟩
 have e:rwL v27=[(0,.mk 1 [] [30] []),(1,.mk 1 [] [10] []),(2,.mk 1 [] [20] [])]:=rfl
 rw[e] at hp
 simp only[List.mem_cons,List.not_mem_nil,or_false] at hp
 rcases hp with rfl | rfl | rfl<;>decide
theorem U8:Cx 1000 v27=[(1,.mk 1 [] [10] []),(2,.mk 1 [] [20] []),(0,.mk 1 [] [30] [])]:=by
 have e:rwL v27=[(0,.mk 1 [] [30] []),(1,.mk 1 [] [10] []),(2,.mk 1 [] [20] [])]:=rfl
 have c1:leC (TW 1000) (1,.mk 1 [] [10] []) (2,.mk 1 [] [20] [])=true:=by kernel_rfl
 have c2:leC (TW 1000) (0,.mk 1 [] [30] []) (1,.mk 1 [] [10] [])=false:=by kernel_rfl
 have c3:leC (TW 1000) (0,.mk 1 [] [30] []) (2,.mk 1 [] [20] [])=false:=by kernel_rfl
 rw[Cx,e]
 simp[msF,c1,c2,c3]
theorem RP:GS (Cx 1000 v27)=vcA [1,2,0]:=by rw[U8];rfl
theorem BcX:Ug 1000 v27=vcA [10,20,30]:=by rw[Ug,U8];rfl
def Mg(l:List Int)(ds:List D):Prop:=wkL ds [isl l .any]
def kaP(a:Arr)(ds:List D):Prop:=wkL ds [.agg a.row1]
def kbP(a b:Arr)(ds:List D):Prop:=wkL ds [.agg a.row1,.agg b.row1]
def BaU:Con:=fun k ds S=>match k with
 |16=>match ds with
  | [.sl 1 _ f _]=>match f 0 with
   | [.int _ z]=>match Int.decEq z 30 with
    |.isTrue _=>some (pA ds S (.agg v27.row1) (Mg [30,10,20] ds))
    |.isFalse _=>match Int.decEq z 1 with
     |.isTrue _=>some (pA ds S (.agg (vcA [1,2,0]).row1) (Mg [1,2,0] ds))
     |.isFalse _=>some (pA ds S (.agg (vcA [10,20,30]).row1) (Mg [10,20,30] ds))
   |_=>none
  |_=>none
 |7=>some (pA ds S (.tup [.agg (vcA [1,2,0]).row1,.int .i64 0]) (kaP v27 ds))
 |9=>some (pA ds S (.tup [.agg (vcA [10,20,30]).row1,.int .i64 0]) (kbP (vcA [1,2,0]) v27 ds))
 |13=>some (pE (β:=Arr) ds S (fun _=>.bool true) (fun b=>kbP b b ds/\b.ok))
 |_=>none
theorem BbU:ConOk Try.prog BaU:=by
 intro k ds S A hh
 unfold BaU at hh
 split at hh
 ·split at hh
  ·split at hh
   ·split at hh
    ·injection hh with hh;subst hh
     exact Bv fun e=>CD.at_ (CD.wk (T9 [30,10,20]) e) _
    ·split at hh
     ·injection hh with hh;subst hh
      exact Bv fun e=>CD.at_ (CD.wk (T9 [1,2,0]) e) _
     ·injection hh with hh;subst hh
      exact Bv fun e=>CD.at_ (CD.wk (T9 [10,20,30]) e) _
   ·cases hh
  ·cases hh
 ·injection hh with hh;subst hh
  refine Bv fun e=>CD.at_ (CD.wk ?_ e) _
  have:=BeG 1000 v27 Bct
  rw[RP] at this
  exact this
 ·injection hh with hh;subst hh
  refine Bv fun e=>CD.at_ (CD.wk ?_ e) _
  have:=Bcm Bct
  rw[RP,BcX] at this
  exact this
 ·injection hh with hh;subst hh
  exact B0 fun b ⟨e,hb⟩=>CD.at_ (CD.wk (BdG b hb) e) _
 ·cases hh
noncomputable def Ek7:Senv:=EC BaU 34 5 [] (fun id=>match id with | 2=>([0,1,2,3,4,5,6,7,8,9],[1,2,3,7,8]) | 3=>([0,1,2,3,4,5,6,7,8,9,10,11,12,13,14,15,16],[6,7,8,12,13,14]) | _=>([],[]))
def Z6:Prop:=Mg [(30:Int),(10:Int),(20:Int)] [D.sl N1 (3:Nat) (fun i=>List.getD [[ZI 30],[ZI 10],[ZI 20]] i []) Mode.full]
def Z7:List D:=Arr.row DA
def Qgn:List D:=[D.agg [ZI (Arr.k v27),SI (Arr.sh v27),SI (Arr.nu v27),D.sl N4 (LN (Arr.it v27)) (fun _i=>Z7) Mode.any]]
def Jv:Arr:=vcA [Z1,(2:Int),Z0]
def QiG:List Int:=Arr.sh Jv
def QiH:List Int:=Arr.nu Jv
def Xt:D:=D.agg [ZI (Arr.k Jv),SI QiG,SI QiH,D.sl N4 (LN (Arr.it Jv)) (fun _i=>Z7) Mode.any]
def Kr(a:Nat):Prop:=SM a/\SM Xt
def Qgo:Prop:=kbP Jv v27 (Xt::Qgn)
def Xu:Arr:=vcA [(10:Int),(20:Int),(30:Int)]
def QiI:List Int:=Arr.sh Xu
def QiJ:List Int:=Arr.nu Xu
def Z8:D:=D.agg [ZI (Arr.k Xu),SI QiI,SI QiJ,D.sl N4 (LN (Arr.it Xu)) (fun _i=>Z7) Mode.any]
def Qgp(a:Nat):Prop:=SM a/\SM Z8
def Qgq(a b:Nat):Prop:=SM a/\SM b/\Kr b/\∃(_x:Unit),Mg [Z1,(2:Int),Z0] [D.sl N1 (3:Nat) (fun i=>List.getD [[ZI Z1],[ZI 2],[ZI Z0]] i []) Mode.full]/\∀(_y:Unit),True->Kr b/\∃(x:Arr),(kbP x x [Xt,Xt]/\Arr.ok x)/\∀(_y:Unit),True->SM a/\Qgp a/\∃(_x:Unit),Mg [(10:Int),(20:Int),(30:Int)] [D.sl N1 (3:Nat) (fun i=>List.getD [[ZI 10],[ZI 20],[ZI 30]] i []) Mode.full]/\∀(_y:Unit),True->Qgp a/\∃(x:Arr),(kbP x x [Z8,Z8]/\Arr.ok x)/\∀(_y:Unit),True->True/\∃(_y:Unit),True/\SM true/\True/\True
def Qgr(a b:Nat):Prop:=Kr a/\∃(_x:Unit),Qgo/\∀(_y:Unit),True->Qgq b a
def Qgs(a b:Nat):Prop:=Kr a/\∃(_x:Unit),Z6/\∀(_y:Unit),True->Qgr a b
theorem BeX:CD 6 [] (.bool true):=by
 refine Bg (A:=sC _ _) (x:=()) (E:=Ek7) (eOk BbU rfl) Try.func6 rfl (by kernel_rfl) rfl (by simp[sC,Ek7,EC,E0]) ?_
 refine Bl (T :=
  ∃(x:Unit),Z6/\∀(y:Unit),True->∃(x:Unit),kaP v27 Qgn/\∀(y:Unit),True->∀(x:Nat),True->SM x/\SM x/\(Kr x/\(∃(x_1:Unit),Z6/\∀(y:Unit),True->Kr x/\(∃(x_2:Unit),Qgo/\∀(y:Unit),True->∀(x_3:Nat),x≠x_3/\True->Qgq x_3 x)/\∀(x_2:Nat),x≠x_2/\True->Qgr x x_2)/\∀(x_1:Nat),x≠x_1/\True->Qgs x x_1)/\∀(x_1:Nat),x≠x_1/\True->Kr x/\Qgs x x_1) (by kernel_rfl) ?_
 delta DA GI LN N1 N4 SI SM Z0 Z1 ZI Z6 Z7 QiI QiJ Z8 Qgp Qgq Qgr Qgs Qgn Jv QiG QiH Xt Kr Qgo Xu
 have da:(default:Arr)=Arr.mk 0 [] [] []:=rfl
 simp only[<- da]
 simp only[ne_eq,implies_true,true_and,and_true,exists_const,forall_const]
 have k3:∀ {a b c:Int},Mg [a,b,c] [D.sl 1 3 (fun i=>[[D.int .i64 a],[D.int .i64 b],[D.int .i64 c]].getD i []) .full]:=fun {a b c}=>by
  simp only[Mg,isl,wkL,wkD,Ba]
  refine⟨⟨by simp,by simp,fun i hi=>?_,by simp[BH]⟩,trivial⟩
  rcases i with _ | _ | _ | i
  ·exact Be _
  ·exact Be _
  ·exact Be _
  ·omega
 have o1:(vcA [1,2,0]).ok:=Re (by decide) (by decide)
 have o2:(vcA [10,20,30]).ok:=Re (by decide) (by decide)
 repeat' (first | exact k3 | exact Be _ | exact⟨vcA [1,2,0],⟨Be _,o1⟩,k3,vcA [10,20,30],Be _,o2⟩ | refine And.intro ?_ ?_ | intro _)
def smB(y:Arr):Bool:=y.nu.all (fun z=>decide (-999<=z)&&decide (z<=999))&&y.k==1
noncomputable def Esm(y:Arr):Senv:={ EC CM 33 3 [4,5,10,29] (fun _=>([],[])) with
 ann:=fun b _ S=>match b with
  |0=>some { slots:=[5],keep:=[1,2],α:=Nat,st:=fun i=>([.int .i64 i],S),inv:=fun i=>i<=y.nu.length/\∀z∈y.nu.take i,-999<=z/\z<=999,mu:=fun i=>y.nu.length-i }
  |_=>none }
def Xv(a:Arr):List Int:=Arr.nu a
def KL(a:Arr):Nat:=LN (Xv a)
def Z9(a:Nat)(b:Arr):Prop:=a<=KL b/\∀(z:Int),z∈List.take a (Xv b)->(-999:Int)<=z/\z<=999
def QiK(a:Arr)(b:Nat):List D:=Arr.row (GA (Arr.it a) b)
def Qgt(a:Nat)(b:Arr):Prop:=(SM a/\(SM (Arr.k b)/\(SM (LN (Arr.sh b))/\(∀(i:Nat),i<LN (Arr.sh b)->SM [ZI (GI (Arr.sh b) i)])/\True)/\(SM (KL b)/\(∀(i:Nat),i<KL b->SM [ZI (GI (Xv b) i)])/\True)/\(SM (LN (Arr.it b))/\(∀(i:Nat),i<LN (Arr.it b)->SM (QiK b i))/\True)/\True)/\True)/\True
def Ha(a:Arr):Int:=(NI (KL a))
def Hb(a:Arr)(b:Nat):Int:=GI (Xv a) (Int.toNat (↑b:Int))
def Qgu(a:Arr)(b:Nat):Bool:=decide ((999:Int)<Hb a b)
def Hc(a:Arr)(b:Nat):Bool:=bif decide (Hb a b<IntKind.wrap IntKind.i64 (Z0-999)) then true else Qgu a b
theorem Bez(y:Arr)(hl:y.nu.length<=1000000):CD 14 [.agg y.row1,.int .i64 999] (.bool (smB y)):=by
 refine Bg (A:=sC _ _) (x:=()) (E:=Esm y) (eOk By rfl) Try.func14 rfl (by kernel_rfl) rfl (by simp[sC,Esm,EC,E0]) ?_
 refine Bl (T :=
  ∀(x:Nat),True->(∃(x_1:Nat),Z9 x_1 y/\(Z0=(↑x_1:Int)/\True)/\Qgt x y)/\∀(x_1:Nat),Z9 x_1 y->SM x/\ifB (decide ((↑x_1:Int)<Ha y)) ((SM x/\Bd (Z0<=(↑x_1:Int)/\(↑x_1:Int)<Ha y) (ifB (decide (Hb y x_1<(-999:Int))) (true=Hc y x_1/\True) (SM x/\Bd (Z0<=(↑x_1:Int)/\(↑x_1:Int)<Ha y) (Qgu y x_1=Hc y x_1/\True))))/\ifB (Hc y x_1) (True/\∃(y_1:Unit),True/\false=smB y/\True/\True) ((SM (ZI 999)/\SM (D.ref N0 x N0)/\True)/\∃(y_1:Nat),Z9 y_1 y/\KL y-y_1<KL y-x_1/\(IntKind.wrap IntKind.i64 ((↑x_1:Int)+Z1)=(↑y_1:Int)/\True)/\Qgt x y)) (SM x/\True/\∃(y_1:Unit),True/\(Arr.k y==Z1)=smB y/\True/\True)) (by kernel_rfl) ?_
 delta DA GA GI LN N0 NI SM Z0 Z1 ZI Xv KL Z9 QiK Qgt Ha Hb Qgu Hc
 have da:(default:Arr)=Arr.mk 0 [] [] []:=rfl
 simp only[<- da]
 simp only[implies_true,Int.toNat_natCast,Bh,Bc,decide_eq_true_eq,decide_eq_false_iff_not,true_and,and_true,exists_const,forall_const]
 have w:IntKind.i64.wrap (0-999) = -999:=Bb (by omega) (by omega)
 rw[w]
 refine⟨⟨0,⟨Nat.zero_le _,fun z hz=>by simp at hz⟩,rfl⟩,fun i ⟨hi,hz⟩=>⟨fun hlt=>?_,fun hge=>?_⟩⟩
 ·have hlt':i<y.nu.length:=by omega
  have hm:y.nu.getD i 0∈y.nu:=by rw[List.getD_eq_getElem?_getD,List.getElem?_eq_getElem hlt'];exact List.getElem_mem hlt'
  have htk:y.nu.take (i+1)=y.nu.take i++[y.nu.getD i 0]:=CR (show i<y.nu.length from hlt')
  refine⟨⟨⟨by omega,hlt⟩,fun q=>by rw[decide_eq_true q,cond_true],fun q=>⟨⟨by omega,hlt⟩,by rw[decide_eq_false q,cond_false]⟩⟩,fun q=>?_,fun q=>⟨i+1,⟨by omega,fun z hz2=>?_⟩,by omega,Bb (by omega) (by omega)⟩⟩
  ·have hv:y.nu.getD i 0 < -999\/999<y.nu.getD i 0:=by
    by_cases h1:y.nu.getD i 0 < -999
    ·exact .inl h1
    ·rw[decide_eq_false h1,cond_false,decide_eq_true_eq] at q;exact .inr q
   have:y.nu.all (fun z=>decide (-999<=z)&&decide (z<=999))=false:=by
    rw[List.all_eq_false]
    refine⟨_,hm,fun q=>?_⟩
    rw[Bool.and_eq_true,decide_eq_true_eq,decide_eq_true_eq] at q
    omega
   rw[smB,this];rfl
  ·have hv:¬y.nu.getD i 0 < -999/\¬999<y.nu.getD i 0:=by
    by_cases h1:y.nu.getD i 0 < -999
    ·rw[decide_eq_true h1,cond_true] at q;cases q
    ·rw[decide_eq_false h1,cond_false,decide_eq_false_iff_not] at q;exact⟨h1,q⟩
   rw[htk,List.mem_append,List.mem_singleton] at hz2
   rcases hz2 with h | h
   ·exact hz z h
   ·rw[h];omega
 ·obtain rfl:i=y.nu.length:=by omega
  rw[List.take_length] at hz
  have:y.nu.all (fun z=>decide (-999<=z)&&decide (z<=999))=true:=by
   rw[List.all_eq_true]
   intro z h
   have:=hz z h
   rw[Bool.and_eq_true,decide_eq_true_eq,decide_eq_true_eq]
   omega
  rw[smB,this,Bool.true_and]
noncomputable def fwD(y:Arr):Bool:=decide (wtA y<=50)&&(Bj y).1==0
def sdP(y:Arr)(ds:List D):Prop:=wkL ds [.agg y.row1,.int .i64 50]
def smP(y:Arr)(ds:List D):Prop:=wkL ds [.agg y.row1,.int .i64 999]/\y.nu.length<=1000000
def ynD(y:Arr):List Nat:=y.nu.map Int.toNat
noncomputable def BcL(y:Arr):Con:=fun k ds S=>match k with
 |5=>some (pA ds S (.bool (fwD y)) (sdP y ds))
 |14=>some (pA ds S (.bool (smB y)) (smP y ds))
 |6=>some (pA ds S (.bool true) (ds=[]))
 |16=>some (pA ds S (.agg (vcA tens).row1) (Mg tens ds))
 |15=>some (pA ds S (.tup [.agg (EP y (ynD y)).row1,.int .i64 0]) (kbP (vcA tens) y ds/\EnH y (ynD y)))
 |17=>some (pA ds S (.tup [.agg y.row1,.int .i64 0]) (kbP (vcA tens) (EP y (ynD y)) ds/\EnH y (ynD y)))
 |13=>some (pA ds S (.bool true) (kbP y y ds))
 |_=>none
theorem Bb6{y:Arr}{yn:List Nat}(h:EnH y yn):Tn y yn=y:=by
 have f4:=(B7.1 (Cr h.v.c)).2.2.2
 have hk:=h.hk
 have hn:=h.hn
 rw[hk,if_neg (by decide)] at f4
 cases y with
 |mk k s nu it =>
  obtain rfl:k=1:=hk
  obtain rfl:it=[]:=List.eq_nil_of_length_eq_zero f4
  have hn:nu=Cb yn:=hn
  rw[hn];rfl
theorem BbK{y:Arr}(ho:y.ok):ConOk Try.prog (BcL y):=by
 intro k ds S A hh
 unfold BcL at hh
 split at hh
 ·injection hh with hh;subst hh
  exact Bv fun e=>CD.at_ (CD.wk (BdV y 50 ho) e) _
 ·injection hh with hh;subst hh
  exact Bv fun ⟨e,hl⟩=>CD.at_ (CD.wk (Bez y hl) e) _
 ·injection hh with hh;subst hh
  refine Bv fun e=>CD.at_ ?_ _
  rw[e];exact BeX
 ·injection hh with hh;subst hh
  exact Bv fun e=>CD.at_ (CD.wk (T9 tens) e) _
 ·injection hh with hh;subst hh
  exact Bv fun ⟨e,h⟩=>CD.at_ (CD.wk (BeL y _ h) e) _
 ·injection hh with hh;subst hh
  refine Bv fun ⟨e,h⟩=>CD.at_ (CD.wk ?_ e) _
  have:=Bev y _ h
  rw[Bb6 h] at this
  exact this
 ·injection hh with hh;subst hh
  exact Bv fun e=>CD.at_ (CD.wk (BdG y ho) e) _
 ·cases hh
noncomputable def Etd(y:Arr):Senv:={ EC (BcL y) 69 8 [27,33,41] (fun id=>match id with | 8=>([2,0,1,3,4,5,6,7,8,9],[0,1,3,7,8]) | 9=>([2,0,1,3,4,5,6,7,8,9],[0,1,3,7,8]) | _=>([],[])) with
 ann:=fun b _ S=>match b with
  |0=>some { slots:=[3],keep:=[1],α:=Nat,st:=fun i=>([.int .i64 i],S),inv:=fun i=>i<=y.nu.length/\∀z∈y.nu.take i,0<=z,mu:=fun i=>y.nu.length-i }
  |_=>none }
def Xw(a:Arr):Nat:=LN (Arr.sh a)
def Qgv(a:Arr)(b:Nat):List D:=[ZI (GI (Arr.sh a) b)]
def Xx(a:Arr):List Int:=Arr.nu a
def Ks(a:Arr):Nat:=LN (Xx a)
def Qgw(a:Arr)(b:Nat):List D:=[ZI (GI (Xx a) b)]
def Hd(a:Arr):Nat:=LN (Arr.it a)
def Qgx:Arr:=DA
def Qgy(a:Arr)(b:Nat):List D:=Arr.row (List.getD (Arr.it a) b Qgx)
def Jw(a:Arr):D:=D.agg [ZI (Arr.k a),D.sl N1 (Xw a) (fun i=>Qgv a i) Mode.any,D.sl N1 (Ks a) (fun i=>Qgw a i) Mode.any,D.sl N4 (Hd a) (fun i=>Qgy a i) Mode.any]
def KM:Prop:=∃(_x:Unit),C8 (List D) [] []/\∀(_y:Unit),True->True/\∃(_y:Unit),True/\SM true/\True/\True
def He(a:Arr):Int:=(NI (Ks a))
def Hf(a:Nat)(b:Arr):Prop:=a<=Ks b/\∀(z:Int),z∈List.take a (Xx b)->Z0<=z
def Qgz(a:Nat)(b:Arr):Prop:=(SM a/\(SM (Arr.k b)/\(SM (Xw b)/\(∀(i:Nat),i<Xw b->SM (Qgv b i))/\True)/\(SM (Ks b)/\(∀(i:Nat),i<Ks b->SM (Qgw b i))/\True)/\(SM (Hd b)/\(∀(i:Nat),i<Hd b->SM (Qgy b i))/\True)/\True)/\True)/\True
def Jx(a:Nat)(b:Arr):Prop:=SM a/\SM (Jw b)
def Xy:Prop:=Mg tens [D.sl N1 (3:Nat) (fun i=>List.getD [[ZI 10],[ZI 10],[ZI 10]] i []) Mode.full]
def KN:Arr:=vcA tens
def QiL:List Int:=Arr.sh KN
def QiM:List Int:=Arr.nu KN
def QgA:List D:=Arr.row Qgx
def QgB:D:=D.agg [ZI (Arr.k KN),SI QiL,SI QiM,D.sl N4 (LN (Arr.it KN)) (fun _i=>QgA) Mode.any]
def QgC(a:Arr):List D:=[Jw a]
def QgD(a:Arr):Prop:=kbP KN a (QgB::QgC a)/\EnH a (ynD a)
def Jy(a:Arr):Arr:=EP a (ynD a)
def QiN(a:Arr):List Int:=Arr.sh (Jy a)
def QiO(a:Arr):List Int:=Arr.nu (Jy a)
def QgE(a:Arr):D:=D.agg [ZI (Arr.k (Jy a)),SI (QiN a),SI (QiO a),D.sl N4 (LN (Arr.it (Jy a))) (fun _i=>QgA) Mode.any]
def Jz(a:Nat)(b:Arr):Prop:=SM a/\SM (QgE b)
def QgF(a:Arr):Prop:=kbP KN (Jy a) [QgB,QgE a]/\EnH a (ynD a)
def QgG(a b:Nat)(c:Arr):Prop:=SM a/\SM a/\SM b/\∃(_x:Unit),kbP c c (Jw c::QgC c)/\∀(_y:Unit),True->KM
def QgH(a:Nat)(b:Arr)(c d:Nat):Prop:=Jz a b/\∃(_x:Unit),QgF b/\∀(_y:Unit),True->QgG c d b
def QgI(a:Nat)(b:Arr)(c d:Nat):Prop:=Jz a b/\∃(_x:Unit),Xy/\∀(_y:Unit),True->QgH a b c d
def QgJ(a:Nat)(b:Arr)(c:Nat):Prop:=SM a/\SM a/\(Jz a b/\(∃(_x:Unit),Xy/\∀(_y:Unit),True->Jz a b/\(∃(_x:Unit),QgF b/\∀(_y:Unit),True->∀(x:Nat),a≠x/\c≠x/\True->QgG x c b)/\∀(x:Nat),a≠x/\c≠x/\True->QgH a b x c)/\∀(x:Nat),a≠x/\c≠x/\True->QgI a b x c)/\∀(x:Nat),a≠x/\c≠x/\True->Jz a b/\QgI a b x c
def QgK(a:Nat)(b:Arr)(c:Nat):Prop:=Jx a b/\∃(_x:Unit),QgD b/\∀(_y:Unit),True->QgJ c b a
def QgL(a:Nat)(b:Arr)(c:Nat):Prop:=Jx a b/\∃(_x:Unit),Xy/\∀(_y:Unit),True->QgK a b c
theorem WT(y:Arr)(ho:y.ok):CD 4 [.agg y.row1] (.bool true):=by
 refine Bg (A:=sC _ _) (x:=()) (E:=Etd y) (eOk (BbK ho) rfl) Try.func4 rfl (by kernel_rfl) rfl (by simp[sC,Etd,EC,E0]) ?_
 refine Bl (T :=
  ∀(x:Nat),True->SM x/\∃(x_1:Unit),sdP y [Jw y,ZI 50]/\∀(y_1:Unit),True->ifB (!fwD y) KM (SM x/\∃(x_2:Unit),smP y [Jw y,ZI 999]/\∀(y_2:Unit),True->ifB (!smB y) KM (SM x/\ifB (decide ((8:Int)<=(NI (Xw y)))) KM (SM x/\ifB (He y==Z0) KM ((∃(x_3:Nat),Hf x_3 y/\(Z0=(↑x_3:Int)/\True)/\Qgz x y)/\∀(x_3:Nat),Hf x_3 y->SM x/\ifB (decide ((↑x_3:Int)<He y)) (SM x/\Bd (Z0<=(↑x_3:Int)/\(↑x_3:Int)<He y) (ifB (decide (GI (Xx y) (Int.toNat (↑x_3:Int))<Z0)) KM ((SM (D.ref N0 x N0)/\True)/\∃(y_3:Nat),Hf y_3 y/\Ks y-y_3<Ks y-x_3/\(IntKind.wrap IntKind.i64 ((↑x_3:Int)+Z1)=(↑y_3:Int)/\True)/\Qgz x y))) (SM x/\(Jx x y/\(∃(x_4:Unit),Xy/\∀(y_3:Unit),True->Jx x y/\(∃(x_5:Unit),QgD y/\∀(y_4:Unit),True->∀(x_6:Nat),x≠x_6/\True->QgJ x_6 y x)/\∀(x_5:Nat),x≠x_5/\True->QgK x y x_5)/\∀(x_4:Nat),x≠x_4/\True->QgL x y x_4)/\∀(x_4:Nat),x≠x_4/\True->Jx x y/\QgL x y x_4)))))) (by kernel_rfl) ?_
 delta DA GI LN N0 N1 N4 NI SI SM Z0 Z1 ZI Qgv Xx Ks Qgw Hd Qgx Qgy Jw KM He Hf Qgz Jx Xy KN QiL QiM QgA QgB QgC QgD Jy QiN QiO QgE Jz QgF QgG QgH QgI QgJ QgK QgL Xw
 have da:(default:Arr)=Arr.mk 0 [] [] []:=rfl
 simp only[<- da]
 simp only[ne_eq,implies_true,Int.toNat_natCast,Bh,Bc,decide_eq_true_eq,decide_eq_false_iff_not,true_and,and_true,beq_iff_eq,beq_eq_false_iff_ne,Bool.not_eq_true',Bool.not_eq_false',exists_const,forall_const]
 have k3:Mg tens [D.sl 1 3 (fun i=>[[D.int .i64 10],[D.int .i64 10],[D.int .i64 10]].getD i []) .full]:=by
  simp only[Mg,isl,tens,wkL,wkD,Ba]
  refine⟨⟨by simp,by simp,fun i hi=>?_,by simp[BH]⟩,trivial⟩
  rcases i with _ | _ | _ | i
  ·exact Be _
  ·exact Be _
  ·exact Be _
  ·omega
 refine fun x=>⟨Be _,fun h1=>?_⟩
 unfold fwD at h1
 simp only[Bool.and_eq_true,decide_eq_true_eq,beq_iff_eq] at h1
 obtain ⟨h1,hc⟩:=h1
 have hv:Val y:=⟨ho,hc⟩
 have f4:=(B7.1 (Cr hc)).2.2.2
 obtain ⟨s1,s2,s3⟩:=Bw hc
 have nl:y.nu.length<=65536:=by
  unfold szN at s3
  by_cases hk:y.k=3
  ·rw[if_pos hk] at f4;omega
  ·rw[if_neg hk] at s3;omega
 refine⟨⟨Be _,by omega⟩,fun h2 h3 h4=>⟨⟨0,⟨Nat.zero_le _,fun z hz=>by simp at hz⟩,rfl⟩,fun i ⟨i1,i2⟩=>⟨fun hlt=>?_,fun hge=>?_⟩⟩⟩
 ·have hlt':i<y.nu.length:=by omega
  have htk:y.nu.take (i+1)=y.nu.take i++[y.nu.getD i 0]:=CR (show i<y.nu.length from hlt')
  refine⟨⟨by omega,hlt⟩,fun q=>⟨i+1,⟨by omega,fun z hz=>?_⟩,by omega,Bb (by omega) (by omega)⟩⟩
  rw[htk,List.mem_append,List.mem_singleton] at hz
  rcases hz with h | h
  ·exact i2 z h
  ·rw[h];omega
 ·obtain rfl:i=y.nu.length:=by omega
  rw[List.take_length] at i2
  rw[smB,Bool.and_eq_true,beq_iff_eq,List.all_eq_true] at h2
  obtain ⟨h2,hk⟩:=h2
  have h2:∀z∈y.nu,-999<=z/\z<=999:=fun z hz=>by
   have:=h2 z hz
   rw[Bool.and_eq_true,decide_eq_true_eq,decide_eq_true_eq] at this
   exact this
  rw[szN,if_neg (by rw[hk];decide)] at s2
  have hn:y.nu=Cb (ynD y):=by
   rw[Cb,ynD,List.map_map]
   have:y.nu.map ((fun n:Nat=>(n:Int)) ∘ Int.toNat)=y.nu.map id:=List.map_congr_left fun z hz=>Int.toNat_of_nonneg (i2 z hz)
   rw[this,List.map_id]
  have T:EnH y (ynD y):=by
   have hl:(ynD y).length=y.nu.length:=by simp[ynD]
   have hw:y.nu.length<=50:=by
    have e:=MF y
    rw[Oy (by rw[hk];decide)] at e
    have z:BA y.k y.nu.length y.it.length=y.nu.length:=by unfold BA;rw[if_pos (by omega)]
    rw[z] at e
    omega
   obtain ⟨r1,r2,r3⟩:=(Bn _).1 s1
   refine⟨hv,hk,hn,fun n hn=>?_,by omega,by omega,(Bn _).2 ⟨by simp only[List.length_cons];omega,fun d hd=>?_,?_⟩⟩
   ·obtain ⟨z,hz,rfl⟩:=List.mem_map.1 hn
    have:=h2 z hz
    omega
   ·rcases List.mem_cons.1 hd with rfl | hd
    ·omega
    ·exact r2 d hd
   ·have hc0:y.sh.contains 0=false:=by
     cases hc:y.sh.contains 0 with
     |false=>rfl
     |true=>rw[Ml hc] at s2;omega
    rw[pzL,if_neg (by decide),RS (fun d hd=>(r2 d hd).1) hc0,<- s2]
    show 3*y.nu.length<=_
    omega
  repeat' (first | exact k3 | exact Be _ | exact⟨Be _,T⟩ | refine And.intro ?_ ?_ | intro _)
open Go Go.Ab Go.RowKit
noncomputable def Bc2:Array Value:=#[.agg #[.int .i64 0,.slice none 0 0,.slice none 0 0,.slice none 0 0]]
theorem Bac(os:Os):laidMet Try.prog Rr ((IS os).forCall (fun _ _=>0) ⟨#[],Bc2,[]⟩).memory :=
 ⟨[],(by first | exact .nil | constructor | simp[DataW.LaidVars,Rr]),List.nodup_nil,fun _ _ h=>(by cases h)⟩
theorem BdU(os:Os){H:Type}(enc:TypeId×Value->H):∃x,DataW.whole enc Try.prog ((IS os).forCall (fun _ _=>0) ⟨#[],Bc2,[]⟩).memory [26] [] false (Bc2).toList 8=some x/\Rows.uptoSmall H (x.1++x.2.1)=true :=
 BaA (by kernel_rfl)
theorem Bak{H : Type}{enc : TypeId×Value -> H}
  (W:World) (base:Nat) (args:Array Value) (ds gs:List (DataW H)) (before:List MemPlace)
  (hval:∀(j:Nat) t v,Try.f4.params[j]? =some t->args[j]? =some v->Value.okWide Try.prog W .any base t v)
  (hW:DataW.Whole enc Try.prog Try.f4.params.toList Rows.topDigitsSpec.vars false W args.toList ds gs before)
  (hsz:(DataW.weightsEach Try.prog (Try.f4.params.toList++Rows.topDigitsSpec.plain.varTypes Try.prog) (ds++gs)).all (·<=ER)=true) (hL:laidMetH Try.prog Rr W) :
  Calls Try.prog 4 args W fun e W'=>∃v,e=.returned v/\Rows.topDigitsSpec.post enc Try.prog Try.f4 false true false false W args v W':=by
 refine Ts (rs:=[(26,RArr)]) laid (by rw[Try.params4];kernel_rfl) rfl (fun ds hd=>?_) (rt:=4) rfl Try.underlying4 (by rw[Try.params4];rfl) ?_ W (Bdz hL) base args ds gs before hval hW hsz ?_
 ·rw[Try.params4] at hd
  match ds,hd with
  | [_],_=>exact⟨rfl,rfl,rfl⟩
 ·intro r hr
  simp only[List.mem_cons,List.not_mem_nil,or_false] at hr
  subst hr
  exact fun W n=>UI W n
 ·intro Ds h
  obtain ⟨dy,_,rfl,hy,h⟩:=h.agg (by kernel_rfl)
  obtain rfl:=h.nil
  obtain ⟨y,⟨ho,_⟩,rfl⟩:=hy
  exact (CD.wk (WT y ho) (by
   simp only[wkL,wkD]
   exact⟨Gv y,trivial⟩)).mono fun r S' ⟨_,_,hr,_⟩=>hr
theorem Bde(os : Os)(started : os.Started)(H : Type)(enc : TypeId×Value -> H)(F : Stop.Interp) :
  ReturnsInHanded {} Try.checked os 4 .any ((Rows.OpenSpec.upto Rows.topDigitsSpec).preRow enc Try.prog Try.f4 Rows.topDigitsUptoRow.domain false Rows.topDigitsUptoRow.laid) (((Rows.OpenSpec.upto Rows.topDigitsSpec).at F).post enc Try.prog Try.f4 false true false false):=by
 obtain ⟨x,hx,hxk⟩:=BdU os enc
 refine returnsInHanded_of_row (C:=Try.checked) (s:=Rows.OpenSpec.upto Rows.topDigitsSpec) own started (by kernel_rfl) Try.func4
  (witness_row_at (enc:=enc) (C:=Try.checked) false (IS os) Bc2 rfl (by kernel_rfl) (by kernel_rfl) (by kernel_rfl)
   (OpenSpec.preRow_of_cond 8 hx rfl (fun k hk=>by cases hk;exact hxk) (by kernel_rfl) (Bac os))) ?_
 intro W base args ds gs before hval hW _ hk _ hL _ _
 refine Bak W base args ds gs before hval hW ?_ hL
 have e:Try.f4.params.toList++Rows.topDigitsSpec.plain.varTypes Try.prog=[26]:=by rw[Try.params4];kernel_rfl
 rw[e]
 exact Bc7 Be2 (by decide +kernel) (hk _ rfl)
theorem Bex:Rows.TopDigitsUptoSaid :=
 OpenClaim.holds_of_cond 4 Try.f4 rfl rfl rfl rfl rfl rfl rfl ⟨rfl,rfl,rfl,rfl,rfl⟩ rfl rfl rfl rfl rfl (by kernel_rfl) Try.func4 (by kernel_rfl)
  (of_decide_eq_true (by kernel_rfl)) (by unfold Func.isWrapper;first | (rw[if_pos (by decide +kernel)];kernel_rfl) | (rw[if_neg (by decide +kernel)];exact⟨rfl,rfl⟩))
  (fun os started H enc _ F=>by rw[OpenClaim.pre_eq_preRow];exact Bde os started H enc F)
theorem provedTopDigits:Rows.TopDigitsUptoSaid:=Bex
end
end Go.Proofs.Ytaempooepcejaaa
