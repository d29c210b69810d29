/- Functions of the given program and what each of them computes: lemmas towards the statement, their conditions stated with each of them. -/
import Derived.Test.YtaempooepcejaaaS1
namespace Go.Proofs.Ytaempooepcejaaa
open Go Go.Ab
set_option maxRecDepth 100000
noncomputable section
theorem BaK{a:Arr}(h:(Bj a).1=0):∀b∈a.it,(Bj b).1=0:=by
 cases a with
 |mk k s n i=>exact (IQ h).2.2.2
structure Val (a:Arr):Prop where
 ok:a.ok
 c:(Bj a).1=0
theorem Val.it{a b:Arr}(h:Val a)(hb:b∈a.it):Val b:=by
 cases a with
 |mk k s nu it =>
  have ho:=h.ok
  simp only[Arr.ok] at ho
  exact⟨(CA _).1 ho.2.2.2.2.2.2 b hb,BaK h.c b hb⟩
def CmpOk(f:Arr->Arr->Ordering)(a b:Arr):Prop:=CD 47 [.agg a.row1,.agg b.row1] (.int .i64 (oI (f a b)))
theorem Ut{f : Arr -> Arr -> Ordering}{a b : Arr}{xa xb xr xc : Nat}{q : Nat×Nat×Nat -> Prop}(hf : ∀x∈a.it, ∀y∈b.it, CmpOk f x y)
  (ih:∀y,q y->ACalls Try.prog 86 ((sCe f a b xa xb xr xc (fun _=>True)).args y) ((sCe f a b xa xb xr xc (fun _=>True)).st y) (SpecR (sCe f a b xa xb xr xc (fun _=>True)) y)):ConOk Try.prog (W8 f a b xa xb xr xc q):=by
 intro k ds S A hh
 unfold W8 at hh
 split at hh
 ·injection hh with hh;subst hh
  exact ConOk.plain (fun y hy=>(ih y hy).mono fun _ _ ⟨z,h1,h2,h3⟩=>⟨z,h1,h2,h3⟩) rfl rfl
 ·injection hh with hh;subst hh
  refine B0 fun y ⟨e,h1,h2⟩=>CD.at_ ?_ _
  rw[e]
  refine (hf _ h1 _ h2).wk ?_
  have e1:=Gv y.1
  have e2:=Gv y.2
  simp only[wkL,wkD]
  exact⟨e1,e2,trivial⟩
 ·injection hh with hh;subst hh
  refine B0 fun y e=>CD.at_ ?_ _
  rw[e];exact Wk _ _
 ·injection hh with hh;subst hh
  refine B0 fun b ⟨hb,hr⟩=>CD.at_ (CD.wk ?_ hb) _
  have:=Mp b hr
  rw[Iw hr] at this
  exact this
 ·cases hh
theorem Bbf(f : Arr -> Arr -> Ordering)(a b : Arr)(xa xb xr xc : Nat)(ha : (Bj a).1=0)(hb : (Bj b).1=0)(hk : a.k=b.k)(hl : a.sh.length=b.sh.length)(hf : ∀x∈a.it, ∀y∈b.it, CmpOk f x y) :
  ∀(m:Nat) (y:Nat×Nat×Nat),a.sh.length-y.1=m->ceP a b y->ACalls Try.prog 86 ((sCe f a b xa xb xr xc (fun _=>True)).args y) ((sCe f a b xa xb xr xc (fun _=>True)).st y) (SpecR (sCe f a b xa xb xr xc (fun _=>True)) y)
 |0,(ax,i,j),hm,hp=>RV f a b xa xb xr xc ax i j (fun _=>False) ha hb hk hl hp (fun y hy e=>by have:=hy.1;simp only at hm e;omega) (Ut hf fun y hy=>hy.elim)
 |m+1,(ax,i,j),hm,hp=>RV f a b xa xb xr xc ax i j (fun y=>ceP a b y/\y.1=ax+1) ha hb hk hl hp (fun y hy e=>⟨hy,e⟩) (Ut hf fun y ⟨hy,e⟩=>Bbf f a b xa xb xr xc ha hb hk hl hf m y (by simp only at hm;omega) hy)
def Bbc(f:Arr->Arr->Ordering)(a b:Arr):Con:=fun k ds _S=>match k with
 |86=>match ds with
  | [_,_,_,.ref _ xr _,.ref _ xa _,.ref _ xb _,.ref _ xc _]=>some (sCe f a b xa xb xr xc (fun y=>y=(0,0,0)/\a.k=b.k/\a.sh.length=b.sh.length))
  |_=>none
 |_=>none
theorem Ba8{f:Arr->Arr->Ordering}{a b:Arr}(ha:(Bj a).1=0)(hb:(Bj b).1=0)(hf:∀x∈a.it,∀y∈b.it,CmpOk f x y):ConOk Try.prog (Bbc f a b):=by
 intro k ds S A hh
 unfold Bbc at hh
 split at hh
 ·split at hh
  ·injection hh with hh;subst hh
   refine ConOk.plain (fun y ⟨hy,hk,hl⟩=>(Bbf f a b _ _ _ _ ha hb hk hl hf _ y rfl ?_).mono fun _ _ ⟨z,h1,h2,h3⟩=>⟨z,h1,h2,h3⟩) rfl rfl
   rw[hy]
   have e1:=Bw ha
   have e2:=Bw hb
   exact⟨Nat.zero_le _,by simp only[List.drop_zero];omega,by simp only[List.drop_zero];omega⟩
  ·cases hh
 ·cases hh
noncomputable def Eco(f:Arr->Arr->Ordering)(a b:Arr):Senv:=EC (Bbc f a b) 27 7 [20] (fun _=>([],[]))
theorem BcB{f:Arr->Arr->Ordering}{a b:Arr}(h:a.k=b.k/\a.sh.length=b.sh.length):TD f a b=Ix f a b 0 0 0:=by
 rw[TD,if_pos h];rfl
def Kc(a:Arr):Int:=Arr.k a
def K4(a:Arr):Nat:=LN (Arr.sh a)
def Yc(a:Arr):Int:=(NI (K4 a))
def Qa3(a b:Arr):Bool:=Yc a != Yc b
def Yd(a b:Arr):Bool:=bif Kc a != Kc b then true else Qa3 a b
def Qhf(a:Arr)(b:Nat):List D:=Arr.row (GA (Arr.it a) b)
def Qa4(a:Arr):Prop:=SM (Kc a)/\(SM (K4 a)/\(∀(i:Nat),i<K4 a->SM [ZI (GI (Arr.sh a) i)])/\True)/\(SM (LN (Arr.nu a))/\(∀(i:Nat),i<LN (Arr.nu a)->SM [ZI (GI (Arr.nu a) i)])/\True)/\(SM (LN (Arr.it a))/\(∀(i:Nat),i<LN (Arr.it a)->SM (Qhf a i))/\True)/\True
theorem BeD(f:Arr->Arr->Ordering)(a b:Arr)(ha:(Bj a).1=0)(hb:(Bj b).1=0)(hf:∀x∈a.it,∀y∈b.it,CmpOk f x y):CD 73 [.agg a.row1,.agg b.row1] (.int .i64 (oI (TD f a b))):=by
 refine Bg (A:=sC _ _) (x:=()) (E:=Eco f a b) (eOk (Ba8 ha hb hf) rfl) Try.func73 rfl (by kernel_rfl) rfl (by simp[sC,Eco,EC,E0]) ?_
 refine Bl (T :=
  ∀(x:Nat),True->∀(x_1:Nat),x≠x_1/\True->(SM x/\SM x_1/\ifB (Kc a != Kc b) (true=Yd a b/\True) (SM x/\SM x_1/\Qa3 a b=Yd a b/\True))/\ifB (Yd a b) (RT (Z0=oI (TD f a b))) (SM x/\∀(x_2:Nat),x_1≠x_2/\x≠x_2/\True->SM x_2/\∀(x_3:Nat),x_2≠x_3/\x_1≠x_3/\x≠x_3/\True->SM x_3/\SM x_3/\∃(x_4:Nat×Nat×Nat),(Z0=(NI x_4.1)/\Z0=(NI x_4.2.1)/\Z0=(NI x_4.2.2)/\SM x_2/\SM x/\SM x_1/\SM x_3/\True)/\((SM x_3/\(D.fn (Fn.func (86:Nat)) [] [D.ref (max (N1+N1) (max (N0+N1) N0)) x_2 N0,D.ref N0 x N0,D.ref (max (N0+N1) N0) x_1 N0,D.ref (max (N2+N1) (max (N1+N1) (max (N0+N1) N0))) x_3 N0]=D.fn (Fn.func (86:Nat)) [] [D.ref N2 x_2 N0,D.ref N0 x N0,D.ref N1 x_1 N0,D.ref (3:Nat) x_3 N0]/\True)/\SM x_2/\(SM (Yc a)/\True)/\SM x_1/\Qa4 b/\SM x/\Qa4 a/\True)/\True)/\(x_4=(N0,N0,N0)/\Kc a=Kc b/\K4 a=K4 b)/\∀(y:Unit),True->RT (oI (Ix f a b x_4.1 x_4.2.1 x_4.2.2)=oI (TD f a b)))) (by kernel_rfl) ?_
 delta DA GA GI LN N0 N1 N2 NI SM Z0 ZI Kc K4 Yc Qa3 Yd Qhf Qa4 RT
 have da:(default:Arr)=Arr.mk 0 [] [] []:=rfl
 simp only[<- da]
 simp only[ne_eq,implies_true,Bh,true_and,and_true,bne_iff_ne,bne_eq_false_iff_eq,exists_const,forall_const,Prod.exists]
 intro x x1 _
 have hn:∀ {c:Bool},(bif a.k != b.k then true else (a.sh.length:Int) != (b.sh.length:Int))=c->(c=false↔(a.k=b.k/\a.sh.length=b.sh.length)):=by
  intro c hc
  rw[<- hc]
  by_cases hk:a.k=b.k
  ·rw[bne_eq_false_iff_eq.2 hk,cond_false];simp[hk];omega
  ·rw[bne_iff_ne.2 hk,cond_true];simp[hk]
 refine⟨⟨fun h=>by rw[bne_iff_ne.2 h,cond_true],fun h=>by rw[bne_eq_false_iff_eq.2 h,cond_false]⟩,fun h=>?_,fun h x2 _ x3 _=>⟨0,0,0,⟨rfl,rfl,rfl⟩,rfl,⟨rfl,(hn h).1 rfl⟩,?_⟩⟩
 ·rw[TD,if_neg (fun q=>absurd ((hn h).2 q) (by simp))];rfl
 ·rw[BcB ((hn h).1 rfl)]
def Bbe(f:Arr->Arr->Ordering)(a b:Arr):Con:=fun k ds S=>match k with
 |71=>some (pE (β:=Int×Int) ds S (fun y=>.int .i64 (oI (cI y.1 y.2))) (fun y=>ds=[.int .i64 y.1,.int .i64 y.2]))
 |72=>some (pE (β:=Int×Int) ds S (fun y=>.int .i64 (oI (cI y.1 y.2))) (fun y=>ds=[.int .i64 y.1,.int .i64 y.2]))
 |73=>some (pA ds S (.int .i64 (oI (TD f a b))) (wkL ds [.agg a.row1,.agg b.row1]))
 |74=>some (pA ds S (.int .i64 (oI (List.compareLex cI a.sh b.sh))) (wkL ds [isl a.sh .any,isl b.sh .any]))
 |70=>match ds with
  | [.sl 1 n g _]=>some (pC ds (.int .i64 (orL (BD n g))) (IntsP n g/\n<=100))
  |_=>none
 |_=>none
theorem Bcj{f:Arr->Arr->Ordering}{a b:Arr}(ha:Val a)(hb:Val b)(hf:∀x∈a.it,∀y∈b.it,CmpOk f x y):ConOk Try.prog (Bbe f a b):=by
 intro k ds S A hh
 unfold Bbe at hh
 split at hh
 ·injection hh with hh;subst hh
  refine B0 fun y e=>CD.at_ ?_ _
  rw[e];exact Beg _ _
 ·injection hh with hh;subst hh
  refine B0 fun y e=>CD.at_ ?_ _
  rw[e];exact Wk _ _
 ·injection hh with hh;subst hh
  exact Bv fun e=>CD.at_ (CD.wk (BeD _ _ _ ha.c hb.c hf) e) _
 ·injection hh with hh;subst hh
  exact Bv fun e=>CD.at_ (CD.wk (Be1 _ _ (by have:=((Bn _).1 (Bw ha.c).1).1;omega)) e) _
 ·split at hh
  ·injection hh with hh;subst hh
   refine Ea fun ⟨h1,h2⟩=>⟨Bq _,Cm (Ca h1) (BeR _ (by rw[CY];exact h2))⟩
  ·cases hh
 ·cases hh
noncomputable def Eoc(f:Arr->Arr->Ordering)(a b:Arr):Senv:=EC (Bbe f a b) 27 5 [] (fun id=>match id with | 1=>([0,1,2,3,5,6,7,8,9,10,12,13,15,16,17,18,4,11,14,19,20,21,22],[4,11,14,19,20,21]) | _=>([],[]))
def Ye(a:Arr):D:=ZI (Arr.k a)
def J9(a:Arr):List Int:=Arr.sh a
def K5(a:Arr):Nat:=LN (J9 a)
def Qa5(a:Arr)(b:Nat):Int:=GI (J9 a) b
def Qa6(a:Arr):D:=D.sl N1 (K5 a) (fun i=>[ZI (Qa5 a i)]) Mode.any
def QS(a:Nat)(b:Arr):Prop:=SM a/\SM (Qa6 b)
def Yf(a:Arr):Nat:=LN (Arr.nu a)
def Qa7(a:Arr)(b:Nat):Int:=GI (Arr.nu a) b
def Yg(a:Arr):Nat:=LN (Arr.it a)
def Yh(a:Arr)(b:Nat):List D:=Arr.row (GA (Arr.it a) b)
def Qhg(a:Arr):D:=D.agg [Ye a,Qa6 a,D.sl N1 (Yf a) (fun i=>[ZI (Qa7 a i)]) Mode.any,D.sl N4 (Yg a) (fun i=>Yh a i) Mode.any]
def Va(a:Nat)(b:Arr):Prop:=SM a/\SM (Qhg b)
def Yi(a:Arr):Prop:=SM (K5 a)/\(∀(i:Nat),i<K5 a->SM (Qa5 a i)/\True)/\True
def Qa8(a:Arr):Prop:=SM (Arr.k a)/\Yi a/\(SM (Yf a)/\(∀(i:Nat),i<Yf a->SM (Qa7 a i)/\True)/\True)/\(SM (Yg a)/\(∀(i:Nat),i<Yg a->wkL (Yh a i) (Yh a i))/\True)/\True
def Yj(a b:Int):List D:=[ZI (oI (cI a b))]
def Qa9(a:Nat)(b c:Arr):List D:=[ZI (oI (TD (G1 a) b c))]
def Qba(a b:Arr):List D:=[ZI (oI (List.compareLex cI (J9 a) (J9 b)))]
def Qbb(a b:Int):Int:=U2 (Yj a b)
theorem Be6(n:Nat)(a b:Arr)(ha:Val a)(hb:Val b)(hf:∀x∈a.it,∀y∈b.it,CmpOk (G1 n) x y):CmpOk (G1 (n+1)) a b:=by
 refine Bg (A:=sC _ _) (x:=()) (E:=Eoc (G1 n) a b) (eOk (Bcj ha hb hf) rfl) Try.func47 rfl (by kernel_rfl) rfl (by simp[sC,Eoc,EC,E0]) ?_
 refine Bl (T :=
  ∀(x:Nat),True->∀(x_1:Nat),x≠x_1/\True->SM x/\SM x_1/\SM x/\SM x_1/\SM x/\SM x_1/\SM x/\SM x_1/\∃(x_2:Int×Int),[Ye a,Ye b]=[ZI x_2.1,ZI x_2.2]/\∀(y:Unit),True->QS x_1 b/\QS x a/\Va x_1 b/\Va x a/\QS x_1 b/\QS x a/\∃(x_3:Int×Int),[ZI (NI (K5 a)),ZI (NI (K5 b))]=[ZI x_3.1,ZI x_3.2]/\∀(y:Unit),True->QS x_1 b/\QS x a/\Va x_1 b/\Va x a/\∃(x_4:Unit),(Qa8 a/\Qa8 b/\True)/\∀(y:Unit),True->QS x_1 b/\QS x a/\∃(x:Unit),(Yi a/\Yi b/\True)/\∀(y:Unit),True->((IntsP N4 fun i=>List.getD [Yj x_2.1 x_2.2,Yj x_3.1 x_3.2,Qa9 n a b,Qba a b] i [])/\N4<=100)/\∀(y:Unit),True->RT (orL [Qbb x_2.1 x_2.2,Qbb x_3.1 x_3.2,U2 (Qa9 n a b),U2 (Qba a b)]=oI (G1 (n+N1) a b))) (by kernel_rfl) ?_
 delta DA GA GI LN N1 N4 NI SM Z0 ZI Qa5 Qa6 QS Yf Qa7 Yg Yh Qhg Va Yi Qa8 Yj Qa9 Qba Qbb Ye J9 K5 RT
 have da:(default:Arr)=Arr.mk 0 [] [] []:=rfl
 simp only[<- da]
 simp only[ne_eq,implies_true,true_and,and_true,exists_const,forall_const,Prod.exists]
 refine fun _ _ _=>⟨_,_,rfl,_,_,rfl,⟨fun _ _=>Be _,fun _ _=>Be _⟩,⟨fun i hi=>?_,by omega⟩,?_⟩
 ·rcases i with _ | _ | _ | _ | i
  ·rfl
  ·rfl
  ·rfl
  ·rfl
  ·omega
 ·simp only[U2,orL,G1,Tk]
  repeat' split
  all_goals first | rfl | omega
theorem Rn:∀(n:Nat) (a b:Arr),Val a->Val b->SizeOf.sizeOf a<n->CmpOk (G1 n) a b
 |0,a,b,_,_,h=>absurd h (Nat.not_lt_zero _)
 |n+1,a,b,ha,hb,h=>Be6 n a b ha hb fun x hx y hy=>Rn n x y (ha.it hx) (hb.it hy) (by
   have:=List.sizeOf_lt_of_mem hx
   cases a with
   |mk k s nu it =>
    simp only[Arr.mk.sizeOf_spec] at h
    have:SizeOf.sizeOf x<SizeOf.sizeOf it:=this
    omega)
def BcM(n:Nat)(a b:Arr):Con:=fun k ds S=>match k with
 |45=>some (pE (β:=Arr) ds S (fun _=>.int .i64 0) (fun y=>wkL ds [.agg y.row1]/\(y=a\/y=b)))
 |47=>some (pA ds S (.int .i64 (oI (G1 n a b))) (wkL ds [.agg a.row1,.agg b.row1]))
 |_=>none
theorem BbM{n:Nat}{a b:Arr}(ha:Val a)(hb:Val b)(h:SizeOf.sizeOf a<n):ConOk Try.prog (BcM n a b):=by
 intro k ds S A hh
 unfold BcM at hh
 split at hh
 ·injection hh with hh;subst hh
  refine B0 fun y ⟨e,hy⟩=>CD.at_ (CD.wk ?_ e) _
  obtain rfl | rfl:=hy
  ·have:=GU _ ha.ok
   rw[ha.c] at this;exact this
  ·have:=GU _ hb.ok
   rw[hb.c] at this;exact this
 ·injection hh with hh;subst hh
  exact Bv fun e=>CD.at_ (CD.wk (Rn n a b ha hb h) e) _
 ·cases hh
noncomputable def Ecm(n:Nat)(a b:Arr):Senv:=EC (BcM n a b) 16 5 [12] (fun _=>([],[]))
def Yk(a:Arr):Int:=Arr.k a
def K6(a:Arr):Nat:=LN (Arr.sh a)
def Yl(a:Arr)(b:Nat):Int:=GI (Arr.sh a) b
def K7(a:Arr):Nat:=LN (Arr.nu a)
def Ym(a:Arr)(b:Nat):Int:=GI (Arr.nu a) b
def K8(a:Arr):Nat:=LN (Arr.it a)
def Vb(a:Arr)(b:Nat):List D:=Arr.row (GA (Arr.it a) b)
def Qbc(a b:Arr):Prop:=(Yk a=Yk b/\(K6 a=K6 b/\(∀(i:Nat),i<K6 a->Yl a i=Yl b i/\True)/\True)/\(K7 a=K7 b/\(∀(i:Nat),i<K7 a->Ym a i=Ym b i/\True)/\True)/\(K8 a=K8 b/\(∀(i:Nat),i<K8 a->wkL (Vb a i) (Vb b i))/\True)/\True)/\True
def Qbd(a:Arr):Prop:=SM (Yk a)/\(SM (K6 a)/\(∀(i:Nat),i<K6 a->SM (Yl a i)/\True)/\True)/\(SM (K7 a)/\(∀(i:Nat),i<K7 a->SM (Ym a i)/\True)/\True)/\(SM (K8 a)/\(∀(i:Nat),i<K8 a->wkL (Vb a i) (Vb a i))/\True)/\True
theorem Beu(n:Nat)(a b:Arr)(ha:Val a)(hb:Val b)(h:SizeOf.sizeOf a<n):CD 24 [.agg a.row1,.agg b.row1] (.int .i64 (oI (G1 n a b))):=by
 refine Bg (A:=sC _ _) (x:=()) (E:=Ecm n a b) (eOk (BbM ha hb h) rfl) Try.func24 rfl (by kernel_rfl) rfl (by simp[sC,Ecm,EC,E0]) ?_
 refine Bl (T :=
  ∀(x:Nat),True->∀(x_1:Nat),x≠x_1/\True->SM x/\∃(x_2:Arr),(Qbc a x_2/\(x_2=a\/x_2=b))/\∀(y:Unit),True->SM x_1/\∃(x_3:Arr),(Qbc b x_3/\(x_3=a\/x_3=b))/\∀(y:Unit),True->SM x/\SM x_1/\∃(x:Unit),(Qbd a/\Qbd b/\True)/\∀(y:Unit),True->RT (SM (oI (G1 n a b)))) (by kernel_rfl) ?_
 delta DA GA GI LN SM Z0 Yk K6 Yl K7 Ym K8 Vb Qbc Qbd RT
 have da:(default:Arr)=Arr.mk 0 [] [] []:=rfl
 simp only[<- da]
 simp only[ne_eq,implies_true,true_and,and_true,exists_const,forall_const]
 exact fun _ _ _=>⟨a,⟨⟨rfl,⟨rfl,fun _ _=>rfl⟩,⟨rfl,fun _ _=>rfl⟩,rfl,fun _ _=>Be _⟩,.inl rfl⟩,b,⟨⟨rfl,⟨rfl,fun _ _=>rfl⟩,⟨rfl,fun _ _=>rfl⟩,rfl,fun _ _=>Be _⟩,.inr rfl⟩,fun _ _=>Be _,fun _ _=>Be _⟩
noncomputable def Ekl:Senv:=EC CM 8 1 [2,4] (fun _=>([],[]))
theorem Mm(l:List Int)(h:l.length<=1000000):CD 25 [isl l .any] (isl l .any):=by
 refine Bg (A:=sC _ _) (x:=()) (E:=Ekl) (eOk By rfl) Try.func25 rfl (by kernel_rfl) rfl (by simp[sC,Ekl,EC,E0]) ?_
 refine Bl (T :=
  ∀(r:Bool),(r=true->LN l=N0)->ifB r (True/\∃(y:Unit),True/\(N0=LN l/\(∀(i:Nat),i<N0->C8 (List D) [] [ZI (GI l i)])/\True)/\True/\True) (Bd ((N0+LN l)*8<=140737488355328/\N0+LN l<=9223372036854775807) (∀(t:Nat),True/\∃(y:Unit),True/\(N0+LN l=LN l/\(∀(i:Nat),i<N0+LN l->BG N0 (fun i=>[D.str []]) (fun i=>[ZI (GI l i)]) i=[ZI (GI l i)])/\True)/\True/\True))) (by kernel_rfl) ?_
 delta GI LN N0 Z0 ZI
 simp only[Bh,Bc,true_and,and_true,exists_const,forall_const]
 refine fun r hr=>⟨fun e=>⟨(hr e).symm,fun i hi=>absurd hi (Nat.not_lt_zero i)⟩,fun _=>⟨⟨by omega,by omega⟩,by omega,fun i _=>?_⟩⟩
 rw[BG,if_neg (Nat.not_lt_zero i),Nat.sub_zero]
def rwA(a:Arr)(i:Nat):Arr:=.mk a.k a.sh.tail ((a.nu.drop (i*Bs a)).take (Bs a)) ((a.it.drop (i*Bs a)).take (Bs a))
theorem IV{a:Arr}{i:Nat}(h:Val a)(hr:a.sh≠[])(hi:(i:Int)<a.sh.headD 0):Val (rwA a i)/\i*Bs a+Bs a<=szN a:=by
 obtain ⟨ho,hc⟩:=h
 obtain ⟨z1,z2,z3⟩:=Bw hc
 cases a with
 |mk k s nu it =>
  cases s with
  |nil=>exact absurd rfl hr
  |cons d r =>
   have hi:(i:Int)<d:=hi
   obtain ⟨f1,f2,f3,f4⟩:=B7.1 (Cr hc)
   have f2:Bt (d::r)=true:=f2
   have e:prL (shN (d::r))=d.toNat*prL (shN r):=by simp[shN,prL]
   have z2:szN (.mk k (d::r) nu it)=d.toNat*prL (shN r):=by rw[<- e];exact z2
   have hb:i*prL (shN r)+prL (shN r)<=d.toNat*prL (shN r):=by
    rw[<- Nat.succ_mul];exact Nat.mul_le_mul_right _ (by omega)
   have hrr:=(Cw f2 1).2
   have hrr:Bt r=true:=hrr
   refine⟨⟨?_,?_⟩,by rw[z2];exact hb⟩
   ·simp only[Arr.ok] at ho
    obtain ⟨o1,o2,o3,o4,o5,o6,o7⟩:=ho
    simp only[rwA,Arr.k,Arr.sh,Arr.nu,Arr.it,Arr.ok,List.tail_cons,List.length_take,List.length_drop]
    simp only[List.length_cons] at o4
    exact⟨o1,fun z hz=>o2 z (List.mem_cons_of_mem _ hz),fun z hz=>o3 z (List.mem_of_mem_drop (List.mem_of_mem_take hz)),by omega,by omega,by omega,(CA _).2 fun b hb=>(CA _).1 o7 b (List.mem_of_mem_drop (List.mem_of_mem_take hb))⟩
   ·refine Bbn hc (B7.2 ⟨f1,hrr,?_,?_⟩) ((List.take_sublist _ _).trans (List.drop_sublist _ _)) ((List.take_sublist _ _).trans (List.drop_sublist _ _))
    ·skip
     show (if k=3 then ((it.drop (i*prL (shN r))).take (prL (shN r))).length else ((nu.drop (i*prL (shN r))).take (prL (shN r))).length)=prL (shN r)
     have z3:(if k=3 then it.length else nu.length)=d.toNat*prL (shN r):=z2
     by_cases hk:k=3
     ·rw[if_pos hk] at z3 ⊢
      rw[List.length_take,List.length_drop]
      omega
     ·rw[if_neg hk] at z3 ⊢
      rw[List.length_take,List.length_drop]
      omega
    ·have f4:(if k=3 then nu.length else it.length)=0:=f4
     show (if k=3 then ((nu.drop (i*prL (shN r))).take (prL (shN r))).length else ((it.drop (i*prL (shN r))).take (prL (shN r))).length)=0
     by_cases hk:k=3
     ·rw[if_pos hk] at f4 ⊢; rw[List.length_take,List.length_drop];omega
     ·rw[if_neg hk] at f4 ⊢; rw[List.length_take,List.length_drop];omega
def BaL(s:List Int)(b:Arr):Con:=fun k ds S=>match k with
 |25=>some (pA ds S (isl s .any) (wkL ds [isl s .any]/\s.length<=1000000))
 |54=>some (pA ds S (.agg b.row1) (wkL ds [.agg b.row1]/\(Bj b).1=0))
 |_=>none
theorem BbD{s:List Int}{b:Arr}:ConOk Try.prog (BaL s b):=by
 intro k ds S A hh
 unfold BaL at hh
 split at hh
 ·injection hh with hh;subst hh
  exact Bv fun ⟨e,h⟩=>CD.at_ (CD.wk (Mm s h) e) _
 ·injection hh with hh;subst hh
  exact Bv fun ⟨e,h⟩=>CD.at_ (CD.wk ((WM b h).mono fun _ _ ⟨y,q1,q2,q3⟩=>⟨(),trivial,q2,q3⟩) e) _
 ·cases hh
noncomputable def Epa(s:List Int)(b:Arr):Senv:=EC (BaL s b) 38 5 [8,9,10,21] (fun id=>match id with | 1=>([0,1,2,3,4,5,6],[3,5,6]) | _=>([],[]))
def K9(a:Arr):Nat:=LN (List.tail (Arr.sh a))
def Qbe(a:Arr)(b:Nat):Int:=GI (List.tail (Arr.sh a)) b
def Qbf(a:Arr):Prop:=((SM (K9 a)/\(∀(i:Nat),i<K9 a->SM (Qbe a i)/\True)/\True)/\True)/\K9 a<=1000000
def Yn(a:Nat)(b:Arr):Prop:=SM a/\SM (ZI (Arr.k b))
def Kd(a:Nat)(b:Arr):Int:=(NI (a*Bs b))
def Ja(a:Nat)(b:Arr):Int:=IntKind.wrap IntKind.i64 (Kd a b+(NI (Bs b)))
def Qbg(a:Nat)(b:Arr):Prop:=Kd a b<=Ja a b
def Qbh(a:Nat)(b:Arr):Prop:=SM (Ja a b)
def QA(a:Arr)(b:Nat):Arr:=rwA a b
def Qbi(a:Arr)(b:Nat):Int:=Arr.k (QA a b)
def Qbj(a:Arr)(b:Nat):Prop:=Arr.k a=Qbi a b
def Yo(a:Arr)(b:Nat):Nat:=LN (Arr.sh (QA a b))
def Qbk(a:Arr)(b:Nat):Prop:=K9 a=Yo a b/\(∀(i:Nat),i<K9 a->Qbe a i=GI (Arr.sh (QA a b)) i/\True)/\True
def Vc(a:Arr)(b:Nat):Nat:=LN (Arr.nu (QA a b))
def Yp(a:Nat)(b:Arr):Nat:=Int.toNat (Ja a b)-Int.toNat (Kd a b)
def Vd(a:Arr)(b:Nat):Nat:=LN (Arr.it (QA a b))
def Qbl(a b:Nat)(c:Arr):Prop:=a<Yp b c
def Qbm:Arr:=DA
def Yq(a:Arr)(b c:Nat):List D:=Arr.row (List.getD (Arr.it (QA a b)) c Qbm)
def Qhh(a:Arr)(b c:Nat):List D:=[ZI (GI (Arr.sh (QA a b)) c)]
def Qhi(a:Arr)(b c:Nat):List D:=[ZI (GI (Arr.nu (QA a b)) c)]
def Qbn(a:Nat)(b:Arr)(c:Nat):Prop:=∀(_y:Unit),True->SM a/\(SM a/\True)/\∃(_y:Unit),True/\(SM (Qbi b c)/\(SM (Yo b c)/\(∀(i:Nat),i<Yo b c->SM (Qhh b c i))/\True)/\(SM (Vc b c)/\(∀(i:Nat),i<Vc b c->SM (Qhi b c i))/\True)/\(SM (Vd b c)/\(∀(i:Nat),i<Vd b c->SM (Yq b c i))/\True)/\True)/\True/\True
def Qbo(a:Nat)(b:Arr)(c d e:Nat):Prop:=Yn a b/\SM c/\SM a/\ifB (Arr.k b==3) (SM a/\Z0<=Kd d b/\Qbg d b/\Ja d b<=(LI (Arr.it b))/\Qbh d b/\SM c/\SM c/\∃(_x:Unit),(((Qbj b d/\Qbk b d/\(N0=Vc b d/\(∀(i:Nat),i<N0->False)/\True)/\(Yp d b=Vd b d/\(∀(i:Nat),Qbl i d b->wkL (Arr.row (List.getD (Arr.it b) (Int.toNat (Kd d b)+i) Qbm)) (Yq b d i))/\True)/\True)/\True)/\Prod.fst (Bj (QA b d))=Z0)/\Qbn e b d) (SM a/\Z0<=Kd d b/\Qbg d b/\Ja d b<=(LI (Arr.nu b))/\Qbh d b/\SM c/\SM c/\∃(_x:Unit),(((Qbj b d/\Qbk b d/\(Yp d b=Vc b d/\(∀(i:Nat),Qbl i d b->GI (Arr.nu b) (Int.toNat (Kd d b)+i)=GI (Arr.nu (QA b d)) i/\True)/\True)/\(N0=Vd b d/\(∀(i:Nat),i<N0->wkL [] (Yq b d i))/\True)/\True)/\True)/\Prod.fst (Bj (QA b d))=Z0)/\Qbn e b d)
theorem Bet(a : Arr)(i : Nat)(h : Val a)(hr : a.sh≠[])(hi : (i : Int)<a.sh.headD 0) :
  CD 69 [.agg a.row1,.int .i64 ((i*Bs a:Nat):Int),.int .i64 (Bs a:Nat),isl a.sh.tail .any] (.agg (rwA a i).row1):=by
 refine Bg (A:=sC _ _) (x:=()) (E:=Epa a.sh.tail (rwA a i)) (eOk BbD rfl) Try.func69 rfl (by kernel_rfl) rfl (by simp[sC,Epa,EC,E0]) ?_
 refine Bl (T :=
  ∀(x:Nat),True->∀(x_1:Nat),x≠x_1/\True->SM x/\(∃(x_2:Unit),Qbf a/\∀(y:Unit),True->Yn x a/\∀(x_3:Nat),x_1≠x_3/\x≠x_3/\True->Qbo x a x_3 i x_1)/\∀(x_2:Nat),x_1≠x_2/\x≠x_2/\True->Yn x a/\∃(x_3:Unit),Qbf a/\∀(y:Unit),True->Qbo x a x_2 i x_1) (by kernel_rfl) ?_
 delta DA GI LI LN N0 NI SM Z0 ZI K9 Qbe Qbj Yo Qbk Vc Yp Vd Qbl Qbm Yq Qhh Qbf Qhi Qbn Qbo Yn Kd Ja Qbg Qbh QA Qbi
 have da:(default:Arr)=Arr.mk 0 [] [] []:=rfl
 simp only[<- da]
 simp only[ne_eq,implies_true,Int.toNat_natCast,Bh,true_and,and_true,beq_iff_eq,beq_eq_false_iff_ne,exists_const,forall_const]
 obtain ⟨rv,hb⟩:=IV h hr hi
 obtain ⟨_,_,s6⟩:=Bw h.c
 have l8:=((Bn _).1 (Bw h.c).1).1
 have wr:IntKind.i64.wrap (((i*Bs a:Nat):Int)+(Bs a:Nat))=((i*Bs a+Bs a:Nat):Int):=by rw[<- Int.natCast_add];exact Bb (by omega) (by omega)
 have lt:a.sh.tail.length<=1000000:=by rw[List.length_tail];omega
 have f4:(if a.k=3 then a.nu.length else a.it.length)=0:=(B7.1 (Cr h.c)).2.2.2
 have gi:∀(l:List Arr) (n m j:Nat),j<m->l.getD (n+j) default=((l.drop n).take m).getD j default:=fun l n m j hj=>by rw[Ep _ hj,Ch]
 have gn:∀(l:List Int) (n m j:Nat),j<m->l.getD (n+j) 0=((l.drop n).take m).getD j 0:=fun l n m j hj=>by rw[Ep _ hj,Ch]
 have hn:(rwA a i).nu=(a.nu.drop (i*Bs a)).take (Bs a):=rfl
 have ht:(rwA a i).it=(a.it.drop (i*Bs a)).take (Bs a):=rfl
 rw[wr,hn,ht]
 simp only[Int.toNat_natCast,List.length_take,List.length_drop]
 refine fun _ _ _=>⟨⟨lt,fun _ _=>⟨fun hk=>?_,fun hk=>?_⟩⟩,fun _ _=>⟨lt,fun hk=>?_,fun hk=>?_⟩⟩
 all_goals first | rw[szN,if_pos hk] at hb | rw[szN,if_neg hk] at hb
 all_goals first | rw[if_pos hk] at f4 | rw[if_neg hk] at f4
 ·exact⟨by omega,by omega,by omega,⟨rfl,⟨rfl,fun _ _=>rfl⟩,⟨by omega,fun _ h0=>absurd h0 (Nat.not_lt_zero _)⟩,by omega,fun j hj=>by rw[gi a.it _ (Bs a) j (by omega)];exact Be _⟩,rv.c⟩
 ·exact⟨by omega,by omega,by omega,⟨rfl,⟨rfl,fun _ _=>rfl⟩,⟨by omega,fun j hj=>gn a.nu _ (Bs a) j (by omega)⟩,by omega,fun _ h0=>absurd h0 (Nat.not_lt_zero _)⟩,rv.c⟩
 ·exact⟨by omega,by omega,by omega,⟨rfl,⟨rfl,fun _ _=>rfl⟩,⟨by omega,fun _ h0=>absurd h0 (Nat.not_lt_zero _)⟩,by omega,fun j hj=>by rw[gi a.it _ (Bs a) j (by omega)];exact Be _⟩,rv.c⟩
 ·exact⟨by omega,by omega,by omega,⟨rfl,⟨rfl,fun _ _=>rfl⟩,⟨by omega,fun j hj=>gn a.nu _ (Bs a) j (by omega)⟩,by omega,fun _ h0=>absurd h0 (Nat.not_lt_zero _)⟩,rv.c⟩
noncomputable def Erk:Senv:=EC CM 18 2 [4,8] (fun _=>([],[]))
theorem BeJ(n:Nat)(h:1<=n/\n<=8):CD 68 [.int .i64 (n-1:Nat),.int .i64 n] (.int .i64 (n-1:Nat)):=by
 refine Bg (A:=sC _ _) (x:=()) (E:=Erk) (eOk By rfl) Try.func68 rfl (by kernel_rfl) rfl (by simp[sC,Erk,EC,E0]) ?_
 refine Bl (T :=
  RT ((if (if (↑n:Int)<Z0 then Z0 else (↑n:Int))<(NI (n-N1)) then if (↑n:Int)<Z0 then Z0 else (↑n:Int) else (NI (n-N1)))=(NI (n-N1)))) (by kernel_rfl) ?_
 delta N1 NI Z0 RT
 simp only[true_and,and_true,exists_const]
 obtain ⟨h1,h2⟩:=h
 repeat' split
 all_goals omega
def EW(a:Arr):List Arr:=(List.range (a.sh.headD 0).toNat).map (rwA a)
theorem Cv(a:Arr):(EW a).length=(a.sh.headD 0).toNat:=by simp[EW]
theorem Ta(a:Arr){i:Nat}(h:i<(a.sh.headD 0).toNat):(EW a).getD i default=rwA a i:=by
 rw[EW,List.getD_eq_getElem?_getD,List.getElem?_map,List.getElem?_range h];rfl
def Ba2(a:Arr):Con:=fun k ds S=>match k with
 |45=>some (pA ds S (.int .i64 0) (wkL ds [.agg a.row1]))
 |68=>some (pA ds S (.int .i64 (a.sh.length-1:Nat)) (ds=[.int .i64 (a.sh.length-1:Nat),.int .i64 a.sh.length]/\1<=a.sh.length/\a.sh.length<=8))
 |32=>some (pE (β:=List Int) ds S (fun l=>.int .i64 (prL (shN l):Nat)) (fun l=>wkL ds [isl l .any]/\Bt l=true))
 |69=>some (pE (β:=Nat) ds S (fun i=>.agg (rwA a i).row1) (fun i=>wkL ds [.agg a.row1,.int .i64 ((i*Bs a:Nat):Int),.int .i64 (Bs a:Nat),isl a.sh.tail .any]/\(i:Int)<a.sh.headD 0))
 |_=>none
theorem Bcy{a:Arr}(h:Val a)(hr:a.sh≠[]):ConOk Try.prog (Ba2 a):=by
 intro k ds S A hh
 unfold Ba2 at hh
 split at hh
 ·injection hh with hh;subst hh
  refine Bv fun e=>CD.at_ (CD.wk ?_ e) _
  have:=GU _ h.ok
  rw[h.c] at this;exact this
 ·injection hh with hh;subst hh
  refine Bv fun ⟨e,h1⟩=>CD.at_ ?_ _
  rw[e];exact BeJ _ h1
 ·injection hh with hh;subst hh
  refine B0 fun b ⟨hb,hr⟩=>CD.at_ (CD.wk ?_ hb) _
  have:=Mp b hr
  rw[Iw hr] at this
  exact this
 ·injection hh with hh;subst hh
  exact B0 fun i ⟨e,hi⟩=>CD.at_ (CD.wk (Bet a i h hr hi) e) _
 ·cases hh
def vsK:D->Nat
 |.vs k _ _ _ _=>k
 |_=>0
noncomputable def Ecs(a:Arr):Senv:={ EC (Ba2 a) 53 3 [4,5,6,7,8,9,12,34,35,36] (fun id=>match id with | 3=>([0,1,2,3,4,5,6,7,8,9],[7]) | 4=>([0,1,2,3,5,6,7,8,4,9,10,11],[4,9]) | 9=>([0,1,2,3,4,5,6,7,8,9,10,11,12,13],[10,11,12]) | _=>([],[])) with
 gr:=[.slot 4]
 ann:=fun b env S=>match b with
  |0=>some { slots:=[35,8],keep:=[1,2,5,6,7,34],α:=Nat×Nat×Nat×Nat×(Nat->List D),st:=fun y=>([.int .i64 y.1,.vs (vsK (Ab.look env 8)) y.2.1 y.1 y.2.2.2.1 4],⟨(vsK (Ab.look env 8),y.2.1,.vec 4 y.2.2.1 y.2.2.2.1 y.2.2.2.2)::BN S.objs (vsK (Ab.look env 8)),S.toks⟩),inv:=fun y=>y.1<=(a.sh.headD 0).toNat/\y.1<=y.2.2.1/\∀j,j<y.1->y.2.2.2.2 j=(rwA a j).row1,mu:=fun y=>(a.sh.headD 0).toNat-y.1 }
  |_=>none }
def Qbp(a:Arr):Prop:=SM (Arr.k a)
def QE(a:Arr):List Int:=Arr.sh a
def QM(a:Arr):Nat:=LN (QE a)
def Qbq(a:Arr):Prop:=SM (QM a)
def Qbr(a:Arr)(b:Nat):Int:=GI (QE a) b
def Qbs(a:Arr):Prop:=SM (LN (Arr.nu a))
def Qbt(a:Arr)(b:Nat):Int:=GI (Arr.nu a) b
def Qbu(a:Arr):Prop:=SM (LN (Arr.it a))
def Yr:Arr:=DA
def Ys(a:Arr)(b:Nat):List D:=Arr.row (List.getD (Arr.it a) b Yr)
def Qbv(a:Arr):Prop:=Qbp a/\(Qbq a/\(∀(i:Nat),i<QM a->SM (Qbr a i)/\True)/\True)/\(Qbs a/\(∀(i:Nat),i<LN (Arr.nu a)->SM (Qbt a i)/\True)/\True)/\(Qbu a/\(∀(i:Nat),i<LN (Arr.it a)->wkL (Ys a i) (Ys a i))/\True)/\True
def Qbw(a:Arr):D:=ZI (NI (QM a-N1))
def QF(a:Arr):Int:=(NI (QM a))
def Qhj(a:Arr):List D:=[Qbw a,ZI (QF a)]
def Qbx(a:Arr)(b:Nat):List D:=[ZI (Qbr a b)]
def Qhk(a:Arr):D:=D.sl N1 (QM a) (fun i=>Qbx a i) Mode.any
def Qby(a:Nat)(b:Arr):Prop:=SM a/\SM (Qhk b)
def QT(a:Arr):Int:=IntKind.wrap IntKind.i64 (QF a-(NI (QM a-N1)))
def Yt(a:Arr):Nat:=Int.toNat (QT a)
def Qbz(a:Arr):Nat:=Yt a-N0
def Yu(a:Arr):Nat:=Int.toNat (QF a)-Yt a
def QbA(a:Nat)(b:Arr):Prop:=a<Yu b
def QbB(a:Arr)(b:Nat):Int:=GI (QE a) (Yt a+b)
def QU(a:List Int):Int:=(NI (prL (shN a)))
def Ky(a:Arr)(b:Nat):Arr:=rwA a b
def Yv(a:Nat)(b:Arr)(c:Nat)(d:Nat->List D):Prop:=a<=Int.toNat (List.headD (QE b) Z0)/\a<=c/\∀(j:Nat),j<a->d j=Arr.row1 (Ky b j)
def QbC(a:List Int):Nat:=Int.toNat (QU a)
def Yw(a:List Int)(b:Nat):Prop:=QbC a=b
def Yx:D:=D.sl N1 N0 (fun _x=>[]) Mode.nil
def QbD(a:Nat)(b:Arr):Prop:=SM a/\(Qbp b/\(Qbq b/\(∀(i:Nat),i<QM b->SM (Qbx b i))/\True)/\(Qbs b/\(∀(i:Nat),i<LN (Arr.nu b)->SM [ZI (Qbt b i)])/\True)/\(Qbu b/\(∀(i:Nat),i<LN (Arr.it b)->SM (Ys b i))/\True)/\True)/\True
def Qhl(a:Arr):D:=ZI (QT a)
def Qhm(a:List Int):D:=ZI (QU a)
def Yy(a:List Int):Prop:=SM (Qhm a)
theorem BdP(a:Arr)(h:Val a)(hr:a.sh≠[]):CD 46 [.agg a.row1,.int .i64 (a.sh.length-1:Nat)] (gsl 4 Arr.row1 (EW a)):=by
 refine Bg (A:=sC _ _) (x:=()) (E:=Ecs a) (eOk (Bcy h hr) rfl) Try.func46 rfl (by kernel_rfl) rfl (by simp[sC,Ecs,EC,E0]) ?_
 refine Bl (T :=
  ∀(x:Nat),True->SM x/\∃(x_1:Unit),(Qbv a/\True)/\∀(y:Unit),True->SM x/\SM x/\∃(x_2:Unit),(SM (Qhj a)/\N1<=QM a/\QM a<=8)/\∀(y:Unit),True->Qby x a/\SM x/\Bd (Z0<=Z0/\Z0<=QT a/\QT a<=QF a) (SM x/\Bd (Z0<=QT a/\QT a<=QF a/\QF a<=QF a) (∃(x_3:List Int),(((Qbz a=LN x_3/\(∀(i:Nat),i<Qbz a->GI (QE a) (N0+i)=GI x_3 i/\True)/\True)/\True)/\Bt x_3=true)/\∀(y:Unit),True->Qby x a/\∃(x_4:List Int),(((Yu a=LN x_4/\(∀(i:Nat),QbA i a->QbB a i=GI x_4 i/\True)/\True)/\True)/\Bt x_4=true)/\∀(y:Unit),True->Bd (Z0<=Z0/\Z0<=QU x_3/\(80:Int)*QU x_3<=281474976710656/\QU x_3<=9223372036854775807) (∀(x_5:Nat),x≠x_5/\True->(∃(x_6:Nat×Nat×Nat×Nat×(Nat->List D)),Yv x_6.1 a x_6.2.2.1 x_6.2.2.2.2/\(Z0=(NI x_6.1)/\(x_5=x_6.2.1/\N0=x_6.1/\Yw x_3 x_6.2.2.2.1)/\True)/\(x_5=x_6.2.1/\(Yw x_3 x_6.2.2.1/\Yw x_3 x_6.2.2.2.1/\∀(i:Nat),i<QbC x_3->[ZI Z0,Yx,Yx,Yx]=x_6.2.2.2.2 i)/\QbD x a)/\True)/\∀(x_6:Nat×Nat×Nat×Nat×(Nat->List D)),Yv x_6.1 a x_6.2.2.1 x_6.2.2.2.2->ifB (decide ((NI x_6.1)<QU x_3)) (SM x/\SM x/\Bd (Z0<=QT a/\QT a<=QF a/\QF a<=QF a) (∃(x_7:Nat),((Qbv a/\IntKind.wrap IntKind.i64 ((NI x_6.1)*QU x_4)=(NI (x_7*Bs a))/\QU x_4=(NI (Bs a))/\(Yu a=LN (List.tail (QE a))/\(∀(i:Nat),QbA i a->QbB a i=GI (List.tail (QE a)) i/\True)/\True)/\True)/\(↑x_7:Int)<List.headD (QE a) Z0)/\∀(y:Unit),True->SM x_6.2.1/\SM x_6.2.2.2.1/\Bd (x_6.1<=x_6.2.2.1/\(x_6.1+N1)*80<=140737488355328/\x_6.1+N1<=9223372036854775807) (∀(y cap':Nat),x_6.1+N1<=cap'->(SM (Qbw a)/\SM (D.ref N0 x N0)/\SM (Qhl a)/\Yy x_3/\Yy x_4/\Yy x_3/\True)/\∃(y_1:Nat×Nat×Nat×Nat×(Nat->List D)),Yv y_1.1 a y_1.2.2.1 y_1.2.2.2.2/\Int.toNat (List.headD (QE a) Z0)-y_1.1<Int.toNat (List.headD (QE a) Z0)-x_6.1/\(IntKind.wrap IntKind.i64 ((NI x_6.1)+Z1)=(NI y_1.1)/\(y=y_1.2.1/\x_6.1+N1=y_1.1/\cap'=y_1.2.2.2.1)/\True)/\(y=y_1.2.1/\(x_6.1+N1=y_1.2.2.1/\cap'=y_1.2.2.2.1/\∀(i:Nat),i<x_6.1+N1->BG x_6.1 x_6.2.2.2.2 (fun i=>List.getD [[ZI (Arr.k (Ky a x_7)),SI (Arr.sh (Ky a x_7)),SI (Arr.nu (Ky a x_7)),D.sl N4 (LN (Arr.it (Ky a x_7))) (fun i=>Arr.row (List.getD (Arr.it (Ky a x_7)) i Yr)) Mode.any]] i []) i=y_1.2.2.2.2 i)/\QbD x a)/\True))) (SM x_6.2.1/\SM x_6.2.2.2.1/\Bd (x_6.1<=x_6.2.2.1) ((∀(i:Nat),i<x_6.1->List.all (x_6.2.2.2.2 i) B4=true)/\∀(t:Nat),True/\∃(y:Unit),True/\(x_6.1=LN (EW a)/\(∀(i:Nat),i<x_6.1->x_6.2.2.2.2 i=Arr.row1 (List.getD (EW a) i Yr))/\True)/\True/\True)))))) (by kernel_rfl) ?_
 delta DA GI LN N0 N1 N4 NI SI SM Z0 Z1 ZI Qbp QE Qbv Qbw QF Qhj Qbx Qhk Qby QT Yt Qbz QM Yu QbA QbB QU Ky Yv QbC Yw Yx QbD Qbq Qhl Qhm Yy Qbr Qbs Qbt Qbu Yr Ys
 have da:(default:Arr)=Arr.mk 0 [] [] []:=rfl
 simp only[<- da]
 simp only[ne_eq,implies_true,Int.toNat_natCast,Bh,Bc,decide_eq_true_eq,decide_eq_false_iff_not,true_and,and_true,exists_const,forall_const,Prod.exists]
 obtain ⟨rs,_,s6⟩:=Bw h.c
 have l8:=((Bn _).1 rs).1
 have dA:=((Bn _).1 rs).2.1
 have l0:0<a.sh.length:=List.length_pos_iff.2 hr
 have w1:IntKind.i64.wrap ((a.sh.length:Int)-((a.sh.length-1:Nat):Int))=((1:Nat):Int):=by rw[Bb (by omega) (by omega)];omega
 have hd:0<=a.sh.headD 0/\a.sh.headD 0<=65536:=by
  cases hs:a.sh with
  |nil=>exact absurd hs hr
  |cons d r=>exact dA d (by rw[hs];simp)
 have ht1:a.sh.take 1=[a.sh.headD 0]:=by
  cases hs:a.sh with
  |nil=>exact absurd hs hr
  |cons d r=>rfl
 have hdr:a.sh.drop 1=a.sh.tail:=List.drop_one
 have p1:prL (shN (a.sh.take 1))=(a.sh.headD 0).toNat:=by rw[ht1];simp[shN,prL]
 have p2:prL (shN a.sh.tail)=Bs a:=rfl
 have gt:∀i,a.sh.getD (1+i) 0=a.sh.tail.getD i 0:=fun i=>by rw[<- hdr,Ch]
 simp only[w1,Int.toNat_natCast]
 refine fun x=>⟨fun _ _=>Be _,⟨by omega,by omega⟩,⟨by omega,by omega,by omega⟩,⟨by omega,by omega,by omega⟩,a.sh.take 1,⟨⟨by rw[List.length_take];omega,fun i hi=>?_⟩,(Cw rs 1).1⟩,a.sh.tail,⟨⟨by rw[List.length_tail],fun i _=>gt i⟩,by rw[<- hdr];exact (Cw rs 1).2⟩,?_⟩
 ·rw[Nat.zero_add,Ep _ (by omega)]
 rw[p1,p2]
 refine⟨⟨by omega,by omega,by omega,by omega⟩,fun x5 _=>⟨⟨0,x5,_,_,_,⟨Nat.zero_le _,Nat.zero_le _,fun j hj=>absurd hj (Nat.not_lt_zero j)⟩,⟨rfl,rfl,rfl,rfl⟩,rfl,rfl,rfl,fun _ _=>rfl⟩,?_⟩⟩
 rintro ⟨i,y,n,cap,f⟩ ⟨i1,i2,i3⟩
 simp only at i1 i2 i3 ⊢
 refine⟨fun hlt=>?_,fun hge=>⟨i2,fun j hj=>?_,by rw[Cv];omega,fun j hj=>by rw[i3 j hj,Ta a (by omega)]⟩⟩
 ·obtain ⟨_,hb⟩:=IV (i:=i) h hr (by omega)
  refine⟨⟨by omega,by omega,by omega⟩,i,⟨⟨fun _ _=>Be _,by rw[<- Int.natCast_mul];exact Bb (by omega) (by omega),trivial,by rw[List.length_tail],fun j _=>gt j⟩,by omega⟩,⟨i2,by omega,by omega⟩,fun y2 c2 hc2=>⟨i+1,y2,i+1,c2,_,⟨by omega,Nat.le_refl _,fun j hj=>?_⟩,by omega,⟨Bb (by omega) (by omega),rfl,rfl,rfl⟩,rfl,rfl,rfl,fun _ _=>rfl⟩⟩
  rw[BG]
  split
  ·rename_i hj2;exact i3 j hj2
  ·obtain rfl:j=i:=by omega
   rw[Nat.sub_self];rfl
 ·rw[i3 j hj];rfl
def rwR(p:Nat×Arr):List D:=.int .i64 p.1::p.2.row1
def rwL(a:Arr):List (Nat×Arr):=(List.range (a.sh.headD 0).toNat).map fun i=>(i,rwA a i)
theorem TA(a:Arr):(rwL a).length=(a.sh.headD 0).toNat:=by simp[rwL]
theorem Bdf(a:Arr){i:Nat}(h:i<(a.sh.headD 0).toNat):(rwL a).getD i default=(i,rwA a i):=by
 rw[rwL,List.getD_eq_getElem?_getD,List.getElem?_map,List.getElem?_range h];rfl
theorem BaM(a:Arr){i:Nat}(h:i<(a.sh.headD 0).toNat):(rwL a).getD i (0,default)=(i,rwA a i):=Bdf a h
def BbQ(a:Arr):Con:=fun k ds S=>match k with
 |45=>some (pA ds S (.int .i64 0) (wkL ds [.agg a.row1]))
 |46=>some (pA ds S (gsl 4 Arr.row1 (EW a)) (wkL ds [.agg a.row1,.int .i64 (a.sh.length-1:Nat)]))
 |_=>none
theorem BaW{a:Arr}(h:Val a)(hr:a.sh≠[]):ConOk Try.prog (BbQ a):=by
 intro k ds S A hh
 unfold BbQ at hh
 split at hh
 ·injection hh with hh;subst hh
  refine Bv fun e=>CD.at_ (CD.wk ?_ e) _
  have:=GU _ h.ok
  rw[h.c] at this;exact this
 ·injection hh with hh;subst hh
  exact Bv fun e=>CD.at_ (CD.wk (BdP a h hr) e) _
 ·cases hh
noncomputable def Ero(a:Arr):Senv:={ EC (BbQ a) 36 8 [11,21,22,23,24] (fun _=>([],[])) with
 gh:=fun b=>match b with
  |1=>[.slot 500004]
  |_=>[]
 ann:=fun b _ S=>match b with
  |1=>some { slots:=[23,4],keep:=[0,1,21,22],α:=Nat×Nat,st:=fun y=>([.int .i64 y.1,.sl 5 y.1 (fun i=>rwR ((rwL a).getD i default)) (.tok 0 y.2)],⟨S.objs,[(0,y.2)]⟩),inv:=fun y=>y.1<=(EW a).length,mu:=fun y=>(EW a).length-y.1 }
  |_=>none }
def QbE(a:Arr):Prop:=SM (Arr.k a)
def Ke(a:Arr):Nat:=LN (Arr.sh a)
def QbF(a:Arr):Prop:=SM (Ke a)
def QbG(a:Arr)(b:Nat):Int:=GI (Arr.sh a) b
def Ve(a:Arr):Nat:=LN (Arr.nu a)
def QbH(a:Arr):Prop:=SM (Ve a)
def QbI(a:Arr)(b:Nat):Int:=GI (Arr.nu a) b
def Vf(a:Arr):Nat:=LN (Arr.it a)
def QbJ(a:Arr):Prop:=SM (Vf a)
def Kf:Arr:=DA
def Vg(a:Arr)(b:Nat):List D:=Arr.row (List.getD (Arr.it a) b Kf)
def QbK(a:Arr):Prop:=QbE a/\(QbF a/\(∀(i:Nat),i<Ke a->SM (QbG a i)/\True)/\True)/\(QbH a/\(∀(i:Nat),i<Ve a->SM (QbI a i)/\True)/\True)/\(QbJ a/\(∀(i:Nat),i<Vf a->wkL (Vg a i) (Vg a i))/\True)/\True
def Kg(a:Arr):Nat:=LN (EW a)
def QbL(a:Arr)(b:Nat):Nat×Arr:=List.getD (rwL a) b (N0,Kf)
def Vh(a:Arr)(b:Nat):Arr:=Prod.snd (QbL a b)
def Qhn(a:Arr)(b:Nat):List Int:=Arr.sh (Vh a b)
def Qho(a:Arr)(b:Nat):List Int:=Arr.nu (Vh a b)
def QbM(a:Arr)(b:Nat):List Arr:=Arr.it (Vh a b)
def Vi(a:Arr)(b:Nat):List D:=[ZI (NI (Prod.fst (QbL a b))),ZI (Arr.k (Vh a b)),SI (Qhn a b),SI (Qho a b),D.sl N4 (LN (QbM a b)) (fun i=>Arr.row (List.getD (QbM a b) i Kf)) Mode.any]
def QbN(a:Arr)(b:Nat):List D:=[ZI (QbG a b)]
def QbO(a:Arr)(b:Nat):List D:=[ZI (QbI a b)]
def QbP(a:Nat)(b:Arr)(c d:Nat):Prop:=(SM a/\(QbE b/\(QbF b/\(∀(i:Nat),i<Ke b->SM (QbN b i))/\True)/\(QbH b/\(∀(i:Nat),i<Ve b->SM (QbO b i))/\True)/\(QbJ b/\(∀(i:Nat),i<Vf b->SM (Vg b i))/\True)/\True)/\True)/\c=d/\True
def Yz(a:Arr):Int:=(NI (Kg a))
def Qhp(a:Arr):D:=D.agg [ZI (Arr.k a),D.sl N1 (Ke a) (fun i=>QbN a i) Mode.any,D.sl N1 (Ve a) (fun i=>QbO a i) Mode.any,D.sl N4 (Vf a) (fun i=>Vg a i) Mode.any]
def Vj(a:Arr)(b:Nat):Arr:=List.getD (EW a) b Kf
def Qhq(a:Arr)(b:Nat):List Int:=Arr.sh (Vj a b)
def Qhr(a:Arr)(b:Nat):List Int:=Arr.nu (Vj a b)
def QbQ(a:Arr)(b:Nat):List Arr:=Arr.it (Vj a b)
def Qhs(a:Arr):D:=D.sl N4 (Kg a) (fun i=>[ZI (Arr.k (Vj a i)),SI (Qhq a i),SI (Qhr a i),D.sl N4 (LN (QbQ a i)) (fun i_1=>Arr.row (List.getD (QbQ a i) i_1 Kf)) Mode.any]) Mode.any
def Vk(a:Arr)(b:Nat):Arr:=List.getD (EW a) (Int.toNat (↑b:Int)) Kf
def Qht(a:Arr)(b:Nat):List Int:=Arr.sh (Vk a b)
def Qhu(a:Arr)(b:Nat):List Int:=Arr.nu (Vk a b)
def QbR(a:Arr)(b:Nat):List Arr:=Arr.it (Vk a b)
theorem BeC(a:Arr)(h:Val a)(hr:a.sh≠[]):CD 20 [.agg a.row1] (.tup [gsl 5 rwR (rwL a),.int .i64 0]):=by
 refine Bg (A:=sC _ _) (x:=()) (E:=Ero a) (eOk (BaW h hr) rfl) Try.func20 rfl (by kernel_rfl) rfl (by simp[sC,Ero,EC,E0]) ?_
 refine Bl (T :=
  ∀(x:Nat),True->SM x/\∃(x_1:Unit),(QbK a/\True)/\∀(y:Unit),True->SM x/\ifB ((NI (Ke a))==Z0) (True/\∃(y:Unit),True/\(False/\(15:Int)=Z0/\True)/\True/\True) (SM x/\SM x/\∃(x_2:Unit),(QbK a/\IntKind.wrap IntKind.i64 ((NI (Ke a))-Z1)=(NI (Ke a-N1))/\True)/\∀(y:Unit),True->∀(t:Nat),(∃(x_3:Nat×Nat),x_3.1<=Kg a/\(Z0=(NI x_3.1)/\(N0=x_3.1/\(∀(i:Nat),i<N0->C8 (List D) [] (Vi a i))/\t=x_3.2)/\True)/\QbP x a t x_3.2)/\∀(x_3:Nat×Nat),x_3.1<=Kg a->ifB (decide ((NI x_3.1)<Yz a)) (Bd (Z0<=(NI x_3.1)/\(NI x_3.1)<Yz a) (∀(x_4:Nat),x≠x_4/\True->SM x_4/\SM x_4/\SM x_3.2/\Bd ((x_3.1+N1)*88<=140737488355328/\x_3.1+N1<=9223372036854775807) (∀(t:Nat),(SM (Qhp a)/\SM (D.ref N0 x N0)/\SM (Qhs a)/\SM (ZI (Yz a))/\True)/\∃(y:Nat×Nat),y.1<=Kg a/\Kg a-y.1<Kg a-x_3.1/\(IntKind.wrap IntKind.i64 ((NI x_3.1)+Z1)=(NI y.1)/\(x_3.1+N1=y.1/\(∀(i:Nat),i<x_3.1+N1->BG x_3.1 (fun i=>Vi a i) (fun i=>List.getD [[ZI (NI x_3.1),ZI (Arr.k (Vk a x_3.1)),SI (Qht a x_3.1),SI (Qhu a x_3.1),D.sl N4 (LN (QbR a x_3.1)) (fun i=>Arr.row (List.getD (QbR a x_3.1) i Kf)) Mode.any]] i []) i=Vi a i)/\t=y.2)/\True)/\QbP x a t y.2))) (True/\∃(y:Unit),True/\((x_3.1=LN (rwL a)/\(∀(i:Nat),i<x_3.1->SM (Vi a i))/\True)/\SM Z0/\True)/\True/\True))) (by kernel_rfl) ?_
 delta DA GI LN N0 N1 N4 NI SI SM Z0 Z1 ZI QbE Ke Vg QbK Kg QbL Vh Qhn Qho QbM Vi QbN QbF QbO QbP Yz Qhp Vj Qhq Qhr QbQ Qhs Vk QbG Qht Qhu QbR Ve QbH QbI Vf QbJ Kf
 have da:(default:Arr)=Arr.mk 0 [] [] []:=rfl
 simp only[<- da]
 simp only[ne_eq,implies_true,Int.toNat_natCast,Bh,Bc,decide_eq_true_eq,decide_eq_false_iff_not,true_and,and_true,beq_iff_eq,beq_eq_false_iff_ne,exists_const,forall_const,Prod.exists]
 have l0:0<a.sh.length:=List.length_pos_iff.2 hr
 have l8:=((Bn _).1 (Bw h.c).1).1
 have dd:(a.sh.headD 0).toNat<=65536:=by
  have dA:=((Bn _).1 (Bw h.c).1).2.1
  cases hs:a.sh with
  |nil=>exact absurd hs hr
  |cons d r=>have:=dA d (by rw[hs];simp);show d.toNat<=_;omega
 have w1:IntKind.i64.wrap ((a.sh.length:Int)-1)=((a.sh.length-1:Nat):Int):=by rw[Bb (by omega) (by omega)];omega
 refine fun x=>⟨fun _ _=>Be _,fun e=>absurd e (by omega),fun _=>⟨⟨fun _ _=>Be _,w1⟩,fun t=>⟨⟨0,t,Nat.zero_le _,⟨rfl,rfl,(fun i hi=>absurd hi (Nat.not_lt_zero i)),rfl⟩,rfl⟩,?_⟩⟩⟩
 rintro ⟨i,t1⟩ hi
 simp only at hi ⊢
 rw[Cv] at hi
 refine⟨fun hlt=>⟨⟨by omega,hlt⟩,fun x4 _=>⟨⟨by omega,by omega⟩,fun t2=>⟨i+1,t2,by rw[Cv] at hlt ⊢; omega,by rw[Cv] at hlt ⊢; omega,⟨Bb (by rw[Cv] at hlt;omega) (by rw[Cv] at hlt;omega),rfl,fun j hj=>?_,rfl⟩,rfl⟩⟩⟩,fun hge=>by rw[Cv] at hge;rw[TA];omega⟩
 rw[Cv] at hlt
 rw[BG]
 split
 ·rfl
 ·obtain rfl:j=i:=by omega
  rw[Nat.sub_self,Ta a (by omega),BaM a (by omega)]
  rfl
abbrev Rw:=Nat×Arr
def leC(c:Rw->Rw->Ordering)(p q:Rw):Bool:=(c p q).isLE
def msF(le:Rw->Rw->Bool):Nat->List Rw->List Rw
 |0,l=>l
 |n+1,l=>if l.length<2 then l else List.merge (msF le n (l.take (l.length / 2))) (msF le n (l.drop (l.length / 2))) le
theorem C4(le:Rw->Rw->Bool):∀(n:Nat) (l:List Rw),(msF le n l).Perm l
 |0,l=>List.Perm.refl _
 |n+1,l=>by
  rw[msF]
  split
  ·exact List.Perm.refl _
  ·refine (List.merge_perm_append (le:=le)).trans (((C4 le n _).append (C4 le n _)).trans ?_)
   rw[List.take_append_drop]
theorem Mt(le:Rw->Rw->Bool)(n:Nat)(l:List Rw):(msF le n l).length=l.length:=(C4 le n l).length_eq
def CmpC(k:Nat)(c:Rw->Rw->Ordering)(p q:Rw):Prop:=CD k [.agg (rwR p),.agg (rwR q)] (.int .i64 (oI (c p q)))
def Mw(k0:Nat)(c:Rw->Rw->Ordering)(n:Nat)(l:List Rw):Con:=fun k ds S=>match k with
 |22=>some (pE (β:=List Rw) ds S (fun u=>gsl 5 rwR (msF (leC c) n u)) (fun u=>wkL ds [gsl 5 rwR u,.fn (.func k0) [] []]/\(0<u.length/\u.length<=n)/\∀p∈u,p∈l))
 |23=>some (pE (β:=Rw×Rw) ds S (fun y=>.int .i64 (oI (c y.1 y.2))) (fun y=>ds=[.agg (rwR y.1),.agg (rwR y.2)]/\y.1∈l/\y.2∈l/\k0=23))
 |26=>some (pE (β:=Rw×Rw) ds S (fun y=>.int .i64 (oI (c y.1 y.2))) (fun y=>ds=[.agg (rwR y.1),.agg (rwR y.2)]/\y.1∈l/\y.2∈l/\k0=26))
 |_=>none
theorem Mr{o u:List Rw}{f:Nat->List D}(hf:∀j,j<o.length->f j=rwR (o.getD j (0,default)))(j:Nat)(_hj:j<o.length+u.length):BG o.length f (fun i=>rwR (u.getD i (0,default))) j=rwR ((o++u).getD j (0,default)):=by
 rw[BG]
 split
 ·rename_i h
  rw[hf j h,List.getD_eq_getElem?_getD,List.getD_eq_getElem?_getD,List.getElem?_append_left h]
 ·rename_i h
  rw[List.getD_eq_getElem?_getD,List.getD_eq_getElem?_getD,List.getElem?_append_right (by omega)]
theorem IB{o:List Rw}{p:Rw}{f:Nat->List D}(hf:∀j,j<o.length->f j=rwR (o.getD j (0,default)))(j:Nat)(hj:j<o.length+1):BG o.length f (fun i=>[rwR p].getD i []) j=rwR ((o++[p]).getD j (0,default)):=by
 rw[BG]
 split
 ·rename_i h
  rw[hf j h,List.getD_eq_getElem?_getD,List.getD_eq_getElem?_getD,List.getElem?_append_left h]
 ·rename_i h
  obtain rfl:j=o.length:=by omega
  rw[Nat.sub_self,List.getD_eq_getElem?_getD (l:=o++[p]),List.getElem?_append_right (by omega),Nat.sub_self];rfl
theorem BaI(p:Rw):[D.int .i64 (p.1:Int),D.int .i64 p.2.k,D.sl 1 p.2.sh.length (fun i=>[D.int .i64 (p.2.sh.getD i 0)]) .any,D.sl 1 p.2.nu.length (fun i=>[D.int .i64 (p.2.nu.getD i 0)]) .any,D.sl 4 p.2.it.length (fun i=>(p.2.it.getD i default).row) .any]=rwR p:=rfl
theorem BcI(p:Rw):(rwR p).all B4=true:=rfl
noncomputable def Eme(k0:Nat)(c:Rw->Rw->Ordering)(n:Nat)(l A B:List Rw):Senv:={ EC (Mw k0 c n l) 67 2 [4,5,6,7,10,36,45] (fun id=>match id with | 3=>([0,1,2,3,4,5,7,8,9,10,11,12,6,13,14,15],[6,13]) | 6=>([0,1,2,3,4,5,6,7,8],[7]) | 7=>([0,1,2,3,6,7,4,5,8,9],[4,5]) | 8=>([0,1,2,3,6,7,4,5,8,9],[4,5]) | _=>([],[])) with
 gr:=[.slot 4]
 ann:=fun b env S=>match b with
  |0=>some { slots:=[5,6,7],keep:=[1],α:=List Rw×List Rw×List Rw×Nat×Nat×Nat×(Nat->List D),st:=fun y=>([gsl 5 rwR y.1,gsl 5 rwR y.2.1,.vs (vsK (Ab.look env 7)) y.2.2.2.1 y.2.2.1.length y.2.2.2.2.2.1 5],⟨(vsK (Ab.look env 7),y.2.2.2.1,.vec 5 y.2.2.2.2.1 y.2.2.2.2.2.1 y.2.2.2.2.2.2)::BN S.objs (vsK (Ab.look env 7)),S.toks⟩),inv:=fun y=>(∀p∈y.1,p∈l)/\(∀p∈y.2.1,p∈l)/\y.2.2.1++List.merge y.1 y.2.1 (leC c)=List.merge A B (leC c)/\y.2.2.1.length<=y.2.2.2.2.1/\y.2.2.1.length+y.1.length+y.2.1.length<=65536/\∀j,j<y.2.2.1.length->y.2.2.2.2.2.2 j=rwR (y.2.2.1.getD j default),mu:=fun y=>y.1.length+y.2.1.length }
  |_=>none }
def QG:Arr:=DA
def QV:Nat×Arr:=(N0,QG)
def QbS(a:List Rw)(b:Nat):Nat×Arr:=List.getD a b QV
def YA(a:List Rw)(b:Nat):Int:=(NI (Prod.fst (QbS a b)))
def Vl(a:List Rw)(b:Nat):Arr:=Prod.snd (QbS a b)
def YB(a:List Rw)(b:Nat):Int:=Arr.k (Vl a b)
def QbT(a:List Rw)(b:Nat):List Int:=Arr.sh (Vl a b)
def YC(a:List Rw)(b:Nat):Nat:=LN (QbT a b)
def YD(a:List Rw)(b c:Nat):Int:=GI (QbT a b) c
def QbU(a:List Rw)(b:Nat):List Int:=Arr.nu (Vl a b)
def YE(a:List Rw)(b:Nat):Nat:=LN (QbU a b)
def YF(a:List Rw)(b c:Nat):Int:=GI (QbU a b) c
def QbV(a:List Rw)(b:Nat):List Arr:=Arr.it (Vl a b)
def YG(a:List Rw)(b:Nat):Nat:=LN (QbV a b)
def YH(a:List Rw)(b c:Nat):List D:=Arr.row (List.getD (QbV a b) c QG)
def Kh(a:List Rw)(b:Nat):List D:=[ZI (YA a b),ZI (YB a b),D.sl N1 (YC a b) (fun i=>[ZI (YD a b i)]) Mode.any,D.sl N1 (YE a b) (fun i=>[ZI (YF a b i)]) Mode.any,D.sl N4 (YG a b) (fun i=>YH a b i) Mode.any]
def QbW(a:Rw->Rw->Ordering)(b:Nat)(c:List Rw)(d:Nat):Nat×Arr:=List.getD (msF (leC a) (b+N1) c) d QV
def Vm(a:Rw->Rw->Ordering)(b:Nat)(c:List Rw)(d:Nat):Arr:=Prod.snd (QbW a b c d)
def Qhv(a:Rw->Rw->Ordering)(b:Nat)(c:List Rw)(d:Nat):List Int:=Arr.sh (Vm a b c d)
def Qhw(a:Rw->Rw->Ordering)(b:Nat)(c:List Rw)(d:Nat):List Int:=Arr.nu (Vm a b c d)
def QbX(a:Rw->Rw->Ordering)(b:Nat)(c:List Rw)(d:Nat):List Arr:=Arr.it (Vm a b c d)
def QbY(a:Rw->Rw->Ordering)(b:Nat)(c:List Rw)(d:Nat):List D:=[ZI (NI (Prod.fst (QbW a b c d))),ZI (Arr.k (Vm a b c d)),SI (Qhv a b c d),SI (Qhw a b c d),D.sl N4 (LN (QbX a b c d)) (fun i=>Arr.row (List.getD (QbX a b c d) i QG)) Mode.any]
def Jb(a:List Rw):Int:=IntKind.wrap IntKind.i64 (Int.tdiv (LI a) (2:Int))
def Vn(a:List Rw):Nat:=Int.toNat (Jb a)
def QbZ(a:List Rw)(b:Nat):Nat×Arr:=List.getD a (N0+b) QV
def Vo(a:List Rw)(b:Nat):Arr:=Prod.snd (QbZ a b)
def Qb0(a:List Rw)(b:Nat):List Int:=Arr.sh (Vo a b)
def Qb1(a:List Rw)(b:Nat):Nat:=LN (Qb0 a b)
def Qb2(a:List Rw)(b:Nat):List Int:=Arr.nu (Vo a b)
def Qb3(a:List Rw)(b:Nat):Nat:=LN (Qb2 a b)
def Qb4(a:List Rw)(b:Nat):List Arr:=Arr.it (Vo a b)
def Qb5(a:List Rw)(b:Nat):Nat:=LN (Qb4 a b)
def Vp:Prop:=SM (D.fn (Fn.func (23:Nat)) [] [])/\True
def YI(a b:List Rw):Prop:=∀(p:Rw),p∈a->p∈b
def Qb6(a:List Rw)(b:Nat)(c:List Rw):Prop:=(N0<LN a/\LN a<=b)/\YI a c
def Qb7(a:List Rw):Nat:=TL a-Vn a
def Qb8(a:List Rw)(b:Nat):Nat×Arr:=List.getD a (Vn a+b) QV
def Vq(a:List Rw)(b:Nat):Arr:=Prod.snd (Qb8 a b)
def Qb9(a:List Rw)(b:Nat):List Int:=Arr.sh (Vq a b)
def Qca(a:List Rw)(b:Nat):Nat:=LN (Qb9 a b)
def Qcb(a:List Rw)(b:Nat):List Int:=Arr.nu (Vq a b)
def Qcc(a:List Rw)(b:Nat):Nat:=LN (Qcb a b)
def Qcd(a:List Rw)(b:Nat):List Arr:=Arr.it (Vq a b)
def Qce(a:List Rw)(b:Nat):Nat:=LN (Qcd a b)
def Qcf(a:List Rw)(b:Nat):Rw:=List.getD a b QV
def Vr(a:List Rw)(b:Nat):Arr:=Prod.snd (Qcf a b)
def Qhx(a:List Rw)(b:Nat):List Int:=Arr.sh (Vr a b)
def Qhy(a:List Rw)(b:Nat):List Int:=Arr.nu (Vr a b)
def Qcg(a:List Rw)(b:Nat):List Arr:=Arr.it (Vr a b)
def Vs(a b c d:List Rw)(e:Rw->Rw->Ordering)(f g:Nat)(h:Nat->List D):Prop:=YI a b/\YI c b/\d++List.merge a c (leC e)=List.merge (msF (leC e) f (List.take (LN b / N2) b)) (msF (leC e) f (List.drop (LN b / N2) b)) (leC e)/\LN d<=g/\LN d+LN a+LN c<=65536/\∀(j:Nat),j<LN d->h j=[ZI (NI (Prod.fst (Qcf d j))),ZI (Arr.k (Vr d j)),SI (Qhx d j),SI (Qhy d j),D.sl N4 (LN (Qcg d j)) (fun i=>Arr.row (List.getD (Qcg d j) i QG)) Mode.any]
def Qch(a:Rw->Rw->Ordering)(b:Nat)(c:List Rw)(d:Nat):Nat×Arr:=List.getD (msF (leC a) b c) d QV
def Vt(a:Rw->Rw->Ordering)(b:Nat)(c:List Rw)(d:Nat):Arr:=Prod.snd (Qch a b c d)
def Qhz(a:Rw->Rw->Ordering)(b:Nat)(c:List Rw)(d:Nat):List Int:=Arr.sh (Vt a b c d)
def QhA(a:Rw->Rw->Ordering)(b:Nat)(c:List Rw)(d:Nat):List Int:=Arr.nu (Vt a b c d)
def Qci(a:Rw->Rw->Ordering)(b:Nat)(c:List Rw)(d:Nat):List Arr:=Arr.it (Vt a b c d)
def Qcj(a:Rw->Rw->Ordering)(b:Nat)(c d:List Rw):Prop:=LN (msF (leC a) b c)=LN d/\(∀(i:Nat),i<LN (msF (leC a) b c)->[ZI (NI (Prod.fst (Qch a b c i))),ZI (Arr.k (Vt a b c i)),SI (Qhz a b c i),SI (QhA a b c i),D.sl N4 (LN (Qci a b c i)) (fun i_1=>Arr.row (List.getD (Qci a b c i) i_1 QG)) Mode.any]=Kh d i)/\True
def YJ:D:=D.sl N1 N0 (fun _x=>[]) Mode.nil
def Vu(a:List Rw):Bool:=decide (Z0<(LI a))
def YK(a b:List Rw):Bool:=bif Vu a then Vu b else false
def Qck(a:List Rw):Nat×Arr:=List.getD a N0 QV
def Vv(a:List Rw):Arr:=Prod.snd (Qck a)
def QhB(a:List Rw):List Int:=Arr.sh (Vv a)
def QhC(a:List Rw):List Int:=Arr.nu (Vv a)
def Qcl(a:List Rw):List Arr:=Arr.it (Vv a)
def Qcm(a:List Rw):List D:=[ZI (NI (Prod.fst (Qck a))),ZI (Arr.k (Vv a)),SI (QhB a),SI (QhC a),D.sl N4 (LN (Qcl a)) (fun i=>Arr.row (List.getD (Qcl a) i QG)) Mode.any]
def Qcn(a:List Rw):D:=D.agg (Qcm a)
def Qco(a:Nat)(b:Arr):D:=D.agg [ZI (↑a:Int),ZI (Arr.k b),SI (Arr.sh b),SI (Arr.nu b),D.sl N4 (LN (Arr.it b)) (fun i=>Arr.row (List.getD (Arr.it b) i QG)) Mode.any]
def Qcp(a:List Rw)(b:Nat):Nat×Arr:=List.getD a (N1+b) QV
def Vw(a:List Rw)(b:Nat):Arr:=Prod.snd (Qcp a b)
def QhD(a:List Rw)(b:Nat):List Int:=Arr.sh (Vw a b)
def QhE(a:List Rw)(b:Nat):List Int:=Arr.nu (Vw a b)
def Qcq(a:List Rw)(b:Nat):List Arr:=Arr.it (Vw a b)
def Qcr(a b:List Rw):Prop:=TL a-N1=LN b/\(∀(i:Nat),i<TL a-N1->[ZI (NI (Prod.fst (Qcp a i))),ZI (Arr.k (Vw a i)),SI (QhD a i),SI (QhE a i),D.sl N4 (LN (Qcq a i)) (fun i_1=>Arr.row (List.getD (Qcq a i) i_1 QG)) Mode.any]=Kh b i)/\True
def Qcs(a b:List Rw):Prop:=LN a=LN b/\(∀(i:Nat),i<LN a->Kh a i=Kh b i)/\True
def Qct(a b:Nat)(c:List Rw)(d e f:Nat)(g:Nat->List D)(h:List Rw)(k:Nat->List D):Prop:=(a=b/\(LN c+N1=d/\e=f/\∀(i:Nat),i<LN c+N1->BG (LN c) g (fun i=>List.getD [Qcm h] i []) i=k i)/\True)/\True
def QW(a b c:List Rw):Nat:=LN a+LN b+LN c
def Qcu(a b:List Rw)(c:Nat->List D)(d:List Rw)(e:Nat):List D:=BG (LN a+LN b) (BG (LN a) c fun i=>Kh b i) (fun i=>Kh d i) e
theorem UQ(c : Rw -> Rw -> Ordering)(n : Nat)(l : List Rw)(hn : l.length<=n+1)(hl : l.length<=65536)(hc : ConOk Try.prog (Mw 23 c n l)) :
  CD 22 [gsl 5 rwR l,.fn (.func 23) [] []] (gsl 5 rwR (msF (leC c) (n+1) l)):=by
 refine Bg (A:=sC _ _) (x:=()) (E:=Eme 23 c n l (msF (leC c) n (l.take (l.length / 2))) (msF (leC c) n (l.drop (l.length / 2)))) (eOk hc rfl) Try.func22 rfl (by kernel_rfl) rfl (by simp[sC,Eme,EC,E0]) ?_
 refine Bl (T :=
  ifB (decide ((LI l)<2)) (True/\∃(y:Unit),True/\(LN l=LN (msF (leC c) (n+N1) l)/\(∀(i:Nat),i<LN l->Kh l i=QbY c n l i)/\True)/\True/\True) (Bd (Z0<=Z0/\Z0<=Jb l/\Jb l<=(LI l)) (Bd (Z0<=Jb l/\Jb l<=(LI l)/\(LI l)<=(LI l)) (∃(x:List Rw),(((Vn l-N0=LN x/\(∀(i:Nat),i<Vn l-N0->(NI (Prod.fst (QbZ l i)))=YA x i/\Arr.k (Vo l i)=YB x i/\(Qb1 l i=YC x i/\(∀(i_1:Nat),i_1<Qb1 l i->GI (Qb0 l i) i_1=YD x i i_1/\True)/\True)/\(Qb3 l i=YE x i/\(∀(i_1:Nat),i_1<Qb3 l i->GI (Qb2 l i) i_1=YF x i i_1/\True)/\True)/\(Qb5 l i=YG x i/\(∀(i_1:Nat),i_1<Qb5 l i->wkL (Arr.row (List.getD (Qb4 l i) i_1 QG)) (YH x i i_1))/\True)/\True)/\True)/\Vp)/\Qb6 x n l)/\∀(y:Unit),True->∃(x_1:List Rw),(((Qb7 l=LN x_1/\(∀(i:Nat),i<Qb7 l->(NI (Prod.fst (Qb8 l i)))=YA x_1 i/\Arr.k (Vq l i)=YB x_1 i/\(Qca l i=YC x_1 i/\(∀(i_1:Nat),i_1<Qca l i->GI (Qb9 l i) i_1=YD x_1 i i_1/\True)/\True)/\(Qcc l i=YE x_1 i/\(∀(i_1:Nat),i_1<Qcc l i->GI (Qcb l i) i_1=YF x_1 i i_1/\True)/\True)/\(Qce l i=YG x_1 i/\(∀(i_1:Nat),i_1<Qce l i->wkL (Arr.row (List.getD (Qcd l i) i_1 QG)) (YH x_1 i i_1))/\True)/\True)/\True)/\Vp)/\Qb6 x_1 n l)/\∀(y:Unit),True->Bd (Z0<=Z0/\Z0<=(LI l)/\(88:Int)*(LI l)<=281474976710656/\(LI l)<=9223372036854775807) (∀(x_2:Nat),True->(∃(x_3:List Rw×List Rw×List Rw×Nat×Nat×Nat×(Nat->List D)),Vs x_3.1 l x_3.2.1 x_3.2.2.1 c n x_3.2.2.2.2.1 x_3.2.2.2.2.2.2/\(Qcj c n x x_3.1/\Qcj c n x_1 x_3.2.1/\(x_2=x_3.2.2.2.1/\N0=LN x_3.2.2.1/\TL l=x_3.2.2.2.2.2.1)/\True)/\(x_2=x_3.2.2.2.1/\(TL l=x_3.2.2.2.2.1/\TL l=x_3.2.2.2.2.2.1/\∀(i:Nat),i<TL l->[ZI Z0,ZI Z0,YJ,YJ,YJ]=x_3.2.2.2.2.2.2 i)/\True)/\True)/\∀(x:List Rw×List Rw×List Rw×Nat×Nat×Nat×(Nat->List D)),Vs x.1 l x.2.1 x.2.2.1 c n x.2.2.2.2.1 x.2.2.2.2.2.2->ifB (Vu x.1) (Vu x.2.1=YK x.1 x.2.1/\True) (false=YK x.1 x.2.1/\True)/\ifB (YK x.1 x.2.1) (Bd (Z0<=Z0/\Z0<(LI x.1)) (Bd (Z0<=Z0/\Z0<(LI x.2.1)) (∃(x_3:Rw×Rw),([Qcn x.1,Qcn x.2.1]=[Qco x_3.1.1 x_3.1.2,Qco x_3.2.1 x_3.2.2]/\x_3.1∈l/\x_3.2∈l/\SM (23:Nat))/\∀(y:Unit),True->ifB (decide (oI (c x_3.1 x_3.2)<=Z0)) (Bd (Z0<=Z0/\Z0<(LI x.1)) (Bd (Z0<=Z1/\Z1<=(LI x.1)/\(LI x.1)<=(LI x.1)) (SM x.2.2.2.1/\SM x.2.2.2.2.2.1/\Bd (LN x.2.2.1<=x.2.2.2.2.1/\(LN x.2.2.1+N1)*88<=140737488355328/\LN x.2.2.1+N1<=9223372036854775807) (∀(y cap':Nat),LN x.2.2.1+N1<=cap'->Vp/\∃(y_1:List Rw×List Rw×List Rw×Nat×Nat×Nat×(Nat->List D)),Vs y_1.1 l y_1.2.1 y_1.2.2.1 c n y_1.2.2.2.2.1 y_1.2.2.2.2.2.2/\LN y_1.1+LN y_1.2.1<LN x.1+LN x.2.1/\(Qcr x.1 y_1.1/\Qcs x.2.1 y_1.2.1/\(y=y_1.2.2.2.1/\LN x.2.2.1+N1=LN y_1.2.2.1/\cap'=y_1.2.2.2.2.2.1)/\True)/\Qct y y_1.2.2.2.1 x.2.2.1 y_1.2.2.2.2.1 cap' y_1.2.2.2.2.2.1 x.2.2.2.2.2.2 x.1 y_1.2.2.2.2.2.2)))) (Bd (Z0<=Z0/\Z0<(LI x.2.1)) (Bd (Z0<=Z1/\Z1<=(LI x.2.1)/\(LI x.2.1)<=(LI x.2.1)) (SM x.2.2.2.1/\SM x.2.2.2.2.2.1/\Bd (LN x.2.2.1<=x.2.2.2.2.1/\(LN x.2.2.1+N1)*88<=140737488355328/\LN x.2.2.1+N1<=9223372036854775807) (∀(y cap':Nat),LN x.2.2.1+N1<=cap'->Vp/\∃(y_1:List Rw×List Rw×List Rw×Nat×Nat×Nat×(Nat->List D)),Vs y_1.1 l y_1.2.1 y_1.2.2.1 c n y_1.2.2.2.2.1 y_1.2.2.2.2.2.2/\LN y_1.1+LN y_1.2.1<LN x.1+LN x.2.1/\(Qcs x.1 y_1.1/\Qcr x.2.1 y_1.2.1/\(y=y_1.2.2.2.1/\LN x.2.2.1+N1=LN y_1.2.2.1/\cap'=y_1.2.2.2.2.2.1)/\True)/\Qct y y_1.2.2.2.1 x.2.2.1 y_1.2.2.2.2.1 cap' y_1.2.2.2.2.2.1 x.2.2.2.2.2.2 x.2.1 y_1.2.2.2.2.2.2))))))) (SM x.2.2.2.1/\SM x.2.2.2.2.2.1/\Bd (LN x.2.2.1<=x.2.2.2.2.1/\(LN x.2.2.1+LN x.1)*88<=140737488355328/\LN x.2.2.1+LN x.1<=9223372036854775807) (∀(y cap':Nat),LN x.2.2.1+LN x.1<=cap'->SM y/\SM cap'/\Bd (LN x.2.2.1+LN x.1<=LN x.2.2.1+LN x.1/\QW x.2.2.1 x.1 x.2.1*88<=140737488355328/\QW x.2.2.1 x.1 x.2.1<=9223372036854775807) (∀(y cap':Nat),QW x.2.2.1 x.1 x.2.1<=cap'->SM y/\SM cap'/\Bd (QW x.2.2.1 x.1 x.2.1<=QW x.2.2.1 x.1 x.2.1) ((∀(i:Nat),i<QW x.2.2.1 x.1 x.2.1->List.all (Qcu x.2.2.1 x.1 x.2.2.2.2.2.2 x.2.1 i) B4=true)/\∀(t:Nat),True/\∃(y:Unit),True/\(QW x.2.2.1 x.1 x.2.1=LN (msF (leC c) (n+N1) l)/\(∀(i:Nat),i<QW x.2.2.1 x.1 x.2.1->Qcu x.2.2.1 x.1 x.2.2.2.2.2.2 x.2.1 i=QbY c n l i)/\True)/\True/\True))))))))) (by kernel_rfl) ?_
 delta DA GI LI LN N0 N1 N2 N4 NI SI SM TL Z0 Z1 ZI QG QV YE YF QbV YG YH Kh QbW Vm Qhv Qhw QbS QbX QbY Jb Vn QbZ Vo Qb0 Qb1 Qb2 Qb3 YA Qb4 Qb5 Vp YI Qb6 Qb7 Qb8 Vq Qb9 Qca Vl Qcb Qcc Qcd Qce Qcf Vr Qhx Qhy Qcg Vs YB Qch Vt Qhz QhA Qci Qcj YJ Vu YK Qck QbT Vv QhB QhC Qcl Qcm Qcn Qco Qcp Vw QhD YC QhE Qcq Qcr Qcs Qct QW Qcu YD QbU
 have da:(default:Arr)=Arr.mk 0 [] [] []:=rfl
 simp only[<- da]
 simp only[Int.toNat_natCast,Bh,Bc,decide_eq_true_eq,decide_eq_false_iff_not,true_and,and_true,exists_const,forall_const,Prod.exists]
 simp only[BaI]
 have e2:(l.length:Int).tdiv 2=((l.length / 2:Nat):Int):=rfl
 have wh:IntKind.i64.wrap ((l.length:Int).tdiv 2)=((l.length / 2:Nat):Int):=by rw[e2];exact Bb (by omega) (by omega)
 simp only[wh,Int.toNat_natCast]
 refine⟨fun h=>?_,fun h=>⟨⟨by omega,by omega,by omega⟩,⟨by omega,by omega,by omega⟩,l.take (l.length / 2),⟨⟨by rw[List.length_take];omega,fun i hi=>?_⟩,by rw[List.length_take];omega,fun p hp=>List.mem_of_mem_take hp⟩,
  l.drop (l.length / 2),⟨⟨by rw[List.length_drop],fun i hi=>?_⟩,by rw[List.length_drop];omega,fun p hp=>List.mem_of_mem_drop hp⟩,⟨by omega,by omega,by omega,by omega⟩,fun x2=>⟨?_,?_⟩⟩⟩
 ·have e:msF (leC c) (n+1) l=l:=by rw[msF,if_pos (by omega)]
  rw[e]
  exact⟨rfl,fun _ _=>rfl⟩
 ·rw[Nat.zero_add,Ep _ (show i<l.length / 2 by omega)]
  exact⟨rfl,rfl,⟨rfl,fun _ _=>rfl⟩,⟨rfl,fun _ _=>rfl⟩,rfl,fun _ _=>Be _⟩
 ·rw[Ch]
  exact⟨rfl,rfl,⟨rfl,fun _ _=>rfl⟩,⟨rfl,fun _ _=>rfl⟩,rfl,fun _ _=>Be _⟩
 ·exact⟨_,_,[],_,_,_,_,⟨fun p hp=>List.mem_of_mem_take ((C4 _ _ _).mem_iff.1 hp),fun p hp=>List.mem_of_mem_drop ((C4 _ _ _).mem_iff.1 hp),List.nil_append _,Nat.zero_le _,by rw[Mt,Mt,List.length_take,List.length_drop,List.length_nil];omega,fun j hj=>absurd hj (Nat.not_lt_zero j)⟩,⟨⟨rfl,fun _ _=>rfl⟩,⟨rfl,fun _ _=>rfl⟩,rfl,rfl,rfl⟩,rfl,rfl,rfl,fun _ _=>rfl⟩
 have em:msF (leC c) (n+1) l=(msF (leC c) n (l.take (l.length / 2))).merge (msF (leC c) n (l.drop (l.length / 2))) (leC c):=by rw[msF,if_neg (by omega)]
 rw[<- em]
 rintro ⟨u,v,o,y,m,cap,f⟩ ⟨i1,i2,i3,i4,i5,i6⟩
 simp only at i1 i2 i3 i4 i5 i6 ⊢
 refine⟨⟨fun hu=>by rw[decide_eq_true hu,cond_true],fun hu=>by rw[decide_eq_false hu,cond_false]⟩,fun hb=>?_,fun hb=>?_⟩
 ·have hu:0<u.length:=by
   cases u with
   |nil=>simp at hb
   |cons _ _=>simp
  have hv:0<v.length:=by
   cases v with
   |nil=>cases u<;>simp at hb
   |cons _ _=>simp
  obtain ⟨p,u,rfl⟩:=List.exists_cons_of_length_pos hu
  obtain ⟨q,v,rfl⟩:=List.exists_cons_of_length_pos hv
  simp only[List.length_cons] at i5 ⊢
  refine⟨⟨by omega,by omega⟩,⟨by omega,by omega⟩,p.1,p.2,q.1,q.2,⟨rfl,i1 p (by simp),i2 q (by simp)⟩,fun hc1=>⟨⟨by omega,by omega⟩,⟨by omega,by omega,by omega⟩,⟨i4,by omega,by omega⟩,fun y2 c2 hc2=>?_⟩,fun hc1=>⟨⟨by omega,by omega⟩,⟨by omega,by omega,by omega⟩,⟨i4,by omega,by omega⟩,fun y2 c2 hc2=>?_⟩⟩
  ·have hm:(p::u).merge (q::v) (leC c)=p::u.merge (q::v) (leC c):=List.cons_merge_cons_pos _ _ _ (R2.1 hc1)
   refine⟨u,q::v,o++[p],y2,o.length+1,c2,BG o.length f (fun i=>[rwR p].getD i []),⟨fun x hx=>i1 x (by simp[hx]),i2,?_,?_,?_,fun j hj=>?_⟩,?_,⟨⟨rfl,fun i hi=>?_⟩,⟨rfl,fun _ _=>rfl⟩,rfl,?_,rfl⟩,rfl,rfl,rfl,fun _ _=>rfl⟩
   ·rw[<- i3,hm,List.append_assoc];rfl
   ·rw[List.length_append];exact Nat.le_refl _
   ·simp only[List.length_append,List.length_cons,List.length_nil];omega
   ·exact IB i6 j (by simpa using hj)
   ·simp only[List.length_cons];omega
   ·rw[Nat.add_comm 1 i];rfl
   ·rw[List.length_append];rfl
  ·have hm:(p::u).merge (q::v) (leC c)=q::(p::u).merge v (leC c):=List.cons_merge_cons_neg _ _ _ (fun e=>hc1 (R2.2 e))
   refine⟨p::u,v,o++[q],y2,o.length+1,c2,BG o.length f (fun i=>[rwR q].getD i []),⟨i1,fun x hx=>i2 x (by simp[hx]),?_,?_,?_,fun j hj=>?_⟩,?_,⟨⟨rfl,fun _ _=>rfl⟩,⟨rfl,fun i hi=>?_⟩,rfl,?_,rfl⟩,rfl,rfl,rfl,fun _ _=>rfl⟩
   ·rw[<- i3,hm,List.append_assoc];rfl
   ·rw[List.length_append];exact Nat.le_refl _
   ·simp only[List.length_append,List.length_cons,List.length_nil];omega
   ·exact IB i6 j (by simpa using hj)
   ·simp only[List.length_cons];omega
   ·rw[Nat.add_comm 1 i];rfl
   ·rw[List.length_append];rfl
 ·have hz:u=[]\/v=[]:=by
   cases u with
   |nil=>exact .inl rfl
   |cons _ _ =>
    cases v with
    |nil=>exact .inr rfl
    |cons _ _=>simp at hb
  have hr:o++u++v=msF (leC c) (n+1) l:=by
   rw[<- i3]
   rcases hz with rfl | rfl
   ·rw[List.nil_merge,List.append_nil]
   ·rw[List.merge_right,List.append_nil]
  have h1:=Mr (u:=u) i6
  have h2:=fun j hj=>Mr (o:=o++u) (u:=v) (fun j hj=>h1 j (by simpa using hj)) j hj
  simp only[List.length_append] at h2
  have hrl:(msF (leC c) (n+1) l).length=o.length+u.length+v.length:=by rw[<- hr,List.length_append,List.length_append]
  refine⟨⟨i4,by omega,by omega⟩,fun _ _=>⟨⟨Nat.le_refl _,by omega,by omega⟩,fun _ _=>⟨Nat.le_refl _,fun i hi=>?_,hrl.symm,fun i hi=>?_⟩⟩⟩
  ·rw[h2 i hi];exact BcI _
  ·rw[h2 i hi,hr]
def QH:Arr:=DA
def QX:Nat×Arr:=(N0,QH)
def Qcv(a:List Rw)(b:Nat):Nat×Arr:=List.getD a b QX
def YL(a:List Rw)(b:Nat):Int:=(NI (Prod.fst (Qcv a b)))
def Vx(a:List Rw)(b:Nat):Arr:=Prod.snd (Qcv a b)
def YM(a:List Rw)(b:Nat):Int:=Arr.k (Vx a b)
def Qcw(a:List Rw)(b:Nat):List Int:=Arr.sh (Vx a b)
def YN(a:List Rw)(b:Nat):Nat:=LN (Qcw a b)
def YO(a:List Rw)(b c:Nat):Int:=GI (Qcw a b) c
def Qcx(a:List Rw)(b:Nat):List Int:=Arr.nu (Vx a b)
def YP(a:List Rw)(b:Nat):Nat:=LN (Qcx a b)
def YQ(a:List Rw)(b c:Nat):Int:=GI (Qcx a b) c
def Qcy(a:List Rw)(b:Nat):List Arr:=Arr.it (Vx a b)
def YR(a:List Rw)(b:Nat):Nat:=LN (Qcy a b)
def YS(a:List Rw)(b c:Nat):List D:=Arr.row (List.getD (Qcy a b) c QH)
def Ki(a:List Rw)(b:Nat):List D:=[ZI (YL a b),ZI (YM a b),D.sl N1 (YN a b) (fun i=>[ZI (YO a b i)]) Mode.any,D.sl N1 (YP a b) (fun i=>[ZI (YQ a b i)]) Mode.any,D.sl N4 (YR a b) (fun i=>YS a b i) Mode.any]
def Qcz(a:Rw->Rw->Ordering)(b:Nat)(c:List Rw)(d:Nat):Nat×Arr:=List.getD (msF (leC a) (b+N1) c) d QX
def Vy(a:Rw->Rw->Ordering)(b:Nat)(c:List Rw)(d:Nat):Arr:=Prod.snd (Qcz a b c d)
def QhF(a:Rw->Rw->Ordering)(b:Nat)(c:List Rw)(d:Nat):List Int:=Arr.sh (Vy a b c d)
def QhG(a:Rw->Rw->Ordering)(b:Nat)(c:List Rw)(d:Nat):List Int:=Arr.nu (Vy a b c d)
def QcA(a:Rw->Rw->Ordering)(b:Nat)(c:List Rw)(d:Nat):List Arr:=Arr.it (Vy a b c d)
def QcB(a:Rw->Rw->Ordering)(b:Nat)(c:List Rw)(d:Nat):List D:=[ZI (NI (Prod.fst (Qcz a b c d))),ZI (Arr.k (Vy a b c d)),SI (QhF a b c d),SI (QhG a b c d),D.sl N4 (LN (QcA a b c d)) (fun i=>Arr.row (List.getD (QcA a b c d) i QH)) Mode.any]
def Jc(a:List Rw):Int:=IntKind.wrap IntKind.i64 (Int.tdiv (LI a) (2:Int))
def Vz(a:List Rw):Nat:=Int.toNat (Jc a)
def QcC(a:List Rw)(b:Nat):Nat×Arr:=List.getD a (N0+b) QX
def VA(a:List Rw)(b:Nat):Arr:=Prod.snd (QcC a b)
def QcD(a:List Rw)(b:Nat):List Int:=Arr.sh (VA a b)
def QcE(a:List Rw)(b:Nat):Nat:=LN (QcD a b)
def QcF(a:List Rw)(b:Nat):List Int:=Arr.nu (VA a b)
def QcG(a:List Rw)(b:Nat):Nat:=LN (QcF a b)
def QcH(a:List Rw)(b:Nat):List Arr:=Arr.it (VA a b)
def QcI(a:List Rw)(b:Nat):Nat:=LN (QcH a b)
def VB:Prop:=SM (D.fn (Fn.func (26:Nat)) [] [])/\True
def YT(a b:List Rw):Prop:=∀(p:Rw),p∈a->p∈b
def QcJ(a:List Rw)(b:Nat)(c:List Rw):Prop:=(N0<LN a/\LN a<=b)/\YT a c
def QcK(a:List Rw):Nat:=TL a-Vz a
def QcL(a:List Rw)(b:Nat):Nat×Arr:=List.getD a (Vz a+b) QX
def VC(a:List Rw)(b:Nat):Arr:=Prod.snd (QcL a b)
def QcM(a:List Rw)(b:Nat):List Int:=Arr.sh (VC a b)
def QcN(a:List Rw)(b:Nat):Nat:=LN (QcM a b)
def QcO(a:List Rw)(b:Nat):List Int:=Arr.nu (VC a b)
def QcP(a:List Rw)(b:Nat):Nat:=LN (QcO a b)
def QcQ(a:List Rw)(b:Nat):List Arr:=Arr.it (VC a b)
def QcR(a:List Rw)(b:Nat):Nat:=LN (QcQ a b)
def QcS(a:List Rw)(b:Nat):Rw:=List.getD a b QX
def VD(a:List Rw)(b:Nat):Arr:=Prod.snd (QcS a b)
def QhH(a:List Rw)(b:Nat):List Int:=Arr.sh (VD a b)
def QhI(a:List Rw)(b:Nat):List Int:=Arr.nu (VD a b)
def QcT(a:List Rw)(b:Nat):List Arr:=Arr.it (VD a b)
def VE(a b c d:List Rw)(e:Rw->Rw->Ordering)(f g:Nat)(h:Nat->List D):Prop:=YT a b/\YT c b/\d++List.merge a c (leC e)=List.merge (msF (leC e) f (List.take (LN b / N2) b)) (msF (leC e) f (List.drop (LN b / N2) b)) (leC e)/\LN d<=g/\LN d+LN a+LN c<=65536/\∀(j:Nat),j<LN d->h j=[ZI (NI (Prod.fst (QcS d j))),ZI (Arr.k (VD d j)),SI (QhH d j),SI (QhI d j),D.sl N4 (LN (QcT d j)) (fun i=>Arr.row (List.getD (QcT d j) i QH)) Mode.any]
def QcU(a:Rw->Rw->Ordering)(b:Nat)(c:List Rw)(d:Nat):Nat×Arr:=List.getD (msF (leC a) b c) d QX
def VF(a:Rw->Rw->Ordering)(b:Nat)(c:List Rw)(d:Nat):Arr:=Prod.snd (QcU a b c d)
def QhJ(a:Rw->Rw->Ordering)(b:Nat)(c:List Rw)(d:Nat):List Int:=Arr.sh (VF a b c d)
def QhK(a:Rw->Rw->Ordering)(b:Nat)(c:List Rw)(d:Nat):List Int:=Arr.nu (VF a b c d)
def QcV(a:Rw->Rw->Ordering)(b:Nat)(c:List Rw)(d:Nat):List Arr:=Arr.it (VF a b c d)
def QcW(a:Rw->Rw->Ordering)(b:Nat)(c d:List Rw):Prop:=LN (msF (leC a) b c)=LN d/\(∀(i:Nat),i<LN (msF (leC a) b c)->[ZI (NI (Prod.fst (QcU a b c i))),ZI (Arr.k (VF a b c i)),SI (QhJ a b c i),SI (QhK a b c i),D.sl N4 (LN (QcV a b c i)) (fun i_1=>Arr.row (List.getD (QcV a b c i) i_1 QH)) Mode.any]=Ki d i)/\True
def YU:D:=D.sl N1 N0 (fun _x=>[]) Mode.nil
def VG(a:List Rw):Bool:=decide (Z0<(LI a))
def YV(a b:List Rw):Bool:=bif VG a then VG b else false
def QcX(a:List Rw):Nat×Arr:=List.getD a N0 QX
def VH(a:List Rw):Arr:=Prod.snd (QcX a)
def QhL(a:List Rw):List Int:=Arr.sh (VH a)
def QhM(a:List Rw):List Int:=Arr.nu (VH a)
def QcY(a:List Rw):List Arr:=Arr.it (VH a)
def QcZ(a:List Rw):List D:=[ZI (NI (Prod.fst (QcX a))),ZI (Arr.k (VH a)),SI (QhL a),SI (QhM a),D.sl N4 (LN (QcY a)) (fun i=>Arr.row (List.getD (QcY a) i QH)) Mode.any]
def Qc0(a:List Rw):D:=D.agg (QcZ a)
def Qc1(a:Nat)(b:Arr):D:=D.agg [ZI (↑a:Int),ZI (Arr.k b),SI (Arr.sh b),SI (Arr.nu b),D.sl N4 (LN (Arr.it b)) (fun i=>Arr.row (List.getD (Arr.it b) i QH)) Mode.any]
def Qc2(a:List Rw)(b:Nat):Nat×Arr:=List.getD a (N1+b) QX
def VI(a:List Rw)(b:Nat):Arr:=Prod.snd (Qc2 a b)
def QhN(a:List Rw)(b:Nat):List Int:=Arr.sh (VI a b)
def QhO(a:List Rw)(b:Nat):List Int:=Arr.nu (VI a b)
def Qc3(a:List Rw)(b:Nat):List Arr:=Arr.it (VI a b)
def Qc4(a b:List Rw):Prop:=TL a-N1=LN b/\(∀(i:Nat),i<TL a-N1->[ZI (NI (Prod.fst (Qc2 a i))),ZI (Arr.k (VI a i)),SI (QhN a i),SI (QhO a i),D.sl N4 (LN (Qc3 a i)) (fun i_1=>Arr.row (List.getD (Qc3 a i) i_1 QH)) Mode.any]=Ki b i)/\True
def Qc5(a b:List Rw):Prop:=LN a=LN b/\(∀(i:Nat),i<LN a->Ki a i=Ki b i)/\True
def Qc6(a b:Nat)(c:List Rw)(d e f:Nat)(g:Nat->List D)(h:List Rw)(k:Nat->List D):Prop:=(a=b/\(LN c+N1=d/\e=f/\∀(i:Nat),i<LN c+N1->BG (LN c) g (fun i=>List.getD [QcZ h] i []) i=k i)/\True)/\True
def QY(a b c:List Rw):Nat:=LN a+LN b+LN c
def Qc7(a b:List Rw)(c:Nat->List D)(d:List Rw)(e:Nat):List D:=BG (LN a+LN b) (BG (LN a) c fun i=>Ki b i) (fun i=>Ki d i) e
theorem Wa(c : Rw -> Rw -> Ordering)(n : Nat)(l : List Rw)(hn : l.length<=n+1)(hl : l.length<=65536)(hc : ConOk Try.prog (Mw 26 c n l)) :
  CD 22 [gsl 5 rwR l,.fn (.func 26) [] []] (gsl 5 rwR (msF (leC c) (n+1) l)):=by
 refine Bg (A:=sC _ _) (x:=()) (E:=Eme 26 c n l (msF (leC c) n (l.take (l.length / 2))) (msF (leC c) n (l.drop (l.length / 2)))) (eOk hc rfl) Try.func22 rfl (by kernel_rfl) rfl (by simp[sC,Eme,EC,E0]) ?_
 refine Bl (T :=
  ifB (decide ((LI l)<2)) (True/\∃(y:Unit),True/\(LN l=LN (msF (leC c) (n+N1) l)/\(∀(i:Nat),i<LN l->Ki l i=QcB c n l i)/\True)/\True/\True) (Bd (Z0<=Z0/\Z0<=Jc l/\Jc l<=(LI l)) (Bd (Z0<=Jc l/\Jc l<=(LI l)/\(LI l)<=(LI l)) (∃(x:List Rw),(((Vz l-N0=LN x/\(∀(i:Nat),i<Vz l-N0->(NI (Prod.fst (QcC l i)))=YL x i/\Arr.k (VA l i)=YM x i/\(QcE l i=YN x i/\(∀(i_1:Nat),i_1<QcE l i->GI (QcD l i) i_1=YO x i i_1/\True)/\True)/\(QcG l i=YP x i/\(∀(i_1:Nat),i_1<QcG l i->GI (QcF l i) i_1=YQ x i i_1/\True)/\True)/\(QcI l i=YR x i/\(∀(i_1:Nat),i_1<QcI l i->wkL (Arr.row (List.getD (QcH l i) i_1 QH)) (YS x i i_1))/\True)/\True)/\True)/\VB)/\QcJ x n l)/\∀(y:Unit),True->∃(x_1:List Rw),(((QcK l=LN x_1/\(∀(i:Nat),i<QcK l->(NI (Prod.fst (QcL l i)))=YL x_1 i/\Arr.k (VC l i)=YM x_1 i/\(QcN l i=YN x_1 i/\(∀(i_1:Nat),i_1<QcN l i->GI (QcM l i) i_1=YO x_1 i i_1/\True)/\True)/\(QcP l i=YP x_1 i/\(∀(i_1:Nat),i_1<QcP l i->GI (QcO l i) i_1=YQ x_1 i i_1/\True)/\True)/\(QcR l i=YR x_1 i/\(∀(i_1:Nat),i_1<QcR l i->wkL (Arr.row (List.getD (QcQ l i) i_1 QH)) (YS x_1 i i_1))/\True)/\True)/\True)/\VB)/\QcJ x_1 n l)/\∀(y:Unit),True->Bd (Z0<=Z0/\Z0<=(LI l)/\(88:Int)*(LI l)<=281474976710656/\(LI l)<=9223372036854775807) (∀(x_2:Nat),True->(∃(x_3:List Rw×List Rw×List Rw×Nat×Nat×Nat×(Nat->List D)),VE x_3.1 l x_3.2.1 x_3.2.2.1 c n x_3.2.2.2.2.1 x_3.2.2.2.2.2.2/\(QcW c n x x_3.1/\QcW c n x_1 x_3.2.1/\(x_2=x_3.2.2.2.1/\N0=LN x_3.2.2.1/\TL l=x_3.2.2.2.2.2.1)/\True)/\(x_2=x_3.2.2.2.1/\(TL l=x_3.2.2.2.2.1/\TL l=x_3.2.2.2.2.2.1/\∀(i:Nat),i<TL l->[ZI Z0,ZI Z0,YU,YU,YU]=x_3.2.2.2.2.2.2 i)/\True)/\True)/\∀(x:List Rw×List Rw×List Rw×Nat×Nat×Nat×(Nat->List D)),VE x.1 l x.2.1 x.2.2.1 c n x.2.2.2.2.1 x.2.2.2.2.2.2->ifB (VG x.1) (VG x.2.1=YV x.1 x.2.1/\True) (false=YV x.1 x.2.1/\True)/\ifB (YV x.1 x.2.1) (Bd (Z0<=Z0/\Z0<(LI x.1)) (Bd (Z0<=Z0/\Z0<(LI x.2.1)) (∃(x_3:Rw×Rw),([Qc0 x.1,Qc0 x.2.1]=[Qc1 x_3.1.1 x_3.1.2,Qc1 x_3.2.1 x_3.2.2]/\x_3.1∈l/\x_3.2∈l/\SM (26:Nat))/\∀(y:Unit),True->ifB (decide (oI (c x_3.1 x_3.2)<=Z0)) (Bd (Z0<=Z0/\Z0<(LI x.1)) (Bd (Z0<=Z1/\Z1<=(LI x.1)/\(LI x.1)<=(LI x.1)) (SM x.2.2.2.1/\SM x.2.2.2.2.2.1/\Bd (LN x.2.2.1<=x.2.2.2.2.1/\(LN x.2.2.1+N1)*88<=140737488355328/\LN x.2.2.1+N1<=9223372036854775807) (∀(y cap':Nat),LN x.2.2.1+N1<=cap'->VB/\∃(y_1:List Rw×List Rw×List Rw×Nat×Nat×Nat×(Nat->List D)),VE y_1.1 l y_1.2.1 y_1.2.2.1 c n y_1.2.2.2.2.1 y_1.2.2.2.2.2.2/\LN y_1.1+LN y_1.2.1<LN x.1+LN x.2.1/\(Qc4 x.1 y_1.1/\Qc5 x.2.1 y_1.2.1/\(y=y_1.2.2.2.1/\LN x.2.2.1+N1=LN y_1.2.2.1/\cap'=y_1.2.2.2.2.2.1)/\True)/\Qc6 y y_1.2.2.2.1 x.2.2.1 y_1.2.2.2.2.1 cap' y_1.2.2.2.2.2.1 x.2.2.2.2.2.2 x.1 y_1.2.2.2.2.2.2)))) (Bd (Z0<=Z0/\Z0<(LI x.2.1)) (Bd (Z0<=Z1/\Z1<=(LI x.2.1)/\(LI x.2.1)<=(LI x.2.1)) (SM x.2.2.2.1/\SM x.2.2.2.2.2.1/\Bd (LN x.2.2.1<=x.2.2.2.2.1/\(LN x.2.2.1+N1)*88<=140737488355328/\LN x.2.2.1+N1<=9223372036854775807) (∀(y cap':Nat),LN x.2.2.1+N1<=cap'->VB/\∃(y_1:List Rw×List Rw×List Rw×Nat×Nat×Nat×(Nat->List D)),VE y_1.1 l y_1.2.1 y_1.2.2.1 c n y_1.2.2.2.2.1 y_1.2.2.2.2.2.2/\LN y_1.1+LN y_1.2.1<LN x.1+LN x.2.1/\(Qc5 x.1 y_1.1/\Qc4 x.2.1 y_1.2.1/\(y=y_1.2.2.2.1/\LN x.2.2.1+N1=LN y_1.2.2.1/\cap'=y_1.2.2.2.2.2.1)/\True)/\Qc6 y y_1.2.2.2.1 x.2.2.1 y_1.2.2.2.2.1 cap' y_1.2.2.2.2.2.1 x.2.2.2.2.2.2 x.2.1 y_1.2.2.2.2.2.2))))))) (SM x.2.2.2.1/\SM x.2.2.2.2.2.1/\Bd (LN x.2.2.1<=x.2.2.2.2.1/\(LN x.2.2.1+LN x.1)*88<=140737488355328/\LN x.2.2.1+LN x.1<=9223372036854775807) (∀(y cap':Nat),LN x.2.2.1+LN x.1<=cap'->SM y/\SM cap'/\Bd (LN x.2.2.1+LN x.1<=LN x.2.2.1+LN x.1/\QY x.2.2.1 x.1 x.2.1*88<=140737488355328/\QY x.2.2.1 x.1 x.2.1<=9223372036854775807) (∀(y cap':Nat),QY x.2.2.1 x.1 x.2.1<=cap'->SM y/\SM cap'/\Bd (QY x.2.2.1 x.1 x.2.1<=QY x.2.2.1 x.1 x.2.1) ((∀(i:Nat),i<QY x.2.2.1 x.1 x.2.1->List.all (Qc7 x.2.2.1 x.1 x.2.2.2.2.2.2 x.2.1 i) B4=true)/\∀(t:Nat),True/\∃(y:Unit),True/\(QY x.2.2.1 x.1 x.2.1=LN (msF (leC c) (n+N1) l)/\(∀(i:Nat),i<QY x.2.2.1 x.1 x.2.1->Qc7 x.2.2.1 x.1 x.2.2.2.2.2.2 x.2.1 i=QcB c n l i)/\True)/\True/\True))))))))) (by kernel_rfl) ?_
 delta DA GI LI LN N0 N1 N2 N4 NI SI SM TL Z0 Z1 ZI QH QX YP YQ Qcy YR YS Ki Qcz Vy QhF QhG Qcv QcA QcB Jc Vz QcC VA QcD QcE QcF QcG YL QcH QcI VB YT QcJ QcK QcL VC QcM QcN Vx QcO QcP QcQ QcR QcS VD QhH QhI QcT VE YM QcU VF QhJ QhK QcV QcW YU VG YV QcX Qcw VH QhL QhM QcY QcZ Qc0 Qc1 Qc2 VI QhN YN QhO Qc3 Qc4 Qc5 Qc6 QY Qc7 YO Qcx
 have da:(default:Arr)=Arr.mk 0 [] [] []:=rfl
 simp only[<- da]
 simp only[Int.toNat_natCast,Bh,Bc,decide_eq_true_eq,decide_eq_false_iff_not,true_and,and_true,exists_const,forall_const,Prod.exists]
 simp only[BaI]
 have e2:(l.length:Int).tdiv 2=((l.length / 2:Nat):Int):=rfl
 have wh:IntKind.i64.wrap ((l.length:Int).tdiv 2)=((l.length / 2:Nat):Int):=by rw[e2];exact Bb (by omega) (by omega)
 simp only[wh,Int.toNat_natCast]
 refine⟨fun h=>?_,fun h=>⟨⟨by omega,by omega,by omega⟩,⟨by omega,by omega,by omega⟩,l.take (l.length / 2),⟨⟨by rw[List.length_take];omega,fun i hi=>?_⟩,by rw[List.length_take];omega,fun p hp=>List.mem_of_mem_take hp⟩,
  l.drop (l.length / 2),⟨⟨by rw[List.length_drop],fun i hi=>?_⟩,by rw[List.length_drop];omega,fun p hp=>List.mem_of_mem_drop hp⟩,⟨by omega,by omega,by omega,by omega⟩,fun x2=>⟨?_,?_⟩⟩⟩
 ·have e:msF (leC c) (n+1) l=l:=by rw[msF,if_pos (by omega)]
  rw[e]
  exact⟨rfl,fun _ _=>rfl⟩
 ·rw[Nat.zero_add,Ep _ (show i<l.length / 2 by omega)]
  exact⟨rfl,rfl,⟨rfl,fun _ _=>rfl⟩,⟨rfl,fun _ _=>rfl⟩,rfl,fun _ _=>Be _⟩
 ·rw[Ch]
  exact⟨rfl,rfl,⟨rfl,fun _ _=>rfl⟩,⟨rfl,fun _ _=>rfl⟩,rfl,fun _ _=>Be _⟩
 ·exact⟨_,_,[],_,_,_,_,⟨fun p hp=>List.mem_of_mem_take ((C4 _ _ _).mem_iff.1 hp),fun p hp=>List.mem_of_mem_drop ((C4 _ _ _).mem_iff.1 hp),List.nil_append _,Nat.zero_le _,by rw[Mt,Mt,List.length_take,List.length_drop,List.length_nil];omega,fun j hj=>absurd hj (Nat.not_lt_zero j)⟩,⟨⟨rfl,fun _ _=>rfl⟩,⟨rfl,fun _ _=>rfl⟩,rfl,rfl,rfl⟩,rfl,rfl,rfl,fun _ _=>rfl⟩
 have em:msF (leC c) (n+1) l=(msF (leC c) n (l.take (l.length / 2))).merge (msF (leC c) n (l.drop (l.length / 2))) (leC c):=by rw[msF,if_neg (by omega)]
 rw[<- em]
 rintro ⟨u,v,o,y,m,cap,f⟩ ⟨i1,i2,i3,i4,i5,i6⟩
 simp only at i1 i2 i3 i4 i5 i6 ⊢
 refine⟨⟨fun hu=>by rw[decide_eq_true hu,cond_true],fun hu=>by rw[decide_eq_false hu,cond_false]⟩,fun hb=>?_,fun hb=>?_⟩
 ·have hu:0<u.length:=by
   cases u with
   |nil=>simp at hb
   |cons _ _=>simp
  have hv:0<v.length:=by
   cases v with
   |nil=>cases u<;>simp at hb
   |cons _ _=>simp
  obtain ⟨p,u,rfl⟩:=List.exists_cons_of_length_pos hu
  obtain ⟨q,v,rfl⟩:=List.exists_cons_of_length_pos hv
  simp only[List.length_cons] at i5 ⊢
  refine⟨⟨by omega,by omega⟩,⟨by omega,by omega⟩,p.1,p.2,q.1,q.2,⟨rfl,i1 p (by simp),i2 q (by simp)⟩,fun hc1=>⟨⟨by omega,by omega⟩,⟨by omega,by omega,by omega⟩,⟨i4,by omega,by omega⟩,fun y2 c2 hc2=>?_⟩,fun hc1=>⟨⟨by omega,by omega⟩,⟨by omega,by omega,by omega⟩,⟨i4,by omega,by omega⟩,fun y2 c2 hc2=>?_⟩⟩
  ·have hm:(p::u).merge (q::v) (leC c)=p::u.merge (q::v) (leC c):=List.cons_merge_cons_pos _ _ _ (R2.1 hc1)
   refine⟨u,q::v,o++[p],y2,o.length+1,c2,BG o.length f (fun i=>[rwR p].getD i []),⟨fun x hx=>i1 x (by simp[hx]),i2,?_,?_,?_,fun j hj=>?_⟩,?_,⟨⟨rfl,fun i hi=>?_⟩,⟨rfl,fun _ _=>rfl⟩,rfl,?_,rfl⟩,rfl,rfl,rfl,fun _ _=>rfl⟩
   ·rw[<- i3,hm,List.append_assoc];rfl
   ·rw[List.length_append];exact Nat.le_refl _
   ·simp only[List.length_append,List.length_cons,List.length_nil];omega
   ·exact IB i6 j (by simpa using hj)
   ·simp only[List.length_cons];omega
   ·rw[Nat.add_comm 1 i];rfl
   ·rw[List.length_append];rfl
  ·have hm:(p::u).merge (q::v) (leC c)=q::(p::u).merge v (leC c):=List.cons_merge_cons_neg _ _ _ (fun e=>hc1 (R2.2 e))
   refine⟨p::u,v,o++[q],y2,o.length+1,c2,BG o.length f (fun i=>[rwR q].getD i []),⟨i1,fun x hx=>i2 x (by simp[hx]),?_,?_,?_,fun j hj=>?_⟩,?_,⟨⟨rfl,fun _ _=>rfl⟩,⟨rfl,fun i hi=>?_⟩,rfl,?_,rfl⟩,rfl,rfl,rfl,fun _ _=>rfl⟩
   ·rw[<- i3,hm,List.append_assoc];rfl
   ·rw[List.length_append];exact Nat.le_refl _
   ·simp only[List.length_append,List.length_cons,List.length_nil];omega
   ·exact IB i6 j (by simpa using hj)
   ·simp only[List.length_cons];omega
   ·rw[Nat.add_comm 1 i];rfl
   ·rw[List.length_append];rfl
 ·have hz:u=[]\/v=[]:=by
   cases u with
   |nil=>exact .inl rfl
   |cons _ _ =>
    cases v with
    |nil=>exact .inr rfl
    |cons _ _=>simp at hb
  have hr:o++u++v=msF (leC c) (n+1) l:=by
   rw[<- i3]
   rcases hz with rfl | rfl
   ·rw[List.nil_merge,List.append_nil]
   ·rw[List.merge_right,List.append_nil]
  have h1:=Mr (u:=u) i6
  have h2:=fun j hj=>Mr (o:=o++u) (u:=v) (fun j hj=>h1 j (by simpa using hj)) j hj
  simp only[List.length_append] at h2
  have hrl:(msF (leC c) (n+1) l).length=o.length+u.length+v.length:=by rw[<- hr,List.length_append,List.length_append]
  refine⟨⟨i4,by omega,by omega⟩,fun _ _=>⟨⟨Nat.le_refl _,by omega,by omega⟩,fun _ _=>⟨Nat.le_refl _,fun i hi=>?_,hrl.symm,fun i hi=>?_⟩⟩⟩
  ·rw[h2 i hi];exact BcI _
  ·rw[h2 i hi,hr]
theorem UF{k0 : Nat}{c : Rw -> Rw -> Ordering}{n : Nat}{l : List Rw}(ih : ∀u : List Rw, 0<u.length -> u.length<=n -> (∀p∈u, p∈l) -> CD 22 [gsl 5 rwR u, .fn (.func k0) [] []] (gsl 5 rwR (msF (leC c) n u)))
  (hf:∀p∈l,∀q∈l,CmpC k0 c p q):ConOk Try.prog (Mw k0 c n l):=by
 intro k ds S A hh
 unfold Mw at hh
 split at hh
 ·injection hh with hh;subst hh
  exact B0 fun u ⟨e,⟨h0,h1⟩,h2⟩=>CD.at_ (CD.wk (ih u h0 h1 h2) e) _
 ·injection hh with hh;subst hh
  refine B0 fun y ⟨e,h1,h2,h3⟩=>CD.at_ ?_ _
  subst h3
  rw[e];exact hf _ h1 _ h2
 ·injection hh with hh;subst hh
  refine B0 fun y ⟨e,h1,h2,h3⟩=>CD.at_ ?_ _
  subst h3
  rw[e];exact hf _ h1 _ h2
 ·cases hh
theorem Bbb{k0:Nat}(hk:k0=23\/k0=26)(c:Rw->Rw->Ordering):∀(n:Nat) (l:List Rw),l.length<=n+1->n<=65536/\l.length<=65536->(∀p∈l,∀q∈l,CmpC k0 c p q)->CD 22 [gsl 5 rwR l,.fn (.func k0) [] []] (gsl 5 rwR (msF (leC c) (n+1) l))
 |0,l,h,h2,hf=>by
  have hc:ConOk Try.prog (Mw k0 c 0 l):=UF (fun u h0 hu hp=>absurd h0 (by omega)) hf
  rcases hk with rfl | rfl
  ·exact UQ c 0 l h (by omega) hc
  ·exact Wa c 0 l h (by omega) hc
 |n+1,l,h,h2,hf=>by
  have hc:ConOk Try.prog (Mw k0 c (n+1) l):=UF (fun u h0 hu hp=>Bbb hk c n u hu (by omega) fun p h1 q h2=>hf p (hp p h1) q (hp q h2)) hf
  rcases hk with rfl | rfl
  ·exact UQ c (n+1) l h (by omega) hc
  ·exact Wa c (n+1) l h (by omega) hc
def TW(N:Nat)(p q:Rw):Ordering:=G1 N p.2 q.2
def TE(N:Nat)(a b:Arr):Con:=fun k ds S=>match k with
 |24=>some (pA ds S (.int .i64 (oI (G1 N a b))) (wkL ds [.agg a.row1,.agg b.row1]))
 |_=>none
theorem Tf{N:Nat}{a b:Arr}(ha:Val a)(hb:Val b)(h:SizeOf.sizeOf a<N):ConOk Try.prog (TE N a b):=by
 intro k ds S A hh
 unfold TE at hh
 split at hh
 ·injection hh with hh;subst hh
  exact Bv fun e=>CD.at_ (CD.wk (Beu N a b ha hb h) e) _
 ·cases hh
noncomputable def Eu1(N:Nat)(a b:Arr):Senv:=EC (TE N a b) 10 5 [] (fun _=>([],[]))
def Qc8(a:Rw):Nat:=LN (Arr.sh a.2)
def Qc9(a:Rw):Nat:=LN (Arr.nu a.2)
def Qda(a:Rw):Nat:=LN (Arr.it a.2)
def Qdb(a:Rw)(b:Nat):List D:=Arr.row (GA (Arr.it a.2) b)
def Qdc(a:Rw):Prop:=SM (Arr.k a.2)/\(SM (Qc8 a)/\(∀(i:Nat),i<Qc8 a->SM (GI (Arr.sh a.2) i)/\True)/\True)/\(SM (Qc9 a)/\(∀(i:Nat),i<Qc9 a->SM (GI (Arr.nu a.2) i)/\True)/\True)/\(SM (Qda a)/\(∀(i:Nat),i<Qda a->wkL (Qdb a i) (Qdb a i))/\True)/\True
theorem BeV(N:Nat)(p q:Rw)(hp:Val p.2)(hq:Val q.2)(h:SizeOf.sizeOf p.2<N):CmpC 23 (TW N) p q:=by
 refine Bg (A:=sC _ _) (x:=()) (E:=Eu1 N p.2 q.2) (eOk (Tf hp hq h) rfl) Try.func23 rfl (by kernel_rfl) rfl (by simp[sC,Eu1,EC,E0]) ?_
 refine Bl (T :=
  ∀(x:Nat),True->∀(x_1:Nat),x≠x_1/\True->SM x/\SM x_1/\∃(x:Unit),(Qdc p/\Qdc q/\True)/\∀(y:Unit),True->RT (oI (G1 N p.2 q.2)=oI (TW N p q))) (by kernel_rfl) ?_
 delta DA GA GI LN SM Z0 Qc8 Qc9 Qda Qdb Qdc RT
 have da:(default:Arr)=Arr.mk 0 [] [] []:=rfl
 simp only[<- da]
 simp only[ne_eq,implies_true,true_and,and_true,exists_const,forall_const]
 exact fun _ _ _=>⟨⟨fun _ _=>Be _,fun _ _=>Be _⟩,rfl⟩
noncomputable def Es1(N:Nat)(a b:Arr):Senv:=EC (TE N a b) 10 5 [] (fun _=>([],[]))
def Qdd(a:Rw):Nat:=LN (Arr.sh a.2)
def Qde(a:Rw):Nat:=LN (Arr.nu a.2)
def Qdf(a:Rw):Nat:=LN (Arr.it a.2)
def Qdg(a:Rw)(b:Nat):List D:=Arr.row (GA (Arr.it a.2) b)
def Qdh(a:Rw):Prop:=SM (Arr.k a.2)/\(SM (Qdd a)/\(∀(i:Nat),i<Qdd a->SM (GI (Arr.sh a.2) i)/\True)/\True)/\(SM (Qde a)/\(∀(i:Nat),i<Qde a->SM (GI (Arr.nu a.2) i)/\True)/\True)/\(SM (Qdf a)/\(∀(i:Nat),i<Qdf a->wkL (Qdg a i) (Qdg a i))/\True)/\True
theorem BeU(N:Nat)(p q:Rw)(hp:Val p.2)(hq:Val q.2)(h:SizeOf.sizeOf p.2<N):CmpC 26 (TW N) p q:=by
 refine Bg (A:=sC _ _) (x:=()) (E:=Es1 N p.2 q.2) (eOk (Tf hp hq h) rfl) Try.func26 rfl (by kernel_rfl) rfl (by simp[sC,Es1,EC,E0]) ?_
 refine Bl (T :=
  ∀(x:Nat),True->∀(x_1:Nat),x≠x_1/\True->SM x/\SM x_1/\∃(x:Unit),(Qdh p/\Qdh q/\True)/\∀(y:Unit),True->RT (oI (G1 N p.2 q.2)=oI (TW N p q))) (by kernel_rfl) ?_
 delta DA GA GI LN SM Z0 Qdd Qde Qdf Qdg Qdh RT
 have da:(default:Arr)=Arr.mk 0 [] [] []:=rfl
 simp only[<- da]
 simp only[ne_eq,implies_true,true_and,and_true,exists_const,forall_const]
 exact fun _ _ _=>⟨⟨fun _ _=>Be _,fun _ _=>Be _⟩,rfl⟩
def GS(l:List Rw):Arr:=.mk 1 [(l.length:Int)] (l.map fun p=>(p.1:Int)) []
theorem BaR(l:List Rw){i:Nat}(h:i<l.length):((l.getD i (0,default)).1:Int)=(GS l).nu.getD i 0:=by
 show _=(l.map fun p=>(p.1:Int)).getD i 0
 rw[List.getD_eq_getElem?_getD,List.getD_eq_getElem?_getD,List.getElem?_map,List.getElem?_eq_getElem h];rfl
noncomputable def Enb(l:List Rw):Senv:={ EC CM 25 1 [2,3,5,10,11,12,13] (fun _=>([],[])) with
 gh:=fun b=>match b with
  |0=>[.cell 1 102]
  |_=>[]
 ann:=fun b _ S=>match b with
  |0=>match Bx S.objs 1 with
   |some (_,.cells (c0::c1::_::cs))=>some { slots:=[12],keep:=[2,3,10,11],α:=Nat×Nat,st:=fun y=>([.int .i64 y.1],⟨Et S.objs 1 (.cells (c0::c1::.sl 1 y.1 (fun i=>[.int .i64 ((l.getD i default).1:Int)]) (.tok 0 y.2)::cs)),[(0,y.2)]⟩),inv:=fun y=>y.1<=l.length,mu:=fun y=>l.length-y.1 }
   |_=>none
  |_=>none }
def Qdi(a:List Rw)(b:Nat):List D:=List.getD [[ZI (LI a)]] b []
def Qdj(a:List Rw):Prop:=SM N1/\(∀(i:Nat),i<N1->SM (Qdi a i))/\True
def Qdk:Arr:=DA
def YW:Nat×Arr:=(N0,Qdk)
def Qdl(a:List Rw)(b:Nat):Int:=(NI (Prod.fst (List.getD a b YW)))
def YX(a:List Rw)(b:Nat):List D:=[ZI (Qdl a b)]
def YY:Prop:=SM N0/\(∀(i:Nat),i<N0->C8 (List D) [] [])/\True
def YZ:Prop:=YY/\True
def Qdm(a:Nat):Prop:=SM a/\(SM Z0/\YY/\YY/\YZ)/\True
def Qdn(a:List Rw)(b:Nat):Nat×Arr:=List.getD a b YW
def VJ(a:List Rw)(b:Nat):Arr:=Prod.snd (Qdn a b)
def QhP(a:List Rw)(b:Nat):List Int:=Arr.sh (VJ a b)
def QhQ(a:List Rw)(b:Nat):List Int:=Arr.nu (VJ a b)
def Qdo(a:List Rw)(b:Nat):List Arr:=Arr.it (VJ a b)
def QhR(a:List Rw):D:=D.sl 5 (LN a) (fun i=>[ZI (NI (Prod.fst (Qdn a i))),ZI (Arr.k (VJ a i)),SI (QhP a i),SI (QhQ a i),D.sl N4 (LN (Qdo a i)) (fun i_1=>Arr.row (List.getD (Qdo a i) i_1 Qdk)) Mode.any]) Mode.any
def Kz(a:List Rw):Arr:=GS a
theorem Be3(l:List Rw)(hl:l.length<=65536):CD 21 [gsl 5 rwR l] (.agg (GS l).row1):=by
 refine CD.ofW (RH (E:=Enb l) (eOk By rfl) Try.func21 rfl (by kernel_rfl) rfl (by simp[Enb,EC,E0]) ?_)
 refine Bl (T :=
  ∀(x:Nat),True->∀(x_1:Nat),x≠x_1/\True->SM x_1/\∀(t:Nat),(∃(x_2:Nat×Nat),x_2.1<=LN l/\(Z0=(NI x_2.1)/\True)/\(SM x_1/\(SM Z1/\Qdj l/\(N0=x_2.1/\(∀(i:Nat),i<N0->C8 (List D) [] (YX l i))/\t=x_2.2)/\YZ)/\Qdm x)/\t=x_2.2/\True)/\∀(x_2:Nat×Nat),x_2.1<=LN l->ifB (decide ((NI x_2.1)<(LI l))) (Bd (Z0<=(NI x_2.1)/\(NI x_2.1)<(LI l)) (∀(x_3:Nat),x_1≠x_3/\x≠x_3/\True->SM x_3/\SM x_1/\SM x_3/\SM x_2.2/\Bd ((x_2.1+N1)*8<=140737488355328/\x_2.1+N1<=9223372036854775807) (∀(t:Nat),SM x_1/\(SM (D.ref N0 x N0)/\SM (D.ref N1 x_1 N0)/\SM (QhR l)/\SM (ZI (LI l))/\True)/\∃(y:Nat×Nat),y.1<=LN l/\LN l-y.1<LN l-x_2.1/\(IntKind.wrap IntKind.i64 ((NI x_2.1)+Z1)=(NI y.1)/\True)/\(SM x_1/\(SM Z1/\Qdj l/\(x_2.1+N1=y.1/\(∀(i:Nat),i<x_2.1+N1->BG x_2.1 (fun i=>YX l i) (fun i=>List.getD [[ZI (NI (Prod.fst (List.getD l (TN x_2.1) YW)))]] i []) i=YX l i)/\t=y.2)/\YZ)/\Qdm x)/\t=y.2/\True))) (SM x_1/\SM x/\(SM x/\True)/\Z1=Arr.k (Kz l)/\(N1=LN (Arr.sh (Kz l))/\(∀(i:Nat),i<N1->wkL (Qdi l i) [ZI (GI (Arr.sh (Kz l)) i)])/\True)/\(x_2.1=LN (Arr.nu (Kz l))/\(∀(i:Nat),i<x_2.1->Qdl l i=GI (Arr.nu (Kz l)) i/\True)/\True)/\(N0=LN (Arr.it (Kz l))/\(∀(i:Nat),i<N0->False)/\True)/\True)) (by kernel_rfl) ?_
 delta DA GI LI LN N0 N1 N4 NI SI SM TN Z0 Z1 ZI Qdo QhR Kz Qdi Qdj Qdk YW Qdl YX YY YZ Qdm Qdn VJ QhP QhQ
 have da:(default:Arr)=Arr.mk 0 [] [] []:=rfl
 simp only[<- da]
 simp only[ne_eq,implies_true,Int.toNat_natCast,Bh,Bc,decide_eq_true_eq,decide_eq_false_iff_not,true_and,and_true,forall_const,Prod.exists]
 refine fun x x1 _ t=>⟨⟨0,t,Nat.zero_le _,rfl,⟨rfl,(fun i hi=>absurd hi (Nat.not_lt_zero i)),rfl⟩,rfl⟩,?_⟩
 rintro ⟨i,t1⟩ hi
 simp only at hi ⊢
 refine⟨fun hlt=>⟨⟨by omega,hlt⟩,fun x3 _=>⟨⟨by omega,by omega⟩,fun t2=>⟨i+1,t2,by omega,by omega,Bb (by omega) (by omega),⟨rfl,(fun j hj=>?_),rfl⟩,rfl⟩⟩⟩,fun hge=>?_⟩
 ·rw[BG]
  split
  ·rfl
  ·obtain rfl:j=i:=by omega
   rw[Nat.sub_self];rfl
 ·obtain rfl:i=l.length:=by omega
  refine⟨rfl,⟨rfl,fun j hj=>?_⟩,⟨by simp[GS,Arr.nu],fun j hj=>BaR l hj⟩,rfl,fun j hj=>absurd hj (Nat.not_lt_zero j)⟩
  obtain rfl:j=0:=by omega
  exact Be _
def Cx(N:Nat)(y:Arr):List Rw:=msF (leC (TW N)) ((rwL y).length+1) (rwL y)
structure GrH (N:Nat) (y:Arr):Prop where
 v:Val y
 hr:y.sh≠[]
 hN:∀p∈rwL y,SizeOf.sizeOf p.2<N
theorem Rh{y:Arr}{p:Rw}(hp:p∈rwL y):∃i,i<(y.sh.headD 0).toNat/\p=(i,rwA y i):=by
 obtain ⟨i,hi,rfl⟩:=List.mem_map.1 hp
 exact⟨i,List.mem_range.1 hi,rfl⟩
theorem GrH.val{N:Nat}{y:Arr}(h:GrH N y){p:Rw}(hp:p∈rwL y):Val p.2:=by
 obtain ⟨i,hi,rfl⟩:=Rh hp
 exact (IV h.v h.hr (by omega)).1
theorem E8{y:Arr}(h:Val y)(hr:y.sh≠[]):0<=y.sh.headD 0/\y.sh.headD 0<=65536:=by
 have dA:=((Bn _).1 (Bw h.c).1).2.1
 cases hs:y.sh with
 |nil=>exact absurd hs hr
 |cons d r=>exact dA d (by rw[hs];simp)
theorem GrH.len{N:Nat}{y:Arr}(h:GrH N y):(rwL y).length<=65536:=by
 have:=E8 h.v h.hr
 rw[TA];omega
theorem EZ(N:Nat)(y:Arr):(Cx N y).Perm (rwL y):=C4 _ _ _
theorem GrH.slen{N:Nat}{y:Arr}(h:GrH N y):(Cx N y).length<=65536:=by
 rw[(EZ N y).length_eq];exact h.len
theorem GrH.me{N:Nat}{y:Arr}(h:GrH N y){k0:Nat}(hk:k0=23\/k0=26):CD 22 [gsl 5 rwR (rwL y),.fn (.func k0) [] []] (gsl 5 rwR (Cx N y)):=by
 refine Bbb hk (TW N) (rwL y).length (rwL y) (by omega) ⟨h.len,h.len⟩ fun p hp q hq=>?_
 rcases hk with rfl | rfl
 ·exact BeV N p q (h.val hp) (h.val hq) (h.hN p hp)
 ·exact BeU N p q (h.val hp) (h.val hq) (h.hN p hp)
def Bbr(k0:Nat)(N:Nat)(y:Arr):Con:=fun k ds S=>match k with
 |20=>some (pA ds S (.tup [gsl 5 rwR (rwL y),.int .i64 0]) (wkL ds [.agg y.row1]))
 |22=>some (pA ds S (gsl 5 rwR (Cx N y)) (wkL ds [gsl 5 rwR (rwL y),.fn (.func k0) [] []]))
 |21=>some (pA ds S (.agg (GS (Cx N y)).row1) (wkL ds [gsl 5 rwR (Cx N y)]))
 |25=>some (pA ds S (isl y.sh .any) (wkL ds [isl y.sh .any]))
 |_=>none
theorem BbL{k0:Nat}(hk:k0=23\/k0=26){N:Nat}{y:Arr}(h:GrH N y):ConOk Try.prog (Bbr k0 N y):=by
 intro k ds S A hh
 unfold Bbr at hh
 split at hh
 ·injection hh with hh;subst hh
  exact Bv fun e=>CD.at_ (CD.wk (BeC y h.v h.hr) e) _
 ·injection hh with hh;subst hh
  exact Bv fun e=>CD.at_ (CD.wk (h.me hk) e) _
 ·injection hh with hh;subst hh
  exact Bv fun e=>CD.at_ (CD.wk (Be3 _ h.slen) e) _
 ·injection hh with hh;subst hh
  exact Bv fun e=>CD.at_ (CD.wk (Mm _ (by have:=((Bn _).1 (Bw h.v.c).1).1;omega)) e) _
 ·cases hh
noncomputable def Eup(N:Nat)(y:Arr):Senv:=EC (Bbr 23 N y) 18 6 [12] (fun _=>([],[]))
def Jd:Arr:=DA
def Qdp(a:Arr)(b:Nat):List D:=Arr.row (List.getD (Arr.it a) b Jd)
def Qdq:Nat×Arr:=(N0,Jd)
def Qdr(a:Arr)(b:Nat):Nat×Arr:=List.getD (rwL a) b Qdq
def QhS(a:Arr)(b:Nat):Int:=(NI (Prod.fst (Qdr a b)))
def VK(a:Arr)(b:Nat):Arr:=Prod.snd (Qdr a b)
def QhT(a:Arr)(b:Nat):Int:=Arr.k (VK a b)
def Qds(a:Arr)(b:Nat):List Int:=Arr.sh (VK a b)
def Qdt(a:Arr)(b:Nat):Nat:=LN (Qds a b)
def QhU(a:Arr)(b c:Nat):Int:=GI (Qds a b) c
def Qdu(a:Arr)(b:Nat):List Int:=Arr.nu (VK a b)
def Qdv(a:Arr)(b:Nat):Nat:=LN (Qdu a b)
def QhV(a:Arr)(b c:Nat):Int:=GI (Qdu a b) c
def Qdw(a:Arr)(b:Nat):List Arr:=Arr.it (VK a b)
def Qdx(a:Arr)(b:Nat):Nat:=LN (Qdw a b)
def Qdy(a:Arr)(b c:Nat):List D:=Arr.row (List.getD (Qdw a b) c Jd)
def Qdz(a:Nat)(b:Arr)(c:Nat):Nat×Arr:=List.getD (Cx a b) c Qdq
def QhW(a:Nat)(b:Arr)(c:Nat):Int:=(NI (Prod.fst (Qdz a b c)))
def VL(a:Nat)(b:Arr)(c:Nat):Arr:=Prod.snd (Qdz a b c)
def QhX(a:Nat)(b:Arr)(c:Nat):Int:=Arr.k (VL a b c)
def QdA(a:Nat)(b:Arr)(c:Nat):List Int:=Arr.sh (VL a b c)
def QdB(a:Nat)(b:Arr)(c:Nat):Nat:=LN (QdA a b c)
def QhY(a:Nat)(b:Arr)(c d:Nat):Int:=GI (QdA a b c) d
def QdC(a:Nat)(b:Arr)(c:Nat):List Int:=Arr.nu (VL a b c)
def QdD(a:Nat)(b:Arr)(c:Nat):Nat:=LN (QdC a b c)
def QhZ(a:Nat)(b:Arr)(c d:Nat):Int:=GI (QdC a b c) d
def QdE(a:Nat)(b:Arr)(c:Nat):List Arr:=Arr.it (VL a b c)
def QdF(a:Nat)(b:Arr)(c:Nat):Nat:=LN (QdE a b c)
def QdG(a:Nat)(b:Arr)(c d:Nat):List D:=Arr.row (List.getD (QdE a b c) d Jd)
def VM(a:Nat)(b:Arr):Arr:=GS (Cx a b)
def Qh0(a:Nat)(b:Arr):Int:=Arr.k (VM a b)
def QdH(a:Nat)(b:Arr):List Int:=Arr.sh (VM a b)
def QdI(a:Nat)(b:Arr):Nat:=LN (QdH a b)
def Qh1(a:Nat)(b:Arr)(c:Nat):List D:=[ZI (GI (QdH a b) c)]
def QdJ(a:Nat)(b:Arr):List Int:=Arr.nu (VM a b)
def QdK(a:Nat)(b:Arr):Nat:=LN (QdJ a b)
def Qh2(a:Nat)(b:Arr)(c:Nat):List D:=[ZI (GI (QdJ a b) c)]
def QdL(a:Nat)(b:Arr):Nat:=LN (Arr.it (VM a b))
def Qh3:List D:=Arr.row Jd
theorem BeG(N:Nat)(y:Arr)(h:GrH N y):CD 7 [.agg y.row1] (.tup [.agg (GS (Cx N y)).row1,.int .i64 0]):=by
 refine Bg (A:=sC _ _) (x:=()) (E:=Eup N y) (eOk (BbL (.inl rfl) h) rfl) Try.func7 rfl (by kernel_rfl) rfl (by simp[sC,Eup,EC,E0]) ?_
 refine Bl (T :=
  ∀(x:Nat),True->∀(x_1:Nat),x≠x_1/\True->SM x/\∃(x:Unit),((SM (Arr.k y)/\(SM (LN (Arr.sh y))/\(∀(i:Nat),i<LN (Arr.sh y)->SM (GI (Arr.sh y) i)/\True)/\True)/\(SM (LN (Arr.nu y))/\(∀(i:Nat),i<LN (Arr.nu y)->SM (GI (Arr.nu y) i)/\True)/\True)/\(SM (LN (Arr.it y))/\(∀(i:Nat),i<LN (Arr.it y)->wkL (Qdp y i) (Qdp y i))/\True)/\True)/\True)/\∀(y_1:Unit),True->∃(x:Unit),((SM (LN (rwL y))/\(∀(i:Nat),i<LN (rwL y)->SM (QhS y i)/\SM (QhT y i)/\(SM (Qdt y i)/\(∀(i_1:Nat),i_1<Qdt y i->SM (QhU y i i_1)/\True)/\True)/\(SM (Qdv y i)/\(∀(i_1:Nat),i_1<Qdv y i->SM (QhV y i i_1)/\True)/\True)/\(SM (Qdx y i)/\(∀(i_1:Nat),i_1<Qdx y i->wkL (Qdy y i i_1) (Qdy y i i_1))/\True)/\True)/\True)/\SM (D.fn (Fn.func (23:Nat)) [] [])/\True)/\∀(y_2:Unit),True->∃(x:Unit),((SM (LN (Cx N y))/\(∀(i:Nat),i<LN (Cx N y)->SM (QhW N y i)/\SM (QhX N y i)/\(SM (QdB N y i)/\(∀(i_1:Nat),i_1<QdB N y i->SM (QhY N y i i_1)/\True)/\True)/\(SM (QdD N y i)/\(∀(i_1:Nat),i_1<QdD N y i->SM (QhZ N y i i_1)/\True)/\True)/\(SM (QdF N y i)/\(∀(i_1:Nat),i_1<QdF N y i->wkL (QdG N y i i_1) (QdG N y i i_1))/\True)/\True)/\True)/\True)/\∀(y_3:Unit),True->SM x_1/\(SM x_1/\True)/\∃(y_4:Unit),True/\((SM (Qh0 N y)/\(SM (QdI N y)/\(∀(i:Nat),i<QdI N y->SM (Qh1 N y i))/\True)/\(SM (QdK N y)/\(∀(i:Nat),i<QdK N y->SM (Qh2 N y i))/\True)/\(SM (QdL N y)/\(∀(i:Nat),i<QdL N y->SM Qh3)/\True)/\True)/\SM Z0/\True)/\True/\True) (by kernel_rfl) ?_
 delta DA GI LN N0 NI SM Z0 ZI Jd Qdp Qdu Qdv QhV Qdw Qdx Qdy Qdz QhW VL QhX Qdq QdA QdB QhY QdC QdD QhZ QdE QdF QdG VM Qdr Qh0 QdH QdI Qh1 QdJ QdK Qh2 QdL Qh3 QhS VK QhT Qds Qdt QhU
 have da:(default:Arr)=Arr.mk 0 [] [] []:=rfl
 simp only[<- da]
 simp only[ne_eq,implies_true,true_and,and_true,exists_const,forall_const]
 exact fun _ _ _=>⟨fun _ _=>Be _,fun _ _ _ _=>Be _,fun _ _ _ _=>Be _⟩
def Wp(l:List Rw):List Int:=l.flatMap fun p=>p.2.nu
def W2(l:List Rw):List Arr:=l.flatMap fun p=>p.2.it
def Ug(N:Nat)(y:Arr):Arr:=.mk y.k y.sh (Wp (Cx N y)) (W2 (Cx N y))
theorem Bai{a b:List Rw}(h:a.Perm b):(Wp a).Perm (Wp b):=List.Perm.flatMap_right _ h
theorem Baf{a b:List Rw}(h:a.Perm b):(W2 a).Perm (W2 b):=List.Perm.flatMap_right _ h
theorem Wt{α:Type}(l:List α)(R:Nat):∀d,((List.range d).flatMap fun i=>(l.drop (i*R)).take R)=l.take (d*R)
 |0=>by simp
 |d+1=>by
  rw[List.range_succ,List.flatMap_append,Wt l R d,List.flatMap_singleton,Nat.succ_mul]
  exact (List.take_add (l:=l) (i:=d*R) (j:=R)).symm
theorem WG{y:Arr}(h:Val y)(hr:y.sh≠[]):Wp (rwL y)=y.nu/\W2 (rwL y)=y.it:=by
 have e1:Wp (rwL y)=y.nu.take ((y.sh.headD 0).toNat*Bs y):=by
  rw[<- Wt,Wp,rwL,List.flatMap_map];rfl
 have e2:W2 (rwL y)=y.it.take ((y.sh.headD 0).toNat*Bs y):=by
  rw[<- Wt,W2,rwL,List.flatMap_map];rfl
 have z:=(Bw h.c).2.1
 have f4:=(B7.1 (Cr h.c)).2.2.2
 have hp:prL (shN y.sh)=(y.sh.headD 0).toNat*Bs y:=by
  cases hs:y.sh with
  |nil=>exact absurd hs hr
  |cons d r=>simp[shN,prL,Bs,hs]
 rw[e1,e2]
 unfold szN at z
 refine⟨List.take_of_length_le ?_,List.take_of_length_le ?_⟩
 all_goals
  by_cases hk:y.k=3
  ·rw[if_pos hk] at z f4;omega
  ·rw[if_neg hk] at z f4;omega
def groRen:Go.Shelf.Ren:=⟨fun | 4=>48 | n=>n,fun | 0=>0 | 3=>3 | 4=>4 | 9=>9 | 20=>20 | 22=>23 | 25=>3 | n=>n,fun n=>n⟩
theorem BdB:Go.Proofs.Lays8.n4 Try.prog groRen:={
 mixed:=by kernel_rfl
 f4:=⟨Try.f48.name,by kernel_rfl,Try.func48.trans (congrArg some (by kernel_rfl))⟩
 t0:=Try.underlying0
 a0:=Try.isAgg0
 z0:=Try.sizeOf0
 v0:=Try.zeroValue0
 t3:=Try.underlying3
 a3:=Try.isAgg3
 z3:=Try.sizeOf3
 v3:=Try.zeroValue3
 t4:=Try.underlying4
 a4:=Try.isAgg4
 z4:=Try.sizeOf4
 v4:=Try.zeroValue4
 t9:=Try.underlying9
 a9:=Try.isAgg9
 z9:=Try.sizeOf9
 v9:=Try.zeroValue9
 t20:=Try.underlying20
 a20:=Try.isAgg20
 z20:=Try.sizeOf20
 v20:=Try.zeroValue20
 t22:=Try.underlying23
 a22:=Try.isAgg23
 z22:=Try.sizeOf23
 v22:=Try.zeroValue23 }
def BbR(k n:Nat):FnSpec where
 β:=Unit
 α:=Nat×Nat
 args:=fun _=>[.sl 1 0 (fun _=>[]) .nil,.int .i64 (n:Nat)]
 st:=fun _=>⟨[],[]⟩
 pre:=fun _=>0<n/\n<=1000000
 post:=fun _ y=>n<=y.2
 res:=fun _ y=>.ret (.vs k y.1 0 y.2 1)
 out:=fun _ y=>⟨[(k,y.1,.vec 1 0 y.2 (fun _=>[]))],[]⟩
theorem BeZ(n:Nat)(h:0<n/\n<=1000000):ACalls Try.prog 48 ((BbR 99 n).args ()) ((BbR 99 n).st ()) (SpecR (BbR 99 n) ()):=by
 refine⟨⟨_,Try.func48,by kernel_rfl,by kernel_rfl⟩,fun C F args w ha hs=>?_⟩
 simp only[BbR,RepL,Rep] at ha
 obtain ⟨v1,l1,e1,r1,v2,l2,e2,rfl,e4⟩:=ha
 obtain ⟨base,len,cap,rfl,⟨h1,h2,h3,h4,h5,h6⟩,_⟩:=r1
 obtain rfl:=h6
 obtain rfl:len=0:=h1
 obtain rfl:cap=0:=(h4 rfl).2
 have ea:args=#[.slice none 0 0,.int .i64 (n:Nat)]:=by
  have:args.toList=[.slice none 0 0,.int .i64 (n:Nat)]:=by rw[e1,e2,e4]
  rw[<- this]
 subst ea
 obtain ⟨i,ei,ez,es,eb⟩:∃i,Try.prog.info? 3=some i/\i.zero=some (.int .i64 0)/\i.size=1/\i.bytes=8:=by
  have hi:(Try.prog.info? 3).map (fun i=>(i.zero,i.size,i.bytes))=some (some (.int .i64 0),1,8):=by kernel_rfl
  cases hh:Try.prog.info? 3 with
  |none=>rw[hh] at hi;cases hi
  |some i =>
   rw[hh] at hi
   simp only[Option.map_some,Option.some.injEq,Prod.mk.injEq] at hi
   exact⟨i,rfl,hi⟩
 refine (Any8.slices_Grow_grow BdB i (.int .i64 0) ei ez (by omega) none 0 0 n [] w (Nat.le_refl _) (by omega) (by rw[eb];omega) (by omega) (by simp) (fun _=>rfl) (fun a ha=>by cases ha)).mono ?_
 rintro e w' ⟨rfl,rfl⟩
 have hG:n<=grownCap w (0+n) 0 (groRen.t 25):=by have:=grownCap_ge w (0+n) 0 (groRen.t 25);omega
 have hG63:=grownCap_le_maxLen w (0+n) 0 (groRen.t 25) (by simp only[maxLen];omega)
 generalize grownCap w (0+n) 0 (groRen.t 25)=G at *
 generalize hA:List.toArray ([]:List Value)++Builtin.zeroCells (Value.int IntKind.i64 0).cells (0+n-0)++Builtin.zeroCells (Value.int IntKind.i64 0).cells (G-(0+n))=A at *
 have hAs:A.size=G:=by
  rw[<- hA]
  simp[Builtin.zeroCells,Value.cells]
  omega
 have H0:=hs.drew.alloc_own (.cells A (groRen.t 25)) (.vec 1 0 G (fun _=>[])) 99 fun w' hw=>⟨Nat.zero_le _,fun i hi=>absurd hi (Nat.not_lt_zero i),A,_,(0,0),hw,rfl,by
  have e:BO 1 0 G (fun _=>[])=List.replicate A.toList.length .unk:=by
   rw[Array.length_toList,hAs]
   simp[BO]
  rw[e]
  exact RepL.unks _⟩
 refine⟨C,.ret (.vs 99 w.heap.size 0 G 1),⟨[(99,w.heap.size,.vec 1 0 G (fun _=>[]))],[]⟩,.refl C,H0,?_,(w.heap.size,G),hG,rfl,rfl⟩
 simp only[RepEnd,Rep]
 exact⟨trivial,Nat.zero_le _,hG63⟩
def Eh(l:List (List Int)):Nat:=l.flatten.length
def Bcr(N:Nat):Con:=fun k ds _S=>match k with
 |48=>some ((BbR 99 N).fits () (ds=[.sl 1 0 (fun _=>[]) .nil,.int .i64 (N:Nat)]))
 |_=>none
theorem BcN{N:Nat}:ConOk Try.prog (Bcr N):=by
 intro k ds S A hh
 unfold Bcr at hh
 split at hh
 ·injection hh with hh;subst hh
  exact FnSpec.fits_ok (fun _ hy=>BeZ _ hy) fun e=>by rw[e];exact⟨Bq _,Ru S⟩
 ·cases hh
theorem OS{l:List (List Int)}{i:Nat}(h:i<l.length):(l.take (i+1)).flatten=(l.take i).flatten++l.getD i []:=by
 have e:l.take (i+1)=l.take i++[l.getD i []]:=CR (show i<l.length from h)
 rw[e,List.flatten_append,List.flatten_singleton]
theorem Bc0(l:List (List Int))(i:Nat):Eh (l.take i)<=Eh l:=by
 have:=congrArg (fun l=>l.flatten.length) (List.take_append_drop i l)
 simp only[List.flatten_append,List.length_append] at this
 simp only[Eh];omega
noncomputable def Ecc(l:List (List Int)):Senv:={ EC (Bcr (Eh l)) 36 1 [2,3,5,6,8,9,10,11,12,20,25,26,27,28] (fun _=>([],[])) with
 gr:=[.slot 2]
 ann:=fun b env S=>match b with
  |0=>some { slots:=[11,3],keep:=[0,9,10],α:=Nat,st:=fun i=>([.int .i64 i,.int .i64 (Eh (l.take i))],S),inv:=fun i=>i<=l.length,mu:=fun i=>l.length-i }
  |2=>some { slots:=[27,6],keep:=[25,26],α:=Nat×Nat×Nat×Nat×(Nat->List D),st:=fun y=>([.int .i64 y.1,.vs (vsK (Ab.look env 6)) y.2.1 (Eh (l.take y.1)) y.2.2.2.1 1],⟨(vsK (Ab.look env 6),y.2.1,.vec 1 y.2.2.1 y.2.2.2.1 y.2.2.2.2)::BN S.objs (vsK (Ab.look env 6)),S.toks⟩),inv:=fun y=>y.1<=l.length/\Eh (l.take y.1)<=y.2.2.1/\∀j,j<Eh (l.take y.1)->y.2.2.2.2 j=[.int .i64 ((l.take y.1).flatten.getD j 0)],mu:=fun y=>l.length-y.1 }
  |_=>none }
def Qv(a:Nat)(b:List (List Int)):Nat:=Eh (List.take a b)
def VN(a:Nat)(b:List (List Int)):Int:=(NI (Qv a b))
def QdM(a:Nat)(b:List (List Int)):Int:=IntKind.wrap IntKind.i64 (VN a b+(LI (List.getD b (Int.toNat (↑a:Int)) [])))
def Qh4(a:List (List Int)):D:=D.sl N1 (LN a) (fun i=>[SI (List.getD a i [])]) Mode.any
def QdN(a:List (List Int)):Prop:=SM (Qh4 a)
def QdO(a:List (List Int)):Prop:=QdN a/\SM (ZI (LI a))/\True
def Y0(a:Nat)(b:List (List Int))(c:Nat)(d:Nat->List D):Prop:=a<=LN b/\Qv a b<=c/\∀(j:Nat),j<Qv a b->d j=[ZI (GI (List.flatten (List.take a b)) j)]
def KA(a:Nat)(b:List (List Int)):Nat:=Qv a b+LN (List.getD b (Int.toNat (↑a:Int)) [])
theorem BdO(l:List (List Int))(h:0<Eh l/\Eh l<=1000000)(hl:l.length<=100):CD 28 [gsl 1 (fun s=>[isl s .any]) l] (isl l.flatten .any):=by
 refine Bg (A:=sC _ _) (x:=()) (E:=Ecc l) (eOk BcN rfl) Try.func28 rfl (by kernel_rfl) rfl (by simp[sC,Ecc,EC,E0]) ?_
 refine Bl (T :=
  (∃(x:Nat),x<=LN l/\(Z0=(↑x:Int)/\Z0=VN x l/\True)/\True/\True)/\∀(x:Nat),x<=LN l->ifB (decide ((↑x:Int)<(LI l))) (Bd (Z0<=(↑x:Int)/\(↑x:Int)<(LI l)) (ifB (decide (QdM x l<Z0)) (∃(y:Unit),True/\False/\True/\True) ((QdN l/\QdO l)/\∃(y:Nat),y<=LN l/\LN l-y<LN l-x/\(IntKind.wrap IntKind.i64 ((↑x:Int)+Z1)=(↑y:Int)/\QdM x l=VN y l/\True)/\True/\True))) (([D.sl N1 N0 (fun x=>[]) Mode.nil,ZI (VN x l)]=[D.sl N1 N0 (fun x=>[]) Mode.nil,ZI (NI (Eh l))]/\N0<Eh l/\Eh l<=1000000)/\∀(y:Nat×Nat),Eh l<=y.2->(∃(x:Nat×Nat×Nat×Nat×(Nat->List D)),Y0 x.1 l x.2.2.1 x.2.2.2.2/\(Z0=(NI x.1)/\(y.1=x.2.1/\N0=Qv x.1 l/\y.2=x.2.2.2.1)/\True)/\(y.1=x.2.1/\(N0=x.2.2.1/\y.2=x.2.2.2.1/\∀(i:Nat),i<N0->C8 (List D) [] (x.2.2.2.2 i))/\True)/\True)/\∀(x:Nat×Nat×Nat×Nat×(Nat->List D)),Y0 x.1 l x.2.2.1 x.2.2.2.2->ifB (decide ((NI x.1)<(LI l))) (Bd (Z0<=(NI x.1)/\(NI x.1)<(LI l)) (SM x.2.1/\SM x.2.2.2.1/\Bd (Qv x.1 l<=x.2.2.1/\KA x.1 l*8<=140737488355328/\KA x.1 l<=9223372036854775807) (∀(y cap':Nat),KA x.1 l<=cap'->QdO l/\∃(y_1:Nat×Nat×Nat×Nat×(Nat->List D)),Y0 y_1.1 l y_1.2.2.1 y_1.2.2.2.2/\LN l-y_1.1<LN l-x.1/\(IntKind.wrap IntKind.i64 ((NI x.1)+Z1)=(NI y_1.1)/\(y=y_1.2.1/\KA x.1 l=Qv y_1.1 l/\cap'=y_1.2.2.2.1)/\True)/\(y=y_1.2.1/\(KA x.1 l=y_1.2.2.1/\cap'=y_1.2.2.2.1/\∀(i:Nat),i<KA x.1 l->BG (Qv x.1 l) x.2.2.2.2 (fun i=>[ZI (GI (List.getD l (TN x.1) []) i)]) i=y_1.2.2.2.2 i)/\True)/\True))) (SM x.2.1/\SM x.2.2.2.1/\Bd (Qv x.1 l<=x.2.2.1) ((∀(i:Nat),i<Qv x.1 l->List.all (x.2.2.2.2 i) B4=true)/\∀(t:Nat),True/\∃(y:Unit),True/\(Qv x.1 l=LN (List.flatten l)/\(∀(i:Nat),i<Qv x.1 l->x.2.2.2.2 i=[ZI (GI (List.flatten l) i)])/\True)/\True/\True)))) (by kernel_rfl) ?_
 delta GI LI LN N0 N1 NI SI SM TN Z0 Z1 ZI Qv VN QdM Qh4 QdN QdO Y0 KA
 simp only[eq_self,Int.toNat_natCast,Bh,Bc,decide_eq_true_eq,decide_eq_false_iff_not,true_and,and_true,exists_const,forall_const,Prod.exists]
 have st:∀i,i<l.length->Eh (l.take (i+1))=Eh (l.take i)+(l.getD i []).length:=fun i hi=>by rw[Eh,OS hi,List.length_append];rfl
 have le:=Bc0 l
 refine⟨⟨0,Nat.zero_le _,rfl,rfl⟩,fun i hi=>⟨fun hlt=>?_,fun hge=>?_⟩⟩
 ·have hlt:i<l.length:=by omega
  have e:=st i hlt
  have:=le (i+1)
  have w1:IntKind.i64.wrap ((Eh (l.take i):Int)+((l.getD i []).length:Nat))=((Eh (l.take (i+1)):Nat):Int):=by rw[Bb (by omega) (by omega)];omega
  rw[w1]
  exact⟨⟨by omega,by omega⟩,fun q=>by omega,fun _=>⟨i+1,by omega,by omega,Bb (by omega) (by omega),rfl⟩⟩
 ·obtain rfl:i=l.length:=by omega
  rw[List.take_length]
  refine⟨⟨rfl,h⟩,fun y hy=>⟨⟨0,y.1,0,y.2,fun _=>[],⟨Nat.zero_le _,Nat.le_refl _,fun j hj=>absurd hj (Nat.not_lt_zero j)⟩,⟨rfl,rfl,rfl,rfl⟩,rfl,rfl,rfl,fun i hi=>absurd hi (Nat.not_lt_zero i)⟩,?_⟩⟩
  rintro ⟨i,y,n,cap,f⟩ ⟨i1,i2,i3⟩
  simp only at i1 i2 i3 ⊢
  refine⟨fun hlt=>?_,fun hge=>?_⟩
  ·have hlt:i<l.length:=by omega
   have e:=st i hlt
   have:=le (i+1)
   refine⟨⟨by omega,by omega⟩,⟨i2,by omega,by omega⟩,fun y2 c2 hc2=>⟨i+1,y2,Eh (l.take (i+1)),c2,_,⟨by omega,Nat.le_refl _,fun j hj=>?_⟩,by omega,⟨Bb (by omega) (by omega),rfl,e.symm,rfl⟩,rfl,e.symm,rfl,fun _ _=>rfl⟩⟩
   rw[BG,OS hlt]
   split
   ·rename_i hj2
    rw[i3 j hj2,List.getD_eq_getElem?_getD,List.getD_eq_getElem?_getD,List.getElem?_append_left hj2]
   ·rename_i hj2
    rw[List.getD_eq_getElem?_getD (l:=(l.take i).flatten++_),List.getElem?_append_right (by simp only[Eh] at hj2;omega),<- List.getD_eq_getElem?_getD];rfl
  ·obtain rfl:i=l.length:=by omega
   rw[List.take_length] at i2 i3 ⊢
   exact⟨i2,fun j hj=>by rw[i3 j hj];rfl,rfl,fun j hj=>i3 j hj⟩
noncomputable def Esp:Senv:=EC CM 16 3 [4,5,11] (fun _=>([],[]))
def Je(a:Arr):Int:=Arr.k a
def Y1(a:Arr):Int:=BA (Je a) (LN (Arr.nu a)) (LN (Arr.it a))
def QdP(a:Nat)(b:Arr):Prop:=SM a/\True/\∃(_y:Unit),True/\(LI (Arr.nu b))=Y1 b/\True/\True
def QdQ(a:Arr)(b:Nat):Prop:=ifB (Je a==3) (SM b/\True/\∃(_y:Unit),True/\(LI (Arr.it a))=Y1 a/\True/\True) (True/\∃(_y:Unit),True/\Z0=Y1 a/\True/\True)
theorem BeP(a:Arr):CD 77 [.agg a.row2] (.int .i64 (BA a.k a.nu.length a.it.length)):=by
 refine Bg (A:=sC _ _) (x:=()) (E:=Esp) (eOk By rfl) Try.func77 rfl (by kernel_rfl) rfl (by simp[sC,Esp,EC,E0]) ?_
 refine Bl (T :=
  ∀(x:Nat),True->SM x/\ifB (Je a==Z1) (ifB (Je a==Z1) (QdP x a) (QdQ a x)) (ifB (Je a==2) (QdP x a) (QdQ a x))) (by kernel_rfl) ?_
 delta LI LN SM Z0 Z1 Je Y1 QdP QdQ
 have da:(default:Arr)=Arr.mk 0 [] [] []:=rfl
 simp only[]
 simp only[ne_eq,Bh,true_and,and_true,beq_iff_eq,beq_eq_false_iff_ne,exists_const,forall_const]
 refine⟨fun h=>⟨fun _=>by simp[BA,h],fun q=>absurd h q⟩,fun h=>⟨fun h2=>by simp[BA,h2],fun h2=>⟨fun h3=>by simp[BA,h3],fun h3=>by simp[BA,h,h2,h3]⟩⟩⟩
theorem T6(k:Int)(l:List Arr){n:Int}(h:262144<n):wtL k l n=n:=by
 cases l with
 |nil=>rw[wtL]
 |cons x r=>rw[wtL,if_neg (by omega)]
theorem Oy{k:Int}(h:k≠3)(l:List Arr)(n:Int):wtL k l n=n:=by
 cases l with
 |nil=>rw[wtL]
 |cons x r=>rw[wtL,if_neg (fun q=>h q.1)]
theorem Bby(k:Int)(l:List Arr)(n:Int):min (wtL k l (if 262145<n then 262145 else n)) 262145=min (wtL k l n) 262145:=by
 split
 ·rw[T6 k l (show (262144:Int)<262145 by omega),T6 k l (show 262144<n by omega)]
  omega
 ·rfl
def Bbd(its:List Arr):Con:=fun k ds S=>match k with
 |77=>some (pE (β:=Arr) ds S (fun b=>.int .i64 (BA b.k b.nu.length b.it.length)) (fun b=>wkL ds [.agg b.row2]))
 |53=>some (pE (β:=Arr) ds S (fun b=>.int .i64 (wtA b)) (fun b=>wkL ds [.agg b.row1]/\b∈its))
 |_=>none
theorem BaZ{its:List Arr}(ih:∀b∈its,CD 53 [.agg b.row2] (.int .i64 (wtA b))):ConOk Try.prog (Bbd its):=by
 intro k ds S A h
 unfold Bbd at h
 split at h
 ·injection h with h;subst h
  exact B0 fun b hb=>CD.at_ (CD.wk (BeP b) hb) _
 ·injection h with h;subst h
  refine B0 fun b ⟨hb,hm⟩=>CD.at_ (CD.wk (CD.wk (ih b hm) ?_) hb) _
  simp only[wkL,wkD]
  exact⟨CF b,trivial⟩
 ·cases h
noncomputable def Ewp(a:Arr):Senv:={ EC (Bbd a.it) 30 4 [5,11,14,15,16,17,21] (fun _=>([],[])) with
 ann:=fun b _ S=>match b with
  |0=>some { slots:=[3,16],keep:=[1,14,15],α:=Nat×Int,st:=fun y=>([.int .i64 y.2,.int .i64 y.1],S),inv:=fun y=>y.1<=a.it.length/\0<=y.2/\y.2<=262145/\min (wtL a.k (a.it.drop y.1) y.2) 262145=wtA a,mu:=fun y=>a.it.length-y.1 }
  |_=>none }
def Kj(a:Arr):Int:=Arr.k a
def KB(a:Arr):Nat:=LN (Arr.sh a)
def VO(a:Arr)(b:Nat):Int:=GI (Arr.sh a) b
def Kk(a:Arr):Nat:=LN (Arr.nu a)
def VP(a:Arr)(b:Nat):Int:=GI (Arr.nu a) b
def Jf(a:Arr):List Arr:=Arr.it a
def Qw(a:Arr):Nat:=LN (Jf a)
def VQ:Arr:=DA
def Jg(a:Arr)(b:Nat):Arr:=List.getD (Jf a) b VQ
def Y2(a:Arr)(b:Nat):Int:=Arr.k (Jg a b)
def QdR(a:Arr)(b:Nat):List Int:=Arr.sh (Jg a b)
def VR(a:Arr)(b:Nat):Nat:=LN (QdR a b)
def Y3(a:Arr)(b c:Nat):Int:=GI (QdR a b) c
def QdS(a:Arr)(b:Nat):List Int:=Arr.nu (Jg a b)
def VS(a:Arr)(b:Nat):Nat:=LN (QdS a b)
def Y4(a:Arr)(b c:Nat):Int:=GI (QdS a b) c
def QdT(a:Arr)(b:Nat):List Arr:=Arr.it (Jg a b)
def VT(a:Arr)(b:Nat):Nat:=LN (QdT a b)
def Y5(a:Arr)(b c:Nat):List D:=Arr.row (List.getD (QdT a b) c VQ)
def QdU(a:Arr):Int:=BA (Kj a) (Kk a) (Qw a)
def QdV(a:Arr):Int:=if (262145:Int)<QdU a then (262145:Int) else QdU a
def Jh(a:Arr):Int:=wtA a
def Y6(a:Nat)(b:Arr)(c:Int):Prop:=a<=Qw b/\Z0<=c/\c<=262145/\min (wtL (Kj b) (List.drop a (Jf b)) c) (262145:Int)=Jh b
def QdW(a:Arr)(b:Nat):List D:=[ZI (Y2 a b),D.sl N1 (VR a b) (fun i=>[ZI (Y3 a b i)]) Mode.any,D.sl N1 (VS a b) (fun i=>[ZI (Y4 a b i)]) Mode.any,D.sl N4 (VT a b) (fun i=>Y5 a b i) Mode.any]
def QdX(a:Nat)(b:Arr):Prop:=(SM a/\(SM (Kj b)/\(SM (KB b)/\(∀(i:Nat),i<KB b->SM [ZI (VO b i)])/\True)/\(SM (Kk b)/\(∀(i:Nat),i<Kk b->SM [ZI (VP b i)])/\True)/\(SM (Qw b)/\(∀(i:Nat),i<Qw b->SM (QdW b i))/\True)/\True)/\True)/\True
def Y7(a:Arr):Int:=(NI (Qw a))
def QdY(a:Int)(b:Arr):Prop:=True/\∃(_y:Unit),True/\a=Jh b/\True/\True
def VU(a:Arr)(b:Nat):Arr:=List.getD (Jf a) (Int.toNat (↑b:Int)) VQ
def QdZ(a:Arr)(b:Nat):List Int:=Arr.sh (VU a b)
def Qd0(a:Arr)(b:Nat):Nat:=LN (QdZ a b)
def Qd1(a:Arr)(b:Nat):List Int:=Arr.nu (VU a b)
def Qd2(a:Arr)(b:Nat):Nat:=LN (Qd1 a b)
def Qd3(a:Arr)(b:Nat):List Arr:=Arr.it (VU a b)
def Qd4(a:Arr)(b:Nat):Nat:=LN (Qd3 a b)
def Qh5(a:Arr):D:=D.sl N4 (Qw a) (fun i=>QdW a i) Mode.any
theorem Bdc(a : Arr)(ha : a.nu.length<=maxLen /\ a.it.length<=maxLen /\ a.sh.length<=maxLen)(ih : ∀b∈a.it, CD 53 [.agg b.row2] (.int .i64 (wtA b))) :
  CD 53 [.agg a.row2] (.int .i64 (wtA a)):=by
 refine Bg (A:=sC _ _) (x:=()) (E:=Ewp a) (eOk (BaZ ih) rfl) Try.func53 rfl (by kernel_rfl) rfl (by simp[sC,Ewp,EC,E0]) ?_
 refine Bl (T :=
  ∀(x:Nat),True->SM x/\∃(x_1:Arr),((Kj a=Kj x_1/\(KB a=KB x_1/\(∀(i:Nat),i<KB a->VO a i=VO x_1 i/\True)/\True)/\(Kk a=Kk x_1/\(∀(i:Nat),i<Kk a->VP a i=VP x_1 i/\True)/\True)/\(Qw a=Qw x_1/\(∀(i:Nat),i<Qw a->Y2 a i=Y2 x_1 i/\(VR a i=VR x_1 i/\(∀(i_1:Nat),i_1<VR a i->Y3 a i i_1=Y3 x_1 i i_1/\True)/\True)/\(VS a i=VS x_1 i/\(∀(i_1:Nat),i_1<VS a i->Y4 a i i_1=Y4 x_1 i i_1/\True)/\True)/\(VT a i=VT x_1 i/\(∀(i_1:Nat),i_1<VT a i->wkL (Y5 a i i_1) (Y5 x_1 i i_1))/\True)/\True)/\True)/\True)/\True)/\∀(y:Unit),True->SM x/\ifB (Kj a != (3:Int)) (RT (QdV x_1=Jh a)) (SM x/\(∃(x_2:Nat×Int),Y6 x_2.1 a x_2.2/\(QdV x_1=x_2.2/\Z0=(NI x_2.1)/\True)/\QdX x a)/\∀(x_2:Nat×Int),Y6 x_2.1 a x_2.2->ifB (decide ((NI x_2.1)<Y7 a)) (Bd (Z0<=(NI x_2.1)/\(NI x_2.1)<Y7 a) (∀(x_3:Nat),x≠x_3/\True->SM x_3/\ifB (decide ((262144:Int)<x_2.2)) (QdY x_2.2 a) (SM x_3/\∃(x_4:Arr),(((Arr.k (VU a x_2.1)=Kj x_4/\(Qd0 a x_2.1=KB x_4/\(∀(i:Nat),i<Qd0 a x_2.1->GI (QdZ a x_2.1) i=VO x_4 i/\True)/\True)/\(Qd2 a x_2.1=Kk x_4/\(∀(i:Nat),i<Qd2 a x_2.1->GI (Qd1 a x_2.1) i=VP x_4 i/\True)/\True)/\(Qd4 a x_2.1=Qw x_4/\(∀(i:Nat),i<Qd4 a x_2.1->wkL (Arr.row (List.getD (Qd3 a x_2.1) i VQ)) (Arr.row (Jg x_4 i)))/\True)/\True)/\True)/\x_4∈Jf a)/\∀(y:Unit),True->(SM (D.ref N0 x N0)/\SM (Qh5 a)/\SM (ZI (Y7 a))/\True)/\∃(y:Nat×Int),Y6 y.1 a y.2/\Qw a-y.1<Qw a-x_2.1/\((if (262145:Int)<IntKind.wrap IntKind.i64 (x_2.2+Jh x_4) then (262145:Int) else IntKind.wrap IntKind.i64 (x_2.2+Jh x_4))=y.2/\IntKind.wrap IntKind.i64 ((NI x_2.1)+Z1)=(NI y.1)/\True)/\QdX x a))) (QdY x_2.2 a))) (by kernel_rfl) ?_
 delta DA GI LN N0 N1 N4 NI SM Z0 Z1 ZI Qw VQ Jg Y2 QdR VR Y3 QdS VS Y4 QdT VT Y5 QdU QdV Jh Y6 QdW QdX Y7 QdY VU QdZ Qd0 Qd1 Qd2 Qd3 Qd4 Qh5 Kj KB VO Kk VP Jf RT
 have da:(default:Arr)=Arr.mk 0 [] [] []:=rfl
 simp only[<- da]
 simp only[ne_eq,implies_true,Int.toNat_natCast,Bh,Bc,decide_eq_true_eq,decide_eq_false_iff_not,true_and,and_true,bne_iff_ne,bne_eq_false_iff_eq,exists_const,forall_const,Prod.exists]
 have hw:=MF a
 have hsz:0<=BA a.k a.nu.length a.it.length:=by
  unfold BA;split<;>(try split)<;>omega
 obtain ⟨l1,l2,l3⟩:=ha
 simp only[maxLen] at l1 l2 l3
 refine fun y=>⟨a,⟨rfl,⟨rfl,fun _ _=>rfl⟩,⟨rfl,fun _ _=>rfl⟩,rfl,fun i hi=>⟨rfl,⟨rfl,fun _ _=>rfl⟩,⟨rfl,fun _ _=>rfl⟩,rfl,fun _ _=>Be _⟩⟩,fun h3=>?_,fun h3=>⟨⟨0,_,⟨Nat.zero_le _,?_,?_,?_⟩,rfl,rfl⟩,?_⟩⟩
 ·rw[hw,Oy h3];split<;>omega
 ·split<;>omega
 ·split<;>omega
 ·rw[List.drop_zero,Bby,hw]
 rintro ⟨j,n⟩ ⟨b1,b2,b3,hch⟩
 simp only at b1 b2 b3 hch ⊢
 refine⟨fun hlt=>⟨⟨by omega,hlt⟩,fun y1 _=>⟨fun hn=>?_,fun hn=>⟨a.it.getD j default,⟨⟨rfl,⟨rfl,fun _ _=>rfl⟩,⟨rfl,fun _ _=>rfl⟩,rfl,fun _ _=>Be _⟩,CC (by omega)⟩,j+1,_,⟨by omega,?_,?_,?_⟩,by omega,rfl,Bb (by omega) (by omega)⟩⟩⟩,fun hge=>?_⟩
 ·rw[T6 _ _ hn] at hch;omega
 all_goals try have hbd:=Ey (a.it.getD j default)
 ·rw[Bb (by omega) (by omega)];split<;>omega
 ·split<;>omega
 ·rw[Bb (by omega) (by omega),Bby]
  rw[CV (by omega),wtL,if_pos ⟨h3,by omega⟩] at hch
  exact hch
 ·rw[List.drop_eq_nil_of_le (by omega),wtL] at hch
  omega
theorem Bbh:∀(a:Arr),a.ok->CD 53 [.agg a.row2] (.int .i64 (wtA a))
 |.mk k s n is,h=>by
  have h':=h
  simp only[Arr.ok] at h'
  obtain ⟨_,_,_,h1,h2,h3,h4⟩:=h'
  refine Bdc (.mk k s n is) ⟨h2,h3,h1⟩ fun b hb=>?_
  have hb':b∈is:=hb
  exact Bbh b ((CA _).1 h4 b hb')
termination_by a=>SizeOf.sizeOf a
decreasing_by
 have:=List.sizeOf_lt_of_mem hb'
 simp;omega
def wtS:List Arr->Int
 | []=>0
 |x::r=>wtA x+wtS r
theorem TH:∀(a b:List Arr),wtS (a++b)=wtS a+wtS b
 | [],b=>by simp[wtS]
 |x::a,b=>by rw[List.cons_append,wtS,wtS,TH a b];omega
theorem Mk:∀(a:List Arr),0<=wtS a
 | []=>by simp[wtS]
 |x::a=>by
  have:=(Ey x).1
  have:=Mk a
  rw[wtS];omega
theorem BaX:∀(l:List Arr) (n:Int),wtL 3 l n<=262144->wtL 3 l n=n+wtS l
 | [],n,_=>by simp[wtL,wtS]
 |x::r,n,h=>by
  rw[wtL] at h ⊢
  rw[wtS]
  split
  ·rename_i h1
   rw[if_pos h1] at h
   rw[BaX r _ h];omega
  ·rename_i h1
   rw[if_neg h1] at h
   exact absurd ⟨rfl,h⟩ h1
theorem MX:∀(l:List Arr) (d w:Int) (r:Int×Int),BS l d w=some r->d<=r.1/\∀b∈l,(Bj b).1=0/\(Bj b).2.1+1<=r.1
 | [],d,w,r,h=>by
  rw[BS] at h;injection h with h;subst h
  exact⟨Int.le_refl _,fun b hb=>by cases hb⟩
 |x::l,d,w,r,h=>by
  rw[BS] at h
  split at h
  ·cases h
  ·rename_i hx
   obtain ⟨h1,h2⟩:=MX l _ _ r h
   refine⟨by split at h1<;>omega,fun b hb=>?_⟩
   rcases List.mem_cons.1 hb with rfl | hb
   ·exact⟨Decidable.not_not.1 hx,by split at h1<;>omega⟩
   ·exact h2 b hb
theorem US:∀(l:List Arr) (d w:Int),(∀b∈l,(Bj b).1=0/\(Bj b).2.1+1<=16)->d<=16->w+wtS l<=262144->∃r,BS l d w=some r/\r.1<=16/\r.2<=262144
 | [],d,w,_,hd,hw=>⟨(d,w),by rw[BS],hd,by simpa[wtS] using hw⟩
 |x::l,d,w,h,hd,hw=>by
  obtain ⟨h1,h2⟩:=h x (by simp)
  rw[wtS,Ub x h1] at hw
  have:=Mk l
  rw[BS,if_neg (by omega)]
  refine US l _ _ (fun b hb=>h b (by simp[hb])) ?_ ?_
  ·split<;>omega
  ·split<;>omega
theorem UG{k:Int}{s nu:List Int}{it:List Arr}(hf:Bz k s nu.length it.length=0)(hb:nu.any (CJ k)=false)(hi:∀b∈it,(Bj b).1=0/\(Bj b).2.1+1<=16)(hw:(nu.length:Int)+it.length+wtS it<=262144):(Bj (.mk k s nu it)).1=0:=by
 obtain ⟨r,e1,e2,e3⟩:=US it 0 ((nu.length:Int)+it.length) hi (by omega) hw
 rw[Bj,if_neg (by rw[hf];decide),if_neg (by rw[hb];decide),e1]
 simp only
 rw[if_neg (by omega)]
theorem Bas{k:Int}{s nu:List Int}{it:List Arr}(h:(Bj (.mk k s nu it)).1=0):Bz k s nu.length it.length=0/\nu.any (CJ k)=false/\(∀b∈it,(Bj b).1=0/\(Bj b).2.1+1<=16)/\wtA (.mk k s nu it)=(nu.length:Int)+it.length+wtS it/\wtA (.mk k s nu it)<=262144:=by
 have hf:=Cr h
 have hw:=Ub _ h
 have hm:=h
 rw[Bj] at h hw
 rw[if_neg (by rw[show Bz k s nu.length it.length=0 from hf];decide)] at h hw
 split at h
 ·simp at h
 ·rename_i hb
  rw[if_neg hb] at hw
  cases hc:BS it 0 ((nu.length:Int)+it.length) with
  |none=>rw[hc] at h;simp at h
  |some r =>
   rw[hc] at h hw
   simp only at h hw
   split at h
   ·simp at h
   ·rename_i hr
    rw[if_neg hr] at hw
    simp only at hw
    obtain ⟨_,d2⟩:=MX it _ _ r hc
    refine⟨hf,by simpa using hb,fun b hb=>⟨(d2 b hb).1,by have:=(d2 b hb).2;omega⟩,?_,by omega⟩
    obtain ⟨f1,_,f3,f4⟩:=B7.1 hf
    have hwe:=MF (.mk k s nu it)
    have hwe:wtA (.mk k s nu it)=min (wtL k it (BA k nu.length it.length)) 262145:=hwe
    have f4:(if k=3 then nu.length else it.length)=0:=f4
    have f1:k=1\/k=2\/k=3:=f1
    by_cases h3:k=3
    ·subst h3
     rw[if_pos rfl] at f4
     have z:BA 3 nu.length it.length=it.length:=by simp[BA]
     rw[z] at hwe
     have:=BaX it it.length (by omega)
     rw[hwe] at hw ⊢
     omega
    ·rw[if_neg h3] at f4
     have z:BA k nu.length it.length=nu.length:=by unfold BA;rw[if_pos (by omega)]
     rw[z,Oy h3] at hwe
     have hit:it=[]:=List.eq_nil_of_length_eq_zero f4
     rw[hit] at hwe ⊢
     simp only[wtS,List.length_nil]
     rw[hit] at hw
     omega
theorem Bb4{a b:List Arr}(h:a.Perm b):wtS a=wtS b:=by
 induction h with
 |nil=>rfl
 |cons x _ ih=>rw[wtS,wtS,ih]
 |swap x y l=>simp only[wtS];omega
 |trans _ _ i1 i2=>exact i1.trans i2
def Cb(l:List Nat):List Int:=l.map fun (n:Nat)=>(n:Int)
def gaN(a:Arr)(fr:List Nat):List Int:=if a.k=3 then [] else fr.map fun i=>a.nu.getD i 0
def gaI(a:Arr)(fr:List Nat):List Arr:=if a.k=3 then fr.map fun i=>a.it.getD i default else []
def gaA(a:Arr)(s:List Int)(fr:List Nat):Arr:=.mk a.k s (gaN a fr) (gaI a fr)
def gaW(a:Arr)(fr:List Nat):Int:=if a.k=3 then (fr.length:Int)+wtS (gaI a fr) else 0
theorem CW(l:List Nat):(Cb l).length=l.length:=by simp[Cb]
theorem ES(l:List Nat){i:Nat}(h:i<l.length):(Cb l).getD i 0=(l.getD i 0:Nat):=by
 simp only[Cb,List.getD_eq_getElem?_getD,List.getElem?_map,List.getElem?_eq_getElem h];rfl
theorem BcV(b:Arr):[D.int .i64 b.k,D.sl 1 b.sh.length (fun i=>[D.int .i64 (b.sh.getD i 0)]) .any,D.sl 1 b.nu.length (fun i=>[D.int .i64 (b.nu.getD i 0)]) .any,D.sl 4 b.it.length (fun i=>(b.it.getD i default).row) .any]=b.row1:=rfl
section
variable {a:Arr} {fr:List Nat} {i:Nat}
theorem Mu(h:a.k=3)(fr:List Nat):gaN a fr=[]:=if_pos h
theorem Mo(h:a.k≠3)(fr:List Nat):gaI a fr=[]:=if_neg h
theorem BcH(h:a.k≠3)(hi:i<fr.length):gaN a (fr.take (i+1))=gaN a (fr.take i)++[a.nu.getD (fr.getD i 0) 0]:=by
 have e:fr.take (i+1)=fr.take i++[fr.getD i 0]:=CR (show i<fr.length from hi)
 rw[gaN,gaN,if_neg h,if_neg h,e,List.map_append];rfl
theorem Uc(h:a.k=3)(hi:i<fr.length):gaI a (fr.take (i+1))=gaI a (fr.take i)++[a.it.getD (fr.getD i 0) default]:=by
 have e:fr.take (i+1)=fr.take i++[fr.getD i 0]:=CR (show i<fr.length from hi)
 rw[gaI,gaI,if_pos h,if_pos h,e,List.map_append];rfl
theorem BaS(h:a.k=3)(hi:i<fr.length):gaW a (fr.take (i+1))=gaW a (fr.take i)+(1+wtA (a.it.getD (fr.getD i 0) default)):=by
 rw[gaW,gaW,if_pos h,if_pos h,Uc h hi,TH,List.length_take,List.length_take]
 simp only[wtS]
 have:min (i+1) fr.length=min i fr.length+1:=by omega
 rw[this];push_cast;omega
theorem Bdb(a:Arr)(fr:List Nat):0<=gaW a fr:=by
 unfold gaW
 have:=Mk (gaI a fr)
 split<;>omega
theorem Bd1(a:Arr)(fr:List Nat)(i:Nat):gaW a (fr.take i)<=gaW a fr:=by
 unfold gaW
 by_cases h:a.k=3
 ·rw[if_pos h,if_pos h]
  have e:gaI a fr=gaI a (fr.take i)++gaI a (fr.drop i):=by
   rw[gaI,gaI,gaI,if_pos h,if_pos h,if_pos h,<- List.map_append,List.take_append_drop]
  have:=Mk (gaI a (fr.drop i))
  rw[e,TH,List.length_take]
  omega
 ·rw[if_neg h,if_neg h];omega
theorem Bef(a:Arr)(fr:List Nat):(gaN a fr).length<=fr.length/\(gaI a fr).length<=fr.length:=by
 unfold gaN gaI
 by_cases h:a.k=3
 ·simp[h]
 ·simp[h]
end
theorem Bd0(a b:List Int)(i:Nat):BG a.length (fun i=>[D.int .i64 (a.getD i 0)]) (fun i=>[D.int .i64 (b.getD i 0)]) i=[D.int .i64 ((a++b).getD i 0)]:=by
 rw[BG]
 split
 ·rename_i hi;rw[List.getD_eq_getElem?_getD,List.getD_eq_getElem?_getD,List.getElem?_append_left hi]
 ·rename_i hi;rw[List.getD_eq_getElem?_getD,List.getD_eq_getElem?_getD,List.getElem?_append_right (by omega)]
theorem BaV(a:List Int)(z:Int)(i:Nat)(hi:i<a.length+1):BG a.length (fun i=>[D.int .i64 (a.getD i 0)]) (fun i=>[[D.int .i64 z]].getD i []) i=[D.int .i64 ((a++[z]).getD i 0)]:=by
 rw[<- Bd0,BG,BG]
 split
 ·rfl
 ·obtain rfl:i=a.length:=by omega
  rw[Nat.sub_self];rfl
theorem Bd2(a:List Arr)(z:Arr)(i:Nat)(hi:i<a.length+1):BG a.length (fun i=>(a.getD i default).row1) (fun i=>[z.row1].getD i []) i=((a++[z]).getD i default).row1:=by
 rw[BG]
 split
 ·rename_i h;rw[List.getD_eq_getElem?_getD,List.getD_eq_getElem?_getD,List.getElem?_append_left h]
 ·obtain rfl:i=a.length:=by omega
  rw[Nat.sub_self,List.getD_eq_getElem?_getD (l:=a++[z]),List.getElem?_append_right (by omega),Nat.sub_self];rfl
structure GaH (a:Arr) (s:List Int) (fr:List Nat):Prop where
 v:Val a
 hs:s.length<=1000000
 hf:∀i∈fr,i<szN a
 hl:fr.length<=65536
 hw:gaW a fr<=262144
def Ba5(a:Arr)(s:List Int):Con:=fun k ds S=>match k with
 |25=>some (pA ds S (isl s .any) (wkL ds [isl s .any]))
 |53=>some (pE (β:=Arr) ds S (fun b=>.int .i64 (wtA b)) (fun b=>ds=[.agg b.row]/\b∈a.it))
 |54=>some (pE (β:=Arr) ds S (fun b=>.agg b.row1) (fun b=>ds=[.agg b.row]/\b∈a.it))
 |_=>none
theorem Bck{a:Arr}{s:List Int}(h:Val a)(hs:s.length<=1000000):ConOk Try.prog (Ba5 a s):=by
 intro k ds S A hh
 unfold Ba5 at hh
 split at hh
 ·injection hh with hh;subst hh
  exact Bv fun e=>CD.at_ (CD.wk (Mm s hs) e) _
 ·injection hh with hh;subst hh
  refine B0 fun b ⟨e,hb⟩=>CD.at_ ?_ _
  rw[e]
  refine CD.wk (CD.wk (Bbh b (h.it hb).ok) (ds:=[.agg b.row1]) ?_) ?_
  ·simp only[wkL,wkD]
   exact⟨CF b,trivial⟩
  ·simp only[wkL,wkD]
   exact⟨Gv b,trivial⟩
 ·injection hh with hh;subst hh
  refine B0 fun b ⟨e,hb⟩=>CD.at_ ?_ _
  rw[e]
  refine CD.wk (us:=[.agg b.row1]) ?_ ?_
  ·exact (WM b (h.it hb).c).mono fun _ _ ⟨y,q1,q2,q3⟩=>⟨(),trivial,q2,q3⟩
  ·simp only[wkL,wkD]
   exact⟨Gv b,trivial⟩
 ·cases hh
noncomputable def Ega(a:Arr)(s:List Int)(fr:List Nat):Senv:={ EC (Ba5 a s) 61 4 [6,7,8,9,11,17,18,19,20,25,46] (fun id=>match id with | 1=>([0,1,2,3,4,5,6],[3,5,6]) | 7=>([0,1,2,3,4,5,6,7,8,9,10],[7,8,10]) | 11=>([0,1,2,3,4,5,6,7,8,9,10,11],[7,8,9,11]) | _=>([],[])) with
 gh:=fun b=>match b with
  |0=>[.cell 7 102,.cell 7 403]
  |_=>[]
 ann:=fun b _ S=>match b with
  |0=>match Bx S.objs 7 with
   |some (_,.cells (c0::c1::_::_::cs))=>some { slots:=[19,9],keep:=[3,6,8,17,18],α:=Nat×Nat×Nat,st:=fun z=>([.int .i64 z.1,.int .i64 (gaW a (fr.take z.1))],⟨Et S.objs 7 (.cells (c0::c1::.sl 1 (gaN a (fr.take z.1)).length (fun i=>[.int .i64 ((gaN a (fr.take z.1)).getD i 0)]) (.tok 0 z.2.1)::.sl 4 (gaI a (fr.take z.1)).length (fun i=>((gaI a (fr.take z.1)).getD i default).row1) (.tok 1 z.2.2)::cs)),[(1,z.2.2),(0,z.2.1)]⟩),inv:=fun z=>z.1<=fr.length,mu:=fun z=>fr.length-z.1 }
   |_=>none
  |_=>none }
def Qd5(a:List Int):Prop:=(SM (LN a)/\(∀(i:Nat),i<LN a->SM (GI a i)/\True)/\True)/\True
def VV(a:Arr):Int:=Arr.k a
def Qd6(a:Arr):D:=ZI (VV a)
def Y8(a:Nat)(b:Arr):Prop:=SM a/\SM (Qd6 b)
def Ji(a:Arr)(b:Nat)(c:List Nat):Int:=gaW a (List.take b c)
def VW(a:Arr):Prop:=SM (VV a)
def Y9(a:List Int):Prop:=SM (LN a)/\(∀(i:Nat),i<LN a->SM [ZI (GI a i)])/\True
def QI(a:Arr)(b:Nat)(c:List Nat):Nat:=LN (gaN a (List.take b c))
def Kl(a:Arr)(b:Nat)(c:List Nat)(d:Nat):List D:=[ZI (GI (gaN a (List.take b c)) d)]
def QJ(a:Arr)(b:Nat)(c:List Nat):Nat:=LN (gaI a (List.take b c))
def KC:Arr:=DA
def VX(a:Arr)(b:Nat)(c:List Nat)(d:Nat):Arr:=List.getD (gaI a (List.take b c)) d KC
def Qh6(a:Arr)(b:Nat)(c:List Nat)(d:Nat):List Int:=Arr.sh (VX a b c d)
def Qh7(a:Arr)(b:Nat)(c:List Nat)(d:Nat):List Int:=Arr.nu (VX a b c d)
def Qd7(a:Arr)(b:Nat)(c:List Nat)(d:Nat):List Arr:=Arr.it (VX a b c d)
def Km(a:Arr)(b:Nat)(c:List Nat)(d:Nat):List D:=[ZI (Arr.k (VX a b c d)),SI (Qh6 a b c d),SI (Qh7 a b c d),D.sl N4 (LN (Qd7 a b c d)) (fun i=>Arr.row (List.getD (Qd7 a b c d) i KC)) Mode.any]
def Za:Prop:=SM N0/\(∀(i:Nat),i<N0->C8 (List D) [] [])/\True
def Zb(a:Arr):Nat:=LN (Arr.sh a)
def Qd8(a:Arr)(b:Nat):List D:=[ZI (GI (Arr.sh a) b)]
def VY(a:Arr):Nat:=LN (Arr.nu a)
def Qd9(a:Arr)(b:Nat):List D:=[ZI (GI (Arr.nu a) b)]
def VZ(a:Arr):List Arr:=Arr.it a
def Jj(a:Arr):Nat:=LN (VZ a)
def Qea(a:Arr)(b:Nat):List D:=Arr.row (List.getD (VZ a) b KC)
def Zc(a b:Nat)(c:Arr):Prop:=SM a/\(SM Z0/\Za/\Za/\Za/\True)/\SM b/\(VW c/\(SM (Zb c)/\(∀(i:Nat),i<Zb c->SM (Qd8 c i))/\True)/\(SM (VY c)/\(∀(i:Nat),i<VY c->SM (Qd9 c i))/\True)/\(SM (Jj c)/\(∀(i:Nat),i<Jj c->SM (Qea c i))/\True)/\True)/\True
def Zd(a:List Nat):Int:=(LI (Cb a))
def QZ(a:List Nat)(b:Nat):Int:=GI (Cb a) (Int.toNat (↑b:Int))
def Qh8(a:Arr)(b:Nat)(c:List Nat)(d:Nat):D:=D.sl N1 (QI a b c) (fun i=>Kl a b c i) (Mode.tok N0 d)
def V0(a:Arr)(b:Nat)(c:List Nat):Nat:=QI a b c+N1
def Qh9(a:List Nat):D:=SI (Cb a)
def Qeb(a b c:Nat)(d:List Nat):Prop:=SM (D.ref N0 a N0)/\SM (D.ref (max (N0+N1) N0) b N0)/\SM (D.ref (max N2 (max (N0+N1) N0)+nat_lit 5) c N0)/\SM (Qh9 d)/\SM (ZI (Zd d))/\True
def Qec(a:Arr)(b:List Nat)(c:Nat):List D:=Arr.row (List.getD (VZ a) (Int.toNat (QZ b c)) KC)
def Qed(a:Arr)(b:List Nat)(c:Nat):Nat:=LN (Qec a b c)
def Qee(a:Arr)(b:List Nat)(c:Nat)(d:Arr):Prop:=[D.agg (List.take N4 (List.drop N0 (Qec a b c)))]=[D.agg (Arr.row d)]/\d∈VZ a
def Qef(a:Arr)(b:Nat)(c:List Nat)(d:Arr):Int:=IntKind.wrap IntKind.i64 (Ji a b c+IntKind.wrap IntKind.i64 (Z1+wtA d))
def Qia(a:Arr)(b:Nat)(c:List Nat)(d:Nat):D:=D.sl N4 (QJ a b c) (fun i=>Km a b c i) (Mode.tok N1 d)
def Qeg(a:Nat)(b:Arr)(c:Nat)(d:List Nat)(e:Nat):Prop:=SM a/\SM (Qia b c d e)
def V1(a:Arr)(b:Nat)(c:List Nat):Nat:=QJ a b c+N1
def V2(a:Arr)(b:List Int)(c:List Nat)(d:Nat):Arr:=List.getD (Arr.it (gaA a b c)) d KC
def Qib(a:Arr)(b:List Int)(c:List Nat)(d:Nat):List Int:=Arr.sh (V2 a b c d)
def Qic(a:Arr)(b:List Int)(c:List Nat)(d:Nat):List Int:=Arr.nu (V2 a b c d)
def Qeh(a:Arr)(b:List Int)(c:List Nat)(d:Nat):List Arr:=Arr.it (V2 a b c d)
def Qei(a:Nat)(b:Arr)(c:Nat)(d:List Nat)(e:List Int)(f:Nat):Prop:=Y8 a b/\SM c/\∀(t t_1:Nat),(∃(x:Nat×Nat×Nat),x.1<=LN d/\(Z0=(NI x.1)/\Z0=Ji b x.1 d/\True)/\(SM c/\(VW b/\Y9 e/\(N0=QI b x.1 d/\(∀(i:Nat),i<N0->C8 (List D) [] (Kl b x.1 d i))/\t=x.2.1)/\(N0=QJ b x.1 d/\(∀(i:Nat),i<N0->C8 (List D) [] (Km b x.1 d i))/\t_1=x.2.2)/\True)/\Zc f a b)/\t_1=x.2.2/\t=x.2.1/\True)/\∀(x:Nat×Nat×Nat),x.1<=LN d->ifB (decide ((NI x.1)<Zd d)) (Bd (Z0<=(NI x.1)/\(NI x.1)<Zd d) (SM a/\ifB (VV b != (3:Int)) (SM c/\SM a/\Bd (Z0<=QZ d x.1/\QZ d x.1<(NI (VY b))) ((SM c/\SM (Qh8 b x.1 d x.2.1))/\SM x.2.1/\Bd (V0 b x.1 d*8<=140737488355328/\V0 b x.1 d<=9223372036854775807) (∀(t:Nat),SM c/\Qeb a f c d/\∃(y:Nat×Nat×Nat),y.1<=LN d/\LN d-y.1<LN d-x.1/\(IntKind.wrap IntKind.i64 ((NI x.1)+Z1)=(NI y.1)/\Ji b x.1 d=Ji b y.1 d/\True)/\(SM c/\(VW b/\Y9 e/\(V0 b x.1 d=QI b y.1 d/\(∀(i:Nat),i<V0 b x.1 d->BG (QI b x.1 d) (fun i=>Kl b x.1 d i) (fun i=>List.getD [List.take N1 [ZI (GI (Arr.nu b) (Int.toNat (QZ d x.1)))]] i []) i=Kl b y.1 d i)/\t=y.2.1)/\(QJ b x.1 d=QJ b y.1 d/\(∀(i:Nat),i<QJ b x.1 d->Km b x.1 d i=Km b y.1 d i)/\x.2.2=y.2.2)/\True)/\Zc f a b)/\x.2.2=y.2.2/\t=y.2.1/\True))) (SM a/\Bd (Z0<=QZ d x.1/\QZ d x.1<(NI (Jj b))) (Bd (N4<=Qed b d x.1) (∃(x_1:Arr),Qee b d x.1 x_1/\∀(_y:Unit),True->ifB (decide ((262144:Int)<Qef b x.1 d x_1)) (SM f/\(SM f/\True)/\∃(_y:Unit),True/\((Z0=Arr.k (gaA b e d)/\(N0=LN (Arr.sh (gaA b e d))/\(∀(i:Nat),i<N0->C8 (List D) [] [ZI (GI (Arr.sh (gaA b e d)) i)])/\True)/\(N0=LN (Arr.nu (gaA b e d))/\(∀(i:Nat),i<N0->C8 (List D) [] [ZI (GI (Arr.nu (gaA b e d)) i)])/\True)/\False/\True)/\(21:Int)=Z0/\True)/\True/\True) (SM c/\SM a/\Bd (Z0<=QZ d x.1/\QZ d x.1<(NI (Jj b))) (Bd (N4<=Qed b d x.1) (∃(x_2:Arr),Qee b d x.1 x_2/\∀(_y:Unit),True->Qeg c b x.1 d x.2.2/\Qeg c b x.1 d x.2.2/\SM x.2.2/\Bd (V1 b x.1 d*80<=140737488355328/\V1 b x.1 d<=9223372036854775807) (∀(t:Nat),SM c/\Qeb a f c d/\∃(y:Nat×Nat×Nat),y.1<=LN d/\LN d-y.1<LN d-x.1/\(IntKind.wrap IntKind.i64 ((NI x.1)+Z1)=(NI y.1)/\Qef b x.1 d x_1=Ji b y.1 d/\True)/\(SM c/\(VW b/\Y9 e/\(QI b x.1 d=QI b y.1 d/\(∀(i:Nat),i<QI b x.1 d->Kl b x.1 d i=Kl b y.1 d i)/\x.2.1=y.2.1)/\(V1 b x.1 d=QJ b y.1 d/\(∀(i:Nat),i<V1 b x.1 d->BG (QJ b x.1 d) (fun i=>Km b x.1 d i) (fun i=>List.getD [List.take N4 [Qd6 x_2,D.sl N1 (Zb x_2) (fun i=>Qd8 x_2 i) Mode.any,D.sl N1 (VY x_2) (fun i=>Qd9 x_2 i) Mode.any,D.sl N4 (Jj x_2) (fun i=>Qea x_2 i) Mode.any]] i []) i=Km b y.1 d i)/\t=y.2.2)/\True)/\Zc f a b)/\t=y.2.2/\x.2.1=y.2.1/\True))))))))) (SM c/\SM f/\(SM f/\True)/\∃(_y:Unit),True/\((VV b=Arr.k (gaA b e d)/\(LN e=LN (Arr.sh (gaA b e d))/\(∀(i:Nat),i<LN e->[ZI (GI e i)]=[ZI (GI (Arr.sh (gaA b e d)) i)])/\True)/\(QI b x.1 d=LN (Arr.nu (gaA b e d))/\(∀(i:Nat),i<QI b x.1 d->Kl b x.1 d i=[ZI (GI (Arr.nu (gaA b e d)) i)])/\True)/\(QJ b x.1 d=LN (Arr.it (gaA b e d))/\(∀(i:Nat),i<QJ b x.1 d->Km b x.1 d i=[ZI (Arr.k (V2 b e d i)),SI (Qib b e d i),SI (Qic b e d i),D.sl N4 (LN (Qeh b e d i)) (fun i_1=>Arr.row (List.getD (Qeh b e d i) i_1 KC)) Mode.any])/\True)/\True)/\SM Z0/\True)/\True/\True)
theorem Bd5(a:Arr)(s:List Int)(fr:List Nat)(h:GaH a s fr):CD 33 [.agg a.row1,isl s .any,isl (Cb fr) .any] (.tup [.agg (gaA a s fr).row2,.int .i64 0]):=by
 refine Bg (A:=sC _ _) (x:=()) (E:=Ega a s fr) (eOk (Bck h.v h.hs) rfl) Try.func33 rfl (by kernel_rfl) rfl (by simp[sC,Ega,EC,E0]) ?_
 refine Bl (T :=
  ∀(x:Nat),True->∀(x_1:Nat),x≠x_1/\True->SM x/\(∃(x_2:Unit),Qd5 s/\∀(y:Unit),True->Y8 x a/\∀(x_3:Nat),x_1≠x_3/\x≠x_3/\True->Qei x a x_3 fr s x_1)/\∀(x_2:Nat),x_1≠x_2/\x≠x_2/\True->Y8 x a/\∃(x_3:Unit),Qd5 s/\∀(y:Unit),True->Qei x a x_2 fr s x_1) (by kernel_rfl) ?_
 delta DA GI LI LN N0 N1 N2 N4 NI SI SM Z0 Z1 ZI Qd5 VV KC VX Qh6 Qh7 Qd7 Km Za Zb Qd8 VY Qd6 Qd9 VZ Jj Qea Zc Zd QZ Qh8 V0 Qh9 Y8 Qeb Qec Qed Qee Qef Qia Qeg V1 V2 Qib Ji Qic Qeh Qei VW Y9 QI Kl QJ
 have da:(default:Arr)=Arr.mk 0 [] [] []:=rfl
 simp only[<- da]
 simp only[ne_eq,implies_true,Int.toNat_natCast,Bh,Bc,decide_eq_true_eq,decide_eq_false_iff_not,true_and,and_true,bne_iff_ne,bne_eq_false_iff_eq,exists_const,forall_const,Prod.exists]
 simp only[BcV]
 obtain ⟨hv,hs,hf,hl,hw⟩:=h
 have cl:=CW fr
 refine fun x x1 _=>⟨?_,?_⟩
 all_goals
  refine fun x3 _=>?_
  refine fun t t1=>⟨⟨0,t,t1,Nat.zero_le _,⟨rfl,?_⟩,⟨⟨?_,(fun i hi=>absurd hi (Nat.not_lt_zero i)),rfl⟩,?_,(fun i hi=>absurd hi (Nat.not_lt_zero i)),rfl⟩,rfl,rfl⟩,?_⟩
  ·rw[List.take_zero,gaW,gaI];split<;>simp[wtS]
  ·rw[List.take_zero,gaN];split<;>rfl
  ·rw[List.take_zero,gaI];split<;>rfl
  rintro ⟨i,t2,t3⟩ hi
  simp only at hi ⊢
  refine⟨fun hlt=>?_,fun hge=>?_⟩
  ·have hlt:i<fr.length:=by omega
   have hm:fr.getD i 0<szN a:=hf _ (by rw[List.getD_eq_getElem?_getD,List.getElem?_eq_getElem hlt];exact List.getElem_mem hlt)
   have gl:=Bef a (fr.take i)
   rw[List.length_take] at gl
   simp only[ES fr hlt,Int.toNat_natCast]
   refine⟨⟨by omega,by omega⟩,fun hk=>?_,fun hk=>?_⟩
   ·rw[szN,if_neg hk] at hm
    have e1:=BcH hk hlt
    refine⟨⟨by omega,by omega⟩,⟨by omega,by omega⟩,fun t4=>⟨i+1,t4,t3,by omega,by omega,⟨Bb (by omega) (by omega),?_⟩,⟨⟨?_,(fun j hj=>?_),rfl⟩,?_,(fun j hj=>?_),rfl⟩,rfl,rfl⟩⟩
    ·rw[gaW,gaW,if_neg hk,if_neg hk]
    ·rw[e1,List.length_append];rfl
    ·rw[e1];exact BaV _ _ j hj
    ·rw[Mo hk,Mo hk]
    ·rw[Mo hk,Mo hk]
   ·rw[szN,if_pos hk] at hm
    have e1:=Uc hk hlt
    have e2:=BaS hk hlt
    have p1:=Bdb a (fr.take i)
    have p2:=Bd1 a fr (i+1)
    have p3:=(Ey (a.it.getD (fr.getD i 0) default)).1
    have hmem:a.it.getD (fr.getD i 0) default∈a.it:=CC hm
    have w1:IntKind.i64.wrap (gaW a (fr.take i)+IntKind.i64.wrap (1+wtA (a.it.getD (fr.getD i 0) default)))=gaW a (fr.take (i+1)):=by
     rw[Bb (n:=1+wtA (a.it.getD (fr.getD i 0) default)) (by omega) (by omega),Bb (by omega) (by omega),e2]
    have hrow:[D.agg (List.take 4 (List.drop 0 (a.it.getD (fr.getD i 0) default).row))]=[D.agg (a.it.getD (fr.getD i 0) default).row]:=by
     rw[List.drop_zero,List.take_of_length_le (by rw[Ev];omega)]
    refine⟨⟨by omega,by omega⟩,by rw[Ev];omega,_,⟨hrow,hmem⟩,fun q=>?_,fun _=>⟨⟨by omega,by omega⟩,by rw[Ev];omega,_,⟨hrow,hmem⟩,⟨by omega,by omega⟩,fun t4=>⟨i+1,t2,t4,by omega,by omega,⟨Bb (by omega) (by omega),w1⟩,⟨⟨?_,(fun j hj=>?_),rfl⟩,?_,(fun j hj=>?_),rfl⟩,rfl,rfl⟩⟩⟩
    ·rw[w1] at q;omega
    ·rw[Mu hk,Mu hk]
    ·rw[Mu hk,Mu hk]
    ·rw[e1,List.length_append];rfl
    ·rw[e1];exact Bd2 _ _ j hj
  ·obtain rfl:i=fr.length:=by omega
   rw[List.take_length]
   exact⟨rfl,⟨rfl,fun _ _=>rfl⟩,⟨rfl,fun _ _=>rfl⟩,rfl,fun _ _=>rfl⟩
theorem BeO(a:Arr)(s:List Int)(fr:List Nat)(h:GaH a s fr):CD 33 [.agg a.row1,isl s .any,isl (Cb fr) .any] (.tup [.agg (gaA a s fr).row1,.int .i64 0]) :=
 (CS.res ((Bd5 a s fr h).at_ ⟨[],[]⟩) fun C v=>BbT (R6 _ C) (fun _ q=>q) v).cd
noncomputable def Esl:Senv:=EC CM 15 4 [7] (fun id=>match id with | 3=>([0,1,2,3,4,5,6,7,8],[]) | _=>([],[]))
def Q0(a:Arr):List Int:=Arr.sh a
def Kn(a:Arr):Int:=(LI (Q0 a))
def Qej(a:Arr)(b:Nat):List D:=[ZI (GI (List.tail (Q0 a)) b)]
theorem Beb(y:Arr)(h:y.sh≠[]):CD 27 [.agg y.row1] (.tup [.int .i64 (y.sh.headD 0),isl y.sh.tail .any]):=by
 refine Bg (A:=sC _ _) (x:=()) (E:=Esl) (eOk By rfl) Try.func27 rfl (by kernel_rfl) rfl (by simp[sC,Esl,EC,E0]) ?_
 refine Bl (T :=
  ∀(x:Nat),True->SM x/\ifB (Kn y==Z0) (True/\∃(y_1:Unit),True/\(Z1=List.headD (Q0 y) Z0/\(N0=LN (List.tail (Q0 y))/\(∀(i:Nat),i<N0->C8 (List D) [] (Qej y i))/\True)/\True)/\True/\True) (SM x/\Bd (Z0<=Z0/\Z0<Kn y) (SM x/\Bd (Z0<=Z1/\Z1<=Kn y/\Kn y<=Kn y) (True/\∃(y_1:Unit),True/\(GI (Q0 y) N0=List.headD (Q0 y) Z0/\(Int.toNat (Kn y)-N1=LN (List.tail (Q0 y))/\(∀(i:Nat),i<Int.toNat (Kn y)-N1->[ZI (GI (Q0 y) (N1+i))]=Qej y i)/\True)/\True)/\True/\True)))) (by kernel_rfl) ?_
 delta GI LI LN N0 N1 SM Z0 Z1 ZI Q0 Kn Qej
 have da:(default:Arr)=Arr.mk 0 [] [] []:=rfl
 simp only[]
 simp only[ne_eq,Int.toNat_natCast,Bh,Bc,true_and,and_true,beq_iff_eq,beq_eq_false_iff_ne,exists_const,forall_const]
 have l0:0<y.sh.length:=List.length_pos_iff.2 h
 refine⟨fun e=>absurd e (by omega),fun _=>⟨⟨by omega,by omega⟩,⟨by omega,by omega,by omega⟩,?_,by rw[List.length_tail],fun i _=>?_⟩⟩
 ·cases y.sh<;>rfl
 ·rw[<- List.drop_one,Ch]
def wiS(x:Nat)(d:Int):St:=⟨[(0,x,.cells [.int .i64 d])],[]⟩
def wiD(l:List Int)(x:Nat):List D:=[isl l .any,.fn (.func 51) [] [.ref 0 x 0]]
noncomputable def Ewx(l:List Int)(_d:Int):Senv:={ EC CM 19 2 [4,5,7,8,9,16] (fun _=>([],[])) with
 ann:=fun b _ S=>match b with
  |0=>some { slots:=[8],keep:=[0,1,6,7],α:=Nat,st:=fun i=>([.int .i64 i],S),inv:=fun i=>i<=l.length,mu:=fun i=>l.length-i }
  |_=>none }
def V3(a:Nat)(b:Int):Prop:=(SM a/\(SM b/\True)/\True)/\True
def Ze(a:List Int)(b:Nat)(c:Int):Bool:=bif decide (GI a (Int.toNat (↑b:Int))<Z0) then true else decide (c<=GI a (Int.toNat (↑b:Int)))
def Qid(a:List Int):D:=SI a
theorem BeS(l:List Int)(x:Nat)(d:Int)(hl:l.length<=1000000)(h:∀z∈l,0<=z/\z<d):CS 55 (wiD l x) (wiS x d) (.int .i64 (-1)):=by
 refine CS.of (Bg (A:=sS _ _ _) (x:=()) (E:=Ewx l d) (eOk By rfl) Try.func55 rfl (by kernel_rfl) rfl (by simp[sS,wiD,Ewx,EC,E0]) ?_)
 refine Bl (T :=
  (∃(x_1:Nat),x_1<=LN l/\(Z0=(↑x_1:Int)/\True)/\V3 x d)/\∀(x_1:Nat),x_1<=LN l->ifB (decide ((↑x_1:Int)<(LI l))) (Bd (Z0<=(↑x_1:Int)/\(↑x_1:Int)<(LI l)) (ifB (decide (GI l (Int.toNat (↑x_1:Int))<Z0)) (true=Ze l x_1 d/\True) (SM x/\decide (d<=GI l (Int.toNat (↑x_1:Int)))=Ze l x_1 d/\True)/\True/\ifB (Ze l x_1 d) (True/\∃(y:Unit),True/\(↑x_1:Int)=(-1:Int)/\V3 x d) ((SM (Qid l)/\SM (D.fn (Fn.func (51:Nat)) [] [D.ref N0 x N0])/\SM D.unk/\SM (ZI (LI l))/\True)/\∃(y:Nat),y<=LN l/\LN l-y<LN l-x_1/\(IntKind.wrap IntKind.i64 ((↑x_1:Int)+Z1)=(↑y:Int)/\True)/\V3 x d))) (True/\∃(y:Unit),True/\SM (-1:Int)/\V3 x d)) (by kernel_rfl) ?_
 delta GI LI LN N0 N1 SI SM Z0 Z1 ZI V3 Ze Qid
 simp only[eq_self,implies_true,Int.toNat_natCast,Bh,Bc,decide_eq_true_eq,decide_eq_false_iff_not,true_and,and_true,exists_const]
 refine⟨⟨0,Nat.zero_le _,rfl⟩,fun i hi hlt=>?_⟩
 have hlt:i<l.length:=by omega
 have hz:=h (l.getD i 0) (by rw[List.getD_eq_getElem?_getD,List.getElem?_eq_getElem hlt];exact List.getElem_mem hlt)
 refine⟨⟨by omega,by omega⟩,⟨fun q=>absurd q (by omega),fun q=>by rw[decide_eq_false q,cond_false]⟩,fun q=>?_,fun _=>⟨i+1,by omega,by omega,Bb (by omega) (by omega)⟩⟩
 rw[decide_eq_false (by omega),cond_false,decide_eq_true_eq] at q
 omega
noncomputable def Ewc(l:List Int)(d:Int):Senv:=EC (fun k ds S=>match k with
 |55=>some (pA ds S (.int .i64 (-1)) (∃x,ds=wiD l x/\S=wiS x d))
 |_=>none) 9 2 [4] (fun _=>([],[]))
def Qek(a:List Int)(b:Nat):List D:=[SI a,D.fn (Fn.func (51:Nat)) [] [D.ref N0 b N0]]
def Qel(a:Nat)(b:Int):St:=St.mk [(N0,a,AObj.cells [ZI b])] []
theorem BeW(l:List Int)(x:Nat)(d:Int)(hl:l.length<=1000000)(h:∀z∈l,0<=z/\z<d):CS 35 (wiD l x) (wiS x d) (.bool false):=by
 refine CS.of (Bg (A:=sS _ _ _) (x:=()) (E:=Ewc l d) (eOk ?_ rfl) Try.func35 rfl (by kernel_rfl) rfl (by simp[sS,wiD,Ewc,EC,E0]) ?_)
 ·intro k ds S A hh
  dsimp only at hh
  split at hh
  ·injection hh with hh;subst hh
   refine Bv fun ⟨x,e1,e2⟩=>?_
   rw[e1,e2];exact BeS l x d hl h
  ·cases hh
 refine Bl (T :=
  ∃(x_1:Unit),(∃(x_2:Nat),Qek l x=Qek l x_2/\Qel x d=Qel x_2 d)/\∀(y:Unit),True->True/\∃(y:Unit),True/\SM false/\(SM x/\(SM d/\True)/\True)/\True) (by kernel_rfl) ?_
 delta GI LN N0 N1 SI SM Z0 ZI Qek Qel
 simp only[eq_self,implies_true,and_true,exists_const]
 exact⟨x,rfl,rfl⟩
noncomputable def Ewi(l:List Int)(d:Int):Senv:=EC (fun k ds S=>match k with
 |35=>some (pA ds S (.bool false) (∃x,ds=wiD l x/\S=wiS x d))
 |_=>none) 9 2 [3,4] (fun _=>([],[]))
def Qem(a:List Int)(b:Nat):List D:=[SI a,D.fn (Fn.func (51:Nat)) [] [D.ref N0 b N0]]
def Qen(a:Nat)(b:Int):St:=St.mk [(N0,a,AObj.cells [ZI b])] []
theorem Be5(l:List Int)(d:Int)(hl:l.length<=1000000)(h:∀z∈l,0<=z/\z<d):CD 31 [isl l .any,.int .i64 d] (.bool true):=by
 refine Bg (A:=sC _ _) (x:=()) (E:=Ewi l d) (eOk ?_ rfl) Try.func31 rfl (by kernel_rfl) rfl (by simp[sC,Ewi,EC,E0]) ?_
 ·intro k ds S A hh
  dsimp only at hh
  split at hh
  ·injection hh with hh;subst hh
   refine Bv fun ⟨x,e1,e2⟩=>?_
   rw[e1,e2];exact BeW l x d hl h
  ·cases hh
 refine Bl (T :=
  ∀(x:Nat),True->∃(x_1:Unit),(∃(x_2:Nat),Qem l x=Qem l x_2/\Qen x d=Qen x_2 d)/\∀(y:Unit),True->RT (SM true)) (by kernel_rfl) ?_
 delta GI LN N0 N1 SI SM Z0 ZI Qem Qen RT
 simp only[eq_self,implies_true,and_true,exists_const,forall_const]
 exact fun x=>⟨x,rfl,rfl⟩
def riD(l:List Arr):List D:=[gsl 4 Arr.row1 l,.fn (.func 50) [] []]
noncomputable def Erx(l : List Arr) : Senv:={ EC (fun k ds S=>match k with
  |45=>some (pE (β:=Arr) ds S (fun _=>.int .i64 0) (fun b=>wkL ds [.agg b.row1]/\b∈l))
  |_=>none) 19 2 [4,5,7,8,9,16] (fun _=>([],[])) with
 ann:=fun b _ S=>match b with
  |0=>some { slots:=[8],keep:=[0,1,6,7],α:=Nat,st:=fun i=>([.int .i64 i],S),inv:=fun i=>i<=l.length,mu:=fun i=>l.length-i }
  |_=>none }
def Jk:Arr:=DA
def V4(a:List Arr)(b:Nat):Arr:=List.getD a (Int.toNat (↑b:Int)) Jk
def Qeo(a:List Arr)(b:Nat):List Int:=Arr.sh (V4 a b)
def Qep(a:List Arr)(b:Nat):Nat:=LN (Qeo a b)
def Qeq(a:List Arr)(b:Nat):List Int:=Arr.nu (V4 a b)
def Qer(a:List Arr)(b:Nat):Nat:=LN (Qeq a b)
def Qes(a:List Arr)(b:Nat):List Arr:=Arr.it (V4 a b)
def Qet(a:List Arr)(b:Nat):Nat:=LN (Qes a b)
def V5(a:List Arr)(b:Nat):Arr:=List.getD a b Jk
def Qie(a:List Arr)(b:Nat):List Int:=Arr.sh (V5 a b)
def Qif(a:List Arr)(b:Nat):List Int:=Arr.nu (V5 a b)
def Qeu(a:List Arr)(b:Nat):List Arr:=Arr.it (V5 a b)
def Qig(a:List Arr):D:=D.sl N4 (LN a) (fun i=>[ZI (Arr.k (V5 a i)),SI (Qie a i),SI (Qif a i),D.sl N4 (LN (Qeu a i)) (fun i_1=>Arr.row (List.getD (Qeu a i) i_1 Jk)) Mode.any]) Mode.any
theorem BeN(l:List Arr)(hl:l.length<=1000000)(h:∀a∈l,Val a):CD 75 (riD l) (.int .i64 (-1)):=by
 refine Bg (A:=sC _ _) (x:=()) (E:=Erx l) (eOk ?_ rfl) Try.func75 rfl (by kernel_rfl) rfl (by simp[sC,Erx,EC,E0]) ?_
 ·intro k ds S A hh
  dsimp only at hh
  split at hh
  ·injection hh with hh;subst hh
   refine B0 fun b ⟨e,hb⟩=>CD.at_ (CD.wk ?_ e) _
   have:=GU _ (h b hb).ok
   rw[(h b hb).c] at this;exact this
  ·cases hh
 refine Bl (T :=
  (∃(x:Nat),x<=LN l/\(Z0=(↑x:Int)/\True)/\True/\True)/\∀(x:Nat),x<=LN l->ifB (decide ((↑x:Int)<(LI l))) (Bd (Z0<=(↑x:Int)/\(↑x:Int)<(LI l)) (∀(x_1:Nat),True->SM x_1/\∃(x_2:Arr),(((Arr.k (V4 l x)=Arr.k x_2/\(Qep l x=LN (Arr.sh x_2)/\(∀(i:Nat),i<Qep l x->GI (Qeo l x) i=GI (Arr.sh x_2) i/\True)/\True)/\(Qer l x=LN (Arr.nu x_2)/\(∀(i:Nat),i<Qer l x->GI (Qeq l x) i=GI (Arr.nu x_2) i/\True)/\True)/\(Qet l x=LN (Arr.it x_2)/\(∀(i:Nat),i<Qet l x->wkL (Arr.row (List.getD (Qes l x) i Jk)) (Arr.row (List.getD (Arr.it x_2) i Jk)))/\True)/\True)/\True)/\x_2∈l)/\∀(y:Unit),True->True/\(SM (Qig l)/\SM (D.fn (Fn.func (50:Nat)) [] [])/\SM D.unk/\SM (ZI (LI l))/\True)/\∃(y:Nat),y<=LN l/\LN l-y<LN l-x/\(IntKind.wrap IntKind.i64 ((↑x:Int)+Z1)=(↑y:Int)/\True)/\True/\True)) (RT (SM (-1:Int)))) (by kernel_rfl) ?_
 delta DA GI LI LN N1 N4 SI SM Z0 Z1 ZI Jk V4 Qeo Qep Qeq Qer Qes Qet V5 Qie Qif Qeu Qig RT
 have da:(default:Arr)=Arr.mk 0 [] [] []:=rfl
 simp only[<- da]
 simp only[implies_true,Int.toNat_natCast,Bh,Bc,decide_eq_true_eq,decide_eq_false_iff_not,true_and,and_true,exists_const,forall_const]
 refine⟨⟨0,Nat.zero_le _,rfl⟩,fun i hi hlt=>⟨⟨by omega,hlt⟩,l.getD i default,⟨⟨rfl,⟨rfl,fun _ _=>rfl⟩,⟨rfl,fun _ _=>rfl⟩,rfl,fun _ _=>Be _⟩,CC (by omega)⟩,i+1,by omega,by omega,Bb (by omega) (by omega)⟩⟩
noncomputable def Erc(l:List Arr):Senv:=EC (fun k ds S=>match k with
 |75=>some (pA ds S (.int .i64 (-1)) (ds=riD l))
 |_=>none) 9 2 [4] (fun _=>([],[]))
def Qih(a:List Arr):List D:=[D.sl N4 (LN a) (fun i=>Arr.row1 (GA a i)) Mode.any,D.fn (Fn.func (50:Nat)) [] []]
theorem BeA(l:List Arr)(hl:l.length<=1000000)(h:∀a∈l,Val a):CD 49 (riD l) (.bool false):=by
 refine Bg (A:=sC _ _) (x:=()) (E:=Erc l) (eOk ?_ rfl) Try.func49 rfl (by kernel_rfl) rfl (by simp[sC,riD,Erc,EC,E0]) ?_
 ·intro k ds S A hh
  dsimp only at hh
  split at hh
  ·injection hh with hh;subst hh
   refine Bv fun e=>CD.at_ ?_ _
   rw[e];exact BeN l hl h
  ·cases hh
 refine Bl (T :=
  ∃(x:Unit),SM (Qih l)/\∀(y:Unit),True->RT (SM false)) (by kernel_rfl) ?_
 delta DA GA LN N4 SM Z0 Qih RT
 simp only[eq_self,implies_true,and_true,exists_const]
noncomputable def Err2(l:List Arr):Senv:=EC (fun k ds S=>match k with
 |49=>some (pA ds S (.bool false) (ds=riD l))
 |_=>none) 6 1 [2] (fun _=>([],[]))
def Qii(a:List Arr):List D:=[D.sl N4 (LN a) (fun i=>Arr.row1 (GA a i)) Mode.any,D.fn (Fn.func (50:Nat)) [] []]
theorem Bey(l:List Arr)(hl:l.length<=1000000)(h:∀a∈l,Val a):CD 29 [gsl 4 Arr.row1 l] (.bool true):=by
 refine Bg (A:=sC _ _) (x:=()) (E:=Err2 l) (eOk ?_ rfl) Try.func29 rfl (by kernel_rfl) rfl (by simp[sC,Err2,EC,E0]) ?_
 ·intro k ds S A hh
  dsimp only at hh
  split at hh
  ·injection hh with hh;subst hh
   refine Bv fun e=>CD.at_ ?_ _
   rw[e];exact BeA l hl h
  ·cases hh
 refine Bl (T :=
  ∃(x:Unit),SM (Qii l)/\∀(y:Unit),True->RT (SM true)) (by kernel_rfl) ?_
 delta DA GA LN N4 SM Z0 Qii RT
 simp only[eq_self,implies_true,and_true,exists_const]
def frL(R:Nat)(ix:List Nat):List Nat:=ix.flatMap fun i=>(List.range R).map fun k=>i*R+k
structure FrH (x y:Arr) (ix:List Nat):Prop where
 vx:Val x
 vy:Val y
 hy:y.sh≠[]
 hk:x.k=1
 hn:x.nu=Cb ix
 hi:∀i∈ix,(i:Int)<y.sh.headD 0
 hr:Bt (x.sh++y.sh.tail)=true
 hl:(frL (Bs y) ix).length<=65536
 hl2:ix.length<=65536
 hs:x.sh≠[]
 hw:gaW y (frL (Bs y) ix)<=262144
theorem R1(R:Nat)(ix:List Nat):(frL R ix).length=ix.length*R:=by
 induction ix with
 |nil=>simp[frL]
 |cons i l ih =>
  simp only[frL,List.flatMap_cons,List.length_append,List.length_map,List.length_range,List.length_cons] at ih ⊢
  rw[ih,Nat.succ_mul];omega
theorem Bbt{R:Nat}{ix:List Nat}{i:Nat}(h:i<ix.length):frL R (ix.take (i+1))=frL R (ix.take i)++(List.range R).map fun k=>ix.getD i 0*R+k:=by
 have e:ix.take (i+1)=ix.take i++[ix.getD i 0]:=CR (show i<ix.length from h)
 rw[frL,e,List.flatMap_append,List.flatMap_singleton];rfl
theorem FrH.ga{x y:Arr}{ix:List Nat}(h:FrH x y ix):GaH y (x.sh++y.sh.tail) (frL (Bs y) ix):=by
 refine⟨h.vy,by have:=((Bn _).1 h.hr).1;omega,fun j hj=>?_,h.hl,h.hw⟩
 obtain ⟨i,hi,hj⟩:=List.mem_flatMap.1 hj
 obtain ⟨k,hk,rfl⟩:=List.mem_map.1 hj
 have hk:=List.mem_range.1 hk
 have:=(IV h.vy h.hy (h.hi i hi)).2
 omega
def frR(l:List Nat)(t:Nat):D:=.sl 1 l.length (fun i=>[.int .i64 ((l.getD i 0:Nat):Int)]) (.tok 0 t)
def BbZ(x y:Arr)(ix:List Nat):Con:=fun k ds S=>match k with
 |27=>some (pA ds S (.tup [.int .i64 (y.sh.headD 0),isl y.sh.tail .any]) (wkL ds [.agg y.row1]))
 |28=>some (pA ds S (isl (x.sh++y.sh.tail) .any) (wkL ds [gsl 1 (fun s=>[isl s .any]) [x.sh,y.sh.tail]]))
 |29=>some (pA ds S (.bool true) (wkL ds [gsl 4 Arr.row1 [x,y]]))
 |30=>some (pA ds S (.bool true) (wkL ds [isl (x.sh++y.sh.tail) .any]))
 |31=>some (pA ds S (.bool true) (wkL ds [isl (Cb ix) .any,.int .i64 (y.sh.headD 0)]))
 |32=>some (pA ds S (.int .i64 (Bs y:Nat)) (wkL ds [isl y.sh.tail .any]))
 |33=>some (pA ds S (.tup [.agg (gaA y (x.sh++y.sh.tail) (frL (Bs y) ix)).row1,.int .i64 0]) (wkL ds [.agg y.row1,isl (x.sh++y.sh.tail) .any,isl (Cb (frL (Bs y) ix)) .any]))
 |_=>none
theorem Bbl{x y:Arr}{ix:List Nat}(h:FrH x y ix):ConOk Try.prog (BbZ x y ix):=by
 have h8:=((Bn _).1 h.hr).1
 have hd:=E8 h.vy h.hy
 intro k ds S A hh
 unfold BbZ at hh
 split at hh
 ·injection hh with hh;subst hh
  exact Bv fun e=>CD.at_ (CD.wk (Beb y h.hy) e) _
 ·injection hh with hh;subst hh
  refine Bv fun e=>CD.at_ (CD.wk ?_ e) _
  have hx:0<x.sh.length:=List.length_pos_iff.2 h.hs
  have e0:[x.sh,y.sh.tail].flatten=x.sh++y.sh.tail:=by simp
  have:=BdO [x.sh,y.sh.tail] (by rw[Eh,e0];rw[List.length_append] at h8 ⊢; omega) (by simp)
  rw[e0] at this
  exact this
 ·injection hh with hh;subst hh
  refine Bv fun e=>CD.at_ (CD.wk (Bey [x,y] (by simp) fun a ha=>?_) e) _
  simp only[List.mem_cons,List.not_mem_nil,or_false] at ha
  obtain rfl | rfl:=ha
  ·exact h.vx
  ·exact h.vy
 ·injection hh with hh;subst hh
  refine Bv fun e=>CD.at_ (CD.wk ?_ e) _
  have:=Oj (x.sh++y.sh.tail)
  rw[h.hr] at this
  exact this
 ·injection hh with hh;subst hh
  refine Bv fun e=>CD.at_ (CD.wk (Be5 _ _ (by rw[CW];have:=h.hl2;omega) fun z hz=>?_) e) _
  obtain ⟨i,hi,rfl⟩:=List.mem_map.1 hz
  have:=h.hi i hi
  omega
 ·injection hh with hh;subst hh
  refine Bv fun e=>CD.at_ (CD.wk ?_ e) _
  have hr:=(Cw (Bw h.vy.c).1 1).2
  rw[List.drop_one] at hr
  have:=Mp y.sh.tail hr
  rw[Iw hr] at this
  exact this
 ·injection hh with hh;subst hh
  exact Bv fun e=>CD.at_ (CD.wk (BeO _ _ _ h.ga) e) _
 ·cases hh
noncomputable def Efr(x y:Arr)(ix:List Nat):Senv:={ EC (BbZ x y ix) 77 11 [12,13,24,31,36,41,51,52,53,54,57,58,59] (fun _=>([],[])) with
 gh:=fun b=>match b with
  |1=>[.slot 10]
  |_=>[]
 ann:=fun b env S=>match b with
  |1=>some { slots:=[53,10],keep:=[0,1,2,3,4,7,8,9,51,52],α:=Nat×Nat,st:=fun z=>([.int .i64 z.1,frR (frL (Bs y) (ix.take z.1)) z.2],⟨S.objs,[(0,z.2)]⟩),inv:=fun z=>z.1<=ix.length,mu:=fun z=>ix.length-z.1 }
  |3=>match Ab.look env 53 with
   |.int _ i=>some { slots:=[58,10],keep:=[0,1,2,3,4,7,8,9,12,51,52,53,57],α:=Nat×Nat,st:=fun z=>([.int .i64 z.1,frR (frL (Bs y) (ix.take i.toNat)++(List.range z.1).map fun k=>ix.getD i.toNat 0*Bs y+k) z.2],⟨S.objs,[(0,z.2)]⟩),inv:=fun z=>z.1<=Bs y,mu:=fun z=>Bs y-z.1 }
   |_=>none
  |_=>none }
def V6(a:Arr):Int:=Arr.k a
def Qev(a:Arr):Prop:=SM (V6 a)
def KD(a:Arr):List Int:=Arr.sh a
def V7(a:Arr):Nat:=LN (KD a)
def Qew(a:Arr):Prop:=SM (V7 a)
def Qex(a:Arr)(b:Nat):Int:=GI (KD a) b
def Ko(a:Arr):Nat:=LN (Arr.nu a)
def Qey(a:Arr):Prop:=SM (Ko a)
def Zf(a:Arr)(b:Nat):Int:=GI (Arr.nu a) b
def V8(a:Arr):Nat:=LN (Arr.it a)
def Qez(a:Arr):Prop:=SM (V8 a)
def V9:Arr:=DA
def Xa(a:Arr)(b:Nat):List D:=Arr.row (List.getD (Arr.it a) b V9)
def QeA(a:Arr):Prop:=Qev a/\(Qew a/\(∀(i:Nat),i<V7 a->SM (Qex a i)/\True)/\True)/\(Qey a/\(∀(i:Nat),i<Ko a->SM (Zf a i)/\True)/\True)/\(Qez a/\(∀(i:Nat),i<V8 a->wkL (Xa a i) (Xa a i))/\True)/\True
def Xb(a:Arr):List Int:=List.tail (KD a)
def QeB(a b:Arr):List (List Int):=[KD a,Xb b]
def QeC(a:Arr)(b:Nat):List D:=[ZI (Qex a b)]
def Zg(a:Arr):D:=D.sl N1 (V7 a) (fun i=>QeC a i) Mode.any
def Zh(a:Arr):Nat:=LN (Xb a)
def QeD(a:Arr)(b:Nat):Int:=GI (Xb a) b
def QeE(a:Arr):D:=D.sl N1 (Zh a) (fun i=>[ZI (QeD a i)]) Mode.any
def QeF(a:Arr):List D:=[QeE a]
def Qij(a b:Arr)(c:Nat):List Int:=List.getD (QeB a b) c []
def QeG(a:Arr)(b:Nat):List D:=[ZI (Zf a b)]
def Zi(a:Arr):D:=D.sl N1 (Ko a) (fun i=>QeG a i) Mode.any
def QeH(a:Arr):D:=D.sl N4 (V8 a) (fun i=>Xa a i) Mode.any
def Zj(a:Arr):List D:=[ZI (V6 a),Zg a,Zi a,QeH a]
def Xc(a b:Arr)(c:Nat):Arr:=List.getD [a,b] c V9
def Qik(a b:Arr)(c:Nat):List Int:=Arr.sh (Xc a b c)
def Qil(a b:Arr)(c:Nat):List Int:=Arr.nu (Xc a b c)
def QeI(a b:Arr)(c:Nat):List Arr:=Arr.it (Xc a b c)
def Zk(a b:Arr):List Int:=KD a++Xb b
def Qq(a:Arr):Nat:=Bs a
def Xd(a b:Arr)(c:List Nat):Arr:=gaA a (Zk b a) (frL (Qq a) c)
def QeJ(a b:Arr)(c:List Nat):Int:=Arr.k (Xd a b c)
def QeK(a b:Arr)(c:List Nat):List Int:=Arr.sh (Xd a b c)
def Zl(a b:Arr)(c:List Nat):Nat:=LN (QeK a b c)
def QeL(a b:Arr)(c:List Nat)(d:Nat):List D:=[ZI (GI (QeK a b c) d)]
def QeM(a b:Arr)(c:List Nat):List Int:=Arr.nu (Xd a b c)
def Zm(a b:Arr)(c:List Nat):Nat:=LN (QeM a b c)
def QeN(a b:Arr)(c:List Nat)(d:Nat):List D:=[ZI (GI (QeM a b c) d)]
def Zn(a b:Arr):Nat:=LN (Zk a b)
def QeO(a b:Arr)(c:Nat):Int:=GI (Zk a b) c
def QeP(a b:Arr):Prop:=SM (Zn a b)/\(∀(i:Nat),i<Zn a b->SM (QeO a b i)/\True)/\True
def KE(a:Arr)(b:Nat)(c:List Nat):Nat:=LN (frL (Qq a) (List.take b c))
def Zo(a:Arr)(b:Nat)(c:List Nat)(d:Nat):List D:=[ZI (NI (List.getD (frL (Qq a) (List.take b c)) d N0))]
def Zp:Prop:=SM N0/\(∀(i:Nat),i<N0->C8 (List D) [] [])/\True
def QeQ(a:Arr):Prop:=Qev a/\(Qew a/\(∀(i:Nat),i<V7 a->SM (QeC a i))/\True)/\(Qey a/\(∀(i:Nat),i<Ko a->SM (QeG a i))/\True)/\(Qez a/\(∀(i:Nat),i<V8 a->SM (Xa a i))/\True)/\True
def Xe(a b:Nat)(c:Arr)(d:Nat)(e:Arr)(f g:Nat):Prop:=(SM a/\(SM Z0/\Zp/\Zp/\Zp/\True)/\SM b/\QeQ c/\SM d/\QeQ e/\True)/\f=g/\True
def Zq(a:Arr):Int:=(NI (Ko a))
def QeR(a:Arr)(b:Nat)(c:List Nat)(d:Nat):List Nat:=frL (Qq a) (List.take (Int.toNat (↑b:Int)) c)++List.map (fun k=>List.getD c (Int.toNat (↑b:Int)) N0*Qq a+k) (List.range d)
def KF(a:Arr)(b:Nat)(c:List Nat)(d:Nat):Nat:=LN (QeR a b c d)
def Xf(a:Arr)(b:Nat)(c:List Nat)(d e:Nat):List D:=[ZI (NI (List.getD (QeR a b c d) e N0))]
def Xg(a:Arr)(b:Nat)(c:List Nat)(d:Nat):Nat:=KF a b c d+N1
def Qim(a:Arr):D:=D.agg (Zj a)
def Xh(a:Arr):Prop:=SM (Qim a)
def QeS(a:Nat):Prop:=SM (D.ref (max (N0+N1) N0) a N0)
def QeT(a:Nat):Prop:=SM (D.ref (max (N1+N1) (max (N0+N1) N0)) a N0)
def QeU(a:Arr):Prop:=SM (QeE a)
def Qin(a b:Arr):D:=D.sl N1 (Zn a b) (fun i=>[ZI (QeO a b i)]) Mode.any
def QeV(a b:Arr):Prop:=SM (Qin a b)
def Zr(a:Arr):Prop:=SM (ZI (NI (Qq a)))
def Qio(a:Arr)(b:Nat):D:=ZI (GI (Arr.nu a) (Int.toNat (↑b:Int)))
def QeW(a:Arr):Prop:=SM (Zi a)
def QeX(a:Arr):Prop:=SM (ZI (Zq a))
def QeY(a:Arr)(b:List Nat):List Int:=Cb (frL (Qq a) b)
def QeZ(a b:Arr)(c:List Nat):List Arr:=Arr.it (Xd a b c)
def Qe0(a b:Arr)(c:List Nat):Nat:=LN (QeZ a b c)
def Qip(a b:Arr)(c:List Nat)(d:Nat):List D:=Arr.row (List.getD (QeZ a b c) d V9)
theorem BeH(x y:Arr)(ix:List Nat)(h:FrH x y ix):CD 9 [.agg x.row1,.agg y.row1] (.tup [.agg (gaA y (x.sh++y.sh.tail) (frL (Bs y) ix)).row1,.int .i64 0]):=by
 refine Bg (A:=sC _ _) (x:=()) (E:=Efr x y ix) (eOk (Bbl h) rfl) Try.func9 rfl (by kernel_rfl) rfl (by simp[sC,Efr,EC,E0]) ?_
 refine Bl (T :=
  ∀(x_1:Nat),True->∀(x_2:Nat),x_1≠x_2/\True->∀(x_3:Nat),x_2≠x_3/\x_1≠x_3/\True->SM x_2/\∃(x_4:Unit),(QeA y/\True)/\∀(y_1:Unit),True->SM x_1/\∃(x_5:Unit),((N2=LN (QeB x y)/\(∀(i:Nat),i<N2->wkL (List.getD [List.take N1 (Zg x::QeF y),List.take N1 (QeF y)] i []) [SI (Qij x y i)])/\True)/\True)/\∀(y_2:Unit),True->SM x_1/\SM x_2/\∃(x_6:Unit),((SM N2/\(∀(i:Nat),i<N2->wkL (List.getD [List.take N4 (ZI (V6 x)::Zg x::Zi x::QeH x::Zj y),List.take N4 (Zj y)] i []) [ZI (Arr.k (Xc x y i)),SI (Qik x y i),SI (Qil x y i),D.sl N4 (LN (QeI x y i)) (fun i_1=>Arr.row (List.getD (QeI x y i) i_1 V9)) Mode.any])/\True)/\True)/\∀(y_3:Unit),True->SM x_1/\ifB (V6 x != Z1) (SM x_3/\(SM x_3/\True)/\∃(y_4:Unit),True/\((Z0=QeJ y x ix/\(N0=Zl y x ix/\(∀(i:Nat),i<N0->C8 (List D) [] (QeL y x ix i))/\True)/\(N0=Zm y x ix/\(∀(i:Nat),i<N0->C8 (List D) [] (QeN y x ix i))/\True)/\False/\True)/\(14:Int)=Z0/\True)/\True/\True) (∃(x_7:Unit),(QeP x y/\True)/\∀(y_4:Unit),True->SM x_1/\∃(x_8:Unit),((Ko x=LN (Cb ix)/\(∀(i:Nat),i<Ko x->Zf x i=GI (Cb ix) i/\True)/\True)/\SM (List.headD (KD y) Z0)/\True)/\∀(y_5:Unit),True->∃(x_9:Unit),((SM (Zh y)/\(∀(i:Nat),i<Zh y->SM (QeD y i)/\True)/\True)/\True)/\∀(y_6:Unit),True->SM x_1/\∀(t:Nat),(∃(x_10:Nat×Nat),x_10.1<=LN ix/\(Z0=(NI x_10.1)/\(N0=KE y x_10.1 ix/\(∀(i:Nat),i<N0->C8 (List D) [] (Zo y x_10.1 ix i))/\t=x_10.2)/\True)/\Xe x_3 x_2 y x_1 x t x_10.2)/\∀(x_10:Nat×Nat),x_10.1<=LN ix->ifB (decide ((NI x_10.1)<Zq x)) (Bd (Z0<=(NI x_10.1)/\(NI x_10.1)<Zq x) ((∃(x_11:Nat×Nat),x_11.1<=Qq y/\(Z0=(NI x_11.1)/\(KE y x_10.1 ix=KF y x_10.1 ix x_11.1/\(∀(i:Nat),i<KE y x_10.1 ix->Zo y x_10.1 ix i=Xf y x_10.1 ix x_11.1 i)/\x_10.2=x_11.2)/\True)/\Xe x_3 x_2 y x_1 x x_10.2 x_11.2)/\∀(x_11:Nat×Nat),x_11.1<=Qq y->ifB (decide ((NI x_11.1)<(NI (Qq y)))) (SM x_11.2/\Bd (Xg y x_10.1 ix x_11.1*8<=140737488355328/\Xg y x_10.1 ix x_11.1<=9223372036854775807) (∀(t:Nat),(Xh x/\Xh y/\SM (D.ref N0 x_1 N0)/\QeS x_2/\QeT x_3/\QeU y/\QeV x y/\Zr y/\SM (Qio x x_10.1)/\QeW x/\QeX x/\SM (ZI (NI x_10.1))/\Zr y/\True)/\∃(y_7:Nat×Nat),y_7.1<=Qq y/\Qq y-y_7.1<Qq y-x_11.1/\(IntKind.wrap IntKind.i64 ((NI x_11.1)+Z1)=(NI y_7.1)/\(Xg y x_10.1 ix x_11.1=KF y x_10.1 ix y_7.1/\(∀(i:Nat),i<Xg y x_10.1 ix x_11.1->BG (KF y x_10.1 ix x_11.1) (fun i=>Xf y x_10.1 ix x_11.1 i) (fun i=>List.getD [List.take N1 [ZI (IntKind.wrap IntKind.i64 (IntKind.wrap IntKind.i64 (GI (Arr.nu x) (TN x_10.1)*(NI (Qq y)))+(NI x_11.1)))]] i []) i=Xf y x_10.1 ix y_7.1 i)/\t=y_7.2)/\True)/\Xe x_3 x_2 y x_1 x t y_7.2)) ((Xh x/\Xh y/\SM (D.ref N0 x_1 N0)/\QeS x_2/\QeT x_3/\QeU y/\QeV x y/\Zr y/\QeW x/\QeX x/\True)/\∃(y_7:Nat×Nat),y_7.1<=LN ix/\LN ix-y_7.1<LN ix-x_10.1/\(IntKind.wrap IntKind.i64 ((NI x_10.1)+Z1)=(NI y_7.1)/\(KF y x_10.1 ix x_11.1=KE y y_7.1 ix/\(∀(i:Nat),i<KF y x_10.1 ix x_11.1->Xf y x_10.1 ix x_11.1 i=Zo y y_7.1 ix i)/\x_11.2=y_7.2)/\True)/\Xe x_3 x_2 y x_1 x x_11.2 y_7.2))) (SM x_2/\∃(x_11:Unit),(QeA y/\QeP x y/\(KE y x_10.1 ix=LN (QeY y ix)/\(∀(i:Nat),i<KE y x_10.1 ix->(NI (List.getD (frL (Qq y) (List.take x_10.1 ix)) i N0))=GI (QeY y ix) i/\True)/\True)/\True)/\∀(y_7:Unit),True->SM x_3/\(SM x_3/\True)/\∃(y_8:Unit),True/\((SM (QeJ y x ix)/\(SM (Zl y x ix)/\(∀(i:Nat),i<Zl y x ix->SM (QeL y x ix i))/\True)/\(SM (Zm y x ix)/\(∀(i:Nat),i<Zm y x ix->SM (QeN y x ix i))/\True)/\(SM (Qe0 y x ix)/\(∀(i:Nat),i<Qe0 y x ix->SM (Qip y x ix i))/\True)/\True)/\SM Z0/\True)/\True/\True))) (by kernel_rfl) ?_
 delta DA GI LN N0 N1 N2 N4 NI SI SM TN Z0 Z1 ZI V6 Qev Qez V9 Xa QeA Xb QeB QeC Zg Zh QeD KD QeE QeF Qij QeG Zi QeH Zj Xc Qik Qil V7 QeI Zk Qq Xd QeJ QeK Zl QeL QeM Zm Qew QeN Zn QeO QeP KE Zo Zp QeQ Xe Zq Qex QeR KF Xf Xg Qim Xh QeS QeT QeU Qin Ko QeV Zr Qio QeW QeX QeY QeZ Qe0 Qip Qey Zf V8
 have da:(default:Arr)=Arr.mk 0 [] [] []:=rfl
 simp only[<- da]
 simp only[ne_eq,implies_true,Int.toNat_natCast,Bh,Bc,decide_eq_true_eq,decide_eq_false_iff_not,true_and,and_true,bne_iff_ne,bne_eq_false_iff_eq,exists_const,forall_const,Prod.exists]
 obtain ⟨vx,vy,hy,hk,hn,hi,hr,hl,hl2,hs,hw⟩:=h
 have hd:=E8 vy hy
 have nl:x.nu.length=ix.length:=by rw[hn,CW]
 have P0:∀i,frL (Bs y) (ix.take i)++(List.range 0).map (fun k=>ix.getD i 0*Bs y+k)=frL (Bs y) (ix.take i):=fun i=>by simp
 have P1:∀i k,frL (Bs y) (ix.take i)++(List.range (k+1)).map (fun k=>ix.getD i 0*Bs y+k)=(frL (Bs y) (ix.take i)++(List.range k).map (fun k=>ix.getD i 0*Bs y+k))++[ix.getD i 0*Bs y+k]:=fun i k=>by
  rw[List.range_succ,List.map_append,List.append_assoc];rfl
 have PR:∀i,i<ix.length->frL (Bs y) (ix.take i)++(List.range (Bs y)).map (fun k=>ix.getD i 0*Bs y+k)=frL (Bs y) (ix.take (i+1)):=fun i h=>(Bbt h).symm
 have ap:∀(a:List Nat) (z:Nat) (j:Nat),j<a.length+1->BG a.length (fun i=>[D.int .i64 ((a.getD i 0:Nat):Int)]) (fun i=>[List.take 1 [D.int .i64 (z:Nat)]].getD i []) j=[D.int .i64 (((a++[z]).getD j 0:Nat):Int)]:=fun a z j hj=>by
  rw[BG]
  split
  ·rename_i h;rw[List.getD_eq_getElem?_getD,List.getD_eq_getElem?_getD,List.getElem?_append_left h]
  ·obtain rfl:j=a.length:=by omega
   rw[Nat.sub_self,List.getD_eq_getElem?_getD (l:=a++[z]),List.getElem?_append_right (by omega),Nat.sub_self];rfl
 refine fun x1 x2 _ x3 _=>⟨fun _ _=>Be _,⟨rfl,fun i hi=>?_⟩,fun i hi=>?_,fun q=>absurd hk q,fun _=>⟨⟨by rw[hn],fun i hi=>by rw[hn]⟩,fun t=>⟨⟨0,t,Nat.zero_le _,⟨rfl,?_,(fun i hi=>absurd hi (Nat.not_lt_zero i)),rfl⟩,rfl⟩,?_⟩⟩⟩
 ·rcases i with _ | _ | i
  ·exact Be _
  ·exact Be _
  ·omega
 ·rcases i with _ | _ | i
  ·exact Be _
  ·exact Be _
  ·omega
 ·rw[List.take_zero];rfl
 rintro ⟨i,t1⟩ hi1
 simp only at hi1 ⊢
 refine⟨fun hlt=>?_,fun hge=>?_⟩
 ·have hlt:i<ix.length:=by omega
  have hm:ix.getD i 0∈ix:=by rw[List.getD_eq_getElem?_getD,List.getElem?_eq_getElem hlt];exact List.getElem_mem hlt
  have hmi:=hi _ hm
  have hb:=(IV vy hy hmi).2
  have sz:=(Bw vy.c).2.2
  have gn:x.nu.getD i 0=(ix.getD i 0:Nat):=by rw[hn,ES ix hlt]
  have ln:∀k,k<=Bs y->(frL (Bs y) (ix.take i)++(List.range k).map (fun k=>ix.getD i 0*Bs y+k)).length<=65536:=fun k hk=>by
   rw[List.length_append,R1,List.length_take,List.length_map,List.length_range]
   rw[R1] at hl
   have e1:(min i ix.length+1)*Bs y<=ix.length*Bs y:=Nat.mul_le_mul_right _ (by omega)
   rw[Nat.succ_mul] at e1
   omega
  refine⟨⟨by omega,by omega⟩,⟨0,t1,Nat.zero_le _,⟨rfl,by rw[P0],fun j hj=>by rw[P0],rfl⟩,rfl⟩,?_⟩
  rintro ⟨k,t2⟩ hk2
  simp only at hk2 ⊢
  refine⟨fun hlt2=>?_,fun hge2=>?_⟩
  ·have l1:=ln k hk2
   have w1:IntKind.i64.wrap (x.nu.getD i 0*(Bs y:Nat))=((ix.getD i 0*Bs y:Nat):Int):=by rw[gn,<- Int.natCast_mul];exact Bb (by omega) (by omega)
   have w2:IntKind.i64.wrap (((ix.getD i 0*Bs y:Nat):Int)+(k:Nat))=((ix.getD i 0*Bs y+k:Nat):Int):=by rw[<- Int.natCast_add];exact Bb (by omega) (by omega)
   rw[w1,w2]
   refine⟨⟨by omega,by omega⟩,fun t3=>⟨k+1,t3,by omega,by omega,⟨Bb (by omega) (by omega),?_,(fun j hj=>?_),rfl⟩,rfl⟩⟩
   ·rw[P1,List.length_append (bs:=[_])];rfl
   ·rw[P1];exact ap _ _ j hj
  ·obtain rfl:k=Bs y:=by omega
   exact⟨i+1,t2,by omega,by omega,⟨Bb (by omega) (by omega),by rw[PR i hlt],fun j hj=>by rw[PR i hlt],rfl⟩,rfl⟩
 ·obtain rfl:i=ix.length:=by omega
  rw[List.take_length]
  exact⟨fun _ _=>Be _,(CW _).symm,fun j hj=>(ES _ hj).symm⟩
theorem Tg{α:Type}{l:List α}{i:Nat}{d:α}(h:i<l.length):l.getD i d∈l:=by
 rw[List.getD_eq_getElem?_getD,List.getElem?_eq_getElem h];exact List.getElem_mem h
noncomputable def BV{α:Type}(a b:α):Bool:=@decide (a=b) (Classical.propDecidable _)
theorem B2{α:Type}{a b:α}:BV a b=true↔a=b:=by unfold BV;exact @decide_eq_true_iff _ (Classical.propDecidable _)
theorem Ew{α:Type}{a b:α}(h:a≠b):false=BV a b:=by
 cases hs:BV a b with
 |false=>rfl
 |true=>exact (h (B2.1 hs)).elim
theorem O5{α:Type}{a b:α}(h:a=b):true=BV a b:=(B2.2 h).symm
theorem Rj{α:Type}{l m:List α}(d:α)(h:l.length=m.length)(h2:∀j,j<l.length->l.getD j d=m.getD j d):l=m:=by
 apply List.ext_getElem h
 intro i h3 h4
 have:=h2 i h3
 simpa[List.getD_eq_getElem?_getD,List.getElem?_eq_getElem h3,List.getElem?_eq_getElem h4] using this
theorem UW{α:Type}[Inhabited α]{l m:List α}{i:Nat}(h:∀j,j<i->l.getD j default=m.getD j default)(e:l.getD i default=m.getD i default):∀j,j<i+1->l.getD j default=m.getD j default:=fun j hj=>by
 by_cases q:j=i
 ·subst q;exact e
 ·exact h j (by omega)
noncomputable def EqI(l m:List Int):Senv:={ EC CM 26 2 [4,5,10,12,13,14,24] (fun id=>match id with | 6=>([0,1,2,3,4,5,6,7,8],[]) | _=>([],[])) with
 ann:=fun q _ S=>match q with
  |0=>some { slots:=[13],keep:=[0,1,11,12],α:=Nat,st:=fun i=>([.int .i64 i],S),inv:=fun i=>i<=l.length/\∀j,j<i->l.getD j default=m.getD j default,mu:=fun i=>l.length-i }
  |_=>none }
def Qe1(a b:List Int):Prop:=True/\∃(_y:Unit),True/\false=BV a b/\True/\True
def Zs(a:Nat)(b c:List Int):Prop:=a<=LN b/\∀(j:Nat),j<a->GI b j=GI c j
def Qiq(a:List Int):D:=SI a
def Qe2(a:List Int):Prop:=SM (Qiq a)
theorem Bed(l m:List Int)(hl:l.length<=maxLen)(hm:m.length<=maxLen):ACalls Try.prog 37 [isl l .any,isl m .any] ⟨[],[]⟩ (SpecR (sC [isl l .any,isl m .any] (.bool (BV l m))) ()):=by
 refine Bg (A:=sC _ _) (x:=()) (E:=EqI l m) (eOk By rfl) Try.func37 rfl (by kernel_rfl) rfl (by simp[sC,EqI,EC,E0]) ?_
 refine Bl (T :=
  ifB ((LI l) != (LI m)) (Qe1 l m) ((∃(x:Nat),Zs x l m/\(Z0=(↑x:Int)/\True)/\True/\True)/\∀(x:Nat),Zs x l m->ifB (decide ((↑x:Int)<(LI l))) (Bd (Z0<=(↑x:Int)/\(↑x:Int)<(LI l)) (Bd (Z0<=(↑x:Int)/\(↑x:Int)<(LI m)) (ifB (GI l (Int.toNat (↑x:Int)) != GI m (Int.toNat (↑x:Int))) (Qe1 l m) ((Qe2 l/\Qe2 m/\SM D.unk/\SM (ZI (LI l))/\True)/\∃(y:Nat),Zs y l m/\LN l-y<LN l-x/\(IntKind.wrap IntKind.i64 ((↑x:Int)+Z1)=(↑y:Int)/\True)/\True/\True)))) (RT (true=BV l m)))) (by kernel_rfl) ?_
 delta GI LI LN N1 SI SM Z0 Z1 ZI Qe1 Zs Qiq Qe2 RT
 simp only[Bh,Bc,decide_eq_true_eq,decide_eq_false_iff_not,true_and,and_true,bne_iff_ne,bne_eq_false_iff_eq,ne_eq,exists_const,Int.toNat_natCast]
 simp only[maxLen] at hl hm
 refine⟨fun h=>Ew fun e=>h (by rw[e]),fun he=>⟨⟨0,⟨Nat.zero_le _,fun j hj=>absurd hj (by omega)⟩,rfl⟩,fun i hi=>⟨fun hlt=>⟨⟨by omega,by omega⟩,⟨by omega,by omega⟩,fun hn=>Ew fun e=>hn (by rw[e]),fun hn=>⟨i+1,⟨by omega,UW hi.2 hn⟩,by omega,Bb (by omega) (by omega)⟩⟩,fun hge=>O5 (Rj default (by omega) fun j hj=>hi.2 j (by omega))⟩⟩⟩
noncomputable def sPr{α:Type}(row:α->List D)(q:α×α->Prop):FnSpec where
 β:=α×α
 α:=Unit
 args:=fun x=>[.agg (row x.1),.agg (row x.2)]
 st:=fun _=>⟨[],[]⟩
 pre:=q
 post:=fun _ _=>True
 res:=fun x _=>.ret (.bool (BV x.1 x.2))
 out:=fun _ _=>⟨[],[]⟩
theorem Beo{α : Type}{k : Nat}{row : α -> List D}{q : α×α -> Prop}{ds : List D}{S : St}(h : ∀x, q x -> ACalls Try.prog k [.agg (row x.1), .agg (row x.2)] ⟨[], []⟩ (SpecR (sC [.agg (row x.1), .agg (row x.2)] (.bool (BV x.1 x.2))) ())) :
  (∀y,(sPr row q).pre y->ACalls Try.prog k ((sPr row q).args y) ((sPr row q).st y) (SpecR (sPr row q) y))/\(∀y,(sPr row q).fit=some y->(sPr row q).pre y->Bo ds ((sPr row q).args y)/\leS ((sPr row q).st y) S)/\((sPr row q).all=true->∀y,(sPr row q).pre y->Bo ds ((sPr row q).args y)/\(sPr row q).st y=S) :=
 ConOk.plain (fun (x:α×α) hx=>(h x hx).mono fun _ _ ⟨y,q1,q2,q3⟩=>⟨y,q1,q2,q3⟩) rfl rfl
noncomputable def Bcp(l m:List Arr):Con:=fun k _ _=>match k with
 |13=>some (sPr Arr.row1 (fun x=>x.1∈l/\x.2∈m))
 |_=>none
noncomputable def EeA(l m:List Arr):Senv:={ EC (Bcp l m) 32 3 [6,7,8,9,14,15,16,17,18,30] (fun _=>([],[])) with
 ann:=fun q _ S=>match q with
  |0=>some { slots:=[17],keep:=[0,1,2,15,16],α:=Nat,st:=fun i=>([.int .i64 i],S),inv:=fun i=>i<=l.length/\∀j,j<i->l.getD j default=m.getD j default,mu:=fun i=>l.length-i }
  |_=>none }
def Qe3(a b:List Arr):Prop:=True/\∃(_y:Unit),True/\false=BV a b/\True/\True
def Jl:Arr:=DA
def KG(a:List Arr)(b:Nat):Arr:=List.getD a b Jl
def Zt(a:Nat)(b c:List Arr):Prop:=a<=LN b/\∀(j:Nat),j<a->KG b j=KG c j
def Xi(a:List Arr)(b:Nat):Arr:=List.getD a (Int.toNat (↑b:Int)) Jl
def Qe4(a:List Arr)(b:Nat):List Int:=Arr.sh (Xi a b)
def Qe5(a:List Arr)(b:Nat):Nat:=LN (Qe4 a b)
def Qe6(a:List Arr)(b:Nat):List Int:=Arr.nu (Xi a b)
def Qe7(a:List Arr)(b:Nat):Nat:=LN (Qe6 a b)
def Qe8(a:List Arr)(b:Nat):List Arr:=Arr.it (Xi a b)
def Qe9(a:List Arr)(b:Nat):Nat:=LN (Qe8 a b)
def Qfa(a:List Arr)(b:Nat)(c:Arr):Prop:=Arr.k (Xi a b)=Arr.k c/\(Qe5 a b=LN (Arr.sh c)/\(∀(i:Nat),i<Qe5 a b->[ZI (GI (Qe4 a b) i)]=[ZI (GI (Arr.sh c) i)])/\True)/\(Qe7 a b=LN (Arr.nu c)/\(∀(i:Nat),i<Qe7 a b->[ZI (GI (Qe6 a b) i)]=[ZI (GI (Arr.nu c) i)])/\True)/\(Qe9 a b=LN (Arr.it c)/\(∀(i:Nat),i<Qe9 a b->Arr.row (List.getD (Qe8 a b) i Jl)=Arr.row (List.getD (Arr.it c) i Jl))/\True)/\True
def Qir(a:List Arr)(b:Nat):List Int:=Arr.sh (KG a b)
def Qis(a:List Arr)(b:Nat):List Int:=Arr.nu (KG a b)
def Qfb(a:List Arr)(b:Nat):List Arr:=Arr.it (KG a b)
def Qit(a:List Arr):D:=D.sl N4 (LN a) (fun i=>[ZI (Arr.k (KG a i)),SI (Qir a i),SI (Qis a i),D.sl N4 (LN (Qfb a i)) (fun i_1=>Arr.row (List.getD (Qfb a i) i_1 Jl)) Mode.any]) Mode.any
def Zu(a:List Arr):Prop:=SM (Qit a)
theorem Bcv(l m:List Arr)(hl:l.length<=maxLen)(hm:m.length<=maxLen)(hc:ConOk Try.prog (Bcp l m)):ACalls Try.prog 38 [gsl 4 Arr.row1 l,gsl 4 Arr.row1 m,.fn (.func 13) [] []] ⟨[],[]⟩ (SpecR (sC [gsl 4 Arr.row1 l,gsl 4 Arr.row1 m,.fn (.func 13) [] []] (.bool (BV l m))) ()):=by
 refine Bg (A:=sC _ _) (x:=()) (E:=EeA l m) (eOk hc rfl) Try.func38 rfl (by kernel_rfl) rfl (by simp[sC,EeA,EC,E0]) ?_
 refine Bl (T :=
  ifB ((LI l) != (LI m)) (Qe3 l m) ((∃(x:Nat),Zt x l m/\(Z0=(↑x:Int)/\True)/\True/\True)/\∀(x:Nat),Zt x l m->ifB (decide ((↑x:Int)<(LI l))) (Bd (Z0<=(↑x:Int)/\(↑x:Int)<(LI l)) (∀(x_1:Nat),True->SM x_1/\Bd (Z0<=(↑x:Int)/\(↑x:Int)<(LI m)) (∀(x_2:Nat),x_1≠x_2/\True->SM x_2/\SM x_1/\SM x_2/\∃(x_3:Arr×Arr),(Qfa l x x_3.1/\Qfa m x x_3.2/\True)/\(True/\True)/\(x_3.1∈l/\x_3.2∈m)/\∀(y:Unit),True->ifB (!BV x_3.1 x_3.2) (Qe3 l m) ((Zu l/\Zu m/\SM (D.fn (Fn.func (13:Nat)) [] [])/\Zu l/\SM (ZI (LI l))/\True)/\∃(y:Nat),Zt y l m/\LN l-y<LN l-x/\(IntKind.wrap IntKind.i64 ((↑x:Int)+Z1)=(↑y:Int)/\True)/\True/\True)))) (RT (true=BV l m)))) (by kernel_rfl) ?_
 delta DA GI LI LN N1 N4 SI SM Z0 Z1 ZI Qe5 Qe6 Qe7 Qe8 Qe9 Qfa Qir Qis Qfb Qit Zu Qe3 Jl KG Zt Xi Qe4 RT
 simp only[Bh,Bc,decide_eq_true_eq,decide_eq_false_iff_not,true_and,and_true,bne_iff_ne,bne_eq_false_iff_eq,ne_eq,exists_const,forall_const,Int.toNat_natCast,Bool.not_eq_true',Bool.not_eq_false',Prod.exists]
 simp only[maxLen] at hl hm
 refine⟨fun h=>Ew fun e=>h (by rw[e]),fun he=>⟨⟨0,⟨Nat.zero_le _,fun j hj=>absurd hj (by omega)⟩,rfl⟩,fun i hi=>⟨fun hlt=>⟨⟨by omega,by omega⟩,fun _=>⟨⟨by omega,by omega⟩,fun _ _=>⟨l.getD i default,m.getD i default,?_,⟨Tg (by omega),Tg (by omega)⟩,fun hn=>Ew fun e=>?_,fun hs=>⟨i+1,⟨by omega,UW hi.2 (B2.1 hs)⟩,by omega,Bb (by omega) (by omega)⟩⟩⟩⟩,fun hge=>O5 (Rj default (by omega) fun j hj=>hi.2 j (by omega))⟩⟩⟩
 ·repeat' (first | rfl | exact fun _ _=>rfl | refine And.intro ?_ ?_)
 ·rw[e,B2.2 rfl] at hn;cases hn
theorem Wc{α β:Type}{a b:α}{c d:β}(h:a=b↔c=d):BV a b=BV c d:=by
 rw[Bool.eq_iff_iff,B2,B2];exact h
theorem BdC{a b:Arr}(h1:a.k=b.k)(h2:a.sh=b.sh)(h3:a.nu=b.nu)(h4:a.it=b.it):a=b:=by
 cases a;cases b
 simp only[Arr.k,Arr.sh,Arr.nu,Arr.it] at h1 h2 h3 h4
 rw[h1,h2,h3,h4]
noncomputable def Bb0(l m:List Arr):Con:=fun k ds _=>match k with
 |38=>some (pC ds (.bool (BV l m)) (Bo ds [gsl 4 Arr.row1 l,gsl 4 Arr.row1 m,.fn (.func 13) [] []]))
 |37=>match ds with
  | [.sl 1 n f _,.sl 1 p g _]=>some (pC ds (.bool (BV (BD n f) (BD p g))) ((IntsP n f/\n<=maxLen)/\IntsP p g/\p<=maxLen))
  |_=>none
 |_=>none
noncomputable def Eas(a b:Arr):Senv:=EC (Bb0 a.it b.it) 31 5 [] (fun _=>([],[]))
def Qfc(a:Arr):Prop:=(IntsP (LN (Arr.sh a)) fun i=>[ZI (GI (Arr.sh a) i)])/\LN (Arr.sh a)<=9223372036854775807
def Qfd(a:Arr):List Int:=BD (LN (Arr.sh a)) fun i=>[ZI (GI (Arr.sh a) i)]
def Qfe(a:Arr):Prop:=(IntsP (LN (Arr.nu a)) fun i=>[ZI (GI (Arr.nu a) i)])/\LN (Arr.nu a)<=9223372036854775807
def Qff(a:Arr):List Int:=BD (LN (Arr.nu a)) fun i=>[ZI (GI (Arr.nu a) i)]
def Jm(a:Arr):List Arr:=Arr.it a
def Qfg:Arr:=DA
def Xj(a:Arr)(b:Nat):Arr:=List.getD (Jm a) b Qfg
def Qiu(a:Arr)(b:Nat):List Int:=Arr.sh (Xj a b)
def Qiv(a:Arr)(b:Nat):List Int:=Arr.nu (Xj a b)
def Qfh(a:Arr)(b:Nat):List Arr:=Arr.it (Xj a b)
def Qiw(a:Arr)(b:Nat):List D:=[ZI (Arr.k (Xj a b)),SI (Qiu a b),SI (Qiv a b),D.sl N4 (LN (Qfh a b)) (fun i=>Arr.row (List.getD (Qfh a b) i Qfg)) Mode.any]
def Qfi(a:Arr):Prop:=SM (LN (Jm a))/\(∀(i:Nat),i<LN (Jm a)->SM (Qiw a i))/\True
def Zv(a b:Arr):Prop:=True/\∃(_y:Unit),True/\false=BV a b/\True/\True
theorem BcU(a b : Arr)(ha : a.sh.length<=maxLen /\ a.nu.length<=maxLen /\ a.it.length<=maxLen)(hb : b.sh.length<=maxLen /\ b.nu.length<=maxLen /\ b.it.length<=maxLen)(hc : ConOk Try.prog (Bb0 a.it b.it)) :
  ACalls Try.prog 13 [.agg a.row2,.agg b.row2] ⟨[],[]⟩ (SpecR (sC [.agg a.row2,.agg b.row2] (.bool (BV a b))) ()):=by
 refine Bg (A:=sC _ _) (x:=()) (E:=Eas a b) (eOk hc rfl) Try.func13 rfl (by kernel_rfl) rfl (by simp[sC,Eas,EC,E0]) ?_
 refine Bl (T :=
  ∀(x:Nat),True->∀(x_1:Nat),x≠x_1/\True->SM x/\SM x_1/\ifB (Arr.k a==Arr.k b) (SM x/\SM x_1/\(Qfc a/\Qfc b)/\∀(y:Unit),True->ifB (BV (Qfd a) (Qfd b)) (SM x/\SM x_1/\(Qfe a/\Qfe b)/\∀(y:Unit),True->ifB (BV (Qff a) (Qff b)) (SM x/\SM x_1/\(Qfi a/\Qfi b/\SM (D.fn (Fn.func (13:Nat)) [] [])/\True)/\∀(y:Unit),True->RT (BV (Jm a) (Jm b)=BV a b)) (Zv a b)) (Zv a b)) (Zv a b)) (by kernel_rfl) ?_
 delta DA GI LN N1 N4 SI SM Z0 ZI Qfc Qfd Qfe Qff Jm Qfg Xj Qiu Qiv Qfh Qiw Qfi Zv RT
 simp only[Bh,true_and,and_true,beq_iff_eq,beq_eq_false_iff_ne,ne_eq,exists_const,forall_const,implies_true,eq_self,Cs]
 simp only[maxLen] at ha hb
 obtain ⟨a1,a2,a3⟩:=ha
 obtain ⟨b1,b2,b3⟩:=hb
 have no:∀ {α:Type} {x y:α},BV x y=false->x≠y:=fun h e=>by rw[B2.2 e] at h;cases h
 exact fun _ _ _=>⟨fun hk=>⟨⟨⟨BK _,a1⟩,BK _,b1⟩,fun hs=>⟨⟨⟨BK _,a2⟩,BK _,b2⟩,fun hn=>Wc ⟨fun e=>BdC hk (B2.1 hs) (B2.1 hn) e,fun e=>by rw[e]⟩,fun hn=>Ew fun e=>no hn (by rw[e])⟩,fun hs=>Ew fun e=>no hs (by rw[e])⟩,fun h=>Ew fun e=>h (by rw[e])⟩
theorem Bec{a b:Arr}{k:Nat}{d:D}(h:ACalls Try.prog k [.agg a.row2,.agg b.row2] ⟨[],[]⟩ (SpecR (sC [.agg a.row2,.agg b.row2] d) ())):ACalls Try.prog k [.agg a.row1,.agg b.row1] ⟨[],[]⟩ (SpecR (sC [.agg a.row1,.agg b.row1] d) ()) :=
 (h.wkArgs (by simp only[wkL,wkD];exact⟨CF _,CF _,trivial⟩)).mono fun _ _ ⟨y,q1,q2,q3⟩=>⟨y,q1,q2,q3⟩
theorem BaT:∀(a b:Arr),a.ok->b.ok->ACalls Try.prog 13 [.agg a.row2,.agg b.row2] ⟨[],[]⟩ (SpecR (sC [.agg a.row2,.agg b.row2] (.bool (BV a b))) ())
 |.mk k s n is,.mk k' s' n' is',ha,hb=>by
  simp only[Arr.ok] at ha hb
  obtain ⟨_,_,_,a1,a2,a3,a4⟩:=ha
  obtain ⟨_,_,_,b1,b2,b3,b4⟩:=hb
  refine BcU _ _ ⟨a1,a2,a3⟩ ⟨b1,b2,b3⟩ ?_
  intro f ds S A h
  unfold Bb0 at h
  split at h
  ·injection h with h;subst h
   refine Ea fun e=>⟨Bq _,Cm e (Bcv _ _ a3 b3 ?_)⟩
   intro f ds S A h
   unfold Bcp at h
   split at h
   ·injection h with h;subst h
    refine Beo fun (x:Arr×Arr) hx=>?_
    obtain ⟨x,y⟩:=x
    have hx1:x∈is:=hx.1
    have hx2:y∈is':=hx.2
    exact Bec (BaT x y ((CA _).1 a4 x hx1) ((CA _).1 b4 y hx2))
   ·cases h
  ·split at h
   ·injection h with h;subst h
    exact Ea fun ⟨⟨h1,h2⟩,h3,h4⟩=>⟨Bq _,Cm (us:=[isl (BD _ _) .any,isl (BD _ _) .any]) ⟨(Ca h1).1,(Ca h3).1,trivial⟩ (Bed _ _ (by rw[CY];exact h2) (by rw[CY];exact h4))⟩
   ·cases h
  ·cases h
termination_by a=>SizeOf.sizeOf a
decreasing_by
 have:=List.sizeOf_lt_of_mem hx1
 simp;omega
def BaP(a:Arr):Con:=fun k ds S=>match k with
 |18=>some (pA ds S (.int .i64 (wtA a)) (wkL ds [.agg a.row1]))
 |19=>some (pA ds S (.int .i64 (Bj a).1) (wkL ds [.agg a.row1]))
 |_=>none
theorem Bb8{a:Arr}(h:a.ok):ConOk Try.prog (BaP a):=by
 intro k ds S A hh
 have hrow:wkL [.agg a.row1] [.agg a.row2]:=by
  simp only[wkL,wkD]
  exact⟨CF a,trivial⟩
 unfold BaP at hh
 split at hh
 ·injection hh with hh;subst hh
  have h1:CD 18 [.agg a.row2] (.int .i64 (wtA a)):=(Wl a h).mono fun _ _ ⟨y,q1,q2,q3⟩=>⟨(),trivial,q2,q3⟩
  exact Bv fun e=>CD.at_ (CD.wk (CD.wk h1 hrow) e) _
 ·injection hh with hh;subst hh
  have h1:CD 19 [.agg a.row2] (.int .i64 (Bj a).1):=(Bel a h).mono fun _ _ ⟨y,q1,q2,q3⟩=>⟨(),trivial,q2,q3⟩
  exact Bv fun e=>CD.at_ (CD.wk (CD.wk h1 hrow) e) _
 ·cases hh
noncomputable def Efw(a:Arr):Senv:=EC (BaP a) 14 3 [4] (fun _=>([],[]))
def Qfj(a:Arr)(b:Nat):List D:=Arr.row (GA (Arr.it a) b)
def Qfk(a:Arr):Prop:=(SM (Arr.k a)/\(SM (LN (Arr.sh a))/\(∀(i:Nat),i<LN (Arr.sh a)->SM (GI (Arr.sh a) i)/\True)/\True)/\(SM (LN (Arr.nu a))/\(∀(i:Nat),i<LN (Arr.nu a)->SM (GI (Arr.nu a) i)/\True)/\True)/\(SM (LN (Arr.it a))/\(∀(i:Nat),i<LN (Arr.it a)->wkL (Qfj a i) (Qfj a i))/\True)/\True)/\True
def Qfl(a:Arr)(b:Int):Bool:=decide (wtA a<=b)&&Prod.fst (Bj a)==Z0
theorem BdV(a:Arr)(n:Int)(h:a.ok):CD 5 [.agg a.row1,.int .i64 n] (.bool (decide (wtA a<=n)&&(Bj a).1==0)):=by
 refine Bg (A:=sC _ _) (x:=()) (E:=Efw a) (eOk (Bb8 h) rfl) Try.func5 rfl (by kernel_rfl) rfl (by simp[sC,Efw,EC,E0]) ?_
 refine Bl (T :=
  ∀(x:Nat),True->SM x/\∃(x_1:Unit),Qfk a/\∀(y:Unit),True->ifB (decide (wtA a<=n)) (SM x/\∃(x:Unit),Qfk a/\∀(y:Unit),True->RT ((Prod.fst (Bj a)==Z0)=Qfl a n)) (RT (false=Qfl a n))) (by kernel_rfl) ?_
 delta DA GA GI LN SM Z0 Qfj Qfk Qfl RT
 have da:(default:Arr)=Arr.mk 0 [] [] []:=rfl
 simp only[<- da]
 simp only[implies_true,Bh,decide_eq_true_eq,decide_eq_false_iff_not,true_and,and_true,exists_const,forall_const]
 exact⟨fun _ _=>Be _,fun hw=>⟨fun _ _=>Be _,by simp[hw]⟩,fun hw=>by simp[hw]⟩
def vcA(l:List Int):Arr:=.mk 1 [(l.length:Int)] l []
noncomputable def Evc:Senv:=EC CM 8 1 [2] (fun _=>([],[]))
def Qfm(a:List Int):Arr:=Arr.mk Z1 [(LI a)] a []
def Qfn(a:List Int):List Int:=Arr.nu (Qfm a)
theorem T9(l:List Int):CD 16 [isl l .any] (.agg (vcA l).row1):=by
 refine CD.ofW (RH (E:=Evc) (eOk By rfl) Try.func16 rfl (by kernel_rfl) rfl (by simp[Evc,EC,E0]) ?_)
 refine Bl (T :=
  ∀(x:Nat),True->SM x/\(SM x/\True)/\Z1=Arr.k (Qfm l)/\(SM N1/\(∀(i:Nat),i<N1->wkL (List.getD [[ZI (LI l)]] i []) [ZI (GI [(LI l)] i)])/\True)/\(LN l=LN (Qfn l)/\(∀(i:Nat),i<LN l->GI l i=GI (Qfn l) i/\True)/\True)/\(SM N0/\(∀(i:Nat),i<N0->False)/\True)/\True) (by kernel_rfl) ?_
 delta GI LI LN N0 N1 SM Z0 Z1 ZI Qfm Qfn
 simp only[eq_self,true_and,and_true,forall_const]
 refine⟨rfl,fun i hi=>?_,⟨rfl,fun _ _=>rfl⟩,fun i hi=>absurd hi (Nat.not_lt_zero i)⟩
 obtain rfl:i=0:=by omega
 exact Be _
theorem BdG(a:Arr)(h:a.ok):CD 13 [.agg a.row1,.agg a.row1] (.bool true):=by
 have h1:CD 13 [.agg a.row2,.agg a.row2] (.bool (BV a a)):=BaT a a h h
 rw[B2.2 rfl] at h1
 refine h1.wk ?_
 simp only[wkL,wkD]
 exact⟨CF a,CF a,trivial⟩
theorem MN{z:Int}(h:-100<=z/\z<=100):EY z:=by
 unfold EY;omega
theorem Re{l:List Int}(h1:∀z∈l,-100<=z/\z<=100)(h2:l.length<=100):(vcA l).ok:=by
 refine⟨MN (by decide),?_,fun z hz=>MN (h1 z hz),by simp[maxLen],by simp only[maxLen];omega,by simp[maxLen],trivial⟩
 intro z hz
 rw[List.mem_singleton.1 hz]
 exact MN (by omega)
noncomputable def Eie(l:List Int):Senv:={ EC CM 19 2 [4,5,7,8,9,16] (fun _=>([],[])) with
 ann:=fun b _ S=>match b with
  |0=>some { slots:=[8],keep:=[0,1,6,7],α:=Nat,st:=fun i=>([.int .i64 i],S),inv:=fun i=>i<=l.length,mu:=fun i=>l.length-i }
  |_=>none }
def Qix(a:List Int):D:=SI a
theorem BdQ(l:List Int)(hl:l.length<=1000000)(h:∀z∈l,0<=z):CD 55 [isl l .any,.fn (.func 40) [] []] (.int .i64 (-1)):=by
 refine Bg (A:=sC _ _) (x:=()) (E:=Eie l) (eOk By rfl) Try.func55 rfl (by kernel_rfl) rfl (by simp[sC,Eie,EC,E0]) ?_
 refine Bl (T :=
  (∃(x:Nat),x<=LN l/\(Z0=(↑x:Int)/\True)/\True/\True)/\∀(x:Nat),x<=LN l->ifB (decide ((↑x:Int)<(LI l))) (Bd (Z0<=(↑x:Int)/\(↑x:Int)<(LI l)) (True/\ifB (decide (GI l (Int.toNat (↑x:Int))<Z0)) (RT ((↑x:Int)=(-1:Int))) ((SM (Qix l)/\SM (D.fn (Fn.func (40:Nat)) [] [])/\SM D.unk/\SM (ZI (LI l))/\True)/\∃(y:Nat),y<=LN l/\LN l-y<LN l-x/\(IntKind.wrap IntKind.i64 ((↑x:Int)+Z1)=(↑y:Int)/\True)/\True/\True))) (RT (SM (-1:Int)))) (by kernel_rfl) ?_
 delta GI LI LN N1 SI SM Z0 Z1 ZI Qix RT
 simp only[eq_self,implies_true,Int.toNat_natCast,Bh,Bc,decide_eq_true_eq,decide_eq_false_iff_not,true_and,and_true,exists_const]
 refine⟨⟨0,Nat.zero_le _,rfl⟩,fun i hi hlt=>?_⟩
 have hlt:i<l.length:=by omega
 have hz:=h (l.getD i 0) (by rw[List.getD_eq_getElem?_getD,List.getElem?_eq_getElem hlt];exact List.getElem_mem hlt)
 exact⟨⟨by omega,by omega⟩,fun q=>absurd q (by omega),fun _=>⟨i+1,by omega,by omega,Bb (by omega) (by omega)⟩⟩
noncomputable def Eje(l:List Int):Senv:=EC (fun k ds S=>match k with
 |55=>some (pA ds S (.int .i64 (-1)) (ds=[isl l .any,.fn (.func 40) [] []]))
 |_=>none) 9 2 [4] (fun _=>([],[]))
def Qiy(a:List Int):List D:=[SI a,D.fn (Fn.func (40:Nat)) [] []]
theorem Bd8(l:List Int)(hl:l.length<=1000000)(h:∀z∈l,0<=z):CD 35 [isl l .any,.fn (.func 40) [] []] (.bool false):=by
 refine Bg (A:=sC _ _) (x:=()) (E:=Eje l) (eOk ?_ rfl) Try.func35 rfl (by kernel_rfl) rfl (by simp[sC,Eje,EC,E0]) ?_
 ·intro k ds S A hh
  dsimp only at hh
  split at hh
  ·injection hh with hh;subst hh
   refine Bv fun e=>CD.at_ ?_ _
   rw[e];exact BdQ l hl h
  ·cases hh
 refine Bl (T :=
  ∃(x:Unit),SM (Qiy l)/\∀(y:Unit),True->RT (SM false)) (by kernel_rfl) ?_
 delta GI LN N1 SI SM Z0 ZI Qiy RT
 simp only[eq_self,implies_true,and_true,exists_const]
theorem Baw{n:Nat}(h:n<=65536):Bt [(n:Int)]=true/\prL (shN [(n:Int)])=n:=by
 refine⟨(Bn _).2 ⟨by simp,fun d hd=>?_,?_⟩,by simp[shN,prL]⟩
 ·rw[List.mem_singleton.1 hd];omega
 ·simp only[pzL]
  split<;>simp
  omega
noncomputable def Emd:Senv:=EC CM 18 2 [4,5,6,7,8] (fun _=>([],[]))
def Qfo(a:Nat):Bool:=bif Int.tmod (↑a:Int) (10:Int) != Z0 then !decide (Int.tmod (↑a:Int) (10:Int)<Z0)==false else false
def Qfp(a:Nat):Prop:=false=Qfo a/\True
theorem Be4(n:Nat)(h:n<=1000000):CD 56 [.int .i64 n,.int .i64 10] (.tup [.int .i64 (n % 10:Nat),.int .i64 0]):=by
 refine Bg (A:=sC _ _) (x:=()) (E:=Emd) (eOk By rfl) Try.func56 rfl (by kernel_rfl) rfl (by simp[sC,Emd,EC,E0]) ?_
 refine Bl (T :=
  (SM (decide ((↑n:Int)<=4611686018427387903))/\True)/\True/\ifB (decide ((↑n:Int)<=4611686018427387903)) ((SM true/\True)/\True/\True/\ifB (Int.tmod (↑n:Int) (10:Int) != Z0) (Qfp n) (Qfp n)/\ifB (Qfo n) (True/\True/\∃(y:Unit),True/\(IntKind.wrap IntKind.i64 (Int.tmod (↑n:Int) (10:Int)+10)=(NI (n % (10:Nat)))/\SM Z0/\True)/\True/\True) (True/\True/\∃(y:Unit),True/\(Int.tmod (↑n:Int) (10:Int)=(NI (n % (10:Nat)))/\SM Z0/\True)/\True/\True)) (True/\True/\True/\∃(y:Unit),True/\(Z0=(NI (n % (10:Nat)))/\Z1=Z0/\True)/\True/\True)) (by kernel_rfl) ?_
 delta NI SM Z0 Z1 Qfo Qfp
 simp only[eq_self,ne_eq,Bh,decide_eq_true_eq,decide_eq_false_iff_not,true_and,and_true,bne_iff_ne,bne_eq_false_iff_eq,exists_const]
 have em:(n:Int).tmod 10=((n % 10:Nat):Int):=rfl
 have ed:(n:Int).tdiv 10=((n / 10:Nat):Int):=rfl
 have hb:(bif (n:Int).tmod 10 != 0 then !(decide ((n:Int).tmod 10<0)==false) else false)=false:=by
  rw[em,decide_eq_false (by omega)]
  cases (((n % 10:Nat):Int) != 0)<;>rfl
 rw[hb,em]
 exact⟨fun _=>⟨⟨fun _=>rfl,fun _=>rfl⟩,fun q=>absurd q (by simp),fun _=>rfl⟩,fun q=>absurd q (by omega)⟩
noncomputable def Edv:Senv:=EC CM 18 2 [4,5,6,7,8] (fun _=>([],[]))
def Qfq(a:Nat):Bool:=bif Int.tmod (↑a:Int) (10:Int) != Z0 then !decide (Int.tmod (↑a:Int) (10:Int)<Z0)==false else false
def Qfr(a:Nat):Prop:=false=Qfq a/\True
theorem Be0(n:Nat)(h:n<=1000000):CD 57 [.int .i64 n,.int .i64 10] (.tup [.int .i64 (n / 10:Nat),.int .i64 0]):=by
 refine Bg (A:=sC _ _) (x:=()) (E:=Edv) (eOk By rfl) Try.func57 rfl (by kernel_rfl) rfl (by simp[sC,Edv,EC,E0]) ?_
 refine Bl (T :=
  (SM (decide ((↑n:Int)<=4611686018427387903))/\True)/\True/\ifB (decide ((↑n:Int)<=4611686018427387903)) ((SM true/\True)/\True/\True/\ifB (Int.tmod (↑n:Int) (10:Int) != Z0) (Qfr n) (Qfr n)/\ifB (Qfq n) (True/\True/\∃(y:Unit),True/\(IntKind.wrap IntKind.i64 (IntKind.wrap IntKind.i64 (Int.tdiv (↑n:Int) (10:Int))-Z1)=(NI (n / (10:Nat)))/\SM Z0/\True)/\True/\True) (True/\True/\∃(y:Unit),True/\(IntKind.wrap IntKind.i64 (Int.tdiv (↑n:Int) (10:Int))=(NI (n / (10:Nat)))/\SM Z0/\True)/\True/\True)) (True/\True/\True/\∃(y:Unit),True/\(Z0=(NI (n / (10:Nat)))/\Z1=Z0/\True)/\True/\True)) (by kernel_rfl) ?_
 delta NI SM Z0 Z1 Qfq Qfr
 simp only[eq_self,ne_eq,Bh,decide_eq_true_eq,decide_eq_false_iff_not,true_and,and_true,bne_iff_ne,bne_eq_false_iff_eq,exists_const]
 have em:(n:Int).tmod 10=((n % 10:Nat):Int):=rfl
 have ed:(n:Int).tdiv 10=((n / 10:Nat):Int):=rfl
 have hb:(bif (n:Int).tmod 10 != 0 then !(decide ((n:Int).tmod 10<0)==false) else false)=false:=by
  rw[em,decide_eq_false (by omega)]
  cases (((n % 10:Nat):Int) != 0)<;>rfl
 rw[hb,ed]
 exact⟨fun _=>⟨⟨fun _=>rfl,fun _=>rfl⟩,fun q=>absurd q (by simp),fun _=>Bb (by omega) (by omega)⟩,fun q=>absurd q (by omega)⟩
noncomputable def Eml:Senv:=EC CM 18 2 [4,5,6,11] (fun _=>([],[]))
theorem Be7(n:Nat)(h:n<=1000000):CD 58 [.int .i64 n,.int .i64 10] (.tup [.int .i64 (n*10:Nat),.int .i64 0]):=by
 refine Bg (A:=sC _ _) (x:=()) (E:=Eml) (eOk By rfl) Try.func58 rfl (by kernel_rfl) rfl (by simp[sC,Eml,EC,E0]) ?_
 refine Bl (T :=
  (SM (decide ((↑n:Int)<=4611686018427387903))/\True)/\True/\ifB (decide ((↑n:Int)<=4611686018427387903)) ((SM true/\True)/\True/\True/\True/\True/\ifB (decide ((461168601842738790:Int)<if (↑n:Int)<IntKind.wrap IntKind.i64 (Z0-(↑n:Int)) then IntKind.wrap IntKind.i64 (Z0-(↑n:Int)) else (↑n:Int))) (True/\True/\∃(y:Unit),True/\(Z0=(NI (n*10))/\(19:Int)=Z0/\True)/\True/\True) (True/\True/\∃(y:Unit),True/\(IntKind.wrap IntKind.i64 ((↑n:Int)*10)=(NI (n*10))/\SM Z0/\True)/\True/\True)) (True/\True/\∃(y:Unit),True/\(Z0=(NI (n*10))/\Z1=Z0/\True)/\True/\True)) (by kernel_rfl) ?_
 delta NI SM Z0 Z1
 simp only[eq_self,Bh,decide_eq_true_eq,decide_eq_false_iff_not,true_and,and_true,exists_const]
 rw[Bb (n:=0-(n:Int)) (by omega) (by omega)]
 exact⟨fun _=>⟨fun q=>by split at q<;>omega,fun _=>by rw[Bb (by omega) (by omega)];push_cast;rfl⟩,fun q=>absurd q (by omega)⟩
noncomputable def Ead:Senv:=EC CM 19 2 [4,5,6,11] (fun _=>([],[]))
def Zw(a:Nat):Bool:=decide ((↑a:Int)<=4611686018427387903)
def Qfs(a:Nat):Prop:=SM (Zw a)/\True
def Zx(a b:Nat):Bool:=bif decide ((-4611686018427387903:Int)<=IntKind.wrap IntKind.i64 ((↑a:Int)+(↑b:Int))) then decide (IntKind.wrap IntKind.i64 ((↑a:Int)+(↑b:Int))<=4611686018427387903) else false
def Qft(a b:Nat):Prop:=True/\True/\∃(_y:Unit),True/\(Z0=(NI (a+b))/\Z1=Z0/\True)/\True/\True
theorem BeF(m n:Nat)(h:m<=100000000/\n<=100000000):CD 59 [.int .i64 m,.int .i64 n] (.tup [.int .i64 (m+n:Nat),.int .i64 0]):=by
 refine Bg (A:=sC _ _) (x:=()) (E:=Ead) (eOk By rfl) Try.func59 rfl (by kernel_rfl) rfl (by simp[sC,Ead,EC,E0]) ?_
 refine Bl (T :=
  Qfs m/\True/\ifB (Zw m) (Qfs n/\True/\ifB (Zw n) (True/\ifB (decide ((-4611686018427387903:Int)<=IntKind.wrap IntKind.i64 ((↑m:Int)+(↑n:Int)))) (decide (IntKind.wrap IntKind.i64 ((↑m:Int)+(↑n:Int))<=4611686018427387903)=Zx m n/\True) (false=Zx m n/\True)/\True/\ifB (!Zx m n) (True/\True/\∃(y:Unit),True/\(Z0=(NI (m+n))/\(19:Int)=Z0/\True)/\True/\True) (True/\True/\∃(y:Unit),True/\(IntKind.wrap IntKind.i64 ((↑m:Int)+(↑n:Int))=(NI (m+n))/\SM Z0/\True)/\True/\True)) (Qft m n)) (Qft m n)) (by kernel_rfl) ?_
 delta NI SM Z0 Z1 Zw Qfs Zx Qft
 simp only[eq_self,Bh,decide_eq_true_eq,decide_eq_false_iff_not,true_and,and_true,Bool.not_eq_true',Bool.not_eq_false',exists_const]
 have w:IntKind.i64.wrap ((m:Int)+(n:Int))=((m+n:Nat):Int):=by rw[Bb (by omega) (by omega)];push_cast;rfl
 rw[w,decide_eq_true (show (-4611686018427387903:Int)<=((m+n:Nat):Int) by omega),decide_eq_true (show ((m+n:Nat):Int)<=4611686018427387903 by omega),cond_true]
 exact⟨fun _=>⟨fun _=>⟨⟨fun _=>rfl,fun q=>absurd q (by omega)⟩,fun q=>absurd q (by simp),fun _=>rfl⟩,fun q=>absurd q (by omega)⟩,fun q=>absurd q (by omega)⟩
def tens:List Int:=[10,10,10]
def dgL(n:Nat):List Int:=[((n / 10 / 10 % 10:Nat):Int),((n / 10 % 10:Nat):Int),((n % 10:Nat):Int)]
def Ba7:Con:=fun k ds S=>match k with
 |56=>some (pE (β:=Nat) ds S (fun n=>.tup [.int .i64 (n % 10:Nat),.int .i64 0]) (fun n=>ds=[.int .i64 (n:Nat),.int .i64 10]/\n<=1000000))
 |57=>some (pE (β:=Nat) ds S (fun n=>.tup [.int .i64 (n / 10:Nat),.int .i64 0]) (fun n=>ds=[.int .i64 (n:Nat),.int .i64 10]/\n<=1000000))
 |_=>none
theorem Bbv:ConOk Try.prog Ba7:=by
 intro k ds S A hh
 unfold Ba7 at hh
 split at hh
 ·injection hh with hh;subst hh
  refine B0 fun n ⟨e,h⟩=>CD.at_ ?_ _
  rw[e];exact Be4 n h
 ·injection hh with hh;subst hh
  refine B0 fun n ⟨e,h⟩=>CD.at_ ?_ _
  rw[e];exact Be0 n h
 ·cases hh
noncomputable def Edg:Senv:={ EC Ba7 44 2 [4,5,6,7,15,22] (fun _=>([],[])) with gr:=[.slot 4] }
def Zy(a:Nat):List D:=[ZI (↑a:Int),ZI 10]
def Qfu(a b:Nat):Prop:=Zy a=Zy b/\b<=1000000
def Xk(a b:Nat):Prop:=[ZI (NI (a / (10:Nat))),ZI 10]=Zy b/\b<=1000000
def Zz(a:Nat):List D:=[ZI (NI (a % (10:Nat)))]
def Qfv(a b c d:Nat):List D:=Gk (Gk (Gk (fun _x=>[ZI Z0]) N2 (Zz a)) N1 (Zz b)) N0 (Zz c) d
theorem BeI(n:Nat)(h:n<=1000000):CD 41 [isl tens .any,.int .i64 n] (isl (dgL n) .any):=by
 refine Bei (A:=sC _ _) (y:=()) (E:=Edg) 4 (eOk Bbv rfl) Try.func41 rfl rfl (by kernel_rfl) rfl (by simp[sC,Edg,EC,E0]) ?_
 refine Bl (T :=
  ∀(x:Nat),True->∃(x_1:Nat),Qfu n x_1/\∀(y:Unit),True->SM x/\∃(x_2:Nat),Qfu n x_2/\∀(y:Unit),True->∃(x_3:Nat),Xk x_2 x_3/\∀(y:Unit),True->SM x/\∃(x_4:Nat),Xk x_2 x_4/\∀(y:Unit),True->∃(x_5:Nat),Xk x_4 x_5/\∀(y:Unit),True->SM x/\∃(x_6:Nat),Xk x_4 x_6/\∀(y:Unit),True->SM x/\SM (3:Nat)/\(∀(i:Nat),i<3->List.all (Qfv x_1 x_3 x_5 i) B4=true)/\∀(t:Nat),True/\∃(y:Unit),True/\(SM (3:Nat)/\(∀(i:Nat),i<3->Qfv x_1 x_3 x_5 i=[ZI (GI [(NI (n / (10:Nat) / (10:Nat) % (10:Nat))),(NI (n / (10:Nat) % (10:Nat))),(NI (n % (10:Nat)))] i)])/\True)/\True/\True) (by kernel_rfl) ?_
 delta GI N0 N1 N2 NI SM Z0 ZI Zy Qfu Xk Zz Qfv
 simp only[eq_self,true_and,and_true,exists_const,forall_const]
 refine⟨n,⟨rfl,h⟩,n,⟨rfl,h⟩,n / 10,⟨rfl,by omega⟩,n / 10,⟨rfl,by omega⟩,n / 10 / 10,⟨rfl,by omega⟩,n / 10 / 10,⟨rfl,by omega⟩,fun i hi=>?_,fun i hi=>?_⟩
 ·rcases i with _ | _ | _ | i
  ·rfl
  ·rfl
  ·rfl
  ·omega
 ·rcases i with _ | _ | _ | i
  ·rfl
  ·rfl
  ·rfl
  ·omega
end
end Go.Proofs.Ytaempooepcejaaa
