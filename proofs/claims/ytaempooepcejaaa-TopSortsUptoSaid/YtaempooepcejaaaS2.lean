/- Functions of the given program and what each of them computes: lemmas towards the statement, their conditions stated with each of them. -/
import Derived.Test.YtaempooepcejaaaS1
namespace Go.Proofs.Ytaempooepcejaaa
open Go Go.Ab
set_option maxRecDepth 100000
noncomputable section
theorem BcJ{a:Arr}(h:(Bi a).1=0):∀b∈a.it,(Bi b).1=0:=by
 cases a with
 |mk k s n i=>exact (I3 h).2.2.2
structure Val (a:Arr):Prop where
 ok:a.ok
 c:(Bi a).1=0
theorem Val.it{a b:Arr}(h:Val a)(hb:b∈a.it):Val b:=by
 cases a with
 |mk k s nu it =>
  have ho:=h.ok
  simp only[Arr.ok] at ho
  exact⟨(Cf _).1 ho.2.2.2.2.2.2 b hb,BcJ h.c b hb⟩
def CmpOk(f:Arr->Arr->Ordering)(a b:Arr):Prop:=CD 47 [.agg a.row1,.agg b.row1] (.int .i64 (oI (f a b)))
theorem U1{f : Arr -> Arr -> Ordering}{a b : Arr}{xa xb xr xc : Nat}{q : Nat×Nat×Nat -> Prop}(hf : ∀x∈a.it, ∀y∈b.it, CmpOk f x y)
  (ih:∀y,q y->ACalls Try.prog 86 ((sCe f a b xa xb xr xc (fun _=>True)).args y) ((sCe f a b xa xb xr xc (fun _=>True)).st y) (SpecR (sCe f a b xa xb xr xc (fun _=>True)) y)):ConOk Try.prog (RC f a b xa xb xr xc q):=by
 intro k ds S A hh
 unfold RC at hh
 split at hh
 ·injection hh with hh;subst hh
  exact ConOk.plain (fun y hy=>(ih y hy).mono fun _ _ ⟨z,h1,h2,h3⟩=>⟨z,h1,h2,h3⟩) rfl rfl
 ·injection hh with hh;subst hh
  refine Cn fun y ⟨e,h1,h2⟩=>CD.at_ ?_ _
  rw[e]
  refine (hf _ h1 _ h2).wk ?_
  have e1:=Gl y.1
  have e2:=Gl y.2
  simp only[wkL,wkD]
  exact⟨e1,e2,trivial⟩
 ·injection hh with hh;subst hh
  refine Cn fun y e=>CD.at_ ?_ _
  rw[e];exact W9 _ _
 ·injection hh with hh;subst hh
  refine Cn fun b ⟨hb,hr⟩=>CD.at_ (CD.wk ?_ hb) _
  have:=Mj b hr
  rw[Io hr] at this
  exact this
 ·cases hh
theorem Bbg(f : Arr -> Arr -> Ordering)(a b : Arr)(xa xb xr xc : Nat)(ha : (Bi a).1=0)(hb : (Bi b).1=0)(hk : a.k=b.k)(hl : a.sh.length=b.sh.length)(hf : ∀x∈a.it, ∀y∈b.it, CmpOk f x y) :
  ∀(m:Nat) (y:Nat×Nat×Nat),a.sh.length-y.1=m->ceP a b y->ACalls Try.prog 86 ((sCe f a b xa xb xr xc (fun _=>True)).args y) ((sCe f a b xa xb xr xc (fun _=>True)).st y) (SpecR (sCe f a b xa xb xr xc (fun _=>True)) y)
 |0,(ax,i,j),hm,hp=>RB f a b xa xb xr xc ax i j (fun _=>False) ha hb hk hl hp (fun y hy e=>by have:=hy.1;simp only at hm e;omega) (U1 hf fun y hy=>hy.elim)
 |m+1,(ax,i,j),hm,hp=>RB f a b xa xb xr xc ax i j (fun y=>ceP a b y/\y.1=ax+1) ha hb hk hl hp (fun y hy e=>⟨hy,e⟩) (U1 hf fun y ⟨hy,e⟩=>Bbg f a b xa xb xr xc ha hb hk hl hf m y (by simp only at hm;omega) hy)
def Bbh(f:Arr->Arr->Ordering)(a b:Arr):Con:=fun k ds _S=>match k with
 |86=>match ds with
  | [_,_,_,.ref _ xr _,.ref _ xa _,.ref _ xb _,.ref _ xc _]=>some (sCe f a b xa xb xr xc (fun y=>y=(0,0,0)/\a.k=b.k/\a.sh.length=b.sh.length))
  |_=>none
 |_=>none
theorem BbI{f:Arr->Arr->Ordering}{a b:Arr}(ha:(Bi a).1=0)(hb:(Bi b).1=0)(hf:∀x∈a.it,∀y∈b.it,CmpOk f x y):ConOk Try.prog (Bbh f a b):=by
 intro k ds S A hh
 unfold Bbh at hh
 split at hh
 ·split at hh
  ·injection hh with hh;subst hh
   refine ConOk.plain (fun y ⟨hy,hk,hl⟩=>(Bbg f a b _ _ _ _ ha hb hk hl hf _ y rfl ?_).mono fun _ _ ⟨z,h1,h2,h3⟩=>⟨z,h1,h2,h3⟩) rfl rfl
   rw[hy]
   have e1:=Bz ha
   have e2:=Bz hb
   exact⟨Nat.zero_le _,by simp only[List.drop_zero];omega,by simp only[List.drop_zero];omega⟩
  ·cases hh
 ·cases hh
noncomputable def Eco(f:Arr->Arr->Ordering)(a b:Arr):Senv:=EC (Bbh f a b) 27 7 [20] (fun _=>([],[]))
theorem Bcx{f:Arr->Arr->Ordering}{a b:Arr}(h:a.k=b.k/\a.sh.length=b.sh.length):Gh f a b=Im f a b 0 0 0:=by
 rw[Gh,if_pos h];rfl
def Kc(a:Arr):Int:=Arr.k a
def K0(a:Arr):Nat:=LN (Arr.sh a)
def XW(a:Arr):Int:=(NI (K0 a))
def Qaq(a b:Arr):Bool:=XW a != XW b
def XX(a b:Arr):Bool:=bif Kc a != Kc b then true else Qaq a b
def Qga(a:Arr)(b:Nat):List D:=Arr.row (GA (Arr.it a) b)
def Qar(a:Arr):Prop:=SM (Kc a)/\(SM (K0 a)/\(∀(i:Nat),i<K0 a->SM [ZI (GI (Arr.sh a) i)])/\True)/\(SM (LN (Arr.nu a))/\(∀(i:Nat),i<LN (Arr.nu a)->SM [ZI (GI (Arr.nu a) i)])/\True)/\(SM (LN (Arr.it a))/\(∀(i:Nat),i<LN (Arr.it a)->SM (Qga a i))/\True)/\True
theorem BeD(f:Arr->Arr->Ordering)(a b:Arr)(ha:(Bi a).1=0)(hb:(Bi b).1=0)(hf:∀x∈a.it,∀y∈b.it,CmpOk f x y):CD 73 [.agg a.row1,.agg b.row1] (.int .i64 (oI (Gh f a b))):=by
 refine Bh (A:=sC _ _) (x:=()) (E:=Eco f a b) (eOk (BbI ha hb hf) rfl) Try.func73 rfl (by kernel_rfl) rfl (by simp[sC,Eco,EC,E0]) ?_
 refine Bl (T :=
  ∀(x:Nat),True->∀(x_1:Nat),x≠x_1/\True->(SM x/\SM x_1/\ifB (Kc a != Kc b) (true=XX a b/\True) (SM x/\SM x_1/\Qaq a b=XX a b/\True))/\ifB (XX a b) (RT (Z0=oI (Gh f a b))) (SM x/\∀(x_2:Nat),x_1≠x_2/\x≠x_2/\True->SM x_2/\∀(x_3:Nat),x_2≠x_3/\x_1≠x_3/\x≠x_3/\True->SM x_3/\SM x_3/\∃(x_4:Nat×Nat×Nat),(Z0=(NI x_4.1)/\Z0=(NI x_4.2.1)/\Z0=(NI x_4.2.2)/\SM x_2/\SM x/\SM x_1/\SM x_3/\True)/\((SM x_3/\(D.fn (Fn.func (86:Nat)) [] [D.ref (max (N1+N1) (max (N0+N1) N0)) x_2 N0,D.ref N0 x N0,D.ref (max (N0+N1) N0) x_1 N0,D.ref (max (N2+N1) (max (N1+N1) (max (N0+N1) N0))) x_3 N0]=D.fn (Fn.func (86:Nat)) [] [D.ref N2 x_2 N0,D.ref N0 x N0,D.ref N1 x_1 N0,D.ref (3:Nat) x_3 N0]/\True)/\SM x_2/\(SM (XW a)/\True)/\SM x_1/\Qar b/\SM x/\Qar a/\True)/\True)/\(x_4=(N0,N0,N0)/\Kc a=Kc b/\K0 a=K0 b)/\∀(y:Unit),True->RT (oI (Im f a b x_4.1 x_4.2.1 x_4.2.2)=oI (Gh f a b)))) (by kernel_rfl) ?_
 delta DA GA GI LN N0 N1 N2 NI SM Z0 ZI Kc K0 XW Qaq XX Qga Qar RT
 have da:(default:Arr)=Arr.mk 0 [] [] []:=rfl
 simp only[<- da]
 simp only[ne_eq,implies_true,Bj,true_and,and_true,bne_iff_ne,bne_eq_false_iff_eq,exists_const,forall_const,Prod.exists]
 intro x x1 _
 have hn:∀ {c:Bool},(bif a.k != b.k then true else (a.sh.length:Int) != (b.sh.length:Int))=c->(c=false↔(a.k=b.k/\a.sh.length=b.sh.length)):=by
  intro c hc
  rw[<- hc]
  by_cases hk:a.k=b.k
  ·rw[bne_eq_false_iff_eq.2 hk,cond_false];simp[hk];omega
  ·rw[bne_iff_ne.2 hk,cond_true];simp[hk]
 refine⟨⟨fun h=>by rw[bne_iff_ne.2 h,cond_true],fun h=>by rw[bne_eq_false_iff_eq.2 h,cond_false]⟩,fun h=>?_,fun h x2 _ x3 _=>⟨0,0,0,⟨rfl,rfl,rfl⟩,rfl,⟨rfl,(hn h).1 rfl⟩,?_⟩⟩
 ·rw[Gh,if_neg (fun q=>absurd ((hn h).2 q) (by simp))];rfl
 ·rw[Bcx ((hn h).1 rfl)]
def BaU(f:Arr->Arr->Ordering)(a b:Arr):Con:=fun k ds S=>match k with
 |71=>some (pE (β:=Int×Int) ds S (fun y=>.int .i64 (oI (cI y.1 y.2))) (fun y=>ds=[.int .i64 y.1,.int .i64 y.2]))
 |72=>some (pE (β:=Int×Int) ds S (fun y=>.int .i64 (oI (cI y.1 y.2))) (fun y=>ds=[.int .i64 y.1,.int .i64 y.2]))
 |73=>some (pA ds S (.int .i64 (oI (Gh f a b))) (wkL ds [.agg a.row1,.agg b.row1]))
 |74=>some (pA ds S (.int .i64 (oI (List.compareLex cI a.sh b.sh))) (wkL ds [isl a.sh .any,isl b.sh .any]))
 |70=>match ds with
  | [.sl 1 n g _]=>some (pC ds (.int .i64 (orL (BF n g))) (IntsP n g/\n<=100))
  |_=>none
 |_=>none
theorem Bce{f:Arr->Arr->Ordering}{a b:Arr}(ha:Val a)(hb:Val b)(hf:∀x∈a.it,∀y∈b.it,CmpOk f x y):ConOk Try.prog (BaU f a b):=by
 intro k ds S A hh
 unfold BaU at hh
 split at hh
 ·injection hh with hh;subst hh
  refine Cn fun y e=>CD.at_ ?_ _
  rw[e];exact Beb _ _
 ·injection hh with hh;subst hh
  refine Cn fun y e=>CD.at_ ?_ _
  rw[e];exact W9 _ _
 ·injection hh with hh;subst hh
  exact Bw fun e=>CD.at_ (CD.wk (BeD _ _ _ ha.c hb.c hf) e) _
 ·injection hh with hh;subst hh
  exact Bw fun e=>CD.at_ (CD.wk (BeF _ _ (by have:=((Bv _).1 (Bz ha.c).1).1;omega)) e) _
 ·split at hh
  ·injection hh with hh;subst hh
   refine Ea fun ⟨h1,h2⟩=>⟨Bq _,Cp (B8 h1) (Be1 _ (by rw[CU];exact h2))⟩
  ·cases hh
 ·cases hh
noncomputable def Eoc(f:Arr->Arr->Ordering)(a b:Arr):Senv:=EC (BaU f a b) 27 5 [] (fun id=>match id with | 1=>([0,1,2,3,5,6,7,8,9,10,12,13,15,16,17,18,4,11,14,19,20,21,22],[4,11,14,19,20,21]) | _=>([],[]))
def XY(a:Arr):D:=ZI (Arr.k a)
def JW(a:Arr):List Int:=Arr.sh a
def K1(a:Arr):Nat:=LN (JW a)
def Qas(a:Arr)(b:Nat):Int:=GI (JW a) b
def Qat(a:Arr):D:=D.sl N1 (K1 a) (fun i=>[ZI (Qas a i)]) Mode.any
def QT(a:Nat)(b:Arr):Prop:=SM a/\SM (Qat b)
def XZ(a:Arr):Nat:=LN (Arr.nu a)
def Qau(a:Arr)(b:Nat):Int:=GI (Arr.nu a) b
def X0(a:Arr):Nat:=LN (Arr.it a)
def X1(a:Arr)(b:Nat):List D:=Arr.row (GA (Arr.it a) b)
def Qgb(a:Arr):D:=D.agg [XY a,Qat a,D.sl N1 (XZ a) (fun i=>[ZI (Qau a i)]) Mode.any,D.sl N4 (X0 a) (fun i=>X1 a i) Mode.any]
def JX(a:Nat)(b:Arr):Prop:=SM a/\SM (Qgb b)
def X2(a:Arr):Prop:=SM (K1 a)/\(∀(i:Nat),i<K1 a->SM (Qas a i)/\True)/\True
def Qav(a:Arr):Prop:=SM (Arr.k a)/\X2 a/\(SM (XZ a)/\(∀(i:Nat),i<XZ a->SM (Qau a i)/\True)/\True)/\(SM (X0 a)/\(∀(i:Nat),i<X0 a->wkL (X1 a i) (X1 a i))/\True)/\True
def X3(a b:Int):List D:=[ZI (oI (cI a b))]
def Qaw(a:Nat)(b c:Arr):List D:=[ZI (oI (Gh (Ca a) b c))]
def Qax(a b:Arr):List D:=[ZI (oI (List.compareLex cI (JW a) (JW b)))]
def Qay(a b:Int):Int:=Wl (X3 a b)
theorem BeI(n:Nat)(a b:Arr)(ha:Val a)(hb:Val b)(hf:∀x∈a.it,∀y∈b.it,CmpOk (Ca n) x y):CmpOk (Ca (n+1)) a b:=by
 refine Bh (A:=sC _ _) (x:=()) (E:=Eoc (Ca n) a b) (eOk (Bce ha hb hf) rfl) Try.func47 rfl (by kernel_rfl) rfl (by simp[sC,Eoc,EC,E0]) ?_
 refine Bl (T :=
  ∀(x:Nat),True->∀(x_1:Nat),x≠x_1/\True->SM x/\SM x_1/\SM x/\SM x_1/\SM x/\SM x_1/\SM x/\SM x_1/\∃(x_2:Int×Int),[XY a,XY b]=[ZI x_2.1,ZI x_2.2]/\∀(y:Unit),True->QT x_1 b/\QT x a/\JX x_1 b/\JX x a/\QT x_1 b/\QT x a/\∃(x_3:Int×Int),[ZI (NI (K1 a)),ZI (NI (K1 b))]=[ZI x_3.1,ZI x_3.2]/\∀(y:Unit),True->QT x_1 b/\QT x a/\JX x_1 b/\JX x a/\∃(x_4:Unit),(Qav a/\Qav b/\True)/\∀(y:Unit),True->QT x_1 b/\QT x a/\∃(x:Unit),(X2 a/\X2 b/\True)/\∀(y:Unit),True->((IntsP N4 fun i=>List.getD [X3 x_2.1 x_2.2,X3 x_3.1 x_3.2,Qaw n a b,Qax a b] i [])/\N4<=100)/\∀(y:Unit),True->RT (orL [Qay x_2.1 x_2.2,Qay x_3.1 x_3.2,Wl (Qaw n a b),Wl (Qax a b)]=oI (Ca (n+N1) a b))) (by kernel_rfl) ?_
 delta DA GA GI LN N1 N4 NI SM Z0 ZI Qas Qat QT XZ Qau X0 X1 Qgb JX X2 Qav X3 Qaw Qax Qay XY JW K1 RT
 have da:(default:Arr)=Arr.mk 0 [] [] []:=rfl
 simp only[<- da]
 simp only[ne_eq,implies_true,true_and,and_true,exists_const,forall_const,Prod.exists]
 refine fun _ _ _=>⟨_,_,rfl,_,_,rfl,⟨fun _ _=>Be _,fun _ _=>Be _⟩,⟨fun i hi=>?_,by omega⟩,?_⟩
 ·rcases i with _ | _ | _ | _ | i
  ·rfl
  ·rfl
  ·rfl
  ·rfl
  ·omega
 ·simp only[Wl,orL,Ca,TW]
  repeat' split
  all_goals first | rfl | omega
theorem RM:∀(n:Nat) (a b:Arr),Val a->Val b->SizeOf.sizeOf a<n->CmpOk (Ca n) a b
 |0,a,b,_,_,h=>absurd h (Nat.not_lt_zero _)
 |n+1,a,b,ha,hb,h=>BeI n a b ha hb fun x hx y hy=>RM n x y (ha.it hx) (hb.it hy) (by
   have:=List.sizeOf_lt_of_mem hx
   cases a with
   |mk k s nu it =>
    simp only[Arr.mk.sizeOf_spec] at h
    have:SizeOf.sizeOf x<SizeOf.sizeOf it:=this
    omega)
def Bby(n:Nat)(a b:Arr):Con:=fun k ds S=>match k with
 |45=>some (pE (β:=Arr) ds S (fun _=>.int .i64 0) (fun y=>wkL ds [.agg y.row1]/\(y=a\/y=b)))
 |47=>some (pA ds S (.int .i64 (oI (Ca n a b))) (wkL ds [.agg a.row1,.agg b.row1]))
 |_=>none
theorem BbU{n:Nat}{a b:Arr}(ha:Val a)(hb:Val b)(h:SizeOf.sizeOf a<n):ConOk Try.prog (Bby n a b):=by
 intro k ds S A hh
 unfold Bby at hh
 split at hh
 ·injection hh with hh;subst hh
  refine Cn fun y ⟨e,hy⟩=>CD.at_ (CD.wk ?_ e) _
  obtain rfl | rfl:=hy
  ·have:=Mz _ ha.ok
   rw[ha.c] at this;exact this
  ·have:=Mz _ hb.ok
   rw[hb.c] at this;exact this
 ·injection hh with hh;subst hh
  exact Bw fun e=>CD.at_ (CD.wk (RM n a b ha hb h) e) _
 ·cases hh
noncomputable def Ecm(n:Nat)(a b:Arr):Senv:=EC (Bby n a b) 16 5 [12] (fun _=>([],[]))
def X4(a:Arr):Int:=Arr.k a
def K2(a:Arr):Nat:=LN (Arr.sh a)
def X5(a:Arr)(b:Nat):Int:=GI (Arr.sh a) b
def K3(a:Arr):Nat:=LN (Arr.nu a)
def X6(a:Arr)(b:Nat):Int:=GI (Arr.nu a) b
def K4(a:Arr):Nat:=LN (Arr.it a)
def JY(a:Arr)(b:Nat):List D:=Arr.row (GA (Arr.it a) b)
def Qaz(a b:Arr):Prop:=(X4 a=X4 b/\(K2 a=K2 b/\(∀(i:Nat),i<K2 a->X5 a i=X5 b i/\True)/\True)/\(K3 a=K3 b/\(∀(i:Nat),i<K3 a->X6 a i=X6 b i/\True)/\True)/\(K4 a=K4 b/\(∀(i:Nat),i<K4 a->wkL (JY a i) (JY b i))/\True)/\True)/\True
def QaA(a:Arr):Prop:=SM (X4 a)/\(SM (K2 a)/\(∀(i:Nat),i<K2 a->SM (X5 a i)/\True)/\True)/\(SM (K3 a)/\(∀(i:Nat),i<K3 a->SM (X6 a i)/\True)/\True)/\(SM (K4 a)/\(∀(i:Nat),i<K4 a->wkL (JY a i) (JY a i))/\True)/\True
theorem BeX(n:Nat)(a b:Arr)(ha:Val a)(hb:Val b)(h:SizeOf.sizeOf a<n):CD 24 [.agg a.row1,.agg b.row1] (.int .i64 (oI (Ca n a b))):=by
 refine Bh (A:=sC _ _) (x:=()) (E:=Ecm n a b) (eOk (BbU ha hb h) rfl) Try.func24 rfl (by kernel_rfl) rfl (by simp[sC,Ecm,EC,E0]) ?_
 refine Bl (T :=
  ∀(x:Nat),True->∀(x_1:Nat),x≠x_1/\True->SM x/\∃(x_2:Arr),(Qaz a x_2/\(x_2=a\/x_2=b))/\∀(y:Unit),True->SM x_1/\∃(x_3:Arr),(Qaz b x_3/\(x_3=a\/x_3=b))/\∀(y:Unit),True->SM x/\SM x_1/\∃(x:Unit),(QaA a/\QaA b/\True)/\∀(y:Unit),True->RT (SM (oI (Ca n a b)))) (by kernel_rfl) ?_
 delta DA GA GI LN SM Z0 X4 K2 X5 K3 X6 K4 JY Qaz QaA RT
 have da:(default:Arr)=Arr.mk 0 [] [] []:=rfl
 simp only[<- da]
 simp only[ne_eq,implies_true,true_and,and_true,exists_const,forall_const]
 exact fun _ _ _=>⟨a,⟨⟨rfl,⟨rfl,fun _ _=>rfl⟩,⟨rfl,fun _ _=>rfl⟩,rfl,fun _ _=>Be _⟩,.inl rfl⟩,b,⟨⟨rfl,⟨rfl,fun _ _=>rfl⟩,⟨rfl,fun _ _=>rfl⟩,rfl,fun _ _=>Be _⟩,.inr rfl⟩,fun _ _=>Be _,fun _ _=>Be _⟩
noncomputable def Ekl:Senv:=EC C7 8 1 [2,4] (fun _=>([],[]))
theorem Mm(l:List Int)(h:l.length<=1000000):CD 25 [isl l .any] (isl l .any):=by
 refine Bh (A:=sC _ _) (x:=()) (E:=Ekl) (eOk BA rfl) Try.func25 rfl (by kernel_rfl) rfl (by simp[sC,Ekl,EC,E0]) ?_
 refine Bl (T :=
  ∀(r:Bool),(r=true->LN l=N0)->ifB r (True/\∃(y:Unit),True/\(N0=LN l/\(∀(i:Nat),i<N0->Es (List D) [] [ZI (GI l i)])/\True)/\True/\True) (Bd ((N0+LN l)*8<=140737488355328/\N0+LN l<=9223372036854775807) (∀(t:Nat),True/\∃(y:Unit),True/\(N0+LN l=LN l/\(∀(i:Nat),i<N0+LN l->BB N0 (fun i=>[D.str []]) (fun i=>[ZI (GI l i)]) i=[ZI (GI l i)])/\True)/\True/\True))) (by kernel_rfl) ?_
 delta GI LN N0 Z0 ZI
 simp only[Bj,Bc,true_and,and_true,exists_const,forall_const]
 refine fun r hr=>⟨fun e=>⟨(hr e).symm,fun i hi=>absurd hi (Nat.not_lt_zero i)⟩,fun _=>⟨⟨by omega,by omega⟩,by omega,fun i _=>?_⟩⟩
 rw[BB,if_neg (Nat.not_lt_zero i),Nat.sub_zero]
def rwA(a:Arr)(i:Nat):Arr:=.mk a.k a.sh.tail ((a.nu.drop (i*Bn a)).take (Bn a)) ((a.it.drop (i*Bn a)).take (Bn a))
theorem Ia{a:Arr}{i:Nat}(h:Val a)(hr:a.sh≠[])(hi:(i:Int)<a.sh.headD 0):Val (rwA a i)/\i*Bn a+Bn a<=szN a:=by
 obtain ⟨ho,hc⟩:=h
 obtain ⟨z1,z2,z3⟩:=Bz hc
 cases a with
 |mk k s nu it =>
  cases s with
  |nil=>exact absurd rfl hr
  |cons d r =>
   have hi:(i:Int)<d:=hi
   obtain ⟨f1,f2,f3,f4⟩:=Cj.1 (Cv hc)
   have f2:Bu (d::r)=true:=f2
   have e:prL (shN (d::r))=d.toNat*prL (shN r):=by simp[shN,prL]
   have z2:szN (.mk k (d::r) nu it)=d.toNat*prL (shN r):=by rw[<- e];exact z2
   have hb:i*prL (shN r)+prL (shN r)<=d.toNat*prL (shN r):=by
    rw[<- Nat.succ_mul];exact Nat.mul_le_mul_right _ (by omega)
   have hrr:=(Cz f2 1).2
   have hrr:Bu r=true:=hrr
   refine⟨⟨?_,?_⟩,by rw[z2];exact hb⟩
   ·simp only[Arr.ok] at ho
    obtain ⟨o1,o2,o3,o4,o5,o6,o7⟩:=ho
    simp only[rwA,Arr.k,Arr.sh,Arr.nu,Arr.it,Arr.ok,List.tail_cons,List.length_take,List.length_drop]
    simp only[List.length_cons] at o4
    exact⟨o1,fun z hz=>o2 z (List.mem_cons_of_mem _ hz),fun z hz=>o3 z (List.mem_of_mem_drop (List.mem_of_mem_take hz)),by omega,by omega,by omega,(Cf _).2 fun b hb=>(Cf _).1 o7 b (List.mem_of_mem_drop (List.mem_of_mem_take hb))⟩
   ·refine Bca hc (Cj.2 ⟨f1,hrr,?_,?_⟩) ((List.take_sublist _ _).trans (List.drop_sublist _ _)) ((List.take_sublist _ _).trans (List.drop_sublist _ _))
    ·skip
     show (if k=3 then ((it.drop (i*prL (shN r))).take (prL (shN r))).length else ((nu.drop (i*prL (shN r))).take (prL (shN r))).length)=prL (shN r)
     have z3:(if k=3 then it.length else nu.length)=d.toNat*prL (shN r):=z2
     by_cases hk:k=3
     ·rw[if_pos hk] at z3 ⊢
      rw[List.length_take,List.length_drop]
      omega
     ·rw[if_neg hk] at z3 ⊢
      rw[List.length_take,List.length_drop]
      omega
    ·have f4:(if k=3 then nu.length else it.length)=0:=f4
     show (if k=3 then ((nu.drop (i*prL (shN r))).take (prL (shN r))).length else ((it.drop (i*prL (shN r))).take (prL (shN r))).length)=0
     by_cases hk:k=3
     ·rw[if_pos hk] at f4 ⊢; rw[List.length_take,List.length_drop];omega
     ·rw[if_neg hk] at f4 ⊢; rw[List.length_take,List.length_drop];omega
def Bcg(s:List Int)(b:Arr):Con:=fun k ds S=>match k with
 |25=>some (pA ds S (isl s .any) (wkL ds [isl s .any]/\s.length<=1000000))
 |54=>some (pA ds S (.agg b.row1) (wkL ds [.agg b.row1]/\(Bi b).1=0))
 |_=>none
theorem Bba{s:List Int}{b:Arr}:ConOk Try.prog (Bcg s b):=by
 intro k ds S A hh
 unfold Bcg at hh
 split at hh
 ·injection hh with hh;subst hh
  exact Bw fun ⟨e,h⟩=>CD.at_ (CD.wk (Mm s h) e) _
 ·injection hh with hh;subst hh
  exact Bw fun ⟨e,h⟩=>CD.at_ (CD.wk ((WP b h).mono fun _ _ ⟨y,q1,q2,q3⟩=>⟨(),trivial,q2,q3⟩) e) _
 ·cases hh
noncomputable def Epa(s:List Int)(b:Arr):Senv:=EC (Bcg s b) 38 5 [8,9,10,21] (fun id=>match id with | 1=>([0,1,2,3,4,5,6],[3,5,6]) | _=>([],[]))
def K5(a:Arr):Nat:=LN (List.tail (Arr.sh a))
def QaB(a:Arr)(b:Nat):Int:=GI (List.tail (Arr.sh a)) b
def QaC(a:Arr):Prop:=((SM (K5 a)/\(∀(i:Nat),i<K5 a->SM (QaB a i)/\True)/\True)/\True)/\K5 a<=1000000
def X7(a:Nat)(b:Arr):Prop:=SM a/\SM (ZI (Arr.k b))
def Kd(a:Nat)(b:Arr):Int:=(NI (a*Bn b))
def K6(a:Nat)(b:Arr):Int:=IntKind.wrap IntKind.i64 (Kd a b+(NI (Bn b)))
def QaD(a:Nat)(b:Arr):Prop:=Kd a b<=K6 a b
def QaE(a:Nat)(b:Arr):Prop:=SM (K6 a b)
def QB(a:Arr)(b:Nat):Arr:=rwA a b
def QaF(a:Arr)(b:Nat):Int:=Arr.k (QB a b)
def QaG(a:Arr)(b:Nat):Prop:=Arr.k a=QaF a b
def X8(a:Arr)(b:Nat):Nat:=LN (Arr.sh (QB a b))
def QaH(a:Arr)(b:Nat):Prop:=K5 a=X8 a b/\(∀(i:Nat),i<K5 a->QaB a i=GI (Arr.sh (QB a b)) i/\True)/\True
def JZ(a:Arr)(b:Nat):Nat:=LN (Arr.nu (QB a b))
def X9(a:Nat)(b:Arr):Nat:=Int.toNat (K6 a b)-Int.toNat (Kd a b)
def J0(a:Arr)(b:Nat):Nat:=LN (Arr.it (QB a b))
def QaI(a b:Nat)(c:Arr):Prop:=a<X9 b c
def QaJ:Arr:=DA
def Ya(a:Arr)(b c:Nat):List D:=Arr.row (List.getD (Arr.it (QB a b)) c QaJ)
def Qgc(a:Arr)(b c:Nat):List D:=[ZI (GI (Arr.sh (QB a b)) c)]
def Qgd(a:Arr)(b c:Nat):List D:=[ZI (GI (Arr.nu (QB a b)) c)]
def QaK(a:Nat)(b:Arr)(c:Nat):Prop:=∀(_y:Unit),True->SM a/\(SM a/\True)/\∃(_y:Unit),True/\(SM (QaF b c)/\(SM (X8 b c)/\(∀(i:Nat),i<X8 b c->SM (Qgc b c i))/\True)/\(SM (JZ b c)/\(∀(i:Nat),i<JZ b c->SM (Qgd b c i))/\True)/\(SM (J0 b c)/\(∀(i:Nat),i<J0 b c->SM (Ya b c i))/\True)/\True)/\True/\True
def QaL(a:Nat)(b:Arr)(c d e:Nat):Prop:=X7 a b/\SM c/\SM a/\ifB (Arr.k b==3) (SM a/\Z0<=Kd d b/\QaD d b/\K6 d b<=(LI (Arr.it b))/\QaE d b/\SM c/\SM c/\∃(_x:Unit),(((QaG b d/\QaH b d/\(N0=JZ b d/\(∀(i:Nat),i<N0->False)/\True)/\(X9 d b=J0 b d/\(∀(i:Nat),QaI i d b->wkL (Arr.row (List.getD (Arr.it b) (Int.toNat (Kd d b)+i) QaJ)) (Ya b d i))/\True)/\True)/\True)/\Prod.fst (Bi (QB b d))=Z0)/\QaK e b d) (SM a/\Z0<=Kd d b/\QaD d b/\K6 d b<=(LI (Arr.nu b))/\QaE d b/\SM c/\SM c/\∃(_x:Unit),(((QaG b d/\QaH b d/\(X9 d b=JZ b d/\(∀(i:Nat),QaI i d b->GI (Arr.nu b) (Int.toNat (Kd d b)+i)=GI (Arr.nu (QB b d)) i/\True)/\True)/\(N0=J0 b d/\(∀(i:Nat),i<N0->wkL [] (Ya b d i))/\True)/\True)/\True)/\Prod.fst (Bi (QB b d))=Z0)/\QaK e b d)
theorem Bex(a : Arr)(i : Nat)(h : Val a)(hr : a.sh≠[])(hi : (i : Int)<a.sh.headD 0) :
  CD 69 [.agg a.row1,.int .i64 ((i*Bn a:Nat):Int),.int .i64 (Bn a:Nat),isl a.sh.tail .any] (.agg (rwA a i).row1):=by
 refine Bh (A:=sC _ _) (x:=()) (E:=Epa a.sh.tail (rwA a i)) (eOk Bba rfl) Try.func69 rfl (by kernel_rfl) rfl (by simp[sC,Epa,EC,E0]) ?_
 refine Bl (T :=
  ∀(x:Nat),True->∀(x_1:Nat),x≠x_1/\True->SM x/\(∃(x_2:Unit),QaC a/\∀(y:Unit),True->X7 x a/\∀(x_3:Nat),x_1≠x_3/\x≠x_3/\True->QaL x a x_3 i x_1)/\∀(x_2:Nat),x_1≠x_2/\x≠x_2/\True->X7 x a/\∃(x_3:Unit),QaC a/\∀(y:Unit),True->QaL x a x_2 i x_1) (by kernel_rfl) ?_
 delta DA GI LI LN N0 NI SM Z0 ZI K5 QaB QaG X8 QaH JZ X9 J0 QaI QaJ Ya Qgc QaC Qgd QaK QaL X7 Kd K6 QaD QaE QB QaF
 have da:(default:Arr)=Arr.mk 0 [] [] []:=rfl
 simp only[<- da]
 simp only[ne_eq,implies_true,Int.toNat_natCast,Bj,true_and,and_true,beq_iff_eq,beq_eq_false_iff_ne,exists_const,forall_const]
 obtain ⟨rv,hb⟩:=Ia h hr hi
 obtain ⟨_,_,s6⟩:=Bz h.c
 have l8:=((Bv _).1 (Bz h.c).1).1
 have wr:IntKind.i64.wrap (((i*Bn a:Nat):Int)+(Bn a:Nat))=((i*Bn a+Bn a:Nat):Int):=by rw[<- Int.natCast_add];exact Bb (by omega) (by omega)
 have lt:a.sh.tail.length<=1000000:=by rw[List.length_tail];omega
 have f4:(if a.k=3 then a.nu.length else a.it.length)=0:=(Cj.1 (Cv h.c)).2.2.2
 have gi:∀(l:List Arr) (n m j:Nat),j<m->l.getD (n+j) default=((l.drop n).take m).getD j default:=fun l n m j hj=>by rw[EZ _ hj,Cu]
 have gn:∀(l:List Int) (n m j:Nat),j<m->l.getD (n+j) 0=((l.drop n).take m).getD j 0:=fun l n m j hj=>by rw[EZ _ hj,Cu]
 have hn:(rwA a i).nu=(a.nu.drop (i*Bn a)).take (Bn a):=rfl
 have ht:(rwA a i).it=(a.it.drop (i*Bn a)).take (Bn a):=rfl
 rw[wr,hn,ht]
 simp only[Int.toNat_natCast,List.length_take,List.length_drop]
 refine fun _ _ _=>⟨⟨lt,fun _ _=>⟨fun hk=>?_,fun hk=>?_⟩⟩,fun _ _=>⟨lt,fun hk=>?_,fun hk=>?_⟩⟩
 all_goals first | rw[szN,if_pos hk] at hb | rw[szN,if_neg hk] at hb
 all_goals first | rw[if_pos hk] at f4 | rw[if_neg hk] at f4
 ·exact⟨by omega,by omega,by omega,⟨rfl,⟨rfl,fun _ _=>rfl⟩,⟨by omega,fun _ h0=>absurd h0 (Nat.not_lt_zero _)⟩,by omega,fun j hj=>by rw[gi a.it _ (Bn a) j (by omega)];exact Be _⟩,rv.c⟩
 ·exact⟨by omega,by omega,by omega,⟨rfl,⟨rfl,fun _ _=>rfl⟩,⟨by omega,fun j hj=>gn a.nu _ (Bn a) j (by omega)⟩,by omega,fun _ h0=>absurd h0 (Nat.not_lt_zero _)⟩,rv.c⟩
 ·exact⟨by omega,by omega,by omega,⟨rfl,⟨rfl,fun _ _=>rfl⟩,⟨by omega,fun _ h0=>absurd h0 (Nat.not_lt_zero _)⟩,by omega,fun j hj=>by rw[gi a.it _ (Bn a) j (by omega)];exact Be _⟩,rv.c⟩
 ·exact⟨by omega,by omega,by omega,⟨rfl,⟨rfl,fun _ _=>rfl⟩,⟨by omega,fun j hj=>gn a.nu _ (Bn a) j (by omega)⟩,by omega,fun _ h0=>absurd h0 (Nat.not_lt_zero _)⟩,rv.c⟩
noncomputable def Erk:Senv:=EC C7 18 2 [4,8] (fun _=>([],[]))
theorem BeV(n:Nat)(h:1<=n/\n<=8):CD 68 [.int .i64 (n-1:Nat),.int .i64 n] (.int .i64 (n-1:Nat)):=by
 refine Bh (A:=sC _ _) (x:=()) (E:=Erk) (eOk BA rfl) Try.func68 rfl (by kernel_rfl) rfl (by simp[sC,Erk,EC,E0]) ?_
 refine Bl (T :=
  RT ((if (if (↑n:Int)<Z0 then Z0 else (↑n:Int))<(NI (n-N1)) then if (↑n:Int)<Z0 then Z0 else (↑n:Int) else (NI (n-N1)))=(NI (n-N1)))) (by kernel_rfl) ?_
 delta N1 NI Z0 RT
 simp only[true_and,and_true,exists_const]
 obtain ⟨h1,h2⟩:=h
 repeat' split
 all_goals omega
def E1(a:Arr):List Arr:=(List.range (a.sh.headD 0).toNat).map (rwA a)
theorem Ct(a:Arr):(E1 a).length=(a.sh.headD 0).toNat:=by simp[E1]
theorem OP(a:Arr){i:Nat}(h:i<(a.sh.headD 0).toNat):(E1 a).getD i default=rwA a i:=by
 rw[E1,List.getD_eq_getElem?_getD,List.getElem?_map,List.getElem?_range h];rfl
def BcL(a:Arr):Con:=fun k ds S=>match k with
 |45=>some (pA ds S (.int .i64 0) (wkL ds [.agg a.row1]))
 |68=>some (pA ds S (.int .i64 (a.sh.length-1:Nat)) (ds=[.int .i64 (a.sh.length-1:Nat),.int .i64 a.sh.length]/\1<=a.sh.length/\a.sh.length<=8))
 |32=>some (pE (β:=List Int) ds S (fun l=>.int .i64 (prL (shN l):Nat)) (fun l=>wkL ds [isl l .any]/\Bu l=true))
 |69=>some (pE (β:=Nat) ds S (fun i=>.agg (rwA a i).row1) (fun i=>wkL ds [.agg a.row1,.int .i64 ((i*Bn a:Nat):Int),.int .i64 (Bn a:Nat),isl a.sh.tail .any]/\(i:Int)<a.sh.headD 0))
 |_=>none
theorem Ba9{a:Arr}(h:Val a)(hr:a.sh≠[]):ConOk Try.prog (BcL a):=by
 intro k ds S A hh
 unfold BcL at hh
 split at hh
 ·injection hh with hh;subst hh
  refine Bw fun e=>CD.at_ (CD.wk ?_ e) _
  have:=Mz _ h.ok
  rw[h.c] at this;exact this
 ·injection hh with hh;subst hh
  refine Bw fun ⟨e,h1⟩=>CD.at_ ?_ _
  rw[e];exact BeV _ h1
 ·injection hh with hh;subst hh
  refine Cn fun b ⟨hb,hr⟩=>CD.at_ (CD.wk ?_ hb) _
  have:=Mj b hr
  rw[Io hr] at this
  exact this
 ·injection hh with hh;subst hh
  exact Cn fun i ⟨e,hi⟩=>CD.at_ (CD.wk (Bex a i h hr hi) e) _
 ·cases hh
def vsK:D->Nat
 |.vs k _ _ _ _=>k
 |_=>0
noncomputable def Ecs(a:Arr):Senv:={ EC (BcL a) 53 3 [4,5,6,7,8,9,12,34,35,36] (fun id=>match id with | 3=>([0,1,2,3,4,5,6,7,8,9],[7]) | 4=>([0,1,2,3,5,6,7,8,4,9,10,11],[4,9]) | 9=>([0,1,2,3,4,5,6,7,8,9,10,11,12,13],[10,11,12]) | _=>([],[])) with
 gr:=[.slot 4]
 ann:=fun b env S=>match b with
  |0=>some { slots:=[35,8],keep:=[1,2,5,6,7,34],α:=Nat×Nat×Nat×Nat×(Nat->List D),st:=fun y=>([.int .i64 y.1,.vs (vsK (Ab.look env 8)) y.2.1 y.1 y.2.2.2.1 4],⟨(vsK (Ab.look env 8),y.2.1,.vec 4 y.2.2.1 y.2.2.2.1 y.2.2.2.2)::BP S.objs (vsK (Ab.look env 8)),S.toks⟩),inv:=fun y=>y.1<=(a.sh.headD 0).toNat/\y.1<=y.2.2.1/\∀j,j<y.1->y.2.2.2.2 j=(rwA a j).row1,mu:=fun y=>(a.sh.headD 0).toNat-y.1 }
  |_=>none }
def QaM(a:Arr):Prop:=SM (Arr.k a)
def QF(a:Arr):List Int:=Arr.sh a
def QN(a:Arr):Nat:=LN (QF a)
def QaN(a:Arr):Prop:=SM (QN a)
def QaO(a:Arr)(b:Nat):Int:=GI (QF a) b
def QaP(a:Arr):Prop:=SM (LN (Arr.nu a))
def QaQ(a:Arr)(b:Nat):Int:=GI (Arr.nu a) b
def QaR(a:Arr):Prop:=SM (LN (Arr.it a))
def Yb:Arr:=DA
def Yc(a:Arr)(b:Nat):List D:=Arr.row (List.getD (Arr.it a) b Yb)
def QaS(a:Arr):Prop:=QaM a/\(QaN a/\(∀(i:Nat),i<QN a->SM (QaO a i)/\True)/\True)/\(QaP a/\(∀(i:Nat),i<LN (Arr.nu a)->SM (QaQ a i)/\True)/\True)/\(QaR a/\(∀(i:Nat),i<LN (Arr.it a)->wkL (Yc a i) (Yc a i))/\True)/\True
def QaT(a:Arr):D:=ZI (NI (QN a-N1))
def QG(a:Arr):Int:=(NI (QN a))
def Qge(a:Arr):List D:=[QaT a,ZI (QG a)]
def QaU(a:Arr)(b:Nat):List D:=[ZI (QaO a b)]
def Qgf(a:Arr):D:=D.sl N1 (QN a) (fun i=>QaU a i) Mode.any
def QaV(a:Nat)(b:Arr):Prop:=SM a/\SM (Qgf b)
def QU(a:Arr):Int:=IntKind.wrap IntKind.i64 (QG a-(NI (QN a-N1)))
def Yd(a:Arr):Nat:=Int.toNat (QU a)
def QaW(a:Arr):Nat:=Yd a-N0
def Ye(a:Arr):Nat:=Int.toNat (QG a)-Yd a
def QaX(a:Nat)(b:Arr):Prop:=a<Ye b
def QaY(a:Arr)(b:Nat):Int:=GI (QF a) (Yd a+b)
def QV(a:List Int):Int:=(NI (prL (shN a)))
def Kw(a:Arr)(b:Nat):Arr:=rwA a b
def Yf(a:Nat)(b:Arr)(c:Nat)(d:Nat->List D):Prop:=a<=Int.toNat (List.headD (QF b) Z0)/\a<=c/\∀(j:Nat),j<a->d j=Arr.row1 (Kw b j)
def QaZ(a:List Int):Nat:=Int.toNat (QV a)
def Yg(a:List Int)(b:Nat):Prop:=QaZ a=b
def Yh:D:=D.sl N1 N0 (fun _x=>[]) Mode.nil
def Qa0(a:Nat)(b:Arr):Prop:=SM a/\(QaM b/\(QaN b/\(∀(i:Nat),i<QN b->SM (QaU b i))/\True)/\(QaP b/\(∀(i:Nat),i<LN (Arr.nu b)->SM [ZI (QaQ b i)])/\True)/\(QaR b/\(∀(i:Nat),i<LN (Arr.it b)->SM (Yc b i))/\True)/\True)/\True
def Qgg(a:Arr):D:=ZI (QU a)
def Qgh(a:List Int):D:=ZI (QV a)
def Yi(a:List Int):Prop:=SM (Qgh a)
theorem Ben(a:Arr)(h:Val a)(hr:a.sh≠[]):CD 46 [.agg a.row1,.int .i64 (a.sh.length-1:Nat)] (gsl 4 Arr.row1 (E1 a)):=by
 refine Bh (A:=sC _ _) (x:=()) (E:=Ecs a) (eOk (Ba9 h hr) rfl) Try.func46 rfl (by kernel_rfl) rfl (by simp[sC,Ecs,EC,E0]) ?_
 refine Bl (T :=
  ∀(x:Nat),True->SM x/\∃(x_1:Unit),(QaS a/\True)/\∀(y:Unit),True->SM x/\SM x/\∃(x_2:Unit),(SM (Qge a)/\N1<=QN a/\QN a<=8)/\∀(y:Unit),True->QaV x a/\SM x/\Bd (Z0<=Z0/\Z0<=QU a/\QU a<=QG a) (SM x/\Bd (Z0<=QU a/\QU a<=QG a/\QG a<=QG a) (∃(x_3:List Int),(((QaW a=LN x_3/\(∀(i:Nat),i<QaW a->GI (QF a) (N0+i)=GI x_3 i/\True)/\True)/\True)/\Bu x_3=true)/\∀(y:Unit),True->QaV x a/\∃(x_4:List Int),(((Ye a=LN x_4/\(∀(i:Nat),QaX i a->QaY a i=GI x_4 i/\True)/\True)/\True)/\Bu x_4=true)/\∀(y:Unit),True->Bd (Z0<=Z0/\Z0<=QV x_3/\(80:Int)*QV x_3<=281474976710656/\QV x_3<=9223372036854775807) (∀(x_5:Nat),x≠x_5/\True->(∃(x_6:Nat×Nat×Nat×Nat×(Nat->List D)),Yf x_6.1 a x_6.2.2.1 x_6.2.2.2.2/\(Z0=(NI x_6.1)/\(x_5=x_6.2.1/\N0=x_6.1/\Yg x_3 x_6.2.2.2.1)/\True)/\(x_5=x_6.2.1/\(Yg x_3 x_6.2.2.1/\Yg x_3 x_6.2.2.2.1/\∀(i:Nat),i<QaZ x_3->[ZI Z0,Yh,Yh,Yh]=x_6.2.2.2.2 i)/\Qa0 x a)/\True)/\∀(x_6:Nat×Nat×Nat×Nat×(Nat->List D)),Yf x_6.1 a x_6.2.2.1 x_6.2.2.2.2->ifB (decide ((NI x_6.1)<QV x_3)) (SM x/\SM x/\Bd (Z0<=QU a/\QU a<=QG a/\QG a<=QG a) (∃(x_7:Nat),((QaS a/\IntKind.wrap IntKind.i64 ((NI x_6.1)*QV x_4)=(NI (x_7*Bn a))/\QV x_4=(NI (Bn a))/\(Ye a=LN (List.tail (QF a))/\(∀(i:Nat),QaX i a->QaY a i=GI (List.tail (QF a)) i/\True)/\True)/\True)/\(↑x_7:Int)<List.headD (QF a) Z0)/\∀(y:Unit),True->SM x_6.2.1/\SM x_6.2.2.2.1/\Bd (x_6.1<=x_6.2.2.1/\(x_6.1+N1)*80<=140737488355328/\x_6.1+N1<=9223372036854775807) (∀(y cap':Nat),x_6.1+N1<=cap'->(SM (QaT a)/\SM (D.ref N0 x N0)/\SM (Qgg a)/\Yi x_3/\Yi x_4/\Yi x_3/\True)/\∃(y_1:Nat×Nat×Nat×Nat×(Nat->List D)),Yf y_1.1 a y_1.2.2.1 y_1.2.2.2.2/\Int.toNat (List.headD (QF a) Z0)-y_1.1<Int.toNat (List.headD (QF a) Z0)-x_6.1/\(IntKind.wrap IntKind.i64 ((NI x_6.1)+Z1)=(NI y_1.1)/\(y=y_1.2.1/\x_6.1+N1=y_1.1/\cap'=y_1.2.2.2.1)/\True)/\(y=y_1.2.1/\(x_6.1+N1=y_1.2.2.1/\cap'=y_1.2.2.2.1/\∀(i:Nat),i<x_6.1+N1->BB x_6.1 x_6.2.2.2.2 (fun i=>List.getD [[ZI (Arr.k (Kw a x_7)),SI (Arr.sh (Kw a x_7)),SI (Arr.nu (Kw a x_7)),D.sl N4 (LN (Arr.it (Kw a x_7))) (fun i=>Arr.row (List.getD (Arr.it (Kw a x_7)) i Yb)) Mode.any]] i []) i=y_1.2.2.2.2 i)/\Qa0 x a)/\True))) (SM x_6.2.1/\SM x_6.2.2.2.1/\Bd (x_6.1<=x_6.2.2.1) ((∀(i:Nat),i<x_6.1->List.all (x_6.2.2.2.2 i) B6=true)/\∀(t:Nat),True/\∃(y:Unit),True/\(x_6.1=LN (E1 a)/\(∀(i:Nat),i<x_6.1->x_6.2.2.2.2 i=Arr.row1 (List.getD (E1 a) i Yb))/\True)/\True/\True)))))) (by kernel_rfl) ?_
 delta DA GI LN N0 N1 N4 NI SI SM Z0 Z1 ZI QaM QF QaS QaT QG Qge QaU Qgf QaV QU Yd QaW QN Ye QaX QaY QV Kw Yf QaZ Yg Yh Qa0 QaN Qgg Qgh Yi QaO QaP QaQ QaR Yb Yc
 have da:(default:Arr)=Arr.mk 0 [] [] []:=rfl
 simp only[<- da]
 simp only[ne_eq,implies_true,Int.toNat_natCast,Bj,Bc,decide_eq_true_eq,decide_eq_false_iff_not,true_and,and_true,exists_const,forall_const,Prod.exists]
 obtain ⟨rs,_,s6⟩:=Bz h.c
 have l8:=((Bv _).1 rs).1
 have dA:=((Bv _).1 rs).2.1
 have l0:0<a.sh.length:=List.length_pos_iff.2 hr
 have w1:IntKind.i64.wrap ((a.sh.length:Int)-((a.sh.length-1:Nat):Int))=((1:Nat):Int):=by rw[Bb (by omega) (by omega)];omega
 have hd:0<=a.sh.headD 0/\a.sh.headD 0<=65536:=by
  cases hs:a.sh with
  |nil=>exact absurd hs hr
  |cons d r=>exact dA d (by rw[hs];simp)
 have ht1:a.sh.take 1=[a.sh.headD 0]:=by
  cases hs:a.sh with
  |nil=>exact absurd hs hr
  |cons d r=>rfl
 have hdr:a.sh.drop 1=a.sh.tail:=List.drop_one
 have p1:prL (shN (a.sh.take 1))=(a.sh.headD 0).toNat:=by rw[ht1];simp[shN,prL]
 have p2:prL (shN a.sh.tail)=Bn a:=rfl
 have gt:∀i,a.sh.getD (1+i) 0=a.sh.tail.getD i 0:=fun i=>by rw[<- hdr,Cu]
 simp only[w1,Int.toNat_natCast]
 refine fun x=>⟨fun _ _=>Be _,⟨by omega,by omega⟩,⟨by omega,by omega,by omega⟩,⟨by omega,by omega,by omega⟩,a.sh.take 1,⟨⟨by rw[List.length_take];omega,fun i hi=>?_⟩,(Cz rs 1).1⟩,a.sh.tail,⟨⟨by rw[List.length_tail],fun i _=>gt i⟩,by rw[<- hdr];exact (Cz rs 1).2⟩,?_⟩
 ·rw[Nat.zero_add,EZ _ (by omega)]
 rw[p1,p2]
 refine⟨⟨by omega,by omega,by omega,by omega⟩,fun x5 _=>⟨⟨0,x5,_,_,_,⟨Nat.zero_le _,Nat.zero_le _,fun j hj=>absurd hj (Nat.not_lt_zero j)⟩,⟨rfl,rfl,rfl,rfl⟩,rfl,rfl,rfl,fun _ _=>rfl⟩,?_⟩⟩
 rintro ⟨i,y,n,cap,f⟩ ⟨i1,i2,i3⟩
 simp only at i1 i2 i3 ⊢
 refine⟨fun hlt=>?_,fun hge=>⟨i2,fun j hj=>?_,by rw[Ct];omega,fun j hj=>by rw[i3 j hj,OP a (by omega)]⟩⟩
 ·obtain ⟨_,hb⟩:=Ia (i:=i) h hr (by omega)
  refine⟨⟨by omega,by omega,by omega⟩,i,⟨⟨fun _ _=>Be _,by rw[<- Int.natCast_mul];exact Bb (by omega) (by omega),trivial,by rw[List.length_tail],fun j _=>gt j⟩,by omega⟩,⟨i2,by omega,by omega⟩,fun y2 c2 hc2=>⟨i+1,y2,i+1,c2,_,⟨by omega,Nat.le_refl _,fun j hj=>?_⟩,by omega,⟨Bb (by omega) (by omega),rfl,rfl,rfl⟩,rfl,rfl,rfl,fun _ _=>rfl⟩⟩
  rw[BB]
  split
  ·rename_i hj2;exact i3 j hj2
  ·obtain rfl:j=i:=by omega
   rw[Nat.sub_self];rfl
 ·rw[i3 j hj];rfl
def rwR(p:Nat×Arr):List D:=.int .i64 p.1::p.2.row1
def rwL(a:Arr):List (Nat×Arr):=(List.range (a.sh.headD 0).toNat).map fun i=>(i,rwA a i)
theorem TU(a:Arr):(rwL a).length=(a.sh.headD 0).toNat:=by simp[rwL]
theorem Bdj(a:Arr){i:Nat}(h:i<(a.sh.headD 0).toNat):(rwL a).getD i default=(i,rwA a i):=by
 rw[rwL,List.getD_eq_getElem?_getD,List.getElem?_map,List.getElem?_range h];rfl
theorem Bbj(a:Arr){i:Nat}(h:i<(a.sh.headD 0).toNat):(rwL a).getD i (0,default)=(i,rwA a i):=Bdj a h
def Bck(a:Arr):Con:=fun k ds S=>match k with
 |45=>some (pA ds S (.int .i64 0) (wkL ds [.agg a.row1]))
 |46=>some (pA ds S (gsl 4 Arr.row1 (E1 a)) (wkL ds [.agg a.row1,.int .i64 (a.sh.length-1:Nat)]))
 |_=>none
theorem BaQ{a:Arr}(h:Val a)(hr:a.sh≠[]):ConOk Try.prog (Bck a):=by
 intro k ds S A hh
 unfold Bck at hh
 split at hh
 ·injection hh with hh;subst hh
  refine Bw fun e=>CD.at_ (CD.wk ?_ e) _
  have:=Mz _ h.ok
  rw[h.c] at this;exact this
 ·injection hh with hh;subst hh
  exact Bw fun e=>CD.at_ (CD.wk (Ben a h hr) e) _
 ·cases hh
noncomputable def Ero(a:Arr):Senv:={ EC (Bck a) 36 8 [11,21,22,23,24] (fun _=>([],[])) with
 gh:=fun b=>match b with
  |1=>[.slot 500004]
  |_=>[]
 ann:=fun b _ S=>match b with
  |1=>some { slots:=[23,4],keep:=[0,1,21,22],α:=Nat×Nat,st:=fun y=>([.int .i64 y.1,.sl 5 y.1 (fun i=>rwR ((rwL a).getD i default)) (.tok 0 y.2)],⟨S.objs,[(0,y.2)]⟩),inv:=fun y=>y.1<=(E1 a).length,mu:=fun y=>(E1 a).length-y.1 }
  |_=>none }
def Qa1(a:Arr):Prop:=SM (Arr.k a)
def Ke(a:Arr):Nat:=LN (Arr.sh a)
def Qa2(a:Arr):Prop:=SM (Ke a)
def Qa3(a:Arr)(b:Nat):Int:=GI (Arr.sh a) b
def J1(a:Arr):Nat:=LN (Arr.nu a)
def Qa4(a:Arr):Prop:=SM (J1 a)
def Qa5(a:Arr)(b:Nat):Int:=GI (Arr.nu a) b
def J2(a:Arr):Nat:=LN (Arr.it a)
def Qa6(a:Arr):Prop:=SM (J2 a)
def Kf:Arr:=DA
def J3(a:Arr)(b:Nat):List D:=Arr.row (List.getD (Arr.it a) b Kf)
def Qa7(a:Arr):Prop:=Qa1 a/\(Qa2 a/\(∀(i:Nat),i<Ke a->SM (Qa3 a i)/\True)/\True)/\(Qa4 a/\(∀(i:Nat),i<J1 a->SM (Qa5 a i)/\True)/\True)/\(Qa6 a/\(∀(i:Nat),i<J2 a->wkL (J3 a i) (J3 a i))/\True)/\True
def Kg(a:Arr):Nat:=LN (E1 a)
def Qa8(a:Arr)(b:Nat):Nat×Arr:=List.getD (rwL a) b (N0,Kf)
def J4(a:Arr)(b:Nat):Arr:=Prod.snd (Qa8 a b)
def Qgi(a:Arr)(b:Nat):List Int:=Arr.sh (J4 a b)
def Qgj(a:Arr)(b:Nat):List Int:=Arr.nu (J4 a b)
def Qa9(a:Arr)(b:Nat):List Arr:=Arr.it (J4 a b)
def J5(a:Arr)(b:Nat):List D:=[ZI (NI (Prod.fst (Qa8 a b))),ZI (Arr.k (J4 a b)),SI (Qgi a b),SI (Qgj a b),D.sl N4 (LN (Qa9 a b)) (fun i=>Arr.row (List.getD (Qa9 a b) i Kf)) Mode.any]
def Qba(a:Arr)(b:Nat):List D:=[ZI (Qa3 a b)]
def Qbb(a:Arr)(b:Nat):List D:=[ZI (Qa5 a b)]
def Qbc(a:Nat)(b:Arr)(c d:Nat):Prop:=(SM a/\(Qa1 b/\(Qa2 b/\(∀(i:Nat),i<Ke b->SM (Qba b i))/\True)/\(Qa4 b/\(∀(i:Nat),i<J1 b->SM (Qbb b i))/\True)/\(Qa6 b/\(∀(i:Nat),i<J2 b->SM (J3 b i))/\True)/\True)/\True)/\c=d/\True
def Yj(a:Arr):Int:=(NI (Kg a))
def Qgk(a:Arr):D:=D.agg [ZI (Arr.k a),D.sl N1 (Ke a) (fun i=>Qba a i) Mode.any,D.sl N1 (J1 a) (fun i=>Qbb a i) Mode.any,D.sl N4 (J2 a) (fun i=>J3 a i) Mode.any]
def J6(a:Arr)(b:Nat):Arr:=List.getD (E1 a) b Kf
def Qgl(a:Arr)(b:Nat):List Int:=Arr.sh (J6 a b)
def Qgm(a:Arr)(b:Nat):List Int:=Arr.nu (J6 a b)
def Qbd(a:Arr)(b:Nat):List Arr:=Arr.it (J6 a b)
def Qgn(a:Arr):D:=D.sl N4 (Kg a) (fun i=>[ZI (Arr.k (J6 a i)),SI (Qgl a i),SI (Qgm a i),D.sl N4 (LN (Qbd a i)) (fun i_1=>Arr.row (List.getD (Qbd a i) i_1 Kf)) Mode.any]) Mode.any
def J7(a:Arr)(b:Nat):Arr:=List.getD (E1 a) (Int.toNat (↑b:Int)) Kf
def Qgo(a:Arr)(b:Nat):List Int:=Arr.sh (J7 a b)
def Qgp(a:Arr)(b:Nat):List Int:=Arr.nu (J7 a b)
def Qbe(a:Arr)(b:Nat):List Arr:=Arr.it (J7 a b)
theorem BeM(a:Arr)(h:Val a)(hr:a.sh≠[]):CD 20 [.agg a.row1] (.tup [gsl 5 rwR (rwL a),.int .i64 0]):=by
 refine Bh (A:=sC _ _) (x:=()) (E:=Ero a) (eOk (BaQ h hr) rfl) Try.func20 rfl (by kernel_rfl) rfl (by simp[sC,Ero,EC,E0]) ?_
 refine Bl (T :=
  ∀(x:Nat),True->SM x/\∃(x_1:Unit),(Qa7 a/\True)/\∀(y:Unit),True->SM x/\ifB ((NI (Ke a))==Z0) (True/\∃(y:Unit),True/\(False/\(15:Int)=Z0/\True)/\True/\True) (SM x/\SM x/\∃(x_2:Unit),(Qa7 a/\IntKind.wrap IntKind.i64 ((NI (Ke a))-Z1)=(NI (Ke a-N1))/\True)/\∀(y:Unit),True->∀(t:Nat),(∃(x_3:Nat×Nat),x_3.1<=Kg a/\(Z0=(NI x_3.1)/\(N0=x_3.1/\(∀(i:Nat),i<N0->Es (List D) [] (J5 a i))/\t=x_3.2)/\True)/\Qbc x a t x_3.2)/\∀(x_3:Nat×Nat),x_3.1<=Kg a->ifB (decide ((NI x_3.1)<Yj a)) (Bd (Z0<=(NI x_3.1)/\(NI x_3.1)<Yj a) (∀(x_4:Nat),x≠x_4/\True->SM x_4/\SM x_4/\SM x_3.2/\Bd ((x_3.1+N1)*88<=140737488355328/\x_3.1+N1<=9223372036854775807) (∀(t:Nat),(SM (Qgk a)/\SM (D.ref N0 x N0)/\SM (Qgn a)/\SM (ZI (Yj a))/\True)/\∃(y:Nat×Nat),y.1<=Kg a/\Kg a-y.1<Kg a-x_3.1/\(IntKind.wrap IntKind.i64 ((NI x_3.1)+Z1)=(NI y.1)/\(x_3.1+N1=y.1/\(∀(i:Nat),i<x_3.1+N1->BB x_3.1 (fun i=>J5 a i) (fun i=>List.getD [[ZI (NI x_3.1),ZI (Arr.k (J7 a x_3.1)),SI (Qgo a x_3.1),SI (Qgp a x_3.1),D.sl N4 (LN (Qbe a x_3.1)) (fun i=>Arr.row (List.getD (Qbe a x_3.1) i Kf)) Mode.any]] i []) i=J5 a i)/\t=y.2)/\True)/\Qbc x a t y.2))) (True/\∃(y:Unit),True/\((x_3.1=LN (rwL a)/\(∀(i:Nat),i<x_3.1->SM (J5 a i))/\True)/\SM Z0/\True)/\True/\True))) (by kernel_rfl) ?_
 delta DA GI LN N0 N1 N4 NI SI SM Z0 Z1 ZI Qa1 Ke J3 Qa7 Kg Qa8 J4 Qgi Qgj Qa9 J5 Qba Qa2 Qbb Qbc Yj Qgk J6 Qgl Qgm Qbd Qgn J7 Qa3 Qgo Qgp Qbe J1 Qa4 Qa5 J2 Qa6 Kf
 have da:(default:Arr)=Arr.mk 0 [] [] []:=rfl
 simp only[<- da]
 simp only[ne_eq,implies_true,Int.toNat_natCast,Bj,Bc,decide_eq_true_eq,decide_eq_false_iff_not,true_and,and_true,beq_iff_eq,beq_eq_false_iff_ne,exists_const,forall_const,Prod.exists]
 have l0:0<a.sh.length:=List.length_pos_iff.2 hr
 have l8:=((Bv _).1 (Bz h.c).1).1
 have dd:(a.sh.headD 0).toNat<=65536:=by
  have dA:=((Bv _).1 (Bz h.c).1).2.1
  cases hs:a.sh with
  |nil=>exact absurd hs hr
  |cons d r=>have:=dA d (by rw[hs];simp);show d.toNat<=_;omega
 have w1:IntKind.i64.wrap ((a.sh.length:Int)-1)=((a.sh.length-1:Nat):Int):=by rw[Bb (by omega) (by omega)];omega
 refine fun x=>⟨fun _ _=>Be _,fun e=>absurd e (by omega),fun _=>⟨⟨fun _ _=>Be _,w1⟩,fun t=>⟨⟨0,t,Nat.zero_le _,⟨rfl,rfl,(fun i hi=>absurd hi (Nat.not_lt_zero i)),rfl⟩,rfl⟩,?_⟩⟩⟩
 rintro ⟨i,t1⟩ hi
 simp only at hi ⊢
 rw[Ct] at hi
 refine⟨fun hlt=>⟨⟨by omega,hlt⟩,fun x4 _=>⟨⟨by omega,by omega⟩,fun t2=>⟨i+1,t2,by rw[Ct] at hlt ⊢; omega,by rw[Ct] at hlt ⊢; omega,⟨Bb (by rw[Ct] at hlt;omega) (by rw[Ct] at hlt;omega),rfl,fun j hj=>?_,rfl⟩,rfl⟩⟩⟩,fun hge=>by rw[Ct] at hge;rw[TU];omega⟩
 rw[Ct] at hlt
 rw[BB]
 split
 ·rfl
 ·obtain rfl:j=i:=by omega
  rw[Nat.sub_self,OP a (by omega),Bbj a (by omega)]
  rfl
abbrev Rw:=Nat×Arr
def leC(c:Rw->Rw->Ordering)(p q:Rw):Bool:=(c p q).isLE
def msF(le:Rw->Rw->Bool):Nat->List Rw->List Rw
 |0,l=>l
 |n+1,l=>if l.length<2 then l else List.merge (msF le n (l.take (l.length / 2))) (msF le n (l.drop (l.length / 2))) le
theorem C5(le:Rw->Rw->Bool):∀(n:Nat) (l:List Rw),(msF le n l).Perm l
 |0,l=>List.Perm.refl _
 |n+1,l=>by
  rw[msF]
  split
  ·exact List.Perm.refl _
  ·refine (List.merge_perm_append (le:=le)).trans (((C5 le n _).append (C5 le n _)).trans ?_)
   rw[List.take_append_drop]
theorem Mr(le:Rw->Rw->Bool)(n:Nat)(l:List Rw):(msF le n l).length=l.length:=(C5 le n l).length_eq
def CmpC(k:Nat)(c:Rw->Rw->Ordering)(p q:Rw):Prop:=CD k [.agg (rwR p),.agg (rwR q)] (.int .i64 (oI (c p q)))
def Ow(k0:Nat)(c:Rw->Rw->Ordering)(n:Nat)(l:List Rw):Con:=fun k ds S=>match k with
 |22=>some (pE (β:=List Rw) ds S (fun u=>gsl 5 rwR (msF (leC c) n u)) (fun u=>wkL ds [gsl 5 rwR u,.fn (.func k0) [] []]/\(0<u.length/\u.length<=n)/\∀p∈u,p∈l))
 |23=>some (pE (β:=Rw×Rw) ds S (fun y=>.int .i64 (oI (c y.1 y.2))) (fun y=>ds=[.agg (rwR y.1),.agg (rwR y.2)]/\y.1∈l/\y.2∈l/\k0=23))
 |26=>some (pE (β:=Rw×Rw) ds S (fun y=>.int .i64 (oI (c y.1 y.2))) (fun y=>ds=[.agg (rwR y.1),.agg (rwR y.2)]/\y.1∈l/\y.2∈l/\k0=26))
 |_=>none
theorem Mv{o u:List Rw}{f:Nat->List D}(hf:∀j,j<o.length->f j=rwR (o.getD j (0,default)))(j:Nat)(_hj:j<o.length+u.length):BB o.length f (fun i=>rwR (u.getD i (0,default))) j=rwR ((o++u).getD j (0,default)):=by
 rw[BB]
 split
 ·rename_i h
  rw[hf j h,List.getD_eq_getElem?_getD,List.getD_eq_getElem?_getD,List.getElem?_append_left h]
 ·rename_i h
  rw[List.getD_eq_getElem?_getD,List.getD_eq_getElem?_getD,List.getElem?_append_right (by omega)]
theorem Ij{o:List Rw}{p:Rw}{f:Nat->List D}(hf:∀j,j<o.length->f j=rwR (o.getD j (0,default)))(j:Nat)(hj:j<o.length+1):BB o.length f (fun i=>[rwR p].getD i []) j=rwR ((o++[p]).getD j (0,default)):=by
 rw[BB]
 split
 ·rename_i h
  rw[hf j h,List.getD_eq_getElem?_getD,List.getD_eq_getElem?_getD,List.getElem?_append_left h]
 ·rename_i h
  obtain rfl:j=o.length:=by omega
  rw[Nat.sub_self,List.getD_eq_getElem?_getD (l:=o++[p]),List.getElem?_append_right (by omega),Nat.sub_self];rfl
theorem Bbv(p:Rw):[D.int .i64 (p.1:Int),D.int .i64 p.2.k,D.sl 1 p.2.sh.length (fun i=>[D.int .i64 (p.2.sh.getD i 0)]) .any,D.sl 1 p.2.nu.length (fun i=>[D.int .i64 (p.2.nu.getD i 0)]) .any,D.sl 4 p.2.it.length (fun i=>(p.2.it.getD i default).row) .any]=rwR p:=rfl
theorem BbT(p:Rw):(rwR p).all B6=true:=rfl
noncomputable def Eme(k0:Nat)(c:Rw->Rw->Ordering)(n:Nat)(l A B:List Rw):Senv:={ EC (Ow k0 c n l) 67 2 [4,5,6,7,10,36,45] (fun id=>match id with | 3=>([0,1,2,3,4,5,7,8,9,10,11,12,6,13,14,15],[6,13]) | 6=>([0,1,2,3,4,5,6,7,8],[7]) | 7=>([0,1,2,3,6,7,4,5,8,9],[4,5]) | 8=>([0,1,2,3,6,7,4,5,8,9],[4,5]) | _=>([],[])) with
 gr:=[.slot 4]
 ann:=fun b env S=>match b with
  |0=>some { slots:=[5,6,7],keep:=[1],α:=List Rw×List Rw×List Rw×Nat×Nat×Nat×(Nat->List D),st:=fun y=>([gsl 5 rwR y.1,gsl 5 rwR y.2.1,.vs (vsK (Ab.look env 7)) y.2.2.2.1 y.2.2.1.length y.2.2.2.2.2.1 5],⟨(vsK (Ab.look env 7),y.2.2.2.1,.vec 5 y.2.2.2.2.1 y.2.2.2.2.2.1 y.2.2.2.2.2.2)::BP S.objs (vsK (Ab.look env 7)),S.toks⟩),inv:=fun y=>(∀p∈y.1,p∈l)/\(∀p∈y.2.1,p∈l)/\y.2.2.1++List.merge y.1 y.2.1 (leC c)=List.merge A B (leC c)/\y.2.2.1.length<=y.2.2.2.2.1/\y.2.2.1.length+y.1.length+y.2.1.length<=65536/\∀j,j<y.2.2.1.length->y.2.2.2.2.2.2 j=rwR (y.2.2.1.getD j default),mu:=fun y=>y.1.length+y.2.1.length }
  |_=>none }
def QH:Arr:=DA
def QW:Nat×Arr:=(N0,QH)
def Qbf(a:List Rw)(b:Nat):Nat×Arr:=List.getD a b QW
def Yk(a:List Rw)(b:Nat):Int:=(NI (Prod.fst (Qbf a b)))
def J8(a:List Rw)(b:Nat):Arr:=Prod.snd (Qbf a b)
def Yl(a:List Rw)(b:Nat):Int:=Arr.k (J8 a b)
def Qbg(a:List Rw)(b:Nat):List Int:=Arr.sh (J8 a b)
def Ym(a:List Rw)(b:Nat):Nat:=LN (Qbg a b)
def Yn(a:List Rw)(b c:Nat):Int:=GI (Qbg a b) c
def Qbh(a:List Rw)(b:Nat):List Int:=Arr.nu (J8 a b)
def Yo(a:List Rw)(b:Nat):Nat:=LN (Qbh a b)
def Yp(a:List Rw)(b c:Nat):Int:=GI (Qbh a b) c
def Qbi(a:List Rw)(b:Nat):List Arr:=Arr.it (J8 a b)
def Yq(a:List Rw)(b:Nat):Nat:=LN (Qbi a b)
def Yr(a:List Rw)(b c:Nat):List D:=Arr.row (List.getD (Qbi a b) c QH)
def Kh(a:List Rw)(b:Nat):List D:=[ZI (Yk a b),ZI (Yl a b),D.sl N1 (Ym a b) (fun i=>[ZI (Yn a b i)]) Mode.any,D.sl N1 (Yo a b) (fun i=>[ZI (Yp a b i)]) Mode.any,D.sl N4 (Yq a b) (fun i=>Yr a b i) Mode.any]
def Qbj(a:Rw->Rw->Ordering)(b:Nat)(c:List Rw)(d:Nat):Nat×Arr:=List.getD (msF (leC a) (b+N1) c) d QW
def J9(a:Rw->Rw->Ordering)(b:Nat)(c:List Rw)(d:Nat):Arr:=Prod.snd (Qbj a b c d)
def Qgq(a:Rw->Rw->Ordering)(b:Nat)(c:List Rw)(d:Nat):List Int:=Arr.sh (J9 a b c d)
def Qgr(a:Rw->Rw->Ordering)(b:Nat)(c:List Rw)(d:Nat):List Int:=Arr.nu (J9 a b c d)
def Qbk(a:Rw->Rw->Ordering)(b:Nat)(c:List Rw)(d:Nat):List Arr:=Arr.it (J9 a b c d)
def Qbl(a:Rw->Rw->Ordering)(b:Nat)(c:List Rw)(d:Nat):List D:=[ZI (NI (Prod.fst (Qbj a b c d))),ZI (Arr.k (J9 a b c d)),SI (Qgq a b c d),SI (Qgr a b c d),D.sl N4 (LN (Qbk a b c d)) (fun i=>Arr.row (List.getD (Qbk a b c d) i QH)) Mode.any]
def K7(a:List Rw):Int:=IntKind.wrap IntKind.i64 (Int.tdiv (LI a) (2:Int))
def Va(a:List Rw):Nat:=Int.toNat (K7 a)
def Qbm(a:List Rw)(b:Nat):Nat×Arr:=List.getD a (N0+b) QW
def Vb(a:List Rw)(b:Nat):Arr:=Prod.snd (Qbm a b)
def Qbn(a:List Rw)(b:Nat):List Int:=Arr.sh (Vb a b)
def Qbo(a:List Rw)(b:Nat):Nat:=LN (Qbn a b)
def Qbp(a:List Rw)(b:Nat):List Int:=Arr.nu (Vb a b)
def Qbq(a:List Rw)(b:Nat):Nat:=LN (Qbp a b)
def Qbr(a:List Rw)(b:Nat):List Arr:=Arr.it (Vb a b)
def Qbs(a:List Rw)(b:Nat):Nat:=LN (Qbr a b)
def Vc:Prop:=SM (D.fn (Fn.func (23:Nat)) [] [])/\True
def Ys(a b:List Rw):Prop:=∀(p:Rw),p∈a->p∈b
def Qbt(a:List Rw)(b:Nat)(c:List Rw):Prop:=(N0<LN a/\LN a<=b)/\Ys a c
def Qbu(a:List Rw):Nat:=TL a-Va a
def Qbv(a:List Rw)(b:Nat):Nat×Arr:=List.getD a (Va a+b) QW
def Vd(a:List Rw)(b:Nat):Arr:=Prod.snd (Qbv a b)
def Qbw(a:List Rw)(b:Nat):List Int:=Arr.sh (Vd a b)
def Qbx(a:List Rw)(b:Nat):Nat:=LN (Qbw a b)
def Qby(a:List Rw)(b:Nat):List Int:=Arr.nu (Vd a b)
def Qbz(a:List Rw)(b:Nat):Nat:=LN (Qby a b)
def QbA(a:List Rw)(b:Nat):List Arr:=Arr.it (Vd a b)
def QbB(a:List Rw)(b:Nat):Nat:=LN (QbA a b)
def QbC(a:List Rw)(b:Nat):Rw:=List.getD a b QW
def Ve(a:List Rw)(b:Nat):Arr:=Prod.snd (QbC a b)
def Qgs(a:List Rw)(b:Nat):List Int:=Arr.sh (Ve a b)
def Qgt(a:List Rw)(b:Nat):List Int:=Arr.nu (Ve a b)
def QbD(a:List Rw)(b:Nat):List Arr:=Arr.it (Ve a b)
def Vf(a b c d:List Rw)(e:Rw->Rw->Ordering)(f g:Nat)(h:Nat->List D):Prop:=Ys a b/\Ys c b/\d++List.merge a c (leC e)=List.merge (msF (leC e) f (List.take (LN b / N2) b)) (msF (leC e) f (List.drop (LN b / N2) b)) (leC e)/\LN d<=g/\LN d+LN a+LN c<=65536/\∀(j:Nat),j<LN d->h j=[ZI (NI (Prod.fst (QbC d j))),ZI (Arr.k (Ve d j)),SI (Qgs d j),SI (Qgt d j),D.sl N4 (LN (QbD d j)) (fun i=>Arr.row (List.getD (QbD d j) i QH)) Mode.any]
def QbE(a:Rw->Rw->Ordering)(b:Nat)(c:List Rw)(d:Nat):Nat×Arr:=List.getD (msF (leC a) b c) d QW
def Vg(a:Rw->Rw->Ordering)(b:Nat)(c:List Rw)(d:Nat):Arr:=Prod.snd (QbE a b c d)
def Qgu(a:Rw->Rw->Ordering)(b:Nat)(c:List Rw)(d:Nat):List Int:=Arr.sh (Vg a b c d)
def Qgv(a:Rw->Rw->Ordering)(b:Nat)(c:List Rw)(d:Nat):List Int:=Arr.nu (Vg a b c d)
def QbF(a:Rw->Rw->Ordering)(b:Nat)(c:List Rw)(d:Nat):List Arr:=Arr.it (Vg a b c d)
def QbG(a:Rw->Rw->Ordering)(b:Nat)(c d:List Rw):Prop:=LN (msF (leC a) b c)=LN d/\(∀(i:Nat),i<LN (msF (leC a) b c)->[ZI (NI (Prod.fst (QbE a b c i))),ZI (Arr.k (Vg a b c i)),SI (Qgu a b c i),SI (Qgv a b c i),D.sl N4 (LN (QbF a b c i)) (fun i_1=>Arr.row (List.getD (QbF a b c i) i_1 QH)) Mode.any]=Kh d i)/\True
def Yt:D:=D.sl N1 N0 (fun _x=>[]) Mode.nil
def Vh(a:List Rw):Bool:=decide (Z0<(LI a))
def Yu(a b:List Rw):Bool:=bif Vh a then Vh b else false
def QbH(a:List Rw):Nat×Arr:=List.getD a N0 QW
def Vi(a:List Rw):Arr:=Prod.snd (QbH a)
def Qgw(a:List Rw):List Int:=Arr.sh (Vi a)
def Qgx(a:List Rw):List Int:=Arr.nu (Vi a)
def QbI(a:List Rw):List Arr:=Arr.it (Vi a)
def QbJ(a:List Rw):List D:=[ZI (NI (Prod.fst (QbH a))),ZI (Arr.k (Vi a)),SI (Qgw a),SI (Qgx a),D.sl N4 (LN (QbI a)) (fun i=>Arr.row (List.getD (QbI a) i QH)) Mode.any]
def QbK(a:List Rw):D:=D.agg (QbJ a)
def QbL(a:Nat)(b:Arr):D:=D.agg [ZI (↑a:Int),ZI (Arr.k b),SI (Arr.sh b),SI (Arr.nu b),D.sl N4 (LN (Arr.it b)) (fun i=>Arr.row (List.getD (Arr.it b) i QH)) Mode.any]
def QbM(a:List Rw)(b:Nat):Nat×Arr:=List.getD a (N1+b) QW
def Vj(a:List Rw)(b:Nat):Arr:=Prod.snd (QbM a b)
def Qgy(a:List Rw)(b:Nat):List Int:=Arr.sh (Vj a b)
def Qgz(a:List Rw)(b:Nat):List Int:=Arr.nu (Vj a b)
def QbN(a:List Rw)(b:Nat):List Arr:=Arr.it (Vj a b)
def QbO(a b:List Rw):Prop:=TL a-N1=LN b/\(∀(i:Nat),i<TL a-N1->[ZI (NI (Prod.fst (QbM a i))),ZI (Arr.k (Vj a i)),SI (Qgy a i),SI (Qgz a i),D.sl N4 (LN (QbN a i)) (fun i_1=>Arr.row (List.getD (QbN a i) i_1 QH)) Mode.any]=Kh b i)/\True
def QbP(a b:List Rw):Prop:=LN a=LN b/\(∀(i:Nat),i<LN a->Kh a i=Kh b i)/\True
def QbQ(a b:Nat)(c:List Rw)(d e f:Nat)(g:Nat->List D)(h:List Rw)(k:Nat->List D):Prop:=(a=b/\(LN c+N1=d/\e=f/\∀(i:Nat),i<LN c+N1->BB (LN c) g (fun i=>List.getD [QbJ h] i []) i=k i)/\True)/\True
def QX(a b c:List Rw):Nat:=LN a+LN b+LN c
def QbR(a b:List Rw)(c:Nat->List D)(d:List Rw)(e:Nat):List D:=BB (LN a+LN b) (BB (LN a) c fun i=>Kh b i) (fun i=>Kh d i) e
theorem UQ(c : Rw -> Rw -> Ordering)(n : Nat)(l : List Rw)(hn : l.length<=n+1)(hl : l.length<=65536)(hc : ConOk Try.prog (Ow 23 c n l)) :
  CD 22 [gsl 5 rwR l,.fn (.func 23) [] []] (gsl 5 rwR (msF (leC c) (n+1) l)):=by
 refine Bh (A:=sC _ _) (x:=()) (E:=Eme 23 c n l (msF (leC c) n (l.take (l.length / 2))) (msF (leC c) n (l.drop (l.length / 2)))) (eOk hc rfl) Try.func22 rfl (by kernel_rfl) rfl (by simp[sC,Eme,EC,E0]) ?_
 refine Bl (T :=
  ifB (decide ((LI l)<2)) (True/\∃(y:Unit),True/\(LN l=LN (msF (leC c) (n+N1) l)/\(∀(i:Nat),i<LN l->Kh l i=Qbl c n l i)/\True)/\True/\True) (Bd (Z0<=Z0/\Z0<=K7 l/\K7 l<=(LI l)) (Bd (Z0<=K7 l/\K7 l<=(LI l)/\(LI l)<=(LI l)) (∃(x:List Rw),(((Va l-N0=LN x/\(∀(i:Nat),i<Va l-N0->(NI (Prod.fst (Qbm l i)))=Yk x i/\Arr.k (Vb l i)=Yl x i/\(Qbo l i=Ym x i/\(∀(i_1:Nat),i_1<Qbo l i->GI (Qbn l i) i_1=Yn x i i_1/\True)/\True)/\(Qbq l i=Yo x i/\(∀(i_1:Nat),i_1<Qbq l i->GI (Qbp l i) i_1=Yp x i i_1/\True)/\True)/\(Qbs l i=Yq x i/\(∀(i_1:Nat),i_1<Qbs l i->wkL (Arr.row (List.getD (Qbr l i) i_1 QH)) (Yr x i i_1))/\True)/\True)/\True)/\Vc)/\Qbt x n l)/\∀(y:Unit),True->∃(x_1:List Rw),(((Qbu l=LN x_1/\(∀(i:Nat),i<Qbu l->(NI (Prod.fst (Qbv l i)))=Yk x_1 i/\Arr.k (Vd l i)=Yl x_1 i/\(Qbx l i=Ym x_1 i/\(∀(i_1:Nat),i_1<Qbx l i->GI (Qbw l i) i_1=Yn x_1 i i_1/\True)/\True)/\(Qbz l i=Yo x_1 i/\(∀(i_1:Nat),i_1<Qbz l i->GI (Qby l i) i_1=Yp x_1 i i_1/\True)/\True)/\(QbB l i=Yq x_1 i/\(∀(i_1:Nat),i_1<QbB l i->wkL (Arr.row (List.getD (QbA l i) i_1 QH)) (Yr x_1 i i_1))/\True)/\True)/\True)/\Vc)/\Qbt x_1 n l)/\∀(y:Unit),True->Bd (Z0<=Z0/\Z0<=(LI l)/\(88:Int)*(LI l)<=281474976710656/\(LI l)<=9223372036854775807) (∀(x_2:Nat),True->(∃(x_3:List Rw×List Rw×List Rw×Nat×Nat×Nat×(Nat->List D)),Vf x_3.1 l x_3.2.1 x_3.2.2.1 c n x_3.2.2.2.2.1 x_3.2.2.2.2.2.2/\(QbG c n x x_3.1/\QbG c n x_1 x_3.2.1/\(x_2=x_3.2.2.2.1/\N0=LN x_3.2.2.1/\TL l=x_3.2.2.2.2.2.1)/\True)/\(x_2=x_3.2.2.2.1/\(TL l=x_3.2.2.2.2.1/\TL l=x_3.2.2.2.2.2.1/\∀(i:Nat),i<TL l->[ZI Z0,ZI Z0,Yt,Yt,Yt]=x_3.2.2.2.2.2.2 i)/\True)/\True)/\∀(x:List Rw×List Rw×List Rw×Nat×Nat×Nat×(Nat->List D)),Vf x.1 l x.2.1 x.2.2.1 c n x.2.2.2.2.1 x.2.2.2.2.2.2->ifB (Vh x.1) (Vh x.2.1=Yu x.1 x.2.1/\True) (false=Yu x.1 x.2.1/\True)/\ifB (Yu x.1 x.2.1) (Bd (Z0<=Z0/\Z0<(LI x.1)) (Bd (Z0<=Z0/\Z0<(LI x.2.1)) (∃(x_3:Rw×Rw),([QbK x.1,QbK x.2.1]=[QbL x_3.1.1 x_3.1.2,QbL x_3.2.1 x_3.2.2]/\x_3.1∈l/\x_3.2∈l/\SM (23:Nat))/\∀(y:Unit),True->ifB (decide (oI (c x_3.1 x_3.2)<=Z0)) (Bd (Z0<=Z0/\Z0<(LI x.1)) (Bd (Z0<=Z1/\Z1<=(LI x.1)/\(LI x.1)<=(LI x.1)) (SM x.2.2.2.1/\SM x.2.2.2.2.2.1/\Bd (LN x.2.2.1<=x.2.2.2.2.1/\(LN x.2.2.1+N1)*88<=140737488355328/\LN x.2.2.1+N1<=9223372036854775807) (∀(y cap':Nat),LN x.2.2.1+N1<=cap'->Vc/\∃(y_1:List Rw×List Rw×List Rw×Nat×Nat×Nat×(Nat->List D)),Vf y_1.1 l y_1.2.1 y_1.2.2.1 c n y_1.2.2.2.2.1 y_1.2.2.2.2.2.2/\LN y_1.1+LN y_1.2.1<LN x.1+LN x.2.1/\(QbO x.1 y_1.1/\QbP x.2.1 y_1.2.1/\(y=y_1.2.2.2.1/\LN x.2.2.1+N1=LN y_1.2.2.1/\cap'=y_1.2.2.2.2.2.1)/\True)/\QbQ y y_1.2.2.2.1 x.2.2.1 y_1.2.2.2.2.1 cap' y_1.2.2.2.2.2.1 x.2.2.2.2.2.2 x.1 y_1.2.2.2.2.2.2)))) (Bd (Z0<=Z0/\Z0<(LI x.2.1)) (Bd (Z0<=Z1/\Z1<=(LI x.2.1)/\(LI x.2.1)<=(LI x.2.1)) (SM x.2.2.2.1/\SM x.2.2.2.2.2.1/\Bd (LN x.2.2.1<=x.2.2.2.2.1/\(LN x.2.2.1+N1)*88<=140737488355328/\LN x.2.2.1+N1<=9223372036854775807) (∀(y cap':Nat),LN x.2.2.1+N1<=cap'->Vc/\∃(y_1:List Rw×List Rw×List Rw×Nat×Nat×Nat×(Nat->List D)),Vf y_1.1 l y_1.2.1 y_1.2.2.1 c n y_1.2.2.2.2.1 y_1.2.2.2.2.2.2/\LN y_1.1+LN y_1.2.1<LN x.1+LN x.2.1/\(QbP x.1 y_1.1/\QbO x.2.1 y_1.2.1/\(y=y_1.2.2.2.1/\LN x.2.2.1+N1=LN y_1.2.2.1/\cap'=y_1.2.2.2.2.2.1)/\True)/\QbQ y y_1.2.2.2.1 x.2.2.1 y_1.2.2.2.2.1 cap' y_1.2.2.2.2.2.1 x.2.2.2.2.2.2 x.2.1 y_1.2.2.2.2.2.2))))))) (SM x.2.2.2.1/\SM x.2.2.2.2.2.1/\Bd (LN x.2.2.1<=x.2.2.2.2.1/\(LN x.2.2.1+LN x.1)*88<=140737488355328/\LN x.2.2.1+LN x.1<=9223372036854775807) (∀(y cap':Nat),LN x.2.2.1+LN x.1<=cap'->SM y/\SM cap'/\Bd (LN x.2.2.1+LN x.1<=LN x.2.2.1+LN x.1/\QX x.2.2.1 x.1 x.2.1*88<=140737488355328/\QX x.2.2.1 x.1 x.2.1<=9223372036854775807) (∀(y cap':Nat),QX x.2.2.1 x.1 x.2.1<=cap'->SM y/\SM cap'/\Bd (QX x.2.2.1 x.1 x.2.1<=QX x.2.2.1 x.1 x.2.1) ((∀(i:Nat),i<QX x.2.2.1 x.1 x.2.1->List.all (QbR x.2.2.1 x.1 x.2.2.2.2.2.2 x.2.1 i) B6=true)/\∀(t:Nat),True/\∃(y:Unit),True/\(QX x.2.2.1 x.1 x.2.1=LN (msF (leC c) (n+N1) l)/\(∀(i:Nat),i<QX x.2.2.1 x.1 x.2.1->QbR x.2.2.1 x.1 x.2.2.2.2.2.2 x.2.1 i=Qbl c n l i)/\True)/\True/\True))))))))) (by kernel_rfl) ?_
 delta DA GI LI LN N0 N1 N2 N4 NI SI SM TL Z0 Z1 ZI QH QW Yo Yp Qbi Yq Yr Kh Qbj J9 Qgq Qgr Qbf Qbk Qbl K7 Va Qbm Vb Qbn Qbo Qbp Qbq Yk Qbr Qbs Vc Ys Qbt Qbu Qbv Vd Qbw Qbx J8 Qby Qbz QbA QbB QbC Ve Qgs Qgt QbD Vf Yl QbE Vg Qgu Qgv QbF QbG Yt Vh Yu QbH Qbg Vi Qgw Qgx QbI QbJ QbK QbL QbM Vj Qgy Ym Qgz QbN QbO QbP QbQ QX QbR Yn Qbh
 have da:(default:Arr)=Arr.mk 0 [] [] []:=rfl
 simp only[<- da]
 simp only[Int.toNat_natCast,Bj,Bc,decide_eq_true_eq,decide_eq_false_iff_not,true_and,and_true,exists_const,forall_const,Prod.exists]
 simp only[Bbv]
 have e2:(l.length:Int).tdiv 2=((l.length / 2:Nat):Int):=rfl
 have wh:IntKind.i64.wrap ((l.length:Int).tdiv 2)=((l.length / 2:Nat):Int):=by rw[e2];exact Bb (by omega) (by omega)
 simp only[wh,Int.toNat_natCast]
 refine⟨fun h=>?_,fun h=>⟨⟨by omega,by omega,by omega⟩,⟨by omega,by omega,by omega⟩,l.take (l.length / 2),⟨⟨by rw[List.length_take];omega,fun i hi=>?_⟩,by rw[List.length_take];omega,fun p hp=>List.mem_of_mem_take hp⟩,
  l.drop (l.length / 2),⟨⟨by rw[List.length_drop],fun i hi=>?_⟩,by rw[List.length_drop];omega,fun p hp=>List.mem_of_mem_drop hp⟩,⟨by omega,by omega,by omega,by omega⟩,fun x2=>⟨?_,?_⟩⟩⟩
 ·have e:msF (leC c) (n+1) l=l:=by rw[msF,if_pos (by omega)]
  rw[e]
  exact⟨rfl,fun _ _=>rfl⟩
 ·rw[Nat.zero_add,EZ _ (show i<l.length / 2 by omega)]
  exact⟨rfl,rfl,⟨rfl,fun _ _=>rfl⟩,⟨rfl,fun _ _=>rfl⟩,rfl,fun _ _=>Be _⟩
 ·rw[Cu]
  exact⟨rfl,rfl,⟨rfl,fun _ _=>rfl⟩,⟨rfl,fun _ _=>rfl⟩,rfl,fun _ _=>Be _⟩
 ·exact⟨_,_,[],_,_,_,_,⟨fun p hp=>List.mem_of_mem_take ((C5 _ _ _).mem_iff.1 hp),fun p hp=>List.mem_of_mem_drop ((C5 _ _ _).mem_iff.1 hp),List.nil_append _,Nat.zero_le _,by rw[Mr,Mr,List.length_take,List.length_drop,List.length_nil];omega,fun j hj=>absurd hj (Nat.not_lt_zero j)⟩,⟨⟨rfl,fun _ _=>rfl⟩,⟨rfl,fun _ _=>rfl⟩,rfl,rfl,rfl⟩,rfl,rfl,rfl,fun _ _=>rfl⟩
 have em:msF (leC c) (n+1) l=(msF (leC c) n (l.take (l.length / 2))).merge (msF (leC c) n (l.drop (l.length / 2))) (leC c):=by rw[msF,if_neg (by omega)]
 rw[<- em]
 rintro ⟨u,v,o,y,m,cap,f⟩ ⟨i1,i2,i3,i4,i5,i6⟩
 simp only at i1 i2 i3 i4 i5 i6 ⊢
 refine⟨⟨fun hu=>by rw[decide_eq_true hu,cond_true],fun hu=>by rw[decide_eq_false hu,cond_false]⟩,fun hb=>?_,fun hb=>?_⟩
 ·have hu:0<u.length:=by
   cases u with
   |nil=>simp at hb
   |cons _ _=>simp
  have hv:0<v.length:=by
   cases v with
   |nil=>cases u<;>simp at hb
   |cons _ _=>simp
  obtain ⟨p,u,rfl⟩:=List.exists_cons_of_length_pos hu
  obtain ⟨q,v,rfl⟩:=List.exists_cons_of_length_pos hv
  simp only[List.length_cons] at i5 ⊢
  refine⟨⟨by omega,by omega⟩,⟨by omega,by omega⟩,p.1,p.2,q.1,q.2,⟨rfl,i1 p (by simp),i2 q (by simp)⟩,fun hc1=>⟨⟨by omega,by omega⟩,⟨by omega,by omega,by omega⟩,⟨i4,by omega,by omega⟩,fun y2 c2 hc2=>?_⟩,fun hc1=>⟨⟨by omega,by omega⟩,⟨by omega,by omega,by omega⟩,⟨i4,by omega,by omega⟩,fun y2 c2 hc2=>?_⟩⟩
  ·have hm:(p::u).merge (q::v) (leC c)=p::u.merge (q::v) (leC c):=List.cons_merge_cons_pos _ _ _ (Rb.1 hc1)
   refine⟨u,q::v,o++[p],y2,o.length+1,c2,BB o.length f (fun i=>[rwR p].getD i []),⟨fun x hx=>i1 x (by simp[hx]),i2,?_,?_,?_,fun j hj=>?_⟩,?_,⟨⟨rfl,fun i hi=>?_⟩,⟨rfl,fun _ _=>rfl⟩,rfl,?_,rfl⟩,rfl,rfl,rfl,fun _ _=>rfl⟩
   ·rw[<- i3,hm,List.append_assoc];rfl
   ·rw[List.length_append];exact Nat.le_refl _
   ·simp only[List.length_append,List.length_cons,List.length_nil];omega
   ·exact Ij i6 j (by simpa using hj)
   ·simp only[List.length_cons];omega
   ·rw[Nat.add_comm 1 i];rfl
   ·rw[List.length_append];rfl
  ·have hm:(p::u).merge (q::v) (leC c)=q::(p::u).merge v (leC c):=List.cons_merge_cons_neg _ _ _ (fun e=>hc1 (Rb.2 e))
   refine⟨p::u,v,o++[q],y2,o.length+1,c2,BB o.length f (fun i=>[rwR q].getD i []),⟨i1,fun x hx=>i2 x (by simp[hx]),?_,?_,?_,fun j hj=>?_⟩,?_,⟨⟨rfl,fun _ _=>rfl⟩,⟨rfl,fun i hi=>?_⟩,rfl,?_,rfl⟩,rfl,rfl,rfl,fun _ _=>rfl⟩
   ·rw[<- i3,hm,List.append_assoc];rfl
   ·rw[List.length_append];exact Nat.le_refl _
   ·simp only[List.length_append,List.length_cons,List.length_nil];omega
   ·exact Ij i6 j (by simpa using hj)
   ·simp only[List.length_cons];omega
   ·rw[Nat.add_comm 1 i];rfl
   ·rw[List.length_append];rfl
 ·have hz:u=[]\/v=[]:=by
   cases u with
   |nil=>exact .inl rfl
   |cons _ _ =>
    cases v with
    |nil=>exact .inr rfl
    |cons _ _=>simp at hb
  have hr:o++u++v=msF (leC c) (n+1) l:=by
   rw[<- i3]
   rcases hz with rfl | rfl
   ·rw[List.nil_merge,List.append_nil]
   ·rw[List.merge_right,List.append_nil]
  have h1:=Mv (u:=u) i6
  have h2:=fun j hj=>Mv (o:=o++u) (u:=v) (fun j hj=>h1 j (by simpa using hj)) j hj
  simp only[List.length_append] at h2
  have hrl:(msF (leC c) (n+1) l).length=o.length+u.length+v.length:=by rw[<- hr,List.length_append,List.length_append]
  refine⟨⟨i4,by omega,by omega⟩,fun _ _=>⟨⟨Nat.le_refl _,by omega,by omega⟩,fun _ _=>⟨Nat.le_refl _,fun i hi=>?_,hrl.symm,fun i hi=>?_⟩⟩⟩
  ·rw[h2 i hi];exact BbT _
  ·rw[h2 i hi,hr]
def QI:Arr:=DA
def QY:Nat×Arr:=(N0,QI)
def QbS(a:List Rw)(b:Nat):Nat×Arr:=List.getD a b QY
def Yv(a:List Rw)(b:Nat):Int:=(NI (Prod.fst (QbS a b)))
def Vk(a:List Rw)(b:Nat):Arr:=Prod.snd (QbS a b)
def Yw(a:List Rw)(b:Nat):Int:=Arr.k (Vk a b)
def QbT(a:List Rw)(b:Nat):List Int:=Arr.sh (Vk a b)
def Yx(a:List Rw)(b:Nat):Nat:=LN (QbT a b)
def Yy(a:List Rw)(b c:Nat):Int:=GI (QbT a b) c
def QbU(a:List Rw)(b:Nat):List Int:=Arr.nu (Vk a b)
def Yz(a:List Rw)(b:Nat):Nat:=LN (QbU a b)
def YA(a:List Rw)(b c:Nat):Int:=GI (QbU a b) c
def QbV(a:List Rw)(b:Nat):List Arr:=Arr.it (Vk a b)
def YB(a:List Rw)(b:Nat):Nat:=LN (QbV a b)
def YC(a:List Rw)(b c:Nat):List D:=Arr.row (List.getD (QbV a b) c QI)
def Ki(a:List Rw)(b:Nat):List D:=[ZI (Yv a b),ZI (Yw a b),D.sl N1 (Yx a b) (fun i=>[ZI (Yy a b i)]) Mode.any,D.sl N1 (Yz a b) (fun i=>[ZI (YA a b i)]) Mode.any,D.sl N4 (YB a b) (fun i=>YC a b i) Mode.any]
def QbW(a:Rw->Rw->Ordering)(b:Nat)(c:List Rw)(d:Nat):Nat×Arr:=List.getD (msF (leC a) (b+N1) c) d QY
def Vl(a:Rw->Rw->Ordering)(b:Nat)(c:List Rw)(d:Nat):Arr:=Prod.snd (QbW a b c d)
def QgA(a:Rw->Rw->Ordering)(b:Nat)(c:List Rw)(d:Nat):List Int:=Arr.sh (Vl a b c d)
def QgB(a:Rw->Rw->Ordering)(b:Nat)(c:List Rw)(d:Nat):List Int:=Arr.nu (Vl a b c d)
def QbX(a:Rw->Rw->Ordering)(b:Nat)(c:List Rw)(d:Nat):List Arr:=Arr.it (Vl a b c d)
def QbY(a:Rw->Rw->Ordering)(b:Nat)(c:List Rw)(d:Nat):List D:=[ZI (NI (Prod.fst (QbW a b c d))),ZI (Arr.k (Vl a b c d)),SI (QgA a b c d),SI (QgB a b c d),D.sl N4 (LN (QbX a b c d)) (fun i=>Arr.row (List.getD (QbX a b c d) i QI)) Mode.any]
def K8(a:List Rw):Int:=IntKind.wrap IntKind.i64 (Int.tdiv (LI a) (2:Int))
def Vm(a:List Rw):Nat:=Int.toNat (K8 a)
def QbZ(a:List Rw)(b:Nat):Nat×Arr:=List.getD a (N0+b) QY
def Vn(a:List Rw)(b:Nat):Arr:=Prod.snd (QbZ a b)
def Qb0(a:List Rw)(b:Nat):List Int:=Arr.sh (Vn a b)
def Qb1(a:List Rw)(b:Nat):Nat:=LN (Qb0 a b)
def Qb2(a:List Rw)(b:Nat):List Int:=Arr.nu (Vn a b)
def Qb3(a:List Rw)(b:Nat):Nat:=LN (Qb2 a b)
def Qb4(a:List Rw)(b:Nat):List Arr:=Arr.it (Vn a b)
def Qb5(a:List Rw)(b:Nat):Nat:=LN (Qb4 a b)
def Vo:Prop:=SM (D.fn (Fn.func (26:Nat)) [] [])/\True
def YD(a b:List Rw):Prop:=∀(p:Rw),p∈a->p∈b
def Qb6(a:List Rw)(b:Nat)(c:List Rw):Prop:=(N0<LN a/\LN a<=b)/\YD a c
def Qb7(a:List Rw):Nat:=TL a-Vm a
def Qb8(a:List Rw)(b:Nat):Nat×Arr:=List.getD a (Vm a+b) QY
def Vp(a:List Rw)(b:Nat):Arr:=Prod.snd (Qb8 a b)
def Qb9(a:List Rw)(b:Nat):List Int:=Arr.sh (Vp a b)
def Qca(a:List Rw)(b:Nat):Nat:=LN (Qb9 a b)
def Qcb(a:List Rw)(b:Nat):List Int:=Arr.nu (Vp a b)
def Qcc(a:List Rw)(b:Nat):Nat:=LN (Qcb a b)
def Qcd(a:List Rw)(b:Nat):List Arr:=Arr.it (Vp a b)
def Qce(a:List Rw)(b:Nat):Nat:=LN (Qcd a b)
def Qcf(a:List Rw)(b:Nat):Rw:=List.getD a b QY
def Vq(a:List Rw)(b:Nat):Arr:=Prod.snd (Qcf a b)
def QgC(a:List Rw)(b:Nat):List Int:=Arr.sh (Vq a b)
def QgD(a:List Rw)(b:Nat):List Int:=Arr.nu (Vq a b)
def Qcg(a:List Rw)(b:Nat):List Arr:=Arr.it (Vq a b)
def Vr(a b c d:List Rw)(e:Rw->Rw->Ordering)(f g:Nat)(h:Nat->List D):Prop:=YD a b/\YD c b/\d++List.merge a c (leC e)=List.merge (msF (leC e) f (List.take (LN b / N2) b)) (msF (leC e) f (List.drop (LN b / N2) b)) (leC e)/\LN d<=g/\LN d+LN a+LN c<=65536/\∀(j:Nat),j<LN d->h j=[ZI (NI (Prod.fst (Qcf d j))),ZI (Arr.k (Vq d j)),SI (QgC d j),SI (QgD d j),D.sl N4 (LN (Qcg d j)) (fun i=>Arr.row (List.getD (Qcg d j) i QI)) Mode.any]
def Qch(a:Rw->Rw->Ordering)(b:Nat)(c:List Rw)(d:Nat):Nat×Arr:=List.getD (msF (leC a) b c) d QY
def Vs(a:Rw->Rw->Ordering)(b:Nat)(c:List Rw)(d:Nat):Arr:=Prod.snd (Qch a b c d)
def QgE(a:Rw->Rw->Ordering)(b:Nat)(c:List Rw)(d:Nat):List Int:=Arr.sh (Vs a b c d)
def QgF(a:Rw->Rw->Ordering)(b:Nat)(c:List Rw)(d:Nat):List Int:=Arr.nu (Vs a b c d)
def Qci(a:Rw->Rw->Ordering)(b:Nat)(c:List Rw)(d:Nat):List Arr:=Arr.it (Vs a b c d)
def Qcj(a:Rw->Rw->Ordering)(b:Nat)(c d:List Rw):Prop:=LN (msF (leC a) b c)=LN d/\(∀(i:Nat),i<LN (msF (leC a) b c)->[ZI (NI (Prod.fst (Qch a b c i))),ZI (Arr.k (Vs a b c i)),SI (QgE a b c i),SI (QgF a b c i),D.sl N4 (LN (Qci a b c i)) (fun i_1=>Arr.row (List.getD (Qci a b c i) i_1 QI)) Mode.any]=Ki d i)/\True
def YE:D:=D.sl N1 N0 (fun _x=>[]) Mode.nil
def Vt(a:List Rw):Bool:=decide (Z0<(LI a))
def YF(a b:List Rw):Bool:=bif Vt a then Vt b else false
def Qck(a:List Rw):Nat×Arr:=List.getD a N0 QY
def Vu(a:List Rw):Arr:=Prod.snd (Qck a)
def QgG(a:List Rw):List Int:=Arr.sh (Vu a)
def QgH(a:List Rw):List Int:=Arr.nu (Vu a)
def Qcl(a:List Rw):List Arr:=Arr.it (Vu a)
def Qcm(a:List Rw):List D:=[ZI (NI (Prod.fst (Qck a))),ZI (Arr.k (Vu a)),SI (QgG a),SI (QgH a),D.sl N4 (LN (Qcl a)) (fun i=>Arr.row (List.getD (Qcl a) i QI)) Mode.any]
def Qcn(a:List Rw):D:=D.agg (Qcm a)
def Qco(a:Nat)(b:Arr):D:=D.agg [ZI (↑a:Int),ZI (Arr.k b),SI (Arr.sh b),SI (Arr.nu b),D.sl N4 (LN (Arr.it b)) (fun i=>Arr.row (List.getD (Arr.it b) i QI)) Mode.any]
def Qcp(a:List Rw)(b:Nat):Nat×Arr:=List.getD a (N1+b) QY
def Vv(a:List Rw)(b:Nat):Arr:=Prod.snd (Qcp a b)
def QgI(a:List Rw)(b:Nat):List Int:=Arr.sh (Vv a b)
def QgJ(a:List Rw)(b:Nat):List Int:=Arr.nu (Vv a b)
def Qcq(a:List Rw)(b:Nat):List Arr:=Arr.it (Vv a b)
def Qcr(a b:List Rw):Prop:=TL a-N1=LN b/\(∀(i:Nat),i<TL a-N1->[ZI (NI (Prod.fst (Qcp a i))),ZI (Arr.k (Vv a i)),SI (QgI a i),SI (QgJ a i),D.sl N4 (LN (Qcq a i)) (fun i_1=>Arr.row (List.getD (Qcq a i) i_1 QI)) Mode.any]=Ki b i)/\True
def Qcs(a b:List Rw):Prop:=LN a=LN b/\(∀(i:Nat),i<LN a->Ki a i=Ki b i)/\True
def Qct(a b:Nat)(c:List Rw)(d e f:Nat)(g:Nat->List D)(h:List Rw)(k:Nat->List D):Prop:=(a=b/\(LN c+N1=d/\e=f/\∀(i:Nat),i<LN c+N1->BB (LN c) g (fun i=>List.getD [Qcm h] i []) i=k i)/\True)/\True
def QZ(a b c:List Rw):Nat:=LN a+LN b+LN c
def Qcu(a b:List Rw)(c:Nat->List D)(d:List Rw)(e:Nat):List D:=BB (LN a+LN b) (BB (LN a) c fun i=>Ki b i) (fun i=>Ki d i) e
theorem UG(c : Rw -> Rw -> Ordering)(n : Nat)(l : List Rw)(hn : l.length<=n+1)(hl : l.length<=65536)(hc : ConOk Try.prog (Ow 26 c n l)) :
  CD 22 [gsl 5 rwR l,.fn (.func 26) [] []] (gsl 5 rwR (msF (leC c) (n+1) l)):=by
 refine Bh (A:=sC _ _) (x:=()) (E:=Eme 26 c n l (msF (leC c) n (l.take (l.length / 2))) (msF (leC c) n (l.drop (l.length / 2)))) (eOk hc rfl) Try.func22 rfl (by kernel_rfl) rfl (by simp[sC,Eme,EC,E0]) ?_
 refine Bl (T :=
  ifB (decide ((LI l)<2)) (True/\∃(y:Unit),True/\(LN l=LN (msF (leC c) (n+N1) l)/\(∀(i:Nat),i<LN l->Ki l i=QbY c n l i)/\True)/\True/\True) (Bd (Z0<=Z0/\Z0<=K8 l/\K8 l<=(LI l)) (Bd (Z0<=K8 l/\K8 l<=(LI l)/\(LI l)<=(LI l)) (∃(x:List Rw),(((Vm l-N0=LN x/\(∀(i:Nat),i<Vm l-N0->(NI (Prod.fst (QbZ l i)))=Yv x i/\Arr.k (Vn l i)=Yw x i/\(Qb1 l i=Yx x i/\(∀(i_1:Nat),i_1<Qb1 l i->GI (Qb0 l i) i_1=Yy x i i_1/\True)/\True)/\(Qb3 l i=Yz x i/\(∀(i_1:Nat),i_1<Qb3 l i->GI (Qb2 l i) i_1=YA x i i_1/\True)/\True)/\(Qb5 l i=YB x i/\(∀(i_1:Nat),i_1<Qb5 l i->wkL (Arr.row (List.getD (Qb4 l i) i_1 QI)) (YC x i i_1))/\True)/\True)/\True)/\Vo)/\Qb6 x n l)/\∀(y:Unit),True->∃(x_1:List Rw),(((Qb7 l=LN x_1/\(∀(i:Nat),i<Qb7 l->(NI (Prod.fst (Qb8 l i)))=Yv x_1 i/\Arr.k (Vp l i)=Yw x_1 i/\(Qca l i=Yx x_1 i/\(∀(i_1:Nat),i_1<Qca l i->GI (Qb9 l i) i_1=Yy x_1 i i_1/\True)/\True)/\(Qcc l i=Yz x_1 i/\(∀(i_1:Nat),i_1<Qcc l i->GI (Qcb l i) i_1=YA x_1 i i_1/\True)/\True)/\(Qce l i=YB x_1 i/\(∀(i_1:Nat),i_1<Qce l i->wkL (Arr.row (List.getD (Qcd l i) i_1 QI)) (YC x_1 i i_1))/\True)/\True)/\True)/\Vo)/\Qb6 x_1 n l)/\∀(y:Unit),True->Bd (Z0<=Z0/\Z0<=(LI l)/\(88:Int)*(LI l)<=281474976710656/\(LI l)<=9223372036854775807) (∀(x_2:Nat),True->(∃(x_3:List Rw×List Rw×List Rw×Nat×Nat×Nat×(Nat->List D)),Vr x_3.1 l x_3.2.1 x_3.2.2.1 c n x_3.2.2.2.2.1 x_3.2.2.2.2.2.2/\(Qcj c n x x_3.1/\Qcj c n x_1 x_3.2.1/\(x_2=x_3.2.2.2.1/\N0=LN x_3.2.2.1/\TL l=x_3.2.2.2.2.2.1)/\True)/\(x_2=x_3.2.2.2.1/\(TL l=x_3.2.2.2.2.1/\TL l=x_3.2.2.2.2.2.1/\∀(i:Nat),i<TL l->[ZI Z0,ZI Z0,YE,YE,YE]=x_3.2.2.2.2.2.2 i)/\True)/\True)/\∀(x:List Rw×List Rw×List Rw×Nat×Nat×Nat×(Nat->List D)),Vr x.1 l x.2.1 x.2.2.1 c n x.2.2.2.2.1 x.2.2.2.2.2.2->ifB (Vt x.1) (Vt x.2.1=YF x.1 x.2.1/\True) (false=YF x.1 x.2.1/\True)/\ifB (YF x.1 x.2.1) (Bd (Z0<=Z0/\Z0<(LI x.1)) (Bd (Z0<=Z0/\Z0<(LI x.2.1)) (∃(x_3:Rw×Rw),([Qcn x.1,Qcn x.2.1]=[Qco x_3.1.1 x_3.1.2,Qco x_3.2.1 x_3.2.2]/\x_3.1∈l/\x_3.2∈l/\SM (26:Nat))/\∀(y:Unit),True->ifB (decide (oI (c x_3.1 x_3.2)<=Z0)) (Bd (Z0<=Z0/\Z0<(LI x.1)) (Bd (Z0<=Z1/\Z1<=(LI x.1)/\(LI x.1)<=(LI x.1)) (SM x.2.2.2.1/\SM x.2.2.2.2.2.1/\Bd (LN x.2.2.1<=x.2.2.2.2.1/\(LN x.2.2.1+N1)*88<=140737488355328/\LN x.2.2.1+N1<=9223372036854775807) (∀(y cap':Nat),LN x.2.2.1+N1<=cap'->Vo/\∃(y_1:List Rw×List Rw×List Rw×Nat×Nat×Nat×(Nat->List D)),Vr y_1.1 l y_1.2.1 y_1.2.2.1 c n y_1.2.2.2.2.1 y_1.2.2.2.2.2.2/\LN y_1.1+LN y_1.2.1<LN x.1+LN x.2.1/\(Qcr x.1 y_1.1/\Qcs x.2.1 y_1.2.1/\(y=y_1.2.2.2.1/\LN x.2.2.1+N1=LN y_1.2.2.1/\cap'=y_1.2.2.2.2.2.1)/\True)/\Qct y y_1.2.2.2.1 x.2.2.1 y_1.2.2.2.2.1 cap' y_1.2.2.2.2.2.1 x.2.2.2.2.2.2 x.1 y_1.2.2.2.2.2.2)))) (Bd (Z0<=Z0/\Z0<(LI x.2.1)) (Bd (Z0<=Z1/\Z1<=(LI x.2.1)/\(LI x.2.1)<=(LI x.2.1)) (SM x.2.2.2.1/\SM x.2.2.2.2.2.1/\Bd (LN x.2.2.1<=x.2.2.2.2.1/\(LN x.2.2.1+N1)*88<=140737488355328/\LN x.2.2.1+N1<=9223372036854775807) (∀(y cap':Nat),LN x.2.2.1+N1<=cap'->Vo/\∃(y_1:List Rw×List Rw×List Rw×Nat×Nat×Nat×(Nat->List D)),Vr y_1.1 l y_1.2.1 y_1.2.2.1 c n y_1.2.2.2.2.1 y_1.2.2.2.2.2.2/\LN y_1.1+LN y_1.2.1<LN x.1+LN x.2.1/\(Qcs x.1 y_1.1/\Qcr x.2.1 y_1.2.1/\(y=y_1.2.2.2.1/\LN x.2.2.1+N1=LN y_1.2.2.1/\cap'=y_1.2.2.2.2.2.1)/\True)/\Qct y y_1.2.2.2.1 x.2.2.1 y_1.2.2.2.2.1 cap' y_1.2.2.2.2.2.1 x.2.2.2.2.2.2 x.2.1 y_1.2.2.2.2.2.2))))))) (SM x.2.2.2.1/\SM x.2.2.2.2.2.1/\Bd (LN x.2.2.1<=x.2.2.2.2.1/\(LN x.2.2.1+LN x.1)*88<=140737488355328/\LN x.2.2.1+LN x.1<=9223372036854775807) (∀(y cap':Nat),LN x.2.2.1+LN x.1<=cap'->SM y/\SM cap'/\Bd (LN x.2.2.1+LN x.1<=LN x.2.2.1+LN x.1/\QZ x.2.2.1 x.1 x.2.1*88<=140737488355328/\QZ x.2.2.1 x.1 x.2.1<=9223372036854775807) (∀(y cap':Nat),QZ x.2.2.1 x.1 x.2.1<=cap'->SM y/\SM cap'/\Bd (QZ x.2.2.1 x.1 x.2.1<=QZ x.2.2.1 x.1 x.2.1) ((∀(i:Nat),i<QZ x.2.2.1 x.1 x.2.1->List.all (Qcu x.2.2.1 x.1 x.2.2.2.2.2.2 x.2.1 i) B6=true)/\∀(t:Nat),True/\∃(y:Unit),True/\(QZ x.2.2.1 x.1 x.2.1=LN (msF (leC c) (n+N1) l)/\(∀(i:Nat),i<QZ x.2.2.1 x.1 x.2.1->Qcu x.2.2.1 x.1 x.2.2.2.2.2.2 x.2.1 i=QbY c n l i)/\True)/\True/\True))))))))) (by kernel_rfl) ?_
 delta DA GI LI LN N0 N1 N2 N4 NI SI SM TL Z0 Z1 ZI QI QY Yz YA QbV YB YC Ki QbW Vl QgA QgB QbS QbX QbY K8 Vm QbZ Vn Qb0 Qb1 Qb2 Qb3 Yv Qb4 Qb5 Vo YD Qb6 Qb7 Qb8 Vp Qb9 Qca Vk Qcb Qcc Qcd Qce Qcf Vq QgC QgD Qcg Vr Yw Qch Vs QgE QgF Qci Qcj YE Vt YF Qck QbT Vu QgG QgH Qcl Qcm Qcn Qco Qcp Vv QgI Yx QgJ Qcq Qcr Qcs Qct QZ Qcu Yy QbU
 have da:(default:Arr)=Arr.mk 0 [] [] []:=rfl
 simp only[<- da]
 simp only[Int.toNat_natCast,Bj,Bc,decide_eq_true_eq,decide_eq_false_iff_not,true_and,and_true,exists_const,forall_const,Prod.exists]
 simp only[Bbv]
 have e2:(l.length:Int).tdiv 2=((l.length / 2:Nat):Int):=rfl
 have wh:IntKind.i64.wrap ((l.length:Int).tdiv 2)=((l.length / 2:Nat):Int):=by rw[e2];exact Bb (by omega) (by omega)
 simp only[wh,Int.toNat_natCast]
 refine⟨fun h=>?_,fun h=>⟨⟨by omega,by omega,by omega⟩,⟨by omega,by omega,by omega⟩,l.take (l.length / 2),⟨⟨by rw[List.length_take];omega,fun i hi=>?_⟩,by rw[List.length_take];omega,fun p hp=>List.mem_of_mem_take hp⟩,
  l.drop (l.length / 2),⟨⟨by rw[List.length_drop],fun i hi=>?_⟩,by rw[List.length_drop];omega,fun p hp=>List.mem_of_mem_drop hp⟩,⟨by omega,by omega,by omega,by omega⟩,fun x2=>⟨?_,?_⟩⟩⟩
 ·have e:msF (leC c) (n+1) l=l:=by rw[msF,if_pos (by omega)]
  rw[e]
  exact⟨rfl,fun _ _=>rfl⟩
 ·rw[Nat.zero_add,EZ _ (show i<l.length / 2 by omega)]
  exact⟨rfl,rfl,⟨rfl,fun _ _=>rfl⟩,⟨rfl,fun _ _=>rfl⟩,rfl,fun _ _=>Be _⟩
 ·rw[Cu]
  exact⟨rfl,rfl,⟨rfl,fun _ _=>rfl⟩,⟨rfl,fun _ _=>rfl⟩,rfl,fun _ _=>Be _⟩
 ·exact⟨_,_,[],_,_,_,_,⟨fun p hp=>List.mem_of_mem_take ((C5 _ _ _).mem_iff.1 hp),fun p hp=>List.mem_of_mem_drop ((C5 _ _ _).mem_iff.1 hp),List.nil_append _,Nat.zero_le _,by rw[Mr,Mr,List.length_take,List.length_drop,List.length_nil];omega,fun j hj=>absurd hj (Nat.not_lt_zero j)⟩,⟨⟨rfl,fun _ _=>rfl⟩,⟨rfl,fun _ _=>rfl⟩,rfl,rfl,rfl⟩,rfl,rfl,rfl,fun _ _=>rfl⟩
 have em:msF (leC c) (n+1) l=(msF (leC c) n (l.take (l.length / 2))).merge (msF (leC c) n (l.drop (l.length / 2))) (leC c):=by rw[msF,if_neg (by omega)]
 rw[<- em]
 rintro ⟨u,v,o,y,m,cap,f⟩ ⟨i1,i2,i3,i4,i5,i6⟩
 simp only at i1 i2 i3 i4 i5 i6 ⊢
 refine⟨⟨fun hu=>by rw[decide_eq_true hu,cond_true],fun hu=>by rw[decide_eq_false hu,cond_false]⟩,fun hb=>?_,fun hb=>?_⟩
 ·have hu:0<u.length:=by
   cases u with
   |nil=>simp at hb
   |cons _ _=>simp
  have hv:0<v.length:=by
   cases v with
   |nil=>cases u<;>simp at hb
   |cons _ _=>simp
  obtain ⟨p,u,rfl⟩:=List.exists_cons_of_length_pos hu
  obtain ⟨q,v,rfl⟩:=List.exists_cons_of_length_pos hv
  simp only[List.length_cons] at i5 ⊢
  refine⟨⟨by omega,by omega⟩,⟨by omega,by omega⟩,p.1,p.2,q.1,q.2,⟨rfl,i1 p (by simp),i2 q (by simp)⟩,fun hc1=>⟨⟨by omega,by omega⟩,⟨by omega,by omega,by omega⟩,⟨i4,by omega,by omega⟩,fun y2 c2 hc2=>?_⟩,fun hc1=>⟨⟨by omega,by omega⟩,⟨by omega,by omega,by omega⟩,⟨i4,by omega,by omega⟩,fun y2 c2 hc2=>?_⟩⟩
  ·have hm:(p::u).merge (q::v) (leC c)=p::u.merge (q::v) (leC c):=List.cons_merge_cons_pos _ _ _ (Rb.1 hc1)
   refine⟨u,q::v,o++[p],y2,o.length+1,c2,BB o.length f (fun i=>[rwR p].getD i []),⟨fun x hx=>i1 x (by simp[hx]),i2,?_,?_,?_,fun j hj=>?_⟩,?_,⟨⟨rfl,fun i hi=>?_⟩,⟨rfl,fun _ _=>rfl⟩,rfl,?_,rfl⟩,rfl,rfl,rfl,fun _ _=>rfl⟩
   ·rw[<- i3,hm,List.append_assoc];rfl
   ·rw[List.length_append];exact Nat.le_refl _
   ·simp only[List.length_append,List.length_cons,List.length_nil];omega
   ·exact Ij i6 j (by simpa using hj)
   ·simp only[List.length_cons];omega
   ·rw[Nat.add_comm 1 i];rfl
   ·rw[List.length_append];rfl
  ·have hm:(p::u).merge (q::v) (leC c)=q::(p::u).merge v (leC c):=List.cons_merge_cons_neg _ _ _ (fun e=>hc1 (Rb.2 e))
   refine⟨p::u,v,o++[q],y2,o.length+1,c2,BB o.length f (fun i=>[rwR q].getD i []),⟨i1,fun x hx=>i2 x (by simp[hx]),?_,?_,?_,fun j hj=>?_⟩,?_,⟨⟨rfl,fun _ _=>rfl⟩,⟨rfl,fun i hi=>?_⟩,rfl,?_,rfl⟩,rfl,rfl,rfl,fun _ _=>rfl⟩
   ·rw[<- i3,hm,List.append_assoc];rfl
   ·rw[List.length_append];exact Nat.le_refl _
   ·simp only[List.length_append,List.length_cons,List.length_nil];omega
   ·exact Ij i6 j (by simpa using hj)
   ·simp only[List.length_cons];omega
   ·rw[Nat.add_comm 1 i];rfl
   ·rw[List.length_append];rfl
 ·have hz:u=[]\/v=[]:=by
   cases u with
   |nil=>exact .inl rfl
   |cons _ _ =>
    cases v with
    |nil=>exact .inr rfl
    |cons _ _=>simp at hb
  have hr:o++u++v=msF (leC c) (n+1) l:=by
   rw[<- i3]
   rcases hz with rfl | rfl
   ·rw[List.nil_merge,List.append_nil]
   ·rw[List.merge_right,List.append_nil]
  have h1:=Mv (u:=u) i6
  have h2:=fun j hj=>Mv (o:=o++u) (u:=v) (fun j hj=>h1 j (by simpa using hj)) j hj
  simp only[List.length_append] at h2
  have hrl:(msF (leC c) (n+1) l).length=o.length+u.length+v.length:=by rw[<- hr,List.length_append,List.length_append]
  refine⟨⟨i4,by omega,by omega⟩,fun _ _=>⟨⟨Nat.le_refl _,by omega,by omega⟩,fun _ _=>⟨Nat.le_refl _,fun i hi=>?_,hrl.symm,fun i hi=>?_⟩⟩⟩
  ·rw[h2 i hi];exact BbT _
  ·rw[h2 i hi,hr]
theorem Wc{k0 : Nat}{c : Rw -> Rw -> Ordering}{n : Nat}{l : List Rw}(ih : ∀u : List Rw, 0<u.length -> u.length<=n -> (∀p∈u, p∈l) -> CD 22 [gsl 5 rwR u, .fn (.func k0) [] []] (gsl 5 rwR (msF (leC c) n u)))
  (hf:∀p∈l,∀q∈l,CmpC k0 c p q):ConOk Try.prog (Ow k0 c n l):=by
 intro k ds S A hh
 unfold Ow at hh
 split at hh
 ·injection hh with hh;subst hh
  exact Cn fun u ⟨e,⟨h0,h1⟩,h2⟩=>CD.at_ (CD.wk (ih u h0 h1 h2) e) _
 ·injection hh with hh;subst hh
  refine Cn fun y ⟨e,h1,h2,h3⟩=>CD.at_ ?_ _
  subst h3
  rw[e];exact hf _ h1 _ h2
 ·injection hh with hh;subst hh
  refine Cn fun y ⟨e,h1,h2,h3⟩=>CD.at_ ?_ _
  subst h3
  rw[e];exact hf _ h1 _ h2
 ·cases hh
theorem Bb2{k0:Nat}(hk:k0=23\/k0=26)(c:Rw->Rw->Ordering):∀(n:Nat) (l:List Rw),l.length<=n+1->n<=65536/\l.length<=65536->(∀p∈l,∀q∈l,CmpC k0 c p q)->CD 22 [gsl 5 rwR l,.fn (.func k0) [] []] (gsl 5 rwR (msF (leC c) (n+1) l))
 |0,l,h,h2,hf=>by
  have hc:ConOk Try.prog (Ow k0 c 0 l):=Wc (fun u h0 hu hp=>absurd h0 (by omega)) hf
  rcases hk with rfl | rfl
  ·exact UQ c 0 l h (by omega) hc
  ·exact UG c 0 l h (by omega) hc
 |n+1,l,h,h2,hf=>by
  have hc:ConOk Try.prog (Ow k0 c (n+1) l):=Wc (fun u h0 hu hp=>Bb2 hk c n u hu (by omega) fun p h1 q h2=>hf p (hp p h1) q (hp q h2)) hf
  rcases hk with rfl | rfl
  ·exact UQ c (n+1) l h (by omega) hc
  ·exact UG c (n+1) l h (by omega) hc
def GV(N:Nat)(p q:Rw):Ordering:=Ca N p.2 q.2
def Tt(N:Nat)(a b:Arr):Con:=fun k ds S=>match k with
 |24=>some (pA ds S (.int .i64 (oI (Ca N a b))) (wkL ds [.agg a.row1,.agg b.row1]))
 |_=>none
theorem OX{N:Nat}{a b:Arr}(ha:Val a)(hb:Val b)(h:SizeOf.sizeOf a<N):ConOk Try.prog (Tt N a b):=by
 intro k ds S A hh
 unfold Tt at hh
 split at hh
 ·injection hh with hh;subst hh
  exact Bw fun e=>CD.at_ (CD.wk (BeX N a b ha hb h) e) _
 ·cases hh
noncomputable def Eu1(N:Nat)(a b:Arr):Senv:=EC (Tt N a b) 10 5 [] (fun _=>([],[]))
def Qcv(a:Rw):Nat:=LN (Arr.sh a.2)
def Qcw(a:Rw):Nat:=LN (Arr.nu a.2)
def Qcx(a:Rw):Nat:=LN (Arr.it a.2)
def Qcy(a:Rw)(b:Nat):List D:=Arr.row (GA (Arr.it a.2) b)
def Qcz(a:Rw):Prop:=SM (Arr.k a.2)/\(SM (Qcv a)/\(∀(i:Nat),i<Qcv a->SM (GI (Arr.sh a.2) i)/\True)/\True)/\(SM (Qcw a)/\(∀(i:Nat),i<Qcw a->SM (GI (Arr.nu a.2) i)/\True)/\True)/\(SM (Qcx a)/\(∀(i:Nat),i<Qcx a->wkL (Qcy a i) (Qcy a i))/\True)/\True
theorem BeR(N:Nat)(p q:Rw)(hp:Val p.2)(hq:Val q.2)(h:SizeOf.sizeOf p.2<N):CmpC 23 (GV N) p q:=by
 refine Bh (A:=sC _ _) (x:=()) (E:=Eu1 N p.2 q.2) (eOk (OX hp hq h) rfl) Try.func23 rfl (by kernel_rfl) rfl (by simp[sC,Eu1,EC,E0]) ?_
 refine Bl (T :=
  ∀(x:Nat),True->∀(x_1:Nat),x≠x_1/\True->SM x/\SM x_1/\∃(x:Unit),(Qcz p/\Qcz q/\True)/\∀(y:Unit),True->RT (oI (Ca N p.2 q.2)=oI (GV N p q))) (by kernel_rfl) ?_
 delta DA GA GI LN SM Z0 Qcv Qcw Qcx Qcy Qcz RT
 have da:(default:Arr)=Arr.mk 0 [] [] []:=rfl
 simp only[<- da]
 simp only[ne_eq,implies_true,true_and,and_true,exists_const,forall_const]
 exact fun _ _ _=>⟨⟨fun _ _=>Be _,fun _ _=>Be _⟩,rfl⟩
noncomputable def Es1(N:Nat)(a b:Arr):Senv:=EC (Tt N a b) 10 5 [] (fun _=>([],[]))
def QcA(a:Rw):Nat:=LN (Arr.sh a.2)
def QcB(a:Rw):Nat:=LN (Arr.nu a.2)
def QcC(a:Rw):Nat:=LN (Arr.it a.2)
def QcD(a:Rw)(b:Nat):List D:=Arr.row (GA (Arr.it a.2) b)
def QcE(a:Rw):Prop:=SM (Arr.k a.2)/\(SM (QcA a)/\(∀(i:Nat),i<QcA a->SM (GI (Arr.sh a.2) i)/\True)/\True)/\(SM (QcB a)/\(∀(i:Nat),i<QcB a->SM (GI (Arr.nu a.2) i)/\True)/\True)/\(SM (QcC a)/\(∀(i:Nat),i<QcC a->wkL (QcD a i) (QcD a i))/\True)/\True
theorem Bet(N:Nat)(p q:Rw)(hp:Val p.2)(hq:Val q.2)(h:SizeOf.sizeOf p.2<N):CmpC 26 (GV N) p q:=by
 refine Bh (A:=sC _ _) (x:=()) (E:=Es1 N p.2 q.2) (eOk (OX hp hq h) rfl) Try.func26 rfl (by kernel_rfl) rfl (by simp[sC,Es1,EC,E0]) ?_
 refine Bl (T :=
  ∀(x:Nat),True->∀(x_1:Nat),x≠x_1/\True->SM x/\SM x_1/\∃(x:Unit),(QcE p/\QcE q/\True)/\∀(y:Unit),True->RT (oI (Ca N p.2 q.2)=oI (GV N p q))) (by kernel_rfl) ?_
 delta DA GA GI LN SM Z0 QcA QcB QcC QcD QcE RT
 have da:(default:Arr)=Arr.mk 0 [] [] []:=rfl
 simp only[<- da]
 simp only[ne_eq,implies_true,true_and,and_true,exists_const,forall_const]
 exact fun _ _ _=>⟨⟨fun _ _=>Be _,fun _ _=>Be _⟩,rfl⟩
def Ef(l:List Rw):Arr:=.mk 1 [(l.length:Int)] (l.map fun p=>(p.1:Int)) []
theorem Ba7(l:List Rw){i:Nat}(h:i<l.length):((l.getD i (0,default)).1:Int)=(Ef l).nu.getD i 0:=by
 show _=(l.map fun p=>(p.1:Int)).getD i 0
 rw[List.getD_eq_getElem?_getD,List.getD_eq_getElem?_getD,List.getElem?_map,List.getElem?_eq_getElem h];rfl
noncomputable def Enb(l:List Rw):Senv:={ EC C7 25 1 [2,3,5,10,11,12,13] (fun _=>([],[])) with
 gh:=fun b=>match b with
  |0=>[.cell 1 102]
  |_=>[]
 ann:=fun b _ S=>match b with
  |0=>match Bx S.objs 1 with
   |some (_,.cells (c0::c1::_::cs))=>some { slots:=[12],keep:=[2,3,10,11],α:=Nat×Nat,st:=fun y=>([.int .i64 y.1],⟨ET S.objs 1 (.cells (c0::c1::.sl 1 y.1 (fun i=>[.int .i64 ((l.getD i default).1:Int)]) (.tok 0 y.2)::cs)),[(0,y.2)]⟩),inv:=fun y=>y.1<=l.length,mu:=fun y=>l.length-y.1 }
   |_=>none
  |_=>none }
def QcF(a:List Rw)(b:Nat):List D:=List.getD [[ZI (LI a)]] b []
def QcG(a:List Rw):Prop:=SM N1/\(∀(i:Nat),i<N1->SM (QcF a i))/\True
def QcH:Arr:=DA
def YG:Nat×Arr:=(N0,QcH)
def QcI(a:List Rw)(b:Nat):Int:=(NI (Prod.fst (List.getD a b YG)))
def YH(a:List Rw)(b:Nat):List D:=[ZI (QcI a b)]
def YI:Prop:=SM N0/\(∀(i:Nat),i<N0->Es (List D) [] [])/\True
def YJ:Prop:=YI/\True
def QcJ(a:Nat):Prop:=SM a/\(SM Z0/\YI/\YI/\YJ)/\True
def QcK(a:List Rw)(b:Nat):Nat×Arr:=List.getD a b YG
def Vw(a:List Rw)(b:Nat):Arr:=Prod.snd (QcK a b)
def QgK(a:List Rw)(b:Nat):List Int:=Arr.sh (Vw a b)
def QgL(a:List Rw)(b:Nat):List Int:=Arr.nu (Vw a b)
def QcL(a:List Rw)(b:Nat):List Arr:=Arr.it (Vw a b)
def QgM(a:List Rw):D:=D.sl 5 (LN a) (fun i=>[ZI (NI (Prod.fst (QcK a i))),ZI (Arr.k (Vw a i)),SI (QgK a i),SI (QgL a i),D.sl N4 (LN (QcL a i)) (fun i_1=>Arr.row (List.getD (QcL a i) i_1 QcH)) Mode.any]) Mode.any
def Kx(a:List Rw):Arr:=Ef a
theorem BeT(l:List Rw)(hl:l.length<=65536):CD 21 [gsl 5 rwR l] (.agg (Ef l).row1):=by
 refine CD.ofW (T1 (E:=Enb l) (eOk BA rfl) Try.func21 rfl (by kernel_rfl) rfl (by simp[Enb,EC,E0]) ?_)
 refine Bl (T :=
  ∀(x:Nat),True->∀(x_1:Nat),x≠x_1/\True->SM x_1/\∀(t:Nat),(∃(x_2:Nat×Nat),x_2.1<=LN l/\(Z0=(NI x_2.1)/\True)/\(SM x_1/\(SM Z1/\QcG l/\(N0=x_2.1/\(∀(i:Nat),i<N0->Es (List D) [] (YH l i))/\t=x_2.2)/\YJ)/\QcJ x)/\t=x_2.2/\True)/\∀(x_2:Nat×Nat),x_2.1<=LN l->ifB (decide ((NI x_2.1)<(LI l))) (Bd (Z0<=(NI x_2.1)/\(NI x_2.1)<(LI l)) (∀(x_3:Nat),x_1≠x_3/\x≠x_3/\True->SM x_3/\SM x_1/\SM x_3/\SM x_2.2/\Bd ((x_2.1+N1)*8<=140737488355328/\x_2.1+N1<=9223372036854775807) (∀(t:Nat),SM x_1/\(SM (D.ref N0 x N0)/\SM (D.ref N1 x_1 N0)/\SM (QgM l)/\SM (ZI (LI l))/\True)/\∃(y:Nat×Nat),y.1<=LN l/\LN l-y.1<LN l-x_2.1/\(IntKind.wrap IntKind.i64 ((NI x_2.1)+Z1)=(NI y.1)/\True)/\(SM x_1/\(SM Z1/\QcG l/\(x_2.1+N1=y.1/\(∀(i:Nat),i<x_2.1+N1->BB x_2.1 (fun i=>YH l i) (fun i=>List.getD [[ZI (NI (Prod.fst (List.getD l (TN x_2.1) YG)))]] i []) i=YH l i)/\t=y.2)/\YJ)/\QcJ x)/\t=y.2/\True))) (SM x_1/\SM x/\(SM x/\True)/\Z1=Arr.k (Kx l)/\(N1=LN (Arr.sh (Kx l))/\(∀(i:Nat),i<N1->wkL (QcF l i) [ZI (GI (Arr.sh (Kx l)) i)])/\True)/\(x_2.1=LN (Arr.nu (Kx l))/\(∀(i:Nat),i<x_2.1->QcI l i=GI (Arr.nu (Kx l)) i/\True)/\True)/\(N0=LN (Arr.it (Kx l))/\(∀(i:Nat),i<N0->False)/\True)/\True)) (by kernel_rfl) ?_
 delta DA GI LI LN N0 N1 N4 NI SI SM TN Z0 Z1 ZI QcL QgM Kx QcF QcG QcH YG QcI YH YI YJ QcJ QcK Vw QgK QgL
 have da:(default:Arr)=Arr.mk 0 [] [] []:=rfl
 simp only[<- da]
 simp only[ne_eq,implies_true,Int.toNat_natCast,Bj,Bc,decide_eq_true_eq,decide_eq_false_iff_not,true_and,and_true,forall_const,Prod.exists]
 refine fun x x1 _ t=>⟨⟨0,t,Nat.zero_le _,rfl,⟨rfl,(fun i hi=>absurd hi (Nat.not_lt_zero i)),rfl⟩,rfl⟩,?_⟩
 rintro ⟨i,t1⟩ hi
 simp only at hi ⊢
 refine⟨fun hlt=>⟨⟨by omega,hlt⟩,fun x3 _=>⟨⟨by omega,by omega⟩,fun t2=>⟨i+1,t2,by omega,by omega,Bb (by omega) (by omega),⟨rfl,(fun j hj=>?_),rfl⟩,rfl⟩⟩⟩,fun hge=>?_⟩
 ·rw[BB]
  split
  ·rfl
  ·obtain rfl:j=i:=by omega
   rw[Nat.sub_self];rfl
 ·obtain rfl:i=l.length:=by omega
  refine⟨rfl,⟨rfl,fun j hj=>?_⟩,⟨by simp[Ef,Arr.nu],fun j hj=>Ba7 l hj⟩,rfl,fun j hj=>absurd hj (Nat.not_lt_zero j)⟩
  obtain rfl:j=0:=by omega
  exact Be _
def Br(N:Nat)(y:Arr):List Rw:=msF (leC (GV N)) ((rwL y).length+1) (rwL y)
structure GrH (N:Nat) (y:Arr):Prop where
 v:Val y
 hr:y.sh≠[]
 hN:∀p∈rwL y,SizeOf.sizeOf p.2<N
theorem R3{y:Arr}{p:Rw}(hp:p∈rwL y):∃i,i<(y.sh.headD 0).toNat/\p=(i,rwA y i):=by
 obtain ⟨i,hi,rfl⟩:=List.mem_map.1 hp
 exact⟨i,List.mem_range.1 hi,rfl⟩
theorem GrH.val{N:Nat}{y:Arr}(h:GrH N y){p:Rw}(hp:p∈rwL y):Val p.2:=by
 obtain ⟨i,hi,rfl⟩:=R3 hp
 exact (Ia h.v h.hr (by omega)).1
theorem EP{y:Arr}(h:Val y)(hr:y.sh≠[]):0<=y.sh.headD 0/\y.sh.headD 0<=65536:=by
 have dA:=((Bv _).1 (Bz h.c).1).2.1
 cases hs:y.sh with
 |nil=>exact absurd hs hr
 |cons d r=>exact dA d (by rw[hs];simp)
theorem GrH.len{N:Nat}{y:Arr}(h:GrH N y):(rwL y).length<=65536:=by
 have:=EP h.v h.hr
 rw[TU];omega
theorem CO(N:Nat)(y:Arr):(Br N y).Perm (rwL y):=C5 _ _ _
theorem GrH.slen{N:Nat}{y:Arr}(h:GrH N y):(Br N y).length<=65536:=by
 rw[(CO N y).length_eq];exact h.len
theorem GrH.me{N:Nat}{y:Arr}(h:GrH N y){k0:Nat}(hk:k0=23\/k0=26):CD 22 [gsl 5 rwR (rwL y),.fn (.func k0) [] []] (gsl 5 rwR (Br N y)):=by
 refine Bb2 hk (GV N) (rwL y).length (rwL y) (by omega) ⟨h.len,h.len⟩ fun p hp q hq=>?_
 rcases hk with rfl | rfl
 ·exact BeR N p q (h.val hp) (h.val hq) (h.hN p hp)
 ·exact Bet N p q (h.val hp) (h.val hq) (h.hN p hp)
def R6(k0:Nat)(N:Nat)(y:Arr):Con:=fun k ds S=>match k with
 |20=>some (pA ds S (.tup [gsl 5 rwR (rwL y),.int .i64 0]) (wkL ds [.agg y.row1]))
 |22=>some (pA ds S (gsl 5 rwR (Br N y)) (wkL ds [gsl 5 rwR (rwL y),.fn (.func k0) [] []]))
 |21=>some (pA ds S (.agg (Ef (Br N y)).row1) (wkL ds [gsl 5 rwR (Br N y)]))
 |25=>some (pA ds S (isl y.sh .any) (wkL ds [isl y.sh .any]))
 |_=>none
theorem U5{k0:Nat}(hk:k0=23\/k0=26){N:Nat}{y:Arr}(h:GrH N y):ConOk Try.prog (R6 k0 N y):=by
 intro k ds S A hh
 unfold R6 at hh
 split at hh
 ·injection hh with hh;subst hh
  exact Bw fun e=>CD.at_ (CD.wk (BeM y h.v h.hr) e) _
 ·injection hh with hh;subst hh
  exact Bw fun e=>CD.at_ (CD.wk (h.me hk) e) _
 ·injection hh with hh;subst hh
  exact Bw fun e=>CD.at_ (CD.wk (BeT _ h.slen) e) _
 ·injection hh with hh;subst hh
  exact Bw fun e=>CD.at_ (CD.wk (Mm _ (by have:=((Bv _).1 (Bz h.v.c).1).1;omega)) e) _
 ·cases hh
noncomputable def Eup(N:Nat)(y:Arr):Senv:=EC (R6 23 N y) 18 6 [12] (fun _=>([],[]))
def K9:Arr:=DA
def QcM(a:Arr)(b:Nat):List D:=Arr.row (List.getD (Arr.it a) b K9)
def QcN:Nat×Arr:=(N0,K9)
def QcO(a:Arr)(b:Nat):Nat×Arr:=List.getD (rwL a) b QcN
def QgN(a:Arr)(b:Nat):Int:=(NI (Prod.fst (QcO a b)))
def Vx(a:Arr)(b:Nat):Arr:=Prod.snd (QcO a b)
def QgO(a:Arr)(b:Nat):Int:=Arr.k (Vx a b)
def QcP(a:Arr)(b:Nat):List Int:=Arr.sh (Vx a b)
def QcQ(a:Arr)(b:Nat):Nat:=LN (QcP a b)
def QgP(a:Arr)(b c:Nat):Int:=GI (QcP a b) c
def QcR(a:Arr)(b:Nat):List Int:=Arr.nu (Vx a b)
def QcS(a:Arr)(b:Nat):Nat:=LN (QcR a b)
def QgQ(a:Arr)(b c:Nat):Int:=GI (QcR a b) c
def QcT(a:Arr)(b:Nat):List Arr:=Arr.it (Vx a b)
def QcU(a:Arr)(b:Nat):Nat:=LN (QcT a b)
def QcV(a:Arr)(b c:Nat):List D:=Arr.row (List.getD (QcT a b) c K9)
def QcW(a:Nat)(b:Arr)(c:Nat):Nat×Arr:=List.getD (Br a b) c QcN
def QgR(a:Nat)(b:Arr)(c:Nat):Int:=(NI (Prod.fst (QcW a b c)))
def Vy(a:Nat)(b:Arr)(c:Nat):Arr:=Prod.snd (QcW a b c)
def QgS(a:Nat)(b:Arr)(c:Nat):Int:=Arr.k (Vy a b c)
def QcX(a:Nat)(b:Arr)(c:Nat):List Int:=Arr.sh (Vy a b c)
def QcY(a:Nat)(b:Arr)(c:Nat):Nat:=LN (QcX a b c)
def QgT(a:Nat)(b:Arr)(c d:Nat):Int:=GI (QcX a b c) d
def QcZ(a:Nat)(b:Arr)(c:Nat):List Int:=Arr.nu (Vy a b c)
def Qc0(a:Nat)(b:Arr)(c:Nat):Nat:=LN (QcZ a b c)
def QgU(a:Nat)(b:Arr)(c d:Nat):Int:=GI (QcZ a b c) d
def Qc1(a:Nat)(b:Arr)(c:Nat):List Arr:=Arr.it (Vy a b c)
def Qc2(a:Nat)(b:Arr)(c:Nat):Nat:=LN (Qc1 a b c)
def Qc3(a:Nat)(b:Arr)(c d:Nat):List D:=Arr.row (List.getD (Qc1 a b c) d K9)
def Vz(a:Nat)(b:Arr):Arr:=Ef (Br a b)
def QgV(a:Nat)(b:Arr):Int:=Arr.k (Vz a b)
def Qc4(a:Nat)(b:Arr):List Int:=Arr.sh (Vz a b)
def Qc5(a:Nat)(b:Arr):Nat:=LN (Qc4 a b)
def QgW(a:Nat)(b:Arr)(c:Nat):List D:=[ZI (GI (Qc4 a b) c)]
def Qc6(a:Nat)(b:Arr):List Int:=Arr.nu (Vz a b)
def Qc7(a:Nat)(b:Arr):Nat:=LN (Qc6 a b)
def QgX(a:Nat)(b:Arr)(c:Nat):List D:=[ZI (GI (Qc6 a b) c)]
def Qc8(a:Nat)(b:Arr):Nat:=LN (Arr.it (Vz a b))
def QgY:List D:=Arr.row K9
theorem BdH(N:Nat)(y:Arr)(h:GrH N y):CD 7 [.agg y.row1] (.tup [.agg (Ef (Br N y)).row1,.int .i64 0]):=by
 refine Bh (A:=sC _ _) (x:=()) (E:=Eup N y) (eOk (U5 (.inl rfl) h) rfl) Try.func7 rfl (by kernel_rfl) rfl (by simp[sC,Eup,EC,E0]) ?_
 refine Bl (T :=
  ∀(x:Nat),True->∀(x_1:Nat),x≠x_1/\True->SM x/\∃(x:Unit),((SM (Arr.k y)/\(SM (LN (Arr.sh y))/\(∀(i:Nat),i<LN (Arr.sh y)->SM (GI (Arr.sh y) i)/\True)/\True)/\(SM (LN (Arr.nu y))/\(∀(i:Nat),i<LN (Arr.nu y)->SM (GI (Arr.nu y) i)/\True)/\True)/\(SM (LN (Arr.it y))/\(∀(i:Nat),i<LN (Arr.it y)->wkL (QcM y i) (QcM y i))/\True)/\True)/\True)/\∀(y_1:Unit),True->∃(x:Unit),((SM (LN (rwL y))/\(∀(i:Nat),i<LN (rwL y)->SM (QgN y i)/\SM (QgO y i)/\(SM (QcQ y i)/\(∀(i_1:Nat),i_1<QcQ y i->SM (QgP y i i_1)/\True)/\True)/\(SM (QcS y i)/\(∀(i_1:Nat),i_1<QcS y i->SM (QgQ y i i_1)/\True)/\True)/\(SM (QcU y i)/\(∀(i_1:Nat),i_1<QcU y i->wkL (QcV y i i_1) (QcV y i i_1))/\True)/\True)/\True)/\SM (D.fn (Fn.func (23:Nat)) [] [])/\True)/\∀(y_2:Unit),True->∃(x:Unit),((SM (LN (Br N y))/\(∀(i:Nat),i<LN (Br N y)->SM (QgR N y i)/\SM (QgS N y i)/\(SM (QcY N y i)/\(∀(i_1:Nat),i_1<QcY N y i->SM (QgT N y i i_1)/\True)/\True)/\(SM (Qc0 N y i)/\(∀(i_1:Nat),i_1<Qc0 N y i->SM (QgU N y i i_1)/\True)/\True)/\(SM (Qc2 N y i)/\(∀(i_1:Nat),i_1<Qc2 N y i->wkL (Qc3 N y i i_1) (Qc3 N y i i_1))/\True)/\True)/\True)/\True)/\∀(y_3:Unit),True->SM x_1/\(SM x_1/\True)/\∃(y_4:Unit),True/\((SM (QgV N y)/\(SM (Qc5 N y)/\(∀(i:Nat),i<Qc5 N y->SM (QgW N y i))/\True)/\(SM (Qc7 N y)/\(∀(i:Nat),i<Qc7 N y->SM (QgX N y i))/\True)/\(SM (Qc8 N y)/\(∀(i:Nat),i<Qc8 N y->SM QgY)/\True)/\True)/\SM Z0/\True)/\True/\True) (by kernel_rfl) ?_
 delta DA GI LN N0 NI SM Z0 ZI K9 QcM QcR QcS QgQ QcT QcU QcV QcW QgR Vy QgS QcN QcX QcY QgT QcZ Qc0 QgU Qc1 Qc2 Qc3 Vz QcO QgV Qc4 Qc5 QgW Qc6 Qc7 QgX Qc8 QgY QgN Vx QgO QcP QcQ QgP
 have da:(default:Arr)=Arr.mk 0 [] [] []:=rfl
 simp only[<- da]
 simp only[ne_eq,implies_true,true_and,and_true,exists_const,forall_const]
 exact fun _ _ _=>⟨fun _ _=>Be _,fun _ _ _ _=>Be _,fun _ _ _ _=>Be _⟩
def ED(l:List Rw):List Int:=l.flatMap fun p=>p.2.nu
def EB(l:List Rw):List Arr:=l.flatMap fun p=>p.2.it
def B9(N:Nat)(y:Arr):Arr:=.mk y.k y.sh (ED (Br N y)) (EB (Br N y))
theorem O6{a b:List Rw}(h:a.Perm b):(ED a).Perm (ED b):=List.Perm.flatMap_right _ h
theorem OU{a b:List Rw}(h:a.Perm b):(EB a).Perm (EB b):=List.Perm.flatMap_right _ h
theorem WA{α:Type}(l:List α)(R:Nat):∀d,((List.range d).flatMap fun i=>(l.drop (i*R)).take R)=l.take (d*R)
 |0=>by simp
 |d+1=>by
  rw[List.range_succ,List.flatMap_append,WA l R d,List.flatMap_singleton,Nat.succ_mul]
  exact (List.take_add (l:=l) (i:=d*R) (j:=R)).symm
theorem MJ{y:Arr}(h:Val y)(hr:y.sh≠[]):ED (rwL y)=y.nu/\EB (rwL y)=y.it:=by
 have e1:ED (rwL y)=y.nu.take ((y.sh.headD 0).toNat*Bn y):=by
  rw[<- WA,ED,rwL,List.flatMap_map];rfl
 have e2:EB (rwL y)=y.it.take ((y.sh.headD 0).toNat*Bn y):=by
  rw[<- WA,EB,rwL,List.flatMap_map];rfl
 have z:=(Bz h.c).2.1
 have f4:=(Cj.1 (Cv h.c)).2.2.2
 have hp:prL (shN y.sh)=(y.sh.headD 0).toNat*Bn y:=by
  cases hs:y.sh with
  |nil=>exact absurd hs hr
  |cons d r=>simp[shN,prL,Bn,hs]
 rw[e1,e2]
 unfold szN at z
 refine⟨List.take_of_length_le ?_,List.take_of_length_le ?_⟩
 all_goals
  by_cases hk:y.k=3
  ·rw[if_pos hk] at z f4;omega
  ·rw[if_neg hk] at z f4;omega
theorem Bc0{N:Nat}{y:Arr}(h:GrH N y):(ED (Br N y)).length=y.nu.length/\(EB (Br N y)).length=y.it.length:=by
 obtain ⟨e1,e2⟩:=MJ h.v h.hr
 exact⟨by rw[(O6 (CO N y)).length_eq,e1],by rw[(OU (CO N y)).length_eq,e2]⟩
theorem Bao{l:List Rw}{i:Nat}(h:i<l.length):ED (l.take (i+1))=ED (l.take i)++(l.getD i (0,default)).2.nu:=by
 rw[ED,Eo (show i<l.length from h),List.flatMap_append,List.flatMap_singleton];rfl
theorem BaC{l:List Rw}{i:Nat}(h:i<l.length):EB (l.take (i+1))=EB (l.take i)++(l.getD i (0,default)).2.it:=by
 rw[EB,Eo (show i<l.length from h),List.flatMap_append,List.flatMap_singleton];rfl
theorem Bda(l:List Rw)(i:Nat):(ED (l.take i)).length<=(ED l).length:=by
 have:=congrArg (fun l=>(ED l).length) (List.take_append_drop i l)
 simp only[ED,List.flatMap_append,List.length_append] at this ⊢
 omega
theorem Bdt(l:List Rw)(i:Nat):(EB (l.take i)).length<=(EB l).length:=by
 have:=congrArg (fun l=>(EB l).length) (List.take_append_drop i l)
 simp only[EB,List.flatMap_append,List.length_append] at this ⊢
 omega
noncomputable def Eso(N:Nat)(y:Arr):Senv:={ EC (R6 26 N y) 47 7 [8,15,25,26,27,28] (fun id=>match id with | 4=>([0,1,2,3,4,5,6,7],[4,6,7]) | _=>([],[])) with
 gh:=fun b=>match b with
  |0=>[.cell 8 102,.cell 8 403]
  |_=>[]
 ann:=fun b _ S=>match b with
  |0=>match Bx S.objs 8 with
   |some (_,.cells (c0::c1::_::_::cs))=>some { slots:=[27],keep:=[2,6,25,26],α:=Nat×Nat×Nat,st:=fun z=>([.int .i64 z.1],⟨ET S.objs 8 (.cells (c0::c1::.sl 1 (ED ((Br N y).take z.1)).length (fun i=>[.int .i64 ((ED ((Br N y).take z.1)).getD i 0)]) (.tok 0 z.2.1)::.sl 4 (EB ((Br N y).take z.1)).length (fun i=>((EB ((Br N y).take z.1)).getD i default).row) (.tok 1 z.2.2)::cs)),[(1,z.2.2),(0,z.2.1)]⟩),inv:=fun z=>z.1<=(Br N y).length,mu:=fun z=>(Br N y).length-z.1 }
   |_=>none
  |_=>none }
def YK(a:Arr):Int:=Arr.k a
def VA(a:Arr):Prop:=SM (YK a)
def Ky(a:Arr):Nat:=LN (Arr.sh a)
def Qc9(a:Arr):Prop:=SM (Ky a)
def Qda(a:Arr)(b:Nat):Int:=GI (Arr.sh a) b
def Qdb(a:Arr):Prop:=Qc9 a/\(∀(i:Nat),i<Ky a->SM (Qda a i)/\True)/\True
def Qdc(a:Arr):Prop:=SM (LN (Arr.nu a))
def Qdd(a:Arr)(b:Nat):Int:=GI (Arr.nu a) b
def Qde(a:Arr):Prop:=SM (LN (Arr.it a))
def Kj:Arr:=DA
def YL(a:Arr)(b:Nat):List D:=Arr.row (List.getD (Arr.it a) b Kj)
def Qdf(a:Arr):Prop:=Qdb a/\True
def YM(a:Nat)(b:Arr):Prop:=SM a/\SM (ZI (YK b))
def YN:Nat×Arr:=(N0,Kj)
def Qdg(a:Arr)(b:Nat):Nat×Arr:=List.getD (rwL a) b YN
def QgZ(a:Arr)(b:Nat):Int:=(NI (Prod.fst (Qdg a b)))
def VB(a:Arr)(b:Nat):Arr:=Prod.snd (Qdg a b)
def Qg0(a:Arr)(b:Nat):Int:=Arr.k (VB a b)
def Qdh(a:Arr)(b:Nat):List Int:=Arr.sh (VB a b)
def Qdi(a:Arr)(b:Nat):Nat:=LN (Qdh a b)
def Qg1(a:Arr)(b c:Nat):Int:=GI (Qdh a b) c
def Qdj(a:Arr)(b:Nat):List Int:=Arr.nu (VB a b)
def Qdk(a:Arr)(b:Nat):Nat:=LN (Qdj a b)
def Qg2(a:Arr)(b c:Nat):Int:=GI (Qdj a b) c
def Qdl(a:Arr)(b:Nat):List Arr:=Arr.it (VB a b)
def Qdm(a:Arr)(b:Nat):Nat:=LN (Qdl a b)
def Qdn(a:Arr)(b c:Nat):List D:=Arr.row (List.getD (Qdl a b) c Kj)
def Qq(a:Nat)(b:Arr):List Rw:=Br a b
def YO(a:Arr)(b:Nat):List D:=[ZI (Qda a b)]
def YP(a:Arr):Prop:=Qc9 a/\(∀(i:Nat),i<Ky a->SM (YO a i))/\True
def Kz(a b:Nat)(c:Arr):Nat:=LN (ED (List.take a (Qq b c)))
def VC(a b:Nat)(c:Arr)(d:Nat):List D:=[ZI (GI (ED (List.take a (Qq b c))) d)]
def KA(a b:Nat)(c:Arr):Nat:=LN (EB (List.take a (Qq b c)))
def VD(a b:Nat)(c:Arr)(d:Nat):List D:=Arr.row (List.getD (EB (List.take a (Qq b c))) d Kj)
def YQ:Prop:=SM N0/\(∀(i:Nat),i<N0->Es (List D) [] [])/\True
def Qdo(a b:Nat)(c:Arr):Prop:=SM a/\(SM Z0/\YQ/\YQ/\YQ/\True)/\SM b/\(VA c/\YP c/\(Qdc c/\(∀(i:Nat),i<LN (Arr.nu c)->SM [ZI (Qdd c i)])/\True)/\(Qde c/\(∀(i:Nat),i<LN (Arr.it c)->SM (YL c i))/\True)/\True)/\True
def Qdp(a:Nat)(b:Arr)(c:Nat):Arr:=Prod.snd (List.getD (Qq a b) (Int.toNat (↑c:Int)) YN)
def Qdq(a:Nat)(b:Arr)(c:Nat):List Int:=Arr.nu (Qdp a b c)
def VE(a b:Nat)(c:Arr):Nat:=Kz a b c+LN (Qdq b c a)
def Qdr(a:Nat)(b:Arr)(c:Nat):List Arr:=Arr.it (Qdp a b c)
def VF(a b:Nat)(c:Arr):Nat:=KA a b c+LN (Qdr b c a)
def Qds(a:Nat)(b:Arr)(c:Nat):Nat×Arr:=List.getD (Qq a b) c YN
def VG(a:Nat)(b:Arr)(c:Nat):Arr:=Prod.snd (Qds a b c)
def Qg3(a:Nat)(b:Arr)(c:Nat):List Int:=Arr.sh (VG a b c)
def Qg4(a:Nat)(b:Arr)(c:Nat):List Int:=Arr.nu (VG a b c)
def Qdt(a:Nat)(b:Arr)(c:Nat):List Arr:=Arr.it (VG a b c)
def Qg5(a:Nat)(b:Arr):D:=D.sl 5 (LN (Qq a b)) (fun i=>[ZI (NI (Prod.fst (Qds a b i))),ZI (Arr.k (VG a b i)),SI (Qg3 a b i),SI (Qg4 a b i),D.sl N4 (LN (Qdt a b i)) (fun i_1=>Arr.row (List.getD (Qdt a b i) i_1 Kj)) Mode.any]) Mode.any
def Qdu(a:Nat)(b:Arr)(c d e:Nat):Prop:=YM a b/\SM c/\∃(_x:Unit),((SM (LN (rwL b))/\(∀(i:Nat),i<LN (rwL b)->SM (QgZ b i)/\SM (Qg0 b i)/\(SM (Qdi b i)/\(∀(i_1:Nat),i_1<Qdi b i->SM (Qg1 b i i_1)/\True)/\True)/\(SM (Qdk b i)/\(∀(i_1:Nat),i_1<Qdk b i->SM (Qg2 b i i_1)/\True)/\True)/\(SM (Qdm b i)/\(∀(i_1:Nat),i_1<Qdm b i->wkL (Qdn b i i_1) (Qdn b i i_1))/\True)/\True)/\True)/\SM (D.fn (Fn.func (26:Nat)) [] [])/\True)/\∀(_y:Unit),True->∀(t t_1:Nat),(∃(x:Nat×Nat×Nat),x.1<=LN (Qq d b)/\(Z0=(NI x.1)/\True)/\(SM c/\(VA b/\YP b/\(N0=Kz x.1 d b/\(∀(i:Nat),i<N0->Es (List D) [] (VC x.1 d b i))/\t=x.2.1)/\(N0=KA x.1 d b/\(∀(i:Nat),i<N0->Es (List D) [] (VD x.1 d b i))/\t_1=x.2.2)/\True)/\Qdo e a b)/\t_1=x.2.2/\t=x.2.1/\True)/\∀(x:Nat×Nat×Nat),x.1<=LN (Qq d b)->ifB (decide ((NI x.1)<(LI (Qq d b)))) (Bd (Z0<=(NI x.1)/\(NI x.1)<(LI (Qq d b))) (∀(x_1:Nat),c≠x_1/\e≠x_1/\a≠x_1/\True->SM x_1/\SM c/\SM x_1/\SM x.2.1/\Bd (VE x.1 d b*8<=140737488355328/\VE x.1 d b<=9223372036854775807) (∀(t:Nat),SM c/\SM c/\SM x_1/\SM x.2.2/\Bd (VF x.1 d b*80<=140737488355328/\VF x.1 d b<=9223372036854775807) (∀(t_2:Nat),SM c/\(SM (D.ref (max (N0+N1) N0) e N0)/\SM (D.ref (max N2 (max (N0+N1) N0)+nat_lit 6) c N0)/\SM (Qg5 d b)/\SM (ZI (LI (Qq d b)))/\True)/\∃(y:Nat×Nat×Nat),y.1<=LN (Qq d b)/\LN (Qq d b)-y.1<LN (Qq d b)-x.1/\(IntKind.wrap IntKind.i64 ((NI x.1)+Z1)=(NI y.1)/\True)/\(SM c/\(VA b/\YP b/\(VE x.1 d b=Kz y.1 d b/\(∀(i:Nat),i<VE x.1 d b->BB (Kz x.1 d b) (fun i=>VC x.1 d b i) (fun i=>[ZI (GI (Qdq d b x.1) i)]) i=VC y.1 d b i)/\t=y.2.1)/\(VF x.1 d b=KA y.1 d b/\(∀(i:Nat),i<VF x.1 d b->BB (KA x.1 d b) (fun i=>VD x.1 d b i) (fun i=>Arr.row (List.getD (Qdr d b x.1) i Kj)) i=VD y.1 d b i)/\t_2=y.2.2)/\True)/\Qdo e a b)/\t_2=y.2.2/\t=y.2.1/\True)))) (SM c/\SM e/\(SM e/\True)/\∃(_y:Unit),True/\((YK b=Arr.k (B9 d b)/\(Ky b=LN (Arr.sh (B9 d b))/\(∀(i:Nat),i<Ky b->YO b i=[ZI (GI (Arr.sh (B9 d b)) i)])/\True)/\(Kz x.1 d b=LN (Arr.nu (B9 d b))/\(∀(i:Nat),i<Kz x.1 d b->VC x.1 d b i=[ZI (GI (Arr.nu (B9 d b)) i)])/\True)/\(KA x.1 d b=LN (Arr.it (B9 d b))/\(∀(i:Nat),i<KA x.1 d b->VD x.1 d b i=Arr.row (List.getD (Arr.it (B9 d b)) i Kj))/\True)/\True)/\SM Z0/\True)/\True/\True)
def Qg6(a:Arr):D:=D.sl N1 (Ky a) (fun i=>YO a i) Mode.any
theorem BeB(N:Nat)(y:Arr)(h:GrH N y):CD 8 [.agg y.row1] (.tup [.agg (B9 N y).row1,.int .i64 0]):=by
 refine Bh (A:=sC _ _) (x:=()) (E:=Eso N y) (eOk (U5 (.inr rfl) h) rfl) Try.func8 rfl (by kernel_rfl) rfl (by simp[sC,Eso,EC,E0]) ?_
 refine Bl (T :=
  ∀(x:Nat),True->∀(x_1:Nat),x≠x_1/\True->SM x/\∃(x_2:Unit),((VA y/\Qdb y/\(Qdc y/\(∀(i:Nat),i<LN (Arr.nu y)->SM (Qdd y i)/\True)/\True)/\(Qde y/\(∀(i:Nat),i<LN (Arr.it y)->wkL (YL y i) (YL y i))/\True)/\True)/\True)/\∀(y_1:Unit),True->SM x/\SM x/\(∃(x_3:Unit),Qdf y/\∀(y_2:Unit),True->YM x y/\∀(x_4:Nat),x_1≠x_4/\x≠x_4/\True->Qdu x y x_4 N x_1)/\∀(x_3:Nat),x_1≠x_3/\x≠x_3/\True->(SM x/\SM (Qg6 y))/\YM x y/\∃(x_4:Unit),Qdf y/\∀(y_2:Unit),True->Qdu x y x_3 N x_1) (by kernel_rfl) ?_
 delta DA GI LI LN N0 N1 N2 N4 NI SI SM Z0 Z1 ZI YK VA Ky Qc9 Qda Qdb Qdc Qdd Qde Kj YL Qdf YM YN Qdg QgZ VB Qg0 Qdh Qdi Qg1 Qdj Qdk Qg2 Qdl Qdm Qdn Qq YO YP Kz VC KA VD YQ Qdo Qdp Qdq VE Qdr VF Qds VG Qg3 Qg4 Qdt Qg5 Qdu Qg6
 have da:(default:Arr)=Arr.mk 0 [] [] []:=rfl
 simp only[<- da]
 simp only[ne_eq,implies_true,Int.toNat_natCast,Bj,Bc,decide_eq_true_eq,decide_eq_false_iff_not,true_and,and_true,exists_const,forall_const,Prod.exists]
 obtain ⟨q1,q2⟩:=Bc0 h
 obtain ⟨_,_,s6⟩:=Bz h.v.c
 have n6:y.nu.length<=65536/\y.it.length<=65536:=by
  have f4:=(Cj.1 (Cv h.v.c)).2.2.2
  unfold szN at s6
  by_cases hk:y.k=3
  ·rw[if_pos hk] at s6 f4;omega
  ·rw[if_neg hk] at s6 f4;omega
 have hs:=h.slen
 have an:∀(a b:List Int) (i:Nat),BB a.length (fun i=>[D.int .i64 (a.getD i 0)]) (fun i=>[D.int .i64 (b.getD i 0)]) i=[D.int .i64 ((a++b).getD i 0)]:=fun a b i=>by
  rw[BB]
  split
  ·rename_i hi;rw[List.getD_eq_getElem?_getD,List.getD_eq_getElem?_getD,List.getElem?_append_left hi]
  ·rename_i hi;rw[List.getD_eq_getElem?_getD,List.getD_eq_getElem?_getD,List.getElem?_append_right (by omega)]
 have ai:∀(a b:List Arr) (i:Nat),BB a.length (fun i=>(a.getD i default).row) (fun i=>(b.getD i default).row) i=((a++b).getD i default).row:=fun a b i=>by
  rw[BB]
  split
  ·rename_i hi;rw[List.getD_eq_getElem?_getD,List.getD_eq_getElem?_getD,List.getElem?_append_left hi]
  ·rename_i hi;rw[List.getD_eq_getElem?_getD,List.getD_eq_getElem?_getD,List.getElem?_append_right (by omega)]
 refine fun x x1 _=>⟨fun _ _=>Be _,?_,?_⟩
 all_goals
  refine fun x4 _=>⟨fun _ _ _ _=>Be _,fun t t1=>⟨⟨0,t,t1,Nat.zero_le _,rfl,⟨⟨rfl,(fun i hi=>absurd hi (Nat.not_lt_zero i)),rfl⟩,rfl,(fun i hi=>absurd hi (Nat.not_lt_zero i)),rfl⟩,rfl,rfl⟩,?_⟩⟩
  rintro ⟨i,t2,t3⟩ hi
  simp only at hi ⊢
  refine⟨fun hlt=>?_,fun hge=>?_⟩
  ·have hlt:i<(Br N y).length:=by omega
   have e1:=Bao hlt
   have e2:=BaC hlt
   have b1:=Bda (Br N y) (i+1)
   have b2:=Bdt (Br N y) (i+1)
   rw[q1,e1,List.length_append] at b1
   rw[q2,e2,List.length_append] at b2
   refine⟨⟨by omega,by omega⟩,fun x5 _=>⟨⟨by omega,by omega⟩,fun t4=>⟨⟨by omega,by omega⟩,fun t5=>⟨i+1,t4,t5,by omega,by omega,Bb (by omega) (by omega),⟨⟨?_,(fun j hj=>?_),rfl⟩,?_,(fun j hj=>?_),rfl⟩,rfl,rfl⟩⟩⟩⟩
   ·rw[e1,List.length_append]
   ·rw[an,e1]
   ·rw[e2,List.length_append]
   ·rw[ai,e2]
  ·obtain rfl:i=(Br N y).length:=by omega
   rw[List.take_length]
   exact⟨rfl,⟨rfl,fun _ _=>rfl⟩,⟨rfl,fun _ _=>rfl⟩,rfl,fun _ _=>rfl⟩
def groRen:Go.Shelf.Ren:=⟨fun | 4=>48 | n=>n,fun | 0=>0 | 3=>3 | 4=>4 | 9=>9 | 20=>20 | 22=>23 | 25=>3 | n=>n,fun n=>n⟩
theorem Bdr:Go.Proofs.Lays8.n4 Try.prog groRen:={
 mixed:=by kernel_rfl
 f4:=⟨Try.f48.name,by kernel_rfl,Try.func48.trans (congrArg some (by kernel_rfl))⟩
 t0:=Try.underlying0
 a0:=Try.isAgg0
 z0:=Try.sizeOf0
 v0:=Try.zeroValue0
 t3:=Try.underlying3
 a3:=Try.isAgg3
 z3:=Try.sizeOf3
 v3:=Try.zeroValue3
 t4:=Try.underlying4
 a4:=Try.isAgg4
 z4:=Try.sizeOf4
 v4:=Try.zeroValue4
 t9:=Try.underlying9
 a9:=Try.isAgg9
 z9:=Try.sizeOf9
 v9:=Try.zeroValue9
 t20:=Try.underlying20
 a20:=Try.isAgg20
 z20:=Try.sizeOf20
 v20:=Try.zeroValue20
 t22:=Try.underlying23
 a22:=Try.isAgg23
 z22:=Try.sizeOf23
 v22:=Try.zeroValue23 }
def Bbc(k n:Nat):FnSpec where
 β:=Unit
 α:=Nat×Nat
 args:=fun _=>[.sl 1 0 (fun _=>[]) .nil,.int .i64 (n:Nat)]
 st:=fun _=>⟨[],[]⟩
 pre:=fun _=>0<n/\n<=1000000
 post:=fun _ y=>n<=y.2
 res:=fun _ y=>.ret (.vs k y.1 0 y.2 1)
 out:=fun _ y=>⟨[(k,y.1,.vec 1 0 y.2 (fun _=>[]))],[]⟩
theorem BeJ(n:Nat)(h:0<n/\n<=1000000):ACalls Try.prog 48 ((Bbc 99 n).args ()) ((Bbc 99 n).st ()) (SpecR (Bbc 99 n) ()):=by
 refine⟨⟨_,Try.func48,by kernel_rfl,by kernel_rfl⟩,fun C F args w ha hs=>?_⟩
 simp only[Bbc,RepL,Rep] at ha
 obtain ⟨v1,l1,e1,r1,v2,l2,e2,rfl,e4⟩:=ha
 obtain ⟨base,len,cap,rfl,⟨h1,h2,h3,h4,h5,h6⟩,_⟩:=r1
 obtain rfl:=h6
 obtain rfl:len=0:=h1
 obtain rfl:cap=0:=(h4 rfl).2
 have ea:args=#[.slice none 0 0,.int .i64 (n:Nat)]:=by
  have:args.toList=[.slice none 0 0,.int .i64 (n:Nat)]:=by rw[e1,e2,e4]
  rw[<- this]
 subst ea
 obtain ⟨i,ei,ez,es,eb⟩:∃i,Try.prog.info? 3=some i/\i.zero=some (.int .i64 0)/\i.size=1/\i.bytes=8:=by
  have hi:(Try.prog.info? 3).map (fun i=>(i.zero,i.size,i.bytes))=some (some (.int .i64 0),1,8):=by kernel_rfl
  cases hh:Try.prog.info? 3 with
  |none=>rw[hh] at hi;cases hi
  |some i =>
   rw[hh] at hi
   simp only[Option.map_some,Option.some.injEq,Prod.mk.injEq] at hi
   exact⟨i,rfl,hi⟩
 refine (Any8.slices_Grow_grow Bdr i (.int .i64 0) ei ez (by omega) none 0 0 n [] w (Nat.le_refl _) (by omega) (by rw[eb];omega) (by omega) (by simp) (fun _=>rfl) (fun a ha=>by cases ha)).mono ?_
 rintro e w' ⟨rfl,rfl⟩
 have hG:n<=grownCap w (0+n) 0 (groRen.t 25):=by have:=grownCap_ge w (0+n) 0 (groRen.t 25);omega
 have hG63:=grownCap_le_maxLen w (0+n) 0 (groRen.t 25) (by simp only[maxLen];omega)
 generalize grownCap w (0+n) 0 (groRen.t 25)=G at *
 generalize hA:List.toArray ([]:List Value)++Builtin.zeroCells (Value.int IntKind.i64 0).cells (0+n-0)++Builtin.zeroCells (Value.int IntKind.i64 0).cells (G-(0+n))=A at *
 have hAs:A.size=G:=by
  rw[<- hA]
  simp[Builtin.zeroCells,Value.cells]
  omega
 have H0:=hs.drew.alloc_own (.cells A (groRen.t 25)) (.vec 1 0 G (fun _=>[])) 99 fun w' hw=>⟨Nat.zero_le _,fun i hi=>absurd hi (Nat.not_lt_zero i),A,_,(0,0),hw,rfl,by
  have e:BO 1 0 G (fun _=>[])=List.replicate A.toList.length .unk:=by
   rw[Array.length_toList,hAs]
   simp[BO]
  rw[e]
  exact RepL.unks _⟩
 refine⟨C,.ret (.vs 99 w.heap.size 0 G 1),⟨[(99,w.heap.size,.vec 1 0 G (fun _=>[]))],[]⟩,.refl C,H0,?_,(w.heap.size,G),hG,rfl,rfl⟩
 simp only[RepEnd,Rep]
 exact⟨trivial,Nat.zero_le _,hG63⟩
def EA(l:List (List Int)):Nat:=l.flatten.length
def BbJ(N:Nat):Con:=fun k ds _S=>match k with
 |48=>some ((Bbc 99 N).fits () (ds=[.sl 1 0 (fun _=>[]) .nil,.int .i64 (N:Nat)]))
 |_=>none
theorem BcD{N:Nat}:ConOk Try.prog (BbJ N):=by
 intro k ds S A hh
 unfold BbJ at hh
 split at hh
 ·injection hh with hh;subst hh
  exact FnSpec.fits_ok (fun _ hy=>BeJ _ hy) fun e=>by rw[e];exact⟨Bq _,R5 S⟩
 ·cases hh
theorem Tc{l:List (List Int)}{i:Nat}(h:i<l.length):(l.take (i+1)).flatten=(l.take i).flatten++l.getD i []:=by
 have e:l.take (i+1)=l.take i++[l.getD i []]:=Eo (show i<l.length from h)
 rw[e,List.flatten_append,List.flatten_singleton]
theorem Bdi(l:List (List Int))(i:Nat):EA (l.take i)<=EA l:=by
 have:=congrArg (fun l=>l.flatten.length) (List.take_append_drop i l)
 simp only[List.flatten_append,List.length_append] at this
 simp only[EA];omega
noncomputable def Ecc(l:List (List Int)):Senv:={ EC (BbJ (EA l)) 36 1 [2,3,5,6,8,9,10,11,12,20,25,26,27,28] (fun _=>([],[])) with
 gr:=[.slot 2]
 ann:=fun b env S=>match b with
  |0=>some { slots:=[11,3],keep:=[0,9,10],α:=Nat,st:=fun i=>([.int .i64 i,.int .i64 (EA (l.take i))],S),inv:=fun i=>i<=l.length,mu:=fun i=>l.length-i }
  |2=>some { slots:=[27,6],keep:=[25,26],α:=Nat×Nat×Nat×Nat×(Nat->List D),st:=fun y=>([.int .i64 y.1,.vs (vsK (Ab.look env 6)) y.2.1 (EA (l.take y.1)) y.2.2.2.1 1],⟨(vsK (Ab.look env 6),y.2.1,.vec 1 y.2.2.1 y.2.2.2.1 y.2.2.2.2)::BP S.objs (vsK (Ab.look env 6)),S.toks⟩),inv:=fun y=>y.1<=l.length/\EA (l.take y.1)<=y.2.2.1/\∀j,j<EA (l.take y.1)->y.2.2.2.2 j=[.int .i64 ((l.take y.1).flatten.getD j 0)],mu:=fun y=>l.length-y.1 }
  |_=>none }
def Qw(a:Nat)(b:List (List Int)):Nat:=EA (List.take a b)
def VH(a:Nat)(b:List (List Int)):Int:=(NI (Qw a b))
def Qdv(a:Nat)(b:List (List Int)):Int:=IntKind.wrap IntKind.i64 (VH a b+(LI (List.getD b (Int.toNat (↑a:Int)) [])))
def Qg7(a:List (List Int)):D:=D.sl N1 (LN a) (fun i=>[SI (List.getD a i [])]) Mode.any
def Qdw(a:List (List Int)):Prop:=SM (Qg7 a)
def Qdx(a:List (List Int)):Prop:=Qdw a/\SM (ZI (LI a))/\True
def YR(a:Nat)(b:List (List Int))(c:Nat)(d:Nat->List D):Prop:=a<=LN b/\Qw a b<=c/\∀(j:Nat),j<Qw a b->d j=[ZI (GI (List.flatten (List.take a b)) j)]
def KB(a:Nat)(b:List (List Int)):Nat:=Qw a b+LN (List.getD b (Int.toNat (↑a:Int)) [])
theorem BeZ(l:List (List Int))(h:0<EA l/\EA l<=1000000)(hl:l.length<=100):CD 28 [gsl 1 (fun s=>[isl s .any]) l] (isl l.flatten .any):=by
 refine Bh (A:=sC _ _) (x:=()) (E:=Ecc l) (eOk BcD rfl) Try.func28 rfl (by kernel_rfl) rfl (by simp[sC,Ecc,EC,E0]) ?_
 refine Bl (T :=
  (∃(x:Nat),x<=LN l/\(Z0=(↑x:Int)/\Z0=VH x l/\True)/\True/\True)/\∀(x:Nat),x<=LN l->ifB (decide ((↑x:Int)<(LI l))) (Bd (Z0<=(↑x:Int)/\(↑x:Int)<(LI l)) (ifB (decide (Qdv x l<Z0)) (∃(y:Unit),True/\False/\True/\True) ((Qdw l/\Qdx l)/\∃(y:Nat),y<=LN l/\LN l-y<LN l-x/\(IntKind.wrap IntKind.i64 ((↑x:Int)+Z1)=(↑y:Int)/\Qdv x l=VH y l/\True)/\True/\True))) (([D.sl N1 N0 (fun x=>[]) Mode.nil,ZI (VH x l)]=[D.sl N1 N0 (fun x=>[]) Mode.nil,ZI (NI (EA l))]/\N0<EA l/\EA l<=1000000)/\∀(y:Nat×Nat),EA l<=y.2->(∃(x:Nat×Nat×Nat×Nat×(Nat->List D)),YR x.1 l x.2.2.1 x.2.2.2.2/\(Z0=(NI x.1)/\(y.1=x.2.1/\N0=Qw x.1 l/\y.2=x.2.2.2.1)/\True)/\(y.1=x.2.1/\(N0=x.2.2.1/\y.2=x.2.2.2.1/\∀(i:Nat),i<N0->Es (List D) [] (x.2.2.2.2 i))/\True)/\True)/\∀(x:Nat×Nat×Nat×Nat×(Nat->List D)),YR x.1 l x.2.2.1 x.2.2.2.2->ifB (decide ((NI x.1)<(LI l))) (Bd (Z0<=(NI x.1)/\(NI x.1)<(LI l)) (SM x.2.1/\SM x.2.2.2.1/\Bd (Qw x.1 l<=x.2.2.1/\KB x.1 l*8<=140737488355328/\KB x.1 l<=9223372036854775807) (∀(y cap':Nat),KB x.1 l<=cap'->Qdx l/\∃(y_1:Nat×Nat×Nat×Nat×(Nat->List D)),YR y_1.1 l y_1.2.2.1 y_1.2.2.2.2/\LN l-y_1.1<LN l-x.1/\(IntKind.wrap IntKind.i64 ((NI x.1)+Z1)=(NI y_1.1)/\(y=y_1.2.1/\KB x.1 l=Qw y_1.1 l/\cap'=y_1.2.2.2.1)/\True)/\(y=y_1.2.1/\(KB x.1 l=y_1.2.2.1/\cap'=y_1.2.2.2.1/\∀(i:Nat),i<KB x.1 l->BB (Qw x.1 l) x.2.2.2.2 (fun i=>[ZI (GI (List.getD l (TN x.1) []) i)]) i=y_1.2.2.2.2 i)/\True)/\True))) (SM x.2.1/\SM x.2.2.2.1/\Bd (Qw x.1 l<=x.2.2.1) ((∀(i:Nat),i<Qw x.1 l->List.all (x.2.2.2.2 i) B6=true)/\∀(t:Nat),True/\∃(y:Unit),True/\(Qw x.1 l=LN (List.flatten l)/\(∀(i:Nat),i<Qw x.1 l->x.2.2.2.2 i=[ZI (GI (List.flatten l) i)])/\True)/\True/\True)))) (by kernel_rfl) ?_
 delta GI LI LN N0 N1 NI SI SM TN Z0 Z1 ZI Qw VH Qdv Qg7 Qdw Qdx YR KB
 simp only[eq_self,Int.toNat_natCast,Bj,Bc,decide_eq_true_eq,decide_eq_false_iff_not,true_and,and_true,exists_const,forall_const,Prod.exists]
 have st:∀i,i<l.length->EA (l.take (i+1))=EA (l.take i)+(l.getD i []).length:=fun i hi=>by rw[EA,Tc hi,List.length_append];rfl
 have le:=Bdi l
 refine⟨⟨0,Nat.zero_le _,rfl,rfl⟩,fun i hi=>⟨fun hlt=>?_,fun hge=>?_⟩⟩
 ·have hlt:i<l.length:=by omega
  have e:=st i hlt
  have:=le (i+1)
  have w1:IntKind.i64.wrap ((EA (l.take i):Int)+((l.getD i []).length:Nat))=((EA (l.take (i+1)):Nat):Int):=by rw[Bb (by omega) (by omega)];omega
  rw[w1]
  exact⟨⟨by omega,by omega⟩,fun q=>by omega,fun _=>⟨i+1,by omega,by omega,Bb (by omega) (by omega),rfl⟩⟩
 ·obtain rfl:i=l.length:=by omega
  rw[List.take_length]
  refine⟨⟨rfl,h⟩,fun y hy=>⟨⟨0,y.1,0,y.2,fun _=>[],⟨Nat.zero_le _,Nat.le_refl _,fun j hj=>absurd hj (Nat.not_lt_zero j)⟩,⟨rfl,rfl,rfl,rfl⟩,rfl,rfl,rfl,fun i hi=>absurd hi (Nat.not_lt_zero i)⟩,?_⟩⟩
  rintro ⟨i,y,n,cap,f⟩ ⟨i1,i2,i3⟩
  simp only at i1 i2 i3 ⊢
  refine⟨fun hlt=>?_,fun hge=>?_⟩
  ·have hlt:i<l.length:=by omega
   have e:=st i hlt
   have:=le (i+1)
   refine⟨⟨by omega,by omega⟩,⟨i2,by omega,by omega⟩,fun y2 c2 hc2=>⟨i+1,y2,EA (l.take (i+1)),c2,_,⟨by omega,Nat.le_refl _,fun j hj=>?_⟩,by omega,⟨Bb (by omega) (by omega),rfl,e.symm,rfl⟩,rfl,e.symm,rfl,fun _ _=>rfl⟩⟩
   rw[BB,Tc hlt]
   split
   ·rename_i hj2
    rw[i3 j hj2,List.getD_eq_getElem?_getD,List.getD_eq_getElem?_getD,List.getElem?_append_left hj2]
   ·rename_i hj2
    rw[List.getD_eq_getElem?_getD (l:=(l.take i).flatten++_),List.getElem?_append_right (by simp only[EA] at hj2;omega),<- List.getD_eq_getElem?_getD];rfl
  ·obtain rfl:i=l.length:=by omega
   rw[List.take_length] at i2 i3 ⊢
   exact⟨i2,fun j hj=>by rw[i3 j hj];rfl,rfl,fun j hj=>i3 j hj⟩
noncomputable def Esp:Senv:=EC C7 16 3 [4,5,11] (fun _=>([],[]))
def Ja(a:Arr):Int:=Arr.k a
def YS(a:Arr):Int:=BG (Ja a) (LN (Arr.nu a)) (LN (Arr.it a))
def Qdy(a:Nat)(b:Arr):Prop:=SM a/\True/\∃(_y:Unit),True/\(LI (Arr.nu b))=YS b/\True/\True
def Qdz(a:Arr)(b:Nat):Prop:=ifB (Ja a==3) (SM b/\True/\∃(_y:Unit),True/\(LI (Arr.it a))=YS a/\True/\True) (True/\∃(_y:Unit),True/\Z0=YS a/\True/\True)
theorem Bev(a:Arr):CD 77 [.agg a.row2] (.int .i64 (BG a.k a.nu.length a.it.length)):=by
 refine Bh (A:=sC _ _) (x:=()) (E:=Esp) (eOk BA rfl) Try.func77 rfl (by kernel_rfl) rfl (by simp[sC,Esp,EC,E0]) ?_
 refine Bl (T :=
  ∀(x:Nat),True->SM x/\ifB (Ja a==Z1) (ifB (Ja a==Z1) (Qdy x a) (Qdz a x)) (ifB (Ja a==2) (Qdy x a) (Qdz a x))) (by kernel_rfl) ?_
 delta LI LN SM Z0 Z1 Ja YS Qdy Qdz
 have da:(default:Arr)=Arr.mk 0 [] [] []:=rfl
 simp only[]
 simp only[ne_eq,Bj,true_and,and_true,beq_iff_eq,beq_eq_false_iff_ne,exists_const,forall_const]
 refine⟨fun h=>⟨fun _=>by simp[BG,h],fun q=>absurd h q⟩,fun h=>⟨fun h2=>by simp[BG,h2],fun h2=>⟨fun h3=>by simp[BG,h3],fun h3=>by simp[BG,h,h2,h3]⟩⟩⟩
theorem TA(k:Int)(l:List Arr){n:Int}(h:262144<n):wtL k l n=n:=by
 cases l with
 |nil=>rw[wtL]
 |cons x r=>rw[wtL,if_neg (by omega)]
theorem U8{k:Int}(h:k≠3)(l:List Arr)(n:Int):wtL k l n=n:=by
 cases l with
 |nil=>rw[wtL]
 |cons x r=>rw[wtL,if_neg (fun q=>h q.1)]
theorem Ba1(k:Int)(l:List Arr)(n:Int):min (wtL k l (if 262145<n then 262145 else n)) 262145=min (wtL k l n) 262145:=by
 split
 ·rw[TA k l (show (262144:Int)<262145 by omega),TA k l (show 262144<n by omega)]
  omega
 ·rfl
def Bb1(its:List Arr):Con:=fun k ds S=>match k with
 |77=>some (pE (β:=Arr) ds S (fun b=>.int .i64 (BG b.k b.nu.length b.it.length)) (fun b=>wkL ds [.agg b.row2]))
 |53=>some (pE (β:=Arr) ds S (fun b=>.int .i64 (wtA b)) (fun b=>wkL ds [.agg b.row1]/\b∈its))
 |_=>none
theorem Bcu{its:List Arr}(ih:∀b∈its,CD 53 [.agg b.row2] (.int .i64 (wtA b))):ConOk Try.prog (Bb1 its):=by
 intro k ds S A h
 unfold Bb1 at h
 split at h
 ·injection h with h;subst h
  exact Cn fun b hb=>CD.at_ (CD.wk (Bev b) hb) _
 ·injection h with h;subst h
  refine Cn fun b ⟨hb,hm⟩=>CD.at_ (CD.wk (CD.wk (ih b hm) ?_) hb) _
  simp only[wkL,wkD]
  exact⟨CE b,trivial⟩
 ·cases h
noncomputable def Ewp(a:Arr):Senv:={ EC (Bb1 a.it) 30 4 [5,11,14,15,16,17,21] (fun _=>([],[])) with
 ann:=fun b _ S=>match b with
  |0=>some { slots:=[3,16],keep:=[1,14,15],α:=Nat×Int,st:=fun y=>([.int .i64 y.2,.int .i64 y.1],S),inv:=fun y=>y.1<=a.it.length/\0<=y.2/\y.2<=262145/\min (wtL a.k (a.it.drop y.1) y.2) 262145=wtA a,mu:=fun y=>a.it.length-y.1 }
  |_=>none }
def Kk(a:Arr):Int:=Arr.k a
def KC(a:Arr):Nat:=LN (Arr.sh a)
def VI(a:Arr)(b:Nat):Int:=GI (Arr.sh a) b
def Kl(a:Arr):Nat:=LN (Arr.nu a)
def VJ(a:Arr)(b:Nat):Int:=GI (Arr.nu a) b
def Jb(a:Arr):List Arr:=Arr.it a
def Qx(a:Arr):Nat:=LN (Jb a)
def VK:Arr:=DA
def Jc(a:Arr)(b:Nat):Arr:=List.getD (Jb a) b VK
def YT(a:Arr)(b:Nat):Int:=Arr.k (Jc a b)
def QdA(a:Arr)(b:Nat):List Int:=Arr.sh (Jc a b)
def VL(a:Arr)(b:Nat):Nat:=LN (QdA a b)
def YU(a:Arr)(b c:Nat):Int:=GI (QdA a b) c
def QdB(a:Arr)(b:Nat):List Int:=Arr.nu (Jc a b)
def VM(a:Arr)(b:Nat):Nat:=LN (QdB a b)
def YV(a:Arr)(b c:Nat):Int:=GI (QdB a b) c
def QdC(a:Arr)(b:Nat):List Arr:=Arr.it (Jc a b)
def VN(a:Arr)(b:Nat):Nat:=LN (QdC a b)
def YW(a:Arr)(b c:Nat):List D:=Arr.row (List.getD (QdC a b) c VK)
def QdD(a:Arr):Int:=BG (Kk a) (Kl a) (Qx a)
def QdE(a:Arr):Int:=if (262145:Int)<QdD a then (262145:Int) else QdD a
def Jd(a:Arr):Int:=wtA a
def YX(a:Nat)(b:Arr)(c:Int):Prop:=a<=Qx b/\Z0<=c/\c<=262145/\min (wtL (Kk b) (List.drop a (Jb b)) c) (262145:Int)=Jd b
def QdF(a:Arr)(b:Nat):List D:=[ZI (YT a b),D.sl N1 (VL a b) (fun i=>[ZI (YU a b i)]) Mode.any,D.sl N1 (VM a b) (fun i=>[ZI (YV a b i)]) Mode.any,D.sl N4 (VN a b) (fun i=>YW a b i) Mode.any]
def QdG(a:Nat)(b:Arr):Prop:=(SM a/\(SM (Kk b)/\(SM (KC b)/\(∀(i:Nat),i<KC b->SM [ZI (VI b i)])/\True)/\(SM (Kl b)/\(∀(i:Nat),i<Kl b->SM [ZI (VJ b i)])/\True)/\(SM (Qx b)/\(∀(i:Nat),i<Qx b->SM (QdF b i))/\True)/\True)/\True)/\True
def YY(a:Arr):Int:=(NI (Qx a))
def QdH(a:Int)(b:Arr):Prop:=True/\∃(_y:Unit),True/\a=Jd b/\True/\True
def VO(a:Arr)(b:Nat):Arr:=List.getD (Jb a) (Int.toNat (↑b:Int)) VK
def QdI(a:Arr)(b:Nat):List Int:=Arr.sh (VO a b)
def QdJ(a:Arr)(b:Nat):Nat:=LN (QdI a b)
def QdK(a:Arr)(b:Nat):List Int:=Arr.nu (VO a b)
def QdL(a:Arr)(b:Nat):Nat:=LN (QdK a b)
def QdM(a:Arr)(b:Nat):List Arr:=Arr.it (VO a b)
def QdN(a:Arr)(b:Nat):Nat:=LN (QdM a b)
def Qg8(a:Arr):D:=D.sl N4 (Qx a) (fun i=>QdF a i) Mode.any
theorem Bds(a : Arr)(ha : a.nu.length<=maxLen /\ a.it.length<=maxLen /\ a.sh.length<=maxLen)(ih : ∀b∈a.it, CD 53 [.agg b.row2] (.int .i64 (wtA b))) :
  CD 53 [.agg a.row2] (.int .i64 (wtA a)):=by
 refine Bh (A:=sC _ _) (x:=()) (E:=Ewp a) (eOk (Bcu ih) rfl) Try.func53 rfl (by kernel_rfl) rfl (by simp[sC,Ewp,EC,E0]) ?_
 refine Bl (T :=
  ∀(x:Nat),True->SM x/\∃(x_1:Arr),((Kk a=Kk x_1/\(KC a=KC x_1/\(∀(i:Nat),i<KC a->VI a i=VI x_1 i/\True)/\True)/\(Kl a=Kl x_1/\(∀(i:Nat),i<Kl a->VJ a i=VJ x_1 i/\True)/\True)/\(Qx a=Qx x_1/\(∀(i:Nat),i<Qx a->YT a i=YT x_1 i/\(VL a i=VL x_1 i/\(∀(i_1:Nat),i_1<VL a i->YU a i i_1=YU x_1 i i_1/\True)/\True)/\(VM a i=VM x_1 i/\(∀(i_1:Nat),i_1<VM a i->YV a i i_1=YV x_1 i i_1/\True)/\True)/\(VN a i=VN x_1 i/\(∀(i_1:Nat),i_1<VN a i->wkL (YW a i i_1) (YW x_1 i i_1))/\True)/\True)/\True)/\True)/\True)/\∀(y:Unit),True->SM x/\ifB (Kk a != (3:Int)) (RT (QdE x_1=Jd a)) (SM x/\(∃(x_2:Nat×Int),YX x_2.1 a x_2.2/\(QdE x_1=x_2.2/\Z0=(NI x_2.1)/\True)/\QdG x a)/\∀(x_2:Nat×Int),YX x_2.1 a x_2.2->ifB (decide ((NI x_2.1)<YY a)) (Bd (Z0<=(NI x_2.1)/\(NI x_2.1)<YY a) (∀(x_3:Nat),x≠x_3/\True->SM x_3/\ifB (decide ((262144:Int)<x_2.2)) (QdH x_2.2 a) (SM x_3/\∃(x_4:Arr),(((Arr.k (VO a x_2.1)=Kk x_4/\(QdJ a x_2.1=KC x_4/\(∀(i:Nat),i<QdJ a x_2.1->GI (QdI a x_2.1) i=VI x_4 i/\True)/\True)/\(QdL a x_2.1=Kl x_4/\(∀(i:Nat),i<QdL a x_2.1->GI (QdK a x_2.1) i=VJ x_4 i/\True)/\True)/\(QdN a x_2.1=Qx x_4/\(∀(i:Nat),i<QdN a x_2.1->wkL (Arr.row (List.getD (QdM a x_2.1) i VK)) (Arr.row (Jc x_4 i)))/\True)/\True)/\True)/\x_4∈Jb a)/\∀(y:Unit),True->(SM (D.ref N0 x N0)/\SM (Qg8 a)/\SM (ZI (YY a))/\True)/\∃(y:Nat×Int),YX y.1 a y.2/\Qx a-y.1<Qx a-x_2.1/\((if (262145:Int)<IntKind.wrap IntKind.i64 (x_2.2+Jd x_4) then (262145:Int) else IntKind.wrap IntKind.i64 (x_2.2+Jd x_4))=y.2/\IntKind.wrap IntKind.i64 ((NI x_2.1)+Z1)=(NI y.1)/\True)/\QdG x a))) (QdH x_2.2 a))) (by kernel_rfl) ?_
 delta DA GI LN N0 N1 N4 NI SM Z0 Z1 ZI Qx VK Jc YT QdA VL YU QdB VM YV QdC VN YW QdD QdE Jd YX QdF QdG YY QdH VO QdI QdJ QdK QdL QdM QdN Qg8 Kk KC VI Kl VJ Jb RT
 have da:(default:Arr)=Arr.mk 0 [] [] []:=rfl
 simp only[<- da]
 simp only[ne_eq,implies_true,Int.toNat_natCast,Bj,Bc,decide_eq_true_eq,decide_eq_false_iff_not,true_and,and_true,bne_iff_ne,bne_eq_false_iff_eq,exists_const,forall_const,Prod.exists]
 have hw:=T2 a
 have hsz:0<=BG a.k a.nu.length a.it.length:=by
  unfold BG;split<;>(try split)<;>omega
 obtain ⟨l1,l2,l3⟩:=ha
 simp only[maxLen] at l1 l2 l3
 refine fun y=>⟨a,⟨rfl,⟨rfl,fun _ _=>rfl⟩,⟨rfl,fun _ _=>rfl⟩,rfl,fun i hi=>⟨rfl,⟨rfl,fun _ _=>rfl⟩,⟨rfl,fun _ _=>rfl⟩,rfl,fun _ _=>Be _⟩⟩,fun h3=>?_,fun h3=>⟨⟨0,_,⟨Nat.zero_le _,?_,?_,?_⟩,rfl,rfl⟩,?_⟩⟩
 ·rw[hw,U8 h3];split<;>omega
 ·split<;>omega
 ·split<;>omega
 ·rw[List.drop_zero,Ba1,hw]
 rintro ⟨j,n⟩ ⟨b1,b2,b3,hch⟩
 simp only at b1 b2 b3 hch ⊢
 refine⟨fun hlt=>⟨⟨by omega,hlt⟩,fun y1 _=>⟨fun hn=>?_,fun hn=>⟨a.it.getD j default,⟨⟨rfl,⟨rfl,fun _ _=>rfl⟩,⟨rfl,fun _ _=>rfl⟩,rfl,fun _ _=>Be _⟩,CI (by omega)⟩,j+1,_,⟨by omega,?_,?_,?_⟩,by omega,rfl,Bb (by omega) (by omega)⟩⟩⟩,fun hge=>?_⟩
 ·rw[TA _ _ hn] at hch;omega
 all_goals try have hbd:=Ep (a.it.getD j default)
 ·rw[Bb (by omega) (by omega)];split<;>omega
 ·split<;>omega
 ·rw[Bb (by omega) (by omega),Ba1]
  rw[CV (by omega),wtL,if_pos ⟨h3,by omega⟩] at hch
  exact hch
 ·rw[List.drop_eq_nil_of_le (by omega),wtL] at hch
  omega
theorem BbQ:∀(a:Arr),a.ok->CD 53 [.agg a.row2] (.int .i64 (wtA a))
 |.mk k s n is,h=>by
  have h':=h
  simp only[Arr.ok] at h'
  obtain ⟨_,_,_,h1,h2,h3,h4⟩:=h'
  refine Bds (.mk k s n is) ⟨h2,h3,h1⟩ fun b hb=>?_
  have hb':b∈is:=hb
  exact BbQ b ((Cf _).1 h4 b hb')
termination_by a=>SizeOf.sizeOf a
decreasing_by
 have:=List.sizeOf_lt_of_mem hb'
 simp;omega
def wtS:List Arr->Int
 | []=>0
 |x::r=>wtA x+wtS r
theorem TC:∀(a b:List Arr),wtS (a++b)=wtS a+wtS b
 | [],b=>by simp[wtS]
 |x::a,b=>by rw[List.cons_append,wtS,wtS,TC a b];omega
theorem Mt:∀(a:List Arr),0<=wtS a
 | []=>by simp[wtS]
 |x::a=>by
  have:=(Ep x).1
  have:=Mt a
  rw[wtS];omega
theorem Ba2:∀(l:List Arr) (n:Int),wtL 3 l n<=262144->wtL 3 l n=n+wtS l
 | [],n,_=>by simp[wtL,wtS]
 |x::r,n,h=>by
  rw[wtL] at h ⊢
  rw[wtS]
  split
  ·rename_i h1
   rw[if_pos h1] at h
   rw[Ba2 r _ h];omega
  ·rename_i h1
   rw[if_neg h1] at h
   exact absurd ⟨rfl,h⟩ h1
theorem On:∀(l:List Arr) (d w:Int) (r:Int×Int),BT l d w=some r->d<=r.1/\∀b∈l,(Bi b).1=0/\(Bi b).2.1+1<=r.1
 | [],d,w,r,h=>by
  rw[BT] at h;injection h with h;subst h
  exact⟨Int.le_refl _,fun b hb=>by cases hb⟩
 |x::l,d,w,r,h=>by
  rw[BT] at h
  split at h
  ·cases h
  ·rename_i hx
   obtain ⟨h1,h2⟩:=On l _ _ r h
   refine⟨by split at h1<;>omega,fun b hb=>?_⟩
   rcases List.mem_cons.1 hb with rfl | hb
   ·exact⟨Decidable.not_not.1 hx,by split at h1<;>omega⟩
   ·exact h2 b hb
theorem U0:∀(l:List Arr) (d w:Int),(∀b∈l,(Bi b).1=0/\(Bi b).2.1+1<=16)->d<=16->w+wtS l<=262144->∃r,BT l d w=some r/\r.1<=16/\r.2<=262144
 | [],d,w,_,hd,hw=>⟨(d,w),by rw[BT],hd,by simpa[wtS] using hw⟩
 |x::l,d,w,h,hd,hw=>by
  obtain ⟨h1,h2⟩:=h x (by simp)
  rw[wtS,Uc x h1] at hw
  have:=Mt l
  rw[BT,if_neg (by omega)]
  refine U0 l _ _ (fun b hb=>h b (by simp[hb])) ?_ ?_
  ·split<;>omega
  ·split<;>omega
theorem Ul{k:Int}{s nu:List Int}{it:List Arr}(hf:By k s nu.length it.length=0)(hb:nu.any (CM k)=false)(hi:∀b∈it,(Bi b).1=0/\(Bi b).2.1+1<=16)(hw:(nu.length:Int)+it.length+wtS it<=262144):(Bi (.mk k s nu it)).1=0:=by
 obtain ⟨r,e1,e2,e3⟩:=U0 it 0 ((nu.length:Int)+it.length) hi (by omega) hw
 rw[Bi,if_neg (by rw[hf];decide),if_neg (by rw[hb];decide),e1]
 simp only
 rw[if_neg (by omega)]
theorem Tn{k:Int}{s nu:List Int}{it:List Arr}(h:(Bi (.mk k s nu it)).1=0):By k s nu.length it.length=0/\nu.any (CM k)=false/\(∀b∈it,(Bi b).1=0/\(Bi b).2.1+1<=16)/\wtA (.mk k s nu it)=(nu.length:Int)+it.length+wtS it/\wtA (.mk k s nu it)<=262144:=by
 have hf:=Cv h
 have hw:=Uc _ h
 have hm:=h
 rw[Bi] at h hw
 rw[if_neg (by rw[show By k s nu.length it.length=0 from hf];decide)] at h hw
 split at h
 ·simp at h
 ·rename_i hb
  rw[if_neg hb] at hw
  cases hc:BT it 0 ((nu.length:Int)+it.length) with
  |none=>rw[hc] at h;simp at h
  |some r =>
   rw[hc] at h hw
   simp only at h hw
   split at h
   ·simp at h
   ·rename_i hr
    rw[if_neg hr] at hw
    simp only at hw
    obtain ⟨_,d2⟩:=On it _ _ r hc
    refine⟨hf,by simpa using hb,fun b hb=>⟨(d2 b hb).1,by have:=(d2 b hb).2;omega⟩,?_,by omega⟩
    obtain ⟨f1,_,f3,f4⟩:=Cj.1 hf
    have hwe:=T2 (.mk k s nu it)
    have hwe:wtA (.mk k s nu it)=min (wtL k it (BG k nu.length it.length)) 262145:=hwe
    have f4:(if k=3 then nu.length else it.length)=0:=f4
    have f1:k=1\/k=2\/k=3:=f1
    by_cases h3:k=3
    ·subst h3
     rw[if_pos rfl] at f4
     have z:BG 3 nu.length it.length=it.length:=by simp[BG]
     rw[z] at hwe
     have:=Ba2 it it.length (by omega)
     rw[hwe] at hw ⊢
     omega
    ·rw[if_neg h3] at f4
     have z:BG k nu.length it.length=nu.length:=by unfold BG;rw[if_pos (by omega)]
     rw[z,U8 h3] at hwe
     have hit:it=[]:=List.eq_nil_of_length_eq_zero f4
     rw[hit] at hwe ⊢
     simp only[wtS,List.length_nil]
     rw[hit] at hw
     omega
theorem UM{a b:List Arr}(h:a.Perm b):wtS a=wtS b:=by
 induction h with
 |nil=>rfl
 |cons x _ ih=>rw[wtS,wtS,ih]
 |swap x y l=>simp only[wtS];omega
 |trans _ _ i1 i2=>exact i1.trans i2
def Cm(l:List Nat):List Int:=l.map fun (n:Nat)=>(n:Int)
def gaN(a:Arr)(fr:List Nat):List Int:=if a.k=3 then [] else fr.map fun i=>a.nu.getD i 0
def gaI(a:Arr)(fr:List Nat):List Arr:=if a.k=3 then fr.map fun i=>a.it.getD i default else []
def gaA(a:Arr)(s:List Int)(fr:List Nat):Arr:=.mk a.k s (gaN a fr) (gaI a fr)
def gaW(a:Arr)(fr:List Nat):Int:=if a.k=3 then (fr.length:Int)+wtS (gaI a fr) else 0
theorem GR(l:List Nat):(Cm l).length=l.length:=by simp[Cm]
theorem GD(l:List Nat){i:Nat}(h:i<l.length):(Cm l).getD i 0=(l.getD i 0:Nat):=by
 simp only[Cm,List.getD_eq_getElem?_getD,List.getElem?_map,List.getElem?_eq_getElem h];rfl
theorem Bdk(b:Arr):[D.int .i64 b.k,D.sl 1 b.sh.length (fun i=>[D.int .i64 (b.sh.getD i 0)]) .any,D.sl 1 b.nu.length (fun i=>[D.int .i64 (b.nu.getD i 0)]) .any,D.sl 4 b.it.length (fun i=>(b.it.getD i default).row) .any]=b.row1:=rfl
section
variable {a:Arr} {fr:List Nat} {i:Nat}
theorem Ms(h:a.k=3)(fr:List Nat):gaN a fr=[]:=if_pos h
theorem Mu(h:a.k≠3)(fr:List Nat):gaI a fr=[]:=if_neg h
theorem Bcl(h:a.k≠3)(hi:i<fr.length):gaN a (fr.take (i+1))=gaN a (fr.take i)++[a.nu.getD (fr.getD i 0) 0]:=by
 have e:fr.take (i+1)=fr.take i++[fr.getD i 0]:=Eo (show i<fr.length from hi)
 rw[gaN,gaN,if_neg h,if_neg h,e,List.map_append];rfl
theorem Uw(h:a.k=3)(hi:i<fr.length):gaI a (fr.take (i+1))=gaI a (fr.take i)++[a.it.getD (fr.getD i 0) default]:=by
 have e:fr.take (i+1)=fr.take i++[fr.getD i 0]:=Eo (show i<fr.length from hi)
 rw[gaI,gaI,if_pos h,if_pos h,e,List.map_append];rfl
theorem Bb5(h:a.k=3)(hi:i<fr.length):gaW a (fr.take (i+1))=gaW a (fr.take i)+(1+wtA (a.it.getD (fr.getD i 0) default)):=by
 rw[gaW,gaW,if_pos h,if_pos h,Uw h hi,TC,List.length_take,List.length_take]
 simp only[wtS]
 have:min (i+1) fr.length=min i fr.length+1:=by omega
 rw[this];push_cast;omega
theorem BdB(a:Arr)(fr:List Nat):0<=gaW a fr:=by
 unfold gaW
 have:=Mt (gaI a fr)
 split<;>omega
theorem BdS(a:Arr)(fr:List Nat)(i:Nat):gaW a (fr.take i)<=gaW a fr:=by
 unfold gaW
 by_cases h:a.k=3
 ·rw[if_pos h,if_pos h]
  have e:gaI a fr=gaI a (fr.take i)++gaI a (fr.drop i):=by
   rw[gaI,gaI,gaI,if_pos h,if_pos h,if_pos h,<- List.map_append,List.take_append_drop]
  have:=Mt (gaI a (fr.drop i))
  rw[e,TC,List.length_take]
  omega
 ·rw[if_neg h,if_neg h];omega
theorem Bed(a:Arr)(fr:List Nat):(gaN a fr).length<=fr.length/\(gaI a fr).length<=fr.length:=by
 unfold gaN gaI
 by_cases h:a.k=3
 ·simp[h]
 ·simp[h]
end
theorem Bd6(a b:List Int)(i:Nat):BB a.length (fun i=>[D.int .i64 (a.getD i 0)]) (fun i=>[D.int .i64 (b.getD i 0)]) i=[D.int .i64 ((a++b).getD i 0)]:=by
 rw[BB]
 split
 ·rename_i hi;rw[List.getD_eq_getElem?_getD,List.getD_eq_getElem?_getD,List.getElem?_append_left hi]
 ·rename_i hi;rw[List.getD_eq_getElem?_getD,List.getD_eq_getElem?_getD,List.getElem?_append_right (by omega)]
theorem BdN(a:List Int)(z:Int)(i:Nat)(hi:i<a.length+1):BB a.length (fun i=>[D.int .i64 (a.getD i 0)]) (fun i=>[[D.int .i64 z]].getD i []) i=[D.int .i64 ((a++[z]).getD i 0)]:=by
 rw[<- Bd6,BB,BB]
 split
 ·rfl
 ·obtain rfl:i=a.length:=by omega
  rw[Nat.sub_self];rfl
theorem Bej(a:List Arr)(z:Arr)(i:Nat)(hi:i<a.length+1):BB a.length (fun i=>(a.getD i default).row1) (fun i=>[z.row1].getD i []) i=((a++[z]).getD i default).row1:=by
 rw[BB]
 split
 ·rename_i h;rw[List.getD_eq_getElem?_getD,List.getD_eq_getElem?_getD,List.getElem?_append_left h]
 ·obtain rfl:i=a.length:=by omega
  rw[Nat.sub_self,List.getD_eq_getElem?_getD (l:=a++[z]),List.getElem?_append_right (by omega),Nat.sub_self];rfl
structure GaH (a:Arr) (s:List Int) (fr:List Nat):Prop where
 v:Val a
 hs:s.length<=1000000
 hf:∀i∈fr,i<szN a
 hl:fr.length<=65536
 hw:gaW a fr<=262144
def BbB(a:Arr)(s:List Int):Con:=fun k ds S=>match k with
 |25=>some (pA ds S (isl s .any) (wkL ds [isl s .any]))
 |53=>some (pE (β:=Arr) ds S (fun b=>.int .i64 (wtA b)) (fun b=>ds=[.agg b.row]/\b∈a.it))
 |54=>some (pE (β:=Arr) ds S (fun b=>.agg b.row1) (fun b=>ds=[.agg b.row]/\b∈a.it))
 |_=>none
theorem BaX{a:Arr}{s:List Int}(h:Val a)(hs:s.length<=1000000):ConOk Try.prog (BbB a s):=by
 intro k ds S A hh
 unfold BbB at hh
 split at hh
 ·injection hh with hh;subst hh
  exact Bw fun e=>CD.at_ (CD.wk (Mm s hs) e) _
 ·injection hh with hh;subst hh
  refine Cn fun b ⟨e,hb⟩=>CD.at_ ?_ _
  rw[e]
  refine CD.wk (CD.wk (BbQ b (h.it hb).ok) (ds:=[.agg b.row1]) ?_) ?_
  ·simp only[wkL,wkD]
   exact⟨CE b,trivial⟩
  ·simp only[wkL,wkD]
   exact⟨Gl b,trivial⟩
 ·injection hh with hh;subst hh
  refine Cn fun b ⟨e,hb⟩=>CD.at_ ?_ _
  rw[e]
  refine CD.wk (us:=[.agg b.row1]) ?_ ?_
  ·exact (WP b (h.it hb).c).mono fun _ _ ⟨y,q1,q2,q3⟩=>⟨(),trivial,q2,q3⟩
  ·simp only[wkL,wkD]
   exact⟨Gl b,trivial⟩
 ·cases hh
noncomputable def Ega(a:Arr)(s:List Int)(fr:List Nat):Senv:={ EC (BbB a s) 61 4 [6,7,8,9,11,17,18,19,20,25,46] (fun id=>match id with | 1=>([0,1,2,3,4,5,6],[3,5,6]) | 7=>([0,1,2,3,4,5,6,7,8,9,10],[7,8,10]) | 11=>([0,1,2,3,4,5,6,7,8,9,10,11],[7,8,9,11]) | _=>([],[])) with
 gh:=fun b=>match b with
  |0=>[.cell 7 102,.cell 7 403]
  |_=>[]
 ann:=fun b _ S=>match b with
  |0=>match Bx S.objs 7 with
   |some (_,.cells (c0::c1::_::_::cs))=>some { slots:=[19,9],keep:=[3,6,8,17,18],α:=Nat×Nat×Nat,st:=fun z=>([.int .i64 z.1,.int .i64 (gaW a (fr.take z.1))],⟨ET S.objs 7 (.cells (c0::c1::.sl 1 (gaN a (fr.take z.1)).length (fun i=>[.int .i64 ((gaN a (fr.take z.1)).getD i 0)]) (.tok 0 z.2.1)::.sl 4 (gaI a (fr.take z.1)).length (fun i=>((gaI a (fr.take z.1)).getD i default).row1) (.tok 1 z.2.2)::cs)),[(1,z.2.2),(0,z.2.1)]⟩),inv:=fun z=>z.1<=fr.length,mu:=fun z=>fr.length-z.1 }
   |_=>none
  |_=>none }
def QdO(a:List Int):Prop:=(SM (LN a)/\(∀(i:Nat),i<LN a->SM (GI a i)/\True)/\True)/\True
def VP(a:Arr):Int:=Arr.k a
def QdP(a:Arr):D:=ZI (VP a)
def YZ(a:Nat)(b:Arr):Prop:=SM a/\SM (QdP b)
def Je(a:Arr)(b:Nat)(c:List Nat):Int:=gaW a (List.take b c)
def VQ(a:Arr):Prop:=SM (VP a)
def Y0(a:List Int):Prop:=SM (LN a)/\(∀(i:Nat),i<LN a->SM [ZI (GI a i)])/\True
def QJ(a:Arr)(b:Nat)(c:List Nat):Nat:=LN (gaN a (List.take b c))
def Km(a:Arr)(b:Nat)(c:List Nat)(d:Nat):List D:=[ZI (GI (gaN a (List.take b c)) d)]
def QK(a:Arr)(b:Nat)(c:List Nat):Nat:=LN (gaI a (List.take b c))
def KD:Arr:=DA
def VR(a:Arr)(b:Nat)(c:List Nat)(d:Nat):Arr:=List.getD (gaI a (List.take b c)) d KD
def Qg9(a:Arr)(b:Nat)(c:List Nat)(d:Nat):List Int:=Arr.sh (VR a b c d)
def Qha(a:Arr)(b:Nat)(c:List Nat)(d:Nat):List Int:=Arr.nu (VR a b c d)
def QdQ(a:Arr)(b:Nat)(c:List Nat)(d:Nat):List Arr:=Arr.it (VR a b c d)
def Kn(a:Arr)(b:Nat)(c:List Nat)(d:Nat):List D:=[ZI (Arr.k (VR a b c d)),SI (Qg9 a b c d),SI (Qha a b c d),D.sl N4 (LN (QdQ a b c d)) (fun i=>Arr.row (List.getD (QdQ a b c d) i KD)) Mode.any]
def Y1:Prop:=SM N0/\(∀(i:Nat),i<N0->Es (List D) [] [])/\True
def Y2(a:Arr):Nat:=LN (Arr.sh a)
def QdR(a:Arr)(b:Nat):List D:=[ZI (GI (Arr.sh a) b)]
def VS(a:Arr):Nat:=LN (Arr.nu a)
def QdS(a:Arr)(b:Nat):List D:=[ZI (GI (Arr.nu a) b)]
def VT(a:Arr):List Arr:=Arr.it a
def Jf(a:Arr):Nat:=LN (VT a)
def QdT(a:Arr)(b:Nat):List D:=Arr.row (List.getD (VT a) b KD)
def Y3(a b:Nat)(c:Arr):Prop:=SM a/\(SM Z0/\Y1/\Y1/\Y1/\True)/\SM b/\(VQ c/\(SM (Y2 c)/\(∀(i:Nat),i<Y2 c->SM (QdR c i))/\True)/\(SM (VS c)/\(∀(i:Nat),i<VS c->SM (QdS c i))/\True)/\(SM (Jf c)/\(∀(i:Nat),i<Jf c->SM (QdT c i))/\True)/\True)/\True
def Y4(a:List Nat):Int:=(LI (Cm a))
def Q0(a:List Nat)(b:Nat):Int:=GI (Cm a) (Int.toNat (↑b:Int))
def Qhb(a:Arr)(b:Nat)(c:List Nat)(d:Nat):D:=D.sl N1 (QJ a b c) (fun i=>Km a b c i) (Mode.tok N0 d)
def VU(a:Arr)(b:Nat)(c:List Nat):Nat:=QJ a b c+N1
def Qhc(a:List Nat):D:=SI (Cm a)
def QdU(a b c:Nat)(d:List Nat):Prop:=SM (D.ref N0 a N0)/\SM (D.ref (max (N0+N1) N0) b N0)/\SM (D.ref (max N2 (max (N0+N1) N0)+nat_lit 5) c N0)/\SM (Qhc d)/\SM (ZI (Y4 d))/\True
def QdV(a:Arr)(b:List Nat)(c:Nat):List D:=Arr.row (List.getD (VT a) (Int.toNat (Q0 b c)) KD)
def QdW(a:Arr)(b:List Nat)(c:Nat):Nat:=LN (QdV a b c)
def QdX(a:Arr)(b:List Nat)(c:Nat)(d:Arr):Prop:=[D.agg (List.take N4 (List.drop N0 (QdV a b c)))]=[D.agg (Arr.row d)]/\d∈VT a
def QdY(a:Arr)(b:Nat)(c:List Nat)(d:Arr):Int:=IntKind.wrap IntKind.i64 (Je a b c+IntKind.wrap IntKind.i64 (Z1+wtA d))
def Qhd(a:Arr)(b:Nat)(c:List Nat)(d:Nat):D:=D.sl N4 (QK a b c) (fun i=>Kn a b c i) (Mode.tok N1 d)
def QdZ(a:Nat)(b:Arr)(c:Nat)(d:List Nat)(e:Nat):Prop:=SM a/\SM (Qhd b c d e)
def VV(a:Arr)(b:Nat)(c:List Nat):Nat:=QK a b c+N1
def VW(a:Arr)(b:List Int)(c:List Nat)(d:Nat):Arr:=List.getD (Arr.it (gaA a b c)) d KD
def Qhe(a:Arr)(b:List Int)(c:List Nat)(d:Nat):List Int:=Arr.sh (VW a b c d)
def Qhf(a:Arr)(b:List Int)(c:List Nat)(d:Nat):List Int:=Arr.nu (VW a b c d)
def Qd0(a:Arr)(b:List Int)(c:List Nat)(d:Nat):List Arr:=Arr.it (VW a b c d)
def Qd1(a:Nat)(b:Arr)(c:Nat)(d:List Nat)(e:List Int)(f:Nat):Prop:=YZ a b/\SM c/\∀(t t_1:Nat),(∃(x:Nat×Nat×Nat),x.1<=LN d/\(Z0=(NI x.1)/\Z0=Je b x.1 d/\True)/\(SM c/\(VQ b/\Y0 e/\(N0=QJ b x.1 d/\(∀(i:Nat),i<N0->Es (List D) [] (Km b x.1 d i))/\t=x.2.1)/\(N0=QK b x.1 d/\(∀(i:Nat),i<N0->Es (List D) [] (Kn b x.1 d i))/\t_1=x.2.2)/\True)/\Y3 f a b)/\t_1=x.2.2/\t=x.2.1/\True)/\∀(x:Nat×Nat×Nat),x.1<=LN d->ifB (decide ((NI x.1)<Y4 d)) (Bd (Z0<=(NI x.1)/\(NI x.1)<Y4 d) (SM a/\ifB (VP b != (3:Int)) (SM c/\SM a/\Bd (Z0<=Q0 d x.1/\Q0 d x.1<(NI (VS b))) ((SM c/\SM (Qhb b x.1 d x.2.1))/\SM x.2.1/\Bd (VU b x.1 d*8<=140737488355328/\VU b x.1 d<=9223372036854775807) (∀(t:Nat),SM c/\QdU a f c d/\∃(y:Nat×Nat×Nat),y.1<=LN d/\LN d-y.1<LN d-x.1/\(IntKind.wrap IntKind.i64 ((NI x.1)+Z1)=(NI y.1)/\Je b x.1 d=Je b y.1 d/\True)/\(SM c/\(VQ b/\Y0 e/\(VU b x.1 d=QJ b y.1 d/\(∀(i:Nat),i<VU b x.1 d->BB (QJ b x.1 d) (fun i=>Km b x.1 d i) (fun i=>List.getD [List.take N1 [ZI (GI (Arr.nu b) (Int.toNat (Q0 d x.1)))]] i []) i=Km b y.1 d i)/\t=y.2.1)/\(QK b x.1 d=QK b y.1 d/\(∀(i:Nat),i<QK b x.1 d->Kn b x.1 d i=Kn b y.1 d i)/\x.2.2=y.2.2)/\True)/\Y3 f a b)/\x.2.2=y.2.2/\t=y.2.1/\True))) (SM a/\Bd (Z0<=Q0 d x.1/\Q0 d x.1<(NI (Jf b))) (Bd (N4<=QdW b d x.1) (∃(x_1:Arr),QdX b d x.1 x_1/\∀(_y:Unit),True->ifB (decide ((262144:Int)<QdY b x.1 d x_1)) (SM f/\(SM f/\True)/\∃(_y:Unit),True/\((Z0=Arr.k (gaA b e d)/\(N0=LN (Arr.sh (gaA b e d))/\(∀(i:Nat),i<N0->Es (List D) [] [ZI (GI (Arr.sh (gaA b e d)) i)])/\True)/\(N0=LN (Arr.nu (gaA b e d))/\(∀(i:Nat),i<N0->Es (List D) [] [ZI (GI (Arr.nu (gaA b e d)) i)])/\True)/\False/\True)/\(21:Int)=Z0/\True)/\True/\True) (SM c/\SM a/\Bd (Z0<=Q0 d x.1/\Q0 d x.1<(NI (Jf b))) (Bd (N4<=QdW b d x.1) (∃(x_2:Arr),QdX b d x.1 x_2/\∀(_y:Unit),True->QdZ c b x.1 d x.2.2/\QdZ c b x.1 d x.2.2/\SM x.2.2/\Bd (VV b x.1 d*80<=140737488355328/\VV b x.1 d<=9223372036854775807) (∀(t:Nat),SM c/\QdU a f c d/\∃(y:Nat×Nat×Nat),y.1<=LN d/\LN d-y.1<LN d-x.1/\(IntKind.wrap IntKind.i64 ((NI x.1)+Z1)=(NI y.1)/\QdY b x.1 d x_1=Je b y.1 d/\True)/\(SM c/\(VQ b/\Y0 e/\(QJ b x.1 d=QJ b y.1 d/\(∀(i:Nat),i<QJ b x.1 d->Km b x.1 d i=Km b y.1 d i)/\x.2.1=y.2.1)/\(VV b x.1 d=QK b y.1 d/\(∀(i:Nat),i<VV b x.1 d->BB (QK b x.1 d) (fun i=>Kn b x.1 d i) (fun i=>List.getD [List.take N4 [QdP x_2,D.sl N1 (Y2 x_2) (fun i=>QdR x_2 i) Mode.any,D.sl N1 (VS x_2) (fun i=>QdS x_2 i) Mode.any,D.sl N4 (Jf x_2) (fun i=>QdT x_2 i) Mode.any]] i []) i=Kn b y.1 d i)/\t=y.2.2)/\True)/\Y3 f a b)/\t=y.2.2/\x.2.1=y.2.1/\True))))))))) (SM c/\SM f/\(SM f/\True)/\∃(_y:Unit),True/\((VP b=Arr.k (gaA b e d)/\(LN e=LN (Arr.sh (gaA b e d))/\(∀(i:Nat),i<LN e->[ZI (GI e i)]=[ZI (GI (Arr.sh (gaA b e d)) i)])/\True)/\(QJ b x.1 d=LN (Arr.nu (gaA b e d))/\(∀(i:Nat),i<QJ b x.1 d->Km b x.1 d i=[ZI (GI (Arr.nu (gaA b e d)) i)])/\True)/\(QK b x.1 d=LN (Arr.it (gaA b e d))/\(∀(i:Nat),i<QK b x.1 d->Kn b x.1 d i=[ZI (Arr.k (VW b e d i)),SI (Qhe b e d i),SI (Qhf b e d i),D.sl N4 (LN (Qd0 b e d i)) (fun i_1=>Arr.row (List.getD (Qd0 b e d i) i_1 KD)) Mode.any])/\True)/\True)/\SM Z0/\True)/\True/\True)
theorem Bea(a:Arr)(s:List Int)(fr:List Nat)(h:GaH a s fr):CD 33 [.agg a.row1,isl s .any,isl (Cm fr) .any] (.tup [.agg (gaA a s fr).row2,.int .i64 0]):=by
 refine Bh (A:=sC _ _) (x:=()) (E:=Ega a s fr) (eOk (BaX h.v h.hs) rfl) Try.func33 rfl (by kernel_rfl) rfl (by simp[sC,Ega,EC,E0]) ?_
 refine Bl (T :=
  ∀(x:Nat),True->∀(x_1:Nat),x≠x_1/\True->SM x/\(∃(x_2:Unit),QdO s/\∀(y:Unit),True->YZ x a/\∀(x_3:Nat),x_1≠x_3/\x≠x_3/\True->Qd1 x a x_3 fr s x_1)/\∀(x_2:Nat),x_1≠x_2/\x≠x_2/\True->YZ x a/\∃(x_3:Unit),QdO s/\∀(y:Unit),True->Qd1 x a x_2 fr s x_1) (by kernel_rfl) ?_
 delta DA GI LI LN N0 N1 N2 N4 NI SI SM Z0 Z1 ZI QdO VP KD VR Qg9 Qha QdQ Kn Y1 Y2 QdR VS QdP QdS VT Jf QdT Y3 Y4 Q0 Qhb VU Qhc YZ QdU QdV QdW QdX QdY Qhd QdZ VV VW Qhe Je Qhf Qd0 Qd1 VQ Y0 QJ Km QK
 have da:(default:Arr)=Arr.mk 0 [] [] []:=rfl
 simp only[<- da]
 simp only[ne_eq,implies_true,Int.toNat_natCast,Bj,Bc,decide_eq_true_eq,decide_eq_false_iff_not,true_and,and_true,bne_iff_ne,bne_eq_false_iff_eq,exists_const,forall_const,Prod.exists]
 simp only[Bdk]
 obtain ⟨hv,hs,hf,hl,hw⟩:=h
 have cl:=GR fr
 refine fun x x1 _=>⟨?_,?_⟩
 all_goals
  refine fun x3 _=>?_
  refine fun t t1=>⟨⟨0,t,t1,Nat.zero_le _,⟨rfl,?_⟩,⟨⟨?_,(fun i hi=>absurd hi (Nat.not_lt_zero i)),rfl⟩,?_,(fun i hi=>absurd hi (Nat.not_lt_zero i)),rfl⟩,rfl,rfl⟩,?_⟩
  ·rw[List.take_zero,gaW,gaI];split<;>simp[wtS]
  ·rw[List.take_zero,gaN];split<;>rfl
  ·rw[List.take_zero,gaI];split<;>rfl
  rintro ⟨i,t2,t3⟩ hi
  simp only at hi ⊢
  refine⟨fun hlt=>?_,fun hge=>?_⟩
  ·have hlt:i<fr.length:=by omega
   have hm:fr.getD i 0<szN a:=hf _ (by rw[List.getD_eq_getElem?_getD,List.getElem?_eq_getElem hlt];exact List.getElem_mem hlt)
   have gl:=Bed a (fr.take i)
   rw[List.length_take] at gl
   simp only[GD fr hlt,Int.toNat_natCast]
   refine⟨⟨by omega,by omega⟩,fun hk=>?_,fun hk=>?_⟩
   ·rw[szN,if_neg hk] at hm
    have e1:=Bcl hk hlt
    refine⟨⟨by omega,by omega⟩,⟨by omega,by omega⟩,fun t4=>⟨i+1,t4,t3,by omega,by omega,⟨Bb (by omega) (by omega),?_⟩,⟨⟨?_,(fun j hj=>?_),rfl⟩,?_,(fun j hj=>?_),rfl⟩,rfl,rfl⟩⟩
    ·rw[gaW,gaW,if_neg hk,if_neg hk]
    ·rw[e1,List.length_append];rfl
    ·rw[e1];exact BdN _ _ j hj
    ·rw[Mu hk,Mu hk]
    ·rw[Mu hk,Mu hk]
   ·rw[szN,if_pos hk] at hm
    have e1:=Uw hk hlt
    have e2:=Bb5 hk hlt
    have p1:=BdB a (fr.take i)
    have p2:=BdS a fr (i+1)
    have p3:=(Ep (a.it.getD (fr.getD i 0) default)).1
    have hmem:a.it.getD (fr.getD i 0) default∈a.it:=CI hm
    have w1:IntKind.i64.wrap (gaW a (fr.take i)+IntKind.i64.wrap (1+wtA (a.it.getD (fr.getD i 0) default)))=gaW a (fr.take (i+1)):=by
     rw[Bb (n:=1+wtA (a.it.getD (fr.getD i 0) default)) (by omega) (by omega),Bb (by omega) (by omega),e2]
    have hrow:[D.agg (List.take 4 (List.drop 0 (a.it.getD (fr.getD i 0) default).row))]=[D.agg (a.it.getD (fr.getD i 0) default).row]:=by
     rw[List.drop_zero,List.take_of_length_le (by rw[Ev];omega)]
    refine⟨⟨by omega,by omega⟩,by rw[Ev];omega,_,⟨hrow,hmem⟩,fun q=>?_,fun _=>⟨⟨by omega,by omega⟩,by rw[Ev];omega,_,⟨hrow,hmem⟩,⟨by omega,by omega⟩,fun t4=>⟨i+1,t2,t4,by omega,by omega,⟨Bb (by omega) (by omega),w1⟩,⟨⟨?_,(fun j hj=>?_),rfl⟩,?_,(fun j hj=>?_),rfl⟩,rfl,rfl⟩⟩⟩
    ·rw[w1] at q;omega
    ·rw[Ms hk,Ms hk]
    ·rw[Ms hk,Ms hk]
    ·rw[e1,List.length_append];rfl
    ·rw[e1];exact Bej _ _ j hj
  ·obtain rfl:i=fr.length:=by omega
   rw[List.take_length]
   exact⟨rfl,⟨rfl,fun _ _=>rfl⟩,⟨rfl,fun _ _=>rfl⟩,rfl,fun _ _=>rfl⟩
theorem BeL(a:Arr)(s:List Int)(fr:List Nat)(h:GaH a s fr):CD 33 [.agg a.row1,isl s .any,isl (Cm fr) .any] (.tup [.agg (gaA a s fr).row1,.int .i64 0]) :=
 (CS.res ((Bea a s fr h).at_ ⟨[],[]⟩) fun C v=>Bci (Baw _ C) (fun _ q=>q) v).cd
noncomputable def Esl:Senv:=EC C7 15 4 [7] (fun id=>match id with | 3=>([0,1,2,3,4,5,6,7,8],[]) | _=>([],[]))
def Q2(a:Arr):List Int:=Arr.sh a
def Ko(a:Arr):Int:=(LI (Q2 a))
def Qd2(a:Arr)(b:Nat):List D:=[ZI (GI (List.tail (Q2 a)) b)]
theorem Bd7(y:Arr)(h:y.sh≠[]):CD 27 [.agg y.row1] (.tup [.int .i64 (y.sh.headD 0),isl y.sh.tail .any]):=by
 refine Bh (A:=sC _ _) (x:=()) (E:=Esl) (eOk BA rfl) Try.func27 rfl (by kernel_rfl) rfl (by simp[sC,Esl,EC,E0]) ?_
 refine Bl (T :=
  ∀(x:Nat),True->SM x/\ifB (Ko y==Z0) (True/\∃(y_1:Unit),True/\(Z1=List.headD (Q2 y) Z0/\(N0=LN (List.tail (Q2 y))/\(∀(i:Nat),i<N0->Es (List D) [] (Qd2 y i))/\True)/\True)/\True/\True) (SM x/\Bd (Z0<=Z0/\Z0<Ko y) (SM x/\Bd (Z0<=Z1/\Z1<=Ko y/\Ko y<=Ko y) (True/\∃(y_1:Unit),True/\(GI (Q2 y) N0=List.headD (Q2 y) Z0/\(Int.toNat (Ko y)-N1=LN (List.tail (Q2 y))/\(∀(i:Nat),i<Int.toNat (Ko y)-N1->[ZI (GI (Q2 y) (N1+i))]=Qd2 y i)/\True)/\True)/\True/\True)))) (by kernel_rfl) ?_
 delta GI LI LN N0 N1 SM Z0 Z1 ZI Q2 Ko Qd2
 have da:(default:Arr)=Arr.mk 0 [] [] []:=rfl
 simp only[]
 simp only[ne_eq,Int.toNat_natCast,Bj,Bc,true_and,and_true,beq_iff_eq,beq_eq_false_iff_ne,exists_const,forall_const]
 have l0:0<y.sh.length:=List.length_pos_iff.2 h
 refine⟨fun e=>absurd e (by omega),fun _=>⟨⟨by omega,by omega⟩,⟨by omega,by omega,by omega⟩,?_,by rw[List.length_tail],fun i _=>?_⟩⟩
 ·cases y.sh<;>rfl
 ·rw[<- List.drop_one,Cu]
def wiS(x:Nat)(d:Int):St:=⟨[(0,x,.cells [.int .i64 d])],[]⟩
def wiD(l:List Int)(x:Nat):List D:=[isl l .any,.fn (.func 51) [] [.ref 0 x 0]]
noncomputable def Ewx(l:List Int)(_d:Int):Senv:={ EC C7 19 2 [4,5,7,8,9,16] (fun _=>([],[])) with
 ann:=fun b _ S=>match b with
  |0=>some { slots:=[8],keep:=[0,1,6,7],α:=Nat,st:=fun i=>([.int .i64 i],S),inv:=fun i=>i<=l.length,mu:=fun i=>l.length-i }
  |_=>none }
def VX(a:Nat)(b:Int):Prop:=(SM a/\(SM b/\True)/\True)/\True
def Y5(a:List Int)(b:Nat)(c:Int):Bool:=bif decide (GI a (Int.toNat (↑b:Int))<Z0) then true else decide (c<=GI a (Int.toNat (↑b:Int)))
def Qhg(a:List Int):D:=SI a
theorem BeS(l:List Int)(x:Nat)(d:Int)(hl:l.length<=1000000)(h:∀z∈l,0<=z/\z<d):CS 55 (wiD l x) (wiS x d) (.int .i64 (-1)):=by
 refine CS.of (Bh (A:=sS _ _ _) (x:=()) (E:=Ewx l d) (eOk BA rfl) Try.func55 rfl (by kernel_rfl) rfl (by simp[sS,wiD,Ewx,EC,E0]) ?_)
 refine Bl (T :=
  (∃(x_1:Nat),x_1<=LN l/\(Z0=(↑x_1:Int)/\True)/\VX x d)/\∀(x_1:Nat),x_1<=LN l->ifB (decide ((↑x_1:Int)<(LI l))) (Bd (Z0<=(↑x_1:Int)/\(↑x_1:Int)<(LI l)) (ifB (decide (GI l (Int.toNat (↑x_1:Int))<Z0)) (true=Y5 l x_1 d/\True) (SM x/\decide (d<=GI l (Int.toNat (↑x_1:Int)))=Y5 l x_1 d/\True)/\True/\ifB (Y5 l x_1 d) (True/\∃(y:Unit),True/\(↑x_1:Int)=(-1:Int)/\VX x d) ((SM (Qhg l)/\SM (D.fn (Fn.func (51:Nat)) [] [D.ref N0 x N0])/\SM D.unk/\SM (ZI (LI l))/\True)/\∃(y:Nat),y<=LN l/\LN l-y<LN l-x_1/\(IntKind.wrap IntKind.i64 ((↑x_1:Int)+Z1)=(↑y:Int)/\True)/\VX x d))) (True/\∃(y:Unit),True/\SM (-1:Int)/\VX x d)) (by kernel_rfl) ?_
 delta GI LI LN N0 N1 SI SM Z0 Z1 ZI VX Y5 Qhg
 simp only[eq_self,implies_true,Int.toNat_natCast,Bj,Bc,decide_eq_true_eq,decide_eq_false_iff_not,true_and,and_true,exists_const]
 refine⟨⟨0,Nat.zero_le _,rfl⟩,fun i hi hlt=>?_⟩
 have hlt:i<l.length:=by omega
 have hz:=h (l.getD i 0) (by rw[List.getD_eq_getElem?_getD,List.getElem?_eq_getElem hlt];exact List.getElem_mem hlt)
 refine⟨⟨by omega,by omega⟩,⟨fun q=>absurd q (by omega),fun q=>by rw[decide_eq_false q,cond_false]⟩,fun q=>?_,fun _=>⟨i+1,by omega,by omega,Bb (by omega) (by omega)⟩⟩
 rw[decide_eq_false (by omega),cond_false,decide_eq_true_eq] at q
 omega
noncomputable def Ewc(l:List Int)(d:Int):Senv:=EC (fun k ds S=>match k with
 |55=>some (pA ds S (.int .i64 (-1)) (∃x,ds=wiD l x/\S=wiS x d))
 |_=>none) 9 2 [4] (fun _=>([],[]))
def Qd3(a:List Int)(b:Nat):List D:=[SI a,D.fn (Fn.func (51:Nat)) [] [D.ref N0 b N0]]
def Qd4(a:Nat)(b:Int):St:=St.mk [(N0,a,AObj.cells [ZI b])] []
theorem BeN(l:List Int)(x:Nat)(d:Int)(hl:l.length<=1000000)(h:∀z∈l,0<=z/\z<d):CS 35 (wiD l x) (wiS x d) (.bool false):=by
 refine CS.of (Bh (A:=sS _ _ _) (x:=()) (E:=Ewc l d) (eOk ?_ rfl) Try.func35 rfl (by kernel_rfl) rfl (by simp[sS,wiD,Ewc,EC,E0]) ?_)
 ·intro k ds S A hh
  dsimp only at hh
  split at hh
  ·injection hh with hh;subst hh
   refine Bw fun ⟨x,e1,e2⟩=>?_
   rw[e1,e2];exact BeS l x d hl h
  ·cases hh
 refine Bl (T :=
  ∃(x_1:Unit),(∃(x_2:Nat),Qd3 l x=Qd3 l x_2/\Qd4 x d=Qd4 x_2 d)/\∀(y:Unit),True->True/\∃(y:Unit),True/\SM false/\(SM x/\(SM d/\True)/\True)/\True) (by kernel_rfl) ?_
 delta GI LN N0 N1 SI SM Z0 ZI Qd3 Qd4
 simp only[eq_self,implies_true,and_true,exists_const]
 exact⟨x,rfl,rfl⟩
noncomputable def Ewi(l:List Int)(d:Int):Senv:=EC (fun k ds S=>match k with
 |35=>some (pA ds S (.bool false) (∃x,ds=wiD l x/\S=wiS x d))
 |_=>none) 9 2 [3,4] (fun _=>([],[]))
def Qd5(a:List Int)(b:Nat):List D:=[SI a,D.fn (Fn.func (51:Nat)) [] [D.ref N0 b N0]]
def Qd6(a:Nat)(b:Int):St:=St.mk [(N0,a,AObj.cells [ZI b])] []
theorem Bes(l:List Int)(d:Int)(hl:l.length<=1000000)(h:∀z∈l,0<=z/\z<d):CD 31 [isl l .any,.int .i64 d] (.bool true):=by
 refine Bh (A:=sC _ _) (x:=()) (E:=Ewi l d) (eOk ?_ rfl) Try.func31 rfl (by kernel_rfl) rfl (by simp[sC,Ewi,EC,E0]) ?_
 ·intro k ds S A hh
  dsimp only at hh
  split at hh
  ·injection hh with hh;subst hh
   refine Bw fun ⟨x,e1,e2⟩=>?_
   rw[e1,e2];exact BeN l x d hl h
  ·cases hh
 refine Bl (T :=
  ∀(x:Nat),True->∃(x_1:Unit),(∃(x_2:Nat),Qd5 l x=Qd5 l x_2/\Qd6 x d=Qd6 x_2 d)/\∀(y:Unit),True->RT (SM true)) (by kernel_rfl) ?_
 delta GI LN N0 N1 SI SM Z0 ZI Qd5 Qd6 RT
 simp only[eq_self,implies_true,and_true,exists_const,forall_const]
 exact fun x=>⟨x,rfl,rfl⟩
def riD(l:List Arr):List D:=[gsl 4 Arr.row1 l,.fn (.func 50) [] []]
noncomputable def Erx(l : List Arr) : Senv:={ EC (fun k ds S=>match k with
  |45=>some (pE (β:=Arr) ds S (fun _=>.int .i64 0) (fun b=>wkL ds [.agg b.row1]/\b∈l))
  |_=>none) 19 2 [4,5,7,8,9,16] (fun _=>([],[])) with
 ann:=fun b _ S=>match b with
  |0=>some { slots:=[8],keep:=[0,1,6,7],α:=Nat,st:=fun i=>([.int .i64 i],S),inv:=fun i=>i<=l.length,mu:=fun i=>l.length-i }
  |_=>none }
def Jg:Arr:=DA
def VY(a:List Arr)(b:Nat):Arr:=List.getD a (Int.toNat (↑b:Int)) Jg
def Qd7(a:List Arr)(b:Nat):List Int:=Arr.sh (VY a b)
def Qd8(a:List Arr)(b:Nat):Nat:=LN (Qd7 a b)
def Qd9(a:List Arr)(b:Nat):List Int:=Arr.nu (VY a b)
def Qea(a:List Arr)(b:Nat):Nat:=LN (Qd9 a b)
def Qeb(a:List Arr)(b:Nat):List Arr:=Arr.it (VY a b)
def Qec(a:List Arr)(b:Nat):Nat:=LN (Qeb a b)
def VZ(a:List Arr)(b:Nat):Arr:=List.getD a b Jg
def Qhh(a:List Arr)(b:Nat):List Int:=Arr.sh (VZ a b)
def Qhi(a:List Arr)(b:Nat):List Int:=Arr.nu (VZ a b)
def Qed(a:List Arr)(b:Nat):List Arr:=Arr.it (VZ a b)
def Qhj(a:List Arr):D:=D.sl N4 (LN a) (fun i=>[ZI (Arr.k (VZ a i)),SI (Qhh a i),SI (Qhi a i),D.sl N4 (LN (Qed a i)) (fun i_1=>Arr.row (List.getD (Qed a i) i_1 Jg)) Mode.any]) Mode.any
theorem BeK(l:List Arr)(hl:l.length<=1000000)(h:∀a∈l,Val a):CD 75 (riD l) (.int .i64 (-1)):=by
 refine Bh (A:=sC _ _) (x:=()) (E:=Erx l) (eOk ?_ rfl) Try.func75 rfl (by kernel_rfl) rfl (by simp[sC,Erx,EC,E0]) ?_
 ·intro k ds S A hh
  dsimp only at hh
  split at hh
  ·injection hh with hh;subst hh
   refine Cn fun b ⟨e,hb⟩=>CD.at_ (CD.wk ?_ e) _
   have:=Mz _ (h b hb).ok
   rw[(h b hb).c] at this;exact this
  ·cases hh
 refine Bl (T :=
  (∃(x:Nat),x<=LN l/\(Z0=(↑x:Int)/\True)/\True/\True)/\∀(x:Nat),x<=LN l->ifB (decide ((↑x:Int)<(LI l))) (Bd (Z0<=(↑x:Int)/\(↑x:Int)<(LI l)) (∀(x_1:Nat),True->SM x_1/\∃(x_2:Arr),(((Arr.k (VY l x)=Arr.k x_2/\(Qd8 l x=LN (Arr.sh x_2)/\(∀(i:Nat),i<Qd8 l x->GI (Qd7 l x) i=GI (Arr.sh x_2) i/\True)/\True)/\(Qea l x=LN (Arr.nu x_2)/\(∀(i:Nat),i<Qea l x->GI (Qd9 l x) i=GI (Arr.nu x_2) i/\True)/\True)/\(Qec l x=LN (Arr.it x_2)/\(∀(i:Nat),i<Qec l x->wkL (Arr.row (List.getD (Qeb l x) i Jg)) (Arr.row (List.getD (Arr.it x_2) i Jg)))/\True)/\True)/\True)/\x_2∈l)/\∀(y:Unit),True->True/\(SM (Qhj l)/\SM (D.fn (Fn.func (50:Nat)) [] [])/\SM D.unk/\SM (ZI (LI l))/\True)/\∃(y:Nat),y<=LN l/\LN l-y<LN l-x/\(IntKind.wrap IntKind.i64 ((↑x:Int)+Z1)=(↑y:Int)/\True)/\True/\True)) (RT (SM (-1:Int)))) (by kernel_rfl) ?_
 delta DA GI LI LN N1 N4 SI SM Z0 Z1 ZI Jg VY Qd7 Qd8 Qd9 Qea Qeb Qec VZ Qhh Qhi Qed Qhj RT
 have da:(default:Arr)=Arr.mk 0 [] [] []:=rfl
 simp only[<- da]
 simp only[implies_true,Int.toNat_natCast,Bj,Bc,decide_eq_true_eq,decide_eq_false_iff_not,true_and,and_true,exists_const,forall_const]
 refine⟨⟨0,Nat.zero_le _,rfl⟩,fun i hi hlt=>⟨⟨by omega,hlt⟩,l.getD i default,⟨⟨rfl,⟨rfl,fun _ _=>rfl⟩,⟨rfl,fun _ _=>rfl⟩,rfl,fun _ _=>Be _⟩,CI (by omega)⟩,i+1,by omega,by omega,Bb (by omega) (by omega)⟩⟩
noncomputable def Erc(l:List Arr):Senv:=EC (fun k ds S=>match k with
 |75=>some (pA ds S (.int .i64 (-1)) (ds=riD l))
 |_=>none) 9 2 [4] (fun _=>([],[]))
def Qhk(a:List Arr):List D:=[D.sl N4 (LN a) (fun i=>Arr.row1 (GA a i)) Mode.any,D.fn (Fn.func (50:Nat)) [] []]
theorem BeY(l:List Arr)(hl:l.length<=1000000)(h:∀a∈l,Val a):CD 49 (riD l) (.bool false):=by
 refine Bh (A:=sC _ _) (x:=()) (E:=Erc l) (eOk ?_ rfl) Try.func49 rfl (by kernel_rfl) rfl (by simp[sC,riD,Erc,EC,E0]) ?_
 ·intro k ds S A hh
  dsimp only at hh
  split at hh
  ·injection hh with hh;subst hh
   refine Bw fun e=>CD.at_ ?_ _
   rw[e];exact BeK l hl h
  ·cases hh
 refine Bl (T :=
  ∃(x:Unit),SM (Qhk l)/\∀(y:Unit),True->RT (SM false)) (by kernel_rfl) ?_
 delta DA GA LN N4 SM Z0 Qhk RT
 simp only[eq_self,implies_true,and_true,exists_const]
noncomputable def Err2(l:List Arr):Senv:=EC (fun k ds S=>match k with
 |49=>some (pA ds S (.bool false) (ds=riD l))
 |_=>none) 6 1 [2] (fun _=>([],[]))
def Qhl(a:List Arr):List D:=[D.sl N4 (LN a) (fun i=>Arr.row1 (GA a i)) Mode.any,D.fn (Fn.func (50:Nat)) [] []]
theorem BeG(l:List Arr)(hl:l.length<=1000000)(h:∀a∈l,Val a):CD 29 [gsl 4 Arr.row1 l] (.bool true):=by
 refine Bh (A:=sC _ _) (x:=()) (E:=Err2 l) (eOk ?_ rfl) Try.func29 rfl (by kernel_rfl) rfl (by simp[sC,Err2,EC,E0]) ?_
 ·intro k ds S A hh
  dsimp only at hh
  split at hh
  ·injection hh with hh;subst hh
   refine Bw fun e=>CD.at_ ?_ _
   rw[e];exact BeY l hl h
  ·cases hh
 refine Bl (T :=
  ∃(x:Unit),SM (Qhl l)/\∀(y:Unit),True->RT (SM true)) (by kernel_rfl) ?_
 delta DA GA LN N4 SM Z0 Qhl RT
 simp only[eq_self,implies_true,and_true,exists_const]
def frL(R:Nat)(ix:List Nat):List Nat:=ix.flatMap fun i=>(List.range R).map fun k=>i*R+k
structure FrH (x y:Arr) (ix:List Nat):Prop where
 vx:Val x
 vy:Val y
 hy:y.sh≠[]
 hk:x.k=1
 hn:x.nu=Cm ix
 hi:∀i∈ix,(i:Int)<y.sh.headD 0
 hr:Bu (x.sh++y.sh.tail)=true
 hl:(frL (Bn y) ix).length<=65536
 hl2:ix.length<=65536
 hs:x.sh≠[]
 hw:gaW y (frL (Bn y) ix)<=262144
theorem R7(R:Nat)(ix:List Nat):(frL R ix).length=ix.length*R:=by
 induction ix with
 |nil=>simp[frL]
 |cons i l ih =>
  simp only[frL,List.flatMap_cons,List.length_append,List.length_map,List.length_range,List.length_cons] at ih ⊢
  rw[ih,Nat.succ_mul];omega
theorem Bb6{R:Nat}{ix:List Nat}{i:Nat}(h:i<ix.length):frL R (ix.take (i+1))=frL R (ix.take i)++(List.range R).map fun k=>ix.getD i 0*R+k:=by
 have e:ix.take (i+1)=ix.take i++[ix.getD i 0]:=Eo (show i<ix.length from h)
 rw[frL,e,List.flatMap_append,List.flatMap_singleton];rfl
theorem FrH.ga{x y:Arr}{ix:List Nat}(h:FrH x y ix):GaH y (x.sh++y.sh.tail) (frL (Bn y) ix):=by
 refine⟨h.vy,by have:=((Bv _).1 h.hr).1;omega,fun j hj=>?_,h.hl,h.hw⟩
 obtain ⟨i,hi,hj⟩:=List.mem_flatMap.1 hj
 obtain ⟨k,hk,rfl⟩:=List.mem_map.1 hj
 have hk:=List.mem_range.1 hk
 have:=(Ia h.vy h.hy (h.hi i hi)).2
 omega
def frR(l:List Nat)(t:Nat):D:=.sl 1 l.length (fun i=>[.int .i64 ((l.getD i 0:Nat):Int)]) (.tok 0 t)
def Bbl(x y:Arr)(ix:List Nat):Con:=fun k ds S=>match k with
 |27=>some (pA ds S (.tup [.int .i64 (y.sh.headD 0),isl y.sh.tail .any]) (wkL ds [.agg y.row1]))
 |28=>some (pA ds S (isl (x.sh++y.sh.tail) .any) (wkL ds [gsl 1 (fun s=>[isl s .any]) [x.sh,y.sh.tail]]))
 |29=>some (pA ds S (.bool true) (wkL ds [gsl 4 Arr.row1 [x,y]]))
 |30=>some (pA ds S (.bool true) (wkL ds [isl (x.sh++y.sh.tail) .any]))
 |31=>some (pA ds S (.bool true) (wkL ds [isl (Cm ix) .any,.int .i64 (y.sh.headD 0)]))
 |32=>some (pA ds S (.int .i64 (Bn y:Nat)) (wkL ds [isl y.sh.tail .any]))
 |33=>some (pA ds S (.tup [.agg (gaA y (x.sh++y.sh.tail) (frL (Bn y) ix)).row1,.int .i64 0]) (wkL ds [.agg y.row1,isl (x.sh++y.sh.tail) .any,isl (Cm (frL (Bn y) ix)) .any]))
 |_=>none
theorem BcA{x y:Arr}{ix:List Nat}(h:FrH x y ix):ConOk Try.prog (Bbl x y ix):=by
 have h8:=((Bv _).1 h.hr).1
 have hd:=EP h.vy h.hy
 intro k ds S A hh
 unfold Bbl at hh
 split at hh
 ·injection hh with hh;subst hh
  exact Bw fun e=>CD.at_ (CD.wk (Bd7 y h.hy) e) _
 ·injection hh with hh;subst hh
  refine Bw fun e=>CD.at_ (CD.wk ?_ e) _
  have hx:0<x.sh.length:=List.length_pos_iff.2 h.hs
  have e0:[x.sh,y.sh.tail].flatten=x.sh++y.sh.tail:=by simp
  have:=BeZ [x.sh,y.sh.tail] (by rw[EA,e0];rw[List.length_append] at h8 ⊢; omega) (by simp)
  rw[e0] at this
  exact this
 ·injection hh with hh;subst hh
  refine Bw fun e=>CD.at_ (CD.wk (BeG [x,y] (by simp) fun a ha=>?_) e) _
  simp only[List.mem_cons,List.not_mem_nil,or_false] at ha
  obtain rfl | rfl:=ha
  ·exact h.vx
  ·exact h.vy
 ·injection hh with hh;subst hh
  refine Bw fun e=>CD.at_ (CD.wk ?_ e) _
  have:=Oy (x.sh++y.sh.tail)
  rw[h.hr] at this
  exact this
 ·injection hh with hh;subst hh
  refine Bw fun e=>CD.at_ (CD.wk (Bes _ _ (by rw[GR];have:=h.hl2;omega) fun z hz=>?_) e) _
  obtain ⟨i,hi,rfl⟩:=List.mem_map.1 hz
  have:=h.hi i hi
  omega
 ·injection hh with hh;subst hh
  refine Bw fun e=>CD.at_ (CD.wk ?_ e) _
  have hr:=(Cz (Bz h.vy.c).1 1).2
  rw[List.drop_one] at hr
  have:=Mj y.sh.tail hr
  rw[Io hr] at this
  exact this
 ·injection hh with hh;subst hh
  exact Bw fun e=>CD.at_ (CD.wk (BeL _ _ _ h.ga) e) _
 ·cases hh
noncomputable def Efr(x y:Arr)(ix:List Nat):Senv:={ EC (Bbl x y ix) 77 11 [12,13,24,31,36,41,51,52,53,54,57,58,59] (fun _=>([],[])) with
 gh:=fun b=>match b with
  |1=>[.slot 10]
  |_=>[]
 ann:=fun b env S=>match b with
  |1=>some { slots:=[53,10],keep:=[0,1,2,3,4,7,8,9,51,52],α:=Nat×Nat,st:=fun z=>([.int .i64 z.1,frR (frL (Bn y) (ix.take z.1)) z.2],⟨S.objs,[(0,z.2)]⟩),inv:=fun z=>z.1<=ix.length,mu:=fun z=>ix.length-z.1 }
  |3=>match Ab.look env 53 with
   |.int _ i=>some { slots:=[58,10],keep:=[0,1,2,3,4,7,8,9,12,51,52,53,57],α:=Nat×Nat,st:=fun z=>([.int .i64 z.1,frR (frL (Bn y) (ix.take i.toNat)++(List.range z.1).map fun k=>ix.getD i.toNat 0*Bn y+k) z.2],⟨S.objs,[(0,z.2)]⟩),inv:=fun z=>z.1<=Bn y,mu:=fun z=>Bn y-z.1 }
   |_=>none
  |_=>none }
def V0(a:Arr):Int:=Arr.k a
def Qee(a:Arr):Prop:=SM (V0 a)
def KE(a:Arr):List Int:=Arr.sh a
def V1(a:Arr):Nat:=LN (KE a)
def Qef(a:Arr):Prop:=SM (V1 a)
def Qeg(a:Arr)(b:Nat):Int:=GI (KE a) b
def Kp(a:Arr):Nat:=LN (Arr.nu a)
def Qeh(a:Arr):Prop:=SM (Kp a)
def Y6(a:Arr)(b:Nat):Int:=GI (Arr.nu a) b
def V2(a:Arr):Nat:=LN (Arr.it a)
def Qei(a:Arr):Prop:=SM (V2 a)
def V3:Arr:=DA
def V4(a:Arr)(b:Nat):List D:=Arr.row (List.getD (Arr.it a) b V3)
def Qej(a:Arr):Prop:=Qee a/\(Qef a/\(∀(i:Nat),i<V1 a->SM (Qeg a i)/\True)/\True)/\(Qeh a/\(∀(i:Nat),i<Kp a->SM (Y6 a i)/\True)/\True)/\(Qei a/\(∀(i:Nat),i<V2 a->wkL (V4 a i) (V4 a i))/\True)/\True
def V5(a:Arr):List Int:=List.tail (KE a)
def Qek(a b:Arr):List (List Int):=[KE a,V5 b]
def Qel(a:Arr)(b:Nat):List D:=[ZI (Qeg a b)]
def Y7(a:Arr):D:=D.sl N1 (V1 a) (fun i=>Qel a i) Mode.any
def Y8(a:Arr):Nat:=LN (V5 a)
def Qem(a:Arr)(b:Nat):Int:=GI (V5 a) b
def Qen(a:Arr):D:=D.sl N1 (Y8 a) (fun i=>[ZI (Qem a i)]) Mode.any
def Qeo(a:Arr):List D:=[Qen a]
def Qhm(a b:Arr)(c:Nat):List Int:=List.getD (Qek a b) c []
def Qep(a:Arr)(b:Nat):List D:=[ZI (Y6 a b)]
def Y9(a:Arr):D:=D.sl N1 (Kp a) (fun i=>Qep a i) Mode.any
def Qeq(a:Arr):D:=D.sl N4 (V2 a) (fun i=>V4 a i) Mode.any
def Za(a:Arr):List D:=[ZI (V0 a),Y7 a,Y9 a,Qeq a]
def V6(a b:Arr)(c:Nat):Arr:=List.getD [a,b] c V3
def Qhn(a b:Arr)(c:Nat):List Int:=Arr.sh (V6 a b c)
def Qho(a b:Arr)(c:Nat):List Int:=Arr.nu (V6 a b c)
def Qer(a b:Arr)(c:Nat):List Arr:=Arr.it (V6 a b c)
def Zb(a b:Arr):List Int:=KE a++V5 b
def Qr(a:Arr):Nat:=Bn a
def V7(a b:Arr)(c:List Nat):Arr:=gaA a (Zb b a) (frL (Qr a) c)
def Qes(a b:Arr)(c:List Nat):Int:=Arr.k (V7 a b c)
def Qet(a b:Arr)(c:List Nat):List Int:=Arr.sh (V7 a b c)
def Zc(a b:Arr)(c:List Nat):Nat:=LN (Qet a b c)
def Qeu(a b:Arr)(c:List Nat)(d:Nat):List D:=[ZI (GI (Qet a b c) d)]
def Qev(a b:Arr)(c:List Nat):List Int:=Arr.nu (V7 a b c)
def Zd(a b:Arr)(c:List Nat):Nat:=LN (Qev a b c)
def Qew(a b:Arr)(c:List Nat)(d:Nat):List D:=[ZI (GI (Qev a b c) d)]
def Ze(a b:Arr):Nat:=LN (Zb a b)
def Qex(a b:Arr)(c:Nat):Int:=GI (Zb a b) c
def Qey(a b:Arr):Prop:=SM (Ze a b)/\(∀(i:Nat),i<Ze a b->SM (Qex a b i)/\True)/\True
def KF(a:Arr)(b:Nat)(c:List Nat):Nat:=LN (frL (Qr a) (List.take b c))
def Zf(a:Arr)(b:Nat)(c:List Nat)(d:Nat):List D:=[ZI (NI (List.getD (frL (Qr a) (List.take b c)) d N0))]
def Zg:Prop:=SM N0/\(∀(i:Nat),i<N0->Es (List D) [] [])/\True
def Qez(a:Arr):Prop:=Qee a/\(Qef a/\(∀(i:Nat),i<V1 a->SM (Qel a i))/\True)/\(Qeh a/\(∀(i:Nat),i<Kp a->SM (Qep a i))/\True)/\(Qei a/\(∀(i:Nat),i<V2 a->SM (V4 a i))/\True)/\True
def V8(a b:Nat)(c:Arr)(d:Nat)(e:Arr)(f g:Nat):Prop:=(SM a/\(SM Z0/\Zg/\Zg/\Zg/\True)/\SM b/\Qez c/\SM d/\Qez e/\True)/\f=g/\True
def Zh(a:Arr):Int:=(NI (Kp a))
def QeA(a:Arr)(b:Nat)(c:List Nat)(d:Nat):List Nat:=frL (Qr a) (List.take (Int.toNat (↑b:Int)) c)++List.map (fun k=>List.getD c (Int.toNat (↑b:Int)) N0*Qr a+k) (List.range d)
def KG(a:Arr)(b:Nat)(c:List Nat)(d:Nat):Nat:=LN (QeA a b c d)
def V9(a:Arr)(b:Nat)(c:List Nat)(d e:Nat):List D:=[ZI (NI (List.getD (QeA a b c d) e N0))]
def Xa(a:Arr)(b:Nat)(c:List Nat)(d:Nat):Nat:=KG a b c d+N1
def Qhp(a:Arr):D:=D.agg (Za a)
def Xb(a:Arr):Prop:=SM (Qhp a)
def QeB(a:Nat):Prop:=SM (D.ref (max (N0+N1) N0) a N0)
def QeC(a:Nat):Prop:=SM (D.ref (max (N1+N1) (max (N0+N1) N0)) a N0)
def QeD(a:Arr):Prop:=SM (Qen a)
def Qhq(a b:Arr):D:=D.sl N1 (Ze a b) (fun i=>[ZI (Qex a b i)]) Mode.any
def QeE(a b:Arr):Prop:=SM (Qhq a b)
def Zi(a:Arr):Prop:=SM (ZI (NI (Qr a)))
def Qhr(a:Arr)(b:Nat):D:=ZI (GI (Arr.nu a) (Int.toNat (↑b:Int)))
def QeF(a:Arr):Prop:=SM (Y9 a)
def QeG(a:Arr):Prop:=SM (ZI (Zh a))
def QeH(a:Arr)(b:List Nat):List Int:=Cm (frL (Qr a) b)
def QeI(a b:Arr)(c:List Nat):List Arr:=Arr.it (V7 a b c)
def QeJ(a b:Arr)(c:List Nat):Nat:=LN (QeI a b c)
def Qhs(a b:Arr)(c:List Nat)(d:Nat):List D:=Arr.row (List.getD (QeI a b c) d V3)
theorem BeO(x y:Arr)(ix:List Nat)(h:FrH x y ix):CD 9 [.agg x.row1,.agg y.row1] (.tup [.agg (gaA y (x.sh++y.sh.tail) (frL (Bn y) ix)).row1,.int .i64 0]):=by
 refine Bh (A:=sC _ _) (x:=()) (E:=Efr x y ix) (eOk (BcA h) rfl) Try.func9 rfl (by kernel_rfl) rfl (by simp[sC,Efr,EC,E0]) ?_
 refine Bl (T :=
  ∀(x_1:Nat),True->∀(x_2:Nat),x_1≠x_2/\True->∀(x_3:Nat),x_2≠x_3/\x_1≠x_3/\True->SM x_2/\∃(x_4:Unit),(Qej y/\True)/\∀(y_1:Unit),True->SM x_1/\∃(x_5:Unit),((N2=LN (Qek x y)/\(∀(i:Nat),i<N2->wkL (List.getD [List.take N1 (Y7 x::Qeo y),List.take N1 (Qeo y)] i []) [SI (Qhm x y i)])/\True)/\True)/\∀(y_2:Unit),True->SM x_1/\SM x_2/\∃(x_6:Unit),((SM N2/\(∀(i:Nat),i<N2->wkL (List.getD [List.take N4 (ZI (V0 x)::Y7 x::Y9 x::Qeq x::Za y),List.take N4 (Za y)] i []) [ZI (Arr.k (V6 x y i)),SI (Qhn x y i),SI (Qho x y i),D.sl N4 (LN (Qer x y i)) (fun i_1=>Arr.row (List.getD (Qer x y i) i_1 V3)) Mode.any])/\True)/\True)/\∀(y_3:Unit),True->SM x_1/\ifB (V0 x != Z1) (SM x_3/\(SM x_3/\True)/\∃(y_4:Unit),True/\((Z0=Qes y x ix/\(N0=Zc y x ix/\(∀(i:Nat),i<N0->Es (List D) [] (Qeu y x ix i))/\True)/\(N0=Zd y x ix/\(∀(i:Nat),i<N0->Es (List D) [] (Qew y x ix i))/\True)/\False/\True)/\(14:Int)=Z0/\True)/\True/\True) (∃(x_7:Unit),(Qey x y/\True)/\∀(y_4:Unit),True->SM x_1/\∃(x_8:Unit),((Kp x=LN (Cm ix)/\(∀(i:Nat),i<Kp x->Y6 x i=GI (Cm ix) i/\True)/\True)/\SM (List.headD (KE y) Z0)/\True)/\∀(y_5:Unit),True->∃(x_9:Unit),((SM (Y8 y)/\(∀(i:Nat),i<Y8 y->SM (Qem y i)/\True)/\True)/\True)/\∀(y_6:Unit),True->SM x_1/\∀(t:Nat),(∃(x_10:Nat×Nat),x_10.1<=LN ix/\(Z0=(NI x_10.1)/\(N0=KF y x_10.1 ix/\(∀(i:Nat),i<N0->Es (List D) [] (Zf y x_10.1 ix i))/\t=x_10.2)/\True)/\V8 x_3 x_2 y x_1 x t x_10.2)/\∀(x_10:Nat×Nat),x_10.1<=LN ix->ifB (decide ((NI x_10.1)<Zh x)) (Bd (Z0<=(NI x_10.1)/\(NI x_10.1)<Zh x) ((∃(x_11:Nat×Nat),x_11.1<=Qr y/\(Z0=(NI x_11.1)/\(KF y x_10.1 ix=KG y x_10.1 ix x_11.1/\(∀(i:Nat),i<KF y x_10.1 ix->Zf y x_10.1 ix i=V9 y x_10.1 ix x_11.1 i)/\x_10.2=x_11.2)/\True)/\V8 x_3 x_2 y x_1 x x_10.2 x_11.2)/\∀(x_11:Nat×Nat),x_11.1<=Qr y->ifB (decide ((NI x_11.1)<(NI (Qr y)))) (SM x_11.2/\Bd (Xa y x_10.1 ix x_11.1*8<=140737488355328/\Xa y x_10.1 ix x_11.1<=9223372036854775807) (∀(t:Nat),(Xb x/\Xb y/\SM (D.ref N0 x_1 N0)/\QeB x_2/\QeC x_3/\QeD y/\QeE x y/\Zi y/\SM (Qhr x x_10.1)/\QeF x/\QeG x/\SM (ZI (NI x_10.1))/\Zi y/\True)/\∃(y_7:Nat×Nat),y_7.1<=Qr y/\Qr y-y_7.1<Qr y-x_11.1/\(IntKind.wrap IntKind.i64 ((NI x_11.1)+Z1)=(NI y_7.1)/\(Xa y x_10.1 ix x_11.1=KG y x_10.1 ix y_7.1/\(∀(i:Nat),i<Xa y x_10.1 ix x_11.1->BB (KG y x_10.1 ix x_11.1) (fun i=>V9 y x_10.1 ix x_11.1 i) (fun i=>List.getD [List.take N1 [ZI (IntKind.wrap IntKind.i64 (IntKind.wrap IntKind.i64 (GI (Arr.nu x) (TN x_10.1)*(NI (Qr y)))+(NI x_11.1)))]] i []) i=V9 y x_10.1 ix y_7.1 i)/\t=y_7.2)/\True)/\V8 x_3 x_2 y x_1 x t y_7.2)) ((Xb x/\Xb y/\SM (D.ref N0 x_1 N0)/\QeB x_2/\QeC x_3/\QeD y/\QeE x y/\Zi y/\QeF x/\QeG x/\True)/\∃(y_7:Nat×Nat),y_7.1<=LN ix/\LN ix-y_7.1<LN ix-x_10.1/\(IntKind.wrap IntKind.i64 ((NI x_10.1)+Z1)=(NI y_7.1)/\(KG y x_10.1 ix x_11.1=KF y y_7.1 ix/\(∀(i:Nat),i<KG y x_10.1 ix x_11.1->V9 y x_10.1 ix x_11.1 i=Zf y y_7.1 ix i)/\x_11.2=y_7.2)/\True)/\V8 x_3 x_2 y x_1 x x_11.2 y_7.2))) (SM x_2/\∃(x_11:Unit),(Qej y/\Qey x y/\(KF y x_10.1 ix=LN (QeH y ix)/\(∀(i:Nat),i<KF y x_10.1 ix->(NI (List.getD (frL (Qr y) (List.take x_10.1 ix)) i N0))=GI (QeH y ix) i/\True)/\True)/\True)/\∀(y_7:Unit),True->SM x_3/\(SM x_3/\True)/\∃(y_8:Unit),True/\((SM (Qes y x ix)/\(SM (Zc y x ix)/\(∀(i:Nat),i<Zc y x ix->SM (Qeu y x ix i))/\True)/\(SM (Zd y x ix)/\(∀(i:Nat),i<Zd y x ix->SM (Qew y x ix i))/\True)/\(SM (QeJ y x ix)/\(∀(i:Nat),i<QeJ y x ix->SM (Qhs y x ix i))/\True)/\True)/\SM Z0/\True)/\True/\True))) (by kernel_rfl) ?_
 delta DA GI LN N0 N1 N2 N4 NI SI SM TN Z0 Z1 ZI V0 Qee Qei V3 V4 Qej V5 Qek Qel Y7 Y8 Qem KE Qen Qeo Qhm Qep Y9 Qeq Za V6 Qhn Qho V1 Qer Zb Qr V7 Qes Qet Zc Qeu Qev Zd Qef Qew Ze Qex Qey KF Zf Zg Qez V8 Zh Qeg QeA KG V9 Xa Qhp Xb QeB QeC QeD Qhq Kp QeE Zi Qhr QeF QeG QeH QeI QeJ Qhs Qeh Y6 V2
 have da:(default:Arr)=Arr.mk 0 [] [] []:=rfl
 simp only[<- da]
 simp only[ne_eq,implies_true,Int.toNat_natCast,Bj,Bc,decide_eq_true_eq,decide_eq_false_iff_not,true_and,and_true,bne_iff_ne,bne_eq_false_iff_eq,exists_const,forall_const,Prod.exists]
 obtain ⟨vx,vy,hy,hk,hn,hi,hr,hl,hl2,hs,hw⟩:=h
 have hd:=EP vy hy
 have nl:x.nu.length=ix.length:=by rw[hn,GR]
 have P0:∀i,frL (Bn y) (ix.take i)++(List.range 0).map (fun k=>ix.getD i 0*Bn y+k)=frL (Bn y) (ix.take i):=fun i=>by simp
 have P1:∀i k,frL (Bn y) (ix.take i)++(List.range (k+1)).map (fun k=>ix.getD i 0*Bn y+k)=(frL (Bn y) (ix.take i)++(List.range k).map (fun k=>ix.getD i 0*Bn y+k))++[ix.getD i 0*Bn y+k]:=fun i k=>by
  rw[List.range_succ,List.map_append,List.append_assoc];rfl
 have PR:∀i,i<ix.length->frL (Bn y) (ix.take i)++(List.range (Bn y)).map (fun k=>ix.getD i 0*Bn y+k)=frL (Bn y) (ix.take (i+1)):=fun i h=>(Bb6 h).symm
 have ap:∀(a:List Nat) (z:Nat) (j:Nat),j<a.length+1->BB a.length (fun i=>[D.int .i64 ((a.getD i 0:Nat):Int)]) (fun i=>[List.take 1 [D.int .i64 (z:Nat)]].getD i []) j=[D.int .i64 (((a++[z]).getD j 0:Nat):Int)]:=fun a z j hj=>by
  rw[BB]
  split
  ·rename_i h;rw[List.getD_eq_getElem?_getD,List.getD_eq_getElem?_getD,List.getElem?_append_left h]
  ·obtain rfl:j=a.length:=by omega
   rw[Nat.sub_self,List.getD_eq_getElem?_getD (l:=a++[z]),List.getElem?_append_right (by omega),Nat.sub_self];rfl
 refine fun x1 x2 _ x3 _=>⟨fun _ _=>Be _,⟨rfl,fun i hi=>?_⟩,fun i hi=>?_,fun q=>absurd hk q,fun _=>⟨⟨by rw[hn],fun i hi=>by rw[hn]⟩,fun t=>⟨⟨0,t,Nat.zero_le _,⟨rfl,?_,(fun i hi=>absurd hi (Nat.not_lt_zero i)),rfl⟩,rfl⟩,?_⟩⟩⟩
 ·rcases i with _ | _ | i
  ·exact Be _
  ·exact Be _
  ·omega
 ·rcases i with _ | _ | i
  ·exact Be _
  ·exact Be _
  ·omega
 ·rw[List.take_zero];rfl
 rintro ⟨i,t1⟩ hi1
 simp only at hi1 ⊢
 refine⟨fun hlt=>?_,fun hge=>?_⟩
 ·have hlt:i<ix.length:=by omega
  have hm:ix.getD i 0∈ix:=by rw[List.getD_eq_getElem?_getD,List.getElem?_eq_getElem hlt];exact List.getElem_mem hlt
  have hmi:=hi _ hm
  have hb:=(Ia vy hy hmi).2
  have sz:=(Bz vy.c).2.2
  have gn:x.nu.getD i 0=(ix.getD i 0:Nat):=by rw[hn,GD ix hlt]
  have ln:∀k,k<=Bn y->(frL (Bn y) (ix.take i)++(List.range k).map (fun k=>ix.getD i 0*Bn y+k)).length<=65536:=fun k hk=>by
   rw[List.length_append,R7,List.length_take,List.length_map,List.length_range]
   rw[R7] at hl
   have e1:(min i ix.length+1)*Bn y<=ix.length*Bn y:=Nat.mul_le_mul_right _ (by omega)
   rw[Nat.succ_mul] at e1
   omega
  refine⟨⟨by omega,by omega⟩,⟨0,t1,Nat.zero_le _,⟨rfl,by rw[P0],fun j hj=>by rw[P0],rfl⟩,rfl⟩,?_⟩
  rintro ⟨k,t2⟩ hk2
  simp only at hk2 ⊢
  refine⟨fun hlt2=>?_,fun hge2=>?_⟩
  ·have l1:=ln k hk2
   have w1:IntKind.i64.wrap (x.nu.getD i 0*(Bn y:Nat))=((ix.getD i 0*Bn y:Nat):Int):=by rw[gn,<- Int.natCast_mul];exact Bb (by omega) (by omega)
   have w2:IntKind.i64.wrap (((ix.getD i 0*Bn y:Nat):Int)+(k:Nat))=((ix.getD i 0*Bn y+k:Nat):Int):=by rw[<- Int.natCast_add];exact Bb (by omega) (by omega)
   rw[w1,w2]
   refine⟨⟨by omega,by omega⟩,fun t3=>⟨k+1,t3,by omega,by omega,⟨Bb (by omega) (by omega),?_,(fun j hj=>?_),rfl⟩,rfl⟩⟩
   ·rw[P1,List.length_append (bs:=[_])];rfl
   ·rw[P1];exact ap _ _ j hj
  ·obtain rfl:k=Bn y:=by omega
   exact⟨i+1,t2,by omega,by omega,⟨Bb (by omega) (by omega),by rw[PR i hlt],fun j hj=>by rw[PR i hlt],rfl⟩,rfl⟩
 ·obtain rfl:i=ix.length:=by omega
  rw[List.take_length]
  exact⟨fun _ _=>Be _,(GR _).symm,fun j hj=>(GD _ hj).symm⟩
theorem Tb{α:Type}{l:List α}{i:Nat}{d:α}(h:i<l.length):l.getD i d∈l:=by
 rw[List.getD_eq_getElem?_getD,List.getElem?_eq_getElem h];exact List.getElem_mem h
noncomputable def BX{α:Type}(a b:α):Bool:=@decide (a=b) (Classical.propDecidable _)
theorem B2{α:Type}{a b:α}:BX a b=true↔a=b:=by unfold BX;exact @decide_eq_true_iff _ (Classical.propDecidable _)
theorem Ey{α:Type}{a b:α}(h:a≠b):false=BX a b:=by
 cases hs:BX a b with
 |false=>rfl
 |true=>exact (h (B2.1 hs)).elim
theorem O5{α:Type}{a b:α}(h:a=b):true=BX a b:=(B2.2 h).symm
theorem Rq{α:Type}{l m:List α}(d:α)(h:l.length=m.length)(h2:∀j,j<l.length->l.getD j d=m.getD j d):l=m:=by
 apply List.ext_getElem h
 intro i h3 h4
 have:=h2 i h3
 simpa[List.getD_eq_getElem?_getD,List.getElem?_eq_getElem h3,List.getElem?_eq_getElem h4] using this
theorem Ut{α:Type}[Inhabited α]{l m:List α}{i:Nat}(h:∀j,j<i->l.getD j default=m.getD j default)(e:l.getD i default=m.getD i default):∀j,j<i+1->l.getD j default=m.getD j default:=fun j hj=>by
 by_cases q:j=i
 ·subst q;exact e
 ·exact h j (by omega)
noncomputable def EqI(l m:List Int):Senv:={ EC C7 26 2 [4,5,10,12,13,14,24] (fun id=>match id with | 6=>([0,1,2,3,4,5,6,7,8],[]) | _=>([],[])) with
 ann:=fun q _ S=>match q with
  |0=>some { slots:=[13],keep:=[0,1,11,12],α:=Nat,st:=fun i=>([.int .i64 i],S),inv:=fun i=>i<=l.length/\∀j,j<i->l.getD j default=m.getD j default,mu:=fun i=>l.length-i }
  |_=>none }
def QeK(a b:List Int):Prop:=True/\∃(_y:Unit),True/\false=BX a b/\True/\True
def Zj(a:Nat)(b c:List Int):Prop:=a<=LN b/\∀(j:Nat),j<a->GI b j=GI c j
def Qht(a:List Int):D:=SI a
def QeL(a:List Int):Prop:=SM (Qht a)
theorem BdM(l m:List Int)(hl:l.length<=maxLen)(hm:m.length<=maxLen):ACalls Try.prog 37 [isl l .any,isl m .any] ⟨[],[]⟩ (SpecR (sC [isl l .any,isl m .any] (.bool (BX l m))) ()):=by
 refine Bh (A:=sC _ _) (x:=()) (E:=EqI l m) (eOk BA rfl) Try.func37 rfl (by kernel_rfl) rfl (by simp[sC,EqI,EC,E0]) ?_
 refine Bl (T :=
  ifB ((LI l) != (LI m)) (QeK l m) ((∃(x:Nat),Zj x l m/\(Z0=(↑x:Int)/\True)/\True/\True)/\∀(x:Nat),Zj x l m->ifB (decide ((↑x:Int)<(LI l))) (Bd (Z0<=(↑x:Int)/\(↑x:Int)<(LI l)) (Bd (Z0<=(↑x:Int)/\(↑x:Int)<(LI m)) (ifB (GI l (Int.toNat (↑x:Int)) != GI m (Int.toNat (↑x:Int))) (QeK l m) ((QeL l/\QeL m/\SM D.unk/\SM (ZI (LI l))/\True)/\∃(y:Nat),Zj y l m/\LN l-y<LN l-x/\(IntKind.wrap IntKind.i64 ((↑x:Int)+Z1)=(↑y:Int)/\True)/\True/\True)))) (RT (true=BX l m)))) (by kernel_rfl) ?_
 delta GI LI LN N1 SI SM Z0 Z1 ZI QeK Zj Qht QeL RT
 simp only[Bj,Bc,decide_eq_true_eq,decide_eq_false_iff_not,true_and,and_true,bne_iff_ne,bne_eq_false_iff_eq,ne_eq,exists_const,Int.toNat_natCast]
 simp only[maxLen] at hl hm
 refine⟨fun h=>Ey fun e=>h (by rw[e]),fun he=>⟨⟨0,⟨Nat.zero_le _,fun j hj=>absurd hj (by omega)⟩,rfl⟩,fun i hi=>⟨fun hlt=>⟨⟨by omega,by omega⟩,⟨by omega,by omega⟩,fun hn=>Ey fun e=>hn (by rw[e]),fun hn=>⟨i+1,⟨by omega,Ut hi.2 hn⟩,by omega,Bb (by omega) (by omega)⟩⟩,fun hge=>O5 (Rq default (by omega) fun j hj=>hi.2 j (by omega))⟩⟩⟩
noncomputable def sPr{α:Type}(row:α->List D)(q:α×α->Prop):FnSpec where
 β:=α×α
 α:=Unit
 args:=fun x=>[.agg (row x.1),.agg (row x.2)]
 st:=fun _=>⟨[],[]⟩
 pre:=q
 post:=fun _ _=>True
 res:=fun x _=>.ret (.bool (BX x.1 x.2))
 out:=fun _ _=>⟨[],[]⟩
theorem BdP{α : Type}{k : Nat}{row : α -> List D}{q : α×α -> Prop}{ds : List D}{S : St}(h : ∀x, q x -> ACalls Try.prog k [.agg (row x.1), .agg (row x.2)] ⟨[], []⟩ (SpecR (sC [.agg (row x.1), .agg (row x.2)] (.bool (BX x.1 x.2))) ())) :
  (∀y,(sPr row q).pre y->ACalls Try.prog k ((sPr row q).args y) ((sPr row q).st y) (SpecR (sPr row q) y))/\(∀y,(sPr row q).fit=some y->(sPr row q).pre y->Bo ds ((sPr row q).args y)/\leS ((sPr row q).st y) S)/\((sPr row q).all=true->∀y,(sPr row q).pre y->Bo ds ((sPr row q).args y)/\(sPr row q).st y=S) :=
 ConOk.plain (fun (x:α×α) hx=>(h x hx).mono fun _ _ ⟨y,q1,q2,q3⟩=>⟨y,q1,q2,q3⟩) rfl rfl
noncomputable def Bbt(l m:List Arr):Con:=fun k _ _=>match k with
 |13=>some (sPr Arr.row1 (fun x=>x.1∈l/\x.2∈m))
 |_=>none
noncomputable def EeA(l m:List Arr):Senv:={ EC (Bbt l m) 32 3 [6,7,8,9,14,15,16,17,18,30] (fun _=>([],[])) with
 ann:=fun q _ S=>match q with
  |0=>some { slots:=[17],keep:=[0,1,2,15,16],α:=Nat,st:=fun i=>([.int .i64 i],S),inv:=fun i=>i<=l.length/\∀j,j<i->l.getD j default=m.getD j default,mu:=fun i=>l.length-i }
  |_=>none }
def QeM(a b:List Arr):Prop:=True/\∃(_y:Unit),True/\false=BX a b/\True/\True
def Jh:Arr:=DA
def KH(a:List Arr)(b:Nat):Arr:=List.getD a b Jh
def Zk(a:Nat)(b c:List Arr):Prop:=a<=LN b/\∀(j:Nat),j<a->KH b j=KH c j
def Xc(a:List Arr)(b:Nat):Arr:=List.getD a (Int.toNat (↑b:Int)) Jh
def QeN(a:List Arr)(b:Nat):List Int:=Arr.sh (Xc a b)
def QeO(a:List Arr)(b:Nat):Nat:=LN (QeN a b)
def QeP(a:List Arr)(b:Nat):List Int:=Arr.nu (Xc a b)
def QeQ(a:List Arr)(b:Nat):Nat:=LN (QeP a b)
def QeR(a:List Arr)(b:Nat):List Arr:=Arr.it (Xc a b)
def QeS(a:List Arr)(b:Nat):Nat:=LN (QeR a b)
def QeT(a:List Arr)(b:Nat)(c:Arr):Prop:=Arr.k (Xc a b)=Arr.k c/\(QeO a b=LN (Arr.sh c)/\(∀(i:Nat),i<QeO a b->[ZI (GI (QeN a b) i)]=[ZI (GI (Arr.sh c) i)])/\True)/\(QeQ a b=LN (Arr.nu c)/\(∀(i:Nat),i<QeQ a b->[ZI (GI (QeP a b) i)]=[ZI (GI (Arr.nu c) i)])/\True)/\(QeS a b=LN (Arr.it c)/\(∀(i:Nat),i<QeS a b->Arr.row (List.getD (QeR a b) i Jh)=Arr.row (List.getD (Arr.it c) i Jh))/\True)/\True
def Qhu(a:List Arr)(b:Nat):List Int:=Arr.sh (KH a b)
def Qhv(a:List Arr)(b:Nat):List Int:=Arr.nu (KH a b)
def QeU(a:List Arr)(b:Nat):List Arr:=Arr.it (KH a b)
def Qhw(a:List Arr):D:=D.sl N4 (LN a) (fun i=>[ZI (Arr.k (KH a i)),SI (Qhu a i),SI (Qhv a i),D.sl N4 (LN (QeU a i)) (fun i_1=>Arr.row (List.getD (QeU a i) i_1 Jh)) Mode.any]) Mode.any
def Zl(a:List Arr):Prop:=SM (Qhw a)
theorem Bbd(l m:List Arr)(hl:l.length<=maxLen)(hm:m.length<=maxLen)(hc:ConOk Try.prog (Bbt l m)):ACalls Try.prog 38 [gsl 4 Arr.row1 l,gsl 4 Arr.row1 m,.fn (.func 13) [] []] ⟨[],[]⟩ (SpecR (sC [gsl 4 Arr.row1 l,gsl 4 Arr.row1 m,.fn (.func 13) [] []] (.bool (BX l m))) ()):=by
 refine Bh (A:=sC _ _) (x:=()) (E:=EeA l m) (eOk hc rfl) Try.func38 rfl (by kernel_rfl) rfl (by simp[sC,EeA,EC,E0]) ?_
 refine Bl (T :=
  ifB ((LI l) != (LI m)) (QeM l m) ((∃(x:Nat),Zk x l m/\(Z0=(↑x:Int)/\True)/\True/\True)/\∀(x:Nat),Zk x l m->ifB (decide ((↑x:Int)<(LI l))) (Bd (Z0<=(↑x:Int)/\(↑x:Int)<(LI l)) (∀(x_1:Nat),True->SM x_1/\Bd (Z0<=(↑x:Int)/\(↑x:Int)<(LI m)) (∀(x_2:Nat),x_1≠x_2/\True->SM x_2/\SM x_1/\SM x_2/\∃(x_3:Arr×Arr),(QeT l x x_3.1/\QeT m x x_3.2/\True)/\(True/\True)/\(x_3.1∈l/\x_3.2∈m)/\∀(y:Unit),True->ifB (!BX x_3.1 x_3.2) (QeM l m) ((Zl l/\Zl m/\SM (D.fn (Fn.func (13:Nat)) [] [])/\Zl l/\SM (ZI (LI l))/\True)/\∃(y:Nat),Zk y l m/\LN l-y<LN l-x/\(IntKind.wrap IntKind.i64 ((↑x:Int)+Z1)=(↑y:Int)/\True)/\True/\True)))) (RT (true=BX l m)))) (by kernel_rfl) ?_
 delta DA GI LI LN N1 N4 SI SM Z0 Z1 ZI QeO QeP QeQ QeR QeS QeT Qhu Qhv QeU Qhw Zl QeM Jh KH Zk Xc QeN RT
 simp only[Bj,Bc,decide_eq_true_eq,decide_eq_false_iff_not,true_and,and_true,bne_iff_ne,bne_eq_false_iff_eq,ne_eq,exists_const,forall_const,Int.toNat_natCast,Bool.not_eq_true',Bool.not_eq_false',Prod.exists]
 simp only[maxLen] at hl hm
 refine⟨fun h=>Ey fun e=>h (by rw[e]),fun he=>⟨⟨0,⟨Nat.zero_le _,fun j hj=>absurd hj (by omega)⟩,rfl⟩,fun i hi=>⟨fun hlt=>⟨⟨by omega,by omega⟩,fun _=>⟨⟨by omega,by omega⟩,fun _ _=>⟨l.getD i default,m.getD i default,?_,⟨Tb (by omega),Tb (by omega)⟩,fun hn=>Ey fun e=>?_,fun hs=>⟨i+1,⟨by omega,Ut hi.2 (B2.1 hs)⟩,by omega,Bb (by omega) (by omega)⟩⟩⟩⟩,fun hge=>O5 (Rq default (by omega) fun j hj=>hi.2 j (by omega))⟩⟩⟩
 ·repeat' (first | rfl | exact fun _ _=>rfl | refine And.intro ?_ ?_)
 ·rw[e,B2.2 rfl] at hn;cases hn
theorem Up{α β:Type}{a b:α}{c d:β}(h:a=b↔c=d):BX a b=BX c d:=by
 rw[Bool.eq_iff_iff,B2,B2];exact h
theorem BcN{a b:Arr}(h1:a.k=b.k)(h2:a.sh=b.sh)(h3:a.nu=b.nu)(h4:a.it=b.it):a=b:=by
 cases a;cases b
 simp only[Arr.k,Arr.sh,Arr.nu,Arr.it] at h1 h2 h3 h4
 rw[h1,h2,h3,h4]
noncomputable def BcB(l m:List Arr):Con:=fun k ds _=>match k with
 |38=>some (pC ds (.bool (BX l m)) (Bo ds [gsl 4 Arr.row1 l,gsl 4 Arr.row1 m,.fn (.func 13) [] []]))
 |37=>match ds with
  | [.sl 1 n f _,.sl 1 p g _]=>some (pC ds (.bool (BX (BF n f) (BF p g))) ((IntsP n f/\n<=maxLen)/\IntsP p g/\p<=maxLen))
  |_=>none
 |_=>none
noncomputable def Eas(a b:Arr):Senv:=EC (BcB a.it b.it) 31 5 [] (fun _=>([],[]))
def QeV(a:Arr):Prop:=(IntsP (LN (Arr.sh a)) fun i=>[ZI (GI (Arr.sh a) i)])/\LN (Arr.sh a)<=9223372036854775807
def QeW(a:Arr):List Int:=BF (LN (Arr.sh a)) fun i=>[ZI (GI (Arr.sh a) i)]
def QeX(a:Arr):Prop:=(IntsP (LN (Arr.nu a)) fun i=>[ZI (GI (Arr.nu a) i)])/\LN (Arr.nu a)<=9223372036854775807
def QeY(a:Arr):List Int:=BF (LN (Arr.nu a)) fun i=>[ZI (GI (Arr.nu a) i)]
def Ji(a:Arr):List Arr:=Arr.it a
def QeZ:Arr:=DA
def Xd(a:Arr)(b:Nat):Arr:=List.getD (Ji a) b QeZ
def Qhx(a:Arr)(b:Nat):List Int:=Arr.sh (Xd a b)
def Qhy(a:Arr)(b:Nat):List Int:=Arr.nu (Xd a b)
def Qe0(a:Arr)(b:Nat):List Arr:=Arr.it (Xd a b)
def Qhz(a:Arr)(b:Nat):List D:=[ZI (Arr.k (Xd a b)),SI (Qhx a b),SI (Qhy a b),D.sl N4 (LN (Qe0 a b)) (fun i=>Arr.row (List.getD (Qe0 a b) i QeZ)) Mode.any]
def Qe1(a:Arr):Prop:=SM (LN (Ji a))/\(∀(i:Nat),i<LN (Ji a)->SM (Qhz a i))/\True
def Zm(a b:Arr):Prop:=True/\∃(_y:Unit),True/\false=BX a b/\True/\True
theorem Bc1(a b : Arr)(ha : a.sh.length<=maxLen /\ a.nu.length<=maxLen /\ a.it.length<=maxLen)(hb : b.sh.length<=maxLen /\ b.nu.length<=maxLen /\ b.it.length<=maxLen)(hc : ConOk Try.prog (BcB a.it b.it)) :
  ACalls Try.prog 13 [.agg a.row2,.agg b.row2] ⟨[],[]⟩ (SpecR (sC [.agg a.row2,.agg b.row2] (.bool (BX a b))) ()):=by
 refine Bh (A:=sC _ _) (x:=()) (E:=Eas a b) (eOk hc rfl) Try.func13 rfl (by kernel_rfl) rfl (by simp[sC,Eas,EC,E0]) ?_
 refine Bl (T :=
  ∀(x:Nat),True->∀(x_1:Nat),x≠x_1/\True->SM x/\SM x_1/\ifB (Arr.k a==Arr.k b) (SM x/\SM x_1/\(QeV a/\QeV b)/\∀(y:Unit),True->ifB (BX (QeW a) (QeW b)) (SM x/\SM x_1/\(QeX a/\QeX b)/\∀(y:Unit),True->ifB (BX (QeY a) (QeY b)) (SM x/\SM x_1/\(Qe1 a/\Qe1 b/\SM (D.fn (Fn.func (13:Nat)) [] [])/\True)/\∀(y:Unit),True->RT (BX (Ji a) (Ji b)=BX a b)) (Zm a b)) (Zm a b)) (Zm a b)) (by kernel_rfl) ?_
 delta DA GI LN N1 N4 SI SM Z0 ZI QeV QeW QeX QeY Ji QeZ Xd Qhx Qhy Qe0 Qhz Qe1 Zm RT
 simp only[Bj,true_and,and_true,beq_iff_eq,beq_eq_false_iff_ne,ne_eq,exists_const,forall_const,implies_true,eq_self,CA]
 simp only[maxLen] at ha hb
 obtain ⟨a1,a2,a3⟩:=ha
 obtain ⟨b1,b2,b3⟩:=hb
 have no:∀ {α:Type} {x y:α},BX x y=false->x≠y:=fun h e=>by rw[B2.2 e] at h;cases h
 exact fun _ _ _=>⟨fun hk=>⟨⟨⟨BK _,a1⟩,BK _,b1⟩,fun hs=>⟨⟨⟨BK _,a2⟩,BK _,b2⟩,fun hn=>Up ⟨fun e=>BcN hk (B2.1 hs) (B2.1 hn) e,fun e=>by rw[e]⟩,fun hn=>Ey fun e=>no hn (by rw[e])⟩,fun hs=>Ey fun e=>no hs (by rw[e])⟩,fun h=>Ey fun e=>h (by rw[e])⟩
theorem BdV{a b:Arr}{k:Nat}{d:D}(h:ACalls Try.prog k [.agg a.row2,.agg b.row2] ⟨[],[]⟩ (SpecR (sC [.agg a.row2,.agg b.row2] d) ())):ACalls Try.prog k [.agg a.row1,.agg b.row1] ⟨[],[]⟩ (SpecR (sC [.agg a.row1,.agg b.row1] d) ()) :=
 (h.wkArgs (by simp only[wkL,wkD];exact⟨CE _,CE _,trivial⟩)).mono fun _ _ ⟨y,q1,q2,q3⟩=>⟨y,q1,q2,q3⟩
theorem BaY:∀(a b:Arr),a.ok->b.ok->ACalls Try.prog 13 [.agg a.row2,.agg b.row2] ⟨[],[]⟩ (SpecR (sC [.agg a.row2,.agg b.row2] (.bool (BX a b))) ())
 |.mk k s n is,.mk k' s' n' is',ha,hb=>by
  simp only[Arr.ok] at ha hb
  obtain ⟨_,_,_,a1,a2,a3,a4⟩:=ha
  obtain ⟨_,_,_,b1,b2,b3,b4⟩:=hb
  refine Bc1 _ _ ⟨a1,a2,a3⟩ ⟨b1,b2,b3⟩ ?_
  intro f ds S A h
  unfold BcB at h
  split at h
  ·injection h with h;subst h
   refine Ea fun e=>⟨Bq _,Cp e (Bbd _ _ a3 b3 ?_)⟩
   intro f ds S A h
   unfold Bbt at h
   split at h
   ·injection h with h;subst h
    refine BdP fun (x:Arr×Arr) hx=>?_
    obtain ⟨x,y⟩:=x
    have hx1:x∈is:=hx.1
    have hx2:y∈is':=hx.2
    exact BdV (BaY x y ((Cf _).1 a4 x hx1) ((Cf _).1 b4 y hx2))
   ·cases h
  ·split at h
   ·injection h with h;subst h
    exact Ea fun ⟨⟨h1,h2⟩,h3,h4⟩=>⟨Bq _,Cp (us:=[isl (BF _ _) .any,isl (BF _ _) .any]) ⟨(B8 h1).1,(B8 h3).1,trivial⟩ (BdM _ _ (by rw[CU];exact h2) (by rw[CU];exact h4))⟩
   ·cases h
  ·cases h
termination_by a=>SizeOf.sizeOf a
decreasing_by
 have:=List.sizeOf_lt_of_mem hx1
 simp;omega
def nmA(n:Nat):Arr:=.mk 1 [] [(n:Int)] []
noncomputable def Enu:Senv:=EC C7 6 1 [2] (fun _=>([],[]))
def Qe2:Prop:=SM N0/\(∀(i:Nat),i<N0->False)/\True
theorem Bew(n:Nat):CD 11 [.int .i64 (n:Nat)] (.agg (nmA n).row1):=by
 refine CD.ofW (T1 (E:=Enu) (eOk BA rfl) Try.func11 rfl (by kernel_rfl) rfl (by simp[Enu,EC,E0]) ?_)
 refine Bl (T :=
  ∀(x:Nat),True->SM x/\(SM x/\True)/\Z1=Arr.k (Arr.mk Z1 [] [(↑n:Int)] [])/\Qe2/\(SM N1/\(∀(i:Nat),i<N1->wkL (List.getD [[ZI (↑n:Int)]] i []) [ZI (GI [(↑n:Int)] i)])/\True)/\Qe2/\True) (by kernel_rfl) ?_
 delta GI N0 N1 SM Z0 Z1 ZI Qe2
 simp only[eq_self,true_and,and_true,forall_const]
 refine⟨rfl,fun i h=>by omega,fun i h=>?_,fun i h=>by omega⟩
 obtain rfl:i=0:=by omega
 exact Be _
theorem Beo{n:Nat}(hn:n<=65536):(Bi (nmA n)).1=0:=by
 unfold nmA
 rw[Bi]
 have h0:By 1 [] 1 0=0:=by decide
 rw[if_neg (by simpa using h0),if_neg]
 ·rw[BT];simp
 ·simp only[List.any_cons,List.any_nil,Bool.or_false,CM,MW]
  simp
  exact Int.le_trans (Int.ofNat_le.2 hn) (by decide)
theorem Bd1{n:Nat}(hn:n<=65536):(nmA n).ok:=by
 unfold nmA
 simp only[Arr.ok,okL]
 refine⟨by unfold Gg;omega,by simp,fun z hz=>?_,by simp,by simp[maxLen],by simp,trivial⟩
 have:z=(n:Int):=by simpa using hz
 unfold Gg;omega
def BaZ(a:Arr):Con:=fun k ds S=>match k with
 |18=>some (pA ds S (.int .i64 (wtA a)) (wkL ds [.agg a.row1]))
 |19=>some (pA ds S (.int .i64 (Bi a).1) (wkL ds [.agg a.row1]))
 |_=>none
theorem BbC{a:Arr}(h:a.ok):ConOk Try.prog (BaZ a):=by
 intro k ds S A hh
 have hrow:wkL [.agg a.row1] [.agg a.row2]:=by
  simp only[wkL,wkD]
  exact⟨CE a,trivial⟩
 unfold BaZ at hh
 split at hh
 ·injection hh with hh;subst hh
  have h1:CD 18 [.agg a.row2] (.int .i64 (wtA a)):=(WK a h).mono fun _ _ ⟨y,q1,q2,q3⟩=>⟨(),trivial,q2,q3⟩
  exact Bw fun e=>CD.at_ (CD.wk (CD.wk h1 hrow) e) _
 ·injection hh with hh;subst hh
  have h1:CD 19 [.agg a.row2] (.int .i64 (Bi a).1):=(Bd3 a h).mono fun _ _ ⟨y,q1,q2,q3⟩=>⟨(),trivial,q2,q3⟩
  exact Bw fun e=>CD.at_ (CD.wk (CD.wk h1 hrow) e) _
 ·cases hh
noncomputable def Efw(a:Arr):Senv:=EC (BaZ a) 14 3 [4] (fun _=>([],[]))
def Qe3(a:Arr)(b:Nat):List D:=Arr.row (GA (Arr.it a) b)
def Qe4(a:Arr):Prop:=(SM (Arr.k a)/\(SM (LN (Arr.sh a))/\(∀(i:Nat),i<LN (Arr.sh a)->SM (GI (Arr.sh a) i)/\True)/\True)/\(SM (LN (Arr.nu a))/\(∀(i:Nat),i<LN (Arr.nu a)->SM (GI (Arr.nu a) i)/\True)/\True)/\(SM (LN (Arr.it a))/\(∀(i:Nat),i<LN (Arr.it a)->wkL (Qe3 a i) (Qe3 a i))/\True)/\True)/\True
def Qe5(a:Arr)(b:Int):Bool:=decide (wtA a<=b)&&Prod.fst (Bi a)==Z0
theorem Bd8(a:Arr)(n:Int)(h:a.ok):CD 5 [.agg a.row1,.int .i64 n] (.bool (decide (wtA a<=n)&&(Bi a).1==0)):=by
 refine Bh (A:=sC _ _) (x:=()) (E:=Efw a) (eOk (BbC h) rfl) Try.func5 rfl (by kernel_rfl) rfl (by simp[sC,Efw,EC,E0]) ?_
 refine Bl (T :=
  ∀(x:Nat),True->SM x/\∃(x_1:Unit),Qe4 a/\∀(y:Unit),True->ifB (decide (wtA a<=n)) (SM x/\∃(x:Unit),Qe4 a/\∀(y:Unit),True->RT ((Prod.fst (Bi a)==Z0)=Qe5 a n)) (RT (false=Qe5 a n))) (by kernel_rfl) ?_
 delta DA GA GI LN SM Z0 Qe3 Qe4 Qe5 RT
 have da:(default:Arr)=Arr.mk 0 [] [] []:=rfl
 simp only[<- da]
 simp only[implies_true,Bj,decide_eq_true_eq,decide_eq_false_iff_not,true_and,and_true,exists_const,forall_const]
 exact⟨fun _ _=>Be _,fun hw=>⟨fun _ _=>Be _,by simp[hw]⟩,fun hw=>by simp[hw]⟩
noncomputable def Etl:Senv:=EC C7 11 3 [6] (fun _=>([],[]))
def Jj(a:Arr):List Int:=Arr.sh a
def Qe6(a:Arr):Int:=if Jj a=[] then Z1 else List.headD (Jj a) Z0
theorem BdQ(a:Arr):CD 12 [.agg a.row1] (.int .i64 (if a.sh=[] then 1 else a.sh.headD 0)):=by
 refine Bh (A:=sC _ _) (x:=()) (E:=Etl) (eOk BA rfl) Try.func12 rfl (by kernel_rfl) rfl (by simp[sC,Etl,EC,E0]) ?_
 refine Bl (T :=
  ∀(x:Nat),True->SM x/\ifB ((LI (Jj a))==Z0) (RT (Z1=Qe6 a)) (SM x/\Bd (Z0<=Z0/\Z0<(LI (Jj a))) (RT (GI (Jj a) N0=Qe6 a)))) (by kernel_rfl) ?_
 delta GI LI LN N0 SM Z0 Z1 Jj Qe6 RT
 have da:(default:Arr)=Arr.mk 0 [] [] []:=rfl
 simp only[]
 simp only[ne_eq,Bj,Bc,true_and,and_true,beq_iff_eq,beq_eq_false_iff_ne,exists_const,forall_const]
 refine⟨fun e=>?_,fun e=>⟨⟨by omega,by omega⟩,?_⟩⟩
 ·rw[if_pos (List.eq_nil_of_length_eq_zero (by omega))]
 ·rw[if_neg (fun q=>e (by rw[q];rfl))]
  cases a.sh<;>rfl
def vcA(l:List Int):Arr:=.mk 1 [(l.length:Int)] l []
noncomputable def Evc:Senv:=EC C7 8 1 [2] (fun _=>([],[]))
def Qe7(a:List Int):Arr:=Arr.mk Z1 [(LI a)] a []
def Qe8(a:List Int):List Int:=Arr.nu (Qe7 a)
theorem Wy(l:List Int):CD 16 [isl l .any] (.agg (vcA l).row1):=by
 refine CD.ofW (T1 (E:=Evc) (eOk BA rfl) Try.func16 rfl (by kernel_rfl) rfl (by simp[Evc,EC,E0]) ?_)
 refine Bl (T :=
  ∀(x:Nat),True->SM x/\(SM x/\True)/\Z1=Arr.k (Qe7 l)/\(SM N1/\(∀(i:Nat),i<N1->wkL (List.getD [[ZI (LI l)]] i []) [ZI (GI [(LI l)] i)])/\True)/\(LN l=LN (Qe8 l)/\(∀(i:Nat),i<LN l->GI l i=GI (Qe8 l) i/\True)/\True)/\(SM N0/\(∀(i:Nat),i<N0->False)/\True)/\True) (by kernel_rfl) ?_
 delta GI LI LN N0 N1 SM Z0 Z1 ZI Qe7 Qe8
 simp only[eq_self,true_and,and_true,forall_const]
 refine⟨rfl,fun i hi=>?_,⟨rfl,fun _ _=>rfl⟩,fun i hi=>absurd hi (Nat.not_lt_zero i)⟩
 obtain rfl:i=0:=by omega
 exact Be _
theorem BdJ(a:Arr)(h:a.ok):CD 13 [.agg a.row1,.agg a.row1] (.bool true):=by
 have h1:CD 13 [.agg a.row2,.agg a.row2] (.bool (BX a a)):=BaY a a h h
 rw[B2.2 rfl] at h1
 refine h1.wk ?_
 simp only[wkL,wkD]
 exact⟨CE a,CE a,trivial⟩
theorem M2{z:Int}(h:-100<=z/\z<=100):Gg z:=by
 unfold Gg;omega
theorem Bbs{l:List Int}(h1:∀z∈l,-100<=z/\z<=100)(h2:l.length<=100):(vcA l).ok:=by
 refine⟨M2 (by decide),?_,fun z hz=>M2 (h1 z hz),by simp[maxLen],by simp only[maxLen];omega,by simp[maxLen],trivial⟩
 intro z hz
 rw[List.mem_singleton.1 hz]
 exact M2 (by omega)
noncomputable def Eio(l:List Int):Senv:={ EC C7 19 2 [4,5,7,8,9,16] (fun _=>([],[])) with
 ann:=fun b _ S=>match b with
  |0=>some { slots:=[8],keep:=[0,1,6,7],α:=Nat,st:=fun i=>([.int .i64 i],S),inv:=fun i=>i<=l.length,mu:=fun i=>l.length-i }
  |_=>none }
def QhA(a:List Int):D:=SI a
theorem Bd9(l:List Int)(hl:l.length<=1000000)(h:∀z∈l,0<=z):CD 55 [isl l .any,.fn (.func 36) [] []] (.int .i64 (-1)):=by
 refine Bh (A:=sC _ _) (x:=()) (E:=Eio l) (eOk BA rfl) Try.func55 rfl (by kernel_rfl) rfl (by simp[sC,Eio,EC,E0]) ?_
 refine Bl (T :=
  (∃(x:Nat),x<=LN l/\(Z0=(↑x:Int)/\True)/\True/\True)/\∀(x:Nat),x<=LN l->ifB (decide ((↑x:Int)<(LI l))) (Bd (Z0<=(↑x:Int)/\(↑x:Int)<(LI l)) (True/\ifB (decide (GI l (Int.toNat (↑x:Int))<Z0)) (RT ((↑x:Int)=(-1:Int))) ((SM (QhA l)/\SM (D.fn (Fn.func (36:Nat)) [] [])/\SM D.unk/\SM (ZI (LI l))/\True)/\∃(y:Nat),y<=LN l/\LN l-y<LN l-x/\(IntKind.wrap IntKind.i64 ((↑x:Int)+Z1)=(↑y:Int)/\True)/\True/\True))) (RT (SM (-1:Int)))) (by kernel_rfl) ?_
 delta GI LI LN N1 SI SM Z0 Z1 ZI QhA RT
 simp only[eq_self,implies_true,Int.toNat_natCast,Bj,Bc,decide_eq_true_eq,decide_eq_false_iff_not,true_and,and_true,exists_const]
 refine⟨⟨0,Nat.zero_le _,rfl⟩,fun i hi hlt=>?_⟩
 have hlt:i<l.length:=by omega
 have hz:=h (l.getD i 0) (by rw[List.getD_eq_getElem?_getD,List.getElem?_eq_getElem hlt];exact List.getElem_mem hlt)
 exact⟨⟨by omega,by omega⟩,fun q=>absurd q (by omega),fun _=>⟨i+1,by omega,by omega,Bb (by omega) (by omega)⟩⟩
noncomputable def Ejo(l:List Int):Senv:=EC (fun k ds S=>match k with
 |55=>some (pA ds S (.int .i64 (-1)) (ds=[isl l .any,.fn (.func 36) [] []]))
 |_=>none) 9 2 [4] (fun _=>([],[]))
def QhB(a:List Int):List D:=[SI a,D.fn (Fn.func (36:Nat)) [] []]
theorem Beh(l:List Int)(hl:l.length<=1000000)(h:∀z∈l,0<=z):CD 35 [isl l .any,.fn (.func 36) [] []] (.bool false):=by
 refine Bh (A:=sC _ _) (x:=()) (E:=Ejo l) (eOk ?_ rfl) Try.func35 rfl (by kernel_rfl) rfl (by simp[sC,Ejo,EC,E0]) ?_
 ·intro k ds S A hh
  dsimp only at hh
  split at hh
  ·injection hh with hh;subst hh
   refine Bw fun e=>CD.at_ ?_ _
   rw[e];exact Bd9 l hl h
  ·cases hh
 refine Bl (T :=
  ∃(x:Unit),SM (QhB l)/\∀(y:Unit),True->RT (SM false)) (by kernel_rfl) ?_
 delta GI LN N1 SI SM Z0 ZI QhB RT
 simp only[eq_self,implies_true,and_true,exists_const]
def Ba8(n:Nat):Arr:=.mk 1 [(n:Int)] (Cm (List.range n)) []
def Bb8(n:Nat):Con:=fun k ds S=>match k with
 |45=>some (pA ds S (.int .i64 0) (wkL ds [.agg (nmA n).row1]))
 |35=>some (pA ds S (.bool false) (wkL ds [isl [(n:Int)] .any,.fn (.func 36) [] []]))
 |30=>some (pA ds S (.bool true) (wkL ds [isl [(n:Int)] .any]))
 |32=>some (pA ds S (.int .i64 (n:Nat)) (wkL ds [isl [(n:Int)] .any]))
 |25=>some (pA ds S (isl [(n:Int)] .any) (wkL ds [isl [(n:Int)] .any]))
 |_=>none
theorem OS{n:Nat}(h:n<=65536):Bu [(n:Int)]=true/\prL (shN [(n:Int)])=n:=by
 refine⟨(Bv _).2 ⟨by simp,fun d hd=>?_,?_⟩,by simp[shN,prL]⟩
 ·rw[List.mem_singleton.1 hd];omega
 ·simp only[pzL]
  split<;>simp
  omega
theorem BaO{n:Nat}(h:n<=65536):ConOk Try.prog (Bb8 n):=by
 obtain ⟨h1,h2⟩:=OS h
 intro k ds S A hh
 unfold Bb8 at hh
 split at hh
 ·injection hh with hh;subst hh
  refine Bw fun e=>CD.at_ (CD.wk ?_ e) _
  have:=Mz _ (Bd1 h)
  rw[Beo h] at this;exact this
 ·injection hh with hh;subst hh
  refine Bw fun e=>CD.at_ (CD.wk (Beh _ (by simp) fun z hz=>?_) e) _
  rw[List.mem_singleton.1 hz];omega
 ·injection hh with hh;subst hh
  refine Bw fun e=>CD.at_ (CD.wk ?_ e) _
  have:=Oy [(n:Int)]
  rw[h1] at this;exact this
 ·injection hh with hh;subst hh
  refine Bw fun e=>CD.at_ (CD.wk ?_ e) _
  have:=Mj _ h1
  rw[Io h1,h2] at this;exact this
 ·injection hh with hh;subst hh
  exact Bw fun e=>CD.at_ (CD.wk (Mm _ (by simp)) e) _
 ·cases hh
noncomputable def Eit(n:Nat):Senv:={ EC (Bb8 n) 51 7 [11,16,22,27,39,40,41] (fun _=>([],[])) with
 gh:=fun b=>match b with
  |1=>[.cell 3 102,.cell 3 403]
  |_=>[]
 ann:=fun b _ S=>match b with
  |1=>match Bx S.objs 3 with
   |some (_,.cells (c0::c1::_::_::cs))=>some { slots:=[40],keep:=[1,2,4,39],α:=Nat×Nat×Nat,st:=fun y=>([.int .i64 y.1],⟨ET S.objs 3 (.cells (c0::c1::.sl 1 y.1 (fun i=>[.int .i64 (i:Nat)]) (.tok 0 y.2.1)::.sl 4 0 (fun _=>[]) (.tok 1 y.2.2)::cs)),[(1,y.2.2),(0,y.2.1)]⟩),inv:=fun y=>y.1<=n,mu:=fun y=>n-y.1 }
   |_=>none
  |_=>none }
def KI(a:Nat):Arr:=nmA a
def Qe9(a:Nat):Prop:=SM (Arr.k (KI a))
def Zn(a:Nat):Nat:=LN (Arr.sh (KI a))
def Qfa(a:Nat):Prop:=SM (Zn a)
def Qfb(a b:Nat):Int:=GI (Arr.sh (KI a)) b
def Zo(a:Nat):Nat:=LN (Arr.nu (KI a))
def Qfc(a:Nat):Prop:=SM (Zo a)
def Zp(a b:Nat):Prop:=a<Zo b
def Zq(a b:Nat):Int:=GI (Arr.nu (KI a)) b
def Zr(a:Nat):Nat:=LN (Arr.it (KI a))
def Qfd(a:Nat):Prop:=SM (Zr a)
def Qfe:Prop:=SM N0/\(∀(i:Nat),i<N0->SM (GI [] i)/\True)/\True
def Qff(a:Nat):Prop:=Zo a=N1/\(∀(i:Nat),Zp i a->Zq a i=GI [(↑a:Int)] i/\True)/\True
def Zs(a:Nat):Prop:=Qff a/\True
def Qfg(a b:Nat):List D:=[ZI (GI [(↑a:Int)] b)]
def Qfh(a:Nat):Prop:=SM N1/\(∀(i:Nat),i<N1->SM (Qfg a i))/\True
def Jk(a:Nat):List D:=[ZI (↑a:Int)]
def Qfi:Prop:=∀(i:Nat),i<N0->Es (List D) [] []
def Qfj(a b:Nat):Prop:=(SM N0/\Qfi/\a=b)/\True
def QhC(a b:Nat):List D:=[ZI (Qfb a b)]
def QhD(a b:Nat):List D:=[ZI (Zq a b)]
def Qfk:List D:=Arr.row DA
def Qfl(a:Nat):Prop:=Qe9 a/\(Qfa a/\(∀(i:Nat),i<Zn a->SM (QhC a i))/\True)/\(Qfc a/\(∀(i:Nat),Zp i a->SM (QhD a i))/\True)/\(Qfd a/\(∀(i:Nat),i<Zr a->SM Qfk)/\True)/\True
def Zt:Prop:=SM N0/\Qfi/\True
def Qfm(a b c d:Nat):Prop:=SM a/\Qfl b/\SM c/\(SM Z0/\Zt/\Zt/\Zt/\True)/\SM d/\Qfl b/\True
def QhE(a:Nat):D:=D.ref (max (N2+N1) (max N2 (max (N0+N1) N0))) a N0
def KJ(a:Nat):Arr:=Ba8 a
theorem Be0(n:Nat)(h:n<=65536):CD 10 [.agg (nmA n).row1] (.tup [.agg (Ba8 n).row1,.int .i64 0]):=by
 refine Bh (A:=sC _ _) (x:=()) (E:=Eit n) (eOk (BaO h) rfl) Try.func10 rfl (by kernel_rfl) rfl (by simp[sC,Eit,EC,E0]) ?_
 refine Bl (T :=
  ∀(x:Nat),True->∀(x_1:Nat),x≠x_1/\True->SM x/\∀(x_2:Nat),x_1≠x_2/\x≠x_2/\True->SM x_2/\∃(x_3:Unit),((Qe9 n/\(Qfa n/\(∀(i:Nat),i<Zn n->SM (Qfb n i)/\True)/\True)/\(Qfc n/\(∀(i:Nat),Zp i n->SM (Zq n i)/\True)/\True)/\(Qfd n/\(∀(i:Nat),i<Zr n->SM Z0/\Qfe/\Qfe/\(SM N0/\(∀(i:Nat),i<N0->True)/\True)/\True)/\True)/\True)/\True)/\∀(y:Unit),True->True/\SM x/\SM x/\SM x/\∃(x_4:Unit),(Qff n/\SM (D.fn (Fn.func (36:Nat)) [] [])/\True)/\∀(y:Unit),True->SM x/\∃(x_5:Unit),Zs n/\∀(y:Unit),True->SM x/\∃(x_6:Unit),Zs n/\∀(y:Unit),True->∀(x_7:Nat),x_2≠x_7/\x_1≠x_7/\x≠x_7/\True->SM x_7/\SM x/\∃(x_8:Unit),Zs n/\∀(y:Unit),True->∀(t t_1:Nat),(∃(x_9:Nat×Nat×Nat),x_9.1<=n/\(Z0=(NI x_9.1)/\True)/\(SM x_7/\(SM Z1/\Qfh n/\(N0=x_9.1/\(∀(i:Nat),i<N0->Es (List D) [] (Jk i))/\t=x_9.2.1)/\Qfj t_1 x_9.2.2)/\Qfm x_2 n x_1 x)/\t_1=x_9.2.2/\t=x_9.2.1/\True)/\∀(x_9:Nat×Nat×Nat),x_9.1<=n->ifB (decide ((NI x_9.1)<(↑n:Int))) (SM x_7/\SM x_9.2.1/\Bd ((x_9.1+N1)*8<=140737488355328/\x_9.1+N1<=9223372036854775807) (∀(t:Nat),SM x_7/\(SM (D.ref N0 x N0)/\SM (D.ref (max (N0+N1) N0) x_1 N0)/\SM (QhE x_7)/\SM (ZI (↑n:Int))/\True)/\∃(y:Nat×Nat×Nat),y.1<=n/\n-y.1<n-x_9.1/\(IntKind.wrap IntKind.i64 ((NI x_9.1)+Z1)=(NI y.1)/\True)/\(SM x_7/\(SM Z1/\Qfh n/\(x_9.1+N1=y.1/\(∀(i:Nat),i<x_9.1+N1->BB x_9.1 (fun i=>Jk i) (fun i=>List.getD [Jk x_9.1] i []) i=Jk i)/\t=y.2.1)/\Qfj x_9.2.2 y.2.2)/\Qfm x_2 n x_1 x)/\x_9.2.2=y.2.2/\t=y.2.1/\True)) (SM x_7/\SM x_1/\(SM x_1/\True)/\∃(y:Unit),True/\((Z1=Arr.k (KJ n)/\(N1=LN (Arr.sh (KJ n))/\(∀(i:Nat),i<N1->Qfg n i=[ZI (GI (Arr.sh (KJ n)) i)])/\True)/\(x_9.1=LN (Arr.nu (KJ n))/\(∀(i:Nat),i<x_9.1->Jk i=[ZI (GI (Arr.nu (KJ n)) i)])/\True)/\(N0=LN (Arr.it (KJ n))/\(∀(i:Nat),i<N0->Es (List D) [] Qfk)/\True)/\True)/\SM Z0/\True)/\True/\True)) (by kernel_rfl) ?_
 delta DA GI LN N0 N1 N2 NI SM Z0 Z1 ZI Qfc Zp Zq Zr Qfd Qfe Qff Zs Qfg Qfh Jk Qfi Qfj QhC QhD Qfk Qfl Zt Qfm QhE KJ KI Qe9 Zn Qfa Qfb Zo
 have da:(default:Arr)=Arr.mk 0 [] [] []:=rfl
 simp only[<- da]
 simp only[ne_eq,implies_true,Bj,Bc,decide_eq_true_eq,decide_eq_false_iff_not,true_and,and_true,exists_const,forall_const,Prod.exists]
 have nn:(nmA n).nu.length=1/\∀i,i<(nmA n).nu.length->(nmA n).nu.getD i 0=[(n:Int)].getD i 0:=⟨rfl,fun _ _=>rfl⟩
 refine fun x x1 _ x2 _=>⟨nn,nn,nn,fun x7 _=>⟨nn,fun t t1=>⟨⟨0,t,t1,Nat.zero_le _,rfl,⟨⟨rfl,(fun i hi=>absurd hi (Nat.not_lt_zero i)),rfl⟩,rfl⟩,rfl,rfl⟩,?_⟩⟩⟩
 rintro ⟨i,t2,t3⟩ hi
 simp only at hi ⊢
 refine⟨fun hlt=>⟨⟨by omega,by omega⟩,fun t4=>⟨i+1,t4,t3,by omega,by omega,Bb (by omega) (by omega),⟨⟨rfl,(fun j hj=>?_),rfl⟩,rfl⟩,rfl,rfl⟩⟩,fun hge=>?_⟩
 ·rw[BB]
  split
  ·rfl
  ·obtain rfl:j=i:=by omega
   rw[Nat.sub_self];rfl
 ·obtain rfl:i=n:=by omega
  refine⟨rfl,⟨rfl,fun j hj=>?_⟩,⟨by simp[Ba8,Arr.nu,Cm],fun j hj=>?_⟩,rfl,fun j hj=>absurd hj (Nat.not_lt_zero j)⟩
  ·rfl
  ·show _=[D.int .i64 ((Cm (List.range i)).getD j 0)]
   rw[GD _ (by simpa using hj),List.getD_eq_getElem?_getD,List.getElem?_range hj];rfl
end
end Go.Proofs.Ytaempooepcejaaa
