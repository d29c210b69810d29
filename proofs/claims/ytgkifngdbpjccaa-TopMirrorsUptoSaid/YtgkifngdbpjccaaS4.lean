/- Functions of the given program and what each of them computes: lemmas towards the statement, their conditions stated with each of them. -/
import Derived.Test.YtgkifngdbpjccaaS3
namespace Go.Proofs.Ytgkifngdbpjccaa
open Go Go.Ab
set_option maxRecDepth 100000
noncomputable section
def sFg(x y:Arr):FnSpec where
 β:=Unit
 α:=Arr×Int
 args:=fun _=>[.agg x.row1,.agg y.row1]
 st:=fun _=>⟨[],[]⟩
 pre:=fun _=>True
 post:=fun _ z=>z.2=0->x.sh≠[]->x.sh.length=y.sh.length->∃s,JoH x y s
 res:=fun _ z=>.ret (.tup [.agg z.1.row1,.int .i64 z.2])
 out:=fun _ _=>⟨[],[]⟩
def sJh(x y:Arr):FnSpec where
 β:=Unit
 α:=Arr×Int
 args:=fun _=>[.agg x.row1,.agg y.row1,.bool false]
 st:=fun _=>⟨[],[]⟩
 pre:=fun _=>True
 post:=fun _ z=>z.2=0->x.sh≠[]->x.sh.length=y.sh.length->∃s,JoH x y s
 res:=fun _ z=>.ret (.tup [.agg z.1.row1,.int .i64 z.2])
 out:=fun _ _=>⟨[],[]⟩
theorem Bfs(x y:Arr)(h:JgH x y):ACalls Try.prog 20 ((sJh x y).args ()) ((sJh x y).st ()) (SpecR (sJh x y) ()):=by
 refine ACalls.wkEnd (Bfj x y h) fun r S' hr=>?_
 obtain ⟨z,hz,rfl,rfl⟩:=hr
 refine⟨.ret (.tup [.agg z.1.row1,.int .i64 z.2]),fun C e he=>?_,z,hz,rfl,rfl⟩
 cases e with
 |returned v=>exact OH (E8 _ C) (fun _ q=>q) v he
 |panicked _=>exact he.elim
 |outgrown=>exact he.elim
def Bc3(x y:Arr):Con:=fun k ds _S=>match k with
 |20=>some ((sJh x y).fits () (ds=[.agg x.row1,.agg y.row1,.bool false]))
 |_=>none
theorem BbN{x y:Arr}(h:JgH x y):ConOk Try.prog (Bc3 x y):=by
 intro k ds S A hh
 unfold Bc3 at hh
 split at hh
 ·injection hh with hh;subst hh
  exact FnSpec.fits_ok (fun _ _=>Bfs x y h) fun e=>by rw[e];exact⟨Bh _,Eh S⟩
 ·cases hh
noncomputable def Efg(x y:Arr):Senv:=EC (Bc3 x y) 11 6 [] (fun _=>([],[]))
def ZU(a:Arr):Nat:=LN (Arr.sh a)
def QcP(a:Arr)(b:Nat):List D:=[ZI (GI (Arr.sh a) b)]
def ZV(a:Arr):Nat:=LN (Arr.nu a)
def QcQ(a:Arr)(b:Nat):List D:=[ZI (GI (Arr.nu a) b)]
def ZW(a:Arr):Nat:=LN (Arr.it a)
def QcR(a:Arr)(b:Nat):List D:=Arr.row (GA (Arr.it a) b)
def QkG(a:Arr):D:=D.agg [ZI (Arr.k a),D.sl N1 (ZU a) (fun i=>QcP a i) Mode.any,D.sl N1 (ZV a) (fun i=>QcQ a i) Mode.any,D.sl N4 (ZW a) (fun i=>QcR a i) Mode.any]
def Qm3(a b:Arr):List D:=[QkG a,QkG b,D.bool false]
def QkH(a b:Arr):Prop:=ZU a=ZU b
def QkI(a:Int)(b c:Arr):Prop:=a=Z0->Arr.sh b≠[]->QkH b c->∃(s:List Int),JoH b c s
theorem BfF(x y:Arr)(h:JgH x y):ACalls Try.prog 7 ((sFg x y).args ()) ((sFg x y).st ()) (SpecR (sFg x y) ()):=by
 refine Bo (A:=sFg x y) (x:=()) (E:=Efg x y) (eOk (BbN h) rfl) Try.func7 rfl (by kernel_rfl) rfl (by simp[sFg,Efg,EC,E0]) ?_
 refine Bu (T :=
  ∀(x_1:Nat),True->∀(x_2:Nat),x_1≠x_2/\True->∀(x_3:Nat),x_2≠x_3/\x_1≠x_3/\True->SM x_1/\SM x_2/\(SM (Qm3 x y)/\True)/\∀(y_1:Arr×Int),QkI y_1.2 x y->SM x_3/\(SM x_3/\True)/\∃(y_2:Arr×Int),QkI y_2.2 x y/\((Arr.k y_1.1=Arr.k y_2.1/\(QkH y_1.1 y_2.1/\(∀(i:Nat),i<ZU y_1.1->QcP y_1.1 i=QcP y_2.1 i)/\True)/\(ZV y_1.1=ZV y_2.1/\(∀(i:Nat),i<ZV y_1.1->QcQ y_1.1 i=QcQ y_2.1 i)/\True)/\(ZW y_1.1=ZW y_2.1/\(∀(i:Nat),i<ZW y_1.1->QcR y_1.1 i=QcR y_2.1 i)/\True)/\True)/\y_1.2=y_2.2/\True)/\True/\True) (by kernel_rfl) ?_
 delta DA GA GI LN N1 N4 SM Z0 ZI ZU QcP ZV QcQ ZW QcR QkG Qm3 QkH QkI
 have da:(default:Arr)=Arr.mk 0 [] [] []:=rfl
 simp only[<- da]
 simp only[ne_eq,true_and,and_true,forall_const,Prod.exists]
 exact fun _ _ _ _ _ z hz=>⟨z.1,z.2,hz,⟨rfl,⟨rfl,fun _ _=>rfl⟩,⟨rfl,fun _ _=>rfl⟩,rfl,fun _ _=>rfl⟩,rfl⟩
def Bci(x y:Arr)(i:List Int)(e1 e2:Nat):Con:=fun k ds S=>match k with
 |20=>some (pA ds S (.tup [.agg (jlA x y i e1 e2).row1,.int .i64 0]) (wkL ds [.agg x.row1,.agg y.row1,.bool true]))
 |_=>none
theorem BbC{x y:Arr}{i:List Int}{e1 e2:Nat}(h:JlH x y i e1 e2):ConOk Try.prog (Bci x y i e1 e2):=by
 intro k ds S A hh
 unfold Bci at hh
 split at hh
 ·injection hh with hh;subst hh
  refine BD fun e=>CD.at_ (CD.wk ?_ e) _
  exact ((Bfc x y i e1 e2 h).at_ ⟨[],[]⟩ |>.res fun C v=>OH (E8 _ C) (fun _ q=>q) v).cd
 ·cases hh
noncomputable def Ejz(x y:Arr)(i:List Int)(e1 e2:Nat):Senv:=EC (Bci x y i e1 e2) 11 6 [] (fun _=>([],[]))
def QkJ:Arr:=DA
def QkK(a:Arr)(b:Nat):List D:=Arr.row (List.getD (Arr.it a) b QkJ)
def QkL(a:Arr):Prop:=SM (Arr.k a)/\(SM (LN (Arr.sh a))/\(∀(i:Nat),i<LN (Arr.sh a)->SM (GI (Arr.sh a) i)/\True)/\True)/\(SM (LN (Arr.nu a))/\(∀(i:Nat),i<LN (Arr.nu a)->SM (GI (Arr.nu a) i)/\True)/\True)/\(SM (LN (Arr.it a))/\(∀(i:Nat),i<LN (Arr.it a)->wkL (QkK a i) (QkK a i))/\True)/\True
def QkM(a b:Arr)(c:List Int)(d e:Nat):Nat:=LN (Arr.sh (jlA a b c d e))
def QkN(a b:Arr)(c:List Int)(d e:Nat):Nat:=LN (Arr.nu (jlA a b c d e))
def QkO(a b:Arr)(c:List Int)(d e:Nat):Nat:=LN (Arr.it (jlA a b c d e))
def Qm4(a b:Arr)(c:List Int)(d e f:Nat):List D:=Arr.row (List.getD (Arr.it (jlA a b c d e)) f QkJ)
theorem Bfz(x y:Arr)(i:List Int)(e1 e2:Nat)(h:JlH x y i e1 e2):CD 9 [.agg x.row1,.agg y.row1] (.tup [.agg (jlA x y i e1 e2).row1,.int .i64 0]):=by
 refine Bo (A:=sC _ _) (x:=()) (E:=Ejz x y i e1 e2) (eOk (BbC h) rfl) Try.func9 rfl (by kernel_rfl) rfl (by simp[sC,Ejz,EC,E0]) ?_
 refine Bu (T :=
  ∀(x_1:Nat),True->∀(x_2:Nat),x_1≠x_2/\True->∀(x_3:Nat),x_2≠x_3/\x_1≠x_3/\True->SM x_1/\SM x_2/\∃(x_4:Unit),(QkL x/\QkL y/\SM true/\True)/\∀(y_1:Unit),True->SM x_3/\(SM x_3/\True)/\∃(y_2:Unit),True/\((SM (Arr.k (jlA x y i e1 e2))/\(SM (QkM x y i e1 e2)/\(∀(i_1:Nat),i_1<QkM x y i e1 e2->SM [ZI (GI (Arr.sh (jlA x y i e1 e2)) i_1)])/\True)/\(SM (QkN x y i e1 e2)/\(∀(i_1:Nat),i_1<QkN x y i e1 e2->SM [ZI (GI (Arr.nu (jlA x y i e1 e2)) i_1)])/\True)/\(SM (QkO x y i e1 e2)/\(∀(i_1:Nat),i_1<QkO x y i e1 e2->SM (Qm4 x y i e1 e2 i_1))/\True)/\True)/\SM Z0/\True)/\True/\True) (by kernel_rfl) ?_
 delta DA GI LN SM Z0 ZI QkJ QkK QkL QkM QkN QkO Qm4
 have da:(default:Arr)=Arr.mk 0 [] [] []:=rfl
 simp only[<- da]
 simp only[ne_eq,implies_true,true_and,and_true,exists_const,forall_const]
 exact fun _ _ _ _ _=>⟨fun _ _=>Bg _,fun _ _=>Bg _⟩
noncomputable def fw1(y:Arr):Bool:=decide (wtA y<=100)&&(Bj y).1==0
def fmP(x y:Arr)(ds:List D)(b:Arr):Prop:=(b=x\/b=y)/\wkL ds [.agg b.row1,.int .i64 100]
noncomputable def BcY(x y:Arr):Con:=fun k ds S=>match k with
 |5=>some (pE (β:=Arr) ds S (fun b=>.bool (fw1 b)) (fmP x y ds))
 |6=>some (pA ds S (.bool true) (ds=[]))
 |7=>some ((sFg x y).fits () (ds=[.agg x.row1,.agg y.row1]/\JgH x y))
 |8=>some (pA ds S (.agg x.row1) False)
 |10=>some (pA ds S (.agg x.row1) False)
 |9=>some (pA ds S (.tup [.agg x.row1,.int .i64 0]) False)
 |11=>some (pA ds S (.bool true) False)
 |_=>none
theorem Bcq{x y:Arr}(ox:x.ok)(oy:y.ok):ConOk Try.prog (BcY x y):=by
 intro k ds S A hh
 unfold BcY at hh
 split at hh
 ·injection hh with hh;subst hh
  refine Ce fun b ⟨hb,e⟩=>CD.at_ (CD.wk ?_ e) _
  obtain rfl | rfl:=hb
  ·exact Ul _ 100 ox
  ·exact Ul _ 100 oy
 ·injection hh with hh;subst hh
  refine BD fun e=>CD.at_ ?_ _
  rw[e];exact Bep
 ·injection hh with hh;subst hh
  refine⟨fun _ hy=>BfF x y hy.1.2,fun z hz hp=>?_,fun h=>nomatch h⟩
  rw[hp.1.1]
  exact⟨Bh _,Eh S⟩
 ·injection hh with hh;subst hh
  exact BD fun e=>e.elim
 ·injection hh with hh;subst hh
  exact BD fun e=>e.elim
 ·injection hh with hh;subst hh
  exact BD fun e=>e.elim
 ·injection hh with hh;subst hh
  exact BD fun e=>e.elim
 ·cases hh
noncomputable def Emn(x y:Arr):Senv:=EC (BcY x y) 79 11 [18,42] (fun id=>match id with | 6=>([0,2,1,3,4,5,6,7,8,9,10],[1,3,4,8,9]) | 7=>([0,2,1,3,4,5,6,7,8,9,10],[1,3,4,8,9]) | 8=>([0,1,2,3,4,5,7,6,8,9,10,11,13,12,14,15,16,17,18,19],[6,8,12,14,17]) | _=>([],[]))
def ZX(a:Arr):Nat:=LN (Arr.sh a)
def Xr(a:Arr):D:=D.agg [ZI (Arr.k a),D.sl N1 (ZX a) (fun i=>[ZI (GI (Arr.sh a) i)]) Mode.any,SI (Arr.nu a),D.sl N4 (LN (Arr.it a)) (fun i=>Arr.row (GA (Arr.it a) i)) Mode.any]
def QkP(a:Arr):List D:=[Xr a,ZI 100]
def ZY:Prop:=∃(_x:Unit),Cr (List D) [] []/\∀(_y:Unit),True->True/\∃(_y:Unit),True/\SM true/\True/\True
def QkQ(a:Arr):List D:=[Xr a]
def QkR(a b:Arr):List D:=Xr a::QkQ b
def QcS(a:Int)(b c:Arr):Prop:=a=Z0->Arr.sh b≠[]->ZX b=ZX c->∃(s:List Int),JoH b c s
def ZZ(a:Arr):Int:=(NI (ZX a))
def QkS(a b:Arr):Bool:=ZZ a != ZZ b
def QcT(a:Int)(b c:Arr):Bool:=bif bif a != Z0 then true else ZZ b==Z0 then true else QkS b c
def QkT(a:Int)(b c:Arr):Prop:=true=QcT a b c/\True
def Kv(a:Nat)(b:Arr):Prop:=SM a/\SM (Xr b)
def QkU(a b:Arr):Prop:=(Xr a::QkQ a=QkR a b/\JgH a b)/\True
def Xs(a b c d:Nat):Prop:=a≠b/\c≠b/\d≠b/\True
def Z3(a b c d e:Nat):Prop:=a≠b/\Xs c b d e
def QkV(a:Nat)(b:Int)(c d:Nat)(e f:Arr):Prop:=SM a/\ifB (IntKind.wrap IntKind.i64 (b+Z0)==Z0) (SM c/\SM d/\∃(_x:Unit),False/\∀(_y:Unit),True->Kv d e/\∃(_x:Unit),False/\∀(_y:Unit),True->SM c/\SM a/\∃(_x:Unit),False/\∀(_y:Unit),True->Kv a f/\∃(_x:Unit),False/\∀(_y:Unit),True->ZY) (True/\∃(_y:Unit),True/\false=true/\True/\True)
def QkW(a:Nat)(b:Int)(c d:Nat)(e f:Arr):Prop:=∃(_x:Unit),False/\∀(_y:Unit),True->QkV a b c d e f
def QkX(a:Nat)(b:Arr)(c:Nat)(d:Int)(e f:Nat)(g h:Arr):Prop:=Kv a b/\∃(_x:Unit),False/\∀(_y:Unit),True->QkW c d e f g h
def QkY(a b c:Nat)(d:Arr)(e:Nat)(f:Int)(g h:Arr):Prop:=SM a/\SM b/\SM c/\(∃(_x:Unit),False/\∀(_y:Unit),True->Kv c d/\(∃(_x:Unit),False/\∀(_y:Unit),True->(∃(_x:Unit),False/\∀(_y:Unit),True->∀(x:Nat),Z3 a x e c b->QkV x f e a g h)/\∀(x:Nat),Z3 a x e c b->QkW x f e a g h)/\∀(x:Nat),Z3 a x e c b->QkX c d x f e a g h)/\∀(x:Nat),Z3 a x e c b->Kv c d/\Kv b h/\∃(_x_1:Unit),False/\∀(_y:Unit),True->QkX c d x f e a g h
def QkZ(a b:Arr)(c d e f:Nat):Prop:=QkU a b/\∀(y:Arr×Int),QcS y.2 a b->QkY c d e b f y.2 y.1 a
def Qk0(a:Nat)(b c:Arr)(d e f:Nat):Prop:=Kv a b/\∃(_x:Unit),False/\∀(_y:Unit),True->QkZ b c d a e f
theorem Bfa(x y:Arr)(ox:x.ok)(oy:y.ok)(hn:¬ ∃s,JoH x y s):CD 3 [.agg x.row1,.agg y.row1] (.bool true):=by
 refine Bo (A:=sC _ _) (x:=()) (E:=Emn x y) (eOk (Bcq ox oy) rfl) Try.func3 rfl (by kernel_rfl) rfl (by simp[sC,Emn,EC,E0]) ?_
 refine Bu (T :=
  ∀(x_1:Nat),True->∀(x_2:Nat),x_1≠x_2/\True->SM x_1/\∃(x_3:Arr),fmP x y (QkP x) x_3/\∀(y_1:Unit),True->ifB (!fw1 x_3) ZY (SM x_2/\∃(x_4:Arr),fmP x y (QkP y) x_4/\∀(y_2:Unit),True->ifB (!fw1 x_4) ZY (SM x_1/\SM x_2/\((SM (QkR x y)/\JgH x y)/\True)/\∀(y_3:Arr×Int),QcS y_3.2 x y->∀(x_5:Nat),x_2≠x_5/\x_1≠x_5/\True->SM x_5/\ifB (y_3.2 != Z0) (QkT y_3.2 x y) (SM x_1/\ifB (ZZ x==Z0) (QkT y_3.2 x y) (SM x_1/\SM x_2/\QkS x y=QcT y_3.2 x y/\True))/\ifB (QcT y_3.2 x y) ZY (SM x_2/\SM x_1/\(∃(x_6:Unit),False/\∀(y_4:Unit),True->Kv x_1 x/\(∃(x_7:Unit),False/\∀(y_5:Unit),True->(QkU x y/\∀(y_6:Arr×Int),QcS y_6.2 x y->∀(x_8:Nat),Xs x_5 x_8 x_2 x_1->QkY x_8 x_1 x_2 y x_5 y_6.2 y_6.1 x)/\∀(x_8:Nat),Xs x_5 x_8 x_2 x_1->QkZ x y x_8 x_1 x_2 x_5)/\∀(x_7:Nat),Xs x_5 x_7 x_2 x_1->Qk0 x_1 x y x_7 x_2 x_5)/\∀(x_6:Nat),Xs x_5 x_6 x_2 x_1->Kv x_1 x/\Kv x_2 y/\∃(x_7:Unit),False/\∀(y_4:Unit),True->Qk0 x_1 x y x_6 x_2 x_5)))) (by kernel_rfl) ?_
 delta DA GA GI LN N1 N4 NI SI SM Z0 ZI ZX Xr QkT Kv QkU Xs Z3 QkV QkW QkX QkY QkZ QkP Qk0 ZY QkQ QkR QcS ZZ QkS QcT
 have da:(default:Arr)=Arr.mk 0 [] [] []:=rfl
 simp only[<- da]
 simp only[ne_eq,implies_true,Bl,true_and,and_true,beq_iff_eq,bne_iff_ne,bne_eq_false_iff_eq,beq_eq_false_iff_ne,Bool.not_eq_true',Bool.not_eq_false',exists_const,forall_const]
 have fw:∀b:Arr,fw1 b=true->(Bj b).1=0:=fun b hb=>by
  unfold fw1 at hb
  simp only[Bool.and_eq_true,beq_iff_eq] at hb
  exact hb.2
 refine fun _ _ _=>⟨x,⟨.inl rfl,Bg _⟩,fun hx=>⟨y,⟨.inr rfl,Bg _⟩,fun hy=>⟨⟨fw x hx,fw y hy,ox,oy⟩,fun z hz _ _=>⟨⟨fun h1=>?_,fun h1=>⟨fun h2=>?_,fun h2=>?_⟩⟩,fun e=>?_⟩⟩⟩⟩
 ·rw[show (z.2 != 0)=true from bne_iff_ne.2 h1];rfl
 ·rw[show (z.2 != 0)=false from bne_eq_false_iff_eq.2 h1,show ((x.sh.length:Int)==0)=true from beq_iff_eq.2 h2];rfl
 ·rw[show (z.2 != 0)=false from bne_eq_false_iff_eq.2 h1,show ((x.sh.length:Int)==0)=false from beq_eq_false_iff_ne.2 h2];rfl
 ·exfalso
  by_cases h1:z.2=0
  ·by_cases h2:(x.sh.length:Int)=0
   ·rw[show (z.2 != 0)=false from bne_eq_false_iff_eq.2 h1,show ((x.sh.length:Int)==0)=true from beq_iff_eq.2 h2] at e
    simp at e
   ·rw[show (z.2 != 0)=false from bne_eq_false_iff_eq.2 h1,show ((x.sh.length:Int)==0)=false from beq_eq_false_iff_ne.2 h2,cond_false,cond_false] at e
    have h3:=bne_eq_false_iff_eq.1 e
    exact hn (hz h1 (fun q=>h2 (by rw[q];rfl)) (by omega))
  ·rw[show (z.2 != 0)=true from bne_iff_ne.2 h1] at e
   simp at e
def mfP(x y:Arr)(ds:List D)(q:Arr×Arr):Prop:=(q=(x,y)\/q=(reA y,reA x))/\wkL ds [.agg q.1.row1,.agg q.2.row1]
def mrP(x y:Arr)(ds:List D)(b:Arr):Prop:=(b=x\/b=y\/b=joA x y)/\wkL ds [.agg b.row1]
def mlP(x y:Arr)(ds:List D):Prop:=wkL ds [.agg (trA x).row1,.agg (trA y).row1]
def msP(x y:Arr)(ds:List D)(b:Arr):Prop:=(b=reA (joA x y)\/b=trA (joA x y))/\wkL ds [.agg b.row1,.agg b.row1]
noncomputable def Bb2(x y:Arr):Con:=fun k ds S=>match k with
 |5=>some (pE (β:=Arr) ds S (fun b=>.bool (fw1 b)) (fmP x y ds))
 |6=>some (pA ds S (.bool true) (ds=[]))
 |7=>some (pE (β:=Arr×Arr) ds S (fun q=>.tup [.agg (joA q.1 q.2).row1,.int .i64 0]) (mfP x y ds))
 |8=>some (pE (β:=Arr) ds S (fun b=>.agg (reA b).row1) (mrP x y ds))
 |10=>some (pE (β:=Arr) ds S (fun b=>.agg (trA b).row1) (mrP x y ds))
 |9=>some (pA ds S (.tup [.agg (trA (joA x y)).row1,.int .i64 0]) (mlP x y ds))
 |11=>some (pE (β:=Arr) ds S (fun _=>.bool true) (msP x y ds))
 |_=>none
theorem Bde{x y:Arr}{s:List Int}(h:JoH x y s):ConOk Try.prog (Bb2 x y):=by
 have ox:=h.ox
 have oy:=h.oy
 obtain ⟨v1,v2,_⟩:=Bcm h
 have nj:(joA x y).sh≠[]:=List.cons_ne_nil _ _
 intro k ds S A hh
 unfold Bb2 at hh
 split at hh
 ·injection hh with hh;subst hh
  refine Ce fun b ⟨hb,e⟩=>CD.at_ (CD.wk ?_ e) _
  obtain rfl | rfl:=hb
  ·exact Ul _ 100 ox
  ·exact Ul _ 100 oy
 ·injection hh with hh;subst hh
  refine BD fun e=>CD.at_ ?_ _
  rw[e];exact Bep
 ·injection hh with hh;subst hh
  refine Ce fun q ⟨hq,e⟩=>CD.at_ (CD.wk ?_ e) _
  obtain rfl | rfl:=hq
  ·exact Bco x y s h
  ·exact Bco _ _ s h.rev
 ·injection hh with hh;subst hh
  refine Ce fun b ⟨hb,e⟩=>CD.at_ (CD.wk ?_ e) _
  obtain rfl | rfl | rfl:=hb
  ·exact Bbu _ h.hx ox h.nx
  ·exact Bbu _ h.hy oy h.ny
  ·exact Bbu _ v1 v2 nj
 ·injection hh with hh;subst hh
  refine Ce fun b ⟨hb,e⟩=>CD.at_ (CD.wk ?_ e) _
  obtain rfl | rfl | rfl:=hb
  ·exact Bcz _ h.hx ox
  ·exact Bcz _ h.hy oy
  ·exact Bcz _ v1 v2
 ·injection hh with hh;subst hh
  refine BD fun e=>CD.at_ (CD.wk ?_ e) _
  obtain ⟨t1,t2⟩:=Bff h
  rw[t1]
  exact Bfz _ _ _ _ _ t2
 ·injection hh with hh;subst hh
  refine Ce fun b ⟨hb,e⟩=>CD.at_ (CD.wk ?_ e) _
  obtain rfl | rfl:=hb
  ·exact BbP _ (Ov v1 v2 nj).2.1
  ·exact BbP _ (On v1 v2).2.1
 ·cases hh
noncomputable def Emy(x y:Arr):Senv:=EC (Bb2 x y) 79 11 [18,42] (fun id=>match id with | 6=>([0,2,1,3,4,5,6,7,8,9,10],[1,3,4,8,9]) | 7=>([0,2,1,3,4,5,6,7,8,9,10],[1,3,4,8,9]) | 8=>([0,1,2,3,4,5,7,6,8,9,10,11,13,12,14,15,16,17,18,19],[6,8,12,14,17]) | _=>([],[]))
def Xt:Arr:=DA
def Z4(a:Arr):D:=D.agg [ZI (Arr.k a),SI (Arr.sh a),SI (Arr.nu a),D.sl N4 (LN (Arr.it a)) (fun i=>Arr.row (List.getD (Arr.it a) i Xt)) Mode.any]
def Qk1(a:Arr):List D:=[Z4 a,ZI 100]
def Z5:Prop:=∃(_x:Unit),Cr (List D) [] []/\∀(_y:Unit),True->True/\∃(_y:Unit),True/\SM true/\True/\True
def QcU(a:Arr):List D:=[Z4 a]
def Z6(a:Arr):Int:=(LI (Arr.sh a))
def Qk2(a b:Arr):Bool:=Z6 a != Z6 b
def QcV(a b:Arr):Bool:=bif Z6 a==Z0 then true else Qk2 a b
def Z7(a b c:Arr):Prop:=mrP a b (QcU b) c
def Jc(a:Nat)(b:Arr):Prop:=SM a/\SM (Z4 b)
def Z8(a b c:Arr):Prop:=mrP a b (QcU a) c
def Xu(a:Arr):Arr:=reA a
def QcW(a:Arr):D:=D.agg [ZI (Arr.k (Xu a)),SI (Arr.sh (Xu a)),SI (Arr.nu (Xu a)),D.sl N4 (LN (Arr.it (Xu a))) (fun i=>Arr.row (List.getD (Arr.it (Xu a)) i Xt)) Mode.any]
def Qk3(a b c d:Arr)(e:Arr×Arr):Prop:=mfP a b [QcW c,QcW d] e
def Xv(a b c d:Nat):Prop:=a≠b/\c≠b/\d≠b/\True
def Xw(a:Arr):Arr:=trA a
def QcX(a:Arr):D:=D.agg [ZI (Arr.k (Xw a)),SI (Arr.sh (Xw a)),SI (Arr.nu (Xw a)),D.sl N4 (LN (Arr.it (Xw a))) (fun i=>Arr.row (List.getD (Arr.it (Xw a)) i Xt)) Mode.any]
def Qk4(a b c d:Arr):Prop:=mlP a b [QcX c,QcX d]
def Z9(a b c d e:Nat):Prop:=a≠b/\Xv c b d e
def Vp(a b:Arr):Arr:=joA a b
def Qk5(a b:Arr):D:=D.agg [ZI (Arr.k (Vp a b)),SI (Arr.sh (Vp a b)),SI (Arr.nu (Vp a b)),D.sl N4 (LN (Arr.it (Vp a b))) (fun i=>Arr.row (List.getD (Arr.it (Vp a b)) i Xt)) Mode.any]
def Qk6(a b:Arr):List D:=[Qk5 a b]
def Qk7(a b c d e:Arr):Prop:=mrP a b (Qk6 c d) e
def Ha(a b:Arr):Arr:=trA (Vp a b)
def Qm5(a b:Arr):List Int:=Arr.sh (Ha a b)
def Qm6(a b:Arr):List Int:=Arr.nu (Ha a b)
def Qk8(a b:Arr):List Arr:=Arr.it (Ha a b)
def Qk9(a b:Arr):D:=D.agg [ZI (Arr.k (Ha a b)),SI (Qm5 a b),SI (Qm6 a b),D.sl N4 (LN (Qk8 a b)) (fun i=>Arr.row (List.getD (Qk8 a b) i Xt)) Mode.any]
def Qla(a b c:Nat)(d e f g h k:Arr):Prop:=SM a/\SM b/\SM c/\∃(x:Arr),Qk7 d e f g x/\∀(_y:Unit),True->(SM c/\SM (Qk5 h k))/\∃(x_1:Arr),msP d e (QcW x::Qk6 h k) x_1/\∀(_y:Unit),True->SM b/\SM a/\∃(x:Arr),Qk7 d e f g x/\∀(_y:Unit),True->(SM a/\SM (Qk9 d e))/\∃(x_2:Arr),msP d e [QcX x,Qk9 d e] x_2/\∀(_y:Unit),True->Z5
def Qlb(a b c d:Arr)(e f g:Nat)(h k l m:Arr):Prop:=∃(_x:Unit),Qk4 a b c d/\∀(_y:Unit),True->Qla e f g a b h k l m
def Qlc(a:Nat)(b c d:Arr)(e f g:Nat)(h k l m:Arr):Prop:=Jc a b/\∃(x:Arr),Z7 c b x/\∀(_y:Unit),True->Qlb c b d x e f g h k l m
def Qld(a b c:Nat)(d e:Arr)(f:Nat)(g h k l:Arr):Prop:=SM a/\SM b/\SM c/\(∃(x:Arr),Z8 d e x/\∀(_y:Unit),True->Jc c e/\(∃(x_1:Arr),Z7 d e x_1/\∀(_y:Unit),True->(∃(_x_2:Unit),Qk4 d e x x_1/\∀(_y:Unit),True->∀(x:Nat),Z9 a x f c b->Qla x f a d e g h k l)/\∀(x_2:Nat),Z9 a x_2 f c b->Qlb d e x x_1 x_2 f a g h k l)/\∀(x_1:Nat),Z9 a x_1 f c b->Qlc c e d x x_1 f a g h k l)/\∀(x:Nat),Z9 a x f c b->Jc c e/\Jc b d/\∃(x_1:Arr),Z8 d e x_1/\∀(_y:Unit),True->Qlc c e d x_1 x f a g h k l
def Qle(a b c d:Arr)(e f g h:Nat)(k l:Arr):Prop:=∃(x:Arr×Arr),Qk3 a b c d x/\∀(_y:Unit),True->Qld e f g a b h k l x.1 x.2
def Qlf(a:Nat)(b c d:Arr)(e f g:Nat)(h k:Arr):Prop:=Jc a b/\∃(x:Arr),Z8 b c x/\∀(_y:Unit),True->Qle b c d x e a f g h k
theorem Bdm(x y:Arr)(s:List Int)(h:JoH x y s):CD 3 [.agg x.row1,.agg y.row1] (.bool true):=by
 refine Bo (A:=sC _ _) (x:=()) (E:=Emy x y) (eOk (Bde h) rfl) Try.func3 rfl (by kernel_rfl) rfl (by simp[sC,Emy,EC,E0]) ?_
 refine Bu (T :=
  ∀(x_1:Nat),True->∀(x_2:Nat),x_1≠x_2/\True->SM x_1/\∃(x_3:Arr),fmP x y (Qk1 x) x_3/\∀(y_1:Unit),True->ifB (!fw1 x_3) Z5 (SM x_2/\∃(x_4:Arr),fmP x y (Qk1 y) x_4/\∀(y_2:Unit),True->ifB (!fw1 x_4) Z5 (SM x_1/\SM x_2/\∃(x_5:Arr×Arr),mfP x y (Z4 x::QcU y) x_5/\∀(y_3:Unit),True->∀(x_6:Nat),x_2≠x_6/\x_1≠x_6/\True->SM x_6/\(SM x_1/\ifB (Z6 x==Z0) (true=QcV x y/\True) (SM x_1/\SM x_2/\Qk2 x y=QcV x y/\True))/\ifB (QcV x y) Z5 (SM x_2/\SM x_1/\(∃(x_7:Arr),Z7 x y x_7/\∀(y_4:Unit),True->Jc x_1 x/\(∃(x_8:Arr),Z8 x y x_8/\∀(y_5:Unit),True->(∃(x_9:Arr×Arr),Qk3 x y x_7 x_8 x_9/\∀(y_6:Unit),True->∀(x_10:Nat),Xv x_6 x_10 x_2 x_1->Qld x_10 x_1 x_2 x y x_6 x_5.1 x_5.2 x_9.1 x_9.2)/\∀(x_9:Nat),Xv x_6 x_9 x_2 x_1->Qle x y x_7 x_8 x_9 x_1 x_2 x_6 x_5.1 x_5.2)/\∀(x_8:Nat),Xv x_6 x_8 x_2 x_1->Qlf x_1 x y x_7 x_8 x_2 x_6 x_5.1 x_5.2)/\∀(x_7:Nat),Xv x_6 x_7 x_2 x_1->Jc x_1 x/\Jc x_2 y/\∃(x_8:Arr),Z7 x y x_8/\∀(y_4:Unit),True->Qlf x_1 x y x_8 x_7 x_2 x_6 x_5.1 x_5.2)))) (by kernel_rfl) ?_
 delta DA GI LI LN N1 N4 SI SM Z0 ZI Xt Z4 Qk1 Z5 QcU Z6 Qk2 QcV Z7 Jc Z8 Xu QcW Qk3 Xv Xw QcX Qk4 Z9 Vp Qk5 Qk6 Qk7 Ha Qm5 Qm6 Qk8 Qk9 Qla Qlb Qlc Qld Qle Qlf
 have da:(default:Arr)=Arr.mk 0 [] [] []:=rfl
 simp only[<- da]
 simp only[ne_eq,implies_true,Bl,true_and,and_true,beq_iff_eq,beq_eq_false_iff_ne,Bool.not_eq_true',Bool.not_eq_false',exists_const,forall_const,Prod.exists]
 have nx:0<x.sh.length:=List.length_pos_iff.2 h.nx
 have ny:0<y.sh.length:=List.length_pos_iff.2 h.ny
 have hl:y.sh.length=x.sh.length:=by
  have:=congrArg List.length h.ht
  rw[List.length_tail,List.length_tail] at this
  omega
 have e0:((x.sh.length:Int)==0)=false:=beq_eq_false_iff_ne.2 (by omega)
 have e1:((x.sh.length:Int) != (y.sh.length:Int))=false:=bne_eq_false_iff_eq.2 (by omega)
 simp only[e0,e1,cond_false]
 have FX:fmP x y [.agg x.row1,.int .i64 100] x:=⟨.inl rfl,Bg _⟩
 have FY:fmP x y [.agg y.row1,.int .i64 100] y:=⟨.inr rfl,Bg _⟩
 have HX:mrP x y [.agg x.row1] x:=⟨.inl rfl,Bg _⟩
 have HY:mrP x y [.agg y.row1] y:=⟨.inr (.inl rfl),Bg _⟩
 have HJ:mrP x y [.agg (joA x y).row1] (joA x y):=⟨.inr (.inr rfl),Bg _⟩
 have M1:mfP x y [.agg x.row1,.agg y.row1] (x,y):=⟨.inl rfl,Bg _⟩
 have M2:mfP x y [.agg (reA y).row1,.agg (reA x).row1] (reA y,reA x):=⟨.inr rfl,Bg _⟩
 have ML:mlP x y [.agg (trA x).row1,.agg (trA y).row1]:=Bg _
 have S1:msP x y [.agg (reA (joA x y)).row1,.agg (joA (reA y) (reA x)).row1] (reA (joA x y)):=⟨.inl rfl,by rw[<- Bfx h];exact Bg _⟩
 have S2:msP x y [.agg (trA (joA x y)).row1,.agg (trA (joA x y)).row1] (trA (joA x y)):=⟨.inr rfl,Bg _⟩
 refine fun _ _ _=>⟨x,FX,fun _=>⟨y,FY,fun _=>⟨x,y,M1,fun _ _=>⟨⟨fun e=>absurd e (by omega),fun _=>trivial⟩,fun _=>?_⟩⟩⟩⟩
 repeat' (first | exact ML | exact⟨_,S1⟩ | exact⟨_,S2⟩ | (refine⟨x,HX,?_⟩) | (refine⟨y,HY,?_⟩) | (refine⟨_,HJ,?_⟩) | (refine⟨_,S1,?_⟩) | (refine⟨_,S2,?_⟩) | (refine⟨reA y,reA x,M2,?_⟩) | (intro _) | refine And.intro ?_ ?_)
theorem Wu(x y:Arr)(ox:x.ok)(oy:y.ok):CD 3 [.agg x.row1,.agg y.row1] (.bool true):=by
 by_cases hj:∃s,JoH x y s
 ·obtain ⟨s,h⟩:=hj
  exact Bdm x y s h
 ·exact Bfa x y ox oy hj
open Go Go.Ab Go.RowKit
noncomputable def BdS:Array Value:=#[.agg #[.int .i64 0,.slice none 0 0,.slice none 0 0,.slice none 0 0],.agg #[.int .i64 0,.slice none 0 0,.slice none 0 0,.slice none 0 0]]
theorem BaZ(os:Os):laidMet Try.prog Bad ((Mb os).forCall (fun _ _=>0) ⟨#[],BdS,[]⟩).memory :=
 ⟨[],(by first | exact .nil | constructor | simp[DataW.LaidVars,Bad]),List.nodup_nil,fun _ _ h=>(by cases h)⟩
theorem Bex(os:Os){H:Type}(enc:TypeId×Value->H):∃x,DataW.whole enc Try.prog ((Mb os).forCall (fun _ _=>0) ⟨#[],BdS,[]⟩).memory [26,26] [] false (BdS).toList 8=some x/\Rows.uptoSmall H (x.1++x.2.1)=true :=
 BaO (by kernel_rfl)
theorem Ba3{H : Type}{enc : TypeId×Value -> H}
  (W:World) (base:Nat) (args:Array Value) (ds gs:List (DataW H)) (before:List MemPlace)
  (hval:∀(j:Nat) t v,Try.f3.params[j]? =some t->args[j]? =some v->Value.okWide Try.prog W .any base t v)
  (hW:DataW.Whole enc Try.prog Try.f3.params.toList Rows.topMirrorsSpec.vars false W args.toList ds gs before)
  (hsz:(DataW.weightsEach Try.prog (Try.f3.params.toList++Rows.topMirrorsSpec.plain.varTypes Try.prog) (ds++gs)).all (·<=Gc)=true) (hL:laidMetH Try.prog Bad W) :
  Calls Try.prog 3 args W fun e W'=>∃v,e=.returned v/\Rows.topMirrorsSpec.post enc Try.prog Try.f3 false true false false W args v W':=by
 refine T3 (rs:=[(26,RArr),(26,RArr)]) laid (by rw[Try.params3];kernel_rfl) rfl (fun ds hd=>?_) (rt:=4) rfl Try.underlying4 (by rw[Try.params3];rfl) ?_ W (BdT hL) base args ds gs before hval hW hsz ?_
 ·rw[Try.params3] at hd
  match ds,hd with
  | [_,_],_=>exact⟨rfl,rfl,rfl⟩
 ·intro r hr
  simp only[List.mem_cons,List.not_mem_nil,or_false] at hr
  rcases hr with rfl | rfl
  ·exact fun W n=>Of W n
  ·exact fun W n=>Of W n
 ·intro Ds h
  obtain ⟨dx,_,rfl,hx,h⟩:=h.agg (by kernel_rfl)
  obtain ⟨dy,_,rfl,hy,h⟩:=h.agg (by kernel_rfl)
  obtain rfl:=h.nil
  obtain ⟨x,⟨hx,_⟩,rfl⟩:=hx
  obtain ⟨y,⟨ho,_⟩,rfl⟩:=hy
  exact (CD.wk (Wu x y hx ho) (by
   simp only[wkL,wkD]
   exact⟨II x,II y,trivial⟩)).mono fun r S' ⟨_,_,hr,_⟩=>hr
theorem BdC(os : Os)(started : os.Started)(H : Type)(enc : TypeId×Value -> H)(F : Stop.Interp) :
  ReturnsInHanded {} Try.checked os 3 .any ((Rows.OpenSpec.upto Rows.topMirrorsSpec).preRow enc Try.prog Try.f3 Rows.topMirrorsUptoRow.domain false Rows.topMirrorsUptoRow.laid) (((Rows.OpenSpec.upto Rows.topMirrorsSpec).at F).post enc Try.prog Try.f3 false true false false):=by
 obtain ⟨x,hx,hxk⟩:=Bex os enc
 refine returnsInHanded_of_row (C:=Try.checked) (s:=Rows.OpenSpec.upto Rows.topMirrorsSpec) own started (by kernel_rfl) Try.func3
  (witness_row_at (enc:=enc) (C:=Try.checked) false (Mb os) BdS rfl (by kernel_rfl) (by kernel_rfl) (by kernel_rfl)
   (OpenSpec.preRow_of_cond 8 hx rfl (fun k hk=>by cases hk;exact hxk) (by kernel_rfl) (BaZ os))) ?_
 intro W base args ds gs before hval hW _ hk _ hL _ _
 refine Ba3 W base args ds gs before hval hW ?_ hL
 have e:Try.f3.params.toList++Rows.topMirrorsSpec.plain.varTypes Try.prog=[26,26]:=by rw[Try.params3];kernel_rfl
 rw[e]
 exact Bd7 Bfw (by decide +kernel) (hk _ rfl)
theorem BfK:Rows.TopMirrorsUptoSaid :=
 OpenClaim.holds_of_cond 3 Try.f3 rfl rfl rfl rfl rfl rfl rfl ⟨rfl,rfl,rfl,rfl,rfl⟩ rfl rfl rfl rfl rfl (by kernel_rfl) Try.func3 (by kernel_rfl)
  (of_decide_eq_true (by kernel_rfl)) (by unfold Func.isWrapper;first | (rw[if_pos (by decide +kernel)];kernel_rfl) | (rw[if_neg (by decide +kernel)];exact⟨rfl,rfl⟩))
  (fun os started H enc _ F=>by rw[OpenClaim.pre_eq_preRow];exact BdC os started H enc F)
theorem provedTopMirrors:Rows.TopMirrorsUptoSaid:=BfK
end
end Go.Proofs.Ytgkifngdbpjccaa
