/- Functions of the given program and what each of them computes: lemmas towards the statement, their conditions stated with each of them. -/
import Derived.Test.YtgkifngdbpjccaaS1
namespace Go.Proofs.Ytgkifngdbpjccaa
open Go Go.Ab
set_option maxRecDepth 100000
noncomputable section
def mxV(s:List Int)(src:Nat->Nat->Nat)(m j i:Nat):Nat:=if i<j then src i ((BK (shN s) m).getD i 0) else (BK (shN s) m).getD i 0
def mxR(s:List Int)(src:Nat->Nat->Nat)(m j:Nat):Nat->List D:=fun i=>[.int .i64 (mxV s src m j i:Nat)]
def TW(s:List Int)(src:Nat->Nat->Nat)(m:Nat):List Nat:=(List.range s.length).map fun i=>src i ((BK (shN s) m).getD i 0)
def Bbi(a:Arr)(src:Nat->Nat->Nat)(T:Nat->Nat)(cl:Nat)(cap:List D)(os:List (Nat×Nat×AObj)):Con:=fun k ds S=>match ds with
 |.int _ ax::.int _ i::_=>some (pA ds S (.int .i64 (src ax.toNat i.toNat:Nat)) (k=cl/\∃ax' i':Nat,ax'<a.sh.length/\i'<(shN a.sh).getD ax' 0/\ds=.int .i64 ax'::.int .i64 i'::cap/\ax=ax'/\i=i'/\∃pre ts,S=⟨pre++os,ts⟩))
 |.sl _ _ _ _::.int _ m::_=>match k with
  |47=>some ((sIx (BO S.objs) a.sh m.toNat).fits () (ds=[isl a.sh .any,.int .i64 (m.toNat:Nat)]))
  |_=>none
 |.sl _ _ _ _::.sl _ _ _ _::_=>match k with
  |48=>some (pE (β:=Nat) ds S (fun m=>.tup [.int .i64 (T m:Nat),.bool true]) (fun m=>m<prL (shN a.sh)/\wkL ds [isl a.sh .any,isl (Eo (TW a.sh src m)) .any]))
  |_=>none
 |_=>match k with
  |29=>some ((sCi 4 a.sh).fits () (ds=[isl a.sh .any]))
  |46=>some (pA ds S (.int .i64 (prL (shN a.sh):Nat)) (wkL ds [isl a.sh .any]/\Bi a.sh=true))
  |49=>some (pE (β:=Arr) ds S (fun b=>.agg b.row1) (fun b=>ds=[.agg b.row]/\(Bj b).1=0))
  |_=>none
theorem U2{s:List Int}{src:Nat->Nat->Nat}{m i:Nat}(hi:i<s.length):(TW s src m).getD i 0=src i ((BK (shN s) m).getD i 0):=by
 unfold TW
 rw[List.getD_eq_getElem?_getD,List.getElem?_map,List.getElem?_range hi];rfl
theorem Bbt{a : Arr}{src : Nat -> Nat -> Nat}{T : Nat -> Nat}{cl : Nat}{cap : List D}{os : List (Nat×Nat×AObj)}(h : BH a a.sh src T)
  (hcl:∀ax i:Nat,ax<a.sh.length->i<(shN a.sh).getD ax 0->CS cl (.int .i64 ax::.int .i64 i::cap) ⟨os,[]⟩ (.int .i64 (src ax i:Nat))):ConOk Try.prog (Bbi a src T cl cap os):=by
 intro k ds S A hh
 unfold Bbi at hh
 split at hh
 ·injection hh with hh;subst hh
  refine BD ?_
  rintro ⟨rfl,ax,i,h1,h2,e,rfl,rfl,pre,ts,rfl⟩
  rw[e]
  simp only[Int.toNat_natCast]
  exact (hcl ax i h1 h2).behind
 ·split at hh
  ·injection hh with hh;subst hh
   exact FnSpec.fits_ok (fun _ hy=>Bfi _ _ _ hy) fun e=>by rw[e];exact⟨Bh _,Eh S⟩
  ·cases hh
 ·split at hh
  ·injection hh with hh;subst hh
   refine Ce fun m ⟨hm,e⟩=>CD.at_ (CD.wk ?_ e) _
   have hsl:(shN a.sh).length=a.sh.length:=BV a.sh
   have hg:∀i,i<a.sh.length->(TW a.sh src m).getD i 0=src i ((BK (shN a.sh) m).getD i 0):=fun i hi=>U2 hi
   have:=Bfy a.sh (TW a.sh src m) h.hy (by simp[TW]) (by omega) fun j hj=>by rw[hg j hj];exact h.hd m hm j hj
   rw[GM (g:=fun j=>src j ((BK (shN a.sh) m).getD j 0)) _ hg,h.ht m hm] at this
   exact this
  ·cases hh
 ·split at hh
  ·injection hh with hh;subst hh
   exact FnSpec.fits_ok (fun _ hy=>UV _ _ hy) fun e=>by subst e;exact⟨Bh _,Eh S⟩
  ·injection hh with hh;subst hh
   refine BD fun ⟨e,hs⟩=>CD.at_ (CD.wk ?_ e) _
   have:=MO a.sh hs
   rw[G8 hs] at this
   exact this
  ·injection hh with hh;subst hh
   refine Ce fun b ⟨e,hb⟩=>CD.at_ ?_ _
   rw[e]
   refine CD.wk (us:=[.agg b.row1]) ?_ ?_
   ·exact (Ud b hb).mono fun _ _ ⟨y,q1,q2,q3⟩=>⟨(),trivial,q2,q3⟩
   ·simp only[wkL,wkD]
    exact⟨II b,trivial⟩
  ·cases hh
noncomputable def Erb(a:Arr)(src:Nat->Nat->Nat)(T:Nat->Nat)(cl:Nat)(cap:List D)(os:List (Nat×Nat×AObj)):Senv:={ EC (Bbi a src T cl cap os) 80 3 [4,5,6,7,8,9,10,11,12,21,22,23,32,33,34,35,56] (fun id=>match id with | 1=>([0,1,2,3,4,5,6,7],[4,6,7]) | 13=>([0,1,2,3,4,5,6,7,8,9,10,11],[7,8,9,11]) | 14=>([0,1,2,3,4,5,6,7,8,9,10],[7,8,10]) | _=>([],[])) with
 gz:=fun r=>match r with
  |2=>[.cell 10 101]
  |11=>[.slot 7]
  |_=>[]
 gh:=fun b=>match b with
  |0=>[.cell 10 102,.cell 10 403]
  |_=>[]
 cut:=fun id _ S=>match id with
  |1=>some { slots:=[5],keep:=[],α:=Nat×Nat×Nat,st:=fun y=>([.ref 10 y.2.2 0],⟨[(10,y.2.2,.cells [.int .i64 a.k,.vs 4 y.1 a.sh.length y.2.1 1,.sl 1 0 (fun _=>[]) .nil,.sl 1 0 (fun _=>[]) .nil]),(4,y.1,.vec 1 a.sh.length y.2.1 (fun i=>[.int .i64 (a.sh.getD i 0)]))]++S.objs,[]⟩),inv:=fun _=>True,mu:=fun _=>0 }
  |_=>none
 ann:=fun b env S=>match b with
  |0=>match Ab.look env 5 with
   |.ref k5 _ _=>some
    { slots:=[22],keep:=[1,2,4,5,21],α:=Nat×Nat×Nat,st:=fun y=>([.int .i64 y.1],⟨Em S.objs k5 (.cells [.int .i64 a.k,isl a.sh .any,.sl 1 (cN a y.1) (nuR a T) (.tok 1 y.2.1),.sl 4 (cI a y.1) (fun i=>(itA a T i).row1) (.tok 2 y.2.2)]),[(1,y.2.1),(2,y.2.2)]⟩),inv:=fun y=>y.1<=prL (shN a.sh),mu:=fun y=>prL (shN a.sh)-y.1 }
   |_=>none
  |2=>match Ab.look env 22,Ab.look env 32 with
   |.int _ m,.vs k7 _ n c _=>some { slots:=[34],keep:=[1,2,4,5,6,7,21,22,32,33],α:=Nat,st:=fun j=>([.int .i64 j],⟨Em S.objs k7 (.vec 1 n c (mxR a.sh src m.toNat j)),S.toks⟩),inv:=fun j=>j<=a.sh.length,mu:=fun j=>a.sh.length-j }
   |_,_=>none
  |_=>none }
def Qz(a:Arr):List Int:=Arr.sh a
def Qo(a:Arr):Nat:=LN (Qz a)
def Qes(a:Arr)(b:Nat):Int:=GI (Qz a) b
def X5(a:Arr)(b:Nat):List D:=[ZI (Qes a b)]
def JL(a:Arr):D:=D.sl N1 (Qo a) (fun i=>X5 a i) Mode.any
def QlF(a:Arr):List D:=[JL a]
def Qet(a:Arr):Prop:=SM (QlF a)/\Qz a≠[]/\Qo a<=1000000
def X6(a:Arr):Int:=Arr.k a
def HG(a:Arr):D:=ZI (X6 a)
def HH(a:Nat)(b:Arr):Prop:=SM a/\SM (HG b)
def JM(a:Arr):Prop:=SM (X6 a)
def JN(a:Arr):Prop:=SM (Qo a)
def HI:Prop:=SM N0/\(∀(i:Nat),i<N0->Cr (List D) [] [])/\True
def Qeu:Prop:=HI/\HI/\True
def Ky(a:Nat)(b:Arr):Prop:=a<Qo b
def Qev(a:Arr):Prop:=∀(i:Nat),Ky i a->SM (X5 a i)
def VC(a:Arr):Prop:=JN a/\Qev a/\True
def X7(a:Arr):Nat:=LN (Arr.nu a)
def Qew(a:Arr)(b:Nat):List D:=[ZI (GI (Arr.nu a) b)]
def X8(a:Arr):Nat:=LN (Arr.it a)
def VD:Arr:=DA
def Qex(a:Arr)(b:Nat):List D:=Arr.row (List.getD (Arr.it a) b VD)
def VE(a b:Nat)(c:Arr)(d:Nat)(e:List D)(f:Nat)(g:List D):Prop:=SM a/\(SM Z0/\HI/\Qeu)/\SM b/\(JM c/\VC c/\(SM (X7 c)/\(∀(i:Nat),i<X7 c->SM (Qew c i))/\True)/\(SM (X8 c)/\(∀(i:Nat),i<X8 c->SM (Qex c i))/\True)/\True)/\SM d/\Br e e/\SM f/\Br g g/\True
def Qey(a:Nat)(b:Arr)(c d e f g:Nat)(h:List D)(k:Nat)(l:List D):Prop:=HH a b/\SM c/\∃(x:Nat×Nat×Nat),True/\(c=x.2.2/\True)/\(c=x.2.2/\(JM b/\(d=x.1/\JN b/\e=x.2.1)/\Qeu)/\d=x.1/\(JN b/\e=x.2.1/\Qev b)/\VE f a b g h k l)/\True
def Qez(a:D):Bool:=match a with | D.unk=>false | D.agg _cs=>false | D.tup _ds=>false | _x=>true
def QeA(a:Arr):Prop:=JN a/\(∀(i:Nat),Ky i a->SM (Qes a i)/\True)/\True
def QeB(a:Arr):Prop:=Bi (Qz a)=true
def VF(a:Arr):Nat:=prL (shN (Qz a))
def X9(a:Nat)(b:Arr):Prop:=a<=VF b
def Q9(a:Arr)(b:Nat):Nat:=cN a b
def Ka(a:Arr)(b:Nat):Nat:=cI a b
def JO(a:Arr)(b:Nat->Nat)(c:Nat):List D:=[ZI (Arr.k (itA a b c)),SI (Arr.sh (itA a b c)),SI (Arr.nu (itA a b c)),D.sl N4 (LN (Arr.it (itA a b c))) (fun i=>Arr.row (List.getD (Arr.it (itA a b c)) i VD)) Mode.any]
def QeC(a:Arr):Int:=(NI (VF a))
def QS(a:Nat):Nat:=Int.toNat (↑a:Int)
def HK(a:Arr)(b:Nat->Nat->Nat)(c d e:Nat):List D:=mxR (Qz a) b (QS c) d e
def QeD(a:Arr)(b:Nat)(c:Nat->Nat):Prop:=∀(i:Nat),i<Q9 a b->SM (nuR a c i)
def QeE(a:Arr)(b:Nat)(c:Nat->Nat):Prop:=∀(i:Nat),i<Ka a b->SM (JO a c i)
def QeF(a:Nat)(b:Arr)(c:Nat)(d:Nat->Nat)(e f g h k:Nat)(l:List D)(m:Nat)(n:List D):Prop:=SM a/\(JM b/\VC b/\(SM (Q9 b c)/\QeD b c d/\SM e)/\(SM (Ka b c)/\QeE b c d/\SM f)/\True)/\VE g h b k l m n
def Ya(a:Arr):Int:=(NI (Qo a))
def HL(a:Arr)(b:Nat->Nat->Nat)(c d:Nat):Int:=(NI (mxV (Qz a) b (QS c) d (QS d)))
def QeG:Nat:=max ((10:Nat)+N1) (max N4 (max (N2+N1) N2))
def QeH(a:Arr)(b:Nat)(c:Nat->Nat)(d:Nat):D:=D.sl N1 (Q9 a b) (nuR a c) (Mode.tok N1 d)
def QeI(a:Arr)(b:Nat)(c:Nat->Nat)(d:Nat):D:=D.sl N4 (Ka a b) (fun i=>JO a c i) (Mode.tok N2 d)
def HM:D:=D.sl N1 N0 (fun _x=>[]) Mode.nil
def QeJ(a:Arr):List D:=[HG a,JL a,D.sl N1 (X7 a) (fun i=>Qew a i) Mode.any,D.sl N4 (X8 a) (fun i=>Qex a i) Mode.any]
def QeK(a:Nat):Prop:=SM (D.ref (max (N2+N1) N2) a N0)
def QlG(a:Nat)(b:Arr)(c:Nat):D:=D.vs QeG a (Qo b) c N1
def QeL(a:Nat)(b:Arr)(c:Nat):Prop:=SM (QlG a b c)
def QlH(a:Arr):D:=ZI (QeC a)
def QeM(a:Arr):Prop:=SM (QlH a)
def HN(a b:Nat):Prop:=IntKind.wrap IntKind.i64 ((↑a:Int)+Z1)=(↑b:Int)/\True
def QeN(a:Arr)(b:Nat->Nat)(c:Nat):List D:=Arr.row (List.getD (Arr.it a) (TN (b c)) VD)
def QeO(a:Nat)(b:Arr)(c:Nat)(d:Nat->Nat)(e:Nat):Prop:=SM a/\SM (QeI b c d e)
def Yb(a:Arr)(b:Nat):Nat:=Ka a b+N1
def QeP(a:Nat)(b:List D)(c d e:Nat)(f:Arr):Prop:=SM (D.fn (Fn.func a) [] b)/\SM (D.ref N2 c N0)/\QeK d/\SM (D.ref (10:Nat) e N0)/\QeM f/\True
def QeQ(a:Arr)(b:Nat):Nat:=VF a-b
def QeR(a:Arr)(b c:Nat):Prop:=QeQ a b<QeQ a c
def Yc(a:Arr)(b:Nat):Nat:=Q9 a b+N1
def Yd(a:Arr)(b:Nat->Nat):Arr:=Ef a (Qz a) b
def QeS(a:Arr)(b:Nat->Nat):List Int:=Arr.sh (Yd a b)
def QeT(a:Arr)(b:Nat->Nat):List Int:=Arr.nu (Yd a b)
def QeU(a:Arr)(b:Nat->Nat):List Arr:=Arr.it (Yd a b)
def Ye(a:Arr)(b:Nat->Nat)(c:Nat):Arr:=List.getD (QeU a b) c VD
def QlI(a:Arr)(b:Nat->Nat)(c:Nat):List Int:=Arr.sh (Ye a b c)
def QlJ(a:Arr)(b:Nat->Nat)(c:Nat):List Int:=Arr.nu (Ye a b c)
def QeV(a:Arr)(b:Nat->Nat)(c:Nat):List Arr:=Arr.it (Ye a b c)
theorem Be8(a : Arr)(src : Nat -> Nat -> Nat)(T : Nat -> Nat)(cl : Nat)(cap : List D)(p q : Nat)(d1 d0 : List D)(h : BH a a.sh src T)(hr : a.sh≠[])(hcl : ∀ax i : Nat, ax<a.sh.length -> i<(shN a.sh).getD ax 0 -> CS cl (.int .i64 ax::.int .i64 i::cap) ⟨[(1, p, .cells d1), (0, q, .cells d0)], []⟩ (.int .i64 (src ax i : Nat))) :
  CS 22 [.agg a.row1,.fn (.func cl) [] cap] ⟨[(1,p,.cells d1),(0,q,.cells d0)],[]⟩ (.agg (Ef a a.sh T).row2):=by
 refine CS.of (Bo (A:=sS _ _ _) (x:=()) (E:=Erb a src T cl cap [(1,p,.cells d1),(0,q,.cells d0)]) (eOk (Bbt h hcl) rfl) Try.func22 rfl (by kernel_rfl) rfl (by simp[sS,Erb,EC,E0]) ?_)
 refine Bu (T :=
  ∀(x:Nat),p≠x/\q≠x/\True->∀(x_1:Nat),x≠x_1/\p≠x_1/\q≠x_1/\True->(SM x/\SM x/\(Qet a/\∀(y:Nat×Nat),Qo a<=y.2->HH x a/\∀(x_2:Nat),y.1≠x_2/\x_1≠x_2/\x≠x_2/\p≠x_2/\q≠x_2/\True->Qey x a x_2 y.1 y.2 x_1 p d1 q d0)/\∀(x_2:Nat),x_1≠x_2/\x≠x_2/\p≠x_2/\q≠x_2/\True->(SM x/\SM (JL a))/\HH x a/\Qet a/\∀(y:Nat×Nat),Qo a<=y.2->Qey x a x_2 y.1 y.2 x_1 p d1 q d0)/\∀(x_2:Nat×Nat×Nat),True->SM x_2.1/\SM x_2.2.1/\Bc (Qo a<=Qo a) ((∀(i:Nat),Ky i a->(List.all (X5 a i) fun (x:D)=>Qez x)=true)/\∀(t:Nat),SM x/\∃(x_3:Unit),((QeA a/\True)/\QeB a)/\∀(y:Unit),True->∀(t t_1:Nat),(∃(x_4:Nat×Nat×Nat),X9 x_4.1 a/\(Z0=(NI x_4.1)/\True)/\(SM x_2.2.2/\(JM a/\VC a/\(N0=Q9 a x_4.1/\(∀(i:Nat),i<N0->Cr (List D) [] (nuR a T i))/\t=x_4.2.1)/\(N0=Ka a x_4.1/\(∀(i:Nat),i<N0->Cr (List D) [] (JO a T i))/\t_1=x_4.2.2)/\True)/\VE x_1 x a p d1 q d0)/\t=x_4.2.1/\t_1=x_4.2.2/\True)/\∀(x_4:Nat×Nat×Nat),X9 x_4.1 a->ifB (decide ((NI x_4.1)<QeC a)) (SM x/\([JL a,ZI (NI x_4.1)]=[JL a,ZI (NI (QS x_4.1))]/\Qz a≠[]/\QeB a/\QS x_4.1<VF a)/\∀(y:Nat×Nat),Qo a<=y.2->(∃(x_5:Nat),x_5<=Qo a/\(Z0=(↑x_5:Int)/\True)/\(SM y.1/\(JN a/\SM y.2/\∀(i:Nat),Ky i a->dgR (Qz a) (QS x_4.1) i=HK a src x_4.1 x_5 i)/\QeF x_2.2.2 a x_4.1 T x_4.2.1 x_4.2.2 x_1 x p d1 q d0)/\SM x_4.2.1/\SM x_4.2.2/\True)/\∀(x_5:Nat),x_5<=Qo a->ifB (decide ((↑x_5:Int)<Ya a)) (Bc (Z0<=(↑x_5:Int)/\(↑x_5:Int)<Ya a) (SM y.1/\Bc (QS x_5<Qo a) (∃(x_6:Unit),(SM cl/\∃(ax':Nat),∃(i':Nat),Ky ax' a/\i'<List.getD (shN (Qz a)) ax' N0/\ZI (↑x_5:Int)::ZI (HL a src x_4.1 x_5)::List.append [] cap=ZI (↑ax':Int)::ZI (↑i':Int)::cap/\(↑x_5:Int)=(↑ax':Int)/\HL a src x_4.1 x_5=(↑i':Int)/\∃(pre:List (Nat×Nat×AObj)),∃(ts:List (Nat×Nat)),St.mk [(QeG,y.1,AObj.vec N1 (Qo a) y.2 (mxR (Qz a) src (QS x_4.1) x_5)),((10:Nat),x_2.2.2,AObj.cells [HG a,JL a,QeH a x_4.1 T x_4.2.1,QeI a x_4.1 T x_4.2.2]),(max (N2+N1) N2,x_1,AObj.cells [ZI Z0,HM,HM,HM]),(N2,x,AObj.cells (QeJ a)),(N1,p,AObj.cells d1),(N0,q,AObj.cells d0)] [(N1,x_4.2.1),(N2,x_4.2.2)]=St.mk (pre++[(N1,p,AObj.cells d1),(N0,q,AObj.cells d0)]) ts)/\∀(y_1:Unit),True->Bc (Z0<=(↑x_5:Int)/\(↑x_5:Int)<Ya a) (SM y.1/\Bc (QS x_5<Qo a) ((SM (D.fn (Fn.func cl) [] cap)/\SM (D.ref N2 x N0)/\QeK x_1/\SM (D.ref (10:Nat) x_2.2.2 N0)/\SM (ZI (NI x_4.1))/\QeL y.1 a y.2/\QeM a/\SM (ZI (NI x_4.1))/\QeL y.1 a y.2/\SM (ZI (Ya a))/\True)/\∃(y_2:Nat),y_2<=Qo a/\Qo a-y_2<Qo a-x_5/\HN x_5 y_2/\(SM y.1/\(JN a/\SM y.2/\∀(i:Nat),Ky i a->BA (mxR (Qz a) src (QS x_4.1) x_5) (QS x_5) [ZI (NI (src (QS x_5) (Int.toNat (HL a src x_4.1 x_5))))] i=HK a src x_4.1 y_2 i)/\QeF x_2.2.2 a x_4.1 T x_4.2.1 x_4.2.2 x_1 x p d1 q d0)/\SM x_4.2.1/\SM x_4.2.2/\True))))) (SM y.1/\SM y.2/\Bc (Qo a<=Qo a) ((∀(i:Nat),Ky i a->(List.all (HK a src x_4.1 x_5 i) fun (x:D)=>Qez x)=true)/\∀(t:Nat),SM x/\∃(x_6:Nat),(x_6<VF a/\QeA a/\(Qo a=LN (Eo (TW (Qz a) src x_6))/\(∀(i:Nat),Ky i a->(NI (mxV (Qz a) src (QS x_4.1) x_5 i))=GI (Eo (TW (Qz a) src x_6)) i/\True)/\True)/\True)/\∀(y:Unit),True->SM x/\ifB (X6 a==3) (SM x_2.2.2/\SM x/\Bc (Z0<=(NI (T x_6))/\(NI (T x_6))<(NI (X8 a))) (Bc (N4<=LN (QeN a T x_6)) (∃(x_7:Arr),([D.agg (List.take N4 (List.drop N0 (QeN a T x_6)))]=[D.agg (Arr.row x_7)]/\Prod.fst (Bj x_7)=Z0)/\∀(y:Unit),True->QeO x_2.2.2 a x_4.1 T x_4.2.2/\QeO x_2.2.2 a x_4.1 T x_4.2.2/\SM x_4.2.2/\Bc (Yb a x_4.1*80<=140737488355328/\Yb a x_4.1<=9223372036854775807) (∀(t:Nat),SM x_2.2.2/\QeP cl cap x x_1 x_2.2.2 a/\∃(y:Nat×Nat×Nat),X9 y.1 a/\QeR a y.1 x_4.1/\HN x_4.1 y.1/\(SM x_2.2.2/\(JM a/\VC a/\(Q9 a x_4.1=Q9 a y.1/\QeD a x_4.1 T/\x_4.2.1=y.2.1)/\(Yb a x_4.1=Ka a y.1/\(∀(i:Nat),i<Yb a x_4.1->Bp (Ka a x_4.1) (fun i=>JO a T i) (fun i=>List.getD [QeJ x_7] i []) i=JO a T i)/\t=y.2.2)/\True)/\VE x_1 x a p d1 q d0)/\x_4.2.1=y.2.1/\t=y.2.2/\True)))) (SM x_2.2.2/\SM x/\Bc (Z0<=(NI (T x_6))/\(NI (T x_6))<(NI (X7 a))) ((SM x_2.2.2/\SM (QeH a x_4.1 T x_4.2.1))/\SM x_4.2.1/\Bc (Yc a x_4.1*8<=140737488355328/\Yc a x_4.1<=9223372036854775807) (∀(t:Nat),SM x_2.2.2/\QeP cl cap x x_1 x_2.2.2 a/\∃(y:Nat×Nat×Nat),X9 y.1 a/\QeR a y.1 x_4.1/\HN x_4.1 y.1/\(SM x_2.2.2/\(JM a/\VC a/\(Yc a x_4.1=Q9 a y.1/\(∀(i:Nat),i<Yc a x_4.1->Bp (Q9 a x_4.1) (nuR a T) (fun i=>List.getD [[ZI (GI (Arr.nu a) (TN (T x_6)))]] i []) i=nuR a T i)/\t=y.2.1)/\(Ka a x_4.1=Ka a y.1/\QeE a x_4.1 T/\x_4.2.2=y.2.2)/\True)/\VE x_1 x a p d1 q d0)/\t=y.2.1/\x_4.2.2=y.2.2/\True)))))) (SM x_2.2.2/\SM x_1/\(SM x_1/\True)/\∃(y:Unit),True/\(X6 a=Arr.k (Yd a T)/\(Qo a=LN (QeS a T)/\(∀(i:Nat),Ky i a->X5 a i=[ZI (GI (QeS a T) i)])/\True)/\(Q9 a x_4.1=LN (QeT a T)/\(∀(i:Nat),i<Q9 a x_4.1->nuR a T i=[ZI (GI (QeT a T) i)])/\True)/\(Ka a x_4.1=LN (QeU a T)/\(∀(i:Nat),i<Ka a x_4.1->JO a T i=[ZI (Arr.k (Ye a T i)),SI (QlI a T i),SI (QlJ a T i),D.sl N4 (LN (QeV a T i)) (fun i_1=>Arr.row (List.getD (QeV a T i) i_1 VD)) Mode.any])/\True)/\True)/\(SM p/\Br d1 d1/\SM q/\Br d0 d0/\True)/\True))) (by kernel_rfl) ?_
 delta DA GI LN N0 N1 N2 N4 NI SI SM TN Z0 Z1 ZI Qz Qo JM JN HI Qeu Ky Qev VC X7 Qew X8 Qes VD Qex VE Qey Qez QeA QeB VF X9 Q9 X5 Ka JO QeC QS HK QeD QeE QeF Ya HL JL QeG QeH QeI HM QeJ QeK QlG QeL QlH QeM QlF HN QeN QeO Yb QeP QeQ QeR Yc Yd QeS Qet QeT QeU Ye QlI QlJ QeV X6 HG HH
 have da:(default:Arr)=Arr.mk 0 [] [] []:=rfl
 simp only[<- da]
 simp only[eq_self,ne_eq,implies_true,Bh,Int.toNat_natCast,Bl,Be,decide_eq_true_eq,decide_eq_false_iff_not,true_and,and_true,beq_iff_eq,beq_eq_false_iff_ne,exists_const,forall_const,Prod.exists]
 have hpos:0<a.sh.length:=List.length_pos_iff.2 hr
 have h8:=h.h8
 have hP:=Ea h.hy
 have hsl:(shN a.sh).length=a.sh.length:=BV a.sh
 intro x _ x1 _
 refine⟨⟨⟨⟨hr,by omega⟩,fun y _ x2 _=>⟨_,_,_,rfl,rfl,⟨rfl,rfl⟩,rfl,rfl⟩⟩,fun x2 _=>⟨⟨hr,by omega⟩,fun y _=>⟨_,_,_,rfl,rfl,⟨rfl,rfl⟩,rfl,rfl⟩⟩⟩,fun z=>⟨Nat.le_refl _,fun i _=>rfl,h.hy,fun t t1=>⟨⟨0,t,t1,Nat.zero_le _,rfl,⟨⟨by simp[cN],fun i hi=>absurd hi (by omega),rfl⟩,by simp[cI],fun i hi=>absurd hi (by omega),rfl⟩,rfl,rfl⟩,?_⟩⟩⟩
 rintro ⟨m,u,v⟩ hm
 dsimp only
 refine⟨fun hlt=>?_,fun hge=>?_⟩
 ·have hlt:m<prL (shN a.sh):=by simpa using hlt
  refine⟨⟨hr,h.hy,hlt⟩,fun y _=>⟨⟨0,Nat.zero_le _,rfl,fun i _=>rfl⟩,fun j hj=>⟨fun hj2=>?_,fun hj2=>?_⟩⟩⟩
  ·have hj2:j<a.sh.length:=by omega
   have e:mxV a.sh src m j j=(BK (shN a.sh) m).getD j 0:=if_neg (Nat.lt_irrefl j)
   simp only[e]
   refine⟨⟨by omega,by omega⟩,hj2,⟨j,_,hj2,G6 m (by omega) (by omega),rfl,rfl,rfl,[_,_,_,_],_,rfl⟩,⟨by omega,by omega⟩,hj2,j+1,by omega,by omega,Bb (by omega) (by omega),fun i _=>?_⟩
   unfold BA mxR mxV
   by_cases e1:i=j
   ·subst e1;rw[if_pos rfl,if_pos (Nat.lt_succ_self i)]
   ·rw[if_neg e1]
    by_cases e2:i<j
    ·rw[if_pos e2,if_pos (by omega)]
    ·rw[if_neg e2,if_neg (by omega)]
  ·obtain rfl:j=a.sh.length:=by omega
   have hT:=h.hT m hlt
   refine⟨Nat.le_refl _,fun _ _=>rfl,m,⟨hlt,by rw[IT];simp[TW],fun i hi=>?_⟩,fun hk=>?_,fun hk=>?_⟩
   ·rw[IC,U2 hi];unfold mxV;rw[if_pos hi]
   ·rw[if_pos hk] at hT
    have hc:cI a m=m:=if_pos hk
    refine⟨⟨by omega,by omega⟩,Nat.le_of_eq (IK _).symm,itA a T m,⟨?_,h.hit _ (Ch hT)⟩,⟨by omega,by omega⟩,fun w=>⟨m+1,u,w,by omega,by omega,Bb (by omega) (by omega),⟨⟨by simp[cN,hk],rfl⟩,by simp[cI,hk],fun i hi=>?_,rfl⟩,rfl,rfl⟩⟩
    ·rw[List.drop_zero,List.take_of_length_le (Nat.le_of_eq (IK _))];rfl
    ·rw[hc] at hi ⊢
     unfold Bp
     by_cases ei:i<m
     ·rw[if_pos ei]
     ·obtain rfl:i=m:=by omega
      rw[if_neg ei,Nat.sub_self];rfl
   ·rw[if_neg hk] at hT
    have hc:cN a m=m:=if_neg hk
    refine⟨⟨by omega,by omega⟩,⟨by omega,by omega⟩,fun w=>⟨m+1,w,v,by omega,by omega,Bb (by omega) (by omega),⟨⟨by simp[cN,hk],fun i hi=>?_,rfl⟩,by simp[cI,hk],rfl⟩,rfl,rfl⟩⟩
    rw[hc] at hi ⊢
    unfold Bp
    by_cases ei:i<m
    ·rw[if_pos ei]
    ·obtain rfl:i=m:=by omega
     rw[if_neg ei,Nat.sub_self];rfl
 ·obtain rfl:m=prL (shN a.sh):=by simp only at hge hm;omega
  exact⟨rfl,⟨rfl,fun _ _=>rfl⟩,⟨BbR,fun i hi=>by rw[BcB hi];rfl⟩,Bdg,fun i hi=>by rw[Bbo hi]⟩
theorem Bec(a : Arr)(src : Nat -> Nat -> Nat)(T : Nat -> Nat)(cl : Nat)(cap : List D)(p q : Nat)(d1 d0 : List D)(h : BH a a.sh src T)(hr : a.sh≠[])(hcl : ∀ax i : Nat, ax<a.sh.length -> i<(shN a.sh).getD ax 0 -> CS cl (.int .i64 ax::.int .i64 i::cap) ⟨[(1, p, .cells d1), (0, q, .cells d0)], []⟩ (.int .i64 (src ax i : Nat))) :
  CS 22 [.agg a.row1,.fn (.func cl) [] cap] ⟨[(1,p,.cells d1),(0,q,.cells d0)],[]⟩ (.agg (Ef a a.sh T).row1) :=
 (Be8 a src T cl cap p q d1 d0 h hr hcl).res (E8 _)
def O0(n d ax i:Nat):Nat:=if ax=0 then (i+n % d+d) % d else i
def OZ(n d R m:Nat):Nat:=(m / R+n % d+d) % d*R+m % R
theorem U8{d:Int}{r:List Int}(n:Nat)(hn:(n:Int)<=d){α:Type}(l:List α)(z:α)(hl:l.length=d.toNat*prL (shN r)):(List.range (d.toNat*prL (shN r))).map (fun m=>l.getD (OZ n d.toNat (prL (shN r)) m) z)=l.drop (n*prL (shN r))++l.take (n*prL (shN r)):=by
 have hd:n<=d.toNat:=by omega
 have hle:n*prL (shN r)<=d.toNat*prL (shN r):=Nat.mul_le_mul_right _ hd
 apply List.ext_getElem
 ·rw[List.length_map,List.length_range,List.length_append,List.length_drop,List.length_take];omega
 ·intro i h1 h2
  have h1:i<d.toNat*prL (shN r):=by simpa using h1
  have:=BdM (n:=n) z hl hd h1
  rw[List.getD_eq_getElem?_getD,List.getElem?_eq_getElem h2] at this
  simp only[List.getElem_map,List.getElem_range]
  unfold OZ
  rw[<- this];rfl
section
variable {k d:Int} {r nu:List Int} {it:List Arr} (h:(Bj (.mk k (d::r) nu it)).1=0) (n:Nat) (hn:(n:Int)<=d)
include h
theorem BeW:BH (.mk k (d::r) nu it) (d::r) (O0 n d.toNat) (OZ n d.toNat (prL (shN r))):=by
 obtain ⟨f1,f2,f3,f4⟩:=Bs.1 (By h)
 have f2:Bi (d::r)=true:=f2
 have f3:(if k=3 then it.length else nu.length)=prL (shN (d::r)):=f3
 have e2:shN (d::r)=d.toNat::shN r:=by simp[shN]
 have e3:prL (d.toNat::shN r)=d.toNat*prL (shN r):=rfl
 have hR:∀ {m},m<d.toNat*prL (shN r)->0<prL (shN r):=fun {m} hm=>Nat.pos_of_ne_zero fun e=>by rw[e,Nat.mul_zero] at hm;exact absurd hm (Nat.not_lt_zero _)
 have hD:∀ {m},m<d.toNat*prL (shN r)->0<d.toNat:=fun {m} hm=>Nat.pos_of_ne_zero fun e=>by rw[e,Nat.zero_mul] at hm;exact absurd hm (Nat.not_lt_zero _)
 refine⟨f1,f2,f2,rfl,fun m hm=>?_,fun m hm j hj=>?_,fun m hm=>?_,fun hm=>hm,(Cn h).2.2.2⟩
 ·rw[e2,e3] at hm
  show OZ n d.toNat (prL (shN r)) m<(if k=3 then it.length else nu.length)
  rw[f3,e2,e3]
  unfold OZ
  have h1:=Nat.mod_lt (m / prL (shN r)+n % d.toNat+d.toNat) (hD hm)
  have h2:=Nat.mod_lt m (hR hm)
  calc _<(m / prL (shN r)+n % d.toNat+d.toNat) % d.toNat*prL (shN r)+prL (shN r):=by omega
   _=((m / prL (shN r)+n % d.toNat+d.toNat) % d.toNat+1)*prL (shN r):=by rw[Nat.add_mul,Nat.one_mul]
   _<=d.toNat*prL (shN r):=Nat.mul_le_mul_right _ h1
 ·rw[e2] at hm ⊢
  show O0 n d.toNat j ((BK (d.toNat::shN r) m).getD j 0)<(shN (d::r)).getD j 0
  rw[e2]
  have hj2:j<(d.toNat::shN r).length:=by simpa[shN] using hj
  have:=G6 m (by omega) hj2
  unfold O0
  rcases j with _ | j
  ·rw[if_pos rfl]
   exact Nat.mod_lt _ (hD (m:=m) (by rw[<- e3];exact hm))
  ·rw[if_neg (by omega)]
   exact this
 ·rw[e2,e3] at hm
  show hp (shN (d::r)) (fun j=>O0 n d.toNat j ((BK (shN (d::r)) m).getD j 0)) (r.length+1)=OZ n d.toNat (prL (shN r)) m
  rw[e2]
  have hl:(((m / prL (shN r) % d.toNat+n % d.toNat+d.toNat) % d.toNat)::BK (shN r) m).length=(d.toNat::shN r).length:=by simp[Ct]
  have:=RK hl
  rw[WK,Nat.mod_eq_of_lt (EP hm)] at this
  unfold OZ
  rw[<- this]
  have hn:(d.toNat::shN r).length=r.length+1:=by simp[shN]
  rw[hn]
  refine GM _ fun i _=>?_
  unfold O0
  rcases i with _ | i
  ·rw[if_pos rfl]
   show (m / prL (shN r) % d.toNat+n % d.toNat+d.toNat) % d.toNat=_
   rw[Nat.mod_eq_of_lt (EP hm)];rfl
  ·rw[if_neg (by omega)];rfl
include hn
theorem BdO:Ef (.mk k (d::r) nu it) (d::r) (OZ n d.toNat (prL (shN r)))=roA n (.mk k (d::r) nu it):=by
 obtain ⟨f1,f2,f3,f4⟩:=Bs.1 (By h)
 have f3:(if k=3 then it.length else nu.length)=prL (shN (d::r)):=f3
 have f4:(if k=3 then nu.length else it.length)=0:=f4
 have e2:prL (shN (d::r))=d.toNat*prL (shN r):=by simp[shN,prL]
 show Arr.mk k (d::r) (if k=3 then [] else (List.range (prL (shN (d::r)))).map fun m=>nu.getD (OZ n d.toNat (prL (shN r)) m) 0) (if k=3 then (List.range (prL (shN (d::r)))).map fun m=>it.getD (OZ n d.toNat (prL (shN r)) m) default else [])=Arr.mk k (d::r) (nu.drop (n*prL (shN r))++nu.take (n*prL (shN r))) (it.drop (n*prL (shN r))++it.take (n*prL (shN r)))
 rw[e2] at f3 ⊢
 by_cases hk3:k=3
 ·rw[if_pos hk3] at f3 f4 ⊢
  rw[if_pos hk3,List.eq_nil_of_length_eq_zero f4,U8 n hn it default f3]
  simp
 ·rw[if_neg hk3] at f3 f4 ⊢
  rw[if_neg hk3,List.eq_nil_of_length_eq_zero f4,U8 n hn nu 0 f3]
  simp
end
theorem BeZ{n d i:Nat}(hd:0<d)(_h1:n<=65536)(h2:d<=65536)(h3:i<=65536):Int.tmod (IntKind.i64.wrap (IntKind.i64.wrap ((i:Int)+Int.tmod (n:Int) (d:Int))+(d:Int))) (d:Int)=(((i+n % d+d) % d:Nat):Int):=by
 have hm:=Nat.mod_lt n hd
 rw[<- Int.ofNat_tmod,show ((i:Int)+((n % d:Nat):Int))=((i+n % d:Nat):Int) by push_cast;rfl,R9 (by omega),show (((i+n % d:Nat):Int)+(d:Int))=((i+n % d+d:Nat):Int) by push_cast;rfl,R9 (by omega),<- Int.ofNat_tmod]
noncomputable def Erc:Senv:=EC E5 32 4 [6,7,12] (fun _=>([],[]))
def VG(a:Nat):Arr:=nmA a
def HO(a:Nat):List Int:=Arr.nu (VG a)
def HP(a:Nat):Nat:=LN (HO a)
def QeW(a:Nat):Int:=(NI (HP a))
def VH(a:Arr):List Int:=Arr.sh a
def HQ(a:Arr):Nat:=LN (VH a)
def QeX:Arr:=DA
def QlK(a:Arr)(b:Nat):List D:=Arr.row (List.getD (Arr.it a) b QeX)
def QeY(a:Nat):Nat:=LN (Arr.sh (VG a))
def QlL(a b:Nat):List D:=[ZI (GI (Arr.sh (VG a)) b)]
def QlM(a b:Nat):List D:=[ZI (GI (HO a) b)]
def QeZ(a:Nat):Nat:=LN (Arr.it (VG a))
def QlN:List D:=Arr.row QeX
def Qe0(a:Nat)(b:Arr)(c d:Nat):Prop:=(SM a/\(SM (Arr.k b)/\(SM (HQ b)/\(∀(i:Nat),i<HQ b->SM [ZI (GI (VH b) i)])/\True)/\(SM (LN (Arr.nu b))/\(∀(i:Nat),i<LN (Arr.nu b)->SM [ZI (GI (Arr.nu b) i)])/\True)/\(SM (LN (Arr.it b))/\(∀(i:Nat),i<LN (Arr.it b)->SM (QlK b i))/\True)/\True)/\SM c/\(SM (Arr.k (VG d))/\(SM (QeY d)/\(∀(i:Nat),i<QeY d->SM (QlL d i))/\True)/\(SM (HP d)/\(∀(i:Nat),i<HP d->SM (QlM d i))/\True)/\(SM (QeZ d)/\(∀(i:Nat),i<QeZ d->SM QlN)/\True)/\True)/\True)/\True
def VI(a:Arr)(b:Nat):Int:=GI (VH a) (Int.toNat (↑b:Int))
theorem BfC(a : Arr)(n ax i : Nat)(p q : Nat)(hn : n<=65536)(hs : Bi a.sh=true)(hax : ax<a.sh.length)(hi : i<(shN a.sh).getD ax 0) :
  CS 34 [.int .i64 ax,.int .i64 i,.ref 0 q 0,.ref 1 p 0] ⟨[(1,p,.cells a.row1),(0,q,.cells (nmA n).row1)],[]⟩ (.int .i64 (O0 n (a.sh.headD 0).toNat ax i:Nat)):=by
 refine CS.of (Bo (A:=sS _ _ _) (x:=()) (E:=Erc) (eOk BN rfl) Try.func34 rfl (by kernel_rfl) rfl (by simp[sS,Erc,EC,E0]) ?_)
 refine Bu (T :=
  SM q/\ifB (decide (QeW n<=(↑ax:Int))) (True/\∃(y:Unit),True/\(↑i:Int)=(NI (O0 n (Int.toNat (List.headD (VH a) Z0)) ax i))/\Qe0 p a q n) (SM p/\Bc (Z0<=(↑ax:Int)/\(↑ax:Int)<(NI (HQ a))) (SM q/\Bc (Z0<=(↑ax:Int)/\(↑ax:Int)<QeW n) (Bc (VI a ax≠Z0) (Bc (VI a ax≠Z0) (True/\∃(y:Unit),True/\Int.tmod (IntKind.wrap IntKind.i64 (IntKind.wrap IntKind.i64 ((↑i:Int)+Int.tmod (GI (HO n) (Int.toNat (↑ax:Int))) (VI a ax))+VI a ax)) (VI a ax)=(NI (O0 n (Int.toNat (List.headD (VH a) Z0)) ax i))/\Qe0 p a q n)))))) (by kernel_rfl) ?_
 delta DA GI LN NI SM Z0 ZI VG HO QlM QeZ QlN Qe0 VI HP QeW VH HQ QeX QlK QeY QlL
 have da:(default:Arr)=Arr.mk 0 [] [] []:=rfl
 simp only[<- da]
 simp only[ne_eq,implies_true,Int.toNat_natCast,Bl,Be,decide_eq_true_eq,decide_eq_false_iff_not,true_and,and_true,exists_const]
 have hn1:(nmA n).nu.length=1:=rfl
 rw[hn1]
 refine⟨fun h=>?_,fun h=>?_⟩
 ·unfold O0;rw[if_neg (by omega)]
 ·obtain rfl:ax=0:=by omega
  have h2:=((Bk a.sh).1 hs).2.1
  have hd:=C6 h2 0
  have hl:=TU hs 0
  have e:(a.sh.headD 0).toNat=(shN a.sh).getD 0 0:=by
   cases hh:a.sh with
   |nil=>rfl
   |cons d r=>simp[shN]
  rw[<- hd,e]
  refine⟨⟨by omega,by omega⟩,⟨by omega,by omega⟩,by omega,by omega,?_⟩
  show Int.tmod (IntKind.i64.wrap (IntKind.i64.wrap ((i:Int)+Int.tmod (n:Int) ((shN a.sh).getD 0 0:Nat))+((shN a.sh).getD 0 0:Nat))) ((shN a.sh).getD 0 0:Nat)=_
  rw[BeZ (by omega) hn hl (by omega)]
  unfold O0
  rw[if_pos rfl]
def Bbj(a:Arr)(n:Nat):Con:=fun k ds S=>match k with
 |21=>some (pE (β:=Arr) ds S (fun _=>.int .i64 0) (fun b=>wkL ds [.agg b.row1]/\(b=a\/b=nmA n)))
 |22=>some (pA ds S (.agg (roA n a).row1) (∃p q pre ts,wkL ds [.agg a.row1,.fn (.func 34) [] [.ref 0 q 0,.ref 1 p 0]]/\S=⟨pre++[(1,p,.cells a.row1),(0,q,.cells (nmA n).row1)],ts⟩))
 |_=>none
theorem CS.after{k:Nat}{ds:List D}{b pre:List (Nat×Nat×AObj)}{ts:List (Nat×Nat)}{d:D}(h:CS k ds ⟨b,[]⟩ d):CS k ds ⟨pre++b,ts⟩ d:=h.behind
theorem BcC{a:Arr}{n:Nat}(hn:n<=65536)(h:(Bj a).1=0)(ho:a.ok)(hr:a.sh≠[])(hd:(n:Int)<=a.sh.headD 0):ConOk Try.prog (Bbj a n):=by
 intro k ds S A hh
 unfold Bbj at hh
 split at hh
 ·injection hh with hh;subst hh
  refine Ce fun b ⟨e,hb⟩=>CD.at_ (CD.wk ?_ e) _
  obtain rfl | rfl:=hb
  ·have:=GD _ ho
   rw[h] at this;exact this
  ·have:=GD _ (BeI hn)
   rw[Bfb hn] at this;exact this
 ·injection hh with hh;subst hh
  refine BD ?_
  rintro ⟨p,q,pre,ts,hw,rfl⟩
  have hs:Bi a.sh=true:=(Bs.1 (By h)).2.1
  have hc:=fun ax i h1 h2=>BfC a n ax i p q hn hs h1 h2
  cases a with
  |mk k s nu it =>
   cases s with
   |nil=>exact (hr rfl).elim
   |cons d r =>
    have:=Bec _ _ _ _ _ p q _ _ (BeW h n) hr hc
    have ho:=BdO h n hd
    rw[show (Arr.mk k (d::r) nu it).sh=d::r from rfl,ho] at this
    exact (this.wk hw).behind
 ·cases hh
noncomputable def Ero(a:Arr)(n:Nat):Senv:=EC (Bbj a n) 39 7 [16,21,27] (fun _=>([],[]))
def Kz(a:Nat):Arr:=nmA a
def VJ(a:Arr):Int:=Arr.k a
def HR(a:Nat):Nat:=LN (Arr.sh (Kz a))
def KN(a:Arr):Nat:=LN (Arr.sh a)
def Qe1(a b:Nat):Int:=GI (Arr.sh (Kz a)) b
def VK(a:Arr)(b:Nat):Int:=GI (Arr.sh a) b
def Yf(a:Nat):Nat:=LN (Arr.nu (Kz a))
def Jm(a:Arr):Nat:=LN (Arr.nu a)
def Qe2(a b:Nat):Int:=GI (Arr.nu (Kz a)) b
def VL(a:Arr)(b:Nat):Int:=GI (Arr.nu a) b
def HS(a:Nat):Nat:=LN (Arr.it (Kz a))
def Jn(a:Arr):Nat:=LN (Arr.it a)
def HT:Arr:=DA
def Qe3:List D:=Arr.row HT
def JP(a:Arr)(b:Nat):List D:=Arr.row (List.getD (Arr.it a) b HT)
def Qe4(a:Nat)(b:Arr):Int:=Arr.k (roA a b)
def HU(a:Nat)(b:Arr):Nat:=LN (Arr.sh (roA a b))
def Qe5(a:Nat)(b:Arr)(c:Nat):List D:=[ZI (GI (Arr.sh (roA a b)) c)]
def HV(a:Nat)(b:Arr):Nat:=LN (Arr.nu (roA a b))
def Qe6(a:Nat)(b:Arr)(c:Nat):List D:=[ZI (GI (Arr.nu (roA a b)) c)]
def HW:D:=D.sl N1 N0 (fun _x=>[]) Mode.nil
def Qe7(a:Nat)(b:Arr):Nat×AObj:=(a,AObj.cells [ZI (VJ b),D.sl N1 (KN b) (fun i=>[ZI (VK b i)]) Mode.any,D.sl N1 (Jm b) (fun i=>[ZI (VL b i)]) Mode.any,D.sl N4 (Jn b) (fun i=>JP b i) Mode.any])
def Qe8(a b:Nat):List (Nat×Nat×AObj):=[(N0,a,AObj.cells [ZI (Arr.k (Kz b)),D.sl N1 (HR b) (fun i=>[ZI (Qe1 b i)]) Mode.any,D.sl N1 (Yf b) (fun i=>[ZI (Qe2 b i)]) Mode.any,D.sl N4 (HS b) (fun _i=>Qe3) Mode.any])]
def Qe9(a:Nat)(b:Arr):Nat:=LN (Arr.it (roA a b))
def QlO(a:Nat)(b:Arr)(c:Nat):List D:=Arr.row (List.getD (Arr.it (roA a b)) c HT)
theorem BfJ(a : Arr)(n : Nat)(hn : n<=65536)(h : (Bj a).1=0)(ho : a.ok)(hr : a.sh≠[])(hd : (n : Int)<=a.sh.headD 0) :
  CD 16 [.agg (nmA n).row1,.agg a.row1] (.tup [.agg (roA n a).row1,.int .i64 0]):=by
 refine Bo (A:=sC _ _) (x:=()) (E:=Ero a n) (eOk (BcC hn h ho hr hd) rfl) Try.func16 rfl (by kernel_rfl) rfl (by simp[sC,Ero,EC,E0]) ?_
 refine Bu (T :=
  ∀(x:Nat),True->∀(x_1:Nat),x≠x_1/\True->∀(x_2:Nat),x_1≠x_2/\x≠x_2/\True->SM x/\∃(x_3:Arr),(((Arr.k (Kz n)=VJ x_3/\(HR n=KN x_3/\(∀(i:Nat),i<HR n->Qe1 n i=VK x_3 i/\True)/\True)/\(Yf n=Jm x_3/\(∀(i:Nat),i<Yf n->Qe2 n i=VL x_3 i/\True)/\True)/\(HS n=Jn x_3/\(∀(i:Nat),i<HS n->wkL Qe3 (JP x_3 i))/\True)/\True)/\True)/\(x_3=a\/x_3=Kz n))/\∀(y:Unit),True->SM x_1/\∃(x_4:Arr),(((VJ a=VJ x_4/\(KN a=KN x_4/\(∀(i:Nat),i<KN a->VK a i=VK x_4 i/\True)/\True)/\(Jm a=Jm x_4/\(∀(i:Nat),i<Jm a->VL a i=VL x_4 i/\True)/\True)/\(Jn a=Jn x_4/\(∀(i:Nat),i<Jn a->wkL (JP a i) (JP x_4 i))/\True)/\True)/\True)/\(x_4=a\/x_4=Kz n))/\∀(y:Unit),True->SM x/\SM x/\SM x/\SM x_1/\ifB (decide ((NI (KN a))<(NI (Yf n)))) (SM x_2/\(SM x_2/\True)/\∃(y:Unit),True/\((Z0=Qe4 n a/\(N0=HU n a/\(∀(i:Nat),i<N0->Cr (List D) [] (Qe5 n a i))/\True)/\(N0=HV n a/\(∀(i:Nat),i<N0->Cr (List D) [] (Qe6 n a i))/\True)/\False/\True)/\(16:Int)=Z0/\True)/\True/\True) (SM x_1/\∃(x_5:Unit),(∃(p:Nat),∃(q:Nat),∃(pre:List (Nat×Nat×AObj)),∃(ts:List (Nat×Nat)),((SM (VJ a)/\(SM (KN a)/\(∀(i:Nat),i<KN a->SM (VK a i)/\True)/\True)/\(SM (Jm a)/\(∀(i:Nat),i<Jm a->SM (VL a i)/\True)/\True)/\(SM (Jn a)/\(∀(i:Nat),i<Jn a->wkL (JP a i) (JP a i))/\True)/\True)/\D.fn (Fn.func (34:Nat)) [] [D.ref N0 x N0,D.ref (max (N0+N1) N0) x_1 N0]=D.fn (Fn.func (34:Nat)) [] [D.ref N0 q N0,D.ref N1 p N0]/\True)/\St.mk ((max (N1+N1) (max (N0+N1) N0),x_2,AObj.cells [ZI Z0,HW,HW,HW])::(max (N0+N1) N0,Qe7 x_1 a)::Qe8 x n) []=St.mk (pre++(N1,Qe7 p a)::Qe8 q n) ts)/\∀(y:Unit),True->SM x_2/\(SM x_2/\True)/\∃(y:Unit),True/\((SM (Qe4 n a)/\(SM (HU n a)/\(∀(i:Nat),i<HU n a->SM (Qe5 n a i))/\True)/\(SM (HV n a)/\(∀(i:Nat),i<HV n a->SM (Qe6 n a i))/\True)/\(SM (Qe9 n a)/\(∀(i:Nat),i<Qe9 n a->SM (QlO n a i))/\True)/\True)/\SM Z0/\True)/\True/\True)) (by kernel_rfl) ?_
 delta DA GI LN N0 N1 N4 NI SM Z0 ZI Kz VJ HR KN Qe1 VK Yf Jm Qe2 VL HS Jn HT Qe3 JP Qe4 HU Qe5 HV Qe6 HW Qe7 Qe8 Qe9 QlO
 have da:(default:Arr)=Arr.mk 0 [] [] []:=rfl
 simp only[<- da]
 simp only[ne_eq,implies_true,Bl,decide_eq_true_eq,decide_eq_false_iff_not,true_and,and_true,exists_const,forall_const]
 have hl:0<a.sh.length:=List.length_pos_iff.2 hr
 have hn1:(nmA n).nu.length=1:=rfl
 exact fun x x1 _ x2 _=>⟨nmA n,⟨⟨rfl,⟨rfl,fun _ _=>rfl⟩,⟨rfl,fun _ _=>rfl⟩,rfl,fun i hi=>absurd hi (Nat.not_lt_zero i)⟩,.inr rfl⟩,a,⟨⟨rfl,⟨rfl,fun _ _=>rfl⟩,⟨rfl,fun _ _=>rfl⟩,rfl,fun _ _=>Bg _⟩,.inl rfl⟩,fun q=>absurd q (by rw[hn1];omega),fun _=>⟨x1,x,[_],_,⟨fun _ _=>Bg _,rfl⟩,rfl⟩⟩
def nuS(s:List Int)(o:Nat):Nat->List D:=fun i=>[.int .i64 (s.getD (o+i) 0)]
def nlS:D:=.sl 1 0 (fun _=>[]) .nil
def sAn(a:Arr)(s:List Int)(kk sd:D)(i n x p:Nat)(f:Nat->List D)(t:Nat):FnSpec where
 β:=Unit
 α:=Nat
 args:=fun _=>[.agg [.int .i64 a.k,isl a.sh .any,isl a.nu .any,gsl 4 Arr.row a.it,isl s .any],.ref 17 x 0,.int .i64 i,.int .i64 n]
 st:=fun _=>⟨[(17,x,.cells [kk,sd,.sl 1 p f (.tok 1 t),nlS])],[(1,t)]⟩
 pre:=fun _=>a.k≠3/\a.sh≠[]/\i*n+n<=a.nu.length/\a.nu.length<=1000000/\p<=1000000
 post:=fun _ _=>True
 res:=fun _ _=>.ret (.tup [])
 out:=fun _ u=>⟨[(17,x,.cells [kk,sd,.sl 1 (p+n) (Bp p f (nuS a.nu (i*n))) (.tok 1 u),nlS])],[(1,u)]⟩
def Il:Con:=fun k ds S=>match k with
 |49=>some (pE (β:=Arr) ds S (fun b=>.agg b.row1) (fun b=>wkL ds [.agg b.row1]/\(Bj b).1=0))
 |_=>none
theorem Ec:ConOk Try.prog Il:=by
 intro k ds S A hh
 unfold Il at hh
 split at hh
 ·injection hh with hh;subst hh
  refine Ce fun b ⟨e,hb⟩=>CD.at_ ?_ _
  refine CD.wk (us:=[.agg b.row1]) ?_ e
  exact (Ud b hb).mono fun _ _ ⟨y,q1,q2,q3⟩=>⟨(),trivial,q2,q3⟩
 ·cases hh
noncomputable def Ean:Senv:={ EC Il 108 5 [8,10,15,16,17,18,22,57,89,90,91,92] (fun id=>match id with | 5=>([0,1,2,3,4,5,6,7,8,10,9,11,12,13,15,16,14,17],[9,11,12,14,17]) | 6=>([0,1,2,3,4,5,6,7,8,9,10,11,12,13,14],[10,11,14]) | 15=>([0,1,2,3,4,6,5,7,8,9,11,12,10,13],[5,7,8,10,13]) | _=>([],[])) with
 gz:=fun r=>match r with
  |11=>[.slot 8]
  |_=>[] }
def Jo(a b:Nat):Int:=IntKind.wrap IntKind.i64 ((↑a:Int)*(↑b:Int))
def Yg(a:Arr):Int:=(LI (Arr.nu a))
def Qfa(a:Arr)(b c d:Nat):List D:=[ZI (GI (Arr.nu a) (Int.toNat (Jo b c)+d))]
def Qfb(a b:Nat):Int:=IntKind.wrap IntKind.i64 (Jo a b+(↑b:Int))
theorem Bef(a:Arr)(s:List Int)(kk sd:D)(i n x p:Nat)(f:Nat->List D)(t:Nat)(h:(sAn a s kk sd i n x p f t).pre ()):ACalls Try.prog 41 ((sAn a s kk sd i n x p f t).args ()) ((sAn a s kk sd i n x p f t).st ()) (SpecR (sAn a s kk sd i n x p f t) ()):=by
 refine Bo (A:=sAn a s kk sd i n x p f t) (x:=()) (E:=Ean) (eOk Ec rfl) Try.func41 rfl (by kernel_rfl) rfl (by simp[sAn,Ean,EC,E0]) ?_
 refine Bu (T :=
  ∀(x_1:Nat),x≠x_1/\True->SM x_1/\ifB ((LI (Arr.sh a))==Z0) False (SM x_1/\ifB (Arr.k a != (3:Int)) (Bc (Z0<=(↑n:Int)/\(↑n:Int)<=(↑n:Int)/\(8:Int)*(↑n:Int)<=281474976710656/\(↑n:Int)<=9223372036854775807) (∀(x_2:Nat),x_1≠x_2/\x≠x_2/\True->SM x_1/\Bc (Z0<=Jo i n/\Jo i n<=Yg a/\Yg a<=Yg a) (SM x_2/\Int.toNat (↑n:Int)<=Int.toNat (Yg a)-Int.toNat (Jo i n)/\SM (Int.toNat (↑n:Int))/\SM x_2/\SM (Int.toNat (↑n:Int))/\Bc (Int.toNat (↑n:Int)<=Int.toNat (↑n:Int)) ((∀(i_1:Nat),i_1<Int.toNat (↑n:Int)->(List.all (Qfa a i n i_1) fun (x:D)=>match x with | D.unk=>false | D.agg cs=>false | D.tup ds=>false | x=>true)=true)/\∀(t_1:Nat),SM x/\SM t/\Bc ((p+Int.toNat (↑n:Int))*8<=140737488355328/\p+Int.toNat (↑n:Int)<=9223372036854775807) (∀(t:Nat),SM x/\True/\∃(y:Nat),True/\True/\(SM x/\(Bf kk kk/\Bf sd sd/\(p+Int.toNat (↑n:Int)=p+n/\(∀(i_1:Nat),i_1<p+Int.toNat (↑n:Int)->Bp p f (fun i_2=>Qfa a i n i_2) i_1=Bp p f (nuS (Arr.nu a) (i*n)) i_1)/\t=y)/\(SM N0/\(∀(i:Nat),i<N0->Cr (List D) [] [])/\True)/\True)/\True)/\t=y/\True))))) (SM x_1/\Bc (Z0<=Jo i n/\Jo i n<=Qfb i n/\Qfb i n<=(LI (Arr.it a))) False))) (by kernel_rfl) ?_
 delta GI LI LN N0 SM Z0 ZI Jo Yg Qfa Qfb
 have da:(default:Arr)=Arr.mk 0 [] [] []:=rfl
 simp only[<- da]
 simp only[eq_self,ne_eq,implies_true,Int.toNat_natCast,Bl,Be,true_and,and_true,beq_iff_eq,bne_iff_ne,bne_eq_false_iff_eq,beq_eq_false_iff_ne,forall_const]
 obtain ⟨hk,hs,hl,hm,hp⟩:=h
 have hsl:0<a.sh.length:=List.length_pos_iff.2 hs
 have ew:IntKind.i64.wrap ((i:Int)*(n:Int))=((i*n:Nat):Int):=by
  rw[show (i:Int)*(n:Int)=((i*n:Nat):Int) by push_cast;rfl]
  exact Bb (by omega) (by omega)
 simp only[ew,Int.toNat_natCast]
 exact fun y _=>⟨fun e=>absurd e (by omega),fun _=>⟨fun _=>⟨⟨by omega,by omega,by omega,by omega⟩,fun y2 _=>⟨⟨by omega,by omega,by omega⟩,by omega,Nat.le_refl _,fun _ _=>rfl,⟨by omega,by omega⟩,fun t=>⟨t,⟨Bd _,Bd _,fun _ _=>rfl,rfl⟩,rfl⟩⟩⟩,fun e=>absurd e hk⟩⟩
def itS(l:List Arr)(o:Nat):Nat->List D:=fun i=>(l.getD (o+i) default).row1
def sAb(a:Arr)(s:List Int)(kk sd nud:D)(i n x t:Nat):FnSpec where
 β:=Unit
 α:=Nat×Nat
 args:=fun _=>[.agg [.int .i64 3,isl a.sh .any,isl a.nu .any,gsl 4 Arr.row1 a.it,isl s .any],.ref 17 x 0,.int .i64 i,.int .i64 n]
 st:=fun _=>⟨[(17,x,.cells [kk,sd,nud,nlS])],[(1,t)]⟩
 pre:=fun _=>(∀b∈a.it,(Bj b).1=0)/\a.sh≠[]/\i*n+n<=a.it.length/\a.it.length<=1000000/\0<n
 post:=fun _ y=>n<=y.2
 res:=fun _ _=>.ret (.tup [])
 out:=fun _ y=>⟨[(17,x,.cells [kk,sd,nud,.vs 19 y.1 n y.2 4]),(19,y.1,.vec 4 n y.2 (itS a.it (i*n)))],[(1,t)]⟩
theorem _root_.Go.Ab.StTo.posN{S S':St}(h:UX S S'):StTo S S':=fun _C _F _w H=>Sat.pos H h
theorem Bd8{kk sd nud : D}{x y m c K K2 : Nat}{f g : Nat -> List D}{bx : Nat×Nat×AObj}{tk : List (Nat×Nat)}(hg : ∀i, i<m -> f i=g i) :
  StTo ⟨[(K,y,.vec 4 m c f),bx,(17,x,.cells [kk,sd,nud,.vs K2 y m c 4])],tk⟩ ⟨[(17,x,.cells [kk,sd,nud,.vs 19 y m c 4]),(19,y,.vec 4 m c g)],tk⟩:=by
 refine StTo.trans (B:=⟨[(17,x,.cells [kk,sd,nud,.vs K2 y m c 4]),(19,y,.vec 4 m c f)],tk⟩) (StTo.perm (r1:=[bx.2]) (r2:=[]) ?_ ?_) (StTo.posN ?_)
 ·simp only[List.map_cons,List.map_nil,List.cons_append,List.nil_append]
  exact (List.Perm.swap _ _ _).trans (List.Perm.cons _ (List.Perm.swap _ _ _))
 ·simp
 ·have ht : ∀l : List (Nat×Nat), TV l l:=fun l=>by induction l with
   |nil=>trivial
   |cons p l ih=>exact⟨rfl,ih⟩
  refine⟨⟨rfl,?_,rfl,?_,trivial⟩,ht _⟩
  ·simp[B4,Br,Bf,Bd,Ba]
  ·simp only[B4,Ba,decide_true,true_and]
   exact hg
theorem ME{g z:Nat->List D}{row:List D}{m j:Nat}(hr:∀_:j=m,row=g m)(hj:j<m+1):BA (Bp m g z) m row j=g j:=by
 unfold BA Bp
 by_cases e:j=m
 ·rw[if_pos e,hr e,e]
 ·rw[if_neg e,if_pos (by omega)]
theorem Be4{kk sd nud v:D}{x:Nat}{bx:Nat×Nat×AObj}{tk:List (Nat×Nat)}:StTo ⟨[bx,(17,x,.cells [kk,sd,nud,v])],tk⟩ ⟨[(17,x,.cells [kk,sd,nud,v])],tk⟩:=by
 refine StTo.perm (r1:=[bx.2]) (r2:=[]) ?_ ?_
 ·exact List.Perm.swap _ _ _
 ·simp
noncomputable def Eab(a:Arr)(_s:List Int)(kk sd nud:D)(i n:Nat):Senv:={ EC Il 108 5 [8,10,15,16,17,18,22,57,89,90,91,92] (fun id=>match id with | 5=>([0,1,2,3,4,5,6,7,8,10,9,11,12,13,15,16,14,17],[9,11,12,14,17]) | 6=>([0,1,2,3,4,5,6,7,8,9,10,11,12,13,14],[10,11,14]) | 15=>([0,1,2,3,4,6,5,7,8,9,11,12,10,13],[5,7,8,10,13]) | _=>([],[])) with
 own:=fun t=>Nat.beq t 24
 ann2:=fun b env S=>match b with
  |2=>match Ab.look env 1 with
   |.ref k1 x1 _=>some (
     { slots:=[91],keep:=[1,89,90],α:=Unit,st:=fun _=>([.int .i64 0],⟨[(k1,x1,.cells [kk,sd,nud,nlS])],S.toks⟩),inv:=fun _=>True,mu:=fun _=>n+1 },
     { slots:=[91],keep:=[1,89,90],α:=Nat×Nat×Nat,st:=fun y=>([.int .i64 y.1],⟨[(k1,x1,.cells [kk,sd,nud,.vs 19 y.2.1 y.1 y.2.2 4]),(19,y.2.1,.vec 4 y.1 y.2.2 (itS a.it (i*n)))],S.toks⟩),inv:=fun y=>0<y.1/\y.1<=n/\y.1<=y.2.2,mu:=fun y=>n-y.1 })
   |_=>none
  |_=>none }
def Yh(a:Arr):Nat:=LN (Arr.sh a)
def Yi(a b:Nat):Int:=IntKind.wrap IntKind.i64 ((↑a:Int)*(↑b:Int))
def HZ(a b:Nat):Int:=IntKind.wrap IntKind.i64 (Yi a b+(↑b:Int))
def QI(a:Arr):List Arr:=Arr.it a
def VM(a:Arr):Nat:=LN (QI a)
def H5(a:Arr)(b:Nat):Int:=GI (Arr.sh a) b
def Qfc(a:Arr):D:=D.sl N1 (Yh a) (fun i=>[ZI (H5 a i)]) Mode.any
def H6(a:Arr)(b:Nat):Int:=GI (Arr.nu a) b
def Qfd(a:Arr):D:=D.sl N1 (LN (Arr.nu a)) (fun i=>[ZI (H6 a i)]) Mode.any
def KO:Arr:=DA
def VN(a:Arr)(b:Nat):Arr:=List.getD (QI a) b KO
def QlP(a:Arr)(b:Nat):List Int:=Arr.sh (VN a b)
def QlQ(a:Arr)(b:Nat):List Int:=Arr.nu (VN a b)
def Qfe(a:Arr)(b:Nat):List Arr:=Arr.it (VN a b)
def VO:D:=D.sl N1 N0 (fun _x=>[]) Mode.nil
def Qff:List D:=[VO]
def Qfg(a:Nat)(b c d:D):List (Nat×Nat×AObj):=[((17:Nat),a,AObj.cells (b::c::d::Qff))]
def Qfh(a:Nat)(b:Arr)(c:List Int)(d:Nat)(e f g:D)(h:Nat):St:=St.mk (((18:Nat),a,AObj.cells [ZI 3,Qfc b,Qfd b,D.sl N4 (VM b) (fun i=>[ZI (Arr.k (VN b i)),SI (QlP b i),SI (QlQ b i),D.sl N4 (LN (Qfe b i)) (fun i_1=>Arr.row (List.getD (Qfe b i) i_1 KO)) Mode.any]) Mode.any,SI c])::Qfg d e f g) [(N1,h)]
def KP(a:Nat)(b c d:D)(e:Nat):St:=St.mk (Qfg a b c d) [(N1,e)]
def Jp(a:Nat)(b c d:D)(e f g:Nat)(h:Arr)(k l m:Nat):St:=St.mk [((17:Nat),a,AObj.cells [b,c,d,D.vs (19:Nat) e f g N4]),((19:Nat),e,AObj.vec N4 f g (itS (QI h) (k*l)))] [(N1,m)]
def Yj(a b:Nat):Nat:=Int.toNat (Yi a b)
def Qfi(a b:Nat):Nat:=Int.toNat (HZ a b)-Yj a b
def VP(a b:Nat):Int:=(NI (Qfi a b))
def Yk(a:Arr)(b c:Nat):Arr:=List.getD (QI a) (Yj b c+N0) KO
def Qfj(a:Arr)(b c:Nat):Int:=Arr.k (Yk a b c)
def Qfk(a:Arr)(b c:Nat):List Int:=Arr.sh (Yk a b c)
def H7(a:Arr)(b c:Nat):Nat:=LN (Qfk a b c)
def Qfl(a:Arr)(b c d:Nat):Int:=GI (Qfk a b c) d
def Qfm(a:Arr)(b c:Nat):List Int:=Arr.nu (Yk a b c)
def H8(a:Arr)(b c:Nat):Nat:=LN (Qfm a b c)
def Qfn(a:Arr)(b c d:Nat):Int:=GI (Qfm a b c) d
def Qfo(a:Arr)(b c:Nat):List Arr:=Arr.it (Yk a b c)
def H9(a:Arr)(b c:Nat):Nat:=LN (Qfo a b c)
def Qfp(a:Arr)(b c d:Nat):List D:=Arr.row (List.getD (Qfo a b c) d KO)
def Qaa(a:Arr)(b:Nat):List D:=Arr.row (VN a b)
def Qfq(a:Arr)(b c:Nat)(d:Arr):Prop:=((Qfj a b c=Arr.k d/\(H7 a b c=Yh d/\(∀(i:Nat),i<H7 a b c->Qfl a b c i=H5 d i/\True)/\True)/\(H8 a b c=LN (Arr.nu d)/\(∀(i:Nat),i<H8 a b c->Qfn a b c i=H6 d i/\True)/\True)/\(H9 a b c=VM d/\(∀(i:Nat),i<H9 a b c->wkL (Qfp a b c i) (Qaa d i))/\True)/\True)/\True)/\Prod.fst (Bj d)=Z0
def Qab(a:Nat):Prop:=SM a/\SM VO
def Yl(a:Arr)(b c d:Nat):Arr:=List.getD (QI a) (Yj b c+d) KO
def QlR(a:Arr)(b c d:Nat):List Int:=Arr.sh (Yl a b c d)
def QlS(a:Arr)(b c d:Nat):List Int:=Arr.nu (Yl a b c d)
def Qfr(a:Arr)(b c d:Nat):List Arr:=Arr.it (Yl a b c d)
def QlT(a b:Nat)(c:Arr):D:=D.sl N4 (Qfi a b) (fun i=>[ZI (Arr.k (Yl c a b i)),SI (QlR c a b i),SI (QlS c a b i),D.sl N4 (LN (Qfr c a b i)) (fun i_1=>Arr.row (List.getD (Qfr c a b i) i_1 KO)) Mode.any]) Mode.any
def QlU(a b:Nat):D:=ZI (VP a b)
def JQ(a b c:Nat)(d:Arr):Prop:=SM (D.ref (17:Nat) a N0)/\SM (QlT b c d)/\SM (QlU b c)/\True
def Ke(a:Nat)(b c d:D)(e f:Nat)(g:Unit):Nat:=LoopAnn.mu (LoopAnn.mk [(91:Nat)] [N1,(89:Nat),(90:Nat)] Unit (fun (_x:Unit)=>([ZI Z0],KP a b c d e)) (fun (_x:Unit)=>True) (fun (_x:Unit)=>f+N1) false fun (_x:Unit)=>St.mk [] []) g
def KA(a:Nat):List D:=List.getD [ZI Z0::VO::VO::Qff] a []
def KB(a:Arr):List D:=[ZI (Arr.k a),Qfc a,Qfd a,D.sl N4 (VM a) (fun i=>Qaa a i) Mode.any]
def Qfs(a:Arr)(b c:Nat):List D:=[ZI (Qfj a b c),D.sl N1 (H7 a b c) (fun i=>[ZI (Qfl a b c i)]) Mode.any,D.sl N1 (H8 a b c) (fun i=>[ZI (Qfn a b c i)]) Mode.any,D.sl N4 (H9 a b c) (fun i=>Qfp a b c i) Mode.any]
def Ym(a b:Nat)(c:Arr)(d:Nat)(e:Arr)(f g h:Nat)(k l m:D)(n:Nat):St:=St.mk [(max ((18:Nat)+N1) (18:Nat)+nat_lit 8,a,AObj.vec N4 N1 b (BA (fun i=>KA i) N0 (KB c))),((18:Nat),d,AObj.cells (Qfs e f g)),((17:Nat),h,AObj.cells [k,l,m,D.vs (max ((18:Nat)+N1) (18:Nat)+nat_lit 8) a N1 b N4])] [(N1,n)]
def Qft(a b c d:Nat)(e:Arr)(f g h:D)(k:Nat)(l:Unit)(m:Arr):Prop:=Qab a/\∀(y cap':Nat),b≠y/\a≠y/\True->N1<=cap'->(SM y/\SM a/\JQ a c d e/\((∃(x:Unit),True/\Ke a f g h k d x<Ke a f g h k d l/\(Z1=Z0/\True)/\StTo (Ym y cap' m b e c d a f g h k) (KP a f g h k))\/∃(x:Nat×Nat×Nat),(N0<x.1/\x.1<=d/\x.1<=x.2.2)/\d-x.1<Ke a f g h k d l/\(Z1=(NI x.1)/\True)/\StTo (Ym y cap' m b e c d a f g h k) (Jp a f g h x.2.1 x.1 x.2.2 e c d k)))/\SM a/\SM y/\JQ a c d e/\((∃(x:Unit),True/\Ke a f g h k d x<Ke a f g h k d l/\(Z1=Z0/\True)/\StTo (Ym y cap' m b e c d a f g h k) (KP a f g h k))\/∃(x:Nat×Nat×Nat),(N0<x.1/\x.1<=d/\x.1<=x.2.2)/\d-x.1<Ke a f g h k d l/\(Z1=(NI x.1)/\True)/\StTo (Ym y cap' m b e c d a f g h k) (Jp a f g h x.2.1 x.1 x.2.2 e c d k))
def QlV(a:Arr)(b c:Nat):D:=D.agg (Qfs a b c)
def Yn(a:Arr)(b c d:Nat):Arr:=List.getD (QI a) (Yj b c+Int.toNat (↑d:Int)) KO
def Qfu(a:Arr)(b c d:Nat):Int:=Arr.k (Yn a b c d)
def Qfv(a:Arr)(b c d:Nat):List Int:=Arr.sh (Yn a b c d)
def Qac(a:Arr)(b c d:Nat):Nat:=LN (Qfv a b c d)
def Qfw(a:Arr)(b c d e:Nat):Int:=GI (Qfv a b c d) e
def Qfx(a:Arr)(b c d:Nat):List Int:=Arr.nu (Yn a b c d)
def Qad(a:Arr)(b c d:Nat):Nat:=LN (Qfx a b c d)
def Qfy(a:Arr)(b c d e:Nat):Int:=GI (Qfx a b c d) e
def Qfz(a:Arr)(b c d:Nat):List Arr:=Arr.it (Yn a b c d)
def Qae(a:Arr)(b c d:Nat):Nat:=LN (Qfz a b c d)
def QfA(a:Arr)(b c d e:Nat):List D:=Arr.row (List.getD (Qfz a b c d) e KO)
def QfB(a:Arr)(b c d:Nat)(e:Arr):Prop:=((Qfu a b c d=Arr.k e/\(Qac a b c d=Yh e/\(∀(i:Nat),i<Qac a b c d->Qfw a b c d i=H5 e i/\True)/\True)/\(Qad a b c d=LN (Arr.nu e)/\(∀(i:Nat),i<Qad a b c d->Qfy a b c d i=H6 e i/\True)/\True)/\(Qae a b c d=VM e/\(∀(i:Nat),i<Qae a b c d->wkL (QfA a b c d i) (Qaa e i))/\True)/\True)/\True)/\Prod.fst (Bj e)=Z0
def Yo(a b c d:Nat):Prop:=SM a/\SM (D.vs (19:Nat) b c d N4)
def KC(a:Arr)(b c d:Nat):List D:=[ZI (Qfu a b c d),D.sl N1 (Qac a b c d) (fun i=>[ZI (Qfw a b c d i)]) Mode.any,D.sl N1 (Qad a b c d) (fun i=>[ZI (Qfy a b c d i)]) Mode.any,D.sl N4 (Qae a b c d) (fun i=>QfA a b c d i) Mode.any]
def QlW(a:Arr)(b c d:Nat):D:=D.agg (KC a b c d)
theorem Beb(a:Arr)(s:List Int)(kk sd nud:D)(i n x t:Nat)(h:(sAb a s kk sd nud i n x t).pre ()):ACalls Try.prog 41 ((sAb a s kk sd nud i n x t).args ()) ((sAb a s kk sd nud i n x t).st ()) (SpecR (sAb a s kk sd nud i n x t) ()):=by
 refine Bo (A:=sAb a s kk sd nud i n x t) (x:=()) (E:=Eab a s kk sd nud i n) (eOk Ec rfl) Try.func41 rfl (by kernel_rfl) rfl (by simp[sAb,Eab,EC,E0]) ?_
 refine Bu (T :=
  ∀(x_1:Nat),x≠x_1/\True->SM x_1/\ifB ((NI (Yh a))==Z0) False (SM x_1/\SM x_1/\Bc (Z0<=Yi i n/\Yi i n<=HZ i n/\HZ i n<=(NI (VM a))) (((∃(x_2:Unit),True/\True/\(SM Z0/\True)/\StTo (Qfh x_1 a s x kk sd nud t) (KP x kk sd nud t))\/∃(x_2:Nat×Nat×Nat),(N0<x_2.1/\x_2.1<=n/\x_2.1<=x_2.2.2)/\True/\(Z0=(NI x_2.1)/\True)/\StTo (Qfh x_1 a s x kk sd nud t) (Jp x kk sd nud x_2.2.1 x_2.1 x_2.2.2 a i n t))/\(∀(x_2:Unit),True->ifB (decide (Z0<VP i n)) (Bc (Z0<=Z0/\Z0<VP i n) (∀(x_3:Nat),x≠x_3/\True->SM x_3/\SM x/\SM x_3/\(∃(x_4:Arr),Qfq a i n x_4/\∀(y:Unit),True->Qab x/\Qft x x_3 i n a kk sd nud t x_2 x_4)/\(SM x_3/\SM (QlV a i n))/\Qab x/\∃(x_4:Arr),Qfq a i n x_4/\∀(y:Unit),True->Qft x x_3 i n a kk sd nud t x_2 x_4)) (True/\∃(y:Nat×Nat),n<=y.2/\True/\(SM x/\(Bf kk kk/\Bf sd sd/\Bf nud nud/\VO=D.vs (19:Nat) y.1 n y.2 N4/\True)/\False)/\SM t/\True))/\∀(x_2:Nat×Nat×Nat),N0<x_2.1/\x_2.1<=n/\x_2.1<=x_2.2.2->ifB (decide ((NI x_2.1)<VP i n)) (Bc (Z0<=(NI x_2.1)/\(NI x_2.1)<VP i n) (∀(x_3:Nat),x≠x_3/\x_2.2.1≠x_3/\True->SM x_3/\SM x/\SM x_3/\(∃(x_4:Arr),QfB a i n x_2.1 x_4/\∀(y:Unit),True->Yo x x_2.2.1 x_2.1 x_2.2.2/\Yo x x_2.2.1 x_2.1 x_2.2.2/\SM x_2.2.1/\SM x_2.2.2/\Bc (x_2.1<=x_2.1/\(x_2.1+N1)*80<=140737488355328/\x_2.1+N1<=9223372036854775807) (∀(y cap':Nat),x_2.1+N1<=cap'->Bc (Z0<=(NI x_2.1)/\(NI x_2.1)<(NI (x_2.1+N1))) ((SM y/\Bc (TN x_2.1<x_2.1+N1) (SM x/\JQ x i n a/\((∃(x_5:Unit),True/\Ke x kk sd nud t n x_5<n-x_2.1/\(IntKind.wrap IntKind.i64 ((NI x_2.1)+Z1)=Z0/\True)/\StTo (St.mk [((19:Nat),y,AObj.vec N4 (x_2.1+N1) cap' (BA (Bp x_2.1 (itS (QI a) (i*n)) fun i=>KA i) (TN x_2.1) (KB x_4))),(max (18:Nat) (max ((19:Nat)+N1) N0),x_3,AObj.cells (KC a i n x_2.1)),((17:Nat),x,AObj.cells [kk,sd,nud,D.vs (19:Nat) y (x_2.1+N1) cap' N4])] [(N1,t)]) (KP x kk sd nud t))\/∃(x_5:Nat×Nat×Nat),(N0<x_5.1/\x_5.1<=n/\x_5.1<=x_5.2.2)/\n-x_5.1<n-x_2.1/\(IntKind.wrap IntKind.i64 ((NI x_2.1)+Z1)=(NI x_5.1)/\True)/\StTo (St.mk [((19:Nat),y,AObj.vec N4 (x_2.1+N1) cap' (BA (Bp x_2.1 (itS (QI a) (i*n)) fun i=>KA i) (TN x_2.1) (KB x_4))),(max (18:Nat) (max ((19:Nat)+N1) N0),x_3,AObj.cells (KC a i n x_2.1)),((17:Nat),x,AObj.cells [kk,sd,nud,D.vs (19:Nat) y (x_2.1+N1) cap' N4])] [(N1,t)]) (Jp x kk sd nud x_5.2.1 x_5.1 x_5.2.2 a i n t))))/\SM x/\SM y/\Bc (TN x_2.1<x_2.1+N1) (JQ x i n a/\((∃(x_5:Unit),True/\Ke x kk sd nud t n x_5<n-x_2.1/\(IntKind.wrap IntKind.i64 ((NI x_2.1)+Z1)=Z0/\True)/\StTo (St.mk [((19:Nat),y,AObj.vec N4 (x_2.1+N1) cap' (BA (Bp x_2.1 (itS (QI a) (i*n)) fun i=>KA i) (TN x_2.1) (KB x_4))),(max (18:Nat) (max ((19:Nat)+N1) N0),x_3,AObj.cells (KC a i n x_2.1)),((17:Nat),x,AObj.cells [kk,sd,nud,D.vs (19:Nat) y (x_2.1+N1) cap' N4])] [(N1,t)]) (KP x kk sd nud t))\/∃(x_5:Nat×Nat×Nat),(N0<x_5.1/\x_5.1<=n/\x_5.1<=x_5.2.2)/\n-x_5.1<n-x_2.1/\(IntKind.wrap IntKind.i64 ((NI x_2.1)+Z1)=(NI x_5.1)/\True)/\StTo (St.mk [((19:Nat),y,AObj.vec N4 (x_2.1+N1) cap' (BA (Bp x_2.1 (itS (QI a) (i*n)) fun i=>KA i) (TN x_2.1) (KB x_4))),(max (18:Nat) (max ((19:Nat)+N1) N0),x_3,AObj.cells (KC a i n x_2.1)),((17:Nat),x,AObj.cells [kk,sd,nud,D.vs (19:Nat) y (x_2.1+N1) cap' N4])] [(N1,t)]) (Jp x kk sd nud x_5.2.1 x_5.1 x_5.2.2 a i n t))))))/\(SM x_3/\SM (QlW a i n x_2.1))/\Yo x x_2.2.1 x_2.1 x_2.2.2/\∃(x_4:Arr),QfB a i n x_2.1 x_4/\∀(y:Unit),True->Yo x x_2.2.1 x_2.1 x_2.2.2/\SM x_2.2.1/\SM x_2.2.2/\Bc (x_2.1<=x_2.1/\(x_2.1+N1)*80<=140737488355328/\x_2.1+N1<=9223372036854775807) (∀(y cap':Nat),x_2.1+N1<=cap'->Bc (Z0<=(NI x_2.1)/\(NI x_2.1)<(NI (x_2.1+N1))) ((SM y/\Bc (TN x_2.1<x_2.1+N1) (SM x/\JQ x i n a/\((∃(x_5:Unit),True/\Ke x kk sd nud t n x_5<n-x_2.1/\(IntKind.wrap IntKind.i64 ((NI x_2.1)+Z1)=Z0/\True)/\StTo (St.mk [((19:Nat),y,AObj.vec N4 (x_2.1+N1) cap' (BA (Bp x_2.1 (itS (QI a) (i*n)) fun i=>KA i) (TN x_2.1) (KB x_4))),(max (18:Nat) (max ((19:Nat)+N1) N0),x_3,AObj.cells (KC a i n x_2.1)),((17:Nat),x,AObj.cells [kk,sd,nud,D.vs (19:Nat) y (x_2.1+N1) cap' N4])] [(N1,t)]) (KP x kk sd nud t))\/∃(x_5:Nat×Nat×Nat),(N0<x_5.1/\x_5.1<=n/\x_5.1<=x_5.2.2)/\n-x_5.1<n-x_2.1/\(IntKind.wrap IntKind.i64 ((NI x_2.1)+Z1)=(NI x_5.1)/\True)/\StTo (St.mk [((19:Nat),y,AObj.vec N4 (x_2.1+N1) cap' (BA (Bp x_2.1 (itS (QI a) (i*n)) fun i=>KA i) (TN x_2.1) (KB x_4))),(max (18:Nat) (max ((19:Nat)+N1) N0),x_3,AObj.cells (KC a i n x_2.1)),((17:Nat),x,AObj.cells [kk,sd,nud,D.vs (19:Nat) y (x_2.1+N1) cap' N4])] [(N1,t)]) (Jp x kk sd nud x_5.2.1 x_5.1 x_5.2.2 a i n t))))/\SM x/\SM y/\Bc (TN x_2.1<x_2.1+N1) (JQ x i n a/\((∃(x_5:Unit),True/\Ke x kk sd nud t n x_5<n-x_2.1/\(IntKind.wrap IntKind.i64 ((NI x_2.1)+Z1)=Z0/\True)/\StTo (St.mk [((19:Nat),y,AObj.vec N4 (x_2.1+N1) cap' (BA (Bp x_2.1 (itS (QI a) (i*n)) fun i=>KA i) (TN x_2.1) (KB x_4))),(max (18:Nat) (max ((19:Nat)+N1) N0),x_3,AObj.cells (KC a i n x_2.1)),((17:Nat),x,AObj.cells [kk,sd,nud,D.vs (19:Nat) y (x_2.1+N1) cap' N4])] [(N1,t)]) (KP x kk sd nud t))\/∃(x_5:Nat×Nat×Nat),(N0<x_5.1/\x_5.1<=n/\x_5.1<=x_5.2.2)/\n-x_5.1<n-x_2.1/\(IntKind.wrap IntKind.i64 ((NI x_2.1)+Z1)=(NI x_5.1)/\True)/\StTo (St.mk [((19:Nat),y,AObj.vec N4 (x_2.1+N1) cap' (BA (Bp x_2.1 (itS (QI a) (i*n)) fun i=>KA i) (TN x_2.1) (KB x_4))),(max (18:Nat) (max ((19:Nat)+N1) N0),x_3,AObj.cells (KC a i n x_2.1)),((17:Nat),x,AObj.cells [kk,sd,nud,D.vs (19:Nat) y (x_2.1+N1) cap' N4])] [(N1,t)]) (Jp x kk sd nud x_5.2.1 x_5.1 x_5.2.2 a i n t))))))) (True/\∃(y:Nat×Nat),n<=y.2/\True/\(SM x/\(Bf kk kk/\Bf sd sd/\Bf nud nud/\(x_2.2.1=y.1/\x_2.1=n/\x_2.2.2=y.2)/\True)/\x_2.2.1=y.1/\(x_2.1=n/\x_2.2.2=y.2/\∀(i_1:Nat),i_1<x_2.1->SM (itS (QI a) (i*n) i_1))/\True)/\SM t/\True)))) (by kernel_rfl) ?_
 delta DA GI LN N0 N1 N4 NI SI SM TN Z0 Z1 ZI Yh Yi VN QlP QlQ Qfe VO Qff Qfg Qfh KP Jp HZ Yj Qfi VP Yk Qfj Qfk H7 Qfl Qfm H8 QI Qfn Qfo H9 Qfp Qaa Qfq Qab Yl QlR QlS VM Qfr QlT QlU JQ Ke KA KB Qfs Ym Qft H5 QlV Yn Qfu Qfv Qac Qfw Qfx Qad Qfy Qfz Qfc Qae QfA QfB Yo KC QlW H6 Qfd KO
 have da:(default:Arr)=Arr.mk 0 [] [] []:=rfl
 simp only[<- da]
 simp only[ne_eq,implies_true,Int.toNat_natCast,Bl,Be,decide_eq_true_eq,decide_eq_false_iff_not,true_and,and_true,beq_iff_eq,beq_eq_false_iff_ne,exists_const,forall_const,Prod.exists]
 obtain ⟨hv,hs,hl,hm,hn⟩:=h
 have hsl:0<a.sh.length:=List.length_pos_iff.2 hs
 have ew:IntKind.i64.wrap ((i:Int)*(n:Int))=((i*n:Nat):Int):=by
  rw[show (i:Int)*(n:Int)=((i*n:Nat):Int) by push_cast;rfl]
  exact Bb (by omega) (by omega)
 have ew2:IntKind.i64.wrap (((i*n:Nat):Int)+(n:Int))=((i*n+n:Nat):Int):=by
  rw[show ((i*n:Nat):Int)+(n:Int)=((i*n+n:Nat):Int) by push_cast;rfl]
  exact Bb (by omega) (by omega)
 have es:i*n+n-i*n=n:=by omega
 simp only[ew,ew2,Int.toNat_natCast,es]
 have hb:∀j,j<n->(Bj (a.it.getD (i*n+j) default)).1=0:=fun j hj=>hv _ (Ch (by omega))
 refine fun y0 hy0=>⟨fun e=>absurd e (by omega),fun _=>⟨⟨by omega,by omega,by omega⟩,.inl Be4,⟨fun _=>⟨⟨by omega,by omega⟩,fun y1 _=>⟨?_,?_⟩⟩,fun e=>absurd e (by omega)⟩,?_⟩⟩
 iterate 2
  ·refine⟨a.it.getD (i*n+0) default,⟨⟨rfl,⟨rfl,fun _ _=>rfl⟩,⟨rfl,fun _ _=>rfl⟩,rfl,fun _ _=>Bg _⟩,hb 0 hn⟩,fun y c _ hc=>?_⟩
   constructor
   all_goals
    refine .inr ⟨1,y,c,⟨by omega,by omega,hc⟩,by omega,rfl,?_⟩
    apply Bd8
    intro j hj
    obtain rfl:j=0:=by omega
    rfl
 ·rintro ⟨m,v,c0⟩ ⟨m1,m2,m3⟩
  simp only at m1 m2 m3 ⊢
  refine⟨fun hlt=>⟨⟨by omega,by omega⟩,fun y1 _=>⟨?_,?_⟩⟩,fun hge=>⟨v,c0,by omega,⟨Bd _,Bd _,Bd _,rfl,by omega,rfl⟩,rfl,by omega,rfl⟩⟩
  iterate 2
   ·refine⟨a.it.getD (i*n+m) default,⟨⟨rfl,⟨rfl,fun _ _=>rfl⟩,⟨rfl,fun _ _=>rfl⟩,rfl,fun _ _=>Bg _⟩,hb m (by omega)⟩,⟨Nat.le_refl _,by omega,by omega⟩,fun y c hc=>⟨⟨by omega,by omega⟩,?_,?_⟩⟩
    iterate 2
     ·refine⟨by omega,.inr ⟨m+1,y,c,⟨by omega,by omega,hc⟩,by omega,Bb (by omega) (by omega),?_⟩⟩
      apply Bd8
      intro j hj
      exact ME (fun _=>rfl) hj
def sAv(a:Arr)(s:List Int)(kk sd nud:D)(i n x t v len cap:Nat)(g:Nat->List D):FnSpec where
 β:=Unit
 α:=Nat×Nat
 args:=fun _=>[.agg [.int .i64 3,isl a.sh .any,isl a.nu .any,gsl 4 Arr.row1 a.it,isl s .any],.ref 17 x 0,.int .i64 i,.int .i64 n]
 st:=fun _=>⟨[(17,x,.cells [kk,sd,nud,.vs 19 v len cap 4]),(19,v,.vec 4 len cap g)],[(1,t)]⟩
 pre:=fun _=>(∀b∈a.it,(Bj b).1=0)/\a.sh≠[]/\i*n+n<=a.it.length/\a.it.length<=1000000/\len<=1000000/\len<=cap
 post:=fun _ y=>len+n<=y.2
 res:=fun _ _=>.ret (.tup [])
 out:=fun _ y=>⟨[(17,x,.cells [kk,sd,nud,.vs 19 y.1 (len+n) y.2 4]),(19,y.1,.vec 4 (len+n) y.2 (Bp len g (itS a.it (i*n))))],[(1,t)]⟩
noncomputable def Eav(a:Arr)(_s:List Int)(kk sd nud:D)(i n len:Nat)(g:Nat->List D):Senv:={ EC Il 108 5 [8,10,15,16,17,18,22,57,89,90,91,92] (fun id=>match id with | 5=>([0,1,2,3,4,5,6,7,8,10,9,11,12,13,15,16,14,17],[9,11,12,14,17]) | 6=>([0,1,2,3,4,5,6,7,8,9,10,11,12,13,14],[10,11,14]) | 15=>([0,1,2,3,4,6,5,7,8,9,11,12,10,13],[5,7,8,10,13]) | _=>([],[])) with
 own:=fun t=>Nat.beq t 24
 ann:=fun b env S=>match b with
  |2=>match Ab.look env 1 with
   |.ref k1 x1 _=>some
     { slots:=[91],keep:=[1,89,90],α:=Nat×Nat×Nat,st:=fun y=>([.int .i64 y.1],⟨[(k1,x1,.cells [kk,sd,nud,.vs 19 y.2.1 (len+y.1) y.2.2 4]),(19,y.2.1,.vec 4 (len+y.1) y.2.2 (Bp len g (itS a.it (i*n))))],S.toks⟩),inv:=fun y=>y.1<=n/\len+y.1<=y.2.2,mu:=fun y=>n-y.1 }
   |_=>none
  |_=>none }
def Yp(a b:Nat):Int:=IntKind.wrap IntKind.i64 ((↑a:Int)*(↑b:Int))
def Qaf(a b:Nat):Int:=IntKind.wrap IntKind.i64 (Yp a b+(↑b:Int))
def QM(a:Arr):List Arr:=Arr.it a
def JR(a:Nat)(b:Nat->List D)(c:Arr)(d e f:Nat):List D:=Bp a b (itS (QM c) (d*e)) f
def Qag(a b:Nat):Nat:=Int.toNat (Yp a b)
def QfC(a b:Nat):Nat:=Int.toNat (Qaf a b)-Qag a b
def Qah(a b:Nat):Int:=(NI (QfC a b))
def VQ:Arr:=DA
def Yq(a:Arr)(b c d:Nat):Arr:=List.getD (QM a) (Qag b c+Int.toNat (↑d:Int)) VQ
def QfD(a:Arr)(b c d:Nat):Int:=Arr.k (Yq a b c d)
def QfE(a:Arr)(b c d:Nat):List Int:=Arr.sh (Yq a b c d)
def Qai(a:Arr)(b c d:Nat):Nat:=LN (QfE a b c d)
def QfF(a:Arr)(b c d e:Nat):Int:=GI (QfE a b c d) e
def QfG(a:Arr)(b c d:Nat):List Int:=Arr.nu (Yq a b c d)
def Qaj(a:Arr)(b c d:Nat):Nat:=LN (QfG a b c d)
def QfH(a:Arr)(b c d e:Nat):Int:=GI (QfG a b c d) e
def QfI(a:Arr)(b c d:Nat):List Arr:=Arr.it (Yq a b c d)
def Qak(a:Arr)(b c d:Nat):Nat:=LN (QfI a b c d)
def QfJ(a:Arr)(b c d e:Nat):List D:=Arr.row (List.getD (QfI a b c d) e VQ)
def VR(a:Arr)(b:Nat):List D:=Arr.row (List.getD (QM a) b VQ)
def QfK(a:Arr)(b c d:Nat)(e:Arr):Prop:=((QfD a b c d=Arr.k e/\(Qai a b c d=LN (Arr.sh e)/\(∀(i:Nat),i<Qai a b c d->QfF a b c d i=GI (Arr.sh e) i/\True)/\True)/\(Qaj a b c d=LN (Arr.nu e)/\(∀(i:Nat),i<Qaj a b c d->QfH a b c d i=GI (Arr.nu e) i/\True)/\True)/\(Qak a b c d=LN (QM e)/\(∀(i:Nat),i<Qak a b c d->wkL (QfJ a b c d i) (VR e i))/\True)/\True)/\True)/\Prod.fst (Bj e)=Z0
def Yr(a b c d e:Nat):Prop:=SM a/\SM (D.vs (19:Nat) b (c+d) e N4)
def Ys(a:Arr)(b c d:Nat):Arr:=List.getD (QM a) (Qag b c+d) VQ
def QlX(a:Arr)(b c d:Nat):List Int:=Arr.sh (Ys a b c d)
def QlY(a:Arr)(b c d:Nat):List Int:=Arr.nu (Ys a b c d)
def QfL(a:Arr)(b c d:Nat):List Arr:=Arr.it (Ys a b c d)
def Yt(a b:Nat)(c:Arr):D:=D.sl N4 (QfC a b) (fun i=>[ZI (Arr.k (Ys c a b i)),SI (QlX c a b i),SI (QlY c a b i),D.sl N4 (LN (QfL c a b i)) (fun i_1=>Arr.row (List.getD (QfL c a b i) i_1 VQ)) Mode.any]) Mode.any
def Yu(a b:Nat):D:=ZI (Qah a b)
def QZ:D:=D.sl N1 N0 (fun _x=>[]) Mode.nil
def QlZ(a:Arr)(b c d:Nat):D:=D.agg [ZI (QfD a b c d),D.sl N1 (Qai a b c d) (fun i=>[ZI (QfF a b c d i)]) Mode.any,D.sl N1 (Qaj a b c d) (fun i=>[ZI (QfH a b c d i)]) Mode.any,D.sl N4 (Qak a b c d) (fun i=>QfJ a b c d i) Mode.any]
theorem Bd9(a:Arr)(s:List Int)(kk sd nud:D)(i n x t v len cap:Nat)(g:Nat->List D)(h:(sAv a s kk sd nud i n x t v len cap g).pre ()):ACalls Try.prog 41 ((sAv a s kk sd nud i n x t v len cap g).args ()) ((sAv a s kk sd nud i n x t v len cap g).st ()) (SpecR (sAv a s kk sd nud i n x t v len cap g) ()):=by
 refine Bo (A:=sAv a s kk sd nud i n x t v len cap g) (x:=()) (E:=Eav a s kk sd nud i n len g) (eOk Ec rfl) Try.func41 rfl (by kernel_rfl) rfl (by simp[sAv,Eav,EC,E0]) ?_
 refine Bu (T :=
  ∀(x_1:Nat),x≠x_1/\v≠x_1/\True->SM x_1/\ifB ((LI (Arr.sh a))==Z0) False (SM x_1/\SM x_1/\Bc (Z0<=Yp i n/\Yp i n<=Qaf i n/\Qaf i n<=(LI (QM a))) ((∃(x_2:Nat×Nat×Nat),(x_2.1<=n/\len+x_2.1<=x_2.2.2)/\(Z0=(NI x_2.1)/\True)/\(SM x/\(Bf kk kk/\Bf sd sd/\Bf nud nud/\(v=x_2.2.1/\len=len+x_2.1/\cap=x_2.2.2)/\True)/\v=x_2.2.1/\(len=len+x_2.1/\cap=x_2.2.2/\∀(i_1:Nat),i_1<len->g i_1=JR len g a i n i_1)/\True)/\SM t/\True)/\∀(x_2:Nat×Nat×Nat),x_2.1<=n/\len+x_2.1<=x_2.2.2->ifB (decide ((NI x_2.1)<Qah i n)) (Bc (Z0<=(NI x_2.1)/\(NI x_2.1)<Qah i n) (∀(x_3:Nat),x≠x_3/\x_2.2.1≠x_3/\True->SM x_3/\SM x/\SM x_3/\(∃(x_4:Arr),QfK a i n x_2.1 x_4/\∀(y:Unit),True->Yr x x_2.2.1 len x_2.1 x_2.2.2/\Yr x x_2.2.1 len x_2.1 x_2.2.2/\SM x_2.2.1/\SM x_2.2.2/\Bc (len+x_2.1<=len+x_2.1/\(len+x_2.1+N1)*80<=140737488355328/\len+x_2.1+N1<=9223372036854775807) (∀(y cap':Nat),len+x_2.1+N1<=cap'->Bc (Z0<=(NI (len+x_2.1))/\(NI (len+x_2.1))<(NI (len+x_2.1+N1))) ((SM y/\Bc (TN (len+x_2.1)<len+x_2.1+N1) (SM x/\(SM (D.ref (17:Nat) x N0)/\SM (Yt i n a)/\SM (Yu i n)/\True)/\∃(y_1:Nat×Nat×Nat),(y_1.1<=n/\len+y_1.1<=y_1.2.2)/\n-y_1.1<n-x_2.1/\(IntKind.wrap IntKind.i64 ((NI x_2.1)+Z1)=(NI y_1.1)/\True)/\(SM x/\(Bf kk kk/\Bf sd sd/\Bf nud nud/\(y=y_1.2.1/\len+x_2.1+N1=len+y_1.1/\cap'=y_1.2.2)/\True)/\y=y_1.2.1/\(len+x_2.1+N1=len+y_1.1/\cap'=y_1.2.2/\∀(i_1:Nat),i_1<len+x_2.1+N1->BA (Bp (len+x_2.1) (Bp len g (itS (QM a) (i*n))) fun i=>List.getD [[ZI Z0,QZ,QZ,QZ]] i []) (TN (len+x_2.1)) [ZI (Arr.k x_4),SI (Arr.sh x_4),SI (Arr.nu x_4),D.sl N4 (LN (QM x_4)) (fun i=>VR x_4 i) Mode.any] i_1=JR len g a i n i_1)/\True)/\SM t/\True))/\SM x/\SM y/\Bc (TN (len+x_2.1)<len+x_2.1+N1) ((SM (D.ref (17:Nat) x N0)/\SM (Yt i n a)/\SM (Yu i n)/\True)/\∃(y_1:Nat×Nat×Nat),(y_1.1<=n/\len+y_1.1<=y_1.2.2)/\n-y_1.1<n-x_2.1/\(IntKind.wrap IntKind.i64 ((NI x_2.1)+Z1)=(NI y_1.1)/\True)/\(SM x/\(Bf kk kk/\Bf sd sd/\Bf nud nud/\(y=y_1.2.1/\len+x_2.1+N1=len+y_1.1/\cap'=y_1.2.2)/\True)/\y=y_1.2.1/\(len+x_2.1+N1=len+y_1.1/\cap'=y_1.2.2/\∀(i_1:Nat),i_1<len+x_2.1+N1->BA (Bp (len+x_2.1) (Bp len g (itS (QM a) (i*n))) fun i=>List.getD [[ZI Z0,QZ,QZ,QZ]] i []) (TN (len+x_2.1)) [ZI (Arr.k x_4),SI (Arr.sh x_4),SI (Arr.nu x_4),D.sl N4 (LN (QM x_4)) (fun i=>VR x_4 i) Mode.any] i_1=JR len g a i n i_1)/\True)/\SM t/\True))))/\(SM x_3/\SM (QlZ a i n x_2.1))/\Yr x x_2.2.1 len x_2.1 x_2.2.2/\∃(x_4:Arr),QfK a i n x_2.1 x_4/\∀(y:Unit),True->Yr x x_2.2.1 len x_2.1 x_2.2.2/\SM x_2.2.1/\SM x_2.2.2/\Bc (len+x_2.1<=len+x_2.1/\(len+x_2.1+N1)*80<=140737488355328/\len+x_2.1+N1<=9223372036854775807) (∀(y cap':Nat),len+x_2.1+N1<=cap'->Bc (Z0<=(NI (len+x_2.1))/\(NI (len+x_2.1))<(NI (len+x_2.1+N1))) ((SM y/\Bc (TN (len+x_2.1)<len+x_2.1+N1) (SM x/\(SM (D.ref (17:Nat) x N0)/\SM (Yt i n a)/\SM (Yu i n)/\True)/\∃(y_1:Nat×Nat×Nat),(y_1.1<=n/\len+y_1.1<=y_1.2.2)/\n-y_1.1<n-x_2.1/\(IntKind.wrap IntKind.i64 ((NI x_2.1)+Z1)=(NI y_1.1)/\True)/\(SM x/\(Bf kk kk/\Bf sd sd/\Bf nud nud/\(y=y_1.2.1/\len+x_2.1+N1=len+y_1.1/\cap'=y_1.2.2)/\True)/\y=y_1.2.1/\(len+x_2.1+N1=len+y_1.1/\cap'=y_1.2.2/\∀(i_1:Nat),i_1<len+x_2.1+N1->BA (Bp (len+x_2.1) (Bp len g (itS (QM a) (i*n))) fun i=>List.getD [[ZI Z0,QZ,QZ,QZ]] i []) (TN (len+x_2.1)) [ZI (Arr.k x_4),SI (Arr.sh x_4),SI (Arr.nu x_4),D.sl N4 (LN (QM x_4)) (fun i=>VR x_4 i) Mode.any] i_1=JR len g a i n i_1)/\True)/\SM t/\True))/\SM x/\SM y/\Bc (TN (len+x_2.1)<len+x_2.1+N1) ((SM (D.ref (17:Nat) x N0)/\SM (Yt i n a)/\SM (Yu i n)/\True)/\∃(y_1:Nat×Nat×Nat),(y_1.1<=n/\len+y_1.1<=y_1.2.2)/\n-y_1.1<n-x_2.1/\(IntKind.wrap IntKind.i64 ((NI x_2.1)+Z1)=(NI y_1.1)/\True)/\(SM x/\(Bf kk kk/\Bf sd sd/\Bf nud nud/\(y=y_1.2.1/\len+x_2.1+N1=len+y_1.1/\cap'=y_1.2.2)/\True)/\y=y_1.2.1/\(len+x_2.1+N1=len+y_1.1/\cap'=y_1.2.2/\∀(i_1:Nat),i_1<len+x_2.1+N1->BA (Bp (len+x_2.1) (Bp len g (itS (QM a) (i*n))) fun i=>List.getD [[ZI Z0,QZ,QZ,QZ]] i []) (TN (len+x_2.1)) [ZI (Arr.k x_4),SI (Arr.sh x_4),SI (Arr.nu x_4),D.sl N4 (LN (QM x_4)) (fun i=>VR x_4 i) Mode.any] i_1=JR len g a i n i_1)/\True)/\SM t/\True))))) (True/\∃(y:Nat×Nat),len+n<=y.2/\True/\(SM x/\(Bf kk kk/\Bf sd sd/\Bf nud nud/\(x_2.2.1=y.1/\len+x_2.1=len+n/\x_2.2.2=y.2)/\True)/\x_2.2.1=y.1/\(len+x_2.1=len+n/\x_2.2.2=y.2/\∀(i_1:Nat),i_1<len+x_2.1->SM (JR len g a i n i_1))/\True)/\SM t/\True)))) (by kernel_rfl) ?_
 delta DA GI LI LN N0 N1 N4 NI SI SM TN Z0 Z1 ZI Yp Qaf QfE Qai QfF QfG Qaj QfH QfI Qak QfJ VR QM QfK Yr Ys QlX QlY QfL Yt Yu QZ QlZ JR Qag QfC Qah VQ Yq QfD
 have da:(default:Arr)=Arr.mk 0 [] [] []:=rfl
 simp only[<- da]
 simp only[ne_eq,implies_true,Int.toNat_natCast,Bl,Be,decide_eq_true_eq,decide_eq_false_iff_not,true_and,and_true,beq_iff_eq,beq_eq_false_iff_ne,forall_const,Prod.exists]
 obtain ⟨hv,hs,hl,hm,hlen,hcap⟩:=h
 have hsl:0<a.sh.length:=List.length_pos_iff.2 hs
 have ew:IntKind.i64.wrap ((i:Int)*(n:Int))=((i*n:Nat):Int):=by
  rw[show (i:Int)*(n:Int)=((i*n:Nat):Int) by push_cast;rfl]
  exact Bb (by omega) (by omega)
 have ew2:IntKind.i64.wrap (((i*n:Nat):Int)+(n:Int))=((i*n+n:Nat):Int):=by
  rw[show ((i*n:Nat):Int)+(n:Int)=((i*n+n:Nat):Int) by push_cast;rfl]
  exact Bb (by omega) (by omega)
 have es:i*n+n-i*n=n:=by omega
 simp only[ew,ew2,Int.toNat_natCast,es]
 have hb:∀j,j<n->(Bj (a.it.getD (i*n+j) default)).1=0:=fun j hj=>hv _ (Ch (by omega))
 refine fun y0 hy0=>⟨fun e=>absurd e (by omega),fun _=>⟨⟨by omega,by omega,by omega⟩,⟨0,v,cap,⟨Nat.zero_le _,hcap⟩,rfl,⟨Bd _,Bd _,Bd _,rfl,rfl,rfl⟩,rfl,rfl,rfl,fun j hj=>(if_pos hj).symm⟩,?_⟩⟩
 rintro ⟨m,u,c0⟩ ⟨m1,m2⟩
 simp only at m1 m2 ⊢
 refine⟨fun hlt=>⟨⟨by omega,by omega⟩,fun y1 _=>⟨?_,?_⟩⟩,fun hge=>⟨u,c0,by omega,⟨Bd _,Bd _,Bd _,rfl,by omega,rfl⟩,rfl,by omega,rfl⟩⟩
 iterate 2
  ·refine⟨a.it.getD (i*n+m) default,⟨⟨rfl,⟨rfl,fun _ _=>rfl⟩,⟨rfl,fun _ _=>rfl⟩,rfl,fun _ _=>Bg _⟩,hb m (by omega)⟩,⟨Nat.le_refl _,by omega,by omega⟩,fun y c hc=>⟨⟨by omega,by omega⟩,?_,?_⟩⟩
   iterate 2
    ·refine⟨by omega,m+1,y,c,⟨by omega,by omega⟩,by omega,Bb (by omega) (by omega),⟨Bd _,Bd _,Bd _,rfl,rfl,rfl⟩,rfl,rfl,rfl,fun j hj=>?_⟩
     refine ME (fun _=>?_) hj
     unfold Bp
     rw[if_neg (by omega),Nat.add_sub_cancel_left]
     rfl
def sA0(a:Arr)(s:List Int)(kk sd nud:D)(i x t:Nat):FnSpec where
 β:=Unit
 α:=Unit
 args:=fun _=>[.agg [.int .i64 3,isl a.sh .any,isl a.nu .any,gsl 4 Arr.row1 a.it,isl s .any],.ref 17 x 0,.int .i64 i,.int .i64 0]
 st:=fun _=>⟨[(17,x,.cells [kk,sd,nud,nlS])],[(1,t)]⟩
 pre:=fun _=>a.sh≠[]
 post:=fun _ _=>True
 res:=fun _ _=>.ret (.tup [])
 out:=fun _ _=>⟨[(17,x,.cells [kk,sd,nud,nlS])],[(1,t)]⟩
noncomputable def Ea0:Senv:={ EC Il 108 5 [8,10,15,16,17,18,22,57,89,90,91,92] (fun id=>match id with | 5=>([0,1,2,3,4,5,6,7,8,10,9,11,12,13,15,16,14,17],[9,11,12,14,17]) | 6=>([0,1,2,3,4,5,6,7,8,9,10,11,12,13,14],[10,11,14]) | 15=>([0,1,2,3,4,6,5,7,8,9,11,12,10,13],[5,7,8,10,13]) | _=>([],[])) with
 unr:=fun b=>match b with
  |2=>1
  |_=>0 }
theorem Ben(a:Arr)(s:List Int)(kk sd nud:D)(i x t:Nat)(h:a.sh≠[]):ACalls Try.prog 41 ((sA0 a s kk sd nud i x t).args ()) ((sA0 a s kk sd nud i x t).st ()) (SpecR (sA0 a s kk sd nud i x t) ()):=by
 refine Bo (A:=sA0 a s kk sd nud i x t) (x:=()) (E:=Ea0) (eOk Ec rfl) Try.func41 rfl (by kernel_rfl) rfl (by simp[sA0,Ea0,EC,E0]) ?_
 refine Bu (T :=
  ∀(x_1:Nat),x≠x_1/\True->SM x_1/\ifB ((LI (Arr.sh a))==Z0) False (SM x_1/\SM x_1/\True/\∃(y:Unit),True/\True/\(SM x/\(Bf kk kk/\Bf sd sd/\Bf nud nud/\(SM N0/\(∀(i:Nat),i<N0->Cr (List D) [] [])/\True)/\True)/\True)/\SM t/\True)) (by kernel_rfl) ?_
 delta LI LN N0 SM Z0
 have da:(default:Arr)=Arr.mk 0 [] [] []:=rfl
 simp only[<- da]
 simp only[ne_eq,implies_true,Bl,true_and,and_true,beq_iff_eq,beq_eq_false_iff_ne,exists_const]
 have hsl:0<a.sh.length:=List.length_pos_iff.2 h
 exact fun y _=>⟨fun e=>absurd e (by omega),fun _=>⟨Bd _,Bd _,Bd _⟩⟩
noncomputable def Esp:Senv:=EC E5 16 3 [4,5,11] (fun _=>([],[]))
def VS(a:Arr):Int:=Arr.k a
def Qal(a:Arr):Int:=BJ (VS a) (LN (Arr.nu a)) (LN (Arr.it a))
def QfM(a:Nat)(b:Arr):Prop:=SM a/\RT ((LI (Arr.nu b))=Qal b)
def QfN(a:Arr)(b:Nat):Prop:=ifB (VS a==3) (SM b/\RT ((LI (Arr.it a))=Qal a)) (RT (Z0=Qal a))
theorem Bfo(a:Arr):CD 65 [.agg a.row2] (.int .i64 (BJ a.k a.nu.length a.it.length)):=by
 refine Bo (A:=sC _ _) (x:=()) (E:=Esp) (eOk BN rfl) Try.func65 rfl (by kernel_rfl) rfl (by simp[sC,Esp,EC,E0]) ?_
 refine Bu (T :=
  ∀(x:Nat),True->SM x/\ifB (VS a==Z1) (ifB (VS a==Z1) (QfM x a) (QfN a x)) (ifB (VS a==2) (QfM x a) (QfN a x))) (by kernel_rfl) ?_
 delta LI LN SM Z0 Z1 VS Qal QfM QfN RT
 have da:(default:Arr)=Arr.mk 0 [] [] []:=rfl
 simp only[<- da]
 simp only[ne_eq,Bl,true_and,and_true,beq_iff_eq,beq_eq_false_iff_ne,exists_const,forall_const]
 refine⟨fun h=>⟨fun _=>by simp[BJ,h],fun q=>absurd h q⟩,fun h=>⟨fun h2=>by simp[BJ,h2],fun h2=>⟨fun h3=>by simp[BJ,h3],fun h3=>by simp[BJ,h,h2,h3]⟩⟩⟩
theorem UE(k:Int)(l:List Arr){n:Int}(h:262144<n):wtL k l n=n:=by
 cases l with
 |nil=>rw[wtL]
 |cons x r=>rw[wtL,if_neg (by omega)]
theorem WH{k:Int}(h:k≠3)(l:List Arr)(n:Int):wtL k l n=n:=by
 cases l with
 |nil=>rw[wtL]
 |cons x r=>rw[wtL,if_neg (fun q=>h q.1)]
theorem Bb8(k:Int)(l:List Arr)(n:Int):min (wtL k l (if 262145<n then 262145 else n)) 262145=min (wtL k l n) 262145:=by
 split
 ·rw[UE k l (show (262144:Int)<262145 by omega),UE k l (show 262144<n by omega)]
  omega
 ·rfl
def Bcb(its:List Arr):Con:=fun k ds S=>match k with
 |65=>some (pE (β:=Arr) ds S (fun b=>.int .i64 (BJ b.k b.nu.length b.it.length)) (fun b=>wkL ds [.agg b.row2]))
 |57=>some (pE (β:=Arr) ds S (fun b=>.int .i64 (wtA b)) (fun b=>wkL ds [.agg b.row1]/\b∈its))
 |_=>none
theorem Bby{its:List Arr}(ih:∀b∈its,CD 57 [.agg b.row2] (.int .i64 (wtA b))):ConOk Try.prog (Bcb its):=by
 intro k ds S A h
 unfold Bcb at h
 split at h
 ·injection h with h;subst h
  exact Ce fun b hb=>CD.at_ (CD.wk (Bfo b) hb) _
 ·injection h with h;subst h
  refine Ce fun b ⟨hb,hm⟩=>CD.at_ (CD.wk (CD.wk (ih b hm) ?_) hb) _
  simp only[wkL,wkD]
  exact⟨Cy b,trivial⟩
 ·cases h
noncomputable def Ewp(a:Arr):Senv:={ EC (Bcb a.it) 30 4 [5,11,14,15,16,17,21] (fun _=>([],[])) with
 ann:=fun b _ S=>match b with
  |0=>some { slots:=[3,16],keep:=[1,14,15],α:=Nat×Int,st:=fun y=>([.int .i64 y.2,.int .i64 y.1],S),inv:=fun y=>y.1<=a.it.length/\0<=y.2/\y.2<=262145/\min (wtL a.k (a.it.drop y.1) y.2) 262145=wtA a,mu:=fun y=>a.it.length-y.1 }
  |_=>none }
def Jq(a:Arr):Int:=Arr.k a
def JS(a:Arr):Nat:=LN (Arr.sh a)
def Yv(a:Arr)(b:Nat):Int:=GI (Arr.sh a) b
def Jr(a:Arr):Nat:=LN (Arr.nu a)
def Yw(a:Arr)(b:Nat):Int:=GI (Arr.nu a) b
def VT(a:Arr):List Arr:=Arr.it a
def Q0(a:Arr):Nat:=LN (VT a)
def Yx:Arr:=DA
def VU(a:Arr)(b:Nat):Arr:=List.getD (VT a) b Yx
def Qam(a:Arr)(b:Nat):Int:=Arr.k (VU a b)
def QfO(a:Arr)(b:Nat):List Int:=Arr.sh (VU a b)
def Yy(a:Arr)(b:Nat):Nat:=LN (QfO a b)
def Qan(a:Arr)(b c:Nat):Int:=GI (QfO a b) c
def QfP(a:Arr)(b:Nat):List Int:=Arr.nu (VU a b)
def Yz(a:Arr)(b:Nat):Nat:=LN (QfP a b)
def Qao(a:Arr)(b c:Nat):Int:=GI (QfP a b) c
def QfQ(a:Arr)(b:Nat):List Arr:=Arr.it (VU a b)
def YA(a:Arr)(b:Nat):Nat:=LN (QfQ a b)
def Qap(a:Arr)(b c:Nat):List D:=Arr.row (List.getD (QfQ a b) c Yx)
def QfR(a:Arr):Int:=BJ (Jq a) (Jr a) (Q0 a)
def QfS(a:Arr):Int:=if (262145:Int)<QfR a then (262145:Int) else QfR a
def VV(a:Arr):Int:=wtA a
def Qaq(a:Nat)(b:Arr)(c:Int):Prop:=a<=Q0 b/\Z0<=c/\c<=262145/\min (wtL (Jq b) (List.drop a (VT b)) c) (262145:Int)=VV b
def QfT(a:Arr)(b:Nat):List D:=[ZI (Qam a b),D.sl N1 (Yy a b) (fun i=>[ZI (Qan a b i)]) Mode.any,D.sl N1 (Yz a b) (fun i=>[ZI (Qao a b i)]) Mode.any,D.sl N4 (YA a b) (fun i=>Qap a b i) Mode.any]
def QfU(a:Nat)(b:Arr):Prop:=(SM a/\(SM (Jq b)/\(SM (JS b)/\(∀(i:Nat),i<JS b->SM [ZI (Yv b i)])/\True)/\(SM (Jr b)/\(∀(i:Nat),i<Jr b->SM [ZI (Yw b i)])/\True)/\(SM (Q0 b)/\(∀(i:Nat),i<Q0 b->SM (QfT b i))/\True)/\True)/\True)/\True
def Qar(a:Arr):Int:=(NI (Q0 a))
def QfV(a:Int)(b:Arr):Prop:=RT (a=VV b)
def YB(a:Arr)(b:Nat):Arr:=List.getD (VT a) (Int.toNat (↑b:Int)) Yx
def QfW(a:Arr)(b:Nat):List Int:=Arr.sh (YB a b)
def QfX(a:Arr)(b:Nat):Nat:=LN (QfW a b)
def QfY(a:Arr)(b:Nat):List Int:=Arr.nu (YB a b)
def QfZ(a:Arr)(b:Nat):Nat:=LN (QfY a b)
def Qf0(a:Arr)(b:Nat):List Arr:=Arr.it (YB a b)
def Qf1(a:Arr)(b:Nat):Nat:=LN (Qf0 a b)
def Ql0(a:Arr):D:=D.sl N4 (Q0 a) (fun i=>QfT a i) Mode.any
theorem Bdy(a : Arr)(ha : a.nu.length<=maxLen /\ a.it.length<=maxLen /\ a.sh.length<=maxLen)(ih : ∀b∈a.it, CD 57 [.agg b.row2] (.int .i64 (wtA b))) :
  CD 57 [.agg a.row2] (.int .i64 (wtA a)):=by
 refine Bo (A:=sC _ _) (x:=()) (E:=Ewp a) (eOk (Bby ih) rfl) Try.func57 rfl (by kernel_rfl) rfl (by simp[sC,Ewp,EC,E0]) ?_
 refine Bu (T :=
  ∀(x:Nat),True->SM x/\∃(x_1:Arr),((Jq a=Jq x_1/\(JS a=JS x_1/\(∀(i:Nat),i<JS a->Yv a i=Yv x_1 i/\True)/\True)/\(Jr a=Jr x_1/\(∀(i:Nat),i<Jr a->Yw a i=Yw x_1 i/\True)/\True)/\(Q0 a=Q0 x_1/\(∀(i:Nat),i<Q0 a->Qam a i=Qam x_1 i/\(Yy a i=Yy x_1 i/\(∀(i_1:Nat),i_1<Yy a i->Qan a i i_1=Qan x_1 i i_1/\True)/\True)/\(Yz a i=Yz x_1 i/\(∀(i_1:Nat),i_1<Yz a i->Qao a i i_1=Qao x_1 i i_1/\True)/\True)/\(YA a i=YA x_1 i/\(∀(i_1:Nat),i_1<YA a i->wkL (Qap a i i_1) (Qap x_1 i i_1))/\True)/\True)/\True)/\True)/\True)/\∀(y:Unit),True->SM x/\ifB (Jq a != (3:Int)) (RT (QfS x_1=VV a)) (SM x/\(∃(x_2:Nat×Int),Qaq x_2.1 a x_2.2/\(QfS x_1=x_2.2/\Z0=(NI x_2.1)/\True)/\QfU x a)/\∀(x_2:Nat×Int),Qaq x_2.1 a x_2.2->ifB (decide ((NI x_2.1)<Qar a)) (Bc (Z0<=(NI x_2.1)/\(NI x_2.1)<Qar a) (∀(x_3:Nat),x≠x_3/\True->SM x_3/\ifB (decide ((262144:Int)<x_2.2)) (QfV x_2.2 a) (SM x_3/\∃(x_4:Arr),(((Arr.k (YB a x_2.1)=Jq x_4/\(QfX a x_2.1=JS x_4/\(∀(i:Nat),i<QfX a x_2.1->GI (QfW a x_2.1) i=Yv x_4 i/\True)/\True)/\(QfZ a x_2.1=Jr x_4/\(∀(i:Nat),i<QfZ a x_2.1->GI (QfY a x_2.1) i=Yw x_4 i/\True)/\True)/\(Qf1 a x_2.1=Q0 x_4/\(∀(i:Nat),i<Qf1 a x_2.1->wkL (Arr.row (List.getD (Qf0 a x_2.1) i Yx)) (Arr.row (VU x_4 i)))/\True)/\True)/\True)/\x_4∈VT a)/\∀(y:Unit),True->(SM (D.ref N0 x N0)/\SM (Ql0 a)/\SM (ZI (Qar a))/\True)/\∃(y:Nat×Int),Qaq y.1 a y.2/\Q0 a-y.1<Q0 a-x_2.1/\((if (262145:Int)<IntKind.wrap IntKind.i64 (x_2.2+VV x_4) then (262145:Int) else IntKind.wrap IntKind.i64 (x_2.2+VV x_4))=y.2/\IntKind.wrap IntKind.i64 ((NI x_2.1)+Z1)=(NI y.1)/\True)/\QfU x a))) (QfV x_2.2 a))) (by kernel_rfl) ?_
 delta DA GI LN N0 N1 N4 NI SM Z0 Z1 ZI Q0 Yx VU Qam QfO Yy Qan QfP Yz Qao QfQ YA Qap QfR QfS VV Qaq QfT QfU Qar QfV YB QfW QfX QfY QfZ Qf0 Qf1 Ql0 Jq JS Yv Jr Yw VT RT
 have da:(default:Arr)=Arr.mk 0 [] [] []:=rfl
 simp only[<- da]
 simp only[ne_eq,implies_true,Int.toNat_natCast,Bl,Be,decide_eq_true_eq,decide_eq_false_iff_not,true_and,and_true,bne_iff_ne,bne_eq_false_iff_eq,exists_const,forall_const,Prod.exists]
 have hw:=UH a
 have hsz:0<=BJ a.k a.nu.length a.it.length:=by
  unfold BJ;split<;>(try split)<;>omega
 obtain ⟨l1,l2,l3⟩:=ha
 simp only[maxLen] at l1 l2 l3
 refine fun y=>⟨a,⟨rfl,⟨rfl,fun _ _=>rfl⟩,⟨rfl,fun _ _=>rfl⟩,rfl,fun i hi=>⟨rfl,⟨rfl,fun _ _=>rfl⟩,⟨rfl,fun _ _=>rfl⟩,rfl,fun _ _=>Bg _⟩⟩,fun h3=>?_,fun h3=>⟨⟨0,_,⟨Nat.zero_le _,?_,?_,?_⟩,rfl,rfl⟩,?_⟩⟩
 ·rw[hw,WH h3];split<;>omega
 ·split<;>omega
 ·split<;>omega
 ·rw[List.drop_zero,Bb8,hw]
 rintro ⟨j,n⟩ ⟨b1,b2,b3,hch⟩
 simp only at b1 b2 b3 hch ⊢
 refine⟨fun hlt=>⟨⟨by omega,hlt⟩,fun y1 _=>⟨fun hn=>?_,fun hn=>⟨a.it.getD j default,⟨⟨rfl,⟨rfl,fun _ _=>rfl⟩,⟨rfl,fun _ _=>rfl⟩,rfl,fun _ _=>Bg _⟩,Ch (by omega)⟩,j+1,_,⟨by omega,?_,?_,?_⟩,by omega,rfl,Bb (by omega) (by omega)⟩⟩⟩,fun hge=>?_⟩
 ·rw[UE _ _ hn] at hch;omega
 all_goals try have hbd:=B0 (a.it.getD j default)
 ·rw[Bb (by omega) (by omega)];split<;>omega
 ·split<;>omega
 ·rw[Bb (by omega) (by omega),Bb8]
  rw[Ck (by omega),wtL,if_pos ⟨h3,by omega⟩] at hch
  exact hch
 ·rw[List.drop_eq_nil_of_le (by omega),wtL] at hch
  omega
theorem Bca:∀(a:Arr),a.ok->CD 57 [.agg a.row2] (.int .i64 (wtA a))
 |.mk k s n is,h=>by
  have h':=h
  simp only[Arr.ok] at h'
  obtain ⟨_,_,_,h1,h2,h3,h4⟩:=h'
  refine Bdy (.mk k s n is) ⟨h2,h3,h1⟩ fun b hb=>?_
  have hb':b∈is:=hb
  exact Bca b ((Cm _).1 h4 b hb')
termination_by a=>SizeOf.sizeOf a
decreasing_by
 have:=List.sizeOf_lt_of_mem hb'
 simp;omega
def exD(a:Arr)(s:List Int):D:=.agg [.int .i64 a.k,isl a.sh .any,isl a.nu .any,gsl 4 Arr.row a.it,isl s .any]
def Bda:Con:=fun k ds S=>match k with
 |57=>some (pE (β:=Arr) ds S (fun b=>.int .i64 (wtA b)) (fun b=>wkL ds [.agg b.row1]/\b.ok))
 |46=>some (pE (β:=List Int) ds S (fun l=>.int .i64 (prL (shN l):Nat)) (fun l=>wkL ds [isl l .any]/\Bi l=true))
 |_=>none
theorem WO:ConOk Try.prog Bda:=by
 intro k ds S A h
 unfold Bda at h
 split at h
 ·injection h with h;subst h
  refine Ce fun b ⟨hb,hm⟩=>CD.at_ (CD.wk (CD.wk (Bca b hm) ?_) hb) _
  simp only[wkL,wkD]
  exact⟨Cy b,trivial⟩
 ·injection h with h;subst h
  refine Ce fun b ⟨hb,hr⟩=>CD.at_ (CD.wk ?_ hb) _
  have:=MO b hr
  rw[G8 hr] at this
  exact this
 ·cases h
noncomputable def Esw:Senv:=EC Bda 18 3 [7] (fun id=>match id with | 2=>([0,1,3,4,2,5,6,7],[2,5]) | _=>([],[]))
def VW(a:Arr):Nat:=LN (Arr.sh a)
def Qas(a:Arr)(b:Nat):Int:=GI (Arr.sh a) b
def YC(a:Arr):Nat:=LN (Arr.nu a)
def Qat(a:Arr)(b:Nat):Int:=GI (Arr.nu a) b
def YD(a:Arr):Nat:=LN (Arr.it a)
def Qau(a:Arr)(b:Nat):List D:=Arr.row (GA (Arr.it a) b)
def Ql1(a:Arr):D:=D.agg [ZI (Arr.k a),D.sl N1 (VW a) (fun i=>[ZI (Qas a i)]) Mode.any,D.sl N1 (YC a) (fun i=>[ZI (Qat a i)]) Mode.any,D.sl N4 (YD a) (fun i=>Qau a i) Mode.any]
def Qf2(a b:Arr):Prop:=((Arr.k a=Arr.k b/\(VW a=VW b/\(∀(i:Nat),i<VW a->Qas a i=Qas b i/\True)/\True)/\(YC a=YC b/\(∀(i:Nat),i<YC a->Qat a i=Qat b i/\True)/\True)/\(YD a=YD b/\(∀(i:Nat),i<YD a->wkL (Qau a i) (Qau b i))/\True)/\True)/\True)/\Arr.ok b
def YE(a:Arr):Int:=wtA a
theorem Bdi(a:Arr)(s:List Int)(h:a.ok)(hs:a.sh≠[]):CD 39 [exD a s] (.int .i64 (wtA a)):=by
 refine Bo (A:=sC _ _) (x:=()) (E:=Esw) (eOk WO rfl) Try.func39 rfl (by kernel_rfl) rfl (by simp[sC,Esw,EC,E0]) ?_
 refine Bu (T :=
  ∀(x:Nat),True->SM x/\ifB ((NI (VW a))==Z0) (SM x/\SM x/\∃(x_1:List Int),(((LN s=LN x_1/\(∀(i:Nat),i<LN s->GI s i=GI x_1 i/\True)/\True)/\True)/\Bi x_1=true)/\∀(y:Unit),True->(SM x/\SM (Ql1 a))/\∃(x:Arr),Qf2 a x/\∀(y:Unit),True->RT (IntKind.wrap IntKind.i64 ((NI (prL (shN x_1)))*YE x)=YE a)) (SM x/\∃(x:Arr),Qf2 a x/\∀(y:Unit),True->RT (YE x=YE a))) (by kernel_rfl) ?_
 delta DA GA GI LN N1 N4 NI SM Z0 ZI VW Qas YC Qat YD Qau Ql1 Qf2 YE RT
 have da:(default:Arr)=Arr.mk 0 [] [] []:=rfl
 simp only[<- da]
 simp only[ne_eq,Bl,true_and,and_true,beq_iff_eq,beq_eq_false_iff_ne,exists_const,forall_const]
 have hsl:0<a.sh.length:=List.length_pos_iff.2 hs
 exact⟨fun e=>absurd e (by omega),fun _=>⟨a,⟨⟨rfl,⟨rfl,fun _ _=>rfl⟩,⟨rfl,fun _ _=>rfl⟩,rfl,fun _ _=>Bg _⟩,h⟩,rfl⟩⟩
theorem Rz:∀(a b:List Int),pzL (a++b)=pzL a*pzL b
 | [],b=>by simp[pzL]
 |d::a,b=>by
  rw[List.cons_append,pzL,pzL,Rz a b]
  split
  ·rfl
  ·rw[Nat.mul_assoc]
theorem RE:∀ {l:List Int},(∀d∈l,0<=d)->1<=pzL l
 | [],_=>by simp[pzL]
 |d::l,h=>by
  have ih:=RE (l:=l) fun x hx=>h x (by simp[hx])
  have:=h d (by simp)
  rw[pzL]
  split
  ·exact ih
  ·rename_i hd
   exact Nat.le_trans ih (Nat.le_mul_of_pos_left _ (by omega))
theorem GO{l:List Int}(h:Bi l=true)(k:Nat):Bi (l.take k)=true/\Bi (l.drop k)=true:=by
 obtain ⟨h1,h2,h3⟩:=(Bk l).1 h
 have e:=Rz (l.take k) (l.drop k)
 rw[List.take_append_drop] at e
 have a1:=RE (l:=l.take k) fun d hd=>(h2 d (List.mem_of_mem_take hd)).1
 have a2:=RE (l:=l.drop k) fun d hd=>(h2 d (List.mem_of_mem_drop hd)).1
 have b1:pzL (l.take k)<=pzL l:=by rw[e];exact Nat.le_mul_of_pos_right _ a2
 have b2:pzL (l.drop k)<=pzL l:=by rw[e];exact Nat.le_mul_of_pos_left _ a1
 exact⟨(Bk _).2 ⟨by rw[List.length_take];omega,fun d hd=>h2 d (List.mem_of_mem_take hd),by omega⟩,(Bk _).2 ⟨by rw[List.length_drop];omega,fun d hd=>h2 d (List.mem_of_mem_drop hd),by omega⟩⟩
def BcN:Con:=fun k ds S=>match k with
 |38=>some (pE (β:=List Int) ds S (fun l=>.bool (Bi l)) (fun l=>wkL ds [isl l .any]))
 |58=>some (pE (β:=List Int) ds S (fun l=>.int .i64 (prL (shN l):Nat)) (fun l=>wkL ds [isl l .any]/\Bi l=true))
 |_=>none
theorem Bbh:ConOk Try.prog BcN:=by
 intro k ds S A h
 unfold BcN at h
 split at h
 ·injection h with h;subst h
  exact Ce fun b hb=>CD.at_ (CD.wk (Gb b) hb) _
 ·injection h with h;subst h
  refine Ce fun b ⟨hb,hr⟩=>CD.at_ (CD.wk ?_ hb) _
  have:=BaF b hr
  rw[G8 hr] at this
  exact this
 ·cases h
noncomputable def Erw:Senv:=EC BcN 27 2 [4,5,18] (fun id=>match id with | 3=>([0,1,2,4,5,6,3,7,8,9],[3,7]) | _=>([],[]))
def Qf3(a:Nat)(b:List Int):Prop:=True/\∃(_y:Unit),True/\(Z0=(NI (prL (shN (List.take a b))))/\Z0=(NI (prL (shN (List.drop a b))))/\True)/\True/\True
theorem Wn(s:List Int)(k:Nat)(hs:Bi s=true)(hk:k<=s.length):CD 40 [isl s .any,.int .i64 k] (.tup [.int .i64 (prL (shN (s.take k)):Nat),.int .i64 (prL (shN (s.drop k)):Nat)]):=by
 refine Bo (A:=sC _ _) (x:=()) (E:=Erw) (eOk Bbh rfl) Try.func40 rfl (by kernel_rfl) rfl (by simp[sC,Erw,EC,E0]) ?_
 refine Bu (T :=
  ∃(x:List Int),((LN s=LN x/\(∀(i:Nat),i<LN s->GI s i=GI x i/\True)/\True)/\True)/\∀(y:Unit),True->ifB (!Bi x) (Qf3 k s) (ifB (decide ((LI s)<(↑k:Int))) (Qf3 k s) (Bc (Z0<=Z0/\Z0<=(↑k:Int)/\(↑k:Int)<=(LI s)) (Bc (Z0<=(↑k:Int)/\(↑k:Int)<=(LI s)/\(LI s)<=(LI s)) (∃(x:List Int),(((Int.toNat (↑k:Int)-N0=LN x/\(∀(i:Nat),i<Int.toNat (↑k:Int)-N0->GI s (N0+i)=GI x i/\True)/\True)/\True)/\Bi x=true)/\∀(y:Unit),True->∃(x_1:List Int),(((TL s-Int.toNat (↑k:Int)=LN x_1/\(∀(i:Nat),i<TL s-Int.toNat (↑k:Int)->GI s (Int.toNat (↑k:Int)+i)=GI x_1 i/\True)/\True)/\True)/\Bi x_1=true)/\∀(y:Unit),True->True/\∃(y:Unit),True/\((NI (prL (shN x)))=(NI (prL (shN (List.take k s))))/\(NI (prL (shN x_1)))=(NI (prL (shN (List.drop k s))))/\True)/\True/\True))))) (by kernel_rfl) ?_
 delta GI LI LN N0 NI TL Z0 Qf3
 simp only[Int.toNat_natCast,Bl,Be,decide_eq_true_eq,decide_eq_false_iff_not,true_and,and_true,Bool.not_eq_true',Bool.not_eq_false',exists_const,forall_const]
 obtain ⟨r1,r2⟩:=GO hs k
 refine⟨s,⟨rfl,fun _ _=>rfl⟩,fun e=>absurd e (by rw[hs];simp),fun _=>⟨fun e=>absurd e (by omega),fun _=>⟨⟨by omega,by omega,by omega⟩,⟨by omega,by omega,by omega⟩,s.take k,⟨⟨by rw[List.length_take];omega,fun i hi=>?_⟩,r1⟩,s.drop k,⟨⟨by rw[List.length_drop],fun i hi=>?_⟩,r2⟩,rfl,rfl⟩⟩⟩
 ·rw[Nat.zero_add,Ti _ (by omega)]
 ·rw[Bbb]
def Bac(s:List Int):Con:=fun k ds _S=>match k with
 |29=>some ((sCi 9 s).fits () (ds=[isl s .any]))
 |_=>none
theorem MR{s:List Int}:ConOk Try.prog (Bac s):=by
 intro k ds S A hh
 unfold Bac at hh
 split at hh
 ·injection hh with hh;subst hh
  exact FnSpec.fits_ok (fun _ hy=>UV _ _ hy) fun e=>by rw[e];exact⟨Bh _,Eh S⟩
 ·cases hh
noncomputable def Eex(s:List Int):Senv:={ EC (Bac s) 48 5 [8,9,10,29] (fun id=>match id with | 6=>([0,1,2,4,3,5,6,7,8],[3,5,6,8]) | 7=>([0,1,2,3,4,5],[3,5]) | _=>([],[])) with
 gr:=[.cell 1 4] }
def QA(a:Arr):Nat:=LN (Arr.sh a)
def KD(a:Arr):Int:=(NI (QA a))
def Qav(a:Arr)(b:List Int):Bool:=bif KD a==Z0 then (LI b)==KD a else false
def Js(a:Arr)(b:Nat):List D:=[ZI (GI (Arr.sh a) b)]
def Qaw(a:Arr):D:=D.sl N1 (QA a) (fun i=>Js a i) Mode.any
def Qf4(a:Arr):List D:=[Qaw a]
def Qf5(a:Arr):Prop:=Arr.sh a≠[]/\QA a<=1000000
def YF(a:Arr)(b:Nat):Prop:=QA a<=b
def YG(a:Nat)(b:Arr):Prop:=a<QA b
def Qf6(a:Arr)(b c:Nat):List D:=BA (fun i=>Js a i) (Int.toNat (↑b:Int)) [ZI Z1] c
def Qax(a:D):Bool:=match a with | D.unk=>false | D.agg _cs=>false | D.tup _ds=>false | _x=>true
def Qay(a:Arr):Prop:=SM (Arr.k a)
def Qf7(a:Arr):Prop:=SM (QA a)
def YH(a:Arr):Prop:=Qf7 a/\(∀(i:Nat),YG i a->SM (Js a i))/\True
def Qaz(a:Arr):Nat:=LN (Arr.nu a)
def Qf8(a:Arr)(b:Nat):List D:=[ZI (GI (Arr.nu a) b)]
def QaA(a:Arr):Prop:=SM (Qaz a)/\(∀(i:Nat),i<Qaz a->SM (Qf8 a i))/\True
def QaB(a:Arr):Nat:=LN (Arr.it a)
def Qf9(a:Arr)(b:Nat):List D:=Arr.row (GA (Arr.it a) b)
def QaC(a:Arr):Prop:=SM (QaB a)/\(∀(i:Nat),i<QaB a->SM (Qf9 a i))/\True
def QaD(a:Arr):Prop:=SM (Qf4 a)/\Qf5 a
def Ql2(a:Arr):D:=D.agg [ZI (Arr.k a),Qaw a,D.sl N1 (Qaz a) (fun i=>Qf8 a i) Mode.any,D.sl N4 (QaB a) (fun i=>Qf9 a i) Mode.any]
def VX(a:Nat)(b:Arr):Prop:=SM a/\SM (Ql2 b)
def KQ(a:Arr):Nat:=QA a+N1
def Qga(a:Arr)(b:Nat):List D:=Bp (QA a) (fun i=>Js a i) (fun i=>List.getD [[ZI Z1]] i []) b
def Qgb(a:Nat)(b:Arr)(c d e f:Nat):Prop:=VX a b/\Z0<=(↑c:Int)/\(↑c:Int)<=KD b/\(↑c:Int)<(↑d:Int)/\ifB ((↑c:Int)==KD b) (SM e/\SM d/\Bc (QA b<=QA b/\KQ b*8<=140737488355328/\KQ b<=9223372036854775807) (∀(y cap':Nat),KQ b<=cap'->True/\VX a b/\SM f/\SM y/\SM cap'/\Bc (KQ b<=KQ b) ((∀(i:Nat),i<KQ b->(List.all (Qga b i) fun (x:D)=>Qax x)=true)/\∀(_t:Nat),(SM f/\True)/\∃(_y:Unit),True/\(Qay b/\YH b/\QaA b/\QaC b/\(KQ b=QA b/\(∀(i:Nat),i<KQ b->Qga b i=Js b i)/\True)/\True)/\True/\True))) False
theorem Bcv(a:Arr)(like:List Int)(ax:Nat)(hs:a.sh≠[]/\a.sh.length<=8):CD 37 [.agg a.row1,isl like .any,.int .i64 (a.sh.length:Nat),.int .i64 ax] (exD a a.sh):=by
 refine Bo (A:=sC _ _) (x:=()) (E:=Eex a.sh) (eOk MR rfl) Try.func37 rfl (by kernel_rfl) rfl (by simp[sC,Eex,EC,E0]) ?_
 refine Bu (T :=
  ∀(x:Nat),True->∀(x_1:Nat),x≠x_1/\True->(SM x/\ifB (KD a==Z0) (((LI like)==KD a)=Qav a like/\True) (false=Qav a like/\True))/\ifB (Qav a like) (([SI like]=Qf4 a/\Qf5 a)/\∀(y:Nat×Nat),YF a y.2->Bc (Z0<=(↑ax:Int)/\(↑ax:Int)<KD a) (SM y.1/\Bc (Int.toNat (↑ax:Int)<QA a) (SM x/\SM x_1/\SM y.1/\SM y.2/\Bc (QA a<=QA a) ((∀(i:Nat),YG i a->(List.all (Qf6 a ax i) fun (x:D)=>Qax x)=true)/\∀(t:Nat),(SM x_1/\True)/\∃(y:Unit),True/\(Qay a/\YH a/\QaA a/\QaC a/\(Qf7 a/\(∀(i:Nat),YG i a->Qf6 a ax i=Js a i)/\True)/\True)/\True/\True)))) (SM x/\ifB (decide (KD a<KD a)) (SM x/\SM x/\(QaD a/\∀(y:Nat×Nat),YF a y.2->VX x a/\Qgb x a ax y.2 y.1 x_1)/\(SM x/\SM (Qaw a))/\VX x a/\QaD a/\∀(y:Nat×Nat),YF a y.2->Qgb x a ax y.2 y.1 x_1) (SM x/\SM x/\QaD a/\∀(y:Nat×Nat),YF a y.2->VX x a/\SM x_1/\SM y.1/\SM y.2/\Bc (QA a<=QA a) ((∀(i:Nat),YG i a->(List.all (Js a i) fun (x:D)=>Qax x)=true)/\∀(t:Nat),(SM x_1/\True)/\∃(y:Unit),True/\(Qay a/\YH a/\QaA a/\QaC a/\YH a/\True)/\True/\True)))) (by kernel_rfl) ?_
 delta DA GA GI LI LN N1 N4 NI SI SM Z0 Z1 ZI QA Qf6 Qax Qay Qf7 YH Qaz Qf8 QaA QaB Qf9 KD QaC QaD Ql2 VX KQ Qga Qgb Qav Js Qaw Qf4 Qf5 YF YG
 have da:(default:Arr)=Arr.mk 0 [] [] []:=rfl
 simp only[<- da]
 simp only[ne_eq,implies_true,Int.toNat_natCast,Bl,Be,decide_eq_true_eq,decide_eq_false_iff_not,true_and,and_true,beq_iff_eq,beq_eq_false_iff_ne,exists_const,forall_const]
 have hsl:0<a.sh.length:=List.length_pos_iff.2 hs.1
 have e0:((a.sh.length:Int)==0)=false:=beq_eq_false_iff_ne.2 (by omega)
 simp only[e0,cond_false]
 exact fun y y1 _=>⟨⟨fun e=>absurd e (by omega),fun _=>trivial⟩,fun e=>absurd e (by simp),fun _=>⟨fun e=>absurd e (by omega),fun _=>⟨⟨hs.1,by omega⟩,fun y hy=>⟨Nat.le_refl _,fun _ _=>rfl⟩⟩⟩⟩
def Wz(xs:List D)(q:Arr×List Int×Nat×Nat):Prop :=
 wkL [.agg xs] [.agg [.int .i64 q.1.k,isl q.1.sh .any,isl q.1.nu .any,gsl 4 Arr.row q.1.it,isl q.2.1 .any]]/\q.1.sh≠[]/\(∀b∈q.1.it,(Bj b).1=0)/\q.2.2.1*q.2.2.2+q.2.2.2<=(if q.1.k=3 then q.1.it.length else q.1.nu.length)/\q.1.nu.length<=1000000/\q.1.it.length<=1000000
def U4(q:Arr×List Int×Nat×Nat)(x y:Nat)(i n:Int):Prop:=y=x/\i=q.2.2.1/\n=q.2.2.2
def _root_.Go.Ab.inlA(k:Nat)(ds:List D)(S:St)(R:AEnd->St->Prop):Prop :=
 match Nat.beq k 41 with
 |true=>match ds with
  | [.agg xs,.ref _ x 0,.int .i64 i,.int .i64 n]=>match S with
   |⟨(k1,z,oz)::(_,y,.cells [kk,sd,.sl 1 p f (.tok kt t),itd])::rest,(ku,u)::tr⟩=>match itd with
    |.sl 1 0 _ .nil=>chk (Nat.beq kt 1&&Nat.beq ku 1) (∃q : Arr×List Int×Nat×Nat, (Wz xs q /\ U4 q x y i n /\ u=t /\ p<=1000000) /\
      (q.1.k≠3->∀u',R (.ret (.tup [])) ⟨(k1,z,oz)::(17,y,.cells [kk,sd,.sl 1 (p+q.2.2.2) (Bp p f (nuS q.1.nu (q.2.2.1*q.2.2.2))) (.tok 1 u'),nlS])::rest,(1,u')::tr⟩) /\
      (q.1.k=3->q.2.2.2=0->R (.ret (.tup [])) ⟨(k1,z,oz)::(17,y,.cells [kk,sd,.sl 1 p f (.tok 1 t),nlS])::rest,(1,u)::tr⟩) /\
      (q.1.k=3->0<q.2.2.2->∀v c,q.2.2.2<=c->R (.ret (.tup [])) ⟨(k1,z,oz)::(17,y,.cells [kk,sd,.sl 1 p f (.tok 1 t),.vs 99 v q.2.2.2 c 4])::(99,v,.vec 4 q.2.2.2 c (itS q.1.it (q.2.2.1*q.2.2.2)))::rest,(1,u)::tr⟩))
    |.vs _ v len cap 4=>match rest with
     |(_,v1,.vec 4 len1 cap1 g)::rest1=>chk (Nat.beq kt 1&&Nat.beq ku 1) (∃q:Arr×List Int×Nat×Nat,(Wz xs q/\U4 q x y i n/\u=t/\v1=v/\len1=len/\cap1=cap/\len<=1000000/\len<=cap/\q.1.k=3) /\
      ∀v2 c,len+q.2.2.2<=c->R (.ret (.tup [])) ⟨(k1,z,oz)::(17,y,.cells [kk,sd,.sl 1 p f (.tok 1 t),.vs 99 v2 (len+q.2.2.2) c 4])::(99,v2,.vec 4 (len+q.2.2.2) c (Bp len g (itS q.1.it (q.2.2.1*q.2.2.2))))::rest1,(1,u)::tr⟩)
     |_=>False
    |_=>False
   |_=>False
  |_=>False
 |false=>False
theorem BX{k:Nat}{ds us:List D}{S S0 G:St}{R R0:AEnd->St->Prop}(h:ACalls Try.prog k us S0 R0)(hw:wkL ds us)(h1:StTo S (S0.add G))(h2:∀r S',R0 r S'->∃T,StTo (S'.add G) T/\R r T):ACalls Try.prog k ds S R :=
 (((h.wkArgs hw).frame G).from h1).to fun r S' ⟨S0',q1,q2⟩=>by rw[q2];exact h2 r S0' q1
theorem StTo.framed{S S':St}(h:StTo S S')(G:St):StTo (S.add G) (S'.add G):=by
 intro C F w H
 rw[St.add_assoc] at H ⊢
 exact h C (G.add F) w H
theorem GG{a b:Nat×Nat×AObj}{rest:List (Nat×Nat×AObj)}{t:Nat×Nat}{tr:List (Nat×Nat)}:StTo ⟨a::b::rest,t::tr⟩ (St.add ⟨[b],[t]⟩ ⟨a::rest,tr⟩):=by
 refine StTo.perm (r1:=[]) (r2:=[]) ?_ (by simp[St.add])
 simp only[St.add,List.map_cons,List.cons_append,List.nil_append,List.append_nil]
 exact List.Perm.swap _ _ _
theorem GB{a b:Nat×Nat×AObj}{rest:List (Nat×Nat×AObj)}{t:Nat×Nat}{tr:List (Nat×Nat)}:StTo (St.add ⟨[b],[t]⟩ ⟨a::rest,tr⟩) ⟨a::b::rest,t::tr⟩:=by
 refine StTo.perm (r1:=[]) (r2:=[]) ?_ (by simp[St.add])
 simp only[St.add,List.map_cons,List.cons_append,List.nil_append,List.append_nil]
 exact List.Perm.swap _ _ _
theorem Uj{a b c:Nat×Nat×AObj}{rest:List (Nat×Nat×AObj)}{t:Nat×Nat}{tr:List (Nat×Nat)}:StTo ⟨a::b::c::rest,t::tr⟩ (St.add ⟨[b,c],[t]⟩ ⟨a::rest,tr⟩):=by
 refine StTo.perm (r1:=[]) (r2:=[]) ?_ (by simp[St.add])
 simp only[St.add,List.map_cons,List.cons_append,List.nil_append,List.append_nil]
 exact (List.Perm.cons _ (List.Perm.swap _ _ _)).trans (List.Perm.swap _ _ _)
theorem Gq{a b c:Nat×Nat×AObj}{rest:List (Nat×Nat×AObj)}{t:Nat×Nat}{tr:List (Nat×Nat)}:StTo (St.add ⟨[b,c],[t]⟩ ⟨a::rest,tr⟩) ⟨a::b::c::rest,t::tr⟩:=by
 refine StTo.perm (r1:=[]) (r2:=[]) ?_ (by simp[St.add])
 simp only[St.add,List.map_cons,List.cons_append,List.nil_append,List.append_nil]
 exact (List.Perm.swap _ _ _).trans (List.Perm.cons _ (List.Perm.swap _ _ _))
theorem Gm{K x t t1:Nat}{kk sd nud nud2:D}{f:Nat->List D}(h:Bf nud nud2):StTo ⟨[(K,x,.cells [kk,sd,nud,.sl 1 0 f .nil])],[(t1,t)]⟩ ⟨[(17,x,.cells [kk,sd,nud2,nlS])],[(1,t)]⟩:=by
 refine StTo.posN ⟨⟨rfl,?_,trivial⟩,rfl,trivial⟩
 simp[B4,Br,Bf,Bd,Ba,Bw,nlS,h]
theorem Ig{K x t t1 k1:Nat}{kk sd nud nud2:D}(h:Bf nud nud2):StTo ⟨[(K,x,.cells [kk,sd,nud,nlS])],[(t1,t)]⟩ ⟨[(17,x,.cells [kk,sd,nud2,nlS])],[(k1,t)]⟩:=by
 refine StTo.posN ⟨⟨rfl,?_,trivial⟩,rfl,trivial⟩
 simp[B4,Br,Bd,nlS,h]
theorem I1{K K2 K3 x t t1 t2 k1 k2 v len cap:Nat}{g:Nat->List D}{kk sd nud nud2:D}(h:Bf nud nud2):StTo ⟨[(K,x,.cells [kk,sd,nud,.vs k1 v len cap 4]),(K2,v,.vec 4 len cap g)],[(t1,t)]⟩ ⟨[(17,x,.cells [kk,sd,nud2,.vs k2 v len cap 4]),(K3,v,.vec 4 len cap g)],[(t2,t)]⟩:=by
 refine StTo.posN ⟨⟨rfl,?_,rfl,?_,trivial⟩,rfl,trivial⟩
 ·simp[B4,Br,Bf,Bd,Ba,h]
 ·simp[B4,Ba]
theorem wk4{a b i n m:D}{K K2 x:Nat}(h:wkL [a] [b])(e:n=m:=by rfl):wkL [a,.ref K x 0,i,n] [b,.ref K2 x 0,i,m]:=by
 subst e
 simp only[wkL] at h ⊢
 refine⟨h.1,?_,BE _,BE _,trivial⟩
 simp[wkD,Bf,Ba]
theorem CJ{a:Arr}{s:List Int}(h3:a.k=3):wkL [.agg [.int .i64 a.k,isl a.sh .any,isl a.nu .any,gsl 4 Arr.row a.it,isl s .any]] [.agg [.int .i64 3,isl a.sh .any,isl a.nu .any,gsl 4 Arr.row1 a.it,isl s .any]]:=by
 rw[h3]
 have:=Cy a
 simp only[Arr.row1,Arr.row2,wkL] at this
 refine⟨?_,trivial⟩
 simp only[wkD]
 refine⟨?_,this.2.1,this.2.2.1,this.2.2.2.1,?_⟩
 ·simp[wkD,Bf,kEq,Ba]
 ·exact Bg _
theorem Bd2(k:Nat)(ds:List D)(S:St)(R:AEnd->St->Prop)(h:Go.Ab.inlA k ds S R):ACalls Try.prog k ds S R:=by
 unfold Go.Ab.inlA at h
 split at h
 ·rename_i hk
  obtain rfl:=Nat.eq_of_beq_eq_true hk
  split at h
  ·split at h
   ·split at h
    ·obtain ⟨hc,q,⟨⟨w1,w2,w3,w4,w5,w6⟩,⟨e1,e2,e3⟩,e4,e5⟩,hN,h0,hB⟩:=Ba.1 h
     obtain ⟨a,s,i,n⟩:=q
     simp only at w1 w2 w3 w4 w5 w6 e2 e3 hN h0 hB
     subst e1 e2 e3 e4
     by_cases h3:a.k=3
     ·rw[if_pos h3] at w4
      by_cases hn:n=0
      ·subst hn
       refine BX ((Ben a s _ _ _ i _ _ w2).wkArgs (wk4 (CJ h3))) (wk4 (K2:=17) w1) (StTo.trans GG (StTo.framed (Gm (Bd _)) _)) ?_
       rintro r S' ⟨_,_,rfl,rfl⟩
       exact⟨_,StTo.trans (StTo.framed (Ig (by simp[Bf,Ba,Bw])) _) GB,h0 h3 rfl⟩
      ·refine BX ((Beb a s _ _ _ i n _ _ ⟨w3,w2,w4,w6,by omega⟩).wkArgs (wk4 (CJ h3))) (wk4 (K2:=17) w1) (StTo.trans GG (StTo.framed (Gm (Bd _)) _)) ?_
       rintro r S' ⟨y,hy,rfl,rfl⟩
       exact⟨_,StTo.trans (StTo.framed (I1 (by simp[Bf,Ba,Bw])) _) Gq,hB h3 (by omega) y.1 y.2 hy⟩
     ·rw[if_neg h3] at w4
      rename_i f kt rest ku u tr itd f0
      refine BX (Bef a s _ _ i n _ _ f u ⟨h3,w2,w4,w5,e5⟩) (wk4 (K2:=17) w1) (StTo.trans GG (StTo.framed (Gm (by simp[Bf,Ba,Bw])) _)) ?_
      rintro r S' ⟨y,hy,rfl,rfl⟩
      exact⟨_,StTo.trans (StTo.framed (Ig (Bd _)) _) GB,hN h3 y⟩
    ·split at h
     ·obtain ⟨hc,q,⟨⟨w1,w2,w3,w4,w5,w6⟩,⟨e1,e2,e3⟩,e4,e5,e6,e7,e8,e9,h3⟩,hB⟩:=Ba.1 h
      obtain ⟨a,s,i,n⟩:=q
      simp only at w1 w2 w3 w4 w5 w6 e2 e3 hB h3
      subst e1 e2 e3 e4 e5 e6 e7
      rw[if_pos h3] at w4
      refine BX ((Bd9 a s _ _ _ i n _ _ _ _ _ _ ⟨w3,w2,w4,w6,e8,e9⟩).wkArgs (wk4 (CJ h3))) (wk4 (K2:=17) w1) (StTo.trans Uj (StTo.framed (I1 (Bd _)) _)) ?_
      rintro r S' ⟨y,hy,rfl,rfl⟩
      exact⟨_,StTo.trans (StTo.framed (I1 (by simp[Bf,Ba,Bw])) _) Gq,hB y.1 y.2 hy⟩
     ·exact h.elim
    ·exact h.elim
   ·exact h.elim
  ·exact h.elim
 ·exact h.elim
theorem evA{con:Con}(hc:ConOk Try.prog con){E:Senv}(h:E={ EC con E.n E.V E.cross E.ord with gh:=E.gh,gr:=E.gr,unr:=E.unr,cut:=E.cut,ann:=E.ann,cut2:=E.cut2,ann2:=E.ann2,own:=E.own,gz:=E.gz,mg:=E.mg,pvt:=E.pvt,bcut:=E.bcut,bd:=E.bd,inl:=Go.Ab.inlA }):EnvOk E:=by
 rw[h]
 exact⟨Me,hc,mix,Bd2,Mi⟩
def riP(x y:Arr)(ds:List D):Prop:=∃b,(b=x\/b=y)/\wkL ds [.agg b.row1]
def exP(x y:Arr)(cs:List D)(lk:D)(rk ax:Int):Prop:=∃b,(b=x\/b=y)/\cs=[.int .i64 b.k,isl b.sh .any,isl b.nu .any,gsl 4 Arr.row b.it]/\(∃l,wkL [lk] [isl l .any])/\rk=(b.sh.length:Nat)/\∃n:Nat,ax=n
def shP(s:List Int)(ds:List D):Prop:=wkL ds [isl s .any]
def rwP(s:List Int)(d:D):Prop:=wkL [d] [isl s .any]
def Wj(x y:Arr)(s:List Int):Con:=fun k ds S=>match k with
 |21=>some (pA ds S (.int .i64 0) (riP x y ds))
 |37=>match ds with
  | [.agg [c0,c1,c2,c3],lk,.int .i64 rk,.int .i64 ax]=>some (pA ds S (.agg [c0,c1,c2,c3,c1]) (exP x y [c0,c1,c2,c3] lk rk ax))
  |_=>none
 |29=>some ((sCi 17 x.sh).fits () (ds=[isl x.sh .any]))
 |38=>some (pA ds S (.bool true) (shP s ds))
 |39=>some (pE (β:=Arr) ds S (fun b=>.int .i64 (wtA b)) (fun b=>ds=[exD b b.sh]/\(b=x\/b=y)))
 |40=>match ds with
  | [d,.int .i64 fr]=>match Nat.beq fr.toNat 0 with
   |true=>some (pA ds S (.tup [.int .i64 1,.int .i64 (prL (shN s):Nat)]) (rwP s d/\fr=0))
   |false=>some (pA ds S (.tup [.int .i64 (prL (shN (s.take 1)):Nat),.int .i64 (prL (shN (s.drop 1)):Nat)]) (rwP s d/\fr=1))
  |_=>none
 |_=>none
structure JoH (x y:Arr) (s:List Int):Prop where
 hx:(Bj x).1=0
 hy:(Bj y).1=0
 ox:x.ok
 oy:y.ok
 hk:x.k=y.k
 nx:x.sh≠[]
 ny:y.sh≠[]
 ht:x.sh.tail=y.sh.tail
 hs:s=(x.sh.headD 0+y.sh.headD 0)::x.sh.tail
 hr:Bi s=true
 hw:wtA x+wtA y<=262144
theorem JoH.r8{x y:Arr}{s:List Int}(h:JoH x y s):Bi x.sh=true/\Bi y.sh=true:=⟨(Bs.1 (By h.hx)).2.1,(Bs.1 (By h.hy)).2.1⟩
theorem BbH{x y:Arr}{s:List Int}(h:JoH x y s):ConOk Try.prog (Wj x y s):=by
 intro k ds S A hh
 obtain ⟨rx,ry⟩:=h.r8
 have lx:=((Bk _).1 rx).1
 have ly:=((Bk _).1 ry).1
 unfold Wj at hh
 split at hh
 ·injection hh with hh;subst hh
  refine BD fun ⟨b,hb,e⟩=>CD.at_ (CD.wk ?_ e) _
  obtain rfl | rfl:=hb
  ·have:=GD _ h.ox
   rw[h.hx] at this;exact this
  ·have:=GD _ h.oy
   rw[h.hy] at this;exact this
 ·split at hh
  ·injection hh with hh;subst hh
   refine BD ?_
   rintro ⟨b,hb,e,⟨l,hl⟩,rfl,n,rfl⟩
   injection e with e0 e
   injection e with e1 e
   injection e with e2 e
   injection e with e3 e
   subst e0 e1 e2 e3
   refine CD.at_ (CD.wk (Bcv b l n ?_) ?_) _
   ·obtain rfl | rfl:=hb
    ·exact⟨h.nx,lx⟩
    ·exact⟨h.ny,ly⟩
   ·simp only[wkL] at hl ⊢
    exact⟨BE _,hl.1,BE _,BE _,trivial⟩
  ·cases hh
 ·injection hh with hh;subst hh
  exact FnSpec.fits_ok (fun _ hy=>UV _ _ hy) fun e=>by rw[e];exact⟨Bh _,Eh S⟩
 ·injection hh with hh;subst hh
  refine BD fun e=>CD.at_ (CD.wk ?_ e) _
  have:=Gb s
  rw[h.hr] at this;exact this
 ·injection hh with hh;subst hh
  refine Ce fun b ⟨e,hb⟩=>CD.at_ ?_ _
  rw[e]
  refine Bdi b b.sh ?_ ?_
  ·obtain rfl | rfl:=hb
   ·exact h.ox
   ·exact h.oy
  ·obtain rfl | rfl:=hb
   ·exact h.nx
   ·exact h.ny
 ·split at hh
  ·split at hh
   ·injection hh with hh;subst hh
    refine BD fun ⟨e,e2⟩=>CD.at_ (CD.wk (Wn s 0 h.hr (Nat.zero_le _)) ?_) _
    rw[e2]
    simp only[rwP,wkL] at e ⊢
    exact⟨e.1,BE _,trivial⟩
   ·injection hh with hh;subst hh
    refine BD fun ⟨e,e2⟩=>CD.at_ (CD.wk (Wn s 1 h.hr (by rw[h.hs];simp)) ?_) _
    rw[e2]
    simp only[rwP,wkL] at e ⊢
    exact⟨e.1,BE _,trivial⟩
  ·cases hh
 ·cases hh
def exO(a:Arr)(s:List Int):AObj:=.cells [.int .i64 a.k,isl a.sh .any,isl a.nu .any,gsl 4 Arr.row a.it,isl s .any]
theorem EI{a:Arr}(h:(Bj a).1=0):∀b∈a.it,(Bj b).1=0:=by
 cases a with
 |mk k s n i=>exact (Cn h).2.2.2
theorem BeN{a:List Int}{z:Nat->List D}{n i:Nat}:Bp 0 z (nuS a (0*n)) i=[.int .i64 (a.getD i 0)]:=by
 unfold Bp nuS
 rw[if_neg (Nat.not_lt_zero i),Nat.zero_mul,Nat.zero_add,Nat.sub_zero]
theorem Bey{a b:List Int}{z:Nat->List D}{n m i:Nat}(h:a.length=n):Bp (0+n) (Bp 0 z (nuS a (0*n))) (nuS b (0*m)) i=[.int .i64 ((a++b).getD i 0)]:=by
 rw[Bp,BeN,Nat.zero_add]
 unfold nuS
 split
 ·rename_i hi
  rw[List.getD_eq_getElem?_getD,List.getD_eq_getElem?_getD,List.getElem?_append_left (by omega)]
 ·rw[List.getD_eq_getElem?_getD,List.getD_eq_getElem?_getD,List.getElem?_append_right (by omega),Nat.zero_mul,Nat.zero_add,h]
theorem Ru{a:List Arr}{n i:Nat}:itS a (0*n) i=(a.getD i default).row1:=by
 unfold itS
 rw[Nat.zero_mul,Nat.zero_add]
theorem BeO{a b:List Arr}{n m i:Nat}(h:a.length=n):Bp n (itS a (0*n)) (itS b (0*m)) i=((a++b).getD i default).row1:=by
 rw[Bp,Ru,Ru]
 split
 ·rename_i hi
  rw[List.getD_eq_getElem?_getD,List.getD_eq_getElem?_getD,List.getElem?_append_left (by omega)]
 ·rw[List.getD_eq_getElem?_getD,List.getD_eq_getElem?_getD,List.getElem?_append_right (by omega),h]
noncomputable def Ejo(x y:Arr)(s:List Int):Senv:={ EC (Wj x y s) 179 5 [6,7,8,9,10,11,12,13,14,15,16,17,18,19,20,21,22,30,38,45,68,86,87,88,105,129,163,164,165] (fun id=>match id with | 3=>([0,1,2,3,4,5,6,7],[]) | 12=>([0,1,2,3,4,6,7,8,9,10,5,11,12,13,14,15],[5,11,12,13,14,15]) | 17=>([0,1,2,3,4,5,6,7,8,9,10,11,12,13,14,15],[]) | 20=>([0,1,2,3,4,5,6,7,8,9,10,11],[11]) | 21=>([0,1,2,3,4,6,5,7,8,9,10],[1,5,7]) | 26=>([0,1,2,3,4,5,6,7,8,9,10,11,12,13,14,15,16],[15,16]) | _=>([],[])) with
 inl:=Go.Ab.inlA
 gz:=fun r=>match r with
  |21=>[.slot 14]
  |24=>[.cell 17 102]
  |_=>[]
 unr:=fun b=>match b with
  |3=>2
  |_=>0
 gr:=[.cell 2 403]
 cut:=fun id _env S=>match id with
  |12=>some { slots:=[12,13],keep:=[2,3,4,6,7,8,9,10,11],α:=Nat×Nat,st:=fun b=>([.ref 15 b.1 0,.ref 16 b.2 0],⟨(16,b.2,exO y y.sh)::(15,b.1,exO x x.sh)::S.objs,S.toks⟩),inv:=fun _=>True,mu:=fun _=>0 }
  |_=>none
 ann:=fun b _env S=>match b with
  |1=>some { slots:=[87],keep:=[2,3,4,6,7,8,9,10,11,12,13,14,86],α:=Nat,st:=fun i=>([.int .i64 i],S),inv:=fun i=>i<=x.sh.length,mu:=fun i=>x.sh.length-i }
  |_=>none }
def KR(a:Arr):Int:=Arr.k a
def JT(a:Arr):List Int:=Arr.sh a
def Qp(a:Arr):Nat:=LN (JT a)
def YI(a:Arr)(b:Nat):List D:=[ZI (GI (JT a) b)]
def JU(a:Arr):D:=D.sl N1 (Qp a) (fun i=>YI a i) Mode.any
def QaE(a:Arr):Nat:=LN (Arr.nu a)
def Qgc(a:Arr)(b:Nat):List D:=[ZI (GI (Arr.nu a) b)]
def Qgd(a:Arr):D:=D.sl N1 (QaE a) (fun i=>Qgc a i) Mode.any
def JV(a:Arr):List Arr:=Arr.it a
def QaF(a:Arr):Nat:=LN (JV a)
def QaG:Arr:=DA
def Qge(a:Arr)(b:Nat):List D:=Arr.row (List.getD (JV a) b QaG)
def Qgf(a:Arr):D:=D.sl N4 (QaF a) (fun i=>Qge a i) Mode.any
def QaH(a:Arr):List D:=[ZI (KR a),JU a,Qgd a,Qgf a]
def Qgg(a:Arr):D:=D.agg (QaH a)
def Qgh(a:Arr):List D:=[Qgg a]
def Kf(a:Nat):Prop:=SM a/\True
def Qgi(a b:Arr)(c:Nat):List D:=[ZI (GI (Arr.sh (joA a b)) c)]
def QaI(a b:Arr):Nat:=LN (Arr.nu (joA a b))
def QaJ(a b:Arr)(c:Nat):List D:=[ZI (GI (Arr.nu (joA a b)) c)]
def QaK(a b:Arr):Prop:=N0=QaI a b/\(∀(i:Nat),i<N0->Cr (List D) [] (QaJ a b i))/\True
def QaL(a b:Arr):Nat:=LN (Arr.it (joA a b))
def YJ(a b:Arr)(c:Nat):Arr:=List.getD (Arr.it (joA a b)) c QaG
def Ql3(a b:Arr)(c:Nat):List Int:=Arr.sh (YJ a b c)
def Ql4(a b:Arr)(c:Nat):List Int:=Arr.nu (YJ a b c)
def Qgj(a b:Arr)(c:Nat):List Arr:=Arr.it (YJ a b c)
def QaM(a b:Arr)(c:Nat):List D:=[ZI (Arr.k (YJ a b c)),SI (Ql3 a b c),SI (Ql4 a b c),D.sl N4 (LN (Qgj a b c)) (fun i=>Arr.row (List.getD (Qgj a b c) i QaG)) Mode.any]
def QaN(a b:Arr):Prop:=(N0=QaL a b/\(∀(i:Nat),i<N0->Cr (List D) [] (QaM a b i))/\True)/\True
def Qgk(a b:Arr):Prop:=QaK a b/\QaN a b
def YK(a b:Arr):Prop:=Z0=Arr.k (joA a b)/\(N0=LN (Arr.sh (joA a b))/\(∀(i:Nat),i<N0->Cr (List D) [] (Qgi a b i))/\True)/\Qgk a b
def QJ(a:Arr):Int:=(NI (Qp a))
def YL(a:Arr):Bool:=decide (Z0<QJ a)
def YM(a b:Arr):Bool:=decide (IntKind.wrap IntKind.i64 (QJ a+Z1)<QJ b)
def YN(a b:Arr):Bool:=bif bif YL a then YL b else false then bif YM b a then true else YM a b else false
def Qgl(a b:Arr):Prop:=false=YN a b/\True
def Qgm(a:Arr):Int:=if Z1<QJ a then QJ a else Z1
def YO(a b:Arr):Int:=if Qgm a<QJ b then QJ b else Qgm a
def YP(a b:Arr):Prop:=exP a b (QaH a) (JU b) (YO a b) Z0
def Q2(a:Nat)(b:Arr):Prop:=SM a/\SM (JU b)
def Kg(a:Nat)(b:Arr):Prop:=SM a/\SM (Qgg b)
def YQ(a b:Arr):Prop:=exP a b (QaH b) (JU a) (YO a b) Z0
def Jt(a b c d:Nat):Prop:=a≠b/\c≠b/\d≠b/\True
def KS(a b c d e:Nat):Prop:=a≠b/\Jt c b d e
def Qgn(a:Arr):Prop:=SM (KR a)
def Qgo(a:Arr):Prop:=SM (Qp a)
def Qgp(a:Arr):Prop:=∀(i:Nat),i<Qp a->SM (YI a i)
def QaO(a:Arr):Prop:=Qgo a/\Qgp a/\True
def Qgq(a:Arr):Prop:=SM (QaE a)/\(∀(i:Nat),i<QaE a->SM (Qgc a i))/\True
def Qgr(a:Arr):Prop:=SM (QaF a)/\(∀(i:Nat),i<QaF a->SM (Qge a i))/\True
def QaP(a:Arr):Prop:=Qgn a/\QaO a/\Qgq a/\Qgr a/\QaO a/\True
def QaQ:Prop:=SM N0/\(∀(i:Nat),i<N0->Cr (List D) [] [])/\True
def Qgs(a:Arr):Prop:=Qgn a/\QaO a/\Qgq a/\Qgr a/\True
def Qgt(a:Arr)(b c:Nat)(d:Arr)(e:Nat):Prop:=QaP a/\SM b/\(SM Z0/\QaQ/\QaQ/\QaQ/\True)/\SM c/\Qgs d/\SM e/\Qgs a/\True
def QaR(a b:Nat)(c d:Arr)(e f g:Nat):Prop:=SM a/\SM b/\∃(x:Nat×Nat),True/\(a=x.1/\b=x.2/\True)/\(b=x.2/\QaP c/\a=x.1/\Qgt d e f c g)/\True
def Qgu(a b c d:Nat)(e f:Arr):Prop:=∀(x:Nat),KS a x b c d->QaR a x e f b c d
def Qgv(a b c d:Nat)(e f:Arr):Prop:=∀(x:Nat),KS a x b c d->QaR x a e f b c d
def QaS(a:Nat)(b:Arr)(c:Nat)(d:Arr)(e f g:Nat):Prop:=Q2 a b/\Kg c d/\∃(_x:Unit),YQ b d/\∀(_y:Unit),True->QaR e f d b g c a
def Qgw(a:Nat)(b:Arr)(c:Nat)(d:Arr)(e f:Nat):Prop:=Q2 a b/\Kg c d/\(∃(_x:Unit),YQ b d/\∀(_y:Unit),True->Qgu e f c a d b)/\∀(x:Nat),KS e x f c a->QaS a b c d e x f
def Qgx(a:Nat)(b:Arr)(c:Nat)(d:Arr)(e f:Nat):Prop:=Q2 a b/\Kg c d/\(∃(_x:Unit),YQ b d/\∀(_y:Unit),True->Qgv e f c a d b)/\∀(x:Nat),KS e x f c a->QaS a b c d x e f
def Qgy(a:Nat)(b:Arr)(c:Nat)(d:Arr)(e f g:Nat):Prop:=Q2 a b/\Kg c d/\Q2 c d/\Kg a b/\∃(_x:Unit),YP b d/\∀(_y:Unit),True->QaS a b c d e f g
def Qgz(a:Arr):List D:=[JU a]
def QgA(a:Nat)(b:Arr)(c d:Nat)(e:Arr)(f g h k:Nat):Prop:=(SM a/\(Qgo b/\SM c/\Qgp b)/\SM d/\QaP e/\SM f/\Qgt b g h e k)/\True
def QgB(a:Arr)(b:Nat)(c:Arr):Bool:=GI (JT a) (Int.toNat (↑b:Int)) != GI (JT c) (Int.toNat (↑b:Int))
def QaT(a:Nat)(b c:Arr):Bool:=bif (↑a:Int) != Z0 then QgB b a c else false
def QgC(a:Arr):Prop:=SM (ZI (QJ a))
def Ql5(a b:Arr):D:=ZI (YO a b)
def QgD(a b:Arr):Prop:=SM (Ql5 a b)
def QaU(a:Arr):Int:=GI (JT a) N0
def QgE(a b:Arr):List D:=[ZI (IntKind.wrap IntKind.i64 (QaU a+QaU b))]
def QgF(a b:Arr)(c:Nat):List D:=BA (fun i=>YI a i) N0 (QgE a b) c
def QaV(a:D):Bool:=match a with | D.unk=>false | D.agg _cs=>false | D.tup _ds=>false | _x=>true
def QgG(a b:Arr)(c:Nat):D:=D.sl N1 (Qp a) (BA (fun i=>YI a i) N0 (QgE a b)) (Mode.tok N0 c)
def QgH(a:Arr):List D:=ZI (KR a)::JU a::Qgd a::Qgf a::Qgz a
def QgI(a:Arr):D:=D.agg (QgH a)
def QgJ(a:Arr):List D:=[QgI a]
def QgK(a b:Arr):Prop:=QgJ a=QgJ b
def QgL(a:List Int)(b c:Arr)(d:Nat):Prop:=rwP a (QgG b c d)
def QaW(a:Arr)(b:Arr×List Int×Nat×Nat):Prop:=Wz (QgH a) b
def QaX(a:Arr×List Int×Nat×Nat)(b:Nat)(c:Arr)(d:List Int):Prop:=U4 a b b Z0 (IntKind.wrap IntKind.i64 (QaU c*(NI (prL (shN (List.drop N1 d))))))
def QgM(a:Arr)(b:Arr×List Int×Nat×Nat)(c:Nat)(d:List Int)(e:Nat):Prop:=QaW a b/\QaX b c a d/\SM e/\N0<=1000000
def QaY(a:Arr):Prop:=KR a≠3
def JW(a b:Arr):Prop:=KR a=Arr.k (joA a b)
def JX(a b:Arr):Prop:=Qp a=LN (Arr.sh (joA a b))/\(∀(i:Nat),i<Qp a->QgF a b i=Qgi a b i)/\True
def JY:Prop:=SM Z0/\True
def Ju(a:Arr):Prop:=KR a=3
def QgN(a:Nat)(b c d:Arr)(e:Nat):Prop:=N0+a=QaI b c/\(∀(i:Nat),i<N0+a->Bp N0 (fun _x=>[]) (nuS (Arr.nu d) (e*a)) i=QaJ b c i)/\True
def QgO(a b:Nat)(c d:Arr)(e:Nat)(f:Arr)(g:Nat):Prop:=SM a/\SM b/\∀(_t:Nat),Kf b/\∃(_y:Unit),True/\((JW c d/\JX c d/\QgN e c d f g/\QaN c d)/\JY)/\True/\True
def QgP(a:Nat)(b:Arr)(c:Nat):Prop:=∀(i:Nat),i<a->(List.all (itS (JV b) (c*a) i) fun (x:D)=>QaV x)=true
def QgQ(a:Nat)(b c d:Arr)(e:Nat):Prop:=(a=QaL b c/\(∀(i:Nat),i<a->itS (JV d) (e*a) i=QaM b c i)/\True)/\True
def QgR(a:Nat)(b:Arr)(c:Nat)(d:Arr)(e f g:Nat):List D:=Bp a (itS (JV b) (c*a)) (itS (JV d) (e*f)) g
theorem Bfl(x y:Arr)(s:List Int)(h:JoH x y s):CD 20 [.agg x.row1,.agg y.row1,.bool false] (.tup [.agg (joA x y).row2,.int .i64 0]):=by
 refine Bo (A:=sC _ _) (x:=()) (E:=Ejo x y s) (evA (BbH h) rfl) Try.func20 rfl (by kernel_rfl) rfl (by simp[sC,Ejo,EC,E0]) ?_
 refine Bu (T :=
  ∀(x_1:Nat),True->∀(x_2:Nat),x_1≠x_2/\True->∀(x_3:Nat),x_2≠x_3/\x_1≠x_3/\True->SM x_1/\∃(x_4:Unit),riP x y (Qgh x)/\∀(y_1:Unit),True->SM x_2/\∃(x_5:Unit),riP x y (Qgh y)/\∀(y_2:Unit),True->SM x_1/\SM x_2/\SM x_1/\SM x_2/\ifB (KR x != KR y) (SM x_3/\∀(t:Nat),Kf x_3/\∃(y_3:Unit),True/\(YK x y/\(14:Int)=Z0/\True)/\True/\True) (ifB (YL x) (ifB (YL y) (ifB (YM y x) (true=YN x y/\True) (YM x y=YN x y/\True)) (Qgl x y)) (Qgl x y)/\ifB (YN x y) (SM x_3/\∀(t:Nat),Kf x_3/\∃(y_3:Unit),True/\(YK x y/\(15:Int)=Z0/\True)/\True/\True) ((SM x_1/\SM x_2/\SM x_2/\SM x_1/\(∃(x_6:Unit),YP x y/\∀(y_3:Unit),True->Q2 x_1 x/\Kg x_2 y/\(∃(x_7:Unit),YQ x y/\∀(y_4:Unit),True->(∀(x_8:Nat),Jt x_3 x_8 x_2 x_1->Qgu x_8 x_3 x_2 x_1 y x)/\∀(x_8:Nat),Jt x_3 x_8 x_2 x_1->Qgv x_8 x_3 x_2 x_1 y x)/\(∀(x_7:Nat),Jt x_3 x_7 x_2 x_1->Qgw x_1 x x_2 y x_7 x_3)/\∀(x_7:Nat),Jt x_3 x_7 x_2 x_1->Qgx x_1 x x_2 y x_7 x_3)/\(∀(x_6:Nat),Jt x_3 x_6 x_2 x_1->Q2 x_1 x/\Kg x_2 y/\Q2 x_2 y/\Kg x_1 x/\(∃(x_7:Unit),YP x y/\∀(y_3:Unit),True->Qgw x_1 x x_2 y x_6 x_3)/\∀(x_7:Nat),KS x_6 x_7 x_3 x_2 x_1->Qgy x_1 x x_2 y x_6 x_7 x_3)/\∀(x_6:Nat),Jt x_3 x_6 x_2 x_1->Q2 x_1 x/\Kg x_2 y/\Q2 x_2 y/\Kg x_1 x/\(∃(x_7:Unit),YP x y/\∀(y_3:Unit),True->Qgx x_1 x x_2 y x_6 x_3)/\∀(x_7:Nat),KS x_6 x_7 x_3 x_2 x_1->Qgy x_1 x x_2 y x_7 x_6 x_3)/\∀(x_6:Nat×Nat),True->SM x_6.1/\(SM (Qgz x)/\JT x≠[]/\Qp x<=1000000)/\∀(y_3:Nat×Nat),Qp x<=y_3.2->(∃(x_7:Nat),x_7<=Qp x/\(Z0=(↑x_7:Int)/\True)/\QgA y_3.1 x y_3.2 x_6.2 y x_6.1 x_3 x_2 x_1)/\∀(x_7:Nat),x_7<=Qp x->ifB (decide ((↑x_7:Int)<YO x y)) (ifB ((↑x_7:Int) != Z0) (SM x_6.1/\Bc (Z0<=(↑x_7:Int)/\(↑x_7:Int)<QJ x) (SM x_6.2/\Bc (Z0<=(↑x_7:Int)/\(↑x_7:Int)<QJ y) (QgB x x_7 y=QaT x_7 x y/\True))) (false=QaT x_7 x y/\True)/\ifB (QaT x_7 x y) (SM x_3/\∀(t:Nat),Kf x_3/\∃(y_4:Unit),True/\(YK x y/\(16:Int)=Z0/\True)/\True/\True) ((SM (D.bool false)/\SM (D.ref N0 x_1 N0)/\SM (D.ref (max (N0+N1) N0) x_2 N0)/\SM (D.ref (max (N1+N1) (max (N0+N1) N0)) x_3 N0)/\SM (ZI Z0)/\QgC x/\QgC y/\QgD x y/\SM (ZI Z0)/\SM (D.ref (15:Nat) x_6.1 N0)/\SM (D.ref (16:Nat) x_6.2 N0)/\SM (D.vs (17:Nat) y_3.1 (Qp x) y_3.2 N1)/\QgD x y/\True)/\∃(y_4:Nat),y_4<=Qp x/\Qp x-y_4<Qp x-x_7/\(IntKind.wrap IntKind.i64 ((↑x_7:Int)+Z1)=(↑y_4:Int)/\True)/\QgA y_3.1 x y_3.2 x_6.2 y x_6.1 x_3 x_2 x_1)) (Bc (Z0<=Z0/\Z0<QJ x) (SM y_3.1/\Bc (N0<Qp x) (SM x_6.2/\Bc (Z0<=Z0/\Z0<QJ y) (Bc (Z0<=Z0/\Z0<QJ x) (SM y_3.1/\Bc (N0<Qp x) (SM y_3.1/\SM y_3.2/\Bc (Qp x<=Qp x) ((∀(i:Nat),i<Qp x->(List.all (QgF x y i) fun (x:D)=>QaV x)=true)/\∀(t:Nat),∃(x_8:Unit),shP s [QgG x y t]/\∀(y_4:Unit),True->SM x_6.1/\SM x_6.2/\∃(x_9:Arr),(QgK x x_9/\(x_9=x\/x_9=y))/\∀(y_5:Unit),True->(SM x_6.2/\SM (QgI y))/\∃(x_10:Arr),(QgK y x_10/\(x_10=x\/x_10=y))/\∀(y_6:Unit),True->ifB (decide ((262144:Int)<IntKind.wrap IntKind.i64 (wtA x_9+wtA x_10))) (SM x_3/\∀(t:Nat),Kf x_3/\∃(y_7:Unit),True/\(YK x y/\(21:Int)=Z0/\True)/\True/\True) (SM x_1/\∀(x_11:Nat),x_6.2≠x_11/\KS x_6.1 x_11 x_3 x_2 x_1->SM x_11/\∀(t_1:Nat),∃(x_12:Unit),(QgL s x y t/\SM Z0)/\∀(y_7:Unit),True->∃(x_13:Unit),(QgL s x y t/\SM Z1)/\∀(y_8:Unit),True->SM x_6.1/\Bc (Z0<=Z0/\Z0<QJ x) (SM x_6.2/\Bc (Z0<=Z0/\Z0<QJ y) (∀(x_14:Nat),x_11≠x_14/\x_6.2≠x_14/\KS x_6.1 x_14 x_3 x_2 x_1->Q2 x_6.2 y/\Q2 x_6.1 x/\SM x_14/\SM x_6.1/\SM x_14/\∃(q:Arr×List Int×Nat×Nat),QgM x q x_11 s t_1/\(QaY q.1->∀(u':Nat),SM x_6.2/\SM x_14/\∃(q_1:Arr×List Int×Nat×Nat),(QaW y q_1/\QaX q_1 x_11 y s/\SM u'/\N0+q.2.2.2<=1000000)/\(QaY q_1.1->∀(u':Nat),SM x_11/\SM x_3/\∀(t:Nat),Kf x_3/\∃(y_9:Unit),True/\((JW x y/\JX x y/\(N0+q.2.2.2+q_1.2.2.2=QaI x y/\(∀(i:Nat),i<N0+q.2.2.2+q_1.2.2.2->Bp (N0+q.2.2.2) (Bp N0 (fun x=>[]) (nuS (Arr.nu q.1) (q.2.2.1*q.2.2.2))) (nuS (Arr.nu q_1.1) (q_1.2.2.1*q_1.2.2.2)) i=QaJ x y i)/\True)/\QaN x y)/\JY)/\True/\True)/\(Ju q_1.1->q_1.2.2.2=N0->QgO x_11 x_3 x y q.2.2.2 q.1 q.2.2.1)/\(Ju q_1.1->N0<q_1.2.2.2->∀(v c:Nat),q_1.2.2.2<=c->SM x_11/\SM x_3/\SM v/\SM c/\Bc (q_1.2.2.2<=q_1.2.2.2) (QgP q_1.2.2.2 q_1.1 q_1.2.2.1/\∀(t:Nat),Kf x_3/\∃(y_9:Unit),True/\((JW x y/\JX x y/\QgN q.2.2.2 x y q.1 q.2.2.1/\QgQ q_1.2.2.2 x y q_1.1 q_1.2.2.1)/\JY)/\True/\True)))/\(Ju q.1->q.2.2.2=N0->SM x_6.2/\SM x_14/\∃(q:Arr×List Int×Nat×Nat),QgM y q x_11 s t_1/\(QaY q.1->∀(u':Nat),QgO x_11 x_3 x y q.2.2.2 q.1 q.2.2.1)/\(Ju q.1->q.2.2.2=N0->SM x_11/\SM x_3/\∀(t:Nat),Kf x_3/\∃(y_9:Unit),True/\((JW x y/\JX x y/\Qgk x y)/\JY)/\True/\True)/\(Ju q.1->N0<q.2.2.2->∀(v c:Nat),q.2.2.2<=c->SM x_11/\SM x_3/\SM v/\SM c/\Bc (q.2.2.2<=q.2.2.2) (QgP q.2.2.2 q.1 q.2.2.1/\∀(t:Nat),Kf x_3/\∃(y_9:Unit),True/\((JW x y/\JX x y/\QaK x y/\QgQ q.2.2.2 x y q.1 q.2.2.1)/\JY)/\True/\True)))/\(Ju q.1->N0<q.2.2.2->∀(v c:Nat),q.2.2.2<=c->SM x_6.2/\SM x_14/\∃(q_1:Arr×List Int×Nat×Nat),(QaW y q_1/\QaX q_1 x_11 y s/\SM t_1/\SM v/\SM q.2.2.2/\SM c/\q.2.2.2<=1000000/\q.2.2.2<=c/\Ju q_1.1)/\∀(v2 c:Nat),q.2.2.2+q_1.2.2.2<=c->SM x_11/\SM x_3/\SM v2/\SM c/\Bc (q.2.2.2+q_1.2.2.2<=q.2.2.2+q_1.2.2.2) ((∀(i:Nat),i<q.2.2.2+q_1.2.2.2->(List.all (QgR q.2.2.2 q.1 q.2.2.1 q_1.1 q_1.2.2.1 q_1.2.2.2 i) fun (x:D)=>QaV x)=true)/\∀(t:Nat),Kf x_3/\∃(y_9:Unit),True/\((JW x y/\JX x y/\QaK x y/\(q.2.2.2+q_1.2.2.2=QaL x y/\(∀(i:Nat),i<q.2.2.2+q_1.2.2.2->QgR q.2.2.2 q.1 q.2.2.1 q_1.1 q_1.2.2.1 q_1.2.2.2 i=QaM x y i)/\True)/\True)/\JY)/\True/\True))))))))))))))) (by kernel_rfl) ?_
 delta DA GI LN N0 N1 N4 NI SI SM Z0 Z1 ZI KR JT QaG Qge Qgf QaH Qgg Qgh Kf Qgi QaI QaJ Qp QaK QaL YJ Ql3 Ql4 Qgj QaM QaN Qgk YK YI QJ YL YM YN Qgl Qgm YO YP Q2 Kg JU YQ Jt KS Qgn Qgo Qgp QaO Qgq Qgr QaP QaE QaQ Qgs Qgt QaR Qgu Qgv QaS Qgw Qgx Qgy Qgc Qgz QgA QgB QaT QgC Ql5 QgD QaU QgE QgF Qgd QaV QgG QgH QgI QgJ QgK QgL QaW QaX QgM JV QaY JW JX JY Ju QgN QgO QgP QgQ QgR QaF
 have da:(default:Arr)=Arr.mk 0 [] [] []:=rfl
 simp only[<- da]
 simp only[ne_eq,implies_true,Int.toNat_natCast,Bl,Be,decide_eq_true_eq,decide_eq_false_iff_not,true_and,and_true,bne_iff_ne,bne_eq_false_iff_eq,exists_const,forall_const,Prod.exists]
 obtain ⟨rx,ry⟩:=h.r8
 have lx:=((Bk _).1 rx).1
 have nx:0<x.sh.length:=List.length_pos_iff.2 h.nx
 have ny:0<y.sh.length:=List.length_pos_iff.2 h.ny
 have hl:y.sh.length=x.sh.length:=by
  have:=congrArg List.length h.ht
  rw[List.length_tail,List.length_tail] at this
  omega
 have hti:∀i:Nat,0<i->x.sh.getD i 0=y.sh.getD i 0:=fun i hi=>by
  obtain ⟨j,rfl⟩:∃j,i=j+1:=⟨i-1,by omega⟩
  have e1:x.sh.getD (j+1) 0=x.sh.tail.getD j 0:=by cases x.sh<;>simp
  have e2:y.sh.getD (j+1) 0=y.sh.tail.getD j 0:=by cases y.sh<;>simp
  rw[e1,e2,h.ht]
 have hrk:(if (if (1:Int)<(x.sh.length:Int) then (x.sh.length:Int) else 1)<(y.sh.length:Int) then (y.sh.length:Int) else if (1:Int)<(x.sh.length:Int) then (x.sh.length:Int) else 1)=(x.sh.length:Int):=by
  split<;>split<;>omega
 simp only[hrk]
 have w1:IntKind.i64.wrap ((y.sh.length:Int)+1)=(y.sh.length:Int)+1:=Bb (by omega) (by omega)
 have w2:IntKind.i64.wrap ((x.sh.length:Int)+1)=(x.sh.length:Int)+1:=Bb (by omega) (by omega)
 simp only[w1,w2]
 have hb:(bif bif decide (0<(x.sh.length:Int)) then decide (0<(y.sh.length:Int)) else false then bif decide ((y.sh.length:Int)+1<(x.sh.length:Int)) then true else decide ((x.sh.length:Int)+1<(y.sh.length:Int)) else false)=false:=by
  rw[decide_eq_false (show ¬((y.sh.length:Int)+1<(x.sh.length:Int)) by omega),decide_eq_false (show ¬((x.sh.length:Int)+1<(y.sh.length:Int)) by omega)]
  cases (bif decide (0<(x.sh.length:Int)) then decide (0<(y.sh.length:Int)) else false)<;>rfl
 have hb2:∀i:Nat,(bif ((i:Int) != 0) then x.sh.getD i 0 != y.sh.getD i 0 else false)=false:=fun i=>by
  by_cases hi:i=0
  ·subst hi;rfl
  ·rw[hti i (by omega)]
   cases ((i:Int) != 0)<;>simp
 have hxx:∀lk,(∃l,wkL [lk] [isl l .any])->exP x y [D.int .i64 x.k,isl x.sh .any,isl x.nu .any,gsl 4 Arr.row x.it] lk (x.sh.length:Nat) 0:=fun lk hlk=>⟨x,.inl rfl,rfl,hlk,rfl,0,rfl⟩
 have hyy:∀lk,(∃l,wkL [lk] [isl l .any])->exP x y [D.int .i64 y.k,isl y.sh .any,isl y.nu .any,gsl 4 Arr.row y.it] lk (x.sh.length:Nat) 0:=fun lk hlk=>⟨y,.inr rfl,rfl,hlk,by rw[hl],0,rfl⟩
 have hx1:=hxx (isl y.sh .any) ⟨y.sh,Bg _⟩
 have hy1:=hyy (isl x.sh .any) ⟨x.sh,Bg _⟩
 have d0:∀d∈x.sh,0<=d/\d<=65536:=((Bk _).1 rx).2.1
 have e0:∀d∈y.sh,0<=d/\d<=65536:=((Bk _).1 ry).2.1
 have gx:x.sh.getD 0 0=x.sh.headD 0:=by cases x.sh<;>rfl
 have gy:y.sh.getD 0 0=y.sh.headD 0:=by cases y.sh<;>rfl
 have bx:0<=x.sh.headD 0/\x.sh.headD 0<=65536:=by
  have:=h.nx
  cases hh:x.sh with
  |nil=>exact (this hh).elim
  |cons d r=>exact d0 d (by rw[hh];simp)
 have by':0<=y.sh.headD 0/\y.sh.headD 0<=65536:=by
  have:=h.ny
  cases hh:y.sh with
  |nil=>exact (this hh).elim
  |cons d r=>exact e0 d (by rw[hh];simp)
 have wd:IntKind.i64.wrap (x.sh.getD 0 0+y.sh.getD 0 0)=x.sh.headD 0+y.sh.headD 0:=by
  rw[gx,gy];exact Bb (by omega) (by omega)
 simp only[wd]
 have hsl:s.length=x.sh.length:=by rw[h.hs,List.length_cons,List.length_tail];omega
 have hsh:∀m,wkL [D.sl 1 x.sh.length (BA (fun i=>[D.int IntKind.i64 (x.sh.getD i 0)]) 0 [D.int IntKind.i64 (x.sh.headD 0+y.sh.headD 0)]) m] [isl s .any]:=fun m=>by
  simp only[isl,wkL,wkD,Ba]
  refine⟨⟨by simp,hsl.symm,fun i _=>?_,by simp[Bw]⟩,trivial⟩
  rw[Ge h.nx,<- h.hs]
  exact Bg _
 refine fun b1 b2 _ b3 _=>⟨⟨x,.inl rfl,Bg _⟩,⟨y,.inr rfl,Bg _⟩,fun e=>absurd h.hk e,fun _=>⟨?_,fun e=>absurd e (by rw[hb];simp),fun _=>⟨?_,?_⟩⟩⟩
 ·simp only[hb]
  exact⟨fun _=>⟨fun _=>⟨fun q=>absurd q (by omega),fun _=>decide_eq_false (by omega)⟩,fun _=>trivial⟩,fun _=>trivial⟩
 ·repeat' (first | exact⟨_,_,⟨rfl,rfl⟩,rfl,rfl⟩ | exact hx1 | exact hy1 | (intro _) | refine And.intro ?_ ?_)
 rintro ⟨u1,u2⟩
 refine⟨⟨h.nx,by omega⟩,fun y3 hy3=>⟨⟨0,Nat.zero_le _,rfl⟩,fun i hi=>⟨fun hlt=>⟨⟨fun hne=>⟨⟨by omega,by omega⟩,⟨by omega,by omega⟩,?_⟩,fun e=>(hb2 i).symm⟩,fun e=>absurd e (by rw[hb2];simp),fun _=>⟨i+1,by omega,by omega,Bb (by omega) (by omega)⟩⟩,fun hge=>?_⟩⟩⟩
 ·rw[hb2,hti i (by omega)];simp
 refine⟨⟨by omega,by omega⟩,nx,⟨by omega,by omega⟩,⟨by omega,by omega⟩,nx,Nat.le_refl _,fun i _=>by rw[Ge h.nx];rfl,fun t=>⟨hsh _,x,⟨rfl,.inl rfl⟩,y,⟨rfl,.inr rfl⟩,fun e=>absurd e ?_,fun _ b4 _=>⟨hsh _,hsh _,⟨by omega,by omega⟩,⟨by omega,by omega⟩,fun b5 _=>?_⟩⟩⟩
 ·have:=B0 x
  have:=B0 y
  have hw:=h.hw
  rw[Bb (by omega) (by omega)]
  omega
 clear hx1 hy1 hxx hyy
 have hd1:s.drop 1=x.sh.tail:=by rw[h.hs];rfl
 have cx:x.sh=x.sh.headD 0::x.sh.tail:=by
  have:=h.nx
  cases hh:x.sh with
  |nil=>exact (this hh).elim
  |cons d r=>rfl
 have cy:y.sh=y.sh.headD 0::x.sh.tail:=by
  have:=h.ny
  rw[h.ht]
  cases hh:y.sh with
  |nil=>exact (this hh).elim
  |cons d r=>rfl
 obtain ⟨_,_,fx3,fx4⟩:=Bs.1 (By h.hx)
 obtain ⟨_,_,fy3,fy4⟩:=Bs.1 (By h.hy)
 have px:=Ea rx
 have py:=Ea ry
 have ex:prL (shN x.sh)=(x.sh.headD 0).toNat*prL (shN x.sh.tail):=by rw[cx];simp[shN,prL]
 have ey:prL (shN y.sh)=(y.sh.headD 0).toNat*prL (shN x.sh.tail):=by rw[cy];simp[shN,prL]
 rw[gx,gy,hd1]
 rw[ex] at fx3 px
 rw[ey] at fy3 py
 generalize hn1:(x.sh.headD 0).toNat*prL (shN x.sh.tail)=n1 at *
 generalize hn2:(y.sh.headD 0).toNat*prL (shN x.sh.tail)=n2 at *
 have m1:IntKind.i64.wrap (x.sh.headD 0*(prL (shN x.sh.tail):Nat))=(n1:Nat):=by
  rw[<- hn1,Int.natCast_mul,Int.toNat_of_nonneg bx.1]
  rw[<- hn1] at px
  have:x.sh.headD 0*(prL (shN x.sh.tail):Nat)=((x.sh.headD 0).toNat*prL (shN x.sh.tail):Nat):=by rw[Int.natCast_mul,Int.toNat_of_nonneg bx.1]
  exact Bb (by omega) (by omega)
 have m2:IntKind.i64.wrap (y.sh.headD 0*(prL (shN x.sh.tail):Nat))=(n2:Nat):=by
  rw[<- hn2,Int.natCast_mul,Int.toNat_of_nonneg by'.1]
  rw[<- hn2] at py
  have:y.sh.headD 0*(prL (shN x.sh.tail):Nat)=((y.sh.headD 0).toNat*prL (shN x.sh.tail):Nat):=by rw[Int.natCast_mul,Int.toNat_of_nonneg by'.1]
  exact Bb (by omega) (by omega)
 rw[m1,m2]
 have bnx:x.nu.length<=65536/\x.it.length<=65536:=by
  by_cases hk:x.k=3
  ·rw[if_pos hk] at fx3 fx4;omega
  ·rw[if_neg hk] at fx3 fx4;omega
 have bny:y.nu.length<=65536/\y.it.length<=65536:=by
  by_cases hk:y.k=3
  ·rw[if_pos hk] at fy3 fy4;omega
  ·rw[if_neg hk] at fy3 fy4;omega
 have PX:Wz [D.int .i64 x.k,isl x.sh .any,isl x.nu .any,gsl 4 Arr.row x.it,isl x.sh .any] (x,x.sh,0,n1):=⟨Bg _,h.nx,EI h.hx,by show 0*n1+n1<=_;rw[Nat.zero_mul,Nat.zero_add,fx3];exact Nat.le_refl _,by show x.nu.length<=_;omega,by show x.it.length<=_;omega⟩
 have PY:Wz [D.int .i64 y.k,isl y.sh .any,isl y.nu .any,gsl 4 Arr.row y.it,isl y.sh .any] (y,y.sh,0,n2):=⟨Bg _,h.ny,EI h.hy,by show 0*n2+n2<=_;rw[Nat.zero_mul,Nat.zero_add,fy3];exact Nat.le_refl _,by show y.nu.length<=_;omega,by show y.it.length<=_;omega⟩
 have hS:∀i,BA (fun i=>[D.int .i64 (x.sh.getD i 0)]) 0 [D.int .i64 (x.sh.headD 0+y.sh.headD 0)] i=[D.int .i64 ((joA x y).sh.getD i 0)]:=fun i=>Ge h.nx _ i
 have hSl:x.sh.length=(joA x y).sh.length:=by show _=List.length (_::_);rw[List.length_cons,List.length_tail];omega
 have nn:∀ {p:Nat->Prop} (i:Nat),i<0->p i:=fun i hi=>absurd hi (Nat.not_lt_zero i)
 have jn:(joA x y).nu=x.nu++y.nu:=rfl
 have ji:(joA x y).it=x.it++y.it:=rfl
 refine⟨x,x.sh,0,n1,⟨PX,⟨rfl,rfl,rfl⟩,by omega⟩,fun hk=>?_,fun hk hn=>?_,fun hk hn c hc=>?_⟩
 ·have hk2:¬y.k=3:=by rw[<- h.hk];exact hk
  rw[if_neg hk] at fx3 fx4
  rw[if_neg hk2] at fy3 fy4
  exact⟨y,y.sh,0,n2,⟨PY,⟨rfl,rfl,rfl⟩,by omega⟩,fun _=>⟨rfl,⟨hSl,fun i _=>hS i⟩,⟨by rw[jn,List.length_append];omega,fun i _=>Bey fx3⟩,by rw[ji,List.length_append];omega,nn⟩,fun e=>absurd e hk2,fun e=>absurd e hk2⟩
 ·have hk2:y.k=3:=by rw[<- h.hk];exact hk
  rw[if_pos hk] at fx3 fx4
  rw[if_pos hk2] at fy3 fy4
  refine⟨y,y.sh,0,n2,⟨PY,⟨rfl,rfl,rfl⟩,by omega⟩,fun e=>absurd hk2 e,fun _ hn2=>⟨rfl,⟨hSl,fun i _=>hS i⟩,⟨by rw[jn,List.length_append];omega,nn⟩,by rw[ji,List.length_append];omega,nn⟩,fun _ _ c hc=>⟨Nat.le_refl _,fun _ _=>rfl,rfl,⟨hSl,fun i _=>hS i⟩,⟨by rw[jn,List.length_append];omega,nn⟩,by rw[ji,List.length_append];omega,fun i _=>?_⟩⟩
  have hx0:x.it=[]:=List.eq_nil_of_length_eq_zero (by omega)
  rw[Ru,ji,hx0];rfl
 ·have hk2:y.k=3:=by rw[<- h.hk];exact hk
  rw[if_pos hk] at fx3 fx4
  rw[if_pos hk2] at fy3 fy4
  refine⟨y,y.sh,0,n2,⟨PY,⟨rfl,rfl,rfl⟩,by omega,hc,hk2⟩,fun c2 hc2=>⟨Nat.le_refl _,fun i _=>?_,rfl,⟨hSl,fun i _=>hS i⟩,⟨by rw[jn,List.length_append];omega,nn⟩,by rw[ji,List.length_append];omega,fun i _=>?_⟩⟩
  ·unfold Bp;split<;>rfl
  ·rw[BeO fx3];rfl
theorem Tm{α:Type}{l:List α}{i:Nat}{d:α}(h:i<l.length):l.getD i d∈l:=by
 rw[List.getD_eq_getElem?_getD,List.getElem?_eq_getElem h];exact List.getElem_mem h
noncomputable def B3{α:Type}(a b:α):Bool:=@decide (a=b) (Classical.propDecidable _)
theorem Ca{α:Type}{a b:α}:B3 a b=true↔a=b:=by unfold B3;exact @decide_eq_true_iff _ (Classical.propDecidable _)
theorem EJ{α:Type}{a b:α}(h:a≠b):false=B3 a b:=by
 cases hs:B3 a b with
 |false=>rfl
 |true=>exact (h (Ca.1 hs)).elim
theorem Th{α:Type}{a b:α}(h:a=b):true=B3 a b:=(Ca.2 h).symm
theorem BaE{α:Type}{l m:List α}(d:α)(h:l.length=m.length)(h2:∀j,j<l.length->l.getD j d=m.getD j d):l=m:=by
 apply List.ext_getElem h
 intro i h3 h4
 have:=h2 i h3
 simpa[List.getD_eq_getElem?_getD,List.getElem?_eq_getElem h3,List.getElem?_eq_getElem h4] using this
theorem Wg{α:Type}[Inhabited α]{l m:List α}{i:Nat}(h:∀j,j<i->l.getD j default=m.getD j default)(e:l.getD i default=m.getD i default):∀j,j<i+1->l.getD j default=m.getD j default:=fun j hj=>by
 by_cases q:j=i
 ·subst q;exact e
 ·exact h j (by omega)
noncomputable def EqI(l m:List Int):Senv:={ EC E5 26 2 [4,5,10,12,13,14,24] (fun id=>match id with | 6=>([0,1,2,3,4,5,6,7,8],[]) | _=>([],[])) with
 ann:=fun q _ S=>match q with
  |0=>some { slots:=[13],keep:=[0,1,11,12],α:=Nat,st:=fun i=>([.int .i64 i],S),inv:=fun i=>i<=l.length/\∀j,j<i->l.getD j default=m.getD j default,mu:=fun i=>l.length-i }
  |_=>none }
def QgS(a b:List Int):Prop:=RT (false=B3 a b)
def QaZ(a:Nat)(b c:List Int):Prop:=a<=LN b/\∀(j:Nat),j<a->GI b j=GI c j
def Ql6(a:List Int):D:=SI a
def QgT(a:List Int):Prop:=SM (Ql6 a)
theorem Be6(l m:List Int)(hl:l.length<=maxLen)(hm:m.length<=maxLen):ACalls Try.prog 26 [isl l .any,isl m .any] ⟨[],[]⟩ (SpecR (sC [isl l .any,isl m .any] (.bool (B3 l m))) ()):=by
 refine Bo (A:=sC _ _) (x:=()) (E:=EqI l m) (eOk BN rfl) Try.func26 rfl (by kernel_rfl) rfl (by simp[sC,EqI,EC,E0]) ?_
 refine Bu (T :=
  ifB ((LI l) != (LI m)) (QgS l m) ((∃(x:Nat),QaZ x l m/\(Z0=(↑x:Int)/\True)/\True/\True)/\∀(x:Nat),QaZ x l m->ifB (decide ((↑x:Int)<(LI l))) (Bc (Z0<=(↑x:Int)/\(↑x:Int)<(LI l)) (Bc (Z0<=(↑x:Int)/\(↑x:Int)<(LI m)) (ifB (GI l (Int.toNat (↑x:Int)) != GI m (Int.toNat (↑x:Int))) (QgS l m) ((QgT l/\QgT m/\SM D.unk/\SM (ZI (LI l))/\True)/\∃(y:Nat),QaZ y l m/\LN l-y<LN l-x/\(IntKind.wrap IntKind.i64 ((↑x:Int)+Z1)=(↑y:Int)/\True)/\True/\True)))) (RT (true=B3 l m)))) (by kernel_rfl) ?_
 delta GI LI LN N1 SI SM Z0 Z1 ZI QgS QaZ Ql6 QgT RT
 simp only[Bl,Be,decide_eq_true_eq,decide_eq_false_iff_not,true_and,and_true,bne_iff_ne,bne_eq_false_iff_eq,ne_eq,exists_const,Int.toNat_natCast]
 simp only[maxLen] at hl hm
 refine⟨fun h=>EJ fun e=>h (by rw[e]),fun he=>⟨⟨0,⟨Nat.zero_le _,fun j hj=>absurd hj (by omega)⟩,rfl⟩,fun i hi=>⟨fun hlt=>⟨⟨by omega,by omega⟩,⟨by omega,by omega⟩,fun hn=>EJ fun e=>hn (by rw[e]),fun hn=>⟨i+1,⟨by omega,Wg hi.2 hn⟩,by omega,Bb (by omega) (by omega)⟩⟩,fun hge=>Th (BaE default (by omega) fun j hj=>hi.2 j (by omega))⟩⟩⟩
noncomputable def sPr{α:Type}(row:α->List D)(q:α×α->Prop):FnSpec where
 β:=α×α
 α:=Unit
 args:=fun x=>[.agg (row x.1),.agg (row x.2)]
 st:=fun _=>⟨[],[]⟩
 pre:=q
 post:=fun _ _=>True
 res:=fun x _=>.ret (.bool (B3 x.1 x.2))
 out:=fun _ _=>⟨[],[]⟩
theorem Be3{α : Type}{k : Nat}{row : α -> List D}{q : α×α -> Prop}{ds : List D}{S : St}(h : ∀x, q x -> ACalls Try.prog k [.agg (row x.1), .agg (row x.2)] ⟨[], []⟩ (SpecR (sC [.agg (row x.1), .agg (row x.2)] (.bool (B3 x.1 x.2))) ())) :
  (∀y,(sPr row q).pre y->ACalls Try.prog k ((sPr row q).args y) ((sPr row q).st y) (SpecR (sPr row q) y))/\(∀y,(sPr row q).fit=some y->(sPr row q).pre y->Br ds ((sPr row q).args y)/\leS ((sPr row q).st y) S)/\((sPr row q).all=true->∀y,(sPr row q).pre y->Br ds ((sPr row q).args y)/\(sPr row q).st y=S) :=
 ConOk.plain (fun (x:α×α) hx=>(h x hx).mono fun _ _ ⟨y,q1,q2,q3⟩=>⟨y,q1,q2,q3⟩) rfl rfl
noncomputable def Bb0(l m:List Arr):Con:=fun k _ _=>match k with
 |11=>some (sPr Arr.row1 (fun x=>x.1∈l/\x.2∈m))
 |_=>none
noncomputable def EeA(l m:List Arr):Senv:={ EC (Bb0 l m) 32 3 [6,7,8,9,14,15,16,17,18,30] (fun _=>([],[])) with
 ann:=fun q _ S=>match q with
  |0=>some { slots:=[17],keep:=[0,1,2,15,16],α:=Nat,st:=fun i=>([.int .i64 i],S),inv:=fun i=>i<=l.length/\∀j,j<i->l.getD j default=m.getD j default,mu:=fun i=>l.length-i }
  |_=>none }
def QgU(a b:List Arr):Prop:=RT (false=B3 a b)
def VY:Arr:=DA
def JZ(a:List Arr)(b:Nat):Arr:=List.getD a b VY
def Qa0(a:Nat)(b c:List Arr):Prop:=a<=LN b/\∀(j:Nat),j<a->JZ b j=JZ c j
def YR(a:List Arr)(b:Nat):Arr:=List.getD a (Int.toNat (↑b:Int)) VY
def QgV(a:List Arr)(b:Nat):List Int:=Arr.sh (YR a b)
def QgW(a:List Arr)(b:Nat):Nat:=LN (QgV a b)
def QgX(a:List Arr)(b:Nat):List Int:=Arr.nu (YR a b)
def QgY(a:List Arr)(b:Nat):Nat:=LN (QgX a b)
def QgZ(a:List Arr)(b:Nat):List Arr:=Arr.it (YR a b)
def Qg0(a:List Arr)(b:Nat):Nat:=LN (QgZ a b)
def Qg1(a:List Arr)(b:Nat)(c:Arr):Prop:=Arr.k (YR a b)=Arr.k c/\(QgW a b=LN (Arr.sh c)/\(∀(i:Nat),i<QgW a b->[ZI (GI (QgV a b) i)]=[ZI (GI (Arr.sh c) i)])/\True)/\(QgY a b=LN (Arr.nu c)/\(∀(i:Nat),i<QgY a b->[ZI (GI (QgX a b) i)]=[ZI (GI (Arr.nu c) i)])/\True)/\(Qg0 a b=LN (Arr.it c)/\(∀(i:Nat),i<Qg0 a b->Arr.row (List.getD (QgZ a b) i VY)=Arr.row (List.getD (Arr.it c) i VY))/\True)/\True
def Ql7(a:List Arr)(b:Nat):List Int:=Arr.sh (JZ a b)
def Ql8(a:List Arr)(b:Nat):List Int:=Arr.nu (JZ a b)
def Qg2(a:List Arr)(b:Nat):List Arr:=Arr.it (JZ a b)
def Ql9(a:List Arr):D:=D.sl N4 (LN a) (fun i=>[ZI (Arr.k (JZ a i)),SI (Ql7 a i),SI (Ql8 a i),D.sl N4 (LN (Qg2 a i)) (fun i_1=>Arr.row (List.getD (Qg2 a i) i_1 VY)) Mode.any]) Mode.any
def Qa1(a:List Arr):Prop:=SM (Ql9 a)
theorem Bcf(l m:List Arr)(hl:l.length<=maxLen)(hm:m.length<=maxLen)(hc:ConOk Try.prog (Bb0 l m)):ACalls Try.prog 27 [gsl 4 Arr.row1 l,gsl 4 Arr.row1 m,.fn (.func 11) [] []] ⟨[],[]⟩ (SpecR (sC [gsl 4 Arr.row1 l,gsl 4 Arr.row1 m,.fn (.func 11) [] []] (.bool (B3 l m))) ()):=by
 refine Bo (A:=sC _ _) (x:=()) (E:=EeA l m) (eOk hc rfl) Try.func27 rfl (by kernel_rfl) rfl (by simp[sC,EeA,EC,E0]) ?_
 refine Bu (T :=
  ifB ((LI l) != (LI m)) (QgU l m) ((∃(x:Nat),Qa0 x l m/\(Z0=(↑x:Int)/\True)/\True/\True)/\∀(x:Nat),Qa0 x l m->ifB (decide ((↑x:Int)<(LI l))) (Bc (Z0<=(↑x:Int)/\(↑x:Int)<(LI l)) (∀(x_1:Nat),True->SM x_1/\Bc (Z0<=(↑x:Int)/\(↑x:Int)<(LI m)) (∀(x_2:Nat),x_1≠x_2/\True->SM x_2/\SM x_1/\SM x_2/\∃(x_3:Arr×Arr),(Qg1 l x x_3.1/\Qg1 m x x_3.2/\True)/\(True/\True)/\(x_3.1∈l/\x_3.2∈m)/\∀(y:Unit),True->ifB (!B3 x_3.1 x_3.2) (QgU l m) ((Qa1 l/\Qa1 m/\SM (D.fn (Fn.func (11:Nat)) [] [])/\Qa1 l/\SM (ZI (LI l))/\True)/\∃(y:Nat),Qa0 y l m/\LN l-y<LN l-x/\(IntKind.wrap IntKind.i64 ((↑x:Int)+Z1)=(↑y:Int)/\True)/\True/\True)))) (RT (true=B3 l m)))) (by kernel_rfl) ?_
 delta DA GI LI LN N1 N4 SI SM Z0 Z1 ZI QgW QgX QgY QgZ Qg0 Qg1 Ql7 Ql8 Qg2 Ql9 Qa1 QgU VY JZ Qa0 YR QgV RT
 simp only[Bl,Be,decide_eq_true_eq,decide_eq_false_iff_not,true_and,and_true,bne_iff_ne,bne_eq_false_iff_eq,ne_eq,exists_const,forall_const,Int.toNat_natCast,Bool.not_eq_true',Bool.not_eq_false',Prod.exists]
 simp only[maxLen] at hl hm
 refine⟨fun h=>EJ fun e=>h (by rw[e]),fun he=>⟨⟨0,⟨Nat.zero_le _,fun j hj=>absurd hj (by omega)⟩,rfl⟩,fun i hi=>⟨fun hlt=>⟨⟨by omega,by omega⟩,fun _=>⟨⟨by omega,by omega⟩,fun _ _=>⟨l.getD i default,m.getD i default,?_,⟨Tm (by omega),Tm (by omega)⟩,fun hn=>EJ fun e=>?_,fun hs=>⟨i+1,⟨by omega,Wg hi.2 (Ca.1 hs)⟩,by omega,Bb (by omega) (by omega)⟩⟩⟩⟩,fun hge=>Th (BaE default (by omega) fun j hj=>hi.2 j (by omega))⟩⟩⟩
 ·repeat' (first | rfl | exact fun _ _=>rfl | refine And.intro ?_ ?_)
 ·rw[e,Ca.2 rfl] at hn;cases hn
theorem Wf{α β:Type}{a b:α}{c d:β}(h:a=b↔c=d):B3 a b=B3 c d:=by
 rw[Bool.eq_iff_iff,Ca,Ca];exact h
theorem Bdu{a b:Arr}(h1:a.k=b.k)(h2:a.sh=b.sh)(h3:a.nu=b.nu)(h4:a.it=b.it):a=b:=by
 cases a;cases b
 simp only[Arr.k,Arr.sh,Arr.nu,Arr.it] at h1 h2 h3 h4
 rw[h1,h2,h3,h4]
noncomputable def Bbk(l m:List Arr):Con:=fun k ds _=>match k with
 |27=>some (pC ds (.bool (B3 l m)) (Br ds [gsl 4 Arr.row1 l,gsl 4 Arr.row1 m,.fn (.func 11) [] []]))
 |26=>match ds with
  | [.sl 1 n f _,.sl 1 p g _]=>some (pC ds (.bool (B3 (BL n f) (BL p g))) ((IntsP n f/\n<=maxLen)/\IntsP p g/\p<=maxLen))
  |_=>none
 |_=>none
noncomputable def Eas(a b:Arr):Senv:=EC (Bbk a.it b.it) 31 5 [] (fun _=>([],[]))
def Qg3(a:Arr):Prop:=(IntsP (LN (Arr.sh a)) fun i=>[ZI (GI (Arr.sh a) i)])/\LN (Arr.sh a)<=9223372036854775807
def Qg4(a:Arr):List Int:=BL (LN (Arr.sh a)) fun i=>[ZI (GI (Arr.sh a) i)]
def Qg5(a:Arr):Prop:=(IntsP (LN (Arr.nu a)) fun i=>[ZI (GI (Arr.nu a) i)])/\LN (Arr.nu a)<=9223372036854775807
def Qg6(a:Arr):List Int:=BL (LN (Arr.nu a)) fun i=>[ZI (GI (Arr.nu a) i)]
def VZ(a:Arr):List Arr:=Arr.it a
def Qg7:Arr:=DA
def YS(a:Arr)(b:Nat):Arr:=List.getD (VZ a) b Qg7
def Qma(a:Arr)(b:Nat):List Int:=Arr.sh (YS a b)
def Qmb(a:Arr)(b:Nat):List Int:=Arr.nu (YS a b)
def Qg8(a:Arr)(b:Nat):List Arr:=Arr.it (YS a b)
def Qmc(a:Arr)(b:Nat):List D:=[ZI (Arr.k (YS a b)),SI (Qma a b),SI (Qmb a b),D.sl N4 (LN (Qg8 a b)) (fun i=>Arr.row (List.getD (Qg8 a b) i Qg7)) Mode.any]
def Qg9(a:Arr):Prop:=SM (LN (VZ a))/\(∀(i:Nat),i<LN (VZ a)->SM (Qmc a i))/\True
def Qa2(a b:Arr):Prop:=RT (false=B3 a b)
theorem BdL(a b : Arr)(ha : a.sh.length<=maxLen /\ a.nu.length<=maxLen /\ a.it.length<=maxLen)(hb : b.sh.length<=maxLen /\ b.nu.length<=maxLen /\ b.it.length<=maxLen)(hc : ConOk Try.prog (Bbk a.it b.it)) :
  ACalls Try.prog 11 [.agg a.row2,.agg b.row2] ⟨[],[]⟩ (SpecR (sC [.agg a.row2,.agg b.row2] (.bool (B3 a b))) ()):=by
 refine Bo (A:=sC _ _) (x:=()) (E:=Eas a b) (eOk hc rfl) Try.func11 rfl (by kernel_rfl) rfl (by simp[sC,Eas,EC,E0]) ?_
 refine Bu (T :=
  ∀(x:Nat),True->∀(x_1:Nat),x≠x_1/\True->SM x/\SM x_1/\ifB (Arr.k a==Arr.k b) (SM x/\SM x_1/\(Qg3 a/\Qg3 b)/\∀(y:Unit),True->ifB (B3 (Qg4 a) (Qg4 b)) (SM x/\SM x_1/\(Qg5 a/\Qg5 b)/\∀(y:Unit),True->ifB (B3 (Qg6 a) (Qg6 b)) (SM x/\SM x_1/\(Qg9 a/\Qg9 b/\SM (D.fn (Fn.func (11:Nat)) [] [])/\True)/\∀(y:Unit),True->RT (B3 (VZ a) (VZ b)=B3 a b)) (Qa2 a b)) (Qa2 a b)) (Qa2 a b)) (by kernel_rfl) ?_
 delta DA GI LN N1 N4 SI SM Z0 ZI Qg3 Qg4 Qg5 Qg6 VZ Qg7 YS Qma Qmb Qg8 Qmc Qg9 Qa2 RT
 simp only[Bl,true_and,and_true,beq_iff_eq,beq_eq_false_iff_ne,ne_eq,exists_const,forall_const,implies_true,eq_self,CE]
 simp only[maxLen] at ha hb
 obtain ⟨a1,a2,a3⟩:=ha
 obtain ⟨b1,b2,b3⟩:=hb
 have no:∀ {α:Type} {x y:α},B3 x y=false->x≠y:=fun h e=>by rw[Ca.2 e] at h;cases h
 exact fun _ _ _=>⟨fun hk=>⟨⟨⟨BP _,a1⟩,BP _,b1⟩,fun hs=>⟨⟨⟨BP _,a2⟩,BP _,b2⟩,fun hn=>Wf ⟨fun e=>Bdu hk (Ca.1 hs) (Ca.1 hn) e,fun e=>by rw[e]⟩,fun hn=>EJ fun e=>no hn (by rw[e])⟩,fun hs=>EJ fun e=>no hs (by rw[e])⟩,fun h=>EJ fun e=>h (by rw[e])⟩
theorem BeJ{a b:Arr}{k:Nat}{d:D}(h:ACalls Try.prog k [.agg a.row2,.agg b.row2] ⟨[],[]⟩ (SpecR (sC [.agg a.row2,.agg b.row2] d) ())):ACalls Try.prog k [.agg a.row1,.agg b.row1] ⟨[],[]⟩ (SpecR (sC [.agg a.row1,.agg b.row1] d) ()) :=
 (h.wkArgs (by simp only[wkL,wkD];exact⟨Cy _,Cy _,trivial⟩)).mono fun _ _ ⟨y,q1,q2,q3⟩=>⟨y,q1,q2,q3⟩
theorem BcL:∀(a b:Arr),a.ok->b.ok->ACalls Try.prog 11 [.agg a.row2,.agg b.row2] ⟨[],[]⟩ (SpecR (sC [.agg a.row2,.agg b.row2] (.bool (B3 a b))) ())
 |.mk k s n is,.mk k' s' n' is',ha,hb=>by
  simp only[Arr.ok] at ha hb
  obtain ⟨_,_,_,a1,a2,a3,a4⟩:=ha
  obtain ⟨_,_,_,b1,b2,b3,b4⟩:=hb
  refine BdL _ _ ⟨a1,a2,a3⟩ ⟨b1,b2,b3⟩ ?_
  intro f ds S A h
  unfold Bbk at h
  split at h
  ·injection h with h;subst h
   refine EA fun e=>⟨Bh _,CT e (Bcf _ _ a3 b3 ?_)⟩
   intro f ds S A h
   unfold Bb0 at h
   split at h
   ·injection h with h;subst h
    refine Be3 fun (x:Arr×Arr) hx=>?_
    obtain ⟨x,y⟩:=x
    have hx1:x∈is:=hx.1
    have hx2:y∈is':=hx.2
    exact BeJ (BcL x y ((Cm _).1 a4 x hx1) ((Cm _).1 b4 y hx2))
   ·cases h
  ·split at h
   ·injection h with h;subst h
    exact EA fun ⟨⟨h1,h2⟩,h3,h4⟩=>⟨Bh _,CT (us:=[isl (BL _ _) .any,isl (BL _ _) .any]) ⟨(Cu h1).1,(Cu h3).1,trivial⟩ (Be6 _ _ (by rw[Er];exact h2) (by rw[Er];exact h4))⟩
   ·cases h
  ·cases h
termination_by a=>SizeOf.sizeOf a
decreasing_by
 have:=List.sizeOf_lt_of_mem hx1
 simp;omega
def Bb1(x y:Arr):Con:=fun k ds S=>match k with
 |20=>some (pA ds S (.tup [.agg (joA x y).row1,.int .i64 0]) (wkL ds [.agg x.row1,.agg y.row1,.bool false]))
 |_=>none
theorem BbS{x y:Arr}{s:List Int}(h:JoH x y s):ConOk Try.prog (Bb1 x y):=by
 intro k ds S A hh
 unfold Bb1 at hh
 split at hh
 ·injection hh with hh;subst hh
  refine BD fun e=>CD.at_ (CD.wk ?_ e) _
  exact ((Bfl x y s h).at_ ⟨[],[]⟩ |>.res fun C v=>OH (E8 _ C) (fun _ q=>q) v).cd
 ·cases hh
noncomputable def Ejf(x y:Arr):Senv:=EC (Bb1 x y) 11 6 [] (fun _=>([],[]))
def Qha:Arr:=DA
def Qhb(a:Arr)(b:Nat):List D:=Arr.row (List.getD (Arr.it a) b Qha)
def Qhc(a:Arr):Prop:=SM (Arr.k a)/\(SM (LN (Arr.sh a))/\(∀(i:Nat),i<LN (Arr.sh a)->SM (GI (Arr.sh a) i)/\True)/\True)/\(SM (LN (Arr.nu a))/\(∀(i:Nat),i<LN (Arr.nu a)->SM (GI (Arr.nu a) i)/\True)/\True)/\(SM (LN (Arr.it a))/\(∀(i:Nat),i<LN (Arr.it a)->wkL (Qhb a i) (Qhb a i))/\True)/\True
def Qhd(a b:Arr):Nat:=LN (Arr.sh (joA a b))
def Qmd(a b:Arr)(c:Nat):List D:=[ZI (GI (Arr.sh (joA a b)) c)]
def Qhe(a b:Arr):Nat:=LN (Arr.nu (joA a b))
def Qme(a b:Arr)(c:Nat):List D:=[ZI (GI (Arr.nu (joA a b)) c)]
def Qhf(a b:Arr):Nat:=LN (Arr.it (joA a b))
def Qmf(a b:Arr)(c:Nat):List D:=Arr.row (List.getD (Arr.it (joA a b)) c Qha)
theorem Bco(x y:Arr)(s:List Int)(h:JoH x y s):CD 7 [.agg x.row1,.agg y.row1] (.tup [.agg (joA x y).row1,.int .i64 0]):=by
 refine Bo (A:=sC _ _) (x:=()) (E:=Ejf x y) (eOk (BbS h) rfl) Try.func7 rfl (by kernel_rfl) rfl (by simp[sC,Ejf,EC,E0]) ?_
 refine Bu (T :=
  ∀(x_1:Nat),True->∀(x_2:Nat),x_1≠x_2/\True->∀(x_3:Nat),x_2≠x_3/\x_1≠x_3/\True->SM x_1/\SM x_2/\∃(x_4:Unit),(Qhc x/\Qhc y/\SM false/\True)/\∀(y_1:Unit),True->SM x_3/\(SM x_3/\True)/\∃(y_2:Unit),True/\((SM (Arr.k (joA x y))/\(SM (Qhd x y)/\(∀(i:Nat),i<Qhd x y->SM (Qmd x y i))/\True)/\(SM (Qhe x y)/\(∀(i:Nat),i<Qhe x y->SM (Qme x y i))/\True)/\(SM (Qhf x y)/\(∀(i:Nat),i<Qhf x y->SM (Qmf x y i))/\True)/\True)/\SM Z0/\True)/\True/\True) (by kernel_rfl) ?_
 delta DA GI LN SM Z0 ZI Qha Qhb Qhc Qhd Qmd Qhe Qme Qhf Qmf
 have da:(default:Arr)=Arr.mk 0 [] [] []:=rfl
 simp only[<- da]
 simp only[ne_eq,implies_true,true_and,and_true,exists_const,forall_const]
 exact fun _ _ _ _ _=>⟨fun _ _=>Bg _,fun _ _=>Bg _⟩
def BcI(a:Arr):Con:=fun k ds S=>match k with
 |17=>some (pA ds S (.int .i64 (wtA a)) (wkL ds [.agg a.row1]))
 |18=>some (pA ds S (.int .i64 (Bj a).1) (wkL ds [.agg a.row1]))
 |_=>none
theorem Bc4{a:Arr}(h:a.ok):ConOk Try.prog (BcI a):=by
 intro k ds S A hh
 have hrow:wkL [.agg a.row1] [.agg a.row2]:=by
  simp only[wkL,wkD]
  exact⟨Cy a,trivial⟩
 unfold BcI at hh
 split at hh
 ·injection hh with hh;subst hh
  have h1:CD 17 [.agg a.row2] (.int .i64 (wtA a)):=(Rn a h).mono fun _ _ ⟨y,q1,q2,q3⟩=>⟨(),trivial,q2,q3⟩
  exact BD fun e=>CD.at_ (CD.wk (CD.wk h1 hrow) e) _
 ·injection hh with hh;subst hh
  have h1:CD 18 [.agg a.row2] (.int .i64 (Bj a).1):=(BeB a h).mono fun _ _ ⟨y,q1,q2,q3⟩=>⟨(),trivial,q2,q3⟩
  exact BD fun e=>CD.at_ (CD.wk (CD.wk h1 hrow) e) _
 ·cases hh
noncomputable def Efw(a:Arr):Senv:=EC (BcI a) 14 3 [4] (fun _=>([],[]))
def Qhg(a:Arr)(b:Nat):List D:=Arr.row (GA (Arr.it a) b)
def Qhh(a:Arr):Prop:=(SM (Arr.k a)/\(SM (LN (Arr.sh a))/\(∀(i:Nat),i<LN (Arr.sh a)->SM (GI (Arr.sh a) i)/\True)/\True)/\(SM (LN (Arr.nu a))/\(∀(i:Nat),i<LN (Arr.nu a)->SM (GI (Arr.nu a) i)/\True)/\True)/\(SM (LN (Arr.it a))/\(∀(i:Nat),i<LN (Arr.it a)->wkL (Qhg a i) (Qhg a i))/\True)/\True)/\True
def Qhi(a:Arr)(b:Int):Bool:=decide (wtA a<=b)&&Prod.fst (Bj a)==Z0
theorem Ul(a:Arr)(n:Int)(h:a.ok):CD 5 [.agg a.row1,.int .i64 n] (.bool (decide (wtA a<=n)&&(Bj a).1==0)):=by
 refine Bo (A:=sC _ _) (x:=()) (E:=Efw a) (eOk (Bc4 h) rfl) Try.func5 rfl (by kernel_rfl) rfl (by simp[sC,Efw,EC,E0]) ?_
 refine Bu (T :=
  ∀(x:Nat),True->SM x/\∃(x_1:Unit),Qhh a/\∀(y:Unit),True->ifB (decide (wtA a<=n)) (SM x/\∃(x:Unit),Qhh a/\∀(y:Unit),True->RT ((Prod.fst (Bj a)==Z0)=Qhi a n)) (RT (false=Qhi a n))) (by kernel_rfl) ?_
 delta DA GA GI LN SM Z0 Qhh Qhi Qhg RT
 have da:(default:Arr)=Arr.mk 0 [] [] []:=rfl
 simp only[<- da]
 simp only[implies_true,Bl,decide_eq_true_eq,decide_eq_false_iff_not,true_and,and_true,exists_const,forall_const]
 exact⟨fun _ _=>Bg _,fun hw=>⟨fun _ _=>Bg _,by simp[hw]⟩,fun hw=>by simp[hw]⟩
def vcA(l:List Int):Arr:=.mk 1 [(l.length:Int)] l []
noncomputable def Evc:Senv:=EC E5 8 1 [2] (fun _=>([],[]))
def Qhj(a:List Int):Arr:=Arr.mk Z1 [(LI a)] a []
def Qhk(a:List Int):List Int:=Arr.nu (Qhj a)
theorem Uf(l:List Int):CD 19 [isl l .any] (.agg (vcA l).row1):=by
 refine CD.ofW (T2 (E:=Evc) (eOk BN rfl) Try.func19 rfl (by kernel_rfl) rfl (by simp[Evc,EC,E0]) ?_)
 refine Bu (T :=
  ∀(x:Nat),True->SM x/\(SM x/\True)/\Z1=Arr.k (Qhj l)/\(SM N1/\(∀(i:Nat),i<N1->wkL (List.getD [[ZI (LI l)]] i []) [ZI (GI [(LI l)] i)])/\True)/\(LN l=LN (Qhk l)/\(∀(i:Nat),i<LN l->GI l i=GI (Qhk l) i/\True)/\True)/\(SM N0/\(∀(i:Nat),i<N0->False)/\True)/\True) (by kernel_rfl) ?_
 delta GI LI LN N0 N1 SM Z0 Z1 ZI Qhj Qhk
 simp only[eq_self,true_and,and_true,forall_const]
 refine⟨rfl,fun i hi=>?_,⟨rfl,fun _ _=>rfl⟩,fun i hi=>absurd hi (Nat.not_lt_zero i)⟩
 obtain rfl:i=0:=by omega
 exact Bg _
def rpN(z:Int):Nat->List D:=fun _=>[.int .i64 z]
def sSn(a:Arr)(s:List Int)(kk sd:D)(i n x p:Nat)(f:Nat->List D)(t:Nat):FnSpec where
 β:=Unit
 α:=Nat
 args:=fun _=>[.agg [.int .i64 a.k,isl a.sh .any,isl a.nu .any,gsl 4 Arr.row a.it,isl s .any],.ref 17 x 0,.int .i64 i,.int .i64 n]
 st:=fun _=>⟨[(17,x,.cells [kk,sd,.sl 1 p f (.tok 1 t),nlS])],[(1,t)]⟩
 pre:=fun _=>a.k≠3/\a.sh=[]/\a.nu≠[]/\n<=1000000/\p<=1000000
 post:=fun _ _=>True
 res:=fun _ _=>.ret (.tup [])
 out:=fun _ u=>⟨[(17,x,.cells [kk,sd,.sl 1 (p+n) (Bp p f (rpN (a.nu.headD 0))) (.tok 1 u),nlS])],[(1,u)]⟩
noncomputable def Esn(a:Arr)(kk sd:D)(n p:Nat)(f:Nat->List D):Senv:={ EC Il 108 5 [8,10,15,16,17,18,22,57,89,90,91,92] (fun id=>match id with | 5=>([0,1,2,3,4,5,6,7,8,10,9,11,12,13,15,16,14,17],[9,11,12,14,17]) | 6=>([0,1,2,3,4,5,6,7,8,9,10,11,12,13,14],[10,11,14]) | 15=>([0,1,2,3,4,6,5,7,8,9,11,12,10,13],[5,7,8,10,13]) | _=>([],[])) with
 ann:=fun b _ S=>match b with
  |0=>match S.objs with
   |bx::(k1,x1,_)::_=>some { slots:=[17],keep:=[1,4,16],α:=Nat×Nat,st:=fun y=>([.int .i64 y.1],⟨[bx,(k1,x1,.cells [kk,sd,.sl 1 (p+y.1) (Bp p f (rpN (a.nu.headD 0))) (.tok 1 y.2),nlS])],[(1,y.2)]⟩),inv:=fun y=>y.1<=n,mu:=fun y=>n-y.1 }
   |_=>none
  |_=>none }
def YT(a:Arr):Nat:=LN (Arr.sh a)
def YU(a:Arr):Int:=Arr.k a
def Qhl(a:Arr)(b:Nat):List D:=[ZI (GI (Arr.sh a) b)]
def J0(a:Arr):List Int:=Arr.nu a
def YV(a:Arr):Nat:=LN (J0 a)
def Qhm(a:Arr)(b:Nat):List D:=[ZI (GI (J0 a) b)]
def V0(a:Arr):Nat:=LN (Arr.it a)
def Qhn:Arr:=DA
def Qho(a:Arr)(b:Nat):List D:=Arr.row (List.getD (Arr.it a) b Qhn)
def Qhp(a:Arr)(b:List Int):Prop:=SM (YU a)/\(SM (YT a)/\(∀(i:Nat),i<YT a->SM (Qhl a i))/\True)/\(SM (YV a)/\(∀(i:Nat),i<YV a->SM (Qhm a i))/\True)/\(SM (V0 a)/\(∀(i:Nat),i<V0 a->SM (Qho a i))/\True)/\(SM (LN b)/\(∀(i:Nat),i<LN b->SM [ZI (GI b i)])/\True)/\True
def Qa3(a:Nat)(b:Nat->List D)(c:Arr)(d:Nat):List D:=Bp a b (rpN (List.headD (J0 c) Z0)) d
def Qa4:Prop:=(SM N0/\(∀(i:Nat),i<N0->Cr (List D) [] [])/\True)/\True
def Qhq(a:Arr):List D:=Arr.row (List.getD (Arr.it a) N0 Qhn)
def Qhr(a:Arr):D:=D.sl N4 (V0 a) (fun i=>Qho a i) Mode.any
def Qhs(a b:Arr):Prop:=(wkL (List.take N4 (List.drop N0 (Qhq a))) [ZI (YU b),D.sl N1 (YT b) (fun i=>Qhl b i) Mode.any,D.sl N1 (YV b) (fun i=>Qhm b i) Mode.any,Qhr b]/\True)/\Prod.fst (Bj b)=Z0
def Qa5(a:Nat):Prop:=SM a/\SM (D.sl N1 N0 (fun _x=>[]) Mode.nil)
def Qht(a:Nat):Prop:=Qa5 a/\∀(_t:Nat),False/\SM a/\False
def V1(a:Arr):Int:=(NI (YV a))
def J1(a b:Nat):Int:=IntKind.wrap IntKind.i64 ((↑a:Int)*(↑b:Int))
def Qhu(a b:Nat):Int:=IntKind.wrap IntKind.i64 (J1 a b+(↑b:Int))
theorem BfB(a:Arr)(s:List Int)(kk sd:D)(i n x p:Nat)(f:Nat->List D)(t:Nat)(h:(sSn a s kk sd i n x p f t).pre ()):ACalls Try.prog 41 ((sSn a s kk sd i n x p f t).args ()) ((sSn a s kk sd i n x p f t).st ()) (SpecR (sSn a s kk sd i n x p f t) ()):=by
 refine Bo (A:=sSn a s kk sd i n x p f t) (x:=()) (E:=Esn a kk sd n p f) (eOk Ec rfl) Try.func41 rfl (by kernel_rfl) rfl (by simp[sSn,Esn,EC,E0]) ?_
 refine Bu (T :=
  ∀(x_1:Nat),x≠x_1/\True->SM x_1/\ifB ((NI (YT a))==Z0) ((∃(x_2:Nat×Nat),x_2.1<=n/\(Z0=(NI x_2.1)/\True)/\(SM x_1/\Qhp a s/\SM x/\(Bf kk kk/\Bf sd sd/\(p=p+x_2.1/\(∀(i:Nat),i<p->f i=Qa3 p f a i)/\t=x_2.2)/\Qa4)/\True)/\t=x_2.2/\True)/\∀(x_2:Nat×Nat),x_2.1<=n->ifB (decide ((NI x_2.1)<(↑n:Int))) (SM x_1/\ifB (YU a==3) (SM x/\SM x_1/\Bc (Z0<=Z0/\Z0<(NI (V0 a))) (Bc (N4<=LN (Qhq a)) ((∃(x_3:Arr),Qhs a x_3/\∀(y:Unit),True->Qa5 x/\Qht x)/\(SM x_1/\SM (Qhr a))/\Qa5 x/\∃(x_3:Arr),Qhs a x_3/\∀(y:Unit),True->Qht x))) (SM x/\SM x_1/\Bc (Z0<=Z0/\Z0<V1 a) ((SM x/\SM (D.sl N1 (p+x_2.1) (Bp p f (rpN (List.headD (J0 a) Z0))) (Mode.tok N1 x_2.2)))/\SM x_2.2/\Bc ((p+x_2.1+N1)*8<=140737488355328/\p+x_2.1+N1<=9223372036854775807) (∀(t:Nat),SM x/\(SM (D.ref (17:Nat) x N0)/\SM (D.ref (18:Nat) x_1 N0)/\SM (ZI (↑n:Int))/\True)/\∃(y:Nat×Nat),y.1<=n/\n-y.1<n-x_2.1/\(IntKind.wrap IntKind.i64 ((NI x_2.1)+Z1)=(NI y.1)/\True)/\(SM x_1/\Qhp a s/\SM x/\(Bf kk kk/\Bf sd sd/\(p+x_2.1+N1=p+y.1/\(∀(i:Nat),i<p+x_2.1+N1->Bp (p+x_2.1) (Bp p f (rpN (List.headD (J0 a) Z0))) (fun i=>List.getD [[ZI (GI (J0 a) N0)]] i []) i=Qa3 p f a i)/\t=y.2)/\Qa4)/\True)/\t=y.2/\True)))) (True/\∃(y:Nat),True/\True/\(SM x/\(Bf kk kk/\Bf sd sd/\(p+x_2.1=p+n/\(∀(i:Nat),i<p+x_2.1->SM (Qa3 p f a i))/\x_2.2=y)/\Qa4)/\True)/\x_2.2=y/\True)) (SM x_1/\ifB (YU a != (3:Int)) (Bc (Z0<=(↑n:Int)/\(↑n:Int)<=(↑n:Int)/\(8:Int)*(↑n:Int)<=281474976710656/\(↑n:Int)<=9223372036854775807) (∀(x_2:Nat),x_1≠x_2/\x≠x_2/\True->SM x_1/\Bc (Z0<=J1 i n/\J1 i n<=V1 a/\V1 a<=V1 a) (SM x_2/\Int.toNat (↑n:Int)<=Int.toNat (V1 a)-Int.toNat (J1 i n)/\SM (Int.toNat (↑n:Int))/\SM x/\False))) (SM x_1/\Bc (Z0<=J1 i n/\J1 i n<=Qhu i n/\Qhu i n<=(NI (V0 a))) False))) (by kernel_rfl) ?_
 delta DA GI LN N0 N1 N4 NI SM Z0 Z1 ZI YT YU Qa3 Qa4 Qhq Qhr Qhs Qa5 Qht V1 J1 Qhu Qhl J0 YV Qhm V0 Qhn Qho Qhp
 have da:(default:Arr)=Arr.mk 0 [] [] []:=rfl
 simp only[<- da]
 simp only[ne_eq,implies_true,Int.toNat_natCast,Bl,Be,decide_eq_true_eq,decide_eq_false_iff_not,true_and,and_true,beq_iff_eq,bne_iff_ne,bne_eq_false_iff_eq,beq_eq_false_iff_ne,forall_const,Prod.exists]
 obtain ⟨hk,hs,hnu,hn,hp⟩:=h
 have hl:a.sh.length=0:=by rw[hs];rfl
 have hnl:0<a.nu.length:=List.length_pos_iff.2 hnu
 refine fun _ _=>⟨fun _=>⟨⟨0,t,Nat.zero_le _,rfl,⟨Bd _,Bd _,rfl,fun j hj=>(if_pos hj).symm,rfl⟩,rfl⟩,fun y hy=>⟨fun hlt=>⟨fun e=>absurd e hk,fun _=>⟨⟨by omega,by omega⟩,⟨by omega,by omega⟩,fun u=>⟨y.1+1,u,by omega,by omega,Bb (by omega) (by omega),⟨Bd _,Bd _,by omega,fun j hj=>?_,rfl⟩,rfl⟩⟩⟩,fun hge=>⟨y.2,⟨Bd _,Bd _,by omega,rfl⟩,rfl⟩⟩⟩,fun e=>absurd (by omega) e⟩
 unfold Bp
 by_cases h1:j<p+y.1
 ·rw[if_pos h1]
 ·rw[if_neg h1,if_neg (show ¬j<p by omega),show j-(p+y.1)=0 by omega]
  unfold rpN
  cases hh:a.nu with
  |nil=>exact absurd hh hnu
  |cons d r=>rfl
def rpI(b:Arr):Nat->List D:=fun _=>b.row1
def sSb(a:Arr)(s:List Int)(kk sd nud:D)(i n x t:Nat):FnSpec where
 β:=Unit
 α:=Nat×Nat
 args:=fun _=>[.agg [.int .i64 3,isl a.sh .any,isl a.nu .any,gsl 4 Arr.row1 a.it,isl s .any],.ref 17 x 0,.int .i64 i,.int .i64 n]
 st:=fun _=>⟨[(17,x,.cells [kk,sd,nud,nlS])],[(1,t)]⟩
 pre:=fun _=>(∀b∈a.it,(Bj b).1=0)/\a.sh=[]/\a.it≠[]/\n<=1000000/\0<n
 post:=fun _ y=>n<=y.2
 res:=fun _ _=>.ret (.tup [])
 out:=fun _ y=>⟨[(17,x,.cells [kk,sd,nud,.vs 19 y.1 n y.2 4]),(19,y.1,.vec 4 n y.2 (rpI (a.it.headD default)))],[(1,t)]⟩
theorem Bbd{kk sd nud : D}{x y m c K K2 : Nat}{f g : Nat -> List D}{bx : Nat×Nat×AObj}{tk : List (Nat×Nat)}(hg : ∀i, i<m -> f i=g i) :
  StTo ⟨[(K,y,.vec 4 m c f),bx,(17,x,.cells [kk,sd,nud,.vs K2 y m c 4])],tk⟩ ⟨[bx,(17,x,.cells [kk,sd,nud,.vs 19 y m c 4]),(19,y,.vec 4 m c g)],tk⟩:=by
 have h1:StTo ⟨[(K,y,.vec 4 m c f),bx,(17,x,.cells [kk,sd,nud,.vs K2 y m c 4])],tk⟩ (St.add ⟨[(17,x,.cells [kk,sd,nud,.vs K2 y m c 4]),(19,y,.vec 4 m c f)],[]⟩ ⟨[bx],tk⟩):=by
  refine StTo.perm (r1:=[]) (r2:=[]) ?_ (by simp[St.add])
  simp only[St.add,List.map_cons,List.map_nil,List.append_nil,List.cons_append,List.nil_append]
  exact (List.Perm.swap _ _ _).trans (List.Perm.cons _ (List.Perm.swap _ _ _))
 have h2:StTo ⟨[(17,x,.cells [kk,sd,nud,.vs K2 y m c 4]),(19,y,.vec 4 m c f)],[]⟩ ⟨[(17,x,.cells [kk,sd,nud,.vs 19 y m c 4]),(19,y,.vec 4 m c g)],[]⟩:=by
  refine StTo.posN ⟨⟨rfl,?_,rfl,?_,trivial⟩,trivial⟩
  ·simp[B4,Br,Bf,Bd,Ba]
  ·simp only[B4,Ba,decide_true,true_and]
   exact hg
 have h3:StTo (St.add ⟨[(17,x,.cells [kk,sd,nud,.vs 19 y m c 4]),(19,y,.vec 4 m c g)],[]⟩ ⟨[bx],tk⟩) ⟨[bx,(17,x,.cells [kk,sd,nud,.vs 19 y m c 4]),(19,y,.vec 4 m c g)],tk⟩:=by
  refine StTo.perm (r1:=[]) (r2:=[]) ?_ (by simp[St.add])
  simp only[St.add,List.map_cons,List.map_nil,List.append_nil,List.cons_append,List.nil_append]
  exact (List.Perm.swap _ _ _).trans (List.Perm.cons _ (List.Perm.swap _ _ _))
 exact StTo.trans h1 (StTo.trans (StTo.framed h2 _) h3)
noncomputable def Esb(a:Arr)(kk sd nud:D)(n:Nat):Senv:={ EC Il 108 5 [8,10,15,16,17,18,22,57,89,90,91,92] (fun id=>match id with | 5=>([0,1,2,3,4,5,6,7,8,10,9,11,12,13,15,16,14,17],[9,11,12,14,17]) | 6=>([0,1,2,3,4,5,6,7,8,9,10,11,12,13,14],[10,11,14]) | 15=>([0,1,2,3,4,6,5,7,8,9,11,12,10,13],[5,7,8,10,13]) | _=>([],[])) with
 own:=fun t=>Nat.beq t 24
 ann2:=fun b _ S=>match b with
  |0=>match S.objs with
   |bx::(k1, x1, _)::_=>some (
     { slots:=[17],keep:=[1,4,16],α:=Unit,st:=fun _=>([.int .i64 0],⟨[bx,(k1,x1,.cells [kk,sd,nud,nlS])],S.toks⟩),inv:=fun _=>True,mu:=fun _=>n+1 },
     { slots:=[17],keep:=[1,4,16],α:=Nat×Nat×Nat,st:=fun y=>([.int .i64 y.1],⟨[bx,(k1,x1,.cells [kk,sd,nud,.vs 19 y.2.1 y.1 y.2.2 4]),(19,y.2.1,.vec 4 y.1 y.2.2 (rpI (a.it.headD default)))],S.toks⟩),inv:=fun y=>0<y.1/\y.1<=n/\y.1<=y.2.2,mu:=fun y=>n-y.1 })
   |_=>none
  |_=>none }
def Qhv(a:Arr):D:=SI (Arr.sh a)
def Qhw(a:Arr):D:=SI (Arr.nu a)
def YW(a:Arr):List Arr:=Arr.it a
def YX(a:Arr):Nat:=LN (YW a)
def V2:Arr:=DA
def V3(a:Arr)(b:Nat):Arr:=List.getD (YW a) b V2
def Qmg(a:Arr)(b:Nat):List Int:=Arr.sh (V3 a b)
def Qmh(a:Arr)(b:Nat):List Int:=Arr.nu (V3 a b)
def Qhx(a:Arr)(b:Nat):List Arr:=Arr.it (V3 a b)
def Qhy(a:Arr):D:=D.sl N4 (YX a) (fun i=>[ZI (Arr.k (V3 a i)),SI (Qmg a i),SI (Qmh a i),D.sl N4 (LN (Qhx a i)) (fun i_1=>Arr.row (List.getD (Qhx a i) i_1 V2)) Mode.any]) Mode.any
def YY(a:Nat)(b:Arr)(c:List Int):Nat×Nat×AObj:=((18:Nat),a,AObj.cells [ZI 3,Qhv b,Qhw b,Qhy b,SI c])
def V4:D:=D.sl N1 N0 (fun _x=>[]) Mode.nil
def Qhz:List D:=[V4]
def Kh(a:Nat)(b:Arr)(c:List Int)(d:Nat)(e f g:D)(h:Nat):St:=St.mk [YY a b c,((17:Nat),d,AObj.cells (e::f::g::Qhz))] [(N1,h)]
def Qa6(a:Arr):Arr:=List.headD (YW a) V2
def Jv(a:Nat)(b:Arr)(c:List Int)(d:Nat)(e f g:D)(h k l m:Nat):St:=St.mk [YY a b c,((17:Nat),d,AObj.cells [e,f,g,D.vs (19:Nat) h k l N4]),((19:Nat),h,AObj.vec N4 k l (rpI (Qa6 b)))] [(N1,m)]
def Qa7(a:Arr):Int:=(NI (YX a))
def YZ(a:Arr):Arr:=List.getD (YW a) N0 V2
def QhA(a:Arr):List Int:=Arr.sh (YZ a)
def QhB(a:Arr):Nat:=LN (QhA a)
def QhC(a:Arr):List Int:=Arr.nu (YZ a)
def QhD(a:Arr):Nat:=LN (QhC a)
def QhE(a:Arr):List Arr:=Arr.it (YZ a)
def QhF(a:Arr):Nat:=LN (QhE a)
def QhG(a:Arr)(b:Nat):List D:=Arr.row (V3 a b)
def Y0(a b:Arr):Prop:=((Arr.k (YZ a)=Arr.k b/\(QhB a=LN (Arr.sh b)/\(∀(i:Nat),i<QhB a->GI (QhA a) i=GI (Arr.sh b) i/\True)/\True)/\(QhD a=LN (Arr.nu b)/\(∀(i:Nat),i<QhD a->GI (QhC a) i=GI (Arr.nu b) i/\True)/\True)/\(QhF a=YX b/\(∀(i:Nat),i<QhF a->wkL (Arr.row (List.getD (QhE a) i V2)) (QhG b i))/\True)/\True)/\True)/\Prod.fst (Bj b)=Z0
def Qa8(a:Nat):Prop:=SM a/\SM V4
def J2(a b c:Nat):Prop:=SM (D.ref (17:Nat) a N0)/\SM (D.ref (18:Nat) b N0)/\SM (ZI (↑c:Int))/\True
def Ki(a:Nat)(b:Arr)(c:List Int)(d:Nat)(e f g:D)(h k:Nat)(l:Unit):Nat:=LoopAnn.mu (LoopAnn.mk [(17:Nat)] [N1,N4,(16:Nat)] Unit (fun (_x:Unit)=>([ZI Z0],Kh a b c d e f g h)) (fun (_x:Unit)=>True) (fun (_x:Unit)=>k+N1) false fun (_x:Unit)=>St.mk [] []) l
def QhH(a:Nat):List D:=List.getD [ZI Z0::V4::V4::Qhz] a []
def QhI(a:Arr):List D:=[ZI (Arr.k a),Qhv a,Qhw a,D.sl N4 (YX a) (fun i=>QhG a i) Mode.any]
def Y1(a b:Nat)(c:Arr)(d:Nat)(e:Arr)(f:List Int)(g:Nat)(h k l:D)(m:Nat):St:=St.mk [(max ((18:Nat)+N1) (18:Nat)+nat_lit 12,a,AObj.vec N4 N1 b (BA (fun i=>QhH i) N0 (QhI c))),YY d e f,((17:Nat),g,AObj.cells [h,k,l,D.vs (max ((18:Nat)+N1) (18:Nat)+nat_lit 12) a N1 b N4])] [(N1,m)]
def QhJ(a b c:Nat)(d:Arr)(e:List Int)(f g h:D)(k:Nat)(l:Unit)(m:Arr):Prop:=Qa8 a/\∀(y cap':Nat),b≠y/\a≠y/\True->N1<=cap'->(SM y/\SM a/\J2 a b c/\((∃(x:Unit),True/\Ki b d e a f g h k c x<Ki b d e a f g h k c l/\(Z1=Z0/\True)/\StTo (Y1 y cap' m b d e a f g h k) (Kh b d e a f g h k))\/∃(x:Nat×Nat×Nat),(N0<x.1/\x.1<=c/\x.1<=x.2.2)/\c-x.1<Ki b d e a f g h k c l/\(Z1=(NI x.1)/\True)/\StTo (Y1 y cap' m b d e a f g h k) (Jv b d e a f g h x.2.1 x.1 x.2.2 k)))/\SM a/\SM y/\J2 a b c/\((∃(x:Unit),True/\Ki b d e a f g h k c x<Ki b d e a f g h k c l/\(Z1=Z0/\True)/\StTo (Y1 y cap' m b d e a f g h k) (Kh b d e a f g h k))\/∃(x:Nat×Nat×Nat),(N0<x.1/\x.1<=c/\x.1<=x.2.2)/\c-x.1<Ki b d e a f g h k c l/\(Z1=(NI x.1)/\True)/\StTo (Y1 y cap' m b d e a f g h k) (Jv b d e a f g h x.2.1 x.1 x.2.2 k))
def QhK(a:Nat)(b:Arr):Prop:=SM a/\SM (Qhy b)
def Y2(a b c d:Nat):Prop:=SM a/\SM (D.vs (19:Nat) b c d N4)
def KT(a b c:Nat)(d e:Arr)(f:Nat)(g:List Int)(h:Nat)(k l m:D)(n:Nat):St:=St.mk [((19:Nat),a,AObj.vec N4 (b+N1) c (BA (Bp b (rpI (Qa6 d)) fun i=>QhH i) (Int.toNat (↑b:Int)) (QhI e))),YY f d g,((17:Nat),h,AObj.cells [k,l,m,D.vs (19:Nat) a (b+N1) c N4])] [(N1,n)]
def Qmi(a:Arr)(b:Nat):List D:=rpI (Qa6 a) b
def Qa9(a b:Nat):Int:=IntKind.wrap IntKind.i64 ((↑a:Int)*(↑b:Int))
def QhL(a b:Nat):Int:=IntKind.wrap IntKind.i64 (Qa9 a b+(↑b:Int))
theorem BfD(a:Arr)(s:List Int)(kk sd nud:D)(i n x t:Nat)(h:(sSb a s kk sd nud i n x t).pre ()):ACalls Try.prog 41 ((sSb a s kk sd nud i n x t).args ()) ((sSb a s kk sd nud i n x t).st ()) (SpecR (sSb a s kk sd nud i n x t) ()):=by
 refine Bo (A:=sSb a s kk sd nud i n x t) (x:=()) (E:=Esb a kk sd nud n) (eOk Ec rfl) Try.func41 rfl (by kernel_rfl) rfl (by simp[sSb,Esb,EC,E0]) ?_
 refine Bu (T :=
  ∀(x_1:Nat),x≠x_1/\True->SM x_1/\ifB ((LI (Arr.sh a))==Z0) (((∃(x_2:Unit),True/\True/\(SM Z0/\True)/\StTo (Kh x_1 a s x kk sd nud t) (Kh x_1 a s x kk sd nud t))\/∃(x_2:Nat×Nat×Nat),(N0<x_2.1/\x_2.1<=n/\x_2.1<=x_2.2.2)/\True/\(Z0=(NI x_2.1)/\True)/\StTo (Kh x_1 a s x kk sd nud t) (Jv x_1 a s x kk sd nud x_2.2.1 x_2.1 x_2.2.2 t))/\(∀(x_2:Unit),True->ifB (decide (Z0<(↑n:Int))) (SM x_1/\SM x/\SM x_1/\Bc (Z0<=Z0/\Z0<Qa7 a) ((∃(x_3:Arr),Y0 a x_3/\∀(y:Unit),True->Qa8 x/\QhJ x x_1 n a s kk sd nud t x_2 x_3)/\QhK x_1 a/\Qa8 x/\∃(x_3:Arr),Y0 a x_3/\∀(y:Unit),True->QhJ x x_1 n a s kk sd nud t x_2 x_3)) (True/\∃(y:Nat×Nat),n<=y.2/\True/\(SM x/\(Bf kk kk/\Bf sd sd/\Bf nud nud/\V4=D.vs (19:Nat) y.1 n y.2 N4/\True)/\False)/\SM t/\True))/\∀(x_2:Nat×Nat×Nat),N0<x_2.1/\x_2.1<=n/\x_2.1<=x_2.2.2->ifB (decide ((NI x_2.1)<(↑n:Int))) (SM x_1/\SM x/\SM x_1/\Bc (Z0<=Z0/\Z0<Qa7 a) ((∃(x_3:Arr),Y0 a x_3/\∀(y:Unit),True->Y2 x x_2.2.1 x_2.1 x_2.2.2/\Y2 x x_2.2.1 x_2.1 x_2.2.2/\SM x_2.2.1/\SM x_2.2.2/\Bc (x_2.1<=x_2.1/\(x_2.1+N1)*80<=140737488355328/\x_2.1+N1<=9223372036854775807) (∀(y cap':Nat),x_2.1+N1<=cap'->Bc (Z0<=(NI x_2.1)/\(NI x_2.1)<(NI (x_2.1+N1))) ((SM y/\Bc (TN x_2.1<x_2.1+N1) (SM x/\J2 x x_1 n/\((∃(x_4:Unit),True/\Ki x_1 a s x kk sd nud t n x_4<n-x_2.1/\(IntKind.wrap IntKind.i64 ((NI x_2.1)+Z1)=Z0/\True)/\StTo (KT y x_2.1 cap' a x_3 x_1 s x kk sd nud t) (Kh x_1 a s x kk sd nud t))\/∃(x_4:Nat×Nat×Nat),(N0<x_4.1/\x_4.1<=n/\x_4.1<=x_4.2.2)/\n-x_4.1<n-x_2.1/\(IntKind.wrap IntKind.i64 ((NI x_2.1)+Z1)=(NI x_4.1)/\True)/\StTo (KT y x_2.1 cap' a x_3 x_1 s x kk sd nud t) (Jv x_1 a s x kk sd nud x_4.2.1 x_4.1 x_4.2.2 t))))/\SM x/\SM y/\Bc (TN x_2.1<x_2.1+N1) (J2 x x_1 n/\((∃(x_4:Unit),True/\Ki x_1 a s x kk sd nud t n x_4<n-x_2.1/\(IntKind.wrap IntKind.i64 ((NI x_2.1)+Z1)=Z0/\True)/\StTo (KT y x_2.1 cap' a x_3 x_1 s x kk sd nud t) (Kh x_1 a s x kk sd nud t))\/∃(x_4:Nat×Nat×Nat),(N0<x_4.1/\x_4.1<=n/\x_4.1<=x_4.2.2)/\n-x_4.1<n-x_2.1/\(IntKind.wrap IntKind.i64 ((NI x_2.1)+Z1)=(NI x_4.1)/\True)/\StTo (KT y x_2.1 cap' a x_3 x_1 s x kk sd nud t) (Jv x_1 a s x kk sd nud x_4.2.1 x_4.1 x_4.2.2 t))))))/\QhK x_1 a/\Y2 x x_2.2.1 x_2.1 x_2.2.2/\∃(x_3:Arr),Y0 a x_3/\∀(y:Unit),True->Y2 x x_2.2.1 x_2.1 x_2.2.2/\SM x_2.2.1/\SM x_2.2.2/\Bc (x_2.1<=x_2.1/\(x_2.1+N1)*80<=140737488355328/\x_2.1+N1<=9223372036854775807) (∀(y cap':Nat),x_2.1+N1<=cap'->Bc (Z0<=(NI x_2.1)/\(NI x_2.1)<(NI (x_2.1+N1))) ((SM y/\Bc (TN x_2.1<x_2.1+N1) (SM x/\J2 x x_1 n/\((∃(x_4:Unit),True/\Ki x_1 a s x kk sd nud t n x_4<n-x_2.1/\(IntKind.wrap IntKind.i64 ((NI x_2.1)+Z1)=Z0/\True)/\StTo (KT y x_2.1 cap' a x_3 x_1 s x kk sd nud t) (Kh x_1 a s x kk sd nud t))\/∃(x_4:Nat×Nat×Nat),(N0<x_4.1/\x_4.1<=n/\x_4.1<=x_4.2.2)/\n-x_4.1<n-x_2.1/\(IntKind.wrap IntKind.i64 ((NI x_2.1)+Z1)=(NI x_4.1)/\True)/\StTo (KT y x_2.1 cap' a x_3 x_1 s x kk sd nud t) (Jv x_1 a s x kk sd nud x_4.2.1 x_4.1 x_4.2.2 t))))/\SM x/\SM y/\Bc (TN x_2.1<x_2.1+N1) (J2 x x_1 n/\((∃(x_4:Unit),True/\Ki x_1 a s x kk sd nud t n x_4<n-x_2.1/\(IntKind.wrap IntKind.i64 ((NI x_2.1)+Z1)=Z0/\True)/\StTo (KT y x_2.1 cap' a x_3 x_1 s x kk sd nud t) (Kh x_1 a s x kk sd nud t))\/∃(x_4:Nat×Nat×Nat),(N0<x_4.1/\x_4.1<=n/\x_4.1<=x_4.2.2)/\n-x_4.1<n-x_2.1/\(IntKind.wrap IntKind.i64 ((NI x_2.1)+Z1)=(NI x_4.1)/\True)/\StTo (KT y x_2.1 cap' a x_3 x_1 s x kk sd nud t) (Jv x_1 a s x kk sd nud x_4.2.1 x_4.1 x_4.2.2 t))))))) (True/\∃(y:Nat×Nat),n<=y.2/\True/\(SM x/\(Bf kk kk/\Bf sd sd/\Bf nud nud/\(x_2.2.1=y.1/\x_2.1=n/\x_2.2.2=y.2)/\True)/\x_2.2.1=y.1/\(x_2.1=n/\x_2.2.2=y.2/\∀(i:Nat),i<x_2.1->SM (Qmi a i))/\True)/\SM t/\True)) (SM x_1/\SM x_1/\Bc (Z0<=Qa9 i n/\Qa9 i n<=QhL i n/\QhL i n<=Qa7 a) False)) (by kernel_rfl) ?_
 delta DA GI LI LN N0 N1 N4 NI SI SM TN Z0 Z1 ZI Qhv Qhw YY V4 Qhz Kh Qa6 Jv Qa7 YZ QhA QhB YW QhC QhD QhE QhF QhG Y0 Qa8 J2 Ki QhH YX QhI Y1 QhJ QhK Y2 KT Qmi Qa9 QhL V2 V3 Qmg Qmh Qhx Qhy
 have da:(default:Arr)=Arr.mk 0 [] [] []:=rfl
 simp only[<- da]
 simp only[ne_eq,implies_true,Int.toNat_natCast,Bl,Be,decide_eq_true_eq,decide_eq_false_iff_not,true_and,and_true,beq_iff_eq,beq_eq_false_iff_ne,exists_const,forall_const,Prod.exists]
 obtain ⟨hv,hs,hne,hn,hn0⟩:=h
 have hl:a.sh.length=0:=by rw[hs];rfl
 have hil:0<a.it.length:=List.length_pos_iff.2 hne
 have hgd:a.it.headD default=a.it.getD 0 default:=by cases a.it<;>rfl
 have hb:(Bj (a.it.getD 0 default)).1=0:=hv _ (Ch (by omega))
 simp only[hgd]
 refine fun _ _=>⟨fun _=>⟨.inl (fun _ _ _ H=>H),⟨fun _=>⟨⟨by omega,by omega⟩,?_,?_⟩,fun e=>absurd e (by omega)⟩,?_⟩,fun e=>absurd hl (by omega)⟩
 iterate 2
  ·refine⟨a.it.getD 0 default,⟨⟨rfl,⟨rfl,fun _ _=>rfl⟩,⟨rfl,fun _ _=>rfl⟩,rfl,fun _ _=>Bg _⟩,hb⟩,fun y c _ hc=>?_⟩
   constructor
   all_goals
    refine .inr ⟨1,y,c,⟨by omega,by omega,hc⟩,by omega,rfl,?_⟩
    apply Bbd
    intro j hj
    obtain rfl:j=0:=by omega
    rfl
 ·rintro ⟨m,v,c0⟩ ⟨m1,m2,m3⟩
  simp only at m1 m2 m3 ⊢
  refine⟨fun hlt=>⟨⟨by omega,by omega⟩,?_,?_⟩,fun hge=>⟨v,c0,by omega,⟨Bd _,Bd _,Bd _,rfl,by omega,rfl⟩,rfl,by omega,rfl⟩⟩
  iterate 2
   ·refine⟨a.it.getD 0 default,⟨⟨rfl,⟨rfl,fun _ _=>rfl⟩,⟨rfl,fun _ _=>rfl⟩,rfl,fun _ _=>Bg _⟩,hb⟩,⟨Nat.le_refl _,by omega,by omega⟩,fun y c hc=>⟨⟨by omega,by omega⟩,?_,?_⟩⟩
    iterate 2
     ·refine⟨by omega,.inr ⟨m+1,y,c,⟨by omega,by omega,hc⟩,by omega,Bb (by omega) (by omega),?_⟩⟩
      apply Bbd
      intro j hj
      exact ME (fun _=>rfl) hj
def sSv(a:Arr)(s:List Int)(kk sd nud:D)(i n x t v len cap:Nat)(g:Nat->List D):FnSpec where
 β:=Unit
 α:=Nat×Nat
 args:=fun _=>[.agg [.int .i64 3,isl a.sh .any,isl a.nu .any,gsl 4 Arr.row1 a.it,isl s .any],.ref 17 x 0,.int .i64 i,.int .i64 n]
 st:=fun _=>⟨[(17,x,.cells [kk,sd,nud,.vs 19 v len cap 4]),(19,v,.vec 4 len cap g)],[(1,t)]⟩
 pre:=fun _=>(∀b∈a.it,(Bj b).1=0)/\a.sh=[]/\a.it≠[]/\n<=1000000/\len<=1000000/\len<=cap
 post:=fun _ y=>len+n<=y.2
 res:=fun _ _=>.ret (.tup [])
 out:=fun _ y=>⟨[(17,x,.cells [kk,sd,nud,.vs 19 y.1 (len+n) y.2 4]),(19,y.1,.vec 4 (len+n) y.2 (Bp len g (rpI (a.it.headD default))))],[(1,t)]⟩
noncomputable def Esv(a:Arr)(kk sd nud:D)(n len:Nat)(g:Nat->List D):Senv:={ EC Il 108 5 [8,10,15,16,17,18,22,57,89,90,91,92] (fun id=>match id with | 5=>([0,1,2,3,4,5,6,7,8,10,9,11,12,13,15,16,14,17],[9,11,12,14,17]) | 6=>([0,1,2,3,4,5,6,7,8,9,10,11,12,13,14],[10,11,14]) | 15=>([0,1,2,3,4,6,5,7,8,9,11,12,10,13],[5,7,8,10,13]) | _=>([],[])) with
 own:=fun t=>Nat.beq t 24
 ann:=fun b _ S=>match b with
  |0=>match S.objs with
   |bx::(k1, x1, _)::_=>some
     { slots:=[17],keep:=[1,4,16],α:=Nat×Nat×Nat,st:=fun y=>([.int .i64 y.1],⟨[bx,(k1,x1,.cells [kk,sd,nud,.vs 19 y.2.1 (len+y.1) y.2.2 4]),(19,y.2.1,.vec 4 (len+y.1) y.2.2 (Bp len g (rpI (a.it.headD default))))],S.toks⟩),inv:=fun y=>y.1<=n/\len+y.1<=y.2.2,mu:=fun y=>n-y.1 }
   |_=>none
  |_=>none }
def KU(a:Arr):Nat:=LN (Arr.sh a)
def V5(a:Arr)(b:Nat):List D:=[ZI (GI (Arr.sh a) b)]
def Jw(a:Arr):Nat:=LN (Arr.nu a)
def V6(a:Arr)(b:Nat):List D:=[ZI (GI (Arr.nu a) b)]
def KV(a:Arr):List Arr:=Arr.it a
def Kj(a:Arr):Nat:=LN (KV a)
def KE:Arr:=DA
def V7(a:Arr)(b:Nat):Arr:=List.getD (KV a) b KE
def Qmj(a:Arr)(b:Nat):List Int:=Arr.sh (V7 a b)
def Qmk(a:Arr)(b:Nat):List Int:=Arr.nu (V7 a b)
def QhM(a:Arr)(b:Nat):List Arr:=Arr.it (V7 a b)
def QhN(a:Arr)(b:Nat):List D:=[ZI (Arr.k (V7 a b)),SI (Qmj a b),SI (Qmk a b),D.sl N4 (LN (QhM a b)) (fun i=>Arr.row (List.getD (QhM a b) i KE)) Mode.any]
def V8(a:Arr)(b:List Int):Prop:=SM (3:Int)/\(SM (KU a)/\(∀(i:Nat),i<KU a->SM (V5 a i))/\True)/\(SM (Jw a)/\(∀(i:Nat),i<Jw a->SM (V6 a i))/\True)/\(SM (Kj a)/\(∀(i:Nat),i<Kj a->SM (QhN a i))/\True)/\(SM (LN b)/\(∀(i:Nat),i<LN b->SM [ZI (GI b i)])/\True)/\True
def J3(a:Nat)(b:Nat->List D)(c:Arr)(d:Nat):List D:=Bp a b (rpI (List.headD (KV c) KE)) d
def Y3(a:Arr):Arr:=List.getD (KV a) N0 KE
def QhO(a:Arr):List Int:=Arr.sh (Y3 a)
def QhP(a:Arr):Nat:=LN (QhO a)
def QhQ(a:Arr):List Int:=Arr.nu (Y3 a)
def QhR(a:Arr):Nat:=LN (QhQ a)
def QhS(a:Arr):List Arr:=Arr.it (Y3 a)
def QhT(a:Arr):Nat:=LN (QhS a)
def V9(a:Arr)(b:Nat):List D:=Arr.row (V7 a b)
def QhU(a b:Arr):Prop:=((Arr.k (Y3 a)=Arr.k b/\(QhP a=KU b/\(∀(i:Nat),i<QhP a->GI (QhO a) i=GI (Arr.sh b) i/\True)/\True)/\(QhR a=Jw b/\(∀(i:Nat),i<QhR a->GI (QhQ a) i=GI (Arr.nu b) i/\True)/\True)/\(QhT a=Kj b/\(∀(i:Nat),i<QhT a->wkL (Arr.row (List.getD (QhS a) i KE)) (V9 b i))/\True)/\True)/\True)/\Prod.fst (Bj b)=Z0
def Y4(a b c d e:Nat):Prop:=SM a/\SM (D.vs (19:Nat) b (c+d) e N4)
def Q3:D:=D.sl N1 N0 (fun _x=>[]) Mode.nil
def Qml(a:Arr):D:=D.sl N4 (Kj a) (fun i=>QhN a i) Mode.any
def Qba(a b:Nat):Int:=IntKind.wrap IntKind.i64 ((↑a:Int)*(↑b:Int))
def QhV(a b:Nat):Int:=IntKind.wrap IntKind.i64 (Qba a b+(↑b:Int))
theorem Bfh(a:Arr)(s:List Int)(kk sd nud:D)(i n x t v len cap:Nat)(g:Nat->List D)(h:(sSv a s kk sd nud i n x t v len cap g).pre ()):ACalls Try.prog 41 ((sSv a s kk sd nud i n x t v len cap g).args ()) ((sSv a s kk sd nud i n x t v len cap g).st ()) (SpecR (sSv a s kk sd nud i n x t v len cap g) ()):=by
 refine Bo (A:=sSv a s kk sd nud i n x t v len cap g) (x:=()) (E:=Esv a kk sd nud n len g) (eOk Ec rfl) Try.func41 rfl (by kernel_rfl) rfl (by simp[sSv,Esv,EC,E0]) ?_
 refine Bu (T :=
  ∀(x_1:Nat),x≠x_1/\v≠x_1/\True->SM x_1/\ifB ((NI (KU a))==Z0) ((∃(x_2:Nat×Nat×Nat),(x_2.1<=n/\len+x_2.1<=x_2.2.2)/\(Z0=(NI x_2.1)/\True)/\(SM x_1/\V8 a s/\SM x/\(Bf kk kk/\Bf sd sd/\Bf nud nud/\(v=x_2.2.1/\len=len+x_2.1/\cap=x_2.2.2)/\True)/\v=x_2.2.1/\(len=len+x_2.1/\cap=x_2.2.2/\∀(i:Nat),i<len->g i=J3 len g a i)/\True)/\SM t/\True)/\∀(x_2:Nat×Nat×Nat),x_2.1<=n/\len+x_2.1<=x_2.2.2->ifB (decide ((NI x_2.1)<(↑n:Int))) (SM x_1/\SM x/\SM x_1/\Bc (Z0<=Z0/\Z0<(NI (Kj a))) ((∃(x_3:Arr),QhU a x_3/\∀(y:Unit),True->Y4 x x_2.2.1 len x_2.1 x_2.2.2/\Y4 x x_2.2.1 len x_2.1 x_2.2.2/\SM x_2.2.1/\SM x_2.2.2/\Bc (len+x_2.1<=len+x_2.1/\(len+x_2.1+N1)*80<=140737488355328/\len+x_2.1+N1<=9223372036854775807) (∀(y cap':Nat),len+x_2.1+N1<=cap'->Bc (Z0<=(NI (len+x_2.1))/\(NI (len+x_2.1))<(NI (len+x_2.1+N1))) ((SM y/\Bc (TN (len+x_2.1)<len+x_2.1+N1) (SM x/\(SM (D.ref (17:Nat) x N0)/\SM (D.ref (20:Nat) x_1 N0)/\SM (ZI (↑n:Int))/\True)/\∃(y_1:Nat×Nat×Nat),(y_1.1<=n/\len+y_1.1<=y_1.2.2)/\n-y_1.1<n-x_2.1/\(IntKind.wrap IntKind.i64 ((NI x_2.1)+Z1)=(NI y_1.1)/\True)/\(SM x_1/\V8 a s/\SM x/\(Bf kk kk/\Bf sd sd/\Bf nud nud/\(y=y_1.2.1/\len+x_2.1+N1=len+y_1.1/\cap'=y_1.2.2)/\True)/\y=y_1.2.1/\(len+x_2.1+N1=len+y_1.1/\cap'=y_1.2.2/\∀(i:Nat),i<len+x_2.1+N1->BA (Bp (len+x_2.1) (Bp len g (rpI (List.headD (KV a) KE))) fun i=>List.getD [[ZI Z0,Q3,Q3,Q3]] i []) (TN (len+x_2.1)) [ZI (Arr.k x_3),D.sl N1 (KU x_3) (fun i=>V5 x_3 i) Mode.any,D.sl N1 (Jw x_3) (fun i=>V6 x_3 i) Mode.any,D.sl N4 (Kj x_3) (fun i=>V9 x_3 i) Mode.any] i=J3 len g a i)/\True)/\SM t/\True))/\SM x/\SM y/\Bc (TN (len+x_2.1)<len+x_2.1+N1) ((SM (D.ref (17:Nat) x N0)/\SM (D.ref (20:Nat) x_1 N0)/\SM (ZI (↑n:Int))/\True)/\∃(y_1:Nat×Nat×Nat),(y_1.1<=n/\len+y_1.1<=y_1.2.2)/\n-y_1.1<n-x_2.1/\(IntKind.wrap IntKind.i64 ((NI x_2.1)+Z1)=(NI y_1.1)/\True)/\(SM x_1/\V8 a s/\SM x/\(Bf kk kk/\Bf sd sd/\Bf nud nud/\(y=y_1.2.1/\len+x_2.1+N1=len+y_1.1/\cap'=y_1.2.2)/\True)/\y=y_1.2.1/\(len+x_2.1+N1=len+y_1.1/\cap'=y_1.2.2/\∀(i:Nat),i<len+x_2.1+N1->BA (Bp (len+x_2.1) (Bp len g (rpI (List.headD (KV a) KE))) fun i=>List.getD [[ZI Z0,Q3,Q3,Q3]] i []) (TN (len+x_2.1)) [ZI (Arr.k x_3),D.sl N1 (KU x_3) (fun i=>V5 x_3 i) Mode.any,D.sl N1 (Jw x_3) (fun i=>V6 x_3 i) Mode.any,D.sl N4 (Kj x_3) (fun i=>V9 x_3 i) Mode.any] i=J3 len g a i)/\True)/\SM t/\True))))/\(SM x_1/\SM (Qml a))/\Y4 x x_2.2.1 len x_2.1 x_2.2.2/\∃(x_3:Arr),QhU a x_3/\∀(y:Unit),True->Y4 x x_2.2.1 len x_2.1 x_2.2.2/\SM x_2.2.1/\SM x_2.2.2/\Bc (len+x_2.1<=len+x_2.1/\(len+x_2.1+N1)*80<=140737488355328/\len+x_2.1+N1<=9223372036854775807) (∀(y cap':Nat),len+x_2.1+N1<=cap'->Bc (Z0<=(NI (len+x_2.1))/\(NI (len+x_2.1))<(NI (len+x_2.1+N1))) ((SM y/\Bc (TN (len+x_2.1)<len+x_2.1+N1) (SM x/\(SM (D.ref (17:Nat) x N0)/\SM (D.ref (20:Nat) x_1 N0)/\SM (ZI (↑n:Int))/\True)/\∃(y_1:Nat×Nat×Nat),(y_1.1<=n/\len+y_1.1<=y_1.2.2)/\n-y_1.1<n-x_2.1/\(IntKind.wrap IntKind.i64 ((NI x_2.1)+Z1)=(NI y_1.1)/\True)/\(SM x_1/\V8 a s/\SM x/\(Bf kk kk/\Bf sd sd/\Bf nud nud/\(y=y_1.2.1/\len+x_2.1+N1=len+y_1.1/\cap'=y_1.2.2)/\True)/\y=y_1.2.1/\(len+x_2.1+N1=len+y_1.1/\cap'=y_1.2.2/\∀(i:Nat),i<len+x_2.1+N1->BA (Bp (len+x_2.1) (Bp len g (rpI (List.headD (KV a) KE))) fun i=>List.getD [[ZI Z0,Q3,Q3,Q3]] i []) (TN (len+x_2.1)) [ZI (Arr.k x_3),D.sl N1 (KU x_3) (fun i=>V5 x_3 i) Mode.any,D.sl N1 (Jw x_3) (fun i=>V6 x_3 i) Mode.any,D.sl N4 (Kj x_3) (fun i=>V9 x_3 i) Mode.any] i=J3 len g a i)/\True)/\SM t/\True))/\SM x/\SM y/\Bc (TN (len+x_2.1)<len+x_2.1+N1) ((SM (D.ref (17:Nat) x N0)/\SM (D.ref (20:Nat) x_1 N0)/\SM (ZI (↑n:Int))/\True)/\∃(y_1:Nat×Nat×Nat),(y_1.1<=n/\len+y_1.1<=y_1.2.2)/\n-y_1.1<n-x_2.1/\(IntKind.wrap IntKind.i64 ((NI x_2.1)+Z1)=(NI y_1.1)/\True)/\(SM x_1/\V8 a s/\SM x/\(Bf kk kk/\Bf sd sd/\Bf nud nud/\(y=y_1.2.1/\len+x_2.1+N1=len+y_1.1/\cap'=y_1.2.2)/\True)/\y=y_1.2.1/\(len+x_2.1+N1=len+y_1.1/\cap'=y_1.2.2/\∀(i:Nat),i<len+x_2.1+N1->BA (Bp (len+x_2.1) (Bp len g (rpI (List.headD (KV a) KE))) fun i=>List.getD [[ZI Z0,Q3,Q3,Q3]] i []) (TN (len+x_2.1)) [ZI (Arr.k x_3),D.sl N1 (KU x_3) (fun i=>V5 x_3 i) Mode.any,D.sl N1 (Jw x_3) (fun i=>V6 x_3 i) Mode.any,D.sl N4 (Kj x_3) (fun i=>V9 x_3 i) Mode.any] i=J3 len g a i)/\True)/\SM t/\True))))) (True/\∃(y:Nat×Nat),len+n<=y.2/\True/\(SM x/\(Bf kk kk/\Bf sd sd/\Bf nud nud/\(x_2.2.1=y.1/\len+x_2.1=len+n/\x_2.2.2=y.2)/\True)/\x_2.2.1=y.1/\(len+x_2.1=len+n/\x_2.2.2=y.2/\∀(i:Nat),i<len+x_2.1->SM (J3 len g a i))/\True)/\SM t/\True)) (SM x_1/\SM x_1/\Bc (Z0<=Qba i n/\Qba i n<=QhV i n/\QhV i n<=(NI (Kj a))) False)) (by kernel_rfl) ?_
 delta DA GI LN N0 N1 N4 NI SI SM TN Z0 Z1 ZI KU V5 Jw V6 KV Kj KE V7 Qmj Qmk QhM QhN V8 J3 Y3 QhO QhP QhQ QhR QhS QhT V9 QhU Y4 Q3 Qml Qba QhV
 have da:(default:Arr)=Arr.mk 0 [] [] []:=rfl
 simp only[<- da]
 simp only[ne_eq,implies_true,Int.toNat_natCast,Bl,Be,decide_eq_true_eq,decide_eq_false_iff_not,true_and,and_true,beq_iff_eq,beq_eq_false_iff_ne,forall_const,Prod.exists]
 obtain ⟨hv,hs,hne,hn,hlen,hcap⟩:=h
 have hl:a.sh.length=0:=by rw[hs];rfl
 have hil:0<a.it.length:=List.length_pos_iff.2 hne
 have hgd:a.it.headD default=a.it.getD 0 default:=by cases a.it<;>rfl
 have hb:(Bj (a.it.getD 0 default)).1=0:=hv _ (Ch (by omega))
 simp only[hgd]
 refine fun _ _=>⟨fun _=>⟨⟨0,v,cap,⟨Nat.zero_le _,hcap⟩,rfl,⟨Bd _,Bd _,Bd _,rfl,rfl,rfl⟩,rfl,rfl,rfl,fun j hj=>(if_pos hj).symm⟩,?_⟩,fun e=>absurd hl (by omega)⟩
 rintro ⟨m,u,c0⟩ ⟨m1,m2⟩
 simp only at m1 m2 ⊢
 refine⟨fun hlt=>⟨⟨by omega,by omega⟩,?_,?_⟩,fun hge=>⟨u,c0,by omega,⟨Bd _,Bd _,Bd _,rfl,by omega,rfl⟩,rfl,by omega,rfl⟩⟩
 iterate 2
  ·refine⟨a.it.getD 0 default,⟨⟨rfl,⟨rfl,fun _ _=>rfl⟩,⟨rfl,fun _ _=>rfl⟩,rfl,fun _ _=>Bg _⟩,hb⟩,⟨Nat.le_refl _,by omega,by omega⟩,fun y c hc=>⟨⟨by omega,by omega⟩,?_,?_⟩⟩
   iterate 2
    ·refine⟨by omega,m+1,y,c,⟨by omega,by omega⟩,by omega,Bb (by omega) (by omega),⟨Bd _,Bd _,Bd _,rfl,rfl,rfl⟩,rfl,rfl,rfl,fun j hj=>?_⟩
     refine ME (fun _=>?_) hj
     unfold Bp
     rw[if_neg (by omega)]
     rfl
noncomputable def Es0:Senv:={ EC Il 108 5 [8,10,15,16,17,18,22,57,89,90,91,92] (fun id=>match id with | 5=>([0,1,2,3,4,5,6,7,8,10,9,11,12,13,15,16,14,17],[9,11,12,14,17]) | 6=>([0,1,2,3,4,5,6,7,8,9,10,11,12,13,14],[10,11,14]) | 15=>([0,1,2,3,4,6,5,7,8,9,11,12,10,13],[5,7,8,10,13]) | _=>([],[])) with
 unr:=fun b=>match b with
  |0=>1
  |_=>0 }
theorem Bfm(a:Arr)(s:List Int)(kk sd nud:D)(i x t:Nat)(h:a.sh=[]):ACalls Try.prog 41 ((sA0 a s kk sd nud i x t).args ()) ((sA0 a s kk sd nud i x t).st ()) (SpecR (sA0 a s kk sd nud i x t) ()):=by
 refine Bo (A:=sA0 a s kk sd nud i x t) (x:=()) (E:=Es0) (eOk Ec rfl) Try.func41 rfl (by kernel_rfl) rfl (by simp[sA0,Es0,EC,E0]) ?_
 refine Bu (T :=
  ∀(x_1:Nat),x≠x_1/\True->SM x_1/\ifB ((LI (Arr.sh a))==Z0) (True/\∃(y:Unit),True/\True/\(SM x/\(Bf kk kk/\Bf sd sd/\Bf nud nud/\(SM N0/\(∀(i:Nat),i<N0->Cr (List D) [] [])/\True)/\True)/\True)/\SM t/\True) (SM x_1/\SM x_1/\False)) (by kernel_rfl) ?_
 delta LI LN N0 SM Z0
 have da:(default:Arr)=Arr.mk 0 [] [] []:=rfl
 simp only[]
 simp only[ne_eq,implies_true,Bl,true_and,and_true,beq_iff_eq,beq_eq_false_iff_ne,exists_const]
 have hl:a.sh.length=0:=by rw[h];rfl
 exact fun _ _=>⟨fun _=>⟨Bd _,Bd _,Bd _⟩,fun e=>absurd hl (by omega)⟩
def insRen:Go.Shelf.Ren:=⟨fun | 15=>29 | 21=>56 | 27=>63 | 28=>64 | 35=>70 | 39=>72 | n=>n,fun | 0=>0 | 3=>3 | 4=>4 | 22=>23 | n=>n,fun n=>n⟩
theorem MI:Go.Proofs.Lays2.n21 Try.prog insRen:={
 mixed:=by kernel_rfl
 f21:=Try.func56.trans (congrArg some (by kernel_rfl))
 f27:=Try.func63.trans (congrArg some (by kernel_rfl))
 f28:=Try.func64.trans (congrArg some (by kernel_rfl))
 f35:=Try.func70.trans (congrArg some (by kernel_rfl))
 f39:=Try.func72.trans (congrArg some (by kernel_rfl))
 t0:=Try.underlying0
 a0:=Try.isAgg0
 z0:=Try.sizeOf0
 v0:=Try.zeroValue0
 t3:=Try.underlying3
 a3:=Try.isAgg3
 z3:=Try.sizeOf3
 v3:=Try.zeroValue3
 t4:=Try.underlying4
 a4:=Try.isAgg4
 z4:=Try.sizeOf4
 v4:=Try.zeroValue4
 t22:=Try.underlying23
 a22:=Try.isAgg23
 z22:=Try.sizeOf23
 v22:=Try.zeroValue23
 i3:=by kernel_rfl }
def BB(s:List Int)(cap:Nat):AObj:=.vec 1 s.length cap fun i=>[.int .i64 (s.getD i 0)]
theorem Wo{C:Ctx}:∀ {ds:List D} {vs:List Value},vs.length=ds.length->(∀(i:Nat) (d:D),ds[i]? =some d->∃v,vs[i]? =some v/\Rep C d v)->RepL C ds vs
 | [],vs,h,_=>by
  simp only[RepL]
  exact List.eq_nil_of_length_eq_zero h
 |d::ds,[],h,_=>by simp at h
 |d::ds,v::vs,h,k=>by
  simp only[RepL]
  obtain ⟨u,e,r⟩:=k 0 d rfl
  have e:v=u:=by simpa using e
  subst e
  exact⟨v,vs,rfl,r,Wo (by simpa using h) fun i d hd=>k (i+1) d (by simpa using hd)⟩
theorem Uv{C:Ctx}{w:World}{x cap:Nat}{s:List Int}(h:ObjAt C w x (BB s cap)):s.length<=cap/\∃arr E fz,w.heap[x]? =some (.cells arr E fz)/\Thawed arr fz/\arr.size=cap/\∀i,i<s.length->arr[i]? =some (.int .i64 (s.getD i 0)):=by
 obtain ⟨h1,h2,arr,E,fz,h3,h4,h5⟩:=h
 have hl:=RepL.length h5
 rw[BY h2 h1,Nat.mul_one,Array.length_toList] at hl
 refine⟨h1,arr,E,fz,h3,h4,hl,fun i hi=>?_⟩
 obtain ⟨v,e1,e2⟩:=RepL.get h5 i (.int .i64 (s.getD i 0)) (by rw[Gv h2,if_pos hi];rfl)
 simp only[Rep] at e2
 rw[<- e2,<- e1,Array.getElem?_toList]
theorem Gi{C:Ctx}{w:World}{x cap:Nat}{s:List Int}{arr:Array Value}{E:TypeId}{fz:Nat×Nat}(h1:s.length<=cap)(h3:w.heap[x]? =some (.cells arr E fz))(h4:Thawed arr fz)(h5:arr.size=cap)(h6:∀i,i<s.length->arr[i]? =some (.int .i64 (s.getD i 0))):ObjAt C w x (BB s cap):=by
 have h2:∀i,i<s.length->([D.int .i64 (s.getD i 0)]).length=1:=fun _ _=>rfl
 refine⟨h1,h2,arr,E,fz,h3,h4,Wo ?_ fun i d hd=>?_⟩
 ·rw[BY h2 h1,Nat.mul_one,Array.length_toList,h5]
 ·rw[Gv h2] at hd
  rw[Array.getElem?_toList]
  by_cases hi:i<s.length
  ·rw[if_pos hi] at hd
   cases hd
   exact⟨_,h6 i hi,by simp[Rep]⟩
  ·rw[if_neg hi] at hd
   split at hd
   ·cases hd
    have:i<arr.size:=by omega
    exact⟨arr[i],by simp[this],by simp[Rep]⟩
   ·cases hd
theorem CC{b : Nat}{E : TypeId}{fz : Nat×Nat} : ∀(vs : List Value) (o : Nat) (w : World) (arr : Array Value), w.heap[b]? =some (.cells arr E fz) -> o+vs.length<=arr.size ->
  ∃arr',(w.setCells b o vs).heap[b]? =some (.cells arr' E fz)/\arr'.size=arr.size/\(∀j v,vs[j]? =some v->arr'[o+j]? =some v)/\(∀k,k<o\/o+vs.length<=k->arr'[k]? =arr[k]?) /\
   (w.setCells b o vs).heap.size=w.heap.size/\(∀k,k≠b->(w.setCells b o vs).heap[k]? =w.heap[k]?)/\(w.setCells b o vs).os=w.os/\(w.setCells b o vs).tape=w.tape/\(w.setCells b o vs).output=w.output
 | [],o,w,arr,h,_=>⟨arr,h,rfl,fun j v hj=>by simp at hj,fun _ _=>rfl,rfl,fun _ _=>rfl,rfl,rfl,rfl⟩
 |v::vs,o,w,arr,h,hl=>by
  have hl:o+(vs.length+1)<=arr.size:=by simpa using hl
  have h1:=Co (o:=o) h v
  obtain ⟨arr',a1,a2,a3,a4,a5,a6,a7,a8,a9⟩:=CC vs (o+1) (w.setCell ⟨b,o,none⟩ v) _ h1 (by simp;omega)
  refine⟨arr',a1,by simpa using a2,fun j u hj=>?_,fun k hk=>?_,by rw[World.setCells,a5];simp[World.setCell],fun k hk=>by rw[World.setCells,a6 k hk];exact RowKit.Below.heap_setCell _ _ _ _ hk,by rw[World.setCells,a7];rfl,by rw[World.setCells,a8];rfl,by rw[World.setCells,a9];rfl⟩
  ·cases j with
   |zero =>
    have e:v=u:=by simpa using hj
    subst e
    rw[Nat.add_zero,a4 o (.inl (Nat.lt_succ_self o))]
    simp[show o<arr.size by omega]
   |succ j =>
    have:=a3 j u (by simpa using hj)
    rw[<- this];congr 1;omega
  ·have hk:k<o\/o+(vs.length+1)<=k:=by simpa using hk
   rw[a4 k (by omega)]
   simp[show o≠k by omega]
theorem Bet(x vb c : Nat)(s : List Int)(hs0 : s≠[] /\ s.length<=8) :
  ACalls Try.prog 56 [.vs 0 x s.length c 1,.int .i64 0,.vs 1 vb 1 1 1] ⟨[(0,x,BB s c),(1,vb,BB [1] 1)],[]⟩
   (fun r S'=>∃y c',s.length+1<=c'/\r=.ret (.vs 99 y (s.length+1) c' 1)/\S'=⟨[(99,y,BB (1::s) c')],[]⟩):=by
 refine⟨⟨_,Try.func56,by kernel_rfl,by kernel_rfl⟩,fun C F args w ha hs=>?_⟩
 obtain ⟨hne,h8⟩:=hs0
 have hpos:0<s.length:=List.length_pos_iff.2 hne
 simp only[RepL,Rep] at ha
 obtain ⟨v1,l1,e1,⟨rfl,hc1,hc2⟩,v2,l2,e2,rfl,v3,l3,e3,⟨rfl,_,_⟩,e4⟩:=ha
 have ea:args=#[.slice (some ⟨x,0,none⟩) s.length c,.int .i64 0,.slice (some ⟨vb,0,none⟩) 1 1]:=by
  have:args.toList=[.slice (some ⟨x,0,none⟩) s.length c,.int .i64 0,.slice (some ⟨vb,0,none⟩) 1 1]:=by rw[e1,e2,e3,e4]
  rw[<- this]
 subst ea
 obtain ⟨bx,_,ho1⟩:=hs.obj_of (k:=0) (x:=x) (o:=BB s c) (by simp[Bz])
 obtain ⟨bv,_,ho2⟩:=hs.obj_of (k:=1) (x:=vb) (o:=BB [1] 1) (by simp[Bz])
 obtain ⟨_,arr,E,fz,p1,p2,p3,p4⟩:=Uv ho1
 obtain ⟨_,arr2,E2,fz2,q1,q2,q3,q4⟩:=Uv ho2
 have hne2:vb≠x:=by
  have:=hs.nodup
  simp only[St.add,List.cons_append,List.nil_append,List.map_cons,List.nodup_cons,List.mem_cons,not_or] at this
  exact fun e=>this.1.1 e.symm
 have hx:=ho1.lt
 have hv:=ho2.lt
 let cs:List Value:=s.map fun z=>.int .i64 z
 let vs:List Value:=[.int .i64 1]
 have hcl:cs.length=s.length:=by simp[cs]
 have hcg:∀j v,cs[j]? =some v->j<s.length/\v=.int .i64 (s.getD j 0):=fun j v hj=>by
  simp only[cs,List.getElem?_map] at hj
  cases hq:s[j]? with
  |none=>rw[hq] at hj;cases hj
  |some z =>
   rw[hq] at hj
   have hj2:j<s.length:=(List.getElem?_eq_some_iff.1 hq).1
   have:v=.int .i64 z:=by simpa using hj.symm
   exact⟨hj2,by rw[this,List.getD_eq_getElem?_getD,hq];rfl⟩
 have hcs:∀j v,cs[j]? =some v->w.cell? ⟨x,0+j,none⟩=some v:=fun j v hj=>by
  obtain ⟨h1,h2⟩:=hcg j v hj
  rw[Bt p1,Nat.zero_add,p4 j h1,h2]
 have hvs:∀j v,vs[j]? =some v->w.cell? ⟨vb,0+j,none⟩=some v:=fun j v hj=>by
  cases j with
  |zero =>
   rw[Bt q1,Nat.zero_add,q4 0 (by simp)]
   have:v=.int .i64 1:=by simpa[vs] using hj.symm
   rw[this];rfl
  |succ j=>simp[vs] at hj
 have h1c:∀v∈cs,v.oneCell'=true:=fun v hv=>by
  obtain ⟨z,_,rfl⟩:=List.mem_map.1 hv;rfl
 have h1v:∀v∈vs,v.oneCell'=true:=fun v hv=>by
  rw[List.mem_singleton.1 hv];rfl
 have hmk:∀ {A:Array Value},A[0]? =some (.int .i64 1)->(∀j,j<s.length->A[1+j]? =some (.int .i64 (s.getD j 0)))->∀i,i<(1::s).length->A[i]? =some (.int .i64 ((1::s).getD i 0)):=fun {A} h0 hj i hi=>by
  cases i with
  |zero=>exact h0
  |succ i =>
   have:=hj i (by simpa using hi)
   rw[Nat.add_comm] at this
   simpa using this
 by_cases hroom:c<s.length+1
 ·refine (Any2.slices_Insert_int_grow MI x 0 s.length c 0 vb 0 1 1 cs vs w hpos (by decide) hc1 hroom (by omega) hcl rfl hcs hvs h1c h1v).mono ?_
  rintro e w' ⟨rfl,rfl⟩
  have hG:s.length+1<=grownCap w (s.length+1) c (insRen.t 3):=grownCap_ge w _ _ _
  have hG63:=grownCap_le_maxLen w (s.length+1) c (insRen.t 3) (by simp only[maxLen];omega)
  generalize grownCap w (s.length+1) c (insRen.t 3)=G at *
  generalize hA:(List.take 0 cs).toArray++Builtin.zeroCells (Value.int IntKind.i64 0).cells (s.length+1-0)++Builtin.zeroCells (Value.int IntKind.i64 0).cells (G-(s.length+1))=A at *
  have hAs:A.size=G:=by
   rw[<- hA]
   simp[Builtin.zeroCells,Value.cells]
   omega
  have H0:=hs.alloc_own (.cells A (insRen.t 3)) (BB [] G) 9 fun w' hw=>Gi (Nat.zero_le _) hw rfl hAs fun i hi=>absurd hi (Nat.not_lt_zero i)
  have H1:=H0.drew
  obtain ⟨A1,a1,a2,a3,a4,a5,a6,a7,a8,a9⟩:=CC (b:=w.heap.size) (E:=insRen.t 3) (fz:=(0,0)) vs 0 ((w.alloc (.cells A (insRen.t 3))).drew) A (show (w.heap.push _)[w.heap.size]? =_ from Array.getElem?_push_size) (by rw[hAs];simp only[vs,List.length_cons,List.length_nil];omega)
  have H2:=Sat.replace (S:=⟨[(9,w.heap.size,BB [] G),(0,x,BB s c),(1,vb,BB [1] 1)],[]⟩) (F:=F) (t:=9) (x:=w.heap.size) (o:=BB [] G) (o':=BB [1] G) H1 (by simp[Bz]) a5 a6 a7 a8 a9 (Gi (by simp;omega) a1 rfl (by omega) fun i hi=>by
   obtain rfl:i=0:=by simpa using hi
   exact a3 0 _ rfl)
  have H3:=H2.drew
  obtain ⟨A2,b1,b2,b3,b4,b5,b6,b7,b8,b9⟩:=CC (b:=w.heap.size) (E:=insRen.t 3) (fz:=(0,0)) (cs.drop 0) (0+1) _ A1 (show (((w.alloc (.cells A (insRen.t 3))).drew.setCells w.heap.size 0 vs).drew).heap[w.heap.size]? =_ from a1) (by rw[List.drop_zero,hcl];omega)
  have H4:=Sat.replace (S:=⟨[(9,w.heap.size,BB [1] G),(0,x,BB s c),(1,vb,BB [1] 1)],[]⟩) (F:=F) (t:=9) (x:=w.heap.size) (o:=BB [1] G) (o':=BB (1::s) G) H3 (by simp[Bz]) b5 b6 b7 b8 b9 (Gi (by simpa using hG) b1 rfl (by omega) (hmk (by rw[b4 0 (.inl (by omega))];exact a3 0 _ rfl) fun j hj=>b3 j _ (by
   rw[List.drop_zero]
   simp only[cs,List.getElem?_map,List.getD_eq_getElem?_getD,List.getElem?_eq_getElem hj,Option.map_some,Option.getD_some])))
  refine⟨C,.ret (.vs 99 w.heap.size (s.length+1) G 1),⟨[(99,w.heap.size,BB (1::s) G)],[]⟩,.refl C,?_,?_,w.heap.size,G,hG,rfl,rfl⟩
  ·have h4:Sat C (St.add ⟨[(9,w.heap.size,BB (1::s) G),(0,x,BB s c),(1,vb,BB [1] 1)],[]⟩ F) _:=H4
   exact (StTo.perm (S:=⟨[(9,w.heap.size,BB (1::s) G),(0,x,BB s c),(1,vb,BB [1] 1)],[]⟩) (S':=⟨[(99,w.heap.size,BB (1::s) G)],[]⟩) (r1:=[(x,BB s c),(vb,BB [1] 1)]) (r2:=[]) (by simp) (by simp)) C F _ h4
  ·simp only[RepEnd,Rep]
   exact⟨trivial,hG,hG63⟩
 ·have hk1:w.shape? vb=some (E2,1):=by
   unfold World.shape?
   rw[q1]
   simp[q3]
  have hk2:w.shape? x=some (E,c):=by
   unfold World.shape?
   rw[p1]
   simp[p3]
  refine (Any2.slices_Insert_int_shift MI x 0 s.length c 0 vb 0 1 1 cs vs w hpos (by decide) (by omega) (by simpa[maxLen] using hc2) hne2 hcl rfl hcs (fun j hj=>?_) (fun j hj=>EZ p1 p2) hvs h1c h1v E2 E 1 c hk1 hk2 (by omega) (EZ q1 q2) (EZ q1 q2)).mono ?_
  ·rw[Bt p1,Nat.zero_add,Array.getElem?_eq_getElem (show j<arr.size by omega)]
   rfl
  rintro e w' ⟨rfl,rfl⟩
  have H1:=hs.drew
  obtain ⟨A1,a1,a2,a3,a4,a5,a6,a7,a8,a9⟩:=CC (b:=x) (E:=E) (fz:=fz) (cs.drop 0) (0+(0+1)) w.drew arr p1 (by rw[List.drop_zero,hcl];omega)
  obtain ⟨A2,b1,b2,b3,b4,b5,b6,b7,b8,b9⟩:=CC (b:=x) (E:=E) (fz:=fz) vs (0+0) _ A1 a1 (by simp[vs];omega)
  have H2:=Sat.replace (S:=⟨[(0,x,BB s c),(1,vb,BB [1] 1)],[]⟩) (F:=F) (t:=0) (x:=x) (o:=BB s c) (o':=BB (1::s) c) H1 (by simp[Bz]) (b5.trans a5) (fun k hk=>(b6 k hk).trans (a6 k hk)) (b7.trans a7) (b8.trans a8) (b9.trans a9) (Gi (by simp;omega) b1 p2 (by omega) (hmk (b3 0 _ rfl) fun j hj=>by
   rw[b4 (1+j) (.inr (by simp[vs]))]
   have:=a3 j (.int .i64 (s.getD j 0)) (by
    rw[List.drop_zero]
    simp only[cs,List.getElem?_map,List.getD_eq_getElem?_getD,List.getElem?_eq_getElem hj,Option.map_some,Option.getD_some])
   simpa using this))
  refine⟨C,.ret (.vs 99 x (s.length+1) c 1),⟨[(99,x,BB (1::s) c)],[]⟩,.refl C,?_,?_,x,c,by omega,rfl,rfl⟩
  ·exact (StTo.perm (S:=⟨[(0,x,BB (1::s) c),(1,vb,BB [1] 1)],[]⟩) (S':=⟨[(99,x,BB (1::s) c)],[]⟩) (r1:=[(vb,BB [1] 1)]) (r2:=[]) (by simp) (by simp)) C F _ H2
  ·simp only[RepEnd,Rep]
   exact⟨trivial,by omega,hc2⟩
def czR(r:AEnd)(S:St):Prop:=(r=.ret (.sl 1 0 (fun _=>[]) .nil)/\S=⟨[],[]⟩)\/∃(t:Nat) (f:Nat->List D),r=.ret (.sl 1 0 f (.tok 0 t))/\S=⟨[],[(0,t)]⟩
noncomputable def Ecz:Senv:=EC E5 8 1 [2,4] (fun _=>([],[]))
theorem Bfe(l:List Int)(hl:l.length=0):ACalls Try.prog 29 [isl l .any] ⟨[],[]⟩ czR:=by
 refine T2 (E:=Ecz) (eOk BN rfl) Try.func29 rfl (by kernel_rfl) rfl (by simp[Ecz,EC,E0]) ?_
 refine Bu (T :=
  ∀(r:Bool),(r=true->LN l=N0)->ifB r (True/\czR (AEnd.ret (D.sl N1 N0 (fun x=>[]) Mode.nil)) (St.mk [] [])) (Bc ((N0+LN l)*8<=140737488355328/\N0+LN l<=9223372036854775807) (∀(t:Nat),True/\czR (AEnd.ret (D.sl N1 (N0+LN l) (Bp N0 (fun i=>[D.str []]) fun i=>[ZI (GI l i)]) (Mode.tok N0 t))) (St.mk [] [(N0,t)])))) (by kernel_rfl) ?_
 delta GI LN N0 N1 Z0 ZI
 simp only[Bl,Be,true_and]
 intro r _
 rw[hl]
 exact⟨fun _=>.inl ⟨rfl,rfl⟩,fun _=>⟨⟨by omega,by omega⟩,fun t=>.inr ⟨t,_,rfl,rfl⟩⟩⟩
theorem Sat.tok_obj{C : Ctx}{O : List (Nat×Nat×AObj)}{T : List (Nat×Nat)}{w : World}{kt t b cap wd : Nat}(H : Sat C ⟨O, (kt, t)::T⟩ w)(ht : C.tok t=some (.at b 0 cap wd))(k : Nat){o : AObj}(ho : ObjAt C w b o)(hnl : o.isLent=false:=by rfl) :
  Sat C ⟨(k,b,o)::O,T⟩ w:=by
 obtain ⟨x,e1,e2,e3⟩:=H.toks (kt,t) (by simp)
 simp only at e1 e2
 rw[ht] at e1
 obtain rfl:Tok.at b 0 cap wd=x:=by simpa using e1
 obtain ⟨z1,z2,_⟩:=e2
 have hn:=H.tnodup
 simp only[List.map_cons,List.nodup_cons] at hn
 refine⟨H.below,H.imm,H.one,fun p hp=>?_,?_,fun t2 h2=>?_,hn.2,H.tfin,fun t1 t2 b1 n1 c1 w1 b2 n2 c2 w2 h1 h2=>H.tdist t1 t2 b1 n1 c1 w1 b2 n2 c2 w2 (List.mem_cons_of_mem _ h1) (List.mem_cons_of_mem _ h2)⟩
 ·rcases List.mem_cons.1 hp with rfl | hp
  ·exact⟨z1,(ImmNone.iff hnl).2 fun o=>z2 o (by omega),ho⟩
  ·exact H.objs p hp
 ·simp only[List.map_cons,List.nodup_cons]
  refine⟨fun hm=>?_,H.nodup⟩
  obtain ⟨p,hp,e⟩:=List.mem_map.1 hm
  exact e3 p hp e.symm
 ·obtain ⟨x,f1,f2,f3⟩:=H.toks t2 (List.mem_cons_of_mem _ h2)
  refine⟨x,f1,f2,fun p hp=>?_⟩
  rcases List.mem_cons.1 hp with rfl | hp
  ·intro hc
   cases x with
   |no=>exact hc
   | «at» b2 n2 c2 w2 =>
    have hne:t≠t2.2:=fun e=>hn.1 (e ▸ List.mem_map.2 ⟨t2,h2,rfl⟩)
    exact H.tdist (kt,t) t2 b 0 cap wd b2 n2 c2 w2 (by simp) (List.mem_cons_of_mem _ h2) hne ht f1 (Eq.symm hc)
  ·exact f3 p hp
theorem Bej(vb : Nat)(f : Nat -> List D)(m : Go.Ab.Mode)(T : List (Nat×Nat))(hm : (m=.nil /\ T=[]) \/ ∃t, m=.tok 1 t /\ T=[(1, t)]) :
  ACalls Try.prog 56 [.sl 1 0 f m,.int .i64 0,.vs 1 vb 1 1 1] ⟨[(1,vb,BB [1] 1)],T⟩
   (fun r S'=>∃y c',1<=c'/\r=.ret (.vs 99 y 1 c' 1)/\S'=⟨[(99,y,BB [1] c')],[]⟩):=by
 refine⟨⟨_,Try.func56,by kernel_rfl,by kernel_rfl⟩,fun C F args w ha hs=>?_⟩
 simp only[RepL,Ip] at ha
 obtain ⟨v1,l1,e1,⟨base,len,cap,rfl,⟨h1,h2,h3,h4,h5,h6⟩,_⟩,v2,l2,e2,r2,v3,l3,e3,r3,e4⟩:=ha
 simp only[Rep] at r2 r3
 simp only[List.range_zero,List.map_nil,List.length_nil] at h1 h2 h4 h6
 obtain rfl:=r2
 obtain ⟨rfl,_,_⟩:=r3
 have ea:args=#[.slice base 0 cap,.int .i64 0,.slice (some ⟨vb,0,none⟩) 1 1]:=by
  have:args.toList=[.slice base 0 cap,.int .i64 0,.slice (some ⟨vb,0,none⟩) 1 1]:=by rw[e1,e2,e3,e4,h1]
  rw[<- this]
 subst ea
 obtain ⟨bv,_,ho2⟩:=hs.obj_of (k:=1) (x:=vb) (o:=BB [1] 1) (by simp[Bz])
 obtain ⟨_,arr2,E2,fz2,q1,q2,q3,q4⟩:=Uv ho2
 let vs:List Value:=[.int .i64 1]
 have hvs:∀j v,vs[j]? =some v->w.cell? ⟨vb,0+j,none⟩=some v:=fun j v hj=>by
  cases j with
  |zero =>
   rw[Bt q1,Nat.zero_add,q4 0 (by simp)]
   have:v=.int .i64 1:=by simpa[vs] using hj.symm
   rw[this];rfl
  |succ j=>simp[vs] at hj
 have h1v:∀v∈vs,v.oneCell'=true:=fun v hv=>by
  rw[List.mem_singleton.1 hv];rfl
 by_cases hc:cap=0
 ·subst hc
  refine (Any2.slices_Insert_int_end_grow MI base 0 0 vb 0 1 1 [] vs w (by decide) (Nat.le_refl _) (by decide) (by decide) rfl rfl (fun _=>rfl) (fun _ _ j v hj=>by simp at hj) hvs h1v).mono ?_
  rintro e w' ⟨rfl,rfl⟩
  have hG:0+1<=grownCap w (0+1) 0 (insRen.t 3):=grownCap_ge w _ _ _
  have hG63:=grownCap_le_maxLen w (0+1) 0 (insRen.t 3) (by simp only[maxLen];omega)
  generalize grownCap w (0+1) 0 (insRen.t 3)=G at *
  generalize hA:([]++vs).toArray++Builtin.zeroCells (Value.int IntKind.i64 0).cells (G-(0+1))=A at *
  have hAs:A.size=G:=by
   rw[<- hA]
   simp[Builtin.zeroCells,Value.cells,vs]
   omega
  have hA0:A[0]? =some (.int .i64 1):=by
   rw[<- hA,Array.getElem?_append_left (by simp[vs])]
   rfl
  have H1:=hs.drew
  have H2:=H1.alloc_own (.cells A (insRen.t 3)) (BB [1] G) 0 fun w' hw=>Gi (by simpa using hG) hw rfl hAs fun i hi=>by
   obtain rfl:i=0:=by simpa using hi
   exact hA0
  refine⟨C,.ret (.vs 99 w.heap.size 1 G 1),⟨[(99,w.heap.size,BB [1] G)],[]⟩,.refl C,?_,?_,w.heap.size,G,hG,rfl,rfl⟩
  ·have h4:Sat C (St.add ⟨[(0,w.heap.size,BB [1] G),(1,vb,BB [1] 1)],T⟩ F) _:=H2
   exact (StTo.perm (S:=⟨[(0,w.heap.size,BB [1] G),(1,vb,BB [1] 1)],T⟩) (S':=⟨[(99,w.heap.size,BB [1] G)],[]⟩) (r1:=[(vb,BB [1] 1)]) (r2:=T.map (·.2)) (by simp) (by simp)) C F _ h4
  ·simp only[RepEnd,Rep]
   exact⟨trivial,hG,hG63⟩
 ·rcases hm with ⟨rfl,rfl⟩ | ⟨t,rfl,rfl⟩
  ·simp only at h6
   exact absurd (h4 h6).2 hc
  obtain ⟨x,x1,x2,x3⟩:=hs.toks (1,t) (by simp[St.add])
  simp only at x1 x2
  simp only[x1] at h6
  cases x with
  |no=>exact absurd h6.1 hc
  | «at» b n' cap' wd =>
   obtain ⟨rfl,hn,hcp,hwd⟩:=h6
   subst hn hcp hwd
   obtain ⟨z1,z2,arr,E,fz,z3,z4,z5,_⟩:=x2
   have z5:arr.size=cap':=by rw[z5,Nat.mul_one]
   refine (Any2.slices_Insert_int_end_room MI b 0 0 cap' vb 0 1 1 vs w (by decide) (by omega) (by simpa[maxLen] using h3) rfl (fun j hj=>?_) (fun j hj=>EZ z3 z4) hvs h1v).mono ?_
   ·rw[Bt z3,Array.getElem?_eq_getElem (show 0+0+j<arr.size by omega)]
    rfl
   rintro e w' ⟨rfl,rfl⟩
   have H1:Sat C (St.add ⟨[(9,b,BB [] cap'),(1,vb,BB [1] 1)],[]⟩ F) w:=Sat.tok_obj (kt:=1) (O:=[(1,vb,BB [1] 1)]++F.objs) (T:=F.toks) hs x1 9 (Gi (Nat.zero_le _) z3 z4 z5 fun i hi=>absurd hi (Nat.not_lt_zero i))
   obtain ⟨A1,a1,a2,a3,a4,a5,a6,a7,a8,a9⟩:=CC (b:=b) (E:=E) (fz:=fz) vs (0+0) w arr z3 (by simp[vs];omega)
   have H2:=Sat.replace (S:=⟨[(9,b,BB [] cap'),(1,vb,BB [1] 1)],[]⟩) (F:=F) (t:=9) (x:=b) (o:=BB [] cap') (o':=BB [1] cap') H1 (by simp[Bz]) a5 a6 a7 a8 a9 (Gi (by simp;omega) a1 z4 (by omega) fun i hi=>by
    obtain rfl:i=0:=by simpa using hi
    exact a3 0 _ rfl)
   refine⟨C,.ret (.vs 99 b 1 cap' 1),⟨[(99,b,BB [1] cap')],[]⟩,.refl C,?_,?_,b,cap',by omega,rfl,rfl⟩
   ·have h4:Sat C (St.add ⟨[(9,b,BB [1] cap'),(1,vb,BB [1] 1)],[]⟩ F) _:=H2
    exact (StTo.perm (S:=⟨[(9,b,BB [1] cap'),(1,vb,BB [1] 1)],[]⟩) (S':=⟨[(99,b,BB [1] cap')],[]⟩) (r1:=[(vb,BB [1] 1)]) (r2:=[]) (by simp) (by simp)) C F _ h4
   ·simp only[RepEnd,Rep]
    exact⟨trivial,by omega,h3⟩
def czQ(r:AEnd)(S:St):Prop:=(r=.ret (.sl 1 0 (fun _=>[]) .nil)/\S=⟨[],[]⟩)\/∃t,r=.ret (.sl 1 0 (fun _=>[]) (.tok 1 t))/\S=⟨[],[(0,t)]⟩
theorem BeM(f:Nat->List D):ACalls Try.prog 29 [.sl 1 0 f .any] ⟨[],[]⟩ czQ:=by
 have h:=(Bfe [] rfl).wkArgs (ds:=[.sl 1 0 f .any]) (by
  simp only[isl,wkL,wkD,Ba]
  exact⟨⟨rfl,rfl,fun i hi=>absurd hi (Nat.not_lt_zero i),by simp[Bw]⟩,trivial⟩)
 refine (ACalls.wkEnd h (R':=czQ) fun r S' hr=>?_)
 rcases hr with ⟨rfl,rfl⟩ | ⟨t,g,rfl,rfl⟩
 ·exact⟨_,fun C e he=>he,.inl ⟨rfl,rfl⟩⟩
 ·refine⟨.ret (.sl 1 0 (fun _=>[]) (.tok 1 t)),fun C e he=>?_,.inr ⟨t,rfl,rfl⟩⟩
  cases e with
  |returned v =>
   simp only[RepEnd,Ip,List.range_zero,List.map_nil] at he ⊢
   exact he
  |panicked _=>exact he.elim
  |outgrown=>exact he.elim
end
end Go.Proofs.Ytgkifngdbpjccaa
