/- Functions of the given program and what each of them computes: lemmas towards the statement, their conditions stated with each of them. -/
import Derived.Test.YtgkifngdbpjccaaS2
namespace Go.Proofs.Ytgkifngdbpjccaa
open Go Go.Ab
set_option maxRecDepth 100000
noncomputable section
theorem evA{con:Con}(hc:ConOk Try.prog con){E:Senv}(h:E={ EC con E.n E.V E.cross E.ord with gh:=E.gh,gr:=E.gr,unr:=E.unr,cut:=E.cut,ann:=E.ann,cut2:=E.cut2,ann2:=E.ann2,own:=E.own,gz:=E.gz,mg:=E.mg,pvt:=E.pvt,bcut:=E.bcut,bd:=E.bd,inl:=Go.Ab.inlA }):EnvOk E:=by
 rw[h]
 exact⟨Wk,hc,mix,Bck,Wj⟩
def riP(x y:Arr)(ds:List D):Prop:=∃b,(b=x\/b=y)/\wkL ds [.agg b.row1]
def exP(x y:Arr)(cs:List D)(lk:D)(rk ax:Int):Prop:=∃b,(b=x\/b=y)/\cs=[.int .i64 b.k,isl b.sh .any,isl b.nu .any,gsl 4 Arr.row b.it]/\(∃l,wkL [lk] [isl l .any])/\rk=(b.sh.length:Nat)/\∃n:Nat,ax=n
def shP(s:List Int)(ds:List D):Prop:=wkL ds [isl s .any]
def rwP(s:List Int)(d:D):Prop:=wkL [d] [isl s .any]
def Bbo(x y:Arr)(s:List Int):Con:=fun k ds S=>match k with
 |21=>some (pA ds S (.int .i64 0) (riP x y ds))
 |37=>match ds with
  | [.agg [c0,c1,c2,c3],lk,.int .i64 rk,.int .i64 ax]=>some (pA ds S (.agg [c0,c1,c2,c3,c1]) (exP x y [c0,c1,c2,c3] lk rk ax))
  |_=>none
 |29=>some ((sCi 17 x.sh).fits () (ds=[isl x.sh .any]))
 |38=>some (pA ds S (.bool true) (shP s ds))
 |39=>some (pE (β:=Arr) ds S (fun b=>.int .i64 (wtA b)) (fun b=>ds=[exD b b.sh]/\(b=x\/b=y)))
 |40=>match ds with
  | [d,.int .i64 fr]=>match Nat.beq fr.toNat 0 with
   |true=>some (pA ds S (.tup [.int .i64 1,.int .i64 (prL (shN s):Nat)]) (rwP s d/\fr=0))
   |false=>some (pA ds S (.tup [.int .i64 (prL (shN (s.take 1)):Nat),.int .i64 (prL (shN (s.drop 1)):Nat)]) (rwP s d/\fr=1))
  |_=>none
 |_=>none
structure JoH (x y:Arr) (s:List Int):Prop where
 hx:(Bi x).1=0
 hy:(Bi y).1=0
 ox:x.ok
 oy:y.ok
 hk:x.k=y.k
 nx:x.sh≠[]
 ny:y.sh≠[]
 ht:x.sh.tail=y.sh.tail
 hs:s=(x.sh.headD 0+y.sh.headD 0)::x.sh.tail
 hr:Bk s=true
 hw:wtA x+wtA y<=262144
theorem JoH.r8{x y:Arr}{s:List Int}(h:JoH x y s):Bk x.sh=true/\Bk y.sh=true:=⟨(BN.1 (BJ h.hx)).2.1,(BN.1 (BJ h.hy)).2.1⟩
theorem Ba6{x y:Arr}{s:List Int}(h:JoH x y s):ConOk Try.prog (Bbo x y s):=by
 intro k ds S A hh
 obtain ⟨rx,ry⟩:=h.r8
 have lx:=((Bq _).1 rx).1
 have ly:=((Bq _).1 ry).1
 unfold Bbo at hh
 split at hh
 ·injection hh with hh;subst hh
  refine BB fun ⟨b,hb,e⟩=>CD.at_ (CD.wk ?_ e) _
  obtain rfl | rfl:=hb
  ·have:=IV _ h.ox
   rw[h.hx] at this;exact this
  ·have:=IV _ h.oy
   rw[h.hy] at this;exact this
 ·split at hh
  ·injection hh with hh;subst hh
   refine BB ?_
   rintro ⟨b,hb,e,⟨l,hl⟩,rfl,n,rfl⟩
   injection e with e0 e
   injection e with e1 e
   injection e with e2 e
   injection e with e3 e
   subst e0 e1 e2 e3
   refine CD.at_ (CD.wk (Bd6 b l n ?_) ?_) _
   ·obtain rfl | rfl:=hb
    ·exact⟨h.nx,lx⟩
    ·exact⟨h.ny,ly⟩
   ·simp only[wkL] at hl ⊢
    exact⟨CE _,hl.1,CE _,CE _,trivial⟩
  ·cases hh
 ·injection hh with hh;subst hh
  exact FnSpec.fits_ok (fun _ hy=>Ro _ _ hy) fun e=>by rw[e];exact⟨Bl _,Gp S⟩
 ·injection hh with hh;subst hh
  refine BB fun e=>CD.at_ (CD.wk ?_ e) _
  have:=Gj s
  rw[h.hr] at this;exact this
 ·injection hh with hh;subst hh
  refine Es fun b ⟨e,hb⟩=>CD.at_ ?_ _
  rw[e]
  refine Bem b b.sh ?_ ?_
  ·obtain rfl | rfl:=hb
   ·exact h.ox
   ·exact h.oy
  ·obtain rfl | rfl:=hb
   ·exact h.nx
   ·exact h.ny
 ·split at hh
  ·split at hh
   ·injection hh with hh;subst hh
    refine BB fun ⟨e,e2⟩=>CD.at_ (CD.wk (Bdd s 0 h.hr (Nat.zero_le _)) ?_) _
    rw[e2]
    simp only[rwP,wkL] at e ⊢
    exact⟨e.1,CE _,trivial⟩
   ·injection hh with hh;subst hh
    refine BB fun ⟨e,e2⟩=>CD.at_ (CD.wk (Bdd s 1 h.hr (by rw[h.hs];simp)) ?_) _
    rw[e2]
    simp only[rwP,wkL] at e ⊢
    exact⟨e.1,CE _,trivial⟩
  ·cases hh
 ·cases hh
def exO(a:Arr)(s:List Int):AObj:=.cells [.int .i64 a.k,isl a.sh .any,isl a.nu .any,gsl 4 Arr.row a.it,isl s .any]
theorem US{a:Arr}(h:(Bi a).1=0):∀b∈a.it,(Bi b).1=0:=by
 cases a with
 |mk k s n i=>exact (C4 h).2.2.2
theorem BdE{a:List Int}{z:Nat->List D}{n i:Nat}:By 0 z (nuS a (0*n)) i=[.int .i64 (a.getD i 0)]:=by
 unfold By nuS
 rw[if_neg (Nat.not_lt_zero i),Nat.zero_mul,Nat.zero_add,Nat.sub_zero]
theorem BdC{a b:List Int}{z:Nat->List D}{n m i:Nat}(h:a.length=n):By (0+n) (By 0 z (nuS a (0*n))) (nuS b (0*m)) i=[.int .i64 ((a++b).getD i 0)]:=by
 rw[By,BdE,Nat.zero_add]
 unfold nuS
 split
 ·rename_i hi
  rw[List.getD_eq_getElem?_getD,List.getD_eq_getElem?_getD,List.getElem?_append_left (by omega)]
 ·rw[List.getD_eq_getElem?_getD,List.getD_eq_getElem?_getD,List.getElem?_append_right (by omega),Nat.zero_mul,Nat.zero_add,h]
theorem U5{a:List Arr}{n i:Nat}:itS a (0*n) i=(a.getD i default).row1:=by
 unfold itS
 rw[Nat.zero_mul,Nat.zero_add]
theorem Bds{a b:List Arr}{n m i:Nat}(h:a.length=n):By n (itS a (0*n)) (itS b (0*m)) i=((a++b).getD i default).row1:=by
 rw[By,U5,U5]
 split
 ·rename_i hi
  rw[List.getD_eq_getElem?_getD,List.getD_eq_getElem?_getD,List.getElem?_append_left (by omega)]
 ·rw[List.getD_eq_getElem?_getD,List.getD_eq_getElem?_getD,List.getElem?_append_right (by omega),h]
noncomputable def Ejo(x y:Arr)(s:List Int):Senv:={ EC (Bbo x y s) 179 5 [6,7,8,9,10,11,12,13,14,15,16,17,18,19,20,21,22,30,38,45,68,86,87,88,105,129,163,164,165] (fun id=>match id with | 3=>([0,1,2,3,4,5,6,7],[]) | 12=>([0,1,2,3,4,6,7,8,9,10,5,11,12,13,14,15],[5,11,12,13,14,15]) | 17=>([0,1,2,3,4,5,6,7,8,9,10,11,12,13,14,15],[]) | 20=>([0,1,2,3,4,5,6,7,8,9,10,11],[11]) | 21=>([0,1,2,3,4,6,5,7,8,9,10],[1,5,7]) | 26=>([0,1,2,3,4,5,6,7,8,9,10,11,12,13,14,15,16],[15,16]) | _=>([],[])) with
 inl:=Go.Ab.inlA
 gz:=fun r=>match r with
  |21=>[.slot 14]
  |24=>[.cell 17 102]
  |_=>[]
 unr:=fun b=>match b with
  |3=>2
  |_=>0
 gr:=[.cell 2 403]
 cut:=fun id _env S=>match id with
  |12=>some { slots:=[12,13],keep:=[2,3,4,6,7,8,9,10,11],α:=Nat×Nat,st:=fun b=>([.ref 15 b.1 0,.ref 16 b.2 0],⟨(16,b.2,exO y y.sh)::(15,b.1,exO x x.sh)::S.objs,S.toks⟩),inv:=fun _=>True,mu:=fun _=>0 }
  |_=>none
 ann:=fun b _env S=>match b with
  |1=>some { slots:=[87],keep:=[2,3,4,6,7,8,9,10,11,12,13,14,86],α:=Nat,st:=fun i=>([.int .i64 i],S),inv:=fun i=>i<=x.sh.length,mu:=fun i=>x.sh.length-i }
  |_=>none }
def Ks(a:Arr):Int:=Arr.k a
def Jb(a:Arr):List Int:=Arr.sh a
def Qk(a:Arr):Nat:=LN (Jb a)
def XB(a:Arr)(b:Nat):List D:=[ZI (GI (Jb a) b)]
def Jc(a:Arr):D:=D.sl N1 (Qk a) (fun i=>XB a i) Mode.any
def ZT(a:Arr):Nat:=LN (Arr.nu a)
def QdU(a:Arr)(b:Nat):List D:=[ZI (GI (Arr.nu a) b)]
def QdV(a:Arr):D:=D.sl N1 (ZT a) (fun i=>QdU a i) Mode.any
def Jd(a:Arr):List Arr:=Arr.it a
def ZU(a:Arr):Nat:=LN (Jd a)
def ZV:Arr:=DA
def QdW(a:Arr)(b:Nat):List D:=Arr.row (List.getD (Jd a) b ZV)
def QdX(a:Arr):D:=D.sl N4 (ZU a) (fun i=>QdW a i) Mode.any
def ZW(a:Arr):List D:=[ZI (Ks a),Jc a,QdV a,QdX a]
def QdY(a:Arr):D:=D.agg (ZW a)
def QdZ(a:Arr):List D:=[QdY a]
def Q4(a:Nat):Prop:=SM a/\True
def Qd0(a b:Arr)(c:Nat):List D:=[ZI (GI (Arr.sh (joA a b)) c)]
def ZX(a b:Arr):Nat:=LN (Arr.nu (joA a b))
def ZY(a b:Arr)(c:Nat):List D:=[ZI (GI (Arr.nu (joA a b)) c)]
def ZZ(a b:Arr):Prop:=N0=ZX a b/\(∀(i:Nat),i<N0->EY (List D) [] (ZY a b i))/\True
def Z3(a b:Arr):Nat:=LN (Arr.it (joA a b))
def XC(a b:Arr)(c:Nat):Arr:=List.getD (Arr.it (joA a b)) c ZV
def Qgi(a b:Arr)(c:Nat):List Int:=Arr.sh (XC a b c)
def Qgj(a b:Arr)(c:Nat):List Int:=Arr.nu (XC a b c)
def Qd1(a b:Arr)(c:Nat):List Arr:=Arr.it (XC a b c)
def Z4(a b:Arr)(c:Nat):List D:=[ZI (Arr.k (XC a b c)),SI (Qgi a b c),SI (Qgj a b c),D.sl N4 (LN (Qd1 a b c)) (fun i=>Arr.row (List.getD (Qd1 a b c) i ZV)) Mode.any]
def Z5(a b:Arr):Prop:=(N0=Z3 a b/\(∀(i:Nat),i<N0->EY (List D) [] (Z4 a b i))/\True)/\True
def Qd2(a b:Arr):Prop:=ZZ a b/\Z5 a b
def XD(a b:Arr):Prop:=Z0=Arr.k (joA a b)/\(N0=LN (Arr.sh (joA a b))/\(∀(i:Nat),i<N0->EY (List D) [] (Qd0 a b i))/\True)/\Qd2 a b
def QB(a:Arr):Int:=(NI (Qk a))
def XE(a:Arr):Bool:=decide (Z0<QB a)
def XF(a b:Arr):Bool:=decide (IntKind.wrap IntKind.i64 (QB a+Z1)<QB b)
def XG(a b:Arr):Bool:=bif bif XE a then XE b else false then bif XF b a then true else XF a b else false
def Qd3(a b:Arr):Prop:=false=XG a b/\True
def Qd4(a:Arr):Int:=if Z1<QB a then QB a else Z1
def XH(a b:Arr):Int:=if Qd4 a<QB b then QB b else Qd4 a
def XI(a b:Arr):Prop:=exP a b (ZW a) (Jc b) (XH a b) Z0
def QR(a:Nat)(b:Arr):Prop:=SM a/\SM (Jc b)
def Q5(a:Nat)(b:Arr):Prop:=SM a/\SM (QdY b)
def XJ(a b:Arr):Prop:=exP a b (ZW b) (Jc a) (XH a b) Z0
def KM(a b c d:Nat):Prop:=a≠b/\c≠b/\d≠b/\True
def Kt(a b c d e:Nat):Prop:=a≠b/\KM c b d e
def Qd5(a:Arr):Prop:=SM (Ks a)
def Qd6(a:Arr):Prop:=SM (Qk a)
def Qd7(a:Arr):Prop:=∀(i:Nat),i<Qk a->SM (XB a i)
def Z6(a:Arr):Prop:=Qd6 a/\Qd7 a/\True
def Qd8(a:Arr):Prop:=SM (ZT a)/\(∀(i:Nat),i<ZT a->SM (QdU a i))/\True
def Qd9(a:Arr):Prop:=SM (ZU a)/\(∀(i:Nat),i<ZU a->SM (QdW a i))/\True
def Z7(a:Arr):Prop:=Qd5 a/\Z6 a/\Qd8 a/\Qd9 a/\Z6 a/\True
def Z8:Prop:=SM N0/\(∀(i:Nat),i<N0->EY (List D) [] [])/\True
def Qea(a:Arr):Prop:=Qd5 a/\Z6 a/\Qd8 a/\Qd9 a/\True
def Qeb(a:Arr)(b c:Nat)(d:Arr)(e:Nat):Prop:=Z7 a/\SM b/\(SM Z0/\Z8/\Z8/\Z8/\True)/\SM c/\Qea d/\SM e/\Qea a/\True
def Z9(a b:Nat)(c d:Arr)(e f g:Nat):Prop:=SM a/\SM b/\∃(x:Nat×Nat),True/\(a=x.1/\b=x.2/\True)/\(b=x.2/\Z7 c/\a=x.1/\Qeb d e f c g)/\True
def Qec(a b c d:Nat)(e f:Arr):Prop:=∀(x:Nat),Kt a x b c d->Z9 a x e f b c d
def Qed(a b c d:Nat)(e f:Arr):Prop:=∀(x:Nat),Kt a x b c d->Z9 x a e f b c d
def Ha(a:Nat)(b:Arr)(c:Nat)(d:Arr)(e f g:Nat):Prop:=QR a b/\Q5 c d/\∃(_x:Unit),XJ b d/\∀(_y:Unit),True->Z9 e f d b g c a
def Qee(a:Nat)(b:Arr)(c:Nat)(d:Arr)(e f:Nat):Prop:=QR a b/\Q5 c d/\(∃(_x:Unit),XJ b d/\∀(_y:Unit),True->Qec e f c a d b)/\∀(x:Nat),Kt e x f c a->Ha a b c d e x f
def Qef(a:Nat)(b:Arr)(c:Nat)(d:Arr)(e f:Nat):Prop:=QR a b/\Q5 c d/\(∃(_x:Unit),XJ b d/\∀(_y:Unit),True->Qed e f c a d b)/\∀(x:Nat),Kt e x f c a->Ha a b c d x e f
def Qeg(a:Nat)(b:Arr)(c:Nat)(d:Arr)(e f g:Nat):Prop:=QR a b/\Q5 c d/\QR c d/\Q5 a b/\∃(_x:Unit),XI b d/\∀(_y:Unit),True->Ha a b c d e f g
def Qeh(a:Arr):List D:=[Jc a]
def Qei(a:Nat)(b:Arr)(c d:Nat)(e:Arr)(f g h k:Nat):Prop:=(SM a/\(Qd6 b/\SM c/\Qd7 b)/\SM d/\Z7 e/\SM f/\Qeb b g h e k)/\True
def Qej(a:Arr)(b:Nat)(c:Arr):Bool:=GI (Jb a) (Int.toNat (↑b:Int)) != GI (Jb c) (Int.toNat (↑b:Int))
def Hb(a:Nat)(b c:Arr):Bool:=bif (↑a:Int) != Z0 then Qej b a c else false
def Qek(a:Arr):Prop:=SM (ZI (QB a))
def Qgk(a b:Arr):D:=ZI (XH a b)
def Qel(a b:Arr):Prop:=SM (Qgk a b)
def Hc(a:Arr):Int:=GI (Jb a) N0
def Qem(a b:Arr):List D:=[ZI (IntKind.wrap IntKind.i64 (Hc a+Hc b))]
def Qen(a b:Arr)(c:Nat):List D:=BM (fun i=>XB a i) N0 (Qem a b) c
def Hd(a:D):Bool:=match a with | D.unk=>false | D.agg _cs=>false | D.tup _ds=>false | _x=>true
def Qeo(a b:Arr)(c:Nat):D:=D.sl N1 (Qk a) (BM (fun i=>XB a i) N0 (Qem a b)) (Mode.tok N0 c)
def Qep(a:Arr):List D:=ZI (Ks a)::Jc a::QdV a::QdX a::Qeh a
def Qeq(a:Arr):D:=D.agg (Qep a)
def Qer(a:Arr):List D:=[Qeq a]
def Qes(a b:Arr):Prop:=Qer a=Qer b
def Qet(a:List Int)(b c:Arr)(d:Nat):Prop:=rwP a (Qeo b c d)
def He(a:Arr)(b:Arr×List Int×Nat×Nat):Prop:=BaR (Qep a) b
def Hf(a:Arr×List Int×Nat×Nat)(b:Nat)(c:Arr)(d:List Int):Prop:=BdV a b b Z0 (IntKind.wrap IntKind.i64 (Hc c*(NI (prL (shN (List.drop N1 d))))))
def Qeu(a:Arr)(b:Arr×List Int×Nat×Nat)(c:Nat)(d:List Int)(e:Nat):Prop:=He a b/\Hf b c a d/\SM e/\N0<=1000000
def Hg(a:Arr):Prop:=Ks a≠3
def Je(a b:Arr):Prop:=Ks a=Arr.k (joA a b)
def Jf(a b:Arr):Prop:=Qk a=LN (Arr.sh (joA a b))/\(∀(i:Nat),i<Qk a->Qen a b i=Qd0 a b i)/\True
def Jg:Prop:=SM Z0/\True
def KN(a:Arr):Prop:=Ks a=3
def Qev(a:Nat)(b c d:Arr)(e:Nat):Prop:=N0+a=ZX b c/\(∀(i:Nat),i<N0+a->By N0 (fun _x=>[]) (nuS (Arr.nu d) (e*a)) i=ZY b c i)/\True
def Qew(a b:Nat)(c d:Arr)(e:Nat)(f:Arr)(g:Nat):Prop:=SM a/\SM b/\∀(_t:Nat),Q4 b/\∃(_y:Unit),True/\((Je c d/\Jf c d/\Qev e c d f g/\Z5 c d)/\Jg)/\True/\True
def Qex(a:Nat)(b:Arr)(c:Nat):Prop:=∀(i:Nat),i<a->(List.all (itS (Jd b) (c*a) i) fun (x:D)=>Hd x)=true
def Qey(a:Nat)(b c d:Arr)(e:Nat):Prop:=(a=Z3 b c/\(∀(i:Nat),i<a->itS (Jd d) (e*a) i=Z4 b c i)/\True)/\True
def Qez(a:Nat)(b:Arr)(c:Nat)(d:Arr)(e f g:Nat):List D:=By a (itS (Jd b) (c*a)) (itS (Jd d) (e*f)) g
theorem Bet(x y:Arr)(s:List Int)(h:JoH x y s):CD 20 [.agg x.row1,.agg y.row1,.bool false] (.tup [.agg (joA x y).row2,.int .i64 0]):=by
 refine Bp (A:=sC _ _) (x:=()) (E:=Ejo x y s) (evA (Ba6 h) rfl) Try.func20 rfl (by kernel_rfl) rfl (by simp[sC,Ejo,EC,E0]) ?_
 refine Bt (T :=
  ∀(x_1:Nat),True->∀(x_2:Nat),x_1≠x_2/\True->∀(x_3:Nat),x_2≠x_3/\x_1≠x_3/\True->SM x_1/\∃(x_4:Unit),riP x y (QdZ x)/\∀(y_1:Unit),True->SM x_2/\∃(x_5:Unit),riP x y (QdZ y)/\∀(y_2:Unit),True->SM x_1/\SM x_2/\SM x_1/\SM x_2/\ifB (Ks x != Ks y) (SM x_3/\∀(t:Nat),Q4 x_3/\∃(y_3:Unit),True/\(XD x y/\(14:Int)=Z0/\True)/\True/\True) (ifB (XE x) (ifB (XE y) (ifB (XF y x) (true=XG x y/\True) (XF x y=XG x y/\True)) (Qd3 x y)) (Qd3 x y)/\ifB (XG x y) (SM x_3/\∀(t:Nat),Q4 x_3/\∃(y_3:Unit),True/\(XD x y/\(15:Int)=Z0/\True)/\True/\True) ((SM x_1/\SM x_2/\SM x_2/\SM x_1/\(∃(x_6:Unit),XI x y/\∀(y_3:Unit),True->QR x_1 x/\Q5 x_2 y/\(∃(x_7:Unit),XJ x y/\∀(y_4:Unit),True->(∀(x_8:Nat),KM x_3 x_8 x_2 x_1->Qec x_8 x_3 x_2 x_1 y x)/\∀(x_8:Nat),KM x_3 x_8 x_2 x_1->Qed x_8 x_3 x_2 x_1 y x)/\(∀(x_7:Nat),KM x_3 x_7 x_2 x_1->Qee x_1 x x_2 y x_7 x_3)/\∀(x_7:Nat),KM x_3 x_7 x_2 x_1->Qef x_1 x x_2 y x_7 x_3)/\(∀(x_6:Nat),KM x_3 x_6 x_2 x_1->QR x_1 x/\Q5 x_2 y/\QR x_2 y/\Q5 x_1 x/\(∃(x_7:Unit),XI x y/\∀(y_3:Unit),True->Qee x_1 x x_2 y x_6 x_3)/\∀(x_7:Nat),Kt x_6 x_7 x_3 x_2 x_1->Qeg x_1 x x_2 y x_6 x_7 x_3)/\∀(x_6:Nat),KM x_3 x_6 x_2 x_1->QR x_1 x/\Q5 x_2 y/\QR x_2 y/\Q5 x_1 x/\(∃(x_7:Unit),XI x y/\∀(y_3:Unit),True->Qef x_1 x x_2 y x_6 x_3)/\∀(x_7:Nat),Kt x_6 x_7 x_3 x_2 x_1->Qeg x_1 x x_2 y x_7 x_6 x_3)/\∀(x_6:Nat×Nat),True->SM x_6.1/\(SM (Qeh x)/\Jb x≠[]/\Qk x<=1000000)/\∀(y_3:Nat×Nat),Qk x<=y_3.2->(∃(x_7:Nat),x_7<=Qk x/\(Z0=(↑x_7:Int)/\True)/\Qei y_3.1 x y_3.2 x_6.2 y x_6.1 x_3 x_2 x_1)/\∀(x_7:Nat),x_7<=Qk x->ifB (decide ((↑x_7:Int)<XH x y)) (ifB ((↑x_7:Int) != Z0) (SM x_6.1/\Bb (Z0<=(↑x_7:Int)/\(↑x_7:Int)<QB x) (SM x_6.2/\Bb (Z0<=(↑x_7:Int)/\(↑x_7:Int)<QB y) (Qej x x_7 y=Hb x_7 x y/\True))) (false=Hb x_7 x y/\True)/\ifB (Hb x_7 x y) (SM x_3/\∀(t:Nat),Q4 x_3/\∃(y_4:Unit),True/\(XD x y/\(16:Int)=Z0/\True)/\True/\True) ((SM (D.bool false)/\SM (D.ref N0 x_1 N0)/\SM (D.ref (max (N0+N1) N0) x_2 N0)/\SM (D.ref (max (N1+N1) (max (N0+N1) N0)) x_3 N0)/\SM (ZI Z0)/\Qek x/\Qek y/\Qel x y/\SM (ZI Z0)/\SM (D.ref (15:Nat) x_6.1 N0)/\SM (D.ref (16:Nat) x_6.2 N0)/\SM (D.vs (17:Nat) y_3.1 (Qk x) y_3.2 N1)/\Qel x y/\True)/\∃(y_4:Nat),y_4<=Qk x/\Qk x-y_4<Qk x-x_7/\(IntKind.wrap IntKind.i64 ((↑x_7:Int)+Z1)=(↑y_4:Int)/\True)/\Qei y_3.1 x y_3.2 x_6.2 y x_6.1 x_3 x_2 x_1)) (Bb (Z0<=Z0/\Z0<QB x) (SM y_3.1/\Bb (N0<Qk x) (SM x_6.2/\Bb (Z0<=Z0/\Z0<QB y) (Bb (Z0<=Z0/\Z0<QB x) (SM y_3.1/\Bb (N0<Qk x) (SM y_3.1/\SM y_3.2/\Bb (Qk x<=Qk x) ((∀(i:Nat),i<Qk x->(List.all (Qen x y i) fun (x:D)=>Hd x)=true)/\∀(t:Nat),∃(x_8:Unit),shP s [Qeo x y t]/\∀(y_4:Unit),True->SM x_6.1/\SM x_6.2/\∃(x_9:Arr),(Qes x x_9/\(x_9=x\/x_9=y))/\∀(y_5:Unit),True->(SM x_6.2/\SM (Qeq y))/\∃(x_10:Arr),(Qes y x_10/\(x_10=x\/x_10=y))/\∀(y_6:Unit),True->ifB (decide ((262144:Int)<IntKind.wrap IntKind.i64 (wtA x_9+wtA x_10))) (SM x_3/\∀(t:Nat),Q4 x_3/\∃(y_7:Unit),True/\(XD x y/\(21:Int)=Z0/\True)/\True/\True) (SM x_1/\∀(x_11:Nat),x_6.2≠x_11/\Kt x_6.1 x_11 x_3 x_2 x_1->SM x_11/\∀(t_1:Nat),∃(x_12:Unit),(Qet s x y t/\SM Z0)/\∀(y_7:Unit),True->∃(x_13:Unit),(Qet s x y t/\SM Z1)/\∀(y_8:Unit),True->SM x_6.1/\Bb (Z0<=Z0/\Z0<QB x) (SM x_6.2/\Bb (Z0<=Z0/\Z0<QB y) (∀(x_14:Nat),x_11≠x_14/\x_6.2≠x_14/\Kt x_6.1 x_14 x_3 x_2 x_1->QR x_6.2 y/\QR x_6.1 x/\SM x_14/\SM x_6.1/\SM x_14/\∃(q:Arr×List Int×Nat×Nat),Qeu x q x_11 s t_1/\(Hg q.1->∀(u':Nat),SM x_6.2/\SM x_14/\∃(q_1:Arr×List Int×Nat×Nat),(He y q_1/\Hf q_1 x_11 y s/\SM u'/\N0+q.2.2.2<=1000000)/\(Hg q_1.1->∀(u':Nat),SM x_11/\SM x_3/\∀(t:Nat),Q4 x_3/\∃(y_9:Unit),True/\((Je x y/\Jf x y/\(N0+q.2.2.2+q_1.2.2.2=ZX x y/\(∀(i:Nat),i<N0+q.2.2.2+q_1.2.2.2->By (N0+q.2.2.2) (By N0 (fun x=>[]) (nuS (Arr.nu q.1) (q.2.2.1*q.2.2.2))) (nuS (Arr.nu q_1.1) (q_1.2.2.1*q_1.2.2.2)) i=ZY x y i)/\True)/\Z5 x y)/\Jg)/\True/\True)/\(KN q_1.1->q_1.2.2.2=N0->Qew x_11 x_3 x y q.2.2.2 q.1 q.2.2.1)/\(KN q_1.1->N0<q_1.2.2.2->∀(v c:Nat),q_1.2.2.2<=c->SM x_11/\SM x_3/\SM v/\SM c/\Bb (q_1.2.2.2<=q_1.2.2.2) (Qex q_1.2.2.2 q_1.1 q_1.2.2.1/\∀(t:Nat),Q4 x_3/\∃(y_9:Unit),True/\((Je x y/\Jf x y/\Qev q.2.2.2 x y q.1 q.2.2.1/\Qey q_1.2.2.2 x y q_1.1 q_1.2.2.1)/\Jg)/\True/\True)))/\(KN q.1->q.2.2.2=N0->SM x_6.2/\SM x_14/\∃(q:Arr×List Int×Nat×Nat),Qeu y q x_11 s t_1/\(Hg q.1->∀(u':Nat),Qew x_11 x_3 x y q.2.2.2 q.1 q.2.2.1)/\(KN q.1->q.2.2.2=N0->SM x_11/\SM x_3/\∀(t:Nat),Q4 x_3/\∃(y_9:Unit),True/\((Je x y/\Jf x y/\Qd2 x y)/\Jg)/\True/\True)/\(KN q.1->N0<q.2.2.2->∀(v c:Nat),q.2.2.2<=c->SM x_11/\SM x_3/\SM v/\SM c/\Bb (q.2.2.2<=q.2.2.2) (Qex q.2.2.2 q.1 q.2.2.1/\∀(t:Nat),Q4 x_3/\∃(y_9:Unit),True/\((Je x y/\Jf x y/\ZZ x y/\Qey q.2.2.2 x y q.1 q.2.2.1)/\Jg)/\True/\True)))/\(KN q.1->N0<q.2.2.2->∀(v c:Nat),q.2.2.2<=c->SM x_6.2/\SM x_14/\∃(q_1:Arr×List Int×Nat×Nat),(He y q_1/\Hf q_1 x_11 y s/\SM t_1/\SM v/\SM q.2.2.2/\SM c/\q.2.2.2<=1000000/\q.2.2.2<=c/\KN q_1.1)/\∀(v2 c:Nat),q.2.2.2+q_1.2.2.2<=c->SM x_11/\SM x_3/\SM v2/\SM c/\Bb (q.2.2.2+q_1.2.2.2<=q.2.2.2+q_1.2.2.2) ((∀(i:Nat),i<q.2.2.2+q_1.2.2.2->(List.all (Qez q.2.2.2 q.1 q.2.2.1 q_1.1 q_1.2.2.1 q_1.2.2.2 i) fun (x:D)=>Hd x)=true)/\∀(t:Nat),Q4 x_3/\∃(y_9:Unit),True/\((Je x y/\Jf x y/\ZZ x y/\(q.2.2.2+q_1.2.2.2=Z3 x y/\(∀(i:Nat),i<q.2.2.2+q_1.2.2.2->Qez q.2.2.2 q.1 q.2.2.1 q_1.1 q_1.2.2.1 q_1.2.2.2 i=Z4 x y i)/\True)/\True)/\Jg)/\True/\True))))))))))))))) (by kernel_rfl) ?_
 delta DA GI LN N0 N1 N4 NI SI SM Z0 Z1 ZI Ks Jb ZV QdW QdX ZW QdY QdZ Q4 Qd0 ZX ZY Qk ZZ Z3 XC Qgi Qgj Qd1 Z4 Z5 Qd2 XD XB QB XE XF XG Qd3 Qd4 XH XI QR Q5 Jc XJ KM Kt Qd5 Qd6 Qd7 Z6 Qd8 Qd9 Z7 ZT Z8 Qea Qeb Z9 Qec Qed Ha Qee Qef Qeg QdU Qeh Qei Qej Hb Qek Qgk Qel Hc Qem Qen QdV Hd Qeo Qep Qeq Qer Qes Qet He Hf Qeu Jd Hg Je Jf Jg KN Qev Qew Qex Qey Qez ZU
 have da:(default:Arr)=Arr.mk 0 [] [] []:=rfl
 simp only[<- da]
 simp only[ne_eq,implies_true,Int.toNat_natCast,Bn,Bd,decide_eq_true_eq,decide_eq_false_iff_not,true_and,and_true,bne_iff_ne,bne_eq_false_iff_eq,exists_const,forall_const,Prod.exists]
 obtain ⟨rx,ry⟩:=h.r8
 have lx:=((Bq _).1 rx).1
 have nx:0<x.sh.length:=List.length_pos_iff.2 h.nx
 have ny:0<y.sh.length:=List.length_pos_iff.2 h.ny
 have hl:y.sh.length=x.sh.length:=by
  have:=congrArg List.length h.ht
  rw[List.length_tail,List.length_tail] at this
  omega
 have hti:∀i:Nat,0<i->x.sh.getD i 0=y.sh.getD i 0:=fun i hi=>by
  obtain ⟨j,rfl⟩:∃j,i=j+1:=⟨i-1,by omega⟩
  have e1:x.sh.getD (j+1) 0=x.sh.tail.getD j 0:=by cases x.sh<;>simp
  have e2:y.sh.getD (j+1) 0=y.sh.tail.getD j 0:=by cases y.sh<;>simp
  rw[e1,e2,h.ht]
 have hrk:(if (if (1:Int)<(x.sh.length:Int) then (x.sh.length:Int) else 1)<(y.sh.length:Int) then (y.sh.length:Int) else if (1:Int)<(x.sh.length:Int) then (x.sh.length:Int) else 1)=(x.sh.length:Int):=by
  split<;>split<;>omega
 simp only[hrk]
 have w1:IntKind.i64.wrap ((y.sh.length:Int)+1)=(y.sh.length:Int)+1:=Bc (by omega) (by omega)
 have w2:IntKind.i64.wrap ((x.sh.length:Int)+1)=(x.sh.length:Int)+1:=Bc (by omega) (by omega)
 simp only[w1,w2]
 have hb:(bif bif decide (0<(x.sh.length:Int)) then decide (0<(y.sh.length:Int)) else false then bif decide ((y.sh.length:Int)+1<(x.sh.length:Int)) then true else decide ((x.sh.length:Int)+1<(y.sh.length:Int)) else false)=false:=by
  rw[decide_eq_false (show ¬((y.sh.length:Int)+1<(x.sh.length:Int)) by omega),decide_eq_false (show ¬((x.sh.length:Int)+1<(y.sh.length:Int)) by omega)]
  cases (bif decide (0<(x.sh.length:Int)) then decide (0<(y.sh.length:Int)) else false)<;>rfl
 have hb2:∀i:Nat,(bif ((i:Int) != 0) then x.sh.getD i 0 != y.sh.getD i 0 else false)=false:=fun i=>by
  by_cases hi:i=0
  ·subst hi;rfl
  ·rw[hti i (by omega)]
   cases ((i:Int) != 0)<;>simp
 have hxx:∀lk,(∃l,wkL [lk] [isl l .any])->exP x y [D.int .i64 x.k,isl x.sh .any,isl x.nu .any,gsl 4 Arr.row x.it] lk (x.sh.length:Nat) 0:=fun lk hlk=>⟨x,.inl rfl,rfl,hlk,rfl,0,rfl⟩
 have hyy:∀lk,(∃l,wkL [lk] [isl l .any])->exP x y [D.int .i64 y.k,isl y.sh .any,isl y.nu .any,gsl 4 Arr.row y.it] lk (x.sh.length:Nat) 0:=fun lk hlk=>⟨y,.inr rfl,rfl,hlk,by rw[hl],0,rfl⟩
 have hx1:=hxx (isl y.sh .any) ⟨y.sh,Bf _⟩
 have hy1:=hyy (isl x.sh .any) ⟨x.sh,Bf _⟩
 have d0:∀d∈x.sh,0<=d/\d<=65536:=((Bq _).1 rx).2.1
 have e0:∀d∈y.sh,0<=d/\d<=65536:=((Bq _).1 ry).2.1
 have gx:x.sh.getD 0 0=x.sh.headD 0:=by cases x.sh<;>rfl
 have gy:y.sh.getD 0 0=y.sh.headD 0:=by cases y.sh<;>rfl
 have bx:0<=x.sh.headD 0/\x.sh.headD 0<=65536:=by
  have:=h.nx
  cases hh:x.sh with
  |nil=>exact (this hh).elim
  |cons d r=>exact d0 d (by rw[hh];simp)
 have by':0<=y.sh.headD 0/\y.sh.headD 0<=65536:=by
  have:=h.ny
  cases hh:y.sh with
  |nil=>exact (this hh).elim
  |cons d r=>exact e0 d (by rw[hh];simp)
 have wd:IntKind.i64.wrap (x.sh.getD 0 0+y.sh.getD 0 0)=x.sh.headD 0+y.sh.headD 0:=by
  rw[gx,gy];exact Bc (by omega) (by omega)
 simp only[wd]
 have hsl:s.length=x.sh.length:=by rw[h.hs,List.length_cons,List.length_tail];omega
 have hsh:∀m,wkL [D.sl 1 x.sh.length (BM (fun i=>[D.int IntKind.i64 (x.sh.getD i 0)]) 0 [D.int IntKind.i64 (x.sh.headD 0+y.sh.headD 0)]) m] [isl s .any]:=fun m=>by
  simp only[isl,wkL,wkD,Ba]
  refine⟨⟨by simp,hsl.symm,fun i _=>?_,by simp[Bw]⟩,trivial⟩
  rw[EF h.nx,<- h.hs]
  exact Bf _
 refine fun b1 b2 _ b3 _=>⟨⟨x,.inl rfl,Bf _⟩,⟨y,.inr rfl,Bf _⟩,fun e=>absurd h.hk e,fun _=>⟨?_,fun e=>absurd e (by rw[hb];simp),fun _=>⟨?_,?_⟩⟩⟩
 ·simp only[hb]
  exact⟨fun _=>⟨fun _=>⟨fun q=>absurd q (by omega),fun _=>decide_eq_false (by omega)⟩,fun _=>trivial⟩,fun _=>trivial⟩
 ·repeat' (first | exact⟨_,_,⟨rfl,rfl⟩,rfl,rfl⟩ | exact hx1 | exact hy1 | (intro _) | refine And.intro ?_ ?_)
 rintro ⟨u1,u2⟩
 refine⟨⟨h.nx,by omega⟩,fun y3 hy3=>⟨⟨0,Nat.zero_le _,rfl⟩,fun i hi=>⟨fun hlt=>⟨⟨fun hne=>⟨⟨by omega,by omega⟩,⟨by omega,by omega⟩,?_⟩,fun e=>(hb2 i).symm⟩,fun e=>absurd e (by rw[hb2];simp),fun _=>⟨i+1,by omega,by omega,Bc (by omega) (by omega)⟩⟩,fun hge=>?_⟩⟩⟩
 ·rw[hb2,hti i (by omega)];simp
 refine⟨⟨by omega,by omega⟩,nx,⟨by omega,by omega⟩,⟨by omega,by omega⟩,nx,Nat.le_refl _,fun i _=>by rw[EF h.nx];rfl,fun t=>⟨hsh _,x,⟨rfl,.inl rfl⟩,y,⟨rfl,.inr rfl⟩,fun e=>absurd e ?_,fun _ b4 _=>⟨hsh _,hsh _,⟨by omega,by omega⟩,⟨by omega,by omega⟩,fun b5 _=>?_⟩⟩⟩
 ·have:=Cl x
  have:=Cl y
  have hw:=h.hw
  rw[Bc (by omega) (by omega)]
  omega
 clear hx1 hy1 hxx hyy
 have hd1:s.drop 1=x.sh.tail:=by rw[h.hs];rfl
 have cx:x.sh=x.sh.headD 0::x.sh.tail:=by
  have:=h.nx
  cases hh:x.sh with
  |nil=>exact (this hh).elim
  |cons d r=>rfl
 have cy:y.sh=y.sh.headD 0::x.sh.tail:=by
  have:=h.ny
  rw[h.ht]
  cases hh:y.sh with
  |nil=>exact (this hh).elim
  |cons d r=>rfl
 obtain ⟨_,_,fx3,fx4⟩:=BN.1 (BJ h.hx)
 obtain ⟨_,_,fy3,fy4⟩:=BN.1 (BJ h.hy)
 have px:=IR rx
 have py:=IR ry
 have ex:prL (shN x.sh)=(x.sh.headD 0).toNat*prL (shN x.sh.tail):=by rw[cx];simp[shN,prL]
 have ey:prL (shN y.sh)=(y.sh.headD 0).toNat*prL (shN x.sh.tail):=by rw[cy];simp[shN,prL]
 rw[gx,gy,hd1]
 rw[ex] at fx3 px
 rw[ey] at fy3 py
 generalize hn1:(x.sh.headD 0).toNat*prL (shN x.sh.tail)=n1 at *
 generalize hn2:(y.sh.headD 0).toNat*prL (shN x.sh.tail)=n2 at *
 have m1:IntKind.i64.wrap (x.sh.headD 0*(prL (shN x.sh.tail):Nat))=(n1:Nat):=by
  rw[<- hn1,Int.natCast_mul,Int.toNat_of_nonneg bx.1]
  rw[<- hn1] at px
  have:x.sh.headD 0*(prL (shN x.sh.tail):Nat)=((x.sh.headD 0).toNat*prL (shN x.sh.tail):Nat):=by rw[Int.natCast_mul,Int.toNat_of_nonneg bx.1]
  exact Bc (by omega) (by omega)
 have m2:IntKind.i64.wrap (y.sh.headD 0*(prL (shN x.sh.tail):Nat))=(n2:Nat):=by
  rw[<- hn2,Int.natCast_mul,Int.toNat_of_nonneg by'.1]
  rw[<- hn2] at py
  have:y.sh.headD 0*(prL (shN x.sh.tail):Nat)=((y.sh.headD 0).toNat*prL (shN x.sh.tail):Nat):=by rw[Int.natCast_mul,Int.toNat_of_nonneg by'.1]
  exact Bc (by omega) (by omega)
 rw[m1,m2]
 have bnx:x.nu.length<=65536/\x.it.length<=65536:=by
  by_cases hk:x.k=3
  ·rw[if_pos hk] at fx3 fx4;omega
  ·rw[if_neg hk] at fx3 fx4;omega
 have bny:y.nu.length<=65536/\y.it.length<=65536:=by
  by_cases hk:y.k=3
  ·rw[if_pos hk] at fy3 fy4;omega
  ·rw[if_neg hk] at fy3 fy4;omega
 have PX:BaR [D.int .i64 x.k,isl x.sh .any,isl x.nu .any,gsl 4 Arr.row x.it,isl x.sh .any] (x,x.sh,0,n1):=⟨Bf _,h.nx,US h.hx,by show 0*n1+n1<=_;rw[Nat.zero_mul,Nat.zero_add,fx3];exact Nat.le_refl _,by show x.nu.length<=_;omega,by show x.it.length<=_;omega⟩
 have PY:BaR [D.int .i64 y.k,isl y.sh .any,isl y.nu .any,gsl 4 Arr.row y.it,isl y.sh .any] (y,y.sh,0,n2):=⟨Bf _,h.ny,US h.hy,by show 0*n2+n2<=_;rw[Nat.zero_mul,Nat.zero_add,fy3];exact Nat.le_refl _,by show y.nu.length<=_;omega,by show y.it.length<=_;omega⟩
 have hS:∀i,BM (fun i=>[D.int .i64 (x.sh.getD i 0)]) 0 [D.int .i64 (x.sh.headD 0+y.sh.headD 0)] i=[D.int .i64 ((joA x y).sh.getD i 0)]:=fun i=>EF h.nx _ i
 have hSl:x.sh.length=(joA x y).sh.length:=by show _=List.length (_::_);rw[List.length_cons,List.length_tail];omega
 have nn:∀ {p:Nat->Prop} (i:Nat),i<0->p i:=fun i hi=>absurd hi (Nat.not_lt_zero i)
 have jn:(joA x y).nu=x.nu++y.nu:=rfl
 have ji:(joA x y).it=x.it++y.it:=rfl
 refine⟨x,x.sh,0,n1,⟨PX,⟨rfl,rfl,rfl⟩,by omega⟩,fun hk=>?_,fun hk hn=>?_,fun hk hn c hc=>?_⟩
 ·have hk2:¬y.k=3:=by rw[<- h.hk];exact hk
  rw[if_neg hk] at fx3 fx4
  rw[if_neg hk2] at fy3 fy4
  exact⟨y,y.sh,0,n2,⟨PY,⟨rfl,rfl,rfl⟩,by omega⟩,fun _=>⟨rfl,⟨hSl,fun i _=>hS i⟩,⟨by rw[jn,List.length_append];omega,fun i _=>BdC fx3⟩,by rw[ji,List.length_append];omega,nn⟩,fun e=>absurd e hk2,fun e=>absurd e hk2⟩
 ·have hk2:y.k=3:=by rw[<- h.hk];exact hk
  rw[if_pos hk] at fx3 fx4
  rw[if_pos hk2] at fy3 fy4
  refine⟨y,y.sh,0,n2,⟨PY,⟨rfl,rfl,rfl⟩,by omega⟩,fun e=>absurd hk2 e,fun _ hn2=>⟨rfl,⟨hSl,fun i _=>hS i⟩,⟨by rw[jn,List.length_append];omega,nn⟩,by rw[ji,List.length_append];omega,nn⟩,fun _ _ c hc=>⟨Nat.le_refl _,fun _ _=>rfl,rfl,⟨hSl,fun i _=>hS i⟩,⟨by rw[jn,List.length_append];omega,nn⟩,by rw[ji,List.length_append];omega,fun i _=>?_⟩⟩
  have hx0:x.it=[]:=List.eq_nil_of_length_eq_zero (by omega)
  rw[U5,ji,hx0];rfl
 ·have hk2:y.k=3:=by rw[<- h.hk];exact hk
  rw[if_pos hk] at fx3 fx4
  rw[if_pos hk2] at fy3 fy4
  refine⟨y,y.sh,0,n2,⟨PY,⟨rfl,rfl,rfl⟩,by omega,hc,hk2⟩,fun c2 hc2=>⟨Nat.le_refl _,fun i _=>?_,rfl,⟨hSl,fun i _=>hS i⟩,⟨by rw[jn,List.length_append];omega,nn⟩,by rw[ji,List.length_append];omega,fun i _=>?_⟩⟩
  ·unfold By;split<;>rfl
  ·rw[Bds fx3];rfl
theorem ON{α:Type}{l:List α}{i:Nat}{d:α}(h:i<l.length):l.getD i d∈l:=by
 rw[List.getD_eq_getElem?_getD,List.getElem?_eq_getElem h];exact List.getElem_mem h
noncomputable def BW{α:Type}(a b:α):Bool:=@decide (a=b) (Classical.propDecidable _)
theorem B2{α:Type}{a b:α}:BW a b=true↔a=b:=by unfold BW;exact @decide_eq_true_iff _ (Classical.propDecidable _)
theorem Em{α:Type}{a b:α}(h:a≠b):false=BW a b:=by
 cases hs:BW a b with
 |false=>rfl
 |true=>exact (h (B2.1 hs)).elim
theorem OS{α:Type}{a b:α}(h:a=b):true=BW a b:=(B2.2 h).symm
theorem Rh{α:Type}{l m:List α}(d:α)(h:l.length=m.length)(h2:∀j,j<l.length->l.getD j d=m.getD j d):l=m:=by
 apply List.ext_getElem h
 intro i h3 h4
 have:=h2 i h3
 simpa[List.getD_eq_getElem?_getD,List.getElem?_eq_getElem h3,List.getElem?_eq_getElem h4] using this
theorem T1{α:Type}[Inhabited α]{l m:List α}{i:Nat}(h:∀j,j<i->l.getD j default=m.getD j default)(e:l.getD i default=m.getD i default):∀j,j<i+1->l.getD j default=m.getD j default:=fun j hj=>by
 by_cases q:j=i
 ·subst q;exact e
 ·exact h j (by omega)
noncomputable def EqI(l m:List Int):Senv:={ EC EA 26 2 [4,5,10,12,13,14,24] (fun id=>match id with | 6=>([0,1,2,3,4,5,6,7,8],[]) | _=>([],[])) with
 ann:=fun q _ S=>match q with
  |0=>some { slots:=[13],keep:=[0,1,11,12],α:=Nat,st:=fun i=>([.int .i64 i],S),inv:=fun i=>i<=l.length/\∀j,j<i->l.getD j default=m.getD j default,mu:=fun i=>l.length-i }
  |_=>none }
def QeA(a b:List Int):Prop:=RT (false=BW a b)
def Hh(a:Nat)(b c:List Int):Prop:=a<=LN b/\∀(j:Nat),j<a->GI b j=GI c j
def Qgl(a:List Int):D:=SI a
def QeB(a:List Int):Prop:=SM (Qgl a)
theorem BdK(l m:List Int)(hl:l.length<=maxLen)(hm:m.length<=maxLen):ACalls Try.prog 26 [isl l .any,isl m .any] ⟨[],[]⟩ (SpecR (sC [isl l .any,isl m .any] (.bool (BW l m))) ()):=by
 refine Bp (A:=sC _ _) (x:=()) (E:=EqI l m) (eOk BA rfl) Try.func26 rfl (by kernel_rfl) rfl (by simp[sC,EqI,EC,E0]) ?_
 refine Bt (T :=
  ifB ((LI l) != (LI m)) (QeA l m) ((∃(x:Nat),Hh x l m/\(Z0=(↑x:Int)/\True)/\True/\True)/\∀(x:Nat),Hh x l m->ifB (decide ((↑x:Int)<(LI l))) (Bb (Z0<=(↑x:Int)/\(↑x:Int)<(LI l)) (Bb (Z0<=(↑x:Int)/\(↑x:Int)<(LI m)) (ifB (GI l (Int.toNat (↑x:Int)) != GI m (Int.toNat (↑x:Int))) (QeA l m) ((QeB l/\QeB m/\SM D.unk/\SM (ZI (LI l))/\True)/\∃(y:Nat),Hh y l m/\LN l-y<LN l-x/\(IntKind.wrap IntKind.i64 ((↑x:Int)+Z1)=(↑y:Int)/\True)/\True/\True)))) (RT (true=BW l m)))) (by kernel_rfl) ?_
 delta GI LI LN N1 SI SM Z0 Z1 ZI QeA Hh Qgl QeB RT
 simp only[Bn,Bd,decide_eq_true_eq,decide_eq_false_iff_not,true_and,and_true,beq_iff_eq,bne_iff_ne,bne_eq_false_iff_eq,ne_eq,exists_const,forall_const,implies_true,Int.toNat_natCast,Bool.not_eq_true',Bool.not_eq_false']
 simp only[maxLen] at hl hm
 refine⟨fun h=>Em fun e=>h (by rw[e]),fun he=>⟨⟨0,⟨Nat.zero_le _,fun j hj=>absurd hj (by omega)⟩,rfl⟩,fun i hi=>⟨fun hlt=>⟨⟨by omega,by omega⟩,⟨by omega,by omega⟩,fun hn=>Em fun e=>hn (by rw[e]),fun hn=>⟨i+1,⟨by omega,T1 hi.2 hn⟩,by omega,Bc (by omega) (by omega)⟩⟩,fun hge=>OS (Rh default (by omega) fun j hj=>hi.2 j (by omega))⟩⟩⟩
noncomputable def sPr{α:Type}(row:α->List D)(q:α×α->Prop):FnSpec where
 β:=α×α
 α:=Unit
 args:=fun x=>[.agg (row x.1),.agg (row x.2)]
 st:=fun _=>⟨[],[]⟩
 pre:=q
 post:=fun _ _=>True
 res:=fun x _=>.ret (.bool (BW x.1 x.2))
 out:=fun _ _=>⟨[],[]⟩
theorem BdI{α : Type}{k : Nat}{row : α -> List D}{q : α×α -> Prop}{ds : List D}{S : St}(h : ∀x, q x -> ACalls Try.prog k [.agg (row x.1), .agg (row x.2)] ⟨[], []⟩ (SpecR (sC [.agg (row x.1), .agg (row x.2)] (.bool (BW x.1 x.2))) ())) :
  (∀y,(sPr row q).pre y->ACalls Try.prog k ((sPr row q).args y) ((sPr row q).st y) (SpecR (sPr row q) y))/\(∀y,(sPr row q).fit=some y->(sPr row q).pre y->Bo ds ((sPr row q).args y)/\leS ((sPr row q).st y) S)/\((sPr row q).all=true->∀y,(sPr row q).pre y->Bo ds ((sPr row q).args y)/\(sPr row q).st y=S) :=
 ConOk.plain (fun (x:α×α) hx=>(h x hx).mono fun _ _ ⟨y,q1,q2,q3⟩=>⟨y,q1,q2,q3⟩) rfl rfl
noncomputable def BbE(l m:List Arr):Con:=fun k _ _=>match k with
 |11=>some (sPr Arr.row1 (fun x=>x.1∈l/\x.2∈m))
 |_=>none
noncomputable def EeA(l m:List Arr):Senv:={ EC (BbE l m) 32 3 [6,7,8,9,14,15,16,17,18,30] (fun _=>([],[])) with
 ann:=fun q _ S=>match q with
  |0=>some { slots:=[17],keep:=[0,1,2,15,16],α:=Nat,st:=fun i=>([.int .i64 i],S),inv:=fun i=>i<=l.length/\∀j,j<i->l.getD j default=m.getD j default,mu:=fun i=>l.length-i }
  |_=>none }
def QeC(a b:List Arr):Prop:=RT (false=BW a b)
def J1:Arr:=DA
def Jh(a:List Arr)(b:Nat):Arr:=List.getD a b J1
def Hi(a:Nat)(b c:List Arr):Prop:=a<=LN b/\∀(j:Nat),j<a->Jh b j=Jh c j
def XK(a:List Arr)(b:Nat):Arr:=List.getD a (Int.toNat (↑b:Int)) J1
def QeD(a:List Arr)(b:Nat):List Int:=Arr.sh (XK a b)
def QeE(a:List Arr)(b:Nat):Nat:=LN (QeD a b)
def QeF(a:List Arr)(b:Nat):List Int:=Arr.nu (XK a b)
def QeG(a:List Arr)(b:Nat):Nat:=LN (QeF a b)
def QeH(a:List Arr)(b:Nat):List Arr:=Arr.it (XK a b)
def QeI(a:List Arr)(b:Nat):Nat:=LN (QeH a b)
def QeJ(a:List Arr)(b:Nat)(c:Arr):Prop:=Arr.k (XK a b)=Arr.k c/\(QeE a b=LN (Arr.sh c)/\(∀(i:Nat),i<QeE a b->[ZI (GI (QeD a b) i)]=[ZI (GI (Arr.sh c) i)])/\True)/\(QeG a b=LN (Arr.nu c)/\(∀(i:Nat),i<QeG a b->[ZI (GI (QeF a b) i)]=[ZI (GI (Arr.nu c) i)])/\True)/\(QeI a b=LN (Arr.it c)/\(∀(i:Nat),i<QeI a b->Arr.row (List.getD (QeH a b) i J1)=Arr.row (List.getD (Arr.it c) i J1))/\True)/\True
def Qgm(a:List Arr)(b:Nat):List Int:=Arr.sh (Jh a b)
def Qgn(a:List Arr)(b:Nat):List Int:=Arr.nu (Jh a b)
def QeK(a:List Arr)(b:Nat):List Arr:=Arr.it (Jh a b)
def Qgo(a:List Arr):D:=D.sl N4 (LN a) (fun i=>[ZI (Arr.k (Jh a i)),SI (Qgm a i),SI (Qgn a i),D.sl N4 (LN (QeK a i)) (fun i_1=>Arr.row (List.getD (QeK a i) i_1 J1)) Mode.any]) Mode.any
def Hj(a:List Arr):Prop:=SM (Qgo a)
theorem BbD(l m:List Arr)(hl:l.length<=maxLen)(hm:m.length<=maxLen)(hc:ConOk Try.prog (BbE l m)):ACalls Try.prog 27 [gsl 4 Arr.row1 l,gsl 4 Arr.row1 m,.fn (.func 11) [] []] ⟨[],[]⟩ (SpecR (sC [gsl 4 Arr.row1 l,gsl 4 Arr.row1 m,.fn (.func 11) [] []] (.bool (BW l m))) ()):=by
 refine Bp (A:=sC _ _) (x:=()) (E:=EeA l m) (eOk hc rfl) Try.func27 rfl (by kernel_rfl) rfl (by simp[sC,EeA,EC,E0]) ?_
 refine Bt (T :=
  ifB ((LI l) != (LI m)) (QeC l m) ((∃(x:Nat),Hi x l m/\(Z0=(↑x:Int)/\True)/\True/\True)/\∀(x:Nat),Hi x l m->ifB (decide ((↑x:Int)<(LI l))) (Bb (Z0<=(↑x:Int)/\(↑x:Int)<(LI l)) (∀(x_1:Nat),True->SM x_1/\Bb (Z0<=(↑x:Int)/\(↑x:Int)<(LI m)) (∀(x_2:Nat),x_1≠x_2/\True->SM x_2/\SM x_1/\SM x_2/\∃(x_3:Arr×Arr),(QeJ l x x_3.1/\QeJ m x x_3.2/\True)/\(True/\True)/\(x_3.1∈l/\x_3.2∈m)/\∀(y:Unit),True->ifB (!BW x_3.1 x_3.2) (QeC l m) ((Hj l/\Hj m/\SM (D.fn (Fn.func (11:Nat)) [] [])/\Hj l/\SM (ZI (LI l))/\True)/\∃(y:Nat),Hi y l m/\LN l-y<LN l-x/\(IntKind.wrap IntKind.i64 ((↑x:Int)+Z1)=(↑y:Int)/\True)/\True/\True)))) (RT (true=BW l m)))) (by kernel_rfl) ?_
 delta DA GI LI LN N1 N4 SI SM Z0 Z1 ZI QeE QeF QeG QeH QeI QeJ Qgm Qgn QeK Qgo Hj QeC J1 Jh Hi XK QeD RT
 simp only[Bn,Bd,decide_eq_true_eq,decide_eq_false_iff_not,true_and,and_true,beq_iff_eq,bne_iff_ne,bne_eq_false_iff_eq,ne_eq,exists_const,forall_const,implies_true,Int.toNat_natCast,Bool.not_eq_true',Bool.not_eq_false',Prod.exists]
 simp only[maxLen] at hl hm
 refine⟨fun h=>Em fun e=>h (by rw[e]),fun he=>⟨⟨0,⟨Nat.zero_le _,fun j hj=>absurd hj (by omega)⟩,rfl⟩,fun i hi=>⟨fun hlt=>⟨⟨by omega,by omega⟩,fun _=>⟨⟨by omega,by omega⟩,fun _ _=>⟨l.getD i default,m.getD i default,?_,⟨ON (by omega),ON (by omega)⟩,fun hn=>Em fun e=>?_,fun hs=>⟨i+1,⟨by omega,T1 hi.2 (B2.1 hs)⟩,by omega,Bc (by omega) (by omega)⟩⟩⟩⟩,fun hge=>OS (Rh default (by omega) fun j hj=>hi.2 j (by omega))⟩⟩⟩
 ·repeat' (first | rfl | exact fun _ _=>rfl | refine And.intro ?_ ?_)
 ·rw[e,B2.2 rfl] at hn;cases hn
theorem T6{α β:Type}{a b:α}{c d:β}(h:a=b↔c=d):BW a b=BW c d:=by
 rw[Bool.eq_iff_iff,B2,B2];exact h
theorem Bcj{a b:Arr}(h1:a.k=b.k)(h2:a.sh=b.sh)(h3:a.nu=b.nu)(h4:a.it=b.it):a=b:=by
 cases a;cases b
 simp only[Arr.k,Arr.sh,Arr.nu,Arr.it] at h1 h2 h3 h4
 rw[h1,h2,h3,h4]
noncomputable def Bcd(l m:List Arr):Con:=fun k ds _=>match k with
 |27=>some (pC ds (.bool (BW l m)) (Bo ds [gsl 4 Arr.row1 l,gsl 4 Arr.row1 m,.fn (.func 11) [] []]))
 |26=>match ds with
  | [.sl 1 n f _,.sl 1 p g _]=>some (pC ds (.bool (BW (BF n f) (BF p g))) ((IntsP n f/\n<=maxLen)/\IntsP p g/\p<=maxLen))
  |_=>none
 |_=>none
noncomputable def Eas(a b:Arr):Senv:=EC (Bcd a.it b.it) 31 5 [] (fun _=>([],[]))
def QeL(a:Arr):Prop:=(IntsP (LN (Arr.sh a)) fun i=>[ZI (GI (Arr.sh a) i)])/\LN (Arr.sh a)<=9223372036854775807
def QeM(a:Arr):List Int:=BF (LN (Arr.sh a)) fun i=>[ZI (GI (Arr.sh a) i)]
def QeN(a:Arr):Prop:=(IntsP (LN (Arr.nu a)) fun i=>[ZI (GI (Arr.nu a) i)])/\LN (Arr.nu a)<=9223372036854775807
def QeO(a:Arr):List Int:=BF (LN (Arr.nu a)) fun i=>[ZI (GI (Arr.nu a) i)]
def J2(a:Arr):List Arr:=Arr.it a
def QeP:Arr:=DA
def XL(a:Arr)(b:Nat):Arr:=List.getD (J2 a) b QeP
def Qgp(a:Arr)(b:Nat):List Int:=Arr.sh (XL a b)
def Qgq(a:Arr)(b:Nat):List Int:=Arr.nu (XL a b)
def QeQ(a:Arr)(b:Nat):List Arr:=Arr.it (XL a b)
def Qgr(a:Arr)(b:Nat):List D:=[ZI (Arr.k (XL a b)),SI (Qgp a b),SI (Qgq a b),D.sl N4 (LN (QeQ a b)) (fun i=>Arr.row (List.getD (QeQ a b) i QeP)) Mode.any]
def QeR(a:Arr):Prop:=SM (LN (J2 a))/\(∀(i:Nat),i<LN (J2 a)->SM (Qgr a i))/\True
def Hk(a b:Arr):Prop:=RT (false=BW a b)
theorem BcY(a b : Arr)(ha : a.sh.length<=maxLen /\ a.nu.length<=maxLen /\ a.it.length<=maxLen)(hb : b.sh.length<=maxLen /\ b.nu.length<=maxLen /\ b.it.length<=maxLen)(hc : ConOk Try.prog (Bcd a.it b.it)) :
  ACalls Try.prog 11 [.agg a.row2,.agg b.row2] ⟨[],[]⟩ (SpecR (sC [.agg a.row2,.agg b.row2] (.bool (BW a b))) ()):=by
 refine Bp (A:=sC _ _) (x:=()) (E:=Eas a b) (eOk hc rfl) Try.func11 rfl (by kernel_rfl) rfl (by simp[sC,Eas,EC,E0]) ?_
 refine Bt (T :=
  ∀(x:Nat),True->∀(x_1:Nat),x≠x_1/\True->SM x/\SM x_1/\ifB (Arr.k a==Arr.k b) (SM x/\SM x_1/\(QeL a/\QeL b)/\∀(y:Unit),True->ifB (BW (QeM a) (QeM b)) (SM x/\SM x_1/\(QeN a/\QeN b)/\∀(y:Unit),True->ifB (BW (QeO a) (QeO b)) (SM x/\SM x_1/\(QeR a/\QeR b/\SM (D.fn (Fn.func (11:Nat)) [] [])/\True)/\∀(y:Unit),True->RT (BW (J2 a) (J2 b)=BW a b)) (Hk a b)) (Hk a b)) (Hk a b)) (by kernel_rfl) ?_
 delta DA GI LN N1 N4 SI SM Z0 ZI QeL QeM QeN QeO J2 QeP XL Qgp Qgq QeQ Qgr QeR Hk RT
 simp only[Bn,Bd,decide_eq_true_eq,decide_eq_false_iff_not,true_and,and_true,beq_iff_eq,bne_iff_ne,bne_eq_false_iff_eq,beq_eq_false_iff_ne,ne_eq,exists_const,forall_const,implies_true,Int.toNat_natCast,Bool.not_eq_true',Bool.not_eq_false',Bl,eq_self,Cr]
 simp only[maxLen] at ha hb
 obtain ⟨a1,a2,a3⟩:=ha
 obtain ⟨b1,b2,b3⟩:=hb
 have no:∀ {α:Type} {x y:α},BW x y=false->x≠y:=fun h e=>by rw[B2.2 e] at h;cases h
 exact fun _ _ _=>⟨fun hk=>⟨⟨⟨BI _,a1⟩,BI _,b1⟩,fun hs=>⟨⟨⟨BI _,a2⟩,BI _,b2⟩,fun hn=>T6 ⟨fun e=>Bcj hk (B2.1 hs) (B2.1 hn) e,fun e=>by rw[e]⟩,fun hn=>Em fun e=>no hn (by rw[e])⟩,fun hs=>Em fun e=>no hs (by rw[e])⟩,fun h=>Em fun e=>h (by rw[e])⟩
theorem Bdw{a b:Arr}{k:Nat}{d:D}(h:ACalls Try.prog k [.agg a.row2,.agg b.row2] ⟨[],[]⟩ (SpecR (sC [.agg a.row2,.agg b.row2] d) ())):ACalls Try.prog k [.agg a.row1,.agg b.row1] ⟨[],[]⟩ (SpecR (sC [.agg a.row1,.agg b.row1] d) ()) :=
 (h.wkArgs (by simp only[wkL,wkD];exact⟨Ck _,Ck _,trivial⟩)).mono fun _ _ ⟨y,q1,q2,q3⟩=>⟨y,q1,q2,q3⟩
theorem BbN:∀(a b:Arr),a.ok->b.ok->ACalls Try.prog 11 [.agg a.row2,.agg b.row2] ⟨[],[]⟩ (SpecR (sC [.agg a.row2,.agg b.row2] (.bool (BW a b))) ())
 |.mk k s n is,.mk k' s' n' is',ha,hb=>by
  simp only[Arr.ok] at ha hb
  obtain ⟨_,_,_,a1,a2,a3,a4⟩:=ha
  obtain ⟨_,_,_,b1,b2,b3,b4⟩:=hb
  refine BcY _ _ ⟨a1,a2,a3⟩ ⟨b1,b2,b3⟩ ?_
  intro f ds S A h
  unfold Bcd at h
  split at h
  ·injection h with h;subst h
   refine Ei fun e=>⟨Bl _,CF e (BbD _ _ a3 b3 ?_)⟩
   intro f ds S A h
   unfold BbE at h
   split at h
   ·injection h with h;subst h
    refine BdI fun (x:Arr×Arr) hx=>?_
    obtain ⟨x,y⟩:=x
    have hx1:x∈is:=hx.1
    have hx2:y∈is':=hx.2
    exact Bdw (BbN x y ((Ce _).1 a4 x hx1) ((Ce _).1 b4 y hx2))
   ·cases h
  ·split at h
   ·injection h with h;subst h
    exact Ei fun ⟨⟨h1,h2⟩,h3,h4⟩=>⟨Bl _,CF (us:=[isl (BF _ _) .any,isl (BF _ _) .any]) ⟨(Cj h1).1,(Cj h3).1,trivial⟩ (BdK _ _ (by rw[C5];exact h2) (by rw[C5];exact h4))⟩
   ·cases h
  ·cases h
termination_by a=>SizeOf.sizeOf a
decreasing_by
 have:=List.sizeOf_lt_of_mem hx1
 simp;omega
def BbZ(x y:Arr):Con:=fun k ds S=>match k with
 |20=>some (pA ds S (.tup [.agg (joA x y).row1,.int .i64 0]) (wkL ds [.agg x.row1,.agg y.row1,.bool false]))
 |_=>none
theorem Bcc{x y:Arr}{s:List Int}(h:JoH x y s):ConOk Try.prog (BbZ x y):=by
 intro k ds S A hh
 unfold BbZ at hh
 split at hh
 ·injection hh with hh;subst hh
  refine BB fun e=>CD.at_ (CD.wk ?_ e) _
  exact ((Bet x y s h).at_ ⟨[],[]⟩ |>.res fun C v=>U0 (IQ _ C) (fun _ q=>q) v).cd
 ·cases hh
noncomputable def Ejf(x y:Arr):Senv:=EC (BbZ x y) 11 6 [] (fun _=>([],[]))
def QeS:Arr:=DA
def QeT(a:Arr)(b:Nat):List D:=Arr.row (List.getD (Arr.it a) b QeS)
def QeU(a:Arr):Prop:=SM (Arr.k a)/\(SM (LN (Arr.sh a))/\(∀(i:Nat),i<LN (Arr.sh a)->SM (GI (Arr.sh a) i)/\True)/\True)/\(SM (LN (Arr.nu a))/\(∀(i:Nat),i<LN (Arr.nu a)->SM (GI (Arr.nu a) i)/\True)/\True)/\(SM (LN (Arr.it a))/\(∀(i:Nat),i<LN (Arr.it a)->wkL (QeT a i) (QeT a i))/\True)/\True
def QeV(a b:Arr):Nat:=LN (Arr.sh (joA a b))
def Qgs(a b:Arr)(c:Nat):List D:=[ZI (GI (Arr.sh (joA a b)) c)]
def QeW(a b:Arr):Nat:=LN (Arr.nu (joA a b))
def Qgt(a b:Arr)(c:Nat):List D:=[ZI (GI (Arr.nu (joA a b)) c)]
def QeX(a b:Arr):Nat:=LN (Arr.it (joA a b))
def Qgu(a b:Arr)(c:Nat):List D:=Arr.row (List.getD (Arr.it (joA a b)) c QeS)
theorem Bdb(x y:Arr)(s:List Int)(h:JoH x y s):CD 7 [.agg x.row1,.agg y.row1] (.tup [.agg (joA x y).row1,.int .i64 0]):=by
 refine Bp (A:=sC _ _) (x:=()) (E:=Ejf x y) (eOk (Bcc h) rfl) Try.func7 rfl (by kernel_rfl) rfl (by simp[sC,Ejf,EC,E0]) ?_
 refine Bt (T :=
  ∀(x_1:Nat),True->∀(x_2:Nat),x_1≠x_2/\True->∀(x_3:Nat),x_2≠x_3/\x_1≠x_3/\True->SM x_1/\SM x_2/\∃(x_4:Unit),(QeU x/\QeU y/\SM false/\True)/\∀(y_1:Unit),True->SM x_3/\(SM x_3/\True)/\∃(y_2:Unit),True/\((SM (Arr.k (joA x y))/\(SM (QeV x y)/\(∀(i:Nat),i<QeV x y->SM (Qgs x y i))/\True)/\(SM (QeW x y)/\(∀(i:Nat),i<QeW x y->SM (Qgt x y i))/\True)/\(SM (QeX x y)/\(∀(i:Nat),i<QeX x y->SM (Qgu x y i))/\True)/\True)/\SM Z0/\True)/\True/\True) (by kernel_rfl) ?_
 delta DA GI LN SM Z0 ZI QeS QeT QeU QeV Qgs QeW Qgt QeX Qgu
 have da:(default:Arr)=Arr.mk 0 [] [] []:=rfl
 simp only[<- da]
 simp only[ne_eq,implies_true,true_and,and_true,exists_const,forall_const]
 exact fun _ _ _ _ _=>⟨fun _ _=>Bf _,fun _ _=>Bf _⟩
def BaE(a:Arr):Con:=fun k ds S=>match k with
 |17=>some (pA ds S (.int .i64 (wtA a)) (wkL ds [.agg a.row1]))
 |18=>some (pA ds S (.int .i64 (Bi a).1) (wkL ds [.agg a.row1]))
 |_=>none
theorem Bby{a:Arr}(h:a.ok):ConOk Try.prog (BaE a):=by
 intro k ds S A hh
 have hrow:wkL [.agg a.row1] [.agg a.row2]:=by
  simp only[wkL,wkD]
  exact⟨Ck a,trivial⟩
 unfold BaE at hh
 split at hh
 ·injection hh with hh;subst hh
  have h1:CD 17 [.agg a.row2] (.int .i64 (wtA a)):=(WE a h).mono fun _ _ ⟨y,q1,q2,q3⟩=>⟨(),trivial,q2,q3⟩
  exact BB fun e=>CD.at_ (CD.wk (CD.wk h1 hrow) e) _
 ·injection hh with hh;subst hh
  have h1:CD 18 [.agg a.row2] (.int .i64 (Bi a).1):=(BdF a h).mono fun _ _ ⟨y,q1,q2,q3⟩=>⟨(),trivial,q2,q3⟩
  exact BB fun e=>CD.at_ (CD.wk (CD.wk h1 hrow) e) _
 ·cases hh
noncomputable def Efw(a:Arr):Senv:=EC (BaE a) 14 3 [4] (fun _=>([],[]))
def QeY(a:Arr)(b:Nat):List D:=Arr.row (GA (Arr.it a) b)
def QeZ(a:Arr):Prop:=(SM (Arr.k a)/\(SM (LN (Arr.sh a))/\(∀(i:Nat),i<LN (Arr.sh a)->SM (GI (Arr.sh a) i)/\True)/\True)/\(SM (LN (Arr.nu a))/\(∀(i:Nat),i<LN (Arr.nu a)->SM (GI (Arr.nu a) i)/\True)/\True)/\(SM (LN (Arr.it a))/\(∀(i:Nat),i<LN (Arr.it a)->wkL (QeY a i) (QeY a i))/\True)/\True)/\True
def Qe0(a:Arr)(b:Int):Bool:=decide (wtA a<=b)&&Prod.fst (Bi a)==Z0
theorem BdT(a:Arr)(n:Int)(h:a.ok):CD 5 [.agg a.row1,.int .i64 n] (.bool (decide (wtA a<=n)&&(Bi a).1==0)):=by
 refine Bp (A:=sC _ _) (x:=()) (E:=Efw a) (eOk (Bby h) rfl) Try.func5 rfl (by kernel_rfl) rfl (by simp[sC,Efw,EC,E0]) ?_
 refine Bt (T :=
  ∀(x:Nat),True->SM x/\∃(x_1:Unit),QeZ a/\∀(y:Unit),True->ifB (decide (wtA a<=n)) (SM x/\∃(x:Unit),QeZ a/\∀(y:Unit),True->RT ((Prod.fst (Bi a)==Z0)=Qe0 a n)) (RT (false=Qe0 a n))) (by kernel_rfl) ?_
 delta DA GA GI LN SM Z0 QeZ Qe0 QeY RT
 have da:(default:Arr)=Arr.mk 0 [] [] []:=rfl
 simp only[<- da]
 simp only[implies_true,Bn,decide_eq_true_eq,decide_eq_false_iff_not,true_and,and_true,exists_const,forall_const]
 exact⟨fun _ _=>Bf _,fun hw=>⟨fun _ _=>Bf _,by simp[hw]⟩,fun hw=>by simp[hw]⟩
noncomputable def Etl:Senv:=EC EA 11 3 [6] (fun _=>([],[]))
def J3(a:Arr):List Int:=Arr.sh a
def Qe1(a:Arr):Int:=if J3 a=[] then Z1 else List.headD (J3 a) Z0
theorem BdU(a:Arr):CD 12 [.agg a.row1] (.int .i64 (if a.sh=[] then 1 else a.sh.headD 0)):=by
 refine Bp (A:=sC _ _) (x:=()) (E:=Etl) (eOk BA rfl) Try.func12 rfl (by kernel_rfl) rfl (by simp[sC,Etl,EC,E0]) ?_
 refine Bt (T :=
  ∀(x:Nat),True->SM x/\ifB ((LI (J3 a))==Z0) (RT (Z1=Qe1 a)) (SM x/\Bb (Z0<=Z0/\Z0<(LI (J3 a))) (RT (GI (J3 a) N0=Qe1 a)))) (by kernel_rfl) ?_
 delta GI LI LN N0 SM Z0 Z1 J3 Qe1 RT
 have da:(default:Arr)=Arr.mk 0 [] [] []:=rfl
 simp only[]
 simp only[ne_eq,Bn,Bd,true_and,and_true,beq_iff_eq,beq_eq_false_iff_ne,exists_const,forall_const]
 refine⟨fun e=>?_,fun e=>⟨⟨by omega,by omega⟩,?_⟩⟩
 ·rw[if_pos (List.eq_nil_of_length_eq_zero (by omega))]
 ·rw[if_neg (fun q=>e (by rw[q];rfl))]
  cases a.sh<;>rfl
def vcA(l:List Int):Arr:=.mk 1 [(l.length:Int)] l []
noncomputable def Evc:Senv:=EC EA 8 1 [2] (fun _=>([],[]))
def Qe2(a:List Int):Arr:=Arr.mk Z1 [(LI a)] a []
def Qe3(a:List Int):List Int:=Arr.nu (Qe2 a)
theorem O8(l:List Int):CD 19 [isl l .any] (.agg (vcA l).row1):=by
 refine CD.ofW (Ig (E:=Evc) (eOk BA rfl) Try.func19 rfl (by kernel_rfl) rfl (by simp[Evc,EC,E0]) ?_)
 refine Bt (T :=
  ∀(x:Nat),True->SM x/\(SM x/\True)/\Z1=Arr.k (Qe2 l)/\(SM N1/\(∀(i:Nat),i<N1->wkL (List.getD [[ZI (LI l)]] i []) [ZI (GI [(LI l)] i)])/\True)/\(LN l=LN (Qe3 l)/\(∀(i:Nat),i<LN l->GI l i=GI (Qe3 l) i/\True)/\True)/\(SM N0/\(∀(i:Nat),i<N0->False)/\True)/\True) (by kernel_rfl) ?_
 delta GI LI LN N0 N1 SM Z0 Z1 ZI Qe2 Qe3
 simp only[eq_self,true_and,and_true,forall_const]
 refine⟨rfl,fun i hi=>?_,⟨rfl,fun _ _=>rfl⟩,fun i hi=>absurd hi (Nat.not_lt_zero i)⟩
 obtain rfl:i=0:=by omega
 exact Bf _
theorem Bc6(a:Arr)(h:a.ok):CD 11 [.agg a.row1,.agg a.row1] (.bool true):=by
 have h1:CD 11 [.agg a.row2,.agg a.row2] (.bool (BW a a)):=BbN a a h h
 rw[B2.2 rfl] at h1
 refine h1.wk ?_
 simp only[wkL,wkD]
 exact⟨Ck a,Ck a,trivial⟩
def v231:Arr:=vcA [2,3,1]
def knP(l:List Int)(ds:List D):Prop:=wkL ds [isl l .any]
def rtP(a:Arr)(n:Nat)(ds:List D):Prop:=wkL ds [.agg (nmA n).row1,.agg a.row1]
def fsP(a b:Arr)(ds:List D):Prop:=wkL ds [.agg a.row1,.agg b.row1]
def BbJ:Con:=fun k ds S=>match k with
 |14=>some (pA ds S (.agg (nmA 1).row1) (ds=[.int .i64 1]))
 |19=>match ds with
  | [.sl 1 n f _m]=>match n with
   |1=>some (pA ds S (.agg (vcA [1]).row1) (knP [1] ds))
   |2=>some (pA ds S (.agg (vcA [2,3]).row1) (knP [2,3] ds))
   |_=>match f 0 with
    | [.int _ z]=>match Int.decEq z 1 with
     |.isTrue _=>some (pA ds S (.agg (vcA [1,2,3]).row1) (knP [1,2,3] ds))
     |.isFalse _=>some (pA ds S (.agg v231.row1) (knP [2,3,1] ds))
    |_=>none
  |_=>none
 |16=>some (pA ds S (.tup [.agg v231.row1,.int .i64 0]) (rtP (vcA [1,2,3]) 1 ds))
 |7=>some (pA ds S (.tup [.agg v231.row1,.int .i64 0]) (fsP (vcA [2,3]) (vcA [1]) ds))
 |11=>some (pA ds S (.bool true) (fsP v231 v231 ds))
 |_=>none
theorem Oh{z:Int}(h:-100<=z/\z<=100):EZ z:=by
 unfold EZ;omega
theorem WV{l:List Int}(h1:∀z∈l,-100<=z/\z<=100)(h2:l.length<=100):(vcA l).ok:=by
 refine⟨Oh (by decide),?_,fun z hz=>Oh (h1 z hz),by simp[maxLen],by simp only[maxLen];omega,by simp[maxLen],trivial⟩
 intro z hz
 rw[List.mem_singleton.1 hz]
 exact Oh (by omega)
theorem ok3:(vcA [1,2,3]).ok:=WV (by decide) (by decide)
theorem chk3:(Bi (vcA [1,2,3])).1=0:=by decide
theorem roV:roA 1 (vcA [1,2,3])=v231:=rfl
theorem joV:joA (vcA [2,3]) (vcA [1])=v231:=rfl
theorem hV:JoH (vcA [2,3]) (vcA [1]) [3]:=⟨by decide,by decide,WV (by decide) (by decide),WV (by decide) (by decide),rfl,by decide,by decide,rfl,rfl,by decide,by decide⟩
theorem BaF:ConOk Try.prog BbJ:=by
 intro k ds S A hh
 unfold BbJ at hh
 split at hh
 ·injection hh with hh;subst hh
  refine BB fun e=>CD.at_ ?_ _
  rw[e]
  exact Bc7 1
 ·split at hh
  ·split at hh
   ·injection hh with hh;subst hh
    exact BB fun e=>CD.at_ (CD.wk (O8 [1]) e) _
   ·injection hh with hh;subst hh
    exact BB fun e=>CD.at_ (CD.wk (O8 [2,3]) e) _
   ·split at hh
    ·split at hh
     ·injection hh with hh;subst hh
      exact BB fun e=>CD.at_ (CD.wk (O8 [1,2,3]) e) _
     ·injection hh with hh;subst hh
      exact BB fun e=>CD.at_ (CD.wk (O8 [2,3,1]) e) _
    ·cases hh
  ·cases hh
 ·injection hh with hh;subst hh
  refine BB fun e=>CD.at_ (CD.wk ?_ e) _
  have:=Bdj (vcA [1,2,3]) 1 (by decide) chk3 ok3 (by decide) (by decide)
  rw[roV] at this
  exact this
 ·injection hh with hh;subst hh
  refine BB fun e=>CD.at_ (CD.wk ?_ e) _
  have:=Bdb (vcA [2,3]) (vcA [1]) [3] hV
  rw[joV] at this
  exact this
 ·injection hh with hh;subst hh
  exact BB fun e=>CD.at_ (CD.wk (Bc6 v231 (WV (by decide) (by decide))) e) _
 ·cases hh
noncomputable def Ekn:Senv:=EC BbJ 35 5 [] (fun id=>match id with | 3=>([0,1,2,3,4,5,6,7,8,9,10,11,12,13,14,15],[7,11,12,13]) | _=>([],[]))
def XM:List D:=[ZI Z1]
def Qe4:List (List D):=[[ZI 2],[ZI 3]]
def J4:Arr:=vcA [Z1,(2:Int),(3:Int)]
def XN:Arr:=nmA N1
def Qgv:List Int:=Arr.sh XN
def Qgw:List Int:=Arr.nu XN
def J5:List D:=Arr.row DA
def Qgx:List Int:=Arr.sh J4
def Qgy:List Int:=Arr.nu J4
def J6:Arr:=vcA [(2:Int),(3:Int)]
def J7:Arr:=vcA [Z1]
def Qgz:List Int:=Arr.sh J6
def QgA:List Int:=Arr.nu J6
def QgB:List Int:=Arr.sh J7
def QgC:List Int:=Arr.nu J7
def Hl:D:=D.agg [ZI (Arr.k v231),SI (Arr.sh v231),SI (Arr.nu v231),D.sl N4 (LN (Arr.it v231)) (fun _i=>J5) Mode.any]
def Qe5:Prop:=fsP v231 v231 [Hl,Hl]
def Qe6(a:Nat):Prop:=SM a/\SM Hl
theorem Bd8:CD 6 [] (.bool true):=by
 refine Bp (A:=sC _ _) (x:=()) (E:=Ekn) (eOk BaF rfl) Try.func6 rfl (by kernel_rfl) rfl (by simp[sC,Ekn,EC,E0]) ?_
 refine Bt (T :=
  ∃(x:Unit),SM XM/\∀(y:Unit),True->∃(x:Unit),knP [Z1,(2:Int),(3:Int)] [D.sl N1 (3:Nat) (fun i=>List.getD (XM::Qe4) i []) Mode.full]/\∀(y:Unit),True->∃(x:Unit),rtP J4 N1 [D.agg [ZI (Arr.k XN),SI Qgv,SI Qgw,D.sl N4 (LN (Arr.it XN)) (fun i=>J5) Mode.any],D.agg [ZI (Arr.k J4),SI Qgx,SI Qgy,D.sl N4 (LN (Arr.it J4)) (fun i=>J5) Mode.any]]/\∀(y:Unit),True->∀(x:Nat),True->SM x/\∃(x_1:Unit),knP [(2:Int),(3:Int)] [D.sl N1 N2 (fun i=>List.getD Qe4 i []) Mode.full]/\∀(y:Unit),True->∃(x_2:Unit),knP [Z1] [D.sl N1 N1 (fun i=>List.getD [XM] i []) Mode.full]/\∀(y:Unit),True->∃(x_3:Unit),fsP J6 J7 [D.agg [ZI (Arr.k J6),SI Qgz,SI QgA,D.sl N4 (LN (Arr.it J6)) (fun i=>J5) Mode.any],D.agg [ZI (Arr.k J7),SI QgB,SI QgC,D.sl N4 (LN (Arr.it J7)) (fun i=>J5) Mode.any]]/\∀(y:Unit),True->∀(x_4:Nat),x≠x_4/\True->SM x_4/\SM x/\SM x_4/\∃(x_5:Unit),Qe5/\∀(y:Unit),True->SM x/\Qe6 x/\∃(x_6:Unit),knP [(2:Int),(3:Int),Z1] [D.sl N1 (3:Nat) (fun i=>List.getD [[ZI 2],[ZI 3],XM] i []) Mode.full]/\∀(y:Unit),True->Qe6 x/\∃(x:Unit),Qe5/\∀(y:Unit),True->RT (SM true)) (by kernel_rfl) ?_
 delta DA GI LN N1 N2 N4 SI SM Z0 Z1 ZI XM Qe4 J7 Qgz QgA QgB QgC Hl Qe5 Qe6 J4 XN Qgv Qgw J5 Qgx Qgy J6 RT
 have da:(default:Arr)=Arr.mk 0 [] [] []:=rfl
 simp only[<- da]
 simp only[ne_eq,implies_true,true_and,and_true,exists_const,forall_const]
 have k3:∀ {a b c:Int},knP [a,b,c] [D.sl 1 3 (fun i=>[[D.int .i64 a],[D.int .i64 b],[D.int .i64 c]].getD i []) .full]:=fun {a b c}=>by
  simp only[knP,isl,wkL,wkD,Ba]
  refine⟨⟨by simp,by simp,fun i hi=>?_,by simp[Bw]⟩,trivial⟩
  rcases i with _ | _ | _ | i
  ·exact Bf _
  ·exact Bf _
  ·exact Bf _
  ·omega
 have k2:knP [2,3] [D.sl 1 2 (fun i=>[[D.int .i64 2],[D.int .i64 3]].getD i []) .full]:=by
  simp only[knP,isl,wkL,wkD,Ba]
  refine⟨⟨by simp,by simp,fun i hi=>?_,by simp[Bw]⟩,trivial⟩
  rcases i with _ | _ | i
  ·exact Bf _
  ·exact Bf _
  ·omega
 have k1:knP [1] [D.sl 1 1 (fun i=>[[D.int .i64 1]].getD i []) .full]:=by
  simp only[knP,isl,wkL,wkD,Ba]
  refine⟨⟨by simp,by simp,fun i hi=>?_,by simp[Bw]⟩,trivial⟩
  obtain rfl:i=0:=by omega
  exact Bf _
 exact⟨k3,Bf _,fun x=>⟨k2,k1,Bf _,fun y _=>⟨Bf _,k3,Bf _⟩⟩⟩
def wtS:List Arr->Int
 | []=>0
 |x::r=>wtA x+wtS r
theorem Ra:∀(a b:List Arr),wtS (a++b)=wtS a+wtS b
 | [],b=>by simp[wtS]
 |x::a,b=>by rw[List.cons_append,wtS,wtS,Ra a b];omega
theorem Re:∀(a:List Arr),0<=wtS a
 | []=>by simp[wtS]
 |x::a=>by
  have:=(Cl x).1
  have:=Re a
  rw[wtS];omega
theorem Wd:∀(l:List Arr) (n:Int),wtL 3 l n<=n+wtS l
 | [],n=>by simp[wtL,wtS]
 |x::r,n=>by
  rw[wtL,wtS]
  have:=(Cl x).1
  have:=Re r
  split
  ·have:=Wd r (n+wtA x)
   omega
  ·omega
theorem BbY:∀(l:List Arr) (n:Int),wtL 3 l n<=262144->wtL 3 l n=n+wtS l
 | [],n,_=>by simp[wtL,wtS]
 |x::r,n,h=>by
  rw[wtL] at h ⊢
  rw[wtS]
  split
  ·rename_i h1
   rw[if_pos h1] at h
   rw[BbY r _ h];omega
  ·rename_i h1
   rw[if_neg h1] at h
   exact absurd ⟨rfl,h⟩ h1
theorem Bbj{k : Int}{s s1 s2 nu nu1 nu2 : List Int}{it it1 it2 : List Arr}(hk : k=1 \/ k=2 \/ k=3)(h : wtA (.mk k s nu it)<=200)(hn : nu.length=nu1.length+nu2.length)(hi : it=it2++it1) :
  wtA (.mk k s1 nu1 it1)+wtA (.mk k s2 nu2 it2)<=262144:=by
 have hl:it.length=it2.length+it1.length:=by rw[hi,List.length_append]
 rw[wtA] at h ⊢
 rw[wtA]
 by_cases h3:k=3
 ·subst h3
  have e1:=Wd it1 (Bz 3 nu1.length it1.length)
  have e2:=Wd it2 (Bz 3 nu2.length it2.length)
  have e3:=BbY it (Bz 3 nu.length it.length) (by omega)
  have e4:wtS it=wtS it2+wtS it1:=by rw[hi,Ra]
  have z:∀m n:Nat,Bz 3 m n=n:=fun m n=>by simp[Bz]
  rw[z] at e1 e2 e3 h ⊢
  rw[z]
  omega
 ·rw[Im h3,Im h3]
  rw[Im h3] at h
  have z:∀m n:Nat,Bz k m n=m:=fun m n=>by unfold Bz;rw[if_pos (by omega)]
  rw[z] at h ⊢
  rw[z]
  omega
structure TH (y:Arr) (n:Nat):Prop where
 hc:(Bi y).1=0
 hr:y.sh≠[]
 hd:(n:Int)<=y.sh.headD 0
 hw:wtA y<=200
theorem TH.n6{y:Arr}{n:Nat}(h:TH y n):n<=65536:=by
 obtain ⟨h1,h2,h3,h4⟩:=h
 have hs:=(BN.1 (BJ h1)).2.1
 have hd:=((Bq _).1 hs).2.1
 cases hh:y.sh with
 |nil=>exact (h2 hh).elim
 |cons d r =>
  have:=hd d (by rw[hh];simp)
  have h3:(n:Int)<=d:=by rw[hh] at h3;exact h3
  omega
theorem TH.jo{y:Arr}{n:Nat}(h:TH y n)(ho:y.ok):JoH (drA n y) (tkA n y) y.sh:=by
 obtain ⟨h1,h2,h3,h4⟩:=h
 cases y with
 |mk k s nu it =>
  cases s with
  |nil=>exact (h2 rfl).elim
  |cons d r =>
   have h3:(n:Int)<=d:=h3
   obtain ⟨f1,f2,f3,f4⟩:=BN.1 (BJ h1)
   have p1:=MU h1 (d.toNat-n) n (by omega)
   have p2:=Tv h1 (d.toNat-n) n (by omega) ho
   have q1:=MU h1 n 0 (by omega)
   have q2:=Tv h1 n 0 (by omega) ho
   rw[Bdi h1 h3] at p1 p2
   rw[Bc3] at q1 q2
   refine⟨p1,q1,p2,q2,rfl,List.cons_ne_nil _ _,List.cons_ne_nil _ _,rfl,?_,f2,?_⟩
   ·show d::r=((d-n)+(n:Int))::r
    congr 1;omega
   ·refine Bbj (s:=d::r) f1 h4 ?_ (List.take_append_drop _ _).symm
    rw[List.length_drop,List.length_take]
    show nu.length=nu.length-n*GH (.mk k (d::r) nu it)+min (n*GH (.mk k (d::r) nu it)) nu.length
    omega
noncomputable def fwB(y:Arr):Bool:=decide (wtA y<=200)&&(Bi y).1==0
def tlA(y:Arr):Int:=if y.sh=[] then 1 else y.sh.headD 0
def feP(y:Arr)(ds:List D):Prop:=wkL ds [.agg y.row1,.int .i64 200]
def tlP(y:Arr)(ds:List D):Prop:=wkL ds [.agg y.row1]
def tkP(y:Arr)(n:Nat)(ds:List D):Prop:=wkL ds [.agg (nmA n).row1,.agg y.row1]/\TH y n
def fiP(y:Arr)(n:Nat)(ds:List D):Prop:=wkL ds [.agg (drA n y).row1,.agg (tkA n y).row1]/\TH y n
def saP(y:Arr)(n:Nat)(ds:List D):Prop:=wkL ds [.agg (roA n y).row1,.agg (roA n y).row1]/\TH y n
noncomputable def BbR(y:Arr)(n:Nat):Con:=fun k ds S=>match k with
 |5=>some (pA ds S (.bool (fwB y)) (feP y ds))
 |12=>some (pA ds S (.int .i64 (tlA y)) (tlP y ds))
 |6=>some (pA ds S (.bool true) (ds=[]))
 |14=>some (pA ds S (.agg (nmA n).row1) (ds=[.int .i64 (n:Nat)]))
 |13=>some (pA ds S (.tup [.agg (tkA n y).row1,.int .i64 0]) (tkP y n ds))
 |15=>some (pA ds S (.tup [.agg (drA n y).row1,.int .i64 0]) (tkP y n ds))
 |7=>some (pA ds S (.tup [.agg (roA n y).row1,.int .i64 0]) (fiP y n ds))
 |16=>some (pA ds S (.tup [.agg (roA n y).row1,.int .i64 0]) (tkP y n ds))
 |11=>some (pA ds S (.bool true) (saP y n ds))
 |_=>none
theorem Bdk{y:Arr}{n:Nat}(h:TH y n)(ho:y.ok):(roA n y).ok:=by
 have hj:=h.jo ho
 have e:=Bdc (n:=n) h.hr
 rw[<- e]
 cases y with
 |mk k s nu it =>
  have h1:=ho
  simp only[Arr.ok] at h1
  obtain ⟨o1,o2,o3,o4,o5,o6,o7⟩:=h1
  rw[e]
  simp only[roA,Arr.k,Arr.sh,Arr.nu,Arr.it,Arr.ok,List.length_append,List.length_drop,List.length_take]
  refine⟨o1,o2,fun z hz=>?_,o4,by omega,by omega,(Ce _).2 fun b hb=>?_⟩
  ·rcases List.mem_append.1 hz with hz | hz
   ·exact o3 z (List.mem_of_mem_drop hz)
   ·exact o3 z (List.mem_of_mem_take hz)
  ·rcases List.mem_append.1 hb with hb | hb
   ·exact (Ce _).1 o7 b (List.mem_of_mem_drop hb)
   ·exact (Ce _).1 o7 b (List.mem_of_mem_take hb)
theorem Bbz{y:Arr}{n:Nat}(ho:y.ok):ConOk Try.prog (BbR y n):=by
 intro k ds S A hh
 unfold BbR at hh
 split at hh
 ·injection hh with hh;subst hh
  exact BB fun e=>CD.at_ (CD.wk (BdT y 200 ho) e) _
 ·injection hh with hh;subst hh
  exact BB fun e=>CD.at_ (CD.wk (BdU y) e) _
 ·injection hh with hh;subst hh
  refine BB fun e=>CD.at_ ?_ _
  rw[e];exact Bd8
 ·injection hh with hh;subst hh
  refine BB fun e=>CD.at_ ?_ _
  rw[e];exact Bc7 n
 ·injection hh with hh;subst hh
  exact BB fun ⟨e,h⟩=>CD.at_ (CD.wk (Bcu y n h.n6 h.hc ho h.hr h.hd) e) _
 ·injection hh with hh;subst hh
  exact BB fun ⟨e,h⟩=>CD.at_ (CD.wk (BcS y n h.n6 h.hc ho h.hr h.hd) e) _
 ·injection hh with hh;subst hh
  refine BB fun ⟨e,h⟩=>CD.at_ (CD.wk ?_ e) _
  have:=Bdb _ _ _ (h.jo ho)
  rw[Bdc h.hr] at this
  exact this
 ·injection hh with hh;subst hh
  exact BB fun ⟨e,h⟩=>CD.at_ (CD.wk (Bdj y n h.n6 h.hc ho h.hr h.hd) e) _
 ·injection hh with hh;subst hh
  exact BB fun ⟨e,h⟩=>CD.at_ (CD.wk (Bc6 _ (Bdk h ho)) e) _
 ·cases hh
noncomputable def Ett(y:Arr)(n:Nat):Senv:=EC (BbR y n) 76 2 [3,4,5,6,7,8,9,10,11,12,31] (fun id=>match id with | 3=>([0,2,1,3,4,5,6,7,8,9],[1,3,7,8]) | 4=>([0,2,1,3,4,5,6,7,8,9],[1,3,7,8]) | 6=>([0,2,1,3,4,5,6,7,8,9],[1,3,7,8]) | _=>([],[]))
def J8:Arr:=DA
def Hm(a:Arr):D:=D.agg [ZI (Arr.k a),SI (Arr.sh a),SI (Arr.nu a),D.sl N4 (LN (Arr.it a)) (fun i=>Arr.row (List.getD (Arr.it a) i J8)) Mode.any]
def J9:Prop:=∃(_x:Unit),EY (List D) [] []/\∀(_y:Unit),True->True/\∃(_y:Unit),True/\SM true/\True/\True
def Qe7(a:Arr):List D:=[Hm a]
def Ji(a:Int):Prop:=[ZI a]=[ZI (NI (Int.toNat a))]
def Kh(a:Nat)(b:Arr):Prop:=SM a/\SM (Hm b)
def XO(a:Int):Arr:=nmA (Int.toNat a)
def QgD(a:Int):List Int:=Arr.sh (XO a)
def QgE(a:Int):List Int:=Arr.nu (XO a)
def Jj(a:Arr)(b:Int):Prop:=tkP a (Int.toNat b) (D.agg [ZI (Arr.k (XO b)),SI (QgD b),SI (QgE b),D.sl N4 (LN (Arr.it (XO b))) (fun _i=>Arr.row J8) Mode.any]::Qe7 a)
def Va(a:Int)(b:Arr):Arr:=drA (Int.toNat a) b
def Vb(a:Int)(b:Arr):Arr:=tkA (Int.toNat a) b
def Vc(a:Int)(b:Arr):Arr:=roA (Int.toNat a) b
def Qe8(a:Int)(b:Arr):D:=D.agg [ZI (Arr.k (Vc a b)),SI (Arr.sh (Vc a b)),SI (Arr.nu (Vc a b)),D.sl N4 (LN (Arr.it (Vc a b))) (fun i=>Arr.row (List.getD (Arr.it (Vc a b)) i J8)) Mode.any]
def Qe9(a b:Nat)(c:Arr)(d:Int):Prop:=SM a/\SM b/\SM a/\∃(_x:Unit),saP c (Int.toNat d) [Qe8 d c,Qe8 d c]/\∀(_y:Unit),True->J9
def Qfa(a:Nat)(b:Arr)(c:Int)(d e:Nat):Prop:=Kh a b/\∃(_x:Unit),Jj b c/\∀(_y:Unit),True->Qe9 d e b c
def Qfb(a b:Nat)(c:Arr)(d:Int)(e:Nat):Prop:=SM a/\SM a/\SM b/\∃(_x:Unit),fiP c (Int.toNat d) [D.agg [ZI (Arr.k (Va d c)),SI (Arr.sh (Va d c)),SI (Arr.nu (Va d c)),D.sl N4 (LN (Arr.it (Va d c))) (fun i=>Arr.row (List.getD (Arr.it (Va d c)) i J8)) Mode.any],D.agg [ZI (Arr.k (Vb d c)),SI (Arr.sh (Vb d c)),SI (Arr.nu (Vb d c)),D.sl N4 (LN (Arr.it (Vb d c))) (fun i=>Arr.row (List.getD (Arr.it (Vb d c)) i J8)) Mode.any]]/\∀(_y:Unit),True->∀(x:Nat),a≠x/\b≠x/\e≠x/\True->SM x/\SM e/\(∃(_x_1:Unit),Ji d/\∀(_y:Unit),True->Kh e c/\(∃(_x_2:Unit),Jj c d/\∀(_y:Unit),True->∀(x_3:Nat),x≠x_3/\a≠x_3/\b≠x_3/\e≠x_3/\True->Qe9 x_3 x c d)/\∀(x_2:Nat),x≠x_2/\a≠x_2/\b≠x_2/\e≠x_2/\True->Qfa e c d x_2 x)/\∀(x_1:Nat),x≠x_1/\a≠x_1/\b≠x_1/\e≠x_1/\True->Kh e c/\∃(_x_2:Unit),Ji d/\∀(_y:Unit),True->Qfa e c d x_1 x
def Qfc(a:Nat)(b:Arr)(c:Int)(d e:Nat):Prop:=Kh a b/\∃(_x:Unit),Jj b c/\∀(_y:Unit),True->Qfb d e b c a
def Qfd(a b:Nat)(c:Int)(d:Arr):Prop:=SM a/\SM b/\(∃(_x:Unit),Ji c/\∀(_y:Unit),True->Kh b d/\(∃(_x:Unit),Jj d c/\∀(_y:Unit),True->∀(x:Nat),a≠x/\b≠x/\True->Qfb x a d c b)/\∀(x:Nat),a≠x/\b≠x/\True->Qfc b d c x a)/\∀(x:Nat),a≠x/\b≠x/\True->Kh b d/\∃(_x_1:Unit),Ji c/\∀(_y:Unit),True->Qfc b d c x a
def Qfe(a:Nat)(b:Arr)(c:Int)(d:Nat):Prop:=Kh a b/\∃(_x:Unit),Jj b c/\∀(_y:Unit),True->Qfd d a c b
theorem Baa(z:Int)(y:Arr)(ho:y.ok):CD 4 [.int .i64 z,.agg y.row1] (.bool true):=by
 refine Bp (A:=sC _ _) (x:=()) (E:=Ett y z.toNat) (eOk (Bbz ho) rfl) Try.func4 rfl (by kernel_rfl) rfl (by simp[sC,Ett,EC,E0]) ?_
 refine Bt (T :=
  ∀(x:Nat),True->SM x/\∃(x_1:Unit),feP y [Hm y,ZI 200]/\∀(y_1:Unit),True->ifB (!fwB y) J9 (SM x/\ifB ((LI (Arr.sh y))==Z0) J9 (ifB (decide (z<Z0)) J9 (SM x/\∃(x_2:Unit),tlP y (Qe7 y)/\∀(y_2:Unit),True->ifB (decide (tlA y<z)) J9 (SM x/\(∃(x_3:Unit),Ji z/\∀(y_3:Unit),True->Kh x y/\(∃(x_4:Unit),Jj y z/\∀(y_4:Unit),True->∀(x_5:Nat),x≠x_5/\True->Qfd x_5 x z y)/\∀(x_4:Nat),x≠x_4/\True->Qfe x y z x_4)/\∀(x_3:Nat),x≠x_3/\True->Kh x y/\∃(x_4:Unit),Ji z/\∀(y_3:Unit),True->Qfe x y z x_3))))) (by kernel_rfl) ?_
 delta DA GI LI LN N1 N4 NI SI SM Z0 ZI J8 Hm Va Vb Vc Qe8 Qe9 Qfa Qfb Qfc Qfd Qfe J9 Qe7 Ji Kh XO QgD QgE Jj
 have da:(default:Arr)=Arr.mk 0 [] [] []:=rfl
 simp only[<- da]
 simp only[ne_eq,implies_true,Bn,decide_eq_true_eq,decide_eq_false_iff_not,true_and,and_true,beq_iff_eq,beq_eq_false_iff_ne,Bool.not_eq_true',Bool.not_eq_false',exists_const,forall_const]
 refine fun x=>⟨Bf _,fun h1 h2 h3=>⟨Bf _,fun h4=>?_⟩⟩
 have hs:y.sh≠[]:=fun q=>h2 (by rw[q];rfl)
 have hz:((z.toNat:Nat):Int)=z:=Int.toNat_of_nonneg (by omega)
 have T:TH y z.toNat:=by
  unfold fwB at h1
  simp only[Bool.and_eq_true,decide_eq_true_eq,beq_iff_eq] at h1
  unfold tlA at h4
  rw[if_neg hs] at h4
  exact⟨h1.2,hs,by omega,h1.1⟩
 have e:[D.int .i64 z]=[D.int .i64 (z.toNat:Nat)]:=by rw[hz]
 repeat' (first | exact e | exact⟨Bf _,T⟩ | refine And.intro ?_ ?_ | intro _)
open Go Go.Ab Go.RowKit
noncomputable def BcM:Array Value:=#[.int .i64 0,.agg #[.int .i64 0,.slice none 0 0,.slice none 0 0,.slice none 0 0]]
theorem Bah(os:Os):laidMet Try.prog Rk ((IF os).forCall (fun _ _=>0) ⟨#[],BcM,[]⟩).memory :=
 ⟨[],(by first | exact .nil | constructor | simp[DataW.LaidVars,Rk]),List.nodup_nil,fun _ _ h=>(by cases h)⟩
theorem BdX(os:Os){H:Type}(enc:TypeId×Value->H):∃x,DataW.whole enc Try.prog ((IF os).forCall (fun _ _=>0) ⟨#[],BcM,[]⟩).memory [3,26] [] false (BcM).toList 8=some x/\Rows.uptoSmall H (x.1++x.2.1)=true :=
 Ban (by kernel_rfl)
theorem Bad{H : Type}{enc : TypeId×Value -> H}
  (W:World) (base:Nat) (args:Array Value) (ds gs:List (DataW H)) (before:List MemPlace)
  (hval:∀(j:Nat) t v,Try.f4.params[j]? =some t->args[j]? =some v->Value.okWide Try.prog W .any base t v)
  (hW:DataW.Whole enc Try.prog Try.f4.params.toList Rows.topTurnsSpec.vars false W args.toList ds gs before)
  (hsz:(DataW.weightsEach Try.prog (Try.f4.params.toList++Rows.topTurnsSpec.plain.varTypes Try.prog) (ds++gs)).all (·<=EG)=true) (hL:laidMetH Try.prog Rk W) :
  Calls Try.prog 4 args W fun e W'=>∃v,e=.returned v/\Rows.topTurnsSpec.post enc Try.prog Try.f4 false true false false W args v W':=by
 refine TD (rs:=[(3,RInt .i64),(26,RArr)]) laid (by rw[Try.params4];kernel_rfl) rfl (fun ds hd=>?_) (rt:=4) rfl Try.underlying4 (by rw[Try.params4];rfl) ?_ W (Bci hL) base args ds gs before hval hW hsz ?_
 ·rw[Try.params4] at hd
  match ds,hd with
  | [_,_],_=>exact⟨rfl,rfl,rfl⟩
 ·intro r hr
  simp only[List.mem_cons,List.not_mem_nil,or_false] at hr
  rcases hr with rfl | rfl
  ·exact Mz Try.underlying3
  ·exact fun W n=>Ug W n
 ·intro Ds h
  obtain ⟨dx,_,rfl,hx,h⟩:=h.flat (by kernel_rfl)
  obtain ⟨dy,_,rfl,hy,h⟩:=h.agg (by kernel_rfl)
  obtain rfl:=h.nil
  obtain ⟨z,hx,_,_⟩:=hx
  injection hx with hx;subst hx
  obtain ⟨y,⟨ho,_⟩,rfl⟩:=hy
  exact (CD.wk (Baa z y ho) (by
   simp only[wkL,wkD]
   exact⟨Bg _,M2 y,trivial⟩)).mono fun r S' ⟨_,_,hr,_⟩=>hr
theorem BcF(os : Os)(started : os.Started)(H : Type)(enc : TypeId×Value -> H)(F : Stop.Interp) :
  ReturnsInHanded {} Try.checked os 4 .any ((Rows.OpenSpec.upto Rows.topTurnsSpec).preRow enc Try.prog Try.f4 Rows.topTurnsUptoRow.domain false Rows.topTurnsUptoRow.laid) (((Rows.OpenSpec.upto Rows.topTurnsSpec).at F).post enc Try.prog Try.f4 false true false false):=by
 obtain ⟨x,hx,hxk⟩:=BdX os enc
 refine returnsInHanded_of_row (C:=Try.checked) (s:=Rows.OpenSpec.upto Rows.topTurnsSpec) own started (by kernel_rfl) Try.func4
  (witness_row_at (enc:=enc) (C:=Try.checked) false (IF os) BcM rfl (by kernel_rfl) (by kernel_rfl) (by kernel_rfl)
   (OpenSpec.preRow_of_cond 8 hx rfl (fun k hk=>by cases hk;exact hxk) (by kernel_rfl) (Bah os))) ?_
 intro W base args ds gs before hval hW _ hk _ hL _ _
 refine Bad W base args ds gs before hval hW ?_ hL
 have e:Try.f4.params.toList++Rows.topTurnsSpec.plain.varTypes Try.prog=[3,26]:=by rw[Try.params4];kernel_rfl
 rw[e]
 exact BcD Ber (by decide +kernel) (hk _ rfl)
theorem Bep:Rows.TopTurnsUptoSaid :=
 OpenClaim.holds_of_cond 4 Try.f4 rfl rfl rfl rfl rfl rfl rfl ⟨rfl,rfl,rfl,rfl,rfl⟩ rfl rfl rfl rfl rfl (by kernel_rfl) Try.func4 (by kernel_rfl)
  (of_decide_eq_true (by kernel_rfl)) (by unfold Func.isWrapper;first | (rw[if_pos (by decide +kernel)];kernel_rfl) | (rw[if_neg (by decide +kernel)];exact⟨rfl,rfl⟩))
  (fun os started H enc _ F=>by rw[OpenClaim.pre_eq_preRow];exact BcF os started H enc F)
theorem provedTopTurns:Rows.TopTurnsUptoSaid:=Bep
end
end Go.Proofs.Ytgkifngdbpjccaa
