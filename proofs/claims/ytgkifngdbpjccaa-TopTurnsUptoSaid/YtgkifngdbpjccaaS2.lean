/- Functions of the given program and what each of them computes: lemmas towards the statement, their conditions stated with each of them. -/
import Derived.Test.YtgkifngdbpjccaaS1
namespace Go.Proofs.Ytgkifngdbpjccaa
open Go Go.Ab
set_option maxRecDepth 100000
noncomputable section
def E9(a:Arr)(s:List Int)(T:Nat->Nat):Arr:=.mk a.k s (if a.k=3 then [] else (List.range (prL (shN s))).map fun m=>a.nu.getD (T m) 0) (if a.k=3 then (List.range (prL (shN s))).map fun m=>a.it.getD (T m) default else [])
structure BH (a:Arr) (s:List Int) (src:Nat->Nat->Nat) (T:Nat->Nat):Prop where
 hk:a.k=1\/a.k=2\/a.k=3
 hs:Bk s=true
 hy:Bk a.sh=true
 hl:s.length=a.sh.length
 hT:∀m,m<prL (shN s)->T m<(if a.k=3 then a.it.length else a.nu.length)
 hd:∀m,m<prL (shN s)->∀j,j<s.length->src j ((BL (shN s) m).getD j 0)<(shN a.sh).getD j 0
 ht:∀m,m<prL (shN s)->hp (shN a.sh) (fun j=>src j ((BL (shN s) m).getD j 0)) s.length=T m
 hp0:0<prL (shN s)->0<prL (shN a.sh)
 hit:∀x∈a.it,(Bi x).1=0
structure BHo (a:Arr) (s:List Int) (src:Nat->Nat->Nat) (T:Nat->Nat):Prop where
 b:BH a s src T
 ho:(E9 a s T).ok
 hc:(Bi (E9 a s T)).1=0
def Arr.cells(a:Arr):List D:=[.int .i64 a.k,isl a.sh .any,isl a.nu .any,gsl 4 Arr.row a.it]
def cN(a:Arr)(m:Nat):Nat:=if a.k=3 then 0 else m
def cI(a:Arr)(m:Nat):Nat:=if a.k=3 then m else 0
def dgR(s:List Int)(m:Nat):Nat->List D:=fun i=>[.int .i64 ((BL (shN s) m).getD i 0:Nat)]
def crR(l:List Nat):Nat->List D:=fun i=>[.int .i64 (l.getD i 0:Nat)]
def nuR(a:Arr)(T:Nat->Nat):Nat->List D:=fun i=>[.int .i64 (a.nu.getD (T i) 0)]
def hpS(a:Arr)(s:List Int)(src:Nat->Nat->Nat)(m j:Nat):Nat:=hp (shN a.sh) (fun i=>src i ((BL (shN s) m).getD i 0)) j
def Bcn(s:List Int)(m j:Nat)(l:List Nat):Prop:=∃cur,Odo (shN s) m (j+1) cur/\l=cur.set j (cur.getD j 0+1)
def itA(a:Arr)(T:Nat->Nat)(i:Nat):Arr:=a.it.getD (T i) default
def Bb2(a:Arr)(s:List Int)(src:Nat->Nat->Nat)(T:Nat->Nat)(cl:Nat)(cap:List D)(xc:Nat)(ods:List D):Con:=fun k ds S=>match ds with
 |.int _ ax::.int _ i::_=>some (pA ds S (.int .i64 (src ax.toNat i.toNat:Nat)) (k=cl/\∃ax' i':Nat,ax'<8/\i'<=65536/\ds=.int .i64 ax'::.int .i64 i'::cap/\ax=ax'/\i=i'/\∃pre ts,S=⟨pre++[(3,xc,.cells ods)],ts⟩))
 |_=>match k with
  |38=>some (pA ds S (.bool true) (wkL ds [isl s .any]/\Bk s=true))
  |46=>some (pA ds S (.int .i64 (prL (shN s):Nat)) (wkL ds [isl s .any]/\Bk s=true))
  |51=>some (pA ds S (.agg (Bbm a.k).row1) (wkL ds [.agg a.row1]/\(a.k=1\/a.k=2\/a.k=3)))
  |49=>some (pE (β:=Arr) ds S (fun b=>.agg b.row1) (fun b=>ds=[.agg b.row]/\(Bi b).1=0))
  |21=>some (pA ds S (.int .i64 0) (wkL ds [.agg (E9 a s T).row1]/\(E9 a s T).ok/\(Bi (E9 a s T)).1=0))
  |_=>none
theorem BH.h8{a:Arr}{s:List Int}{src:Nat->Nat->Nat}{T:Nat->Nat}(h:BH a s src T):s.length<=8:=((Bq s).1 h.hs).1
theorem CX{s:List Int}(h:∀d∈s,(0:Int)<=d/\d<=65536)(j:Nat):((shN s).getD j 0:Int)=s.getD j 0:=by
 simp only[shN,List.getD_eq_getElem?_getD,List.getElem?_map]
 cases hj:s[j]? with
 |none=>simp
 |some d =>
  have:=(h d (List.mem_of_getElem? hj)).1
  simp;omega
theorem CP(s:List Int):(shN s).length=s.length:=by simp[shN]
theorem IR{s:List Int}(h:Bk s=true):prL (shN s)<=65536:=by
 obtain ⟨_,h2,h3⟩:=(Bq s).1 h
 cases hc:s.contains 0 with
 |true=>rw[Tl hc];omega
 |false=>rw[<- BaD (fun d hd=>(h2 d hd).1) hc];exact h3
theorem Bbt{s:List Int}(h:Bk s=true)(j:Nat):(shN s).getD j 0<=65536:=by
 have h2:=((Bq s).1 h).2.1
 have:=CX h2 j
 by_cases hj:j<s.length
 ·have:=h2 (s.getD j 0) (by rw[List.getD_eq_getElem?_getD,List.getElem?_eq_getElem hj];simp)
  omega
 ·rw[List.getD_eq_getElem?_getD,List.getElem?_eq_none (by rw[CP];omega)];simp
theorem Ir{s:List Nat}(m:Nat){j:Nat}(hp:0<prL s)(hj:j<s.length):(BL s m).getD j 0<s.getD j 0:=by
 rw[EI s m j hj]
 refine Nat.mod_lt _ ?_
 have h0:prL (s.drop j) ∣ prL (s.drop 0):=CW (Nat.zero_le _)
 have h1:=Nat.pos_of_dvd_of_pos h0 (by simpa using hp)
 rw[Ee hj] at h1
 exact Nat.pos_of_ne_zero fun q=>by rw[q,Nat.zero_mul] at h1;exact absurd h1 (Nat.lt_irrefl 0)
theorem W6{s:List Nat}(m:Nat){j:Nat}(hj:s.length<=j):(BL s m).getD j 0=0:=by
 rw[List.getD_eq_getElem?_getD,List.getElem?_eq_none (by rw[EM];exact hj)];rfl
theorem OM:∀(s:List Nat) (j:Nat),(BL s 0).getD j 0=0
 | [],j=>by simp[BL]
 |d::r,0=>by simp[BL]
 |d::r,j+1=>by simpa[BL] using OM r j
theorem Ic(a:Arr):a.row.length=4:=by cases a;rfl
section
variable {a:Arr} {s:List Int} {src:Nat->Nat->Nat} {T:Nat->Nat} (h:BH a s src T) {m:Nat} (hm:m<prL (shN s))
include h hm
theorem BH.dig(j:Nat):(BL (shN s) m).getD j 0<=65536:=by
 by_cases hj:j<s.length
 ·have:=Ir m (by omega) (show j<(shN s).length by rw[CP];exact hj)
  have:=Bbt h.hs j
  omega
 ·rw[W6 m (by rw[CP];omega)];omega
theorem BH.hpb{j:Nat}(hj:j<=s.length):hpS a s src m j<=65536:=by
 have hl:(shN a.sh).length=s.length:=by rw[CP,h.hl]
 have h1:=Bdh (s:=shN a.sh) (ix:=fun i=>src i ((BL (shN s) m).getD i 0)) (fun j hj=>h.hd m hm j (by omega)) (h.hp0 (by omega)) j (by omega)
 have:=IR h.hy
 unfold hpS
 omega
theorem BH.step{j:Nat}(hj:j<s.length):IntKind.i64.wrap (IntKind.i64.wrap ((hpS a s src m j:Int)*a.sh.getD j 0)+(src j ((BL (shN s) m).getD j 0):Nat))=(hpS a s src m (j+1):Nat):=by
 have h2:=((Bq a.sh).1 h.hy).2.1
 rw[<- CX h2 j]
 have e:(hpS a s src m (j+1):Int)=(hpS a s src m j:Int)*((shN a.sh).getD j 0:Nat)+(src j ((BL (shN s) m).getD j 0):Nat):=by
  simp only[hpS,hp];push_cast;rfl
 have hb:=h.hpb hm (show j+1<=s.length from hj)
 have hn:(0:Int)<=(hpS a s src m j:Int)*((shN a.sh).getD j 0:Nat):=by
  have:((hpS a s src m j*(shN a.sh).getD j 0:Nat):Int)=(hpS a s src m j:Int)*((shN a.sh).getD j 0:Nat):=by push_cast;rfl
  omega
 rw[Bc (n:=(hpS a s src m j:Int)*((shN a.sh).getD j 0:Nat)) (by omega) (by omega),Bc (by omega) (by omega),e]
theorem BH.srclt{j:Nat}(hj:j<s.length):¬a.sh.getD j 0<=((src j ((BL (shN s) m).getD j 0):Nat):Int):=by
 have h2:=((Bq a.sh).1 h.hy).2.1
 have:=h.hd m hm j hj
 rw[<- CX h2 j]
 omega
end
theorem RG{cur:List Nat}{j v:Nat}(hj:j<cur.length)(i:Nat):BM (crR cur) j [.int .i64 (v:Nat)] i=crR (cur.set j v) i:=by
 unfold BM crR
 rw[Gc i hj]
 split<;>rfl
theorem UJ{a : Arr}{s : List Int}{src : Nat -> Nat -> Nat}{T : Nat -> Nat}(h : BH a s src T){m : Nat}(hm : m<prL (shN s)){Z1 Z2 : Nat -> Nat -> Nat -> Prop}(hZ : ∃p q, Z1 (m+1) p q /\ Z2 (m+1) p q)(y : Nat×List Nat)(ho : Odo (shN s) m y.1 y.2) :
  (0<=(y.1 : Int)-1 -> ((0<=(y.1 : Int)-1 /\ (y.1 : Int)-1<8) /\ ((y.1 : Int)-1).toNat<8 /\ (0<=(y.1 : Int)-1 /\ (y.1 : Int)-1<8) /\ ((y.1 : Int)-1).toNat<8 /\
    ∃l,Bcn s m ((y.1:Int)-1).toNat l/\∀i,i<8->BM (crR y.2) ((y.1:Int)-1).toNat [.int .i64 (IntKind.i64.wrap (((y.2.getD ((y.1:Int)-1).toNat 0:Nat):Int)+1))] i=crR l i) /\
   ∀l,Bcn s m ((y.1:Int)-1).toNat l->(0<=(y.1:Int)-1/\(y.1:Int)-1<8)/\((y.1:Int)-1).toNat<8/\(0<=(y.1:Int)-1/\(y.1:Int)-1<s.length) /\
    (((l.getD ((y.1:Int)-1).toNat 0:Nat):Int)<s.getD ((y.1:Int)-1).toNat 0->∃p q r,p<=prL (shN s)/\prL (shN s)-p<prL (shN s)-m/\IntKind.i64.wrap ((m:Int)+1)=p/\((∀i,i<8->crR l i=dgR s p i)/\Z1 p q r)/\Z2 p q r) /\
    (¬((l.getD ((y.1:Int)-1).toNat 0:Nat):Int)<s.getD ((y.1:Int)-1).toNat 0->(0<=(y.1:Int)-1/\(y.1:Int)-1<8)/\((y.1:Int)-1).toNat<8 /\
     ∃j c,Odo (shN s) m j c/\j<y.1/\IntKind.i64.wrap ((y.1:Int)-1-1)=(j:Int)-1/\∀i,i<8->BM (crR l) ((y.1:Int)-1).toNat [.int .i64 0] i=crR c i)) /\
  (¬0<=(y.1:Int)-1->∃p q r,p<=prL (shN s)/\prL (shN s)-p<prL (shN s)-m/\IntKind.i64.wrap ((m:Int)+1)=p/\((∀i,i<8->crR y.2 i=dgR s p i)/\Z1 p q r)/\Z2 p q r):=by
 obtain ⟨j,cur⟩:=y
 obtain ⟨p,q,hz1,hz2⟩:=hZ
 have h8:=h.h8
 have hP:=IR h.hs
 have hsl:(shN s).length=s.length:=CP s
 have hp0:0<prL (shN s):=by omega
 have hw:IntKind.i64.wrap ((m:Int)+1)=((m+1:Nat):Int):=by rw[Bc (by omega) (by omega)];push_cast;rfl
 have h2:=((Bq s).1 h.hs).2.1
 simp only at ho ⊢
 refine⟨fun h0=>?_,fun h0=>?_⟩
 ·obtain ⟨j,rfl⟩:∃i,j=i+1:=⟨j-1,by omega⟩
  have hjs:j+1<=s.length:=by rw[<- hsl];exact ho.le
  have ej:(((j+1:Nat):Int)-1)=j:=by omega
  simp only[ej,Int.toNat_natCast]
  have cb:∀c,Odo (shN s) m (j+1) c->c.getD j 0<=65536:=fun c hc=>by
   rw[hc.low j (Nat.lt_succ_self j),<- EI (shN s) m j (by omega)]
   exact h.dig hm j
  refine⟨⟨⟨by omega,by omega⟩,by omega,⟨by omega,by omega⟩,by omega,cur.set j (cur.getD j 0+1),⟨cur,ho,rfl⟩,fun i _=>?_⟩,?_⟩
  ·have:=cb cur ho
   rw[Bc (by omega) (by omega)]
   exact RG (by rw[ho.len];omega) i
  ·rintro _ ⟨c,hc,rfl⟩
   have hcl:j<c.length:=by rw[hc.len];omega
   have gj:(c.set j (c.getD j 0+1)).getD j 0=c.getD j 0+1:=by rw[Gc j hcl,if_pos rfl]
   simp only[gj,<- CX h2 j]
   refine⟨⟨by omega,by omega⟩,by omega,⟨by omega,by omega⟩,fun hlt=>⟨m+1,p,q,by omega,by omega,hw,⟨fun i _=>?_,hz1⟩,hz2⟩,fun hge=>⟨⟨by omega,by omega⟩,by omega,j,c.set j 0,hc.carry hp0 (by omega),by omega,Bc (by omega) (by omega),fun i _=>?_⟩⟩
   ·rw[hc.stop hp0 (by omega)];rfl
   ·have:=RG (cur:=c.set j (c.getD j 0+1)) (v:=0) (by rw[List.length_set];exact hcl) i
    rw[List.set_set] at this
    exact this
 ·obtain rfl:j=0:=by omega
  exact⟨m+1,p,q,by omega,by omega,hw,⟨fun i _=>by rw[ho.last hp0];rfl,hz1⟩,hz2⟩
theorem U0{C:Ctx}{u u' d d':D}(hu:∀v,Rep C u v->Rep C u' v)(hd:∀v,Rep C d v->Rep C d' v)(v:Value)(h:Rep C (.tup [u,d]) v):Rep C (.tup [u',d']) v:=by
 simp only[Rep,RepL] at h ⊢
 obtain ⟨vs,e,x,xs,e1,r1,y,ys,e2,r2,e3⟩:=h
 exact⟨vs,e,x,xs,e1,hu x r1,y,ys,e2,hd y r2,e3⟩
theorem CS.res{k:Nat}{ds:List D}{S:St}{d d':D}(h:CS k ds S d)(hw:∀C v,Rep C d v->Rep C d' v):CS k ds S d' :=
 (ACalls.wkEnd h (R':=fun r S'=>r=.ret d'/\S'=S) fun r S' hr=>⟨.ret d',fun C e he=>by
  obtain ⟨rfl,_⟩:=hr
  cases e with
  |returned v=>exact hw C v he
  |panicked _=>exact he.elim
  |outgrown=>exact he.elim,rfl,hr.2⟩)
theorem IQ(a:Arr)(C:Ctx)(v:Value)(h:Rep C (.agg a.row2) v):Rep C (.agg a.row1) v :=
 EJ _ _ (by simp only[wkD];exact OT a) C v h
theorem Wq{a:Arr}{s:List Int}{T:Nat->Nat}{i:Nat}(hi:i<cI a (prL (shN s))):(E9 a s T).it.getD i default=itA a T i:=by
 unfold cI at hi
 by_cases hk:a.k=3
 ·rw[if_pos hk] at hi
  show (if a.k=3 then _ else _:List Arr).getD i default=_
  rw[if_pos hk,List.getD_eq_getElem?_getD,List.getElem?_map,List.getElem?_range hi];rfl
 ·rw[if_neg hk] at hi;omega
theorem Wa{a:Arr}{s:List Int}{T:Nat->Nat}{i:Nat}(hi:i<cN a (prL (shN s))):(E9 a s T).nu.getD i 0=a.nu.getD (T i) 0:=by
 unfold cN at hi
 by_cases hk:a.k=3
 ·rw[if_pos hk] at hi;omega
 ·rw[if_neg hk] at hi
  show (if a.k=3 then _ else _:List Int).getD i 0=_
  rw[if_neg hk,List.getD_eq_getElem?_getD,List.getElem?_map,List.getElem?_range hi];rfl
theorem Ws{a:Arr}{s:List Int}{T:Nat->Nat}:cN a (prL (shN s))=(E9 a s T).nu.length:=by
 show _=(if a.k=3 then _ else _:List Int).length
 unfold cN;split<;>simp
theorem Ww{a:Arr}{s:List Int}{T:Nat->Nat}:cI a (prL (shN s))=(E9 a s T).it.length:=by
 show _=(if a.k=3 then _ else _:List Arr).length
 unfold cI;split<;>simp
noncomputable def Etb(a:Arr)(s:List Int)(src:Nat->Nat->Nat)(T:Nat->Nat)(cl:Nat)(cap:List D)(xc:Nat)(ods:List D):Senv:={ EC (Bb2 a s src T cl cap xc ods) 119 4 [6,7,8,9,10,11,12,13,14,15,16,19,28,29,30,34,35,36,37,55,69,95,110,116] (fun id=>match id with | 18=>([0,1,2,3,4,5,6,7,8,9,10,11],[7,8,9,11]) | 19=>([0,1,2,3,4,5,6,7,8,9,10],[7,8,10]) | 24=>([0,1,2,3,4,5,6,7],[]) | _=>([],[])) with
 gh:=fun b=>match b with
  |0=>[.cell 7 102,.cell 7 403]
  |_=>[]
 mg:=fun id=>match id with
  |13=>2
  |_=>0
 cut:=fun id env S=>match id with
  |13=>some { slots:=[55],keep:=[1,2,3,6,7,8,9,10,11,12,13,14,15,28,29,34,35,36],α:=Unit,st:=fun _=>([.bool false],S),inv:=fun _=>True,mu:=fun _=>0 }
  |23=>match Ab.look env 10,Ab.look env 29,Ab.look env 16 with
   |.er k10 _ _ _ _,.int _ m,.int _ z=>some { slots:=[],keep:=[1,2,3,6,7,8,9,10,16,28,29],α:=List Nat,st:=fun l=>([],⟨Ef S.objs k10 (.vec 1 8 8 (crR l)),S.toks⟩),inv:=fun l=>Bcn s m.toNat z.toNat l,mu:=fun _=>0 }
   |_,_,_=>none
  |_=>none
 ann:=fun b env S=>match b with
  |0=>match Ab.look env 9,Ab.look env 10 with
   |.ref k9 _ _,.ref k10 x10 _=>some
    { slots:=[29,10],keep:=[1,2,3,6,7,8,9,28],α:=Nat×Nat×Nat,st:=fun y=>([.int .i64 y.1,.er k10 x10 0 1 0],⟨Ef (Ef S.objs k10 (.vec 1 8 8 (dgR s y.1))) k9 (.cells [.int .i64 a.k,isl s .any,.sl 1 (cN a y.1) (nuR a T) (.tok 0 y.2.1),.sl 4 (cI a y.1) (fun i=>(itA a T i).row1) (.tok 1 y.2.2)]),[(0,y.2.1),(1,y.2.2)]⟩),inv:=fun y=>y.1<=prL (shN s),mu:=fun y=>prL (shN s)-y.1 }
   |_,_=>none
  |2=>match Ab.look env 29 with
   |.int _ m=>some { slots:=[36,12],keep:=[1,2,3,6,7,8,9,10,11,28,29,34,35],α:=Nat,st:=fun j=>([.int .i64 j,.int .i64 (hpS a s src m.toNat j:Nat)],S),inv:=fun j=>j<=s.length,mu:=fun j=>s.length-j }
   |_=>none
  |4=>match Ab.look env 10,Ab.look env 29 with
   |.er k10 _ _ _ _,.int _ m=>some { slots:=[16],keep:=[1,2,3,6,7,8,9,10,28,29],α:=Nat×List Nat,st:=fun y=>([.int .i64 ((y.1:Int)-1)],⟨Ef S.objs k10 (.vec 1 8 8 (crR y.2)),S.toks⟩),inv:=fun y=>Odo (shN s) m.toNat y.1 y.2,mu:=fun y=>y.1 }
   |_,_=>none
  |_=>none }
theorem Bbu{a:Arr}{s:List Int}{src:Nat->Nat->Nat}{T:Nat->Nat}{cl:Nat}{cap:List D}{xc:Nat}{ods:List D}(hcl:∀ax i:Nat,ax<8->i<=65536->CS cl (.int .i64 ax::.int .i64 i::cap) ⟨[(3,xc,.cells ods)],[]⟩ (.int .i64 (src ax i:Nat))):ConOk Try.prog (Bb2 a s src T cl cap xc ods):=by
 intro k ds S A hh
 unfold Bb2 at hh
 split at hh
 ·injection hh with hh;subst hh
  refine BB ?_
  rintro ⟨rfl,ax,i,h1,h2,e,rfl,rfl,pre,ts,rfl⟩
  rw[e]
  simp only[Int.toNat_natCast]
  exact (hcl ax i h1 h2).behind
 ·split at hh
  ·injection hh with hh;subst hh
   refine BB fun ⟨e,hs⟩=>CD.at_ (CD.wk ?_ e) _
   have:=Gj s
   rw[hs] at this
   exact this
  ·injection hh with hh;subst hh
   refine BB fun ⟨e,hs⟩=>CD.at_ (CD.wk ?_ e) _
   have:=I8 s hs
   rw[Gr hs] at this
   exact this
  ·injection hh with hh;subst hh
   exact BB fun ⟨e,hs⟩=>CD.at_ (CD.wk (Beh a hs) e) _
  ·injection hh with hh;subst hh
   refine Es fun b ⟨e,hb⟩=>CD.at_ ?_ _
   rw[e]
   refine CD.wk (us:=[.agg b.row1]) ?_ ?_
   ·exact (O6 b hb).mono fun _ _ ⟨y,q1,q2,q3⟩=>⟨(),trivial,q2,q3⟩
   ·simp only[wkL,wkD]
    exact⟨M2 b,trivial⟩
  ·injection hh with hh;subst hh
   refine BB fun ⟨e,ho,hc⟩=>CD.at_ (CD.wk ?_ e) _
   have:=IV _ ho
   rw[hc] at this
   exact this
  ·cases hh
def QaU(a:List Int):Prop:=((SM (LN a)/\(∀(i:Nat),i<LN a->SM (GI a i)/\True)/\True)/\True)/\Bk a=true
def Q0(a:Arr):Int:=Arr.k a
def Qp(a:Arr):Prop:=SM (Q0 a)
def KS(a:Arr):Nat:=LN (Arr.sh a)
def QaV(a:Arr):Prop:=SM (KS a)
def QaW(a:Arr)(b:Nat):Int:=GI (Arr.sh a) b
def VH(a:Arr):List Int:=Arr.nu a
def Jw(a:Arr):Nat:=LN (VH a)
def QaX(a:Arr):Prop:=SM (Jw a)
def QaY(a:Arr)(b:Nat):Int:=GI (VH a) b
def Jx(a:Arr):Nat:=LN (Arr.it a)
def QaZ(a:Arr):Prop:=SM (Jx a)
def KT:Arr:=DA
def VI(a:Arr)(b:Nat):List D:=Arr.row (List.getD (Arr.it a) b KT)
def Jy(a:List Int):Nat:=prL (shN a)
def KU(a:Nat)(b:List Int):Prop:=a<=Jy b
def QV:D:=ZI Z0
def Yl(a:List Int)(b:Nat):List D:=[ZI (GI a b)]
def QC(a:List Int):Prop:=SM (LN a)/\(∀(i:Nat),i<LN a->SM (Yl a i))/\True
def Qq(a:Arr)(b:Nat):Nat:=cN a b
def Qr(a:Arr)(b:Nat):Nat:=cI a b
def Kl(a:Arr)(b:Nat->Nat)(c:Nat):List D:=[ZI (Arr.k (itA a b c)),SI (Arr.sh (itA a b c)),SI (Arr.nu (itA a b c)),D.sl N4 (LN (Arr.it (itA a b c))) (fun i=>Arr.row (List.getD (Arr.it (itA a b c)) i KT)) Mode.any]
def VJ(a:Arr):Arr:=Bbm (Q0 a)
def Qa0(a:Arr):Int:=Arr.k (VJ a)
def Qa1(a:Arr):List Int:=Arr.sh (VJ a)
def Ym(a:Arr):Nat:=LN (Qa1 a)
def Qa2(a:Arr)(b:Nat):List D:=[ZI (GI (Qa1 a) b)]
def Qa3(a:Arr):List Int:=Arr.nu (VJ a)
def Yn(a:Arr):Nat:=LN (Qa3 a)
def Qa4(a:Arr)(b:Nat):List D:=[ZI (GI (Qa3 a) b)]
def Qa5(a:Arr):List Arr:=Arr.it (VJ a)
def Yo(a:Arr):Nat:=LN (Qa5 a)
def Qa6(a:Arr)(b:Nat):List D:=Arr.row (List.getD (Qa5 a) b KT)
def Yp:Prop:=SM N0/\(∀(i:Nat),i<N0->EY (List D) [] [])/\True
def Qa7(a:Arr)(b:Nat):List D:=[ZI (QaW a b)]
def Qa8(a:Arr)(b:Nat):List D:=[ZI (QaY a b)]
def Q2(a:Arr):Prop:=Qp a/\(QaV a/\(∀(i:Nat),i<KS a->SM (Qa7 a i))/\True)/\(QaX a/\(∀(i:Nat),i<Jw a->SM (Qa8 a i))/\True)/\(QaZ a/\(∀(i:Nat),i<Jx a->SM (VI a i))/\True)/\True
def QE(a:Nat)(b:Arr)(c d e:Nat)(f:List D):Prop:=SM a/\(SM (Qa0 b)/\(SM (Ym b)/\(∀(i:Nat),i<Ym b->SM (Qa2 b i))/\True)/\(SM (Yn b)/\(∀(i:Nat),i<Yn b->SM (Qa4 b i))/\True)/\(SM (Yo b)/\(∀(i:Nat),i<Yo b->SM (Qa6 b i))/\True)/\True)/\SM c/\(SM Z0/\Yp/\Yp/\Yp/\True)/\SM d/\Q2 b/\SM e/\Bo f f/\True
def Q8(a:Arr)(b:List Int)(c:Nat->Nat->Nat)(d e:Nat):Int:=(NI (hpS a b c (Int.toNat (↑d:Int)) e))
def Yq(a:Arr)(b:Nat)(c:Nat->Nat):Prop:=∀(i:Nat),i<Qq a b->SM (nuR a c i)
def KV(a:Arr)(b:Nat)(c:Nat->Nat)(d:Nat):Prop:=SM (Qq a b)/\Yq a b c/\SM d
def Yr(a:Arr)(b:Nat)(c:Nat->Nat):Prop:=∀(i:Nat),i<Qr a b->SM (Kl a c i)
def KW(a:Arr)(b:Nat)(c:Nat->Nat)(d:Nat):Prop:=(SM (Qr a b)/\Yr a b c/\SM d)/\True
def Q9(a b:Nat):Prop:=SM a/\SM b/\True
def Ys(a:List Int)(b c:Nat):Int:=(NI (List.getD (BL (shN a) b) (Int.toNat (↑c:Int)) N0))
def Yt:Nat:=max N6 (max (N4+N1) N4)
def Yu:Nat:=max (N6+N1) Yt
def VK:Nat:=max ((7:Nat)+N1) Yu
def Qa9:Nat:=max ((8:Nat)+N1) VK
def Qba(a:Arr):List D:=[ZI (Q0 a),D.sl N1 (KS a) (fun i=>Qa7 a i) Mode.any,D.sl N1 (Jw a) (fun i=>Qa8 a i) Mode.any,D.sl N4 (Jx a) (fun i=>VI a i) Mode.any]
def Qbb(a:Nat)(b:Arr):Nat×AObj:=(a,AObj.cells (Qba b))
def Qbc(a:List Int):D:=D.sl N1 (LN a) (fun i=>Yl a i) Mode.any
def Qbd(a:Arr)(b:Nat)(c:Nat->Nat)(d:Nat):D:=D.sl N1 (Qq a b) (nuR a c) (Mode.tok N0 d)
def Qbe(a:Arr)(b:Nat)(c:Nat->Nat)(d:Nat):D:=D.sl N4 (Qr a b) (fun i=>Kl a c i) (Mode.tok N1 d)
def Yv:D:=D.sl N1 N0 (fun _x=>[]) Mode.nil
def Qbf(a:Nat->Nat->Nat)(b:Nat)(c:List Int)(d:Nat):Int:=(NI (a (Int.toNat (↑b:Int)) (Int.toNat (Ys c d b))))
def Yw(a:List Int):Prop:=SM (Qbc a)
def Yx(a:Nat)(b:List D):Prop:=SM (D.fn (Fn.func a) [] b)
def Yy(a:Nat):Prop:=SM (D.ref N4 a N0)
def Yz(a:Nat):Prop:=SM (D.ref (max (N4+N1) N4) a N0)
def YA:Prop:=SM QV
def YB(a:Nat):Prop:=SM (D.ref Yt a N0)
def QfB(a:Nat):D:=D.ref Yu a N0
def YC(a:Nat):Prop:=SM (QfB a)
def QfC(a:Nat):D:=D.er VK a N0 N1 N0
def Qbg(a:Nat):Prop:=SM (QfC a)
def QfD(a:Nat):D:=D.ref Qa9 a N0
def QfE(a:List Int):D:=ZI (NI (Jy a))
def YD(a:List Int):Prop:=SM (QfE a)
def QfF(a:Nat)(b:List Int):D:=D.vs VK a (TL b) (8:Nat) N1
def Qbh(a:Arr)(b:List Int)(c:Nat->Nat->Nat)(d e:Nat):List D:=Arr.row (List.getD (Arr.it a) (Int.toNat (Q8 a b c d e)) KT)
def Qbi(a:Nat)(b:Arr)(c:Nat)(d:Nat->Nat)(e:Nat):Prop:=SM a/\SM (Qbe b c d e)
def QL(a:Arr)(b:Nat):Nat:=Qr a b+N1
def KX(a:List Int)(b c:Nat)(d:List Nat):Prop:=Odo (shN a) (Int.toNat (↑b:Int)) c d
def Qf(a:Nat):Int:=(↑a:Int)-Z1
def Qbj(a:List Int)(b:Nat)(c:List Nat):Prop:=SM (8:Nat)/\SM (8:Nat)/\∀(i:Nat),i<8->dgR a b i=crR c i
def Jz(a:Arr)(b:Nat)(c:Nat->Nat)(d:Arr)(e:Nat):List D:=By (Qr a b) (fun i=>Kl a c i) (fun i=>List.getD [Qba d] i []) e
def QM(a:Nat):Nat:=N0+Int.toNat (Qf a)
def VL(a:List Int)(b c:Nat)(d:List Nat):Prop:=Bcn a (Int.toNat (↑b:Int)) (Int.toNat (Qf c)) d
def Qbk(a:List Nat)(b:Nat)(c:List Nat):Prop:=SM (8:Nat)/\SM (8:Nat)/\∀(i:Nat),i<8->BM (crR a) (QM b) [ZI (IntKind.wrap IntKind.i64 ((NI (List.getD a (QM b) N0))+Z1))] i=crR c i
def Qbl(a:List Nat)(b:Nat)(c:List Int):Bool:=decide ((NI (List.getD a (QM b) N0))<GI c (Int.toNat (Qf b)))
def VM(a:List Int)(b:Nat)(c:List D)(d e f g:Nat):Prop:=Yw a/\Yx b c/\Yy d/\Yz e/\YA/\YB f/\YC g/\YD a/\True
def VN(a:List Int)(b c:Nat):Prop:=Jy a-b<Jy a-c
def VO(a b c:Nat):Prop:=IntKind.wrap IntKind.i64 ((↑a:Int)+Z1)=(↑b:Int)/\(SM c/\SM N0)/\True
def VP(a:List Nat)(b:List Int)(c:Nat):Prop:=SM (8:Nat)/\SM (8:Nat)/\∀(i:Nat),i<8->crR a i=dgR b c i
def Qbm(a:List Int)(b:Nat)(c:List D)(d e f g h k:Nat):Prop:=Yw a/\Yx b c/\Yy d/\Yz e/\YA/\YB f/\YC g/\Qbg h/\YD a/\SM (ZI (↑k:Int))/\True
def Qbn(a b:Nat):Prop:=IntKind.wrap IntKind.i64 (Qf a-Z1)=Qf b/\True
def Qbo(a:List Nat)(b:Nat)(c:List Nat):Prop:=SM (8:Nat)/\SM (8:Nat)/\∀(i:Nat),i<8->BM (crR a) (QM b) [QV] i=crR c i
def QN(a:Arr)(b:Nat):Nat:=Qq a b+N1
def JA(a:Arr)(b:Nat)(c:Nat->Nat)(d:List Int)(e:Nat->Nat->Nat)(f g:Nat):List D:=By (Qq a b) (nuR a c) (fun i=>List.getD [[ZI (GI (VH a) (Int.toNat (Q8 a d e b f)))]] i []) g
def Qy(a:Arr)(b:List Int)(c:Nat->Nat):Arr:=E9 a b c
def JB(a:Arr)(b:List Int)(c:Nat->Nat)(d:Nat):Arr:=List.getD (Arr.it (Qy a b c)) d KT
def QfG(a:Arr)(b:List Int)(c:Nat->Nat)(d:Nat):List Int:=Arr.sh (JB a b c d)
def QfH(a:Arr)(b:List Int)(c:Nat->Nat)(d:Nat):List Int:=Arr.nu (JB a b c d)
def Qbp(a:Arr)(b:List Int)(c:Nat->Nat)(d:Nat):List Arr:=Arr.it (JB a b c d)
theorem Bdn(a : Arr)(s : List Int)(src : Nat -> Nat -> Nat)(T : Nat -> Nat)(cl : Nat)(cap : List D)(xc : Nat)(ods : List D)(h2 : BHo a s src T)(hcl : ∀ax i : Nat, ax<8 -> i<=65536 -> CS cl (.int .i64 ax::.int .i64 i::cap) ⟨[(3, xc, .cells ods)], []⟩ (.int .i64 (src ax i : Nat))) :
  CS 31 [.agg a.row1,isl s .any,.fn (.func cl) [] cap] ⟨[(3,xc,.cells ods)],[]⟩ (.tup [.agg (E9 a s T).row2,.int .i64 0]):=by
 have h:=h2.b
 refine CS.of (Bp (A:=sS _ _ _) (x:=()) (E:=Etb a s src T cl cap xc ods) (eOk (Bbu hcl) rfl) Try.func31 rfl (by kernel_rfl) rfl (by simp[sS,Etb,EC,E0]) ?_)
 refine Bt (T :=
  ∀(x:Nat),xc≠x/\True->∀(x_1:Nat),x≠x_1/\xc≠x_1/\True->∃(x_2:Unit),QaU s/\∀(y:Unit),True->SM x/\∃(x_3:Unit),(((Qp a/\(QaV a/\(∀(i:Nat),i<KS a->SM (QaW a i)/\True)/\True)/\(QaX a/\(∀(i:Nat),i<Jw a->SM (QaY a i)/\True)/\True)/\(QaZ a/\(∀(i:Nat),i<Jx a->wkL (VI a i) (VI a i))/\True)/\True)/\True)/\(Q0 a=Z1\/Q0 a=2\/Q0 a=3))/\∀(y:Unit),True->∀(x_4:Nat),x_1≠x_4/\x≠x_4/\xc≠x_4/\True->SM x_4/\SM x/\∀(x_5:Nat),x_4≠x_5/\x_1≠x_5/\x≠x_5/\xc≠x_5/\True->SM x_5/\∀(x_6:Nat),x_5≠x_6/\x_4≠x_6/\x_1≠x_6/\x≠x_6/\xc≠x_6/\True->∃(x_7:Unit),QaU s/\∀(y:Unit),True->∀(t t_1:Nat),(∃(x_8:Nat×Nat×Nat),KU x_8.1 s/\(Z0=(NI x_8.1)/\(SM x_6/\SM N0)/\True)/\(SM x_6/\(∀(i:Nat),i<8->Be (List.getD [QV,QV,QV,QV,QV,QV,QV,QV] i D.unk) (ZI (NI (List.getD (BL (shN s) x_8.1) i N0)))/\True)/\SM x_5/\(Qp a/\QC s/\(N0=Qq a x_8.1/\(∀(i:Nat),i<N0->EY (List D) [] (nuR a T i))/\t=x_8.2.1)/\(N0=Qr a x_8.1/\(∀(i:Nat),i<N0->EY (List D) [] (Kl a T i))/\t_1=x_8.2.2)/\True)/\QE x_4 a x_1 x xc ods)/\t=x_8.2.1/\t_1=x_8.2.2/\True)/\∀(x_8:Nat×Nat×Nat),KU x_8.1 s->ifB (decide ((NI x_8.1)<(NI (Jy s)))) (SM x/\∀(x_9:Nat),x_6≠x_9/\x_5≠x_9/\x_4≠x_9/\x_1≠x_9/\x≠x_9/\xc≠x_9/\True->SM x_9/\Bb (Z0<=(LI s)/\(LI s)<=8/\N0<8/\(8:Nat)<=9223372036854775807) ((∃(x_10:Nat),x_10<=LN s/\(Z0=(↑x_10:Int)/\Z0=Q8 a s src x_8.1 x_10/\True)/\(SM x_9/\Q2 a/\SM x_6/\(SM (8:Nat)/\SM (8:Nat)/\∀(i:Nat),i<8->SM (dgR s x_8.1 i))/\SM x_5/\(Qp a/\QC s/\KV a x_8.1 T x_8.2.1/\KW a x_8.1 T x_8.2.2)/\QE x_4 a x_1 x xc ods)/\Q9 x_8.2.1 x_8.2.2)/\∀(x_10:Nat),x_10<=LN s->ifB (decide ((↑x_10:Int)<(NI (TL s)))) (Bb (Z0<=(↑x_10:Int)/\(↑x_10:Int)<(NI (TL s))) (SM x_6/\Bb (Int.toNat (↑x_10:Int)<8) (∃(x_11:Unit),(SM cl/\∃(ax':Nat),∃(i':Nat),ax'<(8:Nat)/\i'<=(65536:Nat)/\ZI (↑x_10:Int)::ZI (Ys s x_8.1 x_10)::List.append [] cap=ZI (↑ax':Int)::ZI (↑i':Int)::cap/\(↑x_10:Int)=(↑ax':Int)/\Ys s x_8.1 x_10=(↑i':Int)/\∃(pre:List (Nat×Nat×AObj)),∃(ts:List (Nat×Nat)),St.mk [(Qa9,Qbb x_9 a),(VK,x_6,AObj.vec N1 (8:Nat) (8:Nat) (dgR s x_8.1)),(Yu,x_5,AObj.cells [ZI (Q0 a),Qbc s,Qbd a x_8.1 T x_8.2.1,Qbe a x_8.1 T x_8.2.2]),(Yt,x_4,AObj.cells [ZI (Qa0 a),D.sl N1 (Ym a) (fun i=>Qa2 a i) Mode.any,D.sl N1 (Yn a) (fun i=>Qa4 a i) Mode.any,D.sl N4 (Yo a) (fun i=>Qa6 a i) Mode.any]),(max (N4+N1) N4,x_1,AObj.cells [QV,Yv,Yv,Yv]),(N4,Qbb x a),((3:Nat),xc,AObj.cells ods)] [(N0,x_8.2.1),(N1,x_8.2.2)]=St.mk (pre++[((3:Nat),xc,AObj.cells ods)]) ts)/\∀(y:Unit),True->(SM x/\Bb (Z0<=(↑x_10:Int)/\(↑x_10:Int)<(NI (KS a))) (∃(x_12:Unit),True/\(decide (GI (Arr.sh a) (Int.toNat (↑x_10:Int))<=Qbf src x_10 s x_8.1)=false/\True)/\(SM x_9/\Q2 a/\SM x_6/\(SM (8:Nat)/\SM (8:Nat)/\∀(i:Nat),i<8->SM (dgR s x_8.1 i))/\SM x_5/\(Qp a/\QC s/\KV a x_8.1 T x_8.2.1/\KW a x_8.1 T x_8.2.2)/\QE x_4 a x_1 x xc ods)/\Q9 x_8.2.1 x_8.2.2))/\∀(x_12:Unit),True->SM x/\Bb (Z0<=(↑x_10:Int)/\(↑x_10:Int)<(NI (KS a))) ((Yw s/\Yx cl cap/\Yy x/\Yz x_1/\YA/\YB x_4/\YC x_5/\Qbg x_6/\SM (QfD x_9)/\YD s/\SM (ZI (NI x_8.1))/\SM (QfF x_6 s)/\SM (ZI (NI (TL s)))/\True)/\∃(y:Nat),y<=LN s/\LN s-y<LN s-x_10/\(IntKind.wrap IntKind.i64 ((↑x_10:Int)+Z1)=(↑y:Int)/\IntKind.wrap IntKind.i64 (IntKind.wrap IntKind.i64 (Q8 a s src x_8.1 x_10*GI (Arr.sh a) (Int.toNat (↑x_10:Int)))+Qbf src x_10 s x_8.1)=Q8 a s src x_8.1 y/\True)/\(SM x_9/\Q2 a/\SM x_6/\(SM (8:Nat)/\SM (8:Nat)/\∀(i:Nat),i<8->SM (dgR s x_8.1 i))/\SM x_5/\(Qp a/\QC s/\KV a x_8.1 T x_8.2.1/\KW a x_8.1 T x_8.2.2)/\QE x_4 a x_1 x xc ods)/\Q9 x_8.2.1 x_8.2.2)))) (SM x/\ifB (Q0 a==3) (SM x_5/\SM x_9/\Bb (Z0<=Q8 a s src x_8.1 x_10/\Q8 a s src x_8.1 x_10<(NI (Jx a))) (Bb (N4<=LN (Qbh a s src x_8.1 x_10)) (∃(x_11:Arr),([D.agg (List.take N4 (List.drop N0 (Qbh a s src x_8.1 x_10)))]=[D.agg (Arr.row x_11)]/\Prod.fst (Bi x_11)=Z0)/\∀(y:Unit),True->Qbi x_5 a x_8.1 T x_8.2.2/\Qbi x_5 a x_8.1 T x_8.2.2/\SM x_8.2.2/\Bb (QL a x_8.1*80<=140737488355328/\QL a x_8.1<=9223372036854775807) (∀(t:Nat),SM x_5/\(∃(x_12:Nat×List Nat),KX s x_8.1 x_12.1 x_12.2/\(IntKind.wrap IntKind.i64 ((LI s)-Z1)=Qf x_12.1/\True)/\(SM x_9/\Q2 a/\SM x_6/\Qbj s x_8.1 x_12.2/\SM x_5/\(Qp a/\QC s/\KV a x_8.1 T x_8.2.1/\(SM (QL a x_8.1)/\(∀(i:Nat),i<QL a x_8.1->SM (Jz a x_8.1 T x_11 i))/\SM t)/\True)/\QE x_4 a x_1 x xc ods)/\Q9 t x_8.2.1)/\∀(x_12:Nat×List Nat),KX s x_8.1 x_12.1 x_12.2->ifB (decide (Z0<=Qf x_12.1)) (Bb (Z0<=Qf x_12.1/\Qf x_12.1<8) (SM x_6/\Bb (QM x_12.1<8) (Bb (Z0<=Qf x_12.1/\Qf x_12.1<8) (SM x_6/\Bb (QM x_12.1<8) (∃(x_13:List Nat),VL s x_8.1 x_12.1 x_13/\True/\(SM x_9/\Q2 a/\SM x_6/\Qbk x_12.2 x_12.1 x_13/\SM x_5/\(Qp a/\QC s/\KV a x_8.1 T x_8.2.1/\(SM (QL a x_8.1)/\(∀(i:Nat),i<QL a x_8.1->SM (Jz a x_8.1 T x_11 i))/\SM t)/\True)/\QE x_4 a x_1 x xc ods)/\Q9 t x_8.2.1))))/\∀(x_13:List Nat),VL s x_8.1 x_12.1 x_13->Bb (Z0<=Qf x_12.1/\Qf x_12.1<8) (SM x_6/\Bb (QM x_12.1<8) (Bb (Z0<=Qf x_12.1/\Qf x_12.1<(LI s)) (ifB (Qbl x_13 x_12.1 s) (VM s cl cap x x_1 x_4 x_5/\∃(y:Nat×Nat×Nat),KU y.1 s/\VN s y.1 x_8.1/\VO x_8.1 y.1 x_6/\(SM x_6/\VP x_13 s y.1/\SM x_5/\(Qp a/\QC s/\(Qq a x_8.1=Qq a y.1/\Yq a x_8.1 T/\x_8.2.1=y.2.1)/\(QL a x_8.1=Qr a y.1/\(∀(i:Nat),i<QL a x_8.1->Jz a x_8.1 T x_11 i=Kl a T i)/\t=y.2.2)/\True)/\QE x_4 a x_1 x xc ods)/\x_8.2.1=y.2.1/\t=y.2.2/\True) (Bb (Z0<=Qf x_12.1/\Qf x_12.1<8) (SM x_6/\Bb (QM x_12.1<8) (Qbm s cl cap x x_1 x_4 x_5 x_6 x_8.1/\∃(y:Nat×List Nat),KX s x_8.1 y.1 y.2/\y.1<x_12.1/\Qbn x_12.1 y.1/\(SM x_9/\Q2 a/\SM x_6/\Qbo x_13 x_12.1 y.2/\SM x_5/\(Qp a/\QC s/\KV a x_8.1 T x_8.2.1/\(SM (QL a x_8.1)/\(∀(i:Nat),i<QL a x_8.1->SM (Jz a x_8.1 T x_11 i))/\SM t)/\True)/\QE x_4 a x_1 x xc ods)/\Q9 t x_8.2.1))))))) (VM s cl cap x x_1 x_4 x_5/\∃(y:Nat×Nat×Nat),KU y.1 s/\VN s y.1 x_8.1/\VO x_8.1 y.1 x_6/\(SM x_6/\VP x_12.2 s y.1/\SM x_5/\(Qp a/\QC s/\(Qq a x_8.1=Qq a y.1/\Yq a x_8.1 T/\x_8.2.1=y.2.1)/\(QL a x_8.1=Qr a y.1/\(∀(i:Nat),i<QL a x_8.1->Jz a x_8.1 T x_11 i=Kl a T i)/\t=y.2.2)/\True)/\QE x_4 a x_1 x xc ods)/\x_8.2.1=y.2.1/\t=y.2.2/\True))))) (SM x_5/\SM x_9/\Bb (Z0<=Q8 a s src x_8.1 x_10/\Q8 a s src x_8.1 x_10<(NI (Jw a))) ((SM x_5/\SM (Qbd a x_8.1 T x_8.2.1))/\SM x_8.2.1/\Bb (QN a x_8.1*8<=140737488355328/\QN a x_8.1<=9223372036854775807) (∀(t:Nat),SM x_5/\(∃(x_11:Nat×List Nat),KX s x_8.1 x_11.1 x_11.2/\(IntKind.wrap IntKind.i64 ((LI s)-Z1)=Qf x_11.1/\True)/\(SM x_9/\Q2 a/\SM x_6/\Qbj s x_8.1 x_11.2/\SM x_5/\(Qp a/\QC s/\(SM (QN a x_8.1)/\(∀(i:Nat),i<QN a x_8.1->SM (JA a x_8.1 T s src x_10 i))/\SM t)/\KW a x_8.1 T x_8.2.2)/\QE x_4 a x_1 x xc ods)/\Q9 t x_8.2.2)/\∀(x_11:Nat×List Nat),KX s x_8.1 x_11.1 x_11.2->ifB (decide (Z0<=Qf x_11.1)) (Bb (Z0<=Qf x_11.1/\Qf x_11.1<8) (SM x_6/\Bb (QM x_11.1<8) (Bb (Z0<=Qf x_11.1/\Qf x_11.1<8) (SM x_6/\Bb (QM x_11.1<8) (∃(x_12:List Nat),VL s x_8.1 x_11.1 x_12/\True/\(SM x_9/\Q2 a/\SM x_6/\Qbk x_11.2 x_11.1 x_12/\SM x_5/\(Qp a/\QC s/\(SM (QN a x_8.1)/\(∀(i:Nat),i<QN a x_8.1->SM (JA a x_8.1 T s src x_10 i))/\SM t)/\KW a x_8.1 T x_8.2.2)/\QE x_4 a x_1 x xc ods)/\Q9 t x_8.2.2))))/\∀(x_12:List Nat),VL s x_8.1 x_11.1 x_12->Bb (Z0<=Qf x_11.1/\Qf x_11.1<8) (SM x_6/\Bb (QM x_11.1<8) (Bb (Z0<=Qf x_11.1/\Qf x_11.1<(LI s)) (ifB (Qbl x_12 x_11.1 s) (VM s cl cap x x_1 x_4 x_5/\∃(y:Nat×Nat×Nat),KU y.1 s/\VN s y.1 x_8.1/\VO x_8.1 y.1 x_6/\(SM x_6/\VP x_12 s y.1/\SM x_5/\(Qp a/\QC s/\(QN a x_8.1=Qq a y.1/\(∀(i:Nat),i<QN a x_8.1->JA a x_8.1 T s src x_10 i=nuR a T i)/\t=y.2.1)/\(Qr a x_8.1=Qr a y.1/\Yr a x_8.1 T/\x_8.2.2=y.2.2)/\True)/\QE x_4 a x_1 x xc ods)/\t=y.2.1/\x_8.2.2=y.2.2/\True) (Bb (Z0<=Qf x_11.1/\Qf x_11.1<8) (SM x_6/\Bb (QM x_11.1<8) (Qbm s cl cap x x_1 x_4 x_5 x_6 x_8.1/\∃(y:Nat×List Nat),KX s x_8.1 y.1 y.2/\y.1<x_11.1/\Qbn x_11.1 y.1/\(SM x_9/\Q2 a/\SM x_6/\Qbo x_12 x_11.1 y.2/\SM x_5/\(Qp a/\QC s/\(SM (QN a x_8.1)/\(∀(i:Nat),i<QN a x_8.1->SM (JA a x_8.1 T s src x_10 i))/\SM t)/\KW a x_8.1 T x_8.2.2)/\QE x_4 a x_1 x xc ods)/\Q9 t x_8.2.2))))))) (VM s cl cap x x_1 x_4 x_5/\∃(y:Nat×Nat×Nat),KU y.1 s/\VN s y.1 x_8.1/\VO x_8.1 y.1 x_6/\(SM x_6/\VP x_11.2 s y.1/\SM x_5/\(Qp a/\QC s/\(QN a x_8.1=Qq a y.1/\(∀(i:Nat),i<QN a x_8.1->JA a x_8.1 T s src x_10 i=nuR a T i)/\t=y.2.1)/\(Qr a x_8.1=Qr a y.1/\Yr a x_8.1 T/\x_8.2.2=y.2.2)/\True)/\QE x_4 a x_1 x xc ods)/\t=y.2.1/\x_8.2.2=y.2.2/\True))))))) (SM x_5/\∃(x:Unit),(((Q0 a=Arr.k (Qy a s T)/\(LN s=LN (Arr.sh (Qy a s T))/\(∀(i:Nat),i<LN s->GI s i=GI (Arr.sh (Qy a s T)) i/\True)/\True)/\(Qq a x_8.1=LN (Arr.nu (Qy a s T))/\(∀(i:Nat),i<Qq a x_8.1->GI (VH a) (T i)=GI (Arr.nu (Qy a s T)) i/\True)/\True)/\(Qr a x_8.1=LN (Arr.it (Qy a s T))/\(∀(i:Nat),i<Qr a x_8.1->wkL (Kl a T i) (Arr.row (JB a s T i)))/\True)/\True)/\True)/\Arr.ok (Qy a s T)/\Prod.fst (Bi (Qy a s T))=Z0)/\∀(y:Unit),True->SM x_5/\SM x_1/\(SM x_1/\True)/\∃(y:Unit),True/\((Q0 a=Arr.k (Qy a s T)/\(LN s=LN (Arr.sh (Qy a s T))/\(∀(i:Nat),i<LN s->Yl s i=[ZI (GI (Arr.sh (Qy a s T)) i)])/\True)/\(Qq a x_8.1=LN (Arr.nu (Qy a s T))/\(∀(i:Nat),i<Qq a x_8.1->nuR a T i=[ZI (GI (Arr.nu (Qy a s T)) i)])/\True)/\(Qr a x_8.1=LN (Arr.it (Qy a s T))/\(∀(i:Nat),i<Qr a x_8.1->Kl a T i=[ZI (Arr.k (JB a s T i)),SI (QfG a s T i),SI (QfH a s T i),D.sl N4 (LN (Qbp a s T i)) (fun i_1=>Arr.row (List.getD (Qbp a s T i) i_1 KT)) Mode.any])/\True)/\True)/\SM Z0/\True)/\(SM xc/\Bo ods ods/\True)/\True)) (by kernel_rfl) ?_
 delta DA GI LI LN N0 N1 N4 N6 NI SI SM TL Z0 Z1 ZI QaU Q0 Jx QaZ KT VI Jy KU QV Yl QC Qq Qp Qr Kl VJ Qa0 Qa1 Ym Qa2 Qa3 Yn Qa4 KS Qa5 Yo Qa6 Yp Qa7 Qa8 Q2 QE Q8 Yq QaV KV Yr KW Q9 Ys Yt Yu VK Qa9 Qba QaW Qbb Qbc Qbd Qbe Yv Qbf Yw Yx Yy Yz VH YA YB QfB YC QfC Qbg QfD QfE YD QfF Jw Qbh Qbi QL KX Qf Qbj Jz QM VL Qbk QaX Qbl VM VN VO VP Qbm Qbn Qbo QN JA QaY Qy JB QfG QfH Qbp
 have da:(default:Arr)=Arr.mk 0 [] [] []:=rfl
 simp only[<- da]
 simp only[ne_eq,implies_true,Bl,Int.toNat_natCast,Bn,Bd,decide_eq_true_eq,decide_eq_false_iff_not,true_and,and_true,beq_iff_eq,beq_eq_false_iff_ne,exists_const,forall_const,Prod.exists]
 simp only[Nat.zero_add]
 intro x _ x1 _
 refine⟨h.hs,⟨fun i _=>Bf _,h.hk⟩,fun x4 _ x5 _ x6 _=>⟨h.hs,fun t t1=>⟨⟨0,t,t1,Nat.zero_le _,rfl,⟨fun i hi=>?_,⟨by simp[cN],fun i hi=>absurd hi (by omega),rfl⟩,by simp[cI],fun i hi=>absurd hi (by omega),rfl⟩,rfl,rfl⟩,?_⟩⟩⟩
 ·rw[OM]
  rcases i with _ | _ | _ | _ | _ | _ | _ | _ | i<;>first | exact Bg _ | omega
 rintro ⟨m,u,v⟩ hm
 refine⟨fun hlt x9 _=>?_,fun hge=>?_⟩
 ·have hlt:m<prL (shN s):=by simpa using hlt
  have h8:=h.h8
  have hl:=h.hl
  refine⟨⟨by omega,by omega,by omega,by omega⟩,⟨0,Nat.zero_le _,rfl,rfl⟩,fun j hj=>⟨fun hj2=>?_,fun hj2=>?_⟩⟩
  ·have hj2:j<s.length:=by omega
   refine⟨⟨by omega,by omega⟩,by omega,⟨j,_,by omega,h.dig hlt j,rfl,rfl,rfl,⟨[_,_,_,_,_,_],_,rfl⟩⟩,⟨⟨by omega,by omega⟩,h.srclt hlt hj2⟩,⟨by omega,by omega⟩,j+1,by omega,by omega,Bc (by omega) (by omega),h.step hlt hj2⟩
  ·have:j=s.length:=by omega
   subst this
   have e:hpS a s src m s.length=T m:=h.ht m hlt
   have hT:=h.hT m hlt
   have hP:=IR h.hs
   have hsl:(shN s).length=s.length:=CP s
   simp only[e]
   refine⟨fun hk=>?_,fun hk=>?_⟩
   ·rw[if_pos hk] at hT
    have hc:cI a m=m:=if_pos hk
    refine⟨⟨by omega,by omega⟩,Nat.le_of_eq (Ic _).symm,itA a T m,⟨?_,h.hit _ (CC hT)⟩,⟨by omega,by omega⟩,fun w=>⟨⟨(shN s).length,BL (shN s) m,Odo.zero _ _,by rw[hsl];exact Bc (by omega) (by omega),fun i hi=>rfl⟩,?_⟩⟩
    ·rw[List.drop_zero,List.take_of_length_le (Nat.le_of_eq (Ic _))];rfl
    refine UJ h hlt ⟨u,w,⟨⟨?_,rfl⟩,?_,fun i hi=>?_,rfl⟩,rfl,rfl⟩
    ·simp[cN,hk]
    ·simp[cI,hk]
    ·rw[hc] at hi ⊢
     unfold By
     by_cases ei:i<m
     ·rw[if_pos ei]
     ·obtain rfl:i=m:=by omega
      rw[if_neg ei,Nat.sub_self];rfl
   ·rw[if_neg hk] at hT
    have hc:cN a m=m:=if_neg hk
    refine⟨⟨by omega,by omega⟩,⟨by omega,by omega⟩,fun w=>⟨⟨(shN s).length,BL (shN s) m,Odo.zero _ _,by rw[hsl];exact Bc (by omega) (by omega),fun i hi=>rfl⟩,?_⟩⟩
    refine UJ h hlt ⟨w,v,⟨⟨?_,fun i hi=>?_,rfl⟩,?_,rfl⟩,rfl,rfl⟩
    ·simp[cN,hk]
    ·rw[hc] at hi ⊢
     unfold By
     by_cases ei:i<m
     ·rw[if_pos ei]
     ·obtain rfl:i=m:=by omega
      rw[if_neg ei,Nat.sub_self];rfl
    ·simp[cI,hk]
 ·obtain rfl:m=prL (shN s):=by simp only at hge hm;omega
  refine⟨⟨⟨rfl,⟨rfl,fun _ _=>rfl⟩,⟨Ws,fun i hi=>(Wa hi).symm⟩,Ww,fun i hi=>?_⟩,h2.ho,h2.hc⟩,rfl,⟨rfl,fun _ _=>rfl⟩,⟨Ws,fun i hi=>by rw[Wa hi];rfl⟩,Ww,fun i hi=>?_⟩
  ·rw[Wq hi];exact UD _
  ·rw[Wq hi]
theorem Bes(a : Arr)(s : List Int)(src : Nat -> Nat -> Nat)(T : Nat -> Nat)(cl : Nat)(cap : List D)(xc : Nat)(ods : List D)(h2 : BHo a s src T)(hcl : ∀ax i : Nat, ax<8 -> i<=65536 -> CS cl (.int .i64 ax::.int .i64 i::cap) ⟨[(3, xc, .cells ods)], []⟩ (.int .i64 (src ax i : Nat))) :
  CS 31 [.agg a.row1,isl s .any,.fn (.func cl) [] cap] ⟨[(3,xc,.cells ods)],[]⟩ (.tup [.agg (E9 a s T).row1,.int .i64 0]):=by
 exact (Bdn a s src T cl cap xc ods h2 hcl).res fun C v=>U0 (IQ _ C) (fun _ q=>q) v
def nmA(n:Nat):Arr:=.mk 1 [] [(n:Int)] []
noncomputable def Enu:Senv:=EC EA 6 1 [2] (fun _=>([],[]))
def Qbq:Prop:=SM N0/\(∀(i:Nat),i<N0->False)/\True
theorem Bc7(n:Nat):CD 14 [.int .i64 (n:Nat)] (.agg (nmA n).row1):=by
 refine CD.ofW (Ig (E:=Enu) (eOk BA rfl) Try.func14 rfl (by kernel_rfl) rfl (by simp[Enu,EC,E0]) ?_)
 refine Bt (T :=
  ∀(x:Nat),True->SM x/\(SM x/\True)/\Z1=Arr.k (Arr.mk Z1 [] [(↑n:Int)] [])/\Qbq/\(SM N1/\(∀(i:Nat),i<N1->wkL (List.getD [[ZI (↑n:Int)]] i []) [ZI (GI [(↑n:Int)] i)])/\True)/\Qbq/\True) (by kernel_rfl) ?_
 delta GI N0 N1 SM Z0 Z1 ZI Qbq
 simp only[eq_self,true_and,and_true,forall_const]
 refine⟨rfl,fun i h=>by omega,fun i h=>?_,fun i h=>by omega⟩
 obtain rfl:i=0:=by omega
 exact Bf _
def BcB(z:Int):List D:=[.int .i64 z]
def GP{α:Type}[Inhabited α](w:Nat)(row:α->List D)(k:Nat)(l:List α):FnSpec where
 β:=Unit
 α:=Nat×Nat
 args:=fun _=>[gsl w row l]
 st:=fun _=>⟨[],[]⟩
 pre:=fun _=>l≠[]/\l.length<=1000000
 post:=fun _ y=>l.length<=y.2
 res:=fun _ y=>.ret (.vs k y.1 l.length y.2 w)
 out:=fun _ y=>⟨[(k,y.1,.vec w l.length y.2 (fun i=>row (l.getD i default)))],[]⟩
noncomputable def Ecn:Senv:={ EC EA 8 1 [2,4] (fun _=>([],[])) with own:=fun t=>Nat.beq t 23 }
theorem Bdv(l:List Int)(h:l≠[]/\l.length<=1000000):ACalls Try.prog 29 ((GP 1 BcB 0 l).args ()) ((GP 1 BcB 0 l).st ()) (SpecR (GP 1 BcB 0 l) ()):=by
 refine Bp (A:=GP 1 BcB 0 l) (x:=()) (E:=Ecn) (eOk BA rfl) Try.func29 rfl (by kernel_rfl) rfl (by simp[GP,Ecn,EC,E0]) ?_
 refine Bt (T :=
  ∀(r:Bool),(r=true->LN l=N0)->ifB r (True/\∃(y:Nat×Nat),LN l<=y.2/\D.sl N1 N0 (fun x=>[]) Mode.nil=D.vs N0 y.1 (LN l) y.2 N1/\False/\True) (Bb (N0<LN l/\LN l*8<=140737488355328/\LN l<=9223372036854775807) (∀(y cap':Nat),True->LN l<=cap'->True/\∃(y_1:Nat×Nat),LN l<=y_1.2/\(y=y_1.1/\SM (LN l)/\cap'=y_1.2)/\(y=y_1.1/\(SM (LN l)/\cap'=y_1.2/\∀(i:Nat),i<LN l->SM [ZI (GI l i)])/\True)/\True))) (by kernel_rfl) ?_
 delta GI LN N0 N1 SM Z0 ZI
 have hl:0<l.length:=List.length_pos_iff.2 h.1
 intro r hr
 rw[Bn,Bd]
 refine⟨fun e=>absurd (hr e) (by omega),fun _=>⟨⟨hl,by omega,by omega⟩,fun y c _ hc=>⟨trivial,(y,c),hc,⟨rfl,rfl,rfl⟩,⟨rfl,⟨rfl,rfl,fun _ _=>rfl⟩,trivial⟩,trivial⟩⟩⟩
theorem BcR{α : Type}[Inhabited α]{f w : Nat}{row : α -> List D}{l : List α}(k : Nat)(h : ACalls Try.prog f ((GP w row 0 l).args ()) ((GP w row 0 l).st ()) (SpecR (GP w row 0 l) ())) :
  ACalls Try.prog f ((GP w row k l).args ()) ((GP w row k l).st ()) (SpecR (GP w row k l) ()) :=
 h.respec (by simp[GP,Bl]) (by simp[GP,T0,Ul,T8]) fun y hy=>⟨y,hy,by simp[GP,G3,Be,Ba],by simp[GP,T0,Ul,T8,CH,Ba]⟩
def Bas(a:Arr)(n:Nat):Con:=fun k ds S=>match k with
 |21=>some (pE (β:=Arr) ds S (fun _=>.int .i64 0) (fun b=>wkL ds [.agg b.row1]/\(b=a\/b=nmA n)))
 |50=>some (pA ds S (isl [] .any) False)
 |_=>none
theorem Bbe{n:Nat}(hn:n<=65536):(Bi (nmA n)).1=0:=by
 unfold nmA
 rw[Bi]
 have h0:Bx 1 [] 1 0=0:=by decide
 rw[if_neg (by simpa using h0),if_neg]
 ·rw[B3];simp
 ·simp only[List.any_cons,List.any_nil,Bool.or_false,CR,Oj]
  simp
  exact Int.le_trans (Int.ofNat_le.2 hn) (by decide)
theorem Bbh{n:Nat}(hn:n<=65536):(nmA n).ok:=by
 unfold nmA
 simp only[Arr.ok,okL]
 refine⟨by unfold EZ;omega,by simp,fun z hz=>?_,by simp,by simp[maxLen],by simp,trivial⟩
 have:z=(n:Int):=by simpa using hz
 unfold EZ;omega
theorem Bbd{a:Arr}{n:Nat}(hn:n<=65536)(ho:a.ok)(hc:(Bi a).1=0):ConOk Try.prog (Bas a n):=by
 intro k ds S A hh
 unfold Bas at hh
 split at hh
 ·injection hh with hh;subst hh
  refine Es fun b ⟨e,hb⟩=>CD.at_ (CD.wk ?_ e) _
  obtain rfl | rfl:=hb
  ·have:=IV _ ho
   rw[hc] at this;exact this
  ·have:=IV _ (Bbh hn)
   rw[Bbe hn] at this;exact this
 ·injection hh with hh;subst hh
  exact BB fun e=>e.elim
 ·cases hh
noncomputable def Ekk(a:Arr)(n:Nat):Senv:=EC (Bas a n) 62 8 [17,22,28,43,52] (fun id=>match id with | 13=>([0,1,2,3,4,5],[4]) | _=>([],[]))
def Km(a:Nat):Arr:=nmA a
def JC(a:Arr):Int:=Arr.k a
def Qbr(a:Nat):Nat:=LN (Arr.sh (Km a))
def Ka(a:Arr):Nat:=LN (Arr.sh a)
def VQ(a:Arr)(b:Nat):Int:=GI (Arr.sh a) b
def JD(a:Nat):Nat:=LN (Arr.nu (Km a))
def KD(a:Arr):Nat:=LN (Arr.nu a)
def Qbs(a b:Nat):Int:=GI (Arr.nu (Km a)) b
def VR(a:Arr)(b:Nat):Int:=GI (Arr.nu a) b
def Qbt(a:Nat):Nat:=LN (Arr.it (Km a))
def KY(a:Arr):Nat:=LN (Arr.it a)
def Qbu:Arr:=DA
def VS(a:Arr)(b:Nat):List D:=Arr.row (List.getD (Arr.it a) b Qbu)
def YE(a:Arr):Int:=(NI (Ka a))
def Qbv(a:Arr):Bool:=decide (Z0<YE a)
def Qbw(a:Arr)(b:Nat):Bool:=decide (YE a<(NI (JD b)))
def YF(a:Arr)(b:Nat):Bool:=bif Qbv a then Qbw a b else false
def YG(a:Arr)(b:Nat):List D:=[ZI (VQ a b)]
def Qbx(a:Arr)(b:Nat):List D:=[ZI (VR a b)]
def Qby(a:Nat):Prop:=JD a=N1/\(∀(i:Nat),i<JD a->[ZI (Qbs a i)]=[ZI (GI [(↑a:Int)] i)])/\True
def Qbz(a:Arr):Prop:=SM (JC a)
def QbA(a:Arr):Prop:=(SM (KD a)/\(∀(i:Nat),i<KD a->SM (Qbx a i))/\True)/\(SM (KY a)/\(∀(i:Nat),i<KY a->SM (VS a i))/\True)/\True
theorem Beq(a : Arr)(n : Nat)(hn : n<=65536)(ho : a.ok)(hc : (Bi a).1=0)(hr : a.sh≠[]) :
  CD 28 [.agg (nmA n).row1,.agg a.row1] (.tup [isl [(n:Int)] .any,.agg a.row1,.int .i64 0]):=by
 refine Bp (A:=sC _ _) (x:=()) (E:=Ekk a n) (eOk (Bbd hn ho hc) rfl) Try.func28 rfl (by kernel_rfl) rfl (by simp[sC,Ekk,EC,E0]) ?_
 refine Bt (T :=
  ∀(x:Nat),True->∀(x_1:Nat),x≠x_1/\True->∀(x_2:Nat),x_1≠x_2/\x≠x_2/\True->SM x/\∃(x_3:Arr),(((Arr.k (Km n)=JC x_3/\(Qbr n=Ka x_3/\(∀(i:Nat),i<Qbr n->GI (Arr.sh (Km n)) i=VQ x_3 i/\True)/\True)/\(JD n=KD x_3/\(∀(i:Nat),i<JD n->Qbs n i=VR x_3 i/\True)/\True)/\(Qbt n=KY x_3/\(∀(i:Nat),i<Qbt n->wkL (Arr.row Qbu) (VS x_3 i))/\True)/\True)/\True)/\(x_3=a\/x_3=Km n))/\∀(y:Unit),True->SM x_1/\∃(x_4:Arr),(((JC a=JC x_4/\(Ka a=Ka x_4/\(∀(i:Nat),i<Ka a->VQ a i=VQ x_4 i/\True)/\True)/\(KD a=KD x_4/\(∀(i:Nat),i<KD a->VR a i=VR x_4 i/\True)/\True)/\(KY a=KY x_4/\(∀(i:Nat),i<KY a->wkL (VS a i) (VS x_4 i))/\True)/\True)/\True)/\(x_4=a\/x_4=Km n))/\∀(y:Unit),True->SM x/\SM x/\(SM x_1/\ifB (Qbv a) (SM x/\SM x_1/\Qbw a n=YF a n/\True) (false=YF a n/\True))/\ifB (YF a n) (SM x_2/\(SM x_2/\True)/\∃(y:Unit),True/\((N0=N1/\(∀(i:Nat),i<N0->EY (List D) [] [ZI (GI [(↑n:Int)] i)])/\True)/\(Z0=JC a/\(N0=Ka a/\(∀(i:Nat),i<N0->EY (List D) [] (YG a i))/\True)/\(N0=KD a/\(∀(i:Nat),i<N0->EY (List D) [] (Qbx a i))/\True)/\False/\True)/\(16:Int)=Z0/\True)/\True/\True) (SM x/\SM x_1/\ifB (YE a==Z0) (SM x/\∃(x_5:Unit),False/\∀(y:Unit),True->SM x_1/\SM x/\SM x_1/\SM x_2/\(SM x_2/\True)/\∃(y:Unit),True/\(Qby n/\(Qbz a/\(N0=Ka a/\(∀(i:Nat),i<N0->[ZI (GI [] i)]=YG a i)/\True)/\QbA a)/\SM Z0/\True)/\True/\True) (SM x/\SM x_1/\SM x_2/\(SM x_2/\True)/\∃(y:Unit),True/\(Qby n/\(Qbz a/\(SM (Ka a)/\(∀(i:Nat),i<Ka a->SM (YG a i))/\True)/\QbA a)/\SM Z0/\True)/\True/\True))) (by kernel_rfl) ?_
 delta DA GI LN N0 N1 NI SM Z0 ZI Km Qbt KY Qbu VS YE Qbv Qbw YF YG Qbx JC Qby Qbz QbA Qbr Ka VQ JD KD Qbs VR
 have da:(default:Arr)=Arr.mk 0 [] [] []:=rfl
 simp only[<- da]
 simp only[ne_eq,implies_true,Bn,decide_eq_true_eq,decide_eq_false_iff_not,true_and,and_true,beq_iff_eq,beq_eq_false_iff_ne,exists_const,forall_const]
 have hl:0<a.sh.length:=List.length_pos_iff.2 hr
 have hn1:(nmA n).nu.length=1:=rfl
 have h1:decide ((0:Int)<a.sh.length)=true:=by simpa using hl
 have h2:decide ((a.sh.length:Int)<((nmA n).nu.length:Nat))=false:=by rw[hn1];exact decide_eq_false (by omega)
 have hb:(bif decide ((0:Int)<a.sh.length) then decide ((a.sh.length:Int)<((nmA n).nu.length:Nat)) else false)=false:=by rw[h1,h2];rfl
 exact fun _ _ _ _ _=>⟨nmA n,⟨⟨rfl,⟨rfl,fun _ _=>rfl⟩,⟨rfl,fun _ _=>rfl⟩,rfl,fun i hi=>absurd hi (Nat.not_lt_zero i)⟩,.inr rfl⟩,a,⟨⟨rfl,⟨rfl,fun _ _=>rfl⟩,⟨rfl,fun _ _=>rfl⟩,rfl,fun _ _=>Bf _⟩,.inl rfl⟩,⟨fun _=>(by rw[hb,h2]),fun h=>absurd (by omega) h⟩,fun h=>(by rw[hb] at h;cases h),fun _=>⟨fun h=>by omega,fun _=>⟨rfl,fun _ _=>rfl⟩⟩⟩
def sCv(x n:Nat)(f:Nat->List D):FnSpec where
 β:=Unit
 α:=Nat×Nat
 args:=fun _=>[.vs 0 x n 8 1]
 st:=fun _=>⟨[(0,x,.vec 1 8 8 f)],[]⟩
 pre:=fun _=>0<n/\n<=8
 post:=fun _ y=>n<=y.2
 res:=fun _ y=>.ret (.vs 0 y.1 n y.2 1)
 out:=fun _ y=>⟨[(0,y.1,.vec 1 n y.2 f)],[]⟩
noncomputable def Ecv : Senv:={ Ecn with gz:=fun r=>match r with
  |0=>[.slot 0]
  |_=>[] }
theorem Bd5(x n:Nat)(g:Nat->Int)(h:0<n/\n<=8):ACalls Try.prog 29 ((sCv x n fun i=>[.int .i64 (g i)]).args ()) ((sCv x n fun i=>[.int .i64 (g i)]).st ()) (SpecR (sCv x n fun i=>[.int .i64 (g i)]) ()):=by
 refine Bp (A:=sCv x n _) (x:=()) (E:=Ecv) (eOk BA rfl) Try.func29 rfl (by kernel_rfl) rfl (by simp[sCv,Ecv,Ecn,EC,E0]) ?_
 refine Bt (T :=
  SM x/\SM (8:Nat)/\Bb (n<=8) ((∀(i:Nat),i<n->(List.all [ZI (g i)] fun (x:D)=>match x with | D.unk=>false | D.agg cs=>false | D.tup ds=>false | x=>true)=true)/\∀(t:Nat) (r:Bool),(r=true->n=N0)->ifB r (True/\∃(y:Nat×Nat),n<=y.2/\D.sl N1 N0 (fun x=>[]) Mode.nil=D.vs N0 y.1 n y.2 N1/\False/\True) (Bb (N0<n/\n*8<=140737488355328/\n<=9223372036854775807) (∀(y cap':Nat),True->n<=cap'->True/\∃(y_1:Nat×Nat),n<=y_1.2/\(y=y_1.1/\SM n/\cap'=y_1.2)/\(y=y_1.1/\(SM n/\cap'=y_1.2/\∀(i:Nat),i<n->SM [ZI (g i)])/\True)/\True)))) (by kernel_rfl) ?_
 delta N0 N1 SM ZI
 refine⟨rfl,rfl,Bd.2 ⟨h.2,fun _ _=>rfl,fun t r hr=>?_⟩⟩
 obtain ⟨h1,h2⟩:=h
 rw[Bn,Bd]
 refine⟨fun e=>absurd (hr e) (by omega),fun _=>⟨⟨h1,by omega,by omega⟩,fun y c _ hc=>⟨trivial,(y,c),hc,⟨rfl,rfl,rfl⟩,⟨rfl,⟨rfl,rfl,fun _ _=>rfl⟩,trivial⟩,trivial⟩⟩⟩
theorem Rf{q:Nat}(h:q<=1000000):IntKind.i64.wrap (q:Int)=q:=Bc (by omega) (by omega)
def ixV(s:List Int)(off j i:Nat):Nat:=if j<=i then (BL (shN s) off).getD i 0 else 0
def ixR(s:List Int)(off j:Nat):Nat->List D:=fun i=>[.int .i64 (ixV s off j i:Nat)]
def sIx(K:Nat)(s:List Int)(off:Nat):FnSpec where
 β:=Unit
 α:=Nat×Nat
 args:=fun _=>[isl s .any,.int .i64 (off:Nat)]
 st:=fun _=>⟨[],[]⟩
 pre:=fun _=>s≠[]/\Bk s=true/\off<prL (shN s)
 post:=fun _ y=>s.length<=y.2
 res:=fun _ y=>.ret (.tup [.vs K y.1 s.length y.2 1,.bool true])
 out:=fun _ y=>⟨[(K,y.1,.vec 1 s.length y.2 (dgR s off))],[]⟩
def Bb3(s:List Int)(off:Nat):Con:=fun k ds S=>match k with
 |46=>some (pA ds S (.int .i64 (prL (shN s):Nat)) (wkL ds [isl s .any]/\Bk s=true))
 |29=>match ds with
  | [.vs _ x _ _ _]=>some (sCv x s.length (ixR s off 0))
  |_=>none
 |_=>none
noncomputable def Eix(s:List Int)(off:Nat):Senv:={ EC (Bb3 s off) 41 2 [4,5,6,7,15,20] (fun _=>([],[])) with
 ann:=fun b env _S=>match b with
  |0=>match Ab.look env 6 with
   |.ref k x _=>some { slots:=[7,1,6],keep:=[0],α:=Nat,st:=fun j=>([.int .i64 ((j:Int)-1),.int .i64 (off / prL ((shN s).drop j):Nat),.er k x 0 1 0],⟨[(k,x,.vec 1 8 8 (ixR s off j))],[]⟩),inv:=fun j=>j<=s.length,mu:=fun j=>j }
   |_=>none
  |_=>none }
theorem BbQ{s:List Int}{off:Nat}:ConOk Try.prog (Bb3 s off):=by
 intro k ds S A hh
 unfold Bb3 at hh
 split at hh
 ·injection hh with hh;subst hh
  refine BB fun ⟨e,hs⟩=>CD.at_ (CD.wk ?_ e) _
  have:=I8 s hs
  rw[Gr hs] at this
  exact this
 ·split at hh
  ·injection hh with hh;subst hh
   refine ConOk.plain (fun _ hy=>?_) rfl rfl
   exact Bd5 _ _ (fun i=>(ixV s off 0 i:Nat)) hy
  ·cases hh
 ·cases hh
def QH(a:Nat):Int:=(↑a:Int)-Z1
def VT(a b:Nat)(c:List Int):Int:=(NI (a / prL (List.drop b (shN c))))
def VU(a:List Int)(b:Nat):Int:=GI a (Int.toNat (QH b))
def QfI(a:List Int):D:=SI a
theorem BdZ(s:List Int)(off:Nat)(h:s≠[]/\Bk s=true/\off<prL (shN s)):ACalls Try.prog 47 ((sIx 0 s off).args ()) ((sIx 0 s off).st ()) (SpecR (sIx 0 s off) ()):=by
 refine Bp (A:=sIx 0 s off) (x:=()) (E:=Eix s off) (eOk BbQ rfl) Try.func47 rfl (by kernel_rfl) rfl (by simp[sIx,Eix,EC,E0]) ?_
 refine Bt (T :=
  ∃(x:Unit),(((SM (LN s)/\(∀(i:Nat),i<LN s->SM (GI s i)/\True)/\True)/\True)/\Bk s=true)/\∀(y:Unit),True->ifB (decide ((NI (prL (shN s)))<=(↑off:Int))) (True/\∃(y:Nat×Nat),LN s<=y.2/\(D.sl N1 N0 (fun x=>[]) Mode.nil=D.vs N0 y.1 (LN s) y.2 N1/\false=true/\True)/\False/\True) (∀(x:Nat),True->(∃(x_1:Nat),x_1<=LN s/\(IntKind.wrap IntKind.i64 ((LI s)-Z1)=QH x_1/\(↑off:Int)=VT off x_1 s/\(SM x/\SM N0)/\True)/\(SM x/\(∀(i:Nat),i<8->Be (List.getD [ZI Z0,ZI Z0,ZI Z0,ZI Z0,ZI Z0,ZI Z0,ZI Z0,ZI Z0] i D.unk) (ZI (NI (ixV s off x_1 i)))/\True)/\True)/\True)/\∀(x_1:Nat),x_1<=LN s->ifB (decide (Z0<=QH x_1)) (Bb (Z0<=QH x_1/\QH x_1<(LI s)) (Bb (VU s x_1≠Z0) (Bb (Z0<=QH x_1/\QH x_1<8) (SM x/\Bb (N0+Int.toNat (QH x_1)<8) (Bb (Z0<=QH x_1/\QH x_1<(LI s)) (Bb (VU s x_1≠Z0) ((SM (QfI s)/\True)/\∃(y:Nat),y<=LN s/\y<x_1/\(IntKind.wrap IntKind.i64 (QH x_1-Z1)=QH y/\IntKind.wrap IntKind.i64 (Int.tdiv (VT off x_1 s) (VU s x_1))=VT off y s/\(SM x/\SM N0)/\True)/\(SM x/\(SM (8:Nat)/\SM (8:Nat)/\∀(i:Nat),i<8->BM (ixR s off x_1) (N0+Int.toNat (QH x_1)) [ZI (Int.tmod (VT off x_1 s) (VU s x_1))] i=ixR s off y i)/\True)/\True))))))) (Bb (Z0<=(LI s)/\(LI s)<=8/\N0<8/\(8:Nat)<=9223372036854775807) (∃(x_2:Unit),((SM x/\TL s=LN s/\SM (8:Nat))/\True)/\((SM x/\(SM (8:Nat)/\SM (8:Nat)/\∀(i:Nat),i<8->ixR s off x_1 i=ixR s off N0 i)/\True)/\True)/\(N0<LN s/\LN s<=8)/\∀(y:Nat×Nat),LN s<=y.2->True/\∃(y_1:Nat×Nat),LN s<=y_1.2/\((y.1=y_1.1/\SM (LN s)/\y.2=y_1.2)/\SM true/\True)/\(y.1=y_1.1/\(SM (LN s)/\y.2=y_1.2/\∀(i:Nat),i<LN s->ixR s off N0 i=dgR s off i)/\True)/\True)))) (by kernel_rfl) ?_
 delta GI LI LN N0 N1 NI SI SM TL Z0 Z1 ZI QH VT VU QfI
 simp only[eq_self,ne_eq,implies_true,Int.toNat_natCast,Bn,Bd,decide_eq_true_eq,decide_eq_false_iff_not,true_and,and_true,exists_const,forall_const,Prod.exists]
 simp only[Nat.zero_add]
 obtain ⟨h0,hs,ho⟩:=h
 have hl:0<s.length:=List.length_pos_iff.2 h0
 have h8:=((Bq s).1 hs).1
 have h2:=((Bq s).1 hs).2.1
 have hP:=IR hs
 have hp0:0<prL (shN s):=by omega
 have hsl:(shN s).length=s.length:=CP s
 refine⟨hs,fun q=>absurd q (by omega),fun _=>⟨⟨s.length,Nat.le_refl _,⟨Bc (by omega) (by omega),?_⟩,fun i hi=>?_⟩,fun j hj=>⟨fun hj0=>?_,fun hj0=>?_⟩⟩⟩
 ·rw[List.drop_of_length_le (by omega)];simp[prL]
 ·have:ixV s off s.length i=0:=by
   unfold ixV
   split
   ·exact W6 off (by omega)
   ·rfl
  rw[this]
  rcases i with _ | _ | _ | _ | _ | _ | _ | _ | i<;>first | exact Bg _ | omega
 ·obtain ⟨j,rfl⟩:∃i,j=i+1:=⟨j-1,by omega⟩
  have ej:(((j+1:Nat):Int)-1)=j:=by omega
  simp only[ej,Int.toNat_natCast,<- CX h2 j]
  have hlt:=Ir off hp0 (show j<(shN s).length by omega)
  have hdv:off / prL ((shN s).drop (j+1)) / (shN s).getD j 0=off / prL ((shN s).drop j):=by
   rw[Nat.div_div_eq_div_mul,Ee (show j<(shN s).length by omega),Nat.mul_comm]
  have hmd:off / prL ((shN s).drop (j+1)) % (shN s).getD j 0=(BL (shN s) off).getD j 0:=(EI _ _ _ (by omega)).symm
  have hle:off / prL ((shN s).drop j)<=off:=Nat.div_le_self _ _
  refine⟨⟨by omega,by omega⟩,by omega,⟨by omega,by omega⟩,by omega,⟨by omega,by omega⟩,by omega,j,by omega,by omega,⟨Bc (by omega) (by omega),?_⟩,fun i _=>?_⟩
  ·rw[<- Int.ofNat_tdiv,hdv,Rf (by omega)]
  ·rw[<- Int.ofNat_tmod,hmd]
   unfold BM ixR ixV
   by_cases e:i=j
   ·subst e;rw[if_pos rfl,if_pos (Nat.le_refl _)]
   ·rw[if_neg e]
    by_cases e2:j+1<=i
    ·rw[if_pos e2,if_pos (by omega)]
    ·rw[if_neg e2,if_neg (by omega)]
 ·obtain rfl:j=0:=by omega
  have hd:∀i,ixR s off 0 i=dgR s off i:=fun i=>by
   unfold ixR ixV dgR
   rw[if_pos (Nat.zero_le _)]
  exact⟨⟨by omega,by omega,by omega,by omega⟩,fun _ _=>rfl,⟨hl,h8⟩,fun y hy=>⟨y.1,y.2,hy,⟨rfl,rfl⟩,rfl,rfl,fun i _=>hd i⟩⟩
theorem Bec(K:Nat)(s:List Int)(off:Nat)(h:s≠[]/\Bk s=true/\off<prL (shN s)):ACalls Try.prog 47 ((sIx K s off).args ()) ((sIx K s off).st ()) (SpecR (sIx K s off) ()) :=
 (BdZ s off h).respec (by simp[sIx,Bl]) (by simp[sIx,T0,Ul,T8]) fun y hy=>⟨y,hy,by simp[sIx,G3,Be,Bo,Ba],by simp[sIx,T0,Ul,T8,CH,Ba]⟩
def MA(l:List Nat):List Int:=l.map fun (n:Nat)=>(n:Int)
theorem UU(l:List Nat)(j:Nat):(MA l).getD j 0=((l.getD j 0:Nat):Int):=by
 simp only[MA,List.getD_eq_getElem?_getD,List.getElem?_map]
 cases l[j]? <;>simp
theorem Ui(l:List Nat):(MA l).length=l.length:=by simp[MA]
def BbW(s:List Int):Con:=fun k ds S=>match k with
 |38=>some (pA ds S (.bool true) (wkL ds [isl s .any]/\Bk s=true))
 |_=>none
theorem BaX{s:List Int}:ConOk Try.prog (BbW s):=by
 intro k ds S A hh
 unfold BbW at hh
 split at hh
 ·injection hh with hh;subst hh
  refine BB fun ⟨e,hs⟩=>CD.at_ (CD.wk ?_ e) _
  have:=Gj s
  rw[hs] at this
  exact this
 ·cases hh
noncomputable def Eof(s:List Int)(l:List Nat):Senv:={ EC (BbW s) 46 2 [4,5,6,7,8,18,19,20,21,22,35] (fun _=>([],[])) with
 mg:=fun id=>match id with
  |7=>2
  |_=>0
 cut:=fun id _env S=>match id with
  |7=>some { slots:=[35],keep:=[],α:=Unit,st:=fun _=>([.bool false],S),inv:=fun _=>True,mu:=fun _=>0 }
  |_=>none
 ann:=fun b _env S=>match b with
  |0=>some { slots:=[21,6],keep:=[0,1,19,20],α:=Nat,st:=fun j=>([.int .i64 (j:Nat),.int .i64 (hp (shN s) (fun i=>l.getD i 0) j:Nat)],S),inv:=fun j=>j<=s.length,mu:=fun j=>s.length-j }
  |_=>none }
def VV(a:List Nat):Int:=(LI (MA a))
def QbB(a:List Int)(b:List Nat):Int:=(NI (hp (shN a) (fun i=>List.getD b i N0) (LN a)))
def VW(a:List Int)(b:List Nat)(c:Nat):Int:=(NI (hp (shN a) (fun i=>List.getD b i N0) c))
def YH(a:List Nat)(b:Nat):Int:=GI (MA a) (Int.toNat (↑b:Int))
def QfJ(a:List Int):D:=SI a
def QfK(a:List Nat):D:=SI (MA a)
def QbC(a:List Nat):Prop:=SM (QfK a)
theorem Bed(s : List Int)(l : List Nat)(hs : Bk s=true)(hl : l.length=s.length)(hp0 : 0<prL (shN s))(hd : ∀j, j<s.length -> l.getD j 0<(shN s).getD j 0) :
  CD 48 [isl s .any,isl (MA l) .any] (.tup [.int .i64 (hp (shN s) (fun i=>l.getD i 0) s.length:Nat),.bool true]):=by
 refine Bp (A:=sC _ _) (x:=()) (E:=Eof s l) (eOk BaX rfl) Try.func48 rfl (by kernel_rfl) rfl (by simp[sC,Eof,EC,E0]) ?_
 refine Bt (T :=
  ∃(x:Unit),(((SM (LN s)/\(∀(i:Nat),i<LN s->SM (GI s i)/\True)/\True)/\True)/\Bk s=true)/\∀(y:Unit),True->ifB (VV l != (LI s)) (True/\∃(y:Unit),True/\(Z0=QbB s l/\false=true/\True)/\True/\True) ((∃(x:Nat),x<=LN s/\(Z0=(↑x:Int)/\Z0=VW s l x/\True)/\True/\True)/\∀(x:Nat),x<=LN s->ifB (decide ((↑x:Int)<VV l)) (Bb (Z0<=(↑x:Int)/\(↑x:Int)<VV l) (ifB (decide (YH l x<Z0)) (∃(x:Unit),True/\(true=false/\True)/\True/\True) (Bb (Z0<=(↑x:Int)/\(↑x:Int)<(LI s)) (∃(x_1:Unit),True/\(decide (GI s (Int.toNat (↑x:Int))<=YH l x)=false/\True)/\True/\True))/\∀(x_1:Unit),True->Bb (Z0<=(↑x:Int)/\(↑x:Int)<(LI s)) ((SM (QfJ s)/\QbC l/\QbC l/\SM (ZI (VV l))/\True)/\∃(y:Nat),y<=LN s/\LN s-y<LN s-x/\(IntKind.wrap IntKind.i64 ((↑x:Int)+Z1)=(↑y:Int)/\IntKind.wrap IntKind.i64 (IntKind.wrap IntKind.i64 (VW s l x*GI s (Int.toNat (↑x:Int)))+YH l x)=VW s l y/\True)/\True/\True))) (True/\∃(y:Unit),True/\(VW s l x=QbB s l/\SM true/\True)/\True/\True))) (by kernel_rfl) ?_
 delta GI LI LN N0 N1 NI SI SM Z0 Z1 ZI VV QbB VW YH QfJ QfK QbC
 simp only[eq_self,ne_eq,implies_true,Int.toNat_natCast,Bn,Bd,decide_eq_true_eq,decide_eq_false_iff_not,true_and,and_true,bne_iff_ne,bne_eq_false_iff_eq,exists_const,forall_const]
 have h8:=((Bq s).1 hs).1
 have h2:=((Bq s).1 hs).2.1
 have hP:=IR hs
 have hsl:(shN s).length=s.length:=CP s
 have hb:∀j,j<=s.length->hp (shN s) (fun i=>l.getD i 0) j<prL (shN s):=fun j hj=>Bdh (fun i hi=>hd i (by omega)) hp0 j (by omega)
 simp only[Ui,hl]
 refine⟨hs,fun q=>absurd trivial q,fun _=>⟨⟨0,Nat.zero_le _,rfl,rfl⟩,fun j hj=>⟨fun hlt=>?_,fun hge=>?_⟩⟩⟩
 ·have hlt:j<s.length:=by omega
  have hdj:=hd j hlt
  have hbj:=hb (j+1) hlt
  have e1:((hp (shN s) (fun i=>l.getD i 0) (j+1):Nat):Int)=(hp (shN s) (fun i=>l.getD i 0) j:Int)*s.getD j 0+(l.getD j 0:Nat):=by
   rw[<- CX h2 j,hp];push_cast;rfl
  have e2:(hp (shN s) (fun i=>l.getD i 0) j:Int)*s.getD j 0=((hp (shN s) (fun i=>l.getD i 0) j*(shN s).getD j 0:Nat):Int):=by
   rw[<- CX h2 j];push_cast;rfl
  have e3:hp (shN s) (fun i=>l.getD i 0) j*(shN s).getD j 0<=hp (shN s) (fun i=>l.getD i 0) (j+1):=by rw[hp];omega
  simp only[UU]
  refine⟨⟨by omega,by omega⟩,⟨fun q=>absurd q (by omega),fun _=>⟨⟨by omega,by omega⟩,by rw[<- CX h2 j];omega⟩⟩,⟨by omega,by omega⟩,j+1,by omega,by omega,Bc (by omega) (by omega),?_⟩
  rw[e1,e2,Rf (by omega),Bc (by omega) (by omega)]
 ·obtain rfl:j=s.length:=by omega
  rfl
theorem Ux{α:Type}(l:List α)(p q:Nat)(z:α)(h:p+q<=l.length):(List.range q).map (fun m=>l.getD (m+p) z)=(l.drop p).take q:=by
 apply List.ext_getElem
 ·rw[List.length_map,List.length_range,List.length_take,List.length_drop];omega
 ·intro i h1 h2
  have h1:i<q:=by simpa using h1
  simp[List.getD_eq_getElem?_getD,Nat.add_comm i p,show p+i<l.length by omega]
def paA(e c:Nat)(a:Arr):Arr:=.mk a.k ((e:Int)::a.sh.tail) ((a.nu.drop (c*GH a)).take (e*GH a)) ((a.it.drop (c*GH a)).take (e*GH a))
theorem Bcq{k:Int}{s s' nu nu':List Int}{it it':List Arr}(h:(Arr.mk k s nu it).ok)(hs:∀z∈s',EZ z)(hl:s'.length<=maxLen)(h1:nu'.Sublist nu)(h2:it'.Sublist it):(Arr.mk k s' nu' it').ok:=by
 simp only[Arr.ok] at h ⊢
 obtain ⟨a1,_,a3,_,a5,a6,a7⟩:=h
 exact⟨a1,hs,fun z hz=>a3 z (h1.subset hz),hl,Nat.le_trans h1.length_le a5,Nat.le_trans h2.length_le a6,(Ce _).2 fun x hx=>(Ce _).1 a7 x (h2.subset hx)⟩
theorem Uy{s:List Int}(h:Bk s=true):(∀z∈s,EZ z)/\s.length<=maxLen:=by
 obtain ⟨h1,h2,_⟩:=(Bq s).1 h
 refine⟨fun z hz=>?_,Nat.le_trans h1 (by decide)⟩
 have:=h2 z hz
 unfold EZ;omega
section
variable {k d:Int} {r nu:List Int} {it:List Arr} (h:(Bi (.mk k (d::r) nu it)).1=0) (e c:Nat) (hec:(e:Int)+c<=d)
include h hec
theorem G2:(if k=3 then it.length else nu.length)=d.toNat*prL (shN r)/\(if k=3 then nu.length else it.length)=0/\c*prL (shN r)+e*prL (shN r)<=d.toNat*prL (shN r):=by
 obtain ⟨f1,f2,f3,f4⟩:=BN.1 (BJ h)
 have f3:(if k=3 then it.length else nu.length)=prL (shN (d::r)):=f3
 have e2:prL (shN (d::r))=d.toNat*prL (shN r):=by simp[shN,prL]
 refine⟨by rw[f3,e2],f4,?_⟩
 rw[<- Nat.add_mul]
 exact Nat.mul_le_mul_right _ (by omega)
theorem GV:Bk ((e:Int)::r)=true:=by
 obtain ⟨f1,f2,f3,f4⟩:=BN.1 (BJ h)
 have f2:Bk (d::r)=true:=f2
 have hd:0<=d:=((Bq _).1 f2).2.1 d (by simp) |>.1
 exact WP f2 (by omega) (by omega)
theorem MU:(Bi (paA e c (.mk k (d::r) nu it))).1=0:=by
 obtain ⟨f1,f2,f3,f4⟩:=BN.1 (BJ h)
 have f4:(if k=3 then nu.length else it.length)=0:=f4
 obtain ⟨p1,p2,p3⟩:=G2 h e c hec
 refine BbF h (BN.2 ⟨f1,GV h e c hec,?_,?_⟩) ((List.take_sublist _ _).trans (List.drop_sublist _ _)) ((List.take_sublist _ _).trans (List.drop_sublist _ _))
 ·have e1:prL (shN ((e:Int)::r))=e*prL (shN r):=by simp[shN,prL]
  show (if k=3 then ((it.drop (c*prL (shN r))).take (e*prL (shN r))).length else ((nu.drop (c*prL (shN r))).take (e*prL (shN r))).length)=prL (shN ((e:Int)::r))
  rw[e1]
  by_cases hk3:k=3
  ·rw[if_pos hk3] at p1 ⊢; rw[List.length_take,List.length_drop];omega
  ·rw[if_neg hk3] at p1 ⊢; rw[List.length_take,List.length_drop];omega
 ·show (if k=3 then ((nu.drop (c*prL (shN r))).take (e*prL (shN r))).length else ((it.drop (c*prL (shN r))).take (e*prL (shN r))).length)=0
  by_cases hk3:k=3
  ·rw[if_pos hk3] at p2 ⊢; rw[List.length_take,List.length_drop];omega
  ·rw[if_neg hk3] at p2 ⊢; rw[List.length_take,List.length_drop];omega
theorem Tv(ho:(Arr.mk k (d::r) nu it).ok):(paA e c (.mk k (d::r) nu it)).ok:=by
 obtain ⟨q1,q2⟩:=Uy (GV h e c hec)
 exact Bcq ho q1 q2 ((List.take_sublist _ _).trans (List.drop_sublist _ _)) ((List.take_sublist _ _).trans (List.drop_sublist _ _))
theorem Mm:E9 (.mk k (d::r) nu it) ((e:Int)::r) (fun m=>m+c*prL (shN r))=paA e c (.mk k (d::r) nu it):=by
 obtain ⟨p1,p2,p3⟩:=G2 h e c hec
 have e1:prL (shN ((e:Int)::r))=e*prL (shN r):=by simp[shN,prL]
 show Arr.mk k ((e:Int)::r) (if k=3 then [] else (List.range (prL (shN ((e:Int)::r)))).map fun m=>nu.getD (m+c*prL (shN r)) 0) (if k=3 then (List.range (prL (shN ((e:Int)::r)))).map fun m=>it.getD (m+c*prL (shN r)) default else [])=Arr.mk k ((e:Int)::r) ((nu.drop (c*prL (shN r))).take (e*prL (shN r))) ((it.drop (c*prL (shN r))).take (e*prL (shN r)))
 rw[e1]
 by_cases hk3:k=3
 ·rw[if_pos hk3] at p1 p2 ⊢
  rw[if_pos hk3,List.eq_nil_of_length_eq_zero p2,Ux _ _ _ _ (by omega)]
  simp
 ·rw[if_neg hk3] at p1 p2 ⊢
  rw[if_neg hk3,List.eq_nil_of_length_eq_zero p2,Ux _ _ _ _ (by omega)]
  simp
theorem BcL(ho:(Arr.mk k (d::r) nu it).ok):BHo (.mk k (d::r) nu it) ((e:Int)::r) (fun ax i=>if ax=0 then i+c else i) (fun m=>m+c*prL (shN r)):=by
 obtain ⟨f1,f2,f3,f4⟩:=BN.1 (BJ h)
 have f2:Bk (d::r)=true:=f2
 have hd:0<=d:=((Bq _).1 f2).2.1 d (by simp) |>.1
 obtain ⟨p1,p2,p3⟩:=G2 h e c hec
 have e1:shN ((e:Int)::r)=e::shN r:=by simp[shN]
 have e2:shN (d::r)=d.toNat::shN r:=by simp[shN]
 have e3:prL (e::shN r)=e*prL (shN r):=rfl
 refine⟨⟨f1,GV h e c hec,f2,rfl,fun m hm=>?_,fun m hm j hj=>?_,fun m hm=>?_,fun hm=>?_,?_⟩,?_,?_⟩
 ·rw[e1,e3] at hm
  show m+c*prL (shN r)<(if k=3 then it.length else nu.length)
  rw[p1]
  have:m+c*prL (shN r)<e*prL (shN r)+c*prL (shN r):=Nat.add_lt_add_right hm _
  omega
 ·rw[e1] at hm ⊢
  have hj2:j<(e::shN r).length:=by simpa[shN] using hj
  have:=Ir m (by omega) hj2
  show (if j=0 then (BL (e::shN r) m).getD j 0+c else (BL (e::shN r) m).getD j 0)<(shN (d::r)).getD j 0
  rw[e2]
  rcases j with _ | j
  ·rw[if_pos rfl]
   have q:(e::shN r).getD 0 0=e:=rfl
   show _<d.toNat
   rw[q] at this
   omega
  ·rw[if_neg (by omega)]
   simpa using this
 ·rw[e1,e3] at hm
  show hp (shN (d::r)) (fun j=>if j=0 then (BL (shN ((e:Int)::r)) m).getD j 0+c else (BL (shN ((e:Int)::r)) m).getD j 0) (r.length+1)=m+c*prL (shN r)
  rw[e1,e2]
  have hl:((m / prL (shN r) % e+c)::BL (shN r) m).length=(d.toNat::shN r).length:=by simp[EM]
  have:=Bb4 hl
  rw[Bbs hm] at this
  rw[<- this]
  have hn:(d.toNat::shN r).length=r.length+1:=by simp[shN]
  rw[hn]
  refine G6 _ fun i _=>?_
  rcases i with _ | i
  ·rw[if_pos rfl];rfl
  ·rw[if_neg (by omega)];rfl
 ·rw[e1,e3] at hm
  show 0<prL (shN (d::r))
  rw[e2]
  show 0<d.toNat*prL (shN r)
  omega
 ·exact (C4 h).2.2.2
 ·rw[Mm h e c hec];exact Tv h e c hec ho
 ·rw[Mm h e c hec];exact MU h e c hec
end
theorem Bc3{k d:Int}{r nu:List Int}{it:List Arr}(n:Nat):paA n 0 (.mk k (d::r) nu it)=tkA n (.mk k (d::r) nu it):=by
 simp[paA,tkA]
theorem Bdi{k d:Int}{r nu:List Int}{it:List Arr}(h:(Bi (.mk k (d::r) nu it)).1=0){n:Nat}(hn:(n:Int)<=d):paA (d.toNat-n) n (.mk k (d::r) nu it)=drA n (.mk k (d::r) nu it):=by
 obtain ⟨p1,p2,p3⟩:=G2 h (d.toNat-n) n (by omega)
 have hR:GH (.mk k (d::r) nu it)=prL (shN r):=rfl
 have hm:(d.toNat-n)*prL (shN r)=d.toNat*prL (shN r)-n*prL (shN r):=Nat.sub_mul _ _ _
 simp only[paA,drA,hR,Arr.k,Arr.sh,Arr.nu,Arr.it,List.tail_cons,List.headD_cons]
 have e1:((d.toNat-n:Nat):Int)=d-n:=by omega
 rw[e1]
 have t1:(nu.drop (n*prL (shN r))).take ((d.toNat-n)*prL (shN r))=nu.drop (n*prL (shN r)):=by
  apply List.take_of_length_le
  rw[List.length_drop,hm]
  by_cases hk3:k=3
  ·rw[if_pos hk3] at p1 p2;omega
  ·rw[if_neg hk3] at p1 p2;omega
 have t2:(it.drop (n*prL (shN r))).take ((d.toNat-n)*prL (shN r))=it.drop (n*prL (shN r)):=by
  apply List.take_of_length_le
  rw[List.length_drop,hm]
  by_cases hk3:k=3
  ·rw[if_pos hk3] at p1 p2;omega
  ·rw[if_neg hk3] at p1 p2;omega
 rw[t1,t2]
def sCi(k:Nat)(l:List Int):FnSpec where
 β:=Unit
 α:=Nat×Nat
 args:=fun _=>[isl l .any]
 st:=fun _=>⟨[],[]⟩
 pre:=fun _=>l≠[]/\l.length<=1000000
 post:=fun _ y=>l.length<=y.2
 res:=fun _ y=>.ret (.vs k y.1 l.length y.2 1)
 out:=fun _ y=>⟨[(k,y.1,.vec 1 l.length y.2 (fun i=>[.int .i64 (l.getD i 0)]))],[]⟩
theorem Ro(k:Nat)(l:List Int)(h:l≠[]/\l.length<=1000000):ACalls Try.prog 29 ((sCi k l).args ()) ((sCi k l).st ()) (SpecR (sCi k l) ()) :=
 BcR k (Bdv l h)
def ctO(n:Nat):AObj:=.cells [isl [(n:Int)] .any]
def Rz(a:Arr)(n e c cl:Nat)(cap:Nat->Nat->List D):Con:=fun k ds S=>match k with
 |28=>some (pA ds S (.tup [isl [(n:Int)] .any,.agg a.row1,.int .i64 0]) (wkL ds [.agg (nmA n).row1,.agg a.row1]))
 |29=>some ((sCi (BG S.objs) a.sh).fits () (ds=[isl a.sh .any]))
 |31=>some (pA ds S (.tup [.agg (paA e c a).row1,.int .i64 0]) (∃xc xy rest ts,wkL ds [.agg a.row1,isl ((e:Int)::a.sh.tail) .any,.fn (.func cl) [] (cap xc xy)]/\S=⟨(3,xc,ctO n)::rest,ts⟩))
 |_=>none
theorem Uk{a : Arr}{n e c cl : Nat}{cap : Nat -> Nat -> List D}(hn : n<=65536)(h : (Bi a).1=0)(ho : a.ok)(hr : a.sh≠[])(hec : (e : Int)+c<=a.sh.headD 0)
  (hcl:∀xc xy ax i:Nat,ax<8->i<=65536->CS cl (.int .i64 ax::.int .i64 i::cap xc xy) ⟨[(3,xc,ctO n)],[]⟩ (.int .i64 ((if ax=0 then i+c else i:Nat):Int))):ConOk Try.prog (Rz a n e c cl cap):=by
 intro k ds S A hh
 unfold Rz at hh
 split at hh
 ·injection hh with hh;subst hh
  exact BB fun e=>CD.at_ (CD.wk (Beq a n hn ho h hr) e) _
 ·injection hh with hh;subst hh
  exact FnSpec.fits_ok (fun _ hy=>Ro _ _ hy) fun e=>by subst e;exact⟨Bl _,Gp S⟩
 ·injection hh with hh;subst hh
  refine BB ?_
  rintro ⟨xc,xy,rest,ts,hw,rfl⟩
  cases a with
  |mk k s nu it =>
   cases s with
   |nil=>exact (hr rfl).elim
   |cons d r =>
    have hb:=BcL h e c hec ho
    have:=Bes _ _ _ _ cl (cap xc xy) xc [isl [(n:Int)] .any] hb fun ax i h1 h2=>hcl xc xy ax i h1 h2
    rw[Mm h e c hec] at this
    exact (this.wk hw).frame ⟨rest,ts⟩
 ·cases hh
noncomputable def Etk(a:Arr)(n e c cl:Nat)(cap:Nat->Nat->List D):Senv:={ EC (Rz a n e c cl cap) 44 11 [19,25,26,27,28] (fun _=>([],[])) with
 unr:=fun _=>2
 gz:=fun r=>match r with
  |10=>[.slot 8]
  |_=>[] }
noncomputable def Edd(a:Arr)(n e c cl:Nat)(cap:Nat->Nat->List D):Senv:={ EC (Rz a n e c cl cap) 50 11 [19,25,26,27,28] (fun id=>match id with | 8=>([0,1,2,3,4,5,6,7,8,9,10,11],[7,11]) | _=>([],[])) with
 unr:=fun _=>2
 gz:=fun r=>match r with
  |10=>[.slot 8]
  |_=>[] }
theorem Ba7{a:Arr}(h:(Bi a).1=0):a.sh.length<=8:=by
 cases a with
 |mk k s nu it=>exact (C4 h).1
theorem RE{n:Nat}(hn:n<=65536):(if (n:Int)<IntKind.i64.wrap (0-(n:Int)) then IntKind.i64.wrap (0-(n:Int)) else (n:Int))=n:=by
 rw[Bc (by omega) (by omega),if_neg (by omega)]
theorem EF{s:List Int}(hs:s≠[])(v:Int)(i:Nat):BM (fun i=>[.int .i64 (s.getD i 0)]) 0 [.int .i64 v] i=[.int .i64 ((v::s.tail).getD i 0)]:=by
 cases s with
 |nil=>exact (hs rfl).elim
 |cons d r =>
  rcases i with _ | i
  ·rfl
  ·simp[BM]
theorem Bbg{a:Arr}{n:Nat}(h:(Bi a).1=0)(hr:a.sh≠[])(hd:(n:Int)<=a.sh.headD 0):(if IntKind.i64.wrap (a.sh.getD 0 0-n)<0 then 0 else IntKind.i64.wrap (a.sh.getD 0 0-n))=(((a.sh.headD 0).toNat-n:Nat):Int):=by
 cases a with
 |mk k s nu it =>
  cases s with
  |nil=>exact (hr rfl).elim
  |cons d r =>
   have hd:(n:Int)<=d:=hd
   have f2:Bk (d::r)=true:=(BN.1 (BJ h)).2.1
   have h2:=((Bq _).1 f2).2.1 d (by simp)
   show (if IntKind.i64.wrap (d-n)<0 then 0 else IntKind.i64.wrap (d-n))=((d.toNat-n:Nat):Int)
   rw[Bc (by omega) (by omega),if_neg (by omega)]
   omega
theorem Bek(n xc xy ax i:Nat)(_:ax<8)(_:i<=65536):CS 32 (.int .i64 ax::.int .i64 i::[.ref 3 xc 0,.ref 1 xy 0]) ⟨[(3,xc,ctO n)],[]⟩ (.int .i64 ((if ax=0 then i+0 else i:Nat):Int)):=by
 have e:(if ax=0 then i+0 else i)=i:=by split<;>rfl
 rw[e]
 exact Bd7 n ax i xc xy (.cells [])
def KZ(a:Nat):Arr:=nmA a
def QbD(a:Nat):Int:=Arr.k (KZ a)
def YI(a:Nat):Nat:=LN (Arr.sh (KZ a))
def QbE(a b:Nat):Int:=GI (Arr.sh (KZ a)) b
def YJ(a:Nat):Nat:=LN (Arr.nu (KZ a))
def QbF(a b:Nat):Int:=GI (Arr.nu (KZ a)) b
def YK(a:Nat):Nat:=LN (Arr.it (KZ a))
def QbG:Prop:=SM N0/\(∀(i:Nat),i<N0->SM (GI [] i)/\True)/\True
def JE(a:Arr):List Int:=Arr.sh a
def QO(a:Arr):Nat:=LN (JE a)
def YL(a:Arr)(b:Nat):Int:=GI (JE a) b
def YM(a:Arr):Nat:=LN (Arr.nu a)
def QbH(a:Arr)(b:Nat):Int:=GI (Arr.nu a) b
def YN(a:Arr):Nat:=LN (Arr.it a)
def YO:Arr:=DA
def YP(a:Arr)(b:Nat):List D:=Arr.row (List.getD (Arr.it a) b YO)
def QbI(a:Arr):Prop:=SM (Arr.k a)/\(SM (QO a)/\(∀(i:Nat),i<QO a->SM (YL a i)/\True)/\True)/\(SM (YM a)/\(∀(i:Nat),i<YM a->SM (QbH a i)/\True)/\True)/\(SM (YN a)/\(∀(i:Nat),i<YN a->wkL (YP a i) (YP a i))/\True)/\True
def QbJ(a:Arr):D:=D.sl N1 (QO a) (fun i=>[ZI (YL a i)]) Mode.any
def QfL(a:Arr):List D:=[QbJ a]
def YQ(a:Nat):Int:=GI [(↑a:Int)] N0
def QbK(a:Nat):Int:=IntKind.wrap IntKind.i64 (Z0-YQ a)
def QbL(a:Arr)(b c:Nat):List D:=BM (fun i=>[ZI (YL a i)]) N0 [ZI (if YQ b<QbK b then QbK b else YQ b)] c
def QbM:Nat:=max (3:Nat) (max (N1+N1) (max (N0+N1) N0))
def QbN(a b:Nat):Nat×AObj:=(a,AObj.cells [D.sl N1 N1 (fun i=>[ZI (GI [(↑b:Int)] i)]) Mode.any])
def YR:D:=D.sl N1 N0 (fun _x=>[]) Mode.nil
def KE(a:Nat)(b:Arr):Arr:=paA a N0 b
def QbO(a:Nat)(b:Arr):Nat:=LN (Arr.sh (KE a b))
def QfM(a:Nat)(b:Arr)(c:Nat):List D:=[ZI (GI (Arr.sh (KE a b)) c)]
def QbP(a:Nat)(b:Arr):Nat:=LN (Arr.nu (KE a b))
def QfN(a:Nat)(b:Arr)(c:Nat):List D:=[ZI (GI (Arr.nu (KE a b)) c)]
def QbQ(a:Nat)(b:Arr):Nat:=LN (Arr.it (KE a b))
def QfO(a:Nat)(b:Arr)(c:Nat):List D:=Arr.row (List.getD (Arr.it (KE a b)) c YO)
theorem Bbc(a : Arr)(n : Nat)(hn : n<=65536)(h : (Bi a).1=0)(ho : a.ok)(hr : a.sh≠[])(hd : (n : Int)<=a.sh.headD 0) :
  CD 13 [.agg (nmA n).row1,.agg a.row1] (.tup [.agg (paA n 0 a).row1,.int .i64 0]):=by
 refine Bp (A:=sC _ _) (x:=()) (E:=Etk a n n 0 32 fun xc xy=>[.ref 3 xc 0,.ref 1 xy 0]) (eOk (Uk hn h ho hr (by omega) (Bek n)) rfl) Try.func13 rfl (by kernel_rfl) rfl (by simp[sC,Etk,EC,E0]) ?_
 refine Bt (T :=
  ∀(x:Nat),True->∀(x_1:Nat),x≠x_1/\True->∀(x_2:Nat),x_1≠x_2/\x≠x_2/\True->SM x/\SM x_1/\∃(x_3:Unit),((SM (QbD n)/\(SM (YI n)/\(∀(i:Nat),i<YI n->SM (QbE n i)/\True)/\True)/\(SM (YJ n)/\(∀(i:Nat),i<YJ n->SM (QbF n i)/\True)/\True)/\(SM (YK n)/\(∀(i:Nat),i<YK n->SM Z0/\QbG/\QbG/\(SM N0/\(∀(i:Nat),i<N0->True)/\True)/\True)/\True)/\True)/\QbI a/\True)/\∀(y:Unit),True->∀(x_4:Nat),x_2≠x_4/\x_1≠x_4/\x≠x_4/\True->SM x_4/\SM x_1/\SM x_1/\(SM (QfL a)/\JE a≠[]/\QO a<=1000000)/\∀(y:Nat×Nat),QO a<=y.2->SM x_4/\True/\Bb (Z0<=Z0/\Z0<(NI (QO a))) (SM y.1/\Bb (N0<QO a) (SM y.1/\SM y.2/\Bb (QO a<=QO a) ((∀(i:Nat),i<QO a->(List.all (QbL a n i) fun (x:D)=>match x with | D.unk=>false | D.agg cs=>false | D.tup ds=>false | x=>true)=true)/\∀(t:Nat),SM x_1/\∃(x_5:Unit),(∃(xc:Nat),∃(xy:Nat),∃(rest:List (Nat×Nat×AObj)),∃(ts:List (Nat×Nat)),(QbI a/\(QO a=LN ((↑n:Int)::List.tail (JE a))/\(∀(i:Nat),i<QO a->wkL (QbL a n i) [ZI (GI ((↑n:Int)::List.tail (JE a)) i)])/\True)/\D.fn (Fn.func (32:Nat)) [] [D.ref QbM x_4 N0,D.ref (max (N0+N1) N0) x_1 N0]=D.fn (Fn.func (32:Nat)) [] [D.ref (3:Nat) xc N0,D.ref N1 xy N0]/\True)/\St.mk [(QbM,QbN x_4 n),(max (N1+N1) (max (N0+N1) N0),x_2,AObj.cells [ZI Z0,YR,YR,YR]),(max (N0+N1) N0,x_1,AObj.cells [ZI (Arr.k a),QbJ a,D.sl N1 (YM a) (fun i=>[ZI (QbH a i)]) Mode.any,D.sl N4 (YN a) (fun i=>YP a i) Mode.any]),(N0,x,AObj.cells [ZI (QbD n),D.sl N1 (YI n) (fun i=>[ZI (QbE n i)]) Mode.any,D.sl N1 (YJ n) (fun i=>[ZI (QbF n i)]) Mode.any,D.sl N4 (YK n) (fun i=>Arr.row YO) Mode.any])] [(N0,t)]=St.mk (((3:Nat),QbN xc n)::rest) ts)/\∀(y:Unit),True->SM x_2/\(SM x_2/\True)/\∃(y:Unit),True/\((SM (Arr.k (KE n a))/\(SM (QbO n a)/\(∀(i:Nat),i<QbO n a->SM (QfM n a i))/\True)/\(SM (QbP n a)/\(∀(i:Nat),i<QbP n a->SM (QfN n a i))/\True)/\(SM (QbQ n a)/\(∀(i:Nat),i<QbQ n a->SM (QfO n a i))/\True)/\True)/\SM Z0/\True)/\True/\True)))) (by kernel_rfl) ?_
 delta DA GI LN N0 N1 N4 NI SM Z0 ZI KZ QbD YL YM QbH YN YO YP QbI QbJ QfL YQ YI QbK QbL QbM QbN YR KE QbO QfM QbP QfN QbE QbQ QfO YJ QbF YK QbG JE QO
 have da:(default:Arr)=Arr.mk 0 [] [] []:=rfl
 simp only[<- da]
 simp only[ne_eq,implies_true,Bd,true_and,and_true,exists_const,forall_const]
 have hpos:0<a.sh.length:=List.length_pos_iff.2 hr
 have h8:=Ba7 h
 have habs:(if [(n:Int)].getD 0 0<IntKind.i64.wrap (0-[(n:Int)].getD 0 0) then IntKind.i64.wrap (0-[(n:Int)].getD 0 0) else [(n:Int)].getD 0 0)=n:=RE hn
 simp only[habs]
 refine fun _ _ _ _ _=>⟨fun _ _=>Bf _,fun _ _=>⟨⟨hr,by omega⟩,fun y _=>⟨⟨by omega,by omega⟩,hpos,Nat.le_refl _,fun i _=>?_,fun t=>⟨_,_,_,_,⟨fun _ _=>Bf _,⟨?_,fun i hi=>?_⟩,rfl⟩,rfl⟩⟩⟩⟩
 ·unfold BM;split<;>rfl
 ·rw[List.length_cons,List.length_tail];omega
 ·rw[EF hr];exact Bf _
theorem Bcu(a : Arr)(n : Nat)(hn : n<=65536)(h : (Bi a).1=0)(ho : a.ok)(hr : a.sh≠[])(hd : (n : Int)<=a.sh.headD 0) :
  CD 13 [.agg (nmA n).row1,.agg a.row1] (.tup [.agg (tkA n a).row1,.int .i64 0]):=by
 have:=Bbc a n hn h ho hr hd
 cases a with
 |mk k s nu it =>
  cases s with
  |nil=>exact (hr rfl).elim
  |cons d r=>rw[Bc3] at this;exact this
def K0(a:Nat):Arr:=nmA a
def QbR(a:Nat):Int:=Arr.k (K0 a)
def YS(a:Nat):Nat:=LN (Arr.sh (K0 a))
def QbS(a b:Nat):Int:=GI (Arr.sh (K0 a)) b
def YT(a:Nat):Nat:=LN (Arr.nu (K0 a))
def QbT(a b:Nat):Int:=GI (Arr.nu (K0 a)) b
def YU(a:Nat):Nat:=LN (Arr.it (K0 a))
def QbU:Prop:=SM N0/\(∀(i:Nat),i<N0->SM (GI [] i)/\True)/\True
def Kn(a:Arr):List Int:=Arr.sh a
def Qz(a:Arr):Nat:=LN (Kn a)
def YV(a:Arr)(b:Nat):Int:=GI (Kn a) b
def YW(a:Arr):Nat:=LN (Arr.nu a)
def QbV(a:Arr)(b:Nat):Int:=GI (Arr.nu a) b
def YX(a:Arr):Nat:=LN (Arr.it a)
def YY:Arr:=DA
def YZ(a:Arr)(b:Nat):List D:=Arr.row (List.getD (Arr.it a) b YY)
def QbW(a:Arr):Prop:=SM (Arr.k a)/\(SM (Qz a)/\(∀(i:Nat),i<Qz a->SM (YV a i)/\True)/\True)/\(SM (YW a)/\(∀(i:Nat),i<YW a->SM (QbV a i)/\True)/\True)/\(SM (YX a)/\(∀(i:Nat),i<YX a->wkL (YZ a i) (YZ a i))/\True)/\True
def QbX(a:Arr):D:=D.sl N1 (Qz a) (fun i=>[ZI (YV a i)]) Mode.any
def QfP(a:Arr):List D:=[QbX a]
def Y0(a:Nat):Int:=GI [(↑a:Int)] N0
def QbY(a:Nat):Int:=IntKind.wrap IntKind.i64 (Z0-Y0 a)
def QbZ(a:Arr)(b:Nat):Int:=IntKind.wrap IntKind.i64 (GI (Kn a) N0-if Y0 b<QbY b then QbY b else Y0 b)
def Qb0(a:Arr)(b c:Nat):List D:=BM (fun i=>[ZI (YV a i)]) N0 [ZI (if QbZ a b<Z0 then Z0 else QbZ a b)] c
def Qb1(a:Arr)(b:Nat):List Int:=(NI (Int.toNat (List.headD (Kn a) Z0)-b))::List.tail (Kn a)
def Qb2:Nat:=max (3:Nat) (max (N1+N1) (max (N0+N1) N0))
def Qb3(a b:Nat):Nat×AObj:=(a,AObj.cells [D.sl N1 N1 (fun i=>[ZI (GI [(↑b:Int)] i)]) Mode.any])
def Y1:D:=D.sl N1 N0 (fun _x=>[]) Mode.nil
def VX(a:Arr)(b:Nat):Arr:=paA (Int.toNat (List.headD (Kn a) Z0)-b) b a
def QfQ(a:Arr)(b:Nat):Int:=Arr.k (VX a b)
def Qb4(a:Arr)(b:Nat):List Int:=Arr.sh (VX a b)
def Qb5(a:Arr)(b:Nat):Nat:=LN (Qb4 a b)
def QfR(a:Arr)(b c:Nat):List D:=[ZI (GI (Qb4 a b) c)]
def Qb6(a:Arr)(b:Nat):List Int:=Arr.nu (VX a b)
def Qb7(a:Arr)(b:Nat):Nat:=LN (Qb6 a b)
def QfS(a:Arr)(b c:Nat):List D:=[ZI (GI (Qb6 a b) c)]
def Qb8(a:Arr)(b:Nat):List Arr:=Arr.it (VX a b)
def Qb9(a:Arr)(b:Nat):Nat:=LN (Qb8 a b)
def QfT(a:Arr)(b c:Nat):List D:=Arr.row (List.getD (Qb8 a b) c YY)
theorem BaS(a : Arr)(n : Nat)(hn : n<=65536)(h : (Bi a).1=0)(ho : a.ok)(hr : a.sh≠[])(hd : (n : Int)<=a.sh.headD 0) :
  CD 15 [.agg (nmA n).row1,.agg a.row1] (.tup [.agg (paA ((a.sh.headD 0).toNat-n) n a).row1,.int .i64 0]):=by
 refine Bp (A:=sC _ _) (x:=()) (E:=Edd a n ((a.sh.headD 0).toNat-n) n 33 fun xc _=>[.ref 3 xc 0]) (eOk (Uk hn h ho hr (by omega) fun xc xy ax i _ hi=>Bee n ax i (by omega) xc) rfl) Try.func15 rfl (by kernel_rfl) rfl (by simp[sC,Edd,EC,E0]) ?_
 refine Bt (T :=
  ∀(x:Nat),True->∀(x_1:Nat),x≠x_1/\True->∀(x_2:Nat),x_1≠x_2/\x≠x_2/\True->SM x/\SM x_1/\∃(x_3:Unit),((SM (QbR n)/\(SM (YS n)/\(∀(i:Nat),i<YS n->SM (QbS n i)/\True)/\True)/\(SM (YT n)/\(∀(i:Nat),i<YT n->SM (QbT n i)/\True)/\True)/\(SM (YU n)/\(∀(i:Nat),i<YU n->SM Z0/\QbU/\QbU/\(SM N0/\(∀(i:Nat),i<N0->True)/\True)/\True)/\True)/\True)/\QbW a/\True)/\∀(y:Unit),True->∀(x_4:Nat),x_2≠x_4/\x_1≠x_4/\x≠x_4/\True->SM x_4/\SM x_1/\SM x_1/\(SM (QfP a)/\Kn a≠[]/\Qz a<=1000000)/\∀(y:Nat×Nat),Qz a<=y.2->SM x_4/\Bb (Z0<=Z0/\Z0<(NI (Qz a))) (SM y.1/\Bb (N0<Qz a) (True/\(SM y.1/\Bb (N0<Qz a) (SM (ZI (GI (Kn a) N0))))/\Bb (Z0<=Z0/\Z0<(NI (Qz a))) (SM y.1/\Bb (N0<Qz a) (SM y.1/\SM y.2/\Bb (Qz a<=Qz a) ((∀(i:Nat),i<Qz a->(List.all (Qb0 a n i) fun (x:D)=>match x with | D.unk=>false | D.agg cs=>false | D.tup ds=>false | x=>true)=true)/\∀(t:Nat),SM x_1/\∃(x_5:Unit),(∃(xc:Nat),∃(xy:Nat),∃(rest:List (Nat×Nat×AObj)),∃(ts:List (Nat×Nat)),(QbW a/\(Qz a=LN (Qb1 a n)/\(∀(i:Nat),i<Qz a->wkL (Qb0 a n i) [ZI (GI (Qb1 a n) i)])/\True)/\D.fn (Fn.func (33:Nat)) [] [D.ref Qb2 x_4 N0]=D.fn (Fn.func (33:Nat)) [] [D.ref (3:Nat) xc N0]/\True)/\St.mk [(Qb2,Qb3 x_4 n),(max (N1+N1) (max (N0+N1) N0),x_2,AObj.cells [ZI Z0,Y1,Y1,Y1]),(max (N0+N1) N0,x_1,AObj.cells [ZI (Arr.k a),QbX a,D.sl N1 (YW a) (fun i=>[ZI (QbV a i)]) Mode.any,D.sl N4 (YX a) (fun i=>YZ a i) Mode.any]),(N0,x,AObj.cells [ZI (QbR n),D.sl N1 (YS n) (fun i=>[ZI (QbS n i)]) Mode.any,D.sl N1 (YT n) (fun i=>[ZI (QbT n i)]) Mode.any,D.sl N4 (YU n) (fun i=>Arr.row YY) Mode.any])] [(N0,t)]=St.mk (((3:Nat),Qb3 xc n)::rest) ts)/\∀(y:Unit),True->SM x_2/\(SM x_2/\True)/\∃(y:Unit),True/\((SM (QfQ a n)/\(SM (Qb5 a n)/\(∀(i:Nat),i<Qb5 a n->SM (QfR a n i))/\True)/\(SM (Qb7 a n)/\(∀(i:Nat),i<Qb7 a n->SM (QfS a n i))/\True)/\(SM (Qb9 a n)/\(∀(i:Nat),i<Qb9 a n->SM (QfT a n i))/\True)/\True)/\SM Z0/\True)/\True/\True)))))) (by kernel_rfl) ?_
 delta DA GI LN N0 N1 N4 NI SM Z0 ZI K0 QbR YS QbS YT QbT YU QbU Kn Qz YV YW QbV YX YY YZ QbW QbX QfP Y0 QbY QbZ Qb0 Qb1 Qb2 Qb3 Y1 VX QfQ Qb4 Qb5 QfR Qb6 Qb7 QfS Qb8 Qb9 QfT
 have da:(default:Arr)=Arr.mk 0 [] [] []:=rfl
 simp only[<- da]
 simp only[ne_eq,implies_true,Bd,true_and,and_true,exists_const,forall_const]
 have hpos:0<a.sh.length:=List.length_pos_iff.2 hr
 have h8:=Ba7 h
 have habs:(if [(n:Int)].getD 0 0<IntKind.i64.wrap (0-[(n:Int)].getD 0 0) then IntKind.i64.wrap (0-[(n:Int)].getD 0 0) else [(n:Int)].getD 0 0)=n:=RE hn
 simp only[habs]
 have hdd:(if IntKind.i64.wrap (a.sh.getD 0 0-n)<0 then 0 else IntKind.i64.wrap (a.sh.getD 0 0-n))=(((a.sh.headD 0).toNat-n:Nat):Int):=Bbg h hr hd
 simp only[hdd]
 refine fun _ _ _ _ _=>⟨fun _ _=>Bf _,fun _ _=>⟨⟨hr,by omega⟩,fun y _=>⟨⟨by omega,by omega⟩,hpos,hpos,⟨by omega,by omega⟩,hpos,Nat.le_refl _,fun i _=>?_,fun t=>⟨_,_,_,⟨fun _ _=>Bf _,⟨?_,fun i hi=>?_⟩,rfl⟩,rfl⟩⟩⟩⟩
 ·unfold BM;split<;>rfl
 ·rw[List.length_cons,List.length_tail];omega
 ·rw[EF hr];exact Bf _
theorem BcS(a : Arr)(n : Nat)(hn : n<=65536)(h : (Bi a).1=0)(ho : a.ok)(hr : a.sh≠[])(hd : (n : Int)<=a.sh.headD 0) :
  CD 15 [.agg (nmA n).row1,.agg a.row1] (.tup [.agg (drA n a).row1,.int .i64 0]):=by
 have:=BaS a n hn h ho hr hd
 cases a with
 |mk k s nu it =>
  cases s with
  |nil=>exact (hr rfl).elim
  |cons d r=>rw[show ((Arr.mk k (d::r) nu it).sh.headD 0).toNat=d.toNat from rfl,Bdi h hd] at this;exact this
def mxV(s:List Int)(src:Nat->Nat->Nat)(m j i:Nat):Nat:=if i<j then src i ((BL (shN s) m).getD i 0) else (BL (shN s) m).getD i 0
def mxR(s:List Int)(src:Nat->Nat->Nat)(m j:Nat):Nat->List D:=fun i=>[.int .i64 (mxV s src m j i:Nat)]
def Tu(s:List Int)(src:Nat->Nat->Nat)(m:Nat):List Nat:=(List.range s.length).map fun i=>src i ((BL (shN s) m).getD i 0)
def Bcf(a:Arr)(src:Nat->Nat->Nat)(T:Nat->Nat)(cl:Nat)(cap:List D)(os:List (Nat×Nat×AObj)):Con:=fun k ds S=>match ds with
 |.int _ ax::.int _ i::_=>some (pA ds S (.int .i64 (src ax.toNat i.toNat:Nat)) (k=cl/\∃ax' i':Nat,ax'<a.sh.length/\i'<(shN a.sh).getD ax' 0/\ds=.int .i64 ax'::.int .i64 i'::cap/\ax=ax'/\i=i'/\∃pre ts,S=⟨pre++os,ts⟩))
 |.sl _ _ _ _::.int _ m::_=>match k with
  |47=>some ((sIx (BG S.objs) a.sh m.toNat).fits () (ds=[isl a.sh .any,.int .i64 (m.toNat:Nat)]))
  |_=>none
 |.sl _ _ _ _::.sl _ _ _ _::_=>match k with
  |48=>some (pE (β:=Nat) ds S (fun m=>.tup [.int .i64 (T m:Nat),.bool true]) (fun m=>m<prL (shN a.sh)/\wkL ds [isl a.sh .any,isl (MA (Tu a.sh src m)) .any]))
  |_=>none
 |_=>match k with
  |29=>some ((sCi 4 a.sh).fits () (ds=[isl a.sh .any]))
  |46=>some (pA ds S (.int .i64 (prL (shN a.sh):Nat)) (wkL ds [isl a.sh .any]/\Bk a.sh=true))
  |49=>some (pE (β:=Arr) ds S (fun b=>.agg b.row1) (fun b=>ds=[.agg b.row]/\(Bi b).1=0))
  |_=>none
theorem UQ{s:List Int}{src:Nat->Nat->Nat}{m i:Nat}(hi:i<s.length):(Tu s src m).getD i 0=src i ((BL (shN s) m).getD i 0):=by
 unfold Tu
 rw[List.getD_eq_getElem?_getD,List.getElem?_map,List.getElem?_range hi];rfl
theorem Ba8{a : Arr}{src : Nat -> Nat -> Nat}{T : Nat -> Nat}{cl : Nat}{cap : List D}{os : List (Nat×Nat×AObj)}(h : BH a a.sh src T)
  (hcl:∀ax i:Nat,ax<a.sh.length->i<(shN a.sh).getD ax 0->CS cl (.int .i64 ax::.int .i64 i::cap) ⟨os,[]⟩ (.int .i64 (src ax i:Nat))):ConOk Try.prog (Bcf a src T cl cap os):=by
 intro k ds S A hh
 unfold Bcf at hh
 split at hh
 ·injection hh with hh;subst hh
  refine BB ?_
  rintro ⟨rfl,ax,i,h1,h2,e,rfl,rfl,pre,ts,rfl⟩
  rw[e]
  simp only[Int.toNat_natCast]
  exact (hcl ax i h1 h2).behind
 ·split at hh
  ·injection hh with hh;subst hh
   exact FnSpec.fits_ok (fun _ hy=>Bec _ _ _ hy) fun e=>by rw[e];exact⟨Bl _,Gp S⟩
  ·cases hh
 ·split at hh
  ·injection hh with hh;subst hh
   refine Es fun m ⟨hm,e⟩=>CD.at_ (CD.wk ?_ e) _
   have hsl:(shN a.sh).length=a.sh.length:=CP a.sh
   have hg:∀i,i<a.sh.length->(Tu a.sh src m).getD i 0=src i ((BL (shN a.sh) m).getD i 0):=fun i hi=>UQ hi
   have:=Bed a.sh (Tu a.sh src m) h.hy (by simp[Tu]) (by omega) fun j hj=>by rw[hg j hj];exact h.hd m hm j hj
   rw[G6 (g:=fun j=>src j ((BL (shN a.sh) m).getD j 0)) _ hg,h.ht m hm] at this
   exact this
  ·cases hh
 ·split at hh
  ·injection hh with hh;subst hh
   exact FnSpec.fits_ok (fun _ hy=>Ro _ _ hy) fun e=>by subst e;exact⟨Bl _,Gp S⟩
  ·injection hh with hh;subst hh
   refine BB fun ⟨e,hs⟩=>CD.at_ (CD.wk ?_ e) _
   have:=I8 a.sh hs
   rw[Gr hs] at this
   exact this
  ·injection hh with hh;subst hh
   refine Es fun b ⟨e,hb⟩=>CD.at_ ?_ _
   rw[e]
   refine CD.wk (us:=[.agg b.row1]) ?_ ?_
   ·exact (O6 b hb).mono fun _ _ ⟨y,q1,q2,q3⟩=>⟨(),trivial,q2,q3⟩
   ·simp only[wkL,wkD]
    exact⟨M2 b,trivial⟩
  ·cases hh
noncomputable def Erb(a:Arr)(src:Nat->Nat->Nat)(T:Nat->Nat)(cl:Nat)(cap:List D)(os:List (Nat×Nat×AObj)):Senv:={ EC (Bcf a src T cl cap os) 80 3 [4,5,6,7,8,9,10,11,12,21,22,23,32,33,34,35,56] (fun id=>match id with | 1=>([0,1,2,3,4,5,6,7],[4,6,7]) | 13=>([0,1,2,3,4,5,6,7,8,9,10,11],[7,8,9,11]) | 14=>([0,1,2,3,4,5,6,7,8,9,10],[7,8,10]) | _=>([],[])) with
 gz:=fun r=>match r with
  |2=>[.cell 10 101]
  |11=>[.slot 7]
  |_=>[]
 gh:=fun b=>match b with
  |0=>[.cell 10 102,.cell 10 403]
  |_=>[]
 cut:=fun id _ S=>match id with
  |1=>some { slots:=[5],keep:=[],α:=Nat×Nat×Nat,st:=fun y=>([.ref 10 y.2.2 0],⟨[(10,y.2.2,.cells [.int .i64 a.k,.vs 4 y.1 a.sh.length y.2.1 1,.sl 1 0 (fun _=>[]) .nil,.sl 1 0 (fun _=>[]) .nil]),(4,y.1,.vec 1 a.sh.length y.2.1 (fun i=>[.int .i64 (a.sh.getD i 0)]))]++S.objs,[]⟩),inv:=fun _=>True,mu:=fun _=>0 }
  |_=>none
 ann:=fun b env S=>match b with
  |0=>match Ab.look env 5 with
   |.ref k5 _ _=>some
    { slots:=[22],keep:=[1,2,4,5,21],α:=Nat×Nat×Nat,st:=fun y=>([.int .i64 y.1],⟨Ef S.objs k5 (.cells [.int .i64 a.k,isl a.sh .any,.sl 1 (cN a y.1) (nuR a T) (.tok 1 y.2.1),.sl 4 (cI a y.1) (fun i=>(itA a T i).row1) (.tok 2 y.2.2)]),[(1,y.2.1),(2,y.2.2)]⟩),inv:=fun y=>y.1<=prL (shN a.sh),mu:=fun y=>prL (shN a.sh)-y.1 }
   |_=>none
  |2=>match Ab.look env 22,Ab.look env 32 with
   |.int _ m,.vs k7 _ n c _=>some { slots:=[34],keep:=[1,2,4,5,6,7,21,22,32,33],α:=Nat,st:=fun j=>([.int .i64 j],⟨Ef S.objs k7 (.vec 1 n c (mxR a.sh src m.toNat j)),S.toks⟩),inv:=fun j=>j<=a.sh.length,mu:=fun j=>a.sh.length-j }
   |_,_=>none
  |_=>none }
def Qs(a:Arr):List Int:=Arr.sh a
def Qj(a:Arr):Nat:=LN (Qs a)
def Qca(a:Arr)(b:Nat):Int:=GI (Qs a) b
def VY(a:Arr)(b:Nat):List D:=[ZI (Qca a b)]
def K1(a:Arr):D:=D.sl N1 (Qj a) (fun i=>VY a i) Mode.any
def QfU(a:Arr):List D:=[K1 a]
def Qcb(a:Arr):Prop:=SM (QfU a)/\Qs a≠[]/\Qj a<=1000000
def VZ(a:Arr):Int:=Arr.k a
def Y2(a:Arr):D:=ZI (VZ a)
def Y3(a:Nat)(b:Arr):Prop:=SM a/\SM (Y2 b)
def K4(a:Arr):Prop:=SM (VZ a)
def K5(a:Arr):Prop:=SM (Qj a)
def Y4:Prop:=SM N0/\(∀(i:Nat),i<N0->EY (List D) [] [])/\True
def Qcc:Prop:=Y4/\Y4/\True
def Kb(a:Nat)(b:Arr):Prop:=a<Qj b
def Qcd(a:Arr):Prop:=∀(i:Nat),Kb i a->SM (VY a i)
def JF(a:Arr):Prop:=K5 a/\Qcd a/\True
def V0(a:Arr):Nat:=LN (Arr.nu a)
def Qce(a:Arr)(b:Nat):List D:=[ZI (GI (Arr.nu a) b)]
def V1(a:Arr):Nat:=LN (Arr.it a)
def JG:Arr:=DA
def Qcf(a:Arr)(b:Nat):List D:=Arr.row (List.getD (Arr.it a) b JG)
def JH(a b:Nat)(c:Arr)(d:Nat)(e:List D)(f:Nat)(g:List D):Prop:=SM a/\(SM Z0/\Y4/\Qcc)/\SM b/\(K4 c/\JF c/\(SM (V0 c)/\(∀(i:Nat),i<V0 c->SM (Qce c i))/\True)/\(SM (V1 c)/\(∀(i:Nat),i<V1 c->SM (Qcf c i))/\True)/\True)/\SM d/\Bo e e/\SM f/\Bo g g/\True
def Qcg(a:Nat)(b:Arr)(c d e f g:Nat)(h:List D)(k:Nat)(l:List D):Prop:=Y3 a b/\SM c/\∃(x:Nat×Nat×Nat),True/\(c=x.2.2/\True)/\(c=x.2.2/\(K4 b/\(d=x.1/\K5 b/\e=x.2.1)/\Qcc)/\d=x.1/\(K5 b/\e=x.2.1/\Qcd b)/\JH f a b g h k l)/\True
def Qch(a:D):Bool:=match a with | D.unk=>false | D.agg _cs=>false | D.tup _ds=>false | _x=>true
def Qci(a:Arr):Prop:=K5 a/\(∀(i:Nat),Kb i a->SM (Qca a i)/\True)/\True
def Qcj(a:Arr):Prop:=Bk (Qs a)=true
def JI(a:Arr):Nat:=prL (shN (Qs a))
def V2(a:Nat)(b:Arr):Prop:=a<=JI b
def QW(a:Arr)(b:Nat):Nat:=cN a b
def QX(a:Arr)(b:Nat):Nat:=cI a b
def K6(a:Arr)(b:Nat->Nat)(c:Nat):List D:=[ZI (Arr.k (itA a b c)),SI (Arr.sh (itA a b c)),SI (Arr.nu (itA a b c)),D.sl N4 (LN (Arr.it (itA a b c))) (fun i=>Arr.row (List.getD (Arr.it (itA a b c)) i JG)) Mode.any]
def Qck(a:Arr):Int:=(NI (JI a))
def QI(a:Nat):Nat:=Int.toNat (↑a:Int)
def Y5(a:Arr)(b:Nat->Nat->Nat)(c d e:Nat):List D:=mxR (Qs a) b (QI c) d e
def Qcl(a:Arr)(b:Nat)(c:Nat->Nat):Prop:=∀(i:Nat),i<QW a b->SM (nuR a c i)
def Qcm(a:Arr)(b:Nat)(c:Nat->Nat):Prop:=∀(i:Nat),i<QX a b->SM (K6 a c i)
def Qcn(a:Nat)(b:Arr)(c:Nat)(d:Nat->Nat)(e f g h k:Nat)(l:List D)(m:Nat)(n:List D):Prop:=SM a/\(K4 b/\JF b/\(SM (QW b c)/\Qcl b c d/\SM e)/\(SM (QX b c)/\Qcm b c d/\SM f)/\True)/\JH g h b k l m n
def V3(a:Arr):Int:=(NI (Qj a))
def Y6(a:Arr)(b:Nat->Nat->Nat)(c d:Nat):Int:=(NI (mxV (Qs a) b (QI c) d (QI d)))
def Qco:Nat:=max ((10:Nat)+N1) (max N4 (max (N2+N1) N2))
def Qcp(a:Arr)(b:Nat)(c:Nat->Nat)(d:Nat):D:=D.sl N1 (QW a b) (nuR a c) (Mode.tok N1 d)
def Qcq(a:Arr)(b:Nat)(c:Nat->Nat)(d:Nat):D:=D.sl N4 (QX a b) (fun i=>K6 a c i) (Mode.tok N2 d)
def Y7:D:=D.sl N1 N0 (fun _x=>[]) Mode.nil
def Qcr(a:Arr):List D:=[Y2 a,K1 a,D.sl N1 (V0 a) (fun i=>Qce a i) Mode.any,D.sl N4 (V1 a) (fun i=>Qcf a i) Mode.any]
def Qcs(a:Nat):Prop:=SM (D.ref (max (N2+N1) N2) a N0)
def QfV(a:Nat)(b:Arr)(c:Nat):D:=D.vs Qco a (Qj b) c N1
def Qct(a:Nat)(b:Arr)(c:Nat):Prop:=SM (QfV a b c)
def QfW(a:Arr):D:=ZI (Qck a)
def Qcu(a:Arr):Prop:=SM (QfW a)
def Y8(a b:Nat):Prop:=IntKind.wrap IntKind.i64 ((↑a:Int)+Z1)=(↑b:Int)/\True
def Qcv(a:Arr)(b:Nat->Nat)(c:Nat):List D:=Arr.row (List.getD (Arr.it a) (TN (b c)) JG)
def Qcw(a:Nat)(b:Arr)(c:Nat)(d:Nat->Nat)(e:Nat):Prop:=SM a/\SM (Qcq b c d e)
def V4(a:Arr)(b:Nat):Nat:=QX a b+N1
def Qcx(a:Nat)(b:List D)(c d e:Nat)(f:Arr):Prop:=SM (D.fn (Fn.func a) [] b)/\SM (D.ref N2 c N0)/\Qcs d/\SM (D.ref (10:Nat) e N0)/\Qcu f/\True
def Qcy(a:Arr)(b:Nat):Nat:=JI a-b
def Qcz(a:Arr)(b c:Nat):Prop:=Qcy a b<Qcy a c
def V5(a:Arr)(b:Nat):Nat:=QW a b+N1
def V6(a:Arr)(b:Nat->Nat):Arr:=E9 a (Qs a) b
def QcA(a:Arr)(b:Nat->Nat):List Int:=Arr.sh (V6 a b)
def QcB(a:Arr)(b:Nat->Nat):List Int:=Arr.nu (V6 a b)
def QcC(a:Arr)(b:Nat->Nat):List Arr:=Arr.it (V6 a b)
def V7(a:Arr)(b:Nat->Nat)(c:Nat):Arr:=List.getD (QcC a b) c JG
def QfX(a:Arr)(b:Nat->Nat)(c:Nat):List Int:=Arr.sh (V7 a b c)
def QfY(a:Arr)(b:Nat->Nat)(c:Nat):List Int:=Arr.nu (V7 a b c)
def QcD(a:Arr)(b:Nat->Nat)(c:Nat):List Arr:=Arr.it (V7 a b c)
theorem BdH(a : Arr)(src : Nat -> Nat -> Nat)(T : Nat -> Nat)(cl : Nat)(cap : List D)(p q : Nat)(d1 d0 : List D)(h : BH a a.sh src T)(hr : a.sh≠[])(hcl : ∀ax i : Nat, ax<a.sh.length -> i<(shN a.sh).getD ax 0 -> CS cl (.int .i64 ax::.int .i64 i::cap) ⟨[(1, p, .cells d1), (0, q, .cells d0)], []⟩ (.int .i64 (src ax i : Nat))) :
  CS 22 [.agg a.row1,.fn (.func cl) [] cap] ⟨[(1,p,.cells d1),(0,q,.cells d0)],[]⟩ (.agg (E9 a a.sh T).row2):=by
 refine CS.of (Bp (A:=sS _ _ _) (x:=()) (E:=Erb a src T cl cap [(1,p,.cells d1),(0,q,.cells d0)]) (eOk (Ba8 h hcl) rfl) Try.func22 rfl (by kernel_rfl) rfl (by simp[sS,Erb,EC,E0]) ?_)
 refine Bt (T :=
  ∀(x:Nat),p≠x/\q≠x/\True->∀(x_1:Nat),x≠x_1/\p≠x_1/\q≠x_1/\True->(SM x/\SM x/\(Qcb a/\∀(y:Nat×Nat),Qj a<=y.2->Y3 x a/\∀(x_2:Nat),y.1≠x_2/\x_1≠x_2/\x≠x_2/\p≠x_2/\q≠x_2/\True->Qcg x a x_2 y.1 y.2 x_1 p d1 q d0)/\∀(x_2:Nat),x_1≠x_2/\x≠x_2/\p≠x_2/\q≠x_2/\True->(SM x/\SM (K1 a))/\Y3 x a/\Qcb a/\∀(y:Nat×Nat),Qj a<=y.2->Qcg x a x_2 y.1 y.2 x_1 p d1 q d0)/\∀(x_2:Nat×Nat×Nat),True->SM x_2.1/\SM x_2.2.1/\Bb (Qj a<=Qj a) ((∀(i:Nat),Kb i a->(List.all (VY a i) fun (x:D)=>Qch x)=true)/\∀(t:Nat),SM x/\∃(x_3:Unit),((Qci a/\True)/\Qcj a)/\∀(y:Unit),True->∀(t t_1:Nat),(∃(x_4:Nat×Nat×Nat),V2 x_4.1 a/\(Z0=(NI x_4.1)/\True)/\(SM x_2.2.2/\(K4 a/\JF a/\(N0=QW a x_4.1/\(∀(i:Nat),i<N0->EY (List D) [] (nuR a T i))/\t=x_4.2.1)/\(N0=QX a x_4.1/\(∀(i:Nat),i<N0->EY (List D) [] (K6 a T i))/\t_1=x_4.2.2)/\True)/\JH x_1 x a p d1 q d0)/\t=x_4.2.1/\t_1=x_4.2.2/\True)/\∀(x_4:Nat×Nat×Nat),V2 x_4.1 a->ifB (decide ((NI x_4.1)<Qck a)) (SM x/\([K1 a,ZI (NI x_4.1)]=[K1 a,ZI (NI (QI x_4.1))]/\Qs a≠[]/\Qcj a/\QI x_4.1<JI a)/\∀(y:Nat×Nat),Qj a<=y.2->(∃(x_5:Nat),x_5<=Qj a/\(Z0=(↑x_5:Int)/\True)/\(SM y.1/\(K5 a/\SM y.2/\∀(i:Nat),Kb i a->dgR (Qs a) (QI x_4.1) i=Y5 a src x_4.1 x_5 i)/\Qcn x_2.2.2 a x_4.1 T x_4.2.1 x_4.2.2 x_1 x p d1 q d0)/\SM x_4.2.1/\SM x_4.2.2/\True)/\∀(x_5:Nat),x_5<=Qj a->ifB (decide ((↑x_5:Int)<V3 a)) (Bb (Z0<=(↑x_5:Int)/\(↑x_5:Int)<V3 a) (SM y.1/\Bb (QI x_5<Qj a) (∃(x_6:Unit),(SM cl/\∃(ax':Nat),∃(i':Nat),Kb ax' a/\i'<List.getD (shN (Qs a)) ax' N0/\ZI (↑x_5:Int)::ZI (Y6 a src x_4.1 x_5)::List.append [] cap=ZI (↑ax':Int)::ZI (↑i':Int)::cap/\(↑x_5:Int)=(↑ax':Int)/\Y6 a src x_4.1 x_5=(↑i':Int)/\∃(pre:List (Nat×Nat×AObj)),∃(ts:List (Nat×Nat)),St.mk [(Qco,y.1,AObj.vec N1 (Qj a) y.2 (mxR (Qs a) src (QI x_4.1) x_5)),((10:Nat),x_2.2.2,AObj.cells [Y2 a,K1 a,Qcp a x_4.1 T x_4.2.1,Qcq a x_4.1 T x_4.2.2]),(max (N2+N1) N2,x_1,AObj.cells [ZI Z0,Y7,Y7,Y7]),(N2,x,AObj.cells (Qcr a)),(N1,p,AObj.cells d1),(N0,q,AObj.cells d0)] [(N1,x_4.2.1),(N2,x_4.2.2)]=St.mk (pre++[(N1,p,AObj.cells d1),(N0,q,AObj.cells d0)]) ts)/\∀(y_1:Unit),True->Bb (Z0<=(↑x_5:Int)/\(↑x_5:Int)<V3 a) (SM y.1/\Bb (QI x_5<Qj a) ((SM (D.fn (Fn.func cl) [] cap)/\SM (D.ref N2 x N0)/\Qcs x_1/\SM (D.ref (10:Nat) x_2.2.2 N0)/\SM (ZI (NI x_4.1))/\Qct y.1 a y.2/\Qcu a/\SM (ZI (NI x_4.1))/\Qct y.1 a y.2/\SM (ZI (V3 a))/\True)/\∃(y_2:Nat),y_2<=Qj a/\Qj a-y_2<Qj a-x_5/\Y8 x_5 y_2/\(SM y.1/\(K5 a/\SM y.2/\∀(i:Nat),Kb i a->BM (mxR (Qs a) src (QI x_4.1) x_5) (QI x_5) [ZI (NI (src (QI x_5) (Int.toNat (Y6 a src x_4.1 x_5))))] i=Y5 a src x_4.1 y_2 i)/\Qcn x_2.2.2 a x_4.1 T x_4.2.1 x_4.2.2 x_1 x p d1 q d0)/\SM x_4.2.1/\SM x_4.2.2/\True))))) (SM y.1/\SM y.2/\Bb (Qj a<=Qj a) ((∀(i:Nat),Kb i a->(List.all (Y5 a src x_4.1 x_5 i) fun (x:D)=>Qch x)=true)/\∀(t:Nat),SM x/\∃(x_6:Nat),(x_6<JI a/\Qci a/\(Qj a=LN (MA (Tu (Qs a) src x_6))/\(∀(i:Nat),Kb i a->(NI (mxV (Qs a) src (QI x_4.1) x_5 i))=GI (MA (Tu (Qs a) src x_6)) i/\True)/\True)/\True)/\∀(y:Unit),True->SM x/\ifB (VZ a==3) (SM x_2.2.2/\SM x/\Bb (Z0<=(NI (T x_6))/\(NI (T x_6))<(NI (V1 a))) (Bb (N4<=LN (Qcv a T x_6)) (∃(x_7:Arr),([D.agg (List.take N4 (List.drop N0 (Qcv a T x_6)))]=[D.agg (Arr.row x_7)]/\Prod.fst (Bi x_7)=Z0)/\∀(y:Unit),True->Qcw x_2.2.2 a x_4.1 T x_4.2.2/\Qcw x_2.2.2 a x_4.1 T x_4.2.2/\SM x_4.2.2/\Bb (V4 a x_4.1*80<=140737488355328/\V4 a x_4.1<=9223372036854775807) (∀(t:Nat),SM x_2.2.2/\Qcx cl cap x x_1 x_2.2.2 a/\∃(y:Nat×Nat×Nat),V2 y.1 a/\Qcz a y.1 x_4.1/\Y8 x_4.1 y.1/\(SM x_2.2.2/\(K4 a/\JF a/\(QW a x_4.1=QW a y.1/\Qcl a x_4.1 T/\x_4.2.1=y.2.1)/\(V4 a x_4.1=QX a y.1/\(∀(i:Nat),i<V4 a x_4.1->By (QX a x_4.1) (fun i=>K6 a T i) (fun i=>List.getD [Qcr x_7] i []) i=K6 a T i)/\t=y.2.2)/\True)/\JH x_1 x a p d1 q d0)/\x_4.2.1=y.2.1/\t=y.2.2/\True)))) (SM x_2.2.2/\SM x/\Bb (Z0<=(NI (T x_6))/\(NI (T x_6))<(NI (V0 a))) ((SM x_2.2.2/\SM (Qcp a x_4.1 T x_4.2.1))/\SM x_4.2.1/\Bb (V5 a x_4.1*8<=140737488355328/\V5 a x_4.1<=9223372036854775807) (∀(t:Nat),SM x_2.2.2/\Qcx cl cap x x_1 x_2.2.2 a/\∃(y:Nat×Nat×Nat),V2 y.1 a/\Qcz a y.1 x_4.1/\Y8 x_4.1 y.1/\(SM x_2.2.2/\(K4 a/\JF a/\(V5 a x_4.1=QW a y.1/\(∀(i:Nat),i<V5 a x_4.1->By (QW a x_4.1) (nuR a T) (fun i=>List.getD [[ZI (GI (Arr.nu a) (TN (T x_6)))]] i []) i=nuR a T i)/\t=y.2.1)/\(QX a x_4.1=QX a y.1/\Qcm a x_4.1 T/\x_4.2.2=y.2.2)/\True)/\JH x_1 x a p d1 q d0)/\t=y.2.1/\x_4.2.2=y.2.2/\True)))))) (SM x_2.2.2/\SM x_1/\(SM x_1/\True)/\∃(y:Unit),True/\(VZ a=Arr.k (V6 a T)/\(Qj a=LN (QcA a T)/\(∀(i:Nat),Kb i a->VY a i=[ZI (GI (QcA a T) i)])/\True)/\(QW a x_4.1=LN (QcB a T)/\(∀(i:Nat),i<QW a x_4.1->nuR a T i=[ZI (GI (QcB a T) i)])/\True)/\(QX a x_4.1=LN (QcC a T)/\(∀(i:Nat),i<QX a x_4.1->K6 a T i=[ZI (Arr.k (V7 a T i)),SI (QfX a T i),SI (QfY a T i),D.sl N4 (LN (QcD a T i)) (fun i_1=>Arr.row (List.getD (QcD a T i) i_1 JG)) Mode.any])/\True)/\True)/\(SM p/\Bo d1 d1/\SM q/\Bo d0 d0/\True)/\True))) (by kernel_rfl) ?_
 delta DA GI LN N0 N1 N2 N4 NI SI SM TN Z0 Z1 ZI Qs Qj K4 K5 Y4 Qcc Kb Qcd JF V0 Qce V1 Qca JG Qcf JH Qcg Qch Qci Qcj JI V2 QW VY QX K6 Qck QI Y5 Qcl Qcm Qcn V3 Y6 K1 Qco Qcp Qcq Y7 Qcr Qcs QfV Qct QfW Qcu QfU Y8 Qcv Qcw V4 Qcx Qcy Qcz V5 V6 QcA Qcb QcB QcC V7 QfX QfY QcD VZ Y2 Y3
 have da:(default:Arr)=Arr.mk 0 [] [] []:=rfl
 simp only[<- da]
 simp only[eq_self,ne_eq,implies_true,Bl,Int.toNat_natCast,Bn,Bd,decide_eq_true_eq,decide_eq_false_iff_not,true_and,and_true,beq_iff_eq,beq_eq_false_iff_ne,exists_const,forall_const,Prod.exists]
 have hpos:0<a.sh.length:=List.length_pos_iff.2 hr
 have h8:=h.h8
 have hP:=IR h.hy
 have hsl:(shN a.sh).length=a.sh.length:=CP a.sh
 intro x _ x1 _
 refine⟨⟨⟨⟨hr,by omega⟩,fun y _ x2 _=>⟨_,_,_,rfl,rfl,⟨rfl,rfl⟩,rfl,rfl⟩⟩,fun x2 _=>⟨⟨hr,by omega⟩,fun y _=>⟨_,_,_,rfl,rfl,⟨rfl,rfl⟩,rfl,rfl⟩⟩⟩,fun z=>⟨Nat.le_refl _,fun i _=>rfl,h.hy,fun t t1=>⟨⟨0,t,t1,Nat.zero_le _,rfl,⟨⟨by simp[cN],fun i hi=>absurd hi (by omega),rfl⟩,by simp[cI],fun i hi=>absurd hi (by omega),rfl⟩,rfl,rfl⟩,?_⟩⟩⟩
 rintro ⟨m,u,v⟩ hm
 dsimp only
 refine⟨fun hlt=>?_,fun hge=>?_⟩
 ·have hlt:m<prL (shN a.sh):=by simpa using hlt
  refine⟨⟨hr,h.hy,hlt⟩,fun y _=>⟨⟨0,Nat.zero_le _,rfl,fun i _=>rfl⟩,fun j hj=>⟨fun hj2=>?_,fun hj2=>?_⟩⟩⟩
  ·have hj2:j<a.sh.length:=by omega
   have e:mxV a.sh src m j j=(BL (shN a.sh) m).getD j 0:=if_neg (Nat.lt_irrefl j)
   simp only[e]
   refine⟨⟨by omega,by omega⟩,hj2,⟨j,_,hj2,Ir m (by omega) (by omega),rfl,rfl,rfl,[_,_,_,_],_,rfl⟩,⟨by omega,by omega⟩,hj2,j+1,by omega,by omega,Bc (by omega) (by omega),fun i _=>?_⟩
   unfold BM mxR mxV
   by_cases e1:i=j
   ·subst e1;rw[if_pos rfl,if_pos (Nat.lt_succ_self i)]
   ·rw[if_neg e1]
    by_cases e2:i<j
    ·rw[if_pos e2,if_pos (by omega)]
    ·rw[if_neg e2,if_neg (by omega)]
  ·obtain rfl:j=a.sh.length:=by omega
   have hT:=h.hT m hlt
   refine⟨Nat.le_refl _,fun _ _=>rfl,m,⟨hlt,by rw[Ui];simp[Tu],fun i hi=>?_⟩,fun hk=>?_,fun hk=>?_⟩
   ·rw[UU,UQ hi];unfold mxV;rw[if_pos hi]
   ·rw[if_pos hk] at hT
    have hc:cI a m=m:=if_pos hk
    refine⟨⟨by omega,by omega⟩,Nat.le_of_eq (Ic _).symm,itA a T m,⟨?_,h.hit _ (CC hT)⟩,⟨by omega,by omega⟩,fun w=>⟨m+1,u,w,by omega,by omega,Bc (by omega) (by omega),⟨⟨by simp[cN,hk],rfl⟩,by simp[cI,hk],fun i hi=>?_,rfl⟩,rfl,rfl⟩⟩
    ·rw[List.drop_zero,List.take_of_length_le (Nat.le_of_eq (Ic _))];rfl
    ·rw[hc] at hi ⊢
     unfold By
     by_cases ei:i<m
     ·rw[if_pos ei]
     ·obtain rfl:i=m:=by omega
      rw[if_neg ei,Nat.sub_self];rfl
   ·rw[if_neg hk] at hT
    have hc:cN a m=m:=if_neg hk
    refine⟨⟨by omega,by omega⟩,⟨by omega,by omega⟩,fun w=>⟨m+1,w,v,by omega,by omega,Bc (by omega) (by omega),⟨⟨by simp[cN,hk],fun i hi=>?_,rfl⟩,by simp[cI,hk],rfl⟩,rfl,rfl⟩⟩
    rw[hc] at hi ⊢
    unfold By
    by_cases ei:i<m
    ·rw[if_pos ei]
    ·obtain rfl:i=m:=by omega
     rw[if_neg ei,Nat.sub_self];rfl
 ·obtain rfl:m=prL (shN a.sh):=by simp only at hge hm;omega
  exact⟨rfl,⟨rfl,fun _ _=>rfl⟩,⟨Ws,fun i hi=>by rw[Wa hi];rfl⟩,Ww,fun i hi=>by rw[Wq hi]⟩
theorem Beo(a : Arr)(src : Nat -> Nat -> Nat)(T : Nat -> Nat)(cl : Nat)(cap : List D)(p q : Nat)(d1 d0 : List D)(h : BH a a.sh src T)(hr : a.sh≠[])(hcl : ∀ax i : Nat, ax<a.sh.length -> i<(shN a.sh).getD ax 0 -> CS cl (.int .i64 ax::.int .i64 i::cap) ⟨[(1, p, .cells d1), (0, q, .cells d0)], []⟩ (.int .i64 (src ax i : Nat))) :
  CS 22 [.agg a.row1,.fn (.func cl) [] cap] ⟨[(1,p,.cells d1),(0,q,.cells d0)],[]⟩ (.agg (E9 a a.sh T).row1) :=
 (BdH a src T cl cap p q d1 d0 h hr hcl).res (IQ _)
def Ov(n d ax i:Nat):Nat:=if ax=0 then (i+n % d+d) % d else i
def Oo(n d R m:Nat):Nat:=(m / R+n % d+d) % d*R+m % R
theorem UG{d:Int}{r:List Int}(n:Nat)(hn:(n:Int)<=d){α:Type}(l:List α)(z:α)(hl:l.length=d.toNat*prL (shN r)):(List.range (d.toNat*prL (shN r))).map (fun m=>l.getD (Oo n d.toNat (prL (shN r)) m) z)=l.drop (n*prL (shN r))++l.take (n*prL (shN r)):=by
 have hd:n<=d.toNat:=by omega
 have hle:n*prL (shN r)<=d.toNat*prL (shN r):=Nat.mul_le_mul_right _ hd
 apply List.ext_getElem
 ·rw[List.length_map,List.length_range,List.length_append,List.length_drop,List.length_take];omega
 ·intro i h1 h2
  have h1:i<d.toNat*prL (shN r):=by simpa using h1
  have:=BcQ (n:=n) z hl hd h1
  rw[List.getD_eq_getElem?_getD,List.getElem?_eq_getElem h2] at this
  simp only[List.getElem_map,List.getElem_range]
  unfold Oo
  rw[<- this];rfl
section
variable {k d:Int} {r nu:List Int} {it:List Arr} (h:(Bi (.mk k (d::r) nu it)).1=0) (n:Nat) (hn:(n:Int)<=d)
include h
theorem Bdr:BH (.mk k (d::r) nu it) (d::r) (Ov n d.toNat) (Oo n d.toNat (prL (shN r))):=by
 obtain ⟨f1,f2,f3,f4⟩:=BN.1 (BJ h)
 have f2:Bk (d::r)=true:=f2
 have f3:(if k=3 then it.length else nu.length)=prL (shN (d::r)):=f3
 have e2:shN (d::r)=d.toNat::shN r:=by simp[shN]
 have e3:prL (d.toNat::shN r)=d.toNat*prL (shN r):=rfl
 have hR:∀ {m},m<d.toNat*prL (shN r)->0<prL (shN r):=fun {m} hm=>Nat.pos_of_ne_zero fun e=>by rw[e,Nat.mul_zero] at hm;exact absurd hm (Nat.not_lt_zero _)
 have hD:∀ {m},m<d.toNat*prL (shN r)->0<d.toNat:=fun {m} hm=>Nat.pos_of_ne_zero fun e=>by rw[e,Nat.zero_mul] at hm;exact absurd hm (Nat.not_lt_zero _)
 refine⟨f1,f2,f2,rfl,fun m hm=>?_,fun m hm j hj=>?_,fun m hm=>?_,fun hm=>hm,(C4 h).2.2.2⟩
 ·rw[e2,e3] at hm
  show Oo n d.toNat (prL (shN r)) m<(if k=3 then it.length else nu.length)
  rw[f3,e2,e3]
  unfold Oo
  have h1:=Nat.mod_lt (m / prL (shN r)+n % d.toNat+d.toNat) (hD hm)
  have h2:=Nat.mod_lt m (hR hm)
  calc _<(m / prL (shN r)+n % d.toNat+d.toNat) % d.toNat*prL (shN r)+prL (shN r):=by omega
   _=((m / prL (shN r)+n % d.toNat+d.toNat) % d.toNat+1)*prL (shN r):=by rw[Nat.add_mul,Nat.one_mul]
   _<=d.toNat*prL (shN r):=Nat.mul_le_mul_right _ h1
 ·rw[e2] at hm ⊢
  show Ov n d.toNat j ((BL (d.toNat::shN r) m).getD j 0)<(shN (d::r)).getD j 0
  rw[e2]
  have hj2:j<(d.toNat::shN r).length:=by simpa[shN] using hj
  have:=Ir m (by omega) hj2
  unfold Ov
  rcases j with _ | j
  ·rw[if_pos rfl]
   exact Nat.mod_lt _ (hD (m:=m) (by rw[<- e3];exact hm))
  ·rw[if_neg (by omega)]
   exact this
 ·rw[e2,e3] at hm
  show hp (shN (d::r)) (fun j=>Ov n d.toNat j ((BL (shN (d::r)) m).getD j 0)) (r.length+1)=Oo n d.toNat (prL (shN r)) m
  rw[e2]
  have hl:(((m / prL (shN r) % d.toNat+n % d.toNat+d.toNat) % d.toNat)::BL (shN r) m).length=(d.toNat::shN r).length:=by simp[EM]
  have:=Bb4 hl
  rw[Ud,Nat.mod_eq_of_lt (Mg hm)] at this
  unfold Oo
  rw[<- this]
  have hn:(d.toNat::shN r).length=r.length+1:=by simp[shN]
  rw[hn]
  refine G6 _ fun i _=>?_
  unfold Ov
  rcases i with _ | i
  ·rw[if_pos rfl]
   show (m / prL (shN r) % d.toNat+n % d.toNat+d.toNat) % d.toNat=_
   rw[Nat.mod_eq_of_lt (Mg hm)];rfl
  ·rw[if_neg (by omega)];rfl
include hn
theorem BcN:E9 (.mk k (d::r) nu it) (d::r) (Oo n d.toNat (prL (shN r)))=roA n (.mk k (d::r) nu it):=by
 obtain ⟨f1,f2,f3,f4⟩:=BN.1 (BJ h)
 have f3:(if k=3 then it.length else nu.length)=prL (shN (d::r)):=f3
 have f4:(if k=3 then nu.length else it.length)=0:=f4
 have e2:prL (shN (d::r))=d.toNat*prL (shN r):=by simp[shN,prL]
 show Arr.mk k (d::r) (if k=3 then [] else (List.range (prL (shN (d::r)))).map fun m=>nu.getD (Oo n d.toNat (prL (shN r)) m) 0) (if k=3 then (List.range (prL (shN (d::r)))).map fun m=>it.getD (Oo n d.toNat (prL (shN r)) m) default else [])=Arr.mk k (d::r) (nu.drop (n*prL (shN r))++nu.take (n*prL (shN r))) (it.drop (n*prL (shN r))++it.take (n*prL (shN r)))
 rw[e2] at f3 ⊢
 by_cases hk3:k=3
 ·rw[if_pos hk3] at f3 f4 ⊢
  rw[if_pos hk3,List.eq_nil_of_length_eq_zero f4,UG n hn it default f3]
  simp
 ·rw[if_neg hk3] at f3 f4 ⊢
  rw[if_neg hk3,List.eq_nil_of_length_eq_zero f4,UG n hn nu 0 f3]
  simp
end
theorem Bdz{n d i:Nat}(hd:0<d)(_h1:n<=65536)(h2:d<=65536)(h3:i<=65536):Int.tmod (IntKind.i64.wrap (IntKind.i64.wrap ((i:Int)+Int.tmod (n:Int) (d:Int))+(d:Int))) (d:Int)=(((i+n % d+d) % d:Nat):Int):=by
 have hm:=Nat.mod_lt n hd
 rw[<- Int.ofNat_tmod,show ((i:Int)+((n % d:Nat):Int))=((i+n % d:Nat):Int) by push_cast;rfl,Rf (by omega),show (((i+n % d:Nat):Int)+(d:Int))=((i+n % d+d:Nat):Int) by push_cast;rfl,Rf (by omega),<- Int.ofNat_tmod]
noncomputable def Erc:Senv:=EC EA 32 4 [6,7,12] (fun _=>([],[]))
def JJ(a:Nat):Arr:=nmA a
def Y9(a:Nat):List Int:=Arr.nu (JJ a)
def Za(a:Nat):Nat:=LN (Y9 a)
def QcE(a:Nat):Int:=(NI (Za a))
def JK(a:Arr):List Int:=Arr.sh a
def Zb(a:Arr):Nat:=LN (JK a)
def QcF:Arr:=DA
def QfZ(a:Arr)(b:Nat):List D:=Arr.row (List.getD (Arr.it a) b QcF)
def QcG(a:Nat):Nat:=LN (Arr.sh (JJ a))
def Qf0(a b:Nat):List D:=[ZI (GI (Arr.sh (JJ a)) b)]
def Qf1(a b:Nat):List D:=[ZI (GI (Y9 a) b)]
def QcH(a:Nat):Nat:=LN (Arr.it (JJ a))
def Qf2:List D:=Arr.row QcF
def QcI(a:Nat)(b:Arr)(c d:Nat):Prop:=(SM a/\(SM (Arr.k b)/\(SM (Zb b)/\(∀(i:Nat),i<Zb b->SM [ZI (GI (JK b) i)])/\True)/\(SM (LN (Arr.nu b))/\(∀(i:Nat),i<LN (Arr.nu b)->SM [ZI (GI (Arr.nu b) i)])/\True)/\(SM (LN (Arr.it b))/\(∀(i:Nat),i<LN (Arr.it b)->SM (QfZ b i))/\True)/\True)/\SM c/\(SM (Arr.k (JJ d))/\(SM (QcG d)/\(∀(i:Nat),i<QcG d->SM (Qf0 d i))/\True)/\(SM (Za d)/\(∀(i:Nat),i<Za d->SM (Qf1 d i))/\True)/\(SM (QcH d)/\(∀(i:Nat),i<QcH d->SM Qf2)/\True)/\True)/\True)/\True
def JL(a:Arr)(b:Nat):Int:=GI (JK a) (Int.toNat (↑b:Int))
theorem Bei(a : Arr)(n ax i : Nat)(p q : Nat)(hn : n<=65536)(hs : Bk a.sh=true)(hax : ax<a.sh.length)(hi : i<(shN a.sh).getD ax 0) :
  CS 34 [.int .i64 ax,.int .i64 i,.ref 0 q 0,.ref 1 p 0] ⟨[(1,p,.cells a.row1),(0,q,.cells (nmA n).row1)],[]⟩ (.int .i64 (Ov n (a.sh.headD 0).toNat ax i:Nat)):=by
 refine CS.of (Bp (A:=sS _ _ _) (x:=()) (E:=Erc) (eOk BA rfl) Try.func34 rfl (by kernel_rfl) rfl (by simp[sS,Erc,EC,E0]) ?_)
 refine Bt (T :=
  SM q/\ifB (decide (QcE n<=(↑ax:Int))) (True/\∃(y:Unit),True/\(↑i:Int)=(NI (Ov n (Int.toNat (List.headD (JK a) Z0)) ax i))/\QcI p a q n) (SM p/\Bb (Z0<=(↑ax:Int)/\(↑ax:Int)<(NI (Zb a))) (SM q/\Bb (Z0<=(↑ax:Int)/\(↑ax:Int)<QcE n) (Bb (JL a ax≠Z0) (Bb (JL a ax≠Z0) (True/\∃(y:Unit),True/\Int.tmod (IntKind.wrap IntKind.i64 (IntKind.wrap IntKind.i64 ((↑i:Int)+Int.tmod (GI (Y9 n) (Int.toNat (↑ax:Int))) (JL a ax))+JL a ax)) (JL a ax)=(NI (Ov n (Int.toNat (List.headD (JK a) Z0)) ax i))/\QcI p a q n)))))) (by kernel_rfl) ?_
 delta DA GI LN NI SM Z0 ZI JJ Y9 Qf1 QcH Qf2 QcI JL Za QcE JK Zb QcF QfZ QcG Qf0
 have da:(default:Arr)=Arr.mk 0 [] [] []:=rfl
 simp only[<- da]
 simp only[ne_eq,implies_true,Int.toNat_natCast,Bn,Bd,decide_eq_true_eq,decide_eq_false_iff_not,true_and,and_true,exists_const]
 have hn1:(nmA n).nu.length=1:=rfl
 rw[hn1]
 refine⟨fun h=>?_,fun h=>?_⟩
 ·unfold Ov;rw[if_neg (by omega)]
 ·obtain rfl:ax=0:=by omega
  have h2:=((Bq a.sh).1 hs).2.1
  have hd:=CX h2 0
  have hl:=Bbt hs 0
  have e:(a.sh.headD 0).toNat=(shN a.sh).getD 0 0:=by
   cases hh:a.sh with
   |nil=>rfl
   |cons d r=>simp[shN]
  rw[<- hd,e]
  refine⟨⟨by omega,by omega⟩,⟨by omega,by omega⟩,by omega,by omega,?_⟩
  show Int.tmod (IntKind.i64.wrap (IntKind.i64.wrap ((i:Int)+Int.tmod (n:Int) ((shN a.sh).getD 0 0:Nat))+((shN a.sh).getD 0 0:Nat))) ((shN a.sh).getD 0 0:Nat)=_
  rw[Bdz (by omega) hn hl (by omega)]
  unfold Ov
  rw[if_pos rfl]
def BbG(a:Arr)(n:Nat):Con:=fun k ds S=>match k with
 |21=>some (pE (β:=Arr) ds S (fun _=>.int .i64 0) (fun b=>wkL ds [.agg b.row1]/\(b=a\/b=nmA n)))
 |22=>some (pA ds S (.agg (roA n a).row1) (∃p q pre ts,wkL ds [.agg a.row1,.fn (.func 34) [] [.ref 0 q 0,.ref 1 p 0]]/\S=⟨pre++[(1,p,.cells a.row1),(0,q,.cells (nmA n).row1)],ts⟩))
 |_=>none
theorem CS.after{k:Nat}{ds:List D}{b pre:List (Nat×Nat×AObj)}{ts:List (Nat×Nat)}{d:D}(h:CS k ds ⟨b,[]⟩ d):CS k ds ⟨pre++b,ts⟩ d:=h.behind
theorem Bb5{a:Arr}{n:Nat}(hn:n<=65536)(h:(Bi a).1=0)(ho:a.ok)(hr:a.sh≠[])(hd:(n:Int)<=a.sh.headD 0):ConOk Try.prog (BbG a n):=by
 intro k ds S A hh
 unfold BbG at hh
 split at hh
 ·injection hh with hh;subst hh
  refine Es fun b ⟨e,hb⟩=>CD.at_ (CD.wk ?_ e) _
  obtain rfl | rfl:=hb
  ·have:=IV _ ho
   rw[h] at this;exact this
  ·have:=IV _ (Bbh hn)
   rw[Bbe hn] at this;exact this
 ·injection hh with hh;subst hh
  refine BB ?_
  rintro ⟨p,q,pre,ts,hw,rfl⟩
  have hs:Bk a.sh=true:=(BN.1 (BJ h)).2.1
  have hc:=fun ax i h1 h2=>Bei a n ax i p q hn hs h1 h2
  cases a with
  |mk k s nu it =>
   cases s with
   |nil=>exact (hr rfl).elim
   |cons d r =>
    have:=Beo _ _ _ _ _ p q _ _ (Bdr h n) hr hc
    have ho:=BcN h n hd
    rw[show (Arr.mk k (d::r) nu it).sh=d::r from rfl,ho] at this
    exact (this.wk hw).behind
 ·cases hh
noncomputable def Ero(a:Arr)(n:Nat):Senv:=EC (BbG a n) 39 7 [16,21,27] (fun _=>([],[]))
def Kc(a:Nat):Arr:=nmA a
def JM(a:Arr):Int:=Arr.k a
def Zc(a:Nat):Nat:=LN (Arr.sh (Kc a))
def Ko(a:Arr):Nat:=LN (Arr.sh a)
def QcJ(a b:Nat):Int:=GI (Arr.sh (Kc a)) b
def JN(a:Arr)(b:Nat):Int:=GI (Arr.sh a) b
def V8(a:Nat):Nat:=LN (Arr.nu (Kc a))
def KF(a:Arr):Nat:=LN (Arr.nu a)
def QcK(a b:Nat):Int:=GI (Arr.nu (Kc a)) b
def JO(a:Arr)(b:Nat):Int:=GI (Arr.nu a) b
def Zd(a:Nat):Nat:=LN (Arr.it (Kc a))
def KG(a:Arr):Nat:=LN (Arr.it a)
def Ze:Arr:=DA
def QcL:List D:=Arr.row Ze
def K7(a:Arr)(b:Nat):List D:=Arr.row (List.getD (Arr.it a) b Ze)
def QcM(a:Nat)(b:Arr):Int:=Arr.k (roA a b)
def Zf(a:Nat)(b:Arr):Nat:=LN (Arr.sh (roA a b))
def QcN(a:Nat)(b:Arr)(c:Nat):List D:=[ZI (GI (Arr.sh (roA a b)) c)]
def Zg(a:Nat)(b:Arr):Nat:=LN (Arr.nu (roA a b))
def QcO(a:Nat)(b:Arr)(c:Nat):List D:=[ZI (GI (Arr.nu (roA a b)) c)]
def Zh:D:=D.sl N1 N0 (fun _x=>[]) Mode.nil
def QcP(a:Nat)(b:Arr):Nat×AObj:=(a,AObj.cells [ZI (JM b),D.sl N1 (Ko b) (fun i=>[ZI (JN b i)]) Mode.any,D.sl N1 (KF b) (fun i=>[ZI (JO b i)]) Mode.any,D.sl N4 (KG b) (fun i=>K7 b i) Mode.any])
def QcQ(a b:Nat):List (Nat×Nat×AObj):=[(N0,a,AObj.cells [ZI (Arr.k (Kc b)),D.sl N1 (Zc b) (fun i=>[ZI (QcJ b i)]) Mode.any,D.sl N1 (V8 b) (fun i=>[ZI (QcK b i)]) Mode.any,D.sl N4 (Zd b) (fun _i=>QcL) Mode.any])]
def QcR(a:Nat)(b:Arr):Nat:=LN (Arr.it (roA a b))
def Qf3(a:Nat)(b:Arr)(c:Nat):List D:=Arr.row (List.getD (Arr.it (roA a b)) c Ze)
theorem Bdj(a : Arr)(n : Nat)(hn : n<=65536)(h : (Bi a).1=0)(ho : a.ok)(hr : a.sh≠[])(hd : (n : Int)<=a.sh.headD 0) :
  CD 16 [.agg (nmA n).row1,.agg a.row1] (.tup [.agg (roA n a).row1,.int .i64 0]):=by
 refine Bp (A:=sC _ _) (x:=()) (E:=Ero a n) (eOk (Bb5 hn h ho hr hd) rfl) Try.func16 rfl (by kernel_rfl) rfl (by simp[sC,Ero,EC,E0]) ?_
 refine Bt (T :=
  ∀(x:Nat),True->∀(x_1:Nat),x≠x_1/\True->∀(x_2:Nat),x_1≠x_2/\x≠x_2/\True->SM x/\∃(x_3:Arr),(((Arr.k (Kc n)=JM x_3/\(Zc n=Ko x_3/\(∀(i:Nat),i<Zc n->QcJ n i=JN x_3 i/\True)/\True)/\(V8 n=KF x_3/\(∀(i:Nat),i<V8 n->QcK n i=JO x_3 i/\True)/\True)/\(Zd n=KG x_3/\(∀(i:Nat),i<Zd n->wkL QcL (K7 x_3 i))/\True)/\True)/\True)/\(x_3=a\/x_3=Kc n))/\∀(y:Unit),True->SM x_1/\∃(x_4:Arr),(((JM a=JM x_4/\(Ko a=Ko x_4/\(∀(i:Nat),i<Ko a->JN a i=JN x_4 i/\True)/\True)/\(KF a=KF x_4/\(∀(i:Nat),i<KF a->JO a i=JO x_4 i/\True)/\True)/\(KG a=KG x_4/\(∀(i:Nat),i<KG a->wkL (K7 a i) (K7 x_4 i))/\True)/\True)/\True)/\(x_4=a\/x_4=Kc n))/\∀(y:Unit),True->SM x/\SM x/\SM x/\SM x_1/\ifB (decide ((NI (Ko a))<(NI (V8 n)))) (SM x_2/\(SM x_2/\True)/\∃(y:Unit),True/\((Z0=QcM n a/\(N0=Zf n a/\(∀(i:Nat),i<N0->EY (List D) [] (QcN n a i))/\True)/\(N0=Zg n a/\(∀(i:Nat),i<N0->EY (List D) [] (QcO n a i))/\True)/\False/\True)/\(16:Int)=Z0/\True)/\True/\True) (SM x_1/\∃(x_5:Unit),(∃(p:Nat),∃(q:Nat),∃(pre:List (Nat×Nat×AObj)),∃(ts:List (Nat×Nat)),((SM (JM a)/\(SM (Ko a)/\(∀(i:Nat),i<Ko a->SM (JN a i)/\True)/\True)/\(SM (KF a)/\(∀(i:Nat),i<KF a->SM (JO a i)/\True)/\True)/\(SM (KG a)/\(∀(i:Nat),i<KG a->wkL (K7 a i) (K7 a i))/\True)/\True)/\D.fn (Fn.func (34:Nat)) [] [D.ref N0 x N0,D.ref (max (N0+N1) N0) x_1 N0]=D.fn (Fn.func (34:Nat)) [] [D.ref N0 q N0,D.ref N1 p N0]/\True)/\St.mk ((max (N1+N1) (max (N0+N1) N0),x_2,AObj.cells [ZI Z0,Zh,Zh,Zh])::(max (N0+N1) N0,QcP x_1 a)::QcQ x n) []=St.mk (pre++(N1,QcP p a)::QcQ q n) ts)/\∀(y:Unit),True->SM x_2/\(SM x_2/\True)/\∃(y:Unit),True/\((SM (QcM n a)/\(SM (Zf n a)/\(∀(i:Nat),i<Zf n a->SM (QcN n a i))/\True)/\(SM (Zg n a)/\(∀(i:Nat),i<Zg n a->SM (QcO n a i))/\True)/\(SM (QcR n a)/\(∀(i:Nat),i<QcR n a->SM (Qf3 n a i))/\True)/\True)/\SM Z0/\True)/\True/\True)) (by kernel_rfl) ?_
 delta DA GI LN N0 N1 N4 NI SM Z0 ZI Kc JM Zc Ko QcJ JN V8 KF QcK JO Zd KG Ze QcL K7 QcM Zf QcN Zg QcO Zh QcP QcQ QcR Qf3
 have da:(default:Arr)=Arr.mk 0 [] [] []:=rfl
 simp only[<- da]
 simp only[ne_eq,implies_true,Bn,decide_eq_true_eq,decide_eq_false_iff_not,true_and,and_true,exists_const,forall_const]
 have hl:0<a.sh.length:=List.length_pos_iff.2 hr
 have hn1:(nmA n).nu.length=1:=rfl
 exact fun x x1 _ x2 _=>⟨nmA n,⟨⟨rfl,⟨rfl,fun _ _=>rfl⟩,⟨rfl,fun _ _=>rfl⟩,rfl,fun i hi=>absurd hi (Nat.not_lt_zero i)⟩,.inr rfl⟩,a,⟨⟨rfl,⟨rfl,fun _ _=>rfl⟩,⟨rfl,fun _ _=>rfl⟩,rfl,fun _ _=>Bf _⟩,.inl rfl⟩,fun q=>absurd q (by rw[hn1];omega),fun _=>⟨x1,x,[_],_,⟨fun _ _=>Bf _,rfl⟩,rfl⟩⟩
def nuS(s:List Int)(o:Nat):Nat->List D:=fun i=>[.int .i64 (s.getD (o+i) 0)]
def nlS:D:=.sl 1 0 (fun _=>[]) .nil
def sAn(a:Arr)(s:List Int)(kk sd:D)(i n x p:Nat)(f:Nat->List D)(t:Nat):FnSpec where
 β:=Unit
 α:=Nat
 args:=fun _=>[.agg [.int .i64 a.k,isl a.sh .any,isl a.nu .any,gsl 4 Arr.row a.it,isl s .any],.ref 17 x 0,.int .i64 i,.int .i64 n]
 st:=fun _=>⟨[(17,x,.cells [kk,sd,.sl 1 p f (.tok 1 t),nlS])],[(1,t)]⟩
 pre:=fun _=>a.k≠3/\a.sh≠[]/\i*n+n<=a.nu.length/\a.nu.length<=1000000/\p<=1000000
 post:=fun _ _=>True
 res:=fun _ _=>.ret (.tup [])
 out:=fun _ u=>⟨[(17,x,.cells [kk,sd,.sl 1 (p+n) (By p f (nuS a.nu (i*n))) (.tok 1 u),nlS])],[(1,u)]⟩
def OJ:Con:=fun k ds S=>match k with
 |49=>some (pE (β:=Arr) ds S (fun b=>.agg b.row1) (fun b=>wkL ds [.agg b.row1]/\(Bi b).1=0))
 |_=>none
theorem Is:ConOk Try.prog OJ:=by
 intro k ds S A hh
 unfold OJ at hh
 split at hh
 ·injection hh with hh;subst hh
  refine Es fun b ⟨e,hb⟩=>CD.at_ ?_ _
  refine CD.wk (us:=[.agg b.row1]) ?_ e
  exact (O6 b hb).mono fun _ _ ⟨y,q1,q2,q3⟩=>⟨(),trivial,q2,q3⟩
 ·cases hh
noncomputable def Ean:Senv:={ EC OJ 108 5 [8,10,15,16,17,18,22,57,89,90,91,92] (fun id=>match id with | 5=>([0,1,2,3,4,5,6,7,8,10,9,11,12,13,15,16,14,17],[9,11,12,14,17]) | 6=>([0,1,2,3,4,5,6,7,8,9,10,11,12,13,14],[10,11,14]) | 15=>([0,1,2,3,4,6,5,7,8,9,11,12,10,13],[5,7,8,10,13]) | _=>([],[])) with
 gz:=fun r=>match r with
  |11=>[.slot 8]
  |_=>[] }
def KH(a b:Nat):Int:=IntKind.wrap IntKind.i64 ((↑a:Int)*(↑b:Int))
def V9(a:Arr):Int:=(LI (Arr.nu a))
def QcS(a:Arr)(b c d:Nat):List D:=[ZI (GI (Arr.nu a) (Int.toNat (KH b c)+d))]
def QcT(a b:Nat):Int:=IntKind.wrap IntKind.i64 (KH a b+(↑b:Int))
theorem Bef(a:Arr)(s:List Int)(kk sd:D)(i n x p:Nat)(f:Nat->List D)(t:Nat)(h:(sAn a s kk sd i n x p f t).pre ()):ACalls Try.prog 41 ((sAn a s kk sd i n x p f t).args ()) ((sAn a s kk sd i n x p f t).st ()) (SpecR (sAn a s kk sd i n x p f t) ()):=by
 refine Bp (A:=sAn a s kk sd i n x p f t) (x:=()) (E:=Ean) (eOk Is rfl) Try.func41 rfl (by kernel_rfl) rfl (by simp[sAn,Ean,EC,E0]) ?_
 refine Bt (T :=
  ∀(x_1:Nat),x≠x_1/\True->SM x_1/\ifB ((LI (Arr.sh a))==Z0) False (SM x_1/\ifB (Arr.k a != (3:Int)) (Bb (Z0<=(↑n:Int)/\(↑n:Int)<=(↑n:Int)/\(8:Int)*(↑n:Int)<=281474976710656/\(↑n:Int)<=9223372036854775807) (∀(x_2:Nat),x_1≠x_2/\x≠x_2/\True->SM x_1/\Bb (Z0<=KH i n/\KH i n<=V9 a/\V9 a<=V9 a) (SM x_2/\Int.toNat (↑n:Int)<=Int.toNat (V9 a)-Int.toNat (KH i n)/\SM (Int.toNat (↑n:Int))/\SM x_2/\SM (Int.toNat (↑n:Int))/\Bb (Int.toNat (↑n:Int)<=Int.toNat (↑n:Int)) ((∀(i_1:Nat),i_1<Int.toNat (↑n:Int)->(List.all (QcS a i n i_1) fun (x:D)=>match x with | D.unk=>false | D.agg cs=>false | D.tup ds=>false | x=>true)=true)/\∀(t_1:Nat),SM x/\SM t/\Bb ((p+Int.toNat (↑n:Int))*8<=140737488355328/\p+Int.toNat (↑n:Int)<=9223372036854775807) (∀(t:Nat),SM x/\True/\∃(y:Nat),True/\True/\(SM x/\(Be kk kk/\Be sd sd/\(p+Int.toNat (↑n:Int)=p+n/\(∀(i_1:Nat),i_1<p+Int.toNat (↑n:Int)->By p f (fun i_2=>QcS a i n i_2) i_1=By p f (nuS (Arr.nu a) (i*n)) i_1)/\t=y)/\(SM N0/\(∀(i:Nat),i<N0->EY (List D) [] [])/\True)/\True)/\True)/\t=y/\True))))) (SM x_1/\Bb (Z0<=KH i n/\KH i n<=QcT i n/\QcT i n<=(LI (Arr.it a))) False))) (by kernel_rfl) ?_
 delta GI LI LN N0 SM Z0 ZI KH V9 QcS QcT
 have da:(default:Arr)=Arr.mk 0 [] [] []:=rfl
 simp only[]
 simp only[eq_self,ne_eq,implies_true,Int.toNat_natCast,Bn,Bd,true_and,and_true,beq_iff_eq,bne_iff_ne,bne_eq_false_iff_eq,beq_eq_false_iff_ne,forall_const]
 obtain ⟨hk,hs,hl,hm,hp⟩:=h
 have hsl:0<a.sh.length:=List.length_pos_iff.2 hs
 have ew:IntKind.i64.wrap ((i:Int)*(n:Int))=((i*n:Nat):Int):=by
  rw[show (i:Int)*(n:Int)=((i*n:Nat):Int) by push_cast;rfl]
  exact Bc (by omega) (by omega)
 simp only[ew,Int.toNat_natCast]
 exact fun y _=>⟨fun e=>absurd e (by omega),fun _=>⟨fun _=>⟨⟨by omega,by omega,by omega,by omega⟩,fun y2 _=>⟨⟨by omega,by omega,by omega⟩,by omega,Nat.le_refl _,fun _ _=>rfl,⟨by omega,by omega⟩,fun t=>⟨t,⟨Bg _,Bg _,fun _ _=>rfl,rfl⟩,rfl⟩⟩⟩,fun e=>absurd e hk⟩⟩
def itS(l:List Arr)(o:Nat):Nat->List D:=fun i=>(l.getD (o+i) default).row1
def sAb(a:Arr)(s:List Int)(kk sd nud:D)(i n x t:Nat):FnSpec where
 β:=Unit
 α:=Nat×Nat
 args:=fun _=>[.agg [.int .i64 3,isl a.sh .any,isl a.nu .any,gsl 4 Arr.row1 a.it,isl s .any],.ref 17 x 0,.int .i64 i,.int .i64 n]
 st:=fun _=>⟨[(17,x,.cells [kk,sd,nud,nlS])],[(1,t)]⟩
 pre:=fun _=>(∀b∈a.it,(Bi b).1=0)/\a.sh≠[]/\i*n+n<=a.it.length/\a.it.length<=1000000/\0<n
 post:=fun _ y=>n<=y.2
 res:=fun _ _=>.ret (.tup [])
 out:=fun _ y=>⟨[(17,x,.cells [kk,sd,nud,.vs 19 y.1 n y.2 4]),(19,y.1,.vec 4 n y.2 (itS a.it (i*n)))],[(1,t)]⟩
theorem _root_.Go.Ab.StTo.posN{S S':St}(h:T0 S S'):StTo S S':=fun _C _F _w H=>Sat.pos H h
theorem Bdg{kk sd nud : D}{x y m c K K2 : Nat}{f g : Nat -> List D}{bx : Nat×Nat×AObj}{tk : List (Nat×Nat)}(hg : ∀i, i<m -> f i=g i) :
  StTo ⟨[(K,y,.vec 4 m c f),bx,(17,x,.cells [kk,sd,nud,.vs K2 y m c 4])],tk⟩ ⟨[(17,x,.cells [kk,sd,nud,.vs 19 y m c 4]),(19,y,.vec 4 m c g)],tk⟩:=by
 refine StTo.trans (B:=⟨[(17,x,.cells [kk,sd,nud,.vs K2 y m c 4]),(19,y,.vec 4 m c f)],tk⟩) (StTo.perm (r1:=[bx.2]) (r2:=[]) ?_ ?_) (StTo.posN ?_)
 ·simp only[List.map_cons,List.map_nil,List.cons_append,List.nil_append]
  exact (List.Perm.swap _ _ _).trans (List.Perm.cons _ (List.Perm.swap _ _ _))
 ·simp
 ·have ht : ∀l : List (Nat×Nat), T8 l l:=fun l=>by induction l with
   |nil=>trivial
   |cons p l ih=>exact⟨rfl,ih⟩
  refine⟨⟨rfl,?_,rfl,?_,trivial⟩,ht _⟩
  ·simp[CH,Bo,Be,Bg,Ba]
  ·simp only[CH,Ba,decide_true,true_and]
   exact hg
theorem RF{g z:Nat->List D}{row:List D}{m j:Nat}(hr:∀_:j=m,row=g m)(hj:j<m+1):BM (By m g z) m row j=g j:=by
 unfold BM By
 by_cases e:j=m
 ·rw[if_pos e,hr e,e]
 ·rw[if_neg e,if_pos (by omega)]
theorem BdS{kk sd nud v:D}{x:Nat}{bx:Nat×Nat×AObj}{tk:List (Nat×Nat)}:StTo ⟨[bx,(17,x,.cells [kk,sd,nud,v])],tk⟩ ⟨[(17,x,.cells [kk,sd,nud,v])],tk⟩:=by
 refine StTo.perm (r1:=[bx.2]) (r2:=[]) ?_ ?_
 ·exact List.Perm.swap _ _ _
 ·simp
noncomputable def Eab(a:Arr)(_s:List Int)(kk sd nud:D)(i n:Nat):Senv:={ EC OJ 108 5 [8,10,15,16,17,18,22,57,89,90,91,92] (fun id=>match id with | 5=>([0,1,2,3,4,5,6,7,8,10,9,11,12,13,15,16,14,17],[9,11,12,14,17]) | 6=>([0,1,2,3,4,5,6,7,8,9,10,11,12,13,14],[10,11,14]) | 15=>([0,1,2,3,4,6,5,7,8,9,11,12,10,13],[5,7,8,10,13]) | _=>([],[])) with
 own:=fun t=>Nat.beq t 24
 ann2:=fun b env S=>match b with
  |2=>match Ab.look env 1 with
   |.ref k1 x1 _=>some (
     { slots:=[91],keep:=[1,89,90],α:=Unit,st:=fun _=>([.int .i64 0],⟨[(k1,x1,.cells [kk,sd,nud,nlS])],S.toks⟩),inv:=fun _=>True,mu:=fun _=>n+1 },
     { slots:=[91],keep:=[1,89,90],α:=Nat×Nat×Nat,st:=fun y=>([.int .i64 y.1],⟨[(k1,x1,.cells [kk,sd,nud,.vs 19 y.2.1 y.1 y.2.2 4]),(19,y.2.1,.vec 4 y.1 y.2.2 (itS a.it (i*n)))],S.toks⟩),inv:=fun y=>0<y.1/\y.1<=n/\y.1<=y.2.2,mu:=fun y=>n-y.1 })
   |_=>none
  |_=>none }
def Xa(a:Arr):Nat:=LN (Arr.sh a)
def Xb(a b:Nat):Int:=IntKind.wrap IntKind.i64 ((↑a:Int)*(↑b:Int))
def Zi(a b:Nat):Int:=IntKind.wrap IntKind.i64 (Xb a b+(↑b:Int))
def QA(a:Arr):List Arr:=Arr.it a
def JP(a:Arr):Nat:=LN (QA a)
def Zj(a:Arr)(b:Nat):Int:=GI (Arr.sh a) b
def QcU(a:Arr):D:=D.sl N1 (Xa a) (fun i=>[ZI (Zj a i)]) Mode.any
def Zk(a:Arr)(b:Nat):Int:=GI (Arr.nu a) b
def QcV(a:Arr):D:=D.sl N1 (LN (Arr.nu a)) (fun i=>[ZI (Zk a i)]) Mode.any
def Kp:Arr:=DA
def JQ(a:Arr)(b:Nat):Arr:=List.getD (QA a) b Kp
def Qf4(a:Arr)(b:Nat):List Int:=Arr.sh (JQ a b)
def Qf5(a:Arr)(b:Nat):List Int:=Arr.nu (JQ a b)
def QcW(a:Arr)(b:Nat):List Arr:=Arr.it (JQ a b)
def JR:D:=D.sl N1 N0 (fun _x=>[]) Mode.nil
def QcX:List D:=[JR]
def QcY(a:Nat)(b c d:D):List (Nat×Nat×AObj):=[((17:Nat),a,AObj.cells (b::c::d::QcX))]
def QcZ(a:Nat)(b:Arr)(c:List Int)(d:Nat)(e f g:D)(h:Nat):St:=St.mk (((18:Nat),a,AObj.cells [ZI 3,QcU b,QcV b,D.sl N4 (JP b) (fun i=>[ZI (Arr.k (JQ b i)),SI (Qf4 b i),SI (Qf5 b i),D.sl N4 (LN (QcW b i)) (fun i_1=>Arr.row (List.getD (QcW b i) i_1 Kp)) Mode.any]) Mode.any,SI c])::QcY d e f g) [(N1,h)]
def Kq(a:Nat)(b c d:D)(e:Nat):St:=St.mk (QcY a b c d) [(N1,e)]
def KI(a:Nat)(b c d:D)(e f g:Nat)(h:Arr)(k l m:Nat):St:=St.mk [((17:Nat),a,AObj.cells [b,c,d,D.vs (19:Nat) e f g N4]),((19:Nat),e,AObj.vec N4 f g (itS (QA h) (k*l)))] [(N1,m)]
def Xc(a b:Nat):Nat:=Int.toNat (Xb a b)
def Qc0(a b:Nat):Nat:=Int.toNat (Zi a b)-Xc a b
def JS(a b:Nat):Int:=(NI (Qc0 a b))
def Xd(a:Arr)(b c:Nat):Arr:=List.getD (QA a) (Xc b c+N0) Kp
def Qc1(a:Arr)(b c:Nat):Int:=Arr.k (Xd a b c)
def Qc2(a:Arr)(b c:Nat):List Int:=Arr.sh (Xd a b c)
def Zl(a:Arr)(b c:Nat):Nat:=LN (Qc2 a b c)
def Qc3(a:Arr)(b c d:Nat):Int:=GI (Qc2 a b c) d
def Qc4(a:Arr)(b c:Nat):List Int:=Arr.nu (Xd a b c)
def Zm(a:Arr)(b c:Nat):Nat:=LN (Qc4 a b c)
def Qc5(a:Arr)(b c d:Nat):Int:=GI (Qc4 a b c) d
def Qc6(a:Arr)(b c:Nat):List Arr:=Arr.it (Xd a b c)
def Zn(a:Arr)(b c:Nat):Nat:=LN (Qc6 a b c)
def Qc7(a:Arr)(b c d:Nat):List D:=Arr.row (List.getD (Qc6 a b c) d Kp)
def Zo(a:Arr)(b:Nat):List D:=Arr.row (JQ a b)
def Qc8(a:Arr)(b c:Nat)(d:Arr):Prop:=((Qc1 a b c=Arr.k d/\(Zl a b c=Xa d/\(∀(i:Nat),i<Zl a b c->Qc3 a b c i=Zj d i/\True)/\True)/\(Zm a b c=LN (Arr.nu d)/\(∀(i:Nat),i<Zm a b c->Qc5 a b c i=Zk d i/\True)/\True)/\(Zn a b c=JP d/\(∀(i:Nat),i<Zn a b c->wkL (Qc7 a b c i) (Zo d i))/\True)/\True)/\True)/\Prod.fst (Bi d)=Z0
def Zp(a:Nat):Prop:=SM a/\SM JR
def Xe(a:Arr)(b c d:Nat):Arr:=List.getD (QA a) (Xc b c+d) Kp
def Qf6(a:Arr)(b c d:Nat):List Int:=Arr.sh (Xe a b c d)
def Qf7(a:Arr)(b c d:Nat):List Int:=Arr.nu (Xe a b c d)
def Qc9(a:Arr)(b c d:Nat):List Arr:=Arr.it (Xe a b c d)
def Qf8(a b:Nat)(c:Arr):D:=D.sl N4 (Qc0 a b) (fun i=>[ZI (Arr.k (Xe c a b i)),SI (Qf6 c a b i),SI (Qf7 c a b i),D.sl N4 (LN (Qc9 c a b i)) (fun i_1=>Arr.row (List.getD (Qc9 c a b i) i_1 Kp)) Mode.any]) Mode.any
def Qf9(a b:Nat):D:=ZI (JS a b)
def K8(a b c:Nat)(d:Arr):Prop:=SM (D.ref (17:Nat) a N0)/\SM (Qf8 b c d)/\SM (Qf9 b c)/\True
def Q3(a:Nat)(b c d:D)(e f:Nat)(g:Unit):Nat:=LoopAnn.mu (LoopAnn.mk [(91:Nat)] [N1,(89:Nat),(90:Nat)] Unit (fun (_x:Unit)=>([ZI Z0],Kq a b c d e)) (fun (_x:Unit)=>True) (fun (_x:Unit)=>f+N1) false fun (_x:Unit)=>St.mk [] []) g
def Kd(a:Nat):List D:=List.getD [ZI Z0::JR::JR::QcX] a []
def Ke(a:Arr):List D:=[ZI (Arr.k a),QcU a,QcV a,D.sl N4 (JP a) (fun i=>Zo a i) Mode.any]
def Qda(a:Arr)(b c:Nat):List D:=[ZI (Qc1 a b c),D.sl N1 (Zl a b c) (fun i=>[ZI (Qc3 a b c i)]) Mode.any,D.sl N1 (Zm a b c) (fun i=>[ZI (Qc5 a b c i)]) Mode.any,D.sl N4 (Zn a b c) (fun i=>Qc7 a b c i) Mode.any]
def Xf(a b:Nat)(c:Arr)(d:Nat)(e:Arr)(f g h:Nat)(k l m:D)(n:Nat):St:=St.mk [(max ((18:Nat)+N1) (18:Nat)+nat_lit 8,a,AObj.vec N4 N1 b (BM (fun i=>Kd i) N0 (Ke c))),((18:Nat),d,AObj.cells (Qda e f g)),((17:Nat),h,AObj.cells [k,l,m,D.vs (max ((18:Nat)+N1) (18:Nat)+nat_lit 8) a N1 b N4])] [(N1,n)]
def Qdb(a b c d:Nat)(e:Arr)(f g h:D)(k:Nat)(l:Unit)(m:Arr):Prop:=Zp a/\∀(y cap':Nat),b≠y/\a≠y/\True->N1<=cap'->(SM y/\SM a/\K8 a c d e/\((∃(x:Unit),True/\Q3 a f g h k d x<Q3 a f g h k d l/\(Z1=Z0/\True)/\StTo (Xf y cap' m b e c d a f g h k) (Kq a f g h k))\/∃(x:Nat×Nat×Nat),(N0<x.1/\x.1<=d/\x.1<=x.2.2)/\d-x.1<Q3 a f g h k d l/\(Z1=(NI x.1)/\True)/\StTo (Xf y cap' m b e c d a f g h k) (KI a f g h x.2.1 x.1 x.2.2 e c d k)))/\SM a/\SM y/\K8 a c d e/\((∃(x:Unit),True/\Q3 a f g h k d x<Q3 a f g h k d l/\(Z1=Z0/\True)/\StTo (Xf y cap' m b e c d a f g h k) (Kq a f g h k))\/∃(x:Nat×Nat×Nat),(N0<x.1/\x.1<=d/\x.1<=x.2.2)/\d-x.1<Q3 a f g h k d l/\(Z1=(NI x.1)/\True)/\StTo (Xf y cap' m b e c d a f g h k) (KI a f g h x.2.1 x.1 x.2.2 e c d k))
def Qga(a:Arr)(b c:Nat):D:=D.agg (Qda a b c)
def Xg(a:Arr)(b c d:Nat):Arr:=List.getD (QA a) (Xc b c+Int.toNat (↑d:Int)) Kp
def Qdc(a:Arr)(b c d:Nat):Int:=Arr.k (Xg a b c d)
def Qdd(a:Arr)(b c d:Nat):List Int:=Arr.sh (Xg a b c d)
def Zq(a:Arr)(b c d:Nat):Nat:=LN (Qdd a b c d)
def Qde(a:Arr)(b c d e:Nat):Int:=GI (Qdd a b c d) e
def Qdf(a:Arr)(b c d:Nat):List Int:=Arr.nu (Xg a b c d)
def Zr(a:Arr)(b c d:Nat):Nat:=LN (Qdf a b c d)
def Qdg(a:Arr)(b c d e:Nat):Int:=GI (Qdf a b c d) e
def Qdh(a:Arr)(b c d:Nat):List Arr:=Arr.it (Xg a b c d)
def Zs(a:Arr)(b c d:Nat):Nat:=LN (Qdh a b c d)
def Qdi(a:Arr)(b c d e:Nat):List D:=Arr.row (List.getD (Qdh a b c d) e Kp)
def Qdj(a:Arr)(b c d:Nat)(e:Arr):Prop:=((Qdc a b c d=Arr.k e/\(Zq a b c d=Xa e/\(∀(i:Nat),i<Zq a b c d->Qde a b c d i=Zj e i/\True)/\True)/\(Zr a b c d=LN (Arr.nu e)/\(∀(i:Nat),i<Zr a b c d->Qdg a b c d i=Zk e i/\True)/\True)/\(Zs a b c d=JP e/\(∀(i:Nat),i<Zs a b c d->wkL (Qdi a b c d i) (Zo e i))/\True)/\True)/\True)/\Prod.fst (Bi e)=Z0
def Xh(a b c d:Nat):Prop:=SM a/\SM (D.vs (19:Nat) b c d N4)
def Kf(a:Arr)(b c d:Nat):List D:=[ZI (Qdc a b c d),D.sl N1 (Zq a b c d) (fun i=>[ZI (Qde a b c d i)]) Mode.any,D.sl N1 (Zr a b c d) (fun i=>[ZI (Qdg a b c d i)]) Mode.any,D.sl N4 (Zs a b c d) (fun i=>Qdi a b c d i) Mode.any]
def Qgb(a:Arr)(b c d:Nat):D:=D.agg (Kf a b c d)
theorem Bd4(a:Arr)(s:List Int)(kk sd nud:D)(i n x t:Nat)(h:(sAb a s kk sd nud i n x t).pre ()):ACalls Try.prog 41 ((sAb a s kk sd nud i n x t).args ()) ((sAb a s kk sd nud i n x t).st ()) (SpecR (sAb a s kk sd nud i n x t) ()):=by
 refine Bp (A:=sAb a s kk sd nud i n x t) (x:=()) (E:=Eab a s kk sd nud i n) (eOk Is rfl) Try.func41 rfl (by kernel_rfl) rfl (by simp[sAb,Eab,EC,E0]) ?_
 refine Bt (T :=
  ∀(x_1:Nat),x≠x_1/\True->SM x_1/\ifB ((NI (Xa a))==Z0) False (SM x_1/\SM x_1/\Bb (Z0<=Xb i n/\Xb i n<=Zi i n/\Zi i n<=(NI (JP a))) (((∃(x_2:Unit),True/\True/\(SM Z0/\True)/\StTo (QcZ x_1 a s x kk sd nud t) (Kq x kk sd nud t))\/∃(x_2:Nat×Nat×Nat),(N0<x_2.1/\x_2.1<=n/\x_2.1<=x_2.2.2)/\True/\(Z0=(NI x_2.1)/\True)/\StTo (QcZ x_1 a s x kk sd nud t) (KI x kk sd nud x_2.2.1 x_2.1 x_2.2.2 a i n t))/\(∀(x_2:Unit),True->ifB (decide (Z0<JS i n)) (Bb (Z0<=Z0/\Z0<JS i n) (∀(x_3:Nat),x≠x_3/\True->SM x_3/\SM x/\SM x_3/\(∃(x_4:Arr),Qc8 a i n x_4/\∀(y:Unit),True->Zp x/\Qdb x x_3 i n a kk sd nud t x_2 x_4)/\(SM x_3/\SM (Qga a i n))/\Zp x/\∃(x_4:Arr),Qc8 a i n x_4/\∀(y:Unit),True->Qdb x x_3 i n a kk sd nud t x_2 x_4)) (True/\∃(y:Nat×Nat),n<=y.2/\True/\(SM x/\(Be kk kk/\Be sd sd/\Be nud nud/\JR=D.vs (19:Nat) y.1 n y.2 N4/\True)/\False)/\SM t/\True))/\∀(x_2:Nat×Nat×Nat),N0<x_2.1/\x_2.1<=n/\x_2.1<=x_2.2.2->ifB (decide ((NI x_2.1)<JS i n)) (Bb (Z0<=(NI x_2.1)/\(NI x_2.1)<JS i n) (∀(x_3:Nat),x≠x_3/\x_2.2.1≠x_3/\True->SM x_3/\SM x/\SM x_3/\(∃(x_4:Arr),Qdj a i n x_2.1 x_4/\∀(y:Unit),True->Xh x x_2.2.1 x_2.1 x_2.2.2/\Xh x x_2.2.1 x_2.1 x_2.2.2/\SM x_2.2.1/\SM x_2.2.2/\Bb (x_2.1<=x_2.1/\(x_2.1+N1)*80<=140737488355328/\x_2.1+N1<=9223372036854775807) (∀(y cap':Nat),x_2.1+N1<=cap'->Bb (Z0<=(NI x_2.1)/\(NI x_2.1)<(NI (x_2.1+N1))) ((SM y/\Bb (TN x_2.1<x_2.1+N1) (SM x/\K8 x i n a/\((∃(x_5:Unit),True/\Q3 x kk sd nud t n x_5<n-x_2.1/\(IntKind.wrap IntKind.i64 ((NI x_2.1)+Z1)=Z0/\True)/\StTo (St.mk [((19:Nat),y,AObj.vec N4 (x_2.1+N1) cap' (BM (By x_2.1 (itS (QA a) (i*n)) fun i=>Kd i) (TN x_2.1) (Ke x_4))),(max (18:Nat) (max ((19:Nat)+N1) N0),x_3,AObj.cells (Kf a i n x_2.1)),((17:Nat),x,AObj.cells [kk,sd,nud,D.vs (19:Nat) y (x_2.1+N1) cap' N4])] [(N1,t)]) (Kq x kk sd nud t))\/∃(x_5:Nat×Nat×Nat),(N0<x_5.1/\x_5.1<=n/\x_5.1<=x_5.2.2)/\n-x_5.1<n-x_2.1/\(IntKind.wrap IntKind.i64 ((NI x_2.1)+Z1)=(NI x_5.1)/\True)/\StTo (St.mk [((19:Nat),y,AObj.vec N4 (x_2.1+N1) cap' (BM (By x_2.1 (itS (QA a) (i*n)) fun i=>Kd i) (TN x_2.1) (Ke x_4))),(max (18:Nat) (max ((19:Nat)+N1) N0),x_3,AObj.cells (Kf a i n x_2.1)),((17:Nat),x,AObj.cells [kk,sd,nud,D.vs (19:Nat) y (x_2.1+N1) cap' N4])] [(N1,t)]) (KI x kk sd nud x_5.2.1 x_5.1 x_5.2.2 a i n t))))/\SM x/\SM y/\Bb (TN x_2.1<x_2.1+N1) (K8 x i n a/\((∃(x_5:Unit),True/\Q3 x kk sd nud t n x_5<n-x_2.1/\(IntKind.wrap IntKind.i64 ((NI x_2.1)+Z1)=Z0/\True)/\StTo (St.mk [((19:Nat),y,AObj.vec N4 (x_2.1+N1) cap' (BM (By x_2.1 (itS (QA a) (i*n)) fun i=>Kd i) (TN x_2.1) (Ke x_4))),(max (18:Nat) (max ((19:Nat)+N1) N0),x_3,AObj.cells (Kf a i n x_2.1)),((17:Nat),x,AObj.cells [kk,sd,nud,D.vs (19:Nat) y (x_2.1+N1) cap' N4])] [(N1,t)]) (Kq x kk sd nud t))\/∃(x_5:Nat×Nat×Nat),(N0<x_5.1/\x_5.1<=n/\x_5.1<=x_5.2.2)/\n-x_5.1<n-x_2.1/\(IntKind.wrap IntKind.i64 ((NI x_2.1)+Z1)=(NI x_5.1)/\True)/\StTo (St.mk [((19:Nat),y,AObj.vec N4 (x_2.1+N1) cap' (BM (By x_2.1 (itS (QA a) (i*n)) fun i=>Kd i) (TN x_2.1) (Ke x_4))),(max (18:Nat) (max ((19:Nat)+N1) N0),x_3,AObj.cells (Kf a i n x_2.1)),((17:Nat),x,AObj.cells [kk,sd,nud,D.vs (19:Nat) y (x_2.1+N1) cap' N4])] [(N1,t)]) (KI x kk sd nud x_5.2.1 x_5.1 x_5.2.2 a i n t))))))/\(SM x_3/\SM (Qgb a i n x_2.1))/\Xh x x_2.2.1 x_2.1 x_2.2.2/\∃(x_4:Arr),Qdj a i n x_2.1 x_4/\∀(y:Unit),True->Xh x x_2.2.1 x_2.1 x_2.2.2/\SM x_2.2.1/\SM x_2.2.2/\Bb (x_2.1<=x_2.1/\(x_2.1+N1)*80<=140737488355328/\x_2.1+N1<=9223372036854775807) (∀(y cap':Nat),x_2.1+N1<=cap'->Bb (Z0<=(NI x_2.1)/\(NI x_2.1)<(NI (x_2.1+N1))) ((SM y/\Bb (TN x_2.1<x_2.1+N1) (SM x/\K8 x i n a/\((∃(x_5:Unit),True/\Q3 x kk sd nud t n x_5<n-x_2.1/\(IntKind.wrap IntKind.i64 ((NI x_2.1)+Z1)=Z0/\True)/\StTo (St.mk [((19:Nat),y,AObj.vec N4 (x_2.1+N1) cap' (BM (By x_2.1 (itS (QA a) (i*n)) fun i=>Kd i) (TN x_2.1) (Ke x_4))),(max (18:Nat) (max ((19:Nat)+N1) N0),x_3,AObj.cells (Kf a i n x_2.1)),((17:Nat),x,AObj.cells [kk,sd,nud,D.vs (19:Nat) y (x_2.1+N1) cap' N4])] [(N1,t)]) (Kq x kk sd nud t))\/∃(x_5:Nat×Nat×Nat),(N0<x_5.1/\x_5.1<=n/\x_5.1<=x_5.2.2)/\n-x_5.1<n-x_2.1/\(IntKind.wrap IntKind.i64 ((NI x_2.1)+Z1)=(NI x_5.1)/\True)/\StTo (St.mk [((19:Nat),y,AObj.vec N4 (x_2.1+N1) cap' (BM (By x_2.1 (itS (QA a) (i*n)) fun i=>Kd i) (TN x_2.1) (Ke x_4))),(max (18:Nat) (max ((19:Nat)+N1) N0),x_3,AObj.cells (Kf a i n x_2.1)),((17:Nat),x,AObj.cells [kk,sd,nud,D.vs (19:Nat) y (x_2.1+N1) cap' N4])] [(N1,t)]) (KI x kk sd nud x_5.2.1 x_5.1 x_5.2.2 a i n t))))/\SM x/\SM y/\Bb (TN x_2.1<x_2.1+N1) (K8 x i n a/\((∃(x_5:Unit),True/\Q3 x kk sd nud t n x_5<n-x_2.1/\(IntKind.wrap IntKind.i64 ((NI x_2.1)+Z1)=Z0/\True)/\StTo (St.mk [((19:Nat),y,AObj.vec N4 (x_2.1+N1) cap' (BM (By x_2.1 (itS (QA a) (i*n)) fun i=>Kd i) (TN x_2.1) (Ke x_4))),(max (18:Nat) (max ((19:Nat)+N1) N0),x_3,AObj.cells (Kf a i n x_2.1)),((17:Nat),x,AObj.cells [kk,sd,nud,D.vs (19:Nat) y (x_2.1+N1) cap' N4])] [(N1,t)]) (Kq x kk sd nud t))\/∃(x_5:Nat×Nat×Nat),(N0<x_5.1/\x_5.1<=n/\x_5.1<=x_5.2.2)/\n-x_5.1<n-x_2.1/\(IntKind.wrap IntKind.i64 ((NI x_2.1)+Z1)=(NI x_5.1)/\True)/\StTo (St.mk [((19:Nat),y,AObj.vec N4 (x_2.1+N1) cap' (BM (By x_2.1 (itS (QA a) (i*n)) fun i=>Kd i) (TN x_2.1) (Ke x_4))),(max (18:Nat) (max ((19:Nat)+N1) N0),x_3,AObj.cells (Kf a i n x_2.1)),((17:Nat),x,AObj.cells [kk,sd,nud,D.vs (19:Nat) y (x_2.1+N1) cap' N4])] [(N1,t)]) (KI x kk sd nud x_5.2.1 x_5.1 x_5.2.2 a i n t))))))) (True/\∃(y:Nat×Nat),n<=y.2/\True/\(SM x/\(Be kk kk/\Be sd sd/\Be nud nud/\(x_2.2.1=y.1/\x_2.1=n/\x_2.2.2=y.2)/\True)/\x_2.2.1=y.1/\(x_2.1=n/\x_2.2.2=y.2/\∀(i_1:Nat),i_1<x_2.1->SM (itS (QA a) (i*n) i_1))/\True)/\SM t/\True)))) (by kernel_rfl) ?_
 delta DA GI LN N0 N1 N4 NI SI SM TN Z0 Z1 ZI Xa Xb JQ Qf4 Qf5 QcW JR QcX QcY QcZ Kq KI Zi Xc Qc0 JS Xd Qc1 Qc2 Zl Qc3 Qc4 Zm QA Qc5 Qc6 Zn Qc7 Zo Qc8 Zp Xe Qf6 Qf7 JP Qc9 Qf8 Qf9 K8 Q3 Kd Ke Qda Xf Qdb Zj Qga Xg Qdc Qdd Zq Qde Qdf Zr Qdg Qdh QcU Zs Qdi Qdj Xh Kf Qgb Zk QcV Kp
 have da:(default:Arr)=Arr.mk 0 [] [] []:=rfl
 simp only[<- da]
 simp only[ne_eq,implies_true,Int.toNat_natCast,Bn,Bd,decide_eq_true_eq,decide_eq_false_iff_not,true_and,and_true,beq_iff_eq,beq_eq_false_iff_ne,exists_const,forall_const,Prod.exists]
 obtain ⟨hv,hs,hl,hm,hn⟩:=h
 have hsl:0<a.sh.length:=List.length_pos_iff.2 hs
 have ew:IntKind.i64.wrap ((i:Int)*(n:Int))=((i*n:Nat):Int):=by
  rw[show (i:Int)*(n:Int)=((i*n:Nat):Int) by push_cast;rfl]
  exact Bc (by omega) (by omega)
 have ew2:IntKind.i64.wrap (((i*n:Nat):Int)+(n:Int))=((i*n+n:Nat):Int):=by
  rw[show ((i*n:Nat):Int)+(n:Int)=((i*n+n:Nat):Int) by push_cast;rfl]
  exact Bc (by omega) (by omega)
 have es:i*n+n-i*n=n:=by omega
 simp only[ew,ew2,Int.toNat_natCast,es]
 have hb:∀j,j<n->(Bi (a.it.getD (i*n+j) default)).1=0:=fun j hj=>hv _ (CC (by omega))
 refine fun y0 hy0=>⟨fun e=>absurd e (by omega),fun _=>⟨⟨by omega,by omega,by omega⟩,.inl BdS,⟨fun _=>⟨⟨by omega,by omega⟩,fun y1 _=>⟨?_,?_⟩⟩,fun e=>absurd e (by omega)⟩,?_⟩⟩
 iterate 2
  ·refine⟨a.it.getD (i*n+0) default,⟨⟨rfl,⟨rfl,fun _ _=>rfl⟩,⟨rfl,fun _ _=>rfl⟩,rfl,fun _ _=>Bf _⟩,hb 0 hn⟩,fun y c _ hc=>?_⟩
   constructor
   all_goals
    refine .inr ⟨1,y,c,⟨by omega,by omega,hc⟩,by omega,rfl,?_⟩
    apply Bdg
    intro j hj
    obtain rfl:j=0:=by omega
    rfl
 ·rintro ⟨m,v,c0⟩ ⟨m1,m2,m3⟩
  simp only at m1 m2 m3 ⊢
  refine⟨fun hlt=>⟨⟨by omega,by omega⟩,fun y1 _=>⟨?_,?_⟩⟩,fun hge=>⟨v,c0,by omega,⟨Bg _,Bg _,Bg _,rfl,by omega,rfl⟩,rfl,by omega,rfl⟩⟩
  iterate 2
   ·refine⟨a.it.getD (i*n+m) default,⟨⟨rfl,⟨rfl,fun _ _=>rfl⟩,⟨rfl,fun _ _=>rfl⟩,rfl,fun _ _=>Bf _⟩,hb m (by omega)⟩,⟨Nat.le_refl _,by omega,by omega⟩,fun y c hc=>⟨⟨by omega,by omega⟩,?_,?_⟩⟩
    iterate 2
     ·refine⟨by omega,.inr ⟨m+1,y,c,⟨by omega,by omega,hc⟩,by omega,Bc (by omega) (by omega),?_⟩⟩
      apply Bdg
      intro j hj
      exact RF (fun _=>rfl) hj
def sAv(a:Arr)(s:List Int)(kk sd nud:D)(i n x t v len cap:Nat)(g:Nat->List D):FnSpec where
 β:=Unit
 α:=Nat×Nat
 args:=fun _=>[.agg [.int .i64 3,isl a.sh .any,isl a.nu .any,gsl 4 Arr.row1 a.it,isl s .any],.ref 17 x 0,.int .i64 i,.int .i64 n]
 st:=fun _=>⟨[(17,x,.cells [kk,sd,nud,.vs 19 v len cap 4]),(19,v,.vec 4 len cap g)],[(1,t)]⟩
 pre:=fun _=>(∀b∈a.it,(Bi b).1=0)/\a.sh≠[]/\i*n+n<=a.it.length/\a.it.length<=1000000/\len<=1000000/\len<=cap
 post:=fun _ y=>len+n<=y.2
 res:=fun _ _=>.ret (.tup [])
 out:=fun _ y=>⟨[(17,x,.cells [kk,sd,nud,.vs 19 y.1 (len+n) y.2 4]),(19,y.1,.vec 4 (len+n) y.2 (By len g (itS a.it (i*n))))],[(1,t)]⟩
noncomputable def Eav(a:Arr)(_s:List Int)(kk sd nud:D)(i n len:Nat)(g:Nat->List D):Senv:={ EC OJ 108 5 [8,10,15,16,17,18,22,57,89,90,91,92] (fun id=>match id with | 5=>([0,1,2,3,4,5,6,7,8,10,9,11,12,13,15,16,14,17],[9,11,12,14,17]) | 6=>([0,1,2,3,4,5,6,7,8,9,10,11,12,13,14],[10,11,14]) | 15=>([0,1,2,3,4,6,5,7,8,9,11,12,10,13],[5,7,8,10,13]) | _=>([],[])) with
 own:=fun t=>Nat.beq t 24
 ann:=fun b env S=>match b with
  |2=>match Ab.look env 1 with
   |.ref k1 x1 _=>some
     { slots:=[91],keep:=[1,89,90],α:=Nat×Nat×Nat,st:=fun y=>([.int .i64 y.1],⟨[(k1,x1,.cells [kk,sd,nud,.vs 19 y.2.1 (len+y.1) y.2.2 4]),(19,y.2.1,.vec 4 (len+y.1) y.2.2 (By len g (itS a.it (i*n))))],S.toks⟩),inv:=fun y=>y.1<=n/\len+y.1<=y.2.2,mu:=fun y=>n-y.1 }
   |_=>none
  |_=>none }
def Xi(a b:Nat):Int:=IntKind.wrap IntKind.i64 ((↑a:Int)*(↑b:Int))
def Zt(a b:Nat):Int:=IntKind.wrap IntKind.i64 (Xi a b+(↑b:Int))
def QF(a:Arr):List Arr:=Arr.it a
def K9(a:Nat)(b:Nat->List D)(c:Arr)(d e f:Nat):List D:=By a b (itS (QF c) (d*e)) f
def Zu(a b:Nat):Nat:=Int.toNat (Xi a b)
def Qdk(a b:Nat):Nat:=Int.toNat (Zt a b)-Zu a b
def Zv(a b:Nat):Int:=(NI (Qdk a b))
def JT:Arr:=DA
def Xj(a:Arr)(b c d:Nat):Arr:=List.getD (QF a) (Zu b c+Int.toNat (↑d:Int)) JT
def Qdl(a:Arr)(b c d:Nat):Int:=Arr.k (Xj a b c d)
def Qdm(a:Arr)(b c d:Nat):List Int:=Arr.sh (Xj a b c d)
def Zw(a:Arr)(b c d:Nat):Nat:=LN (Qdm a b c d)
def Qdn(a:Arr)(b c d e:Nat):Int:=GI (Qdm a b c d) e
def Qdo(a:Arr)(b c d:Nat):List Int:=Arr.nu (Xj a b c d)
def Zx(a:Arr)(b c d:Nat):Nat:=LN (Qdo a b c d)
def Qdp(a:Arr)(b c d e:Nat):Int:=GI (Qdo a b c d) e
def Qdq(a:Arr)(b c d:Nat):List Arr:=Arr.it (Xj a b c d)
def Zy(a:Arr)(b c d:Nat):Nat:=LN (Qdq a b c d)
def Qdr(a:Arr)(b c d e:Nat):List D:=Arr.row (List.getD (Qdq a b c d) e JT)
def JU(a:Arr)(b:Nat):List D:=Arr.row (List.getD (QF a) b JT)
def Qds(a:Arr)(b c d:Nat)(e:Arr):Prop:=((Qdl a b c d=Arr.k e/\(Zw a b c d=LN (Arr.sh e)/\(∀(i:Nat),i<Zw a b c d->Qdn a b c d i=GI (Arr.sh e) i/\True)/\True)/\(Zx a b c d=LN (Arr.nu e)/\(∀(i:Nat),i<Zx a b c d->Qdp a b c d i=GI (Arr.nu e) i/\True)/\True)/\(Zy a b c d=LN (QF e)/\(∀(i:Nat),i<Zy a b c d->wkL (Qdr a b c d i) (JU e i))/\True)/\True)/\True)/\Prod.fst (Bi e)=Z0
def Xk(a b c d e:Nat):Prop:=SM a/\SM (D.vs (19:Nat) b (c+d) e N4)
def Xl(a:Arr)(b c d:Nat):Arr:=List.getD (QF a) (Zu b c+d) JT
def Qgc(a:Arr)(b c d:Nat):List Int:=Arr.sh (Xl a b c d)
def Qgd(a:Arr)(b c d:Nat):List Int:=Arr.nu (Xl a b c d)
def Qdt(a:Arr)(b c d:Nat):List Arr:=Arr.it (Xl a b c d)
def Xm(a b:Nat)(c:Arr):D:=D.sl N4 (Qdk a b) (fun i=>[ZI (Arr.k (Xl c a b i)),SI (Qgc c a b i),SI (Qgd c a b i),D.sl N4 (LN (Qdt c a b i)) (fun i_1=>Arr.row (List.getD (Qdt c a b i) i_1 JT)) Mode.any]) Mode.any
def Xn(a b:Nat):D:=ZI (Zv a b)
def QP:D:=D.sl N1 N0 (fun _x=>[]) Mode.nil
def Qge(a:Arr)(b c d:Nat):D:=D.agg [ZI (Qdl a b c d),D.sl N1 (Zw a b c d) (fun i=>[ZI (Qdn a b c d i)]) Mode.any,D.sl N1 (Zx a b c d) (fun i=>[ZI (Qdp a b c d i)]) Mode.any,D.sl N4 (Zy a b c d) (fun i=>Qdr a b c d i) Mode.any]
theorem Bea(a:Arr)(s:List Int)(kk sd nud:D)(i n x t v len cap:Nat)(g:Nat->List D)(h:(sAv a s kk sd nud i n x t v len cap g).pre ()):ACalls Try.prog 41 ((sAv a s kk sd nud i n x t v len cap g).args ()) ((sAv a s kk sd nud i n x t v len cap g).st ()) (SpecR (sAv a s kk sd nud i n x t v len cap g) ()):=by
 refine Bp (A:=sAv a s kk sd nud i n x t v len cap g) (x:=()) (E:=Eav a s kk sd nud i n len g) (eOk Is rfl) Try.func41 rfl (by kernel_rfl) rfl (by simp[sAv,Eav,EC,E0]) ?_
 refine Bt (T :=
  ∀(x_1:Nat),x≠x_1/\v≠x_1/\True->SM x_1/\ifB ((LI (Arr.sh a))==Z0) False (SM x_1/\SM x_1/\Bb (Z0<=Xi i n/\Xi i n<=Zt i n/\Zt i n<=(LI (QF a))) ((∃(x_2:Nat×Nat×Nat),(x_2.1<=n/\len+x_2.1<=x_2.2.2)/\(Z0=(NI x_2.1)/\True)/\(SM x/\(Be kk kk/\Be sd sd/\Be nud nud/\(v=x_2.2.1/\len=len+x_2.1/\cap=x_2.2.2)/\True)/\v=x_2.2.1/\(len=len+x_2.1/\cap=x_2.2.2/\∀(i_1:Nat),i_1<len->g i_1=K9 len g a i n i_1)/\True)/\SM t/\True)/\∀(x_2:Nat×Nat×Nat),x_2.1<=n/\len+x_2.1<=x_2.2.2->ifB (decide ((NI x_2.1)<Zv i n)) (Bb (Z0<=(NI x_2.1)/\(NI x_2.1)<Zv i n) (∀(x_3:Nat),x≠x_3/\x_2.2.1≠x_3/\True->SM x_3/\SM x/\SM x_3/\(∃(x_4:Arr),Qds a i n x_2.1 x_4/\∀(y:Unit),True->Xk x x_2.2.1 len x_2.1 x_2.2.2/\Xk x x_2.2.1 len x_2.1 x_2.2.2/\SM x_2.2.1/\SM x_2.2.2/\Bb (len+x_2.1<=len+x_2.1/\(len+x_2.1+N1)*80<=140737488355328/\len+x_2.1+N1<=9223372036854775807) (∀(y cap':Nat),len+x_2.1+N1<=cap'->Bb (Z0<=(NI (len+x_2.1))/\(NI (len+x_2.1))<(NI (len+x_2.1+N1))) ((SM y/\Bb (TN (len+x_2.1)<len+x_2.1+N1) (SM x/\(SM (D.ref (17:Nat) x N0)/\SM (Xm i n a)/\SM (Xn i n)/\True)/\∃(y_1:Nat×Nat×Nat),(y_1.1<=n/\len+y_1.1<=y_1.2.2)/\n-y_1.1<n-x_2.1/\(IntKind.wrap IntKind.i64 ((NI x_2.1)+Z1)=(NI y_1.1)/\True)/\(SM x/\(Be kk kk/\Be sd sd/\Be nud nud/\(y=y_1.2.1/\len+x_2.1+N1=len+y_1.1/\cap'=y_1.2.2)/\True)/\y=y_1.2.1/\(len+x_2.1+N1=len+y_1.1/\cap'=y_1.2.2/\∀(i_1:Nat),i_1<len+x_2.1+N1->BM (By (len+x_2.1) (By len g (itS (QF a) (i*n))) fun i=>List.getD [[ZI Z0,QP,QP,QP]] i []) (TN (len+x_2.1)) [ZI (Arr.k x_4),SI (Arr.sh x_4),SI (Arr.nu x_4),D.sl N4 (LN (QF x_4)) (fun i=>JU x_4 i) Mode.any] i_1=K9 len g a i n i_1)/\True)/\SM t/\True))/\SM x/\SM y/\Bb (TN (len+x_2.1)<len+x_2.1+N1) ((SM (D.ref (17:Nat) x N0)/\SM (Xm i n a)/\SM (Xn i n)/\True)/\∃(y_1:Nat×Nat×Nat),(y_1.1<=n/\len+y_1.1<=y_1.2.2)/\n-y_1.1<n-x_2.1/\(IntKind.wrap IntKind.i64 ((NI x_2.1)+Z1)=(NI y_1.1)/\True)/\(SM x/\(Be kk kk/\Be sd sd/\Be nud nud/\(y=y_1.2.1/\len+x_2.1+N1=len+y_1.1/\cap'=y_1.2.2)/\True)/\y=y_1.2.1/\(len+x_2.1+N1=len+y_1.1/\cap'=y_1.2.2/\∀(i_1:Nat),i_1<len+x_2.1+N1->BM (By (len+x_2.1) (By len g (itS (QF a) (i*n))) fun i=>List.getD [[ZI Z0,QP,QP,QP]] i []) (TN (len+x_2.1)) [ZI (Arr.k x_4),SI (Arr.sh x_4),SI (Arr.nu x_4),D.sl N4 (LN (QF x_4)) (fun i=>JU x_4 i) Mode.any] i_1=K9 len g a i n i_1)/\True)/\SM t/\True))))/\(SM x_3/\SM (Qge a i n x_2.1))/\Xk x x_2.2.1 len x_2.1 x_2.2.2/\∃(x_4:Arr),Qds a i n x_2.1 x_4/\∀(y:Unit),True->Xk x x_2.2.1 len x_2.1 x_2.2.2/\SM x_2.2.1/\SM x_2.2.2/\Bb (len+x_2.1<=len+x_2.1/\(len+x_2.1+N1)*80<=140737488355328/\len+x_2.1+N1<=9223372036854775807) (∀(y cap':Nat),len+x_2.1+N1<=cap'->Bb (Z0<=(NI (len+x_2.1))/\(NI (len+x_2.1))<(NI (len+x_2.1+N1))) ((SM y/\Bb (TN (len+x_2.1)<len+x_2.1+N1) (SM x/\(SM (D.ref (17:Nat) x N0)/\SM (Xm i n a)/\SM (Xn i n)/\True)/\∃(y_1:Nat×Nat×Nat),(y_1.1<=n/\len+y_1.1<=y_1.2.2)/\n-y_1.1<n-x_2.1/\(IntKind.wrap IntKind.i64 ((NI x_2.1)+Z1)=(NI y_1.1)/\True)/\(SM x/\(Be kk kk/\Be sd sd/\Be nud nud/\(y=y_1.2.1/\len+x_2.1+N1=len+y_1.1/\cap'=y_1.2.2)/\True)/\y=y_1.2.1/\(len+x_2.1+N1=len+y_1.1/\cap'=y_1.2.2/\∀(i_1:Nat),i_1<len+x_2.1+N1->BM (By (len+x_2.1) (By len g (itS (QF a) (i*n))) fun i=>List.getD [[ZI Z0,QP,QP,QP]] i []) (TN (len+x_2.1)) [ZI (Arr.k x_4),SI (Arr.sh x_4),SI (Arr.nu x_4),D.sl N4 (LN (QF x_4)) (fun i=>JU x_4 i) Mode.any] i_1=K9 len g a i n i_1)/\True)/\SM t/\True))/\SM x/\SM y/\Bb (TN (len+x_2.1)<len+x_2.1+N1) ((SM (D.ref (17:Nat) x N0)/\SM (Xm i n a)/\SM (Xn i n)/\True)/\∃(y_1:Nat×Nat×Nat),(y_1.1<=n/\len+y_1.1<=y_1.2.2)/\n-y_1.1<n-x_2.1/\(IntKind.wrap IntKind.i64 ((NI x_2.1)+Z1)=(NI y_1.1)/\True)/\(SM x/\(Be kk kk/\Be sd sd/\Be nud nud/\(y=y_1.2.1/\len+x_2.1+N1=len+y_1.1/\cap'=y_1.2.2)/\True)/\y=y_1.2.1/\(len+x_2.1+N1=len+y_1.1/\cap'=y_1.2.2/\∀(i_1:Nat),i_1<len+x_2.1+N1->BM (By (len+x_2.1) (By len g (itS (QF a) (i*n))) fun i=>List.getD [[ZI Z0,QP,QP,QP]] i []) (TN (len+x_2.1)) [ZI (Arr.k x_4),SI (Arr.sh x_4),SI (Arr.nu x_4),D.sl N4 (LN (QF x_4)) (fun i=>JU x_4 i) Mode.any] i_1=K9 len g a i n i_1)/\True)/\SM t/\True))))) (True/\∃(y:Nat×Nat),len+n<=y.2/\True/\(SM x/\(Be kk kk/\Be sd sd/\Be nud nud/\(x_2.2.1=y.1/\len+x_2.1=len+n/\x_2.2.2=y.2)/\True)/\x_2.2.1=y.1/\(len+x_2.1=len+n/\x_2.2.2=y.2/\∀(i_1:Nat),i_1<len+x_2.1->SM (K9 len g a i n i_1))/\True)/\SM t/\True)))) (by kernel_rfl) ?_
 delta DA GI LI LN N0 N1 N4 NI SI SM TN Z0 Z1 ZI Xi Zt Qdm Zw Qdn Qdo Zx Qdp Qdq Zy Qdr JU QF Qds Xk Xl Qgc Qgd Qdt Xm Xn QP Qge K9 Zu Qdk Zv JT Xj Qdl
 have da:(default:Arr)=Arr.mk 0 [] [] []:=rfl
 simp only[<- da]
 simp only[ne_eq,implies_true,Int.toNat_natCast,Bn,Bd,decide_eq_true_eq,decide_eq_false_iff_not,true_and,and_true,beq_iff_eq,beq_eq_false_iff_ne,forall_const,Prod.exists]
 obtain ⟨hv,hs,hl,hm,hlen,hcap⟩:=h
 have hsl:0<a.sh.length:=List.length_pos_iff.2 hs
 have ew:IntKind.i64.wrap ((i:Int)*(n:Int))=((i*n:Nat):Int):=by
  rw[show (i:Int)*(n:Int)=((i*n:Nat):Int) by push_cast;rfl]
  exact Bc (by omega) (by omega)
 have ew2:IntKind.i64.wrap (((i*n:Nat):Int)+(n:Int))=((i*n+n:Nat):Int):=by
  rw[show ((i*n:Nat):Int)+(n:Int)=((i*n+n:Nat):Int) by push_cast;rfl]
  exact Bc (by omega) (by omega)
 have es:i*n+n-i*n=n:=by omega
 simp only[ew,ew2,Int.toNat_natCast,es]
 have hb:∀j,j<n->(Bi (a.it.getD (i*n+j) default)).1=0:=fun j hj=>hv _ (CC (by omega))
 refine fun y0 hy0=>⟨fun e=>absurd e (by omega),fun _=>⟨⟨by omega,by omega,by omega⟩,⟨0,v,cap,⟨Nat.zero_le _,hcap⟩,rfl,⟨Bg _,Bg _,Bg _,rfl,rfl,rfl⟩,rfl,rfl,rfl,fun j hj=>(if_pos hj).symm⟩,?_⟩⟩
 rintro ⟨m,u,c0⟩ ⟨m1,m2⟩
 simp only at m1 m2 ⊢
 refine⟨fun hlt=>⟨⟨by omega,by omega⟩,fun y1 _=>⟨?_,?_⟩⟩,fun hge=>⟨u,c0,by omega,⟨Bg _,Bg _,Bg _,rfl,by omega,rfl⟩,rfl,by omega,rfl⟩⟩
 iterate 2
  ·refine⟨a.it.getD (i*n+m) default,⟨⟨rfl,⟨rfl,fun _ _=>rfl⟩,⟨rfl,fun _ _=>rfl⟩,rfl,fun _ _=>Bf _⟩,hb m (by omega)⟩,⟨Nat.le_refl _,by omega,by omega⟩,fun y c hc=>⟨⟨by omega,by omega⟩,?_,?_⟩⟩
   iterate 2
    ·refine⟨by omega,m+1,y,c,⟨by omega,by omega⟩,by omega,Bc (by omega) (by omega),⟨Bg _,Bg _,Bg _,rfl,rfl,rfl⟩,rfl,rfl,rfl,fun j hj=>?_⟩
     refine RF (fun _=>?_) hj
     unfold By
     rw[if_neg (by omega),Nat.add_sub_cancel_left]
     rfl
def sA0(a:Arr)(s:List Int)(kk sd nud:D)(i x t:Nat):FnSpec where
 β:=Unit
 α:=Unit
 args:=fun _=>[.agg [.int .i64 3,isl a.sh .any,isl a.nu .any,gsl 4 Arr.row1 a.it,isl s .any],.ref 17 x 0,.int .i64 i,.int .i64 0]
 st:=fun _=>⟨[(17,x,.cells [kk,sd,nud,nlS])],[(1,t)]⟩
 pre:=fun _=>a.sh≠[]
 post:=fun _ _=>True
 res:=fun _ _=>.ret (.tup [])
 out:=fun _ _=>⟨[(17,x,.cells [kk,sd,nud,nlS])],[(1,t)]⟩
noncomputable def Ea0:Senv:={ EC OJ 108 5 [8,10,15,16,17,18,22,57,89,90,91,92] (fun id=>match id with | 5=>([0,1,2,3,4,5,6,7,8,10,9,11,12,13,15,16,14,17],[9,11,12,14,17]) | 6=>([0,1,2,3,4,5,6,7,8,9,10,11,12,13,14],[10,11,14]) | 15=>([0,1,2,3,4,6,5,7,8,9,11,12,10,13],[5,7,8,10,13]) | _=>([],[])) with
 unr:=fun b=>match b with
  |2=>1
  |_=>0 }
theorem Bd2(a:Arr)(s:List Int)(kk sd nud:D)(i x t:Nat)(h:a.sh≠[]):ACalls Try.prog 41 ((sA0 a s kk sd nud i x t).args ()) ((sA0 a s kk sd nud i x t).st ()) (SpecR (sA0 a s kk sd nud i x t) ()):=by
 refine Bp (A:=sA0 a s kk sd nud i x t) (x:=()) (E:=Ea0) (eOk Is rfl) Try.func41 rfl (by kernel_rfl) rfl (by simp[sA0,Ea0,EC,E0]) ?_
 refine Bt (T :=
  ∀(x_1:Nat),x≠x_1/\True->SM x_1/\ifB ((LI (Arr.sh a))==Z0) False (SM x_1/\SM x_1/\True/\∃(y:Unit),True/\True/\(SM x/\(Be kk kk/\Be sd sd/\Be nud nud/\(SM N0/\(∀(i:Nat),i<N0->EY (List D) [] [])/\True)/\True)/\True)/\SM t/\True)) (by kernel_rfl) ?_
 delta LI LN N0 SM Z0
 have da:(default:Arr)=Arr.mk 0 [] [] []:=rfl
 simp only[]
 simp only[ne_eq,implies_true,Bn,true_and,and_true,beq_iff_eq,beq_eq_false_iff_ne,exists_const]
 have hsl:0<a.sh.length:=List.length_pos_iff.2 h
 exact fun y _=>⟨fun e=>absurd e (by omega),fun _=>⟨Bg _,Bg _,Bg _⟩⟩
noncomputable def Esp:Senv:=EC EA 16 3 [4,5,11] (fun _=>([],[]))
def JV(a:Arr):Int:=Arr.k a
def Zz(a:Arr):Int:=Bz (JV a) (LN (Arr.nu a)) (LN (Arr.it a))
def Qdu(a:Nat)(b:Arr):Prop:=SM a/\True/\∃(_y:Unit),True/\(LI (Arr.nu b))=Zz b/\True/\True
def Qdv(a:Arr)(b:Nat):Prop:=ifB (JV a==3) (SM b/\True/\∃(_y:Unit),True/\(LI (Arr.it a))=Zz a/\True/\True) (True/\∃(_y:Unit),True/\Z0=Zz a/\True/\True)
theorem Bd9(a:Arr):CD 65 [.agg a.row2] (.int .i64 (Bz a.k a.nu.length a.it.length)):=by
 refine Bp (A:=sC _ _) (x:=()) (E:=Esp) (eOk BA rfl) Try.func65 rfl (by kernel_rfl) rfl (by simp[sC,Esp,EC,E0]) ?_
 refine Bt (T :=
  ∀(x:Nat),True->SM x/\ifB (JV a==Z1) (ifB (JV a==Z1) (Qdu x a) (Qdv a x)) (ifB (JV a==2) (Qdu x a) (Qdv a x))) (by kernel_rfl) ?_
 delta LI LN SM Z0 Z1 JV Zz Qdu Qdv
 have da:(default:Arr)=Arr.mk 0 [] [] []:=rfl
 simp only[]
 simp only[ne_eq,Bn,true_and,and_true,beq_iff_eq,beq_eq_false_iff_ne,exists_const,forall_const]
 refine⟨fun h=>⟨fun _=>by simp[Bz,h],fun q=>absurd h q⟩,fun h=>⟨fun h2=>by simp[Bz,h2],fun h2=>⟨fun h3=>by simp[Bz,h3],fun h3=>by simp[Bz,h,h2,h3]⟩⟩⟩
theorem Th(k:Int)(l:List Arr){n:Int}(h:262144<n):wtL k l n=n:=by
 cases l with
 |nil=>rw[wtL]
 |cons x r=>rw[wtL,if_neg (by omega)]
theorem Im{k:Int}(h:k≠3)(l:List Arr)(n:Int):wtL k l n=n:=by
 cases l with
 |nil=>rw[wtL]
 |cons x r=>rw[wtL,if_neg (fun q=>h q.1)]
theorem Bax(k:Int)(l:List Arr)(n:Int):min (wtL k l (if 262145<n then 262145 else n)) 262145=min (wtL k l n) 262145:=by
 split
 ·rw[Th k l (show (262144:Int)<262145 by omega),Th k l (show 262144<n by omega)]
  omega
 ·rfl
def BaC(its:List Arr):Con:=fun k ds S=>match k with
 |65=>some (pE (β:=Arr) ds S (fun b=>.int .i64 (Bz b.k b.nu.length b.it.length)) (fun b=>wkL ds [.agg b.row2]))
 |57=>some (pE (β:=Arr) ds S (fun b=>.int .i64 (wtA b)) (fun b=>wkL ds [.agg b.row1]/\b∈its))
 |_=>none
theorem Bb1{its:List Arr}(ih:∀b∈its,CD 57 [.agg b.row2] (.int .i64 (wtA b))):ConOk Try.prog (BaC its):=by
 intro k ds S A h
 unfold BaC at h
 split at h
 ·injection h with h;subst h
  exact Es fun b hb=>CD.at_ (CD.wk (Bd9 b) hb) _
 ·injection h with h;subst h
  refine Es fun b ⟨hb,hm⟩=>CD.at_ (CD.wk (CD.wk (ih b hm) ?_) hb) _
  simp only[wkL,wkD]
  exact⟨Ck b,trivial⟩
 ·cases h
noncomputable def Ewp(a:Arr):Senv:={ EC (BaC a.it) 30 4 [5,11,14,15,16,17,21] (fun _=>([],[])) with
 ann:=fun b _ S=>match b with
  |0=>some { slots:=[3,16],keep:=[1,14,15],α:=Nat×Int,st:=fun y=>([.int .i64 y.2,.int .i64 y.1],S),inv:=fun y=>y.1<=a.it.length/\0<=y.2/\y.2<=262145/\min (wtL a.k (a.it.drop y.1) y.2) 262145=wtA a,mu:=fun y=>a.it.length-y.1 }
  |_=>none }
def KJ(a:Arr):Int:=Arr.k a
def Ja(a:Arr):Nat:=LN (Arr.sh a)
def Xo(a:Arr)(b:Nat):Int:=GI (Arr.sh a) b
def KK(a:Arr):Nat:=LN (Arr.nu a)
def Xp(a:Arr)(b:Nat):Int:=GI (Arr.nu a) b
def JW(a:Arr):List Arr:=Arr.it a
def QQ(a:Arr):Nat:=LN (JW a)
def Xq:Arr:=DA
def JX(a:Arr)(b:Nat):Arr:=List.getD (JW a) b Xq
def ZA(a:Arr)(b:Nat):Int:=Arr.k (JX a b)
def Qdw(a:Arr)(b:Nat):List Int:=Arr.sh (JX a b)
def Xr(a:Arr)(b:Nat):Nat:=LN (Qdw a b)
def ZB(a:Arr)(b c:Nat):Int:=GI (Qdw a b) c
def Qdx(a:Arr)(b:Nat):List Int:=Arr.nu (JX a b)
def Xs(a:Arr)(b:Nat):Nat:=LN (Qdx a b)
def ZC(a:Arr)(b c:Nat):Int:=GI (Qdx a b) c
def Qdy(a:Arr)(b:Nat):List Arr:=Arr.it (JX a b)
def Xt(a:Arr)(b:Nat):Nat:=LN (Qdy a b)
def ZD(a:Arr)(b c:Nat):List D:=Arr.row (List.getD (Qdy a b) c Xq)
def Qdz(a:Arr):Int:=Bz (KJ a) (KK a) (QQ a)
def QdA(a:Arr):Int:=if (262145:Int)<Qdz a then (262145:Int) else Qdz a
def JY(a:Arr):Int:=wtA a
def ZE(a:Nat)(b:Arr)(c:Int):Prop:=a<=QQ b/\Z0<=c/\c<=262145/\min (wtL (KJ b) (List.drop a (JW b)) c) (262145:Int)=JY b
def QdB(a:Arr)(b:Nat):List D:=[ZI (ZA a b),D.sl N1 (Xr a b) (fun i=>[ZI (ZB a b i)]) Mode.any,D.sl N1 (Xs a b) (fun i=>[ZI (ZC a b i)]) Mode.any,D.sl N4 (Xt a b) (fun i=>ZD a b i) Mode.any]
def QdC(a:Nat)(b:Arr):Prop:=(SM a/\(SM (KJ b)/\(SM (Ja b)/\(∀(i:Nat),i<Ja b->SM [ZI (Xo b i)])/\True)/\(SM (KK b)/\(∀(i:Nat),i<KK b->SM [ZI (Xp b i)])/\True)/\(SM (QQ b)/\(∀(i:Nat),i<QQ b->SM (QdB b i))/\True)/\True)/\True)/\True
def ZF(a:Arr):Int:=(NI (QQ a))
def QdD(a:Int)(b:Arr):Prop:=True/\∃(_y:Unit),True/\a=JY b/\True/\True
def Xu(a:Arr)(b:Nat):Arr:=List.getD (JW a) (Int.toNat (↑b:Int)) Xq
def QdE(a:Arr)(b:Nat):List Int:=Arr.sh (Xu a b)
def QdF(a:Arr)(b:Nat):Nat:=LN (QdE a b)
def QdG(a:Arr)(b:Nat):List Int:=Arr.nu (Xu a b)
def QdH(a:Arr)(b:Nat):Nat:=LN (QdG a b)
def QdI(a:Arr)(b:Nat):List Arr:=Arr.it (Xu a b)
def QdJ(a:Arr)(b:Nat):Nat:=LN (QdI a b)
def Qgf(a:Arr):D:=D.sl N4 (QQ a) (fun i=>QdB a i) Mode.any
theorem BcA(a : Arr)(ha : a.nu.length<=maxLen /\ a.it.length<=maxLen /\ a.sh.length<=maxLen)(ih : ∀b∈a.it, CD 57 [.agg b.row2] (.int .i64 (wtA b))) :
  CD 57 [.agg a.row2] (.int .i64 (wtA a)):=by
 refine Bp (A:=sC _ _) (x:=()) (E:=Ewp a) (eOk (Bb1 ih) rfl) Try.func57 rfl (by kernel_rfl) rfl (by simp[sC,Ewp,EC,E0]) ?_
 refine Bt (T :=
  ∀(x:Nat),True->SM x/\∃(x_1:Arr),((KJ a=KJ x_1/\(Ja a=Ja x_1/\(∀(i:Nat),i<Ja a->Xo a i=Xo x_1 i/\True)/\True)/\(KK a=KK x_1/\(∀(i:Nat),i<KK a->Xp a i=Xp x_1 i/\True)/\True)/\(QQ a=QQ x_1/\(∀(i:Nat),i<QQ a->ZA a i=ZA x_1 i/\(Xr a i=Xr x_1 i/\(∀(i_1:Nat),i_1<Xr a i->ZB a i i_1=ZB x_1 i i_1/\True)/\True)/\(Xs a i=Xs x_1 i/\(∀(i_1:Nat),i_1<Xs a i->ZC a i i_1=ZC x_1 i i_1/\True)/\True)/\(Xt a i=Xt x_1 i/\(∀(i_1:Nat),i_1<Xt a i->wkL (ZD a i i_1) (ZD x_1 i i_1))/\True)/\True)/\True)/\True)/\True)/\∀(y:Unit),True->SM x/\ifB (KJ a != (3:Int)) (RT (QdA x_1=JY a)) (SM x/\(∃(x_2:Nat×Int),ZE x_2.1 a x_2.2/\(QdA x_1=x_2.2/\Z0=(NI x_2.1)/\True)/\QdC x a)/\∀(x_2:Nat×Int),ZE x_2.1 a x_2.2->ifB (decide ((NI x_2.1)<ZF a)) (Bb (Z0<=(NI x_2.1)/\(NI x_2.1)<ZF a) (∀(x_3:Nat),x≠x_3/\True->SM x_3/\ifB (decide ((262144:Int)<x_2.2)) (QdD x_2.2 a) (SM x_3/\∃(x_4:Arr),(((Arr.k (Xu a x_2.1)=KJ x_4/\(QdF a x_2.1=Ja x_4/\(∀(i:Nat),i<QdF a x_2.1->GI (QdE a x_2.1) i=Xo x_4 i/\True)/\True)/\(QdH a x_2.1=KK x_4/\(∀(i:Nat),i<QdH a x_2.1->GI (QdG a x_2.1) i=Xp x_4 i/\True)/\True)/\(QdJ a x_2.1=QQ x_4/\(∀(i:Nat),i<QdJ a x_2.1->wkL (Arr.row (List.getD (QdI a x_2.1) i Xq)) (Arr.row (JX x_4 i)))/\True)/\True)/\True)/\x_4∈JW a)/\∀(y:Unit),True->(SM (D.ref N0 x N0)/\SM (Qgf a)/\SM (ZI (ZF a))/\True)/\∃(y:Nat×Int),ZE y.1 a y.2/\QQ a-y.1<QQ a-x_2.1/\((if (262145:Int)<IntKind.wrap IntKind.i64 (x_2.2+JY x_4) then (262145:Int) else IntKind.wrap IntKind.i64 (x_2.2+JY x_4))=y.2/\IntKind.wrap IntKind.i64 ((NI x_2.1)+Z1)=(NI y.1)/\True)/\QdC x a))) (QdD x_2.2 a))) (by kernel_rfl) ?_
 delta DA GI LN N0 N1 N4 NI SM Z0 Z1 ZI QQ Xq JX ZA Qdw Xr ZB Qdx Xs ZC Qdy Xt ZD Qdz QdA JY ZE QdB QdC ZF QdD Xu QdE QdF QdG QdH QdI QdJ Qgf KJ Ja Xo KK Xp JW RT
 have da:(default:Arr)=Arr.mk 0 [] [] []:=rfl
 simp only[<- da]
 simp only[ne_eq,implies_true,Int.toNat_natCast,Bn,Bd,decide_eq_true_eq,decide_eq_false_iff_not,true_and,and_true,bne_iff_ne,bne_eq_false_iff_eq,exists_const,forall_const,Prod.exists]
 have hw:=WG a
 have hsz:0<=Bz a.k a.nu.length a.it.length:=by
  unfold Bz;split<;>(try split)<;>omega
 obtain ⟨l1,l2,l3⟩:=ha
 simp only[maxLen] at l1 l2 l3
 refine fun y=>⟨a,⟨rfl,⟨rfl,fun _ _=>rfl⟩,⟨rfl,fun _ _=>rfl⟩,rfl,fun i hi=>⟨rfl,⟨rfl,fun _ _=>rfl⟩,⟨rfl,fun _ _=>rfl⟩,rfl,fun _ _=>Bf _⟩⟩,fun h3=>?_,fun h3=>⟨⟨0,_,⟨Nat.zero_le _,?_,?_,?_⟩,rfl,rfl⟩,?_⟩⟩
 ·rw[hw,Im h3];split<;>omega
 ·split<;>omega
 ·split<;>omega
 ·rw[List.drop_zero,Bax,hw]
 rintro ⟨j,n⟩ ⟨b1,b2,b3,hch⟩
 simp only at b1 b2 b3 hch ⊢
 refine⟨fun hlt=>⟨⟨by omega,hlt⟩,fun y1 _=>⟨fun hn=>?_,fun hn=>⟨a.it.getD j default,⟨⟨rfl,⟨rfl,fun _ _=>rfl⟩,⟨rfl,fun _ _=>rfl⟩,rfl,fun _ _=>Bf _⟩,CC (by omega)⟩,j+1,_,⟨by omega,?_,?_,?_⟩,by omega,rfl,Bc (by omega) (by omega)⟩⟩⟩,fun hge=>?_⟩
 ·rw[Th _ _ hn] at hch;omega
 all_goals try have hbd:=Cl (a.it.getD j default)
 ·rw[Bc (by omega) (by omega)];split<;>omega
 ·split<;>omega
 ·rw[Bc (by omega) (by omega),Bax]
  rw[Cb (by omega),wtL,if_pos ⟨h3,by omega⟩] at hch
  exact hch
 ·rw[List.drop_eq_nil_of_le (by omega),wtL] at hch
  omega
theorem BaB:∀(a:Arr),a.ok->CD 57 [.agg a.row2] (.int .i64 (wtA a))
 |.mk k s n is,h=>by
  have h':=h
  simp only[Arr.ok] at h'
  obtain ⟨_,_,_,h1,h2,h3,h4⟩:=h'
  refine BcA (.mk k s n is) ⟨h2,h3,h1⟩ fun b hb=>?_
  have hb':b∈is:=hb
  exact BaB b ((Ce _).1 h4 b hb')
termination_by a=>SizeOf.sizeOf a
decreasing_by
 have:=List.sizeOf_lt_of_mem hb'
 simp;omega
def exD(a:Arr)(s:List Int):D:=.agg [.int .i64 a.k,isl a.sh .any,isl a.nu .any,gsl 4 Arr.row a.it,isl s .any]
def Bcb:Con:=fun k ds S=>match k with
 |57=>some (pE (β:=Arr) ds S (fun b=>.int .i64 (wtA b)) (fun b=>wkL ds [.agg b.row1]/\b.ok))
 |46=>some (pE (β:=List Int) ds S (fun l=>.int .i64 (prL (shN l):Nat)) (fun l=>wkL ds [isl l .any]/\Bk l=true))
 |_=>none
theorem Bbl:ConOk Try.prog Bcb:=by
 intro k ds S A h
 unfold Bcb at h
 split at h
 ·injection h with h;subst h
  refine Es fun b ⟨hb,hm⟩=>CD.at_ (CD.wk (CD.wk (BaB b hm) ?_) hb) _
  simp only[wkL,wkD]
  exact⟨Ck b,trivial⟩
 ·injection h with h;subst h
  refine Es fun b ⟨hb,hr⟩=>CD.at_ (CD.wk ?_ hb) _
  have:=I8 b hr
  rw[Gr hr] at this
  exact this
 ·cases h
noncomputable def Esw:Senv:=EC Bcb 18 3 [7] (fun id=>match id with | 2=>([0,1,3,4,2,5,6,7],[2,5]) | _=>([],[]))
def JZ(a:Arr):Nat:=LN (Arr.sh a)
def ZG(a:Arr)(b:Nat):Int:=GI (Arr.sh a) b
def Xv(a:Arr):Nat:=LN (Arr.nu a)
def ZH(a:Arr)(b:Nat):Int:=GI (Arr.nu a) b
def Xw(a:Arr):Nat:=LN (Arr.it a)
def ZJ(a:Arr)(b:Nat):List D:=Arr.row (GA (Arr.it a) b)
def Qgg(a:Arr):D:=D.agg [ZI (Arr.k a),D.sl N1 (JZ a) (fun i=>[ZI (ZG a i)]) Mode.any,D.sl N1 (Xv a) (fun i=>[ZI (ZH a i)]) Mode.any,D.sl N4 (Xw a) (fun i=>ZJ a i) Mode.any]
def QdK(a b:Arr):Prop:=((Arr.k a=Arr.k b/\(JZ a=JZ b/\(∀(i:Nat),i<JZ a->ZG a i=ZG b i/\True)/\True)/\(Xv a=Xv b/\(∀(i:Nat),i<Xv a->ZH a i=ZH b i/\True)/\True)/\(Xw a=Xw b/\(∀(i:Nat),i<Xw a->wkL (ZJ a i) (ZJ b i))/\True)/\True)/\True)/\Arr.ok b
def Xx(a:Arr):Int:=wtA a
theorem Bem(a:Arr)(s:List Int)(h:a.ok)(hs:a.sh≠[]):CD 39 [exD a s] (.int .i64 (wtA a)):=by
 refine Bp (A:=sC _ _) (x:=()) (E:=Esw) (eOk Bbl rfl) Try.func39 rfl (by kernel_rfl) rfl (by simp[sC,Esw,EC,E0]) ?_
 refine Bt (T :=
  ∀(x:Nat),True->SM x/\ifB ((NI (JZ a))==Z0) (SM x/\SM x/\∃(x_1:List Int),(((LN s=LN x_1/\(∀(i:Nat),i<LN s->GI s i=GI x_1 i/\True)/\True)/\True)/\Bk x_1=true)/\∀(y:Unit),True->(SM x/\SM (Qgg a))/\∃(x:Arr),QdK a x/\∀(y:Unit),True->RT (IntKind.wrap IntKind.i64 ((NI (prL (shN x_1)))*Xx x)=Xx a)) (SM x/\∃(x:Arr),QdK a x/\∀(y:Unit),True->RT (Xx x=Xx a))) (by kernel_rfl) ?_
 delta DA GA GI LN N1 N4 NI SM Z0 ZI JZ ZG Xv ZH Xw ZJ Qgg QdK Xx RT
 have da:(default:Arr)=Arr.mk 0 [] [] []:=rfl
 simp only[<- da]
 simp only[ne_eq,Bn,true_and,and_true,beq_iff_eq,beq_eq_false_iff_ne,exists_const,forall_const]
 have hsl:0<a.sh.length:=List.length_pos_iff.2 hs
 exact⟨fun e=>absurd e (by omega),fun _=>⟨a,⟨⟨rfl,⟨rfl,fun _ _=>rfl⟩,⟨rfl,fun _ _=>rfl⟩,rfl,fun _ _=>Bf _⟩,h⟩,rfl⟩⟩
theorem Ba5:∀(a b:List Int),pzL (a++b)=pzL a*pzL b
 | [],b=>by simp[pzL]
 |d::a,b=>by
  rw[List.cons_append,pzL,pzL,Ba5 a b]
  split
  ·rfl
  ·rw[Nat.mul_assoc]
theorem Wl:∀ {l:List Int},(∀d∈l,0<=d)->1<=pzL l
 | [],_=>by simp[pzL]
 |d::l,h=>by
  have ih:=Wl (l:=l) fun x hx=>h x (by simp[hx])
  have:=h d (by simp)
  rw[pzL]
  split
  ·exact ih
  ·rename_i hd
   exact Nat.le_trans ih (Nat.le_mul_of_pos_left _ (by omega))
theorem T7{l:List Int}(h:Bk l=true)(k:Nat):Bk (l.take k)=true/\Bk (l.drop k)=true:=by
 obtain ⟨h1,h2,h3⟩:=(Bq l).1 h
 have e:=Ba5 (l.take k) (l.drop k)
 rw[List.take_append_drop] at e
 have a1:=Wl (l:=l.take k) fun d hd=>(h2 d (List.mem_of_mem_take hd)).1
 have a2:=Wl (l:=l.drop k) fun d hd=>(h2 d (List.mem_of_mem_drop hd)).1
 have b1:pzL (l.take k)<=pzL l:=by rw[e];exact Nat.le_mul_of_pos_right _ a2
 have b2:pzL (l.drop k)<=pzL l:=by rw[e];exact Nat.le_mul_of_pos_left _ a1
 exact⟨(Bq _).2 ⟨by rw[List.length_take];omega,fun d hd=>h2 d (List.mem_of_mem_take hd),by omega⟩,(Bq _).2 ⟨by rw[List.length_drop];omega,fun d hd=>h2 d (List.mem_of_mem_drop hd),by omega⟩⟩
def BbT:Con:=fun k ds S=>match k with
 |38=>some (pE (β:=List Int) ds S (fun l=>.bool (Bk l)) (fun l=>wkL ds [isl l .any]))
 |58=>some (pE (β:=List Int) ds S (fun l=>.int .i64 (prL (shN l):Nat)) (fun l=>wkL ds [isl l .any]/\Bk l=true))
 |_=>none
theorem Bav:ConOk Try.prog BbT:=by
 intro k ds S A h
 unfold BbT at h
 split at h
 ·injection h with h;subst h
  exact Es fun b hb=>CD.at_ (CD.wk (Gj b) hb) _
 ·injection h with h;subst h
  refine Es fun b ⟨hb,hr⟩=>CD.at_ (CD.wk ?_ hb) _
  have:=Rb b hr
  rw[Gr hr] at this
  exact this
 ·cases h
noncomputable def Erw:Senv:=EC BbT 27 2 [4,5,18] (fun id=>match id with | 3=>([0,1,2,4,5,6,3,7,8,9],[3,7]) | _=>([],[]))
def QdL(a:Nat)(b:List Int):Prop:=True/\∃(_y:Unit),True/\(Z0=(NI (prL (shN (List.take a b))))/\Z0=(NI (prL (shN (List.drop a b))))/\True)/\True/\True
theorem Bdd(s:List Int)(k:Nat)(hs:Bk s=true)(hk:k<=s.length):CD 40 [isl s .any,.int .i64 k] (.tup [.int .i64 (prL (shN (s.take k)):Nat),.int .i64 (prL (shN (s.drop k)):Nat)]):=by
 refine Bp (A:=sC _ _) (x:=()) (E:=Erw) (eOk Bav rfl) Try.func40 rfl (by kernel_rfl) rfl (by simp[sC,Erw,EC,E0]) ?_
 refine Bt (T :=
  ∃(x:List Int),((LN s=LN x/\(∀(i:Nat),i<LN s->GI s i=GI x i/\True)/\True)/\True)/\∀(y:Unit),True->ifB (!Bk x) (QdL k s) (ifB (decide ((LI s)<(↑k:Int))) (QdL k s) (Bb (Z0<=Z0/\Z0<=(↑k:Int)/\(↑k:Int)<=(LI s)) (Bb (Z0<=(↑k:Int)/\(↑k:Int)<=(LI s)/\(LI s)<=(LI s)) (∃(x:List Int),(((Int.toNat (↑k:Int)-N0=LN x/\(∀(i:Nat),i<Int.toNat (↑k:Int)-N0->GI s (N0+i)=GI x i/\True)/\True)/\True)/\Bk x=true)/\∀(y:Unit),True->∃(x_1:List Int),(((TL s-Int.toNat (↑k:Int)=LN x_1/\(∀(i:Nat),i<TL s-Int.toNat (↑k:Int)->GI s (Int.toNat (↑k:Int)+i)=GI x_1 i/\True)/\True)/\True)/\Bk x_1=true)/\∀(y:Unit),True->True/\∃(y:Unit),True/\((NI (prL (shN x)))=(NI (prL (shN (List.take k s))))/\(NI (prL (shN x_1)))=(NI (prL (shN (List.drop k s))))/\True)/\True/\True))))) (by kernel_rfl) ?_
 delta GI LI LN N0 NI TL Z0 QdL
 simp only[Int.toNat_natCast,Bn,Bd,decide_eq_true_eq,decide_eq_false_iff_not,true_and,and_true,Bool.not_eq_true',Bool.not_eq_false',exists_const,forall_const]
 obtain ⟨r1,r2⟩:=T7 hs k
 refine⟨s,⟨rfl,fun _ _=>rfl⟩,fun e=>absurd e (by rw[hs];simp),fun _=>⟨fun e=>absurd e (by omega),fun _=>⟨⟨by omega,by omega,by omega⟩,⟨by omega,by omega,by omega⟩,s.take k,⟨⟨by rw[List.length_take];omega,fun i hi=>?_⟩,r1⟩,s.drop k,⟨⟨by rw[List.length_drop],fun i hi=>?_⟩,r2⟩,rfl,rfl⟩⟩⟩
 ·rw[Nat.zero_add,R7 _ (by omega)]
 ·rw[Baf]
def Bce(s:List Int):Con:=fun k ds _S=>match k with
 |29=>some ((sCi 9 s).fits () (ds=[isl s .any]))
 |_=>none
theorem BaK{s:List Int}:ConOk Try.prog (Bce s):=by
 intro k ds S A hh
 unfold Bce at hh
 split at hh
 ·injection hh with hh;subst hh
  exact FnSpec.fits_ok (fun _ hy=>Ro _ _ hy) fun e=>by rw[e];exact⟨Bl _,Gp S⟩
 ·cases hh
noncomputable def Eex(s:List Int):Senv:={ EC (Bce s) 48 5 [8,9,10,29] (fun id=>match id with | 6=>([0,1,2,4,3,5,6,7,8],[3,5,6,8]) | 7=>([0,1,2,3,4,5],[3,5]) | _=>([],[])) with
 gr:=[.cell 1 4] }
def Qt(a:Arr):Nat:=LN (Arr.sh a)
def Kg(a:Arr):Int:=(NI (Qt a))
def ZK(a:Arr)(b:List Int):Bool:=bif Kg a==Z0 then (LI b)==Kg a else false
def KL(a:Arr)(b:Nat):List D:=[ZI (GI (Arr.sh a) b)]
def ZL(a:Arr):D:=D.sl N1 (Qt a) (fun i=>KL a i) Mode.any
def QdM(a:Arr):List D:=[ZL a]
def QdN(a:Arr):Prop:=Arr.sh a≠[]/\Qt a<=1000000
def Xy(a:Arr)(b:Nat):Prop:=Qt a<=b
def Xz(a:Nat)(b:Arr):Prop:=a<Qt b
def QdO(a:Arr)(b c:Nat):List D:=BM (fun i=>KL a i) (Int.toNat (↑b:Int)) [ZI Z1] c
def ZM(a:D):Bool:=match a with | D.unk=>false | D.agg _cs=>false | D.tup _ds=>false | _x=>true
def ZN(a:Arr):Prop:=SM (Arr.k a)
def QdP(a:Arr):Prop:=SM (Qt a)
def XA(a:Arr):Prop:=QdP a/\(∀(i:Nat),Xz i a->SM (KL a i))/\True
def ZO(a:Arr):Nat:=LN (Arr.nu a)
def QdQ(a:Arr)(b:Nat):List D:=[ZI (GI (Arr.nu a) b)]
def ZP(a:Arr):Prop:=SM (ZO a)/\(∀(i:Nat),i<ZO a->SM (QdQ a i))/\True
def ZQ(a:Arr):Nat:=LN (Arr.it a)
def QdR(a:Arr)(b:Nat):List D:=Arr.row (GA (Arr.it a) b)
def ZR(a:Arr):Prop:=SM (ZQ a)/\(∀(i:Nat),i<ZQ a->SM (QdR a i))/\True
def ZS(a:Arr):Prop:=SM (QdM a)/\QdN a
def Qgh(a:Arr):D:=D.agg [ZI (Arr.k a),ZL a,D.sl N1 (ZO a) (fun i=>QdQ a i) Mode.any,D.sl N4 (ZQ a) (fun i=>QdR a i) Mode.any]
def J0(a:Nat)(b:Arr):Prop:=SM a/\SM (Qgh b)
def Kr(a:Arr):Nat:=Qt a+N1
def QdS(a:Arr)(b:Nat):List D:=By (Qt a) (fun i=>KL a i) (fun i=>List.getD [[ZI Z1]] i []) b
def QdT(a:Nat)(b:Arr)(c d e f:Nat):Prop:=J0 a b/\Z0<=(↑c:Int)/\(↑c:Int)<=Kg b/\(↑c:Int)<(↑d:Int)/\ifB ((↑c:Int)==Kg b) (SM e/\SM d/\Bb (Qt b<=Qt b/\Kr b*8<=140737488355328/\Kr b<=9223372036854775807) (∀(y cap':Nat),Kr b<=cap'->True/\J0 a b/\SM f/\SM y/\SM cap'/\Bb (Kr b<=Kr b) ((∀(i:Nat),i<Kr b->(List.all (QdS b i) fun (x:D)=>ZM x)=true)/\∀(_t:Nat),(SM f/\True)/\∃(_y:Unit),True/\(ZN b/\XA b/\ZP b/\ZR b/\(Kr b=Qt b/\(∀(i:Nat),i<Kr b->QdS b i=KL b i)/\True)/\True)/\True/\True))) False
theorem Bd6(a:Arr)(like:List Int)(ax:Nat)(hs:a.sh≠[]/\a.sh.length<=8):CD 37 [.agg a.row1,isl like .any,.int .i64 (a.sh.length:Nat),.int .i64 ax] (exD a a.sh):=by
 refine Bp (A:=sC _ _) (x:=()) (E:=Eex a.sh) (eOk BaK rfl) Try.func37 rfl (by kernel_rfl) rfl (by simp[sC,Eex,EC,E0]) ?_
 refine Bt (T :=
  ∀(x:Nat),True->∀(x_1:Nat),x≠x_1/\True->(SM x/\ifB (Kg a==Z0) (((LI like)==Kg a)=ZK a like/\True) (false=ZK a like/\True))/\ifB (ZK a like) (([SI like]=QdM a/\QdN a)/\∀(y:Nat×Nat),Xy a y.2->Bb (Z0<=(↑ax:Int)/\(↑ax:Int)<Kg a) (SM y.1/\Bb (Int.toNat (↑ax:Int)<Qt a) (SM x/\SM x_1/\SM y.1/\SM y.2/\Bb (Qt a<=Qt a) ((∀(i:Nat),Xz i a->(List.all (QdO a ax i) fun (x:D)=>ZM x)=true)/\∀(t:Nat),(SM x_1/\True)/\∃(y:Unit),True/\(ZN a/\XA a/\ZP a/\ZR a/\(QdP a/\(∀(i:Nat),Xz i a->QdO a ax i=KL a i)/\True)/\True)/\True/\True)))) (SM x/\ifB (decide (Kg a<Kg a)) (SM x/\SM x/\(ZS a/\∀(y:Nat×Nat),Xy a y.2->J0 x a/\QdT x a ax y.2 y.1 x_1)/\(SM x/\SM (ZL a))/\J0 x a/\ZS a/\∀(y:Nat×Nat),Xy a y.2->QdT x a ax y.2 y.1 x_1) (SM x/\SM x/\ZS a/\∀(y:Nat×Nat),Xy a y.2->J0 x a/\SM x_1/\SM y.1/\SM y.2/\Bb (Qt a<=Qt a) ((∀(i:Nat),Xz i a->(List.all (KL a i) fun (x:D)=>ZM x)=true)/\∀(t:Nat),(SM x_1/\True)/\∃(y:Unit),True/\(ZN a/\XA a/\ZP a/\ZR a/\XA a/\True)/\True/\True)))) (by kernel_rfl) ?_
 delta DA GA GI LI LN N1 N4 NI SI SM Z0 Z1 ZI Qt QdO ZM ZN QdP XA ZO QdQ ZP ZQ QdR Kg ZR ZS Qgh J0 Kr QdS QdT ZK KL ZL QdM QdN Xy Xz
 have da:(default:Arr)=Arr.mk 0 [] [] []:=rfl
 simp only[<- da]
 simp only[ne_eq,implies_true,Int.toNat_natCast,Bn,Bd,decide_eq_true_eq,decide_eq_false_iff_not,true_and,and_true,beq_iff_eq,beq_eq_false_iff_ne,exists_const,forall_const]
 have hsl:0<a.sh.length:=List.length_pos_iff.2 hs.1
 have e0:((a.sh.length:Int)==0)=false:=beq_eq_false_iff_ne.2 (by omega)
 simp only[e0,cond_false]
 exact fun y y1 _=>⟨⟨fun e=>absurd e (by omega),fun _=>trivial⟩,fun e=>absurd e (by simp),fun _=>⟨fun e=>absurd e (by omega),fun _=>⟨⟨hs.1,by omega⟩,fun y hy=>⟨Nat.le_refl _,fun _ _=>rfl⟩⟩⟩⟩
def BaR(xs:List D)(q:Arr×List Int×Nat×Nat):Prop :=
 wkL [.agg xs] [.agg [.int .i64 q.1.k,isl q.1.sh .any,isl q.1.nu .any,gsl 4 Arr.row q.1.it,isl q.2.1 .any]]/\q.1.sh≠[]/\(∀b∈q.1.it,(Bi b).1=0)/\q.2.2.1*q.2.2.2+q.2.2.2<=(if q.1.k=3 then q.1.it.length else q.1.nu.length)/\q.1.nu.length<=1000000/\q.1.it.length<=1000000
def BdV(q:Arr×List Int×Nat×Nat)(x y:Nat)(i n:Int):Prop:=y=x/\i=q.2.2.1/\n=q.2.2.2
def _root_.Go.Ab.inlA(k:Nat)(ds:List D)(S:St)(R:AEnd->St->Prop):Prop :=
 match Nat.beq k 41 with
 |true=>match ds with
  | [.agg xs,.ref _ x 0,.int .i64 i,.int .i64 n]=>match S with
   |⟨(k1,z,oz)::(_,y,.cells [kk,sd,.sl 1 p f (.tok kt t),itd])::rest,(ku,u)::tr⟩=>match itd with
    |.sl 1 0 _ .nil=>chk (Nat.beq kt 1&&Nat.beq ku 1) (∃q : Arr×List Int×Nat×Nat, (BaR xs q /\ BdV q x y i n /\ u=t /\ p<=1000000) /\
      (q.1.k≠3->∀u',R (.ret (.tup [])) ⟨(k1,z,oz)::(17,y,.cells [kk,sd,.sl 1 (p+q.2.2.2) (By p f (nuS q.1.nu (q.2.2.1*q.2.2.2))) (.tok 1 u'),nlS])::rest,(1,u')::tr⟩) /\
      (q.1.k=3->q.2.2.2=0->R (.ret (.tup [])) ⟨(k1,z,oz)::(17,y,.cells [kk,sd,.sl 1 p f (.tok 1 t),nlS])::rest,(1,u)::tr⟩) /\
      (q.1.k=3->0<q.2.2.2->∀v c,q.2.2.2<=c->R (.ret (.tup [])) ⟨(k1,z,oz)::(17,y,.cells [kk,sd,.sl 1 p f (.tok 1 t),.vs 99 v q.2.2.2 c 4])::(99,v,.vec 4 q.2.2.2 c (itS q.1.it (q.2.2.1*q.2.2.2)))::rest,(1,u)::tr⟩))
    |.vs _ v len cap 4=>match rest with
     |(_,v1,.vec 4 len1 cap1 g)::rest1=>chk (Nat.beq kt 1&&Nat.beq ku 1) (∃q:Arr×List Int×Nat×Nat,(BaR xs q/\BdV q x y i n/\u=t/\v1=v/\len1=len/\cap1=cap/\len<=1000000/\len<=cap/\q.1.k=3) /\
      ∀v2 c,len+q.2.2.2<=c->R (.ret (.tup [])) ⟨(k1,z,oz)::(17,y,.cells [kk,sd,.sl 1 p f (.tok 1 t),.vs 99 v2 (len+q.2.2.2) c 4])::(99,v2,.vec 4 (len+q.2.2.2) c (By len g (itS q.1.it (q.2.2.1*q.2.2.2))))::rest1,(1,u)::tr⟩)
     |_=>False
    |_=>False
   |_=>False
  |_=>False
 |false=>False
theorem Mb{k:Nat}{ds us:List D}{S S0 G:St}{R R0:AEnd->St->Prop}(h:ACalls Try.prog k us S0 R0)(hw:wkL ds us)(h1:StTo S (S0.add G))(h2:∀r S',R0 r S'->∃T,StTo (S'.add G) T/\R r T):ACalls Try.prog k ds S R :=
 (((h.wkArgs hw).frame G).from h1).to fun r S' ⟨S0',q1,q2⟩=>by rw[q2];exact h2 r S0' q1
theorem StTo.framed{S S':St}(h:StTo S S')(G:St):StTo (S.add G) (S'.add G):=by
 intro C F w H
 rw[St.add_assoc] at H ⊢
 exact h C (G.add F) w H
theorem BaH{a b:Nat×Nat×AObj}{rest:List (Nat×Nat×AObj)}{t:Nat×Nat}{tr:List (Nat×Nat)}:StTo ⟨a::b::rest,t::tr⟩ (St.add ⟨[b],[t]⟩ ⟨a::rest,tr⟩):=by
 refine StTo.perm (r1:=[]) (r2:=[]) ?_ (by simp[St.add])
 simp only[St.add,List.map_cons,List.cons_append,List.nil_append,List.append_nil]
 exact List.Perm.swap _ _ _
theorem Ba2{a b:Nat×Nat×AObj}{rest:List (Nat×Nat×AObj)}{t:Nat×Nat}{tr:List (Nat×Nat)}:StTo (St.add ⟨[b],[t]⟩ ⟨a::rest,tr⟩) ⟨a::b::rest,t::tr⟩:=by
 refine StTo.perm (r1:=[]) (r2:=[]) ?_ (by simp[St.add])
 simp only[St.add,List.map_cons,List.cons_append,List.nil_append,List.append_nil]
 exact List.Perm.swap _ _ _
theorem BdR{a b c:Nat×Nat×AObj}{rest:List (Nat×Nat×AObj)}{t:Nat×Nat}{tr:List (Nat×Nat)}:StTo ⟨a::b::c::rest,t::tr⟩ (St.add ⟨[b,c],[t]⟩ ⟨a::rest,tr⟩):=by
 refine StTo.perm (r1:=[]) (r2:=[]) ?_ (by simp[St.add])
 simp only[St.add,List.map_cons,List.cons_append,List.nil_append,List.append_nil]
 exact (List.Perm.cons _ (List.Perm.swap _ _ _)).trans (List.Perm.swap _ _ _)
theorem Ri{a b c:Nat×Nat×AObj}{rest:List (Nat×Nat×AObj)}{t:Nat×Nat}{tr:List (Nat×Nat)}:StTo (St.add ⟨[b,c],[t]⟩ ⟨a::rest,tr⟩) ⟨a::b::c::rest,t::tr⟩:=by
 refine StTo.perm (r1:=[]) (r2:=[]) ?_ (by simp[St.add])
 simp only[St.add,List.map_cons,List.cons_append,List.nil_append,List.append_nil]
 exact (List.Perm.swap _ _ _).trans (List.Perm.cons _ (List.Perm.swap _ _ _))
theorem Wc{K x t t1:Nat}{kk sd nud nud2:D}{f:Nat->List D}(h:Be nud nud2):StTo ⟨[(K,x,.cells [kk,sd,nud,.sl 1 0 f .nil])],[(t1,t)]⟩ ⟨[(17,x,.cells [kk,sd,nud2,nlS])],[(1,t)]⟩:=by
 refine StTo.posN ⟨⟨rfl,?_,trivial⟩,rfl,trivial⟩
 simp[CH,Bo,Be,Bg,Ba,Bw,nlS,h]
theorem W3{K x t t1 k1:Nat}{kk sd nud nud2:D}(h:Be nud nud2):StTo ⟨[(K,x,.cells [kk,sd,nud,nlS])],[(t1,t)]⟩ ⟨[(17,x,.cells [kk,sd,nud2,nlS])],[(k1,t)]⟩:=by
 refine StTo.posN ⟨⟨rfl,?_,trivial⟩,rfl,trivial⟩
 simp[CH,Bo,Bg,nlS,h]
theorem Bbx{K K2 K3 x t t1 t2 k1 k2 v len cap:Nat}{g:Nat->List D}{kk sd nud nud2:D}(h:Be nud nud2):StTo ⟨[(K,x,.cells [kk,sd,nud,.vs k1 v len cap 4]),(K2,v,.vec 4 len cap g)],[(t1,t)]⟩ ⟨[(17,x,.cells [kk,sd,nud2,.vs k2 v len cap 4]),(K3,v,.vec 4 len cap g)],[(t2,t)]⟩:=by
 refine StTo.posN ⟨⟨rfl,?_,rfl,?_,trivial⟩,rfl,trivial⟩
 ·simp[CH,Bo,Be,Bg,Ba,h]
 ·simp[CH,Ba]
theorem wk4{a b i n m:D}{K K2 x:Nat}(h:wkL [a] [b])(e:n=m:=by rfl):wkL [a,.ref K x 0,i,n] [b,.ref K2 x 0,i,m]:=by
 subst e
 simp only[wkL] at h ⊢
 refine⟨h.1,?_,CE _,CE _,trivial⟩
 simp[wkD,Be,Ba]
theorem M4{a:Arr}{s:List Int}(h3:a.k=3):wkL [.agg [.int .i64 a.k,isl a.sh .any,isl a.nu .any,gsl 4 Arr.row a.it,isl s .any]] [.agg [.int .i64 3,isl a.sh .any,isl a.nu .any,gsl 4 Arr.row1 a.it,isl s .any]]:=by
 rw[h3]
 have:=Ck a
 simp only[Arr.row1,Arr.row2,wkL] at this
 refine⟨?_,trivial⟩
 simp only[wkD]
 refine⟨?_,this.2.1,this.2.2.1,this.2.2.2.1,?_⟩
 ·simp[wkD,Be,kEq,Ba]
 ·exact Bf _
theorem Bck(k:Nat)(ds:List D)(S:St)(R:AEnd->St->Prop)(h:Go.Ab.inlA k ds S R):ACalls Try.prog k ds S R:=by
 unfold Go.Ab.inlA at h
 split at h
 ·rename_i hk
  obtain rfl:=Nat.eq_of_beq_eq_true hk
  split at h
  ·split at h
   ·split at h
    ·obtain ⟨hc,q,⟨⟨w1,w2,w3,w4,w5,w6⟩,⟨e1,e2,e3⟩,e4,e5⟩,hN,h0,hB⟩:=Ba.1 h
     obtain ⟨a,s,i,n⟩:=q
     simp only at w1 w2 w3 w4 w5 w6 e2 e3 hN h0 hB
     subst e1 e2 e3 e4
     by_cases h3:a.k=3
     ·rw[if_pos h3] at w4
      by_cases hn:n=0
      ·subst hn
       refine Mb ((Bd2 a s _ _ _ i _ _ w2).wkArgs (wk4 (M4 h3))) (wk4 (K2:=17) w1) (StTo.trans BaH (StTo.framed (Wc (Bg _)) _)) ?_
       rintro r S' ⟨_,_,rfl,rfl⟩
       exact⟨_,StTo.trans (StTo.framed (W3 (by simp[Be,Ba,Bw])) _) Ba2,h0 h3 rfl⟩
      ·refine Mb ((Bd4 a s _ _ _ i n _ _ ⟨w3,w2,w4,w6,by omega⟩).wkArgs (wk4 (M4 h3))) (wk4 (K2:=17) w1) (StTo.trans BaH (StTo.framed (Wc (Bg _)) _)) ?_
       rintro r S' ⟨y,hy,rfl,rfl⟩
       exact⟨_,StTo.trans (StTo.framed (Bbx (by simp[Be,Ba,Bw])) _) Ri,hB h3 (by omega) y.1 y.2 hy⟩
     ·rw[if_neg h3] at w4
      rename_i f kt rest ku u tr itd f0
      refine Mb (Bef a s _ _ i n _ _ f u ⟨h3,w2,w4,w5,e5⟩) (wk4 (K2:=17) w1) (StTo.trans BaH (StTo.framed (Wc (by simp[Be,Ba,Bw])) _)) ?_
      rintro r S' ⟨y,hy,rfl,rfl⟩
      exact⟨_,StTo.trans (StTo.framed (W3 (Bg _)) _) Ba2,hN h3 y⟩
    ·split at h
     ·obtain ⟨hc,q,⟨⟨w1,w2,w3,w4,w5,w6⟩,⟨e1,e2,e3⟩,e4,e5,e6,e7,e8,e9,h3⟩,hB⟩:=Ba.1 h
      obtain ⟨a,s,i,n⟩:=q
      simp only at w1 w2 w3 w4 w5 w6 e2 e3 hB h3
      subst e1 e2 e3 e4 e5 e6 e7
      rw[if_pos h3] at w4
      refine Mb ((Bea a s _ _ _ i n _ _ _ _ _ _ ⟨w3,w2,w4,w6,e8,e9⟩).wkArgs (wk4 (M4 h3))) (wk4 (K2:=17) w1) (StTo.trans BdR (StTo.framed (Bbx (Bg _)) _)) ?_
      rintro r S' ⟨y,hy,rfl,rfl⟩
      exact⟨_,StTo.trans (StTo.framed (Bbx (by simp[Be,Ba,Bw])) _) Ri,hB y.1 y.2 hy⟩
     ·exact h.elim
    ·exact h.elim
   ·exact h.elim
  ·exact h.elim
 ·exact h.elim
end
end Go.Proofs.Ytgkifngdbpjccaa
