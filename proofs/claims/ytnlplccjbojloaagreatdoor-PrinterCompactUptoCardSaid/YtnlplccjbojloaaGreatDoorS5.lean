/- Functions of the given program and what each of them computes: lemmas towards the statement, their conditions stated with each of them. -/
import Derived.Test.YtnlplccjbojloaaGreatDoorS4
namespace Go.Proofs.YtnlplccjbojloaaGreatDoor
open Go Go.Ab
set_option maxRecDepth 100000
noncomputable section
def ptB(l:List Sm):List Pt:=ptJ (l.map ptM)
theorem Bc2{α:Type}[Inhabited α](f:α->List Pt){l:List α}{i:Nat}(h:i<l.length):ptJ ((l.take (i+1)).map f)=ptJ ((l.take i).map f)++((if 0<i then [.sp] else [])++f (l.getD i default)):=by
 rw[B6 h,List.map_append]
 generalize l.getD i default=x
 cases hl:l.take i with
 |nil =>
  have:i=0:=by
   have:=congrArg List.length hl
   rw[List.length_take,List.length_nil] at this
   omega
  subst this
  simp[ptJ]
 |cons y r =>
  have:0<i:=by
   rcases Nat.eq_zero_or_pos i with rfl | h0
   ·simp at hl
   ·exact h0
  rw[if_pos this]
  simp[ptJ]
structure PrR (l:List Sm):Prop where
 hl:l.length<=1000
 hd:dpB l<=60
 hz:szB l<=16384
 hv:BP false l=true
theorem GB{l:List Sm}(h:B1 l=0):PrR l:=by
 unfold B1 at h
 split at h
 ·omega
 split at h
 ·omega
 split at h
 ·omega
 split at h
 ·rename_i a b c d
  rw[Bool.and_eq_true] at d
  exact⟨by omega,by omega,by omega,d.1⟩
 ·omega
theorem BnE{l:List Sm}{s:Sm}(h:s∈l):dpM s<=dpB l:=by
 induction l with
 |nil=>cases h
 |cons x r ih =>
  simp only[dpB]
  rcases List.mem_cons.1 h with rfl | h
  ·omega
  ·have:=ih h;omega
theorem Bgj{l:List Sm}{s:Sm}(h:s∈l):szM s<=szB l:=by
 induction l with
 |nil=>cases h
 |cons x r ih =>
  simp only[szB]
  rcases List.mem_cons.1 h with rfl | h
  ·omega
  ·have:=ih h;omega
theorem UU{l:List Sm}(h:PrR l){s:Sm}(hs:s∈l):Bz s.nd=true/\BU s.nd=0/\s.kd≠3/\(s.kd=2->Cd s.nm=true):=by
 have hb:=h.hv
 unfold BP at hb
 rw[Bool.and_eq_true] at hb
 obtain ⟨q1,q2⟩:=Ep hb.2 s hs
 obtain ⟨names,hst⟩:=MZ hb.2 s hs
 have hd:=BnE hs
 have hz:=Bgj hs
 have k3:s.kd≠3:=by
  rcases q2 with ⟨_,_,g⟩ | ⟨k,_⟩
  ·cases g
  ·exact k
 have e1:dpM s=dpN s.nd:=by
  cases s with
  |mk kd at_ nm sl te nd=>simp only[dpM];exact if_neg k3
 have e2:szM s=szN s.nd:=by
  cases s with
  |mk kd at_ nm sl te nd=>simp only[szM];exact if_neg k3
 have:=h.hd
 have:=h.hz
 refine⟨q1,BY.2 ⟨by omega,by omega,q1⟩,k3,fun k2=>?_⟩
 rw[Gy,Bool.and_eq_true,if_neg (by omega),if_pos k2] at hst
 simp only[Bool.and_eq_true] at hst
 exact hst.2.1.1.1.1
theorem okM{l:List Sm}(h:PrR l)(ho:∀s∈l,s.ok){s:Sm}(hs:s∈l):∀p∈ptM s,okP p:=by
 obtain ⟨q1,_,k3,k2⟩:=UU h hs
 have hn:=okN s.nd q1 (Cq (ho s hs)).2
 rw[IF]
 split
 ·rename_i c2
  intro p hp
  simp only[List.mem_cons] at hp
  rcases hp with rfl | rfl | hp
  ·exact Ua (k2 c2)
  ·exact Ex (by simp) (by decide) (by decide)
  ·exact hn p hp
 ·first
   |exact hn
   |(rw[if_neg k3];exact hn)
theorem okB{l:List Sm}(h:PrR l)(ho:∀s∈l,s.ok):∀p∈ptB l,okP p:=okJ fun x hx=>by
 obtain ⟨s,hs,rfl⟩:=List.mem_map.1 hx
 exact okM h ho hs
theorem Bpa(l:List Sm):ID (ptB l):=Boo fun x hx=>by
 obtain ⟨s,_,rfl⟩:=List.mem_map.1 hx
 exact balM s
def UE:Pt->Bool
 |.op=>true
 |.sp=>true
 |_=>false
def nbP(ps:List Pt):Nat:=ps.countP UE
theorem Cv(a b:List Pt):nbP (a++b)=nbP a+nbP b:=by unfold nbP;rw[List.countP_append]
theorem BeW(ks:List Int)(k:Int)(l:List Pt):nbP (ptW ks k l)=nbP l:=by
 unfold ptW
 split
 ·have e:Pt.tx [40]::(l++[.tx [41]])=[.tx [40]]++(l++[.tx [41]]):=rfl
  rw[e,Cv,Cv]
  simp[nbP,UE]
 ·rfl
theorem nb_J{α:Type}(f:α->List Pt)(g:α->Nat):∀l:List α,(∀x∈l,nbP (f x)+1<=2*g x)->nbP (ptJ (l.map f))<=2*(l.map g).sum
 | [],_=>by simp[ptJ,nbP]
 |x::r,h=>by
  have hx:=h x (by simp)
  have key:∀r:List α,(∀x∈r,nbP (f x)+1<=2*g x)->nbP ((r.map f).flatMap fun y=>.sp::y)<=2*(r.map g).sum:=by
   intro r
   induction r with
   |nil=>intro _;simp[nbP]
   |cons y r ih =>
    intro hr
    have hy:=hr y (by simp)
    have:=ih fun z hz=>hr z (by simp[hz])
    rw[List.map_cons,List.flatMap_cons,List.map_cons,List.sum_cons]
    have e:Pt.sp::f y=[.sp]++f y:=rfl
    rw[e,Cv,Cv]
    have e1:nbP [.sp]=1:=rfl
    omega
  have:=key r fun z hz=>h z (by simp[hz])
  rw[List.map_cons,ptJ,Cv,List.map_cons,List.sum_cons]
  omega
theorem BaR:∀l:List Sm,szB l=(l.map szM).sum
 | []=>by simp[szB]
 |s::r=>by simp only[szB,List.map_cons,List.sum_cons,BaR r]
theorem BbM(ks:List Int):∀l:List Nd,(∀x∈l,nbP (ptN x)+1<=2*szN x)->nbP (l.flatMap (BR ks))<=2*szL l
 | [],_=>by simp[nbP]
 |x::r,h=>by
  have:=BbM ks r fun y hy=>h y (by simp[hy])
  have hx:=h x (by simp)
  have e:nbP (BR ks x)=nbP (ptN x):=by unfold BR;rw[BeW]
  rw[List.flatMap_cons,Cv,e]
  simp only[szL]
  omega
theorem Bpm(l:List Nd)(h:∀x∈l,nbP (ptN x)+1<=2*szN x):nbP ((ptL l).getD 0 [])+nbP ((ptL l).getD 1 [])+nbP ((ptL l).getD 2 [])<=2*szL l:=by
 rcases l with _ | ⟨a,_ | ⟨b,_ | ⟨c,r⟩⟩⟩
 ·simp[ptL,nbP]
 ·have ha:=h a (by simp)
  simp only[ptL,szL,List.getD_cons_zero,List.getD_cons_succ,List.getD_nil]
  have:nbP []=0:=rfl
  omega
 ·have ha:=h a (by simp)
  have hb:=h b (by simp)
  simp only[ptL,szL,List.getD_cons_zero,List.getD_cons_succ,List.getD_nil]
  have:nbP []=0:=rfl
  omega
 ·have ha:=h a (by simp)
  have hb:=h b (by simp)
  have hc:=h c (by simp)
  simp only[ptL,szL,List.getD_cons_zero,List.getD_cons_succ]
  omega
theorem nbN(n:Nd):nbP (ptN n)+1<=2*szN n:=by
 have kk:∀x∈n.ki,nbP (ptN x)+1<=2*szN x:=fun x hx=>nbN x
 have hg:=Bpm n.ki kk
 have hz:=BbP n
 rw[Gd]
 split
 ·have:=BbM [3,4,5] n.ki kk;omega
 split
 ·rw[Cv,BeW];omega
 split
 ·rw[Cv,Cv,BeW,BeW];omega
 split
 ·have:=BbM [4,5,16] n.ki kk;omega
 split
 ·rw[Cv,BeW];omega
 split
 ·rw[Cv,Cv,BeW,BeW];omega
 split
 ·have st:∀s∈n.bo,nbP (ptM s)+1<=2*szM s:=fun s hs=>by
   have z1:=Nd.size_stmt hs
   have z2:=Sm.size_nd s
   have z3:=Sm.size_te s
   have h1:=nbN s.nd
   have h2:=nbN s.te
   rw[IF,Uh]
   by_cases c2:s.kd=2
   ·rw[if_pos c2,if_neg (by omega)]
    have e:Pt.tx s.nm::.tx [60,45]::ptN s.nd=[.tx s.nm,.tx [60,45]]++ptN s.nd:=rfl
    rw[e,Cv]
    have:nbP [.tx s.nm,.tx [60,45]]=0:=by simp[nbP,UE]
    omega
   ·rw[if_neg c2]
    split
    ·have e:ptN s.te++(Pt.tx [58]::ptN s.nd)=ptN s.te++([.tx [58]]++ptN s.nd):=rfl
     rw[e,Cv,Cv]
     have:nbP [.tx [58]]=0:=by simp[nbP,UE]
     omega
    ·exact h1
  have hj:=nb_J ptM szM n.bo st
  rw[<- BaR] at hj
  have e:Pt.op::(ptJ (n.bo.map ptM)++[.cl])=[.op]++(ptJ (n.bo.map ptM)++[.cl]):=rfl
  rw[e,Cv,Cv]
  have e1:nbP [.op]=1:=rfl
  have e2:nbP [.cl]=0:=rfl
  omega
 ·have:nbP [.tx (Bv n)]=0:=by simp[nbP,UE]
  have:=BaV n
  omega
termination_by SizeOf.sizeOf n
decreasing_by
 ·exact Nd.size_kid hx
 ·omega
 ·omega
theorem nbM(s:Sm):nbP (ptM s)+1<=2*szM s:=by
 have h1:=nbN s.nd
 have h2:=nbN s.te
 rw[IF,Uh]
 by_cases c2:s.kd=2
 ·rw[if_pos c2,if_neg (by omega)]
  have e:Pt.tx s.nm::.tx [60,45]::ptN s.nd=[.tx s.nm,.tx [60,45]]++ptN s.nd:=rfl
  rw[e,Cv]
  have:nbP [.tx s.nm,.tx [60,45]]=0:=by simp[nbP,UE]
  omega
 ·rw[if_neg c2]
  split
  ·have e:ptN s.te++(Pt.tx [58]::ptN s.nd)=ptN s.te++([.tx [58]]++ptN s.nd):=rfl
   rw[e,Cv,Cv]
   have:nbP [.tx [58]]=0:=by simp[nbP,UE]
   omega
  ·exact h1
theorem nbB(l:List Sm):nbP (ptB l)<=2*szB l:=by
 rw[BaR]
 exact nb_J ptM szM l fun s _=>nbM s
theorem Bjo:∀(ps:List Pt) (a:Int),lvL a ps<=a+nbP ps
 | [],a=>by simp[lvL,nbP]
 |p::r,a=>by
  have:=Bjo r (lvP a p)
  have e:lvL a (p::r)=lvL (lvP a p) r:=rfl
  have e2:Pt.op::r=[.op]++r:=rfl
  cases p<;>simp only[lvP,nbP,List.countP_cons,UE] at this e ⊢<;>simp at this ⊢<;>omega
theorem Bbs(ps:List Pt)(i:Nat):nbP (ps.take i)<=nbP ps:=by
 have h:=Cv (ps.take i) (ps.drop i)
 rw[List.take_append_drop] at h
 omega
def IS(ps:List Pt):Nat:=(ps.map fun p=>(prT p).length+1).sum
theorem Bjx(ps:List Pt)(i:Nat):IS (ps.take i)<=IS ps:=by
 have h:IS ps=IS (ps.take i)+IS (ps.drop i):=by
  unfold IS
  rw[<- List.sum_append,<- List.map_append,List.take_append_drop]
 omega
theorem TX(ps:List Pt):IS ps<=(txP ps).length+1:=by
 cases ps with
 |nil=>simp[IS]
 |cons p r =>
  unfold txP
  rw[List.map_cons,B7]
  have key:∀r:List Pt,(r.map fun p=>(prT p).length+1).sum=(jT [32] (r.map prT)).length:=by
   intro r
   induction r with
   |nil=>rfl
   |cons q r ih =>
    have e:(jT [32] (prT q::r.map prT)).length=1+(prT q).length+(jT [32] (r.map prT)).length:=by
     simp[jT];omega
    rw[List.map_cons,List.sum_cons,ih,List.map_cons,e]
    omega
  have:=key r
  unfold IS
  rw[List.map_cons,List.sum_cons,this,List.length_append]
  omega
theorem BfW(cmp:Bool)(ps:List Pt)(M:Nat)(hM:nbP ps<=M):∀i,i<=ps.length->(wrF cmp (ps.take i)).1.length<=IS (ps.take i)+nbP (ps.take i)*(1+2*M)
 |0,_=>by simp[wrF]
 |i+1,h=>by
  have hi:i<ps.length:=by omega
  have ih:=BfW cmp ps M hM i (by omega)
  obtain ⟨a1,a2⟩:=G4 cmp ps i (by omega)
  have hl:=Bjo (ps.take i) 0
  have ht:=Bbs ps i
  have e1:IS (ps.take (i+1))=IS (ps.take i)+((prT (ps.getD i .sp)).length+1):=by
   unfold IS
   rw[List.take_add_one,List.getElem?_eq_getElem hi,List.map_append,List.sum_append,List.getD_eq_getElem?_getD,List.getElem?_eq_getElem hi]
   simp
  have e2:nbP (ps.take (i+1))=nbP (ps.take i)+(if UE (ps.getD i .sp) then 1 else 0):=by
   have e5:∀p:Pt,nbP [p]=if UE p then 1 else 0:=fun p=>by cases p<;>rfl
   rw[List.take_add_one,List.getElem?_eq_getElem hi,Cv,List.getD_eq_getElem?_getD,List.getElem?_eq_getElem hi]
   exact congrArg _ (e5 _)
  rw[IM cmp hi,e1,e2]
  unfold wrS
  split
  ·rename_i hs
   have e3:UE (ps.getD i .sp)=true:=by
    cases hq:ps.getD i .sp<;>rw[hq] at hs<;>first | rfl | cases hs
   have e4:(prT (ps.getD i .sp)).length=1:=by
    cases hq:ps.getD i .sp<;>rw[hq] at hs<;>first | rfl | cases hs
   rw[e3,if_pos rfl,Nat.add_mul,e4]
   have:((bif cmp then [59] else Gk (wrF cmp (ps.take i)).2.2):List UInt8).length<=1+2*M:=by
    cases cmp
    ·simp only[cond_false,Gk,List.length_cons,List.length_replicate]
     rw[a1];omega
    ·simp only[cond_true,List.length_cons,List.length_nil];omega
   simp only[List.length_append]
   omega
  ·have:(blB cmp (wrF cmp (ps.take i)).2.1 (prT (ps.getD i .sp))).length<=1:=by
    unfold blB
    cases (!(wrF cmp (ps.take i)).2.1.isEmpty&&(!cmp||Eh (wrF cmp (ps.take i)).2.1 (prT (ps.getD i .sp))))<;>simp
   simp only[List.length_append]
   have:nbP (ps.take i)*(1+2*M)<=(nbP (ps.take i)+if UE (ps.getD i .sp)=true then 1 else 0)*(1+2*M):=Nat.mul_le_mul_right _ (Nat.le_add_right _ _)
   omega
theorem BbU{l:List Sm}(h:PrR l)(ho:∀s∈l,s.ok):(txP (ptB l)).length<=3300000000000:=by
 have st:∀s∈l,(txP (ptM s)).length+60<=200000000*szM s/\ptM s≠[]:=fun s hs=>by
  obtain ⟨q1,_,k3,k2⟩:=UU h hs
  have hl:=Ev s.nd q1 (Cq (ho s hs)).2
  have ht:=Rp s.nd q1
  rw[Uh,if_neg k3,IF]
  by_cases c2:s.kd=2
  ·rw[if_pos c2]
   have hn:=(BO (k2 c2)).2.1
   rw[E2 (by simp),E2 ht.2,ht.1]
   refine⟨?_,by simp⟩
   simp only[List.length_append,List.length_cons,prT,List.length_nil]
   omega
  ·rw[if_neg c2,if_neg k3,ht.1]
   exact⟨by omega,ht.2⟩
 have hz:=h.hz
 cases l with
 |nil=>simp[ptB,ptJ,txP,Lib.join]
 |cons x r =>
  have key:∀r:List Sm,(∀s∈r,(txP (ptM s)).length+60<=200000000*szM s/\ptM s≠[])->∀a:List Pt,a≠[]->(txP (a++(r.map ptM).flatMap fun y=>.sp::y)).length<=(txP a).length+200000000*szB r:=by
   intro r
   induction r with
   |nil=>intro _ a _;simp
   |cons y r ih =>
    intro hr a ha
    have hy:=hr y (by simp)
    have:=ih (fun z hz=>hr z (by simp[hz])) (a++(.sp::ptM y)) (neA ha)
    rw[Ek ha (by simp),E2 hy.2] at this
    simp only[List.length_append,List.length_cons,prT,List.length_nil] at this
    rw[List.map_cons,List.flatMap_cons,<- List.append_assoc]
    simp only[szB]
    omega
  have hx:=st x (by simp)
  have:=key r (fun z hz=>st z (by simp[hz])) (ptM x) hx.2
  unfold ptB
  rw[List.map_cons,ptJ]
  simp only[szB] at hz
  omega
theorem Oh{l:List Sm}(h:PrR l)(ho:∀s∈l,s.ok)(cmp:Bool)(i:Nat)(hi:i<=(ptB l).length):(wrF cmp ((ptB l).take i)).1.length<=3400000000000:=by
 have h1:=BfW cmp (ptB l) 32768 (by have:=nbB l;have:=h.hz;omega) i hi
 have h2:=Bjx (ptB l) i
 have h3:=TX (ptB l)
 have h4:=BbU h ho
 have h5:=Bbs (ptB l) i
 have h6:=nbB l
 have h7:=h.hz
 have:nbP ((ptB l).take i)*(1+2*32768)<=32768*(1+2*32768):=Nat.mul_le_mul_right _ (by omega)
 omega
def Ch(l:List Sm):List UInt8:=if B1 l=0/\l≠[] then (wrF false (ptB l)).1++[10] else []
def EN(l:List Sm):List UInt8:=if B1 l=0 then (wrF true (ptB l)).1 else []
def RRS(a b:Nd):Prop:=CD 90 [.agg a.row2,.agg b.row2] (.bool (C4 (stN a) (stN b)))
noncomputable def Bk7:Con:=fun k ds S=>match k with
 |90=>some (pE (β:=Nd×Nd) ds S (fun x=>.bool (C4 (stN x.1) (stN x.2))) (fun x=>wkL ds [.agg x.1.row1,.agg x.2.row1]/\RRS x.1 x.2))
 |_=>none
theorem Bmf:ConOk Tryz.prog Bk7:=by
 intro k ds S A hh
 unfold Bk7 at hh
 split at hh
 ·injection hh with hh;subst hh
  exact Co fun x ⟨e,h1⟩=>CD.at_ (CD.wk (CD.wk h1 BlJ) e) _
 ·cases hh
noncomputable def Erb(l m:List Sm):Senv:={ EC Bk7 64 2 [4,5,9,63] (fun id=>match id with | 4=>([0,1,2,3,4,5,6,7,8,9,10,11,12,13,14,15,16,17,18,19,20,21,22,23,24,25,26,27,28,29,30,31,32,33,34,35,36,37,38,39,40,41,42,43,44,45,46,47,48,49,50,51],[35,49]) | _=>([],[])) with
 mg:=fun _=>2
 ann:=fun q _ S=>match q with
  |0=>some { slots:=[5],keep:=[0,1,2,3],α:=Nat,st:=fun i=>([.int .i64 i],S),inv:=fun i=>i<=l.length/\∀j,j<i->stM (l.getD j default)=stM (m.getD j default),mu:=fun i=>l.length-i }
  |_=>none }
def Ho:Arr:=DA
def Yl:Nd:=Nd.mk Z0 Z0 Z0 [] Z0 Z0 Ho [] [] Z0 Z0 Z0
def Ym:Sm:=Sm.mk Z0 Z0 [] Z0 Yl Yl
def Xp(a:List Sm)(b:Nat):Sm:=List.getD a b Ym
def QAJ(a:List Sm)(b:Nat):Sm:=stM (Xp a b)
def Qj4(a:Nat)(b c:List Sm):Prop:=a<=LN b/\∀(j:Nat),j<a->QAJ b j=QAJ c j
def Qdo(a:List Sm)(b:Nat):Sm:=List.getD a (Int.toNat (↑b:Int)) Ym
def QAK(a:List Sm)(b:Nat):Int:=Sm.kd (Qdo a b)
def Qdp(a b:List Sm):Prop:=True/\∃(_y:Unit),True/\false=C4 (List.map stM a) (List.map stM b)/\True/\True
def QAL(a:List Sm)(b:Nat):List UInt8:=Sm.nm (Qdo a b)
def KC(a:List Sm)(b:Nat):Nd:=Sm.te (Qdo a b)
def QAP(a:List Sm)(b:Nat):D:=D.agg (Nd.rowE (KC a b))
def QAQ(a b:Nd):List D:=[D.agg (Nd.row1 a),D.agg (Nd.row1 b)]
def QAR(a b:Nd):Bool:=!C4 (stN a) (stN b)
def KD(a:List Sm)(b:Nat):Nd:=Sm.nd (Qdo a b)
def QAV(a:List Sm)(b:Nat):D:=D.agg (Nd.rowE (KD a b))
def QQM(a:List Sm):D:=D.sl 34 (LN a) (fun i=>(Sm.row1 (Xp a i))) Mode.any
def QA2(a:List Sm):Prop:=SM (QQM a)
theorem Bke(l m:List Sm)(he:l.length=m.length)(hl:l.length<=maxLen)(h:∀x∈l,∀y∈m,RRS x.te y.te/\RRS x.nd y.nd):CD 112 [gsl 34 Sm.row1 l,gsl 34 Sm.row1 m] (.bool (C4 (l.map stM) (m.map stM))):=by
 refine Bg (A:=sC _ _) (x:=()) (E:=Erb l m) (eOk Bmf rfl) Tryz.func112 rfl (by kernel_rfl) rfl (by simp[sC,Erb,EC,E0]) ?_
 refine Bi (T :=
  (∃(x:Nat),Qj4 x l m/\(Z0=(↑x:Int)/\True)/\True/\True)/\∀(x:Nat),Qj4 x l m->ifB (decide ((↑x:Int)<(LI l))) (Bc (Z0<=(↑x:Int)/\(↑x:Int)<(LI l)) (Bc (Z0<=(↑x:Int)/\(↑x:Int)<(LI m)) (ifB (QAK l x != QAK m x) (Qdp l m) (Bc (Z0<=(↑x:Int)/\(↑x:Int)<(LI l)) (Bc (Z0<=(↑x:Int)/\(↑x:Int)<(LI m)) (ifB (QAL l x != QAL m x) (Qdp l m) (Bc (Z0<=(↑x:Int)/\(↑x:Int)<(LI l)) (Bc (Z0<=(↑x:Int)/\(↑x:Int)<(LI m)) (∃(x_1:Nd×Nd),(wkL [QAP l x,QAP m x] (QAQ x_1.1 x_1.2)/\RRS x_1.1 x_1.2)/\∀(y:Unit),True->ifB (QAR x_1.1 x_1.2) (Qdp l m) (Bc (Z0<=(↑x:Int)/\(↑x:Int)<(LI l)) (Bc (Z0<=(↑x:Int)/\(↑x:Int)<(LI m)) (∃(x_2:Nd×Nd),(wkL [QAV l x,QAV m x] (QAQ x_2.1 x_2.2)/\RRS x_2.1 x_2.2)/\∀(y:Unit),True->ifB (QAR x_2.1 x_2.2) (Qdp l m) ((QA2 l/\QA2 m/\SM D.unk/\SM D.unk/\True)/\∃(y:Nat),Qj4 y l m/\LN l-y<LN l-x/\(IntKind.wrap IntKind.i64 ((↑x:Int)+Z1)=(↑y:Int)/\True)/\True/\True))))))))))))) (RT (true=C4 (List.map stM l) (List.map stM m)))) (by kernel_rfl) ?_
 delta DA GI LI LN N1 N4 SI SM Z0 Z1 ZI Ho Yl KC QAP QAQ QAR Ym KD QAV Xp QAJ QQM QA2 Qj4 Qdo QAK Qdp QAL RT
 try simp only[<- dm]
 try simp only[<- dn]
 simp only[ne_eq,Int.toNat_natCast,Bf,Bd,decide_eq_true_eq,decide_eq_false_iff_not,true_and,and_true,bne_iff_ne,bne_eq_false_iff_eq,Bool.not_eq_true',Bool.not_eq_false',exists_const,forall_const,Prod.exists]
 have gm:∀ {i:Nat},i<l.length->i<m.length->l.getD i default∈l/\m.getD i default∈m:=fun h1 h2=>⟨by rw[List.getD_eq_getElem?_getD,List.getElem?_eq_getElem h1];exact List.getElem_mem h1,by rw[List.getD_eq_getElem?_getD,List.getElem?_eq_getElem h2];exact List.getElem_mem h2⟩
 have no:∀ {α:Type} {x y:α},C4 x y=false->x≠y:=fun h e=>by rw[CV.2 e] at h;cases h
 have gmap:∀ {l:List Sm} {i:Nat},i<l.length->(l.map stM).getD i (stM default)=stM (l.getD i default):=fun h=>by simp[List.getD_eq_getElem?_getD,h]
 have neq:∀ {i:Nat},i<l.length->stM (l.getD i default)≠stM (m.getD i default)->false=C4 (l.map stM) (m.map stM):=fun hi hn=>Ey fun e=>hn (by rw[<- gmap hi,<- gmap (by omega),e])
 simp only[maxLen] at hl
 refine⟨⟨0,⟨Nat.zero_le _,fun j hj=>absurd hj (by omega)⟩,rfl⟩,fun i ⟨i1,hi⟩=>⟨fun hlt=>?_,fun hge=>BhL ?_⟩⟩
 ·have hi1:i<l.length:=by omega
  have hi2:i<m.length:=by omega
  obtain ⟨q1,q2⟩:=h _ (gm hi1 hi2).1 _ (gm hi1 hi2).2
  have iff:=Bnz (l.getD i default) (m.getD i default)
  refine⟨⟨by omega,by omega⟩,⟨by omega,by omega⟩,fun a1=>neq hi1 fun e=>a1 (iff.1 e).1,fun a1=>⟨⟨by omega,by omega⟩,⟨by omega,by omega⟩,fun a2=>neq hi1 fun e=>a2 (iff.1 e).2.1,fun a2=>⟨⟨by omega,by omega⟩,⟨by omega,by omega⟩,(l.getD i default).te,(m.getD i default).te,⟨Be _,q1⟩,fun a3=>neq hi1 fun e=>no a3 (iff.1 e).2.2.1,fun a3=>⟨⟨by omega,by omega⟩,⟨by omega,by omega⟩,(l.getD i default).nd,(m.getD i default).nd,⟨Be _,q2⟩,?_⟩⟩⟩⟩
  have fin:C4 (stN (l.getD i default).nd) (stN (m.getD i default).nd)=true->∃y,(y<=l.length/\∀(j:Nat),j<y->stM (l.getD j default)=stM (m.getD j default))/\l.length-y<l.length-i/\IntKind.i64.wrap ((i:Int)+1)=(y:Int):=fun a4 =>
   ⟨i+1,⟨hi1,fun j hj=>by
    by_cases q:j=i
    ·rw[q];exact iff.2 ⟨a1,a2,CV.1 a3,CV.1 a4⟩
    ·exact hi j (by omega)⟩,by omega,Ba (by omega) (by omega)⟩
  exact⟨fun a4=>neq hi1 fun e=>no a4 (iff.1 e).2.2.2,fin⟩
 ·refine UY (stM default) (by simpa using he) fun j hj=>?_
  have hj:j<l.length:=by simpa using hj
  rw[gmap hj,gmap (by omega)]
  exact hi j (by omega)
noncomputable def Bje(a b:Nd):Con:=fun k ds S=>match k with
 |90=>some (pE (β:=Nd×Nd) ds S (fun x=>.bool (C4 (stN x.1) (stN x.2))) (fun x=>wkL ds [.agg x.1.row1,.agg x.2.row1]/\RRS x.1 x.2))
 |111=>some (pA ds S (.bool (Mg a.va b.va)) (wkL ds [.agg a.va.row1,.agg b.va.row1]))
 |112=>some (pA ds S (.bool (C4 (a.bo.map stM) (b.bo.map stM))) (a.bo.length=b.bo.length/\wkL ds [gsl 34 Sm.row1 a.bo,gsl 34 Sm.row1 b.bo]))
 |_=>none
noncomputable def Ersm(a b:Nd):Senv:={ EC (Bje a b) 89 6 [64,69,83] (fun id=>match id with | 6=>([0,1,2,3,4,5,6,7,8,9,10,11],[10]) | _=>([],[])) with
 mg:=fun _=>2
 ann:=fun q _ S=>match q with
  |0=>some { slots:=[5],keep:=[0,1,2,3],α:=Nat,st:=fun i=>([.int .i64 i],S),inv:=fun i=>i<=a.ki.length/\∀j,j<i->stN (a.ki.getD j default)=stN (b.ki.getD j default),mu:=fun i=>a.ki.length-i }
  |_=>none }
def Qdu(a:Nd):Int:=Nd.kd a
def Qj5(a b:Nd):Bool:=C4 (stN a) (stN b)
def Vc(a b:Nd):Prop:=True/\∃(_y:Unit),True/\false=Qj5 a b/\True/\True
def Qdv(a:Nd):Int:=Nd.cl a
def Qdw(a:Nd):List UInt8:=Nd.tx a
def Qdx(a:Nd):Int:=Nd.pr a
def Qdy(a:Nd):Int:=Nd.op a
def Yn(a:Nd):Arr:=Nd.va a
def QA3(a:Nd):Int:=Arr.k (Yn a)
def QA4(a:Nd):D:=ZI (QA3 a)
def QA5(a:Nd):List Int:=Arr.sh (Yn a)
def Qj6(a:Nd):Nat:=LN (QA5 a)
def QA6(a:Nd)(b:Nat):List D:=[ZI (GI (QA5 a) b)]
def QA7(a:Nd):D:=D.sl N1 (Qj6 a) (fun i=>QA6 a i) Mode.any
def QA8(a:Nd):List Int:=Arr.nu (Yn a)
def Qj7(a:Nd):Nat:=LN (QA8 a)
def QA9(a:Nd)(b:Nat):List D:=[ZI (GI (QA8 a) b)]
def QBa(a:Nd):D:=D.sl N1 (Qj7 a) (fun i=>QA9 a i) Mode.any
def QBb(a:Nd):List Arr:=Arr.it (Yn a)
def Qj8(a:Nd):Nat:=LN (QBb a)
def Qj9:Arr:=DA
def QBc(a:Nd)(b:Nat):List D:=Arr.row (List.getD (QBb a) b Qj9)
def QBd(a:Nd):D:=D.sl N4 (Qj8 a) (fun i=>QBc a i) Mode.any
def QBe(a:Nd):D:=D.agg [QA4 a,QA7 a,QBa a,QBd a]
def QBf(a b:Nd):List D:=[QBe a,QBe b]
def Qka(a:Nd):List Nd:=Nd.ki a
def Xq(a:Nd):Nat:=LN (Qka a)
def Hp(a:Nd):Int:=(NI (Xq a))
def Qdz(a:Nd):List Sm:=Nd.bo a
def Xr(a:Nd):Nat:=LN (Qdz a)
def Hq:Nd:=Nd.mk Z0 Z0 Z0 [] Z0 Z0 Qj9 [] [] Z0 Z0 Z0
def QBg(a:Nd)(b:Nat):Nd:=List.getD (Qka a) b Hq
def QBh(a:Nd)(b:Nat):Nd:=stN (QBg a b)
def Qkb(a:Nat)(b c:Nd):Prop:=a<=Xq b/\∀(j:Nat),j<a->QBh b j=QBh c j
def QBi(a:Nd):Int:=Nd.at_ a
def QBj(a:Nd)(b:Nat):List D:=Nd.row1 (QBg a b)
def QBk:Sm:=Sm.mk Z0 Z0 [] Z0 Hq Hq
def QBl(a:Nd)(b:Nat):List D:=Sm.row1 (List.getD (Qdz a) b QBk)
def QBm(a:Nd):Int:=Nd.de a
def QBn(a:Nd):Int:=Nd.sl a
def QBo(a:Nd):Int:=Nd.ss a
def QBp(a:Nd):Prop:=SM (Qdu a)/\SM (QBi a)/\SM (Qdv a)/\SM (Qdw a)/\SM (Qdx a)/\SM (Qdy a)/\SM (QA3 a)/\(SM (Qj6 a)/\(∀(i:Nat),i<Qj6 a->SM (QA6 a i))/\True)/\(SM (Qj7 a)/\(∀(i:Nat),i<Qj7 a->SM (QA9 a i))/\True)/\(SM (Qj8 a)/\(∀(i:Nat),i<Qj8 a->SM (QBc a i))/\True)/\(SM (Xq a)/\(∀(i:Nat),i<Xq a->SM (QBj a i))/\True)/\(SM (Xr a)/\(∀(i:Nat),i<Xr a->SM (QBl a i))/\True)/\SM (QBm a)/\SM (QBn a)/\SM (QBo a)/\True
def QBq(a:Nat)(b:Nd)(c:Nat)(d:Nd):Prop:=(SM a/\QBp b/\SM c/\QBp d/\True)/\True
def KG(a:Nd)(b:Nat):Nd:=List.getD (Qka a) (Int.toNat (↑b:Int)) Hq
def QBu(a:Nd)(b:Nat):D:=D.agg (Nd.rowE (KG a b))
def Qkc(a:Nd):D:=D.sl 34 (Xr a) (fun i=>QBl a i) Mode.any
def QQP(a:Nd):D:=D.agg [ZI (Qdu a),ZI (QBi a),ZI (Qdv a),D.str (Qdw a),ZI (Qdx a),ZI (Qdy a),QA4 a,QA7 a,QBa a,QBd a,D.sl 15 (Xq a) (fun i=>QBj a i) Mode.any,Qkc a,ZI (QBm a),ZI (QBn a),ZI (QBo a)]
def QBv(a:Nd):Prop:=SM (QQP a)
def QBw(a b:Nd):List D:=[Qkc a,Qkc b]
theorem Bjz(a b:Nd)(ha:a.sm/\a.va.ok)(hb:b.sm/\b.va.ok)(h1:∀x∈a.ki,∀y∈b.ki,RRS x y)(h2:∀x∈a.bo,∀y∈b.bo,RRS x.te y.te/\RRS x.nd y.nd):RRS a b:=by
 refine Bg (A:=sC _ _) (x:=()) (E:=Ersm a b) (eOk ?_ rfl) Tryz.func90 rfl (by kernel_rfl) rfl (by simp[sC,Ersm,EC,E0]) ?_
 ·intro k ds S A hh
  unfold Bje at hh
  have a1:=Cb ha.1
  split at hh
  ·injection hh with hh;subst hh
   exact Co fun x ⟨e,h1⟩=>CD.at_ (CD.wk (CD.wk h1 BlJ) e) _
  ·injection hh with hh;subst hh
   refine Bo fun e=>CD.at_ (CD.wk (us:=[.agg a.va.row1,.agg b.va.row1]) ?_ e) _
   exact (BaQ (q':=fun _=>True) (Rg a.va b.va ha.2 hb.2)).mono fun _ _ ⟨y,q1,q2,q3⟩=>⟨(),trivial,q2,q3⟩
  ·injection hh with hh;subst hh
   exact Bo fun ⟨hl,e⟩=>CD.at_ (CD.wk (Bke a.bo b.bo hl (Ci a1.2.2) h2) e) _
  ·cases hh
 refine Bi (T :=
  ∀(x:Nat),True->∀(x_1:Nat),x≠x_1/\True->SM x/\SM x_1/\ifB (Qdu a != Qdu b) (Vc a b) (SM x/\SM x_1/\ifB (Qdv a != Qdv b) (Vc a b) (SM x/\SM x_1/\ifB (Qdw a != Qdw b) (Vc a b) (SM x/\SM x_1/\ifB (Qdx a != Qdx b) (Vc a b) (SM x/\SM x_1/\ifB (Qdy a != Qdy b) (Vc a b) (SM x/\SM x_1/\∃(x_2:Unit),wkL (QBf a b) (QBf a b)/\∀(y:Unit),True->ifB (!Mg (Yn a) (Yn b)) (Vc a b) (SM x/\SM x_1/\ifB (Hp a != Hp b) (Vc a b) (SM x/\SM x_1/\ifB ((NI (Xr a)) != (NI (Xr b))) (Vc a b) ((∃(x_3:Nat),Qkb x_3 a b/\(Z0=(↑x_3:Int)/\True)/\QBq x_1 b x a)/\∀(x_3:Nat),Qkb x_3 a b->SM x/\ifB (decide ((↑x_3:Int)<Hp a)) (SM x/\Bc (Z0<=(↑x_3:Int)/\(↑x_3:Int)<Hp a) (SM x_1/\Bc (Z0<=(↑x_3:Int)/\(↑x_3:Int)<Hp b) (∃(x_4:Nd×Nd),(wkL [QBu a x_3,QBu b x_3] [D.agg (Nd.row1 x_4.1),D.agg (Nd.row1 x_4.2)]/\RRS x_4.1 x_4.2)/\∀(y:Unit),True->ifB (!Qj5 x_4.1 x_4.2) (Vc a b) ((QBv a/\QBv b/\SM (D.ref N0 x N0)/\SM (D.ref (max (N0+N1) N0) x_1 N0)/\True)/\∃(y:Nat),Qkb y a b/\Xq a-y<Xq a-x_3/\(IntKind.wrap IntKind.i64 ((↑x_3:Int)+Z1)=(↑y:Int)/\True)/\QBq x_1 b x a)))) (SM x/\SM x_1/\∃(x:Unit),(Xr a=Xr b/\wkL (QBw a b) (QBw a b))/\∀(y:Unit),True->RT (C4 (List.map stM (Qdz a)) (List.map stM (Qdz b))=Qj5 a b))))))))))) (by kernel_rfl) ?_
 delta DA GI LN N0 N1 N4 NI SI SM Z0 Z1 ZI Qdu Qj5 Vc Qdv Qdw Qdx Qdy Yn QA3 QA4 QA5 Qj6 QA6 QA7 QA8 Qj7 QA9 QBa QBb Qj8 Qj9 QBc QBd QBe QBf Qka Xq Hp Qdz Xr Hq QBg QBh Qkb QBi QBj QBk QBl QBm QBn QBo QBp QBq KG QBu Qkc QQP QBv QBw RT
 try simp only[<- dm]
 try simp only[<- dn]
 simp only[ne_eq,implies_true,Int.toNat_natCast,Bf,Bd,decide_eq_true_eq,decide_eq_false_iff_not,true_and,and_true,bne_iff_ne,bne_eq_false_iff_eq,Bool.not_eq_true',Bool.not_eq_false',exists_const,forall_const,Prod.exists]
 have iff:=Bf3 a b
 have no:∀ {α:Type} {x y:α},C4 x y=false->x≠y:=fun h e=>by rw[CV.2 e] at h;cases h
 have na:Mg a.va b.va=false->a.va≠b.va:=fun h e=>by rw[Gq.2 e] at h;cases h
 have hl:=Ci (Cb ha.1).2.1
 unfold maxLen at hl
 have gmap:∀ {l:List Nd} {i:Nat},i<l.length->(l.map stN).getD i (stN default)=stN (l.getD i default):=fun h=>by simp[List.getD_eq_getElem?_getD,h]
 refine fun u v _=>⟨fun c=>Ey fun e=>c (iff.1 e).1,fun a1=>⟨fun c=>Ey fun e=>c (iff.1 e).2.1,fun a2=>⟨fun c=>Ey fun e=>c (iff.1 e).2.2.1,fun a3=>⟨fun c=>Ey fun e=>c (iff.1 e).2.2.2.1,fun a4=>⟨fun c=>Ey fun e=>c (iff.1 e).2.2.2.2.1,fun a5=>⟨Be _,fun c=>Ey fun e=>na c (iff.1 e).2.2.2.2.2.1,fun a6=>⟨fun c=>Ey fun e=>?_,fun hk=>⟨fun c=>Ey fun e=>?_,fun hb2=>⟨⟨0,⟨Nat.zero_le _,fun j hj=>absurd hj (by omega)⟩,rfl⟩,fun i ⟨i1,hi⟩=>⟨fun hlt=>?_,fun hge=>?_⟩⟩⟩⟩⟩⟩⟩⟩⟩⟩
 ·have:=congrArg List.length (iff.1 e).2.2.2.2.2.2.1
  simp only[List.length_map] at this
  omega
 ·have:=congrArg List.length (iff.1 e).2.2.2.2.2.2.2
  simp only[List.length_map] at this
  omega
 ·have hi1:i<a.ki.length:=by omega
  have hi2:i<b.ki.length:=by omega
  refine⟨⟨by omega,by omega⟩,⟨by omega,by omega⟩,a.ki.getD i default,b.ki.getD i default,⟨Be _,h1 _ (BX hi1) _ (BX hi2)⟩,fun c=>Ey fun e=>no c ?_,fun c=>⟨i+1,⟨hi1,fun j hj=>?_⟩,by omega,Ba (by omega) (by omega)⟩⟩
  ·rw[<- gmap hi1,<- gmap hi2,(iff.1 e).2.2.2.2.2.2.1]
  ·by_cases q:j=i
   ·rw[q];exact CV.1 c
   ·exact hi j (by omega)
 ·have hki:a.ki.map stN=b.ki.map stN:=by
   refine UY (stN default) (by simp only[List.length_map];omega) fun j hj=>?_
   have hj:j<a.ki.length:=by simpa using hj
   rw[gmap hj,gmap (by omega)]
   exact hi j (by omega)
  refine⟨⟨by omega,Be _⟩,?_⟩
  exact Bcr ⟨fun e=>iff.2 ⟨a1,a2,a3,a4,a5,Gq.1 a6,hki,e⟩,fun e=>(iff.1 e).2.2.2.2.2.2.2⟩
theorem BaP(a b:Nd)(ha:a.ok/\a.sm)(hb:b.ok/\b.sm):RRS a b :=
  Bjz a b ⟨ha.2,OI ha.1⟩ ⟨hb.2,OI hb.1⟩ (fun x hx y hy => BaP x y ⟨M8 ha.1 x hx,EW ha.2 (BS hx)⟩ ⟨M8 hb.1 y hy,EW hb.2 (BS hy)⟩) fun x hx y hy =>
    ⟨BaP x.te y.te ⟨(Cq (GM ha.1 x hx)).1,(Cl (GC ha.2 x hx)).1⟩ ⟨(Cq (GM hb.1 y hy)).1,(Cl (GC hb.2 y hy)).1⟩,
     BaP x.nd y.nd ⟨(Cq (GM ha.1 x hx)).2,(Cl (GC ha.2 x hx)).2⟩ ⟨(Cq (GM hb.1 y hy)).2,(Cl (GC hb.2 y hy)).2⟩⟩
termination_by SizeOf.sizeOf a
decreasing_by
  · exact Nd.size_kid hx
  · have := Nd.size_stmt hx
    have := Sm.size_te x
    omega
  · have := Nd.size_stmt hx
    have := Sm.size_nd x
    omega
def zA:Arr:=.mk 0 [] [] []
theorem BqA:zA.ok:=by simp[zA,Arr.ok,okL,Bt,maxLen]
theorem Bik(a:Arr):Mg a zA=Tu a:=by
 cases a with
 |mk k s n i =>
  rw[Bool.eq_iff_iff,Gq]
  unfold Tu
  simp[zA,Arr.k,Arr.sh,Arr.nu,Arr.it,and_assoc]
def BpS:List D:=[.int .i64 0,.sl 1 0 (fun _=>[]) .nil,.sl 1 0 (fun _=>[]) .nil,.sl 1 0 (fun _=>[]) .nil]
theorem Bmx:wkL BpS zA.row1:=by
 simp[BpS,zA,Arr.row1,Arr.k,Arr.sh,Arr.nu,Arr.it,isl,gsl,wkL,wkD,Bn,Bb,BG,M9,kEq]
theorem Bpk(n:Nd):wkL [.agg n.va.row1,.agg BpS] [.agg n.va.row1,.agg zA.row1]:=by
 simp only[wkL,wkD]
 exact⟨Be _,Bmx,trivial⟩
def Blo(n:Nd):Con:=fun k ds S=>match k with
 |111=>some (pA ds S (.bool (Tu n.va)) (wkL ds [.agg n.va.row1,.agg zA.row1]))
 |_=>none
theorem Blp{n:Nd}(h:n.va.ok):ConOk Tryz.prog (Blo n):=by
 intro k ds S A hh
 unfold Blo at hh
 split at hh
 ·injection hh with hh;subst hh
  refine Bo fun e=>CD.at_ (CD.wk (us:=[.agg n.va.row1,.agg zA.row1]) ?_ e) _
  rw[<- Bik]
  exact (BaQ (q':=fun _=>True) (Rg n.va zA h BqA)).mono fun _ _ ⟨y,q1,q2,q3⟩=>⟨(),trivial,q2,q3⟩
 ·cases hh
noncomputable def Eep(n:Nd):Senv:=EC (Blo n) 64 8 [14] (fun _=>([],[]))
def QBx(a:Bool)(b:Nd)(c d e f g:Bool)(h:Nat):Prop:=ifB a (True/\∃(_y:Unit),True/\true=Gn b c d e f g a/\True/\True) (SM h/\True/\∃(_y:Unit),True/\((LI (Nd.bo b))==Z0)=Gn b c d e f g a/\True/\True)
def Hr(a:Nd)(b c d e f g:Bool):Prop:=True/\∃(_y:Unit),True/\false=Gn a b c d e f g/\True/\True
def QBy(a b:Bool)(c:Nd)(d e f g:Bool)(h:Nat):Prop:=ifB a (QBx b c d e f g a h) (SM h/\ifB ((LI (Nd.ki c))==Z0) (QBx b c d e f g a h) (Hr c d e f g a b))
def Hs(a:Nd):Arr:=Nd.va a
def QQQ(a:Nd):List Int:=Arr.sh (Hs a)
def QQR(a:Nd):List Int:=Arr.nu (Hs a)
def QBz(a:Nd):List Arr:=Arr.it (Hs a)
def Yo:Arr:=DA
def QBA(a:Nd):D:=D.agg [ZI (Arr.k (Hs a)),SI (QQQ a),SI (QQR a),D.sl N4 (LN (QBz a)) (fun i=>Arr.row (List.getD (QBz a) i Yo)) Mode.any]
def Qkd:D:=D.sl N1 N0 (fun _x=>[]) Mode.nil
def QQS:List Int:=Arr.sh Yo
def QQT:List Int:=Arr.nu Yo
def QBB(a b c:Bool)(d:Nd)(e f g:Bool)(h:Nat):Prop:=ifB a (QBy b c d e f g a h) (SM h/\∃(_x:Unit),wkL [QBA d,D.agg [ZI Z0,Qkd,Qkd,Qkd]] [QBA d,D.agg [ZI (Arr.k Yo),SI QQS,SI QQT,D.sl N4 (LN (Arr.it Yo)) (fun _i=>Arr.row Yo) Mode.any]]/\∀(_y:Unit),True->ifB (Tu (Hs d)) (QBy b c d e f g a h) (Hr d e f g a b c))
def QBC(a b c d:Bool)(e:Nd)(f g:Bool)(h:Nat):Prop:=ifB a (QBB b c d e f g a h) (SM h/\ifB (Nd.op e==Z0) (QBB b c d e f g a h) (Hr e f g a b c d))
def QBD(a b c d e:Bool)(f:Nd)(g:Bool)(h:Nat):Prop:=ifB a (QBC b c d e f g a h) (SM h/\ifB (Nd.pr f==Z0) (QBC b c d e f g a h) (Hr f g a b c d e))
theorem BiY(n:Nd)(h:n.va.ok)(tx pr op va ki bo:Bool):CD 106 [.agg n.row2,.bool tx,.bool pr,.bool op,.bool va,.bool ki,.bool bo] (.bool (Gn n tx pr op va ki bo)):=by
 refine Bg (A:=sC _ _) (x:=()) (E:=Eep n) (eOk (Blp h) rfl) Tryz.func106 rfl (by kernel_rfl) rfl (by simp[sC,Eep,EC,E0]) ?_
 refine Bi (T :=
  ∀(x:Nat),True->ifB tx (QBD pr op va ki bo n tx x) (SM x/\ifB (Nd.tx n==[]) (QBD pr op va ki bo n tx x) (Hr n tx pr op va ki bo))) (by kernel_rfl) ?_
 delta DA GI LI LN N0 N1 N4 SI SM Z0 ZI QBx Hr QQS QQT QBB QBC QBD QBy Hs QQQ QQR QBz Yo QBA Qkd
 try simp only[]
 try simp only[<- dn]
 simp only[ne_eq,Bf,true_and,and_true,beq_iff_eq,beq_eq_false_iff_ne,exists_const,forall_const]
 have z:∀ {α:Type} (l:List α),((l.length:Int)==0)=l.isEmpty:=fun l=>by cases l<;>simp<;>omega
 have e:(n.tx==[])=n.tx.isEmpty:=by cases n.tx<;>rfl
 have hz:=Bpk n
 unfold Gn
 repeat' (first | exact hz | exact Be _ | refine And.intro ?_ ?_ | intro _)
 all_goals clear hz
 all_goals (try simp only[z,e] at *)
 all_goals first
  |(simp_all;done)
  |(simp_all;omega)
noncomputable def Eoc2:Senv:=EC EB 11 1 [2,8,10] (fun _=>([],[]))
def Qke(a:Int):Bool:=bif decide (a<Z1) then true else decide ((11:Int)<a)
def Qkf(a:Int):Int:=EF a
theorem Bpf(op:Int):CD 108 [.int .i64 op] (.int .i64 (EF op)):=by
 refine Bg (A:=sC _ _) (x:=()) (E:=Eoc2) (eOk BM rfl) Tryz.func108 rfl (by kernel_rfl) rfl (by simp[sC,Eoc2,EC,E0]) ?_
 refine Bi (T :=
  ifB (decide (op<Z1)) (true=Qke op/\True) (decide ((11:Int)<op)=Qke op/\True)/\ifB (Qke op) (RT (Z0=Qkf op)) (ifB (decide (op<=5)) (RT ((3:Int)=Qkf op)) (RT ((4:Int)=Qkf op)))) (by kernel_rfl) ?_
 delta Z0 Z1 Qke Qkf RT
 simp only[Bf,decide_eq_true_eq,decide_eq_false_iff_not,true_and,and_true,exists_const]
 unfold EF
 repeat' (first | refine And.intro ?_ ?_ | intro _)
 all_goals by_cases c1:op<1<;>by_cases c2:11<op<;>by_cases c3:op<=5<;>first
  |omega
  |(simp_all;done)
  |(simp_all;omega)
def I9(b:Nd):Bool:=b.kd==17&&(b.op==7||b.op==8||b.op==9)
theorem Ba9(n:Nd):IE n=if I9 (n.ki.getD 0 default)=true then 1 else 2:=by
 unfold IE I9
 simp[or_assoc]
noncomputable def Eta:Senv:=EC EB 21 3 [] (fun _=>([],[]))
def Yp(a:Nd):Int:=Nd.op a
def QdB(a:Nd):Bool:=bif Nd.kd a==17 then bif bif Yp a==7 then true else Yp a==8 then true else Yp a==9 else false
def QBE(a:Nd):Prop:=true=QdB a/\True
theorem BqS(n:Nd):CD 110 [.agg n.row2] (.bool (I9 n)):=by
 refine Bg (A:=sC _ _) (x:=()) (E:=Eta) (eOk BM rfl) Tryz.func110 rfl (by kernel_rfl) rfl (by simp[sC,Eta,EC,E0]) ?_
 refine Bi (T :=
  ∀(x:Nat),True->(SM x/\ifB (Nd.kd n==17) (SM x/\ifB (Yp n==7) (QBE n) (SM x/\ifB (Yp n==8) (QBE n) (SM x/\(Yp n==9)=QdB n/\True))) (false=QdB n/\True))/\RT (QdB n=I9 n)) (by kernel_rfl) ?_
 delta SM Yp QdB QBE RT
 try simp only[]
 try simp only[<- dn]
 simp only[ne_eq,Bf,true_and,and_true,beq_iff_eq,beq_eq_false_iff_ne,exists_const,forall_const]
 unfold I9
 repeat' (first | refine And.intro ?_ ?_ | intro _)
 all_goals first
  |(simp_all;done)
  |(simp_all;omega)
def BeU(n:Nd):Con:=fun k ds S=>match k with
 |106=>match ds with
  | [_,.bool a,.bool b,.bool c,.bool d,.bool e,.bool f]=>some (pA ds S (.bool (Gn n a b c d e f)) (isN2 n ds [.bool a,.bool b,.bool c,.bool d,.bool e,.bool f]))
  |_=>none
 |107=>some (pA ds S (.int .i64 (Bw n.va).1) (wkL ds [.agg n.va.row1]))
 |68=>some (pA ds S (.bool (Cd n.tx)) (wkL ds [.str n.tx]))
 |108=>some (pA ds S (.int .i64 (EF n.op)) (wkL ds [.int .i64 n.op]))
 |_=>none
theorem Bhd{n:Nd}(h:n.va.ok):ConOk Tryz.prog (BeU n):=by
 intro k ds S A hh
 unfold BeU at hh
 split at hh
 ·split at hh
  ·injection hh with hh;subst hh
   exact Bo fun e=>CD.at_ (CD.wk (BiY n h _ _ _ _ _ _) e) _
  ·cases hh
 ·injection hh with hh;subst hh
  refine Bo fun e=>CD.at_ (CD.wk (CD.wk (us:=[.agg n.va.row2]) ?_ (by simp only[wkL,wkD];exact⟨GP _,trivial⟩)) e) _
  exact (Bku n.va h).mono fun _ _ ⟨y,q1,q2,q3⟩=>⟨(),trivial,q2,q3⟩
 ·injection hh with hh;subst hh
  exact Bo fun e=>CD.at_ (CD.wk (Bn5 n.tx) e) _
 ·injection hh with hh;subst hh
  exact Bo fun e=>CD.at_ (CD.wk (Bpf n.op) e) _
 ·cases hh
noncomputable def Erlf(n:Nd):Senv:=EC (BeU n) 122 4 [5,6,44,63,74,93,104] (fun id=>match id with | 19=>([0,1,2,3,4,5,6,7,8,9,10,11,12,13,14,15,16],[1,5,13]) | _=>([],[]))
def QB(a:Nd):Int:=Nd.kd a
def Vy(a:Nd):Int:=Nd.cl a
def QBF(a:Nd):D:=ZI (Vy a)
def Qkg(a:Nd):Int:=Nd.pr a
def Ht(a:Nd):Arr:=Nd.va a
def Qkh(a:Nd):Int:=Arr.k (Ht a)
def QBG(a:Nd):D:=ZI (Qkh a)
def QBH(a:Nd):List Int:=Arr.sh (Ht a)
def QBI(a:Nd):Nat:=LN (QBH a)
def QBJ(a:Nd):D:=D.sl N1 (QBI a) (fun i=>[ZI (GI (QBH a) i)]) Mode.any
def QQU(a:Nd):List Int:=Arr.nu (Ht a)
def QBK(a:Nd):D:=SI (QQU a)
def QBL(a:Nd):List Arr:=Arr.it (Ht a)
def QBM:Arr:=DA
def QBN(a:Nd):D:=D.sl N4 (LN (QBL a)) (fun i=>Arr.row (List.getD (QBL a) i QBM)) Mode.any
def Hu(a:Nd):D:=D.agg (Nd.row2 a)
def QBO:List D:=[D.bool false,D.bool false,D.bool false,D.bool true,D.bool false,D.bool false]
def QBP(a:Nd):List D:=[D.agg [QBG a,QBJ a,QBK a,QBN a]]
def QBQ(a:Nd):Int:=(NI (QBI a))
def Vz(a:Nd):Bool:=O5 a
def QC(a:Nd):Prop:=True/\∃(_y:Unit),True/\false=Vz a/\True/\True
def QBR(a:Nat)(b:Nd):Prop:=SM a/\ifB (QBQ b==Z1) (SM a/\True/\∃(_y:Unit),True/\(Qkh b==2)=Vz b/\True/\True) (QC b)
def QBS:List D:=[D.bool false,D.bool false,D.bool false]
def QBT:List D:=D.bool false::QBS
def QBU:List D:=D.bool false::QBT
def QBV:List D:=D.bool true::QBU
def QBW:List D:=D.bool false::QBU
def QBX(a:Nd):Prop:=isN2 a (Hu a::QBW) QBW
def QBY(a:Nd):Bool:=Gn a false false false false false false
def Qkj(a:Nat)(b:Nd):Prop:=SM a/\∃(_x:Unit),QBX b/\∀(_y:Unit),True->ifB (QBY b) (SM a/\True/\∃(_y:Unit),True/\(Vy b==Z1)=Vz b/\True/\True) (QC b)
def QBZ:List D:=D.bool false::D.bool true::QBT
def Qkk(a:Nat)(b:Nd):Prop:=SM a/\∃(_x:Unit),QBX b/\∀(_y:Unit),True->ifB (QBY b) (SM a/\True/\∃(_y:Unit),True/\(Vy b==2)=Vz b/\True/\True) (QC b)
def QB0:List D:=D.bool false::D.bool false::D.bool true::QBS
def QB1(a:Nd):Prop:=wkL [ZI (Nd.op a)] [ZI (Nd.op a)]
def QB2(a:Nd):Int:=EF (Nd.op a)
def Qkl(a:Nd)(b:Nat):Prop:=ifB (QB a==17) (SM b/\∃(_x:Unit),isN2 a (Hu a::QB0) QB0/\∀(_y:Unit),True->ifB (Gn a false false true false false false) (SM b/\∃(_x:Unit),QB1 a/\∀(_y:Unit),True->ifB (QB2 a != Z0) (SM b/\SM b/\∃(_x:Unit),QB1 a/\∀(_y:Unit),True->(SM b/\SM (QBF a))/\True/\∃(_y:Unit),True/\(Vy a==QB2 a)=Vz a/\True/\True) (QC a)) (QC a)) (QC a)
def Qkm(a:Nd)(b:Nat):Prop:=ifB (QB a==9) (SM b/\∃(_x:Unit),isN2 a (Hu a::QBZ) QBZ/\∀(_y:Unit),True->ifB (Gn a false true false false false false) (SM b/\ifB (Vy a==2) (SM b/\ifB (decide (Z1<=Qkg a)) (SM b/\True/\∃(_y:Unit),True/\decide (Qkg a<=55)=Vz a/\True/\True) (QC a)) (QC a)) (QC a)) (ifB (QB a==11) (ifB (QB a==11) (Qkk b a) (Qkl a b)) (ifB (QB a==12) (ifB (QB a==12) (Qkk b a) (Qkl a b)) (ifB (QB a==13) (Qkk b a) (Qkl a b))))
theorem BoM(n:Nd)(h:n.va.ok):CD 88 [.agg n.row2] (.bool (O5 n)):=by
 refine Bg (A:=sC _ _) (x:=()) (E:=Erlf n) (eOk (Bhd h) rfl) Tryz.func88 rfl (by kernel_rfl) rfl (by simp[sC,Erlf,EC,E0]) ?_
 refine Bi (T :=
  ∀(x:Nat),True->SM x/\ifB (QB n==Z1) (SM x/\∀(x_1:Nat),x≠x_1/\True->SM x_1/\SM x/\∃(x_2:Unit),isN2 n (Hu n::QBO) QBO/\∀(y:Unit),True->ifB (Gn n false false false true false false) (SM x/\ifB (Vy n==Z1) (SM x_1/\∃(x:Unit),wkL (QBP n) (QBP n)/\∀(y:Unit),True->ifB (Prod.fst (Bw (Ht n))==Z0) (SM x_1/\ifB (QBQ n==Z0) (SM x_1/\ifB (Qkh n != (3:Int)) (RT (true=Vz n)) (QBR x_1 n)) (QBR x_1 n)) (QC n)) (QC n)) (QC n)) (ifB (QB n==2) (SM x/\∃(x_1:Unit),isN2 n (Hu n::QBV) QBV/\∀(y:Unit),True->ifB (Gn n true false false false false false) (SM x/\∃(x_2:Unit),wkL [D.str (Nd.tx n)] [D.str (Nd.tx n)]/\∀(y:Unit),True->ifB (Cd (Nd.tx n)) (SM x/\ifB (decide (Z1<=Vy n)) (SM x/\RT (decide (Vy n<=4)=Vz n)) (QC n)) (QC n)) (QC n)) (ifB (QB n==6) (ifB (QB n==6) (Qkj x n) (Qkm n x)) (ifB (QB n==7) (ifB (QB n==7) (Qkj x n) (Qkm n x)) (ifB (QB n==8) (Qkj x n) (Qkm n x)))))) (by kernel_rfl) ?_
 delta DA GI LN N1 N4 NI SI SM Z0 Z1 ZI QB Vy QBF Qkg Ht Qkh QBG QBH QBI QBJ QQU QBK QBL QBM QBN Hu QBO QBP QBQ Vz QC QBR QBS QBT QBU QBV QBW QBX QBY Qkj QBZ Qkk QB0 QB1 QB2 Qkl Qkm RT
 try simp only[<- dm]
 try simp only[<- dn]
 simp only[ne_eq,Bf,decide_eq_true_eq,decide_eq_false_iff_not,true_and,and_true,beq_iff_eq,bne_iff_ne,bne_eq_false_iff_eq,beq_eq_false_iff_ne,exists_const,forall_const]
 have e2:n.va.sh.isEmpty=(n.va.sh.length==0):=by cases n.va.sh<;>rfl
 have e40:((n.va.sh.length:Int)==0)=(n.va.sh.length==0):=by rw[Bool.eq_iff_iff,beq_iff_eq,beq_iff_eq];omega
 have e41:((n.va.sh.length:Int)==1)=(n.va.sh.length==1):=by rw[Bool.eq_iff_iff,beq_iff_eq,beq_iff_eq];omega
 have self:∀a b c d e f:Bool,isN2 n [.agg n.row2,.bool a,.bool b,.bool c,.bool d,.bool e,.bool f] [.bool a,.bool b,.bool c,.bool d,.bool e,.bool f]:=fun _ _ _ _ _ _=>CJ n _
 try simp only[e40,e41]
 repeat' (first | exact self _ _ _ _ _ _ | exact Be _ | refine And.intro ?_ ?_ | intro _)
 all_goals clear self
 all_goals first
  |exact Be _
  |(exfalso;omega)
  |(simp_all[O5];done)
  |(simp_all[O5];omega)
def BeF(n:Nd):Con:=fun k ds S=>match k with
 |106=>match ds with
  | [_,.bool a,.bool b,.bool c,.bool d,.bool e,.bool f]=>some (pA ds S (.bool (Gn n a b c d e f)) (isN2 n ds [.bool a,.bool b,.bool c,.bool d,.bool e,.bool f]))
  |_=>none
 |109=>match ds with
  | [_,.sl 1 m f _]=>some (pA ds S (.bool (Bm n (Bj m f))) (wkL ds [.agg n.row2,isl (Bj m f) .any]/\m<=maxLen))
  |_=>none
 |110=>some (pA ds S (.bool (I9 (n.ki.getD 0 default))) (isN (n.ki.getD 0 default) ds []))
 |_=>none
theorem BhS{n:Nd}(h:n.va.ok)(hl:n.ki.length<=maxLen):ConOk Tryz.prog (BeF n):=by
 intro k ds S A hh
 unfold BeF at hh
 split at hh
 ·split at hh
  ·injection hh with hh;subst hh
   exact Bo fun e=>CD.at_ (CD.wk (BiY n h _ _ _ _ _ _) e) _
  ·cases hh
 ·split at hh
  ·injection hh with hh;subst hh
   exact Bo fun ⟨e,hm⟩=>CD.at_ (CD.wk (BpJ n _ hl (by rw[BL];exact hm)) e) _
  ·cases hh
 ·injection hh with hh;subst hh
  exact Bo fun e=>CD.at_ (CD.isN (BqS _) e) _
 ·cases hh
def Baw(n:Nd):Bool:=Bm n (List.replicate n.ki.length 1)
theorem Bc3(n:Nd):Baw n=true↔∀j,j<n.ki.length->(n.ki.getD j default).cl=1:=by
 unfold Baw Bm
 rw[UO]
 constructor
 ·intro ⟨_,h⟩ j hj
  rw[h j hj]
  simp[List.getD_eq_getElem?_getD,hj]
 ·intro h
  refine⟨by simp,fun j hj=>?_⟩
  rw[h j hj]
  simp[List.getD_eq_getElem?_getD,hj]
theorem BjB{n:Nd}(h:Gn n false false false false true false=false):false=Gh n:=by
 unfold Gh
 rw[h];rfl
theorem Bpz{n:Nd}(h:Gn n false false false false true false=true)(k:n.kd=3):Gh n=(Baw n&&n.cl==1&&decide (2<=n.ki.length)&&decide (n.ki.length<=1000)):=by
 unfold Gh Baw
 rw[h,if_pos k];rfl
noncomputable def Erin(n:Nd):Senv:={ EC (BeF n) 119 4 [6,8,9,15,24,40,50,60,70,82,99] (fun _=>([],[])) with
 mg:=fun _=>2
 ann:=fun q _ S=>match q with
  |1=>some { slots:=[3],keep:=[0,1],α:=Nat,st:=fun i=>([.int .i64 i],S),inv:=fun i=>i<=n.ki.length/\∀j,j<i->(n.ki.getD j default).cl=1,mu:=fun i=>n.ki.length-i }
  |_=>none }
def VA(a:Nd):Int:=Nd.kd a
def QB3(a:Nd):Int:=Nd.at_ a
def QdC(a:Nd):Int:=Nd.cl a
def QB4(a:Nd):List UInt8:=Nd.tx a
def QB5(a:Nd):Int:=Nd.pr a
def QB6(a:Nd):Int:=Nd.op a
def QdD(a:Nd):Arr:=Nd.va a
def QB7(a:Nd):Int:=Arr.k (QdD a)
def QB8(a:Nd):List Int:=Arr.sh (QdD a)
def Qkn(a:Nd):Nat:=LN (QB8 a)
def QB9(a:Nd)(b:Nat):List D:=[ZI (GI (QB8 a) b)]
def QCa(a:Nd):List Int:=Arr.nu (QdD a)
def Qko(a:Nd):Nat:=LN (QCa a)
def QCb(a:Nd)(b:Nat):List D:=[ZI (GI (QCa a) b)]
def QCc(a:Nd):List Arr:=Arr.it (QdD a)
def Qkp(a:Nd):Nat:=LN (QCc a)
def Qkq:Arr:=DA
def QCd(a:Nd)(b:Nat):List D:=Arr.row (List.getD (QCc a) b Qkq)
def QdE(a:Nd):List Nd:=Nd.ki a
def Xs(a:Nd):Nat:=LN (QdE a)
def Yq:Nd:=Nd.mk Z0 Z0 Z0 [] Z0 Z0 Qkq [] [] Z0 Z0 Z0
def QCe(a:Nd)(b:Nat):Nd:=List.getD (QdE a) b Yq
def QCf(a:Nd)(b:Nat):List D:=Nd.row1 (QCe a b)
def Qkr(a:Nd):Nat:=LN (Nd.bo a)
def QCg:Sm:=Sm.mk Z0 Z0 [] Z0 Yq Yq
def QCh(a:Nd)(b:Nat):List D:=Sm.row1 (List.getD (Nd.bo a) b QCg)
def QCi(a:Nd):Int:=Nd.de a
def QCj(a:Nd):Int:=Nd.sl a
def QCk(a:Nd):Int:=Nd.ss a
def Qq(a:Nd):D:=D.agg [ZI (VA a),ZI (QB3 a),ZI (QdC a),D.str (QB4 a),ZI (QB5 a),ZI (QB6 a),ZI (QB7 a),D.sl N1 (Qkn a) (fun i=>QB9 a i) Mode.any,D.sl N1 (Qko a) (fun i=>QCb a i) Mode.any,D.sl N4 (Qkp a) (fun i=>QCd a i) Mode.any,D.sl 15 (Xs a) (fun i=>QCf a i) Mode.any,D.sl 34 (Qkr a) (fun i=>QCh a i) Mode.any,ZI (QCi a),ZI (QCj a),ZI (QCk a)]
def QCl:List D:=[D.bool false,D.bool false,D.bool false,D.bool false,D.bool true,D.bool false]
def Vd(a:Nd):Bool:=Gh a
def JH(a:Nd):Prop:=True/\∃(_y:Unit),True/\false=Vd a/\True/\True
def Qks(a:Nat)(b:Nd):Prop:=a<=Xs b/\∀(j:Nat),j<a->Nd.cl (QCe b j)=Z1
def QCm(a:Nat)(b:Nd):Prop:=(SM a/\(SM (VA b)/\SM (QB3 b)/\SM (QdC b)/\SM (QB4 b)/\SM (QB5 b)/\SM (QB6 b)/\SM (QB7 b)/\(SM (Qkn b)/\(∀(i:Nat),i<Qkn b->SM (QB9 b i))/\True)/\(SM (Qko b)/\(∀(i:Nat),i<Qko b->SM (QCb b i))/\True)/\(SM (Qkp b)/\(∀(i:Nat),i<Qkp b->SM (QCd b i))/\True)/\(SM (Xs b)/\(∀(i:Nat),i<Xs b->SM (QCf b i))/\True)/\(SM (Qkr b)/\(∀(i:Nat),i<Qkr b->SM (QCh b i))/\True)/\SM (QCi b)/\SM (QCj b)/\SM (QCk b)/\True)/\True)/\True
def Yr(a:Nd):Int:=(NI (Xs a))
def Qkt(a:Nd):Bool:=QdC a==Z1
def Ys:List D:=[ZI 2]
def QCn:List (List D):=[Ys,[ZI Z1]]
def QCo(a:Nat):List D:=List.getD QCn a []
def QCp:List Int:=Bj N2 fun i=>QCo i
def QCq(a:Nat):List D:=List.getD [Ys,[ZI Z1],[ZI Z1]] a []
def QCr:List Int:=Bj (3:Nat) fun i=>QCq i
def QdF(a:Nd):Bool:=QdC a==2
def QCs(a:Nat):List D:=List.getD [[ZI 3],Ys] a []
def QCt:List Int:=Bj N2 fun i=>QCs i
def QE(a:Nd):Nd:=List.getD (QdE a) N0 Yq
def QCx(a:Nat):List D:=List.getD ([ZI 4]::QCn) a []
def QCy:List Int:=Bj (3:Nat) fun i=>QCx i
def QdH:List (List D):=[Ys,Ys]
def QCz(a:Nat):List D:=List.getD ([ZI 4]::QdH) a []
def QCA:List Int:=Bj (3:Nat) fun i=>QCz i
def QCB(a:Nat)(b:Nd):Prop:=SM a/\ifB (QdF b) (SM a/\∃(_x:Unit),(wkL [Qq b,D.sl N1 (3:Nat) (fun i=>QCz i) Mode.full] [Qq b,SI QCA]/\(3:Nat)<=9223372036854775807)/\∀(_y:Unit),True->True/\∃(_y:Unit),True/\Bm b QCA=Vd b/\True/\True) (JH b)
def QCC(a:Nat):List D:=List.getD QdH a []
def QCD:List Int:=Bj N2 fun i=>QCC i
def QCE(a:Nd):Prop:=True/\∃(_y:Unit),True/\true=Vd a/\True/\True
def QCF(a:Nat):List D:=List.getD (Ys::QdH) a []
def QCG:List Int:=Bj (3:Nat) fun i=>QCF i
def QCH(a:Nat):List D:=List.getD ([ZI Z1]::QdH) a []
def QCI:List Int:=Bj (3:Nat) fun i=>QCH i
theorem BoF(n:Nd)(h:n.va.ok)(hl:n.ki.length <= maxLen):CD 89 [.agg n.row2] (.bool (Gh n)) := by
  refine Bg (A := sC _ _) (x := ()) (E := Erin n) (eOk (BhS h hl) rfl) Tryz.func89 rfl (by kernel_rfl) rfl (by simp [sC,Erin,EC,E0]) ?_
  refine Bi (T :=
    ∀ (x:Nat),True->SM x/\∃ (x_1:Unit),isN2 n (Qq n :: QCl) QCl/\∀ (y:Unit),True->ifB (!Gn n false false false false true false) (JH n) (SM x/\ifB (VA n == (3:Int)) ((∃ (x_2:Nat),Qks x_2 n/\(Z0 = (↑x_2:Int)/\True)/\QCm x n)/\∀ (x_2:Nat),Qks x_2 n->SM x/\ifB (decide ((↑x_2:Int) < Yr n)) (SM x/\Bc (Z0 <= (↑x_2:Int)/\(↑x_2:Int) < Yr n) (ifB (Nd.cl (List.getD (QdE n) (Int.toNat (↑x_2:Int)) Yq) != Z1) (JH n) ((SM (Qq n)/\SM (D.ref N0 x N0)/\True)/\∃ (y:Nat),Qks y n/\Xs n - y < Xs n - x_2/\(IntKind.wrap IntKind.i64 ((↑x_2:Int) + Z1) = (↑y:Int)/\True)/\QCm x n))) (SM x/\ifB (Qkt n) (SM x/\ifB (decide ((2:Int) <= Yr n)) (SM x/\True/\∃ (y:Unit),True/\decide (Yr n <= (1000:Int)) = Vd n/\True/\True) (JH n)) (JH n))) (ifB (VA n == (4:Int)) (SM x/\ifB (Qkt n) (SM x/\∃ (x:Unit),(wkL [Qq n,D.sl N1 N2 (fun (i:Nat) => QCo i) Mode.full] [Qq n,SI QCp]/\N2 <= (9223372036854775807:Nat))/\∀ (y:Unit),True->True/\∃ (y:Unit),True/\Bm n QCp = Vd n/\True/\True) (JH n)) (ifB (VA n == (5:Int)) (SM x/\ifB (Qkt n) (SM x/\∃ (x:Unit),(wkL [Qq n,D.sl N1 (3:Nat) (fun (i:Nat) => QCq i) Mode.full] [Qq n,SI QCr]/\(3:Nat) <= (9223372036854775807:Nat))/\∀ (y:Unit),True->True/\∃ (y:Unit),True/\Bm n QCr = Vd n/\True/\True) (JH n)) (ifB (VA n == (14:Int)) (SM x/\ifB (QdF n) (SM x/\∃ (x:Unit),(wkL [Qq n,D.sl N1 N2 (fun (i:Nat) => QCs i) Mode.full] [Qq n,SI QCt]/\N2 <= (9223372036854775807:Nat))/\∀ (y:Unit),True->True/\∃ (y:Unit),True/\Bm n QCt = Vd n/\True/\True) (JH n)) (ifB (VA n == (15:Int)) (SM x/\ifB (decide (Z0 < Yr n)) (SM x/\Bc (Z0 <= Z0/\Z0 < Yr n) (∃ (x_2:Unit),isN (QE n) [D.agg (Nd.rowE (QE n))] []/\∀ (y:Unit),True->ifB (I9 (QE n)) (SM x/\ifB (QdF n) (SM x/\∃ (x:Unit),(wkL [Qq n,D.sl N1 (3:Nat) (fun (i:Nat) => QCx i) Mode.full] [Qq n,SI QCy]/\(3:Nat) <= (9223372036854775807:Nat))/\∀ (y:Unit),True->True/\∃ (y:Unit),True/\Bm n QCy = Vd n/\True/\True) (JH n)) (QCB x n))) (QCB x n)) (ifB (VA n == (16:Int)) (SM x/\ifB (QdF n) (SM x/\∃ (x_2:Unit),(wkL [Qq n,D.sl N1 N2 (fun (i:Nat) => QCC i) Mode.full] [Qq n,SI QCD]/\N2 <= (9223372036854775807:Nat))/\∀ (y:Unit),True->ifB (Bm n QCD) (QCE n) (SM x/\∃ (x_3:Unit),(wkL [Qq n,D.sl N1 (3:Nat) (fun (i:Nat) => QCF i) Mode.full] [Qq n,SI QCG]/\(3:Nat) <= (9223372036854775807:Nat))/\∀ (y:Unit),True->ifB (Bm n QCG) (QCE n) (SM x/\∃ (x:Unit),(wkL [Qq n,D.sl N1 (3:Nat) (fun (i:Nat) => QCH i) Mode.full] [Qq n,SI QCI]/\(3:Nat) <= (9223372036854775807:Nat))/\∀ (y:Unit),True->True/\∃ (y:Unit),True/\Bm n QCI = Vd n/\True/\True))) (JH n)) (JH n)))))))) (by kernel_rfl) ?_
  delta DA GI LN N0 N1 N2 N4 NI SI SM Z0 Z1 ZI VA QB3 QB9 QCa Qko QCb QCc Qkp Qkq QCd QdE Xs QdC Yq QCe QCf Qkr QCg QCh QCi QCj QCk Qq QB4 QCl Vd JH Qks QCm Yr Qkt Ys QCn QCo QB5 QCp QCq QCr QdF QCs QCt QE QB6 QCx QCy QdH QCz QCA QCB QCC QdD QCD QCE QCF QCG QCH QCI QB7 QB8 Qkn
  try simp only [<- dm]
  try simp only [<- dn]
  simp only [ne_eq,implies_true,Int.toNat_natCast,Bf,Bd,decide_eq_true_eq,decide_eq_false_iff_not,true_and,and_true,beq_iff_eq,bne_iff_ne,bne_eq_false_iff_eq,beq_eq_false_iff_ne,Bool.not_eq_true',Bool.not_eq_false',exists_const,forall_const]
  have i2:∀ a b:Int,Bj 2 (fun i => [[D.int IntKind.i64 a],[D.int IntKind.i64 b]].getD i []) = [a,b] := fun _ _ => rfl
  have i3:∀ a b c:Int,Bj 3 (fun i => [[D.int IntKind.i64 a],[D.int IntKind.i64 b],[D.int IntKind.i64 c]].getD i []) = [a,b,c] := fun _ _ _ => rfl
  have p2:∀ a b:Int,IntsP 2 (fun i => [[D.int IntKind.i64 a],[D.int IntKind.i64 b]].getD i []) := fun _ _ i hi => by
    match i,hi with
    | 0,_ => rfl
    | 1,_ => rfl
  have p3:∀ a b c:Int,IntsP 3 (fun i => [[D.int IntKind.i64 a],[D.int IntKind.i64 b],[D.int IntKind.i64 c]].getD i []) := fun _ _ _ i hi => by
    match i,hi with
    | 0,_ => rfl
    | 1,_ => rfl
    | 2,_ => rfl
  unfold maxLen at hl
  refine ⟨CJ n _,fun h0 => BjB h0,fun h0 => ⟨fun k3 => ?_,fun n3 => ?_⟩⟩
  · rw [Bpz h0 k3]
    refine ⟨⟨0,⟨Nat.zero_le _,fun j hj => absurd hj (by omega)⟩,rfl⟩,fun i ⟨i1,hi⟩ => ⟨fun hlt => ⟨⟨by omega,hlt⟩,fun c => ?_,fun c => ⟨i + 1,⟨by omega,fun j hj => ?_⟩,by omega,Ba (by omega) (by omega)⟩⟩,fun hge => ?_⟩⟩
    · cases e:Baw n with
      | false => rfl
      | true => exact (c ((Bc3 n).1 e i (by omega))).elim
    · by_cases e':j = i
      · rw [e']; exact c
      · exact hi j (by omega)
    · have e:Baw n = true := (Bc3 n).2 fun j hj => hi j (by omega)
      rw [e]
      refine ⟨fun c => ⟨fun d => ?_,fun d => ?_⟩,fun c => ?_⟩
      · have d2:decide (2 <= n.ki.length) = true := decide_eq_true (by omega)
        rw [c,d2]
        simp only [Bool.true_and,beq_self_eq_true]
        exact decide_eq_decide.2 (by omega)
      · have d2:decide (2 <= n.ki.length) = false := decide_eq_false (by omega)
        rw [d2]; simp
      · have d2:(n.cl == 1) = false := by simpa using c
        rw [d2]; rfl
  · have z:¬ (0:Int) < n.ki.length->I9 (n.ki.getD 0 default) = false := fun h => by
      have:n.ki = [] := List.length_eq_zero_iff.1 (by omega)
      rw [this]; rfl
    have hr : Gh n = (if n.kd = 4 then n.cl == 1 && Bm n [2, 1]
       else if n.kd = 5 then n.cl == 1 && Bm n [2,1,1]
       else if n.kd = 14 then n.cl == 2 && Bm n [3,2]
       else if n.kd = 15 then n.cl == 2 && Bm n [4,2,if I9 (n.ki.getD 0 default) = true then 1 else 2]
       else if n.kd = 16 then n.cl == 2 && (Bm n [2,2] || Bm n [2,2,2] || Bm n [1,2,2])
       else false) := by
      unfold Gh
      rw [h0,Ba9,if_neg n3,Bool.true_and]
    rw [hr]
    clear hr
    repeat' (first | exact Bl _ _ | exact CJ n _ | exact Be _ | exact Cj (p2 _ _) | exact Cj (p3 _ _ _) | refine And.intro ?_ ?_ | intro _)
    all_goals try simp only [i2,i3] at *
    clear i2 i3 p2 p3
    all_goals first
      | omega
      | (simp_all; done)
      | (simp_all; omega)
def RMent(q:Int)(n:Nd):Prop:=CD 92 [.agg n.row2,.int .i64 q] (.bool (Ce q n))
def Bbr(q:Int)(p:Nd->Prop):Con:=fun k ds S=>match k with
 |92=>some (pE (β:=Nd) ds S (fun b=>.bool (Ce q b)) (fun b=>isN b ds [.int .i64 q]/\p b))
 |_=>none
theorem Bax{q:Int}{p:Nd->Prop}(h:∀b,p b->RMent q b):ConOk Tryz.prog (Bbr q p):=by
 intro k ds S A hh
 unfold Bbr at hh
 split at hh
 ·injection hh with hh;subst hh
  exact Co fun b ⟨e,hb⟩=>CD.at_ (CD.isN (h b hb) e) _
 ·cases hh
noncomputable def Erme(q:Int)(n:Nd):Senv:={ EC (Bbr q (·∈n.ki)) 24 3 [4,5,9,14,23] (fun _=>([],[])) with
 mg:=fun _=>2
 ann:=fun b _ S=>match b with
  |0=>some { slots:=[5],keep:=[0,1,2],α:=Nat,st:=fun i=>([.int .i64 i],S),inv:=fun i=>i<=n.ki.length/\∀j,j<i->Ce q (n.ki.getD j default)=false,mu:=fun i=>n.ki.length-i }
  |_=>none }
theorem Bfh{α:Type}[Inhabited α]{p:α->Bool}{l:List α}(h:∀j,j<l.length->p (l.getD j default)=false):l.any p=false:=by
 rw[List.any_eq_false]
 intro x hx
 obtain ⟨i,hi,rfl⟩:=List.getElem_of_mem hx
 have:=h i hi
 rw[List.getD_eq_getElem?_getD,List.getElem?_eq_getElem hi] at this
 simpa using this
theorem Ba1{α:Type}[Inhabited α]{p:α->Bool}{l:List α}{j:Nat}(hj:j<l.length)(h:p (l.getD j default)=true):l.any p=true:=by
 rw[List.any_eq_true]
 refine⟨l.getD j default,?_,h⟩
 rw[List.getD_eq_getElem?_getD,List.getElem?_eq_getElem hj]
 exact List.getElem_mem hj
def Qku(a:Nd):Int:=Nd.kd a
def QCJ(a:Int)(b:Nd):Prop:=True/\∃(_y:Unit),True/\true=Ce a b/\True/\True
def QdI(a:Nd):List Nd:=Nd.ki a
def VB(a:Nd):Nat:=LN (QdI a)
def Qkv:Arr:=DA
def Hv:Nd:=Nd.mk Z0 Z0 Z0 [] Z0 Z0 Qkv [] [] Z0 Z0 Z0
def QCK(a:Nd)(b:Nat):Nd:=List.getD (QdI a) b Hv
def Qkw(a:Nat)(b:Nd)(c:Int):Prop:=a<=VB b/\∀(j:Nat),j<a->Ce c (QCK b j)=false
def QCL(a:Nd):Int:=Nd.at_ a
def QCM(a:Nd):Int:=Nd.cl a
def QCN(a:Nd):List UInt8:=Nd.tx a
def QCO(a:Nd):Int:=Nd.pr a
def QCP(a:Nd):Int:=Nd.op a
def QdJ(a:Nd):Arr:=Nd.va a
def QCQ(a:Nd):Int:=Arr.k (QdJ a)
def QCR(a:Nd):List Int:=Arr.sh (QdJ a)
def Qkx(a:Nd):Nat:=LN (QCR a)
def QCS(a:Nd)(b:Nat):List D:=[ZI (GI (QCR a) b)]
def QCT(a:Nd):List Int:=Arr.nu (QdJ a)
def Qky(a:Nd):Nat:=LN (QCT a)
def QCU(a:Nd)(b:Nat):List D:=[ZI (GI (QCT a) b)]
def QCV(a:Nd):List Arr:=Arr.it (QdJ a)
def Qkz(a:Nd):Nat:=LN (QCV a)
def QCW(a:Nd)(b:Nat):List D:=Arr.row (List.getD (QCV a) b Qkv)
def QCX(a:Nd)(b:Nat):List D:=Nd.row1 (QCK a b)
def QkA(a:Nd):Nat:=LN (Nd.bo a)
def QCY:Sm:=Sm.mk Z0 Z0 [] Z0 Hv Hv
def QCZ(a:Nd)(b:Nat):List D:=Sm.row1 (List.getD (Nd.bo a) b QCY)
def QC0(a:Nd):Int:=Nd.de a
def QC1(a:Nd):Int:=Nd.sl a
def QC2(a:Nd):Int:=Nd.ss a
def QC3(a:Nat)(b:Nd):Prop:=(SM a/\(SM (Qku b)/\SM (QCL b)/\SM (QCM b)/\SM (QCN b)/\SM (QCO b)/\SM (QCP b)/\SM (QCQ b)/\(SM (Qkx b)/\(∀(i:Nat),i<Qkx b->SM (QCS b i))/\True)/\(SM (Qky b)/\(∀(i:Nat),i<Qky b->SM (QCU b i))/\True)/\(SM (Qkz b)/\(∀(i:Nat),i<Qkz b->SM (QCW b i))/\True)/\(SM (VB b)/\(∀(i:Nat),i<VB b->SM (QCX b i))/\True)/\(SM (QkA b)/\(∀(i:Nat),i<QkA b->SM (QCZ b i))/\True)/\SM (QC0 b)/\SM (QC1 b)/\SM (QC2 b)/\True)/\True)/\True
def KH(a:Nd)(b:Nat):Nd:=List.getD (QdI a) (Int.toNat (↑b:Int)) Hv
def QQZ(a:Nd):D:=D.agg [ZI (Qku a),ZI (QCL a),ZI (QCM a),D.str (QCN a),ZI (QCO a),ZI (QCP a),ZI (QCQ a),D.sl N1 (Qkx a) (fun i=>QCS a i) Mode.any,D.sl N1 (Qky a) (fun i=>QCU a i) Mode.any,D.sl N4 (Qkz a) (fun i=>QCW a i) Mode.any,D.sl 15 (VB a) (fun i=>QCX a i) Mode.any,D.sl 34 (QkA a) (fun i=>QCZ a i) Mode.any,ZI (QC0 a),ZI (QC1 a),ZI (QC2 a)]
theorem BlE(q:Int)(n:Nd)(hl:n.ki.length<=maxLen)(h:∀b∈n.ki,RMent q b):RMent q n:=by
 refine Bg (A:=sC _ _) (x:=()) (E:=Erme q n) (eOk (Bax h) rfl) Tryz.func92 rfl (by kernel_rfl) rfl (by simp[sC,Erme,EC,E0]) ?_
 refine Bi (T :=
  ∀(x:Nat),True->SM x/\ifB (Qku n==q) (QCJ q n) ((∃(x_1:Nat),Qkw x_1 n q/\(Z0=(↑x_1:Int)/\True)/\QC3 x n)/\∀(x_1:Nat),Qkw x_1 n q->SM x/\ifB (decide ((↑x_1:Int)<(NI (VB n)))) (SM x/\Bc (Z0<=(↑x_1:Int)/\(↑x_1:Int)<(NI (VB n))) (∃(x_2:Nd),(isN x_2 [D.agg (Nd.rowE (KH n x_1)),ZI q] [ZI q]/\x_2∈QdI n)/\∀(y:Unit),True->ifB (Ce q x_2) (QCJ q n) ((SM (QQZ n)/\SM (ZI q)/\SM (D.ref N0 x N0)/\True)/\∃(y:Nat),Qkw y n q/\VB n-y<VB n-x_1/\(IntKind.wrap IntKind.i64 ((↑x_1:Int)+Z1)=(↑y:Int)/\True)/\QC3 x n))) (RT (false=Ce q n)))) (by kernel_rfl) ?_
 delta DA GI LN N0 N1 N4 NI SI SM Z0 Z1 ZI Qku QCJ QCN QCO QCP QdJ QCQ QCR Qkx QCS QCT Qky QdI QCU QCV Qkz QCW QCX QkA QCY QCZ QC0 QC1 VB QC2 QC3 KH QQZ Qkv Hv QCK Qkw QCL QCM RT
 try simp only[<- dm]
 try simp only[<- dn]
 simp only[ne_eq,implies_true,Int.toNat_natCast,Bf,Bd,decide_eq_true_eq,decide_eq_false_iff_not,true_and,and_true,beq_iff_eq,beq_eq_false_iff_ne,exists_const,forall_const]
 unfold maxLen at hl
 have e:=Wq q n
 refine⟨fun hk=>by rw[e,hk];simp,fun hk=>⟨⟨0,⟨Nat.zero_le _,fun j hj=>absurd hj (by omega)⟩,rfl⟩,fun i ⟨i1,hi⟩=>⟨fun hlt=>?_,fun hge=>?_⟩⟩⟩
 ·have hi1:i<n.ki.length:=by omega
  refine⟨⟨by omega,by omega⟩,n.ki.getD i default,⟨Bl _ _,BX hi1⟩,fun c=>?_,fun c=>⟨i+1,⟨hi1,fun j hj=>?_⟩,by omega,Ba (by omega) (by omega)⟩⟩
  ·rw[e,Ba1 hi1 c];simp
  ·by_cases e':j=i
   ·rw[e'];exact c
   ·exact hi j (by omega)
 ·have a:n.ki.any (Ce q)=false:=Bfh fun j hj=>hi j (by omega)
  have hk':(n.kd==q)=false:=by simpa using hk
  rw[e,a,hk'];rfl
theorem BjA(q:Int)(n:Nd)(hn:n.sm):RMent q n :=
 BlE q n (Ci (Cb hn).2.1) fun b hb=>BjA q b (EW hn (BS hb))
termination_by szN n
decreasing_by exact ED (BS hb)
noncomputable def Erbm(q:Int)(l:List Sm):Senv:={ EC (Bbr q Nd.sm) 28 2 [4,5,9,27] (fun _=>([],[])) with
 mg:=fun _=>2
 ann:=fun b _ S=>match b with
  |0=>some { slots:=[5],keep:=[0,1],α:=Nat,st:=fun i=>([.int .i64 i],S),inv:=fun i=>i<=l.length/\∀j,j<i->(Ce q (l.getD j default).te||Ce q (l.getD j default).nd)=false,mu:=fun i=>l.length-i }
  |_=>none }
def Hw:Arr:=DA
def Yt:Nd:=Nd.mk Z0 Z0 Z0 [] Z0 Z0 Hw [] [] Z0 Z0 Z0
def Yu:Sm:=Sm.mk Z0 Z0 [] Z0 Yt Yt
def Yv(a:List Sm)(b:Nat):Sm:=List.getD a b Yu
def QL(a:List Sm)(b:Nat):Nd:=Sm.te (Yv a b)
def QM(a:List Sm)(b:Nat):Nd:=Sm.nd (Yv a b)
def QkB(a:Nat)(b:List Sm)(c:Int):Prop:=a<=LN b/\∀(j:Nat),j<a->(Ce c (QL b j)||Ce c (QM b j))=false
def QC7(a:List Sm)(b:Nat):Sm:=List.getD a (Int.toNat (↑b:Int)) Yu
def KI(a:List Sm)(b:Nat):Nd:=Sm.te (QC7 a b)
def QDb(a:List Sm)(b:Int):Prop:=True/\∃(_y:Unit),True/\true=Eq a b/\True/\True
def KJ(a:List Sm)(b:Nat):Nd:=Sm.nd (QC7 a b)
def QQ8(a:List Sm):D:=D.sl 34 (LN a) (fun i=>(Sm.row1 (Yv a i))) Mode.any
theorem Bkg(q:Int)(l:List Sm)(hl:l.length<=maxLen)(h:∀s∈l,s.sm):CD 69 [gsl 34 Sm.row1 l,.int .i64 q] (.bool (Eq l q)):=by
 refine Bg (A:=sC _ _) (x:=()) (E:=Erbm q l) (eOk (Bax (BjA q)) rfl) Tryz.func69 rfl (by kernel_rfl) rfl (by simp[sC,Erbm,EC,E0]) ?_
 refine Bi (T :=
  (∃(x:Nat),QkB x l q/\(Z0=(↑x:Int)/\True)/\True/\True)/\∀(x:Nat),QkB x l q->ifB (decide ((↑x:Int)<(LI l))) (Bc (Z0<=(↑x:Int)/\(↑x:Int)<(LI l)) (∃(x_1:Nd),(isN x_1 [D.agg (Nd.rowE (KI l x)),ZI q] [ZI q]/\Nd.sm x_1)/\∀(y:Unit),True->ifB (Ce q x_1) (QDb l q) (Bc (Z0<=(↑x:Int)/\(↑x:Int)<(LI l)) (∃(x_2:Nd),(isN x_2 [D.agg (Nd.rowE (KJ l x)),ZI q] [ZI q]/\Nd.sm x_2)/\∀(y:Unit),True->ifB (Ce q x_2) (QDb l q) ((SM (QQ8 l)/\SM (ZI q)/\True)/\∃(y:Nat),QkB y l q/\LN l-y<LN l-x/\(IntKind.wrap IntKind.i64 ((↑x:Int)+Z1)=(↑y:Int)/\True)/\True/\True))))) (RT (false=Eq l q))) (by kernel_rfl) ?_
 delta DA GI LI LN N1 N4 SI SM Z0 Z1 ZI Hw Yt Yu Yv QL QM QkB QC7 KI QDb KJ QQ8 RT
 try simp only[<- dm]
 try simp only[<- dn]
 simp only[Int.toNat_natCast,Bf,Bd,decide_eq_true_eq,decide_eq_false_iff_not,true_and,and_true,exists_const,forall_const]
 unfold maxLen at hl
 refine⟨⟨0,⟨Nat.zero_le _,fun j hj=>absurd hj (by omega)⟩,rfl⟩,fun i hi'=>⟨fun hlt=>?_,fun hge=>?_⟩⟩
 ·obtain ⟨i1,hi⟩:=hi'
  have hi1:i<l.length:=by omega
  obtain ⟨h1,h2⟩:=Cl (h _ (C3 hi1))
  have w:IntKind.i64.wrap ((i:Int)+1)=((i+1:Nat):Int):=by rw[Ba (by omega) (by omega)];rfl
  have yes:(Ce q (l.getD i default).te||Ce q (l.getD i default).nd)=true->true=Eq l q:=fun c=>(Ba1 (l:=l) (p:=fun s:Sm=>Ce q s.te||Ce q s.nd) hi1 c).symm
  have go:(Ce q (l.getD i default).te||Ce q (l.getD i default).nd)=false->∀j,j<i+1->(Ce q (l.getD j default).te||Ce q (l.getD j default).nd)=false:=fun c j hj=>by
   by_cases e':j=i
   ·rw[e'];exact c
   ·exact hi j (by omega)
  refine⟨⟨by omega,by omega⟩,(l.getD i default).te,⟨Bl _ _,h1⟩,fun c=>yes (by rw[c];rfl),fun c=>⟨⟨by omega,by omega⟩,(l.getD i default).nd,⟨Bl _ _,h2⟩,fun c2=>yes (by rw[c2];simp),fun c2=>⟨i+1,⟨hi1,go (by rw[c,c2];rfl)⟩,by omega,w⟩⟩⟩
 ·obtain ⟨i1,hi⟩:=hi'
  exact (Bfh (l:=l) (p:=fun s:Sm=>Ce q s.te||Ce q s.nd) fun j hj=>hi j (by omega)).symm
theorem Bpp:nd0.ok:=by simp[nd0,Nd.ok,Arr.ok,okL,Ux,Up,Bt,maxLen]
theorem Bpw:nd0.sm:=by simp[nd0,Nd.sm,Arr.sm,smL,ON,OW]
theorem BnI(n:Nd):(C4 (stN n) (stN nd0)&&n.at_==0&&n.de==0&&n.sl==0&&n.ss==0)=Cx n:=by
 rw[Bool.eq_iff_iff]
 simp only[Bool.and_eq_true,CV,Bf3,beq_iff_eq]
 unfold Cx IP Tu
 cases n with
 |mk kd at_ cl tx pr op va ki bo de sl ss =>
  cases va with
  |mk k s nu it =>
   simp[nd0,Nd.kd,Nd.at_,Nd.cl,Nd.tx,Nd.pr,Nd.op,Nd.va,Nd.ki,Nd.bo,Nd.de,Nd.sl,Nd.ss,Arr.k,Arr.sh,Arr.nu,Arr.it]
   constructor
   ·rintro ⟨⟨⟨⟨⟨a,b,c,d,e,⟨f1,f2,f3,f4⟩,g,h⟩,i⟩,j⟩,k⟩,l⟩
    subst_vars
    simp
   ·intro h
    simp_all
def BkI:List D:=nd0.row2
theorem BjR:wkL BeH nd0.row2:=by
 simp[BeH,Nd.row2,nd0,Nd.kd,Nd.at_,Nd.cl,Nd.tx,Nd.pr,Nd.op,Nd.va,Nd.ki,Nd.bo,Nd.de,Nd.sl,Nd.ss,Arr.k,Arr.sh,Arr.nu,Arr.it,isl,gsl,wkL,wkD,Bn,Bb,BG,M9,kEq]
theorem Bpg(n:Nd):wkL [.agg n.row2,.agg BeH] [.agg n.row2,.agg BkI]:=by
 simp only[wkL,wkD]
 exact⟨Be _,BjR,trivial⟩
noncomputable def Bn6(n:Nd):Con:=fun k ds S=>match k with
 |90=>some (pA ds S (.bool (C4 (stN n) (stN nd0))) (wkL ds [.agg n.row2,.agg BkI]))
 |_=>none
noncomputable def Erz(n:Nd):Senv:={ EC (Bn6 n) 26 3 [] (fun _=>([],[])) with mg:=fun _=>2 }
def QDn(a:Nd):D:=D.agg (Nd.row2 a)
def Ve:D:=ZI Z0
def Hx:D:=D.sl N1 N0 (fun _x=>[]) Mode.nil
def QdQ(a:Nd):Prop:=True/\∃(_y:Unit),True/\false=Cx a/\True/\True
theorem BpX(n:Nd)(ho:n.ok)(hs:n.sm):CD 67 [.agg n.row2] (.bool (Cx n)):=by
 refine Bg (A:=sC _ _) (x:=()) (E:=Erz n) (eOk ?_ rfl) Tryz.func67 rfl (by kernel_rfl) rfl (by simp[sC,Erz,EC,E0]) ?_
 ·intro k ds S A hh
  unfold Bn6 at hh
  split at hh
  ·injection hh with hh;subst hh
   exact Bo fun e=>CD.at_ (CD.wk (BaP n nd0 ⟨ho,hs⟩ ⟨Bpp,Bpw⟩) e) _
  ·cases hh
 refine Bi (T :=
  ∀(x:Nat),True->SM x/\∃(x_1:Unit),wkL [QDn n,D.agg [Ve,Ve,Ve,D.str [],Ve,Ve,Ve,Hx,Hx,Hx,Hx,Hx,Ve,Ve,Ve]] [QDn n,D.agg BkI]/\∀(y:Unit),True->ifB (C4 (stN n) (stN nd0)) (SM x/\ifB (Nd.at_ n==Z0) (SM x/\ifB (Nd.de n==Z0) (SM x/\ifB (Nd.sl n==Z0) (SM x/\RT ((Nd.ss n==Z0)=Cx n)) (QdQ n)) (QdQ n)) (QdQ n)) (QdQ n)) (by kernel_rfl) ?_
 delta DA GI LN N0 N1 N4 SI SM Z0 ZI QDn Ve Hx QdQ RT
 try simp only[]
 try simp only[<- dn]
 simp only[ne_eq,Bf,true_and,and_true,beq_iff_eq,beq_eq_false_iff_ne,exists_const,forall_const]
 rw[<- BnI]
 have hz:=Bpg n
 repeat' (first | exact hz | refine And.intro ?_ ?_ | intro _)
 all_goals clear hz
 all_goals first
  |(simp_all;done)
  |(simp_all;omega)
def RVal(n:Nd):Prop:=CD 66 [.agg n.row2] (.bool (Bz n))
def RBdy(l:List Sm):Prop:=CD 43 [gsl 34 Sm.row1 l] (.bool (BP true l))
def Be5(n:Nd):Con:=fun k ds S=>match k with
 |106=>match ds with
  | [_,.bool a,.bool b,.bool c,.bool d,.bool e,.bool f]=>some (pA ds S (.bool (Gn n a b c d e f)) (isN2 n ds [.bool a,.bool b,.bool c,.bool d,.bool e,.bool f]))
  |_=>none
 |43=>some (pA ds S (.bool (BP true n.bo)) (wkL ds [gsl 34 Sm.row1 n.bo]))
 |69=>match ds with
  | [_,.int .i64 q]=>some (pA ds S (.bool (Eq n.bo q)) (wkL ds [gsl 34 Sm.row1 n.bo,.int .i64 q]))
  |_=>none
 |_=>none
theorem Bhv{n:Nd}(h:n.va.ok)(hn:n.sm)(hb:RBdy n.bo):ConOk Tryz.prog (Be5 n):=by
 intro k ds S A hh
 unfold Be5 at hh
 split at hh
 ·split at hh
  ·injection hh with hh;subst hh
   exact Bo fun e=>CD.at_ (CD.wk (BiY n h _ _ _ _ _ _) e) _
  ·cases hh
 ·injection hh with hh;subst hh
  exact Bo fun e=>CD.at_ (CD.wk hb e) _
 ·split at hh
  ·injection hh with hh;subst hh
   exact Bo fun e=>CD.at_ (CD.wk (Bkg _ n.bo (Ci (Cb hn).2.2) (GC hn)) e) _
  ·cases hh
 ·cases hh
noncomputable def Erla(n:Nd):Senv:={ EC (Be5 n) 49 5 [31,38,42] (fun id=>match id with | 3=>([0,1,3,4,2,5,6,7],[2,5]) | _=>([],[])) with mg:=fun _=>2 }
def QdR(a:Nd):Int:=Nd.cl a
def QDp:Arr:=DA
def QkC:Nd:=Nd.mk Z0 Z0 Z0 [] Z0 Z0 QDp [] [] Z0 Z0 Z0
def Xt(a:Nd):List Sm:=Nd.bo a
def QDq:Sm:=Sm.mk Z0 Z0 [] Z0 QkC QkC
def Hy(a:Nd):D:=D.sl 34 (LN (Xt a)) (fun i=>Sm.row1 (List.getD (Xt a) i QDq)) Mode.any
def QDr:List D:=[D.bool false,D.bool false,D.bool false,D.bool false,D.bool false,D.bool true]
def QdT(a:Nd):Bool:=WY a
def QdU(a:Nd):Prop:=True/\∃(_y:Unit),True/\false=QdT a/\True/\True
def QkD(a:Nd):Int:=(LI (Xt a))
def QkE(a:Nd):Int:=IntKind.wrap IntKind.i64 (QkD a-Z1)
def QDs(a:Nd):List D:=[Hy a]
def QDt(a:Nd):List D:=[Hy a,ZI 12]
def QDu(a:Nd):List D:=[Hy a,ZI 13]
theorem Bpq(n:Nd)(h:n.va.ok)(hn:n.sm)(hb:RBdy n.bo):CD 87 [.agg n.row2] (.bool (WY n)):=by
 refine Bg (A:=sC _ _) (x:=()) (E:=Erla n) (eOk (Bhv h hn hb) rfl) Tryz.func87 rfl (by kernel_rfl) rfl (by simp[sC,Erla,EC,E0]) ?_
 refine Bi (T :=
  ∀(x:Nat),True->SM x/\∃(x_1:Unit),isN2 n (D.agg (Nd.row2 n)::QDr) QDr/\∀(y:Unit),True->ifB (!Gn n false false false false false true) (QdU n) (SM x/\ifB (QkD n==Z0) (QdU n) (SM x/\SM x/\Bc (Z0<=QkE n/\QkE n<QkD n) (ifB (Sm.kd (List.getD (Xt n) (Int.toNat (QkE n)) QDq) != Z1) (QdU n) (SM x/\∃(x_2:Unit),wkL (QDs n) (QDs n)/\∀(y:Unit),True->ifB (!BP true (Xt n)) (QdU n) (SM x/\SM x/\∃(x_3:Unit),wkL (QDt n) (QDt n)/\∀(y:Unit),True->(SM x/\SM (Hy n))/\∃(x_4:Unit),wkL (QDu n) (QDu n)/\∀(y:Unit),True->ifB (Eq (Xt n) (13:Int)) (SM x/\RT ((QdR n==4)=QdT n)) (ifB (Eq (Xt n) (12:Int)) (SM x/\RT ((QdR n==3)=QdT n)) (SM x/\RT ((QdR n==2)=QdT n))))))))) (by kernel_rfl) ?_
 delta DA GI LI LN N1 N4 SI SM Z0 Z1 ZI QDp QkC Xt QDq Hy QDr QdT QdU QkD QkE QDs QDt QDu QdR RT
 try simp only[<- dm]
 try simp only[<- dn]
 simp only[ne_eq,Bf,Bd,true_and,and_true,beq_iff_eq,bne_iff_ne,bne_eq_false_iff_eq,beq_eq_false_iff_ne,Bool.not_eq_true',Bool.not_eq_false',exists_const,forall_const]
 have e2:n.bo.isEmpty=(n.bo.length==0):=by cases n.bo<;>rfl
 have hlen:=(Cb hn).2.2
 unfold BC at hlen
 have self:∀a b c d e f:Bool,isN2 n [.agg n.row2,.bool a,.bool b,.bool c,.bool d,.bool e,.bool f] [.bool a,.bool b,.bool c,.bool d,.bool e,.bool f]:=fun _ _ _ _ _ _=>CJ n _
 by_cases hb:n.bo.length=0
 ·skip
  repeat' (first | exact self _ _ _ _ _ _ | exact Be _ | refine And.intro ?_ ?_ | intro _)
  all_goals clear self
  all_goals first
   |(exfalso;omega)
   |(unfold WY;rw[e2,hb];simp;done)
   |(unfold WY;simp_all;done)
 ·have w:IntKind.i64.wrap ((n.bo.length:Int)-1)=((n.bo.length-1:Nat):Int):=by rw[Ba (by omega) (by omega)];omega
  simp only[w,Int.toNat_natCast]
  have e3:(n.bo.length==0)=false:=by simpa using hb
  repeat' (first | exact self _ _ _ _ _ _ | exact Be _ | refine And.intro ?_ ?_ | intro _)
  all_goals clear self
  all_goals first
   |omega
   |(unfold WY;rw[e2,e3];simp_all;done)
   |(unfold WY;simp_all;done)
def Be9(n:Nd):Con:=fun k ds S=>match k with
 |87=>some (pA ds S (.bool (WY n)) (isN2 n ds []))
 |88=>some (pA ds S (.bool (O5 n)) (isN2 n ds []))
 |89=>some (pA ds S (.bool (Gh n)) (isN2 n ds []))
 |66=>some (pE (β:=Nd) ds S (fun b=>.bool (Bz b)) (fun b=>isN b ds []/\b∈n.ki))
 |_=>none
theorem BiD{n:Nd}(hn:n.sm)(ho:n.va.ok)(h1:RBdy n.bo)(h2:∀b∈n.ki,RVal b):ConOk Tryz.prog (Be9 n):=by
 intro k ds S A hh
 have hl:=Ci (Cb hn).2.1
 unfold Be9 at hh
 split at hh
 ·injection hh with hh;subst hh
  exact Bo fun e=>CD.at_ (CD.wk (Bpq n ho hn h1) e) _
 ·injection hh with hh;subst hh
  exact Bo fun e=>CD.at_ (CD.wk (BoM n ho) e) _
 ·injection hh with hh;subst hh
  exact Bo fun e=>CD.at_ (CD.wk (BoF n ho hl) e) _
 ·injection hh with hh;subst hh
  exact Co fun b ⟨e,hb⟩=>CD.at_ (CD.isN (h2 b hb) e) _
 ·cases hh
noncomputable def Erva(n:Nd):Senv:={ EC (Be9 n) 46 4 [21,24,28,31,36,45] (fun _=>([],[])) with
 mg:=fun _=>2
 ann:=fun b _ S=>match b with
  |0=>some { slots:=[3],keep:=[0,1],α:=Nat,st:=fun i=>([.int .i64 i],S),inv:=fun i=>i<=n.ki.length/\∀j,j<i->Bz (n.ki.getD j default)=true,mu:=fun i=>n.ki.length-i }
  |_=>none }
theorem BiM{α:Type}[Inhabited α]{p:α->Bool}{l:List α}{j:Nat}(hj:j<l.length)(h:p (l.getD j default)=false):l.all p=false:=by
 rw[Bool.eq_false_iff]
 intro e
 have:=List.all_eq_true.1 e (l.getD j default) (by rw[List.getD_eq_getElem?_getD,List.getElem?_eq_getElem hj];exact List.getElem_mem hj)
 rw[h] at this;cases this
theorem BgD{α:Type}[Inhabited α]{p:α->Bool}{l:List α}(h:∀j,j<l.length->p (l.getD j default)=true):l.all p=true:=by
 rw[List.all_eq_true]
 intro x hx
 obtain ⟨i,hi,rfl⟩:=List.getElem_of_mem hx
 have:=h i hi
 rwa [List.getD_eq_getElem?_getD,List.getElem?_eq_getElem hi] at this
def QkF(a:Nd):Int:=Nd.at_ a
def QdV(a:Nd):Bool:=Bz a
def Yw(a:Nd):Prop:=True/\∃(_y:Unit),True/\false=QdV a/\True/\True
def QkG(a:Nd):Int:=Nd.de a
def QkH(a:Nd):Int:=Nd.sl a
def QkI(a:Nd):Int:=Nd.ss a
def QkJ(a:Nd):Int:=Nd.kd a
def QDv(a:Nd):Int:=Nd.cl a
def QDw(a:Nd):List UInt8:=Nd.tx a
def QDx(a:Nd):Int:=Nd.pr a
def QDy(a:Nd):Int:=Nd.op a
def QdW(a:Nd):Arr:=Nd.va a
def QDz(a:Nd):Int:=Arr.k (QdW a)
def QDA(a:Nd):List Int:=Arr.sh (QdW a)
def QkK(a:Nd):Nat:=LN (QDA a)
def QDB(a:Nd)(b:Nat):List D:=[ZI (GI (QDA a) b)]
def QDC(a:Nd):List Int:=Arr.nu (QdW a)
def QkL(a:Nd):Nat:=LN (QDC a)
def QDD(a:Nd)(b:Nat):List D:=[ZI (GI (QDC a) b)]
def QDE(a:Nd):List Arr:=Arr.it (QdW a)
def QkM(a:Nd):Nat:=LN (QDE a)
def QkN:Arr:=DA
def QDF(a:Nd)(b:Nat):List D:=Arr.row (List.getD (QDE a) b QkN)
def QdX(a:Nd):List Nd:=Nd.ki a
def VC(a:Nd):Nat:=LN (QdX a)
def Hz:Nd:=Nd.mk Z0 Z0 Z0 [] Z0 Z0 QkN [] [] Z0 Z0 Z0
def QDG(a:Nd)(b:Nat):Nd:=List.getD (QdX a) b Hz
def QDH(a:Nd)(b:Nat):List D:=Nd.row1 (QDG a b)
def QkO(a:Nd):Nat:=LN (Nd.bo a)
def QDI:Sm:=Sm.mk Z0 Z0 [] Z0 Hz Hz
def QDJ(a:Nd)(b:Nat):List D:=Sm.row1 (List.getD (Nd.bo a) b QDI)
def QDK(a:Nd):D:=D.agg [ZI (QkJ a),ZI (QkF a),ZI (QDv a),D.str (QDw a),ZI (QDx a),ZI (QDy a),ZI (QDz a),D.sl N1 (QkK a) (fun i=>QDB a i) Mode.any,D.sl N1 (QkL a) (fun i=>QDD a i) Mode.any,D.sl N4 (QkM a) (fun i=>QDF a i) Mode.any,D.sl 15 (VC a) (fun i=>QDH a i) Mode.any,D.sl 34 (QkO a) (fun i=>QDJ a i) Mode.any,ZI (QkG a),ZI (QkH a),ZI (QkI a)]
def QkP(a:Nd):Prop:=isN2 a [QDK a] []
def QDL(a:Nd):Prop:=True/\∃(_y:Unit),True/\true=QdV a/\True/\True
def QkQ(a:Nat)(b:Nd):Prop:=a<=VC b/\∀(j:Nat),j<a->Bz (QDG b j)=true
def QDM(a:Nat)(b:Nd):Prop:=(SM a/\(SM (QkJ b)/\SM (QkF b)/\SM (QDv b)/\SM (QDw b)/\SM (QDx b)/\SM (QDy b)/\SM (QDz b)/\(SM (QkK b)/\(∀(i:Nat),i<QkK b->SM (QDB b i))/\True)/\(SM (QkL b)/\(∀(i:Nat),i<QkL b->SM (QDD b i))/\True)/\(SM (QkM b)/\(∀(i:Nat),i<QkM b->SM (QDF b i))/\True)/\(SM (VC b)/\(∀(i:Nat),i<VC b->SM (QDH b i))/\True)/\(SM (QkO b)/\(∀(i:Nat),i<QkO b->SM (QDJ b i))/\True)/\SM (QkG b)/\SM (QkH b)/\SM (QkI b)/\True)/\True)/\True
def KK(a:Nd)(b:Nat):Nd:=List.getD (QdX a) (Int.toNat (↑b:Int)) Hz
theorem BjQ(n:Nd)(hn:n.sm)(ho:n.va.ok)(h1:RBdy n.bo)(h2:∀b∈n.ki,RVal b):RVal n:=by
 refine Bg (A:=sC _ _) (x:=()) (E:=Erva n) (eOk (BiD hn ho h1 h2) rfl) Tryz.func66 rfl (by kernel_rfl) rfl (by simp[sC,Erva,EC,E0]) ?_
 refine Bi (T :=
  ∀(x:Nat),True->SM x/\ifB (decide (QkF n<Z0)) (Yw n) (SM x/\ifB (decide (QkG n<Z0)) (Yw n) (SM x/\ifB (decide (QkH n<Z0)) (Yw n) (SM x/\ifB (decide (QkI n<Z0)) (Yw n) (SM x/\ifB (QkJ n==10) (SM x/\∃(x:Unit),QkP n/\∀(y:Unit),True->RT (WY n=QdV n)) (SM x/\∃(x_1:Unit),QkP n/\∀(y:Unit),True->ifB (O5 n) (QDL n) (SM x/\∃(x_2:Unit),QkP n/\∀(y:Unit),True->ifB (!Gh n) (Yw n) ((∃(x_3:Nat),QkQ x_3 n/\(Z0=(↑x_3:Int)/\True)/\QDM x n)/\∀(x_3:Nat),QkQ x_3 n->SM x/\ifB (decide ((↑x_3:Int)<(NI (VC n)))) (SM x/\Bc (Z0<=(↑x_3:Int)/\(↑x_3:Int)<(NI (VC n))) (∃(x_4:Nd),(isN x_4 [D.agg (Nd.rowE (KK n x_3))] []/\x_4∈QdX n)/\∀(y:Unit),True->ifB (!QdV x_4) (Yw n) ((SM (QDK n)/\SM (D.ref N0 x N0)/\True)/\∃(y:Nat),QkQ y n/\VC n-y<VC n-x_3/\(IntKind.wrap IntKind.i64 ((↑x_3:Int)+Z1)=(↑y:Int)/\True)/\QDM x n))) (QDL n))))))))) (by kernel_rfl) ?_
 delta DA GI LN N0 N1 N4 NI SI SM Z0 Z1 ZI QkF QdV Yw QkG QkH QkI QkJ QDv QDw QDx QDy QdW QDz QDA QkK QDB QDC QkL QDD QDE QkM QkN QDF QdX VC Hz QDG QDH QkO QDI QDJ QDK QkP QDL QkQ QDM KK RT
 try simp only[<- dm]
 try simp only[<- dn]
 simp only[ne_eq,implies_true,Int.toNat_natCast,Bf,Bd,decide_eq_true_eq,decide_eq_false_iff_not,true_and,and_true,beq_iff_eq,beq_eq_false_iff_ne,Bool.not_eq_true',Bool.not_eq_false',exists_const,forall_const]
 have hl:=Ci (Cb hn).2.1
 unfold maxLen at hl
 have e:=Bhl n
 have no:TP n=false->false=Bz n:=fun h=>by rw[e,h];rfl
 refine⟨fun c=>no ?_,fun c1=>⟨fun c=>no ?_,fun c2=>⟨fun c=>no ?_,fun c3=>⟨fun c=>no ?_,fun c4=>?_⟩⟩⟩⟩
 ·unfold TP;rw[decide_eq_false (by omega)];rfl
 ·unfold TP;rw[decide_eq_false (p:=0<=n.de) (by omega)];simp
 ·unfold TP;rw[decide_eq_false (p:=0<=n.sl) (by omega)];simp
 ·unfold TP;rw[decide_eq_false (p:=0<=n.ss) (by omega)];simp
 have hp:TP n=true:=by
  unfold TP
  rw[decide_eq_true (by omega),decide_eq_true (by omega),decide_eq_true (by omega),decide_eq_true (by omega)];rfl
 rw[hp,Bool.true_and] at e
 clear no
 refine⟨fun k=>⟨CJ n _,?_⟩,fun k=>⟨CJ n _,fun c=>?_,fun c=>⟨CJ n _,fun d=>?_,fun d=>⟨⟨0,⟨Nat.zero_le _,fun j hj=>absurd hj (by omega)⟩,rfl⟩,fun i ⟨i1,hi⟩=>⟨fun hlt=>?_,fun hge=>?_⟩⟩⟩⟩⟩
 ·rw[e,if_pos k]
 ·rw[e,if_neg k,c];rfl
 ·rw[e,if_neg k,c,d];rfl
 ·have hi1:i<n.ki.length:=by omega
  refine⟨⟨by omega,by omega⟩,n.ki.getD i default,⟨Bl _ _,BX hi1⟩,fun f=>?_,fun f=>⟨i+1,⟨hi1,fun j hj=>?_⟩,by omega,Ba (by omega) (by omega)⟩⟩
  ·rw[e,if_neg k,c,d,BiM hi1 f];rfl
  ·by_cases e':j=i
   ·rw[e'];exact f
   ·exact hi j (by omega)
 ·rw[e,if_neg k,c,d,BgD fun j hj=>hi j (by omega)];rfl
def Bd5:Con:=fun k ds S=>match k with
 |66=>some (pE (β:=Nd) ds S (fun b=>.bool (Bz b)) (fun b=>isN b ds []/\RVal b))
 |67=>some (pE (β:=Nd) ds S (fun b=>.bool (Cx b)) (fun b=>isN b ds []/\b.ok/\b.sm))
 |68=>match ds with
  | [.str s]=>some (pA ds S (.bool (Cd s)) True)
  |_=>none
 |_=>none
theorem BhH:ConOk Tryz.prog Bd5:=by
 intro k ds S A hh
 unfold Bd5 at hh
 split at hh
 ·injection hh with hh;subst hh
  exact Co fun b ⟨e,h⟩=>CD.at_ (CD.isN h e) _
 ·injection hh with hh;subst hh
  exact Co fun b ⟨e,h⟩=>CD.at_ (CD.isN (BpX b h.1 h.2) e) _
 ·split at hh
  ·injection hh with hh;subst hh
   exact Bo fun _=>CD.at_ (Bn5 _) _
  ·cases hh
 ·cases hh
theorem Bg6{l:List Sm}{x:Nat}{v:List UInt8}:(B2 (l.take x)).contains v=true↔∃j,j<x/\j<l.length/\(l.getD j default).kd=2/\(l.getD j default).nm=v:=by
 rw[List.contains_eq_mem,decide_eq_true_eq]
 unfold B2
 simp only[List.mem_map,List.mem_filter,beq_iff_eq]
 constructor
 ·rintro ⟨s,⟨hm,hk⟩,hn⟩
  obtain ⟨j,hj,e⟩:=List.getElem_of_mem hm
  rw[List.getElem_take] at e
  rw[List.length_take] at hj
  have h1:j<l.length:=by omega
  refine⟨j,by omega,h1,?_,?_⟩
  ·rw[List.getD_eq_getElem?_getD,List.getElem?_eq_getElem h1,Option.getD_some,e];exact hk
  ·rw[List.getD_eq_getElem?_getD,List.getElem?_eq_getElem h1,Option.getD_some,e];exact hn
 ·rintro ⟨j,h1,h2,hk,hn⟩
  have h3:j<(l.take x).length:=by rw[List.length_take];omega
  have e:(l.take x)[j]=l.getD j default:=by rw[List.getElem_take,List.getD_eq_getElem?_getD,List.getElem?_eq_getElem h2];rfl
  exact⟨l.getD j default,⟨by rw[<- e];exact List.getElem_mem h3,hk⟩,hn⟩
noncomputable def Erbo(l:List Sm):Senv:={ EC Bd5 130 1 [2,3,4,5,8,12,27,29,30,51,52,56,74,101,102,129] (fun id=>match id with | 18=>([0,1,2,3,4,5,6,7,8,9,10,11,12,13,14,15],[]) | _=>([],[])) with
 mg:=fun _=>2
 ann:=fun b env S=>match b with
  |0=>some { slots:=[3],keep:=[0],α:=Nat,st:=fun i=>([.int .i64 i],S),inv:=fun i=>i<=l.length/\Cc true [] l=Cc true (B2 (l.take i)) (l.drop i),mu:=fun i=>l.length-i }
  |3=>match Ab.look env 3 with
   |.int _ i=>some { slots:=[5],keep:=[0,3,4],α:=Nat,st:=fun y=>([.int .i64 y],S),inv:=fun y=>y<=i.toNat/\∀j,j<y->¬((l.getD j default).kd=2/\(l.getD j default).nm=(l.getD i.toNat default).nm),mu:=fun y=>i.toNat-y }
   |_=>none
  |_=>none }
def Qr(a:List Sm):Prop:=True/\∃(_y:Unit),True/\false=BP true a/\True/\True
def QkR(a:Nat)(b:List Sm):Prop:=a<=LN b/\Cc true [] b=Cc true (B2 (List.take a b)) (List.drop a b)
def HA:Arr:=DA
def Yx:Nd:=Nd.mk Z0 Z0 Z0 [] Z0 Z0 HA [] [] Z0 Z0 Z0
def Yy:Sm:=Sm.mk Z0 Z0 [] Z0 Yx Yx
def Yz(a:List Sm)(b:Nat):Sm:=List.getD a (Int.toNat (↑b:Int)) Yy
def QDQ(a:List Sm)(b:Nat):Int:=Sm.at_ (Yz a b)
def KL(a:List Sm)(b:Nat):Nd:=Sm.nd (Yz a b)
def QkS(a:List Sm)(b:Nat):Int:=Nd.kd (KL a b)
def QDR(a:List Sm)(b:Nat):Int:=Nd.at_ (KL a b)
def QdZ(a:List Sm)(b:Nat):Int:=Nd.cl (KL a b)
def QDS(a:List Sm)(b:Nat):List UInt8:=Nd.tx (KL a b)
def QDT(a:List Sm)(b:Nat):Int:=Nd.pr (KL a b)
def QDU(a:List Sm)(b:Nat):Int:=Nd.op (KL a b)
def Qd0(a:List Sm)(b:Nat):Arr:=Nd.va (KL a b)
def QDV(a:List Sm)(b:Nat):Int:=Arr.k (Qd0 a b)
def QDW(a:List Sm)(b:Nat):List Int:=Arr.sh (Qd0 a b)
def QkT(a:List Sm)(b:Nat):Nat:=LN (QDW a b)
def QDX(a:List Sm)(b c:Nat):List D:=[ZI (GI (QDW a b) c)]
def QDY(a:List Sm)(b:Nat):List Int:=Arr.nu (Qd0 a b)
def QkU(a:List Sm)(b:Nat):Nat:=LN (QDY a b)
def QDZ(a:List Sm)(b c:Nat):List D:=[ZI (GI (QDY a b) c)]
def QD0(a:List Sm)(b:Nat):List Arr:=Arr.it (Qd0 a b)
def QkV(a:List Sm)(b:Nat):Nat:=LN (QD0 a b)
def QD1(a:List Sm)(b c:Nat):List D:=Arr.row (List.getD (QD0 a b) c HA)
def QD2(a:List Sm)(b:Nat):List Nd:=Nd.ki (KL a b)
def QkW(a:List Sm)(b:Nat):Nat:=LN (QD2 a b)
def QD3(a:List Sm)(b c:Nat):List D:=Nd.row (List.getD (QD2 a b) c Yx)
def QD4(a:List Sm)(b:Nat):List Sm:=Nd.bo (KL a b)
def QkX(a:List Sm)(b:Nat):Nat:=LN (QD4 a b)
def QD5(a:List Sm)(b c:Nat):List D:=Sm.row (List.getD (QD4 a b) c Yy)
def QD6(a:List Sm)(b:Nat):Int:=Nd.de (KL a b)
def QD7(a:List Sm)(b:Nat):Int:=Nd.sl (KL a b)
def QD8(a:List Sm)(b:Nat):Int:=Nd.ss (KL a b)
def Qd1(a:List Sm)(b:Nat):Int:=Sm.kd (Yz a b)
def QD9(a:List Sm)(b:Nat):Bool:=QdZ a b != Z1
def YA(a:List Sm)(b:Nat):List UInt8:=Sm.nm (Yz a b)
def QEa(a:List Sm)(b:Nat):Bool:=YA a b != []
def QkY(a:List Sm)(b:Nat):Int:=Sm.sl (Yz a b)
def QEb(a:List Sm)(b:Nat):Bool:=QkY a b != Z0
def KM(a:List Sm)(b:Nat):Nd:=Sm.te (Yz a b)
def QEc(a:List Sm)(b:Nat):Int:=Nd.kd (KM a b)
def QEd(a:List Sm)(b:Nat):Int:=Nd.at_ (KM a b)
def QkZ(a:List Sm)(b:Nat):Int:=Nd.cl (KM a b)
def QEe(a:List Sm)(b:Nat):List UInt8:=Nd.tx (KM a b)
def QEf(a:List Sm)(b:Nat):Int:=Nd.pr (KM a b)
def QEg(a:List Sm)(b:Nat):Int:=Nd.op (KM a b)
def Qd2(a:List Sm)(b:Nat):Arr:=Nd.va (KM a b)
def QEh(a:List Sm)(b:Nat):Int:=Arr.k (Qd2 a b)
def QEi(a:List Sm)(b:Nat):List Int:=Arr.sh (Qd2 a b)
def Qk0(a:List Sm)(b:Nat):Nat:=LN (QEi a b)
def QEj(a:List Sm)(b c:Nat):List D:=[ZI (GI (QEi a b) c)]
def QEk(a:List Sm)(b:Nat):List Int:=Arr.nu (Qd2 a b)
def Qk1(a:List Sm)(b:Nat):Nat:=LN (QEk a b)
def QEl(a:List Sm)(b c:Nat):List D:=[ZI (GI (QEk a b) c)]
def QEm(a:List Sm)(b:Nat):List Arr:=Arr.it (Qd2 a b)
def Qk2(a:List Sm)(b:Nat):Nat:=LN (QEm a b)
def QEn(a:List Sm)(b c:Nat):List D:=Arr.row (List.getD (QEm a b) c HA)
def QEo(a:List Sm)(b:Nat):List Nd:=Nd.ki (KM a b)
def Qk3(a:List Sm)(b:Nat):Nat:=LN (QEo a b)
def QEp(a:List Sm)(b c:Nat):List D:=Nd.row (List.getD (QEo a b) c Yx)
def QEq(a:List Sm)(b:Nat):List Sm:=Nd.bo (KM a b)
def Qk4(a:List Sm)(b:Nat):Nat:=LN (QEq a b)
def QEr(a:List Sm)(b c:Nat):List D:=Sm.row (List.getD (QEq a b) c Yy)
def QEs(a:List Sm)(b:Nat):Int:=Nd.de (KM a b)
def QEt(a:List Sm)(b:Nat):Int:=Nd.sl (KM a b)
def QEu(a:List Sm)(b:Nat):Int:=Nd.ss (KM a b)
def QEv(a:Nd)(b:List Sm)(c:Nat):Prop:=isN a [D.agg [ZI (QEc b c),ZI (QEd b c),ZI (QkZ b c),D.str (QEe b c),ZI (QEf b c),ZI (QEg b c),ZI (QEh b c),D.sl N1 (Qk0 b c) (fun i=>QEj b c i) Mode.any,D.sl N1 (Qk1 b c) (fun i=>QEl b c i) Mode.any,D.sl N4 (Qk2 b c) (fun i=>QEn b c i) Mode.any,D.sl 15 (Qk3 b c) (fun i=>QEp b c i) Mode.any,D.sl 34 (Qk4 b c) (fun i=>QEr b c i) Mode.any,ZI (QEs b c),ZI (QEt b c),ZI (QEu b c)]] []
def QEw(a:Nd)(b:List Sm)(c:Nat):Prop:=QEv a b c/\Nd.ok a/\Nd.sm a
def YB(a:List Sm)(b:Nat):Sm:=List.getD a b Yy
def QEx(a:List Sm)(b:Nat):Int:=Sm.kd (YB a b)
def QEy(a:List Sm)(b:Nat):List UInt8:=Sm.nm (YB a b)
def QRj(a:List Sm):D:=D.sl 34 (LN a) (fun i=>(Sm.row1 (List.getD a i (Sm.mk 0 0 [] 0 (Nd.mk 0 0 0 [] 0 0 (Arr.mk 0 [] [] []) [] [] 0 0 0) (Nd.mk 0 0 0 [] 0 0 (Arr.mk 0 [] [] []) [] [] 0 0 0))))) Mode.any
def QEF(a:List Sm):Prop:=SM (QRj a)
def Qd5(a:List Sm)(b:Nat):Prop:=(QEF a/\True)/\∃(y:Nat),QkR y a/\LN a-y<LN a-b/\(IntKind.wrap IntKind.i64 ((↑b:Int)+Z1)=(↑y:Int)/\True)/\True/\True
def QEG(a:List Sm)(b:Nat):Bool:=Qd1 a b==2
def Qk5(a b:Nat)(c:List Sm):Prop:=a<=Int.toNat (↑b:Int)/\∀(j:Nat),j<a->¬(QEx c j=2/\QEy c j=YA c b)
def QEH(a:Nat)(b:List Sm)(c:Nat):Prop:=(SM a/\(SM (Qd1 b c)/\SM (QDQ b c)/\SM (YA b c)/\SM (QkY b c)/\SM (QEc b c)/\SM (QEd b c)/\SM (QkZ b c)/\SM (QEe b c)/\SM (QEf b c)/\SM (QEg b c)/\SM (QEh b c)/\(SM (Qk0 b c)/\(∀(i:Nat),i<Qk0 b c->SM (QEj b c i))/\True)/\(SM (Qk1 b c)/\(∀(i:Nat),i<Qk1 b c->SM (QEl b c i))/\True)/\(SM (Qk2 b c)/\(∀(i:Nat),i<Qk2 b c->SM (QEn b c i))/\True)/\(SM (Qk3 b c)/\(∀(i:Nat),i<Qk3 b c->SM (QEp b c i))/\True)/\(SM (Qk4 b c)/\(∀(i:Nat),i<Qk4 b c->SM (QEr b c i))/\True)/\SM (QEs b c)/\SM (QEt b c)/\SM (QEu b c)/\SM (QkS b c)/\SM (QDR b c)/\SM (QdZ b c)/\SM (QDS b c)/\SM (QDT b c)/\SM (QDU b c)/\SM (QDV b c)/\(SM (QkT b c)/\(∀(i:Nat),i<QkT b c->SM (QDX b c i))/\True)/\(SM (QkU b c)/\(∀(i:Nat),i<QkU b c->SM (QDZ b c i))/\True)/\(SM (QkV b c)/\(∀(i:Nat),i<QkV b c->SM (QD1 b c i))/\True)/\(SM (QkW b c)/\(∀(i:Nat),i<QkW b c->SM (QD3 b c i))/\True)/\(SM (QkX b c)/\(∀(i:Nat),i<QkX b c->SM (QD5 b c i))/\True)/\SM (QD6 b c)/\SM (QD7 b c)/\SM (QD8 b c)/\True)/\True)/\True
def QEI(a:List Sm)(b c d:Nat):Prop:=(QEF a/\SM (ZI (↑b:Int))/\SM (D.ref N0 c N0)/\True)/\∃(y:Nat),Qk5 y b a/\Int.toNat (↑b:Int)-y<Int.toNat (↑b:Int)-d/\(IntKind.wrap IntKind.i64 ((↑d:Int)+Z1)=(↑y:Int)/\True)/\QEH c a b
theorem BdO(l:List Sm)(hl:l.length<=BC)(h:∀s∈l,RVal s.nd/\RVal s.te/\(s.te.ok/\s.te.sm)):RBdy l:=by
 refine Bg (A:=sC _ _) (x:=()) (E:=Erbo l) (eOk BhH rfl) Tryz.func43 rfl (by kernel_rfl) rfl (by simp[sC,Erbo,EC,E0]) ?_
 refine Bi (T :=
  ifB (decide ((1000:Int)<(LI l))) (Qr l) ((∃(x:Nat),QkR x l/\(Z0=(↑x:Int)/\True)/\True/\True)/\∀(x:Nat),QkR x l->ifB (decide ((↑x:Int)<(LI l))) (Bc (Z0<=(↑x:Int)/\(↑x:Int)<(LI l)) (∀(x_1:Nat),True->SM x_1/\SM x_1/\ifB (decide (QDQ l x<Z0)) (Qr l) (SM x_1/\∃(x_2:Nd),(isN x_2 [D.agg [ZI (QkS l x),ZI (QDR l x),ZI (QdZ l x),D.str (QDS l x),ZI (QDT l x),ZI (QDU l x),ZI (QDV l x),D.sl N1 (QkT l x) (fun i=>QDX l x i) Mode.any,D.sl N1 (QkU l x) (fun i=>QDZ l x i) Mode.any,D.sl N4 (QkV l x) (fun i=>QD1 l x i) Mode.any,D.sl 15 (QkW l x) (fun i=>QD3 l x i) Mode.any,D.sl 34 (QkX l x) (fun i=>QD5 l x i) Mode.any,ZI (QD6 l x),ZI (QD7 l x),ZI (QD8 l x)]] []/\RVal x_2)/\∀(y:Unit),True->ifB (!Bz x_2) (Qr l) (SM x_1/\ifB (Qd1 l x==Z1) (SM x_1/\ifB (QD9 l x) (Qr l) (SM x_1/\ifB (QEa l x) (Qr l) (SM x_1/\ifB (QEb l x) (Qr l) (SM x_1/\∃(x_3:Nd),QEw x_3 l x/\∀(y:Unit),True->ifB (!Cx x_3) (Qr l) (Qd5 l x))))) (ifB (QEG l x) ((∃(x_3:Nat),Qk5 x_3 x l/\(Z0=(↑x_3:Int)/\True)/\QEH x_1 l x)/\∀(x_3:Nat),Qk5 x_3 x l->ifB (decide ((↑x_3:Int)<(↑x:Int))) (Bc (Z0<=(↑x_3:Int)/\(↑x_3:Int)<(LI l)) (ifB (QEG l x_3) (Bc (Z0<=(↑x_3:Int)/\(↑x_3:Int)<(LI l)) (SM x_1/\ifB (YA l x_3==YA l x) (Qr l) (QEI l x x_1 x_3))) (QEI l x x_1 x_3))) (SM x_1/\∃(x_4:Unit),True/\∀(y:Unit),True->ifB (!Cd (YA l x)) (Qr l) (SM x_1/\ifB (decide (QkY l x<Z0)) (Qr l) (SM x_1/\∃(x_5:Nd),QEw x_5 l x/\∀(y:Unit),True->ifB (!Cx x_5) (Qr l) (SM x_1/\ifB (decide ((3:Int)<=QdZ l x)) (SM x_1/\ifB (QkS l x != (10:Int)) (Qr l) (Qd5 l x)) (Qd5 l x)))))) (ifB (Qd1 l x==3) (SM x_1/\ifB (QD9 l x) (Qr l) (SM x_1/\∃(x_3:Nd),(QEv x_3 l x/\RVal x_3)/\∀(y:Unit),True->ifB (!Bz x_3) (Qr l) (SM x_1/\ifB (QkZ l x != Z1) (Qr l) (SM x_1/\ifB (QEa l x) (Qr l) (SM x_1/\ifB (QEb l x) (Qr l) (Qd5 l x)))))) (Qr l))))))) (RT (true=BP true l)))) (by kernel_rfl) ?_
 delta DA GI LI LN N0 N1 N4 SI SM Z0 Z1 ZI QD5 QD6 QD7 QD8 Qd1 QD9 YA QEa QkY QEb KM QEc QEd QkZ QEe QEf QEg Qd2 QEh QEi Qk0 QEj QEk Qk1 QEl QEm Qk2 QEn QEo Qk3 QEp QEq Qk4 QEr QEs QEt QEu QEv QEw YB QEx QEy QRj QEF Qd5 QEG Qk5 QEH QEI Qr QkR HA Yx Yy Yz QDQ KL QkS QDR QdZ QDS QDT QDU Qd0 QDV QDW QkT QDX QDY QkU QDZ QD0 QkV QD1 QD2 QkW QD3 QD4 QkX RT
 try simp only[<- dm]
 try simp only[<- dn]
 simp only[ne_eq,implies_true,Int.toNat_natCast,Bf,Bd,decide_eq_true_eq,decide_eq_false_iff_not,true_and,and_true,beq_iff_eq,bne_iff_ne,bne_eq_false_iff_eq,beq_eq_false_iff_ne,Bool.not_eq_true',Bool.not_eq_false',exists_const,forall_const]
 unfold BC at hl
 have hbody:BP true l=(decide (l.length<=1000)&&Cc true [] l):=rfl
 refine⟨fun c=>?_,fun c=>⟨⟨0,⟨Nat.zero_le _,rfl⟩,rfl⟩,fun x ⟨x1,hx⟩=>⟨fun hlt=>?_,fun hge=>?_⟩⟩⟩
 ·rw[hbody,decide_eq_false (by omega)];rfl
 ·have hlt':x<l.length:=by omega
  rw[decide_eq_true (by omega),Bool.true_and,hx,Ow hlt',<- Bgh] at hbody
  obtain ⟨v1,v2,v3⟩:=h _ (C3 hlt')
  have w:IntKind.i64.wrap ((x:Int)+1)=((x+1:Nat):Int):=by rw[Ba (by omega) (by omega)];rfl
  have no:Bj7 (B2 (l.take x)) (l.getD x default)=false->false=BP true l:=fun h=>by rw[hbody,h];rfl
  have go:Bj7 (B2 (l.take x)) (l.getD x default)=true->∃y,(y<=l.length/\Cc true [] l=Cc true (B2 (List.take y l)) (List.drop y l))/\l.length-y<l.length-x/\IntKind.i64.wrap ((x:Int)+1)=(y:Int):=fun h =>
   ⟨x+1,⟨hlt',by rw[hx,Ow hlt',<- Bgh,h,Bool.true_and]⟩,by omega,w⟩
  have nin:=Bg6 (l:=l) (x:=x) (v:=(l.getD x default).nm)
  clear hx hbody h w
  unfold Bj7 at no go
  generalize hs:l.getD x default=s at *
  refine⟨⟨by omega,hlt⟩,fun a0=>no ?_,fun a0=>⟨s.nd,⟨Bl _ _,v1⟩,fun a1=>no ?_,fun a1=>?_⟩⟩
  ·rw[decide_eq_false (by omega)];rfl
  ·rw[a1];simp
  have at0:decide (0<=s.at_)=true:=decide_eq_true (by omega)
  rw[at0,a1] at no go
  refine⟨fun k1=>?_,fun n1=>⟨fun k2=>?_,fun n2=>⟨fun k3=>?_,fun n3=>?_⟩⟩⟩
  ·rw[if_pos k1] at no go
   clear nin
   refine⟨fun b1=>no ?_,fun b1=>⟨fun b2=>no ?_,fun b2=>⟨fun b3=>no ?_,fun b3=>⟨s.te,⟨Bl _ _,v3⟩,fun b4=>no ?_,fun b4=>go ?_⟩⟩⟩⟩
   all_goals simp_all
  ·rw[if_neg n1,if_pos k2] at no go
   refine⟨⟨0,⟨Nat.zero_le _,fun j hj=>absurd hj (by omega)⟩,rfl⟩,fun y ⟨y1,hy⟩=>⟨fun hly=>⟨⟨by omega,by omega⟩,fun b1=>⟨⟨by omega,by omega⟩,fun b2=>no ?_,fun b2=>⟨y+1,⟨by omega,fun j hj=>?_⟩,by omega,Ba (by omega) (by omega)⟩⟩,fun b1=>⟨y+1,⟨by omega,fun j hj=>?_⟩,by omega,Ba (by omega) (by omega)⟩⟩,fun hgy=>?_⟩⟩
   ·rw[nin.2 ⟨y,by omega,by omega,b1,b2⟩];simp
   ·by_cases e':j=y
    ·rw[e'];exact fun e=>b2 e.2
    ·exact hy j (by omega)
   ·by_cases e':j=y
    ·rw[e'];exact fun e=>b1 e.1
    ·exact hy j (by omega)
   ·have hn:(B2 (l.take x)).contains s.nm=false:=by
     cases e:(B2 (l.take x)).contains s.nm with
     |false=>rfl
     |true =>
      obtain ⟨j,j1,_,j3,j4⟩:=nin.1 e
      exact (hy j (by omega) ⟨j3,j4⟩).elim
    rw[hn] at no go
    clear nin hn hy
    refine⟨fun b1=>no ?_,fun b1=>⟨fun b2=>no ?_,fun b2=>⟨s.te,⟨Bl _ _,v3⟩,fun b4=>no ?_,fun b4=>⟨fun b5=>⟨fun b6=>no ?_,fun b6=>go ?_⟩,fun b5=>go ?_⟩⟩⟩⟩
    ·rw[b1];simp
    ·rw[decide_eq_false (p:=0<=s.sl) (by omega)];simp
    ·rw[b4];simp
    ·rw[decide_eq_true (p:=3<=s.nd.cl) b5];simp[b6]
    ·rw[b1,b4,b6,decide_eq_true (p:=0<=s.sl) (by omega)];simp
    ·rw[b1,b4,decide_eq_true (p:=0<=s.sl) (by omega),decide_eq_false (p:=3<=s.nd.cl) b5];rfl
  ·rw[if_neg n1,if_neg n2,if_pos k3] at no go
   clear nin
   refine⟨fun b1=>no ?_,fun b1=>⟨s.te,⟨Bl _ _,v2⟩,fun b2=>no ?_,fun b2=>⟨fun b3=>no ?_,fun b3=>⟨fun b4=>no ?_,fun b4=>⟨fun b5=>no ?_,fun b5=>go ?_⟩⟩⟩⟩⟩
   all_goals simp_all
  ·rw[if_neg n1,if_neg n2,if_neg n3] at no
   exact no (by simp)
 ·have e:x=l.length:=by omega
  rw[e,Rk (Nat.le_refl _)] at hx
  rw[hbody,hx,decide_eq_true (by omega)];rfl
def GV(k:Nat)(m:Int):Int:=if (k:Int)<=m+1 then (k:Int) else m+1
def RDep(n:Nd)(m:Int):Prop:=CD 41 [.agg n.row2,.int .i64 m] (.int .i64 (GV (dpN n) m))
theorem BkK{l:List Nd}{i:Nat}(h:i<l.length):dpL (l.take (i+1))=max (dpL (l.take i)) (dpN (l.getD i default)):=by
 rw[B6 h,UZ]
 simp only[dpL]
 omega
theorem Bgg:∀a b:List Sm,dpB (a++b)=max (dpB a) (dpB b)
 | [],b=>by simp only[List.nil_append,dpB];omega
 |x::a,b=>by simp only[List.cons_append,dpB,Bgg a b];omega
theorem Bj6(s:Sm):dpM s=if s.kd=3 then max (dpN s.te) (dpN s.nd) else dpN s.nd:=by
 cases s
 simp only[dpM]
 rfl
theorem Bln{l:List Sm}{i:Nat}(h:i<l.length):dpB (l.take (i+1))=max (dpB (l.take i)) (dpM (l.getD i default)):=by
 rw[B6 h,Bgg]
 simp only[dpB]
 omega
theorem BoX(n:Nd):dpN n=1+max (dpL n.ki) (dpB n.bo):=by
 cases n
 simp only[dpN]
 rfl
def Bey(p:Nd->Prop):Con:=fun k ds S=>match k with
 |41=>match ds with
  | [_,.int .i64 m]=>some (pE (β:=Nd) ds S (fun b=>.int .i64 (GV (dpN b) m)) (fun b=>isN b ds [.int .i64 m]/\0<=m/\m<=60/\p b))
  |_=>none
 |_=>none
theorem Bg3{p:Nd->Prop}(h:∀b,p b->∀m,0<=m->m<=60->RDep b m):ConOk Tryz.prog (Bey p):=by
 intro k ds S A hh
 unfold Bey at hh
 split at hh
 ·split at hh
  ·injection hh with hh;subst hh
   exact Co fun b ⟨e,h0,h1,hb⟩=>CD.at_ (CD.isN (h b hb _ h0 h1) e) _
  ·cases hh
 ·cases hh
noncomputable def Erdp(p:Nd->Prop)(n:Nd)(m:Int):Senv:={ EC (Bey p) 65 3 [4,5,6,7,9,14,31,51] (fun _=>([],[])) with
 mg:=fun _=>2
 ann:=fun b _ S=>match b with
  |0=>some { slots:=[6,5],keep:=[0,1,2],α:=Nat×Int,st:=fun y=>([.int .i64 y.1,.int .i64 y.2],S),inv:=fun y=>y.1<=n.ki.length/\0<=y.2/\y.2=GV (dpL (n.ki.take y.1)) (m-1),mu:=fun y=>n.ki.length-y.1 }
  |2=>some { slots:=[7,5],keep:=[0,1,2],α:=Nat×Int,st:=fun y=>([.int .i64 y.1,.int .i64 y.2],S),inv:=fun y=>y.1<=n.bo.length/\0<=y.2/\y.2=GV (max (dpL n.ki) (dpB (n.bo.take y.1))) (m-1),mu:=fun y=>n.bo.length-y.1 }
  |_=>none }
def QEJ(a:Nd)(b:Int):Int:=GV (dpN a) b
def HB(a:Nd):List Nd:=Nd.ki a
def VD(a:Nd):Nat:=LN (HB a)
def Qk6(a:Nat)(b:Nd)(c d:Int):Prop:=a<=VD b/\Z0<=c/\c=GV (dpL (List.take a (HB b))) (d-Z1)
def QEK(a:Nd):Int:=Nd.kd a
def QEL(a:Nd):Int:=Nd.at_ a
def QEM(a:Nd):Int:=Nd.cl a
def QEN(a:Nd):List UInt8:=Nd.tx a
def QEO(a:Nd):Int:=Nd.pr a
def QEP(a:Nd):Int:=Nd.op a
def Qd6(a:Nd):Arr:=Nd.va a
def QEQ(a:Nd):Int:=Arr.k (Qd6 a)
def QER(a:Nd):List Int:=Arr.sh (Qd6 a)
def Qk7(a:Nd):Nat:=LN (QER a)
def QES(a:Nd)(b:Nat):List D:=[ZI (GI (QER a) b)]
def QET(a:Nd):List Int:=Arr.nu (Qd6 a)
def Qk8(a:Nd):Nat:=LN (QET a)
def QEU(a:Nd)(b:Nat):List D:=[ZI (GI (QET a) b)]
def QEV(a:Nd):List Arr:=Arr.it (Qd6 a)
def Qk9(a:Nd):Nat:=LN (QEV a)
def HC:Arr:=DA
def QEW(a:Nd)(b:Nat):List D:=Arr.row (List.getD (QEV a) b HC)
def Xu:Nd:=Nd.mk Z0 Z0 Z0 [] Z0 Z0 HC [] [] Z0 Z0 Z0
def QEX(a:Nd)(b:Nat):List D:=Nd.row1 (List.getD (HB a) b Xu)
def Qd7(a:Nd):List Sm:=Nd.bo a
def Xv(a:Nd):Nat:=LN (Qd7 a)
def HD:Sm:=Sm.mk Z0 Z0 [] Z0 Xu Xu
def QEY(a:Nd)(b:Nat):List D:=Sm.row1 (List.getD (Qd7 a) b HD)
def QEZ(a:Nd):Int:=Nd.de a
def QE0(a:Nd):Int:=Nd.sl a
def QE1(a:Nd):Int:=Nd.ss a
def Qd8(a:Nat)(b:Nd):Prop:=(SM a/\(SM (QEK b)/\SM (QEL b)/\SM (QEM b)/\SM (QEN b)/\SM (QEO b)/\SM (QEP b)/\SM (QEQ b)/\(SM (Qk7 b)/\(∀(i:Nat),i<Qk7 b->SM (QES b i))/\True)/\(SM (Qk8 b)/\(∀(i:Nat),i<Qk8 b->SM (QEU b i))/\True)/\(SM (Qk9 b)/\(∀(i:Nat),i<Qk9 b->SM (QEW b i))/\True)/\(SM (VD b)/\(∀(i:Nat),i<VD b->SM (QEX b i))/\True)/\(SM (Xv b)/\(∀(i:Nat),i<Xv b->SM (QEY b i))/\True)/\SM (QEZ b)/\SM (QE0 b)/\SM (QE1 b)/\True)/\True)/\True
def KP(a:Nd)(b:Nat):Nd:=List.getD (HB a) (Int.toNat (↑b:Int)) Xu
def Qea(a:Int):Int:=IntKind.wrap IntKind.i64 (a-Z1)
def YC(a:Int):List D:=[ZI (Qea a)]
def Qla(a:Int)(b:Nd->Prop)(c:Nd):Prop:=Z0<=Qea a/\Qea a<=60/\b c
def QRm(a:Nd):D:=D.agg [ZI (QEK a),ZI (QEL a),ZI (QEM a),D.str (QEN a),ZI (QEO a),ZI (QEP a),ZI (QEQ a),D.sl N1 (Qk7 a) (fun i=>QES a i) Mode.any,D.sl N1 (Qk8 a) (fun i=>QEU a i) Mode.any,D.sl N4 (Qk9 a) (fun i=>QEW a i) Mode.any,D.sl 15 (VD a) (fun i=>QEX a i) Mode.any,D.sl 34 (Xv a) (fun i=>QEY a i) Mode.any,ZI (QEZ a),ZI (QE0 a),ZI (QE1 a)]
def Qlb(a:Nd)(b:Int)(c:Nat):Prop:=SM (QRm a)/\SM (ZI b)/\SM (D.ref N0 c N0)/\True
def Qeb(a:Nd)(b:Int):Int:=GV (dpN a) (Qea b)
def Qlc(a:Int)(b:Nd)(c:Int):Int:=if a<Qeb b c then Qeb b c else a
def QE5(a b:Nat)(c:Int)(d:Nd)(e f:Int)(g:Nat)(h:Nd):Prop:=(IntKind.wrap IntKind.i64 ((↑a:Int)+Z1)=(↑b:Int)/\Qlc c d e=f/\True)/\Qd8 g h
def Qec(a:Nat)(b:Nd)(c d:Int):Prop:=a<=Xv b/\Z0<=c/\c=GV (max (dpL (HB b)) (dpB (List.take a (Qd7 b)))) (d-Z1)
def Qed(a:Nd):Int:=(NI (Xv a))
def Qld(a:Nd)(b:Nat):Sm:=List.getD (Qd7 a) (Int.toNat (↑b:Int)) HD
def KQ(a:Nd)(b:Nat):Nd:=Sm.nd (Qld a b)
def KR(a:Nd)(b:Nat):Nd:=Sm.te (Qld a b)
def QFc(a:Nd)(b c:Nat):Prop:=Xv a-b<Xv a-c
theorem BiO(p:Nd->Prop)(n:Nd)(m:Int)(h0:0<=m)(h1:m<=60)(hn:n.sm)(h:∀b,p b->∀m,0<=m->m<=60->RDep b m)(hk:∀b∈n.ki,p b)(hb:∀s∈n.bo,p s.te/\p s.nd):RDep n m:=by
 refine Bg (A:=sC _ _) (x:=()) (E:=Erdp p n m) (eOk (Bg3 h) rfl) Tryz.func41 rfl (by kernel_rfl) rfl (by simp[sC,Erdp,EC,E0]) ?_
 refine Bi (T :=
  ∀(x:Nat),True->ifB (decide (m<=Z0)) (RT (Z1=QEJ n m)) ((∃(x_1:Nat×Int),Qk6 x_1.1 n x_1.2 m/\(Z0=(NI x_1.1)/\Z0=x_1.2/\True)/\Qd8 x n)/\∀(x_1:Nat×Int),Qk6 x_1.1 n x_1.2 m->SM x/\ifB (decide ((NI x_1.1)<(NI (VD n)))) (SM x/\Bc (Z0<=(NI x_1.1)/\(NI x_1.1)<(NI (VD n))) (∃(x_2:Nd),(isN x_2 (D.agg (Nd.rowE (KP n x_1.1))::YC m) (YC m)/\Qla m p x_2)/\∀(y:Unit),True->Qlb n m x/\∃(y:Nat×Int),Qk6 y.1 n y.2 m/\VD n-y.1<VD n-x_1.1/\QE5 x_1.1 y.1 x_1.2 x_2 m y.2 x n)) ((∃(x_2:Nat×Int),Qec x_2.1 n x_2.2 m/\(Z0=(NI x_2.1)/\x_1.2=x_2.2/\True)/\Qd8 x n)/\∀(x_2:Nat×Int),Qec x_2.1 n x_2.2 m->SM x/\ifB (decide ((NI x_2.1)<Qed n)) (SM x/\Bc (Z0<=(NI x_2.1)/\(NI x_2.1)<Qed n) (∃(x_3:Nd),(isN x_3 (D.agg (Nd.rowE (KQ n x_2.1))::YC m) (YC m)/\Qla m p x_3)/\∀(y:Unit),True->SM x/\Bc (Z0<=(NI x_2.1)/\(NI x_2.1)<Qed n) (ifB (Sm.kd (Qld n x_2.1)==3) (SM x/\Bc (Z0<=(NI x_2.1)/\(NI x_2.1)<Qed n) (∃(x_4:Nd),(isN x_4 (D.agg (Nd.rowE (KR n x_2.1))::YC m) (YC m)/\Qla m p x_4)/\∀(y:Unit),True->Qlb n m x/\∃(y:Nat×Int),Qec y.1 n y.2 m/\QFc n y.1 x_2.1/\(IntKind.wrap IntKind.i64 ((NI x_2.1)+Z1)=(NI y.1)/\(if Qlc x_2.2 x_3 m<Qeb x_4 m then Qeb x_4 m else Qlc x_2.2 x_3 m)=y.2/\True)/\Qd8 x n)) (Qlb n m x/\∃(y:Nat×Int),Qec y.1 n y.2 m/\QFc n y.1 x_2.1/\QE5 x_2.1 y.1 x_2.2 x_3 m y.2 x n)))) (RT (IntKind.wrap IntKind.i64 (x_2.2+Z1)=QEJ n m))))) (by kernel_rfl) ?_
 delta DA GI LN N0 N1 N4 NI SI SM Z0 Z1 ZI QEJ HB Qd6 QEQ QER Qk7 QES QET Qk8 QEU QEV Qk9 VD HC QEW Xu QEX Qd7 Xv HD QEY QEZ QE0 Qk6 QE1 Qd8 KP Qea QEK YC Qla QRm Qlb Qeb Qlc QE5 Qec Qed Qld QEL KQ KR QEM QFc QEN QEO QEP RT
 try simp only[<- dm]
 try simp only[<- dn]
 simp only[ne_eq,implies_true,Int.toNat_natCast,Bf,Bd,decide_eq_true_eq,decide_eq_false_iff_not,true_and,and_true,beq_iff_eq,beq_eq_false_iff_ne,exists_const,forall_const,Prod.exists]
 have hz:=BoX n
 have k1:=Ci (Cb hn).2.1
 have k2:=Ci (Cb hn).2.2
 unfold maxLen at k1 k2
 refine⟨fun h2=>?_,fun h2=>?_⟩
 ·unfold GV;split<;>omega
 have w:IntKind.i64.wrap (m-1)=m-1:=Ba (by omega) (by omega)
 rw[w]
 refine⟨⟨0,0,⟨Nat.zero_le _,Int.le_refl _,?_⟩,rfl,rfl⟩,?_⟩
 ·simp only[List.take_zero,dpL];unfold GV;split<;>omega
 rintro ⟨i,d⟩ ⟨i1,d0,hd⟩
 simp only at i1 d0 hd ⊢
 refine⟨fun hlt=>?_,fun hge=>?_⟩
 ·have hlt':i<n.ki.length:=by omega
  have ht:=BkK hlt'
  refine⟨⟨by omega,hlt⟩,n.ki.getD i default,⟨Bl _ _,by omega,by omega,hk _ (BX hlt')⟩,i+1,_,⟨hlt',?_,?_⟩,by omega,Ba (by omega) (by omega),rfl⟩
  ·unfold GV;split<;>(try split)<;>omega
  ·rw[ht]
   unfold GV at hd ⊢
   split at hd<;>split<;>(try split)<;>(try split)<;>omega
 ·have e:i=n.ki.length:=by omega
  rw[e,List.take_length] at hd
  refine⟨⟨0,d,⟨Nat.zero_le _,d0,?_⟩,rfl,rfl⟩,?_⟩
  ·simp only[List.take_zero,dpB,Nat.max_zero];exact hd
  rintro ⟨j,c⟩ ⟨j1,c0,hc⟩
  simp only at j1 c0 hc ⊢
  refine⟨fun hlt=>?_,fun hge=>?_⟩
  ·have hlt':j<n.bo.length:=by omega
   have ht:=Bln hlt'
   have hs:=Bj6 (n.bo.getD j default)
   obtain ⟨q1,q2⟩:=hb _ (C3 hlt')
   have wj:IntKind.i64.wrap ((j:Int)+1)=((j+1:Nat):Int):=by rw[Ba (by omega) (by omega)];rfl
   refine⟨⟨by omega,hlt⟩,(n.bo.getD j default).nd,⟨Bl _ _,by omega,by omega,q2⟩,⟨by omega,hlt⟩,fun h3=>⟨⟨by omega,hlt⟩,(n.bo.getD j default).te,⟨Bl _ _,by omega,by omega,q1⟩,j+1,_,⟨hlt',?_,?_⟩,by omega,wj,rfl⟩,fun h3=>⟨j+1,_,⟨hlt',?_,?_⟩,by omega,wj,rfl⟩⟩
   ·generalize dpN (n.bo.getD j default).nd=u
    generalize dpN (n.bo.getD j default).te=v
    unfold GV
    repeat' split
    all_goals omega
   ·rw[ht,hs,if_pos h3]
    generalize dpN (n.bo.getD j default).nd=u
    generalize dpN (n.bo.getD j default).te=v
    generalize dpB (List.take j n.bo)=t at hc
    generalize dpL n.ki=z at hc
    clear hs ht
    unfold GV at hc ⊢
    split at hc<;>repeat' split
    all_goals omega
   ·generalize dpN (n.bo.getD j default).nd=u
    unfold GV
    repeat' split
    all_goals omega
   ·rw[ht,hs,if_neg h3]
    generalize dpN (n.bo.getD j default).nd=u
    generalize dpB (List.take j n.bo)=t at hc
    generalize dpL n.ki=z at hc
    clear hs ht
    unfold GV at hc ⊢
    split at hc<;>repeat' split
    all_goals omega
  ·have e2:j=n.bo.length:=by omega
   rw[e2,List.take_length] at hc
   have cb:c<=60:=by unfold GV at hc;split at hc<;>omega
   rw[Ba (by omega) (by omega),hc,hz]
   unfold GV
   split<;>split<;>omega
theorem Bfb(n:Nd)(hn:n.sm)(m:Int)(h0:0<=m)(h1:m<=60):RDep n m :=
 BiO (fun b=>b.sm/\SizeOf.sizeOf b<SizeOf.sizeOf n) n m h0 h1 hn (fun b hb m h0 h1=>Bfb b hb.1 m h0 h1) (fun b hb=>⟨EW hn (BS hb),Nd.size_kid hb⟩) fun s hs =>
  have h2:=Cl (GC hn s hs)
  have e:=Nd.size_stmt hs
  have e1:=Sm.size_te s
  have e2:=Sm.size_nd s
  ⟨⟨h2.1,by omega⟩,⟨h2.2,by omega⟩⟩
termination_by SizeOf.sizeOf n
decreasing_by exact hb.2
def BT(k:Nat)(m:Int):Int:=if (k:Int)<=m+1 then (k:Int) else m+1
def RCnt(n:Nd)(m:Int):Prop:=CD 65 [.agg n.row2,.int .i64 m] (.int .i64 (BT (szN n) m))
def RCns(l:List Sm)(m:Int):Prop:=CD 42 [gsl 34 Sm.row1 l,.int .i64 m] (.int .i64 (BT (szB l) m))
theorem Bbi:∀a b:List Sm,szB (a++b)=szB a+szB b
 | [],b=>by simp only[List.nil_append,szB];omega
 |x::a,b=>by simp only[List.cons_append,szB,Bbi a b];omega
theorem Blr{l:List Sm}{i:Nat}(h:i<l.length):szB (l.take (i+1))=szB (l.take i)+szM (l.getD i default):=by
 rw[B6 h,Bbi]
 simp only[szB]
 omega
theorem Bg4{l:List Nd}{i:Nat}(h:i<l.length):szL (l.take (i+1))=szL (l.take i)+szN (l.getD i default):=by
 rw[B6 h,IX]
 simp only[szL]
 omega
theorem Blt(l:List Nd)(i:Nat):szL (l.take i)<=szL l:=by
 have h:=IX (l.take i) (l.drop i)
 rw[List.take_append_drop] at h
 omega
theorem BiJ(l:List Sm)(i:Nat):szB (l.take i)<=szB l:=by
 have h:=Bbi (l.take i) (l.drop i)
 rw[List.take_append_drop] at h
 omega
theorem Bnm(s:Sm):szM s=if s.kd=3 then szN s.te+szN s.nd else szN s.nd:=by
 cases s
 simp only[szM]
 rfl
theorem BmU(n:Nd):szN n=1+szL n.ki+szB n.bo:=by
 cases n
 simp only[szN]
 rfl
def BbA(p:Nd->Prop):Con:=fun k ds S=>match k with
 |65=>match ds with
  | [_,.int .i64 m]=>some (pE (β:=Nd) ds S (fun b=>.int .i64 (BT (szN b) m)) (fun b=>isN b ds [.int .i64 m]/\0<=m/\m<=16384/\p b))
  |_=>none
 |_=>none
theorem R7{p:Nd->Prop}(h:∀b,p b->∀m,0<=m->m<=16384->RCnt b m):ConOk Tryz.prog (BbA p):=by
 intro k ds S A hh
 unfold BbA at hh
 split at hh
 ·split at hh
  ·injection hh with hh;subst hh
   exact Co fun b ⟨e,h0,h1,hb⟩=>CD.at_ (CD.isN (h b hb _ h0 h1) e) _
  ·cases hh
 ·cases hh
def Beg(p:Nd->Prop)(l:List Sm):Con:=fun k ds S=>match k with
 |42=>match ds with
  | [_,.int .i64 m]=>some (pA ds S (.int .i64 (BT (szB l) m)) (wkL ds [gsl 34 Sm.row1 l,.int .i64 m]/\-1<=m/\m<=16384))
  |_=>none
 |k=>BbA p k ds S
theorem Bho{p:Nd->Prop}{l:List Sm}(h:∀b,p b->∀m,0<=m->m<=16384->RCnt b m)(h2:∀m,-1<=m->m<=16384->RCns l m):ConOk Tryz.prog (Beg p l):=by
 intro k ds S A hh
 unfold Beg at hh
 split at hh
 ·split at hh
  ·injection hh with hh;subst hh
   exact Bo fun ⟨e,h0,h1⟩=>CD.at_ (CD.wk (h2 _ h0 h1) e) _
  ·cases hh
 ·exact R7 h _ _ _ _ hh
noncomputable def Ercs(p:Nd->Prop)(l:List Sm)(m:Int):Senv:={ EC (BbA p) 56 2 [4,5,6,15,39] (fun _=>([],[])) with
 mg:=fun _=>2
 ann:=fun b _ S=>match b with
  |0=>some { slots:=[6,5],keep:=[0,1],α:=Nat×Int,st:=fun y=>([.int .i64 y.1,.int .i64 y.2],S),inv:=fun y=>y.1<=l.length/\y.2=BT (szB (l.take y.1)) m,mu:=fun y=>l.length-y.1 }
  |_=>none }
def Qeg(a:Nat)(b:List Sm)(c d:Int):Prop:=a<=LN b/\c=BT (szB (List.take a b)) d
def HE:Arr:=DA
def YD:Nd:=Nd.mk Z0 Z0 Z0 [] Z0 Z0 HE [] [] Z0 Z0 Z0
def YE:Sm:=Sm.mk Z0 Z0 [] Z0 YD YD
def Qle(a:List Sm)(b:Nat):Sm:=List.getD a (Int.toNat (↑b:Int)) YE
def KS(a:List Sm)(b:Nat):Nd:=Sm.nd (Qle a b)
def Qei(a:Int)(b:Nd)(c:Int):Int:=IntKind.wrap IntKind.i64 (a+BT (szN b) (IntKind.wrap IntKind.i64 (c-a)))
def KT(a:List Sm)(b:Nat):Nd:=Sm.te (Qle a b)
def Qek(a b:Int)(c:Nd):Int:=IntKind.wrap IntKind.i64 (a-Qei b c a)
def QFj(a b:Int)(c:Nd):List D:=[ZI (Qek a b c)]
def YF(a:List Sm)(b:Nat):Sm:=List.getD a b YE
def QRz(a:List Sm):D:=D.sl 34 (LN a) (fun i=>(Sm.row1 (YF a i))) Mode.any
def QFq(a:List Sm)(b:Int):Prop:=SM (QRz a)/\SM (ZI b)/\True
def QFr(a:List Sm)(b:Int)(c:Nat)(d:Int)(e:Nd):Prop:=QFq a b/\∃(y:Nat×Int),Qeg y.1 a y.2 b/\LN a-y.1<LN a-c/\(IntKind.wrap IntKind.i64 ((↑c:Int)+Z1)=(NI y.1)/\Qei d e b=y.2/\True)/\True/\True
def QFs(a:Int):Int:=IntKind.wrap IntKind.i64 ((if a<(-1:Int) then (-1:Int) else a)+Z1)
def QFt(a b:Int)(c:List Sm):Prop:=True/\∃(_y:Unit),True/\(if QFs a<b then QFs a else b)=BT (szB c) a/\True/\True
theorem Bds(p:Nd->Prop)(l:List Sm)(m:Int)(h0:-1<=m)(h1:m<=16384)(hl:l.length<=BC)(h:∀b,p b->∀m,0<=m->m<=16384->RCnt b m)(hb:∀s∈l,p s.te/\p s.nd):RCns l m:=by
 refine Bg (A:=sC _ _) (x:=()) (E:=Ercs p l m) (eOk (R7 h) rfl) Tryz.func42 rfl (by kernel_rfl) rfl (by simp[sC,Ercs,EC,E0]) ?_
 refine Bi (T :=
  (∃(x:Nat×Int),Qeg x.1 l x.2 m/\(Z0=(NI x.1)/\Z0=x.2/\True)/\True/\True)/\∀(x:Nat×Int),Qeg x.1 l x.2 m->ifB (decide ((NI x.1)<(LI l))) (ifB (decide (x.2<=m)) (Bc (Z0<=(NI x.1)/\(NI x.1)<(LI l)) (∃(x_1:Nd),(isN x_1 [D.agg (Nd.rowE (KS l x.1)),ZI (IntKind.wrap IntKind.i64 (m-x.2))] [ZI (IntKind.wrap IntKind.i64 (m-x.2))]/\Z0<=IntKind.wrap IntKind.i64 (m-x.2)/\IntKind.wrap IntKind.i64 (m-x.2)<=16384/\p x_1)/\∀(y:Unit),True->Bc (Z0<=(NI x.1)/\(NI x.1)<(LI l)) (ifB (Sm.kd (Qle l x.1)==3) (ifB (decide (Qei x.2 x_1 m<=m)) (Bc (Z0<=(NI x.1)/\(NI x.1)<(LI l)) (∃(x_2:Nd),(isN x_2 (D.agg (Nd.rowE (KT l x.1))::QFj m x.2 x_1) (QFj m x.2 x_1)/\Z0<=Qek m x.2 x_1/\Qek m x.2 x_1<=16384/\p x_2)/\∀(y:Unit),True->QFq l m/\∃(y:Nat×Int),Qeg y.1 l y.2 m/\LN l-y.1<LN l-x.1/\(IntKind.wrap IntKind.i64 ((NI x.1)+Z1)=(NI y.1)/\IntKind.wrap IntKind.i64 (Qei x.2 x_1 m+BT (szN x_2) (Qek m x.2 x_1))=y.2/\True)/\True/\True)) (QFr l m x.1 x.2 x_1)) (QFr l m x.1 x.2 x_1)))) (QFt m x.2 l)) (QFt m x.2 l)) (by kernel_rfl) ?_
 delta DA GI LI LN N1 N4 NI SI SM Z0 Z1 ZI Qeg HE Qei KT YD Qek QFj YF YE QRz QFq QFr Qle QFs QFt KS
 try simp only[<- dm]
 try simp only[<- dn]
 simp only[ne_eq,Int.toNat_natCast,Bf,Bd,decide_eq_true_eq,decide_eq_false_iff_not,true_and,and_true,beq_iff_eq,beq_eq_false_iff_ne,exists_const,forall_const,Prod.exists]
 unfold BC at hl
 have fin:∀c:Int,c=BT (szB l) m->(if IntKind.i64.wrap ((if m < -1 then -1 else m)+1)<c then IntKind.i64.wrap ((if m < -1 then -1 else m)+1) else c)=BT (szB l) m:=fun c hc=>by
  rw[if_neg (show ¬m < -1 by omega),Ba (by omega) (by omega),if_neg ?_,hc]
  rw[hc];unfold BT;split<;>omega
 refine⟨⟨0,0,⟨Nat.zero_le _,?_⟩,rfl,rfl⟩,?_⟩
 ·simp only[List.take_zero,szB];unfold BT;split<;>omega
 rintro ⟨i,c⟩ ⟨i1,hc⟩
 simp only at i1 hc ⊢
 have hmono:=BiJ l i
 have c0:0<=c/\c<=m+1:=by rw[hc];unfold BT;split<;>omega
 refine⟨fun hlt=>⟨fun hle=>?_,fun hgt=>fin c ?_⟩,fun hge=>fin c ?_⟩
 ·have hlt':i<l.length:=by omega
  have ht:=Blr hlt'
  have hs:=Bnm (l.getD i default)
  obtain ⟨q1,q2⟩:=hb _ (C3 hlt')
  have w1:IntKind.i64.wrap (m-c)=m-c:=Ba (by omega) (by omega)
  have wi:IntKind.i64.wrap ((i:Int)+1)=((i+1:Nat):Int):=by rw[Ba (by omega) (by omega)];rfl
  have hu:0<=BT (szN (l.getD i default).nd) (m-c)/\BT (szN (l.getD i default).nd) (m-c)<=m-c+1:=by unfold BT;split<;>omega
  have w2:IntKind.i64.wrap (c+BT (szN (l.getD i default).nd) (m-c))=c+BT (szN (l.getD i default).nd) (m-c):=Ba (by omega) (by omega)
  have e1:c+BT (szN (l.getD i default).nd) (m-c)=BT (szB (l.take i)+szN (l.getD i default).nd) m:=by
   rw[hc] at hle ⊢
   unfold BT at hle ⊢
   split at hle<;>repeat' split
   all_goals omega
  rw[w1]
  refine⟨⟨by omega,hlt⟩,(l.getD i default).nd,⟨Bl _ _,by omega,by omega,q2⟩,⟨by omega,hlt⟩,fun h3=>?_,fun h3=>⟨i+1,_,⟨hlt',?_⟩,by omega,wi,rfl⟩⟩
  ·rw[w2,if_pos h3] at *
   refine⟨fun h4=>?_,fun h4=>⟨i+1,_,⟨hlt',?_⟩,by omega,wi,rfl⟩⟩
   ·have w3:IntKind.i64.wrap (m-(c+BT (szN (l.getD i default).nd) (m-c)))=m-(c+BT (szN (l.getD i default).nd) (m-c)):=Ba (by omega) (by omega)
    rw[w3]
    refine⟨⟨by omega,hlt⟩,(l.getD i default).te,⟨Bl _ _,by omega,by omega,q1⟩,i+1,_,⟨hlt',?_⟩,by omega,wi,rfl⟩
    have hv:0<=BT (szN (l.getD i default).te) (m-(c+BT (szN (l.getD i default).nd) (m-c)))/\BT (szN (l.getD i default).te) (m-(c+BT (szN (l.getD i default).nd) (m-c)))<=m-(c+BT (szN (l.getD i default).nd) (m-c))+1:=by
     generalize c+BT (szN (l.getD i default).nd) (m-c)=z at *
     unfold BT;split<;>omega
    rw[Ba (by omega) (by omega),ht,hs,e1]
    rw[e1] at h4
    generalize szB (l.take i)=t at *
    generalize szN (l.getD i default).nd=u at *
    generalize szN (l.getD i default).te=v at *
    clear e1 w1 w2 w3 hu hv hc c0 ht hs
    unfold BT at h4 ⊢
    split at h4<;>repeat' split
    all_goals omega
   ·rw[ht,hs,e1]
    rw[e1] at h4
    generalize szB (l.take i)=t at *
    generalize szN (l.getD i default).nd=u at *
    generalize szN (l.getD i default).te=v at *
    clear e1 w1 w2 hu hc c0 ht hs
    unfold BT at h4 ⊢
    split at h4<;>repeat' split
    all_goals omega
  ·rw[w2,ht,hs,if_neg h3,e1]
 ·rw[hc] at hgt ⊢
  unfold BT at hgt ⊢
  split at hgt<;>repeat' split
  all_goals omega
 ·have e:i=l.length:=by omega
  rw[e,List.take_length] at hc
  exact hc
noncomputable def Erct(p:Nd->Prop)(n:Nd)(m:Int):Senv:={ EC (Beg p n.bo) 41 3 [4,5,6,16] (fun _=>([],[])) with
 mg:=fun _=>2
 ann:=fun b _ S=>match b with
  |0=>some { slots:=[6,5],keep:=[0,1,2],α:=Nat×Int,st:=fun y=>([.int .i64 y.1,.int .i64 y.2],S),inv:=fun y=>y.1<=n.ki.length/\y.2=BT (1+szL (n.ki.take y.1)) m,mu:=fun y=>n.ki.length-y.1 }
  |_=>none }
def Qen(a:Nd):List Nd:=Nd.ki a
def VE(a:Nd):Nat:=LN (Qen a)
def Qlf(a:Nat)(b:Nd)(c d:Int):Prop:=a<=VE b/\c=BT (N1+szL (List.take a (Qen b))) d
def QFu(a:Nd):Int:=Nd.kd a
def QFv(a:Nd):Int:=Nd.at_ a
def QFw(a:Nd):Int:=Nd.cl a
def QFx(a:Nd):List UInt8:=Nd.tx a
def QFy(a:Nd):Int:=Nd.pr a
def QFz(a:Nd):Int:=Nd.op a
def Qeo(a:Nd):Arr:=Nd.va a
def QFA(a:Nd):Int:=Arr.k (Qeo a)
def QFB(a:Nd):List Int:=Arr.sh (Qeo a)
def Qlg(a:Nd):Nat:=LN (QFB a)
def QFC(a:Nd)(b:Nat):List D:=[ZI (GI (QFB a) b)]
def QFD(a:Nd):List Int:=Arr.nu (Qeo a)
def Qlh(a:Nd):Nat:=LN (QFD a)
def QFE(a:Nd)(b:Nat):List D:=[ZI (GI (QFD a) b)]
def QFF(a:Nd):List Arr:=Arr.it (Qeo a)
def Qli(a:Nd):Nat:=LN (QFF a)
def Qlj:Arr:=DA
def QFG(a:Nd)(b:Nat):List D:=Arr.row (List.getD (QFF a) b Qlj)
def HF:Nd:=Nd.mk Z0 Z0 Z0 [] Z0 Z0 Qlj [] [] Z0 Z0 Z0
def QFH(a:Nd)(b:Nat):List D:=Nd.row1 (List.getD (Qen a) b HF)
def Qlk(a:Nd):List Sm:=Nd.bo a
def Qll(a:Nd):Nat:=LN (Qlk a)
def QFI:Sm:=Sm.mk Z0 Z0 [] Z0 HF HF
def QFJ(a:Nd)(b:Nat):List D:=Sm.row1 (List.getD (Qlk a) b QFI)
def QFK(a:Nd):Int:=Nd.de a
def QFL(a:Nd):Int:=Nd.sl a
def QFM(a:Nd):Int:=Nd.ss a
def QFN(a:Nat)(b:Nd):Prop:=(SM a/\(SM (QFu b)/\SM (QFv b)/\SM (QFw b)/\SM (QFx b)/\SM (QFy b)/\SM (QFz b)/\SM (QFA b)/\(SM (Qlg b)/\(∀(i:Nat),i<Qlg b->SM (QFC b i))/\True)/\(SM (Qlh b)/\(∀(i:Nat),i<Qlh b->SM (QFE b i))/\True)/\(SM (Qli b)/\(∀(i:Nat),i<Qli b->SM (QFG b i))/\True)/\(SM (VE b)/\(∀(i:Nat),i<VE b->SM (QFH b i))/\True)/\(SM (Qll b)/\(∀(i:Nat),i<Qll b->SM (QFJ b i))/\True)/\SM (QFK b)/\SM (QFL b)/\SM (QFM b)/\True)/\True)/\True
def KW(a:Nd)(b:Nat):Nd:=List.getD (Qen a) (Int.toNat (↑b:Int)) HF
def Xw(a b:Int):Int:=IntKind.wrap IntKind.i64 (a-b)
def Qlm(a b:Int):List D:=[ZI (Xw a b)]
def QFR(a:Nd):D:=D.sl 34 (Qll a) (fun i=>QFJ a i) Mode.any
def QRC(a:Nd):D:=D.agg [ZI (QFu a),ZI (QFv a),ZI (QFw a),D.str (QFx a),ZI (QFy a),ZI (QFz a),ZI (QFA a),D.sl N1 (Qlg a) (fun i=>QFC a i) Mode.any,D.sl N1 (Qlh a) (fun i=>QFE a i) Mode.any,D.sl N4 (Qli a) (fun i=>QFG a i) Mode.any,D.sl 15 (VE a) (fun i=>QFH a i) Mode.any,QFR a,ZI (QFK a),ZI (QFL a),ZI (QFM a)]
def QFS(a:Nd)(b c:Int):List D:=QFR a::Qlm b c
def QFT(a:Int)(b:Nd)(c:Int):Int:=IntKind.wrap IntKind.i64 (a+BT (szB (Qlk b)) (Xw c a))
def QFU(a:Nat)(b:Nd)(c d:Int):Prop:=SM a/\∃(_x:Unit),(wkL (QFS b c d) (QFS b c d)/\(-1:Int)<=Xw c d/\Xw c d<=16384)/\∀(_y:Unit),True->True/\∃(_y:Unit),True/\(if IntKind.wrap IntKind.i64 (c+Z1)<QFT d b c then IntKind.wrap IntKind.i64 (c+Z1) else QFT d b c)=BT (szN b) c/\True/\True
theorem BlB(p:Nd->Prop)(n:Nd)(m:Int)(h0:0<=m)(h1:m<=16384)(hn:n.sm)(h:∀b,p b->∀m,0<=m->m<=16384->RCnt b m)(hk:∀b∈n.ki,p b)(hb:∀s∈n.bo,p s.te/\p s.nd):RCnt n m:=by
 refine Bg (A:=sC _ _) (x:=()) (E:=Erct p n m) (eOk (Bho h fun m h0 h1=>Bds p n.bo m h0 h1 (Cb hn).2.2 h hb) rfl) Tryz.func65 rfl (by kernel_rfl) rfl (by simp[sC,Erct,EC,E0]) ?_
 refine Bi (T :=
  ∀(x:Nat),True->(∃(x_1:Nat×Int),Qlf x_1.1 n x_1.2 m/\(Z0=(NI x_1.1)/\Z1=x_1.2/\True)/\QFN x n)/\∀(x_1:Nat×Int),Qlf x_1.1 n x_1.2 m->SM x/\ifB (decide ((NI x_1.1)<(NI (VE n)))) (ifB (decide (x_1.2<=m)) (SM x/\Bc (Z0<=(NI x_1.1)/\(NI x_1.1)<(NI (VE n))) (∃(x_2:Nd),(isN x_2 (D.agg (Nd.rowE (KW n x_1.1))::Qlm m x_1.2) (Qlm m x_1.2)/\Z0<=Xw m x_1.2/\Xw m x_1.2<=16384/\p x_2)/\∀(y:Unit),True->(SM (QRC n)/\SM (ZI m)/\SM (D.ref N0 x N0)/\True)/\∃(y:Nat×Int),Qlf y.1 n y.2 m/\VE n-y.1<VE n-x_1.1/\(IntKind.wrap IntKind.i64 ((NI x_1.1)+Z1)=(NI y.1)/\IntKind.wrap IntKind.i64 (x_1.2+BT (szN x_2) (Xw m x_1.2))=y.2/\True)/\QFN x n)) (QFU x n m x_1.2)) (QFU x n m x_1.2)) (by kernel_rfl) ?_
 delta DA GI LN N0 N1 N4 NI SI SM Z0 Z1 ZI Qen VE Qlf QFu QFv QFw QFx QFy QFz Qeo QFA QFB Qlg QFC QFD Qlh QFE QFF Qli Qlj QFG HF QFH Qlk Qll QFI QFJ QFK QFL QFM QFN KW Xw Qlm QFR QRC QFS QFT QFU
 try simp only[<- dm]
 try simp only[<- dn]
 simp only[implies_true,Int.toNat_natCast,Bf,Bd,decide_eq_true_eq,decide_eq_false_iff_not,true_and,and_true,exists_const,forall_const,Prod.exists]
 have k1:=Ci (Cb hn).2.1
 unfold maxLen at k1
 have hz:=BmU n
 have fin:∀c:Int,0<=c/\c<=m+1->c=BT (1+szL n.ki) m->(wkL [D.sl 34 n.bo.length (fun i=>(n.bo.getD i default).row1) Mode.any,.int .i64 (IntKind.i64.wrap (m-c))] [D.sl 34 n.bo.length (fun i=>(n.bo.getD i default).row1) Mode.any,.int .i64 (IntKind.i64.wrap (m-c))]/\-1<=IntKind.i64.wrap (m-c)/\IntKind.i64.wrap (m-c)<=16384)/\(if IntKind.i64.wrap (m+1)<IntKind.i64.wrap (c+BT (szB n.bo) (IntKind.i64.wrap (m-c))) then IntKind.i64.wrap (m+1) else IntKind.i64.wrap (c+BT (szB n.bo) (IntKind.i64.wrap (m-c))))=BT (szN n) m:=fun c c0 hc=>by
  have w1:IntKind.i64.wrap (m-c)=m-c:=Ba (by omega) (by omega)
  have w2:IntKind.i64.wrap (m+1)=m+1:=Ba (by omega) (by omega)
  have hv:0<=BT (szB n.bo) (m-c)/\BT (szB n.bo) (m-c)<=m-c+1:=by unfold BT;split<;>omega
  rw[w1,w2,Ba (show (-9223372036854775808:Int)<=c+BT (szB n.bo) (m-c) by omega) (by omega)]
  refine⟨⟨Be _,by omega,by omega⟩,?_⟩
  rw[if_neg (by omega),hz]
  clear hv w1 w2 c0
  generalize szL n.ki=t at *
  generalize szB n.bo=u at *
  rw[hc]
  unfold BT
  repeat' split
  all_goals omega
 refine⟨⟨0,1,⟨Nat.zero_le _,?_⟩,rfl,rfl⟩,?_⟩
 ·simp only[List.take_zero,szL];unfold BT;split<;>omega
 rintro ⟨i,c⟩ ⟨i1,hc⟩
 simp only at i1 hc ⊢
 have hmono:=Blt n.ki i
 have c0:0<=c/\c<=m+1:=by rw[hc];unfold BT;split<;>omega
 refine⟨fun hlt=>⟨fun hle=>?_,fun hgt=>fin c c0 ?_⟩,fun hge=>fin c c0 ?_⟩
 ·have hlt':i<n.ki.length:=by omega
  have ht:=Bg4 hlt'
  have w1:IntKind.i64.wrap (m-c)=m-c:=Ba (by omega) (by omega)
  have hu:0<=BT (szN (n.ki.getD i default)) (m-c)/\BT (szN (n.ki.getD i default)) (m-c)<=m-c+1:=by unfold BT;split<;>omega
  rw[w1]
  refine⟨⟨by omega,hlt⟩,n.ki.getD i default,⟨Bl _ _,by omega,by omega,hk _ (BX hlt')⟩,i+1,_,⟨hlt',?_⟩,by omega,by rw[Ba (by omega) (by omega)];rfl,rfl⟩
  rw[Ba (by omega) (by omega),ht]
  clear hu w1 c0
  generalize szL (n.ki.take i)=t at *
  generalize szN (n.ki.getD i default)=u at *
  rw[hc] at hle ⊢
  unfold BT at hle ⊢
  split at hle<;>repeat' split
  all_goals omega
 ·rw[hc] at hgt ⊢
  unfold BT at hgt ⊢
  split at hgt<;>repeat' split
  all_goals omega
 ·have e:i=n.ki.length:=by omega
  rw[e,List.take_length] at hc
  exact hc
theorem BeD(n:Nd)(hn:n.sm)(m:Int)(h0:0<=m)(h1:m<=16384):RCnt n m :=
 BlB (fun b=>b.sm/\SizeOf.sizeOf b<SizeOf.sizeOf n) n m h0 h1 hn (fun b hb m h0 h1=>BeD b hb.1 m h0 h1) (fun b hb=>⟨EW hn (BS hb),Nd.size_kid hb⟩) fun s hs =>
  have h2:=Cl (GC hn s hs)
  have e:=Nd.size_stmt hs
  have e1:=Sm.size_te s
  have e2:=Sm.size_nd s
  ⟨⟨h2.1,by omega⟩,⟨h2.2,by omega⟩⟩
termination_by SizeOf.sizeOf n
decreasing_by exact hb.2
theorem Bnq(l:List Sm)(hl:l.length<=BC)(hs:∀s∈l,s.sm)(m:Int)(h0:-1<=m)(h1:m<=16384):RCns l m :=
 Bds Nd.sm l m h0 h1 hl (fun b hb m h0 h1=>BeD b hb m h0 h1) fun s h=>Cl (hs s h)
theorem Ud(n:Nd)(ho:n.ok)(hn:n.sm):RVal n :=
 BjQ n hn (OI ho) (BdO n.bo (Cb hn).2.2 fun s hs =>
  have h1:=Cq (GM ho s hs)
  have h2:=Cl (GC hn s hs)
  ⟨Ud s.nd h1.2 h2.2,Ud s.te h1.1 h2.1,h1.1,h2.1⟩) fun b hb=>Ud b (M8 ho b hb) (EW hn (BS hb))
termination_by SizeOf.sizeOf n
decreasing_by
 ·have:=Nd.size_stmt hs
  have:=Sm.size_nd s
  omega
 ·have:=Nd.size_stmt hs
  have:=Sm.size_te s
  omega
 ·exact Nd.size_kid hb
theorem Bnt(l:List Sm)(hl:l.length<=BC)(ho:∀s∈l,s.ok)(hs:∀s∈l,s.sm):RBdy l :=
 BdO l hl fun s h=>⟨Ud s.nd (Cq (ho s h)).2 (Cl (hs s h)).2,Ud s.te (Cq (ho s h)).1 (Cl (hs s h)).1,(Cq (ho s h)).1,(Cl (hs s h)).1⟩
def BeY(l:List Sm):Con:=fun k ds S=>match k with
 |69=>match ds with
  | [_,.int .i64 q]=>some (pA ds S (.bool (Eq l q)) (wkL ds [gsl 34 Sm.row1 l,.int .i64 q]))
  |_=>none
 |_=>none
theorem Bh7{l:List Sm}(hl:l.length<=maxLen)(h:∀s∈l,s.sm):ConOk Tryz.prog (BeY l):=by
 intro k ds S A hh
 unfold BeY at hh
 split at hh
 ·split at hh
  ·injection hh with hh;subst hh
   exact Bo fun e=>CD.at_ (CD.wk (Bkg _ l hl h) e) _
  ·cases hh
 ·cases hh
noncomputable def Erou(l:List Sm):Senv:={ EC (BeY l) 39 1 [2,3,7,15] (fun _=>([],[])) with
 mg:=fun _=>2
 ann:=fun b _ S=>match b with
  |0=>some { slots:=[3],keep:=[0],α:=Nat,st:=fun i=>([.int .i64 i],S),inv:=fun i=>i<=l.length/\∀j,j<i->((l.getD j default).kd != 3)=true,mu:=fun i=>l.length-i }
  |_=>none }
def QFV:Nd:=Nd.mk Z0 Z0 Z0 [] Z0 Z0 DA [] [] Z0 Z0 Z0
def QFW:Sm:=Sm.mk Z0 Z0 [] Z0 QFV QFV
def QFX(a:List Sm)(b:Nat):Sm:=List.getD a b QFW
def Qln(a:Nat)(b:List Sm):Prop:=a<=LN b/\∀(j:Nat),j<a->(Sm.kd (QFX b j) != (3:Int))=true
def HG(a:List Sm):Prop:=True/\∃(_y:Unit),True/\false=UD a/\True/\True
def YG(a:List Sm):D:=D.sl 34 (LN a) (fun i=>Sm.row1 (QFX a i)) Mode.any
def QFY(a:List Sm):List D:=[YG a,ZI 12]
def QFZ(a:List Sm):List D:=[YG a,ZI 13]
def QF0(a:List Sm):List D:=[YG a,ZI 6]
def QF1(a:List Sm):List D:=[YG a,ZI 7]
def QF2(a:List Sm):List D:=[YG a,ZI 11]
theorem BlR(l:List Sm)(hl:l.length<=maxLen)(h:∀s∈l,s.sm):CD 44 [gsl 34 Sm.row1 l] (.bool (UD l)):=by
 refine Bg (A:=sC _ _) (x:=()) (E:=Erou l) (eOk (Bh7 hl h) rfl) Tryz.func44 rfl (by kernel_rfl) rfl (by simp[sC,Erou,EC,E0]) ?_
 refine Bi (T :=
  (∃(x:Nat),Qln x l/\(Z0=(↑x:Int)/\True)/\True/\True)/\∀(x:Nat),Qln x l->ifB (decide ((↑x:Int)<(LI l))) (Bc (Z0<=(↑x:Int)/\(↑x:Int)<(LI l)) (ifB (Sm.kd (List.getD l (Int.toNat (↑x:Int)) QFW)==3) (HG l) ((SM (YG l)/\True)/\∃(y:Nat),Qln y l/\LN l-y<LN l-x/\(IntKind.wrap IntKind.i64 ((↑x:Int)+Z1)=(↑y:Int)/\True)/\True/\True))) (∃(x:Unit),wkL (QFY l) (QFY l)/\∀(y:Unit),True->ifB (!Eq l (12:Int)) (∃(x:Unit),wkL (QFZ l) (QFZ l)/\∀(y:Unit),True->ifB (!Eq l (13:Int)) (∃(x:Unit),wkL (QF0 l) (QF0 l)/\∀(y:Unit),True->ifB (!Eq l (6:Int)) (∃(x:Unit),wkL (QF1 l) (QF1 l)/\∀(y:Unit),True->ifB (!Eq l (7:Int)) (∃(x:Unit),wkL (QF2 l) (QF2 l)/\∀(y:Unit),True->RT ((!Eq l (11:Int))=UD l)) (HG l)) (HG l)) (HG l)) (HG l))) (by kernel_rfl) ?_
 delta DA LI LN SM Z0 Z1 ZI QFV QFW QF2 QFX Qln HG YG QFY QFZ QF0 QF1 RT
 try simp only[<- dm]
 try simp only[<- dn]
 simp only[ne_eq,Int.toNat_natCast,Bf,Bd,decide_eq_true_eq,decide_eq_false_iff_not,true_and,and_true,beq_iff_eq,bne_iff_ne,beq_eq_false_iff_ne,Bool.not_eq_true',Bool.not_eq_false',exists_const,forall_const]
 unfold maxLen at hl
 refine⟨⟨0,⟨Nat.zero_le _,fun j hj=>absurd hj (by omega)⟩,rfl⟩,fun i hi'=>⟨fun hlt=>?_,fun hge=>?_⟩⟩
 ·obtain ⟨i1,hi⟩:=hi'
  have hi1:i<l.length:=by omega
  refine⟨⟨by omega,by omega⟩,fun c=>?_,fun c=>⟨i+1,⟨hi1,fun j hj=>?_⟩,by omega,Ba (by omega) (by omega)⟩⟩
  ·unfold UD
   rw[BiM (p:=fun s:Sm=>s.kd != 3) hi1 (by simpa using c)];rfl
  ·by_cases e':j=i
   ·rw[e'];simpa using c
   ·exact hi j (by omega)
 ·obtain ⟨i1,hi⟩:=hi'
  have a:(l.all fun s=>s.kd != 3)=true:=BgD fun j hj=>by simpa using hi j (by omega)
  unfold UD
  rw[a,Bool.true_and]
  repeat' (first | exact Be _ | refine And.intro ?_ ?_ | intro _)
  all_goals first
   |(simp_all;done)
   |(simp_all;omega)
def BeM(n:Nd):Con:=fun k ds S=>match k with
 |41=>some (pA ds S (.int .i64 (GV (dpN n) 60)) (isN n ds [.int .i64 60]))
 |65=>some (pA ds S (.int .i64 (BT (szN n) 16384)) (isN n ds [.int .i64 16384]))
 |66=>some (pA ds S (.bool (Bz n)) (isN n ds []))
 |44=>some (pA ds S (.bool (UD [Bca 0 n])) (wkL ds [gsl 34 Sm.row1 [Bca 0 n]]))
 |_=>none
theorem Biq{n:Nd}(ho:n.ok)(hn:n.sm):ConOk Tryz.prog (BeM n):=by
 intro k ds S A hh
 unfold BeM at hh
 split at hh
 ·injection hh with hh;subst hh
  exact Bo fun e=>CD.at_ (CD.isN (Bfb n hn 60 (by omega) (by omega)) e) _
 ·injection hh with hh;subst hh
  exact Bo fun e=>CD.at_ (CD.isN (BeD n hn _ (by omega) (by omega)) e) _
 ·injection hh with hh;subst hh
  exact Bo fun e=>CD.at_ (CD.isN (Ud n ho hn) e) _
 ·injection hh with hh;subst hh
  exact Bo fun e=>CD.at_ (CD.wk (BlR [Bca 0 n] (by simp[maxLen]) (BpA hn)) e) _
 ·cases hh
theorem BjK(k:Nat):60<GV k 60↔60<k:=by unfold GV;split<;>omega
theorem BaO(k:Nat):16384<BT k 16384↔16384<k:=by unfold BT;split<;>omega
def dpS(s:Sm):Bool:=decide (60<dpM s)
def Be3(l:List Sm):Con:=fun k ds S=>match k with
 |41=>some (pE (β:=Nd) ds S (fun b=>.int .i64 (GV (dpN b) 60)) (fun b=>isN b ds [.int .i64 60]/\b.sm))
 |42=>some (pA ds S (.int .i64 (BT (szB l) 16384)) (wkL ds [gsl 34 Sm.row1 l,.int .i64 16384]))
 |43=>some (pA ds S (.bool (BP true l)) (wkL ds [gsl 34 Sm.row1 l]))
 |44=>some (pA ds S (.bool (UD l)) (wkL ds [gsl 34 Sm.row1 l]))
 |_=>none
theorem BhT{l:List Sm}(hl:l.length<=BC)(ho:∀s∈l,s.ok)(hs:∀s∈l,s.sm):ConOk Tryz.prog (Be3 l):=by
 intro k ds S A hh
 unfold Be3 at hh
 split at hh
 ·injection hh with hh;subst hh
  exact Co fun b ⟨e,hb⟩=>CD.at_ (CD.isN (Bfb b hb 60 (by omega) (by omega)) e) _
 ·injection hh with hh;subst hh
  exact Bo fun e=>CD.at_ (CD.wk (Bnq l hl hs _ (by omega) (by omega)) e) _
 ·injection hh with hh;subst hh
  exact Bo fun e=>CD.at_ (CD.wk (Bnt l hl ho hs) e) _
 ·injection hh with hh;subst hh
  exact Bo fun e=>CD.at_ (CD.wk (BlR l (Ci hl) hs) e) _
 ·cases hh
theorem BgK:∀l:List Sm,l.any dpS=decide (60<dpB l)
 | []=>by simp[dpB]
 |s::l=>by
  have e:dpB (s::l)=max (dpM s) (dpB l):=by simp only[dpB]
  rw[List.any_cons,BgK l,dpS,Bool.eq_iff_iff,e]
  simp only[Bool.or_eq_true,decide_eq_true_eq]
  omega
noncomputable def Erpr(l:List Sm):Senv:={ EC (Be3 l) 56 4 [7,12,41,45,55] (fun _=>([],[])) with
 mg:=fun _=>2
 ann:=fun b _ S=>match b with
  |0=>some { slots:=[3],keep:=[0,1],α:=Nat,st:=fun i=>([.int .i64 i],S),inv:=fun i=>i<=l.length/\∀j,j<i->dpS (l.getD j default)=false,mu:=fun i=>l.length-i }
  |_=>none }
def HH(a:List Sm):Int:=B1 a
def HI:Arr:=DA
def YH:Nd:=Nd.mk Z0 Z0 Z0 [] Z0 Z0 HI [] [] Z0 Z0 Z0
def YI:Sm:=Sm.mk Z0 Z0 [] Z0 YH YH
def Xx(a:List Sm)(b:Nat):Sm:=List.getD a b YI
def Qlo(a:Nat)(b:List Sm):Prop:=a<=LN b/\∀(j:Nat),j<a->dpS (Xx b j)=false
def QF9(a:List Sm)(b:Nat):List D:=(Sm.row1 (Xx a b))
def QGa(a:Nat)(b:List Sm):Prop:=(SM a/\((SM (LN b)/\(∀(i:Nat),i<LN b->SM (QF9 b i))/\True)/\True)/\True)/\True
def Qlp(a:List Sm)(b:Nat):Sm:=List.getD a (Int.toNat (↑b:Int)) YI
def KZ(a:List Sm)(b:Nat):Nd:=Sm.nd (Qlp a b)
def Qet:List D:=[ZI 60]
def QGe(a:Nd):Bool:=decide ((60:Int)<GV (dpN a) (60:Int))
def QGf(a:List Sm):Prop:=True/\∃(_y:Unit),True/\(8:Int)=HH a/\True/\True
def K0(a:List Sm)(b:Nat):Nd:=Sm.te (Qlp a b)
def QGj(a:List Sm):D:=D.sl 34 (LN a) (fun i=>QF9 a i) Mode.any
def Qlq(a:List Sm):List D:=[QGj a]
def QRL(a:List Sm):D:=D.agg (Qlq a)
def QGk(a:List Sm)(b c:Nat):Prop:=(SM (QRL a)/\SM (D.ref N0 b N0)/\True)/\∃(y:Nat),Qlo y a/\LN a-y<LN a-c/\(IntKind.wrap IntKind.i64 ((↑c:Int)+Z1)=(↑y:Int)/\True)/\QGa b a
def QGl(a:List Sm):List D:=[QGj a,ZI 16384]
def QGm(a:List Sm):Prop:=wkL (Qlq a) (Qlq a)
def QGn(a:List Sm):Prop:=True/\∃(_y:Unit),True/\(11:Int)=HH a/\True/\True
theorem BoY(l:List Sm)(hl:l.length<=BC)(ho:∀s∈l,s.ok)(hs:∀s∈l,s.sm):CD 21 [.agg [gsl 34 Sm.row1 l]] (.int .i64 (B1 l)):=by
 refine Bg (A:=sC _ _) (x:=()) (E:=Erpr l) (eOk (BhT hl ho hs) rfl) Tryz.func21 rfl (by kernel_rfl) rfl (by simp[sC,Erpr,EC,E0]) ?_
 refine Bi (T :=
  ∀(x:Nat),True->SM x/\ifB (decide ((1000:Int)<(LI l))) (RT ((2:Int)=HH l)) ((∃(x_1:Nat),Qlo x_1 l/\(Z0=(↑x_1:Int)/\True)/\QGa x l)/\∀(x_1:Nat),Qlo x_1 l->SM x/\ifB (decide ((↑x_1:Int)<(LI l))) (SM x/\Bc (Z0<=(↑x_1:Int)/\(↑x_1:Int)<(LI l)) (∃(x_2:Nd),(isN x_2 (D.agg (Nd.rowE (KZ l x_1))::Qet) Qet/\Nd.sm x_2)/\∀(y:Unit),True->ifB (QGe x_2) (QGf l) (SM x/\Bc (Z0<=(↑x_1:Int)/\(↑x_1:Int)<(LI l)) (ifB (Sm.kd (Qlp l x_1)==3) (SM x/\Bc (Z0<=(↑x_1:Int)/\(↑x_1:Int)<(LI l)) (∃(x_3:Nd),(isN x_3 (D.agg (Nd.rowE (K0 l x_1))::Qet) Qet/\Nd.sm x_3)/\∀(y:Unit),True->ifB (QGe x_3) (QGf l) (QGk l x x_1))) (QGk l x x_1))))) (SM x/\∃(x_2:Unit),wkL (QGl l) (QGl l)/\∀(y:Unit),True->ifB (decide ((16384:Int)<BT (szB l) (16384:Int))) (RT ((21:Int)=HH l)) (SM x/\∃(x_3:Unit),QGm l/\∀(y:Unit),True->ifB (!BP true l) (QGn l) (SM x/\∃(x:Unit),QGm l/\∀(y:Unit),True->ifB (!UD l) (QGn l) (RT (Z0=HH l))))))) (by kernel_rfl) ?_
 delta DA GI LI LN N0 N1 N4 SI SM Z0 Z1 ZI HH HI YH YI Xx Qlo QF9 QGa Qlp KZ Qet QGe QGf K0 QGj Qlq QRL QGk QGl QGm QGn RT
 try simp only[<- dm]
 try simp only[<- dn]
 simp only[ne_eq,implies_true,Int.toNat_natCast,Bf,Bd,decide_eq_true_eq,decide_eq_false_iff_not,true_and,and_true,beq_iff_eq,beq_eq_false_iff_ne,Bool.not_eq_true',Bool.not_eq_false',exists_const,forall_const]
 unfold BC at hl
 simp only[BjK,BaO]
 have hr:B1 l=if 1000<l.length then 2 else if 60<dpB l then 8 else if 16384<szB l then 21 else if (BP true l&&UD l)=true then 0 else 11:=by rw[BeV];rfl
 have da:=BgK l
 rw[hr]
 refine⟨fun c=>by rw[if_pos (by omega)],fun c=>?_⟩
 rw[if_neg (by omega)]
 refine⟨⟨0,⟨Nat.zero_le _,fun j hj=>absurd hj (by omega)⟩,rfl⟩,fun i ⟨i1,hi⟩=>⟨fun hlt=>?_,fun hge=>?_⟩⟩
 ·have hi1:i<l.length:=by omega
  obtain ⟨q1,q2⟩:=Cl (hs _ (C3 hi1))
  have hd:=Bj6 (l.getD i default)
  have w:IntKind.i64.wrap ((i:Int)+1)=((i+1:Nat):Int):=by rw[Ba (by omega) (by omega)];rfl
  have yes:60<dpM (l.getD i default)->8=(if 60<dpB l then (8:Int) else if 16384<szB l then 21 else if (BP true l&&UD l)=true then 0 else 11):=fun h2=>by
   have:l.any dpS=true:=Ba1 hi1 (decide_eq_true h2)
   rw[da,decide_eq_true_eq] at this
   rw[if_pos this]
  have go:¬60<dpM (l.getD i default)->∃y,(y<=l.length/\∀(j:Nat),j<y->dpS (l.getD j default)=false)/\l.length-y<l.length-i/\IntKind.i64.wrap ((i:Int)+1)=(y:Int):=fun h2 =>
   ⟨i+1,⟨hi1,fun j hj=>by
    by_cases e':j=i
    ·rw[e'];exact decide_eq_false h2
    ·exact hi j (by omega)⟩,by omega,w⟩
  refine⟨⟨by omega,hlt⟩,(l.getD i default).nd,⟨Bl _ _,q2⟩,fun b=>yes ?_,fun b=>⟨⟨by omega,hlt⟩,fun k3=>⟨⟨by omega,hlt⟩,(l.getD i default).te,⟨Bl _ _,q1⟩,fun b2=>yes ?_,fun b2=>go ?_⟩,fun k3=>go ?_⟩⟩
  ·rw[hd];split<;>omega
  ·rw[hd,if_pos k3];omega
  ·rw[hd,if_pos k3];omega
  ·rw[hd,if_neg k3];exact b
 ·have a:l.any dpS=false:=Bfh fun j hj=>hi j (by omega)
  rw[da,decide_eq_false_iff_not] at a
  rw[if_neg a]
  refine⟨Be _,fun b=>by rw[if_pos b],fun b=>?_⟩
  rw[if_neg b]
  refine⟨Be _,fun b1=>?_,fun b1=>⟨Be _,fun b2=>?_,fun b2=>?_⟩⟩
  ·rw[b1];rfl
  ·rw[b1,b2];rfl
  ·rw[b1,b2];rfl
def W0(n:Nd):List UInt8:=if n.kd=1 then GS n.va else if n.kd=2 then n.tx else if n.kd=9 then Cf n.pr else if n.kd=17 then opT n.op
 else if n.kd=6 then [88] else if n.kd=7 then [89] else if n.kd=8 then [97,114,103] else if n.kd=11 then [115,101,108,102] else if n.kd=12 then [70] else [71]
def Be0(n:Nd):Con:=fun k ds S=>match k with
 |149=>some (pA ds S (.str (GS n.va)) (wkL ds [.agg n.va.row1]))
 |150=>some (pA ds S (.str (Cf n.pr)) (wkL ds [.int .i64 n.pr]))
 |151=>some (pA ds S (.str (opT n.op)) (wkL ds [.int .i64 n.op]))
 |_=>none
theorem Bl4{n:Nd}(h:n.ok):Bt n.pr/\Bt n.op:=by
 cases n with
 |mk kd at_ cl tx pr op va ki bo de sl ss =>
  simp only[Nd.ok] at h
  exact⟨h.1.2.2.2.1,h.1.2.2.2.2.1⟩
theorem BhB{n:Nd}(ho:n.ok):ConOk Tryz.prog (Be0 n):=by
 intro k ds S A hh
 unfold Be0 at hh
 split at hh
 ·injection hh with hh;subst hh
  exact Bo fun e=>CD.at_ (CD.wk (show CD _ [.agg n.va.row1] _ from (Blv n.va (OI ho)).mono fun _ _ ⟨_,h1,h2,h3⟩=>⟨(),trivial,h2,h3⟩) e) _
 ·injection hh with hh;subst hh
  exact Bo fun e=>CD.at_ (CD.wk (Bpo n.pr (Bl4 ho).1) e) _
 ·injection hh with hh;subst hh
  exact Bo fun e=>CD.at_ (CD.wk (BpM n.op (Bl4 ho).2) e) _
 ·cases hh
noncomputable def Erwo(n:Nd):Senv:=EC (Be0 n) 34 3 [4,5,10,14,19,24,26,28,30,32] (fun _=>([],[]))
def Vf(a:Nd):Int:=Nd.kd a
def HJ(a:Nd):Arr:=Nd.va a
def QRM(a:Nd):List Int:=Arr.sh (HJ a)
def QRN(a:Nd):List Int:=Arr.nu (HJ a)
def QGo(a:Nd):List Arr:=Arr.it (HJ a)
def QGp(a:Nd):List D:=[D.agg [ZI (Arr.k (HJ a)),SI (QRM a),SI (QRN a),D.sl N4 (LN (QGo a)) (fun i=>Arr.row (GA (QGo a) i)) Mode.any]]
def JS(a:Nd):List UInt8:=W0 a
theorem Bpx(n:Nd)(ho:n.ok):CD 130 [.agg n.row2] (.str (W0 n)):=by
 refine Bg (A:=sC _ _) (x:=()) (E:=Erwo n) (eOk (BhB ho) rfl) Tryz.func130 rfl (by kernel_rfl) rfl (by simp[sC,Erwo,EC,E0]) ?_
 refine Bi (T :=
  ∀(x:Nat),True->SM x/\ifB (Vf n==Z1) (SM x/\∃(x:Unit),wkL (QGp n) (QGp n)/\∀(y:Unit),True->RT (GS (HJ n)=JS n)) (ifB (Vf n==2) (SM x/\RT (Nd.tx n=JS n)) (ifB (Vf n==9) (SM x/\∃(x:Unit),wkL [ZI (Nd.pr n)] [ZI (Nd.pr n)]/\∀(y:Unit),True->RT (Cf (Nd.pr n)=JS n)) (ifB (Vf n==17) (SM x/\∃(x:Unit),wkL [ZI (Nd.op n)] [ZI (Nd.op n)]/\∀(y:Unit),True->RT (opT (Nd.op n)=JS n)) (ifB (Vf n==6) (RT ([(88:UInt8)]=JS n)) (ifB (Vf n==7) (RT ([(89:UInt8)]=JS n)) (ifB (Vf n==8) (RT ([(97:UInt8),(114:UInt8),(103:UInt8)]=JS n)) (ifB (Vf n==11) (RT ([(115:UInt8),(101:UInt8),(108:UInt8),(102:UInt8)]=JS n)) (ifB (Vf n==12) (RT ([(70:UInt8)]=JS n)) (RT ([(71:UInt8)]=JS n))))))))))) (by kernel_rfl) ?_
 delta DA GA GI LN N1 N4 SI SM Z0 Z1 ZI Vf HJ QRM QRN QGo QGp JS RT
 try simp only[]
 try simp only[<- dn]
 simp only[ne_eq,Bf,true_and,and_true,beq_iff_eq,beq_eq_false_iff_ne,exists_const,forall_const]
 unfold W0
 repeat' (first | exact Be _ | refine And.intro ?_ ?_ | intro _)
 all_goals first
  |(simp_all;done)
  |(simp_all;omega)
noncomputable def Erbd(q:Nd->Prop)(l:List Sm):Senv:={ EC (Rq q) 56 2 [4,5,6,10,14,23,37] (fun _=>([],[])) with
 mg:=fun _=>2
 ann:=fun b _ S=>match b with
  |0=>some { slots:=[6,5],keep:=[0,1],α:=Nat×List UInt8,st:=fun y=>([.int .i64 y.1,.str y.2],S),inv:=fun y=>y.1<=l.length/\y.2=Lib.join ((l.map B4).take y.1) [32,59,32],mu:=fun y=>l.length-y.1 }
  |_=>none }
def Qev:List UInt8:=[(32:UInt8),(59:UInt8),(32:UInt8)]
def JT(a:Nat)(b:List Sm)(c:List UInt8):Prop:=a<=LN b/\c=Lib.join (List.take a (List.map B4 b)) Qev
def HK:Arr:=DA
def YJ:Nd:=Nd.mk Z0 Z0 Z0 [] Z0 Z0 HK [] [] Z0 Z0 Z0
def YK:Sm:=Sm.mk Z0 Z0 [] Z0 YJ YJ
def Qew(a:List Sm)(b:Nat):Sm:=List.getD a (Int.toNat (↑b:Int)) YK
def QGq(a:List Sm)(b:Nat):Int:=Sm.kd (Qew a b)
def QGr(a:List Sm)(b:Nat):Bool:=QGq a b==2
def QGs(a:List Sm)(b:Nat):List UInt8:=Sm.nm (Qew a b)
def QGt(a:List Sm)(b:Nat):Nat:=LN (QGs a b)+N4
def Qex(a:List UInt8):List UInt8:=a++Qev
def Qlr(a:List UInt8):Nat:=LN (Qex a)
def Qls(a:List Sm)(b:Nat):List UInt8:=QGs a b++[32,60,45,32]
def QGu(a:List Sm)(b:Nat):Nat:=LN (Qls a b)
def Qey(a:List Sm)(b:Nat):Bool:=QGq a b==3
def K1(a:List Sm)(b:Nat):Nd:=Sm.te (Qew a b)
def QeA(a:Nd)(b:List Sm)(c:Nat)(d:Nd->Prop):Prop:=isN a [D.agg (Nd.rowE (K1 b c))] []/\d a
def JU(a:Nd):List UInt8:=Bv a
def Vg(a:Nd):Nat:=LN (JU a)
def QeB(a:Nd):Nat:=Vg a+3
def Qlt(a:List UInt8)(b:List Sm)(c:Nat):List UInt8:=Qex a++Qls b c
def QGy(a:List UInt8)(b:List Sm)(c:Nat):Nat:=LN (Qlt a b c)
def HL(a:Nd):List UInt8:=JU a++[32,58,32]
def QeC(a:Nd):Nat:=LN (HL a)
def K2(a:List Sm)(b:Nat):Nd:=Sm.nd (Qew a b)
def VF(a:Nd)(b:List Sm)(c:Nat)(d:Nd->Prop):Prop:=isN a [D.agg (Nd.rowE (K2 b c))] []/\d a
def QGC(a:List UInt8)(b:List Sm)(c:Nat)(d:Nd):List UInt8:=Qlt a b c++HL d
def YL(a:List Sm)(b:Nat):Sm:=List.getD a b YK
def QRW(a:List Sm):D:=D.sl 34 (LN a) (fun i=>(Sm.row1 (YL a i))) Mode.any
def VG(a:List Sm):Prop:=SM (QRW a)/\SM (D.str Qev)/\True
def VH(a:List Sm)(b c:Nat):Prop:=LN a-b<LN a-c
def VI(a b:Nat):Prop:=IntKind.wrap IntKind.i64 ((↑a:Int)+Z1)=(↑b:Int)
def QGJ(a:List UInt8)(b:Nd):List UInt8:=Qex a++HL b
def Qlu(a:List UInt8)(b:List Sm)(c:Nat):List UInt8:=a++Qls b c
def QGK(a:List UInt8)(b:List Sm)(c:Nat):Nat:=LN (Qlu a b c)
def QGL(a:List UInt8)(b:List Sm)(c:Nat)(d:Nd):List UInt8:=Qlu a b c++HL d
def QGM(a:List UInt8)(b:Nd):List UInt8:=a++HL b
theorem Bm4(q : Nd -> Prop)(l : List Sm)(h : ∀b, q b -> RRShow b)(hs : ∀s∈l, q s.nd /\ (s.kd=3 -> q s.te) /\ s.nm.length<=BC)(hl : l.length<=maxLen)(hj : (Lib.join (l.map B4) [32, 59, 32]).length<=20000000000000) :
  CD 129 [gsl 34 Sm.row1 l,.str [32,59,32]] (.str (Lib.join (l.map B4) [32,59,32])):=by
 refine Bg (A:=sC _ _) (x:=()) (E:=Erbd q l) (eOk (T7 h) rfl) Tryz.func129 rfl (by kernel_rfl) rfl (by simp[sC,Erbd,EC,E0]) ?_
 refine Bi (T :=
  (∃(x:Nat×List UInt8),JT x.1 l x.2/\(Z0=(NI x.1)/\Cw (List UInt8) [] x.2/\True)/\True/\True)/\∀(x:Nat×List UInt8),JT x.1 l x.2->ifB (decide ((NI x.1)<(LI l))) (ifB (decide (Z0<(NI x.1))) (Bc (LN x.2+3<=9223372036854775807) (Bc (Z0<=(NI x.1)/\(NI x.1)<(LI l)) (ifB (QGr l x.1) (Bc (Z0<=(NI x.1)/\(NI x.1)<(LI l)) (Bc (QGt l x.1<=9223372036854775807) (Bc (Qlr x.2+QGu l x.1<=9223372036854775807) (Bc (Z0<=(NI x.1)/\(NI x.1)<(LI l)) (ifB (Qey l x.1) (Bc (Z0<=(NI x.1)/\(NI x.1)<(LI l)) (∃(x_1:Nd),QeA x_1 l x.1 q/\∀(y:Unit),True->Bc (QeB x_1<=9223372036854775807) (Bc (QGy x.2 l x.1+QeC x_1<=9223372036854775807) (Bc (Z0<=(NI x.1)/\(NI x.1)<(LI l)) (∃(x_2:Nd),VF x_2 l x.1 q/\∀(y:Unit),True->Bc (LN (QGC x.2 l x.1 x_1)+Vg x_2<=9223372036854775807) (VG l/\∃(y:Nat×List UInt8),JT y.1 l y.2/\VH l y.1 x.1/\(VI x.1 y.1/\QGC x.2 l x.1 x_1++JU x_2=y.2/\True)/\True/\True)))))) (Bc (Z0<=(NI x.1)/\(NI x.1)<(LI l)) (∃(x_1:Nd),VF x_1 l x.1 q/\∀(y:Unit),True->Bc (QGy x.2 l x.1+Vg x_1<=9223372036854775807) (VG l/\∃(y:Nat×List UInt8),JT y.1 l y.2/\VH l y.1 x.1/\(VI x.1 y.1/\Qlt x.2 l x.1++JU x_1=y.2/\True)/\True/\True)))))))) (Bc (Z0<=(NI x.1)/\(NI x.1)<(LI l)) (ifB (Qey l x.1) (Bc (Z0<=(NI x.1)/\(NI x.1)<(LI l)) (∃(x_1:Nd),QeA x_1 l x.1 q/\∀(y:Unit),True->Bc (QeB x_1<=9223372036854775807) (Bc (Qlr x.2+QeC x_1<=9223372036854775807) (Bc (Z0<=(NI x.1)/\(NI x.1)<(LI l)) (∃(x_2:Nd),VF x_2 l x.1 q/\∀(y:Unit),True->Bc (LN (QGJ x.2 x_1)+Vg x_2<=9223372036854775807) (VG l/\∃(y:Nat×List UInt8),JT y.1 l y.2/\VH l y.1 x.1/\(VI x.1 y.1/\QGJ x.2 x_1++JU x_2=y.2/\True)/\True/\True)))))) (Bc (Z0<=(NI x.1)/\(NI x.1)<(LI l)) (∃(x_1:Nd),VF x_1 l x.1 q/\∀(y:Unit),True->Bc (Qlr x.2+Vg x_1<=9223372036854775807) (VG l/\∃(y:Nat×List UInt8),JT y.1 l y.2/\VH l y.1 x.1/\(VI x.1 y.1/\Qex x.2++JU x_1=y.2/\True)/\True/\True)))))))) (Bc (Z0<=(NI x.1)/\(NI x.1)<(LI l)) (ifB (QGr l x.1) (Bc (Z0<=(NI x.1)/\(NI x.1)<(LI l)) (Bc (QGt l x.1<=9223372036854775807) (Bc (LN x.2+QGu l x.1<=9223372036854775807) (Bc (Z0<=(NI x.1)/\(NI x.1)<(LI l)) (ifB (Qey l x.1) (Bc (Z0<=(NI x.1)/\(NI x.1)<(LI l)) (∃(x_1:Nd),QeA x_1 l x.1 q/\∀(y:Unit),True->Bc (QeB x_1<=9223372036854775807) (Bc (QGK x.2 l x.1+QeC x_1<=9223372036854775807) (Bc (Z0<=(NI x.1)/\(NI x.1)<(LI l)) (∃(x_2:Nd),VF x_2 l x.1 q/\∀(y:Unit),True->Bc (LN (QGL x.2 l x.1 x_1)+Vg x_2<=9223372036854775807) (VG l/\∃(y:Nat×List UInt8),JT y.1 l y.2/\VH l y.1 x.1/\(VI x.1 y.1/\QGL x.2 l x.1 x_1++JU x_2=y.2/\True)/\True/\True)))))) (Bc (Z0<=(NI x.1)/\(NI x.1)<(LI l)) (∃(x_1:Nd),VF x_1 l x.1 q/\∀(y:Unit),True->Bc (QGK x.2 l x.1+Vg x_1<=9223372036854775807) (VG l/\∃(y:Nat×List UInt8),JT y.1 l y.2/\VH l y.1 x.1/\(VI x.1 y.1/\Qlu x.2 l x.1++JU x_1=y.2/\True)/\True/\True)))))))) (Bc (Z0<=(NI x.1)/\(NI x.1)<(LI l)) (ifB (Qey l x.1) (Bc (Z0<=(NI x.1)/\(NI x.1)<(LI l)) (∃(x_1:Nd),QeA x_1 l x.1 q/\∀(y:Unit),True->Bc (QeB x_1<=9223372036854775807) (Bc (LN x.2+QeC x_1<=9223372036854775807) (Bc (Z0<=(NI x.1)/\(NI x.1)<(LI l)) (∃(x_2:Nd),VF x_2 l x.1 q/\∀(y:Unit),True->Bc (LN (QGM x.2 x_1)+Vg x_2<=9223372036854775807) (VG l/\∃(y:Nat×List UInt8),JT y.1 l y.2/\VH l y.1 x.1/\(VI x.1 y.1/\QGM x.2 x_1++JU x_2=y.2/\True)/\True/\True)))))) (Bc (Z0<=(NI x.1)/\(NI x.1)<(LI l)) (∃(x_1:Nd),VF x_1 l x.1 q/\∀(y:Unit),True->Bc (LN x.2+Vg x_1<=9223372036854775807) (VG l/\∃(y:Nat×List UInt8),JT y.1 l y.2/\VH l y.1 x.1/\(VI x.1 y.1/\x.2++JU x_1=y.2/\True)/\True/\True)))))))) (RT (x.2=Lib.join (List.map B4 l) Qev))) (by kernel_rfl) ?_
 delta DA GI LI LN N1 N4 NI SI SM Z0 Z1 ZI YJ YK Qew QGq QGr QGs QGt Qex Qlr Qls QGu Qey K1 QeA JU Vg QeB Qlt QGy HL QeC K2 VF QGC YL QRW VG VH VI QGJ Qlu QGK QGL QGM Qev JT HK RT
 try simp only[<- dm]
 try simp only[<- dn]
 simp only[ne_eq,Int.toNat_natCast,Bf,Bd,decide_eq_true_eq,decide_eq_false_iff_not,true_and,and_true,beq_iff_eq,beq_eq_false_iff_ne,exists_const,forall_const,Prod.exists]
 unfold maxLen at hl
 refine⟨⟨0,[],⟨Nat.zero_le _,by simp[Lib.join]⟩,rfl,rfl⟩,?_⟩
 rintro ⟨i,s⟩ ⟨i1,hs'⟩
 simp only at i1 hs' ⊢
 refine⟨fun hlt=>?_,fun hge=>?_⟩
 ·have hlt':i<l.length:=by omega
  have hlm:i<(l.map B4).length:=by simpa using hlt'
  have jt:=Ub [32,59,32] hlm
  obtain ⟨j1,j2⟩:=Bah [32,59,32] hlm
  have eg:(l.map B4).getD i []=B4 (l.getD i default):=by simp[List.getD_eq_getElem?_getD,hlt']
  have w:IntKind.i64.wrap ((i:Int)+1)=((i+1:Nat):Int):=by rw[Ba (by omega) (by omega)];rfl
  obtain ⟨q2,q1,qn⟩:=hs _ (C3 hlt')
  unfold BC at qn
  rw[eg] at jt j1 j2
  simp only[List.length_cons,List.length_nil] at j2
  have s0:i=0->s=[]:=fun e=>by rw[hs',e];simp[Lib.join]
  have js:Lib.join (List.take (i+1) (l.map B4)) [32,59,32]=(if 0<i then s++[32,59,32] else s)++B4 (l.getD i default):=by
   rw[jt,<- hs']
   by_cases e:0<i
   ·rw[if_pos e,if_pos e]
   ·rw[if_neg e,if_neg e,s0 (by omega)]
  have hlen:s.length+3+(B4 (l.getD i default)).length<=20000000000003:=by
   by_cases e:0<i
   ·have:=j2 e
    rw[<- hs'] at this
    omega
   ·rw[s0 (by omega)]
    simp only[List.length_nil]
    omega
  have eM:=O3 (l.getD i default)
  have go:∀T,T=(if 0<i then s++[32,59,32] else s)++B4 (l.getD i default)->∃a b,(a<=l.length/\b=Lib.join (List.take a (l.map B4)) [32,59,32])/\l.length-a<l.length-i/\IntKind.i64.wrap ((i:Int)+1)=(a:Int)/\T=b:=fun T hT =>
   ⟨i+1,T,⟨hlt',by rw[hT,js]⟩,by omega,w,rfl⟩
  have l2:(l.getD i default).kd=2->(B4 (l.getD i default)).length=(l.getD i default).nm.length+4+(Bv (l.getD i default).nd).length:=fun k=>by
   rw[eM,if_pos k];simp only[List.length_append,List.length_cons,List.length_nil]
  have l3:(l.getD i default).kd=3->(B4 (l.getD i default)).length=(Bv (l.getD i default).te).length+3+(Bv (l.getD i default).nd).length:=fun k=>by
   rw[eM,if_neg (by omega),if_pos k];simp only[List.length_append,List.length_cons,List.length_nil]
  have l4:(l.getD i default).kd≠2->(l.getD i default).kd≠3->(B4 (l.getD i default)).length=(Bv (l.getD i default).nd).length:=fun k k'=>by
   rw[eM,if_neg k,if_neg k']
  clear js jt j1 j2 eg hlm hs' hs h hj w s0
  generalize l.getD i default=x at *
  by_cases k2:x.kd=2
  ·have l2:=l2 k2
   rw[if_pos k2] at eM
   clear l3 l4
   repeat' (first
    |exact absurd (by assumption) (show ¬x.kd=3 by omega)
    |refine⟨x.nd,⟨Bl _ _,q2⟩,?_⟩
    |refine go _ ?_
    |refine And.intro ?_ ?_
    |intro _)
   all_goals first
    |omega
    |(simp only[List.length_append,List.length_cons,List.length_nil];omega)
    |(rw[eM,if_pos (by omega)];simp only[List.append_assoc])
    |(rw[eM,if_neg (by omega)];simp only[List.append_assoc])
    |(exfalso;omega)
  ·by_cases k3:x.kd=3
   ·have l3:=l3 k3
    rw[if_neg k2,if_pos k3] at eM
    clear l2 l4
    repeat' (first
     |exact absurd (by assumption) k2
     |refine⟨x.nd,⟨Bl _ _,q2⟩,?_⟩
     |refine⟨x.te,⟨Bl _ _,q1 k3⟩,?_⟩
     |refine go _ ?_
     |refine And.intro ?_ ?_
     |intro _)
    all_goals first
     |omega
     |(simp only[List.length_append,List.length_cons,List.length_nil];omega)
     |(rw[eM,if_pos (by omega)];simp only[List.append_assoc])
     |(rw[eM,if_neg (by omega)];simp only[List.append_assoc])
     |(exfalso;omega)
   ·have l4:=l4 k2 k3
    rw[if_neg k2,if_neg k3] at eM
    clear l2 l3
    repeat' (first
     |exact absurd (by assumption) k2
     |exact absurd (by assumption) k3
     |refine⟨x.nd,⟨Bl _ _,q2⟩,?_⟩
     |refine go _ ?_
     |refine And.intro ?_ ?_
     |intro _)
    all_goals first
     |omega
     |(simp only[List.length_append,List.length_cons,List.length_nil];omega)
     |(rw[eM,if_pos (by omega)])
     |(rw[eM,if_neg (by omega)])
     |(exfalso;omega)
 ·have e:i=l.length:=by omega
  rw[hs',e,List.take_of_length_le (by simp)]
theorem Bii(b:Nd):BB [16,14,15,3,4,5] b=BB [3,4,5,16,14,15] b:=by
 unfold BB Ei
 have e:[16,14,15,3,4,5].contains b.kd=[3,4,5,16,14,15].contains b.kd:=by
  rw[Bool.eq_iff_iff]
  simp only[List.contains_eq_mem,decide_eq_true_eq,List.mem_cons,List.not_mem_nil,or_false]
  omega
 rw[e]
theorem Bfc:BB [16,4,5]=BB [4,5,16]:=by
 funext b
 unfold BB Ei
 have e:[16,4,5].contains b.kd=[4,5,16].contains b.kd:=by
  rw[Bool.eq_iff_iff]
  simp only[List.contains_eq_mem,decide_eq_true_eq,List.mem_cons,List.not_mem_nil,or_false]
  omega
 rw[e]
def Bfr(n:Nd)(q:Nd->Prop):Con:=fun k ds S=>match k with
 |130=>some (pA ds S (.str (W0 n)) (isN2 n ds []))
 |129=>some (pA ds S (.str (Lib.join (n.bo.map B4) [32,59,32])) (wkL ds [gsl 34 Sm.row1 n.bo,.str [32,59,32]]/\n.kd=10/\(Lib.join (n.bo.map B4) [32,59,32]).length<=20000000000000))
 |126=>match ds with
  | [_,.sl 1 m f _]=>some (pA ds S (.str (Lib.join (n.ki.map (BB (Bj m f))) [32])) (wkL ds [gsl 15 Nd.row1 n.ki,isl (Bj m f) .any]/\m<=maxLen/\(Lib.join (n.ki.map (BB (Bj m f))) [32]).length<=20000000000000))
  |_=>none
 |k=>Bbk q k ds S
theorem Biw{n:Nd}{q:Nd->Prop}(ho:n.ok)(hn:n.sm)(h:∀b,q b->RRShow b)(hq:∀b∈n.ki,q b)(hs:n.kd=10->∀s∈n.bo,q s.nd/\(s.kd=3->q s.te)/\s.nm.length<=BC):ConOk Tryz.prog (Bfr n q):=by
 intro k ds S A hh
 unfold Bfr at hh
 split at hh
 ·injection hh with hh;subst hh
  exact Bo fun e=>CD.at_ (CD.wk (Bpx n ho) e) _
 ·injection hh with hh;subst hh
  exact Bo fun ⟨e,hk,hj⟩=>CD.at_ (CD.wk (Bm4 q n.bo h (hs hk) (Ci (Cb hn).2.2) hj) e) _
 ·split at hh
  ·injection hh with hh;subst hh
   exact Bo fun ⟨e,hm,hj⟩=>CD.at_ (CD.wk (BoV q n.ki _ h hq (Ci (Cb hn).2.1) (by rw[BL];exact hm) hj) e) _
  ·cases hh
 ·exact Bac h _ _ _ _ hh
noncomputable def Ersh(n:Nd)(q:Nd->Prop):Senv:={ EC (Bfr n q) 140 7 [11,14,20,40,73,93,127,133] (fun id=>match id with | 9=>([0,1,2,3,4,5,6,7,8,12,13,14,15,9,10,11,16,17,18],[9,10,16]) | 11=>([0,1,2,3,4,5,6,7,8,12,13,14,15,16,17,18,19,20,25,26,27,28,9,10,11,21,22,23,24,29,30,31],[9,10,21,22,29]) | 13=>([0,1,2,3,4,5,6,7,8,12,13,14,15,9,10,11,16,17,18],[9,10,16]) | 16=>([0,1,2,3,4,5,6,7,8,12,13,14,15,19,20,21,22,23,24,25,26,27,9,10,11,16,17,18,28,29,30,31],[9,10,16,28,29]) | _=>([],[])) with mg:=fun _=>2 }
theorem Bia{n:Nd}(hv:Bz n=true)(h3:n.kd≠3)(h4:n.kd≠4)(h5:n.kd≠5)(h14:n.kd≠14)(h15:n.kd≠15)(h16:n.kd≠16)(h10:n.kd≠10):W0 n=Bv n:=by
 rw[CR,if_neg h3,if_neg h4,if_neg h5,if_neg h16,if_neg h14,if_neg h15]
 have hl:C6 n=true:=by
  rcases Ed hv h10 with hc | ⟨hc,_⟩
  ·exact hc
  ·unfold CQ at hc
   simp[h3,h4,h5,h14,h15,h16] at hc
 unfold C6 at hl
 rw[Bool.and_eq_true] at hl
 have hl:=hl.2
 unfold W0
 by_cases k1:n.kd=1
 ·simp[k1]
 by_cases k2:n.kd=2
 ·simp[k2]
 by_cases k6:n.kd=6
 ·simp[k6]
 by_cases k7:n.kd=7
 ·simp[k7]
 by_cases k8:n.kd=8
 ·simp[k8]
 by_cases k9:n.kd=9
 ·simp[k9]
 by_cases k11:n.kd=11
 ·simp[k11]
 by_cases k12:n.kd=12
 ·simp[k12]
 by_cases k13:n.kd=13
 ·simp[k13]
 by_cases k17:n.kd=17
 ·simp[k17]
 simp[k1,k2,k6,k7,k8,k9,k11,k12,k13,k17] at hl
def K5(a:Nd):Int:=Nd.kd a
def VJ(a:Nd):List Nd:=Nd.ki a
def HM:Arr:=DA
def Vh:Nd:=Nd.mk Z0 Z0 Z0 [] Z0 Z0 HM [] [] Z0 Z0 Z0
def YM(a:Nd):D:=D.sl 15 (LN (VJ a)) (fun i=>Nd.row1 (List.getD (VJ a) i Vh)) Mode.any
def Qlv:List (List D):=[[ZI 4],[ZI 5]]
def QGN:List (List D):=[ZI 3]::Qlv
def QGO(a:Nat):List D:=List.getD QGN a []
def QGP:List Int:=Bj (3:Nat) fun i=>QGO i
def QGQ(a:Nd):List UInt8:=Lib.join (List.map (BB QGP) (VJ a)) [(32:UInt8)]
def QF(a:Nd):List UInt8:=Bv a
def Qw(a:Nd):Int:=(LI (VJ a))
def K6(a:Nd):Nd:=List.getD (VJ a) N0 Vh
def QeH:Sm:=Sm.mk Z0 Z0 [] Z0 Vh Vh
def Qlw(a:Nd):D:=D.agg (Nd.rowE (K6 a))
def QGU:List D:=[D.sl N1 N1 (fun i=>List.getD [[ZI 16]] i []) Mode.full]
def Qlx(a:Nd):D:=D.agg (Nd.row1 a)
def QGV:List Int:=Bj N1 fun i=>List.getD [[ZI 16]] i []
def QGW(a:Nd):List D:=[Qlx a,SI QGV]
def QGX(a b:Nd):Prop:=wkL (Qlw a::QGU) (QGW b)/\N1<=9223372036854775807
def Qh(a:Nat)(b:Nd):Prop:=SM a/\SM (YM b)
def QGY(a:Nd):Bool:=List.contains QGV (K5 a)
def QeI(a:Nd):List D:=[D.bool (QGY a)]
def QGZ(a b c:Nd)(d:Nd->Prop):Prop:=isN a (Qlw b::QeI c) (QeI c)/\d a
def Qly(a b:Nd):List UInt8:=Bbg (QGY a) (QF b)
def QG0(a b:Nd):Nat:=LN (Qly a b)
def Qlz(a b:Nd):Nat:=QG0 a b+N1
def K7(a:Nd):Nd:=List.getD (VJ a) N1 Vh
def HN(a:Nd):D:=D.agg (Nd.rowE (K7 a))
def QG4(a b:Nd):List UInt8:=Qly a b++[32]
def QG5(a b c:Nd):Nat:=LN (QG4 a b)+LN (QF c)
def QlA(a b c:Nd):List UInt8:=QG4 a b++QF c
def QG6(a b c d:Nd):Prop:=∀(_y:Unit),True->Bc (QG5 a b c<=9223372036854775807) (True/\∃(_y:Unit),True/\QlA a b c=QF d/\True/\True)
def QG7(a:Nat):List D:=List.getD Qlv a []
def QG8:List Int:=Bj N2 fun i=>QG7 i
def QG9(a:Nd):Bool:=List.contains QG8 (K5 a)
def QHa(a:Nd):List D:=[D.bool (QG9 a)]
def QHb(a b:Nd):List UInt8:=Bbg (QG9 a) (QF b)
def QHc(a b:Nd):List UInt8:=QHb a b++[32]
def QHe(a b c d:Nd):List UInt8:=QHc a b++Qly c d
def K8(a:Nd):Nd:=List.getD (VJ a) N2 Vh
def QlB(a:Nd):D:=D.agg (Nd.rowE (K8 a))
def QHi(a b c d:Nd):List UInt8:=QHe a b c d++[32]
def QHj(a b:Nd):Prop:=wkL (HN a::QGU) (QGW b)/\N1<=9223372036854775807
def QHk(a b c:Nd)(d:Nd->Prop):Prop:=isN a (HN b::QeI c) (QeI c)/\d a
def QHl(a b:Nd)(c:Nd->Prop):Prop:=isN a [Qlw b] []/\c a
def QHm(a:Nat):List D:=List.getD ([ZI 16]::[ZI 14]::[ZI 15]::QGN) a []
def QHn:List Int:=Bj N6 fun i=>QHm i
def QHo(a:Nd):Bool:=List.contains QHn (K5 a)
def QHp(a:Nd):List D:=[D.bool (QHo a)]
def QHq(a b c:Nd):List UInt8:=QlA a b c++[32]
def QHr(a b:Nd):List UInt8:=Bbg (QHo a) (QF b)
def QHs(a:Nat):List D:=List.getD ([ZI 16]::Qlv) a []
def QHt:List Int:=Bj (3:Nat) fun i=>QHs i
def QHu(a:Nd):List UInt8:=Lib.join (List.map (BB QHt) (VJ a)) [(32:UInt8)]
def QlC(a:Nd):List Sm:=Nd.bo a
def QHv(a:Nd):D:=D.sl 34 (LN (QlC a)) (fun i=>Sm.row1 (List.getD (QlC a) i QeH)) Mode.any
def QHw(a:Nd):List D:=[QHv a,D.str [32,59,32]]
def QHx(a:Nd):List UInt8:=Lib.join (List.map B4 (QlC a)) [(32:UInt8),(59:UInt8),(32:UInt8)]
def QHy(a:Nd):Nat:=LN (QHx a)
def QHz(a:Nd):List UInt8:=List.append [] (QHx a)
theorem Bja(n : Nd)(q : Nd -> Prop)(hv : Bz n=true)(ho : n.ok)(hn : n.sm)(hz : szN n<=16384)(h : ∀b, q b -> RRShow b)(hq : ∀b∈n.ki, q b)(hs : n.kd=10 -> ∀s∈n.bo, q s.nd /\ (s.kd=3 -> q s.te) /\ s.nm.length<=BC) :
  CD 114 [.agg n.row2] (.str (Bv n)):=by
 refine Bg (A:=sC _ _) (x:=()) (E:=Ersh n q) (eOk (Biw ho hn h hq hs) rfl) Tryz.func114 rfl (by kernel_rfl) rfl (by simp[sC,Ersh,EC,E0]) ?_
 refine Bi (T :=
  ∀(x:Nat),True->SM x/\ifB (K5 n==3) (SM x/\∃(x:Unit),(wkL [YM n,D.sl N1 (3:Nat) (fun i=>QGO i) Mode.full] [YM n,SI QGP]/\(3:Nat)<=9223372036854775807/\LN (QGQ n)<=20000000000000)/\∀(y:Unit),True->RT (QGQ n=QF n)) (ifB (K5 n==4) (SM x/\Bc (Z0<=Z0/\Z0<Qw n) (SM x/\Bc (Z0<=Z0/\Z0<Qw n) (SM x/\Bc (Z0<=Z1/\Z1<Qw n) (∃(x_1:Nd),QGX n x_1/\∀(y:Unit),True->Qh x n/\Qh x n/\∃(x_2:Nd),QGZ x_2 n x_1 q/\∀(y:Unit),True->Qh x n/\Bc (Qlz x_1 x_2<=9223372036854775807) (∃(x:Nd),(isN x [HN n] []/\q x)/\QG6 x_1 x_2 x n))))) (ifB (K5 n==5) (SM x/\Bc (Z0<=Z1/\Z1<Qw n) (SM x/\Bc (Z0<=Z1/\Z1<Qw n) (SM x/\Bc (Z0<=Z0/\Z0<Qw n) (SM x/\Bc (Z0<=Z0/\Z0<Qw n) (SM x/\Bc (Z0<=2/\(2:Int)<Qw n) (∃(x_1:Nd),(wkL [HN n,D.sl N1 N2 (fun i=>QG7 i) Mode.full] [Qlx x_1,SI QG8]/\N2<=9223372036854775807)/\∀(y:Unit),True->Qh x n/\Qh x n/\Qh x n/\Qh x n/\∃(x_2:Nd),(isN x_2 (HN n::QHa x_1) (QHa x_1)/\q x_2)/\∀(y:Unit),True->Qh x n/\Qh x n/\Qh x n/\Bc (LN (QHb x_1 x_2)+N1<=9223372036854775807) (∃(x_3:Nd),QGX n x_3/\∀(y:Unit),True->Qh x n/\Qh x n/\∃(x_4:Nd),QGZ x_4 n x_3 q/\∀(y:Unit),True->Qh x n/\Bc (LN (QHc x_1 x_2)+QG0 x_3 x_4<=9223372036854775807) (Bc (LN (QHe x_1 x_2 x_3 x_4)+N1<=9223372036854775807) (∃(x:Nd),(isN x [QlB n] []/\q x)/\∀(y:Unit),True->Bc (LN (QHi x_1 x_2 x_3 x_4)+LN (QF x)<=9223372036854775807) (RT (QHi x_1 x_2 x_3 x_4++QF x=QF n))))))))))) (ifB (K5 n==14) (SM x/\Bc (Z0<=Z1/\Z1<Qw n) (SM x/\Bc (Z0<=Z1/\Z1<Qw n) (SM x/\Bc (Z0<=Z0/\Z0<Qw n) (∃(x_1:Nd),QHj n x_1/\∀(y:Unit),True->Qh x n/\Qh x n/\∃(x_2:Nd),QHk x_2 n x_1 q/\∀(y:Unit),True->Qh x n/\Bc (Qlz x_1 x_2<=9223372036854775807) (∃(x:Nd),QHl x n q/\QG6 x_1 x_2 x n))))) (ifB (K5 n==15) (SM x/\Bc (Z0<=Z1/\Z1<Qw n) (SM x/\Bc (Z0<=Z1/\Z1<Qw n) (SM x/\Bc (Z0<=Z0/\Z0<Qw n) (SM x/\Bc (Z0<=2/\(2:Int)<Qw n) (SM x/\Bc (Z0<=2/\(2:Int)<Qw n) (∃(x_1:Nd),QHj n x_1/\∀(y:Unit),True->Qh x n/\Qh x n/\Qh x n/\Qh x n/\∃(x_2:Nd),QHk x_2 n x_1 q/\∀(y:Unit),True->Qh x n/\Qh x n/\Qh x n/\Bc (Qlz x_1 x_2<=9223372036854775807) (∃(x_3:Nd),QHl x_3 n q/\∀(y:Unit),True->Qh x n/\Qh x n/\Bc (QG5 x_1 x_2 x_3<=9223372036854775807) (Bc (LN (QlA x_1 x_2 x_3)+N1<=9223372036854775807) (∃(x_4:Nd),(wkL [QlB n,D.sl N1 N6 (fun i=>QHm i) Mode.full] [Qlx x_4,SI QHn]/\N6<=9223372036854775807)/\∀(y:Unit),True->Qh x n/\∃(x:Nd),(isN x (QlB n::QHp x_4) (QHp x_4)/\q x)/\∀(y:Unit),True->Bc (LN (QHq x_1 x_2 x_3)+LN (QHr x_4 x)<=9223372036854775807) (RT (QHq x_1 x_2 x_3++QHr x_4 x=QF n))))))))))) (ifB (K5 n==16) (SM x/\∃(x:Unit),(wkL [YM n,D.sl N1 (3:Nat) (fun i=>QHs i) Mode.full] [YM n,SI QHt]/\(3:Nat)<=9223372036854775807/\LN (QHu n)<=20000000000000)/\∀(y:Unit),True->RT (QHu n=QF n)) (ifB (K5 n==10) (SM x/\∃(x:Unit),(wkL (QHw n) (QHw n)/\K5 n=10/\QHy n<=20000000000000)/\∀(y:Unit),True->Bc (N2+QHy n<=9223372036854775807) (Bc (LN ((123:UInt8)::(32:UInt8)::QHz n)+N2<=9223372036854775807) (RT ((123:UInt8)::(32:UInt8)::List.append (QHz n) [(32:UInt8),(125:UInt8)]=QF n)))) (SM x/\∃(x:Unit),isN2 n [D.agg (Nd.row2 n)] []/\∀(y:Unit),True->RT (W0 n=QF n))))))))) (by kernel_rfl) ?_
 delta DA GI LI LN N0 N1 N2 N4 N6 SI SM Z0 Z1 ZI K5 VJ QF Qw K6 QeH HM Qlw QGU Qlx QGV QGW QGX Qh QGY QeI QGZ Vh Qly QG0 Qlz K7 YM HN QG4 QG5 QlA QG6 QG7 QG8 QG9 QHa QHb Qlv QHc QHe K8 QlB QGN QHi QHj QHk QHl QHm QHn QHo QHp QHq QHr QGO QHs QHt QHu QlC QHv QHw QHx QHy QHz QGP QGQ RT
 try simp only[<- dm]
 try simp only[<- dn]
 simp only[ne_eq,Bf,Bd,true_and,and_true,beq_iff_eq,beq_eq_false_iff_ne,exists_const,forall_const]
 have i1:Bj 1 (fun i=>[[D.int IntKind.i64 16]].getD i [])=[16]:=rfl
 have i2:Bj 2 (fun i=>[[D.int IntKind.i64 4],[D.int IntKind.i64 5]].getD i [])=[4,5]:=rfl
 have i3:∀a b c:Int,Bj 3 (fun i=>[[D.int IntKind.i64 a],[D.int IntKind.i64 b],[D.int IntKind.i64 c]].getD i [])=[a,b,c]:=fun _ _ _=>rfl
 have i6:Bj 6 (fun i=>[[D.int IntKind.i64 16],[D.int IntKind.i64 14],[D.int IntKind.i64 15],[D.int IntKind.i64 3],[D.int IntKind.i64 4],[D.int IntKind.i64 5]].getD i [])=[16,14,15,3,4,5]:=rfl
 have p1:IntsP 1 (fun i=>[[D.int IntKind.i64 16]].getD i []):=fun i hi=>by
  match i,hi with
  |0,_=>rfl
 have p2:IntsP 2 (fun i=>[[D.int IntKind.i64 4],[D.int IntKind.i64 5]].getD i []):=fun i hi=>by
  match i,hi with
  |0,_=>rfl
  |1,_=>rfl
 have p3:∀a b c:Int,IntsP 3 (fun i=>[[D.int IntKind.i64 a],[D.int IntKind.i64 b],[D.int IntKind.i64 c]].getD i []):=fun _ _ _ i hi=>by
  match i,hi with
  |0,_=>rfl
  |1,_=>rfl
  |2,_=>rfl
 have p6:IntsP 6 (fun i=>[[D.int IntKind.i64 16],[D.int IntKind.i64 14],[D.int IntKind.i64 15],[D.int IntKind.i64 3],[D.int IntKind.i64 4],[D.int IntKind.i64 5]].getD i []):=fun i hi=>by
  match i,hi with
  |0,_=>rfl
  |1,_=>rfl
  |2,_=>rfl
  |3,_=>rfl
  |4,_=>rfl
  |5,_=>rfl
 obtain ⟨L2,L3,_⟩:=II hv
 have kq:∀i,i<n.ki.length->q (n.ki.getD i default):=fun i hi=>hq _ (BX hi)
 have wl:∀(ks:List Int) (b:Nd),q b->(BB ks b).length<=20000000000004:=fun ks b hb=>by
  have h1:=CU ks b.kd (Bv b)
  have h2:=(h b hb).2
  unfold BB
  omega
 have sg:∀i,i<n.ki.length->(BZ n.ki).getD i []=Bv (n.ki.getD i default):=fun i hi=>I2 hi
 have hlen:=Ev n hv ho
 refine⟨fun k=>?_,fun n3=>⟨fun k=>?_,fun n4=>⟨fun k=>?_,fun n5=>⟨fun k=>?_,fun n14=>⟨fun k=>?_,fun n15=>⟨fun k=>?_,fun n16=>⟨fun k=>?_,fun n10=>⟨CJ n _,Bia hv n3 n4 n5 n14 n15 n16 n10⟩⟩⟩⟩⟩⟩⟩⟩
 ·rw[CR] at hlen ⊢
  simp only[k] at hlen ⊢
  exact⟨⟨Tl (p3 _ _ _),by omega,by rw[i3];simp at hlen;omega⟩,by rw[i3];simp⟩
 ·have hL:n.ki.length=2:=L2 (.inl k)
  have q0:=kq 0 (by omega)
  have q1:=kq 1 (by omega)
  have r0:=(h _ q0).2
  have r1:=(h _ q1).2
  have w0:=wl [16] _ q0
  have e:Bv n=BB [16] (n.ki.getD 0 default)++[32]++Bv (n.ki.getD 1 default):=by
   rw[CR]
   simp only[k]
   rw[sg 0 (by omega),sg 1 (by omega)]
   rfl
  have pw:=Gf [16] (n.ki.getD 0 default)
  rw[e]
  refine⟨⟨by omega,by omega⟩,⟨by omega,by omega⟩,⟨by omega,by omega⟩,n.ki.getD 0 default,⟨Cj (r:=(n.ki.getD 0 default).row1) p1,by omega⟩,n.ki.getD 0 default,⟨Bl _ _,q0⟩,?_,n.ki.getD 1 default,⟨Bl _ _,q1⟩,?_,?_⟩
  all_goals rw[i1,pw]
  all_goals first
   |omega
   |(simp only[List.length_append,List.length_cons,List.length_nil];omega)
 ·have hL:n.ki.length=3:=L3 (.inl k)
  have q0:=kq 0 (by omega)
  have q1:=kq 1 (by omega)
  have q2:=kq 2 (by omega)
  have r2:=(h _ q2).2
  have w0:=wl [16] _ q0
  have w1:=wl [4,5] _ q1
  have e:Bv n=BB [4,5] (n.ki.getD 1 default)++[32]++BB [16] (n.ki.getD 0 default)++[32]++Bv (n.ki.getD 2 default):=by
   rw[CR]
   simp only[k]
   rw[sg 0 (by omega),sg 1 (by omega),sg 2 (by omega)]
   rfl
  have pw:=Gf [16] (n.ki.getD 0 default)
  have pw2:=Gf [4,5] (n.ki.getD 1 default)
  rw[e]
  refine⟨⟨by omega,by omega⟩,⟨by omega,by omega⟩,⟨by omega,by omega⟩,⟨by omega,by omega⟩,⟨by omega,by omega⟩,n.ki.getD 1 default,⟨Cj (r:=(n.ki.getD 1 default).row1) p2,by omega⟩,n.ki.getD 1 default,⟨Bl _ _,q1⟩,?_,n.ki.getD 0 default,⟨Cj (r:=(n.ki.getD 0 default).row1) p1,by omega⟩,n.ki.getD 0 default,⟨Bl _ _,q0⟩,?_,?_,n.ki.getD 2 default,⟨Bl _ _,q2⟩,?_,?_⟩
  all_goals rw[i2,pw2]
  all_goals try rw[i1,pw]
  all_goals first
   |omega
   |(simp only[List.length_append,List.length_cons,List.length_nil];omega)
 ·have hL:n.ki.length=2:=L2 (.inr k)
  have q0:=kq 0 (by omega)
  have q1:=kq 1 (by omega)
  have r0:=(h _ q0).2
  have w1:=wl [16] _ q1
  have e:Bv n=BB [16] (n.ki.getD 1 default)++[32]++Bv (n.ki.getD 0 default):=by
   rw[CR]
   simp only[k]
   rw[sg 0 (by omega),sg 1 (by omega)]
   rfl
  have pw:=Gf [16] (n.ki.getD 1 default)
  rw[e]
  refine⟨⟨by omega,by omega⟩,⟨by omega,by omega⟩,⟨by omega,by omega⟩,n.ki.getD 1 default,⟨Cj (r:=(n.ki.getD 1 default).row1) p1,by omega⟩,n.ki.getD 1 default,⟨Bl _ _,q1⟩,?_,n.ki.getD 0 default,⟨Bl _ _,q0⟩,?_,?_⟩
  all_goals rw[i1,pw]
  all_goals first
   |omega
   |(simp only[List.length_append,List.length_cons,List.length_nil];omega)
 ·have hL:n.ki.length=3:=L3 (.inr k)
  have q0:=kq 0 (by omega)
  have q1:=kq 1 (by omega)
  have q2:=kq 2 (by omega)
  have r0:=(h _ q0).2
  have w1:=wl [16] _ q1
  have w2:=wl [3,4,5,16,14,15] _ q2
  have e:Bv n=BB [16] (n.ki.getD 1 default)++[32]++Bv (n.ki.getD 0 default)++[32]++BB [3,4,5,16,14,15] (n.ki.getD 2 default):=by
   rw[CR]
   simp only[k]
   rw[sg 0 (by omega),sg 1 (by omega),sg 2 (by omega)]
   rfl
  have pw:=Gf [16] (n.ki.getD 1 default)
  have pw2:=Gf [16,14,15,3,4,5] (n.ki.getD 2 default)
  rw[Bii] at pw2
  rw[e]
  refine⟨⟨by omega,by omega⟩,⟨by omega,by omega⟩,⟨by omega,by omega⟩,⟨by omega,by omega⟩,⟨by omega,by omega⟩,n.ki.getD 1 default,⟨Cj (r:=(n.ki.getD 1 default).row1) p1,by omega⟩,n.ki.getD 1 default,⟨Bl _ _,q1⟩,?_,n.ki.getD 0 default,⟨Bl _ _,q0⟩,?_,?_,n.ki.getD 2 default,⟨Cj (r:=(n.ki.getD 2 default).row1) p6,by omega⟩,n.ki.getD 2 default,⟨Bl _ _,q2⟩,?_,?_⟩
  all_goals rw[i1,pw]
  all_goals try rw[i6,pw2]
  all_goals first
   |omega
   |(simp only[List.length_append,List.length_cons,List.length_nil];omega)
 ·rw[CR] at hlen ⊢
  simp only[k] at hlen ⊢
  rw[i3,Bfc]
  exact⟨⟨Tl (p3 _ _ _),by omega,by simp at hlen;omega⟩,by simp⟩
 ·rw[CR] at hlen ⊢
  simp only[k] at hlen ⊢
  simp at hlen
  repeat' (first | exact Be _ | exact k | refine And.intro ?_ ?_)
  all_goals first
   |omega
   |(simp only[List.length_cons];omega)
   |(simp;omega)
   |(simp;done)
theorem BaX(n:Nd)(hv:Bz n=true)(ho:n.ok)(hn:n.sm)(hz:szN n<=16384):RRShow n:=by
 have hl:=Ev n hv ho
 refine⟨Bja n RRShow hv ho hn hz (fun _ h=>h) (fun b hb=>?_) (fun hk s hs=>?_),by omega⟩
 ·have:=ED (BS hb)
  exact BaX b ((EI hv).1 b hb) (M8 ho b hb) (EW hn (BS hb)) (by omega)
 ·have h1:=hv
  rw[CH,Bool.and_eq_true,if_pos hk,Bool.and_eq_true] at h1
  have hb:=h1.2.2
  unfold BP at hb
  rw[Bool.and_eq_true] at hb
  obtain ⟨q1,q2⟩:=Ep hb.2 s hs
  have o:=Cq (GM ho s hs)
  have m:=Cl (GC hn s hs)
  have i1:s.nd∈BK n:=List.mem_append.2 (.inr (List.mem_flatMap.2 ⟨s,hs,by unfold Bq;split<;>simp⟩))
  have z1:=ED i1
  refine⟨BaX s.nd q1 o.2 m.2 (by omega),fun h3=>?_,Bob (GC hn s hs)⟩
  have i2:s.te∈BK n:=List.mem_append.2 (.inr (List.mem_flatMap.2 ⟨s,hs,by unfold Bq;rw[if_pos h3];simp⟩))
  have z2:=ED i2
  have hv2:Bz s.te=true:=by
   rcases q2 with ⟨_,q,_⟩ | ⟨q,_⟩
   ·exact q
   ·exact (q h3).elim
  exact BaX s.te hv2 o.1 m.1 (by omega)
termination_by szN n
decreasing_by all_goals omega
def BiN(n:Nd):Con:=fun k ds S=>match k with
 |114=>some (pA ds S (.str (Bv n)) (isN n ds []/\BU n=0))
 |k=>BeM n k ds S
noncomputable def Ersw(n:Nd):Senv:={ EC (BiN n) 18 3 [15] (fun _=>([],[])) with mg:=fun _=>2 }
def QlE(a:Nd):D:=D.agg (Nd.rowE a)
def QlF(a:Nd):Prop:=True/\∃(_y:Unit),True/\Cw (List UInt8) [] (Eu a)/\True/\True
def QHD(a:Nd):Prop:=isN a [QlE a] []
theorem Bns(n:Nd)(ho:n.ok)(hn:n.sm):CD 93 [.agg n.row1] (.str (Eu n)):=by
 refine Bg (A:=sC _ _) (x:=()) (E:=Ersw n) (eOk ?_ rfl) Tryz.func93 rfl (by kernel_rfl) rfl (by simp[sC,Ersw,EC,E0]) ?_
 ·intro k ds S A hh
  unfold BiN at hh
  split at hh
  ·injection hh with hh;subst hh
   refine Bo fun ⟨e,h0⟩=>?_
   obtain ⟨_,h2,h3⟩:=BY.1 h0
   exact CD.at_ (CD.isN (BaX n h3 ho hn h2).1 e) _
  ·exact Biq ho hn _ _ _ _ hh
 refine Bi (T :=
  ∀(x:Nat),True->SM x/\∃(x_1:Unit),isN n [QlE n,ZI 60] [ZI 60]/\∀(y:Unit),True->ifB (decide ((60:Int)<GV (dpN n) (60:Int))) (QlF n) (SM x/\∃(x_2:Unit),isN n [QlE n,ZI 16384] [ZI 16384]/\∀(y:Unit),True->ifB (decide ((16384:Int)<BT (szN n) (16384:Int))) (QlF n) (SM x/\∃(x_3:Unit),QHD n/\∀(y:Unit),True->ifB (!Bz n) (QlF n) (SM x/\∃(x:Unit),(QHD n/\BU n=Z0)/\∀(y:Unit),True->RT (Bv n=Eu n))))) (by kernel_rfl) ?_
 delta DA GI LN N1 N4 SI SM Z0 ZI QlE QlF QHD RT
 try simp only[<- dm]
 try simp only[<- dn]
 simp only[Bf,decide_eq_true_eq,decide_eq_false_iff_not,true_and,and_true,Bool.not_eq_true',Bool.not_eq_false',exists_const,forall_const]
 simp only[BjK,BaO]
 unfold Eu
 refine⟨Bl _ _,fun h=>?_,fun h=>⟨Bl _ _,fun h2=>?_,fun h2=>⟨Bl _ _,fun h3=>?_,fun h3=>?_⟩⟩⟩
 ·exact (if_neg (fun e=>by have:=(BY.1 e).1;omega)).symm
 ·exact (if_neg (fun e=>by have:=(BY.1 e).2.1;omega)).symm
 ·exact (if_neg (fun e=>by have:=(BY.1 e).2.2;rw[h3] at this;cases this)).symm
 ·have e:BU n=0:=BY.2 ⟨by omega,by omega,h3⟩
  rw[if_pos e]
  exact⟨⟨Bl _ _,e⟩,rfl⟩
end
end Go.Proofs.YtnlplccjbojloaaGreatDoor
