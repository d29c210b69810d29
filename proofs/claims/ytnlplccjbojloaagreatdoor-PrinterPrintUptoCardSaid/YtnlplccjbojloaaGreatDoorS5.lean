/- Functions of the given program and what each of them computes: lemmas towards the statement, their conditions stated with each of them. -/
import Derived.Test.YtnlplccjbojloaaGreatDoorS4
namespace Go.Proofs.YtnlplccjbojloaaGreatDoor
open Go Go.Ab
set_option maxRecDepth 100000
noncomputable section
def ptB(l:List Sm):List Pt:=ptJ (l.map ptM)
theorem Bdz{α:Type}[Inhabited α](f:α->List Pt){l:List α}{i:Nat}(h:i<l.length):ptJ ((l.take (i+1)).map f)=ptJ ((l.take i).map f)++((if 0<i then [.sp] else [])++f (l.getD i default)):=by
 rw[B6 h,List.map_append]
 generalize l.getD i default=x
 cases hl:l.take i with
 |nil =>
  have:i=0:=by
   have:=congrArg List.length hl
   rw[List.length_take,List.length_nil] at this
   omega
  subst this
  simp[ptJ]
 |cons y r =>
  have:0<i:=by
   rcases Nat.eq_zero_or_pos i with rfl | h0
   ·simp at hl
   ·exact h0
  rw[if_pos this]
  simp[ptJ]
structure PrR (l:List Sm):Prop where
 hl:l.length<=1000
 hd:dpB l<=60
 hz:szB l<=16384
 hv:BP false l=true
theorem Gz{l:List Sm}(h:B2 l=0):PrR l:=by
 unfold B2 at h
 split at h
 ·omega
 split at h
 ·omega
 split at h
 ·omega
 split at h
 ·rename_i a b c d
  rw[Bool.and_eq_true] at d
  exact⟨by omega,by omega,by omega,d.1⟩
 ·omega
theorem Bmm{l:List Sm}{s:Sm}(h:s∈l):dpM s<=dpB l:=by
 induction l with
 |nil=>cases h
 |cons x r ih =>
  simp only[dpB]
  rcases List.mem_cons.1 h with rfl | h
  ·omega
  ·have:=ih h;omega
theorem Bfo{l:List Sm}{s:Sm}(h:s∈l):szM s<=szB l:=by
 induction l with
 |nil=>cases h
 |cons x r ih =>
  simp only[szB]
  rcases List.mem_cons.1 h with rfl | h
  ·omega
  ·have:=ih h;omega
theorem UP{l:List Sm}(h:PrR l){s:Sm}(hs:s∈l):Bz s.nd=true/\BU s.nd=0/\s.kd≠3/\(s.kd=2->Ce s.nm=true):=by
 have hb:=h.hv
 unfold BP at hb
 rw[Bool.and_eq_true] at hb
 obtain ⟨q1,q2⟩:=Em hb.2 s hs
 obtain ⟨names,hst⟩:=MW hb.2 s hs
 have hd:=Bmm hs
 have hz:=Bfo hs
 have k3:s.kd≠3:=by
  rcases q2 with ⟨_,_,g⟩ | ⟨k,_⟩
  ·cases g
  ·exact k
 have e1:dpM s=dpN s.nd:=by
  cases s with
  |mk kd at_ nm sl te nd=>simp only[dpM];exact if_neg k3
 have e2:szM s=szN s.nd:=by
  cases s with
  |mk kd at_ nm sl te nd=>simp only[szM];exact if_neg k3
 have:=h.hd
 have:=h.hz
 refine⟨q1,BV.2 ⟨by omega,by omega,q1⟩,k3,fun k2=>?_⟩
 rw[GE,Bool.and_eq_true,if_neg (by omega),if_pos k2] at hst
 simp only[Bool.and_eq_true] at hst
 exact hst.2.1.1.1.1
theorem okM{l:List Sm}(h:PrR l)(ho:∀s∈l,s.ok){s:Sm}(hs:s∈l):∀p∈ptM s,okP p:=by
 obtain ⟨q1,_,k3,k2⟩:=UP h hs
 have hn:=okN s.nd q1 (Cq (ho s hs)).2
 rw[IE]
 split
 ·rename_i c2
  intro p hp
  simp only[List.mem_cons] at hp
  rcases hp with rfl | rfl | hp
  ·exact T2 (k2 c2)
  ·exact Ew (by simp) (by decide) (by decide)
  ·exact hn p hp
 ·first
   |exact hn
   |(rw[if_neg k3];exact hn)
theorem okB{l:List Sm}(h:PrR l)(ho:∀s∈l,s.ok):∀p∈ptB l,okP p:=okJ fun x hx=>by
 obtain ⟨s,hs,rfl⟩:=List.mem_map.1 hx
 exact okM h ho hs
theorem Bpi(l:List Sm):ID (ptB l):=Bn5 fun x hx=>by
 obtain ⟨s,_,rfl⟩:=List.mem_map.1 hx
 exact balM s
def UC:Pt->Bool
 |.op=>true
 |.sp=>true
 |_=>false
def nbP(ps:List Pt):Nat:=ps.countP UC
theorem Cw(a b:List Pt):nbP (a++b)=nbP a+nbP b:=by unfold nbP;rw[List.countP_append]
theorem Bd8(ks:List Int)(k:Int)(l:List Pt):nbP (ptW ks k l)=nbP l:=by
 unfold ptW
 split
 ·have e:Pt.tx [40]::(l++[.tx [41]])=[.tx [40]]++(l++[.tx [41]]):=rfl
  rw[e,Cw,Cw]
  simp[nbP,UC]
 ·rfl
theorem nb_J{α:Type}(f:α->List Pt)(g:α->Nat):∀l:List α,(∀x∈l,nbP (f x)+1<=2*g x)->nbP (ptJ (l.map f))<=2*(l.map g).sum
 | [],_=>by simp[ptJ,nbP]
 |x::r,h=>by
  have hx:=h x (by simp)
  have key:∀r:List α,(∀x∈r,nbP (f x)+1<=2*g x)->nbP ((r.map f).flatMap fun y=>.sp::y)<=2*(r.map g).sum:=by
   intro r
   induction r with
   |nil=>intro _;simp[nbP]
   |cons y r ih =>
    intro hr
    have hy:=hr y (by simp)
    have:=ih fun z hz=>hr z (by simp[hz])
    rw[List.map_cons,List.flatMap_cons,List.map_cons,List.sum_cons]
    have e:Pt.sp::f y=[.sp]++f y:=rfl
    rw[e,Cw,Cw]
    have e1:nbP [.sp]=1:=rfl
    omega
  have:=key r fun z hz=>h z (by simp[hz])
  rw[List.map_cons,ptJ,Cw,List.map_cons,List.sum_cons]
  omega
theorem Bbm:∀l:List Sm,szB l=(l.map szM).sum
 | []=>by simp[szB]
 |s::r=>by simp only[szB,List.map_cons,List.sum_cons,Bbm r]
theorem Bbx(ks:List Int):∀l:List Nd,(∀x∈l,nbP (ptN x)+1<=2*szN x)->nbP (l.flatMap (BR ks))<=2*szL l
 | [],_=>by simp[nbP]
 |x::r,h=>by
  have:=Bbx ks r fun y hy=>h y (by simp[hy])
  have hx:=h x (by simp)
  have e:nbP (BR ks x)=nbP (ptN x):=by unfold BR;rw[Bd8]
  rw[List.flatMap_cons,Cw,e]
  simp only[szL]
  omega
theorem BoL(l:List Nd)(h:∀x∈l,nbP (ptN x)+1<=2*szN x):nbP ((ptL l).getD 0 [])+nbP ((ptL l).getD 1 [])+nbP ((ptL l).getD 2 [])<=2*szL l:=by
 rcases l with _ | ⟨a,_ | ⟨b,_ | ⟨c,r⟩⟩⟩
 ·simp[ptL,nbP]
 ·have ha:=h a (by simp)
  simp only[ptL,szL,List.getD_cons_zero,List.getD_cons_succ,List.getD_nil]
  have:nbP []=0:=rfl
  omega
 ·have ha:=h a (by simp)
  have hb:=h b (by simp)
  simp only[ptL,szL,List.getD_cons_zero,List.getD_cons_succ,List.getD_nil]
  have:nbP []=0:=rfl
  omega
 ·have ha:=h a (by simp)
  have hb:=h b (by simp)
  have hc:=h c (by simp)
  simp only[ptL,szL,List.getD_cons_zero,List.getD_cons_succ]
  omega
theorem nbN(n:Nd):nbP (ptN n)+1<=2*szN n:=by
 have kk:∀x∈n.ki,nbP (ptN x)+1<=2*szN x:=fun x hx=>nbN x
 have hg:=BoL n.ki kk
 have hz:=BaW n
 rw[Gj]
 split
 ·have:=Bbx [3,4,5] n.ki kk;omega
 split
 ·rw[Cw,Bd8];omega
 split
 ·rw[Cw,Cw,Bd8,Bd8];omega
 split
 ·have:=Bbx [4,5,16] n.ki kk;omega
 split
 ·rw[Cw,Bd8];omega
 split
 ·rw[Cw,Cw,Bd8,Bd8];omega
 split
 ·have st:∀s∈n.bo,nbP (ptM s)+1<=2*szM s:=fun s hs=>by
   have z1:=Nd.size_stmt hs
   have z2:=Sm.size_nd s
   have z3:=Sm.size_te s
   have h1:=nbN s.nd
   have h2:=nbN s.te
   rw[IE,TV]
   by_cases c2:s.kd=2
   ·rw[if_pos c2,if_neg (by omega)]
    have e:Pt.tx s.nm::.tx [60,45]::ptN s.nd=[.tx s.nm,.tx [60,45]]++ptN s.nd:=rfl
    rw[e,Cw]
    have:nbP [.tx s.nm,.tx [60,45]]=0:=by simp[nbP,UC]
    omega
   ·rw[if_neg c2]
    split
    ·have e:ptN s.te++(Pt.tx [58]::ptN s.nd)=ptN s.te++([.tx [58]]++ptN s.nd):=rfl
     rw[e,Cw,Cw]
     have:nbP [.tx [58]]=0:=by simp[nbP,UC]
     omega
    ·exact h1
  have hj:=nb_J ptM szM n.bo st
  rw[<- Bbm] at hj
  have e:Pt.op::(ptJ (n.bo.map ptM)++[.cl])=[.op]++(ptJ (n.bo.map ptM)++[.cl]):=rfl
  rw[e,Cw,Cw]
  have e1:nbP [.op]=1:=rfl
  have e2:nbP [.cl]=0:=rfl
  omega
 ·have:nbP [.tx (Bt n)]=0:=by simp[nbP,UC]
  have:=BaR n
  omega
termination_by SizeOf.sizeOf n
decreasing_by
 ·exact Nd.size_kid hx
 ·omega
 ·omega
theorem nbM(s:Sm):nbP (ptM s)+1<=2*szM s:=by
 have h1:=nbN s.nd
 have h2:=nbN s.te
 rw[IE,TV]
 by_cases c2:s.kd=2
 ·rw[if_pos c2,if_neg (by omega)]
  have e:Pt.tx s.nm::.tx [60,45]::ptN s.nd=[.tx s.nm,.tx [60,45]]++ptN s.nd:=rfl
  rw[e,Cw]
  have:nbP [.tx s.nm,.tx [60,45]]=0:=by simp[nbP,UC]
  omega
 ·rw[if_neg c2]
  split
  ·have e:ptN s.te++(Pt.tx [58]::ptN s.nd)=ptN s.te++([.tx [58]]++ptN s.nd):=rfl
   rw[e,Cw,Cw]
   have:nbP [.tx [58]]=0:=by simp[nbP,UC]
   omega
  ·exact h1
theorem nbB(l:List Sm):nbP (ptB l)<=2*szB l:=by
 rw[Bbm]
 exact nb_J ptM szM l fun s _=>nbM s
theorem Bjl:∀(ps:List Pt) (a:Int),lvL a ps<=a+nbP ps
 | [],a=>by simp[lvL,nbP]
 |p::r,a=>by
  have:=Bjl r (lvP a p)
  have e:lvL a (p::r)=lvL (lvP a p) r:=rfl
  have e2:Pt.op::r=[.op]++r:=rfl
  cases p<;>simp only[lvP,nbP,List.countP_cons,UC] at this e ⊢<;>simp at this ⊢<;>omega
theorem BbP(ps:List Pt)(i:Nat):nbP (ps.take i)<=nbP ps:=by
 have h:=Cw (ps.take i) (ps.drop i)
 rw[List.take_append_drop] at h
 omega
def IP(ps:List Pt):Nat:=(ps.map fun p=>(prT p).length+1).sum
theorem Bi1(ps:List Pt)(i:Nat):IP (ps.take i)<=IP ps:=by
 have h:IP ps=IP (ps.take i)+IP (ps.drop i):=by
  unfold IP
  rw[<- List.sum_append,<- List.map_append,List.take_append_drop]
 omega
theorem Ud(ps:List Pt):IP ps<=(txP ps).length+1:=by
 cases ps with
 |nil=>simp[IP]
 |cons p r =>
  unfold txP
  rw[List.map_cons,B7]
  have key:∀r:List Pt,(r.map fun p=>(prT p).length+1).sum=(jT [32] (r.map prT)).length:=by
   intro r
   induction r with
   |nil=>rfl
   |cons q r ih =>
    have e:(jT [32] (prT q::r.map prT)).length=1+(prT q).length+(jT [32] (r.map prT)).length:=by
     simp[jT];omega
    rw[List.map_cons,List.sum_cons,ih,List.map_cons,e]
    omega
  have:=key r
  unfold IP
  rw[List.map_cons,List.sum_cons,this,List.length_append]
  omega
theorem BgN(cmp:Bool)(ps:List Pt)(M:Nat)(hM:nbP ps<=M):∀i,i<=ps.length->(wrF cmp (ps.take i)).1.length<=IP (ps.take i)+nbP (ps.take i)*(1+2*M)
 |0,_=>by simp[wrF]
 |i+1,h=>by
  have hi:i<ps.length:=by omega
  have ih:=BgN cmp ps M hM i (by omega)
  obtain ⟨a1,a2⟩:=GX cmp ps i (by omega)
  have hl:=Bjl (ps.take i) 0
  have ht:=BbP ps i
  have e1:IP (ps.take (i+1))=IP (ps.take i)+((prT (ps.getD i .sp)).length+1):=by
   unfold IP
   rw[List.take_add_one,List.getElem?_eq_getElem hi,List.map_append,List.sum_append,List.getD_eq_getElem?_getD,List.getElem?_eq_getElem hi]
   simp
  have e2:nbP (ps.take (i+1))=nbP (ps.take i)+(if UC (ps.getD i .sp) then 1 else 0):=by
   have e5:∀p:Pt,nbP [p]=if UC p then 1 else 0:=fun p=>by cases p<;>rfl
   rw[List.take_add_one,List.getElem?_eq_getElem hi,Cw,List.getD_eq_getElem?_getD,List.getElem?_eq_getElem hi]
   exact congrArg _ (e5 _)
  rw[IU cmp hi,e1,e2]
  unfold wrS
  split
  ·rename_i hs
   have e3:UC (ps.getD i .sp)=true:=by
    cases hq:ps.getD i .sp<;>rw[hq] at hs<;>first | rfl | cases hs
   have e4:(prT (ps.getD i .sp)).length=1:=by
    cases hq:ps.getD i .sp<;>rw[hq] at hs<;>first | rfl | cases hs
   rw[e3,if_pos rfl,Nat.add_mul,e4]
   have:((bif cmp then [59] else Gi (wrF cmp (ps.take i)).2.2):List UInt8).length<=1+2*M:=by
    cases cmp
    ·simp only[cond_false,Gi,List.length_cons,List.length_replicate]
     rw[a1];omega
    ·simp only[cond_true,List.length_cons,List.length_nil];omega
   simp only[List.length_append]
   omega
  ·have:(blB cmp (wrF cmp (ps.take i)).2.1 (prT (ps.getD i .sp))).length<=1:=by
    unfold blB
    cases (!(wrF cmp (ps.take i)).2.1.isEmpty&&(!cmp||Ea (wrF cmp (ps.take i)).2.1 (prT (ps.getD i .sp))))<;>simp
   simp only[List.length_append]
   have:nbP (ps.take i)*(1+2*M)<=(nbP (ps.take i)+if UC (ps.getD i .sp)=true then 1 else 0)*(1+2*M):=Nat.mul_le_mul_right _ (Nat.le_add_right _ _)
   omega
theorem BbT{l:List Sm}(h:PrR l)(ho:∀s∈l,s.ok):(txP (ptB l)).length<=3300000000000:=by
 have st:∀s∈l,(txP (ptM s)).length+60<=200000000*szM s/\ptM s≠[]:=fun s hs=>by
  obtain ⟨q1,_,k3,k2⟩:=UP h hs
  have hl:=Ev s.nd q1 (Cq (ho s hs)).2
  have ht:=Ww s.nd q1
  rw[TV,if_neg k3,IE]
  by_cases c2:s.kd=2
  ·rw[if_pos c2]
   have hn:=(BO (k2 c2)).2.1
   rw[EX (by simp),EX ht.2,ht.1]
   refine⟨?_,by simp⟩
   simp only[List.length_append,List.length_cons,prT,List.length_nil]
   omega
  ·rw[if_neg c2,if_neg k3,ht.1]
   exact⟨by omega,ht.2⟩
 have hz:=h.hz
 cases l with
 |nil=>simp[ptB,ptJ,txP,Lib.join]
 |cons x r =>
  have key:∀r:List Sm,(∀s∈r,(txP (ptM s)).length+60<=200000000*szM s/\ptM s≠[])->∀a:List Pt,a≠[]->(txP (a++(r.map ptM).flatMap fun y=>.sp::y)).length<=(txP a).length+200000000*szB r:=by
   intro r
   induction r with
   |nil=>intro _ a _;simp
   |cons y r ih =>
    intro hr a ha
    have hy:=hr y (by simp)
    have:=ih (fun z hz=>hr z (by simp[hz])) (a++(.sp::ptM y)) (neA ha)
    rw[Ej ha (by simp),EX hy.2] at this
    simp only[List.length_append,List.length_cons,prT,List.length_nil] at this
    rw[List.map_cons,List.flatMap_cons,<- List.append_assoc]
    simp only[szB]
    omega
  have hx:=st x (by simp)
  have:=key r (fun z hz=>st z (by simp[hz])) (ptM x) hx.2
  unfold ptB
  rw[List.map_cons,ptJ]
  simp only[szB] at hz
  omega
theorem Oo{l:List Sm}(h:PrR l)(ho:∀s∈l,s.ok)(cmp:Bool)(i:Nat)(hi:i<=(ptB l).length):(wrF cmp ((ptB l).take i)).1.length<=3400000000000:=by
 have h1:=BgN cmp (ptB l) 32768 (by have:=nbB l;have:=h.hz;omega) i hi
 have h2:=Bi1 (ptB l) i
 have h3:=Ud (ptB l)
 have h4:=BbT h ho
 have h5:=BbP (ptB l) i
 have h6:=nbB l
 have h7:=h.hz
 have:nbP ((ptB l).take i)*(1+2*32768)<=32768*(1+2*32768):=Nat.mul_le_mul_right _ (by omega)
 omega
def Cl(l:List Sm):List UInt8:=if B2 l=0/\l≠[] then (wrF false (ptB l)).1++[10] else []
def EM(l:List Sm):List UInt8:=if B2 l=0 then (wrF true (ptB l)).1 else []
def RRS(a b:Nd):Prop:=CD 90 [.agg a.row2,.agg b.row2] (.bool (CY (stN a) (stN b)))
noncomputable def BiG:Con:=fun k ds S=>match k with
 |90=>some (pE (β:=Nd×Nd) ds S (fun x=>.bool (CY (stN x.1) (stN x.2))) (fun x=>wkL ds [.agg x.1.row1,.agg x.2.row1]/\RRS x.1 x.2))
 |_=>none
theorem Bj0:ConOk Tryz.prog BiG:=by
 intro k ds S A hh
 unfold BiG at hh
 split at hh
 ·injection hh with hh;subst hh
  exact Co fun x ⟨e,h1⟩=>CD.at_ (CD.wk (CD.wk h1 Blg) e) _
 ·cases hh
noncomputable def Erb(l m:List Sm):Senv:={ EC BiG 64 2 [4,5,9,63] (fun id=>match id with | 4=>([0,1,2,3,4,5,6,7,8,9,10,11,12,13,14,15,16,17,18,19,20,21,22,23,24,25,26,27,28,29,30,31,32,33,34,35,36,37,38,39,40,41,42,43,44,45,46,47,48,49,50,51],[35,49]) | _=>([],[])) with
 mg:=fun _=>2
 ann:=fun q _ S=>match q with
  |0=>some { slots:=[5],keep:=[0,1,2,3],α:=Nat,st:=fun i=>([.int .i64 i],S),inv:=fun i=>i<=l.length/\∀j,j<i->stM (l.getD j default)=stM (m.getD j default),mu:=fun i=>l.length-i }
  |_=>none }
def Hq:Arr:=DA
def Yn:Nd:=Nd.mk Z0 Z0 Z0 [] Z0 Z0 Hq [] [] Z0 Z0 Z0
def Yo:Sm:=Sm.mk Z0 Z0 [] Z0 Yn Yn
def Xr(a:List Sm)(b:Nat):Sm:=List.getD a b Yo
def QAL(a:List Sm)(b:Nat):Sm:=stM (Xr a b)
def Qj6(a:Nat)(b c:List Sm):Prop:=a<=LN b/\∀(j:Nat),j<a->QAL b j=QAL c j
def Qdq(a:List Sm)(b:Nat):Sm:=List.getD a (Int.toNat (↑b:Int)) Yo
def QAM(a:List Sm)(b:Nat):Int:=Sm.kd (Qdq a b)
def Qdr(a b:List Sm):Prop:=True/\∃(_y:Unit),True/\false=CY (List.map stM a) (List.map stM b)/\True/\True
def QAN(a:List Sm)(b:Nat):List UInt8:=Sm.nm (Qdq a b)
def KE(a:List Sm)(b:Nat):Nd:=Sm.te (Qdq a b)
def QAR(a:List Sm)(b:Nat):D:=D.agg (Nd.rowE (KE a b))
def QAS(a b:Nd):List D:=[D.agg (Nd.row1 a),D.agg (Nd.row1 b)]
def QAT(a b:Nd):Bool:=!CY (stN a) (stN b)
def KF(a:List Sm)(b:Nat):Nd:=Sm.nd (Qdq a b)
def QAX(a:List Sm)(b:Nat):D:=D.agg (Nd.rowE (KF a b))
def QQO(a:List Sm):D:=D.sl 34 (LN a) (fun i=>(Sm.row1 (Xr a i))) Mode.any
def QA4(a:List Sm):Prop:=SM (QQO a)
theorem Bjm(l m:List Sm)(he:l.length=m.length)(hl:l.length<=maxLen)(h:∀x∈l,∀y∈m,RRS x.te y.te/\RRS x.nd y.nd):CD 112 [gsl 34 Sm.row1 l,gsl 34 Sm.row1 m] (.bool (CY (l.map stM) (m.map stM))):=by
 refine Bg (A:=sC _ _) (x:=()) (E:=Erb l m) (eOk Bj0 rfl) Tryz.func112 rfl (by kernel_rfl) rfl (by simp[sC,Erb,EC,E0]) ?_
 refine Bi (T :=
  (∃(x:Nat),Qj6 x l m/\(Z0=(↑x:Int)/\True)/\True/\True)/\∀(x:Nat),Qj6 x l m->ifB (decide ((↑x:Int)<(LI l))) (Bc (Z0<=(↑x:Int)/\(↑x:Int)<(LI l)) (Bc (Z0<=(↑x:Int)/\(↑x:Int)<(LI m)) (ifB (QAM l x != QAM m x) (Qdr l m) (Bc (Z0<=(↑x:Int)/\(↑x:Int)<(LI l)) (Bc (Z0<=(↑x:Int)/\(↑x:Int)<(LI m)) (ifB (QAN l x != QAN m x) (Qdr l m) (Bc (Z0<=(↑x:Int)/\(↑x:Int)<(LI l)) (Bc (Z0<=(↑x:Int)/\(↑x:Int)<(LI m)) (∃(x_1:Nd×Nd),(wkL [QAR l x,QAR m x] (QAS x_1.1 x_1.2)/\RRS x_1.1 x_1.2)/\∀(y:Unit),True->ifB (QAT x_1.1 x_1.2) (Qdr l m) (Bc (Z0<=(↑x:Int)/\(↑x:Int)<(LI l)) (Bc (Z0<=(↑x:Int)/\(↑x:Int)<(LI m)) (∃(x_2:Nd×Nd),(wkL [QAX l x,QAX m x] (QAS x_2.1 x_2.2)/\RRS x_2.1 x_2.2)/\∀(y:Unit),True->ifB (QAT x_2.1 x_2.2) (Qdr l m) ((QA4 l/\QA4 m/\SM D.unk/\SM D.unk/\True)/\∃(y:Nat),Qj6 y l m/\LN l-y<LN l-x/\(IntKind.wrap IntKind.i64 ((↑x:Int)+Z1)=(↑y:Int)/\True)/\True/\True))))))))))))) (RT (true=CY (List.map stM l) (List.map stM m)))) (by kernel_rfl) ?_
 delta DA GI LI LN N1 N4 SI SM Z0 Z1 ZI Hq Yn KE QAR QAS QAT Yo KF QAX Xr QAL QQO QA4 Qj6 Qdq QAM Qdr QAN RT
 try simp only[<- dm]
 try simp only[<- dn]
 simp only[ne_eq,Int.toNat_natCast,Bf,Bd,decide_eq_true_eq,decide_eq_false_iff_not,true_and,and_true,bne_iff_ne,bne_eq_false_iff_eq,Bool.not_eq_true',Bool.not_eq_false',exists_const,forall_const,Prod.exists]
 have gm:∀ {i:Nat},i<l.length->i<m.length->l.getD i default∈l/\m.getD i default∈m:=fun h1 h2=>⟨by rw[List.getD_eq_getElem?_getD,List.getElem?_eq_getElem h1];exact List.getElem_mem h1,by rw[List.getD_eq_getElem?_getD,List.getElem?_eq_getElem h2];exact List.getElem_mem h2⟩
 have no:∀ {α:Type} {x y:α},CY x y=false->x≠y:=fun h e=>by rw[CV.2 e] at h;cases h
 have gmap:∀ {l:List Sm} {i:Nat},i<l.length->(l.map stM).getD i (stM default)=stM (l.getD i default):=fun h=>by simp[List.getD_eq_getElem?_getD,h]
 have neq:∀ {i:Nat},i<l.length->stM (l.getD i default)≠stM (m.getD i default)->false=CY (l.map stM) (m.map stM):=fun hi hn=>Ex fun e=>hn (by rw[<- gmap hi,<- gmap (by omega),e])
 simp only[maxLen] at hl
 refine⟨⟨0,⟨Nat.zero_le _,fun j hj=>absurd hj (by omega)⟩,rfl⟩,fun i ⟨i1,hi⟩=>⟨fun hlt=>?_,fun hge=>Bh7 ?_⟩⟩
 ·have hi1:i<l.length:=by omega
  have hi2:i<m.length:=by omega
  obtain ⟨q1,q2⟩:=h _ (gm hi1 hi2).1 _ (gm hi1 hi2).2
  have iff:=Bnr (l.getD i default) (m.getD i default)
  refine⟨⟨by omega,by omega⟩,⟨by omega,by omega⟩,fun a1=>neq hi1 fun e=>a1 (iff.1 e).1,fun a1=>⟨⟨by omega,by omega⟩,⟨by omega,by omega⟩,fun a2=>neq hi1 fun e=>a2 (iff.1 e).2.1,fun a2=>⟨⟨by omega,by omega⟩,⟨by omega,by omega⟩,(l.getD i default).te,(m.getD i default).te,⟨Be _,q1⟩,fun a3=>neq hi1 fun e=>no a3 (iff.1 e).2.2.1,fun a3=>⟨⟨by omega,by omega⟩,⟨by omega,by omega⟩,(l.getD i default).nd,(m.getD i default).nd,⟨Be _,q2⟩,?_⟩⟩⟩⟩
  have fin:CY (stN (l.getD i default).nd) (stN (m.getD i default).nd)=true->∃y,(y<=l.length/\∀(j:Nat),j<y->stM (l.getD j default)=stM (m.getD j default))/\l.length-y<l.length-i/\IntKind.i64.wrap ((i:Int)+1)=(y:Int):=fun a4 =>
   ⟨i+1,⟨hi1,fun j hj=>by
    by_cases q:j=i
    ·rw[q];exact iff.2 ⟨a1,a2,CV.1 a3,CV.1 a4⟩
    ·exact hi j (by omega)⟩,by omega,Ba (by omega) (by omega)⟩
  exact⟨fun a4=>neq hi1 fun e=>no a4 (iff.1 e).2.2.2,fin⟩
 ·refine UL (stM default) (by simpa using he) fun j hj=>?_
  have hj:j<l.length:=by simpa using hj
  rw[gmap hj,gmap (by omega)]
  exact hi j (by omega)
noncomputable def BjI(a b:Nd):Con:=fun k ds S=>match k with
 |90=>some (pE (β:=Nd×Nd) ds S (fun x=>.bool (CY (stN x.1) (stN x.2))) (fun x=>wkL ds [.agg x.1.row1,.agg x.2.row1]/\RRS x.1 x.2))
 |111=>some (pA ds S (.bool (Mi a.va b.va)) (wkL ds [.agg a.va.row1,.agg b.va.row1]))
 |112=>some (pA ds S (.bool (CY (a.bo.map stM) (b.bo.map stM))) (a.bo.length=b.bo.length/\wkL ds [gsl 34 Sm.row1 a.bo,gsl 34 Sm.row1 b.bo]))
 |_=>none
noncomputable def Ersm(a b:Nd):Senv:={ EC (BjI a b) 89 6 [64,69,83] (fun id=>match id with | 6=>([0,1,2,3,4,5,6,7,8,9,10,11],[10]) | _=>([],[])) with
 mg:=fun _=>2
 ann:=fun q _ S=>match q with
  |0=>some { slots:=[5],keep:=[0,1,2,3],α:=Nat,st:=fun i=>([.int .i64 i],S),inv:=fun i=>i<=a.ki.length/\∀j,j<i->stN (a.ki.getD j default)=stN (b.ki.getD j default),mu:=fun i=>a.ki.length-i }
  |_=>none }
def Qdw(a:Nd):Int:=Nd.kd a
def Qj7(a b:Nd):Bool:=CY (stN a) (stN b)
def Ve(a b:Nd):Prop:=True/\∃(_y:Unit),True/\false=Qj7 a b/\True/\True
def Qdx(a:Nd):Int:=Nd.cl a
def Qdy(a:Nd):List UInt8:=Nd.tx a
def Qdz(a:Nd):Int:=Nd.pr a
def QdA(a:Nd):Int:=Nd.op a
def Yp(a:Nd):Arr:=Nd.va a
def QA5(a:Nd):Int:=Arr.k (Yp a)
def QA6(a:Nd):D:=ZI (QA5 a)
def QA7(a:Nd):List Int:=Arr.sh (Yp a)
def Qj8(a:Nd):Nat:=LN (QA7 a)
def QA8(a:Nd)(b:Nat):List D:=[ZI (GI (QA7 a) b)]
def QA9(a:Nd):D:=D.sl N1 (Qj8 a) (fun i=>QA8 a i) Mode.any
def QBa(a:Nd):List Int:=Arr.nu (Yp a)
def Qj9(a:Nd):Nat:=LN (QBa a)
def QBb(a:Nd)(b:Nat):List D:=[ZI (GI (QBa a) b)]
def QBc(a:Nd):D:=D.sl N1 (Qj9 a) (fun i=>QBb a i) Mode.any
def QBd(a:Nd):List Arr:=Arr.it (Yp a)
def Qka(a:Nd):Nat:=LN (QBd a)
def Qkb:Arr:=DA
def QBe(a:Nd)(b:Nat):List D:=Arr.row (List.getD (QBd a) b Qkb)
def QBf(a:Nd):D:=D.sl N4 (Qka a) (fun i=>QBe a i) Mode.any
def QBg(a:Nd):D:=D.agg [QA6 a,QA9 a,QBc a,QBf a]
def QBh(a b:Nd):List D:=[QBg a,QBg b]
def Qkc(a:Nd):List Nd:=Nd.ki a
def Xs(a:Nd):Nat:=LN (Qkc a)
def Hr(a:Nd):Int:=(NI (Xs a))
def QdB(a:Nd):List Sm:=Nd.bo a
def Xt(a:Nd):Nat:=LN (QdB a)
def Hs:Nd:=Nd.mk Z0 Z0 Z0 [] Z0 Z0 Qkb [] [] Z0 Z0 Z0
def QBi(a:Nd)(b:Nat):Nd:=List.getD (Qkc a) b Hs
def QBj(a:Nd)(b:Nat):Nd:=stN (QBi a b)
def Qkd(a:Nat)(b c:Nd):Prop:=a<=Xs b/\∀(j:Nat),j<a->QBj b j=QBj c j
def QBk(a:Nd):Int:=Nd.at_ a
def QBl(a:Nd)(b:Nat):List D:=Nd.row1 (QBi a b)
def QBm:Sm:=Sm.mk Z0 Z0 [] Z0 Hs Hs
def QBn(a:Nd)(b:Nat):List D:=Sm.row1 (List.getD (QdB a) b QBm)
def QBo(a:Nd):Int:=Nd.de a
def QBp(a:Nd):Int:=Nd.sl a
def QBq(a:Nd):Int:=Nd.ss a
def QBr(a:Nd):Prop:=SM (Qdw a)/\SM (QBk a)/\SM (Qdx a)/\SM (Qdy a)/\SM (Qdz a)/\SM (QdA a)/\SM (QA5 a)/\(SM (Qj8 a)/\(∀(i:Nat),i<Qj8 a->SM (QA8 a i))/\True)/\(SM (Qj9 a)/\(∀(i:Nat),i<Qj9 a->SM (QBb a i))/\True)/\(SM (Qka a)/\(∀(i:Nat),i<Qka a->SM (QBe a i))/\True)/\(SM (Xs a)/\(∀(i:Nat),i<Xs a->SM (QBl a i))/\True)/\(SM (Xt a)/\(∀(i:Nat),i<Xt a->SM (QBn a i))/\True)/\SM (QBo a)/\SM (QBp a)/\SM (QBq a)/\True
def QBs(a:Nat)(b:Nd)(c:Nat)(d:Nd):Prop:=(SM a/\QBr b/\SM c/\QBr d/\True)/\True
def KI(a:Nd)(b:Nat):Nd:=List.getD (Qkc a) (Int.toNat (↑b:Int)) Hs
def QBw(a:Nd)(b:Nat):D:=D.agg (Nd.rowE (KI a b))
def Qke(a:Nd):D:=D.sl 34 (Xt a) (fun i=>QBn a i) Mode.any
def QQR(a:Nd):D:=D.agg (Nd.row2 a)
def QBx(a:Nd):Prop:=SM (QQR a)
def QBy(a b:Nd):List D:=[Qke a,Qke b]
theorem BkT(a b:Nd)(ha:a.sm/\a.va.ok)(hb:b.sm/\b.va.ok)(h1:∀x∈a.ki,∀y∈b.ki,RRS x y)(h2:∀x∈a.bo,∀y∈b.bo,RRS x.te y.te/\RRS x.nd y.nd):RRS a b:=by
 refine Bg (A:=sC _ _) (x:=()) (E:=Ersm a b) (eOk ?_ rfl) Tryz.func90 rfl (by kernel_rfl) rfl (by simp[sC,Ersm,EC,E0]) ?_
 ·intro k ds S A hh
  unfold BjI at hh
  have a1:=Cb ha.1
  split at hh
  ·injection hh with hh;subst hh
   exact Co fun x ⟨e,h1⟩=>CD.at_ (CD.wk (CD.wk h1 Blg) e) _
  ·injection hh with hh;subst hh
   refine Bo fun e=>CD.at_ (CD.wk (us:=[.agg a.va.row1,.agg b.va.row1]) ?_ e) _
   exact (BaU (q':=fun _=>True) (WG a.va b.va ha.2 hb.2)).mono fun _ _ ⟨y,q1,q2,q3⟩=>⟨(),trivial,q2,q3⟩
  ·injection hh with hh;subst hh
   exact Bo fun ⟨hl,e⟩=>CD.at_ (CD.wk (Bjm a.bo b.bo hl (Ch a1.2.2) h2) e) _
  ·cases hh
 refine Bi (T :=
  ∀(x:Nat),True->∀(x_1:Nat),x≠x_1/\True->SM x/\SM x_1/\ifB (Qdw a != Qdw b) (Ve a b) (SM x/\SM x_1/\ifB (Qdx a != Qdx b) (Ve a b) (SM x/\SM x_1/\ifB (Qdy a != Qdy b) (Ve a b) (SM x/\SM x_1/\ifB (Qdz a != Qdz b) (Ve a b) (SM x/\SM x_1/\ifB (QdA a != QdA b) (Ve a b) (SM x/\SM x_1/\∃(x_2:Unit),wkL (QBh a b) (QBh a b)/\∀(y:Unit),True->ifB (!Mi (Yp a) (Yp b)) (Ve a b) (SM x/\SM x_1/\ifB (Hr a != Hr b) (Ve a b) (SM x/\SM x_1/\ifB ((NI (Xt a)) != (NI (Xt b))) (Ve a b) ((∃(x_3:Nat),Qkd x_3 a b/\(Z0=(↑x_3:Int)/\True)/\QBs x_1 b x a)/\∀(x_3:Nat),Qkd x_3 a b->SM x/\ifB (decide ((↑x_3:Int)<Hr a)) (SM x/\Bc (Z0<=(↑x_3:Int)/\(↑x_3:Int)<Hr a) (SM x_1/\Bc (Z0<=(↑x_3:Int)/\(↑x_3:Int)<Hr b) (∃(x_4:Nd×Nd),(wkL [QBw a x_3,QBw b x_3] [D.agg (Nd.row1 x_4.1),D.agg (Nd.row1 x_4.2)]/\RRS x_4.1 x_4.2)/\∀(y:Unit),True->ifB (!Qj7 x_4.1 x_4.2) (Ve a b) ((QBx a/\QBx b/\SM (D.ref N0 x N0)/\SM (D.ref (max (N0+N1) N0) x_1 N0)/\True)/\∃(y:Nat),Qkd y a b/\Xs a-y<Xs a-x_3/\(IntKind.wrap IntKind.i64 ((↑x_3:Int)+Z1)=(↑y:Int)/\True)/\QBs x_1 b x a)))) (SM x/\SM x_1/\∃(x:Unit),(Xt a=Xt b/\wkL (QBy a b) (QBy a b))/\∀(y:Unit),True->RT (CY (List.map stM (QdB a)) (List.map stM (QdB b))=Qj7 a b))))))))))) (by kernel_rfl) ?_
 delta DA GI LN N0 N1 N4 NI SI SM Z0 Z1 ZI Qdw Qj7 Ve Qdx Qdy Qdz QdA Yp QA5 QA6 QA7 Qj8 QA8 QA9 QBa Qj9 QBb QBc QBd Qka Qkb QBe QBf QBg QBh Qkc Xs Hr QdB Xt Hs QBi QBj Qkd QBk QBl QBm QBn QBo QBp QBq QBr QBs KI QBw Qke QQR QBx QBy RT
 try simp only[<- dm]
 try simp only[<- dn]
 simp only[ne_eq,implies_true,Int.toNat_natCast,Bf,Bd,decide_eq_true_eq,decide_eq_false_iff_not,true_and,and_true,bne_iff_ne,bne_eq_false_iff_eq,Bool.not_eq_true',Bool.not_eq_false',exists_const,forall_const,Prod.exists]
 have iff:=Bgk a b
 have no:∀ {α:Type} {x y:α},CY x y=false->x≠y:=fun h e=>by rw[CV.2 e] at h;cases h
 have na:Mi a.va b.va=false->a.va≠b.va:=fun h e=>by rw[Gs.2 e] at h;cases h
 have hl:=Ch (Cb ha.1).2.1
 unfold maxLen at hl
 have gmap:∀ {l:List Nd} {i:Nat},i<l.length->(l.map stN).getD i (stN default)=stN (l.getD i default):=fun h=>by simp[List.getD_eq_getElem?_getD,h]
 refine fun u v _=>⟨fun c=>Ex fun e=>c (iff.1 e).1,fun a1=>⟨fun c=>Ex fun e=>c (iff.1 e).2.1,fun a2=>⟨fun c=>Ex fun e=>c (iff.1 e).2.2.1,fun a3=>⟨fun c=>Ex fun e=>c (iff.1 e).2.2.2.1,fun a4=>⟨fun c=>Ex fun e=>c (iff.1 e).2.2.2.2.1,fun a5=>⟨Be _,fun c=>Ex fun e=>na c (iff.1 e).2.2.2.2.2.1,fun a6=>⟨fun c=>Ex fun e=>?_,fun hk=>⟨fun c=>Ex fun e=>?_,fun hb2=>⟨⟨0,⟨Nat.zero_le _,fun j hj=>absurd hj (by omega)⟩,rfl⟩,fun i ⟨i1,hi⟩=>⟨fun hlt=>?_,fun hge=>?_⟩⟩⟩⟩⟩⟩⟩⟩⟩⟩
 ·have:=congrArg List.length (iff.1 e).2.2.2.2.2.2.1
  simp only[List.length_map] at this
  omega
 ·have:=congrArg List.length (iff.1 e).2.2.2.2.2.2.2
  simp only[List.length_map] at this
  omega
 ·have hi1:i<a.ki.length:=by omega
  have hi2:i<b.ki.length:=by omega
  refine⟨⟨by omega,by omega⟩,⟨by omega,by omega⟩,a.ki.getD i default,b.ki.getD i default,⟨Be _,h1 _ (BW hi1) _ (BW hi2)⟩,fun c=>Ex fun e=>no c ?_,fun c=>⟨i+1,⟨hi1,fun j hj=>?_⟩,by omega,Ba (by omega) (by omega)⟩⟩
  ·rw[<- gmap hi1,<- gmap hi2,(iff.1 e).2.2.2.2.2.2.1]
  ·by_cases q:j=i
   ·rw[q];exact CV.1 c
   ·exact hi j (by omega)
 ·have hki:a.ki.map stN=b.ki.map stN:=by
   refine UL (stN default) (by simp only[List.length_map];omega) fun j hj=>?_
   have hj:j<a.ki.length:=by simpa using hj
   rw[gmap hj,gmap (by omega)]
   exact hi j (by omega)
  refine⟨⟨by omega,Be _⟩,?_⟩
  exact Bco ⟨fun e=>iff.2 ⟨a1,a2,a3,a4,a5,Gs.1 a6,hki,e⟩,fun e=>(iff.1 e).2.2.2.2.2.2.2⟩
theorem BaX(a b:Nd)(ha:a.ok/\a.sm)(hb:b.ok/\b.sm):RRS a b :=
  BkT a b ⟨ha.2,OX ha.1⟩ ⟨hb.2,OX hb.1⟩ (fun x hx y hy => BaX x y ⟨Oc ha.1 x hx,EZ ha.2 (BS hx)⟩ ⟨Oc hb.1 y hy,EZ hb.2 (BS hy)⟩) fun x hx y hy =>
    ⟨BaX x.te y.te ⟨(Cq (GG ha.1 x hx)).1,(Cm (GB ha.2 x hx)).1⟩ ⟨(Cq (GG hb.1 y hy)).1,(Cm (GB hb.2 y hy)).1⟩,
     BaX x.nd y.nd ⟨(Cq (GG ha.1 x hx)).2,(Cm (GB ha.2 x hx)).2⟩ ⟨(Cq (GG hb.1 y hy)).2,(Cm (GB hb.2 y hy)).2⟩⟩
termination_by SizeOf.sizeOf a
decreasing_by
  · exact Nd.size_kid hx
  · have := Nd.size_stmt hx
    have := Sm.size_te x
    omega
  · have := Nd.size_stmt hx
    have := Sm.size_nd x
    omega
def zA:Arr:=.mk 0 [] [] []
theorem Bqq:zA.ok:=by simp[zA,Arr.ok,okL,Br,maxLen]
theorem Bg4(a:Arr):Mi a zA=Th a:=by
 cases a with
 |mk k s n i =>
  rw[Bool.eq_iff_iff,Gs]
  unfold Th
  simp[zA,Arr.k,Arr.sh,Arr.nu,Arr.it,and_assoc]
def Bpb:List D:=[.int .i64 0,.sl 1 0 (fun _=>[]) .nil,.sl 1 0 (fun _=>[]) .nil,.sl 1 0 (fun _=>[]) .nil]
theorem BmS:wkL Bpb zA.row1:=by
 simp[Bpb,zA,Arr.row1,Arr.k,Arr.sh,Arr.nu,Arr.it,isl,gsl,wkL,wkD,Bn,Bb,BG,Oa,kEq]
theorem Bpe(n:Nd):wkL [.agg n.va.row1,.agg Bpb] [.agg n.va.row1,.agg zA.row1]:=by
 simp only[wkL,wkD]
 exact⟨Be _,BmS,trivial⟩
def Blq(n:Nd):Con:=fun k ds S=>match k with
 |111=>some (pA ds S (.bool (Th n.va)) (wkL ds [.agg n.va.row1,.agg zA.row1]))
 |_=>none
theorem BkJ{n:Nd}(h:n.va.ok):ConOk Tryz.prog (Blq n):=by
 intro k ds S A hh
 unfold Blq at hh
 split at hh
 ·injection hh with hh;subst hh
  refine Bo fun e=>CD.at_ (CD.wk (us:=[.agg n.va.row1,.agg zA.row1]) ?_ e) _
  rw[<- Bg4]
  exact (BaU (q':=fun _=>True) (WG n.va zA h Bqq)).mono fun _ _ ⟨y,q1,q2,q3⟩=>⟨(),trivial,q2,q3⟩
 ·cases hh
noncomputable def Eep(n:Nd):Senv:=EC (Blq n) 64 8 [14] (fun _=>([],[]))
def QBz(a:Bool)(b:Nd)(c d e f g:Bool)(h:Nat):Prop:=ifB a (True/\∃(_y:Unit),True/\true=Ge b c d e f g a/\True/\True) (SM h/\True/\∃(_y:Unit),True/\((LI (Nd.bo b))==Z0)=Ge b c d e f g a/\True/\True)
def Ht(a:Nd)(b c d e f g:Bool):Prop:=True/\∃(_y:Unit),True/\false=Ge a b c d e f g/\True/\True
def QBA(a b:Bool)(c:Nd)(d e f g:Bool)(h:Nat):Prop:=ifB a (QBz b c d e f g a h) (SM h/\ifB ((LI (Nd.ki c))==Z0) (QBz b c d e f g a h) (Ht c d e f g a b))
def Hu(a:Nd):Arr:=Nd.va a
def QQS(a:Nd):List Int:=Arr.sh (Hu a)
def QQT(a:Nd):List Int:=Arr.nu (Hu a)
def QBB(a:Nd):List Arr:=Arr.it (Hu a)
def Yq:Arr:=DA
def QBC(a:Nd):D:=D.agg [ZI (Arr.k (Hu a)),SI (QQS a),SI (QQT a),D.sl N4 (LN (QBB a)) (fun i=>Arr.row (List.getD (QBB a) i Yq)) Mode.any]
def Qkf:D:=D.sl N1 N0 (fun _x=>[]) Mode.nil
def QQU:List Int:=Arr.sh Yq
def QQV:List Int:=Arr.nu Yq
def QBD(a b c:Bool)(d:Nd)(e f g:Bool)(h:Nat):Prop:=ifB a (QBA b c d e f g a h) (SM h/\∃(_x:Unit),wkL [QBC d,D.agg [ZI Z0,Qkf,Qkf,Qkf]] [QBC d,D.agg [ZI (Arr.k Yq),SI QQU,SI QQV,D.sl N4 (LN (Arr.it Yq)) (fun _i=>Arr.row Yq) Mode.any]]/\∀(_y:Unit),True->ifB (Th (Hu d)) (QBA b c d e f g a h) (Ht d e f g a b c))
def QBE(a b c d:Bool)(e:Nd)(f g:Bool)(h:Nat):Prop:=ifB a (QBD b c d e f g a h) (SM h/\ifB (Nd.op e==Z0) (QBD b c d e f g a h) (Ht e f g a b c d))
def QBF(a b c d e:Bool)(f:Nd)(g:Bool)(h:Nat):Prop:=ifB a (QBE b c d e f g a h) (SM h/\ifB (Nd.pr f==Z0) (QBE b c d e f g a h) (Ht f g a b c d e))
theorem Bkl(n:Nd)(h:n.va.ok)(tx pr op va ki bo:Bool):CD 106 [.agg n.row2,.bool tx,.bool pr,.bool op,.bool va,.bool ki,.bool bo] (.bool (Ge n tx pr op va ki bo)):=by
 refine Bg (A:=sC _ _) (x:=()) (E:=Eep n) (eOk (BkJ h) rfl) Tryz.func106 rfl (by kernel_rfl) rfl (by simp[sC,Eep,EC,E0]) ?_
 refine Bi (T :=
  ∀(x:Nat),True->ifB tx (QBF pr op va ki bo n tx x) (SM x/\ifB (Nd.tx n==[]) (QBF pr op va ki bo n tx x) (Ht n tx pr op va ki bo))) (by kernel_rfl) ?_
 delta DA GI LI LN N0 N1 N4 SI SM Z0 ZI QBz Ht QQU QQV QBD QBE QBF QBA Hu QQS QQT QBB Yq QBC Qkf
 try simp only[]
 try simp only[<- dn]
 simp only[ne_eq,Bf,true_and,and_true,beq_iff_eq,beq_eq_false_iff_ne,exists_const,forall_const]
 have z:∀ {α:Type} (l:List α),((l.length:Int)==0)=l.isEmpty:=fun l=>by cases l<;>simp<;>omega
 have e:(n.tx==[])=n.tx.isEmpty:=by cases n.tx<;>rfl
 have hz:=Bpe n
 unfold Ge
 repeat' (first | exact hz | exact Be _ | refine And.intro ?_ ?_ | intro _)
 all_goals clear hz
 all_goals (try simp only[z,e] at *)
 all_goals first
  |(simp_all;done)
  |(simp_all;omega)
noncomputable def Eoc2:Senv:=EC Eu 11 1 [2,8,10] (fun _=>([],[]))
def Qkg(a:Int):Bool:=bif decide (a<Z1) then true else decide ((11:Int)<a)
def Qkh(a:Int):Int:=EE a
theorem BoP(op:Int):CD 108 [.int .i64 op] (.int .i64 (EE op)):=by
 refine Bg (A:=sC _ _) (x:=()) (E:=Eoc2) (eOk BL rfl) Tryz.func108 rfl (by kernel_rfl) rfl (by simp[sC,Eoc2,EC,E0]) ?_
 refine Bi (T :=
  ifB (decide (op<Z1)) (true=Qkg op/\True) (decide ((11:Int)<op)=Qkg op/\True)/\ifB (Qkg op) (RT (Z0=Qkh op)) (ifB (decide (op<=5)) (RT ((3:Int)=Qkh op)) (RT ((4:Int)=Qkh op)))) (by kernel_rfl) ?_
 delta Z0 Z1 Qkg Qkh RT
 simp only[Bf,decide_eq_true_eq,decide_eq_false_iff_not,true_and,and_true,exists_const]
 unfold EE
 repeat' (first | refine And.intro ?_ ?_ | intro _)
 all_goals by_cases c1:op<1<;>by_cases c2:11<op<;>by_cases c3:op<=5<;>first
  |omega
  |(simp_all;done)
  |(simp_all;omega)
def I0(b:Nd):Bool:=b.kd==17&&(b.op==7||b.op==8||b.op==9)
theorem Bbp(n:Nd):IG n=if I0 (n.ki.getD 0 default)=true then 1 else 2:=by
 unfold IG I0
 simp[or_assoc]
noncomputable def Eta:Senv:=EC Eu 21 3 [] (fun _=>([],[]))
def Yr(a:Nd):Int:=Nd.op a
def QdD(a:Nd):Bool:=bif Nd.kd a==17 then bif bif Yr a==7 then true else Yr a==8 then true else Yr a==9 else false
def QBG(a:Nd):Prop:=true=QdD a/\True
theorem BpJ(n:Nd):CD 110 [.agg n.row2] (.bool (I0 n)):=by
 refine Bg (A:=sC _ _) (x:=()) (E:=Eta) (eOk BL rfl) Tryz.func110 rfl (by kernel_rfl) rfl (by simp[sC,Eta,EC,E0]) ?_
 refine Bi (T :=
  ∀(x:Nat),True->(SM x/\ifB (Nd.kd n==17) (SM x/\ifB (Yr n==7) (QBG n) (SM x/\ifB (Yr n==8) (QBG n) (SM x/\(Yr n==9)=QdD n/\True))) (false=QdD n/\True))/\RT (QdD n=I0 n)) (by kernel_rfl) ?_
 delta SM Yr QdD QBG RT
 try simp only[]
 try simp only[<- dn]
 simp only[ne_eq,Bf,true_and,and_true,beq_iff_eq,beq_eq_false_iff_ne,exists_const,forall_const]
 unfold I0
 repeat' (first | refine And.intro ?_ ?_ | intro _)
 all_goals first
  |(simp_all;done)
  |(simp_all;omega)
def Bfi(n:Nd):Con:=fun k ds S=>match k with
 |106=>match ds with
  | [_,.bool a,.bool b,.bool c,.bool d,.bool e,.bool f]=>some (pA ds S (.bool (Ge n a b c d e f)) (isN2 n ds [.bool a,.bool b,.bool c,.bool d,.bool e,.bool f]))
  |_=>none
 |107=>some (pA ds S (.int .i64 (Bu n.va).1) (wkL ds [.agg n.va.row1]))
 |68=>some (pA ds S (.bool (Ce n.tx)) (wkL ds [.str n.tx]))
 |108=>some (pA ds S (.int .i64 (EE n.op)) (wkL ds [.int .i64 n.op]))
 |_=>none
theorem Bie{n:Nd}(h:n.va.ok):ConOk Tryz.prog (Bfi n):=by
 intro k ds S A hh
 unfold Bfi at hh
 split at hh
 ·split at hh
  ·injection hh with hh;subst hh
   exact Bo fun e=>CD.at_ (CD.wk (Bkl n h _ _ _ _ _ _) e) _
  ·cases hh
 ·injection hh with hh;subst hh
  refine Bo fun e=>CD.at_ (CD.wk (CD.wk (us:=[.agg n.va.row2]) ?_ (by simp only[wkL,wkD];exact⟨GN _,trivial⟩)) e) _
  exact (Bja n.va h).mono fun _ _ ⟨y,q1,q2,q3⟩=>⟨(),trivial,q2,q3⟩
 ·injection hh with hh;subst hh
  exact Bo fun e=>CD.at_ (CD.wk (BnQ n.tx) e) _
 ·injection hh with hh;subst hh
  exact Bo fun e=>CD.at_ (CD.wk (BoP n.op) e) _
 ·cases hh
noncomputable def Erlf(n:Nd):Senv:=EC (Bfi n) 122 4 [5,6,44,63,74,93,104] (fun id=>match id with | 19=>([0,1,2,3,4,5,6,7,8,9,10,11,12,13,14,15,16],[1,5,13]) | _=>([],[]))
def QB(a:Nd):Int:=Nd.kd a
def VA(a:Nd):Int:=Nd.cl a
def QBH(a:Nd):D:=ZI (VA a)
def Qki(a:Nd):Int:=Nd.pr a
def Hv(a:Nd):Arr:=Nd.va a
def Qkj(a:Nd):Int:=Arr.k (Hv a)
def QBI(a:Nd):D:=ZI (Qkj a)
def QBJ(a:Nd):List Int:=Arr.sh (Hv a)
def QBK(a:Nd):Nat:=LN (QBJ a)
def QBL(a:Nd):D:=D.sl N1 (QBK a) (fun i=>[ZI (GI (QBJ a) i)]) Mode.any
def QQW(a:Nd):List Int:=Arr.nu (Hv a)
def QBM(a:Nd):D:=SI (QQW a)
def QBN(a:Nd):List Arr:=Arr.it (Hv a)
def QBO:Arr:=DA
def QBP(a:Nd):D:=D.sl N4 (LN (QBN a)) (fun i=>Arr.row (List.getD (QBN a) i QBO)) Mode.any
def Hw(a:Nd):D:=D.agg (Nd.row2 a)
def QBQ:List D:=[D.bool false,D.bool false,D.bool false,D.bool true,D.bool false,D.bool false]
def QBR(a:Nd):List D:=[D.agg [QBI a,QBL a,QBM a,QBP a]]
def QBS(a:Nd):Int:=(NI (QBK a))
def VB(a:Nd):Bool:=OG a
def QC(a:Nd):Prop:=True/\∃(_y:Unit),True/\false=VB a/\True/\True
def QBT(a:Nat)(b:Nd):Prop:=SM a/\ifB (QBS b==Z1) (SM a/\True/\∃(_y:Unit),True/\(Qkj b==2)=VB b/\True/\True) (QC b)
def QBU:List D:=[D.bool false,D.bool false,D.bool false]
def QBV:List D:=D.bool false::QBU
def QBW:List D:=D.bool false::QBV
def QBX:List D:=D.bool true::QBW
def QBY:List D:=D.bool false::QBW
def QBZ(a:Nd):Prop:=isN2 a (Hw a::QBY) QBY
def QB0(a:Nd):Bool:=Ge a false false false false false false
def Qkl(a:Nat)(b:Nd):Prop:=SM a/\∃(_x:Unit),QBZ b/\∀(_y:Unit),True->ifB (QB0 b) (SM a/\True/\∃(_y:Unit),True/\(VA b==Z1)=VB b/\True/\True) (QC b)
def QB1:List D:=D.bool false::D.bool true::QBV
def Qkm(a:Nat)(b:Nd):Prop:=SM a/\∃(_x:Unit),QBZ b/\∀(_y:Unit),True->ifB (QB0 b) (SM a/\True/\∃(_y:Unit),True/\(VA b==2)=VB b/\True/\True) (QC b)
def QB2:List D:=D.bool false::D.bool false::D.bool true::QBU
def QB3(a:Nd):Prop:=wkL [ZI (Nd.op a)] [ZI (Nd.op a)]
def QB4(a:Nd):Int:=EE (Nd.op a)
def Qkn(a:Nd)(b:Nat):Prop:=ifB (QB a==17) (SM b/\∃(_x:Unit),isN2 a (Hw a::QB2) QB2/\∀(_y:Unit),True->ifB (Ge a false false true false false false) (SM b/\∃(_x:Unit),QB3 a/\∀(_y:Unit),True->ifB (QB4 a != Z0) (SM b/\SM b/\∃(_x:Unit),QB3 a/\∀(_y:Unit),True->(SM b/\SM (QBH a))/\True/\∃(_y:Unit),True/\(VA a==QB4 a)=VB a/\True/\True) (QC a)) (QC a)) (QC a)
def Qko(a:Nd)(b:Nat):Prop:=ifB (QB a==9) (SM b/\∃(_x:Unit),isN2 a (Hw a::QB1) QB1/\∀(_y:Unit),True->ifB (Ge a false true false false false false) (SM b/\ifB (VA a==2) (SM b/\ifB (decide (Z1<=Qki a)) (SM b/\True/\∃(_y:Unit),True/\decide (Qki a<=55)=VB a/\True/\True) (QC a)) (QC a)) (QC a)) (ifB (QB a==11) (ifB (QB a==11) (Qkm b a) (Qkn a b)) (ifB (QB a==12) (ifB (QB a==12) (Qkm b a) (Qkn a b)) (ifB (QB a==13) (Qkm b a) (Qkn a b))))
theorem BpA(n:Nd)(h:n.va.ok):CD 88 [.agg n.row2] (.bool (OG n)):=by
 refine Bg (A:=sC _ _) (x:=()) (E:=Erlf n) (eOk (Bie h) rfl) Tryz.func88 rfl (by kernel_rfl) rfl (by simp[sC,Erlf,EC,E0]) ?_
 refine Bi (T :=
  ∀(x:Nat),True->SM x/\ifB (QB n==Z1) (SM x/\∀(x_1:Nat),x≠x_1/\True->SM x_1/\SM x/\∃(x_2:Unit),isN2 n (Hw n::QBQ) QBQ/\∀(y:Unit),True->ifB (Ge n false false false true false false) (SM x/\ifB (VA n==Z1) (SM x_1/\∃(x:Unit),wkL (QBR n) (QBR n)/\∀(y:Unit),True->ifB (Prod.fst (Bu (Hv n))==Z0) (SM x_1/\ifB (QBS n==Z0) (SM x_1/\ifB (Qkj n != (3:Int)) (RT (true=VB n)) (QBT x_1 n)) (QBT x_1 n)) (QC n)) (QC n)) (QC n)) (ifB (QB n==2) (SM x/\∃(x_1:Unit),isN2 n (Hw n::QBX) QBX/\∀(y:Unit),True->ifB (Ge n true false false false false false) (SM x/\∃(x_2:Unit),wkL [D.str (Nd.tx n)] [D.str (Nd.tx n)]/\∀(y:Unit),True->ifB (Ce (Nd.tx n)) (SM x/\ifB (decide (Z1<=VA n)) (SM x/\RT (decide (VA n<=4)=VB n)) (QC n)) (QC n)) (QC n)) (ifB (QB n==6) (ifB (QB n==6) (Qkl x n) (Qko n x)) (ifB (QB n==7) (ifB (QB n==7) (Qkl x n) (Qko n x)) (ifB (QB n==8) (Qkl x n) (Qko n x)))))) (by kernel_rfl) ?_
 delta DA GI LN N1 N4 NI SI SM Z0 Z1 ZI QB VA QBH Qki Hv Qkj QBI QBJ QBK QBL QQW QBM QBN QBO QBP Hw QBQ QBR QBS VB QC QBT QBU QBV QBW QBX QBY QBZ QB0 Qkl QB1 Qkm QB2 QB3 QB4 Qkn Qko RT
 try simp only[<- dm]
 try simp only[<- dn]
 simp only[ne_eq,Bf,decide_eq_true_eq,decide_eq_false_iff_not,true_and,and_true,beq_iff_eq,bne_iff_ne,bne_eq_false_iff_eq,beq_eq_false_iff_ne,exists_const,forall_const]
 have e2:n.va.sh.isEmpty=(n.va.sh.length==0):=by cases n.va.sh<;>rfl
 have e40:((n.va.sh.length:Int)==0)=(n.va.sh.length==0):=by rw[Bool.eq_iff_iff,beq_iff_eq,beq_iff_eq];omega
 have e41:((n.va.sh.length:Int)==1)=(n.va.sh.length==1):=by rw[Bool.eq_iff_iff,beq_iff_eq,beq_iff_eq];omega
 have self:∀a b c d e f:Bool,isN2 n [.agg n.row2,.bool a,.bool b,.bool c,.bool d,.bool e,.bool f] [.bool a,.bool b,.bool c,.bool d,.bool e,.bool f]:=fun _ _ _ _ _ _=>CJ n _
 try simp only[e40,e41]
 repeat' (first | exact self _ _ _ _ _ _ | exact Be _ | refine And.intro ?_ ?_ | intro _)
 all_goals clear self
 all_goals first
  |exact Be _
  |(exfalso;omega)
  |(simp_all[OG];done)
  |(simp_all[OG];omega)
def Bfj(n:Nd):Con:=fun k ds S=>match k with
 |106=>match ds with
  | [_,.bool a,.bool b,.bool c,.bool d,.bool e,.bool f]=>some (pA ds S (.bool (Ge n a b c d e f)) (isN2 n ds [.bool a,.bool b,.bool c,.bool d,.bool e,.bool f]))
  |_=>none
 |109=>match ds with
  | [_,.sl 1 m f _]=>some (pA ds S (.bool (Bm n (Bj m f))) (wkL ds [.agg n.row2,isl (Bj m f) .any]/\m<=maxLen))
  |_=>none
 |110=>some (pA ds S (.bool (I0 (n.ki.getD 0 default))) (isN (n.ki.getD 0 default) ds []))
 |_=>none
theorem Bhn{n:Nd}(h:n.va.ok)(hl:n.ki.length<=maxLen):ConOk Tryz.prog (Bfj n):=by
 intro k ds S A hh
 unfold Bfj at hh
 split at hh
 ·split at hh
  ·injection hh with hh;subst hh
   exact Bo fun e=>CD.at_ (CD.wk (Bkl n h _ _ _ _ _ _) e) _
  ·cases hh
 ·split at hh
  ·injection hh with hh;subst hh
   exact Bo fun ⟨e,hm⟩=>CD.at_ (CD.wk (Bpr n _ hl (by rw[BJ];exact hm)) e) _
  ·cases hh
 ·injection hh with hh;subst hh
  exact Bo fun e=>CD.at_ (CD.isN (BpJ _) e) _
 ·cases hh
def Bao(n:Nd):Bool:=Bm n (List.replicate n.ki.length 1)
theorem BcY(n:Nd):Bao n=true↔∀j,j<n.ki.length->(n.ki.getD j default).cl=1:=by
 unfold Bao Bm
 rw[UU]
 constructor
 ·intro ⟨_,h⟩ j hj
  rw[h j hj]
  simp[List.getD_eq_getElem?_getD,hj]
 ·intro h
  refine⟨by simp,fun j hj=>?_⟩
  rw[h j hj]
  simp[List.getD_eq_getElem?_getD,hj]
theorem BlI{n:Nd}(h:Ge n false false false false true false=false):false=Gk n:=by
 unfold Gk
 rw[h];rfl
theorem Bpp{n:Nd}(h:Ge n false false false false true false=true)(k:n.kd=3):Gk n=(Bao n&&n.cl==1&&decide (2<=n.ki.length)&&decide (n.ki.length<=1000)):=by
 unfold Gk Bao
 rw[h,if_pos k];rfl
noncomputable def Erin(n:Nd):Senv:={ EC (Bfj n) 119 4 [6,8,9,15,24,40,50,60,70,82,99] (fun _=>([],[])) with
 mg:=fun _=>2
 ann:=fun q _ S=>match q with
  |1=>some { slots:=[3],keep:=[0,1],α:=Nat,st:=fun i=>([.int .i64 i],S),inv:=fun i=>i<=n.ki.length/\∀j,j<i->(n.ki.getD j default).cl=1,mu:=fun i=>n.ki.length-i }
  |_=>none }
def VC(a:Nd):Int:=Nd.kd a
def QB5(a:Nd):Int:=Nd.at_ a
def QdE(a:Nd):Int:=Nd.cl a
def QB6(a:Nd):List UInt8:=Nd.tx a
def QB7(a:Nd):Int:=Nd.pr a
def QB8(a:Nd):Int:=Nd.op a
def QdF(a:Nd):Arr:=Nd.va a
def QB9(a:Nd):Int:=Arr.k (QdF a)
def QCa(a:Nd):List Int:=Arr.sh (QdF a)
def Qkp(a:Nd):Nat:=LN (QCa a)
def QCb(a:Nd)(b:Nat):List D:=[ZI (GI (QCa a) b)]
def QCc(a:Nd):List Int:=Arr.nu (QdF a)
def Qkq(a:Nd):Nat:=LN (QCc a)
def QCd(a:Nd)(b:Nat):List D:=[ZI (GI (QCc a) b)]
def QCe(a:Nd):List Arr:=Arr.it (QdF a)
def Qkr(a:Nd):Nat:=LN (QCe a)
def Qks:Arr:=DA
def QCf(a:Nd)(b:Nat):List D:=Arr.row (List.getD (QCe a) b Qks)
def QdG(a:Nd):List Nd:=Nd.ki a
def Xu(a:Nd):Nat:=LN (QdG a)
def Ys:Nd:=Nd.mk Z0 Z0 Z0 [] Z0 Z0 Qks [] [] Z0 Z0 Z0
def QCg(a:Nd)(b:Nat):Nd:=List.getD (QdG a) b Ys
def QCh(a:Nd)(b:Nat):List D:=Nd.row1 (QCg a b)
def Qkt(a:Nd):Nat:=LN (Nd.bo a)
def QCi:Sm:=Sm.mk Z0 Z0 [] Z0 Ys Ys
def QCj(a:Nd)(b:Nat):List D:=Sm.row1 (List.getD (Nd.bo a) b QCi)
def QCk(a:Nd):Int:=Nd.de a
def QCl(a:Nd):Int:=Nd.sl a
def QCm(a:Nd):Int:=Nd.ss a
def Qq(a:Nd):D:=D.agg (Nd.row2 a)
def QCn:List D:=[D.bool false,D.bool false,D.bool false,D.bool false,D.bool true,D.bool false]
def Vf(a:Nd):Bool:=Gk a
def JJ(a:Nd):Prop:=True/\∃(_y:Unit),True/\false=Vf a/\True/\True
def Qku(a:Nat)(b:Nd):Prop:=a<=Xu b/\∀(j:Nat),j<a->Nd.cl (QCg b j)=Z1
def QCo(a:Nat)(b:Nd):Prop:=(SM a/\(SM (VC b)/\SM (QB5 b)/\SM (QdE b)/\SM (QB6 b)/\SM (QB7 b)/\SM (QB8 b)/\SM (QB9 b)/\(SM (Qkp b)/\(∀(i:Nat),i<Qkp b->SM (QCb b i))/\True)/\(SM (Qkq b)/\(∀(i:Nat),i<Qkq b->SM (QCd b i))/\True)/\(SM (Qkr b)/\(∀(i:Nat),i<Qkr b->SM (QCf b i))/\True)/\(SM (Xu b)/\(∀(i:Nat),i<Xu b->SM (QCh b i))/\True)/\(SM (Qkt b)/\(∀(i:Nat),i<Qkt b->SM (QCj b i))/\True)/\SM (QCk b)/\SM (QCl b)/\SM (QCm b)/\True)/\True)/\True
def Yt(a:Nd):Int:=(NI (Xu a))
def Qkv(a:Nd):Bool:=QdE a==Z1
def Yu:List D:=[ZI 2]
def QCp:List (List D):=[Yu,[ZI Z1]]
def QCq(a:Nat):List D:=List.getD QCp a []
def QCr:List Int:=Bj N2 fun i=>QCq i
def QCs(a:Nat):List D:=List.getD [Yu,[ZI Z1],[ZI Z1]] a []
def QCt:List Int:=Bj (3:Nat) fun i=>QCs i
def QdH(a:Nd):Bool:=QdE a==2
def QCu(a:Nat):List D:=List.getD [[ZI 3],Yu] a []
def QCv:List Int:=Bj N2 fun i=>QCu i
def QF(a:Nd):Nd:=List.getD (QdG a) N0 Ys
def QCz(a:Nat):List D:=List.getD ([ZI 4]::QCp) a []
def QCA:List Int:=Bj (3:Nat) fun i=>QCz i
def QdJ:List (List D):=[Yu,Yu]
def QCB(a:Nat):List D:=List.getD ([ZI 4]::QdJ) a []
def QCC:List Int:=Bj (3:Nat) fun i=>QCB i
def QCD(a:Nat)(b:Nd):Prop:=SM a/\ifB (QdH b) (SM a/\∃(_x:Unit),(wkL [Qq b,D.sl N1 (3:Nat) (fun i=>QCB i) Mode.full] [Qq b,SI QCC]/\(3:Nat)<=9223372036854775807)/\∀(_y:Unit),True->True/\∃(_y:Unit),True/\Bm b QCC=Vf b/\True/\True) (JJ b)
def QCE(a:Nat):List D:=List.getD QdJ a []
def QCF:List Int:=Bj N2 fun i=>QCE i
def QCG(a:Nd):Prop:=True/\∃(_y:Unit),True/\true=Vf a/\True/\True
def QCH(a:Nat):List D:=List.getD (Yu::QdJ) a []
def QCI:List Int:=Bj (3:Nat) fun i=>QCH i
def QCJ(a:Nat):List D:=List.getD ([ZI Z1]::QdJ) a []
def QCK:List Int:=Bj (3:Nat) fun i=>QCJ i
theorem Bpy(n:Nd)(h:n.va.ok)(hl:n.ki.length <= maxLen):CD 89 [.agg n.row2] (.bool (Gk n)) := by
  refine Bg (A := sC _ _) (x := ()) (E := Erin n) (eOk (Bhn h hl) rfl) Tryz.func89 rfl (by kernel_rfl) rfl (by simp [sC,Erin,EC,E0]) ?_
  refine Bi (T :=
    ∀ (x:Nat),True->SM x/\∃ (x_1:Unit),isN2 n (Qq n :: QCn) QCn/\∀ (y:Unit),True->ifB (!Ge n false false false false true false) (JJ n) (SM x/\ifB (VC n == (3:Int)) ((∃ (x_2:Nat),Qku x_2 n/\(Z0 = (↑x_2:Int)/\True)/\QCo x n)/\∀ (x_2:Nat),Qku x_2 n->SM x/\ifB (decide ((↑x_2:Int) < Yt n)) (SM x/\Bc (Z0 <= (↑x_2:Int)/\(↑x_2:Int) < Yt n) (ifB (Nd.cl (List.getD (QdG n) (Int.toNat (↑x_2:Int)) Ys) != Z1) (JJ n) ((SM (Qq n)/\SM (D.ref N0 x N0)/\True)/\∃ (y:Nat),Qku y n/\Xu n - y < Xu n - x_2/\(IntKind.wrap IntKind.i64 ((↑x_2:Int) + Z1) = (↑y:Int)/\True)/\QCo x n))) (SM x/\ifB (Qkv n) (SM x/\ifB (decide ((2:Int) <= Yt n)) (SM x/\True/\∃ (y:Unit),True/\decide (Yt n <= (1000:Int)) = Vf n/\True/\True) (JJ n)) (JJ n))) (ifB (VC n == (4:Int)) (SM x/\ifB (Qkv n) (SM x/\∃ (x:Unit),(wkL [Qq n,D.sl N1 N2 (fun (i:Nat) => QCq i) Mode.full] [Qq n,SI QCr]/\N2 <= (9223372036854775807:Nat))/\∀ (y:Unit),True->True/\∃ (y:Unit),True/\Bm n QCr = Vf n/\True/\True) (JJ n)) (ifB (VC n == (5:Int)) (SM x/\ifB (Qkv n) (SM x/\∃ (x:Unit),(wkL [Qq n,D.sl N1 (3:Nat) (fun (i:Nat) => QCs i) Mode.full] [Qq n,SI QCt]/\(3:Nat) <= (9223372036854775807:Nat))/\∀ (y:Unit),True->True/\∃ (y:Unit),True/\Bm n QCt = Vf n/\True/\True) (JJ n)) (ifB (VC n == (14:Int)) (SM x/\ifB (QdH n) (SM x/\∃ (x:Unit),(wkL [Qq n,D.sl N1 N2 (fun (i:Nat) => QCu i) Mode.full] [Qq n,SI QCv]/\N2 <= (9223372036854775807:Nat))/\∀ (y:Unit),True->True/\∃ (y:Unit),True/\Bm n QCv = Vf n/\True/\True) (JJ n)) (ifB (VC n == (15:Int)) (SM x/\ifB (decide (Z0 < Yt n)) (SM x/\Bc (Z0 <= Z0/\Z0 < Yt n) (∃ (x_2:Unit),isN (QF n) [D.agg (Nd.rowE (QF n))] []/\∀ (y:Unit),True->ifB (I0 (QF n)) (SM x/\ifB (QdH n) (SM x/\∃ (x:Unit),(wkL [Qq n,D.sl N1 (3:Nat) (fun (i:Nat) => QCz i) Mode.full] [Qq n,SI QCA]/\(3:Nat) <= (9223372036854775807:Nat))/\∀ (y:Unit),True->True/\∃ (y:Unit),True/\Bm n QCA = Vf n/\True/\True) (JJ n)) (QCD x n))) (QCD x n)) (ifB (VC n == (16:Int)) (SM x/\ifB (QdH n) (SM x/\∃ (x_2:Unit),(wkL [Qq n,D.sl N1 N2 (fun (i:Nat) => QCE i) Mode.full] [Qq n,SI QCF]/\N2 <= (9223372036854775807:Nat))/\∀ (y:Unit),True->ifB (Bm n QCF) (QCG n) (SM x/\∃ (x_3:Unit),(wkL [Qq n,D.sl N1 (3:Nat) (fun (i:Nat) => QCH i) Mode.full] [Qq n,SI QCI]/\(3:Nat) <= (9223372036854775807:Nat))/\∀ (y:Unit),True->ifB (Bm n QCI) (QCG n) (SM x/\∃ (x:Unit),(wkL [Qq n,D.sl N1 (3:Nat) (fun (i:Nat) => QCJ i) Mode.full] [Qq n,SI QCK]/\(3:Nat) <= (9223372036854775807:Nat))/\∀ (y:Unit),True->True/\∃ (y:Unit),True/\Bm n QCK = Vf n/\True/\True))) (JJ n)) (JJ n)))))))) (by kernel_rfl) ?_
  delta DA GI LN N0 N1 N2 N4 NI SI SM Z0 Z1 ZI VC QB5 QCb QCc Qkq QCd QCe Qkr Qks QCf QdG Xu QdE Ys QCg QCh Qkt QCi QCj QCk QCl QCm Qq QB6 QCn Vf JJ Qku QCo Yt Qkv Yu QCp QCq QB7 QCr QCs QCt QdH QCu QCv QF QB8 QCz QCA QdJ QCB QCC QCD QCE QdF QCF QCG QCH QCI QCJ QCK QB9 QCa Qkp
  try simp only [<- dm]
  try simp only [<- dn]
  simp only [ne_eq,implies_true,Int.toNat_natCast,Bf,Bd,decide_eq_true_eq,decide_eq_false_iff_not,true_and,and_true,beq_iff_eq,bne_iff_ne,bne_eq_false_iff_eq,beq_eq_false_iff_ne,Bool.not_eq_true',Bool.not_eq_false',exists_const,forall_const]
  have i2:∀ a b:Int,Bj 2 (fun i => [[D.int IntKind.i64 a],[D.int IntKind.i64 b]].getD i []) = [a,b] := fun _ _ => rfl
  have i3:∀ a b c:Int,Bj 3 (fun i => [[D.int IntKind.i64 a],[D.int IntKind.i64 b],[D.int IntKind.i64 c]].getD i []) = [a,b,c] := fun _ _ _ => rfl
  have p2:∀ a b:Int,IntsP 2 (fun i => [[D.int IntKind.i64 a],[D.int IntKind.i64 b]].getD i []) := fun _ _ i hi => by
    match i,hi with
    | 0,_ => rfl
    | 1,_ => rfl
  have p3:∀ a b c:Int,IntsP 3 (fun i => [[D.int IntKind.i64 a],[D.int IntKind.i64 b],[D.int IntKind.i64 c]].getD i []) := fun _ _ _ i hi => by
    match i,hi with
    | 0,_ => rfl
    | 1,_ => rfl
    | 2,_ => rfl
  unfold maxLen at hl
  refine ⟨CJ n _,fun h0 => BlI h0,fun h0 => ⟨fun k3 => ?_,fun n3 => ?_⟩⟩
  · rw [Bpp h0 k3]
    refine ⟨⟨0,⟨Nat.zero_le _,fun j hj => absurd hj (by omega)⟩,rfl⟩,fun i ⟨i1,hi⟩ => ⟨fun hlt => ⟨⟨by omega,hlt⟩,fun c => ?_,fun c => ⟨i + 1,⟨by omega,fun j hj => ?_⟩,by omega,Ba (by omega) (by omega)⟩⟩,fun hge => ?_⟩⟩
    · cases e:Bao n with
      | false => rfl
      | true => exact (c ((BcY n).1 e i (by omega))).elim
    · by_cases e':j = i
      · rw [e']; exact c
      · exact hi j (by omega)
    · have e:Bao n = true := (BcY n).2 fun j hj => hi j (by omega)
      rw [e]
      refine ⟨fun c => ⟨fun d => ?_,fun d => ?_⟩,fun c => ?_⟩
      · have d2:decide (2 <= n.ki.length) = true := decide_eq_true (by omega)
        rw [c,d2]
        simp only [Bool.true_and,beq_self_eq_true]
        exact decide_eq_decide.2 (by omega)
      · have d2:decide (2 <= n.ki.length) = false := decide_eq_false (by omega)
        rw [d2]; simp
      · have d2:(n.cl == 1) = false := by simpa using c
        rw [d2]; rfl
  · have z:¬ (0:Int) < n.ki.length->I0 (n.ki.getD 0 default) = false := fun h => by
      have:n.ki = [] := List.length_eq_zero_iff.1 (by omega)
      rw [this]; rfl
    have hr : Gk n = (if n.kd = 4 then n.cl == 1 && Bm n [2, 1]
       else if n.kd = 5 then n.cl == 1 && Bm n [2,1,1]
       else if n.kd = 14 then n.cl == 2 && Bm n [3,2]
       else if n.kd = 15 then n.cl == 2 && Bm n [4,2,if I0 (n.ki.getD 0 default) = true then 1 else 2]
       else if n.kd = 16 then n.cl == 2 && (Bm n [2,2] || Bm n [2,2,2] || Bm n [1,2,2])
       else false) := by
      unfold Gk
      rw [h0,Bbp,if_neg n3,Bool.true_and]
    rw [hr]
    clear hr
    repeat' (first | exact Bl _ _ | exact CJ n _ | exact Be _ | exact Ck (p2 _ _) | exact Ck (p3 _ _ _) | refine And.intro ?_ ?_ | intro _)
    all_goals try simp only [i2,i3] at *
    clear i2 i3 p2 p3
    all_goals first
      | omega
      | (simp_all; done)
      | (simp_all; omega)
def RMent(q:Int)(n:Nd):Prop:=CD 92 [.agg n.row2,.int .i64 q] (.bool (Cd q n))
def BbR(q:Int)(p:Nd->Prop):Con:=fun k ds S=>match k with
 |92=>some (pE (β:=Nd) ds S (fun b=>.bool (Cd q b)) (fun b=>isN b ds [.int .i64 q]/\p b))
 |_=>none
theorem RY{q:Int}{p:Nd->Prop}(h:∀b,p b->RMent q b):ConOk Tryz.prog (BbR q p):=by
 intro k ds S A hh
 unfold BbR at hh
 split at hh
 ·injection hh with hh;subst hh
  exact Co fun b ⟨e,hb⟩=>CD.at_ (CD.isN (h b hb) e) _
 ·cases hh
noncomputable def Erme(q:Int)(n:Nd):Senv:={ EC (BbR q (·∈n.ki)) 24 3 [4,5,9,14,23] (fun _=>([],[])) with
 mg:=fun _=>2
 ann:=fun b _ S=>match b with
  |0=>some { slots:=[5],keep:=[0,1,2],α:=Nat,st:=fun i=>([.int .i64 i],S),inv:=fun i=>i<=n.ki.length/\∀j,j<i->Cd q (n.ki.getD j default)=false,mu:=fun i=>n.ki.length-i }
  |_=>none }
theorem BeE{α:Type}[Inhabited α]{p:α->Bool}{l:List α}(h:∀j,j<l.length->p (l.getD j default)=false):l.any p=false:=by
 rw[List.any_eq_false]
 intro x hx
 obtain ⟨i,hi,rfl⟩:=List.getElem_of_mem hx
 have:=h i hi
 rw[List.getD_eq_getElem?_getD,List.getElem?_eq_getElem hi] at this
 simpa using this
theorem Ba5{α:Type}[Inhabited α]{p:α->Bool}{l:List α}{j:Nat}(hj:j<l.length)(h:p (l.getD j default)=true):l.any p=true:=by
 rw[List.any_eq_true]
 refine⟨l.getD j default,?_,h⟩
 rw[List.getD_eq_getElem?_getD,List.getElem?_eq_getElem hj]
 exact List.getElem_mem hj
def Qkw(a:Nd):Int:=Nd.kd a
def QCL(a:Int)(b:Nd):Prop:=True/\∃(_y:Unit),True/\true=Cd a b/\True/\True
def QdK(a:Nd):List Nd:=Nd.ki a
def VD(a:Nd):Nat:=LN (QdK a)
def Qkx:Arr:=DA
def Hx:Nd:=Nd.mk Z0 Z0 Z0 [] Z0 Z0 Qkx [] [] Z0 Z0 Z0
def QCM(a:Nd)(b:Nat):Nd:=List.getD (QdK a) b Hx
def Qky(a:Nat)(b:Nd)(c:Int):Prop:=a<=VD b/\∀(j:Nat),j<a->Cd c (QCM b j)=false
def QCN(a:Nd):Int:=Nd.at_ a
def QCO(a:Nd):Int:=Nd.cl a
def QCP(a:Nd):List UInt8:=Nd.tx a
def QCQ(a:Nd):Int:=Nd.pr a
def QCR(a:Nd):Int:=Nd.op a
def QdL(a:Nd):Arr:=Nd.va a
def QCS(a:Nd):Int:=Arr.k (QdL a)
def QCT(a:Nd):List Int:=Arr.sh (QdL a)
def Qkz(a:Nd):Nat:=LN (QCT a)
def QCU(a:Nd)(b:Nat):List D:=[ZI (GI (QCT a) b)]
def QCV(a:Nd):List Int:=Arr.nu (QdL a)
def QkA(a:Nd):Nat:=LN (QCV a)
def QCW(a:Nd)(b:Nat):List D:=[ZI (GI (QCV a) b)]
def QCX(a:Nd):List Arr:=Arr.it (QdL a)
def QkB(a:Nd):Nat:=LN (QCX a)
def QCY(a:Nd)(b:Nat):List D:=Arr.row (List.getD (QCX a) b Qkx)
def QCZ(a:Nd)(b:Nat):List D:=Nd.row1 (QCM a b)
def QkC(a:Nd):Nat:=LN (Nd.bo a)
def QC0:Sm:=Sm.mk Z0 Z0 [] Z0 Hx Hx
def QC1(a:Nd)(b:Nat):List D:=Sm.row1 (List.getD (Nd.bo a) b QC0)
def QC2(a:Nd):Int:=Nd.de a
def QC3(a:Nd):Int:=Nd.sl a
def QC4(a:Nd):Int:=Nd.ss a
def QC5(a:Nat)(b:Nd):Prop:=(SM a/\(SM (Qkw b)/\SM (QCN b)/\SM (QCO b)/\SM (QCP b)/\SM (QCQ b)/\SM (QCR b)/\SM (QCS b)/\(SM (Qkz b)/\(∀(i:Nat),i<Qkz b->SM (QCU b i))/\True)/\(SM (QkA b)/\(∀(i:Nat),i<QkA b->SM (QCW b i))/\True)/\(SM (QkB b)/\(∀(i:Nat),i<QkB b->SM (QCY b i))/\True)/\(SM (VD b)/\(∀(i:Nat),i<VD b->SM (QCZ b i))/\True)/\(SM (QkC b)/\(∀(i:Nat),i<QkC b->SM (QC1 b i))/\True)/\SM (QC2 b)/\SM (QC3 b)/\SM (QC4 b)/\True)/\True)/\True
def KJ(a:Nd)(b:Nat):Nd:=List.getD (QdK a) (Int.toNat (↑b:Int)) Hx
def QQ1(a:Nd):D:=D.agg (Nd.row2 a)
theorem Bk5(q:Int)(n:Nd)(hl:n.ki.length<=maxLen)(h:∀b∈n.ki,RMent q b):RMent q n:=by
 refine Bg (A:=sC _ _) (x:=()) (E:=Erme q n) (eOk (RY h) rfl) Tryz.func92 rfl (by kernel_rfl) rfl (by simp[sC,Erme,EC,E0]) ?_
 refine Bi (T :=
  ∀(x:Nat),True->SM x/\ifB (Qkw n==q) (QCL q n) ((∃(x_1:Nat),Qky x_1 n q/\(Z0=(↑x_1:Int)/\True)/\QC5 x n)/\∀(x_1:Nat),Qky x_1 n q->SM x/\ifB (decide ((↑x_1:Int)<(NI (VD n)))) (SM x/\Bc (Z0<=(↑x_1:Int)/\(↑x_1:Int)<(NI (VD n))) (∃(x_2:Nd),(isN x_2 [D.agg (Nd.rowE (KJ n x_1)),ZI q] [ZI q]/\x_2∈QdK n)/\∀(y:Unit),True->ifB (Cd q x_2) (QCL q n) ((SM (QQ1 n)/\SM (ZI q)/\SM (D.ref N0 x N0)/\True)/\∃(y:Nat),Qky y n q/\VD n-y<VD n-x_1/\(IntKind.wrap IntKind.i64 ((↑x_1:Int)+Z1)=(↑y:Int)/\True)/\QC5 x n))) (RT (false=Cd q n)))) (by kernel_rfl) ?_
 delta DA GI LN N0 N1 N4 NI SI SM Z0 Z1 ZI Qkw QCL QCP QCQ QCR QdL QCS QCT Qkz QCU QCV QkA QdK QCW QCX QkB QCY QCZ QkC QC0 QC1 QC2 QC3 VD QC4 QC5 KJ QQ1 Qkx Hx QCM Qky QCN QCO RT
 try simp only[<- dm]
 try simp only[<- dn]
 simp only[ne_eq,implies_true,Int.toNat_natCast,Bf,Bd,decide_eq_true_eq,decide_eq_false_iff_not,true_and,and_true,beq_iff_eq,beq_eq_false_iff_ne,exists_const,forall_const]
 unfold maxLen at hl
 have e:=Wg q n
 refine⟨fun hk=>by rw[e,hk];simp,fun hk=>⟨⟨0,⟨Nat.zero_le _,fun j hj=>absurd hj (by omega)⟩,rfl⟩,fun i ⟨i1,hi⟩=>⟨fun hlt=>?_,fun hge=>?_⟩⟩⟩
 ·have hi1:i<n.ki.length:=by omega
  refine⟨⟨by omega,by omega⟩,n.ki.getD i default,⟨Bl _ _,BW hi1⟩,fun c=>?_,fun c=>⟨i+1,⟨hi1,fun j hj=>?_⟩,by omega,Ba (by omega) (by omega)⟩⟩
  ·rw[e,Ba5 hi1 c];simp
  ·by_cases e':j=i
   ·rw[e'];exact c
   ·exact hi j (by omega)
 ·have a:n.ki.any (Cd q)=false:=BeE fun j hj=>hi j (by omega)
  have hk':(n.kd==q)=false:=by simpa using hk
  rw[e,a,hk'];rfl
theorem Bly(q:Int)(n:Nd)(hn:n.sm):RMent q n :=
 Bk5 q n (Ch (Cb hn).2.1) fun b hb=>Bly q b (EZ hn (BS hb))
termination_by szN n
decreasing_by exact Ey (BS hb)
noncomputable def Erbm(q:Int)(l:List Sm):Senv:={ EC (BbR q Nd.sm) 28 2 [4,5,9,27] (fun _=>([],[])) with
 mg:=fun _=>2
 ann:=fun b _ S=>match b with
  |0=>some { slots:=[5],keep:=[0,1],α:=Nat,st:=fun i=>([.int .i64 i],S),inv:=fun i=>i<=l.length/\∀j,j<i->(Cd q (l.getD j default).te||Cd q (l.getD j default).nd)=false,mu:=fun i=>l.length-i }
  |_=>none }
def Hy:Arr:=DA
def Yv:Nd:=Nd.mk Z0 Z0 Z0 [] Z0 Z0 Hy [] [] Z0 Z0 Z0
def Yw:Sm:=Sm.mk Z0 Z0 [] Z0 Yv Yv
def Yx(a:List Sm)(b:Nat):Sm:=List.getD a b Yw
def QM(a:List Sm)(b:Nat):Nd:=Sm.te (Yx a b)
def QN(a:List Sm)(b:Nat):Nd:=Sm.nd (Yx a b)
def QkD(a:Nat)(b:List Sm)(c:Int):Prop:=a<=LN b/\∀(j:Nat),j<a->(Cd c (QM b j)||Cd c (QN b j))=false
def QC9(a:List Sm)(b:Nat):Sm:=List.getD a (Int.toNat (↑b:Int)) Yw
def KK(a:List Sm)(b:Nat):Nd:=Sm.te (QC9 a b)
def QDd(a:List Sm)(b:Int):Prop:=True/\∃(_y:Unit),True/\true=Eo a b/\True/\True
def KL(a:List Sm)(b:Nat):Nd:=Sm.nd (QC9 a b)
def QRa(a:List Sm):D:=D.sl 34 (LN a) (fun i=>(Sm.row1 (Yx a i))) Mode.any
theorem BjY(q:Int)(l:List Sm)(hl:l.length<=maxLen)(h:∀s∈l,s.sm):CD 69 [gsl 34 Sm.row1 l,.int .i64 q] (.bool (Eo l q)):=by
 refine Bg (A:=sC _ _) (x:=()) (E:=Erbm q l) (eOk (RY (Bly q)) rfl) Tryz.func69 rfl (by kernel_rfl) rfl (by simp[sC,Erbm,EC,E0]) ?_
 refine Bi (T :=
  (∃(x:Nat),QkD x l q/\(Z0=(↑x:Int)/\True)/\True/\True)/\∀(x:Nat),QkD x l q->ifB (decide ((↑x:Int)<(LI l))) (Bc (Z0<=(↑x:Int)/\(↑x:Int)<(LI l)) (∃(x_1:Nd),(isN x_1 [D.agg (Nd.rowE (KK l x)),ZI q] [ZI q]/\Nd.sm x_1)/\∀(y:Unit),True->ifB (Cd q x_1) (QDd l q) (Bc (Z0<=(↑x:Int)/\(↑x:Int)<(LI l)) (∃(x_2:Nd),(isN x_2 [D.agg (Nd.rowE (KL l x)),ZI q] [ZI q]/\Nd.sm x_2)/\∀(y:Unit),True->ifB (Cd q x_2) (QDd l q) ((SM (QRa l)/\SM (ZI q)/\True)/\∃(y:Nat),QkD y l q/\LN l-y<LN l-x/\(IntKind.wrap IntKind.i64 ((↑x:Int)+Z1)=(↑y:Int)/\True)/\True/\True))))) (RT (false=Eo l q))) (by kernel_rfl) ?_
 delta DA GI LI LN N1 N4 SI SM Z0 Z1 ZI Hy Yv Yw Yx QM QN QkD QC9 KK QDd KL QRa RT
 try simp only[<- dm]
 try simp only[<- dn]
 simp only[Int.toNat_natCast,Bf,Bd,decide_eq_true_eq,decide_eq_false_iff_not,true_and,and_true,exists_const,forall_const]
 unfold maxLen at hl
 refine⟨⟨0,⟨Nat.zero_le _,fun j hj=>absurd hj (by omega)⟩,rfl⟩,fun i hi'=>⟨fun hlt=>?_,fun hge=>?_⟩⟩
 ·obtain ⟨i1,hi⟩:=hi'
  have hi1:i<l.length:=by omega
  obtain ⟨h1,h2⟩:=Cm (h _ (C4 hi1))
  have w:IntKind.i64.wrap ((i:Int)+1)=((i+1:Nat):Int):=by rw[Ba (by omega) (by omega)];rfl
  have yes:(Cd q (l.getD i default).te||Cd q (l.getD i default).nd)=true->true=Eo l q:=fun c=>(Ba5 (l:=l) (p:=fun s:Sm=>Cd q s.te||Cd q s.nd) hi1 c).symm
  have go:(Cd q (l.getD i default).te||Cd q (l.getD i default).nd)=false->∀j,j<i+1->(Cd q (l.getD j default).te||Cd q (l.getD j default).nd)=false:=fun c j hj=>by
   by_cases e':j=i
   ·rw[e'];exact c
   ·exact hi j (by omega)
  refine⟨⟨by omega,by omega⟩,(l.getD i default).te,⟨Bl _ _,h1⟩,fun c=>yes (by rw[c];rfl),fun c=>⟨⟨by omega,by omega⟩,(l.getD i default).nd,⟨Bl _ _,h2⟩,fun c2=>yes (by rw[c2];simp),fun c2=>⟨i+1,⟨hi1,go (by rw[c,c2];rfl)⟩,by omega,w⟩⟩⟩
 ·obtain ⟨i1,hi⟩:=hi'
  exact (BeE (l:=l) (p:=fun s:Sm=>Cd q s.te||Cd q s.nd) fun j hj=>hi j (by omega)).symm
theorem BoG:nd0.ok:=by simp[nd0,Nd.ok,Arr.ok,okL,Uh,Ul,Br,maxLen]
theorem Bpj:nd0.sm:=by simp[nd0,Nd.sm,Arr.sm,smL,OL,Ts]
theorem Bns(n:Nd):(CY (stN n) (stN nd0)&&n.at_==0&&n.de==0&&n.sl==0&&n.ss==0)=Cx n:=by
 rw[Bool.eq_iff_iff]
 simp only[Bool.and_eq_true,CV,Bgk,beq_iff_eq]
 unfold Cx IL Th
 cases n with
 |mk kd at_ cl tx pr op va ki bo de sl ss =>
  cases va with
  |mk k s nu it =>
   simp[nd0,Nd.kd,Nd.at_,Nd.cl,Nd.tx,Nd.pr,Nd.op,Nd.va,Nd.ki,Nd.bo,Nd.de,Nd.sl,Nd.ss,Arr.k,Arr.sh,Arr.nu,Arr.it]
   constructor
   ·rintro ⟨⟨⟨⟨⟨a,b,c,d,e,⟨f1,f2,f3,f4⟩,g,h⟩,i⟩,j⟩,k⟩,l⟩
    subst_vars
    simp
   ·intro h
    simp_all
def Bkz:List D:=nd0.row2
theorem BiW:wkL BeB nd0.row2:=by
 simp[BeB,Nd.row2,nd0,Nd.kd,Nd.at_,Nd.cl,Nd.tx,Nd.pr,Nd.op,Nd.va,Nd.ki,Nd.bo,Nd.de,Nd.sl,Nd.ss,Arr.k,Arr.sh,Arr.nu,Arr.it,isl,gsl,wkL,wkD,Bn,Bb,BG,Oa,kEq]
theorem BoK(n:Nd):wkL [.agg n.row2,.agg BeB] [.agg n.row2,.agg Bkz]:=by
 simp only[wkL,wkD]
 exact⟨Be _,BiW,trivial⟩
noncomputable def Bn1(n:Nd):Con:=fun k ds S=>match k with
 |90=>some (pA ds S (.bool (CY (stN n) (stN nd0))) (wkL ds [.agg n.row2,.agg Bkz]))
 |_=>none
noncomputable def Erz(n:Nd):Senv:={ EC (Bn1 n) 26 3 [] (fun _=>([],[])) with mg:=fun _=>2 }
def QDp(a:Nd):D:=D.agg (Nd.row2 a)
def Vg:D:=ZI Z0
def Hz:D:=D.sl N1 N0 (fun _x=>[]) Mode.nil
def QdS(a:Nd):Prop:=True/\∃(_y:Unit),True/\false=Cx a/\True/\True
theorem Bqw(n:Nd)(ho:n.ok)(hs:n.sm):CD 67 [.agg n.row2] (.bool (Cx n)):=by
 refine Bg (A:=sC _ _) (x:=()) (E:=Erz n) (eOk ?_ rfl) Tryz.func67 rfl (by kernel_rfl) rfl (by simp[sC,Erz,EC,E0]) ?_
 ·intro k ds S A hh
  unfold Bn1 at hh
  split at hh
  ·injection hh with hh;subst hh
   exact Bo fun e=>CD.at_ (CD.wk (BaX n nd0 ⟨ho,hs⟩ ⟨BoG,Bpj⟩) e) _
  ·cases hh
 refine Bi (T :=
  ∀(x:Nat),True->SM x/\∃(x_1:Unit),wkL [QDp n,D.agg [Vg,Vg,Vg,D.str [],Vg,Vg,Vg,Hz,Hz,Hz,Hz,Hz,Vg,Vg,Vg]] [QDp n,D.agg Bkz]/\∀(y:Unit),True->ifB (CY (stN n) (stN nd0)) (SM x/\ifB (Nd.at_ n==Z0) (SM x/\ifB (Nd.de n==Z0) (SM x/\ifB (Nd.sl n==Z0) (SM x/\RT ((Nd.ss n==Z0)=Cx n)) (QdS n)) (QdS n)) (QdS n)) (QdS n)) (by kernel_rfl) ?_
 delta DA GI LN N0 N1 N4 SI SM Z0 ZI QDp Vg Hz QdS RT
 try simp only[]
 try simp only[<- dn]
 simp only[ne_eq,Bf,true_and,and_true,beq_iff_eq,beq_eq_false_iff_ne,exists_const,forall_const]
 rw[<- Bns]
 have hz:=BoK n
 repeat' (first | exact hz | refine And.intro ?_ ?_ | intro _)
 all_goals clear hz
 all_goals first
  |(simp_all;done)
  |(simp_all;omega)
def RVal(n:Nd):Prop:=CD 66 [.agg n.row2] (.bool (Bz n))
def RBdy(l:List Sm):Prop:=CD 43 [gsl 34 Sm.row1 l] (.bool (BP true l))
def Bfg(n:Nd):Con:=fun k ds S=>match k with
 |106=>match ds with
  | [_,.bool a,.bool b,.bool c,.bool d,.bool e,.bool f]=>some (pA ds S (.bool (Ge n a b c d e f)) (isN2 n ds [.bool a,.bool b,.bool c,.bool d,.bool e,.bool f]))
  |_=>none
 |43=>some (pA ds S (.bool (BP true n.bo)) (wkL ds [gsl 34 Sm.row1 n.bo]))
 |69=>match ds with
  | [_,.int .i64 q]=>some (pA ds S (.bool (Eo n.bo q)) (wkL ds [gsl 34 Sm.row1 n.bo,.int .i64 q]))
  |_=>none
 |_=>none
theorem Bik{n:Nd}(h:n.va.ok)(hn:n.sm)(hb:RBdy n.bo):ConOk Tryz.prog (Bfg n):=by
 intro k ds S A hh
 unfold Bfg at hh
 split at hh
 ·split at hh
  ·injection hh with hh;subst hh
   exact Bo fun e=>CD.at_ (CD.wk (Bkl n h _ _ _ _ _ _) e) _
  ·cases hh
 ·injection hh with hh;subst hh
  exact Bo fun e=>CD.at_ (CD.wk hb e) _
 ·split at hh
  ·injection hh with hh;subst hh
   exact Bo fun e=>CD.at_ (CD.wk (BjY _ n.bo (Ch (Cb hn).2.2) (GB hn)) e) _
  ·cases hh
 ·cases hh
noncomputable def Erla(n:Nd):Senv:={ EC (Bfg n) 49 5 [31,38,42] (fun id=>match id with | 3=>([0,1,3,4,2,5,6,7],[2,5]) | _=>([],[])) with mg:=fun _=>2 }
def QdT(a:Nd):Int:=Nd.cl a
def QDr:Arr:=DA
def QkE:Nd:=Nd.mk Z0 Z0 Z0 [] Z0 Z0 QDr [] [] Z0 Z0 Z0
def Xv(a:Nd):List Sm:=Nd.bo a
def QDs:Sm:=Sm.mk Z0 Z0 [] Z0 QkE QkE
def HA(a:Nd):D:=D.sl 34 (LN (Xv a)) (fun i=>Sm.row1 (List.getD (Xv a) i QDs)) Mode.any
def QDt:List D:=[D.bool false,D.bool false,D.bool false,D.bool false,D.bool false,D.bool true]
def QdV(a:Nd):Bool:=WQ a
def QdW(a:Nd):Prop:=True/\∃(_y:Unit),True/\false=QdV a/\True/\True
def QkF(a:Nd):Int:=(LI (Xv a))
def QkG(a:Nd):Int:=IntKind.wrap IntKind.i64 (QkF a-Z1)
def QDu(a:Nd):List D:=[HA a]
def QDv(a:Nd):List D:=[HA a,ZI 12]
def QDw(a:Nd):List D:=[HA a,ZI 13]
theorem Bon(n:Nd)(h:n.va.ok)(hn:n.sm)(hb:RBdy n.bo):CD 87 [.agg n.row2] (.bool (WQ n)):=by
 refine Bg (A:=sC _ _) (x:=()) (E:=Erla n) (eOk (Bik h hn hb) rfl) Tryz.func87 rfl (by kernel_rfl) rfl (by simp[sC,Erla,EC,E0]) ?_
 refine Bi (T :=
  ∀(x:Nat),True->SM x/\∃(x_1:Unit),isN2 n (D.agg (Nd.row2 n)::QDt) QDt/\∀(y:Unit),True->ifB (!Ge n false false false false false true) (QdW n) (SM x/\ifB (QkF n==Z0) (QdW n) (SM x/\SM x/\Bc (Z0<=QkG n/\QkG n<QkF n) (ifB (Sm.kd (List.getD (Xv n) (Int.toNat (QkG n)) QDs) != Z1) (QdW n) (SM x/\∃(x_2:Unit),wkL (QDu n) (QDu n)/\∀(y:Unit),True->ifB (!BP true (Xv n)) (QdW n) (SM x/\SM x/\∃(x_3:Unit),wkL (QDv n) (QDv n)/\∀(y:Unit),True->(SM x/\SM (HA n))/\∃(x_4:Unit),wkL (QDw n) (QDw n)/\∀(y:Unit),True->ifB (Eo (Xv n) (13:Int)) (SM x/\RT ((QdT n==4)=QdV n)) (ifB (Eo (Xv n) (12:Int)) (SM x/\RT ((QdT n==3)=QdV n)) (SM x/\RT ((QdT n==2)=QdV n))))))))) (by kernel_rfl) ?_
 delta DA GI LI LN N1 N4 SI SM Z0 Z1 ZI QDr QkE Xv QDs HA QDt QdV QdW QkF QkG QDu QDv QDw QdT RT
 try simp only[<- dm]
 try simp only[<- dn]
 simp only[ne_eq,Bf,Bd,true_and,and_true,beq_iff_eq,bne_iff_ne,bne_eq_false_iff_eq,beq_eq_false_iff_ne,Bool.not_eq_true',Bool.not_eq_false',exists_const,forall_const]
 have e2:n.bo.isEmpty=(n.bo.length==0):=by cases n.bo<;>rfl
 have hlen:=(Cb hn).2.2
 unfold BC at hlen
 have self:∀a b c d e f:Bool,isN2 n [.agg n.row2,.bool a,.bool b,.bool c,.bool d,.bool e,.bool f] [.bool a,.bool b,.bool c,.bool d,.bool e,.bool f]:=fun _ _ _ _ _ _=>CJ n _
 by_cases hb:n.bo.length=0
 ·skip
  repeat' (first | exact self _ _ _ _ _ _ | exact Be _ | refine And.intro ?_ ?_ | intro _)
  all_goals clear self
  all_goals first
   |(exfalso;omega)
   |(unfold WQ;rw[e2,hb];simp;done)
   |(unfold WQ;simp_all;done)
 ·have w:IntKind.i64.wrap ((n.bo.length:Int)-1)=((n.bo.length-1:Nat):Int):=by rw[Ba (by omega) (by omega)];omega
  simp only[w,Int.toNat_natCast]
  have e3:(n.bo.length==0)=false:=by simpa using hb
  repeat' (first | exact self _ _ _ _ _ _ | exact Be _ | refine And.intro ?_ ?_ | intro _)
  all_goals clear self
  all_goals first
   |omega
   |(unfold WQ;rw[e2,e3];simp_all;done)
   |(unfold WQ;simp_all;done)
def Bd4(n:Nd):Con:=fun k ds S=>match k with
 |87=>some (pA ds S (.bool (WQ n)) (isN2 n ds []))
 |88=>some (pA ds S (.bool (OG n)) (isN2 n ds []))
 |89=>some (pA ds S (.bool (Gk n)) (isN2 n ds []))
 |66=>some (pE (β:=Nd) ds S (fun b=>.bool (Bz b)) (fun b=>isN b ds []/\b∈n.ki))
 |_=>none
theorem BhJ{n:Nd}(hn:n.sm)(ho:n.va.ok)(h1:RBdy n.bo)(h2:∀b∈n.ki,RVal b):ConOk Tryz.prog (Bd4 n):=by
 intro k ds S A hh
 have hl:=Ch (Cb hn).2.1
 unfold Bd4 at hh
 split at hh
 ·injection hh with hh;subst hh
  exact Bo fun e=>CD.at_ (CD.wk (Bon n ho hn h1) e) _
 ·injection hh with hh;subst hh
  exact Bo fun e=>CD.at_ (CD.wk (BpA n ho) e) _
 ·injection hh with hh;subst hh
  exact Bo fun e=>CD.at_ (CD.wk (Bpy n ho hl) e) _
 ·injection hh with hh;subst hh
  exact Co fun b ⟨e,hb⟩=>CD.at_ (CD.isN (h2 b hb) e) _
 ·cases hh
noncomputable def Erva(n:Nd):Senv:={ EC (Bd4 n) 46 4 [21,24,28,31,36,45] (fun _=>([],[])) with
 mg:=fun _=>2
 ann:=fun b _ S=>match b with
  |0=>some { slots:=[3],keep:=[0,1],α:=Nat,st:=fun i=>([.int .i64 i],S),inv:=fun i=>i<=n.ki.length/\∀j,j<i->Bz (n.ki.getD j default)=true,mu:=fun i=>n.ki.length-i }
  |_=>none }
theorem Blo{α:Type}[Inhabited α]{p:α->Bool}{l:List α}{j:Nat}(hj:j<l.length)(h:p (l.getD j default)=false):l.all p=false:=by
 rw[Bool.eq_false_iff]
 intro e
 have:=List.all_eq_true.1 e (l.getD j default) (by rw[List.getD_eq_getElem?_getD,List.getElem?_eq_getElem hj];exact List.getElem_mem hj)
 rw[h] at this;cases this
theorem Bf5{α:Type}[Inhabited α]{p:α->Bool}{l:List α}(h:∀j,j<l.length->p (l.getD j default)=true):l.all p=true:=by
 rw[List.all_eq_true]
 intro x hx
 obtain ⟨i,hi,rfl⟩:=List.getElem_of_mem hx
 have:=h i hi
 rwa [List.getD_eq_getElem?_getD,List.getElem?_eq_getElem hi] at this
def QkH(a:Nd):Int:=Nd.at_ a
def QdX(a:Nd):Bool:=Bz a
def Yy(a:Nd):Prop:=True/\∃(_y:Unit),True/\false=QdX a/\True/\True
def QkI(a:Nd):Int:=Nd.de a
def QkJ(a:Nd):Int:=Nd.sl a
def QkK(a:Nd):Int:=Nd.ss a
def QkL(a:Nd):Int:=Nd.kd a
def QDx(a:Nd):Int:=Nd.cl a
def QDy(a:Nd):List UInt8:=Nd.tx a
def QDz(a:Nd):Int:=Nd.pr a
def QDA(a:Nd):Int:=Nd.op a
def QdY(a:Nd):Arr:=Nd.va a
def QDB(a:Nd):Int:=Arr.k (QdY a)
def QDC(a:Nd):List Int:=Arr.sh (QdY a)
def QkM(a:Nd):Nat:=LN (QDC a)
def QDD(a:Nd)(b:Nat):List D:=[ZI (GI (QDC a) b)]
def QDE(a:Nd):List Int:=Arr.nu (QdY a)
def QkN(a:Nd):Nat:=LN (QDE a)
def QDF(a:Nd)(b:Nat):List D:=[ZI (GI (QDE a) b)]
def QDG(a:Nd):List Arr:=Arr.it (QdY a)
def QkO(a:Nd):Nat:=LN (QDG a)
def QkP:Arr:=DA
def QDH(a:Nd)(b:Nat):List D:=Arr.row (List.getD (QDG a) b QkP)
def QdZ(a:Nd):List Nd:=Nd.ki a
def VE(a:Nd):Nat:=LN (QdZ a)
def HB:Nd:=Nd.mk Z0 Z0 Z0 [] Z0 Z0 QkP [] [] Z0 Z0 Z0
def QDI(a:Nd)(b:Nat):Nd:=List.getD (QdZ a) b HB
def QDJ(a:Nd)(b:Nat):List D:=Nd.row1 (QDI a b)
def QkQ(a:Nd):Nat:=LN (Nd.bo a)
def QDK:Sm:=Sm.mk Z0 Z0 [] Z0 HB HB
def QDL(a:Nd)(b:Nat):List D:=Sm.row1 (List.getD (Nd.bo a) b QDK)
def QDM(a:Nd):D:=D.agg (Nd.row2 a)
def QkR(a:Nd):Prop:=isN2 a [QDM a] []
def QDN(a:Nd):Prop:=True/\∃(_y:Unit),True/\true=QdX a/\True/\True
def QkS(a:Nat)(b:Nd):Prop:=a<=VE b/\∀(j:Nat),j<a->Bz (QDI b j)=true
def QDO(a:Nat)(b:Nd):Prop:=(SM a/\(SM (QkL b)/\SM (QkH b)/\SM (QDx b)/\SM (QDy b)/\SM (QDz b)/\SM (QDA b)/\SM (QDB b)/\(SM (QkM b)/\(∀(i:Nat),i<QkM b->SM (QDD b i))/\True)/\(SM (QkN b)/\(∀(i:Nat),i<QkN b->SM (QDF b i))/\True)/\(SM (QkO b)/\(∀(i:Nat),i<QkO b->SM (QDH b i))/\True)/\(SM (VE b)/\(∀(i:Nat),i<VE b->SM (QDJ b i))/\True)/\(SM (QkQ b)/\(∀(i:Nat),i<QkQ b->SM (QDL b i))/\True)/\SM (QkI b)/\SM (QkJ b)/\SM (QkK b)/\True)/\True)/\True
def KM(a:Nd)(b:Nat):Nd:=List.getD (QdZ a) (Int.toNat (↑b:Int)) HB
theorem Bjp(n:Nd)(hn:n.sm)(ho:n.va.ok)(h1:RBdy n.bo)(h2:∀b∈n.ki,RVal b):RVal n:=by
 refine Bg (A:=sC _ _) (x:=()) (E:=Erva n) (eOk (BhJ hn ho h1 h2) rfl) Tryz.func66 rfl (by kernel_rfl) rfl (by simp[sC,Erva,EC,E0]) ?_
 refine Bi (T :=
  ∀(x:Nat),True->SM x/\ifB (decide (QkH n<Z0)) (Yy n) (SM x/\ifB (decide (QkI n<Z0)) (Yy n) (SM x/\ifB (decide (QkJ n<Z0)) (Yy n) (SM x/\ifB (decide (QkK n<Z0)) (Yy n) (SM x/\ifB (QkL n==10) (SM x/\∃(x:Unit),QkR n/\∀(y:Unit),True->RT (WQ n=QdX n)) (SM x/\∃(x_1:Unit),QkR n/\∀(y:Unit),True->ifB (OG n) (QDN n) (SM x/\∃(x_2:Unit),QkR n/\∀(y:Unit),True->ifB (!Gk n) (Yy n) ((∃(x_3:Nat),QkS x_3 n/\(Z0=(↑x_3:Int)/\True)/\QDO x n)/\∀(x_3:Nat),QkS x_3 n->SM x/\ifB (decide ((↑x_3:Int)<(NI (VE n)))) (SM x/\Bc (Z0<=(↑x_3:Int)/\(↑x_3:Int)<(NI (VE n))) (∃(x_4:Nd),(isN x_4 [D.agg (Nd.rowE (KM n x_3))] []/\x_4∈QdZ n)/\∀(y:Unit),True->ifB (!QdX x_4) (Yy n) ((SM (QDM n)/\SM (D.ref N0 x N0)/\True)/\∃(y:Nat),QkS y n/\VE n-y<VE n-x_3/\(IntKind.wrap IntKind.i64 ((↑x_3:Int)+Z1)=(↑y:Int)/\True)/\QDO x n))) (QDN n))))))))) (by kernel_rfl) ?_
 delta DA GI LN N0 N1 N4 NI SI SM Z0 Z1 ZI QkH QdX Yy QkI QkJ QkK QkL QDx QDy QDz QDA QdY QDB QDC QkM QDD QDE QkN QDF QDG QkO QkP QDH QdZ VE HB QDI QDJ QkQ QDK QDL QDM QkR QDN QkS QDO KM RT
 try simp only[<- dm]
 try simp only[<- dn]
 simp only[ne_eq,implies_true,Int.toNat_natCast,Bf,Bd,decide_eq_true_eq,decide_eq_false_iff_not,true_and,and_true,beq_iff_eq,beq_eq_false_iff_ne,Bool.not_eq_true',Bool.not_eq_false',exists_const,forall_const]
 have hl:=Ch (Cb hn).2.1
 unfold maxLen at hl
 have e:=Bij n
 have no:TY n=false->false=Bz n:=fun h=>by rw[e,h];rfl
 refine⟨fun c=>no ?_,fun c1=>⟨fun c=>no ?_,fun c2=>⟨fun c=>no ?_,fun c3=>⟨fun c=>no ?_,fun c4=>?_⟩⟩⟩⟩
 ·unfold TY;rw[decide_eq_false (by omega)];rfl
 ·unfold TY;rw[decide_eq_false (p:=0<=n.de) (by omega)];simp
 ·unfold TY;rw[decide_eq_false (p:=0<=n.sl) (by omega)];simp
 ·unfold TY;rw[decide_eq_false (p:=0<=n.ss) (by omega)];simp
 have hp:TY n=true:=by
  unfold TY
  rw[decide_eq_true (by omega),decide_eq_true (by omega),decide_eq_true (by omega),decide_eq_true (by omega)];rfl
 rw[hp,Bool.true_and] at e
 clear no
 refine⟨fun k=>⟨CJ n _,?_⟩,fun k=>⟨CJ n _,fun c=>?_,fun c=>⟨CJ n _,fun d=>?_,fun d=>⟨⟨0,⟨Nat.zero_le _,fun j hj=>absurd hj (by omega)⟩,rfl⟩,fun i ⟨i1,hi⟩=>⟨fun hlt=>?_,fun hge=>?_⟩⟩⟩⟩⟩
 ·rw[e,if_pos k]
 ·rw[e,if_neg k,c];rfl
 ·rw[e,if_neg k,c,d];rfl
 ·have hi1:i<n.ki.length:=by omega
  refine⟨⟨by omega,by omega⟩,n.ki.getD i default,⟨Bl _ _,BW hi1⟩,fun f=>?_,fun f=>⟨i+1,⟨hi1,fun j hj=>?_⟩,by omega,Ba (by omega) (by omega)⟩⟩
  ·rw[e,if_neg k,c,d,Blo hi1 f];rfl
  ·by_cases e':j=i
   ·rw[e'];exact f
   ·exact hi j (by omega)
 ·rw[e,if_neg k,c,d,Bf5 fun j hj=>hi j (by omega)];rfl
def BdU:Con:=fun k ds S=>match k with
 |66=>some (pE (β:=Nd) ds S (fun b=>.bool (Bz b)) (fun b=>isN b ds []/\RVal b))
 |67=>some (pE (β:=Nd) ds S (fun b=>.bool (Cx b)) (fun b=>isN b ds []/\b.ok/\b.sm))
 |68=>match ds with
  | [.str s]=>some (pA ds S (.bool (Ce s)) True)
  |_=>none
 |_=>none
theorem Bih:ConOk Tryz.prog BdU:=by
 intro k ds S A hh
 unfold BdU at hh
 split at hh
 ·injection hh with hh;subst hh
  exact Co fun b ⟨e,h⟩=>CD.at_ (CD.isN h e) _
 ·injection hh with hh;subst hh
  exact Co fun b ⟨e,h⟩=>CD.at_ (CD.isN (Bqw b h.1 h.2) e) _
 ·split at hh
  ·injection hh with hh;subst hh
   exact Bo fun _=>CD.at_ (BnQ _) _
  ·cases hh
 ·cases hh
theorem Bhw{l:List Sm}{x:Nat}{v:List UInt8}:(B1 (l.take x)).contains v=true↔∃j,j<x/\j<l.length/\(l.getD j default).kd=2/\(l.getD j default).nm=v:=by
 rw[List.contains_eq_mem,decide_eq_true_eq]
 unfold B1
 simp only[List.mem_map,List.mem_filter,beq_iff_eq]
 constructor
 ·rintro ⟨s,⟨hm,hk⟩,hn⟩
  obtain ⟨j,hj,e⟩:=List.getElem_of_mem hm
  rw[List.getElem_take] at e
  rw[List.length_take] at hj
  have h1:j<l.length:=by omega
  refine⟨j,by omega,h1,?_,?_⟩
  ·rw[List.getD_eq_getElem?_getD,List.getElem?_eq_getElem h1,Option.getD_some,e];exact hk
  ·rw[List.getD_eq_getElem?_getD,List.getElem?_eq_getElem h1,Option.getD_some,e];exact hn
 ·rintro ⟨j,h1,h2,hk,hn⟩
  have h3:j<(l.take x).length:=by rw[List.length_take];omega
  have e:(l.take x)[j]=l.getD j default:=by rw[List.getElem_take,List.getD_eq_getElem?_getD,List.getElem?_eq_getElem h2];rfl
  exact⟨l.getD j default,⟨by rw[<- e];exact List.getElem_mem h3,hk⟩,hn⟩
noncomputable def Erbo(l:List Sm):Senv:={ EC BdU 130 1 [2,3,4,5,8,12,27,29,30,51,52,56,74,101,102,129] (fun id=>match id with | 18=>([0,1,2,3,4,5,6,7,8,9,10,11,12,13,14,15],[]) | _=>([],[])) with
 mg:=fun _=>2
 ann:=fun b env S=>match b with
  |0=>some { slots:=[3],keep:=[0],α:=Nat,st:=fun i=>([.int .i64 i],S),inv:=fun i=>i<=l.length/\Cc true [] l=Cc true (B1 (l.take i)) (l.drop i),mu:=fun i=>l.length-i }
  |3=>match Ab.look env 3 with
   |.int _ i=>some { slots:=[5],keep:=[0,3,4],α:=Nat,st:=fun y=>([.int .i64 y],S),inv:=fun y=>y<=i.toNat/\∀j,j<y->¬((l.getD j default).kd=2/\(l.getD j default).nm=(l.getD i.toNat default).nm),mu:=fun y=>i.toNat-y }
   |_=>none
  |_=>none }
def Qr(a:List Sm):Prop:=True/\∃(_y:Unit),True/\false=BP true a/\True/\True
def QkT(a:Nat)(b:List Sm):Prop:=a<=LN b/\Cc true [] b=Cc true (B1 (List.take a b)) (List.drop a b)
def HC:Arr:=DA
def Yz:Nd:=Nd.mk Z0 Z0 Z0 [] Z0 Z0 HC [] [] Z0 Z0 Z0
def YA:Sm:=Sm.mk Z0 Z0 [] Z0 Yz Yz
def YB(a:List Sm)(b:Nat):Sm:=List.getD a (Int.toNat (↑b:Int)) YA
def QDS(a:List Sm)(b:Nat):Int:=Sm.at_ (YB a b)
def KN(a:List Sm)(b:Nat):Nd:=Sm.nd (YB a b)
def QkU(a:List Sm)(b:Nat):Int:=Nd.kd (KN a b)
def QDT(a:List Sm)(b:Nat):Int:=Nd.at_ (KN a b)
def Qd1(a:List Sm)(b:Nat):Int:=Nd.cl (KN a b)
def QDU(a:List Sm)(b:Nat):List UInt8:=Nd.tx (KN a b)
def QDV(a:List Sm)(b:Nat):Int:=Nd.pr (KN a b)
def QDW(a:List Sm)(b:Nat):Int:=Nd.op (KN a b)
def Qd2(a:List Sm)(b:Nat):Arr:=Nd.va (KN a b)
def QDX(a:List Sm)(b:Nat):Int:=Arr.k (Qd2 a b)
def QDY(a:List Sm)(b:Nat):List Int:=Arr.sh (Qd2 a b)
def QkV(a:List Sm)(b:Nat):Nat:=LN (QDY a b)
def QDZ(a:List Sm)(b c:Nat):List D:=[ZI (GI (QDY a b) c)]
def QD0(a:List Sm)(b:Nat):List Int:=Arr.nu (Qd2 a b)
def QkW(a:List Sm)(b:Nat):Nat:=LN (QD0 a b)
def QD1(a:List Sm)(b c:Nat):List D:=[ZI (GI (QD0 a b) c)]
def QD2(a:List Sm)(b:Nat):List Arr:=Arr.it (Qd2 a b)
def QkX(a:List Sm)(b:Nat):Nat:=LN (QD2 a b)
def QD3(a:List Sm)(b c:Nat):List D:=Arr.row (List.getD (QD2 a b) c HC)
def QD4(a:List Sm)(b:Nat):List Nd:=Nd.ki (KN a b)
def QkY(a:List Sm)(b:Nat):Nat:=LN (QD4 a b)
def QD5(a:List Sm)(b c:Nat):List D:=Nd.row (List.getD (QD4 a b) c Yz)
def QD6(a:List Sm)(b:Nat):List Sm:=Nd.bo (KN a b)
def QkZ(a:List Sm)(b:Nat):Nat:=LN (QD6 a b)
def QD7(a:List Sm)(b c:Nat):List D:=Sm.row (List.getD (QD6 a b) c YA)
def QD8(a:List Sm)(b:Nat):Int:=Nd.de (KN a b)
def QD9(a:List Sm)(b:Nat):Int:=Nd.sl (KN a b)
def QEa(a:List Sm)(b:Nat):Int:=Nd.ss (KN a b)
def Qd3(a:List Sm)(b:Nat):Int:=Sm.kd (YB a b)
def QEb(a:List Sm)(b:Nat):Bool:=Qd1 a b != Z1
def YC(a:List Sm)(b:Nat):List UInt8:=Sm.nm (YB a b)
def QEc(a:List Sm)(b:Nat):Bool:=YC a b != []
def Qk0(a:List Sm)(b:Nat):Int:=Sm.sl (YB a b)
def QEd(a:List Sm)(b:Nat):Bool:=Qk0 a b != Z0
def KO(a:List Sm)(b:Nat):Nd:=Sm.te (YB a b)
def QEe(a:List Sm)(b:Nat):Int:=Nd.kd (KO a b)
def QEf(a:List Sm)(b:Nat):Int:=Nd.at_ (KO a b)
def Qk1(a:List Sm)(b:Nat):Int:=Nd.cl (KO a b)
def QEg(a:List Sm)(b:Nat):List UInt8:=Nd.tx (KO a b)
def QEh(a:List Sm)(b:Nat):Int:=Nd.pr (KO a b)
def QEi(a:List Sm)(b:Nat):Int:=Nd.op (KO a b)
def Qd4(a:List Sm)(b:Nat):Arr:=Nd.va (KO a b)
def QEj(a:List Sm)(b:Nat):Int:=Arr.k (Qd4 a b)
def QEk(a:List Sm)(b:Nat):List Int:=Arr.sh (Qd4 a b)
def Qk2(a:List Sm)(b:Nat):Nat:=LN (QEk a b)
def QEl(a:List Sm)(b c:Nat):List D:=[ZI (GI (QEk a b) c)]
def QEm(a:List Sm)(b:Nat):List Int:=Arr.nu (Qd4 a b)
def Qk3(a:List Sm)(b:Nat):Nat:=LN (QEm a b)
def QEn(a:List Sm)(b c:Nat):List D:=[ZI (GI (QEm a b) c)]
def QEo(a:List Sm)(b:Nat):List Arr:=Arr.it (Qd4 a b)
def Qk4(a:List Sm)(b:Nat):Nat:=LN (QEo a b)
def QEp(a:List Sm)(b c:Nat):List D:=Arr.row (List.getD (QEo a b) c HC)
def QEq(a:List Sm)(b:Nat):List Nd:=Nd.ki (KO a b)
def Qk5(a:List Sm)(b:Nat):Nat:=LN (QEq a b)
def QEr(a:List Sm)(b c:Nat):List D:=Nd.row (List.getD (QEq a b) c Yz)
def QEs(a:List Sm)(b:Nat):List Sm:=Nd.bo (KO a b)
def Qk6(a:List Sm)(b:Nat):Nat:=LN (QEs a b)
def QEt(a:List Sm)(b c:Nat):List D:=Sm.row (List.getD (QEs a b) c YA)
def QEu(a:List Sm)(b:Nat):Int:=Nd.de (KO a b)
def QEv(a:List Sm)(b:Nat):Int:=Nd.sl (KO a b)
def QEw(a:List Sm)(b:Nat):Int:=Nd.ss (KO a b)
def QEx(a:Nd)(b:List Sm)(c:Nat):Prop:=isN a [D.agg (Nd.rowE (Sm.te (List.getD b (Int.toNat (↑ c : Int)) (Sm.mk 0 0 [] 0 (Nd.mk 0 0 0 [] 0 0 (Arr.mk 0 [] [] []) [] [] 0 0 0) (Nd.mk 0 0 0 [] 0 0 (Arr.mk 0 [] [] []) [] [] 0 0 0)))))] []
def QEy(a:Nd)(b:List Sm)(c:Nat):Prop:=QEx a b c/\Nd.ok a/\Nd.sm a
def YD(a:List Sm)(b:Nat):Sm:=List.getD a b YA
def QEz(a:List Sm)(b:Nat):Int:=Sm.kd (YD a b)
def QEA(a:List Sm)(b:Nat):List UInt8:=Sm.nm (YD a b)
def QRl(a:List Sm):D:=D.sl 34 (LN a) (fun i=>(Sm.row1 (List.getD a i (Sm.mk 0 0 [] 0 (Nd.mk 0 0 0 [] 0 0 (Arr.mk 0 [] [] []) [] [] 0 0 0) (Nd.mk 0 0 0 [] 0 0 (Arr.mk 0 [] [] []) [] [] 0 0 0))))) Mode.any
def QEH(a:List Sm):Prop:=SM (QRl a)
def Qd7(a:List Sm)(b:Nat):Prop:=(QEH a/\True)/\∃(y:Nat),QkT y a/\LN a-y<LN a-b/\(IntKind.wrap IntKind.i64 ((↑b:Int)+Z1)=(↑y:Int)/\True)/\True/\True
def QEI(a:List Sm)(b:Nat):Bool:=Qd3 a b==2
def Qk7(a b:Nat)(c:List Sm):Prop:=a<=Int.toNat (↑b:Int)/\∀(j:Nat),j<a->¬(QEz c j=2/\QEA c j=YC c b)
def QEJ(a:Nat)(b:List Sm)(c:Nat):Prop:=(SM a/\(SM (Qd3 b c)/\SM (QDS b c)/\SM (YC b c)/\SM (Qk0 b c)/\SM (QEe b c)/\SM (QEf b c)/\SM (Qk1 b c)/\SM (QEg b c)/\SM (QEh b c)/\SM (QEi b c)/\SM (QEj b c)/\(SM (Qk2 b c)/\(∀(i:Nat),i<Qk2 b c->SM (QEl b c i))/\True)/\(SM (Qk3 b c)/\(∀(i:Nat),i<Qk3 b c->SM (QEn b c i))/\True)/\(SM (Qk4 b c)/\(∀(i:Nat),i<Qk4 b c->SM (QEp b c i))/\True)/\(SM (Qk5 b c)/\(∀(i:Nat),i<Qk5 b c->SM (QEr b c i))/\True)/\(SM (Qk6 b c)/\(∀(i:Nat),i<Qk6 b c->SM (QEt b c i))/\True)/\SM (QEu b c)/\SM (QEv b c)/\SM (QEw b c)/\SM (QkU b c)/\SM (QDT b c)/\SM (Qd1 b c)/\SM (QDU b c)/\SM (QDV b c)/\SM (QDW b c)/\SM (QDX b c)/\(SM (QkV b c)/\(∀(i:Nat),i<QkV b c->SM (QDZ b c i))/\True)/\(SM (QkW b c)/\(∀(i:Nat),i<QkW b c->SM (QD1 b c i))/\True)/\(SM (QkX b c)/\(∀(i:Nat),i<QkX b c->SM (QD3 b c i))/\True)/\(SM (QkY b c)/\(∀(i:Nat),i<QkY b c->SM (QD5 b c i))/\True)/\(SM (QkZ b c)/\(∀(i:Nat),i<QkZ b c->SM (QD7 b c i))/\True)/\SM (QD8 b c)/\SM (QD9 b c)/\SM (QEa b c)/\True)/\True)/\True
def QEK(a:List Sm)(b c d:Nat):Prop:=(QEH a/\SM (ZI (↑b:Int))/\SM (D.ref N0 c N0)/\True)/\∃(y:Nat),Qk7 y b a/\Int.toNat (↑b:Int)-y<Int.toNat (↑b:Int)-d/\(IntKind.wrap IntKind.i64 ((↑d:Int)+Z1)=(↑y:Int)/\True)/\QEJ c a b
theorem Bdo(l:List Sm)(hl:l.length<=BC)(h:∀s∈l,RVal s.nd/\RVal s.te/\(s.te.ok/\s.te.sm)):RBdy l:=by
 refine Bg (A:=sC _ _) (x:=()) (E:=Erbo l) (eOk Bih rfl) Tryz.func43 rfl (by kernel_rfl) rfl (by simp[sC,Erbo,EC,E0]) ?_
 refine Bi (T :=
  ifB (decide ((1000:Int)<(LI l))) (Qr l) ((∃(x:Nat),QkT x l/\(Z0=(↑x:Int)/\True)/\True/\True)/\∀(x:Nat),QkT x l->ifB (decide ((↑x:Int)<(LI l))) (Bc (Z0<=(↑x:Int)/\(↑x:Int)<(LI l)) (∀(x_1:Nat),True->SM x_1/\SM x_1/\ifB (decide (QDS l x<Z0)) (Qr l) (SM x_1/\∃(x_2:Nd),(isN x_2 [D.agg (Nd.rowE (Sm.nd (List.getD l (Int.toNat (↑ x : Int)) (Sm.mk 0 0 [] 0 (Nd.mk 0 0 0 [] 0 0 (Arr.mk 0 [] [] []) [] [] 0 0 0) (Nd.mk 0 0 0 [] 0 0 (Arr.mk 0 [] [] []) [] [] 0 0 0)))))] []/\RVal x_2)/\∀(y:Unit),True->ifB (!Bz x_2) (Qr l) (SM x_1/\ifB (Qd3 l x==Z1) (SM x_1/\ifB (QEb l x) (Qr l) (SM x_1/\ifB (QEc l x) (Qr l) (SM x_1/\ifB (QEd l x) (Qr l) (SM x_1/\∃(x_3:Nd),QEy x_3 l x/\∀(y:Unit),True->ifB (!Cx x_3) (Qr l) (Qd7 l x))))) (ifB (QEI l x) ((∃(x_3:Nat),Qk7 x_3 x l/\(Z0=(↑x_3:Int)/\True)/\QEJ x_1 l x)/\∀(x_3:Nat),Qk7 x_3 x l->ifB (decide ((↑x_3:Int)<(↑x:Int))) (Bc (Z0<=(↑x_3:Int)/\(↑x_3:Int)<(LI l)) (ifB (QEI l x_3) (Bc (Z0<=(↑x_3:Int)/\(↑x_3:Int)<(LI l)) (SM x_1/\ifB (YC l x_3==YC l x) (Qr l) (QEK l x x_1 x_3))) (QEK l x x_1 x_3))) (SM x_1/\∃(x_4:Unit),True/\∀(y:Unit),True->ifB (!Ce (YC l x)) (Qr l) (SM x_1/\ifB (decide (Qk0 l x<Z0)) (Qr l) (SM x_1/\∃(x_5:Nd),QEy x_5 l x/\∀(y:Unit),True->ifB (!Cx x_5) (Qr l) (SM x_1/\ifB (decide ((3:Int)<=Qd1 l x)) (SM x_1/\ifB (QkU l x != (10:Int)) (Qr l) (Qd7 l x)) (Qd7 l x)))))) (ifB (Qd3 l x==3) (SM x_1/\ifB (QEb l x) (Qr l) (SM x_1/\∃(x_3:Nd),(QEx x_3 l x/\RVal x_3)/\∀(y:Unit),True->ifB (!Bz x_3) (Qr l) (SM x_1/\ifB (Qk1 l x != Z1) (Qr l) (SM x_1/\ifB (QEc l x) (Qr l) (SM x_1/\ifB (QEd l x) (Qr l) (Qd7 l x)))))) (Qr l))))))) (RT (true=BP true l)))) (by kernel_rfl) ?_
 delta DA GI LI LN N0 N1 N4 SI SM Z0 Z1 ZI QD7 QD8 QD9 QEa Qd3 QEb YC QEc Qk0 QEd KO QEe QEf Qk1 QEg QEh QEi Qd4 QEj QEk Qk2 QEl QEm Qk3 QEn QEo Qk4 QEp QEq Qk5 QEr QEs Qk6 QEt QEu QEv QEw QEx QEy YD QEz QEA QRl QEH Qd7 QEI Qk7 QEJ QEK Qr QkT HC Yz YA YB QDS KN QkU QDT Qd1 QDU QDV QDW Qd2 QDX QDY QkV QDZ QD0 QkW QD1 QD2 QkX QD3 QD4 QkY QD5 QD6 QkZ RT
 try simp only[<- dm]
 try simp only[<- dn]
 simp only[ne_eq,implies_true,Int.toNat_natCast,Bf,Bd,decide_eq_true_eq,decide_eq_false_iff_not,true_and,and_true,beq_iff_eq,bne_iff_ne,bne_eq_false_iff_eq,beq_eq_false_iff_ne,Bool.not_eq_true',Bool.not_eq_false',exists_const,forall_const]
 unfold BC at hl
 have hbody:BP true l=(decide (l.length<=1000)&&Cc true [] l):=rfl
 refine⟨fun c=>?_,fun c=>⟨⟨0,⟨Nat.zero_le _,rfl⟩,rfl⟩,fun x ⟨x1,hx⟩=>⟨fun hlt=>?_,fun hge=>?_⟩⟩⟩
 ·rw[hbody,decide_eq_false (by omega)];rfl
 ·have hlt':x<l.length:=by omega
  rw[decide_eq_true (by omega),Bool.true_and,hx,Ot hlt',<- BfE] at hbody
  obtain ⟨v1,v2,v3⟩:=h _ (C4 hlt')
  have w:IntKind.i64.wrap ((x:Int)+1)=((x+1:Nat):Int):=by rw[Ba (by omega) (by omega)];rfl
  have no:BlQ (B1 (l.take x)) (l.getD x default)=false->false=BP true l:=fun h=>by rw[hbody,h];rfl
  have go:BlQ (B1 (l.take x)) (l.getD x default)=true->∃y,(y<=l.length/\Cc true [] l=Cc true (B1 (List.take y l)) (List.drop y l))/\l.length-y<l.length-x/\IntKind.i64.wrap ((x:Int)+1)=(y:Int):=fun h =>
   ⟨x+1,⟨hlt',by rw[hx,Ot hlt',<- BfE,h,Bool.true_and]⟩,by omega,w⟩
  have nin:=Bhw (l:=l) (x:=x) (v:=(l.getD x default).nm)
  clear hx hbody h w
  unfold BlQ at no go
  generalize hs:l.getD x default=s at *
  refine⟨⟨by omega,hlt⟩,fun a0=>no ?_,fun a0=>⟨s.nd,⟨Bl _ _,v1⟩,fun a1=>no ?_,fun a1=>?_⟩⟩
  ·rw[decide_eq_false (by omega)];rfl
  ·rw[a1];simp
  have at0:decide (0<=s.at_)=true:=decide_eq_true (by omega)
  rw[at0,a1] at no go
  refine⟨fun k1=>?_,fun n1=>⟨fun k2=>?_,fun n2=>⟨fun k3=>?_,fun n3=>?_⟩⟩⟩
  ·rw[if_pos k1] at no go
   clear nin
   refine⟨fun b1=>no ?_,fun b1=>⟨fun b2=>no ?_,fun b2=>⟨fun b3=>no ?_,fun b3=>⟨s.te,⟨Bl _ _,v3⟩,fun b4=>no ?_,fun b4=>go ?_⟩⟩⟩⟩
   all_goals simp_all
  ·rw[if_neg n1,if_pos k2] at no go
   refine⟨⟨0,⟨Nat.zero_le _,fun j hj=>absurd hj (by omega)⟩,rfl⟩,fun y ⟨y1,hy⟩=>⟨fun hly=>⟨⟨by omega,by omega⟩,fun b1=>⟨⟨by omega,by omega⟩,fun b2=>no ?_,fun b2=>⟨y+1,⟨by omega,fun j hj=>?_⟩,by omega,Ba (by omega) (by omega)⟩⟩,fun b1=>⟨y+1,⟨by omega,fun j hj=>?_⟩,by omega,Ba (by omega) (by omega)⟩⟩,fun hgy=>?_⟩⟩
   ·rw[nin.2 ⟨y,by omega,by omega,b1,b2⟩];simp
   ·by_cases e':j=y
    ·rw[e'];exact fun e=>b2 e.2
    ·exact hy j (by omega)
   ·by_cases e':j=y
    ·rw[e'];exact fun e=>b1 e.1
    ·exact hy j (by omega)
   ·have hn:(B1 (l.take x)).contains s.nm=false:=by
     cases e:(B1 (l.take x)).contains s.nm with
     |false=>rfl
     |true =>
      obtain ⟨j,j1,_,j3,j4⟩:=nin.1 e
      exact (hy j (by omega) ⟨j3,j4⟩).elim
    rw[hn] at no go
    clear nin hn hy
    refine⟨fun b1=>no ?_,fun b1=>⟨fun b2=>no ?_,fun b2=>⟨s.te,⟨Bl _ _,v3⟩,fun b4=>no ?_,fun b4=>⟨fun b5=>⟨fun b6=>no ?_,fun b6=>go ?_⟩,fun b5=>go ?_⟩⟩⟩⟩
    ·rw[b1];simp
    ·rw[decide_eq_false (p:=0<=s.sl) (by omega)];simp
    ·rw[b4];simp
    ·rw[decide_eq_true (p:=3<=s.nd.cl) b5];simp[b6]
    ·rw[b1,b4,b6,decide_eq_true (p:=0<=s.sl) (by omega)];simp
    ·rw[b1,b4,decide_eq_true (p:=0<=s.sl) (by omega),decide_eq_false (p:=3<=s.nd.cl) b5];rfl
  ·rw[if_neg n1,if_neg n2,if_pos k3] at no go
   clear nin
   refine⟨fun b1=>no ?_,fun b1=>⟨s.te,⟨Bl _ _,v2⟩,fun b2=>no ?_,fun b2=>⟨fun b3=>no ?_,fun b3=>⟨fun b4=>no ?_,fun b4=>⟨fun b5=>no ?_,fun b5=>go ?_⟩⟩⟩⟩⟩
   all_goals simp_all
  ·rw[if_neg n1,if_neg n2,if_neg n3] at no
   exact no (by simp)
 ·have e:x=l.length:=by omega
  rw[e,U8 (Nat.le_refl _)] at hx
  rw[hbody,hx,decide_eq_true (by omega)];rfl
def GQ(k:Nat)(m:Int):Int:=if (k:Int)<=m+1 then (k:Int) else m+1
def RDep(n:Nd)(m:Int):Prop:=CD 41 [.agg n.row2,.int .i64 m] (.int .i64 (GQ (dpN n) m))
theorem BkF{l:List Nd}{i:Nat}(h:i<l.length):dpL (l.take (i+1))=max (dpL (l.take i)) (dpN (l.getD i default)):=by
 rw[B6 h,UG]
 simp only[dpL]
 omega
theorem Bf8:∀a b:List Sm,dpB (a++b)=max (dpB a) (dpB b)
 | [],b=>by simp only[List.nil_append,dpB];omega
 |x::a,b=>by simp only[List.cons_append,dpB,Bf8 a b];omega
theorem Bj8(s:Sm):dpM s=if s.kd=3 then max (dpN s.te) (dpN s.nd) else dpN s.nd:=by
 cases s
 simp only[dpM]
 rfl
theorem Bj6{l:List Sm}{i:Nat}(h:i<l.length):dpB (l.take (i+1))=max (dpB (l.take i)) (dpM (l.getD i default)):=by
 rw[B6 h,Bf8]
 simp only[dpB]
 omega
theorem Bpd(n:Nd):dpN n=1+max (dpL n.ki) (dpB n.bo):=by
 cases n
 simp only[dpN]
 rfl
def BdR(p:Nd->Prop):Con:=fun k ds S=>match k with
 |41=>match ds with
  | [_,.int .i64 m]=>some (pE (β:=Nd) ds S (fun b=>.int .i64 (GQ (dpN b) m)) (fun b=>isN b ds [.int .i64 m]/\0<=m/\m<=60/\p b))
  |_=>none
 |_=>none
theorem BgY{p:Nd->Prop}(h:∀b,p b->∀m,0<=m->m<=60->RDep b m):ConOk Tryz.prog (BdR p):=by
 intro k ds S A hh
 unfold BdR at hh
 split at hh
 ·split at hh
  ·injection hh with hh;subst hh
   exact Co fun b ⟨e,h0,h1,hb⟩=>CD.at_ (CD.isN (h b hb _ h0 h1) e) _
  ·cases hh
 ·cases hh
noncomputable def Erdp(p:Nd->Prop)(n:Nd)(m:Int):Senv:={ EC (BdR p) 65 3 [4,5,6,7,9,14,31,51] (fun _=>([],[])) with
 mg:=fun _=>2
 ann:=fun b _ S=>match b with
  |0=>some { slots:=[6,5],keep:=[0,1,2],α:=Nat×Int,st:=fun y=>([.int .i64 y.1,.int .i64 y.2],S),inv:=fun y=>y.1<=n.ki.length/\0<=y.2/\y.2=GQ (dpL (n.ki.take y.1)) (m-1),mu:=fun y=>n.ki.length-y.1 }
  |2=>some { slots:=[7,5],keep:=[0,1,2],α:=Nat×Int,st:=fun y=>([.int .i64 y.1,.int .i64 y.2],S),inv:=fun y=>y.1<=n.bo.length/\0<=y.2/\y.2=GQ (max (dpL n.ki) (dpB (n.bo.take y.1))) (m-1),mu:=fun y=>n.bo.length-y.1 }
  |_=>none }
def QEL(a:Nd)(b:Int):Int:=GQ (dpN a) b
def HD(a:Nd):List Nd:=Nd.ki a
def VF(a:Nd):Nat:=LN (HD a)
def Qk8(a:Nat)(b:Nd)(c d:Int):Prop:=a<=VF b/\Z0<=c/\c=GQ (dpL (List.take a (HD b))) (d-Z1)
def QEM(a:Nd):Int:=Nd.kd a
def QEN(a:Nd):Int:=Nd.at_ a
def QEO(a:Nd):Int:=Nd.cl a
def QEP(a:Nd):List UInt8:=Nd.tx a
def QEQ(a:Nd):Int:=Nd.pr a
def QER(a:Nd):Int:=Nd.op a
def Qd8(a:Nd):Arr:=Nd.va a
def QES(a:Nd):Int:=Arr.k (Qd8 a)
def QET(a:Nd):List Int:=Arr.sh (Qd8 a)
def Qk9(a:Nd):Nat:=LN (QET a)
def QEU(a:Nd)(b:Nat):List D:=[ZI (GI (QET a) b)]
def QEV(a:Nd):List Int:=Arr.nu (Qd8 a)
def Qla(a:Nd):Nat:=LN (QEV a)
def QEW(a:Nd)(b:Nat):List D:=[ZI (GI (QEV a) b)]
def QEX(a:Nd):List Arr:=Arr.it (Qd8 a)
def Qlb(a:Nd):Nat:=LN (QEX a)
def HE:Arr:=DA
def QEY(a:Nd)(b:Nat):List D:=Arr.row (List.getD (QEX a) b HE)
def Xw:Nd:=Nd.mk Z0 Z0 Z0 [] Z0 Z0 HE [] [] Z0 Z0 Z0
def QEZ(a:Nd)(b:Nat):List D:=Nd.row1 (List.getD (HD a) b Xw)
def Qd9(a:Nd):List Sm:=Nd.bo a
def Xx(a:Nd):Nat:=LN (Qd9 a)
def HF:Sm:=Sm.mk Z0 Z0 [] Z0 Xw Xw
def QE0(a:Nd)(b:Nat):List D:=Sm.row1 (List.getD (Qd9 a) b HF)
def QE1(a:Nd):Int:=Nd.de a
def QE2(a:Nd):Int:=Nd.sl a
def QE3(a:Nd):Int:=Nd.ss a
def Qea(a:Nat)(b:Nd):Prop:=(SM a/\(SM (QEM b)/\SM (QEN b)/\SM (QEO b)/\SM (QEP b)/\SM (QEQ b)/\SM (QER b)/\SM (QES b)/\(SM (Qk9 b)/\(∀(i:Nat),i<Qk9 b->SM (QEU b i))/\True)/\(SM (Qla b)/\(∀(i:Nat),i<Qla b->SM (QEW b i))/\True)/\(SM (Qlb b)/\(∀(i:Nat),i<Qlb b->SM (QEY b i))/\True)/\(SM (VF b)/\(∀(i:Nat),i<VF b->SM (QEZ b i))/\True)/\(SM (Xx b)/\(∀(i:Nat),i<Xx b->SM (QE0 b i))/\True)/\SM (QE1 b)/\SM (QE2 b)/\SM (QE3 b)/\True)/\True)/\True
def KR(a:Nd)(b:Nat):Nd:=List.getD (HD a) (Int.toNat (↑b:Int)) Xw
def Qec(a:Int):Int:=IntKind.wrap IntKind.i64 (a-Z1)
def YE(a:Int):List D:=[ZI (Qec a)]
def Qlc(a:Int)(b:Nd->Prop)(c:Nd):Prop:=Z0<=Qec a/\Qec a<=60/\b c
def QRo(a:Nd):D:=D.agg (Nd.row2 a)
def Qld(a:Nd)(b:Int)(c:Nat):Prop:=SM (QRo a)/\SM (ZI b)/\SM (D.ref N0 c N0)/\True
def Qed(a:Nd)(b:Int):Int:=GQ (dpN a) (Qec b)
def Qle(a:Int)(b:Nd)(c:Int):Int:=if a<Qed b c then Qed b c else a
def QE7(a b:Nat)(c:Int)(d:Nd)(e f:Int)(g:Nat)(h:Nd):Prop:=(IntKind.wrap IntKind.i64 ((↑a:Int)+Z1)=(↑b:Int)/\Qle c d e=f/\True)/\Qea g h
def Qee(a:Nat)(b:Nd)(c d:Int):Prop:=a<=Xx b/\Z0<=c/\c=GQ (max (dpL (HD b)) (dpB (List.take a (Qd9 b)))) (d-Z1)
def Qef(a:Nd):Int:=(NI (Xx a))
def Qlf(a:Nd)(b:Nat):Sm:=List.getD (Qd9 a) (Int.toNat (↑b:Int)) HF
def KS(a:Nd)(b:Nat):Nd:=Sm.nd (Qlf a b)
def KT(a:Nd)(b:Nat):Nd:=Sm.te (Qlf a b)
def QFe(a:Nd)(b c:Nat):Prop:=Xx a-b<Xx a-c
theorem Bjq(p:Nd->Prop)(n:Nd)(m:Int)(h0:0<=m)(h1:m<=60)(hn:n.sm)(h:∀b,p b->∀m,0<=m->m<=60->RDep b m)(hk:∀b∈n.ki,p b)(hb:∀s∈n.bo,p s.te/\p s.nd):RDep n m:=by
 refine Bg (A:=sC _ _) (x:=()) (E:=Erdp p n m) (eOk (BgY h) rfl) Tryz.func41 rfl (by kernel_rfl) rfl (by simp[sC,Erdp,EC,E0]) ?_
 refine Bi (T :=
  ∀(x:Nat),True->ifB (decide (m<=Z0)) (RT (Z1=QEL n m)) ((∃(x_1:Nat×Int),Qk8 x_1.1 n x_1.2 m/\(Z0=(NI x_1.1)/\Z0=x_1.2/\True)/\Qea x n)/\∀(x_1:Nat×Int),Qk8 x_1.1 n x_1.2 m->SM x/\ifB (decide ((NI x_1.1)<(NI (VF n)))) (SM x/\Bc (Z0<=(NI x_1.1)/\(NI x_1.1)<(NI (VF n))) (∃(x_2:Nd),(isN x_2 (D.agg (Nd.rowE (KR n x_1.1))::YE m) (YE m)/\Qlc m p x_2)/\∀(y:Unit),True->Qld n m x/\∃(y:Nat×Int),Qk8 y.1 n y.2 m/\VF n-y.1<VF n-x_1.1/\QE7 x_1.1 y.1 x_1.2 x_2 m y.2 x n)) ((∃(x_2:Nat×Int),Qee x_2.1 n x_2.2 m/\(Z0=(NI x_2.1)/\x_1.2=x_2.2/\True)/\Qea x n)/\∀(x_2:Nat×Int),Qee x_2.1 n x_2.2 m->SM x/\ifB (decide ((NI x_2.1)<Qef n)) (SM x/\Bc (Z0<=(NI x_2.1)/\(NI x_2.1)<Qef n) (∃(x_3:Nd),(isN x_3 (D.agg (Nd.rowE (KS n x_2.1))::YE m) (YE m)/\Qlc m p x_3)/\∀(y:Unit),True->SM x/\Bc (Z0<=(NI x_2.1)/\(NI x_2.1)<Qef n) (ifB (Sm.kd (Qlf n x_2.1)==3) (SM x/\Bc (Z0<=(NI x_2.1)/\(NI x_2.1)<Qef n) (∃(x_4:Nd),(isN x_4 (D.agg (Nd.rowE (KT n x_2.1))::YE m) (YE m)/\Qlc m p x_4)/\∀(y:Unit),True->Qld n m x/\∃(y:Nat×Int),Qee y.1 n y.2 m/\QFe n y.1 x_2.1/\(IntKind.wrap IntKind.i64 ((NI x_2.1)+Z1)=(NI y.1)/\(if Qle x_2.2 x_3 m<Qed x_4 m then Qed x_4 m else Qle x_2.2 x_3 m)=y.2/\True)/\Qea x n)) (Qld n m x/\∃(y:Nat×Int),Qee y.1 n y.2 m/\QFe n y.1 x_2.1/\QE7 x_2.1 y.1 x_2.2 x_3 m y.2 x n)))) (RT (IntKind.wrap IntKind.i64 (x_2.2+Z1)=QEL n m))))) (by kernel_rfl) ?_
 delta DA GI LN N0 N1 N4 NI SI SM Z0 Z1 ZI QEL HD Qd8 QES QET Qk9 QEU QEV Qla QEW QEX Qlb VF HE QEY Xw QEZ Qd9 Xx HF QE0 QE1 QE2 Qk8 QE3 Qea KR Qec QEM YE Qlc QRo Qld Qed Qle QE7 Qee Qef Qlf QEN KS KT QEO QFe QEP QEQ QER RT
 try simp only[<- dm]
 try simp only[<- dn]
 simp only[ne_eq,implies_true,Int.toNat_natCast,Bf,Bd,decide_eq_true_eq,decide_eq_false_iff_not,true_and,and_true,beq_iff_eq,beq_eq_false_iff_ne,exists_const,forall_const,Prod.exists]
 have hz:=Bpd n
 have k1:=Ch (Cb hn).2.1
 have k2:=Ch (Cb hn).2.2
 unfold maxLen at k1 k2
 refine⟨fun h2=>?_,fun h2=>?_⟩
 ·unfold GQ;split<;>omega
 have w:IntKind.i64.wrap (m-1)=m-1:=Ba (by omega) (by omega)
 rw[w]
 refine⟨⟨0,0,⟨Nat.zero_le _,Int.le_refl _,?_⟩,rfl,rfl⟩,?_⟩
 ·simp only[List.take_zero,dpL];unfold GQ;split<;>omega
 rintro ⟨i,d⟩ ⟨i1,d0,hd⟩
 simp only at i1 d0 hd ⊢
 refine⟨fun hlt=>?_,fun hge=>?_⟩
 ·have hlt':i<n.ki.length:=by omega
  have ht:=BkF hlt'
  refine⟨⟨by omega,hlt⟩,n.ki.getD i default,⟨Bl _ _,by omega,by omega,hk _ (BW hlt')⟩,i+1,_,⟨hlt',?_,?_⟩,by omega,Ba (by omega) (by omega),rfl⟩
  ·unfold GQ;split<;>(try split)<;>omega
  ·rw[ht]
   unfold GQ at hd ⊢
   split at hd<;>split<;>(try split)<;>(try split)<;>omega
 ·have e:i=n.ki.length:=by omega
  rw[e,List.take_length] at hd
  refine⟨⟨0,d,⟨Nat.zero_le _,d0,?_⟩,rfl,rfl⟩,?_⟩
  ·simp only[List.take_zero,dpB,Nat.max_zero];exact hd
  rintro ⟨j,c⟩ ⟨j1,c0,hc⟩
  simp only at j1 c0 hc ⊢
  refine⟨fun hlt=>?_,fun hge=>?_⟩
  ·have hlt':j<n.bo.length:=by omega
   have ht:=Bj6 hlt'
   have hs:=Bj8 (n.bo.getD j default)
   obtain ⟨q1,q2⟩:=hb _ (C4 hlt')
   have wj:IntKind.i64.wrap ((j:Int)+1)=((j+1:Nat):Int):=by rw[Ba (by omega) (by omega)];rfl
   refine⟨⟨by omega,hlt⟩,(n.bo.getD j default).nd,⟨Bl _ _,by omega,by omega,q2⟩,⟨by omega,hlt⟩,fun h3=>⟨⟨by omega,hlt⟩,(n.bo.getD j default).te,⟨Bl _ _,by omega,by omega,q1⟩,j+1,_,⟨hlt',?_,?_⟩,by omega,wj,rfl⟩,fun h3=>⟨j+1,_,⟨hlt',?_,?_⟩,by omega,wj,rfl⟩⟩
   ·generalize dpN (n.bo.getD j default).nd=u
    generalize dpN (n.bo.getD j default).te=v
    unfold GQ
    repeat' split
    all_goals omega
   ·rw[ht,hs,if_pos h3]
    generalize dpN (n.bo.getD j default).nd=u
    generalize dpN (n.bo.getD j default).te=v
    generalize dpB (List.take j n.bo)=t at hc
    generalize dpL n.ki=z at hc
    clear hs ht
    unfold GQ at hc ⊢
    split at hc<;>repeat' split
    all_goals omega
   ·generalize dpN (n.bo.getD j default).nd=u
    unfold GQ
    repeat' split
    all_goals omega
   ·rw[ht,hs,if_neg h3]
    generalize dpN (n.bo.getD j default).nd=u
    generalize dpB (List.take j n.bo)=t at hc
    generalize dpL n.ki=z at hc
    clear hs ht
    unfold GQ at hc ⊢
    split at hc<;>repeat' split
    all_goals omega
  ·have e2:j=n.bo.length:=by omega
   rw[e2,List.take_length] at hc
   have cb:c<=60:=by unfold GQ at hc;split at hc<;>omega
   rw[Ba (by omega) (by omega),hc,hz]
   unfold GQ
   split<;>split<;>omega
theorem BeO(n:Nd)(hn:n.sm)(m:Int)(h0:0<=m)(h1:m<=60):RDep n m :=
 Bjq (fun b=>b.sm/\SizeOf.sizeOf b<SizeOf.sizeOf n) n m h0 h1 hn (fun b hb m h0 h1=>BeO b hb.1 m h0 h1) (fun b hb=>⟨EZ hn (BS hb),Nd.size_kid hb⟩) fun s hs =>
  have h2:=Cm (GB hn s hs)
  have e:=Nd.size_stmt hs
  have e1:=Sm.size_te s
  have e2:=Sm.size_nd s
  ⟨⟨h2.1,by omega⟩,⟨h2.2,by omega⟩⟩
termination_by SizeOf.sizeOf n
decreasing_by exact hb.2
def BT(k:Nat)(m:Int):Int:=if (k:Int)<=m+1 then (k:Int) else m+1
def RCnt(n:Nd)(m:Int):Prop:=CD 65 [.agg n.row2,.int .i64 m] (.int .i64 (BT (szN n) m))
def RCns(l:List Sm)(m:Int):Prop:=CD 42 [gsl 34 Sm.row1 l,.int .i64 m] (.int .i64 (BT (szB l) m))
theorem Bbw:∀a b:List Sm,szB (a++b)=szB a+szB b
 | [],b=>by simp only[List.nil_append,szB];omega
 |x::a,b=>by simp only[List.cons_append,szB,Bbw a b];omega
theorem Blh{l:List Sm}{i:Nat}(h:i<l.length):szB (l.take (i+1))=szB (l.take i)+szM (l.getD i default):=by
 rw[B6 h,Bbw]
 simp only[szB]
 omega
theorem BhA{l:List Nd}{i:Nat}(h:i<l.length):szL (l.take (i+1))=szL (l.take i)+szN (l.getD i default):=by
 rw[B6 h,I9]
 simp only[szL]
 omega
theorem Bj4(l:List Nd)(i:Nat):szL (l.take i)<=szL l:=by
 have h:=I9 (l.take i) (l.drop i)
 rw[List.take_append_drop] at h
 omega
theorem Blc(l:List Sm)(i:Nat):szB (l.take i)<=szB l:=by
 have h:=Bbw (l.take i) (l.drop i)
 rw[List.take_append_drop] at h
 omega
theorem Bni(s:Sm):szM s=if s.kd=3 then szN s.te+szN s.nd else szN s.nd:=by
 cases s
 simp only[szM]
 rfl
theorem Bmo(n:Nd):szN n=1+szL n.ki+szB n.bo:=by
 cases n
 simp only[szN]
 rfl
def BaM(p:Nd->Prop):Con:=fun k ds S=>match k with
 |65=>match ds with
  | [_,.int .i64 m]=>some (pE (β:=Nd) ds S (fun b=>.int .i64 (BT (szN b) m)) (fun b=>isN b ds [.int .i64 m]/\0<=m/\m<=16384/\p b))
  |_=>none
 |_=>none
theorem Baq{p:Nd->Prop}(h:∀b,p b->∀m,0<=m->m<=16384->RCnt b m):ConOk Tryz.prog (BaM p):=by
 intro k ds S A hh
 unfold BaM at hh
 split at hh
 ·split at hh
  ·injection hh with hh;subst hh
   exact Co fun b ⟨e,h0,h1,hb⟩=>CD.at_ (CD.isN (h b hb _ h0 h1) e) _
  ·cases hh
 ·cases hh
def Bd5(p:Nd->Prop)(l:List Sm):Con:=fun k ds S=>match k with
 |42=>match ds with
  | [_,.int .i64 m]=>some (pA ds S (.int .i64 (BT (szB l) m)) (wkL ds [gsl 34 Sm.row1 l,.int .i64 m]/\-1<=m/\m<=16384))
  |_=>none
 |k=>BaM p k ds S
theorem BhL{p:Nd->Prop}{l:List Sm}(h:∀b,p b->∀m,0<=m->m<=16384->RCnt b m)(h2:∀m,-1<=m->m<=16384->RCns l m):ConOk Tryz.prog (Bd5 p l):=by
 intro k ds S A hh
 unfold Bd5 at hh
 split at hh
 ·split at hh
  ·injection hh with hh;subst hh
   exact Bo fun ⟨e,h0,h1⟩=>CD.at_ (CD.wk (h2 _ h0 h1) e) _
  ·cases hh
 ·exact Baq h _ _ _ _ hh
noncomputable def Ercs(p:Nd->Prop)(l:List Sm)(m:Int):Senv:={ EC (BaM p) 56 2 [4,5,6,15,39] (fun _=>([],[])) with
 mg:=fun _=>2
 ann:=fun b _ S=>match b with
  |0=>some { slots:=[6,5],keep:=[0,1],α:=Nat×Int,st:=fun y=>([.int .i64 y.1,.int .i64 y.2],S),inv:=fun y=>y.1<=l.length/\y.2=BT (szB (l.take y.1)) m,mu:=fun y=>l.length-y.1 }
  |_=>none }
def Qei(a:Nat)(b:List Sm)(c d:Int):Prop:=a<=LN b/\c=BT (szB (List.take a b)) d
def HG:Arr:=DA
def YF:Nd:=Nd.mk Z0 Z0 Z0 [] Z0 Z0 HG [] [] Z0 Z0 Z0
def YG:Sm:=Sm.mk Z0 Z0 [] Z0 YF YF
def Qlg(a:List Sm)(b:Nat):Sm:=List.getD a (Int.toNat (↑b:Int)) YG
def KU(a:List Sm)(b:Nat):Nd:=Sm.nd (Qlg a b)
def Qek(a:Int)(b:Nd)(c:Int):Int:=IntKind.wrap IntKind.i64 (a+BT (szN b) (IntKind.wrap IntKind.i64 (c-a)))
def KV(a:List Sm)(b:Nat):Nd:=Sm.te (Qlg a b)
def Qem(a b:Int)(c:Nd):Int:=IntKind.wrap IntKind.i64 (a-Qek b c a)
def QFl(a b:Int)(c:Nd):List D:=[ZI (Qem a b c)]
def YH(a:List Sm)(b:Nat):Sm:=List.getD a b YG
def QRB(a:List Sm):D:=D.sl 34 (LN a) (fun i=>(Sm.row1 (YH a i))) Mode.any
def QFs(a:List Sm)(b:Int):Prop:=SM (QRB a)/\SM (ZI b)/\True
def QFt(a:List Sm)(b:Int)(c:Nat)(d:Int)(e:Nd):Prop:=QFs a b/\∃(y:Nat×Int),Qei y.1 a y.2 b/\LN a-y.1<LN a-c/\(IntKind.wrap IntKind.i64 ((↑c:Int)+Z1)=(NI y.1)/\Qek d e b=y.2/\True)/\True/\True
def QFu(a:Int):Int:=IntKind.wrap IntKind.i64 ((if a<(-1:Int) then (-1:Int) else a)+Z1)
def QFv(a b:Int)(c:List Sm):Prop:=True/\∃(_y:Unit),True/\(if QFu a<b then QFu a else b)=BT (szB c) a/\True/\True
theorem BdD(p:Nd->Prop)(l:List Sm)(m:Int)(h0:-1<=m)(h1:m<=16384)(hl:l.length<=BC)(h:∀b,p b->∀m,0<=m->m<=16384->RCnt b m)(hb:∀s∈l,p s.te/\p s.nd):RCns l m:=by
 refine Bg (A:=sC _ _) (x:=()) (E:=Ercs p l m) (eOk (Baq h) rfl) Tryz.func42 rfl (by kernel_rfl) rfl (by simp[sC,Ercs,EC,E0]) ?_
 refine Bi (T :=
  (∃(x:Nat×Int),Qei x.1 l x.2 m/\(Z0=(NI x.1)/\Z0=x.2/\True)/\True/\True)/\∀(x:Nat×Int),Qei x.1 l x.2 m->ifB (decide ((NI x.1)<(LI l))) (ifB (decide (x.2<=m)) (Bc (Z0<=(NI x.1)/\(NI x.1)<(LI l)) (∃(x_1:Nd),(isN x_1 [D.agg (Nd.rowE (KU l x.1)),ZI (IntKind.wrap IntKind.i64 (m-x.2))] [ZI (IntKind.wrap IntKind.i64 (m-x.2))]/\Z0<=IntKind.wrap IntKind.i64 (m-x.2)/\IntKind.wrap IntKind.i64 (m-x.2)<=16384/\p x_1)/\∀(y:Unit),True->Bc (Z0<=(NI x.1)/\(NI x.1)<(LI l)) (ifB (Sm.kd (Qlg l x.1)==3) (ifB (decide (Qek x.2 x_1 m<=m)) (Bc (Z0<=(NI x.1)/\(NI x.1)<(LI l)) (∃(x_2:Nd),(isN x_2 (D.agg (Nd.rowE (KV l x.1))::QFl m x.2 x_1) (QFl m x.2 x_1)/\Z0<=Qem m x.2 x_1/\Qem m x.2 x_1<=16384/\p x_2)/\∀(y:Unit),True->QFs l m/\∃(y:Nat×Int),Qei y.1 l y.2 m/\LN l-y.1<LN l-x.1/\(IntKind.wrap IntKind.i64 ((NI x.1)+Z1)=(NI y.1)/\IntKind.wrap IntKind.i64 (Qek x.2 x_1 m+BT (szN x_2) (Qem m x.2 x_1))=y.2/\True)/\True/\True)) (QFt l m x.1 x.2 x_1)) (QFt l m x.1 x.2 x_1)))) (QFv m x.2 l)) (QFv m x.2 l)) (by kernel_rfl) ?_
 delta DA GI LI LN N1 N4 NI SI SM Z0 Z1 ZI Qei HG Qek KV YF Qem QFl YH YG QRB QFs QFt Qlg QFu QFv KU
 try simp only[<- dm]
 try simp only[<- dn]
 simp only[ne_eq,Int.toNat_natCast,Bf,Bd,decide_eq_true_eq,decide_eq_false_iff_not,true_and,and_true,beq_iff_eq,beq_eq_false_iff_ne,exists_const,forall_const,Prod.exists]
 unfold BC at hl
 have fin:∀c:Int,c=BT (szB l) m->(if IntKind.i64.wrap ((if m < -1 then -1 else m)+1)<c then IntKind.i64.wrap ((if m < -1 then -1 else m)+1) else c)=BT (szB l) m:=fun c hc=>by
  rw[if_neg (show ¬m < -1 by omega),Ba (by omega) (by omega),if_neg ?_,hc]
  rw[hc];unfold BT;split<;>omega
 refine⟨⟨0,0,⟨Nat.zero_le _,?_⟩,rfl,rfl⟩,?_⟩
 ·simp only[List.take_zero,szB];unfold BT;split<;>omega
 rintro ⟨i,c⟩ ⟨i1,hc⟩
 simp only at i1 hc ⊢
 have hmono:=Blc l i
 have c0:0<=c/\c<=m+1:=by rw[hc];unfold BT;split<;>omega
 refine⟨fun hlt=>⟨fun hle=>?_,fun hgt=>fin c ?_⟩,fun hge=>fin c ?_⟩
 ·have hlt':i<l.length:=by omega
  have ht:=Blh hlt'
  have hs:=Bni (l.getD i default)
  obtain ⟨q1,q2⟩:=hb _ (C4 hlt')
  have w1:IntKind.i64.wrap (m-c)=m-c:=Ba (by omega) (by omega)
  have wi:IntKind.i64.wrap ((i:Int)+1)=((i+1:Nat):Int):=by rw[Ba (by omega) (by omega)];rfl
  have hu:0<=BT (szN (l.getD i default).nd) (m-c)/\BT (szN (l.getD i default).nd) (m-c)<=m-c+1:=by unfold BT;split<;>omega
  have w2:IntKind.i64.wrap (c+BT (szN (l.getD i default).nd) (m-c))=c+BT (szN (l.getD i default).nd) (m-c):=Ba (by omega) (by omega)
  have e1:c+BT (szN (l.getD i default).nd) (m-c)=BT (szB (l.take i)+szN (l.getD i default).nd) m:=by
   rw[hc] at hle ⊢
   unfold BT at hle ⊢
   split at hle<;>repeat' split
   all_goals omega
  rw[w1]
  refine⟨⟨by omega,hlt⟩,(l.getD i default).nd,⟨Bl _ _,by omega,by omega,q2⟩,⟨by omega,hlt⟩,fun h3=>?_,fun h3=>⟨i+1,_,⟨hlt',?_⟩,by omega,wi,rfl⟩⟩
  ·rw[w2,if_pos h3] at *
   refine⟨fun h4=>?_,fun h4=>⟨i+1,_,⟨hlt',?_⟩,by omega,wi,rfl⟩⟩
   ·have w3:IntKind.i64.wrap (m-(c+BT (szN (l.getD i default).nd) (m-c)))=m-(c+BT (szN (l.getD i default).nd) (m-c)):=Ba (by omega) (by omega)
    rw[w3]
    refine⟨⟨by omega,hlt⟩,(l.getD i default).te,⟨Bl _ _,by omega,by omega,q1⟩,i+1,_,⟨hlt',?_⟩,by omega,wi,rfl⟩
    have hv:0<=BT (szN (l.getD i default).te) (m-(c+BT (szN (l.getD i default).nd) (m-c)))/\BT (szN (l.getD i default).te) (m-(c+BT (szN (l.getD i default).nd) (m-c)))<=m-(c+BT (szN (l.getD i default).nd) (m-c))+1:=by
     generalize c+BT (szN (l.getD i default).nd) (m-c)=z at *
     unfold BT;split<;>omega
    rw[Ba (by omega) (by omega),ht,hs,e1]
    rw[e1] at h4
    generalize szB (l.take i)=t at *
    generalize szN (l.getD i default).nd=u at *
    generalize szN (l.getD i default).te=v at *
    clear e1 w1 w2 w3 hu hv hc c0 ht hs
    unfold BT at h4 ⊢
    split at h4<;>repeat' split
    all_goals omega
   ·rw[ht,hs,e1]
    rw[e1] at h4
    generalize szB (l.take i)=t at *
    generalize szN (l.getD i default).nd=u at *
    generalize szN (l.getD i default).te=v at *
    clear e1 w1 w2 hu hc c0 ht hs
    unfold BT at h4 ⊢
    split at h4<;>repeat' split
    all_goals omega
  ·rw[w2,ht,hs,if_neg h3,e1]
 ·rw[hc] at hgt ⊢
  unfold BT at hgt ⊢
  split at hgt<;>repeat' split
  all_goals omega
 ·have e:i=l.length:=by omega
  rw[e,List.take_length] at hc
  exact hc
noncomputable def Erct(p:Nd->Prop)(n:Nd)(m:Int):Senv:={ EC (Bd5 p n.bo) 41 3 [4,5,6,16] (fun _=>([],[])) with
 mg:=fun _=>2
 ann:=fun b _ S=>match b with
  |0=>some { slots:=[6,5],keep:=[0,1,2],α:=Nat×Int,st:=fun y=>([.int .i64 y.1,.int .i64 y.2],S),inv:=fun y=>y.1<=n.ki.length/\y.2=BT (1+szL (n.ki.take y.1)) m,mu:=fun y=>n.ki.length-y.1 }
  |_=>none }
def Qep(a:Nd):List Nd:=Nd.ki a
def VG(a:Nd):Nat:=LN (Qep a)
def Qlh(a:Nat)(b:Nd)(c d:Int):Prop:=a<=VG b/\c=BT (N1+szL (List.take a (Qep b))) d
def QFw(a:Nd):Int:=Nd.kd a
def QFx(a:Nd):Int:=Nd.at_ a
def QFy(a:Nd):Int:=Nd.cl a
def QFz(a:Nd):List UInt8:=Nd.tx a
def QFA(a:Nd):Int:=Nd.pr a
def QFB(a:Nd):Int:=Nd.op a
def Qeq(a:Nd):Arr:=Nd.va a
def QFC(a:Nd):Int:=Arr.k (Qeq a)
def QFD(a:Nd):List Int:=Arr.sh (Qeq a)
def Qli(a:Nd):Nat:=LN (QFD a)
def QFE(a:Nd)(b:Nat):List D:=[ZI (GI (QFD a) b)]
def QFF(a:Nd):List Int:=Arr.nu (Qeq a)
def Qlj(a:Nd):Nat:=LN (QFF a)
def QFG(a:Nd)(b:Nat):List D:=[ZI (GI (QFF a) b)]
def QFH(a:Nd):List Arr:=Arr.it (Qeq a)
def Qlk(a:Nd):Nat:=LN (QFH a)
def Qll:Arr:=DA
def QFI(a:Nd)(b:Nat):List D:=Arr.row (List.getD (QFH a) b Qll)
def HH:Nd:=Nd.mk Z0 Z0 Z0 [] Z0 Z0 Qll [] [] Z0 Z0 Z0
def QFJ(a:Nd)(b:Nat):List D:=Nd.row1 (List.getD (Qep a) b HH)
def Qlm(a:Nd):List Sm:=Nd.bo a
def Qln(a:Nd):Nat:=LN (Qlm a)
def QFK:Sm:=Sm.mk Z0 Z0 [] Z0 HH HH
def QFL(a:Nd)(b:Nat):List D:=Sm.row1 (List.getD (Qlm a) b QFK)
def QFM(a:Nd):Int:=Nd.de a
def QFN(a:Nd):Int:=Nd.sl a
def QFO(a:Nd):Int:=Nd.ss a
def QFP(a:Nat)(b:Nd):Prop:=(SM a/\(SM (QFw b)/\SM (QFx b)/\SM (QFy b)/\SM (QFz b)/\SM (QFA b)/\SM (QFB b)/\SM (QFC b)/\(SM (Qli b)/\(∀(i:Nat),i<Qli b->SM (QFE b i))/\True)/\(SM (Qlj b)/\(∀(i:Nat),i<Qlj b->SM (QFG b i))/\True)/\(SM (Qlk b)/\(∀(i:Nat),i<Qlk b->SM (QFI b i))/\True)/\(SM (VG b)/\(∀(i:Nat),i<VG b->SM (QFJ b i))/\True)/\(SM (Qln b)/\(∀(i:Nat),i<Qln b->SM (QFL b i))/\True)/\SM (QFM b)/\SM (QFN b)/\SM (QFO b)/\True)/\True)/\True
def KY(a:Nd)(b:Nat):Nd:=List.getD (Qep a) (Int.toNat (↑b:Int)) HH
def Xy(a b:Int):Int:=IntKind.wrap IntKind.i64 (a-b)
def Qlo(a b:Int):List D:=[ZI (Xy a b)]
def QFT(a:Nd):D:=D.sl 34 (Qln a) (fun i=>QFL a i) Mode.any
def QRE(a:Nd):D:=D.agg (Nd.row2 a)
def QFU(a:Nd)(b c:Int):List D:=QFT a::Qlo b c
def QFV(a:Int)(b:Nd)(c:Int):Int:=IntKind.wrap IntKind.i64 (a+BT (szB (Qlm b)) (Xy c a))
def QFW(a:Nat)(b:Nd)(c d:Int):Prop:=SM a/\∃(_x:Unit),(wkL (QFU b c d) (QFU b c d)/\(-1:Int)<=Xy c d/\Xy c d<=16384)/\∀(_y:Unit),True->True/\∃(_y:Unit),True/\(if IntKind.wrap IntKind.i64 (c+Z1)<QFV d b c then IntKind.wrap IntKind.i64 (c+Z1) else QFV d b c)=BT (szN b) c/\True/\True
theorem Blj(p:Nd->Prop)(n:Nd)(m:Int)(h0:0<=m)(h1:m<=16384)(hn:n.sm)(h:∀b,p b->∀m,0<=m->m<=16384->RCnt b m)(hk:∀b∈n.ki,p b)(hb:∀s∈n.bo,p s.te/\p s.nd):RCnt n m:=by
 refine Bg (A:=sC _ _) (x:=()) (E:=Erct p n m) (eOk (BhL h fun m h0 h1=>BdD p n.bo m h0 h1 (Cb hn).2.2 h hb) rfl) Tryz.func65 rfl (by kernel_rfl) rfl (by simp[sC,Erct,EC,E0]) ?_
 refine Bi (T :=
  ∀(x:Nat),True->(∃(x_1:Nat×Int),Qlh x_1.1 n x_1.2 m/\(Z0=(NI x_1.1)/\Z1=x_1.2/\True)/\QFP x n)/\∀(x_1:Nat×Int),Qlh x_1.1 n x_1.2 m->SM x/\ifB (decide ((NI x_1.1)<(NI (VG n)))) (ifB (decide (x_1.2<=m)) (SM x/\Bc (Z0<=(NI x_1.1)/\(NI x_1.1)<(NI (VG n))) (∃(x_2:Nd),(isN x_2 (D.agg (Nd.rowE (KY n x_1.1))::Qlo m x_1.2) (Qlo m x_1.2)/\Z0<=Xy m x_1.2/\Xy m x_1.2<=16384/\p x_2)/\∀(y:Unit),True->(SM (QRE n)/\SM (ZI m)/\SM (D.ref N0 x N0)/\True)/\∃(y:Nat×Int),Qlh y.1 n y.2 m/\VG n-y.1<VG n-x_1.1/\(IntKind.wrap IntKind.i64 ((NI x_1.1)+Z1)=(NI y.1)/\IntKind.wrap IntKind.i64 (x_1.2+BT (szN x_2) (Xy m x_1.2))=y.2/\True)/\QFP x n)) (QFW x n m x_1.2)) (QFW x n m x_1.2)) (by kernel_rfl) ?_
 delta DA GI LN N0 N1 N4 NI SI SM Z0 Z1 ZI Qep VG Qlh QFw QFx QFy QFz QFA QFB Qeq QFC QFD Qli QFE QFF Qlj QFG QFH Qlk Qll QFI HH QFJ Qlm Qln QFK QFL QFM QFN QFO QFP KY Xy Qlo QFT QRE QFU QFV QFW
 try simp only[<- dm]
 try simp only[<- dn]
 simp only[implies_true,Int.toNat_natCast,Bf,Bd,decide_eq_true_eq,decide_eq_false_iff_not,true_and,and_true,exists_const,forall_const,Prod.exists]
 have k1:=Ch (Cb hn).2.1
 unfold maxLen at k1
 have hz:=Bmo n
 have fin:∀c:Int,0<=c/\c<=m+1->c=BT (1+szL n.ki) m->(wkL [D.sl 34 n.bo.length (fun i=>(n.bo.getD i default).row1) Mode.any,.int .i64 (IntKind.i64.wrap (m-c))] [D.sl 34 n.bo.length (fun i=>(n.bo.getD i default).row1) Mode.any,.int .i64 (IntKind.i64.wrap (m-c))]/\-1<=IntKind.i64.wrap (m-c)/\IntKind.i64.wrap (m-c)<=16384)/\(if IntKind.i64.wrap (m+1)<IntKind.i64.wrap (c+BT (szB n.bo) (IntKind.i64.wrap (m-c))) then IntKind.i64.wrap (m+1) else IntKind.i64.wrap (c+BT (szB n.bo) (IntKind.i64.wrap (m-c))))=BT (szN n) m:=fun c c0 hc=>by
  have w1:IntKind.i64.wrap (m-c)=m-c:=Ba (by omega) (by omega)
  have w2:IntKind.i64.wrap (m+1)=m+1:=Ba (by omega) (by omega)
  have hv:0<=BT (szB n.bo) (m-c)/\BT (szB n.bo) (m-c)<=m-c+1:=by unfold BT;split<;>omega
  rw[w1,w2,Ba (show (-9223372036854775808:Int)<=c+BT (szB n.bo) (m-c) by omega) (by omega)]
  refine⟨⟨Be _,by omega,by omega⟩,?_⟩
  rw[if_neg (by omega),hz]
  clear hv w1 w2 c0
  generalize szL n.ki=t at *
  generalize szB n.bo=u at *
  rw[hc]
  unfold BT
  repeat' split
  all_goals omega
 refine⟨⟨0,1,⟨Nat.zero_le _,?_⟩,rfl,rfl⟩,?_⟩
 ·simp only[List.take_zero,szL];unfold BT;split<;>omega
 rintro ⟨i,c⟩ ⟨i1,hc⟩
 simp only at i1 hc ⊢
 have hmono:=Bj4 n.ki i
 have c0:0<=c/\c<=m+1:=by rw[hc];unfold BT;split<;>omega
 refine⟨fun hlt=>⟨fun hle=>?_,fun hgt=>fin c c0 ?_⟩,fun hge=>fin c c0 ?_⟩
 ·have hlt':i<n.ki.length:=by omega
  have ht:=BhA hlt'
  have w1:IntKind.i64.wrap (m-c)=m-c:=Ba (by omega) (by omega)
  have hu:0<=BT (szN (n.ki.getD i default)) (m-c)/\BT (szN (n.ki.getD i default)) (m-c)<=m-c+1:=by unfold BT;split<;>omega
  rw[w1]
  refine⟨⟨by omega,hlt⟩,n.ki.getD i default,⟨Bl _ _,by omega,by omega,hk _ (BW hlt')⟩,i+1,_,⟨hlt',?_⟩,by omega,by rw[Ba (by omega) (by omega)];rfl,rfl⟩
  rw[Ba (by omega) (by omega),ht]
  clear hu w1 c0
  generalize szL (n.ki.take i)=t at *
  generalize szN (n.ki.getD i default)=u at *
  rw[hc] at hle ⊢
  unfold BT at hle ⊢
  split at hle<;>repeat' split
  all_goals omega
 ·rw[hc] at hgt ⊢
  unfold BT at hgt ⊢
  split at hgt<;>repeat' split
  all_goals omega
 ·have e:i=n.ki.length:=by omega
  rw[e,List.take_length] at hc
  exact hc
theorem Bfc(n:Nd)(hn:n.sm)(m:Int)(h0:0<=m)(h1:m<=16384):RCnt n m :=
 Blj (fun b=>b.sm/\SizeOf.sizeOf b<SizeOf.sizeOf n) n m h0 h1 hn (fun b hb m h0 h1=>Bfc b hb.1 m h0 h1) (fun b hb=>⟨EZ hn (BS hb),Nd.size_kid hb⟩) fun s hs =>
  have h2:=Cm (GB hn s hs)
  have e:=Nd.size_stmt hs
  have e1:=Sm.size_te s
  have e2:=Sm.size_nd s
  ⟨⟨h2.1,by omega⟩,⟨h2.2,by omega⟩⟩
termination_by SizeOf.sizeOf n
decreasing_by exact hb.2
theorem BmO(l:List Sm)(hl:l.length<=BC)(hs:∀s∈l,s.sm)(m:Int)(h0:-1<=m)(h1:m<=16384):RCns l m :=
 BdD Nd.sm l m h0 h1 hl (fun b hb m h0 h1=>Bfc b hb m h0 h1) fun s h=>Cm (hs s h)
theorem TR(n:Nd)(ho:n.ok)(hn:n.sm):RVal n :=
 Bjp n hn (OX ho) (Bdo n.bo (Cb hn).2.2 fun s hs =>
  have h1:=Cq (GG ho s hs)
  have h2:=Cm (GB hn s hs)
  ⟨TR s.nd h1.2 h2.2,TR s.te h1.1 h2.1,h1.1,h2.1⟩) fun b hb=>TR b (Oc ho b hb) (EZ hn (BS hb))
termination_by SizeOf.sizeOf n
decreasing_by
 ·have:=Nd.size_stmt hs
  have:=Sm.size_nd s
  omega
 ·have:=Nd.size_stmt hs
  have:=Sm.size_te s
  omega
 ·exact Nd.size_kid hb
theorem BmN(l:List Sm)(hl:l.length<=BC)(ho:∀s∈l,s.ok)(hs:∀s∈l,s.sm):RBdy l :=
 Bdo l hl fun s h=>⟨TR s.nd (Cq (ho s h)).2 (Cm (hs s h)).2,TR s.te (Cq (ho s h)).1 (Cm (hs s h)).1,(Cq (ho s h)).1,(Cm (hs s h)).1⟩
def Beo(l:List Sm):Con:=fun k ds S=>match k with
 |69=>match ds with
  | [_,.int .i64 q]=>some (pA ds S (.bool (Eo l q)) (wkL ds [gsl 34 Sm.row1 l,.int .i64 q]))
  |_=>none
 |_=>none
theorem BhM{l:List Sm}(hl:l.length<=maxLen)(h:∀s∈l,s.sm):ConOk Tryz.prog (Beo l):=by
 intro k ds S A hh
 unfold Beo at hh
 split at hh
 ·split at hh
  ·injection hh with hh;subst hh
   exact Bo fun e=>CD.at_ (CD.wk (BjY _ l hl h) e) _
  ·cases hh
 ·cases hh
noncomputable def Erou(l:List Sm):Senv:={ EC (Beo l) 39 1 [2,3,7,15] (fun _=>([],[])) with
 mg:=fun _=>2
 ann:=fun b _ S=>match b with
  |0=>some { slots:=[3],keep:=[0],α:=Nat,st:=fun i=>([.int .i64 i],S),inv:=fun i=>i<=l.length/\∀j,j<i->((l.getD j default).kd != 3)=true,mu:=fun i=>l.length-i }
  |_=>none }
def QFX:Nd:=Nd.mk Z0 Z0 Z0 [] Z0 Z0 DA [] [] Z0 Z0 Z0
def QFY:Sm:=Sm.mk Z0 Z0 [] Z0 QFX QFX
def QFZ(a:List Sm)(b:Nat):Sm:=List.getD a b QFY
def Qlp(a:Nat)(b:List Sm):Prop:=a<=LN b/\∀(j:Nat),j<a->(Sm.kd (QFZ b j) != (3:Int))=true
def HI(a:List Sm):Prop:=True/\∃(_y:Unit),True/\false=UB a/\True/\True
def YI(a:List Sm):D:=D.sl 34 (LN a) (fun i=>Sm.row1 (QFZ a i)) Mode.any
def QF0(a:List Sm):List D:=[YI a,ZI 12]
def QF1(a:List Sm):List D:=[YI a,ZI 13]
def QF2(a:List Sm):List D:=[YI a,ZI 6]
def QF3(a:List Sm):List D:=[YI a,ZI 7]
def QF4(a:List Sm):List D:=[YI a,ZI 11]
theorem Bjn(l:List Sm)(hl:l.length<=maxLen)(h:∀s∈l,s.sm):CD 44 [gsl 34 Sm.row1 l] (.bool (UB l)):=by
 refine Bg (A:=sC _ _) (x:=()) (E:=Erou l) (eOk (BhM hl h) rfl) Tryz.func44 rfl (by kernel_rfl) rfl (by simp[sC,Erou,EC,E0]) ?_
 refine Bi (T :=
  (∃(x:Nat),Qlp x l/\(Z0=(↑x:Int)/\True)/\True/\True)/\∀(x:Nat),Qlp x l->ifB (decide ((↑x:Int)<(LI l))) (Bc (Z0<=(↑x:Int)/\(↑x:Int)<(LI l)) (ifB (Sm.kd (List.getD l (Int.toNat (↑x:Int)) QFY)==3) (HI l) ((SM (YI l)/\True)/\∃(y:Nat),Qlp y l/\LN l-y<LN l-x/\(IntKind.wrap IntKind.i64 ((↑x:Int)+Z1)=(↑y:Int)/\True)/\True/\True))) (∃(x:Unit),wkL (QF0 l) (QF0 l)/\∀(y:Unit),True->ifB (!Eo l (12:Int)) (∃(x:Unit),wkL (QF1 l) (QF1 l)/\∀(y:Unit),True->ifB (!Eo l (13:Int)) (∃(x:Unit),wkL (QF2 l) (QF2 l)/\∀(y:Unit),True->ifB (!Eo l (6:Int)) (∃(x:Unit),wkL (QF3 l) (QF3 l)/\∀(y:Unit),True->ifB (!Eo l (7:Int)) (∃(x:Unit),wkL (QF4 l) (QF4 l)/\∀(y:Unit),True->RT ((!Eo l (11:Int))=UB l)) (HI l)) (HI l)) (HI l)) (HI l))) (by kernel_rfl) ?_
 delta DA LI LN SM Z0 Z1 ZI QFX QFY QF4 QFZ Qlp HI YI QF0 QF1 QF2 QF3 RT
 try simp only[<- dm]
 try simp only[<- dn]
 simp only[ne_eq,Int.toNat_natCast,Bf,Bd,decide_eq_true_eq,decide_eq_false_iff_not,true_and,and_true,beq_iff_eq,bne_iff_ne,beq_eq_false_iff_ne,Bool.not_eq_true',Bool.not_eq_false',exists_const,forall_const]
 unfold maxLen at hl
 refine⟨⟨0,⟨Nat.zero_le _,fun j hj=>absurd hj (by omega)⟩,rfl⟩,fun i hi'=>⟨fun hlt=>?_,fun hge=>?_⟩⟩
 ·obtain ⟨i1,hi⟩:=hi'
  have hi1:i<l.length:=by omega
  refine⟨⟨by omega,by omega⟩,fun c=>?_,fun c=>⟨i+1,⟨hi1,fun j hj=>?_⟩,by omega,Ba (by omega) (by omega)⟩⟩
  ·unfold UB
   rw[Blo (p:=fun s:Sm=>s.kd != 3) hi1 (by simpa using c)];rfl
  ·by_cases e':j=i
   ·rw[e'];simpa using c
   ·exact hi j (by omega)
 ·obtain ⟨i1,hi⟩:=hi'
  have a:(l.all fun s=>s.kd != 3)=true:=Bf5 fun j hj=>by simpa using hi j (by omega)
  unfold UB
  rw[a,Bool.true_and]
  repeat' (first | exact Be _ | refine And.intro ?_ ?_ | intro _)
  all_goals first
   |(simp_all;done)
   |(simp_all;omega)
def BeW(n:Nd):Con:=fun k ds S=>match k with
 |41=>some (pA ds S (.int .i64 (GQ (dpN n) 60)) (isN n ds [.int .i64 60]))
 |65=>some (pA ds S (.int .i64 (BT (szN n) 16384)) (isN n ds [.int .i64 16384]))
 |66=>some (pA ds S (.bool (Bz n)) (isN n ds []))
 |44=>some (pA ds S (.bool (UB [Bcz 0 n])) (wkL ds [gsl 34 Sm.row1 [Bcz 0 n]]))
 |_=>none
theorem BhI{n:Nd}(ho:n.ok)(hn:n.sm):ConOk Tryz.prog (BeW n):=by
 intro k ds S A hh
 unfold BeW at hh
 split at hh
 ·injection hh with hh;subst hh
  exact Bo fun e=>CD.at_ (CD.isN (BeO n hn 60 (by omega) (by omega)) e) _
 ·injection hh with hh;subst hh
  exact Bo fun e=>CD.at_ (CD.isN (Bfc n hn _ (by omega) (by omega)) e) _
 ·injection hh with hh;subst hh
  exact Bo fun e=>CD.at_ (CD.isN (TR n ho hn) e) _
 ·injection hh with hh;subst hh
  exact Bo fun e=>CD.at_ (CD.wk (Bjn [Bcz 0 n] (by simp[maxLen]) (Boe hn)) e) _
 ·cases hh
theorem BkY(k:Nat):60<GQ k 60↔60<k:=by unfold GQ;split<;>omega
theorem Ban(k:Nat):16384<BT k 16384↔16384<k:=by unfold BT;split<;>omega
def dpS(s:Sm):Bool:=decide (60<dpM s)
def BeS(l:List Sm):Con:=fun k ds S=>match k with
 |41=>some (pE (β:=Nd) ds S (fun b=>.int .i64 (GQ (dpN b) 60)) (fun b=>isN b ds [.int .i64 60]/\b.sm))
 |42=>some (pA ds S (.int .i64 (BT (szB l) 16384)) (wkL ds [gsl 34 Sm.row1 l,.int .i64 16384]))
 |43=>some (pA ds S (.bool (BP true l)) (wkL ds [gsl 34 Sm.row1 l]))
 |44=>some (pA ds S (.bool (UB l)) (wkL ds [gsl 34 Sm.row1 l]))
 |_=>none
theorem BgO{l:List Sm}(hl:l.length<=BC)(ho:∀s∈l,s.ok)(hs:∀s∈l,s.sm):ConOk Tryz.prog (BeS l):=by
 intro k ds S A hh
 unfold BeS at hh
 split at hh
 ·injection hh with hh;subst hh
  exact Co fun b ⟨e,hb⟩=>CD.at_ (CD.isN (BeO b hb 60 (by omega) (by omega)) e) _
 ·injection hh with hh;subst hh
  exact Bo fun e=>CD.at_ (CD.wk (BmO l hl hs _ (by omega) (by omega)) e) _
 ·injection hh with hh;subst hh
  exact Bo fun e=>CD.at_ (CD.wk (BmN l hl ho hs) e) _
 ·injection hh with hh;subst hh
  exact Bo fun e=>CD.at_ (CD.wk (Bjn l (Ch hl) hs) e) _
 ·cases hh
theorem Bft:∀l:List Sm,l.any dpS=decide (60<dpB l)
 | []=>by simp[dpB]
 |s::l=>by
  have e:dpB (s::l)=max (dpM s) (dpB l):=by simp only[dpB]
  rw[List.any_cons,Bft l,dpS,Bool.eq_iff_iff,e]
  simp only[Bool.or_eq_true,decide_eq_true_eq]
  omega
noncomputable def Erpr(l:List Sm):Senv:={ EC (BeS l) 56 4 [7,12,41,45,55] (fun _=>([],[])) with
 mg:=fun _=>2
 ann:=fun b _ S=>match b with
  |0=>some { slots:=[3],keep:=[0,1],α:=Nat,st:=fun i=>([.int .i64 i],S),inv:=fun i=>i<=l.length/\∀j,j<i->dpS (l.getD j default)=false,mu:=fun i=>l.length-i }
  |_=>none }
def HJ(a:List Sm):Int:=B2 a
def HK:Arr:=DA
def YJ:Nd:=Nd.mk Z0 Z0 Z0 [] Z0 Z0 HK [] [] Z0 Z0 Z0
def YK:Sm:=Sm.mk Z0 Z0 [] Z0 YJ YJ
def Xz(a:List Sm)(b:Nat):Sm:=List.getD a b YK
def Qlq(a:Nat)(b:List Sm):Prop:=a<=LN b/\∀(j:Nat),j<a->dpS (Xz b j)=false
def QGb(a:List Sm)(b:Nat):List D:=(Sm.row1 (Xz a b))
def QGc(a:Nat)(b:List Sm):Prop:=(SM a/\((SM (LN b)/\(∀(i:Nat),i<LN b->SM (QGb b i))/\True)/\True)/\True)/\True
def Qlr(a:List Sm)(b:Nat):Sm:=List.getD a (Int.toNat (↑b:Int)) YK
def K1(a:List Sm)(b:Nat):Nd:=Sm.nd (Qlr a b)
def Qev:List D:=[ZI 60]
def QGg(a:Nd):Bool:=decide ((60:Int)<GQ (dpN a) (60:Int))
def QGh(a:List Sm):Prop:=True/\∃(_y:Unit),True/\(8:Int)=HJ a/\True/\True
def K2(a:List Sm)(b:Nat):Nd:=Sm.te (Qlr a b)
def QGl(a:List Sm):D:=D.sl 34 (LN a) (fun i=>QGb a i) Mode.any
def Qls(a:List Sm):List D:=[QGl a]
def QRN(a:List Sm):D:=D.agg (Qls a)
def QGm(a:List Sm)(b c:Nat):Prop:=(SM (QRN a)/\SM (D.ref N0 b N0)/\True)/\∃(y:Nat),Qlq y a/\LN a-y<LN a-c/\(IntKind.wrap IntKind.i64 ((↑c:Int)+Z1)=(↑y:Int)/\True)/\QGc b a
def QGn(a:List Sm):List D:=[QGl a,ZI 16384]
def QGo(a:List Sm):Prop:=wkL (Qls a) (Qls a)
def QGp(a:List Sm):Prop:=True/\∃(_y:Unit),True/\(11:Int)=HJ a/\True/\True
theorem Bol(l:List Sm)(hl:l.length<=BC)(ho:∀s∈l,s.ok)(hs:∀s∈l,s.sm):CD 21 [.agg [gsl 34 Sm.row1 l]] (.int .i64 (B2 l)):=by
 refine Bg (A:=sC _ _) (x:=()) (E:=Erpr l) (eOk (BgO hl ho hs) rfl) Tryz.func21 rfl (by kernel_rfl) rfl (by simp[sC,Erpr,EC,E0]) ?_
 refine Bi (T :=
  ∀(x:Nat),True->SM x/\ifB (decide ((1000:Int)<(LI l))) (RT ((2:Int)=HJ l)) ((∃(x_1:Nat),Qlq x_1 l/\(Z0=(↑x_1:Int)/\True)/\QGc x l)/\∀(x_1:Nat),Qlq x_1 l->SM x/\ifB (decide ((↑x_1:Int)<(LI l))) (SM x/\Bc (Z0<=(↑x_1:Int)/\(↑x_1:Int)<(LI l)) (∃(x_2:Nd),(isN x_2 (D.agg (Nd.rowE (K1 l x_1))::Qev) Qev/\Nd.sm x_2)/\∀(y:Unit),True->ifB (QGg x_2) (QGh l) (SM x/\Bc (Z0<=(↑x_1:Int)/\(↑x_1:Int)<(LI l)) (ifB (Sm.kd (Qlr l x_1)==3) (SM x/\Bc (Z0<=(↑x_1:Int)/\(↑x_1:Int)<(LI l)) (∃(x_3:Nd),(isN x_3 (D.agg (Nd.rowE (K2 l x_1))::Qev) Qev/\Nd.sm x_3)/\∀(y:Unit),True->ifB (QGg x_3) (QGh l) (QGm l x x_1))) (QGm l x x_1))))) (SM x/\∃(x_2:Unit),wkL (QGn l) (QGn l)/\∀(y:Unit),True->ifB (decide ((16384:Int)<BT (szB l) (16384:Int))) (RT ((21:Int)=HJ l)) (SM x/\∃(x_3:Unit),QGo l/\∀(y:Unit),True->ifB (!BP true l) (QGp l) (SM x/\∃(x:Unit),QGo l/\∀(y:Unit),True->ifB (!UB l) (QGp l) (RT (Z0=HJ l))))))) (by kernel_rfl) ?_
 delta DA GI LI LN N0 N1 N4 SI SM Z0 Z1 ZI HJ HK YJ YK Xz Qlq QGb QGc Qlr K1 Qev QGg QGh K2 QGl Qls QRN QGm QGn QGo QGp RT
 try simp only[<- dm]
 try simp only[<- dn]
 simp only[ne_eq,implies_true,Int.toNat_natCast,Bf,Bd,decide_eq_true_eq,decide_eq_false_iff_not,true_and,and_true,beq_iff_eq,beq_eq_false_iff_ne,Bool.not_eq_true',Bool.not_eq_false',exists_const,forall_const]
 unfold BC at hl
 simp only[BkY,Ban]
 have hr:B2 l=if 1000<l.length then 2 else if 60<dpB l then 8 else if 16384<szB l then 21 else if (BP true l&&UB l)=true then 0 else 11:=by rw[Bff];rfl
 have da:=Bft l
 rw[hr]
 refine⟨fun c=>by rw[if_pos (by omega)],fun c=>?_⟩
 rw[if_neg (by omega)]
 refine⟨⟨0,⟨Nat.zero_le _,fun j hj=>absurd hj (by omega)⟩,rfl⟩,fun i ⟨i1,hi⟩=>⟨fun hlt=>?_,fun hge=>?_⟩⟩
 ·have hi1:i<l.length:=by omega
  obtain ⟨q1,q2⟩:=Cm (hs _ (C4 hi1))
  have hd:=Bj8 (l.getD i default)
  have w:IntKind.i64.wrap ((i:Int)+1)=((i+1:Nat):Int):=by rw[Ba (by omega) (by omega)];rfl
  have yes:60<dpM (l.getD i default)->8=(if 60<dpB l then (8:Int) else if 16384<szB l then 21 else if (BP true l&&UB l)=true then 0 else 11):=fun h2=>by
   have:l.any dpS=true:=Ba5 hi1 (decide_eq_true h2)
   rw[da,decide_eq_true_eq] at this
   rw[if_pos this]
  have go:¬60<dpM (l.getD i default)->∃y,(y<=l.length/\∀(j:Nat),j<y->dpS (l.getD j default)=false)/\l.length-y<l.length-i/\IntKind.i64.wrap ((i:Int)+1)=(y:Int):=fun h2 =>
   ⟨i+1,⟨hi1,fun j hj=>by
    by_cases e':j=i
    ·rw[e'];exact decide_eq_false h2
    ·exact hi j (by omega)⟩,by omega,w⟩
  refine⟨⟨by omega,hlt⟩,(l.getD i default).nd,⟨Bl _ _,q2⟩,fun b=>yes ?_,fun b=>⟨⟨by omega,hlt⟩,fun k3=>⟨⟨by omega,hlt⟩,(l.getD i default).te,⟨Bl _ _,q1⟩,fun b2=>yes ?_,fun b2=>go ?_⟩,fun k3=>go ?_⟩⟩
  ·rw[hd];split<;>omega
  ·rw[hd,if_pos k3];omega
  ·rw[hd,if_pos k3];omega
  ·rw[hd,if_neg k3];exact b
 ·have a:l.any dpS=false:=BeE fun j hj=>hi j (by omega)
  rw[da,decide_eq_false_iff_not] at a
  rw[if_neg a]
  refine⟨Be _,fun b=>by rw[if_pos b],fun b=>?_⟩
  rw[if_neg b]
  refine⟨Be _,fun b1=>?_,fun b1=>⟨Be _,fun b2=>?_,fun b2=>?_⟩⟩
  ·rw[b1];rfl
  ·rw[b1,b2];rfl
  ·rw[b1,b2];rfl
def WU(n:Nd):List UInt8:=if n.kd=1 then GP n.va else if n.kd=2 then n.tx else if n.kd=9 then Cf n.pr else if n.kd=17 then opT n.op
 else if n.kd=6 then [88] else if n.kd=7 then [89] else if n.kd=8 then [97,114,103] else if n.kd=11 then [115,101,108,102] else if n.kd=12 then [70] else [71]
def Bd2(n:Nd):Con:=fun k ds S=>match k with
 |149=>some (pA ds S (.str (GP n.va)) (wkL ds [.agg n.va.row1]))
 |150=>some (pA ds S (.str (Cf n.pr)) (wkL ds [.int .i64 n.pr]))
 |151=>some (pA ds S (.str (opT n.op)) (wkL ds [.int .i64 n.op]))
 |_=>none
theorem Bjh{n:Nd}(h:n.ok):Br n.pr/\Br n.op:=by
 cases n with
 |mk kd at_ cl tx pr op va ki bo de sl ss =>
  simp only[Nd.ok] at h
  exact⟨h.1.2.2.2.1,h.1.2.2.2.2.1⟩
theorem Bh9{n:Nd}(ho:n.ok):ConOk Tryz.prog (Bd2 n):=by
 intro k ds S A hh
 unfold Bd2 at hh
 split at hh
 ·injection hh with hh;subst hh
  exact Bo fun e=>CD.at_ (CD.wk (show CD _ [.agg n.va.row1] _ from (Bjz n.va (OX ho)).mono fun _ _ ⟨_,h1,h2,h3⟩=>⟨(),trivial,h2,h3⟩) e) _
 ·injection hh with hh;subst hh
  exact Bo fun e=>CD.at_ (CD.wk (BpD n.pr (Bjh ho).1) e) _
 ·injection hh with hh;subst hh
  exact Bo fun e=>CD.at_ (CD.wk (Bpa n.op (Bjh ho).2) e) _
 ·cases hh
noncomputable def Erwo(n:Nd):Senv:=EC (Bd2 n) 34 3 [4,5,10,14,19,24,26,28,30,32] (fun _=>([],[]))
def Vh(a:Nd):Int:=Nd.kd a
def HL(a:Nd):Arr:=Nd.va a
def QRO(a:Nd):List Int:=Arr.sh (HL a)
def QRP(a:Nd):List Int:=Arr.nu (HL a)
def QGq(a:Nd):List Arr:=Arr.it (HL a)
def QGr(a:Nd):List D:=[D.agg [ZI (Arr.k (HL a)),SI (QRO a),SI (QRP a),D.sl N4 (LN (QGq a)) (fun i=>Arr.row (GA (QGq a) i)) Mode.any]]
def JU(a:Nd):List UInt8:=WU a
theorem Bo2(n:Nd)(ho:n.ok):CD 130 [.agg n.row2] (.str (WU n)):=by
 refine Bg (A:=sC _ _) (x:=()) (E:=Erwo n) (eOk (Bh9 ho) rfl) Tryz.func130 rfl (by kernel_rfl) rfl (by simp[sC,Erwo,EC,E0]) ?_
 refine Bi (T :=
  ∀(x:Nat),True->SM x/\ifB (Vh n==Z1) (SM x/\∃(x:Unit),wkL (QGr n) (QGr n)/\∀(y:Unit),True->RT (GP (HL n)=JU n)) (ifB (Vh n==2) (SM x/\RT (Nd.tx n=JU n)) (ifB (Vh n==9) (SM x/\∃(x:Unit),wkL [ZI (Nd.pr n)] [ZI (Nd.pr n)]/\∀(y:Unit),True->RT (Cf (Nd.pr n)=JU n)) (ifB (Vh n==17) (SM x/\∃(x:Unit),wkL [ZI (Nd.op n)] [ZI (Nd.op n)]/\∀(y:Unit),True->RT (opT (Nd.op n)=JU n)) (ifB (Vh n==6) (RT ([(88:UInt8)]=JU n)) (ifB (Vh n==7) (RT ([(89:UInt8)]=JU n)) (ifB (Vh n==8) (RT ([(97:UInt8),(114:UInt8),(103:UInt8)]=JU n)) (ifB (Vh n==11) (RT ([(115:UInt8),(101:UInt8),(108:UInt8),(102:UInt8)]=JU n)) (ifB (Vh n==12) (RT ([(70:UInt8)]=JU n)) (RT ([(71:UInt8)]=JU n))))))))))) (by kernel_rfl) ?_
 delta DA GA GI LN N1 N4 SI SM Z0 Z1 ZI Vh HL QRO QRP QGq QGr JU RT
 try simp only[]
 try simp only[<- dn]
 simp only[ne_eq,Bf,true_and,and_true,beq_iff_eq,beq_eq_false_iff_ne,exists_const,forall_const]
 unfold WU
 repeat' (first | exact Be _ | refine And.intro ?_ ?_ | intro _)
 all_goals first
  |(simp_all;done)
  |(simp_all;omega)
noncomputable def Erbd(q:Nd->Prop)(l:List Sm):Senv:={ EC (Wu q) 56 2 [4,5,6,10,14,23,37] (fun _=>([],[])) with
 mg:=fun _=>2
 ann:=fun b _ S=>match b with
  |0=>some { slots:=[6,5],keep:=[0,1],α:=Nat×List UInt8,st:=fun y=>([.int .i64 y.1,.str y.2],S),inv:=fun y=>y.1<=l.length/\y.2=Lib.join ((l.map B4).take y.1) [32,59,32],mu:=fun y=>l.length-y.1 }
  |_=>none }
def Qex:List UInt8:=[(32:UInt8),(59:UInt8),(32:UInt8)]
def JV(a:Nat)(b:List Sm)(c:List UInt8):Prop:=a<=LN b/\c=Lib.join (List.take a (List.map B4 b)) Qex
def HM:Arr:=DA
def YL:Nd:=Nd.mk Z0 Z0 Z0 [] Z0 Z0 HM [] [] Z0 Z0 Z0
def YM:Sm:=Sm.mk Z0 Z0 [] Z0 YL YL
def Qey(a:List Sm)(b:Nat):Sm:=List.getD a (Int.toNat (↑b:Int)) YM
def QGs(a:List Sm)(b:Nat):Int:=Sm.kd (Qey a b)
def QGt(a:List Sm)(b:Nat):Bool:=QGs a b==2
def QGu(a:List Sm)(b:Nat):List UInt8:=Sm.nm (Qey a b)
def QGv(a:List Sm)(b:Nat):Nat:=LN (QGu a b)+N4
def Qez(a:List UInt8):List UInt8:=a++Qex
def Qlt(a:List UInt8):Nat:=LN (Qez a)
def Qlu(a:List Sm)(b:Nat):List UInt8:=QGu a b++[32,60,45,32]
def QGw(a:List Sm)(b:Nat):Nat:=LN (Qlu a b)
def QeA(a:List Sm)(b:Nat):Bool:=QGs a b==3
def K3(a:List Sm)(b:Nat):Nd:=Sm.te (Qey a b)
def QeC(a:Nd)(b:List Sm)(c:Nat)(d:Nd->Prop):Prop:=isN a [D.agg (Nd.rowE (K3 b c))] []/\d a
def JW(a:Nd):List UInt8:=Bt a
def Vi(a:Nd):Nat:=LN (JW a)
def QeD(a:Nd):Nat:=Vi a+3
def Qlv(a:List UInt8)(b:List Sm)(c:Nat):List UInt8:=Qez a++Qlu b c
def QGA(a:List UInt8)(b:List Sm)(c:Nat):Nat:=LN (Qlv a b c)
def HN(a:Nd):List UInt8:=JW a++[32,58,32]
def QeE(a:Nd):Nat:=LN (HN a)
def K4(a:List Sm)(b:Nat):Nd:=Sm.nd (Qey a b)
def VH(a:Nd)(b:List Sm)(c:Nat)(d:Nd->Prop):Prop:=isN a [D.agg (Nd.rowE (K4 b c))] []/\d a
def QGE(a:List UInt8)(b:List Sm)(c:Nat)(d:Nd):List UInt8:=Qlv a b c++HN d
def YN(a:List Sm)(b:Nat):Sm:=List.getD a b YM
def QRY(a:List Sm):D:=D.sl 34 (LN a) (fun i=>(Sm.row1 (YN a i))) Mode.any
def VI(a:List Sm):Prop:=SM (QRY a)/\SM (D.str Qex)/\True
def VJ(a:List Sm)(b c:Nat):Prop:=LN a-b<LN a-c
def VK(a b:Nat):Prop:=IntKind.wrap IntKind.i64 ((↑a:Int)+Z1)=(↑b:Int)
def QGL(a:List UInt8)(b:Nd):List UInt8:=Qez a++HN b
def Qlw(a:List UInt8)(b:List Sm)(c:Nat):List UInt8:=a++Qlu b c
def QGM(a:List UInt8)(b:List Sm)(c:Nat):Nat:=LN (Qlw a b c)
def QGN(a:List UInt8)(b:List Sm)(c:Nat)(d:Nd):List UInt8:=Qlw a b c++HN d
def QGO(a:List UInt8)(b:Nd):List UInt8:=a++HN b
theorem Bnt(q : Nd -> Prop)(l : List Sm)(h : ∀b, q b -> RRShow b)(hs : ∀s∈l, q s.nd /\ (s.kd=3 -> q s.te) /\ s.nm.length<=BC)(hl : l.length<=maxLen)(hj : (Lib.join (l.map B4) [32, 59, 32]).length<=20000000000000) :
  CD 129 [gsl 34 Sm.row1 l,.str [32,59,32]] (.str (Lib.join (l.map B4) [32,59,32])):=by
 refine Bg (A:=sC _ _) (x:=()) (E:=Erbd q l) (eOk (TK h) rfl) Tryz.func129 rfl (by kernel_rfl) rfl (by simp[sC,Erbd,EC,E0]) ?_
 refine Bi (T :=
  (∃(x:Nat×List UInt8),JV x.1 l x.2/\(Z0=(NI x.1)/\Cv (List UInt8) [] x.2/\True)/\True/\True)/\∀(x:Nat×List UInt8),JV x.1 l x.2->ifB (decide ((NI x.1)<(LI l))) (ifB (decide (Z0<(NI x.1))) (Bc (LN x.2+3<=9223372036854775807) (Bc (Z0<=(NI x.1)/\(NI x.1)<(LI l)) (ifB (QGt l x.1) (Bc (Z0<=(NI x.1)/\(NI x.1)<(LI l)) (Bc (QGv l x.1<=9223372036854775807) (Bc (Qlt x.2+QGw l x.1<=9223372036854775807) (Bc (Z0<=(NI x.1)/\(NI x.1)<(LI l)) (ifB (QeA l x.1) (Bc (Z0<=(NI x.1)/\(NI x.1)<(LI l)) (∃(x_1:Nd),QeC x_1 l x.1 q/\∀(y:Unit),True->Bc (QeD x_1<=9223372036854775807) (Bc (QGA x.2 l x.1+QeE x_1<=9223372036854775807) (Bc (Z0<=(NI x.1)/\(NI x.1)<(LI l)) (∃(x_2:Nd),VH x_2 l x.1 q/\∀(y:Unit),True->Bc (LN (QGE x.2 l x.1 x_1)+Vi x_2<=9223372036854775807) (VI l/\∃(y:Nat×List UInt8),JV y.1 l y.2/\VJ l y.1 x.1/\(VK x.1 y.1/\QGE x.2 l x.1 x_1++JW x_2=y.2/\True)/\True/\True)))))) (Bc (Z0<=(NI x.1)/\(NI x.1)<(LI l)) (∃(x_1:Nd),VH x_1 l x.1 q/\∀(y:Unit),True->Bc (QGA x.2 l x.1+Vi x_1<=9223372036854775807) (VI l/\∃(y:Nat×List UInt8),JV y.1 l y.2/\VJ l y.1 x.1/\(VK x.1 y.1/\Qlv x.2 l x.1++JW x_1=y.2/\True)/\True/\True)))))))) (Bc (Z0<=(NI x.1)/\(NI x.1)<(LI l)) (ifB (QeA l x.1) (Bc (Z0<=(NI x.1)/\(NI x.1)<(LI l)) (∃(x_1:Nd),QeC x_1 l x.1 q/\∀(y:Unit),True->Bc (QeD x_1<=9223372036854775807) (Bc (Qlt x.2+QeE x_1<=9223372036854775807) (Bc (Z0<=(NI x.1)/\(NI x.1)<(LI l)) (∃(x_2:Nd),VH x_2 l x.1 q/\∀(y:Unit),True->Bc (LN (QGL x.2 x_1)+Vi x_2<=9223372036854775807) (VI l/\∃(y:Nat×List UInt8),JV y.1 l y.2/\VJ l y.1 x.1/\(VK x.1 y.1/\QGL x.2 x_1++JW x_2=y.2/\True)/\True/\True)))))) (Bc (Z0<=(NI x.1)/\(NI x.1)<(LI l)) (∃(x_1:Nd),VH x_1 l x.1 q/\∀(y:Unit),True->Bc (Qlt x.2+Vi x_1<=9223372036854775807) (VI l/\∃(y:Nat×List UInt8),JV y.1 l y.2/\VJ l y.1 x.1/\(VK x.1 y.1/\Qez x.2++JW x_1=y.2/\True)/\True/\True)))))))) (Bc (Z0<=(NI x.1)/\(NI x.1)<(LI l)) (ifB (QGt l x.1) (Bc (Z0<=(NI x.1)/\(NI x.1)<(LI l)) (Bc (QGv l x.1<=9223372036854775807) (Bc (LN x.2+QGw l x.1<=9223372036854775807) (Bc (Z0<=(NI x.1)/\(NI x.1)<(LI l)) (ifB (QeA l x.1) (Bc (Z0<=(NI x.1)/\(NI x.1)<(LI l)) (∃(x_1:Nd),QeC x_1 l x.1 q/\∀(y:Unit),True->Bc (QeD x_1<=9223372036854775807) (Bc (QGM x.2 l x.1+QeE x_1<=9223372036854775807) (Bc (Z0<=(NI x.1)/\(NI x.1)<(LI l)) (∃(x_2:Nd),VH x_2 l x.1 q/\∀(y:Unit),True->Bc (LN (QGN x.2 l x.1 x_1)+Vi x_2<=9223372036854775807) (VI l/\∃(y:Nat×List UInt8),JV y.1 l y.2/\VJ l y.1 x.1/\(VK x.1 y.1/\QGN x.2 l x.1 x_1++JW x_2=y.2/\True)/\True/\True)))))) (Bc (Z0<=(NI x.1)/\(NI x.1)<(LI l)) (∃(x_1:Nd),VH x_1 l x.1 q/\∀(y:Unit),True->Bc (QGM x.2 l x.1+Vi x_1<=9223372036854775807) (VI l/\∃(y:Nat×List UInt8),JV y.1 l y.2/\VJ l y.1 x.1/\(VK x.1 y.1/\Qlw x.2 l x.1++JW x_1=y.2/\True)/\True/\True)))))))) (Bc (Z0<=(NI x.1)/\(NI x.1)<(LI l)) (ifB (QeA l x.1) (Bc (Z0<=(NI x.1)/\(NI x.1)<(LI l)) (∃(x_1:Nd),QeC x_1 l x.1 q/\∀(y:Unit),True->Bc (QeD x_1<=9223372036854775807) (Bc (LN x.2+QeE x_1<=9223372036854775807) (Bc (Z0<=(NI x.1)/\(NI x.1)<(LI l)) (∃(x_2:Nd),VH x_2 l x.1 q/\∀(y:Unit),True->Bc (LN (QGO x.2 x_1)+Vi x_2<=9223372036854775807) (VI l/\∃(y:Nat×List UInt8),JV y.1 l y.2/\VJ l y.1 x.1/\(VK x.1 y.1/\QGO x.2 x_1++JW x_2=y.2/\True)/\True/\True)))))) (Bc (Z0<=(NI x.1)/\(NI x.1)<(LI l)) (∃(x_1:Nd),VH x_1 l x.1 q/\∀(y:Unit),True->Bc (LN x.2+Vi x_1<=9223372036854775807) (VI l/\∃(y:Nat×List UInt8),JV y.1 l y.2/\VJ l y.1 x.1/\(VK x.1 y.1/\x.2++JW x_1=y.2/\True)/\True/\True)))))))) (RT (x.2=Lib.join (List.map B4 l) Qex))) (by kernel_rfl) ?_
 delta DA GI LI LN N1 N4 NI SI SM Z0 Z1 ZI YL YM Qey QGs QGt QGu QGv Qez Qlt Qlu QGw QeA K3 QeC JW Vi QeD Qlv QGA HN QeE K4 VH QGE YN QRY VI VJ VK QGL Qlw QGM QGN QGO Qex JV HM RT
 try simp only[<- dm]
 try simp only[<- dn]
 simp only[ne_eq,Int.toNat_natCast,Bf,Bd,decide_eq_true_eq,decide_eq_false_iff_not,true_and,and_true,beq_iff_eq,beq_eq_false_iff_ne,exists_const,forall_const,Prod.exists]
 unfold maxLen at hl
 refine⟨⟨0,[],⟨Nat.zero_le _,by simp[Lib.join]⟩,rfl,rfl⟩,?_⟩
 rintro ⟨i,s⟩ ⟨i1,hs'⟩
 simp only at i1 hs' ⊢
 refine⟨fun hlt=>?_,fun hge=>?_⟩
 ·have hlt':i<l.length:=by omega
  have hlm:i<(l.map B4).length:=by simpa using hlt'
  have jt:=Ty [32,59,32] hlm
  obtain ⟨j1,j2⟩:=Baw [32,59,32] hlm
  have eg:(l.map B4).getD i []=B4 (l.getD i default):=by simp[List.getD_eq_getElem?_getD,hlt']
  have w:IntKind.i64.wrap ((i:Int)+1)=((i+1:Nat):Int):=by rw[Ba (by omega) (by omega)];rfl
  obtain ⟨q2,q1,qn⟩:=hs _ (C4 hlt')
  unfold BC at qn
  rw[eg] at jt j1 j2
  simp only[List.length_cons,List.length_nil] at j2
  have s0:i=0->s=[]:=fun e=>by rw[hs',e];simp[Lib.join]
  have js:Lib.join (List.take (i+1) (l.map B4)) [32,59,32]=(if 0<i then s++[32,59,32] else s)++B4 (l.getD i default):=by
   rw[jt,<- hs']
   by_cases e:0<i
   ·rw[if_pos e,if_pos e]
   ·rw[if_neg e,if_neg e,s0 (by omega)]
  have hlen:s.length+3+(B4 (l.getD i default)).length<=20000000000003:=by
   by_cases e:0<i
   ·have:=j2 e
    rw[<- hs'] at this
    omega
   ·rw[s0 (by omega)]
    simp only[List.length_nil]
    omega
  have eM:=O1 (l.getD i default)
  have go:∀T,T=(if 0<i then s++[32,59,32] else s)++B4 (l.getD i default)->∃a b,(a<=l.length/\b=Lib.join (List.take a (l.map B4)) [32,59,32])/\l.length-a<l.length-i/\IntKind.i64.wrap ((i:Int)+1)=(a:Int)/\T=b:=fun T hT =>
   ⟨i+1,T,⟨hlt',by rw[hT,js]⟩,by omega,w,rfl⟩
  have l2:(l.getD i default).kd=2->(B4 (l.getD i default)).length=(l.getD i default).nm.length+4+(Bt (l.getD i default).nd).length:=fun k=>by
   rw[eM,if_pos k];simp only[List.length_append,List.length_cons,List.length_nil]
  have l3:(l.getD i default).kd=3->(B4 (l.getD i default)).length=(Bt (l.getD i default).te).length+3+(Bt (l.getD i default).nd).length:=fun k=>by
   rw[eM,if_neg (by omega),if_pos k];simp only[List.length_append,List.length_cons,List.length_nil]
  have l4:(l.getD i default).kd≠2->(l.getD i default).kd≠3->(B4 (l.getD i default)).length=(Bt (l.getD i default).nd).length:=fun k k'=>by
   rw[eM,if_neg k,if_neg k']
  clear js jt j1 j2 eg hlm hs' hs h hj w s0
  generalize l.getD i default=x at *
  by_cases k2:x.kd=2
  ·have l2:=l2 k2
   rw[if_pos k2] at eM
   clear l3 l4
   repeat' (first
    |exact absurd (by assumption) (show ¬x.kd=3 by omega)
    |refine⟨x.nd,⟨Bl _ _,q2⟩,?_⟩
    |refine go _ ?_
    |refine And.intro ?_ ?_
    |intro _)
   all_goals first
    |omega
    |(simp only[List.length_append,List.length_cons,List.length_nil];omega)
    |(rw[eM,if_pos (by omega)];simp only[List.append_assoc])
    |(rw[eM,if_neg (by omega)];simp only[List.append_assoc])
    |(exfalso;omega)
  ·by_cases k3:x.kd=3
   ·have l3:=l3 k3
    rw[if_neg k2,if_pos k3] at eM
    clear l2 l4
    repeat' (first
     |exact absurd (by assumption) k2
     |refine⟨x.nd,⟨Bl _ _,q2⟩,?_⟩
     |refine⟨x.te,⟨Bl _ _,q1 k3⟩,?_⟩
     |refine go _ ?_
     |refine And.intro ?_ ?_
     |intro _)
    all_goals first
     |omega
     |(simp only[List.length_append,List.length_cons,List.length_nil];omega)
     |(rw[eM,if_pos (by omega)];simp only[List.append_assoc])
     |(rw[eM,if_neg (by omega)];simp only[List.append_assoc])
     |(exfalso;omega)
   ·have l4:=l4 k2 k3
    rw[if_neg k2,if_neg k3] at eM
    clear l2 l3
    repeat' (first
     |exact absurd (by assumption) k2
     |exact absurd (by assumption) k3
     |refine⟨x.nd,⟨Bl _ _,q2⟩,?_⟩
     |refine go _ ?_
     |refine And.intro ?_ ?_
     |intro _)
    all_goals first
     |omega
     |(simp only[List.length_append,List.length_cons,List.length_nil];omega)
     |(rw[eM,if_pos (by omega)])
     |(rw[eM,if_neg (by omega)])
     |(exfalso;omega)
 ·have e:i=l.length:=by omega
  rw[hs',e,List.take_of_length_le (by simp)]
theorem Bg3(b:Nd):BB [16,14,15,3,4,5] b=BB [3,4,5,16,14,15] b:=by
 unfold BB Eb
 have e:[16,14,15,3,4,5].contains b.kd=[3,4,5,16,14,15].contains b.kd:=by
  rw[Bool.eq_iff_iff]
  simp only[List.contains_eq_mem,decide_eq_true_eq,List.mem_cons,List.not_mem_nil,or_false]
  omega
 rw[e]
theorem Beq:BB [16,4,5]=BB [4,5,16]:=by
 funext b
 unfold BB Eb
 have e:[16,4,5].contains b.kd=[4,5,16].contains b.kd:=by
  rw[Bool.eq_iff_iff]
  simp only[List.contains_eq_mem,decide_eq_true_eq,List.mem_cons,List.not_mem_nil,or_false]
  omega
 rw[e]
def Bem(n:Nd)(q:Nd->Prop):Con:=fun k ds S=>match k with
 |130=>some (pA ds S (.str (WU n)) (isN2 n ds []))
 |129=>some (pA ds S (.str (Lib.join (n.bo.map B4) [32,59,32])) (wkL ds [gsl 34 Sm.row1 n.bo,.str [32,59,32]]/\n.kd=10/\(Lib.join (n.bo.map B4) [32,59,32]).length<=20000000000000))
 |126=>match ds with
  | [_,.sl 1 m f _]=>some (pA ds S (.str (Lib.join (n.ki.map (BB (Bj m f))) [32])) (wkL ds [gsl 15 Nd.row1 n.ki,isl (Bj m f) .any]/\m<=maxLen/\(Lib.join (n.ki.map (BB (Bj m f))) [32]).length<=20000000000000))
  |_=>none
 |k=>Bbk q k ds S
theorem BhD{n:Nd}{q:Nd->Prop}(ho:n.ok)(hn:n.sm)(h:∀b,q b->RRShow b)(hq:∀b∈n.ki,q b)(hs:n.kd=10->∀s∈n.bo,q s.nd/\(s.kd=3->q s.te)/\s.nm.length<=BC):ConOk Tryz.prog (Bem n q):=by
 intro k ds S A hh
 unfold Bem at hh
 split at hh
 ·injection hh with hh;subst hh
  exact Bo fun e=>CD.at_ (CD.wk (Bo2 n ho) e) _
 ·injection hh with hh;subst hh
  exact Bo fun ⟨e,hk,hj⟩=>CD.at_ (CD.wk (Bnt q n.bo h (hs hk) (Ch (Cb hn).2.2) hj) e) _
 ·split at hh
  ·injection hh with hh;subst hh
   exact Bo fun ⟨e,hm,hj⟩=>CD.at_ (CD.wk (Bph q n.ki _ h hq (Ch (Cb hn).2.1) (by rw[BJ];exact hm) hj) e) _
  ·cases hh
 ·exact Baj h _ _ _ _ hh
noncomputable def Ersh(n:Nd)(q:Nd->Prop):Senv:={ EC (Bem n q) 140 7 [11,14,20,40,73,93,127,133] (fun id=>match id with | 9=>([0,1,2,3,4,5,6,7,8,12,13,14,15,9,10,11,16,17,18],[9,10,16]) | 11=>([0,1,2,3,4,5,6,7,8,12,13,14,15,16,17,18,19,20,25,26,27,28,9,10,11,21,22,23,24,29,30,31],[9,10,21,22,29]) | 13=>([0,1,2,3,4,5,6,7,8,12,13,14,15,9,10,11,16,17,18],[9,10,16]) | 16=>([0,1,2,3,4,5,6,7,8,12,13,14,15,19,20,21,22,23,24,25,26,27,9,10,11,16,17,18,28,29,30,31],[9,10,16,28,29]) | _=>([],[])) with mg:=fun _=>2 }
theorem BhU{n:Nd}(hv:Bz n=true)(h3:n.kd≠3)(h4:n.kd≠4)(h5:n.kd≠5)(h14:n.kd≠14)(h15:n.kd≠15)(h16:n.kd≠16)(h10:n.kd≠10):WU n=Bt n:=by
 rw[CT,if_neg h3,if_neg h4,if_neg h5,if_neg h16,if_neg h14,if_neg h15]
 have hl:C3 n=true:=by
  rcases Eg hv h10 with hc | ⟨hc,_⟩
  ·exact hc
  ·unfold CR at hc
   simp[h3,h4,h5,h14,h15,h16] at hc
 unfold C3 at hl
 rw[Bool.and_eq_true] at hl
 have hl:=hl.2
 unfold WU
 by_cases k1:n.kd=1
 ·simp[k1]
 by_cases k2:n.kd=2
 ·simp[k2]
 by_cases k6:n.kd=6
 ·simp[k6]
 by_cases k7:n.kd=7
 ·simp[k7]
 by_cases k8:n.kd=8
 ·simp[k8]
 by_cases k9:n.kd=9
 ·simp[k9]
 by_cases k11:n.kd=11
 ·simp[k11]
 by_cases k12:n.kd=12
 ·simp[k12]
 by_cases k13:n.kd=13
 ·simp[k13]
 by_cases k17:n.kd=17
 ·simp[k17]
 simp[k1,k2,k6,k7,k8,k9,k11,k12,k13,k17] at hl
def K7(a:Nd):Int:=Nd.kd a
def VL(a:Nd):List Nd:=Nd.ki a
def HO:Arr:=DA
def Vj:Nd:=Nd.mk Z0 Z0 Z0 [] Z0 Z0 HO [] [] Z0 Z0 Z0
def YO(a:Nd):D:=D.sl 15 (LN (VL a)) (fun i=>Nd.row1 (List.getD (VL a) i Vj)) Mode.any
def Qlx:List (List D):=[[ZI 4],[ZI 5]]
def QGP:List (List D):=[ZI 3]::Qlx
def QGQ(a:Nat):List D:=List.getD QGP a []
def QGR:List Int:=Bj (3:Nat) fun i=>QGQ i
def QGS(a:Nd):List UInt8:=Lib.join (List.map (BB QGR) (VL a)) [(32:UInt8)]
def QG(a:Nd):List UInt8:=Bt a
def Qw(a:Nd):Int:=(LI (VL a))
def K8(a:Nd):Nd:=List.getD (VL a) N0 Vj
def QeJ:Sm:=Sm.mk Z0 Z0 [] Z0 Vj Vj
def Qly(a:Nd):D:=D.agg (Nd.rowE (K8 a))
def QGW:List D:=[D.sl N1 N1 (fun i=>List.getD [[ZI 16]] i []) Mode.full]
def Qlz(a:Nd):D:=D.agg (Nd.row1 a)
def QGX:List Int:=Bj N1 fun i=>List.getD [[ZI 16]] i []
def QGY(a:Nd):List D:=[Qlz a,SI QGX]
def QGZ(a b:Nd):Prop:=wkL (Qly a::QGW) (QGY b)/\N1<=9223372036854775807
def Qh(a:Nat)(b:Nd):Prop:=SM a/\SM (YO b)
def QG0(a:Nd):Bool:=List.contains QGX (K7 a)
def QeK(a:Nd):List D:=[D.bool (QG0 a)]
def QG1(a b c:Nd)(d:Nd->Prop):Prop:=isN a (Qly b::QeK c) (QeK c)/\d a
def QlA(a b:Nd):List UInt8:=BbC (QG0 a) (QG b)
def QG2(a b:Nd):Nat:=LN (QlA a b)
def QlB(a b:Nd):Nat:=QG2 a b+N1
def K9(a:Nd):Nd:=List.getD (VL a) N1 Vj
def HP(a:Nd):D:=D.agg (Nd.rowE (K9 a))
def QG6(a b:Nd):List UInt8:=QlA a b++[32]
def QG7(a b c:Nd):Nat:=LN (QG6 a b)+LN (QG c)
def QlC(a b c:Nd):List UInt8:=QG6 a b++QG c
def QG8(a b c d:Nd):Prop:=∀(_y:Unit),True->Bc (QG7 a b c<=9223372036854775807) (True/\∃(_y:Unit),True/\QlC a b c=QG d/\True/\True)
def QG9(a:Nat):List D:=List.getD Qlx a []
def QHa:List Int:=Bj N2 fun i=>QG9 i
def QHb(a:Nd):Bool:=List.contains QHa (K7 a)
def QHc(a:Nd):List D:=[D.bool (QHb a)]
def QHe(a b:Nd):List UInt8:=BbC (QHb a) (QG b)
def QHf(a b:Nd):List UInt8:=QHe a b++[32]
def QHg(a b c d:Nd):List UInt8:=QHf a b++QlA c d
def Ja(a:Nd):Nd:=List.getD (VL a) N2 Vj
def QlD(a:Nd):D:=D.agg (Nd.rowE (Ja a))
def QHk(a b c d:Nd):List UInt8:=QHg a b c d++[32]
def QHl(a b:Nd):Prop:=wkL (HP a::QGW) (QGY b)/\N1<=9223372036854775807
def QHm(a b c:Nd)(d:Nd->Prop):Prop:=isN a (HP b::QeK c) (QeK c)/\d a
def QHn(a b:Nd)(c:Nd->Prop):Prop:=isN a [Qly b] []/\c a
def QHo(a:Nat):List D:=List.getD ([ZI 16]::[ZI 14]::[ZI 15]::QGP) a []
def QHp:List Int:=Bj N6 fun i=>QHo i
def QHq(a:Nd):Bool:=List.contains QHp (K7 a)
def QHr(a:Nd):List D:=[D.bool (QHq a)]
def QHs(a b c:Nd):List UInt8:=QlC a b c++[32]
def QHt(a b:Nd):List UInt8:=BbC (QHq a) (QG b)
def QHu(a:Nat):List D:=List.getD ([ZI 16]::Qlx) a []
def QHv:List Int:=Bj (3:Nat) fun i=>QHu i
def QHw(a:Nd):List UInt8:=Lib.join (List.map (BB QHv) (VL a)) [(32:UInt8)]
def QlE(a:Nd):List Sm:=Nd.bo a
def QHx(a:Nd):D:=D.sl 34 (LN (QlE a)) (fun i=>Sm.row1 (List.getD (QlE a) i QeJ)) Mode.any
def QHy(a:Nd):List D:=[QHx a,D.str [32,59,32]]
def QHz(a:Nd):List UInt8:=Lib.join (List.map B4 (QlE a)) [(32:UInt8),(59:UInt8),(32:UInt8)]
def QHA(a:Nd):Nat:=LN (QHz a)
def QHB(a:Nd):List UInt8:=List.append [] (QHz a)
theorem Bjw(n : Nd)(q : Nd -> Prop)(hv : Bz n=true)(ho : n.ok)(hn : n.sm)(hz : szN n<=16384)(h : ∀b, q b -> RRShow b)(hq : ∀b∈n.ki, q b)(hs : n.kd=10 -> ∀s∈n.bo, q s.nd /\ (s.kd=3 -> q s.te) /\ s.nm.length<=BC) :
  CD 114 [.agg n.row2] (.str (Bt n)):=by
 refine Bg (A:=sC _ _) (x:=()) (E:=Ersh n q) (eOk (BhD ho hn h hq hs) rfl) Tryz.func114 rfl (by kernel_rfl) rfl (by simp[sC,Ersh,EC,E0]) ?_
 refine Bi (T :=
  ∀(x:Nat),True->SM x/\ifB (K7 n==3) (SM x/\∃(x:Unit),(wkL [YO n,D.sl N1 (3:Nat) (fun i=>QGQ i) Mode.full] [YO n,SI QGR]/\(3:Nat)<=9223372036854775807/\LN (QGS n)<=20000000000000)/\∀(y:Unit),True->RT (QGS n=QG n)) (ifB (K7 n==4) (SM x/\Bc (Z0<=Z0/\Z0<Qw n) (SM x/\Bc (Z0<=Z0/\Z0<Qw n) (SM x/\Bc (Z0<=Z1/\Z1<Qw n) (∃(x_1:Nd),QGZ n x_1/\∀(y:Unit),True->Qh x n/\Qh x n/\∃(x_2:Nd),QG1 x_2 n x_1 q/\∀(y:Unit),True->Qh x n/\Bc (QlB x_1 x_2<=9223372036854775807) (∃(x:Nd),(isN x [HP n] []/\q x)/\QG8 x_1 x_2 x n))))) (ifB (K7 n==5) (SM x/\Bc (Z0<=Z1/\Z1<Qw n) (SM x/\Bc (Z0<=Z1/\Z1<Qw n) (SM x/\Bc (Z0<=Z0/\Z0<Qw n) (SM x/\Bc (Z0<=Z0/\Z0<Qw n) (SM x/\Bc (Z0<=2/\(2:Int)<Qw n) (∃(x_1:Nd),(wkL [HP n,D.sl N1 N2 (fun i=>QG9 i) Mode.full] [Qlz x_1,SI QHa]/\N2<=9223372036854775807)/\∀(y:Unit),True->Qh x n/\Qh x n/\Qh x n/\Qh x n/\∃(x_2:Nd),(isN x_2 (HP n::QHc x_1) (QHc x_1)/\q x_2)/\∀(y:Unit),True->Qh x n/\Qh x n/\Qh x n/\Bc (LN (QHe x_1 x_2)+N1<=9223372036854775807) (∃(x_3:Nd),QGZ n x_3/\∀(y:Unit),True->Qh x n/\Qh x n/\∃(x_4:Nd),QG1 x_4 n x_3 q/\∀(y:Unit),True->Qh x n/\Bc (LN (QHf x_1 x_2)+QG2 x_3 x_4<=9223372036854775807) (Bc (LN (QHg x_1 x_2 x_3 x_4)+N1<=9223372036854775807) (∃(x:Nd),(isN x [QlD n] []/\q x)/\∀(y:Unit),True->Bc (LN (QHk x_1 x_2 x_3 x_4)+LN (QG x)<=9223372036854775807) (RT (QHk x_1 x_2 x_3 x_4++QG x=QG n))))))))))) (ifB (K7 n==14) (SM x/\Bc (Z0<=Z1/\Z1<Qw n) (SM x/\Bc (Z0<=Z1/\Z1<Qw n) (SM x/\Bc (Z0<=Z0/\Z0<Qw n) (∃(x_1:Nd),QHl n x_1/\∀(y:Unit),True->Qh x n/\Qh x n/\∃(x_2:Nd),QHm x_2 n x_1 q/\∀(y:Unit),True->Qh x n/\Bc (QlB x_1 x_2<=9223372036854775807) (∃(x:Nd),QHn x n q/\QG8 x_1 x_2 x n))))) (ifB (K7 n==15) (SM x/\Bc (Z0<=Z1/\Z1<Qw n) (SM x/\Bc (Z0<=Z1/\Z1<Qw n) (SM x/\Bc (Z0<=Z0/\Z0<Qw n) (SM x/\Bc (Z0<=2/\(2:Int)<Qw n) (SM x/\Bc (Z0<=2/\(2:Int)<Qw n) (∃(x_1:Nd),QHl n x_1/\∀(y:Unit),True->Qh x n/\Qh x n/\Qh x n/\Qh x n/\∃(x_2:Nd),QHm x_2 n x_1 q/\∀(y:Unit),True->Qh x n/\Qh x n/\Qh x n/\Bc (QlB x_1 x_2<=9223372036854775807) (∃(x_3:Nd),QHn x_3 n q/\∀(y:Unit),True->Qh x n/\Qh x n/\Bc (QG7 x_1 x_2 x_3<=9223372036854775807) (Bc (LN (QlC x_1 x_2 x_3)+N1<=9223372036854775807) (∃(x_4:Nd),(wkL [QlD n,D.sl N1 N6 (fun i=>QHo i) Mode.full] [Qlz x_4,SI QHp]/\N6<=9223372036854775807)/\∀(y:Unit),True->Qh x n/\∃(x:Nd),(isN x (QlD n::QHr x_4) (QHr x_4)/\q x)/\∀(y:Unit),True->Bc (LN (QHs x_1 x_2 x_3)+LN (QHt x_4 x)<=9223372036854775807) (RT (QHs x_1 x_2 x_3++QHt x_4 x=QG n))))))))))) (ifB (K7 n==16) (SM x/\∃(x:Unit),(wkL [YO n,D.sl N1 (3:Nat) (fun i=>QHu i) Mode.full] [YO n,SI QHv]/\(3:Nat)<=9223372036854775807/\LN (QHw n)<=20000000000000)/\∀(y:Unit),True->RT (QHw n=QG n)) (ifB (K7 n==10) (SM x/\∃(x:Unit),(wkL (QHy n) (QHy n)/\K7 n=10/\QHA n<=20000000000000)/\∀(y:Unit),True->Bc (N2+QHA n<=9223372036854775807) (Bc (LN ((123:UInt8)::(32:UInt8)::QHB n)+N2<=9223372036854775807) (RT ((123:UInt8)::(32:UInt8)::List.append (QHB n) [(32:UInt8),(125:UInt8)]=QG n)))) (SM x/\∃(x:Unit),isN2 n [D.agg (Nd.row2 n)] []/\∀(y:Unit),True->RT (WU n=QG n))))))))) (by kernel_rfl) ?_
 delta DA GI LI LN N0 N1 N2 N4 N6 SI SM Z0 Z1 ZI K7 VL QG Qw K8 QeJ HO Qly QGW Qlz QGX QGY QGZ Qh QG0 QeK QG1 Vj QlA QG2 QlB K9 YO HP QG6 QG7 QlC QG8 QG9 QHa QHb QHc QHe Qlx QHf QHg Ja QlD QGP QHk QHl QHm QHn QHo QHp QHq QHr QHs QHt QGQ QHu QHv QHw QlE QHx QHy QHz QHA QHB QGR QGS RT
 try simp only[<- dm]
 try simp only[<- dn]
 simp only[ne_eq,Bf,Bd,true_and,and_true,beq_iff_eq,beq_eq_false_iff_ne,exists_const,forall_const]
 have i1:Bj 1 (fun i=>[[D.int IntKind.i64 16]].getD i [])=[16]:=rfl
 have i2:Bj 2 (fun i=>[[D.int IntKind.i64 4],[D.int IntKind.i64 5]].getD i [])=[4,5]:=rfl
 have i3:∀a b c:Int,Bj 3 (fun i=>[[D.int IntKind.i64 a],[D.int IntKind.i64 b],[D.int IntKind.i64 c]].getD i [])=[a,b,c]:=fun _ _ _=>rfl
 have i6:Bj 6 (fun i=>[[D.int IntKind.i64 16],[D.int IntKind.i64 14],[D.int IntKind.i64 15],[D.int IntKind.i64 3],[D.int IntKind.i64 4],[D.int IntKind.i64 5]].getD i [])=[16,14,15,3,4,5]:=rfl
 have p1:IntsP 1 (fun i=>[[D.int IntKind.i64 16]].getD i []):=fun i hi=>by
  match i,hi with
  |0,_=>rfl
 have p2:IntsP 2 (fun i=>[[D.int IntKind.i64 4],[D.int IntKind.i64 5]].getD i []):=fun i hi=>by
  match i,hi with
  |0,_=>rfl
  |1,_=>rfl
 have p3:∀a b c:Int,IntsP 3 (fun i=>[[D.int IntKind.i64 a],[D.int IntKind.i64 b],[D.int IntKind.i64 c]].getD i []):=fun _ _ _ i hi=>by
  match i,hi with
  |0,_=>rfl
  |1,_=>rfl
  |2,_=>rfl
 have p6:IntsP 6 (fun i=>[[D.int IntKind.i64 16],[D.int IntKind.i64 14],[D.int IntKind.i64 15],[D.int IntKind.i64 3],[D.int IntKind.i64 4],[D.int IntKind.i64 5]].getD i []):=fun i hi=>by
  match i,hi with
  |0,_=>rfl
  |1,_=>rfl
  |2,_=>rfl
  |3,_=>rfl
  |4,_=>rfl
  |5,_=>rfl
 obtain ⟨L2,L3,_⟩:=IM hv
 have kq:∀i,i<n.ki.length->q (n.ki.getD i default):=fun i hi=>hq _ (BW hi)
 have wl:∀(ks:List Int) (b:Nd),q b->(BB ks b).length<=20000000000004:=fun ks b hb=>by
  have h1:=CU ks b.kd (Bt b)
  have h2:=(h b hb).2
  unfold BB
  omega
 have sg:∀i,i<n.ki.length->(BX n.ki).getD i []=Bt (n.ki.getD i default):=fun i hi=>I7 hi
 have hlen:=Ev n hv ho
 refine⟨fun k=>?_,fun n3=>⟨fun k=>?_,fun n4=>⟨fun k=>?_,fun n5=>⟨fun k=>?_,fun n14=>⟨fun k=>?_,fun n15=>⟨fun k=>?_,fun n16=>⟨fun k=>?_,fun n10=>⟨CJ n _,BhU hv n3 n4 n5 n14 n15 n16 n10⟩⟩⟩⟩⟩⟩⟩⟩
 ·rw[CT] at hlen ⊢
  simp only[k] at hlen ⊢
  exact⟨⟨OC (p3 _ _ _),by omega,by rw[i3];simp at hlen;omega⟩,by rw[i3];simp⟩
 ·have hL:n.ki.length=2:=L2 (.inl k)
  have q0:=kq 0 (by omega)
  have q1:=kq 1 (by omega)
  have r0:=(h _ q0).2
  have r1:=(h _ q1).2
  have w0:=wl [16] _ q0
  have e:Bt n=BB [16] (n.ki.getD 0 default)++[32]++Bt (n.ki.getD 1 default):=by
   rw[CT]
   simp only[k]
   rw[sg 0 (by omega),sg 1 (by omega)]
   rfl
  have pw:=Gq [16] (n.ki.getD 0 default)
  rw[e]
  refine⟨⟨by omega,by omega⟩,⟨by omega,by omega⟩,⟨by omega,by omega⟩,n.ki.getD 0 default,⟨Ck (r:=(n.ki.getD 0 default).row1) p1,by omega⟩,n.ki.getD 0 default,⟨Bl _ _,q0⟩,?_,n.ki.getD 1 default,⟨Bl _ _,q1⟩,?_,?_⟩
  all_goals rw[i1,pw]
  all_goals first
   |omega
   |(simp only[List.length_append,List.length_cons,List.length_nil];omega)
 ·have hL:n.ki.length=3:=L3 (.inl k)
  have q0:=kq 0 (by omega)
  have q1:=kq 1 (by omega)
  have q2:=kq 2 (by omega)
  have r2:=(h _ q2).2
  have w0:=wl [16] _ q0
  have w1:=wl [4,5] _ q1
  have e:Bt n=BB [4,5] (n.ki.getD 1 default)++[32]++BB [16] (n.ki.getD 0 default)++[32]++Bt (n.ki.getD 2 default):=by
   rw[CT]
   simp only[k]
   rw[sg 0 (by omega),sg 1 (by omega),sg 2 (by omega)]
   rfl
  have pw:=Gq [16] (n.ki.getD 0 default)
  have pw2:=Gq [4,5] (n.ki.getD 1 default)
  rw[e]
  refine⟨⟨by omega,by omega⟩,⟨by omega,by omega⟩,⟨by omega,by omega⟩,⟨by omega,by omega⟩,⟨by omega,by omega⟩,n.ki.getD 1 default,⟨Ck (r:=(n.ki.getD 1 default).row1) p2,by omega⟩,n.ki.getD 1 default,⟨Bl _ _,q1⟩,?_,n.ki.getD 0 default,⟨Ck (r:=(n.ki.getD 0 default).row1) p1,by omega⟩,n.ki.getD 0 default,⟨Bl _ _,q0⟩,?_,?_,n.ki.getD 2 default,⟨Bl _ _,q2⟩,?_,?_⟩
  all_goals rw[i2,pw2]
  all_goals try rw[i1,pw]
  all_goals first
   |omega
   |(simp only[List.length_append,List.length_cons,List.length_nil];omega)
 ·have hL:n.ki.length=2:=L2 (.inr k)
  have q0:=kq 0 (by omega)
  have q1:=kq 1 (by omega)
  have r0:=(h _ q0).2
  have w1:=wl [16] _ q1
  have e:Bt n=BB [16] (n.ki.getD 1 default)++[32]++Bt (n.ki.getD 0 default):=by
   rw[CT]
   simp only[k]
   rw[sg 0 (by omega),sg 1 (by omega)]
   rfl
  have pw:=Gq [16] (n.ki.getD 1 default)
  rw[e]
  refine⟨⟨by omega,by omega⟩,⟨by omega,by omega⟩,⟨by omega,by omega⟩,n.ki.getD 1 default,⟨Ck (r:=(n.ki.getD 1 default).row1) p1,by omega⟩,n.ki.getD 1 default,⟨Bl _ _,q1⟩,?_,n.ki.getD 0 default,⟨Bl _ _,q0⟩,?_,?_⟩
  all_goals rw[i1,pw]
  all_goals first
   |omega
   |(simp only[List.length_append,List.length_cons,List.length_nil];omega)
 ·have hL:n.ki.length=3:=L3 (.inr k)
  have q0:=kq 0 (by omega)
  have q1:=kq 1 (by omega)
  have q2:=kq 2 (by omega)
  have r0:=(h _ q0).2
  have w1:=wl [16] _ q1
  have w2:=wl [3,4,5,16,14,15] _ q2
  have e:Bt n=BB [16] (n.ki.getD 1 default)++[32]++Bt (n.ki.getD 0 default)++[32]++BB [3,4,5,16,14,15] (n.ki.getD 2 default):=by
   rw[CT]
   simp only[k]
   rw[sg 0 (by omega),sg 1 (by omega),sg 2 (by omega)]
   rfl
  have pw:=Gq [16] (n.ki.getD 1 default)
  have pw2:=Gq [16,14,15,3,4,5] (n.ki.getD 2 default)
  rw[Bg3] at pw2
  rw[e]
  refine⟨⟨by omega,by omega⟩,⟨by omega,by omega⟩,⟨by omega,by omega⟩,⟨by omega,by omega⟩,⟨by omega,by omega⟩,n.ki.getD 1 default,⟨Ck (r:=(n.ki.getD 1 default).row1) p1,by omega⟩,n.ki.getD 1 default,⟨Bl _ _,q1⟩,?_,n.ki.getD 0 default,⟨Bl _ _,q0⟩,?_,?_,n.ki.getD 2 default,⟨Ck (r:=(n.ki.getD 2 default).row1) p6,by omega⟩,n.ki.getD 2 default,⟨Bl _ _,q2⟩,?_,?_⟩
  all_goals rw[i1,pw]
  all_goals try rw[i6,pw2]
  all_goals first
   |omega
   |(simp only[List.length_append,List.length_cons,List.length_nil];omega)
 ·rw[CT] at hlen ⊢
  simp only[k] at hlen ⊢
  rw[i3,Beq]
  exact⟨⟨OC (p3 _ _ _),by omega,by simp at hlen;omega⟩,by simp⟩
 ·rw[CT] at hlen ⊢
  simp only[k] at hlen ⊢
  simp at hlen
  repeat' (first | exact Be _ | exact k | refine And.intro ?_ ?_)
  all_goals first
   |omega
   |(simp only[List.length_cons];omega)
   |(simp;omega)
   |(simp;done)
theorem Bbg(n:Nd)(hv:Bz n=true)(ho:n.ok)(hn:n.sm)(hz:szN n<=16384):RRShow n:=by
 have hl:=Ev n hv ho
 refine⟨Bjw n RRShow hv ho hn hz (fun _ h=>h) (fun b hb=>?_) (fun hk s hs=>?_),by omega⟩
 ·have:=Ey (BS hb)
  exact Bbg b ((EG hv).1 b hb) (Oc ho b hb) (EZ hn (BS hb)) (by omega)
 ·have h1:=hv
  rw[CF,Bool.and_eq_true,if_pos hk,Bool.and_eq_true] at h1
  have hb:=h1.2.2
  unfold BP at hb
  rw[Bool.and_eq_true] at hb
  obtain ⟨q1,q2⟩:=Em hb.2 s hs
  have o:=Cq (GG ho s hs)
  have m:=Cm (GB hn s hs)
  have i1:s.nd∈BH n:=List.mem_append.2 (.inr (List.mem_flatMap.2 ⟨s,hs,by unfold Bq;split<;>simp⟩))
  have z1:=Ey i1
  refine⟨Bbg s.nd q1 o.2 m.2 (by omega),fun h3=>?_,BnT (GB hn s hs)⟩
  have i2:s.te∈BH n:=List.mem_append.2 (.inr (List.mem_flatMap.2 ⟨s,hs,by unfold Bq;rw[if_pos h3];simp⟩))
  have z2:=Ey i2
  have hv2:Bz s.te=true:=by
   rcases q2 with ⟨_,q,_⟩ | ⟨q,_⟩
   ·exact q
   ·exact (q h3).elim
  exact Bbg s.te hv2 o.1 m.1 (by omega)
termination_by szN n
decreasing_by all_goals omega
def BlE(n:Nd):Con:=fun k ds S=>match k with
 |114=>some (pA ds S (.str (Bt n)) (isN n ds []/\BU n=0))
 |k=>BeW n k ds S
noncomputable def Ersw(n:Nd):Senv:={ EC (BlE n) 18 3 [15] (fun _=>([],[])) with mg:=fun _=>2 }
def QlG(a:Nd):D:=D.agg (Nd.rowE a)
def QlH(a:Nd):Prop:=True/\∃(_y:Unit),True/\Cv (List UInt8) [] (Eq a)/\True/\True
def QHF(a:Nd):Prop:=isN a [QlG a] []
theorem Bnj(n:Nd)(ho:n.ok)(hn:n.sm):CD 93 [.agg n.row1] (.str (Eq n)):=by
 refine Bg (A:=sC _ _) (x:=()) (E:=Ersw n) (eOk ?_ rfl) Tryz.func93 rfl (by kernel_rfl) rfl (by simp[sC,Ersw,EC,E0]) ?_
 ·intro k ds S A hh
  unfold BlE at hh
  split at hh
  ·injection hh with hh;subst hh
   refine Bo fun ⟨e,h0⟩=>?_
   obtain ⟨_,h2,h3⟩:=BV.1 h0
   exact CD.at_ (CD.isN (Bbg n h3 ho hn h2).1 e) _
  ·exact BhI ho hn _ _ _ _ hh
 refine Bi (T :=
  ∀(x:Nat),True->SM x/\∃(x_1:Unit),isN n [QlG n,ZI 60] [ZI 60]/\∀(y:Unit),True->ifB (decide ((60:Int)<GQ (dpN n) (60:Int))) (QlH n) (SM x/\∃(x_2:Unit),isN n [QlG n,ZI 16384] [ZI 16384]/\∀(y:Unit),True->ifB (decide ((16384:Int)<BT (szN n) (16384:Int))) (QlH n) (SM x/\∃(x_3:Unit),QHF n/\∀(y:Unit),True->ifB (!Bz n) (QlH n) (SM x/\∃(x:Unit),(QHF n/\BU n=Z0)/\∀(y:Unit),True->RT (Bt n=Eq n))))) (by kernel_rfl) ?_
 delta DA GI LN N1 N4 SI SM Z0 ZI QlG QlH QHF RT
 try simp only[<- dm]
 try simp only[<- dn]
 simp only[Bf,decide_eq_true_eq,decide_eq_false_iff_not,true_and,and_true,Bool.not_eq_true',Bool.not_eq_false',exists_const,forall_const]
 simp only[BkY,Ban]
 unfold Eq
 refine⟨Bl _ _,fun h=>?_,fun h=>⟨Bl _ _,fun h2=>?_,fun h2=>⟨Bl _ _,fun h3=>?_,fun h3=>?_⟩⟩⟩
 ·exact (if_neg (fun e=>by have:=(BV.1 e).1;omega)).symm
 ·exact (if_neg (fun e=>by have:=(BV.1 e).2.1;omega)).symm
 ·exact (if_neg (fun e=>by have:=(BV.1 e).2.2;rw[h3] at this;cases this)).symm
 ·have e:BU n=0:=BV.2 ⟨by omega,by omega,h3⟩
  rw[if_pos e]
  exact⟨⟨Bl _ _,e⟩,rfl⟩
end
end Go.Proofs.YtnlplccjbojloaaGreatDoor
