/- Functions of the given program and what each of them computes: lemmas towards the statement, their conditions stated with each of them. -/
import Derived.Test.YtnlplccjbojloaaGreatDoorS4
namespace Go.Proofs.YtnlplccjbojloaaGreatDoor
open Go Go.Ab
set_option maxRecDepth 100000
noncomputable section
def okT(x:List UInt8):Prop:=x.getD 0 0≠10/\x.getD 0 0≠59/\x.getD 0 0≠123/\x.getD 0 0≠125
def U4(x:List UInt8):Prop:=Bda x/\okT x
def okP:Pt->Prop
 |.tx x=>U4 x
 |_=>True
theorem Ez{x:List UInt8}(hx:x≠[])(h:∀b∈x,b≠32)(hq:∀b∈([34,39,10,59,123,125]:List UInt8),x.getD 0 0≠b):U4 x :=
 ⟨Ma hx h ⟨hq 34 (by simp),hq 39 (by simp)⟩,hq 10 (by simp),hq 59 (by simp),hq 123 (by simp),hq 125 (by simp)⟩
theorem O0{q:Nat}(hq:q=34\/q=39){l:List Int}(h:∀c∈l,0<=c/\c<=1114111):U4 (IG q l):=by
 refine⟨Bdx hq h,?_⟩
 have e:(IG q l).getD 0 0=UInt8.ofNat q:=by
  unfold IG
  rw[(Ow (c:=(q:Int)) (by omega) (by omega)).1 (by omega)]
  rfl
 unfold okT
 rw[e]
 rcases hq with rfl | rfl<;>decide
theorem Bcl(z:Int):∀b∈BA z,BlR b=true\/b=95:=by
 intro b hb
 unfold BA at hb
 split at hb
 ·rcases List.mem_cons.1 hb with rfl | hb
  ·exact .inr rfl
  ·exact .inl ((Rg _).1 b hb)
 ·exact .inl ((Rg _).1 b hb)
theorem Bha(z:Int):U4 (BA z):=by
 obtain ⟨b,t,e,hb⟩:=Bed z
 have key:∀b:UInt8,Bgj b=true->∀c∈([34,39,10,59,123,125]:List UInt8),b≠c:=fun b hb c hc e=>by
  subst e
  have k:∀c∈([34,39,10,59,123,125]:List UInt8),Bgj c=false:=by decide +kernel
  rw[k b hc] at hb;cases hb
 refine Ez (by rw[e];simp) (fun c hc e2=>?_) ?_
 ·rcases Bcl z c hc with h | h
  ·rw[e2] at h;exact absurd h (by decide)
  ·rw[e2] at h;exact absurd h (by decide)
 ·rw[e];exact key b hb
theorem BhI:∀n:Nat,n<56->1<=n->(primL.getD n [])≠[]/\(∀b∈primL.getD n [],b≠32)/\∀c∈([34,39,10,59,123,125]:List UInt8),(primL.getD n []).getD 0 0≠c:=by decide +kernel
theorem BmI:∀n:Nat,n<12->1<=n->(opL.getD n [])≠[]/\(∀b∈opL.getD n [],b≠32)/\∀c∈([34,39,10,59,123,125]:List UInt8),(opL.getD n []).getD 0 0≠c:=by decide +kernel
theorem T5{s:List UInt8}(h:Cd s=true):U4 s:=by
 obtain ⟨h1,_,_,_,h5,h6,_,_⟩:=BO h
 have key:∀b:UInt8,97<=b.toNat/\b.toNat<=122->∀c∈([34,39,10,59,123,125]:List UInt8),b≠c:=fun b hb c hc e=>by
  subst e
  have k:∀c∈([34,39,10,59,123,125]:List UInt8),¬(97<=c.toNat/\c.toNat<=122):=by decide +kernel
  exact k b hc hb
 refine Ez h1 (fun b hb e=>?_) (key _ h5)
 obtain ⟨i,hi,e2⟩:=List.getElem_of_mem hb
 have:=h6 i hi
 rw[List.getD_eq_getElem?_getD,List.getElem?_eq_getElem hi,Option.getD_some,e2,e] at this
 exact absurd this (by decide)
theorem Bik{n:Nd}(hl:C5 n=true)(ho:n.ok):U4 (Bt n):=by
 rw[CT]
 unfold C5 at hl
 rw[Bool.and_eq_true] at hl
 have hl:=hl.2
 have lit:∀x:List UInt8,x∈([[88],[89],[97,114,103],[115,101,108,102],[70],[71]]:List (List UInt8))->U4 x:=fun x hx=>by
  have key:∀x∈([[88],[89],[97,114,103],[115,101,108,102],[70],[71]]:List (List UInt8)),x≠[]/\(∀b∈x,b≠32)/\∀c∈([34,39,10,59,123,125]:List UInt8),x.getD 0 0≠c:=by decide +kernel
  obtain ⟨k1,k2,k3⟩:=key x hx
  exact Ez k1 k2 k3
 by_cases k1:n.kd=1
 ·rw[if_pos k1] at hl ⊢
  simp only[Bool.and_eq_true,Bool.or_eq_true,beq_iff_eq,bne_iff_ne,ne_eq,List.isEmpty_iff] at hl
  obtain ⟨⟨_,hc⟩,hs⟩:=hl
  have lo:=BeH (Ti ho) hc
  unfold GN
  rw[if_pos hc,Mg]
  unfold MH
  rcases hs with ⟨hs,hk⟩ | ⟨hs,hk⟩
  ·have hs0:n.va.sh.length=0:=by rw[hs];rfl
   rw[if_pos hs0]
   unfold CE
   have hsc:=lo.sc hs0
   rw[lo.no hk] at hsc
   have hn:n.va.nu.length=1:=by simpa using hsc
   by_cases q1:n.va.k=1
   ·rw[if_pos q1];exact Bha _
   ·rw[if_neg q1]
    have q2:n.va.k=2:=by have:=lo.kd;omega
    rw[if_pos q2]
    refine O0 (q:=39) (.inr rfl) fun c hcm=>lo.chr q2 c ?_
    rw[List.mem_singleton.1 hcm,List.getD_eq_getElem?_getD,List.getElem?_eq_getElem (show 0<n.va.nu.length by omega)]
    exact List.getElem_mem _
  ·rw[if_neg (by omega),if_pos ⟨hs,.inl hk⟩]
   unfold Ga
   rw[if_pos hk]
   exact O0 (q:=34) (.inl rfl) (lo.chr hk)
 rw[if_neg k1] at hl ⊢
 by_cases k2:n.kd=2
 ·rw[if_pos k2] at hl ⊢
  rw[Bool.and_eq_true] at hl
  exact T5 hl.2
 rw[if_neg k2] at hl ⊢
 by_cases k6:n.kd=6
 ·rw[if_pos k6];exact lit _ (by simp)
 rw[if_neg k6]
 by_cases k7:n.kd=7
 ·rw[if_pos k7];exact lit _ (by simp)
 rw[if_neg k7]
 by_cases k8:n.kd=8
 ·rw[if_pos k8];exact lit _ (by simp)
 rw[if_neg k8]
 by_cases k11:n.kd=11
 ·rw[if_pos k11];exact lit _ (by simp)
 rw[if_neg k11]
 by_cases k12:n.kd=12
 ·rw[if_pos k12];exact lit _ (by simp)
 rw[if_neg k12]
 by_cases k13:n.kd=13
 ·rw[if_pos k13];exact lit _ (by simp)
 rw[if_neg k13]
 rw[if_neg (by omega)] at hl
 by_cases k9:n.kd=9
 ·rw[if_pos k9] at hl ⊢
  rw[Bool.and_eq_true,BcC] at hl
  have h2:=hl.2
  simp only[Bool.not_not,Bool.and_eq_true,decide_eq_true_eq] at h2
  unfold Cg
  rw[if_neg (by omega)]
  obtain ⟨p1,p2,p3⟩:=BhI n.pr.toNat (by omega) (by omega)
  exact Ez p1 p2 p3
 rw[if_neg k9] at hl ⊢
 rw[if_neg (by omega)] at hl
 by_cases k17:n.kd=17
 ·rw[if_pos k17] at hl ⊢
  rw[Bool.and_eq_true,BjD] at hl
  have h2:=hl.2
  simp only[Bool.not_not,Bool.and_eq_true,decide_eq_true_eq] at h2
  unfold opT
  rw[if_neg (by omega)]
  obtain ⟨p1,p2,p3⟩:=BmI n.op.toNat (by omega) (by omega)
  exact Ez p1 p2 p3
 rw[if_neg k17] at hl
 cases hl
theorem okW{ks:List Int}{k:Int}{l:List Pt}(h:∀p∈l,okP p):∀p∈ptW ks k l,okP p:=by
 unfold ptW
 split
 ·intro p hp
  simp only[List.mem_cons,List.mem_append,List.not_mem_nil,or_false] at hp
  rcases hp with rfl | hp | rfl
  ·exact Ez (by simp) (by decide) (by decide)
  ·exact h p hp
  ·exact Ez (by simp) (by decide) (by decide)
 ·exact h
theorem okJ{l:List (List Pt)}(h:∀x∈l,∀p∈x,okP p):∀p∈ptJ l,okP p:=by
 cases l with
 |nil=>intro p hp;cases hp
 |cons x r =>
  intro p hp
  rw[ptJ] at hp
  rcases List.mem_append.1 hp with hp | hp
  ·exact h x (by simp) p hp
  ·obtain ⟨y,hy,hp⟩:=List.mem_flatMap.1 hp
   rcases List.mem_cons.1 hp with rfl | hp
   ·trivial
   ·exact h y (by simp[hy]) p hp
theorem okN(n:Nd)(hv:Bz n=true)(ho:n.ok):∀p∈ptN n,okP p:=by
 obtain ⟨L2,L3,_⟩:=IK hv
 have vk:=(EK hv).1
 have kk:∀x∈n.ki,∀p∈ptN x,okP p:=fun x hx=>okN x (vk x hx) (Oc ho x hx)
 have kid:∀i,i<n.ki.length->∀p∈ptN (n.ki.getD i default),okP p:=fun i hi=>kk _ (B0 hi)
 have kids:∀ks:List Int,∀p∈n.ki.flatMap (BS ks),okP p:=fun ks p hp=>by
  obtain ⟨x,hx,hp⟩:=List.mem_flatMap.1 hp
  exact okW (kk x hx) p hp
 have pg:∀i,i<n.ki.length->(ptL n.ki).getD i []=ptN (n.ki.getD i default):=fun i hi=>WH hi
 have cat:∀ {a b:List Pt},(∀p∈a,okP p)->(∀p∈b,okP p)->∀p∈a++b,okP p:=fun ha hb p hp=>by
  rcases List.mem_append.1 hp with hp | hp
  ·exact ha p hp
  ·exact hb p hp
 rw[Ge]
 by_cases k3:n.kd=3
 ·rw[if_pos k3];exact kids _
 rw[if_neg k3]
 by_cases k4:n.kd=4
 ·have hL:n.ki.length=2:=L2 (.inl k4)
  rw[if_pos k4,pg 0 (by omega),pg 1 (by omega)]
  exact cat (okW (kid 0 (by omega))) (kid 1 (by omega))
 rw[if_neg k4]
 by_cases k5:n.kd=5
 ·have hL:n.ki.length=3:=L3 (.inl k5)
  rw[if_pos k5,pg 0 (by omega),pg 1 (by omega),pg 2 (by omega)]
  exact cat (okW (kid 1 (by omega))) (cat (okW (kid 0 (by omega))) (kid 2 (by omega)))
 rw[if_neg k5]
 by_cases k16:n.kd=16
 ·rw[if_pos k16];exact kids _
 rw[if_neg k16]
 by_cases k14:n.kd=14
 ·have hL:n.ki.length=2:=L2 (.inr k14)
  rw[if_pos k14,pg 0 (by omega),pg 1 (by omega)]
  exact cat (okW (kid 1 (by omega))) (kid 0 (by omega))
 rw[if_neg k14]
 by_cases k15:n.kd=15
 ·have hL:n.ki.length=3:=L3 (.inr k15)
  rw[if_pos k15,pg 0 (by omega),pg 1 (by omega),pg 2 (by omega)]
  exact cat (okW (kid 1 (by omega))) (cat (kid 0 (by omega)) (okW (kid 2 (by omega))))
 rw[if_neg k15]
 by_cases k10:n.kd=10
 ·rw[if_pos k10]
  have h1:=hv
  rw[CI,Bool.and_eq_true,if_pos k10,Bool.and_eq_true] at h1
  have hb:=h1.2.2
  unfold BP at hb
  rw[Bool.and_eq_true] at hb
  have st:∀s∈n.bo,∀p∈ptM s,okP p:=fun s hs=>by
   obtain ⟨q1,q2⟩:=Ej hb.2 s hs
   have z1:=Nd.size_stmt hs
   have z2:=Sm.size_nd s
   have z3:=Sm.size_te s
   have o:=Cq (GK ho s hs)
   have hn:=okN s.nd q1 o.2
   rw[II]
   by_cases c2:s.kd=2
   ·rw[if_pos c2]
    obtain ⟨names,hst⟩:=M3 hb.2 s hs
    rw[GB,Bool.and_eq_true,if_neg (by omega),if_pos c2] at hst
    simp only[Bool.and_eq_true] at hst
    intro p hp
    simp only[List.mem_cons] at hp
    rcases hp with rfl | rfl | hp
    ·exact T5 hst.2.1.1.1.1
    ·exact Ez (by simp) (by decide) (by decide)
    ·exact hn p hp
   ·rw[if_neg c2]
    by_cases c3:s.kd=3
    ·rw[if_pos c3]
     have hv2:Bz s.te=true:=by
      rcases q2 with ⟨_,q,_⟩ | ⟨q,_⟩
      ·exact q
      ·exact (q c3).elim
     refine cat (okN s.te hv2 o.1) fun p hp=>?_
     rcases List.mem_cons.1 hp with rfl | hp
     ·exact Ez (by simp) (by decide) (by decide)
     ·exact hn p hp
    ·rw[if_neg c3];exact hn
  intro p hp
  rcases List.mem_cons.1 hp with rfl | hp
  ·trivial
  ·refine cat (okJ fun x hx=>?_) (fun p hp=>?_) p hp
   ·obtain ⟨s,hs,rfl⟩:=List.mem_map.1 hx
    exact st s hs
   ·rw[List.mem_singleton.1 hp];trivial
 ·rw[if_neg k10]
  intro p hp
  rw[List.mem_singleton.1 hp]
  rcases Ea hv k10 with hc | ⟨hc,_⟩
  ·exact Bik hc ho
  ·unfold CP at hc
   simp[k3,k4,k5,k14,k15,k16] at hc
termination_by SizeOf.sizeOf n
decreasing_by
 ·exact Nd.size_kid hx
 ·omega
 ·omega
def lvP(l:Int):Pt->Int
 |.op=>l+1
 |.cl=>l-1
 |_=>l
def lvL(l:Int)(ps:List Pt):Int:=ps.foldl lvP l
theorem Bm6(a b:Int)(p:Pt):lvP (a+b) p=a+lvP b p:=by
 cases p<;>simp only[lvP]<;>omega
theorem UM(l:Int)(a b:List Pt):lvL l (a++b)=lvL (lvL l a) b:=by
 unfold lvL;rw[List.foldl_append]
theorem UT:∀(ps:List Pt) (a b:Int),lvL (a+b) ps=a+lvL b ps
 | [],_,_=>rfl
 |p::ps,a,b=>by
  have:=UT ps a (lvP b p)
  unfold lvL at this ⊢
  rw[List.foldl_cons,List.foldl_cons,Bm6,this]
def ID(ps:List Pt):Prop:=lvL 0 ps=0/\∀k,0<=lvL 0 (ps.take k)
theorem Bbh:ID []:=⟨rfl,fun k=>by simp[lvL]⟩
theorem EY{p:Pt}(h:lvP 0 p=0):ID [p]:=by
 refine⟨h,fun k=>?_⟩
 cases k with
 |zero=>simp[lvL]
 |succ k=>simp[lvL,h]
theorem Ci{a b:List Pt}(ha:ID a)(hb:ID b):ID (a++b):=by
 refine⟨by rw[UM,ha.1,hb.1],fun k=>?_⟩
 rw[List.take_append,UM]
 by_cases h:k<=a.length
 ·rw[show k-a.length=0 by omega,List.take_zero]
  exact ha.2 k
 ·rw[List.take_of_length_le (by omega),ha.1]
  exact hb.2 _
theorem BkQ{a:List Pt}(ha:ID a):ID (.op::(a++[.cl])):=by
 have e1:lvL 0 (.op::(a++[.cl]))=0:=by
  show lvL (lvP 0 .op) (a++[.cl])=0
  rw[UM]
  have:=UT a 1 0
  rw[ha.1] at this
  have e:lvP 0 .op=1+0:=rfl
  rw[e,this]
  rfl
 refine⟨e1,fun k=>?_⟩
 cases k with
 |zero=>simp[lvL]
 |succ k =>
  show 0<=lvL (lvP 0 .op) ((a++[Pt.cl]).take k)
  have e:lvP 0 .op=1+0:=rfl
  rw[e,UT,List.take_append,UM]
  by_cases h:k<=a.length
  ·rw[show k-a.length=0 by omega,List.take_zero]
   have:=ha.2 k
   have e2:lvL (lvL 0 (a.take k)) []=lvL 0 (a.take k):=rfl
   omega
  ·rw[List.take_of_length_le (by omega),ha.1]
   obtain ⟨j,hj⟩:∃j,k-a.length=j+1:=⟨k-a.length-1,by omega⟩
   rw[hj]
   simp[lvL,lvP]
theorem ON{ks:List Int}{k:Int}{l:List Pt}(h:ID l):ID (ptW ks k l):=by
 unfold ptW
 split
 ·exact Ci (a:=[.tx [40]]) (EY rfl) (Ci h (EY rfl))
 ·exact h
theorem Mu{α:Type}{f:α->List Pt}:∀ {l:List α},(∀x∈l,ID (f x))->ID (l.flatMap f)
 | [],_=>Bbh
 |x::r,h=>by
  rw[List.flatMap_cons]
  exact Ci (h x (by simp)) (Mu fun y hy=>h y (by simp[hy]))
theorem BnI{l:List (List Pt)}(h:∀x∈l,ID x):ID (ptJ l):=by
 cases l with
 |nil=>exact Bbh
 |cons x r =>
  rw[ptJ]
  exact Ci (h x (by simp)) (Mu fun y hy=>Ci (a:=[.sp]) (EY rfl) (h y (by simp[hy])))
theorem BmJ{α:Type}{p:List α->Prop}(h0:p []){l:List (List α)}(h:∀x∈l,p x)(i:Nat):p (l.getD i []):=by
 rw[List.getD_eq_getElem?_getD]
 by_cases hi:i<l.length
 ·rw[List.getElem?_eq_getElem hi];exact h _ (List.getElem_mem hi)
 ·rw[List.getElem?_eq_none (by omega)];exact h0
theorem Wp(n:Nd):ID (ptN n):=by
 have kk:∀x∈n.ki,ID (ptN x):=fun x hx=>Wp x
 have kg:∀i,ID ((ptL n.ki).getD i []):=fun i=>BmJ Bbh (fun x hx=>by
  rw[Ba5] at hx
  obtain ⟨y,hy,rfl⟩:=List.mem_map.1 hx
  exact kk y hy) i
 rw[Ge]
 split
 ·exact Mu fun x hx=>ON (kk x hx)
 split
 ·exact Ci (ON (kg 0)) (kg 1)
 split
 ·exact Ci (ON (kg 1)) (Ci (ON (kg 0)) (kg 2))
 split
 ·exact Mu fun x hx=>ON (kk x hx)
 split
 ·exact Ci (ON (kg 1)) (kg 0)
 split
 ·exact Ci (ON (kg 1)) (Ci (kg 0) (ON (kg 2)))
 split
 ·refine BkQ (BnI fun x hx=>?_)
  obtain ⟨s,hs,rfl⟩:=List.mem_map.1 hx
  have z1:=Nd.size_stmt hs
  have z2:=Sm.size_nd s
  have z3:=Sm.size_te s
  have h1:=Wp s.nd
  have h2:=Wp s.te
  rw[II]
  split
  ·exact Ci (a:=[.tx s.nm]) (EY rfl) (Ci (a:=[.tx [60,45]]) (EY rfl) h1)
  split
  ·exact Ci h2 (Ci (a:=[.tx [58]]) (EY rfl) h1)
  ·exact h1
 ·exact EY rfl
termination_by SizeOf.sizeOf n
decreasing_by
 ·exact Nd.size_kid hx
 ·omega
 ·omega
theorem balM(s:Sm):ID (ptM s):=by
 rw[II]
 split
 ·exact Ci (a:=[.tx s.nm]) (EY rfl) (Ci (a:=[.tx [60,45]]) (EY rfl) (Wp s.nd))
 split
 ·exact Ci (Wp s.te) (Ci (a:=[.tx [58]]) (EY rfl) (Wp s.nd))
 ·exact Wp s.nd
def Gp(l:Int):List UInt8:=10::List.replicate (2*l.toNat) 32
def rlT(l:Int):Pt->List UInt8
 |.sp=>Gp l
 |p=>prT p
def rlP(l:Int):List Pt->List (List UInt8)
 | []=>[]
 |p::r=>rlT l p::rlP (lvP l p) r
theorem ED:∀(ps:List Pt) (l:Int),(rlP l ps).length=ps.length
 | [],_=>rfl
 |p::r,l=>by rw[rlP,List.length_cons,List.length_cons,ED r]
theorem BfQ:∀(a b:List Pt) (l:Int),rlP l (a++b)=rlP l a++rlP (lvL l a) b
 | [],_,_=>rfl
 |p::a,b,l=>by
  rw[List.cons_append,rlP,rlP,BfQ a b,List.cons_append]
  rfl
theorem EB{a:List Pt}(ha:ID a)(b:List Pt)(l:Int):rlP l (a++b)=rlP l a++rlP l b:=by
 rw[BfQ]
 have:=UT a l 0
 rw[ha.1] at this
 simp only[Int.add_zero] at this
 rw[this]
theorem OT:∀(ps:List Pt) (l:Int) (i:Nat),i<ps.length->(rlP l ps).getD i []=rlT (lvL l (ps.take i)) (ps.getD i .sp)
 |p::r,l,0,_=>rfl
 |p::r,l,i+1,h=>by
  have:=OT r (lvP l p) i (by simpa using h)
  simpa[rlP,lvL] using this
def Mj(c:UInt8):Bool:=(decide (97<=c.toNat)&&decide (c.toNat<=122))||(decide (65<=c.toNat)&&decide (c.toNat<=90))||(decide (48<=c.toNat)&&decide (c.toNat<=57))||c==95
def Ef(a b:List UInt8):Bool :=
 (Mj (a.getD (a.length-1) 0)&&Mj (b.getD 0 0))||(a.getD (a.length-1) 0==60&&(b.getD 0 0==61||b.getD 0 0==45))||(a.getD (a.length-1) 0==62&&b.getD 0 0==61)
def Bbp:Pt->Bool
 |.sp=>true
 |_=>false
def blB(cmp:Bool)(a b:List UInt8):List UInt8:=bif !a.isEmpty&&(!cmp||Ef a b) then [32] else []
def wrS(cmp:Bool)(s:List UInt8×List UInt8×Int)(p:Pt):List UInt8×List UInt8×Int :=
 if Bbp p then (s.1++(bif cmp then [59] else Gp s.2.2),[],s.2.2) else (s.1++blB cmp s.2.1 (prT p)++prT p,prT p,lvP s.2.2 p)
def wrF(cmp:Bool)(ps:List Pt):List UInt8×List UInt8×Int:=ps.foldl (wrS cmp) ([],[],0)
theorem IM(cmp:Bool){ps:List Pt}{i:Nat}(h:i<ps.length):wrF cmp (ps.take (i+1))=wrS cmp (wrF cmp (ps.take i)) (ps.getD i .sp):=by
 unfold wrF
 rw[List.take_add_one,List.getElem?_eq_getElem h,List.foldl_append,List.getD_eq_getElem?_getD,List.getElem?_eq_getElem h]
 rfl
theorem BlY{ps:List Pt}{i:Nat}(h:i<ps.length):lvL 0 (ps.take (i+1))=lvP (lvL 0 (ps.take i)) (ps.getD i .sp):=by
 unfold lvL
 rw[List.take_add_one,List.getElem?_eq_getElem h,List.foldl_append,List.getD_eq_getElem?_getD,List.getElem?_eq_getElem h]
 rfl
theorem G2(cmp:Bool)(ps:List Pt):∀i,i<=ps.length->(wrF cmp (ps.take i)).2.2=lvL 0 (ps.take i)/\(wrF cmp (ps.take i)).2.1=if 0<i/\Bbp (ps.getD (i-1) .sp)=false then prT (ps.getD (i-1) .sp) else []
 |0,_=>by simp[wrF,lvL]
 |i+1,h=>by
  have hi:i<ps.length:=by omega
  obtain ⟨h1,h2⟩:=G2 cmp ps i (by omega)
  rw[IM cmp hi,BlY hi]
  simp only[Nat.add_sub_cancel]
  unfold wrS
  cases hp:ps.getD i .sp<;>simp[Bbp,lvP,h1,prT]
def TR(x:List UInt8):Bool:=x.getD 0 0==10
theorem BiZ{p:Pt}(hp:okP p)(l:Int):TR (rlT l p)=Bbp p:=by
 cases p with
 |tx x =>
  have:=hp.2.1
  simp only[TR,rlT,prT,Bbp]
  simpa using this
 |op=>rfl
 |cl=>rfl
 |sp=>rfl
theorem Bkz{p:Pt}(hp:okP p):prT p≠[]:=by
 cases p with
 |tx x=>exact hp.1.1
 |op=>simp[prT]
 |cl=>simp[prT]
 |sp=>simp[prT]
theorem O2{ps:List Pt}(h:∀p∈ps,okP p)(i:Nat):okP (ps.getD i .sp):=by
 rw[List.getD_eq_getElem?_getD]
 by_cases hi:i<ps.length
 ·rw[List.getElem?_eq_getElem hi];exact h _ (List.getElem_mem hi)
 ·rw[List.getElem?_eq_none (by omega)];trivial
theorem Bbs(cmp : Bool){ps : List Pt}(h : ∀ p ∈ ps, okP p){i : Nat}(hi : i < ps.length) :
    (wrF cmp (ps.take (i + 1))).1 = (wrF cmp (ps.take i)).1 ++
      (if TR ((rlP 0 ps).getD i []) = true then (bif cmp then [59] else (rlP 0 ps).getD i [])
       else (if 0 < i/\TR ((rlP 0 ps).getD (i - 1) []) = false/\(cmp = true->Ef ((rlP 0 ps).getD (i - 1) []) ((rlP 0 ps).getD i []) = true) then [32] else []) ++ (rlP 0 ps).getD i []) := by
  obtain ⟨h1,h2⟩ := G2 cmp ps i (by omega)
  have hp := O2 h i
  rw [IM cmp hi,OT ps 0 i hi,BiZ hp]
  unfold wrS
  by_cases hs:Bbp (ps.getD i .sp) = true
  · rw [if_pos hs,if_pos hs,h1]
    have e:rlT (lvL 0 (ps.take i)) (ps.getD i .sp) = Gp (lvL 0 (ps.take i)) := by
      cases hq:ps.getD i .sp <;> rw [hq] at hs <;> first | rfl | cases hs
    rw [e]
  · rw [if_neg hs,if_neg hs]
    have e:rlT (lvL 0 (ps.take i)) (ps.getD i .sp) = prT (ps.getD i .sp) := by
      cases hq:ps.getD i .sp <;> rw [hq] at hs <;> first | rfl | exact (hs rfl).elim
    rw [e,List.append_assoc]
    congr 2
    unfold blB
    rw [h2]
    by_cases h0:0 < i
    · have hp1 := O2 h (i - 1)
      rw [OT ps 0 (i - 1) (by omega),BiZ hp1]
      by_cases hs1:Bbp (ps.getD (i - 1) .sp) = false
      · have e1:rlT (lvL 0 (ps.take (i - 1))) (ps.getD (i - 1) .sp) = prT (ps.getD (i - 1) .sp) := by
          cases hq:ps.getD (i - 1) .sp <;> rw [hq] at hs1 <;> first | rfl | cases hs1
        rw [if_pos ⟨h0,hs1⟩,e1]
        have hne:(prT (ps.getD (i - 1) .sp)).isEmpty = false := by
          rw [List.isEmpty_eq_false_iff]; exact Bkz hp1
        rw [hne,hs1]
        generalize Ef (prT (ps.getD (i - 1) .sp)) (prT (ps.getD i .sp)) = nb
        cases cmp <;> cases nb <;> simp [h0]
      · rw [if_neg (by rintro ⟨_,hh⟩; exact hs1 hh)]
        have hs1:Bbp (ps.getD (i - 1) .sp) = true := by simpa using hs1
        rw [hs1]
        simp
    · rw [if_neg (by omega),if_neg (by omega)]
      rfl
def ptB(l:List Sm):List Pt:=ptJ (l.map ptM)
theorem BbY{α:Type}[Inhabited α](f:α->List Pt){l:List α}{i:Nat}(h:i<l.length):ptJ ((l.take (i+1)).map f)=ptJ ((l.take i).map f)++((if 0<i then [.sp] else [])++f (l.getD i default)):=by
 rw[B5 h,List.map_append]
 generalize l.getD i default=x
 cases hl:l.take i with
 |nil =>
  have:i=0:=by
   have:=congrArg List.length hl
   rw[List.length_take,List.length_nil] at this
   omega
  subst this
  simp[ptJ]
 |cons y r =>
  have:0<i:=by
   rcases Nat.eq_zero_or_pos i with rfl | h0
   ·simp at hl
   ·exact h0
  rw[if_pos this]
  simp[ptJ]
structure PrR (l:List Sm):Prop where
 hl:l.length<=1000
 hd:dpB l<=60
 hz:szB l<=16384
 hv:BP false l=true
theorem GD{l:List Sm}(h:B2 l=0):PrR l:=by
 unfold B2 at h
 split at h
 ·omega
 split at h
 ·omega
 split at h
 ·omega
 split at h
 ·rename_i a b c d
  rw[Bool.and_eq_true] at d
  exact⟨by omega,by omega,by omega,d.1⟩
 ·omega
theorem BmU{l:List Sm}{s:Sm}(h:s∈l):dpM s<=dpB l:=by
 induction l with
 |nil=>cases h
 |cons x r ih =>
  simp only[dpB]
  rcases List.mem_cons.1 h with rfl | h
  ·omega
  ·have:=ih h;omega
theorem Bgb{l:List Sm}{s:Sm}(h:s∈l):szM s<=szB l:=by
 induction l with
 |nil=>cases h
 |cons x r ih =>
  simp only[szB]
  rcases List.mem_cons.1 h with rfl | h
  ·omega
  ·have:=ih h;omega
theorem UG{l:List Sm}(h:PrR l){s:Sm}(hs:s∈l):Bz s.nd=true/\BV s.nd=0/\s.kd≠3/\(s.kd=2->Cd s.nm=true):=by
 have hb:=h.hv
 unfold BP at hb
 rw[Bool.and_eq_true] at hb
 obtain ⟨q1,q2⟩:=Ej hb.2 s hs
 obtain ⟨names,hst⟩:=M3 hb.2 s hs
 have hd:=BmU hs
 have hz:=Bgb hs
 have k3:s.kd≠3:=by
  rcases q2 with ⟨_,_,g⟩ | ⟨k,_⟩
  ·cases g
  ·exact k
 have e1:dpM s=dpN s.nd:=by
  cases s with
  |mk kd at_ nm sl te nd=>simp only[dpM];exact if_neg k3
 have e2:szM s=szN s.nd:=by
  cases s with
  |mk kd at_ nm sl te nd=>simp only[szM];exact if_neg k3
 have:=h.hd
 have:=h.hz
 refine⟨q1,BZ.2 ⟨by omega,by omega,q1⟩,k3,fun k2=>?_⟩
 rw[GB,Bool.and_eq_true,if_neg (by omega),if_pos k2] at hst
 simp only[Bool.and_eq_true] at hst
 exact hst.2.1.1.1.1
theorem okM{l:List Sm}(h:PrR l)(ho:∀s∈l,s.ok){s:Sm}(hs:s∈l):∀p∈ptM s,okP p:=by
 obtain ⟨q1,_,k3,k2⟩:=UG h hs
 have hn:=okN s.nd q1 (Cq (ho s hs)).2
 rw[II]
 split
 ·rename_i c2
  intro p hp
  simp only[List.mem_cons] at hp
  rcases hp with rfl | rfl | hp
  ·exact T5 (k2 c2)
  ·exact Ez (by simp) (by decide) (by decide)
  ·exact hn p hp
 ·first
   |exact hn
   |(rw[if_neg k3];exact hn)
theorem okB{l:List Sm}(h:PrR l)(ho:∀s∈l,s.ok):∀p∈ptB l,okP p:=okJ fun x hx=>by
 obtain ⟨s,hs,rfl⟩:=List.mem_map.1 hx
 exact okM h ho hs
theorem BoC(l:List Sm):ID (ptB l):=BnI fun x hx=>by
 obtain ⟨s,_,rfl⟩:=List.mem_map.1 hx
 exact balM s
def Uz:Pt->Bool
 |.op=>true
 |.sp=>true
 |_=>false
def nbP(ps:List Pt):Nat:=ps.countP Uz
theorem Cx(a b:List Pt):nbP (a++b)=nbP a+nbP b:=by unfold nbP;rw[List.countP_append]
theorem Bec(ks:List Int)(k:Int)(l:List Pt):nbP (ptW ks k l)=nbP l:=by
 unfold ptW
 split
 ·have e:Pt.tx [40]::(l++[.tx [41]])=[.tx [40]]++(l++[.tx [41]]):=rfl
  rw[e,Cx,Cx]
  simp[nbP,Uz]
 ·rfl
theorem nb_J{α:Type}(f:α->List Pt)(g:α->Nat):∀l:List α,(∀x∈l,nbP (f x)+1<=2*g x)->nbP (ptJ (l.map f))<=2*(l.map g).sum
 | [],_=>by simp[ptJ,nbP]
 |x::r,h=>by
  have hx:=h x (by simp)
  have key:∀r:List α,(∀x∈r,nbP (f x)+1<=2*g x)->nbP ((r.map f).flatMap fun y=>.sp::y)<=2*(r.map g).sum:=by
   intro r
   induction r with
   |nil=>intro _;simp[nbP]
   |cons y r ih =>
    intro hr
    have hy:=hr y (by simp)
    have:=ih fun z hz=>hr z (by simp[hz])
    rw[List.map_cons,List.flatMap_cons,List.map_cons,List.sum_cons]
    have e:Pt.sp::f y=[.sp]++f y:=rfl
    rw[e,Cx,Cx]
    have e1:nbP [.sp]=1:=rfl
    omega
  have:=key r fun z hz=>h z (by simp[hz])
  rw[List.map_cons,ptJ,Cx,List.map_cons,List.sum_cons]
  omega
theorem Bbn:∀l:List Sm,szB l=(l.map szM).sum
 | []=>by simp[szB]
 |s::r=>by simp only[szB,List.map_cons,List.sum_cons,Bbn r]
theorem BaQ(ks:List Int):∀l:List Nd,(∀x∈l,nbP (ptN x)+1<=2*szN x)->nbP (l.flatMap (BS ks))<=2*szL l
 | [],_=>by simp[nbP]
 |x::r,h=>by
  have:=BaQ ks r fun y hy=>h y (by simp[hy])
  have hx:=h x (by simp)
  have e:nbP (BS ks x)=nbP (ptN x):=by unfold BS;rw[Bec]
  rw[List.flatMap_cons,Cx,e]
  simp only[szL]
  omega
theorem Bo9(l:List Nd)(h:∀x∈l,nbP (ptN x)+1<=2*szN x):nbP ((ptL l).getD 0 [])+nbP ((ptL l).getD 1 [])+nbP ((ptL l).getD 2 [])<=2*szL l:=by
 rcases l with _ | ⟨a,_ | ⟨b,_ | ⟨c,r⟩⟩⟩
 ·simp[ptL,nbP]
 ·have ha:=h a (by simp)
  simp only[ptL,szL,List.getD_cons_zero,List.getD_cons_succ,List.getD_nil]
  have:nbP []=0:=rfl
  omega
 ·have ha:=h a (by simp)
  have hb:=h b (by simp)
  simp only[ptL,szL,List.getD_cons_zero,List.getD_cons_succ,List.getD_nil]
  have:nbP []=0:=rfl
  omega
 ·have ha:=h a (by simp)
  have hb:=h b (by simp)
  have hc:=h c (by simp)
  simp only[ptL,szL,List.getD_cons_zero,List.getD_cons_succ]
  omega
theorem nbN(n:Nd):nbP (ptN n)+1<=2*szN n:=by
 have kk:∀x∈n.ki,nbP (ptN x)+1<=2*szN x:=fun x hx=>nbN x
 have hg:=Bo9 n.ki kk
 have hz:=Ba7 n
 rw[Ge]
 split
 ·have:=BaQ [3,4,5] n.ki kk;omega
 split
 ·rw[Cx,Bec];omega
 split
 ·rw[Cx,Cx,Bec,Bec];omega
 split
 ·have:=BaQ [4,5,16] n.ki kk;omega
 split
 ·rw[Cx,Bec];omega
 split
 ·rw[Cx,Cx,Bec,Bec];omega
 split
 ·have st:∀s∈n.bo,nbP (ptM s)+1<=2*szM s:=fun s hs=>by
   have z1:=Nd.size_stmt hs
   have z2:=Sm.size_nd s
   have z3:=Sm.size_te s
   have h1:=nbN s.nd
   have h2:=nbN s.te
   rw[II,TW]
   by_cases c2:s.kd=2
   ·rw[if_pos c2,if_neg (by omega)]
    have e:Pt.tx s.nm::.tx [60,45]::ptN s.nd=[.tx s.nm,.tx [60,45]]++ptN s.nd:=rfl
    rw[e,Cx]
    have:nbP [.tx s.nm,.tx [60,45]]=0:=by simp[nbP,Uz]
    omega
   ·rw[if_neg c2]
    split
    ·have e:ptN s.te++(Pt.tx [58]::ptN s.nd)=ptN s.te++([.tx [58]]++ptN s.nd):=rfl
     rw[e,Cx,Cx]
     have:nbP [.tx [58]]=0:=by simp[nbP,Uz]
     omega
    ·exact h1
  have hj:=nb_J ptM szM n.bo st
  rw[<- Bbn] at hj
  have e:Pt.op::(ptJ (n.bo.map ptM)++[.cl])=[.op]++(ptJ (n.bo.map ptM)++[.cl]):=rfl
  rw[e,Cx,Cx]
  have e1:nbP [.op]=1:=rfl
  have e2:nbP [.cl]=0:=rfl
  omega
 ·have:nbP [.tx (Bt n)]=0:=by simp[nbP,Uz]
  have:=Ba9 n
  omega
termination_by SizeOf.sizeOf n
decreasing_by
 ·exact Nd.size_kid hx
 ·omega
 ·omega
theorem nbM(s:Sm):nbP (ptM s)+1<=2*szM s:=by
 have h1:=nbN s.nd
 have h2:=nbN s.te
 rw[II,TW]
 by_cases c2:s.kd=2
 ·rw[if_pos c2,if_neg (by omega)]
  have e:Pt.tx s.nm::.tx [60,45]::ptN s.nd=[.tx s.nm,.tx [60,45]]++ptN s.nd:=rfl
  rw[e,Cx]
  have:nbP [.tx s.nm,.tx [60,45]]=0:=by simp[nbP,Uz]
  omega
 ·rw[if_neg c2]
  split
  ·have e:ptN s.te++(Pt.tx [58]::ptN s.nd)=ptN s.te++([.tx [58]]++ptN s.nd):=rfl
   rw[e,Cx,Cx]
   have:nbP [.tx [58]]=0:=by simp[nbP,Uz]
   omega
  ·exact h1
theorem nbB(l:List Sm):nbP (ptB l)<=2*szB l:=by
 rw[Bbn]
 exact nb_J ptM szM l fun s _=>nbM s
theorem BiQ:∀(ps:List Pt) (a:Int),lvL a ps<=a+nbP ps
 | [],a=>by simp[lvL,nbP]
 |p::r,a=>by
  have:=BiQ r (lvP a p)
  have e:lvL a (p::r)=lvL (lvP a p) r:=rfl
  have e2:Pt.op::r=[.op]++r:=rfl
  cases p<;>simp only[lvP,nbP,List.countP_cons,Uz] at this e ⊢<;>simp at this ⊢<;>omega
theorem Ba6(ps:List Pt)(i:Nat):nbP (ps.take i)<=nbP ps:=by
 have h:=Cx (ps.take i) (ps.drop i)
 rw[List.take_append_drop] at h
 omega
def IT(ps:List Pt):Nat:=(ps.map fun p=>(prT p).length+1).sum
theorem BiK(ps:List Pt)(i:Nat):IT (ps.take i)<=IT ps:=by
 have h:IT ps=IT (ps.take i)+IT (ps.drop i):=by
  unfold IT
  rw[<- List.sum_append,<- List.map_append,List.take_append_drop]
 omega
theorem TO(ps:List Pt):IT ps<=(txP ps).length+1:=by
 cases ps with
 |nil=>simp[IT]
 |cons p r =>
  unfold txP
  rw[List.map_cons,B7]
  have key:∀r:List Pt,(r.map fun p=>(prT p).length+1).sum=(jT [32] (r.map prT)).length:=by
   intro r
   induction r with
   |nil=>rfl
   |cons q r ih =>
    have e:(jT [32] (prT q::r.map prT)).length=1+(prT q).length+(jT [32] (r.map prT)).length:=by
     simp[jT];omega
    rw[List.map_cons,List.sum_cons,ih,List.map_cons,e]
    omega
  have:=key r
  unfold IT
  rw[List.map_cons,List.sum_cons,this,List.length_append]
  omega
theorem BfB(cmp:Bool)(ps:List Pt)(M:Nat)(hM:nbP ps<=M):∀i,i<=ps.length->(wrF cmp (ps.take i)).1.length<=IT (ps.take i)+nbP (ps.take i)*(1+2*M)
 |0,_=>by simp[wrF]
 |i+1,h=>by
  have hi:i<ps.length:=by omega
  have ih:=BfB cmp ps M hM i (by omega)
  obtain ⟨a1,a2⟩:=G2 cmp ps i (by omega)
  have hl:=BiQ (ps.take i) 0
  have ht:=Ba6 ps i
  have e1:IT (ps.take (i+1))=IT (ps.take i)+((prT (ps.getD i .sp)).length+1):=by
   unfold IT
   rw[List.take_add_one,List.getElem?_eq_getElem hi,List.map_append,List.sum_append,List.getD_eq_getElem?_getD,List.getElem?_eq_getElem hi]
   simp
  have e2:nbP (ps.take (i+1))=nbP (ps.take i)+(if Uz (ps.getD i .sp) then 1 else 0):=by
   have e5:∀p:Pt,nbP [p]=if Uz p then 1 else 0:=fun p=>by cases p<;>rfl
   rw[List.take_add_one,List.getElem?_eq_getElem hi,Cx,List.getD_eq_getElem?_getD,List.getElem?_eq_getElem hi]
   exact congrArg _ (e5 _)
  rw[IM cmp hi,e1,e2]
  unfold wrS
  split
  ·rename_i hs
   have e3:Uz (ps.getD i .sp)=true:=by
    cases hq:ps.getD i .sp<;>rw[hq] at hs<;>first | rfl | cases hs
   have e4:(prT (ps.getD i .sp)).length=1:=by
    cases hq:ps.getD i .sp<;>rw[hq] at hs<;>first | rfl | cases hs
   rw[e3,if_pos rfl,Nat.add_mul,e4]
   have:((bif cmp then [59] else Gp (wrF cmp (ps.take i)).2.2):List UInt8).length<=1+2*M:=by
    cases cmp
    ·simp only[cond_false,Gp,List.length_cons,List.length_replicate]
     rw[a1];omega
    ·simp only[cond_true,List.length_cons,List.length_nil];omega
   simp only[List.length_append]
   omega
  ·have:(blB cmp (wrF cmp (ps.take i)).2.1 (prT (ps.getD i .sp))).length<=1:=by
    unfold blB
    cases (!(wrF cmp (ps.take i)).2.1.isEmpty&&(!cmp||Ef (wrF cmp (ps.take i)).2.1 (prT (ps.getD i .sp))))<;>simp
   simp only[List.length_append]
   have:nbP (ps.take i)*(1+2*M)<=(nbP (ps.take i)+if Uz (ps.getD i .sp)=true then 1 else 0)*(1+2*M):=Nat.mul_le_mul_right _ (Nat.le_add_right _ _)
   omega
theorem BbV{l:List Sm}(h:PrR l)(ho:∀s∈l,s.ok):(txP (ptB l)).length<=3300000000000:=by
 have st:∀s∈l,(txP (ptM s)).length+60<=200000000*szM s/\ptM s≠[]:=fun s hs=>by
  obtain ⟨q1,_,k3,k2⟩:=UG h hs
  have hl:=Et s.nd q1 (Cq (ho s hs)).2
  have ht:=Wo s.nd q1
  rw[TW,if_neg k3,II]
  by_cases c2:s.kd=2
  ·rw[if_pos c2]
   have hn:=(BO (k2 c2)).2.1
   rw[E5 (by simp),E5 ht.2,ht.1]
   refine⟨?_,by simp⟩
   simp only[List.length_append,List.length_cons,prT,List.length_nil]
   omega
  ·rw[if_neg c2,if_neg k3,ht.1]
   exact⟨by omega,ht.2⟩
 have hz:=h.hz
 cases l with
 |nil=>simp[ptB,ptJ,txP,Lib.join]
 |cons x r =>
  have key:∀r:List Sm,(∀s∈r,(txP (ptM s)).length+60<=200000000*szM s/\ptM s≠[])->∀a:List Pt,a≠[]->(txP (a++(r.map ptM).flatMap fun y=>.sp::y)).length<=(txP a).length+200000000*szB r:=by
   intro r
   induction r with
   |nil=>intro _ a _;simp
   |cons y r ih =>
    intro hr a ha
    have hy:=hr y (by simp)
    have:=ih (fun z hz=>hr z (by simp[hz])) (a++(.sp::ptM y)) (neA ha)
    rw[Ek ha (by simp),E5 hy.2] at this
    simp only[List.length_append,List.length_cons,prT,List.length_nil] at this
    rw[List.map_cons,List.flatMap_cons,<- List.append_assoc]
    simp only[szB]
    omega
  have hx:=st x (by simp)
  have:=key r (fun z hz=>st z (by simp[hz])) (ptM x) hx.2
  unfold ptB
  rw[List.map_cons,ptJ]
  simp only[szB] at hz
  omega
theorem Ot{l:List Sm}(h:PrR l)(ho:∀s∈l,s.ok)(cmp:Bool)(i:Nat)(hi:i<=(ptB l).length):(wrF cmp ((ptB l).take i)).1.length<=3400000000000:=by
 have h1:=BfB cmp (ptB l) 32768 (by have:=nbB l;have:=h.hz;omega) i hi
 have h2:=BiK (ptB l) i
 have h3:=TO (ptB l)
 have h4:=BbV h ho
 have h5:=Ba6 (ptB l) i
 have h6:=nbB l
 have h7:=h.hz
 have:nbP ((ptB l).take i)*(1+2*32768)<=32768*(1+2*32768):=Nat.mul_le_mul_right _ (by omega)
 omega
def Cj(l:List Sm):List UInt8:=if B2 l=0/\l≠[] then (wrF false (ptB l)).1++[10] else []
def EM(l:List Sm):List UInt8:=if B2 l=0 then (wrF true (ptB l)).1 else []
def RRS(a b:Nd):Prop:=CD 90 [.agg a.row2,.agg b.row2] (.bool (CZ (stN a) (stN b)))
noncomputable def BkG:Con:=fun k ds S=>match k with
 |90=>some (pE (β:=Nd×Nd) ds S (fun x=>.bool (CZ (stN x.1) (stN x.2))) (fun x=>wkL ds [.agg x.1.row1,.agg x.2.row1]/\RRS x.1 x.2))
 |_=>none
theorem Ble:ConOk Tryz.prog BkG:=by
 intro k ds S A hh
 unfold BkG at hh
 split at hh
 ·injection hh with hh;subst hh
  exact Cn fun x ⟨e,h1⟩=>CD.at_ (CD.wk (CD.wk h1 Bjb) e) _
 ·cases hh
noncomputable def Erb(l m:List Sm):Senv:={ EC BkG 64 2 [4,5,9,63] (fun id=>match id with | 4=>([0,1,2,3,4,5,6,7,8,9,10,11,12,13,14,15,16,17,18,19,20,21,22,23,24,25,26,27,28,29,30,31,32,33,34,35,36,37,38,39,40,41,42,43,44,45,46,47,48,49,50,51],[35,49]) | _=>([],[])) with
 mg:=fun _=>2
 ann:=fun q _ S=>match q with
  |0=>some { slots:=[5],keep:=[0,1,2,3],α:=Nat,st:=fun i=>([.int .i64 i],S),inv:=fun i=>i<=l.length/\∀j,j<i->stM (l.getD j default)=stM (m.getD j default),mu:=fun i=>l.length-i }
  |_=>none }
def Hq:Arr:=DA
def Yn:Nd:=Nd.mk Z0 Z0 Z0 [] Z0 Z0 Hq [] [] Z0 Z0 Z0
def Yo:Sm:=Sm.mk Z0 Z0 [] Z0 Yn Yn
def Xr(a:List Sm)(b:Nat):Sm:=List.getD a b Yo
def QAL(a:List Sm)(b:Nat):Sm:=stM (Xr a b)
def Qj6(a:Nat)(b c:List Sm):Prop:=a<=LN b/\∀(j:Nat),j<a->QAL b j=QAL c j
def Qdq(a:List Sm)(b:Nat):Sm:=List.getD a (Int.toNat (↑b:Int)) Yo
def QAM(a:List Sm)(b:Nat):Int:=Sm.kd (Qdq a b)
def Qdr(a b:List Sm):Prop:=RT (false=CZ (List.map stM a) (List.map stM b))
def QAN(a:List Sm)(b:Nat):List UInt8:=Sm.nm (Qdq a b)
def KE(a:List Sm)(b:Nat):Nd:=Sm.te (Qdq a b)
def QAR(a:List Sm)(b:Nat):D:=D.agg (Nd.rowE (KE a b))
def QAS(a b:Nd):List D:=[D.agg (Nd.row1 a),D.agg (Nd.row1 b)]
def QAT(a b:Nd):Bool:=!CZ (stN a) (stN b)
def KF(a:List Sm)(b:Nat):Nd:=Sm.nd (Qdq a b)
def QAX(a:List Sm)(b:Nat):D:=D.agg (Nd.rowE (KF a b))
def QQO(a:List Sm):D:=D.sl 34 (LN a) (fun i=>(Sm.row1 (Xr a i))) Mode.any
def QA4(a:List Sm):Prop:=SM (QQO a)
theorem Bll(l m:List Sm)(he:l.length=m.length)(hl:l.length<=maxLen)(h:∀x∈l,∀y∈m,RRS x.te y.te/\RRS x.nd y.nd):CD 112 [gsl 34 Sm.row1 l,gsl 34 Sm.row1 m] (.bool (CZ (l.map stM) (m.map stM))):=by
 refine Bh (A:=sC _ _) (x:=()) (E:=Erb l m) (eOk Ble rfl) Tryz.func112 rfl (by kernel_rfl) rfl (by simp[sC,Erb,EC,E0]) ?_
 refine Bj (T :=
  (∃(x:Nat),Qj6 x l m/\(Z0=(↑x:Int)/\True)/\True/\True)/\∀(x:Nat),Qj6 x l m->ifB (decide ((↑x:Int)<(LI l))) (Be (Z0<=(↑x:Int)/\(↑x:Int)<(LI l)) (Be (Z0<=(↑x:Int)/\(↑x:Int)<(LI m)) (ifB (QAM l x != QAM m x) (Qdr l m) (Be (Z0<=(↑x:Int)/\(↑x:Int)<(LI l)) (Be (Z0<=(↑x:Int)/\(↑x:Int)<(LI m)) (ifB (QAN l x != QAN m x) (Qdr l m) (Be (Z0<=(↑x:Int)/\(↑x:Int)<(LI l)) (Be (Z0<=(↑x:Int)/\(↑x:Int)<(LI m)) (∃(x_1:Nd×Nd),(wkL [QAR l x,QAR m x] (QAS x_1.1 x_1.2)/\RRS x_1.1 x_1.2)/\∀(y:Unit),True->ifB (QAT x_1.1 x_1.2) (Qdr l m) (Be (Z0<=(↑x:Int)/\(↑x:Int)<(LI l)) (Be (Z0<=(↑x:Int)/\(↑x:Int)<(LI m)) (∃(x_2:Nd×Nd),(wkL [QAX l x,QAX m x] (QAS x_2.1 x_2.2)/\RRS x_2.1 x_2.2)/\∀(y:Unit),True->ifB (QAT x_2.1 x_2.2) (Qdr l m) ((QA4 l/\QA4 m/\SM D.unk/\SM D.unk/\True)/\∃(y:Nat),Qj6 y l m/\LN l-y<LN l-x/\(IntKind.wrap IntKind.i64 ((↑x:Int)+Z1)=(↑y:Int)/\True)/\True/\True))))))))))))) (RT (true=CZ (List.map stM l) (List.map stM m)))) (by kernel_rfl) ?_
 delta DA GI LI LN N1 N4 SI SM Z0 Z1 ZI Hq Yn KE QAR QAS QAT Yo KF QAX Xr QAL QQO QA4 Qj6 Qdq QAM Qdr QAN RT
 try simp only[<- dm]
 try simp only[<- dn]
 simp only[eq_self,ne_eq,implies_true,Ba,Int.toNat_natCast,Bf,Bc,decide_eq_true_eq,decide_eq_false_iff_not,true_and,and_true,beq_iff_eq,bne_iff_ne,bne_eq_false_iff_eq,beq_eq_false_iff_ne,Bool.not_eq_true',Bool.not_eq_false',exists_const,forall_const,Prod.exists]
 have gm:∀ {i:Nat},i<l.length->i<m.length->l.getD i default∈l/\m.getD i default∈m:=fun h1 h2=>⟨by rw[List.getD_eq_getElem?_getD,List.getElem?_eq_getElem h1];exact List.getElem_mem h1,by rw[List.getD_eq_getElem?_getD,List.getElem?_eq_getElem h2];exact List.getElem_mem h2⟩
 have no:∀ {α:Type} {x y:α},CZ x y=false->x≠y:=fun h e=>by rw[CV.2 e] at h;cases h
 have gmap:∀ {l:List Sm} {i:Nat},i<l.length->(l.map stM).getD i (stM default)=stM (l.getD i default):=fun h=>by simp[List.getD_eq_getElem?_getD,h]
 have neq:∀ {i:Nat},i<l.length->stM (l.getD i default)≠stM (m.getD i default)->false=CZ (l.map stM) (m.map stM):=fun hi hn=>Ew fun e=>hn (by rw[<- gmap hi,<- gmap (by omega),e])
 simp only[maxLen] at hl
 refine⟨⟨0,⟨Nat.zero_le _,fun j hj=>absurd hj (by omega)⟩,rfl⟩,fun i ⟨i1,hi⟩=>⟨fun hlt=>?_,fun hge=>BhM ?_⟩⟩
 ·have hi1:i<l.length:=by omega
  have hi2:i<m.length:=by omega
  obtain ⟨q1,q2⟩:=h _ (gm hi1 hi2).1 _ (gm hi1 hi2).2
  have iff:=BmA (l.getD i default) (m.getD i default)
  refine⟨⟨by omega,by omega⟩,⟨by omega,by omega⟩,fun a1=>neq hi1 fun e=>a1 (iff.1 e).1,fun a1=>⟨⟨by omega,by omega⟩,⟨by omega,by omega⟩,fun a2=>neq hi1 fun e=>a2 (iff.1 e).2.1,fun a2=>⟨⟨by omega,by omega⟩,⟨by omega,by omega⟩,(l.getD i default).te,(m.getD i default).te,⟨Bg _,q1⟩,fun a3=>neq hi1 fun e=>no a3 (iff.1 e).2.2.1,fun a3=>⟨⟨by omega,by omega⟩,⟨by omega,by omega⟩,(l.getD i default).nd,(m.getD i default).nd,⟨Bg _,q2⟩,?_⟩⟩⟩⟩
  have fin:CZ (stN (l.getD i default).nd) (stN (m.getD i default).nd)=true->∃y,(y<=l.length/\∀(j:Nat),j<y->stM (l.getD j default)=stM (m.getD j default))/\l.length-y<l.length-i/\IntKind.i64.wrap ((i:Int)+1)=(y:Int):=fun a4 =>
   ⟨i+1,⟨hi1,fun j hj=>by
    by_cases q:j=i
    ·rw[q];exact iff.2 ⟨a1,a2,CV.1 a3,CV.1 a4⟩
    ·exact hi j (by omega)⟩,by omega,Bb (by omega) (by omega)⟩
  exact⟨fun a4=>neq hi1 fun e=>no a4 (iff.1 e).2.2.2,fin⟩
 ·refine UU (stM default) (by simpa using he) fun j hj=>?_
  have hj:j<l.length:=by simpa using hj
  rw[gmap hj,gmap (by omega)]
  exact hi j (by omega)
noncomputable def Bjr(a b:Nd):Con:=fun k ds S=>match k with
 |90=>some (pE (β:=Nd×Nd) ds S (fun x=>.bool (CZ (stN x.1) (stN x.2))) (fun x=>wkL ds [.agg x.1.row1,.agg x.2.row1]/\RRS x.1 x.2))
 |111=>some (pA ds S (.bool (Mk a.va b.va)) (wkL ds [.agg a.va.row1,.agg b.va.row1]))
 |112=>some (pA ds S (.bool (CZ (a.bo.map stM) (b.bo.map stM))) (a.bo.length=b.bo.length/\wkL ds [gsl 34 Sm.row1 a.bo,gsl 34 Sm.row1 b.bo]))
 |_=>none
noncomputable def Ersm(a b:Nd):Senv:={ EC (Bjr a b) 89 6 [64,69,83] (fun id=>match id with | 6=>([0,1,2,3,4,5,6,7,8,9,10,11],[10]) | _=>([],[])) with
 mg:=fun _=>2
 ann:=fun q _ S=>match q with
  |0=>some { slots:=[5],keep:=[0,1,2,3],α:=Nat,st:=fun i=>([.int .i64 i],S),inv:=fun i=>i<=a.ki.length/\∀j,j<i->stN (a.ki.getD j default)=stN (b.ki.getD j default),mu:=fun i=>a.ki.length-i }
  |_=>none }
def Qdw(a:Nd):Int:=Nd.kd a
def Qj7(a b:Nd):Bool:=CZ (stN a) (stN b)
def Ve(a b:Nd):Prop:=RT (false=Qj7 a b)
def Qdx(a:Nd):Int:=Nd.cl a
def Qdy(a:Nd):List UInt8:=Nd.tx a
def Qdz(a:Nd):Int:=Nd.pr a
def QdA(a:Nd):Int:=Nd.op a
def Yp(a:Nd):Arr:=Nd.va a
def QA5(a:Nd):Int:=Arr.k (Yp a)
def QA6(a:Nd):D:=ZI (QA5 a)
def QA7(a:Nd):List Int:=Arr.sh (Yp a)
def Qj8(a:Nd):Nat:=LN (QA7 a)
def QA8(a:Nd)(b:Nat):List D:=[ZI (GI (QA7 a) b)]
def QA9(a:Nd):D:=D.sl N1 (Qj8 a) (fun i=>QA8 a i) Mode.any
def QBa(a:Nd):List Int:=Arr.nu (Yp a)
def Qj9(a:Nd):Nat:=LN (QBa a)
def QBb(a:Nd)(b:Nat):List D:=[ZI (GI (QBa a) b)]
def QBc(a:Nd):D:=D.sl N1 (Qj9 a) (fun i=>QBb a i) Mode.any
def QBd(a:Nd):List Arr:=Arr.it (Yp a)
def Qka(a:Nd):Nat:=LN (QBd a)
def Qkb:Arr:=DA
def QBe(a:Nd)(b:Nat):List D:=Arr.row (List.getD (QBd a) b Qkb)
def QBf(a:Nd):D:=D.sl N4 (Qka a) (fun i=>QBe a i) Mode.any
def QBg(a:Nd):D:=D.agg [QA6 a,QA9 a,QBc a,QBf a]
def QBh(a b:Nd):List D:=[QBg a,QBg b]
def Qkc(a:Nd):List Nd:=Nd.ki a
def Xs(a:Nd):Nat:=LN (Qkc a)
def Hr(a:Nd):Int:=(NI (Xs a))
def QdB(a:Nd):List Sm:=Nd.bo a
def Xt(a:Nd):Nat:=LN (QdB a)
def Hs:Nd:=Nd.mk Z0 Z0 Z0 [] Z0 Z0 Qkb [] [] Z0 Z0 Z0
def QBi(a:Nd)(b:Nat):Nd:=List.getD (Qkc a) b Hs
def QBj(a:Nd)(b:Nat):Nd:=stN (QBi a b)
def Qkd(a:Nat)(b c:Nd):Prop:=a<=Xs b/\∀(j:Nat),j<a->QBj b j=QBj c j
def QBk(a:Nd):Int:=Nd.at_ a
def QBl(a:Nd)(b:Nat):List D:=Nd.row1 (QBi a b)
def QBm:Sm:=Sm.mk Z0 Z0 [] Z0 Hs Hs
def QBn(a:Nd)(b:Nat):List D:=Sm.row1 (List.getD (QdB a) b QBm)
def QBo(a:Nd):Int:=Nd.de a
def QBp(a:Nd):Int:=Nd.sl a
def QBq(a:Nd):Int:=Nd.ss a
def QBr(a:Nd):Prop:=SM (Qdw a)/\SM (QBk a)/\SM (Qdx a)/\SM (Qdy a)/\SM (Qdz a)/\SM (QdA a)/\SM (QA5 a)/\(SM (Qj8 a)/\(∀(i:Nat),i<Qj8 a->SM (QA8 a i))/\True)/\(SM (Qj9 a)/\(∀(i:Nat),i<Qj9 a->SM (QBb a i))/\True)/\(SM (Qka a)/\(∀(i:Nat),i<Qka a->SM (QBe a i))/\True)/\(SM (Xs a)/\(∀(i:Nat),i<Xs a->SM (QBl a i))/\True)/\(SM (Xt a)/\(∀(i:Nat),i<Xt a->SM (QBn a i))/\True)/\SM (QBo a)/\SM (QBp a)/\SM (QBq a)/\True
def QBs(a:Nat)(b:Nd)(c:Nat)(d:Nd):Prop:=(SM a/\QBr b/\SM c/\QBr d/\True)/\True
def KI(a:Nd)(b:Nat):Nd:=List.getD (Qkc a) (Int.toNat (↑b:Int)) Hs
def QBw(a:Nd)(b:Nat):D:=D.agg (Nd.rowE (KI a b))
def Qke(a:Nd):D:=D.sl 34 (Xt a) (fun i=>QBn a i) Mode.any
def QQR(a:Nd):D:=D.agg (Nd.row2 a)
def QBx(a:Nd):Prop:=SM (QQR a)
def QBy(a b:Nd):List D:=[Qke a,Qke b]
theorem BkM(a b:Nd)(ha:a.sm/\a.va.ok)(hb:b.sm/\b.va.ok)(h1:∀x∈a.ki,∀y∈b.ki,RRS x y)(h2:∀x∈a.bo,∀y∈b.bo,RRS x.te y.te/\RRS x.nd y.nd):RRS a b:=by
 refine Bh (A:=sC _ _) (x:=()) (E:=Ersm a b) (eOk ?_ rfl) Tryz.func90 rfl (by kernel_rfl) rfl (by simp[sC,Ersm,EC,E0]) ?_
 ·intro k ds S A hh
  unfold Bjr at hh
  have a1:=Cc ha.1
  split at hh
  ·injection hh with hh;subst hh
   exact Cn fun x ⟨e,h1⟩=>CD.at_ (CD.wk (CD.wk h1 Bjb) e) _
  ·injection hh with hh;subst hh
   refine Bo fun e=>CD.at_ (CD.wk (us:=[.agg a.va.row1,.agg b.va.row1]) ?_ e) _
   exact (Bbc (q':=fun _=>True) (WY a.va b.va ha.2 hb.2)).mono fun _ _ ⟨y,q1,q2,q3⟩=>⟨(),trivial,q2,q3⟩
  ·injection hh with hh;subst hh
   exact Bo fun ⟨hl,e⟩=>CD.at_ (CD.wk (Bll a.bo b.bo hl (Cl a1.2.2) h2) e) _
  ·cases hh
 refine Bj (T :=
  ∀(x:Nat),True->∀(x_1:Nat),x≠x_1/\True->SM x/\SM x_1/\ifB (Qdw a != Qdw b) (Ve a b) (SM x/\SM x_1/\ifB (Qdx a != Qdx b) (Ve a b) (SM x/\SM x_1/\ifB (Qdy a != Qdy b) (Ve a b) (SM x/\SM x_1/\ifB (Qdz a != Qdz b) (Ve a b) (SM x/\SM x_1/\ifB (QdA a != QdA b) (Ve a b) (SM x/\SM x_1/\∃(x_2:Unit),wkL (QBh a b) (QBh a b)/\∀(y:Unit),True->ifB (!Mk (Yp a) (Yp b)) (Ve a b) (SM x/\SM x_1/\ifB (Hr a != Hr b) (Ve a b) (SM x/\SM x_1/\ifB ((NI (Xt a)) != (NI (Xt b))) (Ve a b) ((∃(x_3:Nat),Qkd x_3 a b/\(Z0=(↑x_3:Int)/\True)/\QBs x_1 b x a)/\∀(x_3:Nat),Qkd x_3 a b->SM x/\ifB (decide ((↑x_3:Int)<Hr a)) (SM x/\Be (Z0<=(↑x_3:Int)/\(↑x_3:Int)<Hr a) (SM x_1/\Be (Z0<=(↑x_3:Int)/\(↑x_3:Int)<Hr b) (∃(x_4:Nd×Nd),(wkL [QBw a x_3,QBw b x_3] [D.agg (Nd.row1 x_4.1),D.agg (Nd.row1 x_4.2)]/\RRS x_4.1 x_4.2)/\∀(y:Unit),True->ifB (!Qj7 x_4.1 x_4.2) (Ve a b) ((QBx a/\QBx b/\SM (D.ref N0 x N0)/\SM (D.ref (max (N0+N1) N0) x_1 N0)/\True)/\∃(y:Nat),Qkd y a b/\Xs a-y<Xs a-x_3/\(IntKind.wrap IntKind.i64 ((↑x_3:Int)+Z1)=(↑y:Int)/\True)/\QBs x_1 b x a)))) (SM x/\SM x_1/\∃(x:Unit),(Xt a=Xt b/\wkL (QBy a b) (QBy a b))/\∀(y:Unit),True->RT (CZ (List.map stM (QdB a)) (List.map stM (QdB b))=Qj7 a b))))))))))) (by kernel_rfl) ?_
 delta DA GI LN N0 N1 N4 NI SI SM Z0 Z1 ZI Qdw Qj7 Ve Qdx Qdy Qdz QdA Yp QA5 QA6 QA7 Qj8 QA8 QA9 QBa Qj9 QBb QBc QBd Qka Qkb QBe QBf QBg QBh Qkc Xs Hr QdB Xt Hs QBi QBj Qkd QBk QBl QBm QBn QBo QBp QBq QBr QBs KI QBw Qke QQR QBx QBy RT
 try simp only[<- dm]
 try simp only[<- dn]
 simp only[eq_self,ne_eq,implies_true,Ba,Int.toNat_natCast,Bf,Bc,decide_eq_true_eq,decide_eq_false_iff_not,true_and,and_true,beq_iff_eq,bne_iff_ne,bne_eq_false_iff_eq,beq_eq_false_iff_ne,Bool.not_eq_true',Bool.not_eq_false',exists_const,forall_const,Prod.exists]
 have iff:=Bgt a b
 have no:∀ {α:Type} {x y:α},CZ x y=false->x≠y:=fun h e=>by rw[CV.2 e] at h;cases h
 have na:Mk a.va b.va=false->a.va≠b.va:=fun h e=>by rw[Gf.2 e] at h;cases h
 have hl:=Cl (Cc ha.1).2.1
 unfold maxLen at hl
 have gmap:∀ {l:List Nd} {i:Nat},i<l.length->(l.map stN).getD i (stN default)=stN (l.getD i default):=fun h=>by simp[List.getD_eq_getElem?_getD,h]
 refine fun u v _=>⟨fun c=>Ew fun e=>c (iff.1 e).1,fun a1=>⟨fun c=>Ew fun e=>c (iff.1 e).2.1,fun a2=>⟨fun c=>Ew fun e=>c (iff.1 e).2.2.1,fun a3=>⟨fun c=>Ew fun e=>c (iff.1 e).2.2.2.1,fun a4=>⟨fun c=>Ew fun e=>c (iff.1 e).2.2.2.2.1,fun a5=>⟨Bg _,fun c=>Ew fun e=>na c (iff.1 e).2.2.2.2.2.1,fun a6=>⟨fun c=>Ew fun e=>?_,fun hk=>⟨fun c=>Ew fun e=>?_,fun hb2=>⟨⟨0,⟨Nat.zero_le _,fun j hj=>absurd hj (by omega)⟩,rfl⟩,fun i ⟨i1,hi⟩=>⟨fun hlt=>?_,fun hge=>?_⟩⟩⟩⟩⟩⟩⟩⟩⟩⟩
 ·have:=congrArg List.length (iff.1 e).2.2.2.2.2.2.1
  simp only[List.length_map] at this
  omega
 ·have:=congrArg List.length (iff.1 e).2.2.2.2.2.2.2
  simp only[List.length_map] at this
  omega
 ·have hi1:i<a.ki.length:=by omega
  have hi2:i<b.ki.length:=by omega
  refine⟨⟨by omega,by omega⟩,⟨by omega,by omega⟩,a.ki.getD i default,b.ki.getD i default,⟨Bg _,h1 _ (B0 hi1) _ (B0 hi2)⟩,fun c=>Ew fun e=>no c ?_,fun c=>⟨i+1,⟨hi1,fun j hj=>?_⟩,by omega,Bb (by omega) (by omega)⟩⟩
  ·rw[<- gmap hi1,<- gmap hi2,(iff.1 e).2.2.2.2.2.2.1]
  ·by_cases q:j=i
   ·rw[q];exact CV.1 c
   ·exact hi j (by omega)
 ·have hki:a.ki.map stN=b.ki.map stN:=by
   refine UU (stN default) (by simp only[List.length_map];omega) fun j hj=>?_
   have hj:j<a.ki.length:=by simpa using hj
   rw[gmap hj,gmap (by omega)]
   exact hi j (by omega)
  refine⟨⟨by omega,Bg _⟩,?_⟩
  exact Bc8 ⟨fun e=>iff.2 ⟨a1,a2,a3,a4,a5,Gf.1 a6,hki,e⟩,fun e=>(iff.1 e).2.2.2.2.2.2.2⟩
theorem BbB(a b:Nd)(ha:a.ok/\a.sm)(hb:b.ok/\b.sm):RRS a b :=
  BkM a b ⟨ha.2,Ti ha.1⟩ ⟨hb.2,Ti hb.1⟩ (fun x hx y hy => BbB x y ⟨Oc ha.1 x hx,EW ha.2 (BT hx)⟩ ⟨Oc hb.1 y hy,EW hb.2 (BT hy)⟩) fun x hx y hy =>
    ⟨BbB x.te y.te ⟨(Cq (GK ha.1 x hx)).1,(Cm (Gy ha.2 x hx)).1⟩ ⟨(Cq (GK hb.1 y hy)).1,(Cm (Gy hb.2 y hy)).1⟩,
     BbB x.nd y.nd ⟨(Cq (GK ha.1 x hx)).2,(Cm (Gy ha.2 x hx)).2⟩ ⟨(Cq (GK hb.1 y hy)).2,(Cm (Gy hb.2 y hy)).2⟩⟩
termination_by SizeOf.sizeOf a
decreasing_by
  · exact Nd.size_kid hx
  · have := Nd.size_stmt hx
    have := Sm.size_te x
    omega
  · have := Nd.size_stmt hx
    have := Sm.size_nd x
    omega
def zA:Arr:=.mk 0 [] [] []
theorem BpL:zA.ok:=by simp[zA,Arr.ok,okL,Br,maxLen]
theorem Bhi(a:Arr):Mk a zA=O3 a:=by
 cases a with
 |mk k s n i =>
  rw[Bool.eq_iff_iff,Gf]
  unfold O3
  simp[zA,Arr.k,Arr.sh,Arr.nu,Arr.it,and_assoc]
def Bpa:List D:=[.int .i64 0,.sl 1 0 (fun _=>[]) .nil,.sl 1 0 (fun _=>[]) .nil,.sl 1 0 (fun _=>[]) .nil]
theorem BmD:wkL Bpa zA.row1:=by
 simp[Bpa,zA,Arr.row1,Arr.k,Arr.sh,Arr.nu,Arr.it,isl,gsl,wkL,wkD,Bn,Bd,BF,Oe,kEq]
theorem BoK(n:Nd):wkL [.agg n.va.row1,.agg Bpa] [.agg n.va.row1,.agg zA.row1]:=by
 simp only[wkL,wkD]
 exact⟨Bg _,BmD,trivial⟩
def Blc(n:Nd):Con:=fun k ds S=>match k with
 |111=>some (pA ds S (.bool (O3 n.va)) (wkL ds [.agg n.va.row1,.agg zA.row1]))
 |_=>none
theorem Bjv{n:Nd}(h:n.va.ok):ConOk Tryz.prog (Blc n):=by
 intro k ds S A hh
 unfold Blc at hh
 split at hh
 ·injection hh with hh;subst hh
  refine Bo fun e=>CD.at_ (CD.wk (us:=[.agg n.va.row1,.agg zA.row1]) ?_ e) _
  rw[<- Bhi]
  exact (Bbc (q':=fun _=>True) (WY n.va zA h BpL)).mono fun _ _ ⟨y,q1,q2,q3⟩=>⟨(),trivial,q2,q3⟩
 ·cases hh
noncomputable def Eep(n:Nd):Senv:=EC (Blc n) 64 8 [14] (fun _=>([],[]))
def QBz(a:Bool)(b:Nd)(c d e f g:Bool)(h:Nat):Prop:=ifB a (RT (true=Gg b c d e f g a)) (SM h/\RT (((LI (Nd.bo b))==Z0)=Gg b c d e f g a))
def Ht(a:Nd)(b c d e f g:Bool):Prop:=RT (false=Gg a b c d e f g)
def QBA(a b:Bool)(c:Nd)(d e f g:Bool)(h:Nat):Prop:=ifB a (QBz b c d e f g a h) (SM h/\ifB ((LI (Nd.ki c))==Z0) (QBz b c d e f g a h) (Ht c d e f g a b))
def Hu(a:Nd):Arr:=Nd.va a
def QQS(a:Nd):List Int:=Arr.sh (Hu a)
def QQT(a:Nd):List Int:=Arr.nu (Hu a)
def QBB(a:Nd):List Arr:=Arr.it (Hu a)
def Yq:Arr:=DA
def QBC(a:Nd):D:=D.agg [ZI (Arr.k (Hu a)),SI (QQS a),SI (QQT a),D.sl N4 (LN (QBB a)) (fun i=>Arr.row (List.getD (QBB a) i Yq)) Mode.any]
def Qkf:D:=D.sl N1 N0 (fun x=>[]) Mode.nil
def QQU:List Int:=Arr.sh Yq
def QQV:List Int:=Arr.nu Yq
def QBD(a b c:Bool)(d:Nd)(e f g:Bool)(h:Nat):Prop:=ifB a (QBA b c d e f g a h) (SM h/\∃(x:Unit),wkL [QBC d,D.agg [ZI Z0,Qkf,Qkf,Qkf]] [QBC d,D.agg [ZI (Arr.k Yq),SI QQU,SI QQV,D.sl N4 (LN (Arr.it Yq)) (fun i=>Arr.row Yq) Mode.any]]/\∀(y:Unit),True->ifB (O3 (Hu d)) (QBA b c d e f g a h) (Ht d e f g a b c))
def QBE(a b c d:Bool)(e:Nd)(f g:Bool)(h:Nat):Prop:=ifB a (QBD b c d e f g a h) (SM h/\ifB (Nd.op e==Z0) (QBD b c d e f g a h) (Ht e f g a b c d))
def QBF(a b c d e:Bool)(f:Nd)(g:Bool)(h:Nat):Prop:=ifB a (QBE b c d e f g a h) (SM h/\ifB (Nd.pr f==Z0) (QBE b c d e f g a h) (Ht f g a b c d e))
theorem Bjn(n:Nd)(h:n.va.ok)(tx pr op va ki bo:Bool):CD 106 [.agg n.row2,.bool tx,.bool pr,.bool op,.bool va,.bool ki,.bool bo] (.bool (Gg n tx pr op va ki bo)):=by
 refine Bh (A:=sC _ _) (x:=()) (E:=Eep n) (eOk (Bjv h) rfl) Tryz.func106 rfl (by kernel_rfl) rfl (by simp[sC,Eep,EC,E0]) ?_
 refine Bj (T :=
  ∀(x:Nat),True->ifB tx (QBF pr op va ki bo n tx x) (SM x/\ifB (Nd.tx n==[]) (QBF pr op va ki bo n tx x) (Ht n tx pr op va ki bo))) (by kernel_rfl) ?_
 delta DA GI LI LN N0 N1 N4 SI SM Z0 ZI QBz Ht QQU QQV QBD QBE QBF QBA Hu QQS QQT QBB Yq QBC Qkf RT
 try simp only[<- dm]
 try simp only[<- dn]
 simp only[eq_self,ne_eq,implies_true,Ba,Int.toNat_natCast,Bf,Bc,decide_eq_true_eq,decide_eq_false_iff_not,true_and,and_true,beq_iff_eq,bne_iff_ne,bne_eq_false_iff_eq,beq_eq_false_iff_ne,Bool.not_eq_true',Bool.not_eq_false',exists_const,forall_const,Prod.exists]
 have z:∀ {α:Type} (l:List α),((l.length:Int)==0)=l.isEmpty:=fun l=>by cases l<;>simp<;>omega
 have e:(n.tx==[])=n.tx.isEmpty:=by cases n.tx<;>rfl
 have hz:=BoK n
 unfold Gg
 repeat' (first | exact hz | exact Bg _ | refine And.intro ?_ ?_ | intro _)
 all_goals clear hz
 all_goals (try simp only[z,e] at *)
 all_goals first
  |(simp_all;done)
  |(simp_all;omega)
noncomputable def Eoc2:Senv:=EC Ex 11 1 [2,8,10] (fun _=>([],[]))
def Qkg(a:Int):Bool:=bif decide (a<Z1) then true else decide ((11:Int)<a)
def Qkh(a:Int):Int:=EE a
theorem Bpg(op:Int):CD 108 [.int .i64 op] (.int .i64 (EE op)):=by
 refine Bh (A:=sC _ _) (x:=()) (E:=Eoc2) (eOk BL rfl) Tryz.func108 rfl (by kernel_rfl) rfl (by simp[sC,Eoc2,EC,E0]) ?_
 refine Bj (T :=
  ifB (decide (op<Z1)) (true=Qkg op/\True) (decide ((11:Int)<op)=Qkg op/\True)/\ifB (Qkg op) (RT (Z0=Qkh op)) (ifB (decide (op<=5)) (RT ((3:Int)=Qkh op)) (RT ((4:Int)=Qkh op)))) (by kernel_rfl) ?_
 delta Z0 Z1 Qkg Qkh RT
 simp only[eq_self,ne_eq,implies_true,Ba,Int.toNat_natCast,Bf,Bc,decide_eq_true_eq,decide_eq_false_iff_not,true_and,and_true,beq_iff_eq,bne_iff_ne,bne_eq_false_iff_eq,beq_eq_false_iff_ne,Bool.not_eq_true',Bool.not_eq_false',exists_const,forall_const,Prod.exists]
 unfold EE
 repeat' (first | refine And.intro ?_ ?_ | intro _)
 all_goals by_cases c1:op<1<;>by_cases c2:11<op<;>by_cases c3:op<=5<;>first
  |omega
  |(simp_all;done)
  |(simp_all;omega)
def I9(b:Nd):Bool:=b.kd==17&&(b.op==7||b.op==8||b.op==9)
theorem BaW(n:Nd):IF n=if I9 (n.ki.getD 0 default)=true then 1 else 2:=by
 unfold IF I9
 simp[or_assoc]
noncomputable def Eta:Senv:=EC Ex 21 3 [] (fun _=>([],[]))
def Yr(a:Nd):Int:=Nd.op a
def QdD(a:Nd):Bool:=bif Nd.kd a==17 then bif bif Yr a==7 then true else Yr a==8 then true else Yr a==9 else false
def QBG(a:Nd):Prop:=true=QdD a/\True
theorem BpQ(n:Nd):CD 110 [.agg n.row2] (.bool (I9 n)):=by
 refine Bh (A:=sC _ _) (x:=()) (E:=Eta) (eOk BL rfl) Tryz.func110 rfl (by kernel_rfl) rfl (by simp[sC,Eta,EC,E0]) ?_
 refine Bj (T :=
  ∀(x:Nat),True->(SM x/\ifB (Nd.kd n==17) (SM x/\ifB (Yr n==7) (QBG n) (SM x/\ifB (Yr n==8) (QBG n) (SM x/\(Yr n==9)=QdD n/\True))) (false=QdD n/\True))/\RT (QdD n=I9 n)) (by kernel_rfl) ?_
 delta SM Yr QdD QBG RT
 try simp only[<- dm]
 try simp only[<- dn]
 simp only[eq_self,ne_eq,implies_true,Ba,Int.toNat_natCast,Bf,Bc,decide_eq_true_eq,decide_eq_false_iff_not,true_and,and_true,beq_iff_eq,bne_iff_ne,bne_eq_false_iff_eq,beq_eq_false_iff_ne,Bool.not_eq_true',Bool.not_eq_false',exists_const,forall_const,Prod.exists]
 unfold I9
 repeat' (first | refine And.intro ?_ ?_ | intro _)
 all_goals first
  |(simp_all;done)
  |(simp_all;omega)
def Beh(n:Nd):Con:=fun k ds S=>match k with
 |106=>match ds with
  | [_,.bool a,.bool b,.bool c,.bool d,.bool e,.bool f]=>some (pA ds S (.bool (Gg n a b c d e f)) (isN2 n ds [.bool a,.bool b,.bool c,.bool d,.bool e,.bool f]))
  |_=>none
 |107=>some (pA ds S (.int .i64 (Bu n.va).1) (wkL ds [.agg n.va.row1]))
 |68=>some (pA ds S (.bool (Cd n.tx)) (wkL ds [.str n.tx]))
 |108=>some (pA ds S (.int .i64 (EE n.op)) (wkL ds [.int .i64 n.op]))
 |_=>none
theorem Bg4{n:Nd}(h:n.va.ok):ConOk Tryz.prog (Beh n):=by
 intro k ds S A hh
 unfold Beh at hh
 split at hh
 ·split at hh
  ·injection hh with hh;subst hh
   exact Bo fun e=>CD.at_ (CD.wk (Bjn n h _ _ _ _ _ _) e) _
  ·cases hh
 ·injection hh with hh;subst hh
  refine Bo fun e=>CD.at_ (CD.wk (CD.wk (us:=[.agg n.va.row2]) ?_ (by simp only[wkL,wkD];exact⟨GS _,trivial⟩)) e) _
  exact (Bln n.va h).mono fun _ _ ⟨y,q1,q2,q3⟩=>⟨(),trivial,q2,q3⟩
 ·injection hh with hh;subst hh
  exact Bo fun e=>CD.at_ (CD.wk (BnT n.tx) e) _
 ·injection hh with hh;subst hh
  exact Bo fun e=>CD.at_ (CD.wk (Bpg n.op) e) _
 ·cases hh
noncomputable def Erlf(n:Nd):Senv:=EC (Beh n) 122 4 [5,6,44,63,74,93,104] (fun id=>match id with | 19=>([0,1,2,3,4,5,6,7,8,9,10,11,12,13,14,15,16],[1,5,13]) | _=>([],[]))
def QB(a:Nd):Int:=Nd.kd a
def VA(a:Nd):Int:=Nd.cl a
def QBH(a:Nd):D:=ZI (VA a)
def Qki(a:Nd):Int:=Nd.pr a
def Hv(a:Nd):Arr:=Nd.va a
def Qkj(a:Nd):Int:=Arr.k (Hv a)
def QBI(a:Nd):D:=ZI (Qkj a)
def QBJ(a:Nd):List Int:=Arr.sh (Hv a)
def QBK(a:Nd):Nat:=LN (QBJ a)
def QBL(a:Nd):D:=D.sl N1 (QBK a) (fun i=>[ZI (GI (QBJ a) i)]) Mode.any
def QQW(a:Nd):List Int:=Arr.nu (Hv a)
def QBM(a:Nd):D:=SI (QQW a)
def QBN(a:Nd):List Arr:=Arr.it (Hv a)
def QBO:Arr:=DA
def QBP(a:Nd):D:=D.sl N4 (LN (QBN a)) (fun i=>Arr.row (List.getD (QBN a) i QBO)) Mode.any
def Hw(a:Nd):D:=D.agg (Nd.row2 a)
def QBQ:List D:=[D.bool false,D.bool false,D.bool false,D.bool true,D.bool false,D.bool false]
def QBR(a:Nd):List D:=[D.agg [QBI a,QBL a,QBM a,QBP a]]
def QBS(a:Nd):Int:=(NI (QBK a))
def VB(a:Nd):Bool:=OP a
def QC(a:Nd):Prop:=RT (false=VB a)
def QBT(a:Nat)(b:Nd):Prop:=SM a/\ifB (QBS b==Z1) (SM a/\RT ((Qkj b==2)=VB b)) (QC b)
def QBU:List D:=[D.bool false,D.bool false,D.bool false]
def QBV:List D:=D.bool false::QBU
def QBW:List D:=D.bool false::QBV
def QBX:List D:=D.bool true::QBW
def QBY:List D:=D.bool false::QBW
def QBZ(a:Nd):Prop:=isN2 a (Hw a::QBY) QBY
def QB0(a:Nd):Bool:=Gg a false false false false false false
def Qkl(a:Nat)(b:Nd):Prop:=SM a/\∃(x:Unit),QBZ b/\∀(y:Unit),True->ifB (QB0 b) (SM a/\RT ((VA b==Z1)=VB b)) (QC b)
def QB1:List D:=D.bool false::D.bool true::QBV
def Qkm(a:Nat)(b:Nd):Prop:=SM a/\∃(x:Unit),QBZ b/\∀(y:Unit),True->ifB (QB0 b) (SM a/\RT ((VA b==2)=VB b)) (QC b)
def QB2:List D:=D.bool false::D.bool false::D.bool true::QBU
def QB3(a:Nd):Prop:=wkL [ZI (Nd.op a)] [ZI (Nd.op a)]
def QB4(a:Nd):Int:=EE (Nd.op a)
def Qkn(a:Nd)(b:Nat):Prop:=ifB (QB a==17) (SM b/\∃(x:Unit),isN2 a (Hw a::QB2) QB2/\∀(y:Unit),True->ifB (Gg a false false true false false false) (SM b/\∃(x:Unit),QB3 a/\∀(y:Unit),True->ifB (QB4 a != Z0) (SM b/\SM b/\∃(x:Unit),QB3 a/\∀(y:Unit),True->(SM b/\SM (QBH a))/\RT ((VA a==QB4 a)=VB a)) (QC a)) (QC a)) (QC a)
def Qko(a:Nd)(b:Nat):Prop:=ifB (QB a==9) (SM b/\∃(x:Unit),isN2 a (Hw a::QB1) QB1/\∀(y:Unit),True->ifB (Gg a false true false false false false) (SM b/\ifB (VA a==2) (SM b/\ifB (decide (Z1<=Qki a)) (SM b/\RT (decide (Qki a<=55)=VB a)) (QC a)) (QC a)) (QC a)) (ifB (QB a==11) (ifB (QB a==11) (Qkm b a) (Qkn a b)) (ifB (QB a==12) (ifB (QB a==12) (Qkm b a) (Qkn a b)) (ifB (QB a==13) (Qkm b a) (Qkn a b))))
theorem Bpz(n:Nd)(h:n.va.ok):CD 88 [.agg n.row2] (.bool (OP n)):=by
 refine Bh (A:=sC _ _) (x:=()) (E:=Erlf n) (eOk (Bg4 h) rfl) Tryz.func88 rfl (by kernel_rfl) rfl (by simp[sC,Erlf,EC,E0]) ?_
 refine Bj (T :=
  ∀(x:Nat),True->SM x/\ifB (QB n==Z1) (SM x/\∀(x_1:Nat),x≠x_1/\True->SM x_1/\SM x/\∃(x_2:Unit),isN2 n (Hw n::QBQ) QBQ/\∀(y:Unit),True->ifB (Gg n false false false true false false) (SM x/\ifB (VA n==Z1) (SM x_1/\∃(x:Unit),wkL (QBR n) (QBR n)/\∀(y:Unit),True->ifB (Prod.fst (Bu (Hv n))==Z0) (SM x_1/\ifB (QBS n==Z0) (SM x_1/\ifB (Qkj n != (3:Int)) (RT (true=VB n)) (QBT x_1 n)) (QBT x_1 n)) (QC n)) (QC n)) (QC n)) (ifB (QB n==2) (SM x/\∃(x_1:Unit),isN2 n (Hw n::QBX) QBX/\∀(y:Unit),True->ifB (Gg n true false false false false false) (SM x/\∃(x_2:Unit),wkL [D.str (Nd.tx n)] [D.str (Nd.tx n)]/\∀(y:Unit),True->ifB (Cd (Nd.tx n)) (SM x/\ifB (decide (Z1<=VA n)) (SM x/\RT (decide (VA n<=4)=VB n)) (QC n)) (QC n)) (QC n)) (ifB (QB n==6) (ifB (QB n==6) (Qkl x n) (Qko n x)) (ifB (QB n==7) (ifB (QB n==7) (Qkl x n) (Qko n x)) (ifB (QB n==8) (Qkl x n) (Qko n x)))))) (by kernel_rfl) ?_
 delta DA GI LN N1 N4 NI SI SM Z0 Z1 ZI QB VA QBH Qki Hv Qkj QBI QBJ QBK QBL QQW QBM QBN QBO QBP Hw QBQ QBR QBS VB QC QBT QBU QBV QBW QBX QBY QBZ QB0 Qkl QB1 Qkm QB2 QB3 QB4 Qkn Qko RT
 try simp only[<- dm]
 try simp only[<- dn]
 simp only[eq_self,ne_eq,implies_true,Ba,Int.toNat_natCast,Bf,Bc,decide_eq_true_eq,decide_eq_false_iff_not,true_and,and_true,beq_iff_eq,bne_iff_ne,bne_eq_false_iff_eq,beq_eq_false_iff_ne,Bool.not_eq_true',Bool.not_eq_false',exists_const,forall_const,Prod.exists]
 have e2:n.va.sh.isEmpty=(n.va.sh.length==0):=by cases n.va.sh<;>rfl
 have e40:((n.va.sh.length:Int)==0)=(n.va.sh.length==0):=by rw[Bool.eq_iff_iff,beq_iff_eq,beq_iff_eq];omega
 have e41:((n.va.sh.length:Int)==1)=(n.va.sh.length==1):=by rw[Bool.eq_iff_iff,beq_iff_eq,beq_iff_eq];omega
 have self:∀a b c d e f:Bool,isN2 n [.agg n.row2,.bool a,.bool b,.bool c,.bool d,.bool e,.bool f] [.bool a,.bool b,.bool c,.bool d,.bool e,.bool f]:=fun _ _ _ _ _ _=>CF n _
 try simp only[e40,e41]
 repeat' (first | exact self _ _ _ _ _ _ | exact Bg _ | refine And.intro ?_ ?_ | intro _)
 all_goals clear self
 all_goals first
  |exact Bg _
  |(exfalso;omega)
  |(simp_all[OP];done)
  |(simp_all[OP];omega)
def Bek(n:Nd):Con:=fun k ds S=>match k with
 |106=>match ds with
  | [_,.bool a,.bool b,.bool c,.bool d,.bool e,.bool f]=>some (pA ds S (.bool (Gg n a b c d e f)) (isN2 n ds [.bool a,.bool b,.bool c,.bool d,.bool e,.bool f]))
  |_=>none
 |109=>match ds with
  | [_,.sl 1 m f _]=>some (pA ds S (.bool (Bm n (Bk m f))) (wkL ds [.agg n.row2,isl (Bk m f) .any]/\m<=maxLen))
  |_=>none
 |110=>some (pA ds S (.bool (I9 (n.ki.getD 0 default))) (isN (n.ki.getD 0 default) ds []))
 |_=>none
theorem Bhy{n:Nd}(h:n.va.ok)(hl:n.ki.length<=maxLen):ConOk Tryz.prog (Bek n):=by
 intro k ds S A hh
 unfold Bek at hh
 split at hh
 ·split at hh
  ·injection hh with hh;subst hh
   exact Bo fun e=>CD.at_ (CD.wk (Bjn n h _ _ _ _ _ _) e) _
  ·cases hh
 ·split at hh
  ·injection hh with hh;subst hh
   exact Bo fun ⟨e,hm⟩=>CD.at_ (CD.wk (Bod n _ hl (by rw[BJ];exact hm)) e) _
  ·cases hh
 ·injection hh with hh;subst hh
  exact Bo fun e=>CD.at_ (CD.isN (BpQ _) e) _
 ·cases hh
def RU(n:Nd):Bool:=Bm n (List.replicate n.ki.length 1)
theorem Bde(n:Nd):RU n=true↔∀j,j<n.ki.length->(n.ki.getD j default).cl=1:=by
 unfold RU Bm
 rw[UE]
 constructor
 ·intro ⟨_,h⟩ j hj
  rw[h j hj]
  simp[List.getD_eq_getElem?_getD,List.getElem?_replicate,hj]
 ·intro h
  refine⟨by simp,fun j hj=>?_⟩
  rw[h j hj]
  simp[List.getD_eq_getElem?_getD,List.getElem?_replicate,hj]
theorem BlJ{n:Nd}(h:Gg n false false false false true false=false):false=Gh n:=by
 unfold Gh
 rw[h];rfl
theorem BpD{n:Nd}(h:Gg n false false false false true false=true)(k:n.kd=3):Gh n=(RU n&&n.cl==1&&decide (2<=n.ki.length)&&decide (n.ki.length<=1000)):=by
 unfold Gh RU
 rw[h,if_pos k];rfl
noncomputable def Erin(n:Nd):Senv:={ EC (Bek n) 119 4 [6,8,9,15,24,40,50,60,70,82,99] (fun _=>([],[])) with
 mg:=fun _=>2
 ann:=fun q _ S=>match q with
  |1=>some { slots:=[3],keep:=[0,1],α:=Nat,st:=fun i=>([.int .i64 i],S),inv:=fun i=>i<=n.ki.length/\∀j,j<i->(n.ki.getD j default).cl=1,mu:=fun i=>n.ki.length-i }
  |_=>none }
def VC(a:Nd):Int:=Nd.kd a
def QB5(a:Nd):Int:=Nd.at_ a
def QdE(a:Nd):Int:=Nd.cl a
def QB6(a:Nd):List UInt8:=Nd.tx a
def QB7(a:Nd):Int:=Nd.pr a
def QB8(a:Nd):Int:=Nd.op a
def QdF(a:Nd):Arr:=Nd.va a
def QB9(a:Nd):Int:=Arr.k (QdF a)
def QCa(a:Nd):List Int:=Arr.sh (QdF a)
def Qkp(a:Nd):Nat:=LN (QCa a)
def QCb(a:Nd)(b:Nat):List D:=[ZI (GI (QCa a) b)]
def QCc(a:Nd):List Int:=Arr.nu (QdF a)
def Qkq(a:Nd):Nat:=LN (QCc a)
def QCd(a:Nd)(b:Nat):List D:=[ZI (GI (QCc a) b)]
def QCe(a:Nd):List Arr:=Arr.it (QdF a)
def Qkr(a:Nd):Nat:=LN (QCe a)
def Qks:Arr:=DA
def QCf(a:Nd)(b:Nat):List D:=Arr.row (List.getD (QCe a) b Qks)
def QdG(a:Nd):List Nd:=Nd.ki a
def Xu(a:Nd):Nat:=LN (QdG a)
def Ys:Nd:=Nd.mk Z0 Z0 Z0 [] Z0 Z0 Qks [] [] Z0 Z0 Z0
def QCg(a:Nd)(b:Nat):Nd:=List.getD (QdG a) b Ys
def QCh(a:Nd)(b:Nat):List D:=Nd.row1 (QCg a b)
def Qkt(a:Nd):Nat:=LN (Nd.bo a)
def QCi:Sm:=Sm.mk Z0 Z0 [] Z0 Ys Ys
def QCj(a:Nd)(b:Nat):List D:=Sm.row1 (List.getD (Nd.bo a) b QCi)
def QCk(a:Nd):Int:=Nd.de a
def QCl(a:Nd):Int:=Nd.sl a
def QCm(a:Nd):Int:=Nd.ss a
def Qq(a:Nd):D:=D.agg (Nd.row2 a)
def QCn:List D:=[D.bool false,D.bool false,D.bool false,D.bool false,D.bool true,D.bool false]
def Vf(a:Nd):Bool:=Gh a
def JJ(a:Nd):Prop:=RT (false=Vf a)
def Qku(a:Nat)(b:Nd):Prop:=a<=Xu b/\∀(j:Nat),j<a->Nd.cl (QCg b j)=Z1
def QCo(a:Nat)(b:Nd):Prop:=(SM a/\(SM (VC b)/\SM (QB5 b)/\SM (QdE b)/\SM (QB6 b)/\SM (QB7 b)/\SM (QB8 b)/\SM (QB9 b)/\(SM (Qkp b)/\(∀(i:Nat),i<Qkp b->SM (QCb b i))/\True)/\(SM (Qkq b)/\(∀(i:Nat),i<Qkq b->SM (QCd b i))/\True)/\(SM (Qkr b)/\(∀(i:Nat),i<Qkr b->SM (QCf b i))/\True)/\(SM (Xu b)/\(∀(i:Nat),i<Xu b->SM (QCh b i))/\True)/\(SM (Qkt b)/\(∀(i:Nat),i<Qkt b->SM (QCj b i))/\True)/\SM (QCk b)/\SM (QCl b)/\SM (QCm b)/\True)/\True)/\True
def Yt(a:Nd):Int:=(NI (Xu a))
def Qkv(a:Nd):Bool:=QdE a==Z1
def Yu:List D:=[ZI 2]
def QCp:List (List D):=[Yu,[ZI Z1]]
def QCq(a:Nat):List D:=List.getD QCp a []
def QCr:List Int:=Bk N2 fun i=>QCq i
def QCs(a:Nat):List D:=List.getD [Yu,[ZI Z1],[ZI Z1]] a []
def QCt:List Int:=Bk (3:Nat) fun i=>QCs i
def QdH(a:Nd):Bool:=QdE a==2
def QCu(a:Nat):List D:=List.getD [[ZI 3],Yu] a []
def QCv:List Int:=Bk N2 fun i=>QCu i
def QF(a:Nd):Nd:=List.getD (QdG a) N0 Ys
def QCz(a:Nat):List D:=List.getD ([ZI 4]::QCp) a []
def QCA:List Int:=Bk (3:Nat) fun i=>QCz i
def QdJ:List (List D):=[Yu,Yu]
def QCB(a:Nat):List D:=List.getD ([ZI 4]::QdJ) a []
def QCC:List Int:=Bk (3:Nat) fun i=>QCB i
def QCD(a:Nat)(b:Nd):Prop:=SM a/\ifB (QdH b) (SM a/\∃(x:Unit),(wkL [Qq b,D.sl N1 (3:Nat) (fun i=>QCB i) Mode.full] [Qq b,SI QCC]/\(3:Nat)<=9223372036854775807)/\∀(y:Unit),True->RT (Bm b QCC=Vf b)) (JJ b)
def QCE(a:Nat):List D:=List.getD QdJ a []
def QCF:List Int:=Bk N2 fun i=>QCE i
def QCG(a:Nd):Prop:=RT (true=Vf a)
def QCH(a:Nat):List D:=List.getD (Yu::QdJ) a []
def QCI:List Int:=Bk (3:Nat) fun i=>QCH i
def QCJ(a:Nat):List D:=List.getD ([ZI Z1]::QdJ) a []
def QCK:List Int:=Bk (3:Nat) fun i=>QCJ i
theorem Bo5(n:Nd)(h:n.va.ok)(hl:n.ki.length <= maxLen):CD 89 [.agg n.row2] (.bool (Gh n)) := by
  refine Bh (A := sC _ _) (x := ()) (E := Erin n) (eOk (Bhy h hl) rfl) Tryz.func89 rfl (by kernel_rfl) rfl (by simp [sC,Erin,EC,E0]) ?_
  refine Bj (T :=
    ∀ (x:Nat),True->SM x/\∃ (x_1:Unit),isN2 n (Qq n :: QCn) QCn/\∀ (y:Unit),True->ifB (!Gg n false false false false true false) (JJ n) (SM x/\ifB (VC n == (3:Int)) ((∃ (x_2:Nat),Qku x_2 n/\(Z0 = (↑x_2:Int)/\True)/\QCo x n)/\∀ (x_2:Nat),Qku x_2 n->SM x/\ifB (decide ((↑x_2:Int) < Yt n)) (SM x/\Be (Z0 <= (↑x_2:Int)/\(↑x_2:Int) < Yt n) (ifB (Nd.cl (List.getD (QdG n) (Int.toNat (↑x_2:Int)) Ys) != Z1) (JJ n) ((SM (Qq n)/\SM (D.ref N0 x N0)/\True)/\∃ (y:Nat),Qku y n/\Xu n - y < Xu n - x_2/\(IntKind.wrap IntKind.i64 ((↑x_2:Int) + Z1) = (↑y:Int)/\True)/\QCo x n))) (SM x/\ifB (Qkv n) (SM x/\ifB (decide ((2:Int) <= Yt n)) (SM x/\True/\∃ (y:Unit),True/\decide (Yt n <= (1000:Int)) = Vf n/\True/\True) (JJ n)) (JJ n))) (ifB (VC n == (4:Int)) (SM x/\ifB (Qkv n) (SM x/\∃ (x:Unit),(wkL [Qq n,D.sl N1 N2 (fun (i:Nat) => QCq i) Mode.full] [Qq n,SI QCr]/\N2 <= (9223372036854775807:Nat))/\∀ (y:Unit),True->True/\∃ (y:Unit),True/\Bm n QCr = Vf n/\True/\True) (JJ n)) (ifB (VC n == (5:Int)) (SM x/\ifB (Qkv n) (SM x/\∃ (x:Unit),(wkL [Qq n,D.sl N1 (3:Nat) (fun (i:Nat) => QCs i) Mode.full] [Qq n,SI QCt]/\(3:Nat) <= (9223372036854775807:Nat))/\∀ (y:Unit),True->True/\∃ (y:Unit),True/\Bm n QCt = Vf n/\True/\True) (JJ n)) (ifB (VC n == (14:Int)) (SM x/\ifB (QdH n) (SM x/\∃ (x:Unit),(wkL [Qq n,D.sl N1 N2 (fun (i:Nat) => QCu i) Mode.full] [Qq n,SI QCv]/\N2 <= (9223372036854775807:Nat))/\∀ (y:Unit),True->True/\∃ (y:Unit),True/\Bm n QCv = Vf n/\True/\True) (JJ n)) (ifB (VC n == (15:Int)) (SM x/\ifB (decide (Z0 < Yt n)) (SM x/\Be (Z0 <= Z0/\Z0 < Yt n) (∃ (x_2:Unit),isN (QF n) [D.agg (Nd.rowE (QF n))] []/\∀ (y:Unit),True->ifB (I9 (QF n)) (SM x/\ifB (QdH n) (SM x/\∃ (x:Unit),(wkL [Qq n,D.sl N1 (3:Nat) (fun (i:Nat) => QCz i) Mode.full] [Qq n,SI QCA]/\(3:Nat) <= (9223372036854775807:Nat))/\∀ (y:Unit),True->True/\∃ (y:Unit),True/\Bm n QCA = Vf n/\True/\True) (JJ n)) (QCD x n))) (QCD x n)) (ifB (VC n == (16:Int)) (SM x/\ifB (QdH n) (SM x/\∃ (x_2:Unit),(wkL [Qq n,D.sl N1 N2 (fun (i:Nat) => QCE i) Mode.full] [Qq n,SI QCF]/\N2 <= (9223372036854775807:Nat))/\∀ (y:Unit),True->ifB (Bm n QCF) (QCG n) (SM x/\∃ (x_3:Unit),(wkL [Qq n,D.sl N1 (3:Nat) (fun (i:Nat) => QCH i) Mode.full] [Qq n,SI QCI]/\(3:Nat) <= (9223372036854775807:Nat))/\∀ (y:Unit),True->ifB (Bm n QCI) (QCG n) (SM x/\∃ (x:Unit),(wkL [Qq n,D.sl N1 (3:Nat) (fun (i:Nat) => QCJ i) Mode.full] [Qq n,SI QCK]/\(3:Nat) <= (9223372036854775807:Nat))/\∀ (y:Unit),True->True/\∃ (y:Unit),True/\Bm n QCK = Vf n/\True/\True))) (JJ n)) (JJ n)))))))) (by kernel_rfl) ?_
  delta DA GI LN N0 N1 N2 N4 NI SI SM Z0 Z1 ZI VC QB5 QCb QCc Qkq QCd QCe Qkr Qks QCf QdG Xu QdE Ys QCg QCh Qkt QCi QCj QCk QCl QCm Qq QB6 QCn Vf JJ Qku QCo Yt Qkv Yu QCp QCq QB7 QCr QCs QCt QdH QCu QCv QF QB8 QCz QCA QdJ QCB QCC QCD QCE QdF QCF QCG QCH QCI QCJ QCK QB9 QCa Qkp RT
  try simp only [<- dm]
  try simp only [<- dn]
  simp only [eq_self,ne_eq,implies_true,Ba,Int.toNat_natCast,Bf,Bc,decide_eq_true_eq,decide_eq_false_iff_not,true_and,and_true,beq_iff_eq,bne_iff_ne,bne_eq_false_iff_eq,beq_eq_false_iff_ne,Bool.not_eq_true',Bool.not_eq_false',exists_const,forall_const,Prod.exists]
  have i2:∀ a b:Int,Bk 2 (fun i => [[D.int IntKind.i64 a],[D.int IntKind.i64 b]].getD i []) = [a,b] := fun _ _ => rfl
  have i3:∀ a b c:Int,Bk 3 (fun i => [[D.int IntKind.i64 a],[D.int IntKind.i64 b],[D.int IntKind.i64 c]].getD i []) = [a,b,c] := fun _ _ _ => rfl
  have p2:∀ a b:Int,IntsP 2 (fun i => [[D.int IntKind.i64 a],[D.int IntKind.i64 b]].getD i []) := fun _ _ i hi => by
    match i,hi with
    | 0,_ => rfl
    | 1,_ => rfl
  have p3:∀ a b c:Int,IntsP 3 (fun i => [[D.int IntKind.i64 a],[D.int IntKind.i64 b],[D.int IntKind.i64 c]].getD i []) := fun _ _ _ i hi => by
    match i,hi with
    | 0,_ => rfl
    | 1,_ => rfl
    | 2,_ => rfl
  unfold maxLen at hl
  refine ⟨CF n _,fun h0 => BlJ h0,fun h0 => ⟨fun k3 => ?_,fun n3 => ?_⟩⟩
  · rw [BpD h0 k3]
    refine ⟨⟨0,⟨Nat.zero_le _,fun j hj => absurd hj (by omega)⟩,rfl⟩,fun i ⟨i1,hi⟩ => ⟨fun hlt => ⟨⟨by omega,hlt⟩,fun c => ?_,fun c => ⟨i + 1,⟨by omega,fun j hj => ?_⟩,by omega,Bb (by omega) (by omega)⟩⟩,fun hge => ?_⟩⟩
    · cases e:RU n with
      | false => rfl
      | true => exact (c ((Bde n).1 e i (by omega))).elim
    · by_cases e':j = i
      · rw [e']; exact c
      · exact hi j (by omega)
    · have e:RU n = true := (Bde n).2 fun j hj => hi j (by omega)
      rw [e]
      refine ⟨fun c => ⟨fun d => ?_,fun d => ?_⟩,fun c => ?_⟩
      · have d2:decide (2 <= n.ki.length) = true := decide_eq_true (by omega)
        rw [c,d2]
        simp only [Bool.true_and,beq_self_eq_true]
        exact decide_eq_decide.2 (by omega)
      · have d2:decide (2 <= n.ki.length) = false := decide_eq_false (by omega)
        rw [d2]; simp
      · have d2:(n.cl == 1) = false := by simpa using c
        rw [d2]; rfl
  · have z:¬ (0:Int) < n.ki.length->I9 (n.ki.getD 0 default) = false := fun h => by
      have:n.ki = [] := List.length_eq_zero_iff.1 (by omega)
      rw [this]; rfl
    have hr : Gh n = (if n.kd = 4 then n.cl == 1 && Bm n [2, 1]
       else if n.kd = 5 then n.cl == 1 && Bm n [2,1,1]
       else if n.kd = 14 then n.cl == 2 && Bm n [3,2]
       else if n.kd = 15 then n.cl == 2 && Bm n [4,2,if I9 (n.ki.getD 0 default) = true then 1 else 2]
       else if n.kd = 16 then n.cl == 2 && (Bm n [2,2] || Bm n [2,2,2] || Bm n [1,2,2])
       else false) := by
      unfold Gh
      rw [h0,BaW,if_neg n3,Bool.true_and]
    rw [hr]
    clear hr
    repeat' (first | exact Bl _ _ | exact CF n _ | exact Bg _ | exact Ck (p2 _ _) | exact Ck (p3 _ _ _) | refine And.intro ?_ ?_ | intro _)
    all_goals try simp only [i2,i3] at *
    clear i2 i3 p2 p3
    all_goals first
      | omega
      | (simp_all; done)
      | (simp_all; omega)
def RMent(q:Int)(n:Nd):Prop:=CD 92 [.agg n.row2,.int .i64 q] (.bool (Ce q n))
def Ba1(q:Int)(p:Nd->Prop):Con:=fun k ds S=>match k with
 |92=>some (pE (β:=Nd) ds S (fun b=>.bool (Ce q b)) (fun b=>isN b ds [.int .i64 q]/\p b))
 |_=>none
theorem R6{q:Int}{p:Nd->Prop}(h:∀b,p b->RMent q b):ConOk Tryz.prog (Ba1 q p):=by
 intro k ds S A hh
 unfold Ba1 at hh
 split at hh
 ·injection hh with hh;subst hh
  exact Cn fun b ⟨e,hb⟩=>CD.at_ (CD.isN (h b hb) e) _
 ·cases hh
noncomputable def Erme(q:Int)(n:Nd):Senv:={ EC (Ba1 q (·∈n.ki)) 24 3 [4,5,9,14,23] (fun _=>([],[])) with
 mg:=fun _=>2
 ann:=fun b _ S=>match b with
  |0=>some { slots:=[5],keep:=[0,1,2],α:=Nat,st:=fun i=>([.int .i64 i],S),inv:=fun i=>i<=n.ki.length/\∀j,j<i->Ce q (n.ki.getD j default)=false,mu:=fun i=>n.ki.length-i }
  |_=>none }
theorem BdR{α:Type}[Inhabited α]{p:α->Bool}{l:List α}(h:∀j,j<l.length->p (l.getD j default)=false):l.any p=false:=by
 rw[List.any_eq_false]
 intro x hx
 obtain ⟨i,hi,rfl⟩:=List.getElem_of_mem hx
 have:=h i hi
 rw[List.getD_eq_getElem?_getD,List.getElem?_eq_getElem hi] at this
 simpa using this
theorem Bbk{α:Type}[Inhabited α]{p:α->Bool}{l:List α}{j:Nat}(hj:j<l.length)(h:p (l.getD j default)=true):l.any p=true:=by
 rw[List.any_eq_true]
 refine⟨l.getD j default,?_,h⟩
 rw[List.getD_eq_getElem?_getD,List.getElem?_eq_getElem hj]
 exact List.getElem_mem hj
def Qkw(a:Nd):Int:=Nd.kd a
def QCL(a:Int)(b:Nd):Prop:=RT (true=Ce a b)
def QdK(a:Nd):List Nd:=Nd.ki a
def VD(a:Nd):Nat:=LN (QdK a)
def Qkx:Arr:=DA
def Hx:Nd:=Nd.mk Z0 Z0 Z0 [] Z0 Z0 Qkx [] [] Z0 Z0 Z0
def QCM(a:Nd)(b:Nat):Nd:=List.getD (QdK a) b Hx
def Qky(a:Nat)(b:Nd)(c:Int):Prop:=a<=VD b/\∀(j:Nat),j<a->Ce c (QCM b j)=false
def QCN(a:Nd):Int:=Nd.at_ a
def QCO(a:Nd):Int:=Nd.cl a
def QCP(a:Nd):List UInt8:=Nd.tx a
def QCQ(a:Nd):Int:=Nd.pr a
def QCR(a:Nd):Int:=Nd.op a
def QdL(a:Nd):Arr:=Nd.va a
def QCS(a:Nd):Int:=Arr.k (QdL a)
def QCT(a:Nd):List Int:=Arr.sh (QdL a)
def Qkz(a:Nd):Nat:=LN (QCT a)
def QCU(a:Nd)(b:Nat):List D:=[ZI (GI (QCT a) b)]
def QCV(a:Nd):List Int:=Arr.nu (QdL a)
def QkA(a:Nd):Nat:=LN (QCV a)
def QCW(a:Nd)(b:Nat):List D:=[ZI (GI (QCV a) b)]
def QCX(a:Nd):List Arr:=Arr.it (QdL a)
def QkB(a:Nd):Nat:=LN (QCX a)
def QCY(a:Nd)(b:Nat):List D:=Arr.row (List.getD (QCX a) b Qkx)
def QCZ(a:Nd)(b:Nat):List D:=Nd.row1 (QCM a b)
def QkC(a:Nd):Nat:=LN (Nd.bo a)
def QC0:Sm:=Sm.mk Z0 Z0 [] Z0 Hx Hx
def QC1(a:Nd)(b:Nat):List D:=Sm.row1 (List.getD (Nd.bo a) b QC0)
def QC2(a:Nd):Int:=Nd.de a
def QC3(a:Nd):Int:=Nd.sl a
def QC4(a:Nd):Int:=Nd.ss a
def QC5(a:Nat)(b:Nd):Prop:=(SM a/\(SM (Qkw b)/\SM (QCN b)/\SM (QCO b)/\SM (QCP b)/\SM (QCQ b)/\SM (QCR b)/\SM (QCS b)/\(SM (Qkz b)/\(∀(i:Nat),i<Qkz b->SM (QCU b i))/\True)/\(SM (QkA b)/\(∀(i:Nat),i<QkA b->SM (QCW b i))/\True)/\(SM (QkB b)/\(∀(i:Nat),i<QkB b->SM (QCY b i))/\True)/\(SM (VD b)/\(∀(i:Nat),i<VD b->SM (QCZ b i))/\True)/\(SM (QkC b)/\(∀(i:Nat),i<QkC b->SM (QC1 b i))/\True)/\SM (QC2 b)/\SM (QC3 b)/\SM (QC4 b)/\True)/\True)/\True
def KJ(a:Nd)(b:Nat):Nd:=List.getD (QdK a) (Int.toNat (↑b:Int)) Hx
def QQ1(a:Nd):D:=D.agg (Nd.row2 a)
theorem Bku(q:Int)(n:Nd)(hl:n.ki.length<=maxLen)(h:∀b∈n.ki,RMent q b):RMent q n:=by
 refine Bh (A:=sC _ _) (x:=()) (E:=Erme q n) (eOk (R6 h) rfl) Tryz.func92 rfl (by kernel_rfl) rfl (by simp[sC,Erme,EC,E0]) ?_
 refine Bj (T :=
  ∀(x:Nat),True->SM x/\ifB (Qkw n==q) (QCL q n) ((∃(x_1:Nat),Qky x_1 n q/\(Z0=(↑x_1:Int)/\True)/\QC5 x n)/\∀(x_1:Nat),Qky x_1 n q->SM x/\ifB (decide ((↑x_1:Int)<(NI (VD n)))) (SM x/\Be (Z0<=(↑x_1:Int)/\(↑x_1:Int)<(NI (VD n))) (∃(x_2:Nd),(isN x_2 [D.agg (Nd.rowE (KJ n x_1)),ZI q] [ZI q]/\x_2∈QdK n)/\∀(y:Unit),True->ifB (Ce q x_2) (QCL q n) ((SM (QQ1 n)/\SM (ZI q)/\SM (D.ref N0 x N0)/\True)/\∃(y:Nat),Qky y n q/\VD n-y<VD n-x_1/\(IntKind.wrap IntKind.i64 ((↑x_1:Int)+Z1)=(↑y:Int)/\True)/\QC5 x n))) (RT (false=Ce q n)))) (by kernel_rfl) ?_
 delta DA GI LN N0 N1 N4 NI SI SM Z0 Z1 ZI Qkw QCL QCP QCQ QCR QdL QCS QCT Qkz QCU QCV QkA QdK QCW QCX QkB QCY QCZ QkC QC0 QC1 QC2 QC3 VD QC4 QC5 KJ QQ1 Qkx Hx QCM Qky QCN QCO RT
 try simp only[<- dm]
 try simp only[<- dn]
 simp only[eq_self,ne_eq,implies_true,Ba,Int.toNat_natCast,Bf,Bc,decide_eq_true_eq,decide_eq_false_iff_not,true_and,and_true,beq_iff_eq,bne_iff_ne,bne_eq_false_iff_eq,beq_eq_false_iff_ne,Bool.not_eq_true',Bool.not_eq_false',exists_const,forall_const,Prod.exists]
 unfold maxLen at hl
 have e:=Ws q n
 refine⟨fun hk=>by rw[e,hk];simp,fun hk=>⟨⟨0,⟨Nat.zero_le _,fun j hj=>absurd hj (by omega)⟩,rfl⟩,fun i ⟨i1,hi⟩=>⟨fun hlt=>?_,fun hge=>?_⟩⟩⟩
 ·have hi1:i<n.ki.length:=by omega
  refine⟨⟨by omega,by omega⟩,n.ki.getD i default,⟨Bl _ _,B0 hi1⟩,fun c=>?_,fun c=>⟨i+1,⟨hi1,fun j hj=>?_⟩,by omega,Bb (by omega) (by omega)⟩⟩
  ·rw[e,Bbk hi1 c];simp
  ·by_cases e':j=i
   ·rw[e'];exact c
   ·exact hi j (by omega)
 ·have a:n.ki.any (Ce q)=false:=BdR fun j hj=>hi j (by omega)
  have hk':(n.kd==q)=false:=by simpa using hk
  rw[e,a,hk'];rfl
theorem Bjw(q:Int)(n:Nd)(hn:n.sm):RMent q n :=
 Bku q n (Cl (Cc hn).2.1) fun b hb=>Bjw q b (EW hn (BT hb))
termination_by szN n
decreasing_by exact Eu (BT hb)
noncomputable def Erbm(q:Int)(l:List Sm):Senv:={ EC (Ba1 q Nd.sm) 28 2 [4,5,9,27] (fun _=>([],[])) with
 mg:=fun _=>2
 ann:=fun b _ S=>match b with
  |0=>some { slots:=[5],keep:=[0,1],α:=Nat,st:=fun i=>([.int .i64 i],S),inv:=fun i=>i<=l.length/\∀j,j<i->(Ce q (l.getD j default).te||Ce q (l.getD j default).nd)=false,mu:=fun i=>l.length-i }
  |_=>none }
def Hy:Arr:=DA
def Yv:Nd:=Nd.mk Z0 Z0 Z0 [] Z0 Z0 Hy [] [] Z0 Z0 Z0
def Yw:Sm:=Sm.mk Z0 Z0 [] Z0 Yv Yv
def Yx(a:List Sm)(b:Nat):Sm:=List.getD a b Yw
def QM(a:List Sm)(b:Nat):Nd:=Sm.te (Yx a b)
def QN(a:List Sm)(b:Nat):Nd:=Sm.nd (Yx a b)
def QkD(a:Nat)(b:List Sm)(c:Int):Prop:=a<=LN b/\∀(j:Nat),j<a->(Ce c (QM b j)||Ce c (QN b j))=false
def QC9(a:List Sm)(b:Nat):Sm:=List.getD a (Int.toNat (↑b:Int)) Yw
def KK(a:List Sm)(b:Nat):Nd:=Sm.te (QC9 a b)
def QDd(a:List Sm)(b:Int):Prop:=RT (true=Ep a b)
def KL(a:List Sm)(b:Nat):Nd:=Sm.nd (QC9 a b)
def QRa(a:List Sm):D:=D.sl 34 (LN a) (fun i=>(Sm.row1 (Yx a i))) Mode.any
theorem Bkp(q:Int)(l:List Sm)(hl:l.length<=maxLen)(h:∀s∈l,s.sm):CD 69 [gsl 34 Sm.row1 l,.int .i64 q] (.bool (Ep l q)):=by
 refine Bh (A:=sC _ _) (x:=()) (E:=Erbm q l) (eOk (R6 (Bjw q)) rfl) Tryz.func69 rfl (by kernel_rfl) rfl (by simp[sC,Erbm,EC,E0]) ?_
 refine Bj (T :=
  (∃(x:Nat),QkD x l q/\(Z0=(↑x:Int)/\True)/\True/\True)/\∀(x:Nat),QkD x l q->ifB (decide ((↑x:Int)<(LI l))) (Be (Z0<=(↑x:Int)/\(↑x:Int)<(LI l)) (∃(x_1:Nd),(isN x_1 [D.agg (Nd.rowE (KK l x)),ZI q] [ZI q]/\Nd.sm x_1)/\∀(y:Unit),True->ifB (Ce q x_1) (QDd l q) (Be (Z0<=(↑x:Int)/\(↑x:Int)<(LI l)) (∃(x_2:Nd),(isN x_2 [D.agg (Nd.rowE (KL l x)),ZI q] [ZI q]/\Nd.sm x_2)/\∀(y:Unit),True->ifB (Ce q x_2) (QDd l q) ((SM (QRa l)/\SM (ZI q)/\True)/\∃(y:Nat),QkD y l q/\LN l-y<LN l-x/\(IntKind.wrap IntKind.i64 ((↑x:Int)+Z1)=(↑y:Int)/\True)/\True/\True))))) (RT (false=Ep l q))) (by kernel_rfl) ?_
 delta DA GI LI LN N1 N4 SI SM Z0 Z1 ZI Hy Yv Yw Yx QM QN QkD QC9 KK QDd KL QRa RT
 try simp only[<- dm]
 try simp only[<- dn]
 simp only[eq_self,ne_eq,implies_true,Ba,Int.toNat_natCast,Bf,Bc,decide_eq_true_eq,decide_eq_false_iff_not,true_and,and_true,beq_iff_eq,bne_iff_ne,bne_eq_false_iff_eq,beq_eq_false_iff_ne,Bool.not_eq_true',Bool.not_eq_false',exists_const,forall_const,Prod.exists]
 unfold maxLen at hl
 refine⟨⟨0,⟨Nat.zero_le _,fun j hj=>absurd hj (by omega)⟩,rfl⟩,fun i hi'=>⟨fun hlt=>?_,fun hge=>?_⟩⟩
 ·obtain ⟨i1,hi⟩:=hi'
  have hi1:i<l.length:=by omega
  obtain ⟨h1,h2⟩:=Cm (h _ (C4 hi1))
  have w:IntKind.i64.wrap ((i:Int)+1)=((i+1:Nat):Int):=by rw[Bb (by omega) (by omega)];rfl
  have yes:(Ce q (l.getD i default).te||Ce q (l.getD i default).nd)=true->true=Ep l q:=fun c=>(Bbk (l:=l) (p:=fun s:Sm=>Ce q s.te||Ce q s.nd) hi1 c).symm
  have go:(Ce q (l.getD i default).te||Ce q (l.getD i default).nd)=false->∀j,j<i+1->(Ce q (l.getD j default).te||Ce q (l.getD j default).nd)=false:=fun c j hj=>by
   by_cases e':j=i
   ·rw[e'];exact c
   ·exact hi j (by omega)
  refine⟨⟨by omega,by omega⟩,(l.getD i default).te,⟨Bl _ _,h1⟩,fun c=>yes (by rw[c];rfl),fun c=>⟨⟨by omega,by omega⟩,(l.getD i default).nd,⟨Bl _ _,h2⟩,fun c2=>yes (by rw[c2];simp),fun c2=>⟨i+1,⟨hi1,go (by rw[c,c2];rfl)⟩,by omega,w⟩⟩⟩
 ·obtain ⟨i1,hi⟩:=hi'
  exact (BdR (l:=l) (p:=fun s:Sm=>Ce q s.te||Ce q s.nd) fun j hj=>hi j (by omega)).symm
theorem BoF:nd0.ok:=by simp[nd0,Nd.ok,Arr.ok,okL,Uq,Uk,Br,maxLen]
theorem Bol:nd0.sm:=by simp[nd0,Nd.sm,Arr.sm,smL,Tg,OQ]
theorem Bmz(n:Nd):(CZ (stN n) (stN nd0)&&n.at_==0&&n.de==0&&n.sl==0&&n.ss==0)=Cv n:=by
 rw[Bool.eq_iff_iff]
 simp only[Bool.and_eq_true,CV,Bgt,beq_iff_eq]
 unfold Cv IO O3
 cases n with
 |mk kd at_ cl tx pr op va ki bo de sl ss =>
  cases va with
  |mk k s nu it =>
   simp[nd0,Nd.kd,Nd.at_,Nd.cl,Nd.tx,Nd.pr,Nd.op,Nd.va,Nd.ki,Nd.bo,Nd.de,Nd.sl,Nd.ss,Arr.k,Arr.sh,Arr.nu,Arr.it]
   constructor
   ·rintro ⟨⟨⟨⟨⟨a,b,c,d,e,⟨f1,f2,f3,f4⟩,g,h⟩,i⟩,j⟩,k⟩,l⟩
    subst_vars
    simp
   ·intro h
    simp_all
def BkC:List D:=nd0.row2
theorem Bld:wkL Be3 nd0.row2:=by
 simp[Be3,Nd.row2,nd0,Nd.kd,Nd.at_,Nd.cl,Nd.tx,Nd.pr,Nd.op,Nd.va,Nd.ki,Nd.bo,Nd.de,Nd.sl,Nd.ss,Arr.k,Arr.sh,Arr.nu,Arr.it,isl,gsl,wkL,wkD,Bn,Bd,BF,Oe,kEq]
theorem Bpv(n:Nd):wkL [.agg n.row2,.agg Be3] [.agg n.row2,.agg BkC]:=by
 simp only[wkL,wkD]
 exact⟨Bg _,Bld,trivial⟩
noncomputable def BnM(n:Nd):Con:=fun k ds S=>match k with
 |90=>some (pA ds S (.bool (CZ (stN n) (stN nd0))) (wkL ds [.agg n.row2,.agg BkC]))
 |_=>none
noncomputable def Erz(n:Nd):Senv:={ EC (BnM n) 26 3 [] (fun _=>([],[])) with mg:=fun _=>2 }
def QDp(a:Nd):D:=D.agg (Nd.row2 a)
def Vg:D:=ZI Z0
def Hz:D:=D.sl N1 N0 (fun x=>[]) Mode.nil
def QdS(a:Nd):Prop:=RT (false=Cv a)
theorem BpT(n:Nd)(ho:n.ok)(hs:n.sm):CD 67 [.agg n.row2] (.bool (Cv n)):=by
 refine Bh (A:=sC _ _) (x:=()) (E:=Erz n) (eOk ?_ rfl) Tryz.func67 rfl (by kernel_rfl) rfl (by simp[sC,Erz,EC,E0]) ?_
 ·intro k ds S A hh
  unfold BnM at hh
  split at hh
  ·injection hh with hh;subst hh
   exact Bo fun e=>CD.at_ (CD.wk (BbB n nd0 ⟨ho,hs⟩ ⟨BoF,Bol⟩) e) _
  ·cases hh
 refine Bj (T :=
  ∀(x:Nat),True->SM x/\∃(x_1:Unit),wkL [QDp n,D.agg [Vg,Vg,Vg,D.str [],Vg,Vg,Vg,Hz,Hz,Hz,Hz,Hz,Vg,Vg,Vg]] [QDp n,D.agg BkC]/\∀(y:Unit),True->ifB (CZ (stN n) (stN nd0)) (SM x/\ifB (Nd.at_ n==Z0) (SM x/\ifB (Nd.de n==Z0) (SM x/\ifB (Nd.sl n==Z0) (SM x/\RT ((Nd.ss n==Z0)=Cv n)) (QdS n)) (QdS n)) (QdS n)) (QdS n)) (by kernel_rfl) ?_
 delta DA GI LN N0 N1 N4 SI SM Z0 ZI QDp Vg Hz QdS RT
 try simp only[<- dm]
 try simp only[<- dn]
 simp only[eq_self,ne_eq,implies_true,Ba,Int.toNat_natCast,Bf,Bc,decide_eq_true_eq,decide_eq_false_iff_not,true_and,and_true,beq_iff_eq,bne_iff_ne,bne_eq_false_iff_eq,beq_eq_false_iff_ne,Bool.not_eq_true',Bool.not_eq_false',exists_const,forall_const,Prod.exists]
 rw[<- Bmz]
 have hz:=Bpv n
 repeat' (first | exact hz | refine And.intro ?_ ?_ | intro _)
 all_goals clear hz
 all_goals first
  |(simp_all;done)
  |(simp_all;omega)
def RVal(n:Nd):Prop:=CD 66 [.agg n.row2] (.bool (Bz n))
def RBdy(l:List Sm):Prop:=CD 43 [gsl 34 Sm.row1 l] (.bool (BP true l))
def BeM(n:Nd):Con:=fun k ds S=>match k with
 |106=>match ds with
  | [_,.bool a,.bool b,.bool c,.bool d,.bool e,.bool f]=>some (pA ds S (.bool (Gg n a b c d e f)) (isN2 n ds [.bool a,.bool b,.bool c,.bool d,.bool e,.bool f]))
  |_=>none
 |43=>some (pA ds S (.bool (BP true n.bo)) (wkL ds [gsl 34 Sm.row1 n.bo]))
 |69=>match ds with
  | [_,.int .i64 q]=>some (pA ds S (.bool (Ep n.bo q)) (wkL ds [gsl 34 Sm.row1 n.bo,.int .i64 q]))
  |_=>none
 |_=>none
theorem Bhx{n:Nd}(h:n.va.ok)(hn:n.sm)(hb:RBdy n.bo):ConOk Tryz.prog (BeM n):=by
 intro k ds S A hh
 unfold BeM at hh
 split at hh
 ·split at hh
  ·injection hh with hh;subst hh
   exact Bo fun e=>CD.at_ (CD.wk (Bjn n h _ _ _ _ _ _) e) _
  ·cases hh
 ·injection hh with hh;subst hh
  exact Bo fun e=>CD.at_ (CD.wk hb e) _
 ·split at hh
  ·injection hh with hh;subst hh
   exact Bo fun e=>CD.at_ (CD.wk (Bkp _ n.bo (Cl (Cc hn).2.2) (Gy hn)) e) _
  ·cases hh
 ·cases hh
noncomputable def Erla(n:Nd):Senv:={ EC (BeM n) 49 5 [31,38,42] (fun id=>match id with | 3=>([0,1,3,4,2,5,6,7],[2,5]) | _=>([],[])) with mg:=fun _=>2 }
def QdT(a:Nd):Int:=Nd.cl a
def QDr:Arr:=DA
def QkE:Nd:=Nd.mk Z0 Z0 Z0 [] Z0 Z0 QDr [] [] Z0 Z0 Z0
def Xv(a:Nd):List Sm:=Nd.bo a
def QDs:Sm:=Sm.mk Z0 Z0 [] Z0 QkE QkE
def HA(a:Nd):D:=D.sl 34 (LN (Xv a)) (fun i=>Sm.row1 (List.getD (Xv a) i QDs)) Mode.any
def QDt:List D:=[D.bool false,D.bool false,D.bool false,D.bool false,D.bool false,D.bool true]
def QdV(a:Nd):Bool:=Rt a
def QdW(a:Nd):Prop:=RT (false=QdV a)
def QkF(a:Nd):Int:=(LI (Xv a))
def QkG(a:Nd):Int:=IntKind.wrap IntKind.i64 (QkF a-Z1)
def QDu(a:Nd):List D:=[HA a]
def QDv(a:Nd):List D:=[HA a,ZI 12]
def QDw(a:Nd):List D:=[HA a,ZI 13]
theorem Bov(n:Nd)(h:n.va.ok)(hn:n.sm)(hb:RBdy n.bo):CD 87 [.agg n.row2] (.bool (Rt n)):=by
 refine Bh (A:=sC _ _) (x:=()) (E:=Erla n) (eOk (Bhx h hn hb) rfl) Tryz.func87 rfl (by kernel_rfl) rfl (by simp[sC,Erla,EC,E0]) ?_
 refine Bj (T :=
  ∀(x:Nat),True->SM x/\∃(x_1:Unit),isN2 n (D.agg (Nd.row2 n)::QDt) QDt/\∀(y:Unit),True->ifB (!Gg n false false false false false true) (QdW n) (SM x/\ifB (QkF n==Z0) (QdW n) (SM x/\SM x/\Be (Z0<=QkG n/\QkG n<QkF n) (ifB (Sm.kd (List.getD (Xv n) (Int.toNat (QkG n)) QDs) != Z1) (QdW n) (SM x/\∃(x_2:Unit),wkL (QDu n) (QDu n)/\∀(y:Unit),True->ifB (!BP true (Xv n)) (QdW n) (SM x/\SM x/\∃(x_3:Unit),wkL (QDv n) (QDv n)/\∀(y:Unit),True->(SM x/\SM (HA n))/\∃(x_4:Unit),wkL (QDw n) (QDw n)/\∀(y:Unit),True->ifB (Ep (Xv n) (13:Int)) (SM x/\RT ((QdT n==4)=QdV n)) (ifB (Ep (Xv n) (12:Int)) (SM x/\RT ((QdT n==3)=QdV n)) (SM x/\RT ((QdT n==2)=QdV n))))))))) (by kernel_rfl) ?_
 delta DA GI LI LN N1 N4 SI SM Z0 Z1 ZI QDr QkE Xv QDs HA QDt QdV QdW QkF QkG QDu QDv QDw QdT RT
 try simp only[<- dm]
 try simp only[<- dn]
 simp only[eq_self,ne_eq,implies_true,Ba,Int.toNat_natCast,Bf,Bc,decide_eq_true_eq,decide_eq_false_iff_not,true_and,and_true,beq_iff_eq,bne_iff_ne,bne_eq_false_iff_eq,beq_eq_false_iff_ne,Bool.not_eq_true',Bool.not_eq_false',exists_const,forall_const,Prod.exists]
 have e2:n.bo.isEmpty=(n.bo.length==0):=by cases n.bo<;>rfl
 have hlen:=(Cc hn).2.2
 unfold BC at hlen
 have self:∀a b c d e f:Bool,isN2 n [.agg n.row2,.bool a,.bool b,.bool c,.bool d,.bool e,.bool f] [.bool a,.bool b,.bool c,.bool d,.bool e,.bool f]:=fun _ _ _ _ _ _=>CF n _
 by_cases hb:n.bo.length=0
 ·skip
  repeat' (first | exact self _ _ _ _ _ _ | exact Bg _ | refine And.intro ?_ ?_ | intro _)
  all_goals clear self
  all_goals first
   |(exfalso;omega)
   |(unfold Rt;rw[e2,hb];simp;done)
   |(unfold Rt;simp_all;done)
 ·have w:IntKind.i64.wrap ((n.bo.length:Int)-1)=((n.bo.length-1:Nat):Int):=by rw[Bb (by omega) (by omega)];omega
  simp only[w,Int.toNat_natCast]
  have e3:(n.bo.length==0)=false:=by simpa using hb
  repeat' (first | exact self _ _ _ _ _ _ | exact Bg _ | refine And.intro ?_ ?_ | intro _)
  all_goals clear self
  all_goals first
   |omega
   |(unfold Rt;rw[e2,e3];simp_all;done)
   |(unfold Rt;simp_all;done)
def Bey(n:Nd):Con:=fun k ds S=>match k with
 |87=>some (pA ds S (.bool (Rt n)) (isN2 n ds []))
 |88=>some (pA ds S (.bool (OP n)) (isN2 n ds []))
 |89=>some (pA ds S (.bool (Gh n)) (isN2 n ds []))
 |66=>some (pE (β:=Nd) ds S (fun b=>.bool (Bz b)) (fun b=>isN b ds []/\b∈n.ki))
 |_=>none
theorem Bho{n:Nd}(hn:n.sm)(ho:n.va.ok)(h1:RBdy n.bo)(h2:∀b∈n.ki,RVal b):ConOk Tryz.prog (Bey n):=by
 intro k ds S A hh
 have hl:=Cl (Cc hn).2.1
 unfold Bey at hh
 split at hh
 ·injection hh with hh;subst hh
  exact Bo fun e=>CD.at_ (CD.wk (Bov n ho hn h1) e) _
 ·injection hh with hh;subst hh
  exact Bo fun e=>CD.at_ (CD.wk (Bpz n ho) e) _
 ·injection hh with hh;subst hh
  exact Bo fun e=>CD.at_ (CD.wk (Bo5 n ho hl) e) _
 ·injection hh with hh;subst hh
  exact Cn fun b ⟨e,hb⟩=>CD.at_ (CD.isN (h2 b hb) e) _
 ·cases hh
noncomputable def Erva(n:Nd):Senv:={ EC (Bey n) 46 4 [21,24,28,31,36,45] (fun _=>([],[])) with
 mg:=fun _=>2
 ann:=fun b _ S=>match b with
  |0=>some { slots:=[3],keep:=[0,1],α:=Nat,st:=fun i=>([.int .i64 i],S),inv:=fun i=>i<=n.ki.length/\∀j,j<i->Bz (n.ki.getD j default)=true,mu:=fun i=>n.ki.length-i }
  |_=>none }
theorem BlP{α:Type}[Inhabited α]{p:α->Bool}{l:List α}{j:Nat}(hj:j<l.length)(h:p (l.getD j default)=false):l.all p=false:=by
 rw[Bool.eq_false_iff]
 intro e
 have:=List.all_eq_true.1 e (l.getD j default) (by rw[List.getD_eq_getElem?_getD,List.getElem?_eq_getElem hj];exact List.getElem_mem hj)
 rw[h] at this;cases this
theorem Bgu{α:Type}[Inhabited α]{p:α->Bool}{l:List α}(h:∀j,j<l.length->p (l.getD j default)=true):l.all p=true:=by
 rw[List.all_eq_true]
 intro x hx
 obtain ⟨i,hi,rfl⟩:=List.getElem_of_mem hx
 have:=h i hi
 rwa [List.getD_eq_getElem?_getD,List.getElem?_eq_getElem hi] at this
def QkH(a:Nd):Int:=Nd.at_ a
def QdX(a:Nd):Bool:=Bz a
def Yy(a:Nd):Prop:=RT (false=QdX a)
def QkI(a:Nd):Int:=Nd.de a
def QkJ(a:Nd):Int:=Nd.sl a
def QkK(a:Nd):Int:=Nd.ss a
def QkL(a:Nd):Int:=Nd.kd a
def QDx(a:Nd):Int:=Nd.cl a
def QDy(a:Nd):List UInt8:=Nd.tx a
def QDz(a:Nd):Int:=Nd.pr a
def QDA(a:Nd):Int:=Nd.op a
def QdY(a:Nd):Arr:=Nd.va a
def QDB(a:Nd):Int:=Arr.k (QdY a)
def QDC(a:Nd):List Int:=Arr.sh (QdY a)
def QkM(a:Nd):Nat:=LN (QDC a)
def QDD(a:Nd)(b:Nat):List D:=[ZI (GI (QDC a) b)]
def QDE(a:Nd):List Int:=Arr.nu (QdY a)
def QkN(a:Nd):Nat:=LN (QDE a)
def QDF(a:Nd)(b:Nat):List D:=[ZI (GI (QDE a) b)]
def QDG(a:Nd):List Arr:=Arr.it (QdY a)
def QkO(a:Nd):Nat:=LN (QDG a)
def QkP:Arr:=DA
def QDH(a:Nd)(b:Nat):List D:=Arr.row (List.getD (QDG a) b QkP)
def QdZ(a:Nd):List Nd:=Nd.ki a
def VE(a:Nd):Nat:=LN (QdZ a)
def HB:Nd:=Nd.mk Z0 Z0 Z0 [] Z0 Z0 QkP [] [] Z0 Z0 Z0
def QDI(a:Nd)(b:Nat):Nd:=List.getD (QdZ a) b HB
def QDJ(a:Nd)(b:Nat):List D:=Nd.row1 (QDI a b)
def QkQ(a:Nd):Nat:=LN (Nd.bo a)
def QDK:Sm:=Sm.mk Z0 Z0 [] Z0 HB HB
def QDL(a:Nd)(b:Nat):List D:=Sm.row1 (List.getD (Nd.bo a) b QDK)
def QDM(a:Nd):D:=D.agg (Nd.row2 a)
def QkR(a:Nd):Prop:=isN2 a [QDM a] []
def QDN(a:Nd):Prop:=RT (true=QdX a)
def QkS(a:Nat)(b:Nd):Prop:=a<=VE b/\∀(j:Nat),j<a->Bz (QDI b j)=true
def QDO(a:Nat)(b:Nd):Prop:=(SM a/\(SM (QkL b)/\SM (QkH b)/\SM (QDx b)/\SM (QDy b)/\SM (QDz b)/\SM (QDA b)/\SM (QDB b)/\(SM (QkM b)/\(∀(i:Nat),i<QkM b->SM (QDD b i))/\True)/\(SM (QkN b)/\(∀(i:Nat),i<QkN b->SM (QDF b i))/\True)/\(SM (QkO b)/\(∀(i:Nat),i<QkO b->SM (QDH b i))/\True)/\(SM (VE b)/\(∀(i:Nat),i<VE b->SM (QDJ b i))/\True)/\(SM (QkQ b)/\(∀(i:Nat),i<QkQ b->SM (QDL b i))/\True)/\SM (QkI b)/\SM (QkJ b)/\SM (QkK b)/\True)/\True)/\True
def KM(a:Nd)(b:Nat):Nd:=List.getD (QdZ a) (Int.toNat (↑b:Int)) HB
theorem BjI(n:Nd)(hn:n.sm)(ho:n.va.ok)(h1:RBdy n.bo)(h2:∀b∈n.ki,RVal b):RVal n:=by
 refine Bh (A:=sC _ _) (x:=()) (E:=Erva n) (eOk (Bho hn ho h1 h2) rfl) Tryz.func66 rfl (by kernel_rfl) rfl (by simp[sC,Erva,EC,E0]) ?_
 refine Bj (T :=
  ∀(x:Nat),True->SM x/\ifB (decide (QkH n<Z0)) (Yy n) (SM x/\ifB (decide (QkI n<Z0)) (Yy n) (SM x/\ifB (decide (QkJ n<Z0)) (Yy n) (SM x/\ifB (decide (QkK n<Z0)) (Yy n) (SM x/\ifB (QkL n==10) (SM x/\∃(x:Unit),QkR n/\∀(y:Unit),True->RT (Rt n=QdX n)) (SM x/\∃(x_1:Unit),QkR n/\∀(y:Unit),True->ifB (OP n) (QDN n) (SM x/\∃(x_2:Unit),QkR n/\∀(y:Unit),True->ifB (!Gh n) (Yy n) ((∃(x_3:Nat),QkS x_3 n/\(Z0=(↑x_3:Int)/\True)/\QDO x n)/\∀(x_3:Nat),QkS x_3 n->SM x/\ifB (decide ((↑x_3:Int)<(NI (VE n)))) (SM x/\Be (Z0<=(↑x_3:Int)/\(↑x_3:Int)<(NI (VE n))) (∃(x_4:Nd),(isN x_4 [D.agg (Nd.rowE (KM n x_3))] []/\x_4∈QdZ n)/\∀(y:Unit),True->ifB (!QdX x_4) (Yy n) ((SM (QDM n)/\SM (D.ref N0 x N0)/\True)/\∃(y:Nat),QkS y n/\VE n-y<VE n-x_3/\(IntKind.wrap IntKind.i64 ((↑x_3:Int)+Z1)=(↑y:Int)/\True)/\QDO x n))) (QDN n))))))))) (by kernel_rfl) ?_
 delta DA GI LN N0 N1 N4 NI SI SM Z0 Z1 ZI QkH QdX Yy QkI QkJ QkK QkL QDx QDy QDz QDA QdY QDB QDC QkM QDD QDE QkN QDF QDG QkO QkP QDH QdZ VE HB QDI QDJ QkQ QDK QDL QDM QkR QDN QkS QDO KM RT
 try simp only[<- dm]
 try simp only[<- dn]
 simp only[eq_self,ne_eq,implies_true,Ba,Int.toNat_natCast,Bf,Bc,decide_eq_true_eq,decide_eq_false_iff_not,true_and,and_true,beq_iff_eq,bne_iff_ne,bne_eq_false_iff_eq,beq_eq_false_iff_ne,Bool.not_eq_true',Bool.not_eq_false',exists_const,forall_const,Prod.exists]
 have hl:=Cl (Cc hn).2.1
 unfold maxLen at hl
 have e:=Bic n
 have no:T2 n=false->false=Bz n:=fun h=>by rw[e,h];rfl
 refine⟨fun c=>no ?_,fun c1=>⟨fun c=>no ?_,fun c2=>⟨fun c=>no ?_,fun c3=>⟨fun c=>no ?_,fun c4=>?_⟩⟩⟩⟩
 ·unfold T2;rw[decide_eq_false (by omega)];rfl
 ·unfold T2;rw[decide_eq_false (p:=0<=n.de) (by omega)];simp
 ·unfold T2;rw[decide_eq_false (p:=0<=n.sl) (by omega)];simp
 ·unfold T2;rw[decide_eq_false (p:=0<=n.ss) (by omega)];simp
 have hp:T2 n=true:=by
  unfold T2
  rw[decide_eq_true (by omega),decide_eq_true (by omega),decide_eq_true (by omega),decide_eq_true (by omega)];rfl
 rw[hp,Bool.true_and] at e
 clear no
 refine⟨fun k=>⟨CF n _,?_⟩,fun k=>⟨CF n _,fun c=>?_,fun c=>⟨CF n _,fun d=>?_,fun d=>⟨⟨0,⟨Nat.zero_le _,fun j hj=>absurd hj (by omega)⟩,rfl⟩,fun i ⟨i1,hi⟩=>⟨fun hlt=>?_,fun hge=>?_⟩⟩⟩⟩⟩
 ·rw[e,if_pos k]
 ·rw[e,if_neg k,c];rfl
 ·rw[e,if_neg k,c,d];rfl
 ·have hi1:i<n.ki.length:=by omega
  refine⟨⟨by omega,by omega⟩,n.ki.getD i default,⟨Bl _ _,B0 hi1⟩,fun f=>?_,fun f=>⟨i+1,⟨hi1,fun j hj=>?_⟩,by omega,Bb (by omega) (by omega)⟩⟩
  ·rw[e,if_neg k,c,d,BlP hi1 f];rfl
  ·by_cases e':j=i
   ·rw[e'];exact f
   ·exact hi j (by omega)
 ·rw[e,if_neg k,c,d,Bgu fun j hj=>hi j (by omega)];rfl
def BeF:Con:=fun k ds S=>match k with
 |66=>some (pE (β:=Nd) ds S (fun b=>.bool (Bz b)) (fun b=>isN b ds []/\RVal b))
 |67=>some (pE (β:=Nd) ds S (fun b=>.bool (Cv b)) (fun b=>isN b ds []/\b.ok/\b.sm))
 |68=>match ds with
  | [.str s]=>some (pA ds S (.bool (Cd s)) True)
  |_=>none
 |_=>none
theorem BhZ:ConOk Tryz.prog BeF:=by
 intro k ds S A hh
 unfold BeF at hh
 split at hh
 ·injection hh with hh;subst hh
  exact Cn fun b ⟨e,h⟩=>CD.at_ (CD.isN h e) _
 ·injection hh with hh;subst hh
  exact Cn fun b ⟨e,h⟩=>CD.at_ (CD.isN (BpT b h.1 h.2) e) _
 ·split at hh
  ·injection hh with hh;subst hh
   exact Bo fun _=>CD.at_ (BnT _) _
  ·cases hh
 ·cases hh
theorem Bht{l:List Sm}{x:Nat}{v:List UInt8}:(B1 (l.take x)).contains v=true↔∃j,j<x/\j<l.length/\(l.getD j default).kd=2/\(l.getD j default).nm=v:=by
 rw[List.contains_eq_mem,decide_eq_true_eq]
 unfold B1
 simp only[List.mem_map,List.mem_filter,beq_iff_eq]
 constructor
 ·rintro ⟨s,⟨hm,hk⟩,hn⟩
  obtain ⟨j,hj,e⟩:=List.getElem_of_mem hm
  rw[List.getElem_take] at e
  rw[List.length_take] at hj
  have h1:j<l.length:=by omega
  refine⟨j,by omega,h1,?_,?_⟩
  ·rw[List.getD_eq_getElem?_getD,List.getElem?_eq_getElem h1,Option.getD_some,e];exact hk
  ·rw[List.getD_eq_getElem?_getD,List.getElem?_eq_getElem h1,Option.getD_some,e];exact hn
 ·rintro ⟨j,h1,h2,hk,hn⟩
  have h3:j<(l.take x).length:=by rw[List.length_take];omega
  have e:(l.take x)[j]=l.getD j default:=by rw[List.getElem_take,List.getD_eq_getElem?_getD,List.getElem?_eq_getElem h2];rfl
  exact⟨l.getD j default,⟨by rw[<- e];exact List.getElem_mem h3,hk⟩,hn⟩
noncomputable def Erbo(l:List Sm):Senv:={ EC BeF 130 1 [2,3,4,5,8,12,27,29,30,51,52,56,74,101,102,129] (fun id=>match id with | 18=>([0,1,2,3,4,5,6,7,8,9,10,11,12,13,14,15],[]) | _=>([],[])) with
 mg:=fun _=>2
 ann:=fun b env S=>match b with
  |0=>some { slots:=[3],keep:=[0],α:=Nat,st:=fun i=>([.int .i64 i],S),inv:=fun i=>i<=l.length/\Cb true [] l=Cb true (B1 (l.take i)) (l.drop i),mu:=fun i=>l.length-i }
  |3=>match Ab.look env 3 with
   |.int _ i=>some { slots:=[5],keep:=[0,3,4],α:=Nat,st:=fun y=>([.int .i64 y],S),inv:=fun y=>y<=i.toNat/\∀j,j<y->¬((l.getD j default).kd=2/\(l.getD j default).nm=(l.getD i.toNat default).nm),mu:=fun y=>i.toNat-y }
   |_=>none
  |_=>none }
def Qr(a:List Sm):Prop:=RT (false=BP true a)
def QkT(a:Nat)(b:List Sm):Prop:=a<=LN b/\Cb true [] b=Cb true (B1 (List.take a b)) (List.drop a b)
def HC:Arr:=DA
def Yz:Nd:=Nd.mk Z0 Z0 Z0 [] Z0 Z0 HC [] [] Z0 Z0 Z0
def YA:Sm:=Sm.mk Z0 Z0 [] Z0 Yz Yz
def YB(a:List Sm)(b:Nat):Sm:=List.getD a (Int.toNat (↑b:Int)) YA
def QDS(a:List Sm)(b:Nat):Int:=Sm.at_ (YB a b)
def KN(a:List Sm)(b:Nat):Nd:=Sm.nd (YB a b)
def QkU(a:List Sm)(b:Nat):Int:=Nd.kd (KN a b)
def QDT(a:List Sm)(b:Nat):Int:=Nd.at_ (KN a b)
def Qd1(a:List Sm)(b:Nat):Int:=Nd.cl (KN a b)
def QDU(a:List Sm)(b:Nat):List UInt8:=Nd.tx (KN a b)
def QDV(a:List Sm)(b:Nat):Int:=Nd.pr (KN a b)
def QDW(a:List Sm)(b:Nat):Int:=Nd.op (KN a b)
def Qd2(a:List Sm)(b:Nat):Arr:=Nd.va (KN a b)
def QDX(a:List Sm)(b:Nat):Int:=Arr.k (Qd2 a b)
def QDY(a:List Sm)(b:Nat):List Int:=Arr.sh (Qd2 a b)
def QkV(a:List Sm)(b:Nat):Nat:=LN (QDY a b)
def QDZ(a:List Sm)(b c:Nat):List D:=[ZI (GI (QDY a b) c)]
def QD0(a:List Sm)(b:Nat):List Int:=Arr.nu (Qd2 a b)
def QkW(a:List Sm)(b:Nat):Nat:=LN (QD0 a b)
def QD1(a:List Sm)(b c:Nat):List D:=[ZI (GI (QD0 a b) c)]
def QD2(a:List Sm)(b:Nat):List Arr:=Arr.it (Qd2 a b)
def QkX(a:List Sm)(b:Nat):Nat:=LN (QD2 a b)
def QD3(a:List Sm)(b c:Nat):List D:=Arr.row (List.getD (QD2 a b) c HC)
def QD4(a:List Sm)(b:Nat):List Nd:=Nd.ki (KN a b)
def QkY(a:List Sm)(b:Nat):Nat:=LN (QD4 a b)
def QD5(a:List Sm)(b c:Nat):List D:=Nd.row (List.getD (QD4 a b) c Yz)
def QD6(a:List Sm)(b:Nat):List Sm:=Nd.bo (KN a b)
def QkZ(a:List Sm)(b:Nat):Nat:=LN (QD6 a b)
def QD7(a:List Sm)(b c:Nat):List D:=Sm.row (List.getD (QD6 a b) c YA)
def QD8(a:List Sm)(b:Nat):Int:=Nd.de (KN a b)
def QD9(a:List Sm)(b:Nat):Int:=Nd.sl (KN a b)
def QEa(a:List Sm)(b:Nat):Int:=Nd.ss (KN a b)
def Qd3(a:List Sm)(b:Nat):Int:=Sm.kd (YB a b)
def QEb(a:List Sm)(b:Nat):Bool:=Qd1 a b != Z1
def YC(a:List Sm)(b:Nat):List UInt8:=Sm.nm (YB a b)
def QEc(a:List Sm)(b:Nat):Bool:=YC a b != []
def Qk0(a:List Sm)(b:Nat):Int:=Sm.sl (YB a b)
def QEd(a:List Sm)(b:Nat):Bool:=Qk0 a b != Z0
def KO(a:List Sm)(b:Nat):Nd:=Sm.te (YB a b)
def QEe(a:List Sm)(b:Nat):Int:=Nd.kd (KO a b)
def QEf(a:List Sm)(b:Nat):Int:=Nd.at_ (KO a b)
def Qk1(a:List Sm)(b:Nat):Int:=Nd.cl (KO a b)
def QEg(a:List Sm)(b:Nat):List UInt8:=Nd.tx (KO a b)
def QEh(a:List Sm)(b:Nat):Int:=Nd.pr (KO a b)
def QEi(a:List Sm)(b:Nat):Int:=Nd.op (KO a b)
def Qd4(a:List Sm)(b:Nat):Arr:=Nd.va (KO a b)
def QEj(a:List Sm)(b:Nat):Int:=Arr.k (Qd4 a b)
def QEk(a:List Sm)(b:Nat):List Int:=Arr.sh (Qd4 a b)
def Qk2(a:List Sm)(b:Nat):Nat:=LN (QEk a b)
def QEl(a:List Sm)(b c:Nat):List D:=[ZI (GI (QEk a b) c)]
def QEm(a:List Sm)(b:Nat):List Int:=Arr.nu (Qd4 a b)
def Qk3(a:List Sm)(b:Nat):Nat:=LN (QEm a b)
def QEn(a:List Sm)(b c:Nat):List D:=[ZI (GI (QEm a b) c)]
def QEo(a:List Sm)(b:Nat):List Arr:=Arr.it (Qd4 a b)
def Qk4(a:List Sm)(b:Nat):Nat:=LN (QEo a b)
def QEp(a:List Sm)(b c:Nat):List D:=Arr.row (List.getD (QEo a b) c HC)
def QEq(a:List Sm)(b:Nat):List Nd:=Nd.ki (KO a b)
def Qk5(a:List Sm)(b:Nat):Nat:=LN (QEq a b)
def QEr(a:List Sm)(b c:Nat):List D:=Nd.row (List.getD (QEq a b) c Yz)
def QEs(a:List Sm)(b:Nat):List Sm:=Nd.bo (KO a b)
def Qk6(a:List Sm)(b:Nat):Nat:=LN (QEs a b)
def QEt(a:List Sm)(b c:Nat):List D:=Sm.row (List.getD (QEs a b) c YA)
def QEu(a:List Sm)(b:Nat):Int:=Nd.de (KO a b)
def QEv(a:List Sm)(b:Nat):Int:=Nd.sl (KO a b)
def QEw(a:List Sm)(b:Nat):Int:=Nd.ss (KO a b)
def QEx(a:Nd)(b:List Sm)(c:Nat):Prop:=isN a [D.agg (Nd.rowE (Sm.te (List.getD b (Int.toNat (↑ c : Int)) (Sm.mk 0 0 [] 0 (Nd.mk 0 0 0 [] 0 0 (Arr.mk 0 [] [] []) [] [] 0 0 0) (Nd.mk 0 0 0 [] 0 0 (Arr.mk 0 [] [] []) [] [] 0 0 0)))))] []
def QEy(a:Nd)(b:List Sm)(c:Nat):Prop:=QEx a b c/\Nd.ok a/\Nd.sm a
def YD(a:List Sm)(b:Nat):Sm:=List.getD a b YA
def QEz(a:List Sm)(b:Nat):Int:=Sm.kd (YD a b)
def QEA(a:List Sm)(b:Nat):List UInt8:=Sm.nm (YD a b)
def QRl(a:List Sm):D:=D.sl 34 (LN a) (fun i=>(Sm.row1 (List.getD a i (Sm.mk 0 0 [] 0 (Nd.mk 0 0 0 [] 0 0 (Arr.mk 0 [] [] []) [] [] 0 0 0) (Nd.mk 0 0 0 [] 0 0 (Arr.mk 0 [] [] []) [] [] 0 0 0))))) Mode.any
def QEH(a:List Sm):Prop:=SM (QRl a)
def Qd7(a:List Sm)(b:Nat):Prop:=(QEH a/\True)/\∃(y:Nat),QkT y a/\LN a-y<LN a-b/\(IntKind.wrap IntKind.i64 ((↑b:Int)+Z1)=(↑y:Int)/\True)/\True/\True
def QEI(a:List Sm)(b:Nat):Bool:=Qd3 a b==2
def Qk7(a b:Nat)(c:List Sm):Prop:=a<=Int.toNat (↑b:Int)/\∀(j:Nat),j<a->¬(QEz c j=2/\QEA c j=YC c b)
def QEJ(a:Nat)(b:List Sm)(c:Nat):Prop:=(SM a/\(SM (Qd3 b c)/\SM (QDS b c)/\SM (YC b c)/\SM (Qk0 b c)/\SM (QEe b c)/\SM (QEf b c)/\SM (Qk1 b c)/\SM (QEg b c)/\SM (QEh b c)/\SM (QEi b c)/\SM (QEj b c)/\(SM (Qk2 b c)/\(∀(i:Nat),i<Qk2 b c->SM (QEl b c i))/\True)/\(SM (Qk3 b c)/\(∀(i:Nat),i<Qk3 b c->SM (QEn b c i))/\True)/\(SM (Qk4 b c)/\(∀(i:Nat),i<Qk4 b c->SM (QEp b c i))/\True)/\(SM (Qk5 b c)/\(∀(i:Nat),i<Qk5 b c->SM (QEr b c i))/\True)/\(SM (Qk6 b c)/\(∀(i:Nat),i<Qk6 b c->SM (QEt b c i))/\True)/\SM (QEu b c)/\SM (QEv b c)/\SM (QEw b c)/\SM (QkU b c)/\SM (QDT b c)/\SM (Qd1 b c)/\SM (QDU b c)/\SM (QDV b c)/\SM (QDW b c)/\SM (QDX b c)/\(SM (QkV b c)/\(∀(i:Nat),i<QkV b c->SM (QDZ b c i))/\True)/\(SM (QkW b c)/\(∀(i:Nat),i<QkW b c->SM (QD1 b c i))/\True)/\(SM (QkX b c)/\(∀(i:Nat),i<QkX b c->SM (QD3 b c i))/\True)/\(SM (QkY b c)/\(∀(i:Nat),i<QkY b c->SM (QD5 b c i))/\True)/\(SM (QkZ b c)/\(∀(i:Nat),i<QkZ b c->SM (QD7 b c i))/\True)/\SM (QD8 b c)/\SM (QD9 b c)/\SM (QEa b c)/\True)/\True)/\True
def QEK(a:List Sm)(b c d:Nat):Prop:=(QEH a/\SM (ZI (↑b:Int))/\SM (D.ref N0 c N0)/\True)/\∃(y:Nat),Qk7 y b a/\Int.toNat (↑b:Int)-y<Int.toNat (↑b:Int)-d/\(IntKind.wrap IntKind.i64 ((↑d:Int)+Z1)=(↑y:Int)/\True)/\QEJ c a b
theorem Bdm(l:List Sm)(hl:l.length<=BC)(h:∀s∈l,RVal s.nd/\RVal s.te/\(s.te.ok/\s.te.sm)):RBdy l:=by
 refine Bh (A:=sC _ _) (x:=()) (E:=Erbo l) (eOk BhZ rfl) Tryz.func43 rfl (by kernel_rfl) rfl (by simp[sC,Erbo,EC,E0]) ?_
 refine Bj (T :=
  ifB (decide ((1000:Int)<(LI l))) (Qr l) ((∃(x:Nat),QkT x l/\(Z0=(↑x:Int)/\True)/\True/\True)/\∀(x:Nat),QkT x l->ifB (decide ((↑x:Int)<(LI l))) (Be (Z0<=(↑x:Int)/\(↑x:Int)<(LI l)) (∀(x_1:Nat),True->SM x_1/\SM x_1/\ifB (decide (QDS l x<Z0)) (Qr l) (SM x_1/\∃(x_2:Nd),(isN x_2 [D.agg (Nd.rowE (Sm.nd (List.getD l (Int.toNat (↑ x : Int)) (Sm.mk 0 0 [] 0 (Nd.mk 0 0 0 [] 0 0 (Arr.mk 0 [] [] []) [] [] 0 0 0) (Nd.mk 0 0 0 [] 0 0 (Arr.mk 0 [] [] []) [] [] 0 0 0)))))] []/\RVal x_2)/\∀(y:Unit),True->ifB (!Bz x_2) (Qr l) (SM x_1/\ifB (Qd3 l x==Z1) (SM x_1/\ifB (QEb l x) (Qr l) (SM x_1/\ifB (QEc l x) (Qr l) (SM x_1/\ifB (QEd l x) (Qr l) (SM x_1/\∃(x_3:Nd),QEy x_3 l x/\∀(y:Unit),True->ifB (!Cv x_3) (Qr l) (Qd7 l x))))) (ifB (QEI l x) ((∃(x_3:Nat),Qk7 x_3 x l/\(Z0=(↑x_3:Int)/\True)/\QEJ x_1 l x)/\∀(x_3:Nat),Qk7 x_3 x l->ifB (decide ((↑x_3:Int)<(↑x:Int))) (Be (Z0<=(↑x_3:Int)/\(↑x_3:Int)<(LI l)) (ifB (QEI l x_3) (Be (Z0<=(↑x_3:Int)/\(↑x_3:Int)<(LI l)) (SM x_1/\ifB (YC l x_3==YC l x) (Qr l) (QEK l x x_1 x_3))) (QEK l x x_1 x_3))) (SM x_1/\∃(x_4:Unit),True/\∀(y:Unit),True->ifB (!Cd (YC l x)) (Qr l) (SM x_1/\ifB (decide (Qk0 l x<Z0)) (Qr l) (SM x_1/\∃(x_5:Nd),QEy x_5 l x/\∀(y:Unit),True->ifB (!Cv x_5) (Qr l) (SM x_1/\ifB (decide ((3:Int)<=Qd1 l x)) (SM x_1/\ifB (QkU l x != (10:Int)) (Qr l) (Qd7 l x)) (Qd7 l x)))))) (ifB (Qd3 l x==3) (SM x_1/\ifB (QEb l x) (Qr l) (SM x_1/\∃(x_3:Nd),(QEx x_3 l x/\RVal x_3)/\∀(y:Unit),True->ifB (!Bz x_3) (Qr l) (SM x_1/\ifB (Qk1 l x != Z1) (Qr l) (SM x_1/\ifB (QEc l x) (Qr l) (SM x_1/\ifB (QEd l x) (Qr l) (Qd7 l x)))))) (Qr l))))))) (RT (true=BP true l)))) (by kernel_rfl) ?_
 delta DA GI LI LN N0 N1 N4 SI SM Z0 Z1 ZI QD7 QD8 QD9 QEa Qd3 QEb YC QEc Qk0 QEd KO QEe QEf Qk1 QEg QEh QEi Qd4 QEj QEk Qk2 QEl QEm Qk3 QEn QEo Qk4 QEp QEq Qk5 QEr QEs Qk6 QEt QEu QEv QEw QEx QEy YD QEz QEA QRl QEH Qd7 QEI Qk7 QEJ QEK Qr QkT HC Yz YA YB QDS KN QkU QDT Qd1 QDU QDV QDW Qd2 QDX QDY QkV QDZ QD0 QkW QD1 QD2 QkX QD3 QD4 QkY QD5 QD6 QkZ RT
 try simp only[<- dm]
 try simp only[<- dn]
 simp only[eq_self,ne_eq,implies_true,Ba,Int.toNat_natCast,Bf,Bc,decide_eq_true_eq,decide_eq_false_iff_not,true_and,and_true,beq_iff_eq,bne_iff_ne,bne_eq_false_iff_eq,beq_eq_false_iff_ne,Bool.not_eq_true',Bool.not_eq_false',exists_const,forall_const,Prod.exists]
 unfold BC at hl
 have hbody:BP true l=(decide (l.length<=1000)&&Cb true [] l):=rfl
 refine⟨fun c=>?_,fun c=>⟨⟨0,⟨Nat.zero_le _,rfl⟩,rfl⟩,fun x ⟨x1,hx⟩=>⟨fun hlt=>?_,fun hge=>?_⟩⟩⟩
 ·rw[hbody,decide_eq_false (by omega)];rfl
 ·have hlt':x<l.length:=by omega
  rw[decide_eq_true (by omega),Bool.true_and,hx,OA hlt',<- Bgp] at hbody
  obtain ⟨v1,v2,v3⟩:=h _ (C4 hlt')
  have w:IntKind.i64.wrap ((x:Int)+1)=((x+1:Nat):Int):=by rw[Bb (by omega) (by omega)];rfl
  have no:Blv (B1 (l.take x)) (l.getD x default)=false->false=BP true l:=fun h=>by rw[hbody,h];rfl
  have go:Blv (B1 (l.take x)) (l.getD x default)=true->∃y,(y<=l.length/\Cb true [] l=Cb true (B1 (List.take y l)) (List.drop y l))/\l.length-y<l.length-x/\IntKind.i64.wrap ((x:Int)+1)=(y:Int):=fun h =>
   ⟨x+1,⟨hlt',by rw[hx,OA hlt',<- Bgp,h,Bool.true_and]⟩,by omega,w⟩
  have nin:=Bht (l:=l) (x:=x) (v:=(l.getD x default).nm)
  clear hx hbody h w
  unfold Blv at no go
  generalize hs:l.getD x default=s at *
  refine⟨⟨by omega,hlt⟩,fun a0=>no ?_,fun a0=>⟨s.nd,⟨Bl _ _,v1⟩,fun a1=>no ?_,fun a1=>?_⟩⟩
  ·rw[decide_eq_false (by omega)];rfl
  ·rw[a1];simp
  have at0:decide (0<=s.at_)=true:=decide_eq_true (by omega)
  rw[at0,a1] at no go
  refine⟨fun k1=>?_,fun n1=>⟨fun k2=>?_,fun n2=>⟨fun k3=>?_,fun n3=>?_⟩⟩⟩
  ·rw[if_pos k1] at no go
   clear nin
   refine⟨fun b1=>no ?_,fun b1=>⟨fun b2=>no ?_,fun b2=>⟨fun b3=>no ?_,fun b3=>⟨s.te,⟨Bl _ _,v3⟩,fun b4=>no ?_,fun b4=>go ?_⟩⟩⟩⟩
   all_goals simp_all
  ·rw[if_neg n1,if_pos k2] at no go
   refine⟨⟨0,⟨Nat.zero_le _,fun j hj=>absurd hj (by omega)⟩,rfl⟩,fun y ⟨y1,hy⟩=>⟨fun hly=>⟨⟨by omega,by omega⟩,fun b1=>⟨⟨by omega,by omega⟩,fun b2=>no ?_,fun b2=>⟨y+1,⟨by omega,fun j hj=>?_⟩,by omega,Bb (by omega) (by omega)⟩⟩,fun b1=>⟨y+1,⟨by omega,fun j hj=>?_⟩,by omega,Bb (by omega) (by omega)⟩⟩,fun hgy=>?_⟩⟩
   ·rw[nin.2 ⟨y,by omega,by omega,b1,b2⟩];simp
   ·by_cases e':j=y
    ·rw[e'];exact fun e=>b2 e.2
    ·exact hy j (by omega)
   ·by_cases e':j=y
    ·rw[e'];exact fun e=>b1 e.1
    ·exact hy j (by omega)
   ·have hn:(B1 (l.take x)).contains s.nm=false:=by
     cases e:(B1 (l.take x)).contains s.nm with
     |false=>rfl
     |true =>
      obtain ⟨j,j1,_,j3,j4⟩:=nin.1 e
      exact (hy j (by omega) ⟨j3,j4⟩).elim
    rw[hn] at no go
    clear nin hn hy
    refine⟨fun b1=>no ?_,fun b1=>⟨fun b2=>no ?_,fun b2=>⟨s.te,⟨Bl _ _,v3⟩,fun b4=>no ?_,fun b4=>⟨fun b5=>⟨fun b6=>no ?_,fun b6=>go ?_⟩,fun b5=>go ?_⟩⟩⟩⟩
    ·rw[b1];simp
    ·rw[decide_eq_false (p:=0<=s.sl) (by omega)];simp
    ·rw[b4];simp
    ·rw[decide_eq_true (p:=3<=s.nd.cl) b5];simp[b6]
    ·rw[b1,b4,b6,decide_eq_true (p:=0<=s.sl) (by omega)];simp
    ·rw[b1,b4,decide_eq_true (p:=0<=s.sl) (by omega),decide_eq_false (p:=3<=s.nd.cl) b5];rfl
  ·rw[if_neg n1,if_neg n2,if_pos k3] at no go
   clear nin
   refine⟨fun b1=>no ?_,fun b1=>⟨s.te,⟨Bl _ _,v2⟩,fun b2=>no ?_,fun b2=>⟨fun b3=>no ?_,fun b3=>⟨fun b4=>no ?_,fun b4=>⟨fun b5=>no ?_,fun b5=>go ?_⟩⟩⟩⟩⟩
   all_goals simp_all
  ·rw[if_neg n1,if_neg n2,if_neg n3] at no
   exact no (by simp)
 ·have e:x=l.length:=by omega
  rw[e,Ww (Nat.le_refl _)] at hx
  rw[hbody,hx,decide_eq_true (by omega)];rfl
def GR(k:Nat)(m:Int):Int:=if (k:Int)<=m+1 then (k:Int) else m+1
def RDep(n:Nd)(m:Int):Prop:=CD 41 [.agg n.row2,.int .i64 m] (.int .i64 (GR (dpN n) m))
theorem Blt{l:List Nd}{i:Nat}(h:i<l.length):dpL (l.take (i+1))=max (dpL (l.take i)) (dpN (l.getD i default)):=by
 rw[B5 h,UR]
 simp only[dpL]
 omega
theorem BfC:∀a b:List Sm,dpB (a++b)=max (dpB a) (dpB b)
 | [],b=>by simp only[List.nil_append,dpB];omega
 |x::a,b=>by simp only[List.cons_append,dpB,BfC a b];omega
theorem BjA(s:Sm):dpM s=if s.kd=3 then max (dpN s.te) (dpN s.nd) else dpN s.nd:=by
 cases s
 simp only[dpM]
 rfl
theorem Bjl{l:List Sm}{i:Nat}(h:i<l.length):dpB (l.take (i+1))=max (dpB (l.take i)) (dpM (l.getD i default)):=by
 rw[B5 h,BfC]
 simp only[dpB]
 omega
theorem Bpd(n:Nd):dpN n=1+max (dpL n.ki) (dpB n.bo):=by
 cases n
 simp only[dpN]
 rfl
def BeX(p:Nd->Prop):Con:=fun k ds S=>match k with
 |41=>match ds with
  | [_,.int .i64 m]=>some (pE (β:=Nd) ds S (fun b=>.int .i64 (GR (dpN b) m)) (fun b=>isN b ds [.int .i64 m]/\0<=m/\m<=60/\p b))
  |_=>none
 |_=>none
theorem Bg1{p:Nd->Prop}(h:∀b,p b->∀m,0<=m->m<=60->RDep b m):ConOk Tryz.prog (BeX p):=by
 intro k ds S A hh
 unfold BeX at hh
 split at hh
 ·split at hh
  ·injection hh with hh;subst hh
   exact Cn fun b ⟨e,h0,h1,hb⟩=>CD.at_ (CD.isN (h b hb _ h0 h1) e) _
  ·cases hh
 ·cases hh
noncomputable def Erdp(p:Nd->Prop)(n:Nd)(m:Int):Senv:={ EC (BeX p) 65 3 [4,5,6,7,9,14,31,51] (fun _=>([],[])) with
 mg:=fun _=>2
 ann:=fun b _ S=>match b with
  |0=>some { slots:=[6,5],keep:=[0,1,2],α:=Nat×Int,st:=fun y=>([.int .i64 y.1,.int .i64 y.2],S),inv:=fun y=>y.1<=n.ki.length/\0<=y.2/\y.2=GR (dpL (n.ki.take y.1)) (m-1),mu:=fun y=>n.ki.length-y.1 }
  |2=>some { slots:=[7,5],keep:=[0,1,2],α:=Nat×Int,st:=fun y=>([.int .i64 y.1,.int .i64 y.2],S),inv:=fun y=>y.1<=n.bo.length/\0<=y.2/\y.2=GR (max (dpL n.ki) (dpB (n.bo.take y.1))) (m-1),mu:=fun y=>n.bo.length-y.1 }
  |_=>none }
def QEL(a:Nd)(b:Int):Int:=GR (dpN a) b
def HD(a:Nd):List Nd:=Nd.ki a
def VF(a:Nd):Nat:=LN (HD a)
def Qk8(a:Nat)(b:Nd)(c d:Int):Prop:=a<=VF b/\Z0<=c/\c=GR (dpL (List.take a (HD b))) (d-Z1)
def QEM(a:Nd):Int:=Nd.kd a
def QEN(a:Nd):Int:=Nd.at_ a
def QEO(a:Nd):Int:=Nd.cl a
def QEP(a:Nd):List UInt8:=Nd.tx a
def QEQ(a:Nd):Int:=Nd.pr a
def QER(a:Nd):Int:=Nd.op a
def Qd8(a:Nd):Arr:=Nd.va a
def QES(a:Nd):Int:=Arr.k (Qd8 a)
def QET(a:Nd):List Int:=Arr.sh (Qd8 a)
def Qk9(a:Nd):Nat:=LN (QET a)
def QEU(a:Nd)(b:Nat):List D:=[ZI (GI (QET a) b)]
def QEV(a:Nd):List Int:=Arr.nu (Qd8 a)
def Qla(a:Nd):Nat:=LN (QEV a)
def QEW(a:Nd)(b:Nat):List D:=[ZI (GI (QEV a) b)]
def QEX(a:Nd):List Arr:=Arr.it (Qd8 a)
def Qlb(a:Nd):Nat:=LN (QEX a)
def HE:Arr:=DA
def QEY(a:Nd)(b:Nat):List D:=Arr.row (List.getD (QEX a) b HE)
def Xw:Nd:=Nd.mk Z0 Z0 Z0 [] Z0 Z0 HE [] [] Z0 Z0 Z0
def QEZ(a:Nd)(b:Nat):List D:=Nd.row1 (List.getD (HD a) b Xw)
def Qd9(a:Nd):List Sm:=Nd.bo a
def Xx(a:Nd):Nat:=LN (Qd9 a)
def HF:Sm:=Sm.mk Z0 Z0 [] Z0 Xw Xw
def QE0(a:Nd)(b:Nat):List D:=Sm.row1 (List.getD (Qd9 a) b HF)
def QE1(a:Nd):Int:=Nd.de a
def QE2(a:Nd):Int:=Nd.sl a
def QE3(a:Nd):Int:=Nd.ss a
def Qea(a:Nat)(b:Nd):Prop:=(SM a/\(SM (QEM b)/\SM (QEN b)/\SM (QEO b)/\SM (QEP b)/\SM (QEQ b)/\SM (QER b)/\SM (QES b)/\(SM (Qk9 b)/\(∀(i:Nat),i<Qk9 b->SM (QEU b i))/\True)/\(SM (Qla b)/\(∀(i:Nat),i<Qla b->SM (QEW b i))/\True)/\(SM (Qlb b)/\(∀(i:Nat),i<Qlb b->SM (QEY b i))/\True)/\(SM (VF b)/\(∀(i:Nat),i<VF b->SM (QEZ b i))/\True)/\(SM (Xx b)/\(∀(i:Nat),i<Xx b->SM (QE0 b i))/\True)/\SM (QE1 b)/\SM (QE2 b)/\SM (QE3 b)/\True)/\True)/\True
def KR(a:Nd)(b:Nat):Nd:=List.getD (HD a) (Int.toNat (↑b:Int)) Xw
def Qec(a:Int):Int:=IntKind.wrap IntKind.i64 (a-Z1)
def YE(a:Int):List D:=[ZI (Qec a)]
def Qlc(a:Int)(b:Nd->Prop)(c:Nd):Prop:=Z0<=Qec a/\Qec a<=60/\b c
def QRo(a:Nd):D:=D.agg (Nd.row2 a)
def Qld(a:Nd)(b:Int)(c:Nat):Prop:=SM (QRo a)/\SM (ZI b)/\SM (D.ref N0 c N0)/\True
def Qed(a:Nd)(b:Int):Int:=GR (dpN a) (Qec b)
def Qle(a:Int)(b:Nd)(c:Int):Int:=if a<Qed b c then Qed b c else a
def QE7(a b:Nat)(c:Int)(d:Nd)(e f:Int)(g:Nat)(h:Nd):Prop:=(IntKind.wrap IntKind.i64 ((↑a:Int)+Z1)=(↑b:Int)/\Qle c d e=f/\True)/\Qea g h
def Qee(a:Nat)(b:Nd)(c d:Int):Prop:=a<=Xx b/\Z0<=c/\c=GR (max (dpL (HD b)) (dpB (List.take a (Qd9 b)))) (d-Z1)
def Qef(a:Nd):Int:=(NI (Xx a))
def Qlf(a:Nd)(b:Nat):Sm:=List.getD (Qd9 a) (Int.toNat (↑b:Int)) HF
def KS(a:Nd)(b:Nat):Nd:=Sm.nd (Qlf a b)
def KT(a:Nd)(b:Nat):Nd:=Sm.te (Qlf a b)
def QFe(a:Nd)(b c:Nat):Prop:=Xx a-b<Xx a-c
theorem Bkk(p:Nd->Prop)(n:Nd)(m:Int)(h0:0<=m)(h1:m<=60)(hn:n.sm)(h:∀b,p b->∀m,0<=m->m<=60->RDep b m)(hk:∀b∈n.ki,p b)(hb:∀s∈n.bo,p s.te/\p s.nd):RDep n m:=by
 refine Bh (A:=sC _ _) (x:=()) (E:=Erdp p n m) (eOk (Bg1 h) rfl) Tryz.func41 rfl (by kernel_rfl) rfl (by simp[sC,Erdp,EC,E0]) ?_
 refine Bj (T :=
  ∀(x:Nat),True->ifB (decide (m<=Z0)) (RT (Z1=QEL n m)) ((∃(x_1:Nat×Int),Qk8 x_1.1 n x_1.2 m/\(Z0=(NI x_1.1)/\Z0=x_1.2/\True)/\Qea x n)/\∀(x_1:Nat×Int),Qk8 x_1.1 n x_1.2 m->SM x/\ifB (decide ((NI x_1.1)<(NI (VF n)))) (SM x/\Be (Z0<=(NI x_1.1)/\(NI x_1.1)<(NI (VF n))) (∃(x_2:Nd),(isN x_2 (D.agg (Nd.rowE (KR n x_1.1))::YE m) (YE m)/\Qlc m p x_2)/\∀(y:Unit),True->Qld n m x/\∃(y:Nat×Int),Qk8 y.1 n y.2 m/\VF n-y.1<VF n-x_1.1/\QE7 x_1.1 y.1 x_1.2 x_2 m y.2 x n)) ((∃(x_2:Nat×Int),Qee x_2.1 n x_2.2 m/\(Z0=(NI x_2.1)/\x_1.2=x_2.2/\True)/\Qea x n)/\∀(x_2:Nat×Int),Qee x_2.1 n x_2.2 m->SM x/\ifB (decide ((NI x_2.1)<Qef n)) (SM x/\Be (Z0<=(NI x_2.1)/\(NI x_2.1)<Qef n) (∃(x_3:Nd),(isN x_3 (D.agg (Nd.rowE (KS n x_2.1))::YE m) (YE m)/\Qlc m p x_3)/\∀(y:Unit),True->SM x/\Be (Z0<=(NI x_2.1)/\(NI x_2.1)<Qef n) (ifB (Sm.kd (Qlf n x_2.1)==3) (SM x/\Be (Z0<=(NI x_2.1)/\(NI x_2.1)<Qef n) (∃(x_4:Nd),(isN x_4 (D.agg (Nd.rowE (KT n x_2.1))::YE m) (YE m)/\Qlc m p x_4)/\∀(y:Unit),True->Qld n m x/\∃(y:Nat×Int),Qee y.1 n y.2 m/\QFe n y.1 x_2.1/\(IntKind.wrap IntKind.i64 ((NI x_2.1)+Z1)=(NI y.1)/\(if Qle x_2.2 x_3 m<Qed x_4 m then Qed x_4 m else Qle x_2.2 x_3 m)=y.2/\True)/\Qea x n)) (Qld n m x/\∃(y:Nat×Int),Qee y.1 n y.2 m/\QFe n y.1 x_2.1/\QE7 x_2.1 y.1 x_2.2 x_3 m y.2 x n)))) (RT (IntKind.wrap IntKind.i64 (x_2.2+Z1)=QEL n m))))) (by kernel_rfl) ?_
 delta DA GI LN N0 N1 N4 NI SI SM Z0 Z1 ZI QEL HD Qd8 QES QET Qk9 QEU QEV Qla QEW QEX Qlb VF HE QEY Xw QEZ Qd9 Xx HF QE0 QE1 QE2 Qk8 QE3 Qea KR Qec QEM YE Qlc QRo Qld Qed Qle QE7 Qee Qef Qlf QEN KS KT QEO QFe QEP QEQ QER RT
 try simp only[<- dm]
 try simp only[<- dn]
 simp only[eq_self,ne_eq,implies_true,Ba,Int.toNat_natCast,Bf,Bc,decide_eq_true_eq,decide_eq_false_iff_not,true_and,and_true,beq_iff_eq,bne_iff_ne,bne_eq_false_iff_eq,beq_eq_false_iff_ne,Bool.not_eq_true',Bool.not_eq_false',exists_const,forall_const,Prod.exists]
 have hz:=Bpd n
 have k1:=Cl (Cc hn).2.1
 have k2:=Cl (Cc hn).2.2
 unfold maxLen at k1 k2
 refine⟨fun h2=>?_,fun h2=>?_⟩
 ·unfold GR;split<;>omega
 have w:IntKind.i64.wrap (m-1)=m-1:=Bb (by omega) (by omega)
 rw[w]
 refine⟨⟨0,0,⟨Nat.zero_le _,Int.le_refl _,?_⟩,rfl,rfl⟩,?_⟩
 ·simp only[List.take_zero,dpL];unfold GR;split<;>omega
 rintro ⟨i,d⟩ ⟨i1,d0,hd⟩
 simp only at i1 d0 hd ⊢
 refine⟨fun hlt=>?_,fun hge=>?_⟩
 ·have hlt':i<n.ki.length:=by omega
  have ht:=Blt hlt'
  refine⟨⟨by omega,hlt⟩,n.ki.getD i default,⟨Bl _ _,by omega,by omega,hk _ (B0 hlt')⟩,i+1,_,⟨hlt',?_,?_⟩,by omega,Bb (by omega) (by omega),rfl⟩
  ·unfold GR;split<;>(try split)<;>omega
  ·rw[ht]
   unfold GR at hd ⊢
   split at hd<;>split<;>(try split)<;>(try split)<;>omega
 ·have e:i=n.ki.length:=by omega
  rw[e,List.take_length] at hd
  refine⟨⟨0,d,⟨Nat.zero_le _,d0,?_⟩,rfl,rfl⟩,?_⟩
  ·simp only[List.take_zero,dpB,Nat.max_zero];exact hd
  rintro ⟨j,c⟩ ⟨j1,c0,hc⟩
  simp only at j1 c0 hc ⊢
  refine⟨fun hlt=>?_,fun hge=>?_⟩
  ·have hlt':j<n.bo.length:=by omega
   have ht:=Bjl hlt'
   have hs:=BjA (n.bo.getD j default)
   obtain ⟨q1,q2⟩:=hb _ (C4 hlt')
   have wj:IntKind.i64.wrap ((j:Int)+1)=((j+1:Nat):Int):=by rw[Bb (by omega) (by omega)];rfl
   refine⟨⟨by omega,hlt⟩,(n.bo.getD j default).nd,⟨Bl _ _,by omega,by omega,q2⟩,⟨by omega,hlt⟩,fun h3=>⟨⟨by omega,hlt⟩,(n.bo.getD j default).te,⟨Bl _ _,by omega,by omega,q1⟩,j+1,_,⟨hlt',?_,?_⟩,by omega,wj,rfl⟩,fun h3=>⟨j+1,_,⟨hlt',?_,?_⟩,by omega,wj,rfl⟩⟩
   ·generalize dpN (n.bo.getD j default).nd=u
    generalize dpN (n.bo.getD j default).te=v
    unfold GR
    repeat' split
    all_goals omega
   ·rw[ht,hs,if_pos h3]
    generalize dpN (n.bo.getD j default).nd=u
    generalize dpN (n.bo.getD j default).te=v
    generalize dpB (List.take j n.bo)=t at hc
    generalize dpL n.ki=z at hc
    clear hs ht
    unfold GR at hc ⊢
    split at hc<;>repeat' split
    all_goals omega
   ·generalize dpN (n.bo.getD j default).nd=u
    unfold GR
    repeat' split
    all_goals omega
   ·rw[ht,hs,if_neg h3]
    generalize dpN (n.bo.getD j default).nd=u
    generalize dpB (List.take j n.bo)=t at hc
    generalize dpL n.ki=z at hc
    clear hs ht
    unfold GR at hc ⊢
    split at hc<;>repeat' split
    all_goals omega
  ·have e2:j=n.bo.length:=by omega
   rw[e2,List.take_length] at hc
   have cb:c<=60:=by unfold GR at hc;split at hc<;>omega
   rw[Bb (by omega) (by omega),hc,hz]
   unfold GR
   split<;>split<;>omega
theorem BeE(n:Nd)(hn:n.sm)(m:Int)(h0:0<=m)(h1:m<=60):RDep n m :=
 Bkk (fun b=>b.sm/\SizeOf.sizeOf b<SizeOf.sizeOf n) n m h0 h1 hn (fun b hb m h0 h1=>BeE b hb.1 m h0 h1) (fun b hb=>⟨EW hn (BT hb),Nd.size_kid hb⟩) fun s hs =>
  have h2:=Cm (Gy hn s hs)
  have e:=Nd.size_stmt hs
  have e1:=Sm.size_te s
  have e2:=Sm.size_nd s
  ⟨⟨h2.1,by omega⟩,⟨h2.2,by omega⟩⟩
termination_by SizeOf.sizeOf n
decreasing_by exact hb.2
def BU(k:Nat)(m:Int):Int:=if (k:Int)<=m+1 then (k:Int) else m+1
def RCnt(n:Nd)(m:Int):Prop:=CD 65 [.agg n.row2,.int .i64 m] (.int .i64 (BU (szN n) m))
def RCns(l:List Sm)(m:Int):Prop:=CD 42 [gsl 34 Sm.row1 l,.int .i64 m] (.int .i64 (BU (szB l) m))
theorem BaP:∀a b:List Sm,szB (a++b)=szB a+szB b
 | [],b=>by simp only[List.nil_append,szB];omega
 |x::a,b=>by simp only[List.cons_append,szB,BaP a b];omega
theorem BjF{l:List Sm}{i:Nat}(h:i<l.length):szB (l.take (i+1))=szB (l.take i)+szM (l.getD i default):=by
 rw[B5 h,BaP]
 simp only[szB]
 omega
theorem BgV{l:List Nd}{i:Nat}(h:i<l.length):szL (l.take (i+1))=szL (l.take i)+szN (l.getD i default):=by
 rw[B5 h,Mb]
 simp only[szL]
 omega
theorem BlM(l:List Nd)(i:Nat):szL (l.take i)<=szL l:=by
 have h:=Mb (l.take i) (l.drop i)
 rw[List.take_append_drop] at h
 omega
theorem BlD(l:List Sm)(i:Nat):szB (l.take i)<=szB l:=by
 have h:=BaP (l.take i) (l.drop i)
 rw[List.take_append_drop] at h
 omega
theorem BmG(s:Sm):szM s=if s.kd=3 then szN s.te+szN s.nd else szN s.nd:=by
 cases s
 simp only[szM]
 rfl
theorem Bmy(n:Nd):szN n=1+szL n.ki+szB n.bo:=by
 cases n
 simp only[szN]
 rfl
def Bbv(p:Nd->Prop):Con:=fun k ds S=>match k with
 |65=>match ds with
  | [_,.int .i64 m]=>some (pE (β:=Nd) ds S (fun b=>.int .i64 (BU (szN b) m)) (fun b=>isN b ds [.int .i64 m]/\0<=m/\m<=16384/\p b))
  |_=>none
 |_=>none
theorem BaG{p:Nd->Prop}(h:∀b,p b->∀m,0<=m->m<=16384->RCnt b m):ConOk Tryz.prog (Bbv p):=by
 intro k ds S A hh
 unfold Bbv at hh
 split at hh
 ·split at hh
  ·injection hh with hh;subst hh
   exact Cn fun b ⟨e,h0,h1,hb⟩=>CD.at_ (CD.isN (h b hb _ h0 h1) e) _
  ·cases hh
 ·cases hh
def Bfg(p:Nd->Prop)(l:List Sm):Con:=fun k ds S=>match k with
 |42=>match ds with
  | [_,.int .i64 m]=>some (pA ds S (.int .i64 (BU (szB l) m)) (wkL ds [gsl 34 Sm.row1 l,.int .i64 m]/\-1<=m/\m<=16384))
  |_=>none
 |k=>Bbv p k ds S
theorem Bid{p:Nd->Prop}{l:List Sm}(h:∀b,p b->∀m,0<=m->m<=16384->RCnt b m)(h2:∀m,-1<=m->m<=16384->RCns l m):ConOk Tryz.prog (Bfg p l):=by
 intro k ds S A hh
 unfold Bfg at hh
 split at hh
 ·split at hh
  ·injection hh with hh;subst hh
   exact Bo fun ⟨e,h0,h1⟩=>CD.at_ (CD.wk (h2 _ h0 h1) e) _
  ·cases hh
 ·exact BaG h _ _ _ _ hh
noncomputable def Ercs(p:Nd->Prop)(l:List Sm)(m:Int):Senv:={ EC (Bbv p) 56 2 [4,5,6,15,39] (fun _=>([],[])) with
 mg:=fun _=>2
 ann:=fun b _ S=>match b with
  |0=>some { slots:=[6,5],keep:=[0,1],α:=Nat×Int,st:=fun y=>([.int .i64 y.1,.int .i64 y.2],S),inv:=fun y=>y.1<=l.length/\y.2=BU (szB (l.take y.1)) m,mu:=fun y=>l.length-y.1 }
  |_=>none }
def Qei(a:Nat)(b:List Sm)(c d:Int):Prop:=a<=LN b/\c=BU (szB (List.take a b)) d
def HG:Arr:=DA
def YF:Nd:=Nd.mk Z0 Z0 Z0 [] Z0 Z0 HG [] [] Z0 Z0 Z0
def YG:Sm:=Sm.mk Z0 Z0 [] Z0 YF YF
def Qlg(a:List Sm)(b:Nat):Sm:=List.getD a (Int.toNat (↑b:Int)) YG
def KU(a:List Sm)(b:Nat):Nd:=Sm.nd (Qlg a b)
def Qek(a:Int)(b:Nd)(c:Int):Int:=IntKind.wrap IntKind.i64 (a+BU (szN b) (IntKind.wrap IntKind.i64 (c-a)))
def KV(a:List Sm)(b:Nat):Nd:=Sm.te (Qlg a b)
def Qem(a b:Int)(c:Nd):Int:=IntKind.wrap IntKind.i64 (a-Qek b c a)
def QFl(a b:Int)(c:Nd):List D:=[ZI (Qem a b c)]
def YH(a:List Sm)(b:Nat):Sm:=List.getD a b YG
def QRB(a:List Sm):D:=D.sl 34 (LN a) (fun i=>(Sm.row1 (YH a i))) Mode.any
def QFs(a:List Sm)(b:Int):Prop:=SM (QRB a)/\SM (ZI b)/\True
def QFt(a:List Sm)(b:Int)(c:Nat)(d:Int)(e:Nd):Prop:=QFs a b/\∃(y:Nat×Int),Qei y.1 a y.2 b/\LN a-y.1<LN a-c/\(IntKind.wrap IntKind.i64 ((↑c:Int)+Z1)=(NI y.1)/\Qek d e b=y.2/\True)/\True/\True
def QFu(a:Int):Int:=IntKind.wrap IntKind.i64 ((if a<(-1:Int) then (-1:Int) else a)+Z1)
def QFv(a b:Int)(c:List Sm):Prop:=RT ((if QFu a<b then QFu a else b)=BU (szB c) a)
theorem Bcm(p:Nd->Prop)(l:List Sm)(m:Int)(h0:-1<=m)(h1:m<=16384)(hl:l.length<=BC)(h:∀b,p b->∀m,0<=m->m<=16384->RCnt b m)(hb:∀s∈l,p s.te/\p s.nd):RCns l m:=by
 refine Bh (A:=sC _ _) (x:=()) (E:=Ercs p l m) (eOk (BaG h) rfl) Tryz.func42 rfl (by kernel_rfl) rfl (by simp[sC,Ercs,EC,E0]) ?_
 refine Bj (T :=
  (∃(x:Nat×Int),Qei x.1 l x.2 m/\(Z0=(NI x.1)/\Z0=x.2/\True)/\True/\True)/\∀(x:Nat×Int),Qei x.1 l x.2 m->ifB (decide ((NI x.1)<(LI l))) (ifB (decide (x.2<=m)) (Be (Z0<=(NI x.1)/\(NI x.1)<(LI l)) (∃(x_1:Nd),(isN x_1 [D.agg (Nd.rowE (KU l x.1)),ZI (IntKind.wrap IntKind.i64 (m-x.2))] [ZI (IntKind.wrap IntKind.i64 (m-x.2))]/\Z0<=IntKind.wrap IntKind.i64 (m-x.2)/\IntKind.wrap IntKind.i64 (m-x.2)<=16384/\p x_1)/\∀(y:Unit),True->Be (Z0<=(NI x.1)/\(NI x.1)<(LI l)) (ifB (Sm.kd (Qlg l x.1)==3) (ifB (decide (Qek x.2 x_1 m<=m)) (Be (Z0<=(NI x.1)/\(NI x.1)<(LI l)) (∃(x_2:Nd),(isN x_2 (D.agg (Nd.rowE (KV l x.1))::QFl m x.2 x_1) (QFl m x.2 x_1)/\Z0<=Qem m x.2 x_1/\Qem m x.2 x_1<=16384/\p x_2)/\∀(y:Unit),True->QFs l m/\∃(y:Nat×Int),Qei y.1 l y.2 m/\LN l-y.1<LN l-x.1/\(IntKind.wrap IntKind.i64 ((NI x.1)+Z1)=(NI y.1)/\IntKind.wrap IntKind.i64 (Qek x.2 x_1 m+BU (szN x_2) (Qem m x.2 x_1))=y.2/\True)/\True/\True)) (QFt l m x.1 x.2 x_1)) (QFt l m x.1 x.2 x_1)))) (QFv m x.2 l)) (QFv m x.2 l)) (by kernel_rfl) ?_
 delta DA GI LI LN N1 N4 NI SI SM Z0 Z1 ZI Qei HG Qek KV YF Qem QFl YH YG QRB QFs QFt Qlg QFu QFv KU RT
 try simp only[<- dm]
 try simp only[<- dn]
 simp only[eq_self,ne_eq,implies_true,Ba,Int.toNat_natCast,Bf,Bc,decide_eq_true_eq,decide_eq_false_iff_not,true_and,and_true,beq_iff_eq,bne_iff_ne,bne_eq_false_iff_eq,beq_eq_false_iff_ne,Bool.not_eq_true',Bool.not_eq_false',exists_const,forall_const,Prod.exists]
 unfold BC at hl
 have fin:∀c:Int,c=BU (szB l) m->(if IntKind.i64.wrap ((if m < -1 then -1 else m)+1)<c then IntKind.i64.wrap ((if m < -1 then -1 else m)+1) else c)=BU (szB l) m:=fun c hc=>by
  rw[if_neg (show ¬m < -1 by omega),Bb (by omega) (by omega),if_neg ?_,hc]
  rw[hc];unfold BU;split<;>omega
 refine⟨⟨0,0,⟨Nat.zero_le _,?_⟩,rfl,rfl⟩,?_⟩
 ·simp only[List.take_zero,szB];unfold BU;split<;>omega
 rintro ⟨i,c⟩ ⟨i1,hc⟩
 simp only at i1 hc ⊢
 have hmono:=BlD l i
 have c0:0<=c/\c<=m+1:=by rw[hc];unfold BU;split<;>omega
 refine⟨fun hlt=>⟨fun hle=>?_,fun hgt=>fin c ?_⟩,fun hge=>fin c ?_⟩
 ·have hlt':i<l.length:=by omega
  have ht:=BjF hlt'
  have hs:=BmG (l.getD i default)
  obtain ⟨q1,q2⟩:=hb _ (C4 hlt')
  have w1:IntKind.i64.wrap (m-c)=m-c:=Bb (by omega) (by omega)
  have wi:IntKind.i64.wrap ((i:Int)+1)=((i+1:Nat):Int):=by rw[Bb (by omega) (by omega)];rfl
  have hu:0<=BU (szN (l.getD i default).nd) (m-c)/\BU (szN (l.getD i default).nd) (m-c)<=m-c+1:=by unfold BU;split<;>omega
  have w2:IntKind.i64.wrap (c+BU (szN (l.getD i default).nd) (m-c))=c+BU (szN (l.getD i default).nd) (m-c):=Bb (by omega) (by omega)
  have e1:c+BU (szN (l.getD i default).nd) (m-c)=BU (szB (l.take i)+szN (l.getD i default).nd) m:=by
   rw[hc] at hle ⊢
   unfold BU at hle ⊢
   split at hle<;>repeat' split
   all_goals omega
  rw[w1]
  refine⟨⟨by omega,hlt⟩,(l.getD i default).nd,⟨Bl _ _,by omega,by omega,q2⟩,⟨by omega,hlt⟩,fun h3=>?_,fun h3=>⟨i+1,_,⟨hlt',?_⟩,by omega,wi,rfl⟩⟩
  ·rw[w2,if_pos h3] at *
   refine⟨fun h4=>?_,fun h4=>⟨i+1,_,⟨hlt',?_⟩,by omega,wi,rfl⟩⟩
   ·have w3:IntKind.i64.wrap (m-(c+BU (szN (l.getD i default).nd) (m-c)))=m-(c+BU (szN (l.getD i default).nd) (m-c)):=Bb (by omega) (by omega)
    rw[w3]
    refine⟨⟨by omega,hlt⟩,(l.getD i default).te,⟨Bl _ _,by omega,by omega,q1⟩,i+1,_,⟨hlt',?_⟩,by omega,wi,rfl⟩
    have hv:0<=BU (szN (l.getD i default).te) (m-(c+BU (szN (l.getD i default).nd) (m-c)))/\BU (szN (l.getD i default).te) (m-(c+BU (szN (l.getD i default).nd) (m-c)))<=m-(c+BU (szN (l.getD i default).nd) (m-c))+1:=by
     generalize c+BU (szN (l.getD i default).nd) (m-c)=z at *
     unfold BU;split<;>omega
    rw[Bb (by omega) (by omega),ht,hs,e1]
    rw[e1] at h4
    generalize szB (l.take i)=t at *
    generalize szN (l.getD i default).nd=u at *
    generalize szN (l.getD i default).te=v at *
    clear e1 w1 w2 w3 hu hv hc c0 ht hs
    unfold BU at h4 ⊢
    split at h4<;>repeat' split
    all_goals omega
   ·rw[ht,hs,e1]
    rw[e1] at h4
    generalize szB (l.take i)=t at *
    generalize szN (l.getD i default).nd=u at *
    generalize szN (l.getD i default).te=v at *
    clear e1 w1 w2 hu hc c0 ht hs
    unfold BU at h4 ⊢
    split at h4<;>repeat' split
    all_goals omega
  ·rw[w2,ht,hs,if_neg h3,e1]
 ·rw[hc] at hgt ⊢
  unfold BU at hgt ⊢
  split at hgt<;>repeat' split
  all_goals omega
 ·have e:i=l.length:=by omega
  rw[e,List.take_length] at hc
  exact hc
noncomputable def Erct(p:Nd->Prop)(n:Nd)(m:Int):Senv:={ EC (Bfg p n.bo) 41 3 [4,5,6,16] (fun _=>([],[])) with
 mg:=fun _=>2
 ann:=fun b _ S=>match b with
  |0=>some { slots:=[6,5],keep:=[0,1,2],α:=Nat×Int,st:=fun y=>([.int .i64 y.1,.int .i64 y.2],S),inv:=fun y=>y.1<=n.ki.length/\y.2=BU (1+szL (n.ki.take y.1)) m,mu:=fun y=>n.ki.length-y.1 }
  |_=>none }
def Qep(a:Nd):List Nd:=Nd.ki a
def VG(a:Nd):Nat:=LN (Qep a)
def Qlh(a:Nat)(b:Nd)(c d:Int):Prop:=a<=VG b/\c=BU (N1+szL (List.take a (Qep b))) d
def QFw(a:Nd):Int:=Nd.kd a
def QFx(a:Nd):Int:=Nd.at_ a
def QFy(a:Nd):Int:=Nd.cl a
def QFz(a:Nd):List UInt8:=Nd.tx a
def QFA(a:Nd):Int:=Nd.pr a
def QFB(a:Nd):Int:=Nd.op a
def Qeq(a:Nd):Arr:=Nd.va a
def QFC(a:Nd):Int:=Arr.k (Qeq a)
def QFD(a:Nd):List Int:=Arr.sh (Qeq a)
def Qli(a:Nd):Nat:=LN (QFD a)
def QFE(a:Nd)(b:Nat):List D:=[ZI (GI (QFD a) b)]
def QFF(a:Nd):List Int:=Arr.nu (Qeq a)
def Qlj(a:Nd):Nat:=LN (QFF a)
def QFG(a:Nd)(b:Nat):List D:=[ZI (GI (QFF a) b)]
def QFH(a:Nd):List Arr:=Arr.it (Qeq a)
def Qlk(a:Nd):Nat:=LN (QFH a)
def Qll:Arr:=DA
def QFI(a:Nd)(b:Nat):List D:=Arr.row (List.getD (QFH a) b Qll)
def HH:Nd:=Nd.mk Z0 Z0 Z0 [] Z0 Z0 Qll [] [] Z0 Z0 Z0
def QFJ(a:Nd)(b:Nat):List D:=Nd.row1 (List.getD (Qep a) b HH)
def Qlm(a:Nd):List Sm:=Nd.bo a
def Qln(a:Nd):Nat:=LN (Qlm a)
def QFK:Sm:=Sm.mk Z0 Z0 [] Z0 HH HH
def QFL(a:Nd)(b:Nat):List D:=Sm.row1 (List.getD (Qlm a) b QFK)
def QFM(a:Nd):Int:=Nd.de a
def QFN(a:Nd):Int:=Nd.sl a
def QFO(a:Nd):Int:=Nd.ss a
def QFP(a:Nat)(b:Nd):Prop:=(SM a/\(SM (QFw b)/\SM (QFx b)/\SM (QFy b)/\SM (QFz b)/\SM (QFA b)/\SM (QFB b)/\SM (QFC b)/\(SM (Qli b)/\(∀(i:Nat),i<Qli b->SM (QFE b i))/\True)/\(SM (Qlj b)/\(∀(i:Nat),i<Qlj b->SM (QFG b i))/\True)/\(SM (Qlk b)/\(∀(i:Nat),i<Qlk b->SM (QFI b i))/\True)/\(SM (VG b)/\(∀(i:Nat),i<VG b->SM (QFJ b i))/\True)/\(SM (Qln b)/\(∀(i:Nat),i<Qln b->SM (QFL b i))/\True)/\SM (QFM b)/\SM (QFN b)/\SM (QFO b)/\True)/\True)/\True
def KY(a:Nd)(b:Nat):Nd:=List.getD (Qep a) (Int.toNat (↑b:Int)) HH
def Xy(a b:Int):Int:=IntKind.wrap IntKind.i64 (a-b)
def Qlo(a b:Int):List D:=[ZI (Xy a b)]
def QFT(a:Nd):D:=D.sl 34 (Qln a) (fun i=>QFL a i) Mode.any
def QRE(a:Nd):D:=D.agg (Nd.row2 a)
def QFU(a:Nd)(b c:Int):List D:=QFT a::Qlo b c
def QFV(a:Int)(b:Nd)(c:Int):Int:=IntKind.wrap IntKind.i64 (a+BU (szB (Qlm b)) (Xy c a))
def QFW(a:Nat)(b:Nd)(c d:Int):Prop:=SM a/\∃(x:Unit),(wkL (QFU b c d) (QFU b c d)/\(-1:Int)<=Xy c d/\Xy c d<=16384)/\∀(y:Unit),True->RT ((if IntKind.wrap IntKind.i64 (c+Z1)<QFV d b c then IntKind.wrap IntKind.i64 (c+Z1) else QFV d b c)=BU (szN b) c)
theorem BiI(p:Nd->Prop)(n:Nd)(m:Int)(h0:0<=m)(h1:m<=16384)(hn:n.sm)(h:∀b,p b->∀m,0<=m->m<=16384->RCnt b m)(hk:∀b∈n.ki,p b)(hb:∀s∈n.bo,p s.te/\p s.nd):RCnt n m:=by
 refine Bh (A:=sC _ _) (x:=()) (E:=Erct p n m) (eOk (Bid h fun m h0 h1=>Bcm p n.bo m h0 h1 (Cc hn).2.2 h hb) rfl) Tryz.func65 rfl (by kernel_rfl) rfl (by simp[sC,Erct,EC,E0]) ?_
 refine Bj (T :=
  ∀(x:Nat),True->(∃(x_1:Nat×Int),Qlh x_1.1 n x_1.2 m/\(Z0=(NI x_1.1)/\Z1=x_1.2/\True)/\QFP x n)/\∀(x_1:Nat×Int),Qlh x_1.1 n x_1.2 m->SM x/\ifB (decide ((NI x_1.1)<(NI (VG n)))) (ifB (decide (x_1.2<=m)) (SM x/\Be (Z0<=(NI x_1.1)/\(NI x_1.1)<(NI (VG n))) (∃(x_2:Nd),(isN x_2 (D.agg (Nd.rowE (KY n x_1.1))::Qlo m x_1.2) (Qlo m x_1.2)/\Z0<=Xy m x_1.2/\Xy m x_1.2<=16384/\p x_2)/\∀(y:Unit),True->(SM (QRE n)/\SM (ZI m)/\SM (D.ref N0 x N0)/\True)/\∃(y:Nat×Int),Qlh y.1 n y.2 m/\VG n-y.1<VG n-x_1.1/\(IntKind.wrap IntKind.i64 ((NI x_1.1)+Z1)=(NI y.1)/\IntKind.wrap IntKind.i64 (x_1.2+BU (szN x_2) (Xy m x_1.2))=y.2/\True)/\QFP x n)) (QFW x n m x_1.2)) (QFW x n m x_1.2)) (by kernel_rfl) ?_
 delta DA GI LN N0 N1 N4 NI SI SM Z0 Z1 ZI Qep VG Qlh QFw QFx QFy QFz QFA QFB Qeq QFC QFD Qli QFE QFF Qlj QFG QFH Qlk Qll QFI HH QFJ Qlm Qln QFK QFL QFM QFN QFO QFP KY Xy Qlo QFT QRE QFU QFV QFW RT
 try simp only[<- dm]
 try simp only[<- dn]
 simp only[eq_self,ne_eq,implies_true,Ba,Int.toNat_natCast,Bf,Bc,decide_eq_true_eq,decide_eq_false_iff_not,true_and,and_true,beq_iff_eq,bne_iff_ne,bne_eq_false_iff_eq,beq_eq_false_iff_ne,Bool.not_eq_true',Bool.not_eq_false',exists_const,forall_const,Prod.exists]
 have k1:=Cl (Cc hn).2.1
 unfold maxLen at k1
 have hz:=Bmy n
 have fin:∀c:Int,0<=c/\c<=m+1->c=BU (1+szL n.ki) m->(wkL [D.sl 34 n.bo.length (fun i=>(n.bo.getD i default).row1) Mode.any,.int .i64 (IntKind.i64.wrap (m-c))] [D.sl 34 n.bo.length (fun i=>(n.bo.getD i default).row1) Mode.any,.int .i64 (IntKind.i64.wrap (m-c))]/\-1<=IntKind.i64.wrap (m-c)/\IntKind.i64.wrap (m-c)<=16384)/\(if IntKind.i64.wrap (m+1)<IntKind.i64.wrap (c+BU (szB n.bo) (IntKind.i64.wrap (m-c))) then IntKind.i64.wrap (m+1) else IntKind.i64.wrap (c+BU (szB n.bo) (IntKind.i64.wrap (m-c))))=BU (szN n) m:=fun c c0 hc=>by
  have w1:IntKind.i64.wrap (m-c)=m-c:=Bb (by omega) (by omega)
  have w2:IntKind.i64.wrap (m+1)=m+1:=Bb (by omega) (by omega)
  have hv:0<=BU (szB n.bo) (m-c)/\BU (szB n.bo) (m-c)<=m-c+1:=by unfold BU;split<;>omega
  rw[w1,w2,Bb (show (-9223372036854775808:Int)<=c+BU (szB n.bo) (m-c) by omega) (by omega)]
  refine⟨⟨Bg _,by omega,by omega⟩,?_⟩
  rw[if_neg (by omega),hz]
  clear hv w1 w2 c0
  generalize szL n.ki=t at *
  generalize szB n.bo=u at *
  rw[hc]
  unfold BU
  repeat' split
  all_goals omega
 refine⟨⟨0,1,⟨Nat.zero_le _,?_⟩,rfl,rfl⟩,?_⟩
 ·simp only[List.take_zero,szL];unfold BU;split<;>omega
 rintro ⟨i,c⟩ ⟨i1,hc⟩
 simp only at i1 hc ⊢
 have hmono:=BlM n.ki i
 have c0:0<=c/\c<=m+1:=by rw[hc];unfold BU;split<;>omega
 refine⟨fun hlt=>⟨fun hle=>?_,fun hgt=>fin c c0 ?_⟩,fun hge=>fin c c0 ?_⟩
 ·have hlt':i<n.ki.length:=by omega
  have ht:=BgV hlt'
  have w1:IntKind.i64.wrap (m-c)=m-c:=Bb (by omega) (by omega)
  have hu:0<=BU (szN (n.ki.getD i default)) (m-c)/\BU (szN (n.ki.getD i default)) (m-c)<=m-c+1:=by unfold BU;split<;>omega
  rw[w1]
  refine⟨⟨by omega,hlt⟩,n.ki.getD i default,⟨Bl _ _,by omega,by omega,hk _ (B0 hlt')⟩,i+1,_,⟨hlt',?_⟩,by omega,by rw[Bb (by omega) (by omega)];rfl,rfl⟩
  rw[Bb (by omega) (by omega),ht]
  clear hu w1 c0
  generalize szL (n.ki.take i)=t at *
  generalize szN (n.ki.getD i default)=u at *
  rw[hc] at hle ⊢
  unfold BU at hle ⊢
  split at hle<;>repeat' split
  all_goals omega
 ·rw[hc] at hgt ⊢
  unfold BU at hgt ⊢
  split at hgt<;>repeat' split
  all_goals omega
 ·have e:i=n.ki.length:=by omega
  rw[e,List.take_length] at hc
  exact hc
theorem BeG(n:Nd)(hn:n.sm)(m:Int)(h0:0<=m)(h1:m<=16384):RCnt n m :=
 BiI (fun b=>b.sm/\SizeOf.sizeOf b<SizeOf.sizeOf n) n m h0 h1 hn (fun b hb m h0 h1=>BeG b hb.1 m h0 h1) (fun b hb=>⟨EW hn (BT hb),Nd.size_kid hb⟩) fun s hs =>
  have h2:=Cm (Gy hn s hs)
  have e:=Nd.size_stmt hs
  have e1:=Sm.size_te s
  have e2:=Sm.size_nd s
  ⟨⟨h2.1,by omega⟩,⟨h2.2,by omega⟩⟩
termination_by SizeOf.sizeOf n
decreasing_by exact hb.2
theorem Bmf(l:List Sm)(hl:l.length<=BC)(hs:∀s∈l,s.sm)(m:Int)(h0:-1<=m)(h1:m<=16384):RCns l m :=
 Bcm Nd.sm l m h0 h1 hl (fun b hb m h0 h1=>BeG b hb m h0 h1) fun s h=>Cm (hs s h)
theorem Ud(n:Nd)(ho:n.ok)(hn:n.sm):RVal n :=
 BjI n hn (Ti ho) (Bdm n.bo (Cc hn).2.2 fun s hs =>
  have h1:=Cq (GK ho s hs)
  have h2:=Cm (Gy hn s hs)
  ⟨Ud s.nd h1.2 h2.2,Ud s.te h1.1 h2.1,h1.1,h2.1⟩) fun b hb=>Ud b (Oc ho b hb) (EW hn (BT hb))
termination_by SizeOf.sizeOf n
decreasing_by
 ·have:=Nd.size_stmt hs
  have:=Sm.size_nd s
  omega
 ·have:=Nd.size_stmt hs
  have:=Sm.size_te s
  omega
 ·exact Nd.size_kid hb
theorem BmY(l:List Sm)(hl:l.length<=BC)(ho:∀s∈l,s.ok)(hs:∀s∈l,s.sm):RBdy l :=
 Bdm l hl fun s h=>⟨Ud s.nd (Cq (ho s h)).2 (Cm (hs s h)).2,Ud s.te (Cq (ho s h)).1 (Cm (hs s h)).1,(Cq (ho s h)).1,(Cm (hs s h)).1⟩
def BeJ(l:List Sm):Con:=fun k ds S=>match k with
 |69=>match ds with
  | [_,.int .i64 q]=>some (pA ds S (.bool (Ep l q)) (wkL ds [gsl 34 Sm.row1 l,.int .i64 q]))
  |_=>none
 |_=>none
theorem BhF{l:List Sm}(hl:l.length<=maxLen)(h:∀s∈l,s.sm):ConOk Tryz.prog (BeJ l):=by
 intro k ds S A hh
 unfold BeJ at hh
 split at hh
 ·split at hh
  ·injection hh with hh;subst hh
   exact Bo fun e=>CD.at_ (CD.wk (Bkp _ l hl h) e) _
  ·cases hh
 ·cases hh
noncomputable def Erou(l:List Sm):Senv:={ EC (BeJ l) 39 1 [2,3,7,15] (fun _=>([],[])) with
 mg:=fun _=>2
 ann:=fun b _ S=>match b with
  |0=>some { slots:=[3],keep:=[0],α:=Nat,st:=fun i=>([.int .i64 i],S),inv:=fun i=>i<=l.length/\∀j,j<i->((l.getD j default).kd != 3)=true,mu:=fun i=>l.length-i }
  |_=>none }
def QFX:Nd:=Nd.mk Z0 Z0 Z0 [] Z0 Z0 DA [] [] Z0 Z0 Z0
def QFY:Sm:=Sm.mk Z0 Z0 [] Z0 QFX QFX
def QFZ(a:List Sm)(b:Nat):Sm:=List.getD a b QFY
def Qlp(a:Nat)(b:List Sm):Prop:=a<=LN b/\∀(j:Nat),j<a->(Sm.kd (QFZ b j) != (3:Int))=true
def HI(a:List Sm):Prop:=RT (false=Uy a)
def YI(a:List Sm):D:=D.sl 34 (LN a) (fun i=>Sm.row1 (QFZ a i)) Mode.any
def QF0(a:List Sm):List D:=[YI a,ZI 12]
def QF1(a:List Sm):List D:=[YI a,ZI 13]
def QF2(a:List Sm):List D:=[YI a,ZI 6]
def QF3(a:List Sm):List D:=[YI a,ZI 7]
def QF4(a:List Sm):List D:=[YI a,ZI 11]
theorem BkX(l:List Sm)(hl:l.length<=maxLen)(h:∀s∈l,s.sm):CD 44 [gsl 34 Sm.row1 l] (.bool (Uy l)):=by
 refine Bh (A:=sC _ _) (x:=()) (E:=Erou l) (eOk (BhF hl h) rfl) Tryz.func44 rfl (by kernel_rfl) rfl (by simp[sC,Erou,EC,E0]) ?_
 refine Bj (T :=
  (∃(x:Nat),Qlp x l/\(Z0=(↑x:Int)/\True)/\True/\True)/\∀(x:Nat),Qlp x l->ifB (decide ((↑x:Int)<(LI l))) (Be (Z0<=(↑x:Int)/\(↑x:Int)<(LI l)) (ifB (Sm.kd (List.getD l (Int.toNat (↑x:Int)) QFY)==3) (HI l) ((SM (YI l)/\True)/\∃(y:Nat),Qlp y l/\LN l-y<LN l-x/\(IntKind.wrap IntKind.i64 ((↑x:Int)+Z1)=(↑y:Int)/\True)/\True/\True))) (∃(x:Unit),wkL (QF0 l) (QF0 l)/\∀(y:Unit),True->ifB (!Ep l (12:Int)) (∃(x:Unit),wkL (QF1 l) (QF1 l)/\∀(y:Unit),True->ifB (!Ep l (13:Int)) (∃(x:Unit),wkL (QF2 l) (QF2 l)/\∀(y:Unit),True->ifB (!Ep l (6:Int)) (∃(x:Unit),wkL (QF3 l) (QF3 l)/\∀(y:Unit),True->ifB (!Ep l (7:Int)) (∃(x:Unit),wkL (QF4 l) (QF4 l)/\∀(y:Unit),True->RT ((!Ep l (11:Int))=Uy l)) (HI l)) (HI l)) (HI l)) (HI l))) (by kernel_rfl) ?_
 delta DA LI LN SM Z0 Z1 ZI QFX QFY QF4 QFZ Qlp HI YI QF0 QF1 QF2 QF3 RT
 try simp only[<- dm]
 try simp only[<- dn]
 simp only[eq_self,ne_eq,implies_true,Ba,Int.toNat_natCast,Bf,Bc,decide_eq_true_eq,decide_eq_false_iff_not,true_and,and_true,beq_iff_eq,bne_iff_ne,bne_eq_false_iff_eq,beq_eq_false_iff_ne,Bool.not_eq_true',Bool.not_eq_false',exists_const,forall_const,Prod.exists]
 unfold maxLen at hl
 refine⟨⟨0,⟨Nat.zero_le _,fun j hj=>absurd hj (by omega)⟩,rfl⟩,fun i hi'=>⟨fun hlt=>?_,fun hge=>?_⟩⟩
 ·obtain ⟨i1,hi⟩:=hi'
  have hi1:i<l.length:=by omega
  refine⟨⟨by omega,by omega⟩,fun c=>?_,fun c=>⟨i+1,⟨hi1,fun j hj=>?_⟩,by omega,Bb (by omega) (by omega)⟩⟩
  ·unfold Uy
   rw[BlP (p:=fun s:Sm=>s.kd != 3) hi1 (by simpa using c)];rfl
  ·by_cases e':j=i
   ·rw[e'];simpa using c
   ·exact hi j (by omega)
 ·obtain ⟨i1,hi⟩:=hi'
  have a:(l.all fun s=>s.kd != 3)=true:=Bgu fun j hj=>by simpa using hi j (by omega)
  unfold Uy
  rw[a,Bool.true_and]
  repeat' (first | exact Bg _ | refine And.intro ?_ ?_ | intro _)
  all_goals first
   |(simp_all;done)
   |(simp_all;omega)
def Bee(n:Nd):Con:=fun k ds S=>match k with
 |41=>some (pA ds S (.int .i64 (GR (dpN n) 60)) (isN n ds [.int .i64 60]))
 |65=>some (pA ds S (.int .i64 (BU (szN n) 16384)) (isN n ds [.int .i64 16384]))
 |66=>some (pA ds S (.bool (Bz n)) (isN n ds []))
 |44=>some (pA ds S (.bool (Uy [Bcx 0 n])) (wkL ds [gsl 34 Sm.row1 [Bcx 0 n]]))
 |_=>none
theorem BhP{n:Nd}(ho:n.ok)(hn:n.sm):ConOk Tryz.prog (Bee n):=by
 intro k ds S A hh
 unfold Bee at hh
 split at hh
 ·injection hh with hh;subst hh
  exact Bo fun e=>CD.at_ (CD.isN (BeE n hn 60 (by omega) (by omega)) e) _
 ·injection hh with hh;subst hh
  exact Bo fun e=>CD.at_ (CD.isN (BeG n hn _ (by omega) (by omega)) e) _
 ·injection hh with hh;subst hh
  exact Bo fun e=>CD.at_ (CD.isN (Ud n ho hn) e) _
 ·injection hh with hh;subst hh
  exact Bo fun e=>CD.at_ (CD.wk (BkX [Bcx 0 n] (by simp[maxLen]) (BoA hn)) e) _
 ·cases hh
theorem Bi1(k:Nat):60<GR k 60↔60<k:=by unfold GR;split<;>omega
theorem RY(k:Nat):16384<BU k 16384↔16384<k:=by unfold BU;split<;>omega
def dpS(s:Sm):Bool:=decide (60<dpM s)
def BeR(l:List Sm):Con:=fun k ds S=>match k with
 |41=>some (pE (β:=Nd) ds S (fun b=>.int .i64 (GR (dpN b) 60)) (fun b=>isN b ds [.int .i64 60]/\b.sm))
 |42=>some (pA ds S (.int .i64 (BU (szB l) 16384)) (wkL ds [gsl 34 Sm.row1 l,.int .i64 16384]))
 |43=>some (pA ds S (.bool (BP true l)) (wkL ds [gsl 34 Sm.row1 l]))
 |44=>some (pA ds S (.bool (Uy l)) (wkL ds [gsl 34 Sm.row1 l]))
 |_=>none
theorem BhQ{l:List Sm}(hl:l.length<=BC)(ho:∀s∈l,s.ok)(hs:∀s∈l,s.sm):ConOk Tryz.prog (BeR l):=by
 intro k ds S A hh
 unfold BeR at hh
 split at hh
 ·injection hh with hh;subst hh
  exact Cn fun b ⟨e,hb⟩=>CD.at_ (CD.isN (BeE b hb 60 (by omega) (by omega)) e) _
 ·injection hh with hh;subst hh
  exact Bo fun e=>CD.at_ (CD.wk (Bmf l hl hs _ (by omega) (by omega)) e) _
 ·injection hh with hh;subst hh
  exact Bo fun e=>CD.at_ (CD.wk (BmY l hl ho hs) e) _
 ·injection hh with hh;subst hh
  exact Bo fun e=>CD.at_ (CD.wk (BkX l (Cl hl) hs) e) _
 ·cases hh
theorem BfJ:∀l:List Sm,l.any dpS=decide (60<dpB l)
 | []=>by simp[dpB]
 |s::l=>by
  have e:dpB (s::l)=max (dpM s) (dpB l):=by simp only[dpB]
  rw[List.any_cons,BfJ l,dpS,Bool.eq_iff_iff,e]
  simp only[Bool.or_eq_true,decide_eq_true_eq]
  omega
noncomputable def Erpr(l:List Sm):Senv:={ EC (BeR l) 56 4 [7,12,41,45,55] (fun _=>([],[])) with
 mg:=fun _=>2
 ann:=fun b _ S=>match b with
  |0=>some { slots:=[3],keep:=[0,1],α:=Nat,st:=fun i=>([.int .i64 i],S),inv:=fun i=>i<=l.length/\∀j,j<i->dpS (l.getD j default)=false,mu:=fun i=>l.length-i }
  |_=>none }
def HJ(a:List Sm):Int:=B2 a
def HK:Arr:=DA
def YJ:Nd:=Nd.mk Z0 Z0 Z0 [] Z0 Z0 HK [] [] Z0 Z0 Z0
def YK:Sm:=Sm.mk Z0 Z0 [] Z0 YJ YJ
def Xz(a:List Sm)(b:Nat):Sm:=List.getD a b YK
def Qlq(a:Nat)(b:List Sm):Prop:=a<=LN b/\∀(j:Nat),j<a->dpS (Xz b j)=false
def QGb(a:List Sm)(b:Nat):List D:=(Sm.row1 (Xz a b))
def QGc(a:Nat)(b:List Sm):Prop:=(SM a/\((SM (LN b)/\(∀(i:Nat),i<LN b->SM (QGb b i))/\True)/\True)/\True)/\True
def Qlr(a:List Sm)(b:Nat):Sm:=List.getD a (Int.toNat (↑b:Int)) YK
def K1(a:List Sm)(b:Nat):Nd:=Sm.nd (Qlr a b)
def Qev:List D:=[ZI 60]
def QGg(a:Nd):Bool:=decide ((60:Int)<GR (dpN a) (60:Int))
def QGh(a:List Sm):Prop:=RT ((8:Int)=HJ a)
def K2(a:List Sm)(b:Nat):Nd:=Sm.te (Qlr a b)
def QGl(a:List Sm):D:=D.sl 34 (LN a) (fun i=>QGb a i) Mode.any
def Qls(a:List Sm):List D:=[QGl a]
def QRN(a:List Sm):D:=D.agg (Qls a)
def QGm(a:List Sm)(b c:Nat):Prop:=(SM (QRN a)/\SM (D.ref N0 b N0)/\True)/\∃(y:Nat),Qlq y a/\LN a-y<LN a-c/\(IntKind.wrap IntKind.i64 ((↑c:Int)+Z1)=(↑y:Int)/\True)/\QGc b a
def QGn(a:List Sm):List D:=[QGl a,ZI 16384]
def QGo(a:List Sm):Prop:=wkL (Qls a) (Qls a)
def QGp(a:List Sm):Prop:=RT ((11:Int)=HJ a)
theorem Bpx(l:List Sm)(hl:l.length<=BC)(ho:∀s∈l,s.ok)(hs:∀s∈l,s.sm):CD 21 [.agg [gsl 34 Sm.row1 l]] (.int .i64 (B2 l)):=by
 refine Bh (A:=sC _ _) (x:=()) (E:=Erpr l) (eOk (BhQ hl ho hs) rfl) Tryz.func21 rfl (by kernel_rfl) rfl (by simp[sC,Erpr,EC,E0]) ?_
 refine Bj (T :=
  ∀(x:Nat),True->SM x/\ifB (decide ((1000:Int)<(LI l))) (RT ((2:Int)=HJ l)) ((∃(x_1:Nat),Qlq x_1 l/\(Z0=(↑x_1:Int)/\True)/\QGc x l)/\∀(x_1:Nat),Qlq x_1 l->SM x/\ifB (decide ((↑x_1:Int)<(LI l))) (SM x/\Be (Z0<=(↑x_1:Int)/\(↑x_1:Int)<(LI l)) (∃(x_2:Nd),(isN x_2 (D.agg (Nd.rowE (K1 l x_1))::Qev) Qev/\Nd.sm x_2)/\∀(y:Unit),True->ifB (QGg x_2) (QGh l) (SM x/\Be (Z0<=(↑x_1:Int)/\(↑x_1:Int)<(LI l)) (ifB (Sm.kd (Qlr l x_1)==3) (SM x/\Be (Z0<=(↑x_1:Int)/\(↑x_1:Int)<(LI l)) (∃(x_3:Nd),(isN x_3 (D.agg (Nd.rowE (K2 l x_1))::Qev) Qev/\Nd.sm x_3)/\∀(y:Unit),True->ifB (QGg x_3) (QGh l) (QGm l x x_1))) (QGm l x x_1))))) (SM x/\∃(x_2:Unit),wkL (QGn l) (QGn l)/\∀(y:Unit),True->ifB (decide ((16384:Int)<BU (szB l) (16384:Int))) (RT ((21:Int)=HJ l)) (SM x/\∃(x_3:Unit),QGo l/\∀(y:Unit),True->ifB (!BP true l) (QGp l) (SM x/\∃(x:Unit),QGo l/\∀(y:Unit),True->ifB (!Uy l) (QGp l) (RT (Z0=HJ l))))))) (by kernel_rfl) ?_
 delta DA GI LI LN N0 N1 N4 SI SM Z0 Z1 ZI HJ HK YJ YK Xz Qlq QGb QGc Qlr K1 Qev QGg QGh K2 QGl Qls QRN QGm QGn QGo QGp RT
 try simp only[<- dm]
 try simp only[<- dn]
 simp only[eq_self,ne_eq,implies_true,Ba,Int.toNat_natCast,Bf,Bc,decide_eq_true_eq,decide_eq_false_iff_not,true_and,and_true,beq_iff_eq,bne_iff_ne,bne_eq_false_iff_eq,beq_eq_false_iff_ne,Bool.not_eq_true',Bool.not_eq_false',exists_const,forall_const,Prod.exists]
 unfold BC at hl
 simp only[Bi1,RY]
 have hr:B2 l=if 1000<l.length then 2 else if 60<dpB l then 8 else if 16384<szB l then 21 else if (BP true l&&Uy l)=true then 0 else 11:=by rw[Bd2];rfl
 have da:=BfJ l
 rw[hr]
 refine⟨fun c=>by rw[if_pos (by omega)],fun c=>?_⟩
 rw[if_neg (by omega)]
 refine⟨⟨0,⟨Nat.zero_le _,fun j hj=>absurd hj (by omega)⟩,rfl⟩,fun i ⟨i1,hi⟩=>⟨fun hlt=>?_,fun hge=>?_⟩⟩
 ·have hi1:i<l.length:=by omega
  obtain ⟨q1,q2⟩:=Cm (hs _ (C4 hi1))
  have hd:=BjA (l.getD i default)
  have w:IntKind.i64.wrap ((i:Int)+1)=((i+1:Nat):Int):=by rw[Bb (by omega) (by omega)];rfl
  have yes:60<dpM (l.getD i default)->8=(if 60<dpB l then (8:Int) else if 16384<szB l then 21 else if (BP true l&&Uy l)=true then 0 else 11):=fun h2=>by
   have:l.any dpS=true:=Bbk hi1 (decide_eq_true h2)
   rw[da,decide_eq_true_eq] at this
   rw[if_pos this]
  have go:¬60<dpM (l.getD i default)->∃y,(y<=l.length/\∀(j:Nat),j<y->dpS (l.getD j default)=false)/\l.length-y<l.length-i/\IntKind.i64.wrap ((i:Int)+1)=(y:Int):=fun h2 =>
   ⟨i+1,⟨hi1,fun j hj=>by
    by_cases e':j=i
    ·rw[e'];exact decide_eq_false h2
    ·exact hi j (by omega)⟩,by omega,w⟩
  refine⟨⟨by omega,hlt⟩,(l.getD i default).nd,⟨Bl _ _,q2⟩,fun b=>yes ?_,fun b=>⟨⟨by omega,hlt⟩,fun k3=>⟨⟨by omega,hlt⟩,(l.getD i default).te,⟨Bl _ _,q1⟩,fun b2=>yes ?_,fun b2=>go ?_⟩,fun k3=>go ?_⟩⟩
  ·rw[hd];split<;>omega
  ·rw[hd,if_pos k3];omega
  ·rw[hd,if_pos k3];omega
  ·rw[hd,if_neg k3];exact b
 ·have a:l.any dpS=false:=BdR fun j hj=>hi j (by omega)
  rw[da,decide_eq_false_iff_not] at a
  rw[if_neg a]
  refine⟨Bg _,fun b=>by rw[if_pos b],fun b=>?_⟩
  rw[if_neg b]
  refine⟨Bg _,fun b1=>?_,fun b1=>⟨Bg _,fun b2=>?_,fun b2=>?_⟩⟩
  ·rw[b1];rfl
  ·rw[b1,b2];rfl
  ·rw[b1,b2];rfl
def Wb(n:Nd):List UInt8:=if n.kd=1 then GN n.va else if n.kd=2 then n.tx else if n.kd=9 then Cg n.pr else if n.kd=17 then opT n.op
 else if n.kd=6 then [88] else if n.kd=7 then [89] else if n.kd=8 then [97,114,103] else if n.kd=11 then [115,101,108,102] else if n.kd=12 then [70] else [71]
def Bez(n:Nd):Con:=fun k ds S=>match k with
 |149=>some (pA ds S (.str (GN n.va)) (wkL ds [.agg n.va.row1]))
 |150=>some (pA ds S (.str (Cg n.pr)) (wkL ds [.int .i64 n.pr]))
 |151=>some (pA ds S (.str (opT n.op)) (wkL ds [.int .i64 n.op]))
 |_=>none
theorem Bk8{n:Nd}(h:n.ok):Br n.pr/\Br n.op:=by
 cases n with
 |mk kd at_ cl tx pr op va ki bo de sl ss =>
  simp only[Nd.ok] at h
  exact⟨h.1.2.2.2.1,h.1.2.2.2.2.1⟩
theorem Bhn{n:Nd}(ho:n.ok):ConOk Tryz.prog (Bez n):=by
 intro k ds S A hh
 unfold Bez at hh
 split at hh
 ·injection hh with hh;subst hh
  exact Bo fun e=>CD.at_ (CD.wk (show CD _ [.agg n.va.row1] _ from (Bk4 n.va (Ti ho)).mono fun _ _ ⟨_,h1,h2,h3⟩=>⟨(),trivial,h2,h3⟩) e) _
 ·injection hh with hh;subst hh
  exact Bo fun e=>CD.at_ (CD.wk (Bof n.pr (Bk8 ho).1) e) _
 ·injection hh with hh;subst hh
  exact Bo fun e=>CD.at_ (CD.wk (Bpn n.op (Bk8 ho).2) e) _
 ·cases hh
noncomputable def Erwo(n:Nd):Senv:=EC (Bez n) 34 3 [4,5,10,14,19,24,26,28,30,32] (fun _=>([],[]))
def Vh(a:Nd):Int:=Nd.kd a
def HL(a:Nd):Arr:=Nd.va a
def QRO(a:Nd):List Int:=Arr.sh (HL a)
def QRP(a:Nd):List Int:=Arr.nu (HL a)
def QGq(a:Nd):List Arr:=Arr.it (HL a)
def QGr(a:Nd):List D:=[D.agg [ZI (Arr.k (HL a)),SI (QRO a),SI (QRP a),D.sl N4 (LN (QGq a)) (fun i=>Arr.row (GA (QGq a) i)) Mode.any]]
def JU(a:Nd):List UInt8:=Wb a
theorem Boh(n:Nd)(ho:n.ok):CD 130 [.agg n.row2] (.str (Wb n)):=by
 refine Bh (A:=sC _ _) (x:=()) (E:=Erwo n) (eOk (Bhn ho) rfl) Tryz.func130 rfl (by kernel_rfl) rfl (by simp[sC,Erwo,EC,E0]) ?_
 refine Bj (T :=
  ∀(x:Nat),True->SM x/\ifB (Vh n==Z1) (SM x/\∃(x:Unit),wkL (QGr n) (QGr n)/\∀(y:Unit),True->RT (GN (HL n)=JU n)) (ifB (Vh n==2) (SM x/\RT (Nd.tx n=JU n)) (ifB (Vh n==9) (SM x/\∃(x:Unit),wkL [ZI (Nd.pr n)] [ZI (Nd.pr n)]/\∀(y:Unit),True->RT (Cg (Nd.pr n)=JU n)) (ifB (Vh n==17) (SM x/\∃(x:Unit),wkL [ZI (Nd.op n)] [ZI (Nd.op n)]/\∀(y:Unit),True->RT (opT (Nd.op n)=JU n)) (ifB (Vh n==6) (RT ([(88:UInt8)]=JU n)) (ifB (Vh n==7) (RT ([(89:UInt8)]=JU n)) (ifB (Vh n==8) (RT ([(97:UInt8),(114:UInt8),(103:UInt8)]=JU n)) (ifB (Vh n==11) (RT ([(115:UInt8),(101:UInt8),(108:UInt8),(102:UInt8)]=JU n)) (ifB (Vh n==12) (RT ([(70:UInt8)]=JU n)) (RT ([(71:UInt8)]=JU n))))))))))) (by kernel_rfl) ?_
 delta DA GA GI LN N1 N4 SI SM Z0 Z1 ZI Vh HL QRO QRP QGq QGr JU RT
 try simp only[<- dm]
 try simp only[<- dn]
 simp only[eq_self,ne_eq,implies_true,Ba,Int.toNat_natCast,Bf,Bc,decide_eq_true_eq,decide_eq_false_iff_not,true_and,and_true,beq_iff_eq,bne_iff_ne,bne_eq_false_iff_eq,beq_eq_false_iff_ne,Bool.not_eq_true',Bool.not_eq_false',exists_const,forall_const,Prod.exists]
 unfold Wb
 repeat' (first | exact Bg _ | refine And.intro ?_ ?_ | intro _)
 all_goals first
  |(simp_all;done)
  |(simp_all;omega)
noncomputable def Erbd(q:Nd->Prop)(l:List Sm):Senv:={ EC (W4 q) 56 2 [4,5,6,10,14,23,37] (fun _=>([],[])) with
 mg:=fun _=>2
 ann:=fun b _ S=>match b with
  |0=>some { slots:=[6,5],keep:=[0,1],α:=Nat×List UInt8,st:=fun y=>([.int .i64 y.1,.str y.2],S),inv:=fun y=>y.1<=l.length/\y.2=Lib.join ((l.map B3).take y.1) [32,59,32],mu:=fun y=>l.length-y.1 }
  |_=>none }
def Qex:List UInt8:=[(32:UInt8),(59:UInt8),(32:UInt8)]
def JV(a:Nat)(b:List Sm)(c:List UInt8):Prop:=a<=LN b/\c=Lib.join (List.take a (List.map B3 b)) Qex
def HM:Arr:=DA
def YL:Nd:=Nd.mk Z0 Z0 Z0 [] Z0 Z0 HM [] [] Z0 Z0 Z0
def YM:Sm:=Sm.mk Z0 Z0 [] Z0 YL YL
def Qey(a:List Sm)(b:Nat):Sm:=List.getD a (Int.toNat (↑b:Int)) YM
def QGs(a:List Sm)(b:Nat):Int:=Sm.kd (Qey a b)
def QGt(a:List Sm)(b:Nat):Bool:=QGs a b==2
def QGu(a:List Sm)(b:Nat):List UInt8:=Sm.nm (Qey a b)
def QGv(a:List Sm)(b:Nat):Nat:=LN (QGu a b)+N4
def Qez(a:List UInt8):List UInt8:=a++Qex
def Qlt(a:List UInt8):Nat:=LN (Qez a)
def Qlu(a:List Sm)(b:Nat):List UInt8:=QGu a b++[32,60,45,32]
def QGw(a:List Sm)(b:Nat):Nat:=LN (Qlu a b)
def QeA(a:List Sm)(b:Nat):Bool:=QGs a b==3
def K3(a:List Sm)(b:Nat):Nd:=Sm.te (Qey a b)
def QeC(a:Nd)(b:List Sm)(c:Nat)(d:Nd->Prop):Prop:=isN a [D.agg (Nd.rowE (K3 b c))] []/\d a
def JW(a:Nd):List UInt8:=Bt a
def Vi(a:Nd):Nat:=LN (JW a)
def QeD(a:Nd):Nat:=Vi a+3
def Qlv(a:List UInt8)(b:List Sm)(c:Nat):List UInt8:=Qez a++Qlu b c
def QGA(a:List UInt8)(b:List Sm)(c:Nat):Nat:=LN (Qlv a b c)
def HN(a:Nd):List UInt8:=JW a++[32,58,32]
def QeE(a:Nd):Nat:=LN (HN a)
def K4(a:List Sm)(b:Nat):Nd:=Sm.nd (Qey a b)
def VH(a:Nd)(b:List Sm)(c:Nat)(d:Nd->Prop):Prop:=isN a [D.agg (Nd.rowE (K4 b c))] []/\d a
def QGE(a:List UInt8)(b:List Sm)(c:Nat)(d:Nd):List UInt8:=Qlv a b c++HN d
def YN(a:List Sm)(b:Nat):Sm:=List.getD a b YM
def QRY(a:List Sm):D:=D.sl 34 (LN a) (fun i=>(Sm.row1 (YN a i))) Mode.any
def VI(a:List Sm):Prop:=SM (QRY a)/\SM (D.str Qex)/\True
def VJ(a:List Sm)(b c:Nat):Prop:=LN a-b<LN a-c
def VK(a b:Nat):Prop:=IntKind.wrap IntKind.i64 ((↑a:Int)+Z1)=(↑b:Int)
def QGL(a:List UInt8)(b:Nd):List UInt8:=Qez a++HN b
def Qlw(a:List UInt8)(b:List Sm)(c:Nat):List UInt8:=a++Qlu b c
def QGM(a:List UInt8)(b:List Sm)(c:Nat):Nat:=LN (Qlw a b c)
def QGN(a:List UInt8)(b:List Sm)(c:Nat)(d:Nd):List UInt8:=Qlw a b c++HN d
def QGO(a:List UInt8)(b:Nd):List UInt8:=a++HN b
theorem Bnn(q : Nd -> Prop)(l : List Sm)(h : ∀b, q b -> RRShow b)(hs : ∀s∈l, q s.nd /\ (s.kd=3 -> q s.te) /\ s.nm.length<=BC)(hl : l.length<=maxLen)(hj : (Lib.join (l.map B3) [32, 59, 32]).length<=20000000000000) :
  CD 129 [gsl 34 Sm.row1 l,.str [32,59,32]] (.str (Lib.join (l.map B3) [32,59,32])):=by
 refine Bh (A:=sC _ _) (x:=()) (E:=Erbd q l) (eOk (Tx h) rfl) Tryz.func129 rfl (by kernel_rfl) rfl (by simp[sC,Erbd,EC,E0]) ?_
 refine Bj (T :=
  (∃(x:Nat×List UInt8),JV x.1 l x.2/\(Z0=(NI x.1)/\Cw (List UInt8) [] x.2/\True)/\True/\True)/\∀(x:Nat×List UInt8),JV x.1 l x.2->ifB (decide ((NI x.1)<(LI l))) (ifB (decide (Z0<(NI x.1))) (Be (LN x.2+3<=9223372036854775807) (Be (Z0<=(NI x.1)/\(NI x.1)<(LI l)) (ifB (QGt l x.1) (Be (Z0<=(NI x.1)/\(NI x.1)<(LI l)) (Be (QGv l x.1<=9223372036854775807) (Be (Qlt x.2+QGw l x.1<=9223372036854775807) (Be (Z0<=(NI x.1)/\(NI x.1)<(LI l)) (ifB (QeA l x.1) (Be (Z0<=(NI x.1)/\(NI x.1)<(LI l)) (∃(x_1:Nd),QeC x_1 l x.1 q/\∀(y:Unit),True->Be (QeD x_1<=9223372036854775807) (Be (QGA x.2 l x.1+QeE x_1<=9223372036854775807) (Be (Z0<=(NI x.1)/\(NI x.1)<(LI l)) (∃(x_2:Nd),VH x_2 l x.1 q/\∀(y:Unit),True->Be (LN (QGE x.2 l x.1 x_1)+Vi x_2<=9223372036854775807) (VI l/\∃(y:Nat×List UInt8),JV y.1 l y.2/\VJ l y.1 x.1/\(VK x.1 y.1/\QGE x.2 l x.1 x_1++JW x_2=y.2/\True)/\True/\True)))))) (Be (Z0<=(NI x.1)/\(NI x.1)<(LI l)) (∃(x_1:Nd),VH x_1 l x.1 q/\∀(y:Unit),True->Be (QGA x.2 l x.1+Vi x_1<=9223372036854775807) (VI l/\∃(y:Nat×List UInt8),JV y.1 l y.2/\VJ l y.1 x.1/\(VK x.1 y.1/\Qlv x.2 l x.1++JW x_1=y.2/\True)/\True/\True)))))))) (Be (Z0<=(NI x.1)/\(NI x.1)<(LI l)) (ifB (QeA l x.1) (Be (Z0<=(NI x.1)/\(NI x.1)<(LI l)) (∃(x_1:Nd),QeC x_1 l x.1 q/\∀(y:Unit),True->Be (QeD x_1<=9223372036854775807) (Be (Qlt x.2+QeE x_1<=9223372036854775807) (Be (Z0<=(NI x.1)/\(NI x.1)<(LI l)) (∃(x_2:Nd),VH x_2 l x.1 q/\∀(y:Unit),True->Be (LN (QGL x.2 x_1)+Vi x_2<=9223372036854775807) (VI l/\∃(y:Nat×List UInt8),JV y.1 l y.2/\VJ l y.1 x.1/\(VK x.1 y.1/\QGL x.2 x_1++JW x_2=y.2/\True)/\True/\True)))))) (Be (Z0<=(NI x.1)/\(NI x.1)<(LI l)) (∃(x_1:Nd),VH x_1 l x.1 q/\∀(y:Unit),True->Be (Qlt x.2+Vi x_1<=9223372036854775807) (VI l/\∃(y:Nat×List UInt8),JV y.1 l y.2/\VJ l y.1 x.1/\(VK x.1 y.1/\Qez x.2++JW x_1=y.2/\True)/\True/\True)))))))) (Be (Z0<=(NI x.1)/\(NI x.1)<(LI l)) (ifB (QGt l x.1) (Be (Z0<=(NI x.1)/\(NI x.1)<(LI l)) (Be (QGv l x.1<=9223372036854775807) (Be (LN x.2+QGw l x.1<=9223372036854775807) (Be (Z0<=(NI x.1)/\(NI x.1)<(LI l)) (ifB (QeA l x.1) (Be (Z0<=(NI x.1)/\(NI x.1)<(LI l)) (∃(x_1:Nd),QeC x_1 l x.1 q/\∀(y:Unit),True->Be (QeD x_1<=9223372036854775807) (Be (QGM x.2 l x.1+QeE x_1<=9223372036854775807) (Be (Z0<=(NI x.1)/\(NI x.1)<(LI l)) (∃(x_2:Nd),VH x_2 l x.1 q/\∀(y:Unit),True->Be (LN (QGN x.2 l x.1 x_1)+Vi x_2<=9223372036854775807) (VI l/\∃(y:Nat×List UInt8),JV y.1 l y.2/\VJ l y.1 x.1/\(VK x.1 y.1/\QGN x.2 l x.1 x_1++JW x_2=y.2/\True)/\True/\True)))))) (Be (Z0<=(NI x.1)/\(NI x.1)<(LI l)) (∃(x_1:Nd),VH x_1 l x.1 q/\∀(y:Unit),True->Be (QGM x.2 l x.1+Vi x_1<=9223372036854775807) (VI l/\∃(y:Nat×List UInt8),JV y.1 l y.2/\VJ l y.1 x.1/\(VK x.1 y.1/\Qlw x.2 l x.1++JW x_1=y.2/\True)/\True/\True)))))))) (Be (Z0<=(NI x.1)/\(NI x.1)<(LI l)) (ifB (QeA l x.1) (Be (Z0<=(NI x.1)/\(NI x.1)<(LI l)) (∃(x_1:Nd),QeC x_1 l x.1 q/\∀(y:Unit),True->Be (QeD x_1<=9223372036854775807) (Be (LN x.2+QeE x_1<=9223372036854775807) (Be (Z0<=(NI x.1)/\(NI x.1)<(LI l)) (∃(x_2:Nd),VH x_2 l x.1 q/\∀(y:Unit),True->Be (LN (QGO x.2 x_1)+Vi x_2<=9223372036854775807) (VI l/\∃(y:Nat×List UInt8),JV y.1 l y.2/\VJ l y.1 x.1/\(VK x.1 y.1/\QGO x.2 x_1++JW x_2=y.2/\True)/\True/\True)))))) (Be (Z0<=(NI x.1)/\(NI x.1)<(LI l)) (∃(x_1:Nd),VH x_1 l x.1 q/\∀(y:Unit),True->Be (LN x.2+Vi x_1<=9223372036854775807) (VI l/\∃(y:Nat×List UInt8),JV y.1 l y.2/\VJ l y.1 x.1/\(VK x.1 y.1/\x.2++JW x_1=y.2/\True)/\True/\True)))))))) (RT (x.2=Lib.join (List.map B3 l) Qex))) (by kernel_rfl) ?_
 delta DA GI LI LN N1 N4 NI SI SM Z0 Z1 ZI YL YM Qey QGs QGt QGu QGv Qez Qlt Qlu QGw QeA K3 QeC JW Vi QeD Qlv QGA HN QeE K4 VH QGE YN QRY VI VJ VK QGL Qlw QGM QGN QGO Qex JV HM RT
 try simp only[<- dm]
 try simp only[<- dn]
 simp only[eq_self,ne_eq,implies_true,Ba,Int.toNat_natCast,Bf,Bc,decide_eq_true_eq,decide_eq_false_iff_not,true_and,and_true,beq_iff_eq,bne_iff_ne,bne_eq_false_iff_eq,beq_eq_false_iff_ne,Bool.not_eq_true',Bool.not_eq_false',exists_const,forall_const,Prod.exists]
 unfold maxLen at hl
 refine⟨⟨0,[],⟨Nat.zero_le _,by simp[Lib.join]⟩,rfl,rfl⟩,?_⟩
 rintro ⟨i,s⟩ ⟨i1,hs'⟩
 simp only at i1 hs' ⊢
 refine⟨fun hlt=>?_,fun hge=>?_⟩
 ·have hlt':i<l.length:=by omega
  have hlm:i<(l.map B3).length:=by simpa using hlt'
  have jt:=TZ [32,59,32] hlm
  obtain ⟨j1,j2⟩:=RL [32,59,32] hlm
  have eg:(l.map B3).getD i []=B3 (l.getD i default):=by simp[List.getD_eq_getElem?_getD,hlt']
  have w:IntKind.i64.wrap ((i:Int)+1)=((i+1:Nat):Int):=by rw[Bb (by omega) (by omega)];rfl
  obtain ⟨q2,q1,qn⟩:=hs _ (C4 hlt')
  unfold BC at qn
  rw[eg] at jt j1 j2
  simp only[List.length_cons,List.length_nil] at j2
  have s0:i=0->s=[]:=fun e=>by rw[hs',e];simp[Lib.join]
  have js:Lib.join (List.take (i+1) (l.map B3)) [32,59,32]=(if 0<i then s++[32,59,32] else s)++B3 (l.getD i default):=by
   rw[jt,<- hs']
   by_cases e:0<i
   ·rw[if_pos e,if_pos e]
   ·rw[if_neg e,if_neg e,s0 (by omega)]
  have hlen:s.length+3+(B3 (l.getD i default)).length<=20000000000003:=by
   by_cases e:0<i
   ·have:=j2 e
    rw[<- hs'] at this
    omega
   ·rw[s0 (by omega)]
    simp only[List.length_nil]
    omega
  have eM:=OJ (l.getD i default)
  have go:∀T,T=(if 0<i then s++[32,59,32] else s)++B3 (l.getD i default)->∃a b,(a<=l.length/\b=Lib.join (List.take a (l.map B3)) [32,59,32])/\l.length-a<l.length-i/\IntKind.i64.wrap ((i:Int)+1)=(a:Int)/\T=b:=fun T hT =>
   ⟨i+1,T,⟨hlt',by rw[hT,js]⟩,by omega,w,rfl⟩
  have l2:(l.getD i default).kd=2->(B3 (l.getD i default)).length=(l.getD i default).nm.length+4+(Bt (l.getD i default).nd).length:=fun k=>by
   rw[eM,if_pos k];simp only[List.length_append,List.length_cons,List.length_nil]
  have l3:(l.getD i default).kd=3->(B3 (l.getD i default)).length=(Bt (l.getD i default).te).length+3+(Bt (l.getD i default).nd).length:=fun k=>by
   rw[eM,if_neg (by omega),if_pos k];simp only[List.length_append,List.length_cons,List.length_nil]
  have l4:(l.getD i default).kd≠2->(l.getD i default).kd≠3->(B3 (l.getD i default)).length=(Bt (l.getD i default).nd).length:=fun k k'=>by
   rw[eM,if_neg k,if_neg k']
  clear js jt j1 j2 eg hlm hs' hs h hj w s0
  generalize l.getD i default=x at *
  by_cases k2:x.kd=2
  ·have l2:=l2 k2
   rw[if_pos k2] at eM
   clear l3 l4
   repeat' (first
    |exact absurd (by assumption) (show ¬x.kd=3 by omega)
    |refine⟨x.nd,⟨Bl _ _,q2⟩,?_⟩
    |refine go _ ?_
    |refine And.intro ?_ ?_
    |intro _)
   all_goals first
    |omega
    |(simp only[List.length_append,List.length_cons,List.length_nil];omega)
    |(rw[eM,if_pos (by omega)];simp only[List.append_assoc])
    |(rw[eM,if_neg (by omega)];simp only[List.append_assoc])
    |(exfalso;omega)
  ·by_cases k3:x.kd=3
   ·have l3:=l3 k3
    rw[if_neg k2,if_pos k3] at eM
    clear l2 l4
    repeat' (first
     |exact absurd (by assumption) k2
     |refine⟨x.nd,⟨Bl _ _,q2⟩,?_⟩
     |refine⟨x.te,⟨Bl _ _,q1 k3⟩,?_⟩
     |refine go _ ?_
     |refine And.intro ?_ ?_
     |intro _)
    all_goals first
     |omega
     |(simp only[List.length_append,List.length_cons,List.length_nil];omega)
     |(rw[eM,if_pos (by omega)];simp only[List.append_assoc])
     |(rw[eM,if_neg (by omega)];simp only[List.append_assoc])
     |(exfalso;omega)
   ·have l4:=l4 k2 k3
    rw[if_neg k2,if_neg k3] at eM
    clear l2 l3
    repeat' (first
     |exact absurd (by assumption) k2
     |exact absurd (by assumption) k3
     |refine⟨x.nd,⟨Bl _ _,q2⟩,?_⟩
     |refine go _ ?_
     |refine And.intro ?_ ?_
     |intro _)
    all_goals first
     |omega
     |(simp only[List.length_append,List.length_cons,List.length_nil];omega)
     |(rw[eM,if_pos (by omega)])
     |(rw[eM,if_neg (by omega)])
     |(exfalso;omega)
 ·have e:i=l.length:=by omega
  rw[hs',e,List.take_of_length_le (by simp)]
end
end Go.Proofs.YtnlplccjbojloaaGreatDoor
