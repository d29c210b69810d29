/- resolve: Free answers as the reference; a program resolves if and only if it mentions nothing that is not defined -/
import Derived.Test.YtfbfnhbafjmnaaaGreatS5
namespace Go.Proofs.YtfbfnhbafjmnaaaGreat
open Go Go.Ab Go.Proofs Go.RowKit Go.Shelf
set_option maxRecDepth 100000
noncomputable section
attribute [local go_sem] Oper.semAt_some
open Go Go.Ab Go.RowKit
def RPg:List D->Prop:=fun ds=>∃l:List Sm,okS l/\ds=[lsl 34 (CX l)]
theorem BiP(W:World)(n:Nat):ReadAt Tryz.prog W n 24 RPg:=by
 cases n with
 |zero=>exact .zero _ _
 |succ m =>
  have hb:ReadAt Tryz.prog W m 22 (RSliceA 34 RSm):=by
   cases m with
   |zero=>exact .zero _ _
   |succ k=>exact EQ (w:=34) Tryz.underlying22 (by kernel_rfl) (by decide) (by decide +kernel) (Beh W k fun j _=>Bdx W j)
  refine (GU Tryz.underlying24 (by kernel_rfl) (Rs:=[RSliceA 34 RSm]) ⟨hb,trivial⟩).mono ?_
  rintro ds ⟨_,_,⟨l,h1,h2,rfl⟩,h3,rfl⟩
  obtain rfl:_=[]:=h3
  obtain ⟨bo,qb,rfl⟩:=MA (g:=Sm.row) (Q:=fun a=>a.ok/\a.sm) (fun x hx=>hx) l h1
  refine⟨bo,⟨by simpa using h2,fun s hs=>(qb s hs).1,fun s hs=>(qb s hs).2⟩,?_⟩
  simp only[Cc,lsl,List.append_nil]
open Go Go.Ab
theorem II(f:Frm1)(kd at_:Int)(nm:List UInt8)(sl:Int)(te nd:Nd):Ce f (.mk kd at_ nm sl te nd)=if kd=2 then f++[(nm,nd.cl)] else f:=rfl
theorem Bjw{n:Nd}(h:BR n=true)(h10:n.kd≠10):n.bo=[]:=by
 rw[OG,Bool.and_eq_true] at h
 have h:=h.1
 unfold G7 at h
 simp only[Bool.and_eq_true,Bool.or_eq_true,beq_iff_eq,List.isEmpty_iff] at h
 rcases h.2 with q | q
 ·exact q
 ·exact (h10 q).elim
theorem TB{g:Bool}{names:List (List UInt8)}{s:Sm}(h:IY g names s=true):BR s.nd=true/\(s.kd=3->g=true/\BR s.te=true):=by
 rw[Om] at h
 simp only[Bool.and_eq_true] at h
 refine⟨h.1.2,fun q=>?_⟩
 have h2:=h.2
 rw[if_neg (by omega),if_neg (by omega),if_pos q] at h2
 simp only[Bool.and_eq_true] at h2
 exact⟨h2.1.1.1.1.1,h2.1.1.1.1.2⟩
mutual
theorem OI:∀(n:Nd) (sc:Scp) (m:Nd),BR n=true->rvN sc n=.ok m->fnN sc n=[]
 |.mk kd at_ cl tx pr op va ki bo de sl ss,sc,m,hv,h=>by
  have hb:=Bjw hv
  have hk:=(Io hv).1
  have hv10:kd=10->B5 true [] bo=true:=fun q=>by
   rw[BR,Bool.and_eq_true,if_pos q] at hv
   simp only[Bool.and_eq_true] at hv
   exact hv.2.2.2
  simp only[Nd.kd,Nd.bo,Nd.ki] at hb hk
  obtain ⟨ki',bo',de',sl',ss',rfl,hk2,_,_,_,hc⟩:=Mo h
  have e1:=Ba0 ki sc ki' hk hk2
  rw[fnN,e1]
  rcases hc with ⟨h2,rfl,rfl,d,i,hl,rfl,rfl⟩ | ⟨h10,rfl,rfl,f,hb2,rfl⟩ | ⟨h2,h10,rfl,rfl,rfl,rfl⟩
  ·rw[hb (by omega),if_pos h2,hl,fnB]
   rfl
  ·rw[if_neg (by omega),UD bo sc [] _ true [] (hv10 h10) hb2]
   rfl
  ·rw[hb h10,if_neg h2,fnB]
   rfl
theorem Ba0:∀(l:List Nd) (sc:Scp) (m:List Nd),(∀x∈l,BR x=true)->rvL sc l=.ok m->fnL sc l=[]
 | [],sc,m,_,_=>by rw[fnL]
 |x::r,sc,m,hv,h=>by
  rw[rvL] at h
  cases hx:rvN sc x with
  |error e=>rw[hx] at h;cases h
  |ok y =>
   rw[hx] at h
   simp only at h
   cases hr:rvL sc r with
   |error e=>rw[hr] at h;cases h
   |ok s =>
    rw[fnL,OI x sc y (hv x (by simp)) hx,Ba0 r sc s (fun z hz=>hv z (by simp[hz])) hr]
    rfl
theorem UD:∀(l:List Sm) (sc:Scp) (f:Frm1) (z:List Sm×Frm1) (g:Bool) (names:List (List UInt8)),B5 g names l=true->rvB sc f l=.ok z->fnB sc f l=[]
 | [],sc,f,z,g,names,_,_=>by rw[fnB]
 |s::r,sc,f,z,g,names,hv,h=>by
  rw[B5,Bool.and_eq_true] at hv
  rw[rvB] at h
  cases hx:rvM sc f s with
  |error e=>rw[hx] at h;cases h
  |ok t =>
   rw[hx] at h
   simp only at h
   obtain ⟨q1,q2⟩:=Bil s sc f t g names hv.1 hx
   cases hr:rvB sc (Ce f t) r with
   |error e=>rw[hr] at h;cases h
   |ok w =>
    rw[fnB,q1,<- q2,UD r sc (Ce f t) w g _ hv.2 hr]
    rfl
theorem Bil:∀(s:Sm) (sc:Scp) (f:Frm1) (t:Sm) (g:Bool) (names:List (List UInt8)),IY g names s=true->rvM sc f s=.ok t->fnM (f::sc) s=[]/\Ce f t=Ce f s
 |.mk kd at_ nm sl te nd,sc,f,t,g,names,hv,h=>by
  obtain ⟨v1,v2⟩:=TB hv
  simp only[Sm.kd,Sm.nd,Sm.te] at v1 v2
  rw[rvM] at h
  rw[fnM]
  by_cases h3:kd=3
  ·rw[if_pos h3] at h
   cases ht:rvN (f::sc) te with
   |error e=>rw[ht] at h;cases h
   |ok te' =>
    rw[ht] at h
    simp only at h
    cases hn:rvN (f::sc) nd with
    |error e=>rw[hn] at h;cases h
    |ok nd' =>
     rw[hn] at h
     injection h with h;subst h
     rw[if_pos h3,OI te _ te' (v2 h3).2 ht,OI nd _ nd' v1 hn]
     exact⟨rfl,by rw[II,II,if_neg (by omega),if_neg (by omega)]⟩
  ·rw[if_neg h3] at h
   cases hn:rvN (f::sc) nd with
   |error e=>rw[hn] at h;cases h
   |ok nd' =>
    rw[hn] at h
    injection h with h;subst h
    have c:=(M9 _ _).1 (Ct nd (f::sc) nd' hn).2
    rw[if_neg h3,OI nd _ nd' v1 hn]
    exact⟨rfl,by rw[II,II,c.2.1]⟩
end
mutual
theorem OF:∀(n:Nd) (sc:Scp) (e:Flt),rvN sc n=.error e->e.1=28->e.2.2∈fnN sc n
 |.mk kd at_ cl tx pr op va ki bo de sl ss,sc,e,h,h28=>by
  rw[rvN] at h
  rw[fnN,List.mem_append,List.mem_append]
  cases hL:rvL sc ki with
  |error e2 =>
   rw[hL] at h
   injection h with h;subst h
   exact .inr (.inl (BbW ki sc _ hL h28))
  |ok ki' =>
   rw[hL] at h
   simp only at h
   by_cases h2:kd=2
   ·rw[if_pos h2] at h
    cases hl:Bp tx sc with
    |none =>
     rw[hl] at h
     simp only at h
     injection h with h;subst h
     left
     rw[if_pos h2]
     simp
    |some y =>
     obtain ⟨d,i,c⟩:=y
     rw[hl] at h
     simp only at h
     split at h
     ·cases h
     ·injection h with h;subst h
      simp at h28
   ·rw[if_neg h2] at h
    by_cases h10:kd=10
    ·rw[if_pos h10] at h
     cases hB:rvB sc [] bo with
     |error e2 =>
      rw[hB] at h
      simp only at h
      injection h with h;subst h
      exact .inr (.inr (Wn bo sc [] _ hB h28))
     |ok z =>
      rw[hB] at h
      cases h
    ·rw[if_neg h10] at h
     cases h
theorem BbW:∀(l:List Nd) (sc:Scp) (e:Flt),rvL sc l=.error e->e.1=28->e.2.2∈fnL sc l
 | [],sc,e,h,_=>by rw[rvL] at h;cases h
 |x::r,sc,e,h,h28=>by
  rw[rvL] at h
  rw[fnL,List.mem_append]
  cases hx:rvN sc x with
  |error e2 =>
   rw[hx] at h
   simp only at h
   injection h with h;subst h
   exact .inl (OF x sc _ hx h28)
  |ok y =>
   rw[hx] at h
   simp only at h
   cases hr:rvL sc r with
   |error e2 =>
    rw[hr] at h
    simp only at h
    injection h with h;subst h
    exact .inr (BbW r sc _ hr h28)
   |ok s=>rw[hr] at h;cases h
theorem Wn:∀(l:List Sm) (sc:Scp) (f:Frm1) (e:Flt),rvB sc f l=.error e->e.1=28->e.2.2∈fnB sc f l
 | [],sc,f,e,h,_=>by rw[rvB] at h;cases h
 |s::r,sc,f,e,h,h28=>by
  rw[rvB] at h
  rw[fnB,List.mem_append]
  cases hx:rvM sc f s with
  |error e2 =>
   rw[hx] at h
   simp only at h
   injection h with h;subst h
   exact .inl (Bga s sc f _ hx h28).1
  |ok t =>
   rw[hx] at h
   simp only at h
   have q:=BjS s sc f t hx
   cases hr:rvB sc (Ce f t) r with
   |error e2 =>
    rw[hr] at h
    simp only at h
    injection h with h;subst h
    rw[<- q]
    exact .inr (Wn r sc _ _ hr h28)
   |ok w=>rw[hr] at h;cases h
theorem Bga:∀(s:Sm) (sc:Scp) (f:Frm1) (e:Flt),rvM sc f s=.error e->e.1=28->e.2.2∈fnM (f::sc) s/\True
 |.mk kd at_ nm sl te nd,sc,f,e,h,h28=>by
  rw[rvM] at h
  rw[fnM,List.mem_append]
  by_cases h3:kd=3
  ·rw[if_pos h3] at h
   rw[if_pos h3]
   cases ht:rvN (f::sc) te with
   |error e2 =>
    rw[ht] at h
    simp only at h
    injection h with h;subst h
    exact⟨.inl (OF te _ _ ht h28),trivial⟩
   |ok te' =>
    rw[ht] at h
    simp only at h
    cases hn:rvN (f::sc) nd with
    |error e2 =>
     rw[hn] at h
     simp only at h
     injection h with h;subst h
     exact⟨.inr (OF nd _ _ hn h28),trivial⟩
    |ok nd'=>rw[hn] at h;cases h
  ·rw[if_neg h3] at h
   cases hn:rvN (f::sc) nd with
   |error e2 =>
    rw[hn] at h
    simp only at h
    injection h with h;subst h
    exact⟨.inr (OF nd _ _ hn h28),trivial⟩
   |ok nd'=>rw[hn] at h;cases h
theorem BjS:∀(s:Sm) (sc:Scp) (f:Frm1) (t:Sm),rvM sc f s=.ok t->Ce f t=Ce f s
 |.mk kd at_ nm sl te nd,sc,f,t,h=>by
  rw[rvM] at h
  by_cases h3:kd=3
  ·rw[if_pos h3] at h
   cases ht:rvN (f::sc) te with
   |error e=>rw[ht] at h;cases h
   |ok te' =>
    rw[ht] at h
    simp only at h
    cases hn:rvN (f::sc) nd with
    |error e=>rw[hn] at h;cases h
    |ok nd' =>
     rw[hn] at h
     injection h with h;subst h
     rw[II,II,if_neg (by omega),if_neg (by omega)]
  ·rw[if_neg h3] at h
   cases hn:rvN (f::sc) nd with
   |error e=>rw[hn] at h;cases h
   |ok nd' =>
    rw[hn] at h
    injection h with h;subst h
    have c:=(M9 _ _).1 (Ct nd (f::sc) nd' hn).2
    rw[II,II,c.2.1]
end
theorem WW(nm:List UInt8)(f:Frm1):∀sc:Scp,(Bp nm (sc++[f])=none)↔(Bp nm sc=none/\B3 nm f=none)
 | []=>by
  simp only[List.nil_append,Bp,true_and]
  cases B3 nm f with
  |none=>simp
  |some y=>simp
 |g::r=>by
  rw[List.cons_append,Bp,Bp]
  cases B3 nm g with
  |some y=>simp
  |none =>
   simp only[Option.map_eq_none_iff]
   exact WW nm f r
def Bbm(f:Frm1)(nm:List UInt8):Bool:=(B3 nm f).isNone
mutual
theorem Oa(f:Frm1):∀(n:Nd) (sc:Scp),fnN (sc++[f]) n=(fnN sc n).filter (Bbm f)
 |.mk kd _ _ tx _ _ _ ki bo _ _ _,sc=>by
  rw[fnN,fnN,Ba7 f ki sc,Bb0 f bo sc [],List.filter_append,List.filter_append]
  congr 1
  split
  ·have h:=WW tx f sc
   cases h1:Bp tx sc with
   |none =>
    cases h2:B3 tx f with
    |none =>
     rw[h.2 ⟨h1,h2⟩]
     simp[Bbm,h2]
    |some y =>
     cases h3:Bp tx (sc++[f]) with
     |none=>have:=(h.1 h3).2;rw[h2] at this;cases this
     |some z=>simp[Bbm,h2]
   |some y =>
    cases h3:Bp tx (sc++[f]) with
    |none=>have:=(h.1 h3).1;rw[h1] at this;cases this
    |some z=>rfl
  ·rfl
theorem Ba7(f:Frm1):∀(l:List Nd) (sc:Scp),fnL (sc++[f]) l=(fnL sc l).filter (Bbm f)
 | [],_=>by rw[fnL,fnL];rfl
 |x::r,sc=>by rw[fnL,fnL,Oa f x sc,Ba7 f r sc,List.filter_append]
theorem Bb0(f:Frm1):∀(l:List Sm) (sc:Scp) (g:Frm1),fnB (sc++[f]) g l=(fnB sc g l).filter (Bbm f)
 | [],_,_=>by rw[fnB,fnB];rfl
 |s::r,sc,g=>by
  have h:=Bie f s (g::sc)
  rw[List.cons_append] at h
  rw[fnB,fnB,h,Bb0 f r sc _,List.filter_append]
theorem Bie(f:Frm1):∀(s:Sm) (sc:Scp),fnM (sc++[f]) s=(fnM sc s).filter (Bbm f)
 |.mk kd _ _ _ te nd,sc=>by
  rw[fnM,fnM,Oa f te sc,Oa f nd sc,List.filter_append]
  congr 1
  split<;>rfl
end
theorem Wm{x:List UInt8}(f:Frm1):Bbm f x=false↔x∈nmF f:=by
 unfold Bbm nmF
 cases h:B3 x f with
 |none =>
  have:=MX.1 h
  simp only[Option.isNone_none,Bool.true_eq_false,List.mem_map,false_iff,not_exists,not_and]
  exact fun d hd e=>this d hd e
 |some y =>
  obtain ⟨i,c⟩:=y
  obtain ⟨h1,h2⟩:=Oz h
  simp only[Option.isNone_some,List.mem_map,true_iff]
  refine⟨f.getD i ([],0),?_,by rw[h2]⟩
  rw[List.getD_eq_getElem?_getD,List.getElem?_eq_getElem h1]
  exact List.getElem_mem h1
theorem BbB{n:Nd}(hd:BD n 60=false)(f:Frm1):(CJ n).all (fun x=>(nmF f).contains x)=decide (fnN [f] n=[]):=by
 have e:CJ n=EA (EY (fnN [] n)):=by rw[CJ,hd,if_neg (by decide)]
 have h:=Oa f n []
 rw[List.nil_append] at h
 rw[Bool.eq_iff_iff,List.all_eq_true,decide_eq_true_iff,h,List.filter_eq_nil_iff,e]
 have m:∀x,x∈EA (EY (fnN [] n))↔x∈fnN [] n:=fun x=>by rw[Bbo];simp[EY]
 constructor
 ·intro k x hx
  have:=k x ((m x).2 hx)
  rw[List.contains_iff_mem] at this
  rw[(Wm f).2 this]
  decide
 ·intro k x hx
  have:=k x ((m x).1 hx)
  rw[List.contains_iff_mem,<- Wm f]
  simpa using this
theorem BeI:∀(l:List Sm) (f:Frm1),(∀s∈l,s.kd≠3/\BD s.nd 60=false)->clB (nmF f) l=decide (fnB [] f l=[])
 | [],f,_=>by rw[clB,fnB];rfl
 |s::r,f,h=>by
  obtain ⟨h1,h2⟩:=h s (by simp)
  have e:(if s.kd=2 then nmF f++[s.nm] else nmF f)=nmF (Ce f s):=by
   unfold Ce
   split
   ·simp[nmF]
   ·rfl
  rw[clB,fnB,e,BeI r (Ce f s) fun t ht=>h t (by simp[ht]),BbB h2,Ban,if_neg h1,List.nil_append,Bool.eq_iff_iff,Bool.and_eq_true,decide_eq_true_iff,decide_eq_true_iff,decide_eq_true_iff,List.append_eq_nil_iff]
theorem Bbp:∀ {l:List Sm} {names:List (List UInt8)},B5 false names l=true->∀s∈l,s.kd≠3
 |s::l,names,h,t,ht=>by
  rw[B5,Bool.and_eq_true] at h
  rcases List.mem_cons.1 ht with rfl | ht
  ·intro q
   have:=((TB h.1).2 q).1
   cases this
  ·exact Bbp h.2 t ht
theorem BaH{l:List Sm}(h:BP l=0):B5 false [] l=true/\∀s∈l,BD s.nd 60=false:=by
 unfold BP at h
 split at h
 ·omega
 ·split at h
  ·omega
  ·rename_i hdp
   split at h
   ·omega
   ·split at h
    ·rename_i hv
     rw[Bool.and_eq_true] at hv
     have hb:=hv.1
     unfold CA at hb
     rw[Bool.and_eq_true] at hb
     refine⟨hb.2,fun s hs=>?_⟩
     have h1:=Mf (List.mem_flatMap.2 ⟨s,hs,(show s.nd∈Bg s by unfold Bg;split<;>simp)⟩)
     rw[<- G4] at h1
     unfold BD
     rw[decide_eq_false_iff_not]
     omega
    ·omega
theorem BaV(l:List Sm):BP l≠28:=by
 unfold BP
 split
 ·decide
 ·split
  ·decide
  ·split
   ·decide
   ·split<;>decide
theorem BcX(l:List Sm)(h:(pgF l).1=0\/(pgF l).1=28):clB [] l=decide ((pgF l).1=0):=by
 unfold pgF rvP at h ⊢
 by_cases hr:BP l≠0
 ·simp only[if_pos hr] at h
  rcases h with h | h
  ·exact (hr h).elim
  ·exact (BaV l h).elim
 ·simp only[if_neg hr] at h ⊢
  have hr:BP l=0:=by omega
  obtain ⟨h1,h2⟩:=BaH hr
  have e:=BeI l [] fun s hs=>⟨Bbp h1 s hs,h2 s hs⟩
  rw[show nmF []=([]:List (List UInt8)) from rfl] at e
  rw[e]
  cases hB:rvB [] [] l with
  |ok z=>rw[UD l [] [] z false [] h1 hB];rfl
  |error er =>
   rw[hB] at h
   simp only at h ⊢
   rcases h with h | h
   ·exact (TV l [] [] er hB h).elim
   ·have:=Wn l [] [] er hB h
    have hne:fnB [] [] l≠[]:=fun q=>by rw[q] at this;cases this
    simp[hne,h]
theorem BlR{L:List (List UInt8)}{i:Nat}(hi:i<L.length):L.drop i=L.getD i []::L.drop (i+1):=by
 rw[List.drop_eq_getElem_cons hi]
 simp[List.getD_eq_getElem?_getD,hi]
noncomputable def Ewi(L Dn:List (List UInt8)):Senv:={ EC CM 34 2 [4,5,6,7,11,17,33] (fun id=>match id with | 8=>([0,1,2,3,4,5,6,7,8,9,10,11,12],[]) | _=>([],[])) with
 ann:=fun b env S=>match b with
  |0=>some { slots:=[5],keep:=[0,1],α:=Nat,st:=fun i=>([.int .i64 (i:Nat)],S),inv:=fun i=>WiI L Dn i,mu:=fun i=>L.length-i }
  |2=>some { slots:=[7,6],keep:=[0,1,5],α:=Nat,st:=fun k=>([.int .i64 (k:Nat),.bool (inB (Dn.take k) (L.getD (Wy (Ab.look env 5)) []))],S),inv:=fun k=>k<=Dn.length,mu:=fun k=>Dn.length-k }
  |_=>none }
theorem BgH{Dn:List (List UInt8)}{k:Nat}(hk:k<Dn.length)(x:List UInt8):inB (Dn.take (k+1)) x=(inB (Dn.take k) x||x==Dn.getD k []):=by
 unfold inB
 rw[List.take_succ_eq_append_getElem hk,List.getD_eq_getElem?_getD,List.getElem?_eq_getElem hk,Bool.eq_iff_iff,Bool.or_eq_true,List.contains_iff_mem,List.contains_iff_mem,List.mem_append,List.mem_singleton,beq_iff_eq]
 rfl
def YH(a:Nat)(b c:List (List UInt8))(d:Nat):Bool:=inB (List.take a b) (List.getD c (Wy (ZI (↑d:Int))) [])
def Qd9(a:Nat)(b c:List (List UInt8))(d:Nat):Bool:=bif YH a b c d then true else List.getD c (Int.toNat (↑d:Int)) []==List.getD b (Int.toNat (↑a:Int)) []
def Qub(a:List (List UInt8)):D:=D.sl N1 (LN a) (fun i=>[D.str (List.getD a i [])]) Mode.any
def QaJ(a:List (List UInt8)):Prop:=SM (Qub a)
theorem BlU(L Dn:List (List UInt8))(hL:L.length<=1000000000)(hD:Dn.length<=1000000000):CD 18 [ssl L .any,ssl Dn .any] (.bool (L.all (inB Dn))):=by
 refine Bi (A:=sC _ _) (x:=()) (E:=Ewi L Dn) (eOk BE rfl) Tryz.func18 rfl (by kernel_rfl) rfl (by simp[sC,Ewi,EC,E0]) ?_
 refine Bj (T :=
  (∃(x:Nat),WiI L Dn x/\(Z0=(↑x:Int)/\True)/\True/\True)/\∀(x:Nat),WiI L Dn x->ifB (decide ((↑x:Int)<(LI L))) ((∃(x_1:Nat),x_1<=LN Dn/\(Z0=(↑x_1:Int)/\false=YH x_1 Dn L x/\True)/\True/\True)/\∀(x_1:Nat),x_1<=LN Dn->ifB (decide ((↑x_1:Int)<(LI Dn))) (ifB (YH x_1 Dn L x) (true=Qd9 x_1 Dn L x/\True) (Bd (Z0<=(↑x:Int)/\(↑x:Int)<(LI L)) (Bd (Z0<=(↑x_1:Int)/\(↑x_1:Int)<(LI Dn)) ((List.getD L (Int.toNat (↑x:Int)) []==List.getD Dn (Int.toNat (↑x_1:Int)) [])=Qd9 x_1 Dn L x/\True)))/\(QaJ L/\QaJ Dn/\SM (ZI (↑x:Int))/\True)/\∃(y:Nat),y<=LN Dn/\LN Dn-y<LN Dn-x_1/\(IntKind.wrap IntKind.i64 ((↑x_1:Int)+Z1)=(↑y:Int)/\Qd9 x_1 Dn L x=YH y Dn L x/\True)/\True/\True) (ifB (!YH x_1 Dn L x) (RT (false=List.all L (inB Dn))) ((QaJ L/\QaJ Dn/\True)/\∃(y:Nat),WiI L Dn y/\LN L-y<LN L-x/\(IntKind.wrap IntKind.i64 ((↑x:Int)+Z1)=(↑y:Int)/\True)/\True/\True))) (RT (true=List.all L (inB Dn)))) (by kernel_rfl) ?_
 delta LI LN N1 SM Z0 Z1 ZI YH Qd9 Qub QaJ RT
 simp only[eq_self,Int.toNat_natCast,Bh,Bf,decide_eq_true_eq,decide_eq_false_iff_not,true_and,and_true,Bool.not_eq_true',Bool.not_eq_false',exists_const]
 have nx:∀x:Nat,Wy (.int .i64 (x:Int))=x:=fun x=>by simp[Wy]
 refine⟨⟨0,⟨Nat.zero_le _,by simp⟩,rfl⟩,fun x hI=>⟨fun hlt=>?_,fun hge=>?_⟩⟩
 ·have hx:x<L.length:=by omega
  rw[nx]
  have hd:=BlR hx
  have b1:(0:Int)<=(x:Int)/\(x:Int)<(L.length:Int):=⟨Int.natCast_nonneg x,hlt⟩
  refine⟨⟨0,Nat.zero_le _,rfl,by simp[inB]⟩,fun k hk=>⟨fun hlk=>⟨⟨fun h=>by rw[h];rfl,fun h=>⟨b1,⟨Int.natCast_nonneg k,hlk⟩,by rw[h];rfl⟩⟩,k+1,by omega,by omega,Be (by omega) (by omega),?_⟩,fun hgk=>?_⟩⟩
  ·rw[BgH (by omega)]
   cases inB (List.take k Dn) (L.getD x [])<;>rfl
  ·have e:Dn.take k=Dn:=List.take_of_length_le (by omega)
   rw[e]
   refine⟨fun h=>?_,fun h=>⟨x+1,⟨hx,?_⟩,by omega,Be (by omega) (by omega)⟩⟩
   ·rw[hI.eq,hd,List.all_cons,h];rfl
   ·rw[hI.eq,hd,List.all_cons,h];rfl
 ·have e:L.drop x=[]:=List.drop_eq_nil_of_le (by omega)
  rw[hI.eq,e];rfl
def Bf6(l:List Sm):Con:=fun k ds S=>match k with
 |8=>some (pA ds S (pgD l) (ds=[.agg [gsl 34 Sm.row1 l]]))
 |16=>some (pE (β:=Nd) ds S (fun n=>ssl (CJ n) .any) (fun n=>isN n ds []/\n.sm/\szN n<=800000))
 |18=>some (pE (β:=List (List UInt8)×List (List UInt8)) ds S (fun x=>.bool (x.1.all (inB x.2))) (fun x=>wkL ds [ssl x.1 .any,ssl x.2 .any]/\x.1.length<=1000000000/\x.2.length<=1000000000))
 |12=>some (pA ds S (.bool true) (ds=[]))
 |_=>none
theorem Bgu(hk:CD 12 [] (.bool true)){l:List Sm}(hl:okS l):ConOk Tryz.prog (Bf6 l):=by
 intro k ds S A hh
 unfold Bf6 at hh
 split at hh
 ·injection hh with hh;subst hh
  exact Bs fun e=>by rw[e];exact CD.at_ (BeC l hl.1 hl.2.1 hl.2.2) _
 ·injection hh with hh;subst hh
  exact Cl fun n ⟨e,h1,h2⟩=>CD.at_ (CD.wk (Bj8 n h1 (by omega)) e) _
 ·injection hh with hh;subst hh
  exact Cl fun x ⟨e,h1,h2⟩=>CD.at_ (CD.wk (BlU x.1 x.2 h1 h2) e) _
 ·injection hh with hh;subst hh
  exact Bs fun e=>by rw[e];exact CD.at_ hk _
 ·cases hh
theorem BjC(D:List (List UInt8))(t:Nat):wkD (ssl D (.tok 0 t)) (ssl D .any):=by
 simp only[ssl,wkD]
 exact Ba.2 ⟨by simp,trivial,fun _ _=>Bc _,by simp[BB]⟩
theorem Bd8:∀ {l:List Sm} {s:Sm},s∈l->szM s<=szB l
 |a::l,s,h=>by
  rw[szB]
  rcases List.mem_cons.1 h with rfl | h
  ·omega
  ·have:=Bd8 h
   omega
noncomputable def Elc(l:List Sm):Senv:={ EC (Bf6 l) 65 3 [4,5,6,7,20,26,47] (fun _=>([],[])) with
 gh:=fun b=>match b with
  |0=>[.slot 100005]
  |_=>[]
 ann:=fun b _env S=>match b with
  |0=>some { slots:=[7,6,5],keep:=[1,4],α:=Nat×Bool×List (List UInt8)×Nat,st:=fun y=>([.int .i64 (y.1:Nat),.bool y.2.1,ssl y.2.2.1 (.tok 0 y.2.2.2)],⟨S.objs,[(0,y.2.2.2)]⟩),inv:=fun y=>ClI l y.1 y.2.1 y.2.2.1,mu:=fun y=>l.length-y.1 }
  |_=>none }
def Qqo:Arr:=DA
def Qea:Nd:=Nd.mk Z0 Z0 Z0 [] Z0 Z0 Qqo [] [] Z0 Z0 Z0
def QaK:Sm:=Sm.mk Z0 Z0 [] Z0 Qea Qea
def Qqp(a:List Sm)(b:Nat):List D:=Sm.row1 (List.getD a b QaK)
def Quc(a:List Sm):List D:=[D.agg [D.sl 34 (LN a) (fun i=>Qqp a i) Mode.any]]
def XX(a:List Sm):Int:=Prod.fst (pgF a)
def Qeb(a:List Sm):Bool:=bif XX a != Z0 then XX a != (28:Int) else false
def Qqq:Prop:=∃(_x:Unit),Cw (List D) [] []/\∀(_y:Unit),True->True/\∃(_y:Unit),True/\SM true/\True/\True
def XY(a:List Sm)(b:Nat)(c:Bool)(d:List (List UInt8)):Prop:=ClI a b c d
def VP(a:List (List UInt8))(b:Nat):List D:=[D.str (List.getD a b [])]
def Qqr:Prop:=SM N0/\(∀(i:Nat),i<N0->Cw (List D) [] [])/\True
def Qud(a:List Sm)(b:Nat):List D:=Sm.row1 (List.getD (pgB a) b QaK)
def YI(a:Nat)(b:List Sm)(c d e f:Nat):Prop:=(SM a/\(SM (XX b)/\SM (Prod.fst (Prod.snd (pgF b)))/\Qqr/\Qqr/\SM (Prod.snd (Prod.snd (pgF b)))/\True)/\SM c/\((SM (LN (pgB b))/\(∀(i:Nat),i<LN (pgB b)->SM (Qud b i))/\True)/\SM (pgN b)/\True)/\SM d/\((SM (LN b)/\(∀(i:Nat),i<LN b->SM (Qqp b i))/\True)/\True)/\True)/\e=f/\True
def Qec(a:List Sm)(b:Nat):Sm:=List.getD a (Int.toNat (↑b:Int)) QaK
def Jo(a:List Sm)(b:Nat):Nd:=Sm.nd (Qec a b)
def QaL(a:List Sm)(b:Nat):Arr:=Nd.va (Jo a b)
def Que(a:List Sm)(b:Nat):List Int:=Arr.sh (QaL a b)
def Quf(a:List Sm)(b:Nat):List Int:=Arr.nu (QaL a b)
def Qqs(a:List Sm)(b:Nat):List Arr:=Arr.it (QaL a b)
def Qqt(a:List Sm)(b:Nat):List Nd:=Nd.ki (Jo a b)
def Qqu(a:List Sm)(b:Nat):List Sm:=Nd.bo (Jo a b)
def Qqv(a:List (List UInt8)):D:=D.sl N1 (LN a) (fun i=>VP a i) Mode.any
def Qqw(a:List Sm)(b:Nat):Bool:=Sm.kd (Qec a b)==2
def QaM(a b:Nat):Prop:=SM (D.ref N0 a N0)/\SM (D.ref (max N2 (max (N0+N1) N0)) b N0)/\True
def QaN(a b:Nat):Prop:=IntKind.wrap IntKind.i64 ((↑a:Int)+Z1)=(↑b:Int)
def Qqx(a b:List (List UInt8))(c:List Sm)(d e f:Nat):Prop:=(LN a+N1=LN b/\(∀(i:Nat),i<LN a+N1->Br (LN a) (fun i=>VP a i) (fun i=>[D.str (List.getD [Sm.nm (Qec c d)] i [])]) i=VP b i)/\e=f)/\True
def Qqy(a b:List (List UInt8))(c d:Nat):Prop:=(LN a=LN b/\(∀(i:Nat),i<LN a->VP a i=VP b i)/\c=d)/\True
theorem Bbn(hk:CD 12 [] (.bool true))(l:List Sm)(hl:okS l)(hz:szB l<=800000):CD 6 [.agg [gsl 34 Sm.row1 l]] (.bool true):=by
 refine Bi (A:=sC _ _) (x:=()) (E:=Elc l) (eOk (Bgu hk hl) rfl) Tryz.func6 rfl (by kernel_rfl) rfl (by simp[sC,Elc,EC,E0]) ?_
 refine Bj (T :=
  ∀(x:Nat),True->SM x/\∃(x_1:Unit),SM (Quc l)/\∀(y:Unit),True->∀(x_2:Nat),x≠x_2/\True->∀(x_3:Nat),x_2≠x_3/\x≠x_3/\True->SM x_2/\SM x_3/\(SM x_3/\ifB (XX l != Z0) (SM x_3/\(XX l != (28:Int))=Qeb l/\True) (false=Qeb l/\True))/\ifB (Qeb l) Qqq (∀(t:Nat),(∃(x_4:Nat×Bool×List (List UInt8)×Nat),XY l x_4.1 x_4.2.1 x_4.2.2.1/\(Z0=(NI x_4.1)/\true=x_4.2.1/\(N0=LN x_4.2.2.1/\(∀(i:Nat),i<N0->Cw (List D) [] (VP x_4.2.2.1 i))/\t=x_4.2.2.2)/\True)/\YI x_3 l x_2 x t x_4.2.2.2)/\∀(x_4:Nat×Bool×List (List UInt8)×Nat),XY l x_4.1 x_4.2.1 x_4.2.2.1->SM x/\ifB (decide ((NI x_4.1)<(LI l))) (ifB x_4.2.1 (SM x/\Bd (Z0<=(NI x_4.1)/\(NI x_4.1)<(LI l)) (∃(x_5:Nd),(isN x_5 [D.agg [ZI (Nd.kd (Jo l x_4.1)),ZI (Nd.at_ (Jo l x_4.1)),ZI (Nd.cl (Jo l x_4.1)),D.str (Nd.tx (Jo l x_4.1)),ZI (Nd.pr (Jo l x_4.1)),ZI (Nd.op (Jo l x_4.1)),ZI (Arr.k (QaL l x_4.1)),SI (Que l x_4.1),SI (Quf l x_4.1),D.sl N4 (LN (Qqs l x_4.1)) (fun i=>Arr.row (List.getD (Qqs l x_4.1) i Qqo)) Mode.any,D.sl 15 (LN (Qqt l x_4.1)) (fun i=>Nd.row (List.getD (Qqt l x_4.1) i Qea)) Mode.any,D.sl 34 (LN (Qqu l x_4.1)) (fun i=>Sm.row (List.getD (Qqu l x_4.1) i QaK)) Mode.any,ZI (Nd.de (Jo l x_4.1)),ZI (Nd.sl (Jo l x_4.1)),ZI (Nd.ss (Jo l x_4.1))]] []/\Nd.sm x_5/\szN x_5<=800000)/\∀(y:Unit),True->∃(x_6:List (List UInt8)×List (List UInt8)),(wkL [D.sl N1 (LN (CJ x_5)) (fun i=>[D.str (List.getD (CJ x_5) i [])]) Mode.any,D.sl N1 (LN x_4.2.2.1) (fun i=>VP x_4.2.2.1 i) (Mode.tok N0 x_4.2.2.2)] [Qqv x_6.1,Qqv x_6.2]/\LN x_6.1<=1000000000/\LN x_6.2<=1000000000)/\∀(y:Unit),True->SM x/\Bd (Z0<=(NI x_4.1)/\(NI x_4.1)<(LI l)) (ifB (Qqw l x_4.1) (SM x/\Bd (Z0<=(NI x_4.1)/\(NI x_4.1)<(LI l)) (SM x_4.2.2.2/\Bd ((LN x_4.2.2.1+N1)*16<=140737488355328/\LN x_4.2.2.1+N1<=9223372036854775807) (∀(t:Nat),QaM x x_3/\∃(y:Nat×Bool×List (List UInt8)×Nat),XY l y.1 y.2.1 y.2.2.1/\LN l-y.1<LN l-x_4.1/\(QaN x_4.1 y.1/\List.all x_6.1 (inB x_6.2)=y.2.1/\Qqx x_4.2.2.1 y.2.2.1 l x_4.1 t y.2.2.2)/\YI x_3 l x_2 x t y.2.2.2))) (QaM x x_3/\∃(y:Nat×Bool×List (List UInt8)×Nat),XY l y.1 y.2.1 y.2.2.1/\LN l-y.1<LN l-x_4.1/\(QaN x_4.1 y.1/\List.all x_6.1 (inB x_6.2)=y.2.1/\Qqy x_4.2.2.1 y.2.2.1 x_4.2.2.2 y.2.2.2)/\YI x_3 l x_2 x x_4.2.2.2 y.2.2.2)))) (SM x/\Bd (Z0<=(NI x_4.1)/\(NI x_4.1)<(LI l)) (ifB (Qqw l x_4.1) (SM x/\Bd (Z0<=(NI x_4.1)/\(NI x_4.1)<(LI l)) (SM x_4.2.2.2/\Bd ((LN x_4.2.2.1+N1)*16<=140737488355328/\LN x_4.2.2.1+N1<=9223372036854775807) (∀(t:Nat),QaM x x_3/\∃(y:Nat×Bool×List (List UInt8)×Nat),XY l y.1 y.2.1 y.2.2.1/\LN l-y.1<LN l-x_4.1/\(QaN x_4.1 y.1/\false=y.2.1/\Qqx x_4.2.2.1 y.2.2.1 l x_4.1 t y.2.2.2)/\YI x_3 l x_2 x t y.2.2.2))) (QaM x x_3/\∃(y:Nat×Bool×List (List UInt8)×Nat),XY l y.1 y.2.1 y.2.2.1/\LN l-y.1<LN l-x_4.1/\(QaN x_4.1 y.1/\false=y.2.1/\Qqy x_4.2.2.1 y.2.2.1 x_4.2.2.2 y.2.2.2)/\YI x_3 l x_2 x x_4.2.2.2 y.2.2.2)))) (SM x_3/\ifB (x_4.2.1==(XX l==Z0)) Qqq (RT (false=true))))) (by kernel_rfl) ?_
 delta DA GI LI LN N0 N1 N2 N4 NI SI SM Z0 Z1 ZI Qeb Qqq XY VP Qqr Qud YI Qec Jo QaL Que Quf Qqs Qqt Qqu Qqv Qqw QaM QaN Qqx Qqy Qqo Qea QaK Qqp Quc XX RT
 try simp only[<- dm]
 try simp only[<- dn]
 simp only[ne_eq,implies_true,Int.toNat_natCast,Bh,Bf,decide_eq_true_eq,decide_eq_false_iff_not,true_and,and_true,beq_iff_eq,bne_iff_ne,bne_eq_false_iff_eq,beq_eq_false_iff_ne,exists_const,forall_const,Prod.exists]
 obtain ⟨hl1,hl2,hl3⟩:=hl
 have hlB:=T3 l
 refine fun x x2 _ x3 _=>⟨⟨fun h=>by simp[h],fun h=>by simp[h]⟩,fun hc t=>⟨⟨0,true,[],t,⟨Nat.zero_le _,Nat.le_refl _,by simp⟩,⟨rfl,rfl,rfl,fun _ h=>absurd h (Nat.not_lt_zero _),rfl⟩,rfl⟩,?_⟩⟩
 rintro ⟨i,a,Df,t1⟩ hI
 simp only at hI ⊢
 have hdl:=hI.dl
 have hile:=hI.le
 refine⟨fun hlt=>?_,fun hge hne=>?_⟩
 ·have hi:i<l.length:=by omega
  have b1:(0:Int)<=(i:Int)/\(i:Int)<(l.length:Int):=⟨Int.natCast_nonneg i,hlt⟩
  have hw:IntKind.i64.wrap ((i:Int)+1)=((i+1:Nat):Int):=Be (by omega) (by omega)
  have hmem:=E6 hi
  have hsm:(l.getD i default).nd.sm:=by
   have:=hl3 _ hmem
   generalize l.getD i default=s at this ⊢
   cases s with
   |mk kd at_ nm sl te nd=>simp only[Sm.sm] at this;exact this.2.2
  have hsz:szN (l.getD i default).nd<=800000:=by
   have h1:szM (l.getD i default)<=szB l:=Bd8 hmem
   have h2:szN (l.getD i default).nd<=szM (l.getD i default):=by
    generalize l.getD i default=s
    cases s with
    |mk kd at_ nm sl te nd=>simp only[szM,Sm.nd];split<;>omega
   omega
  have hfl:(CJ (l.getD i default).nd).length<=1000000000:=by
   rw[Bew]
   unfold EZ
   split
   ·simp
   ·have h1:=G5 (fnN [] (l.getD i default).nd) []
    have h2:=GP (l.getD i default).nd []
    simp only[List.length_nil] at h1
    omega
  have sz:(Df.length+1)*16<=140737488355328/\Df.length+1<=9223372036854775807:=⟨by omega,by omega⟩
  have he:=hI.eq
  rw[Bt hi,clB] at he
  have app:∀j,j<Df.length+1->Br Df.length (fun i=>[D.str (Df.getD i [])]) (fun j=>[D.str ([(l.getD i default).nm].getD j [])]) j=[D.str ((Df++[(l.getD i default).nm]).getD j [])]:=fun j hj=>Bde (L:=Df) (r:=[(l.getD i default).nm]) (by simp) (fun _ _=>rfl) (fun _ _=>rfl) j hj
  have st2:∀b:Bool,(l.getD i default).kd=2->b=(a&&(CJ (l.getD i default).nd).all (inB Df))->ClI l (i+1) b (Df++[(l.getD i default).nm]):=fun b h2 hb=>⟨hi,by simp;omega,by
   rw[he,if_pos h2,hb,Bool.and_assoc];rfl⟩
  have st1:∀b:Bool,(l.getD i default).kd≠2->b=(a&&(CJ (l.getD i default).nd).all (inB Df))->ClI l (i+1) b Df:=fun b h2 hb=>⟨hi,by omega,by
   rw[he,if_neg h2,hb,Bool.and_assoc];rfl⟩
  refine⟨fun ha=>?_,fun ha=>?_⟩
  ·exact⟨b1,_,⟨B1 _ _,hsm,hsz⟩,CJ (l.getD i default).nd,Df,⟨⟨Bb _,BjC Df t1,trivial⟩,hfl,by omega⟩,b1,fun h2=>⟨b1,sz,fun t2=>⟨i+1,_,Df++[(l.getD i default).nm],t2,st2 _ h2 (by rw[ha];rfl),by omega,⟨hw,rfl,by simp,app,rfl⟩,rfl⟩⟩,fun h2=>⟨i+1,_,Df,t1,st1 _ h2 (by rw[ha];rfl),by omega,⟨hw,rfl,rfl,fun _ _=>rfl,rfl⟩,rfl⟩⟩
  ·exact⟨b1,fun h2=>⟨b1,sz,fun t2=>⟨i+1,false,Df++[(l.getD i default).nm],t2,st2 _ h2 (by rw[ha];rfl),by omega,⟨hw,rfl,by simp,app,rfl⟩,rfl⟩⟩,fun h2=>⟨i+1,false,Df,t1,st1 _ h2 (by rw[ha];rfl),by omega,⟨hw,rfl,rfl,fun _ _=>rfl,rfl⟩,rfl⟩⟩
 ·exfalso
  apply hne
  have e:l.drop i=[]:=List.drop_eq_nil_of_le (by omega)
  have h1:=hI.eq
  rw[e,clB,Bool.and_true] at h1
  rw[<- h1,BcX l ?_]
  ·rfl
  ·by_cases h0:(pgF l).1=0
   ·exact .inl h0
   ·right
    have e0:((pgF l).1 != 0)=true:=by simpa using h0
    rw[e0] at hc
    simpa using hc
theorem BkZ{W:World}{hG:G0 W}{H:Type}{enc:TypeId×Value->H}(m:Nat)(l:List Sm)(cs:List Value)(x:DataW H×List MemPlace)(h:DataW.trod enc Tryz.prog W 0 (fun _=>true) true m 24 cs=some x)(hr:RepL (Ew W hG) [lsl 34 (l.map Sm.row)] cs):2*szB l<=Rows.uptoBulk x.1:=by
 cases m with
 |zero=>simp[DataW.trod] at h
 |succ m =>
  obtain ⟨xs,hb,hf⟩:=MM Tryz.underlying24 h
  obtain ⟨y,a,b⟩:=hf 0 _ rfl
  have c:Tryz.prog.cellsOf 22=1:=by kernel_rfl
  have b:DataW.trod enc Tryz.prog W 0 (fun _=>true) true m 22 ((cs.drop 0).take (Tryz.prog.cellsOf 22))=some y:=b
  rw[c,List.drop_zero] at b
  obtain ⟨v,e,q⟩:=Cq hr
  subst e
  cases m with
  |zero=>simp[DataW.trod] at b
  |succ m =>
   have k:=Tl (f:=fun a=>2*szM a) (w:=34) (g:=Sm.row) Ri Tryz.underlying22 (by kernel_rfl) l (fun a _ cs x hx hr=>BgO (fun j _=>BhM j) a cs x hx hr) b q
   rw[RF] at k
   have:=U1 a
   rw[hb]
   omega
noncomputable def BjN:Array Value:=#[.agg #[.slice none 0 0]]
theorem Bfu(os:Os):laidMet Tryz.prog UZ ((Gb os).forCall (fun _ _=>0) ⟨#[],BjN,[]⟩).memory :=
 ⟨[],(by first | exact .nil | constructor | simp[DataW.LaidVars,UZ]),List.nodup_nil,fun _ _ h=>(by cases h)⟩
theorem Bk1(os:Os){H:Type}(enc:TypeId×Value->H):∃x,DataW.whole enc Tryz.prog ((Gb os).forCall (fun _ _=>0) ⟨#[],BjN,[]⟩).memory [24] [] false (BjN).toList 8=some x/\Rows.uptoSmall H (x.1++x.2.1)=true :=
 Rj (by kernel_rfl)
theorem BfN{H : Type}{enc : TypeId×Value -> H}
  (W:World) (base:Nat) (args:Array Value) (ds gs:List (DataW H)) (before:List MemPlace)
  (hval:∀(j:Nat) t v,Tryz.f6.params[j]? =some t->args[j]? =some v->Value.okWide Tryz.prog W .any base t v)
  (hW:DataW.Whole enc Tryz.prog Tryz.f6.params.toList Rows.resolveClosedSpec.vars false W args.toList ds gs before)
  (hsz:(DataW.weightsEach Tryz.prog (Tryz.f6.params.toList++Rows.resolveClosedSpec.plain.varTypes Tryz.prog) (ds++gs)).all (·<=BU)=true) (hL:laidMetH Tryz.prog UZ W) (hk:Rows.uptoSmall H (ds++gs)=true) :
  Calls Tryz.prog 6 args W fun e W'=>∃v,e=.returned v/\Rows.resolveClosedSpec.post enc Tryz.prog Tryz.f6 false true false false W args v W':=by
 refine Ib (rs:=[(24,RPg)]) laid (by rw[Tryz.params6];kernel_rfl) rfl (fun ds hd=>?_) (rt:=4) rfl Tryz.underlying4 (by rw[Tryz.params6];rfl) ?_ W (T1 hL) base args ds gs before hval hW hsz ?_
 ·rw[Tryz.params6] at hd
  match ds,hd with
  | [_],_=>exact⟨rfl,rfl,rfl⟩
 ·intro r hr
  simp only[List.mem_cons,List.not_mem_nil,or_false] at hr
  subst hr
  exact fun W n=>BiP W n
 ·intro Ds h hrep
  obtain ⟨dx,_,rfl,hx,h⟩:=h.agg (by kernel_rfl)
  obtain rfl:=h.nil
  obtain ⟨x,hokx,rfl⟩:=hx
  have hsz2:2*szB x<=1048576:=by
   obtain ⟨p,q,hA,_⟩:=hW
   rw[Tryz.params6] at hA
   obtain ⟨v,hv,hr⟩:=Cq hrep
   rw[hv] at hA
   simp only[Rep] at hr
   obtain ⟨vs,rfl,hr⟩:=hr
   match ds,hA with
   | [d],hA =>
    obtain ⟨p1,p2,⟨fuel,ht⟩,_,_⟩:=hA
    rw[Cc] at hr
    have h1:=BkZ (hG:=T1 hL) fuel x _ _ ht hr
    have h2:Rows.uptoBulkAll ([d]++gs)<=1048576:=of_decide_eq_true hk
    simp only[List.cons_append,Rows.uptoBulkAll] at h2
    simp only at h1
    omega
  exact (CD.isP (Bbn Bkz x hokx (by omega)) (Bc _)).mono fun r S' ⟨_,_,hr,_⟩=>hr
theorem Bjt(os : Os)(started : os.Started)(H : Type)(enc : TypeId×Value -> H)(F : Stop.Interp) :
  ReturnsInHanded {} Tryz.checked os 6 .any ((Rows.OpenSpec.upto Rows.resolveClosedSpec).preRow enc Tryz.prog Tryz.f6 Rows.resolveClosedUptoRow.domain false Rows.resolveClosedUptoRow.laid) (((Rows.OpenSpec.upto Rows.resolveClosedSpec).at F).post enc Tryz.prog Tryz.f6 false true false false):=by
 obtain ⟨x,hx,hxk⟩:=Bk1 os enc
 refine returnsInHanded_of_row (C:=Tryz.checked) (s:=Rows.OpenSpec.upto Rows.resolveClosedSpec) own started (by kernel_rfl) Tryz.func6
  (witness_row_at (enc:=enc) (C:=Tryz.checked) false (Gb os) BjN rfl (by kernel_rfl) (by kernel_rfl) (by kernel_rfl)
   (OpenSpec.preRow_of_cond 8 hx rfl (fun k hk=>by cases hk;exact hxk) (by kernel_rfl) (Bfu os))) ?_
 intro W base args ds gs before hval hW _ hk _ hL _ _
 refine BfN W base args ds gs before hval hW ?_ hL (hk _ rfl)
 have e:Tryz.f6.params.toList++Rows.resolveClosedSpec.plain.varTypes Tryz.prog=[24]:=by rw[Tryz.params6];kernel_rfl
 rw[e]
 exact Bd7 Bkl (by decide +kernel) (hk _ rfl)
theorem Bl9:Rows.ResolveClosedUptoSaid :=
 OpenClaim.holds_of_cond 6 Tryz.f6 rfl rfl rfl rfl rfl rfl rfl ⟨rfl,rfl,rfl,rfl,rfl⟩ rfl rfl rfl rfl rfl (by kernel_rfl) Tryz.func6 (by kernel_rfl)
  (of_decide_eq_true (by kernel_rfl)) (by unfold Func.isWrapper;first | (rw[if_pos (by decide +kernel)];kernel_rfl) | (rw[if_neg (by decide +kernel)];exact⟨rfl,rfl⟩))
  (fun os started H enc _ F=>by rw[OpenClaim.pre_eq_preRow];exact Bjt os started H enc F)
theorem provedResolveClosed:Rows.ResolveClosedUptoSaid:=Bl9
end
end Go.Proofs.YtfbfnhbafjmnaaaGreat
