/- An abstract state over the worlds of the model, what each operation does to it, and the verification condition of code over it: proved for every program, without conditions. -/
import Derived.Test.YtfbfnhbafjmnaaaGreatAb2
namespace Go.Ab
open Go Go.RowKit
mutual
/-- No slice in it is said to be the call's own. -/
def Cn:D->Prop
 |.sl _ n f m=>(match m with | .full=>False | _=>True)/\∀i,i<n->B4 (f i)
 |.pt r=>B4 r
 |.agg l=>B4 l
 |.tup l=>B4 l
 |.iface _ d=>Cn d
 |.fn _ a c=>B4 a/\B4 c
 |_=>True
def B4:List D->Prop
 | []=>True
 |d::r=>Cn d/\B4 r
end
def Ru:D->Bool
 |.int _ _=>true
 |.str _=>true
 |.bool _=>true
 |_=>false
def M0:D->Bool
 |.sl _ _ _ _=>true
 |.nilp=>true
 |.ref _ _ _=>true
 |.pt _=>true
 |_=>false
def Bjo:Value->Bool
 |.slice _ _ _=>true
 |.pointer _=>true
 |_=>false
mutual
/-- Every row in it begins with a number,a text or a truth value. -/
def BT:D->Prop
 |.sl _ n f _=>∀i,i<n->It (f i)
 |.pt r=>It r
 |.agg l=>B6 l
 |.tup l=>B6 l
 |.iface _ d=>BT d
 |.fn _ a c=>B6 a/\B6 c
 |_=>True
def B6:List D->Prop
 | []=>True
 |d::r=>BT d/\B6 r
def It:List D->Prop
 | []=>True
 |d::r=>Ru d=true/\BT d/\B6 r
end
theorem BcB{C:Ctx}{d:D}{v:Value}(h:M0 d=true)(hr:Rep C d v):Bjo v=true:=by
 cases d<;>simp only[M0,Bool.false_eq_true] at h<;>simp only[Rep] at hr
 ·subst hr;rfl
 ·subst hr;rfl
 ·obtain ⟨b,o,rfl,_⟩:=hr;rfl
 ·obtain ⟨a,l,c,rfl,_⟩:=hr;rfl
theorem MW{C:Ctx}:∀ {ds:List D} {vs:List Value},ds.all M0=true->RepL C ds vs->∀v∈vs,Bjo v=true
 | [],vs,_,H,v,hv=>by simp only[RepL] at H;subst H;cases hv
 |d::ds,vs,h,H,v,hv=>by
  simp only[RepL] at H
  obtain ⟨y,ys,rfl,r1,r2⟩:=H
  simp only[List.all_cons,Bool.and_eq_true] at h
  rcases List.mem_cons.1 hv with rfl | hv
  ·exact BcB h.1 r1
  ·exact MW h.2 r2 v hv
theorem BgV{C:Ctx}{d:D}{v:Value}(h:Ru d=true)(hr:Rep C d v):Bjo v=false:=by
 cases d<;>simp only[Ru,Bool.false_eq_true] at h<;>simp only[Rep] at hr<;>subst hr<;>rfl
mutual
theorem Ui{C C2:Ctx}(hi:∀b o v,C.imm b o=some v->C2.imm b o=some v)(ht:C2.tok=C.tok):∀(d:D) (v:Value),Cn d->Rep C d v->Rep C2 d v
 |.unk,_,_,_=>by simp[Rep]
 |.bool b,v,_,H=>by simpa[Rep] using H
 |.int k n,v,_,H=>by simpa[Rep] using H
 |.str s,v,_,H=>by simpa[Rep] using H
 |.nilp,v,_,H=>by simpa[Rep] using H
 |.ref _ x o,v,_,H=>by simpa[Rep] using H
 |.pt row,v,hl,H=>by
  simp only[Rep,Cn] at hl H ⊢
  obtain ⟨b,o,e,r⟩:=H
  exact⟨b,o,e,Tg hi ht b o row hl r⟩
 |.sl w n f m,v,hl,H=>by
  simp only[Rep,Cn] at hl H ⊢
  obtain ⟨a,len,cap,e,⟨h1,h2,h3,h4,h5,h6⟩,r⟩:=H
  refine⟨a,len,cap,e,⟨h1,h2,h3,h4,h5,?_⟩,fun x hx i hi2=>⟨(r x hx i hi2).1,Tg hi ht _ _ (f i) (hl.2 i hi2) (r x hx i hi2).2⟩⟩
  cases m with
  |full=>exact hl.1.elim
  |tok k t=>simp only[ht] at h6 ⊢; exact h6
  |_=>exact h6
 |.ms _ x o len cap w,v,_,H=>by simpa[Rep] using H
 |.vs _ x len cap w,v,_,H=>by simpa[Rep] using H
 |.er _ x i w fo,v,_,H=>by simpa[Rep] using H
 |.nmap,v,_,H=>by simpa[Rep] using H
 |.map _ x,v,_,H=>by simpa[Rep] using H
 |.fn f a c,v,hl,H=>by
  simp only[Rep,Cn] at hl H ⊢
  obtain ⟨a',c',e,r1,r2⟩:=H
  exact⟨a',c',e,Ef hi ht a _ hl.1 r1,Ef hi ht c _ hl.2 r2⟩
 |.nilf,v,_,H=>by simpa[Rep] using H
 |.iface t d,v,hl,H=>by
  simp only[Rep,Cn] at hl H ⊢
  obtain ⟨x,e,r⟩:=H
  exact⟨x,e,Ui hi ht d x hl r⟩
 |.nili,v,_,H=>by simpa[Rep] using H
 |.agg cs,v,hl,H=>by
  simp only[Rep,Cn] at hl H ⊢
  obtain ⟨vs,e,r⟩:=H
  exact⟨vs,e,Ef hi ht cs _ hl r⟩
 |.tup cs,v,hl,H=>by
  simp only[Rep,Cn] at hl H ⊢
  obtain ⟨vs,e,r⟩:=H
  exact⟨vs,e,Ef hi ht cs _ hl r⟩
theorem Ef{C C2:Ctx}(hi:∀b o v,C.imm b o=some v->C2.imm b o=some v)(ht:C2.tok=C.tok):∀(ds:List D) (vs:List Value),B4 ds->RepL C ds vs->RepL C2 ds vs
 | [],vs,_,H=>by simpa[RepL] using H
 |d::ds,vs,hl,H=>by
  simp only[RepL,B4] at hl H ⊢
  obtain ⟨x,xs,e,r1,r2⟩:=H
  exact⟨x,xs,e,Ui hi ht d x hl.1 r1,Ef hi ht ds xs hl.2 r2⟩
theorem Tg{C C2:Ctx}(hi:∀b o v,C.imm b o=some v->C2.imm b o=some v)(ht:C2.tok=C.tok):∀(b o:Nat) (ds:List D),B4 ds->RepCells C b o ds->RepCells C2 b o ds
 |b,o,[],_,H=>by simp[RepCells]
 |b,o,d::ds,hl,H=>by
  simp only[RepCells,B4] at hl H ⊢
  obtain ⟨⟨v,e,r1⟩,r2⟩:=H
  exact⟨⟨v,hi _ _ _ e,Ui hi ht d v hl.1 r1⟩,Tg hi ht b (o+1) ds hl.2 r2⟩
end
structure Ctx.back (C2 C':Ctx) (x:Nat):Prop where
 w0:C'.w0.heap.size<=C2.w0.heap.size
 tok:C'.tok=C2.tok
 imm:∀b o,b≠x->C'.imm b o=C2.imm b o
 old:∀o v,C2.imm x o=some v->Bjo v=true
mutual
theorem If{C2 C':Ctx}{x:Nat}(h:C2.back C' x):∀(d:D) (v:Value),BT d->Rep C2 d v->Rep C' d v
 |.unk,_,_,_=>by simp[Rep]
 |.bool b,v,_,H=>by simpa[Rep] using H
 |.int k n,v,_,H=>by simpa[Rep] using H
 |.str s,v,_,H=>by simpa[Rep] using H
 |.nilp,v,_,H=>by simpa[Rep] using H
 |.ref _ x o,v,_,H=>by simpa[Rep] using H
 |.pt row,v,hl,H=>by
  simp only[Rep,BT] at hl H ⊢
  obtain ⟨b,o,e,r⟩:=H
  exact⟨b,o,e,Rp h b o row hl r⟩
 |.sl w n f m,v,hl,H=>by
  simp only[Rep,BT] at hl H ⊢
  obtain ⟨a,len,cap,e,⟨h1,h2,h3,h4,h5,h6⟩,r⟩:=H
  refine⟨a,len,cap,e,⟨h1,h2,h3,h4,h5,?_⟩,fun y hy i hi2=>⟨(r y hy i hi2).1,Rp h _ _ (f i) (hl i hi2) (r y hy i hi2).2⟩⟩
  have:=h.w0
  cases m with
  |full =>
   simp only at h6 ⊢
   obtain ⟨q1,y,q2,q3⟩:=h6
   exact⟨q1,y,q2,by omega⟩
  |tok k t=>simp only[h.tok] at h6 ⊢; exact h6
  |_=>exact h6
 |.ms _ x o len cap w,v,_,H=>by simpa[Rep] using H
 |.vs _ x len cap w,v,_,H=>by simpa[Rep] using H
 |.er _ x i w fo,v,_,H=>by simpa[Rep] using H
 |.nmap,v,_,H=>by simpa[Rep] using H
 |.map _ x,v,_,H=>by simpa[Rep] using H
 |.fn f a c,v,hl,H=>by
  simp only[Rep,BT] at hl H ⊢
  obtain ⟨a',c',e,r1,r2⟩:=H
  exact⟨a',c',e,Ii h a _ hl.1 r1,Ii h c _ hl.2 r2⟩
 |.nilf,v,_,H=>by simpa[Rep] using H
 |.iface t d,v,hl,H=>by
  simp only[Rep,BT] at hl H ⊢
  obtain ⟨x,e,r⟩:=H
  exact⟨x,e,If h d x hl r⟩
 |.nili,v,_,H=>by simpa[Rep] using H
 |.agg cs,v,hl,H=>by
  simp only[Rep,BT] at hl H ⊢
  obtain ⟨vs,e,r⟩:=H
  exact⟨vs,e,Ii h cs _ hl r⟩
 |.tup cs,v,hl,H=>by
  simp only[Rep,BT] at hl H ⊢
  obtain ⟨vs,e,r⟩:=H
  exact⟨vs,e,Ii h cs _ hl r⟩
theorem Ii{C2 C':Ctx}{x:Nat}(h:C2.back C' x):∀(ds:List D) (vs:List Value),B6 ds->RepL C2 ds vs->RepL C' ds vs
 | [],vs,_,H=>by simpa[RepL] using H
 |d::ds,vs,hl,H=>by
  simp only[RepL,B6] at hl H ⊢
  obtain ⟨x,xs,e,r1,r2⟩:=H
  exact⟨x,xs,e,If h d x hl.1 r1,Ii h ds xs hl.2 r2⟩
theorem Rp{C2 C':Ctx}{x:Nat}(h:C2.back C' x):∀(b o:Nat) (ds:List D),It ds->RepCells C2 b o ds->RepCells C' b o ds
 |b,o,[],_,H=>by simp[RepCells]
 |b,o,d::ds,hl,H=>by
  simp only[RepCells,It] at hl H ⊢
  obtain ⟨⟨v,e,r1⟩,r2⟩:=H
  have hb:b≠x:=by
   rintro rfl
   have:=h.old _ _ e
   rw[BgV hl.1 r1] at this
   cases this
  exact⟨⟨v,by rw[h.imm b o hb];exact e,If h d v hl.2.1 r1⟩,Rr h hb (o+1) ds hl.2.2 r2⟩
theorem Rr{C2 C':Ctx}{x:Nat}(h:C2.back C' x):∀ {b:Nat} (_:b≠x) (o:Nat) (ds:List D),B6 ds->RepCells C2 b o ds->RepCells C' b o ds
 |b,_,o,[],_,H=>by simp[RepCells]
 |b,hb,o,d::ds,hl,H=>by
  simp only[RepCells,B6] at hl H ⊢
  obtain ⟨⟨v,e,r1⟩,r2⟩:=H
  exact⟨⟨v,by rw[h.imm b o hb];exact e,If h d v hl.1 r1⟩,Rr h hb (o+1) ds hl.2 r2⟩
end
def ER:AEnd->Prop
 |.ret d=>BT d
 |.pan d=>BT d
theorem TJ{C2 C':Ctx}{x:Nat}(h:C2.back C' x){r:AEnd}{e:Ending}(hc:ER r)(H:RepEnd C2 r e):RepEnd C' r e:=by
 cases r<;>cases e<;>simp only[RepEnd] at H ⊢
 ·exact If h _ _ hc H
 ·obtain ⟨v,h1,h2⟩:=H
  exact⟨v,h1,If h _ _ hc h2⟩
def G0Keeps:Prop:=∀w w':World,G0 w->Below w.heap.size w w'->G0 w'
theorem ACalls.lend{P : Program}{g : FuncId}{k x : Nat}{cs cs' rest : List D}{T : List (Nat×Nat)}{R : AEnd -> Prop}(hG : G0Keeps)
  (hc:cs.all M0=true) (hk:cs.all B2=true) (hw:wkL cs cs') (hl:B4 cs') (hr:B4 rest)
  (h:ACalls P g (.pt cs'::rest) ⟨[],[]⟩ (fun r _=>R r)) (hcl:∀r,R r->ER r) :
  ACalls P g (.ref k x 0::rest) ⟨[(k,x,.cells cs)],T⟩ (fun r S'=>R r/\S'=⟨[(k,x,.cells cs)],T⟩):=by
 refine⟨h.1,fun C F args w ha hs=>?_⟩
 obtain ⟨hx1,hx2,arr,E,fz,hx3,hx4,hx5⟩:=hs.objs (k,x,.cells cs) (by simp[St.add])
 simp only at hx1 hx2 hx3
 have hlt:x<w.heap.size:=(Array.getElem?_eq_some_iff.1 hx3).1
 have hcell:∀o,w.cell? ⟨x,o,none⟩=arr[o]? :=fun o=>by simp[World.cell?,hx3]
 have hone:=CL hk hx5
 have hbase:=hs.base_le
 let C2:Ctx:=⟨w,hG _ _ C.ok hs.below,fun b o=>if b=x then arr[o]? else C.imm b o,C.tok⟩
 have himm:∀b o v,C.imm b o=some v->C2.imm b o=some v:=fun b o v hv=>by
  have:b≠x:=by rintro rfl;rw[hx2 o] at hv;cases hv
  simp only[C2,if_neg this];exact hv
 have hsat:Sat C2 (St.add ⟨[],[]⟩ ⟨[],[]⟩) w:=by
  refine⟨Below.refl _ _,fun b o v hv=>?_,fun b o v hv=>?_,fun _ hp=>(nomatch hp),by simp[St.add],fun _ ht=>(nomatch ht),by simp[St.add],hs.tfin,fun _ _ _ _ _ _ _ _ _ _ ht=>(nomatch ht)⟩
  ·simp only[C2] at hv
   split at hv
   ·rename_i e;subst e;rw[hcell];exact hv
   ·exact hs.imm b o v hv
  ·simp only[C2] at hv
   split at hv
   ·refine hone v ?_
    obtain ⟨h1,h2⟩:=Array.getElem?_eq_some_iff.1 hv
    rw[<- h2];exact Array.getElem_mem_toList h1
   ·exact hs.one b o v hv
 have hargs:RepL C2 (.pt cs'::rest) args.toList:=by
  simp only[RepL] at ha ⊢
  obtain ⟨v,vs,e,h1,h2⟩:=ha
  refine⟨v,vs,e,?_,Ef himm rfl _ _ hr h2⟩
  simp only[Rep] at h1 ⊢
  refine⟨x,0,h1,?_⟩
  have hx6:=Ef himm rfl _ _ hl (Ic _ _ hw _ _ hx5)
  refine RepCells.ofL hx6 fun i v hi=>?_
  simp only[C2,if_pos]
  simpa using hi
 refine (h.2 C2 ⟨[],[]⟩ args w hargs hsat).mono ?_
 rintro e w' ⟨C2',r,S',h1,h2,h3,h4⟩
 have hb:Below w.heap.size w w':=by have:=h2.below;rw[h1.w0] at this;exact this
 have hold:∀b o,b<w.heap.size->C2'.imm b o=C2.imm b o:=h1.old
 let C':Ctx:=⟨C.w0,C.ok,fun b o=>if b=x then none else C2'.imm b o,C2'.tok⟩
 have hle:C.le C':=by
  refine⟨rfl,fun b o v hv=>?_,h1.tok,fun b o hlt2=>?_⟩
  ·have:b≠x:=by rintro rfl;rw[hx2 o] at hv;cases hv
   simp only[C',if_neg this]
   exact h1.imm _ _ _ (himm _ _ _ hv)
  ·have:b≠x:=by omega
   simp only[C',if_neg this]
   rw[hold b o (by omega)]
   simp only[C2,if_neg this]
 have hback:C2'.back C' x:=by
  refine⟨by rw[h1.w0];exact hbase,rfl,fun b o hne=>by simp only[C',if_neg hne],fun o v hv=>?_⟩
  rw[hold x o hlt] at hv
  simp only[C2,if_pos] at hv
  obtain ⟨q1,q2⟩:=Array.getElem?_eq_some_iff.1 hv
  exact MW hc hx5 v (by rw[<- q2];exact Array.getElem_mem_toList q1)
 have hk':=hs.kept hb
 refine⟨C',r,⟨[(k,x,.cells cs)],T⟩,hle,?_,TJ hback (hcl r h4) h3,h4,rfl⟩
 have blk:∀y o,ObjAt C w y o->y<w.heap.size:=fun y o ho=>by
  cases o with
  |cells ds=>obtain ⟨_,_,_,h1,_⟩:=ho;exact (Array.getElem?_eq_some_iff.1 h1).1
  |amap k es=>obtain ⟨_,_,h1,_⟩:=ho;exact (Array.getElem?_eq_some_iff.1 h1).1
  |sit s pos=>exact (Array.getElem?_eq_some_iff.1 (show w.heap[y]? =_ from ho)).1
  |bld T E d=>obtain ⟨_,_,_,h1,_⟩:=ho;exact (Array.getElem?_eq_some_iff.1 h1).1
  |lent O g=>obtain ⟨_,h1,_⟩:=ho;exact (Array.getElem?_eq_some_iff.1 h1).1
  |bldx T E d ds=>obtain ⟨_,_,_,_,_,h1,_⟩:=ho;exact (Array.getElem?_eq_some_iff.1 h1).1
  |vec wd n cap f=>obtain ⟨_,_,_,_,_,h1,_⟩:=ho;exact (Array.getElem?_eq_some_iff.1 h1).1
 have immlt:∀b o,b<w.heap.size->b≠x->C'.imm b o=C.imm b o:=fun b o hb2 hne=>by
  simp only[C',if_neg hne]
  rw[hold b o hb2]
  simp only[C2,if_neg hne]
 refine⟨hk'.below,fun b o v hv=>?_,fun b o v hv=>?_,fun p hp=>?_,hk'.nodup,fun t ht=>?_,hk'.tnodup,h2.tfin,fun t t' b n c wd b' n' c' wd' ht ht' hne e1 e2=>?_⟩
 ·simp only[C'] at hv
  split at hv
  ·cases hv
  ·exact h2.imm b o v hv
 ·simp only[C'] at hv
  split at hv
  ·cases hv
  ·exact h2.one b o v hv
 ·obtain ⟨q1,q2,q3⟩:=hs.objs p hp
  have q4:=blk _ _ q3
  refine⟨q1,?_,((hk'.objs p hp).2.2).mono hle⟩
  by_cases hne:p.2.1=x
  ·have hp2:p=(k,x,.cells cs):=by
    have hnd:=hs.nodup
    rcases List.mem_cons.1 (show p∈(k,x,AObj.cells cs)::F.objs by simpa[St.add] using hp) with e | e
    ·exact e
    ·simp only[St.add,List.cons_append,List.nil_append,List.map_cons,List.nodup_cons] at hnd
     exact (hnd.1 (List.mem_map.2 ⟨p,e,hne⟩)).elim
   subst hp2
   exact fun o=>by simp only[C',if_pos]
  ·exact q2.of_eq fun o=>immlt _ _ q4 hne
 ·obtain ⟨y,q1,q2,q3⟩:=hk'.toks t ht
  refine⟨y,h1.tok _ _ q1,?_,q3⟩
  cases y with
  |no=>trivial
  | «at» b n cap wd =>
   obtain ⟨z1,z2,arr2,E2,fz2,z3,z4⟩:=q2
   refine⟨z1,fun o ho=>?_,arr2,E2,fz2,z3,z4⟩
   obtain ⟨y',q1',q2',q3'⟩:=hs.toks t ht
   rw[q1] at q1'; cases q1'
   obtain ⟨_,_,_,_,_,z3',_⟩:=q2'
   have hbl:b<w.heap.size:=(Array.getElem?_eq_some_iff.1 z3').1
   by_cases hne:b=x
   ·simp only[C',if_pos hne]
   ·rw[immlt _ _ hbl hne];exact z2 o ho
 ·obtain ⟨y,q1,_⟩:=hs.toks t ht
  obtain ⟨y',q1',_⟩:=hs.toks t' ht'
  have e1':C2'.tok t.2=some y:=h1.tok _ _ q1
  have e2':C2'.tok t'.2=some y':=h1.tok _ _ q1'
  have e1'':some y=some (Tok.at b n c wd):=e1'.symm.trans e1
  have e2'':some y'=some (Tok.at b' n' c' wd'):=e2'.symm.trans e2
  exact hs.tdist t t' b n c wd b' n' c' wd' ht ht' hne (q1.trans e1'') (q1'.trans e2'')
theorem BfI{l:List (Nat×Nat×AObj)}{k x:Nat}{o:AObj}(h:BG l k=some (x,o)):C5 l k o=l:=by
 obtain ⟨l1,l2,e1,e2⟩:=Cz h
 rw[e2,<- e1]
theorem ACalls.at_obj{P : Program}{g : FuncId}{ds : List D}{S : St}{k x : Nat}{o : AObj}(hg : BG S.objs k=some (x, o)){R : AEnd -> AObj -> Prop}
  (h:ACalls P g ds ⟨[(k,x,o)],[]⟩ (fun r S'=>∃o',R r o'/\S'=⟨[(k,x,o')],[]⟩)):ACalls P g ds S (fun r S'=>∃o',R r o'/\S'=⟨C5 S.objs k o',S.toks⟩):=by
 obtain ⟨l1,l2,e1,e2⟩:=Cz hg
 have pm:∀o',((k,x,o')::(l1++l2)).Perm (l1++(k,x,o')::l2):=fun o'=>List.perm_middle.symm
 have h1:=(ACalls.frame h ⟨l1++l2,S.toks⟩).perm (S':=S) (by rw[e1];exact (pm o).symm) (by simp[St.add])
 refine h1.to ?_
 rintro r S' ⟨S0,⟨o',hr,rfl⟩,rfl⟩
 refine⟨⟨C5 S.objs k o',S.toks⟩,fun C F w H=>?_,o',hr,rfl⟩
 refine H.add_perm ?_ (by simp[St.add])
 rw[e2]
 exact pm o'
theorem ACalls.lend_at{P : Program}{g : FuncId}{k x : Nat}{cs cs' rest : List D}{S : St}{R : AEnd -> Prop}(hG : G0Keeps)(hg : BG S.objs k=some (x, .cells cs))
  (hc:cs.all M0=true) (hk:cs.all B2=true) (hw:wkL cs cs') (hl:B4 cs') (hr:B4 rest)
  (h:ACalls P g (.pt cs'::rest) ⟨[],[]⟩ (fun r _=>R r)) (hcl:∀r,R r->ER r) :
  ACalls P g (.ref k x 0::rest) S (fun r S'=>R r/\S'=S):=by
 refine (ACalls.at_obj hg (R:=fun r o'=>R r/\o'=.cells cs) ((ACalls.lend (T:=[]) hG hc hk hw hl hr h hcl).mono ?_)).mono ?_
 ·rintro r S' ⟨h1,rfl⟩;exact⟨_,⟨h1,rfl⟩,rfl⟩
 ·rintro r S' ⟨_,⟨h1,rfl⟩,rfl⟩;exact⟨h1,by rw[BfI hg]⟩
def WS(C:Ctx)(w:World)(p:Nat×Nat×AObj):Nat×Nat×AObj:=(p.1,p.2.1,.lent ((w.heap[p.2.1]?).getD (.cells #[] 0 (0,0))) fun o=>C.imm p.2.1 o)
theorem ACalls.lendT{P : Program}{g : FuncId}{k x : Nat}{cs cs' rest : List D}{T : List (Nat×Nat)}{R : AEnd -> List (Nat×Nat) -> Prop}
  (hc:cs.all M0=true) (hk:cs.all B2=true) (hw:wkL cs cs')
  (h:ACalls P g (.pt cs'::rest) ⟨[],T⟩ (fun r S'=>S'.objs=[]/\R r S'.toks)) (hcl:∀r T',R r T'->ER r) :
  ACalls P g (.ref k x 0::rest) ⟨[(k,x,.cells cs)],T⟩ (fun r S'=>∃T',R r T'/\S'=⟨[(k,x,.cells cs)],T'⟩):=by
 refine⟨h.1,fun C F args w ha hs=>?_⟩
 have hx0:=hs.objs (k,x,.cells cs) (by simp[St.add])
 obtain ⟨hx1,hx2,arr,E,fz,hx3,hx4,hx5⟩:=hx0
 simp only at hx1 hx2 hx3
 have hcell:∀o,w.cell? ⟨x,o,none⟩=arr[o]? :=fun o=>by simp[World.cell?,hx3]
 have hone:=CL hk hx5
 let C2:Ctx:=⟨C.w0,C.ok,fun b o=>if b=x then arr[o]? else C.imm b o,C.tok⟩
 have himm:∀b o v,C.imm b o=some v->C2.imm b o=some v:=fun b o v hv=>by
  have:b≠x:=by rintro rfl;rw[hx2 o] at hv;cases hv
  simp only[C2,if_neg this];exact hv
 have hle2:C.le C2:=⟨rfl,himm,fun _ _ h=>h,fun b o hb=>by
  have:b≠x:=by omega
  simp only[C2,if_neg this]⟩
 let F2:St:=⟨(k,x,.lent (.cells arr E fz) fun o=>arr[o]?)::F.objs.map (WS C w),F.toks⟩
 have nd:x ∉ F.objs.map (·.2.1)/\(F.objs.map (·.2.1)).Nodup:=by
  have:=hs.nodup
  simpa[St.add] using this
 have hne:∀p,p∈F.objs->p.2.1≠x:=fun p hp e=>nd.1 (List.mem_map.2 ⟨p,hp,e⟩)
 have hblk2:∀p,p∈F2.objs->∃q,q∈(St.add ⟨[(k,x,.cells cs)],T⟩ F).objs/\q.2.1=p.2.1:=by
  intro p hp
  rcases List.mem_cons.1 hp with rfl | hp
  ·exact⟨(k,x,.cells cs),by simp[St.add],rfl⟩
  ·obtain ⟨q,hq,rfl⟩:=List.mem_map.1 hp
   exact⟨q,by simp[St.add,hq],rfl⟩
 have hsat:Sat C2 (St.add ⟨[],T⟩ F2) w:=by
  refine⟨hs.below,fun b o v hv=>?_,fun b o v hv=>?_,fun p hp=>?_,?_,fun t ht=>?_,hs.tnodup,hs.tfin,hs.tdist⟩
  ·simp only[C2] at hv
   split at hv
   ·rename_i e;subst e;rw[hcell];exact hv
   ·exact hs.imm b o v hv
  ·simp only[C2] at hv
   split at hv
   ·refine hone v ?_
    obtain ⟨h1,h2⟩:=Array.getElem?_eq_some_iff.1 hv
    rw[<- h2];exact Array.getElem_mem_toList h1
   ·exact hs.one b o v hv
  ·have hp:p∈F2.objs:=by simpa[St.add] using hp
   rcases List.mem_cons.1 hp with rfl | hp
   ·exact⟨hx1,fun o=>by simp only[C2,if_pos],_,hx3,.inl rfl⟩
   ·obtain ⟨q,hq,rfl⟩:=List.mem_map.1 hp
    obtain ⟨q1,q2,q3⟩:=hs.objs q (by simp[St.add,hq])
    refine⟨q1,fun o=>?_,w.heap[q.2.1]'q3.lt,by simp only[WS];exact Array.getElem?_eq_getElem q3.lt,.inl ?_⟩
    ·show (if q.2.1=x then arr[o]? else C.imm q.2.1 o)=C.imm q.2.1 o
     rw[if_neg (hne q hq)]
    ·simp[Array.getElem?_eq_getElem q3.lt]
  ·have:(St.add ⟨[],T⟩ F2).objs.map (·.2.1)=x::F.objs.map (·.2.1):=by
    simp[St.add,F2,WS,Function.comp_def]
   rw[this]
   exact List.nodup_cons.2 nd
  ·obtain ⟨y,e1,e2,e3⟩:=hs.toks t ht
   refine⟨y,e1,?_,fun p hp=>?_⟩
   ·cases y with
    |no=>trivial
    | «at» b n cap wd =>
     obtain ⟨z1,z2,z3⟩:=e2
     have hb:b≠x:=fun e=>e3 (k,x,.cells cs) (by simp[St.add]) e
     exact⟨z1,fun o ho=>by simp only[C2,if_neg hb];exact z2 o ho,z3⟩
   ·obtain ⟨q,hq,e⟩:=hblk2 p (by simpa[St.add] using hp)
    rw[<- e];exact e3 q hq
 have hargs:RepL C2 (.pt cs'::rest) args.toList:=by
  simp only[RepL] at ha ⊢
  obtain ⟨v,vs,e,h1,h2⟩:=ha
  refine⟨v,vs,e,?_,RepL.mono hle2 _ _ h2⟩
  simp only[Rep] at h1 ⊢
  refine⟨x,0,h1,?_⟩
  have hx6:=RepL.mono hle2 _ _ (Ic _ _ hw _ _ hx5)
  refine RepCells.ofL hx6 fun i v hi=>?_
  simp only[C2,if_pos]
  simpa using hi
 refine (h.2 C2 F2 args w hargs hsat).mono ?_
 rintro e w' ⟨C2',r,S',h1,h2,h3,h4,h5⟩
 obtain ⟨Ob,Tb⟩:=S'
 simp only at h4 h5
 subst h4
 obtain ⟨_,y2,O',y3,y4⟩:=h2.objs (k,x,.lent (.cells arr E fz) fun o=>arr[o]?) (by simp[St.add,F2])
 simp only[ImmNone] at y2 y3
 have hw0:C2'.w0=C.w0:=h1.w0
 let C':Ctx:=⟨C.w0,C.ok,fun b o=>if b=x then none else C2'.imm b o,C2'.tok⟩
 have hle:C.le C':=by
  refine⟨rfl,fun b o v hv=>?_,h1.tok,fun b o hlt2=>?_⟩
  ·have:b≠x:=by rintro rfl;rw[hx2 o] at hv;cases hv
   simp only[C',if_neg this]
   exact h1.imm _ _ _ (himm _ _ _ hv)
  ·have:b≠x:=by omega
   simp only[C',if_neg this]
   rw[h1.old b o hlt2]
   simp only[C2,if_neg this]
 have hback:C2'.back C' x:=by
  refine⟨by rw[hw0];exact Nat.le_refl _,rfl,fun b o hne=>by simp only[C',if_neg hne],fun o v hv=>?_⟩
  rw[y2 o] at hv
  obtain ⟨q1,q2⟩:=Array.getElem?_eq_some_iff.1 hv
  exact MW hc hx5 v (by rw[<- q2];exact Array.getElem_mem_toList q1)
 refine⟨C',r,⟨[(k,x,.cells cs)],Tb⟩,hle,?_,TJ hback (hcl r _ h5) h3,Tb,h5,rfl⟩
 refine⟨by rw[<- hw0];exact h2.below,fun b o v hv=>?_,fun b o v hv=>?_,fun p hp=>?_,hs.nodup,fun t ht=>?_,h2.tnodup,h2.tfin,fun t t' b n c wd b' n' c' wd' ht ht' hne e1 e2=>?_⟩
 ·simp only[C'] at hv
  split at hv
  ·cases hv
  ·exact h2.imm b o v hv
 ·simp only[C'] at hv
  split at hv
  ·cases hv
  ·exact h2.one b o v hv
 ·have hp:p=(k,x,.cells cs)\/p∈F.objs:=by simpa[St.add] using hp
  rcases hp with rfl | hp
  ·exact⟨hx1,fun o=>by simp only[C',if_pos],((show ObjAt C w x (.cells cs) from ⟨arr,E,fz,hx3,hx4,hx5⟩).near hx3 y3 y4).mono hle⟩
  ·obtain ⟨q1,q2,q3⟩:=hs.objs p (by simp[St.add,hp])
   obtain ⟨_,z2,O2,z3,z4⟩:=h2.objs (WS C w p) (by simp only[St.add,F2,List.nil_append];exact List.mem_cons_of_mem _ (List.mem_map_of_mem hp))
   simp only[ImmNone,WS] at z2 z3 z4
   refine⟨q1,q2.of_eq fun o=>?_,(q3.near (Array.getElem?_eq_getElem q3.lt) z3 ?_).mono hle⟩
   ·simp only[C',if_neg (hne p hp)];exact z2 o
   ·rw[Array.getElem?_eq_getElem q3.lt] at z4;exact z4
 ·obtain ⟨y,e1,e2,e3⟩:=h2.toks t ht
  refine⟨y,e1,?_,fun p hp=>?_⟩
  ·cases y with
   |no=>trivial
   | «at» b n cap wd =>
    obtain ⟨z1,z2,z3⟩:=e2
    refine⟨by rw[<- hw0];exact z1,fun o ho=>?_,z3⟩
    simp only[C']
    split
    ·rfl
    ·exact z2 o ho
  ·have hp:p=(k,x,.cells cs)\/p∈F.objs:=by simpa[St.add] using hp
   rcases hp with rfl | hp
   ·exact e3 (k,x,.lent (.cells arr E fz) fun o=>arr[o]?) (by simp[St.add,F2])
   ·exact e3 (WS C w p) (by simp only[St.add,F2,List.nil_append];exact List.mem_cons_of_mem _ (List.mem_map_of_mem hp))
 ·exact h2.tdist t t' b n c wd b' n' c' wd' ht ht' hne e1 e2
theorem ACalls.lendT_at{P : Program}{g : FuncId}{k x : Nat}{cs cs' rest : List D}{S : St}{R : AEnd -> List (Nat×Nat) -> Prop}(hg : BG S.objs k=some (x, .cells cs))
  (hc:cs.all M0=true) (hk:cs.all B2=true) (hw:wkL cs cs')
  (h:ACalls P g (.pt cs'::rest) ⟨[],S.toks⟩ (fun r S'=>S'.objs=[]/\R r S'.toks)) (hcl:∀r T',R r T'->ER r) :
  ACalls P g (.ref k x 0::rest) S (fun r S'=>∃T',R r T'/\S'=⟨S.objs,T'⟩):=by
 obtain ⟨l1,l2,e1,e2⟩:=Cz hg
 have pm:((k,x,AObj.cells cs)::(l1++l2)).Perm (l1++(k,x,.cells cs)::l2):=List.perm_middle.symm
 have h1:=(ACalls.frame (ACalls.lendT hc hk hw h hcl) ⟨l1++l2,[]⟩).perm (S':=S) (by rw[e1];exact pm.symm) (by simp[St.add])
 refine h1.to ?_
 rintro r S' ⟨S0,⟨T',hr,rfl⟩,rfl⟩
 refine⟨⟨S.objs,T'⟩,fun C F w H=>?_,T',hr,rfl⟩
 refine H.add_perm ?_ (by simp[St.add])
 rw[e1]
 exact pm
end Go.Ab
