/- An abstract state over the worlds of the model, what each operation does to it, and the verification condition of code over it: proved for every program, without conditions. -/
import Derived.Test.YtaagdbcaeokjkaaGreatDoorProg
import Derived.Lib.LaidTab
import Derived.Lib.ItoaNum
import Derived.Lib.TrailingZeros
import Derived.Shelf.Unicode.DecodeSlow
import Derived.Calls
import Derived.Below
import Derived.Laws.Entries
import Derived.Laws.Build
import Derived.Laws.Concat
import Derived.Laws.AppendOwn
import Derived.Laws.IdiomStrings
import Derived.Laws.BytesString
import Derived.Laws.NewFold
import Derived.Laws.MakeOwn
import Derived.Laws.IdiomCopy
import Derived.Laws.Shifts
import Derived.Laws.Strings
import Derived.Laws.Strings2
import Derived.Laws.Strings3
import Derived.Laws.RangeString
import Derived.Laws.Cover4
import Derived.Lib.DecodeN
namespace Go.Ab
open Go Go.Proofs
def By:Nat:=8589934592
def G0(W : World) : Prop := Lib.TabIs Tryz.prog W "internal/strconv.uint64pow10" .u64 Lib.pow10Tab ∧ Lib.TabIs Tryz.prog W "math/bits.deBruijn64tab" .u8 (Lib.deBruijn64tab.map Int.ofNat) ∧ Lib.TabIs Tryz.prog W "math/bits.deBruijn32tab" .u8 (Lib.deBruijn32tab.map Int.ofNat) ∧ Lib.Utf8Tabs 2 3 W
open Go Go.RowKit
inductive Mode where
 |nil
 |full
 |any
 |tok (k t:Nat)
inductive D where
 |unk
 |bool (b:Bool)
 |int (k:IntKind) (n:Int)
 |str (s:List UInt8)
 |nilp
 |ref (k x o:Nat)
 |pt (row:List D)
 |sl (w n:Nat) (f:Nat->List D) (m:Mode)
 |ms (k x o len cap w:Nat)
 |vs (k x len cap w:Nat)
 |er (k x i w fo:Nat)
 |nmap
 |map (k x:Nat)
 |fn (f:Fn) (first cap:List D)
 |nilf
 |iface (t:TypeId) (d:D)
 |nili
 |agg (cs:List D)
 |tup (ds:List D)
 deriving Inhabited
inductive Tok where
 |no
 |at (b n cap w:Nat)
structure Ctx where
 w0:World
 ok:G0 w0
 imm:Nat->Nat->Option Value
 tok:Nat->Option Tok
structure Ctx.le (C C':Ctx):Prop where
 w0:C'.w0=C.w0
 imm:∀b o v,C.imm b o=some v->C'.imm b o=some v
 tok:∀t x,C.tok t=some x->C'.tok t=some x
 old:∀b o,b<C.w0.heap.size->C'.imm b o=C.imm b o
theorem Ctx.le.refl(C:Ctx):C.le C:=⟨rfl,fun _ _ _ h=>h,fun _ _ h=>h,fun _ _ _=>rfl⟩
theorem Ctx.le.trans{A B C:Ctx}(h:A.le B)(k:B.le C):A.le C :=
 ⟨k.w0.trans h.w0,fun b o v e=>k.imm b o v (h.imm b o v e),fun t x e=>k.tok t x (h.tok t x e),fun b o hb=>(k.old b o (by rw[h.w0];exact hb)).trans (h.old b o hb)⟩
def Eu(t:Nat):Nat:=t % 1000003
theorem Bm6{e:Nat}(N:Nat)(he:e<1000003):Eu ((N+1)*1000003+e)=e:=by unfold Eu;omega
def HeadOk(C:Ctx)(w n:Nat)(m:Mode)(a:Option Addr)(len cap:Nat):Prop :=
 len=n/\n<=cap/\cap<=maxLen/\(a=none->n=0/\cap=0)/\(∀x,a=some x->0<cap->x.spot=none) /\
 match m with
 |.nil=>a=none
 |.full=>cap=n/\∃x,a=some x/\C.w0.heap.size<=x.block
 |.any=>True
 |.tok _ t=>match C.tok t with
  |some .no=>cap=n/\(Eu t≠0->a=none)
  |some (.at b n' cap' w')=>a=some ⟨b,0,none⟩/\n'=n/\cap'=cap/\w'=w
  |none=>False
mutual
def Rep(C:Ctx):D->Value->Prop
 |.unk,_=>True
 |.bool b,v=>v=.bool b
 |.int k n,v=>v=.int k n
 |.str s,v=>v=.string ⟨s.toArray⟩
 |.nilp,v=>v=.pointer none
 |.ref _ x o,v=>v=.pointer (some ⟨x,o,none⟩)
 |.pt row,v=>∃b o,v=.pointer (some ⟨b,o,none⟩)/\RepCells C b o row
 |.sl w n f m,v=>∃a len cap,v=.slice a len cap/\HeadOk C w n m a len cap/\∀x,a=some x->∀i,i<n->(f i).length=w/\RepCells C x.block (x.off+i*w) (f i)
 |.ms _ x o len cap _,v=>v=.slice (some ⟨x,o,none⟩) len cap/\len<=cap/\cap<=maxLen
 |.vs _ x len cap _,v=>v=.slice (some ⟨x,0,none⟩) len cap/\len<=cap/\cap<=maxLen
 |.er _ x i w fo,v=>v=.pointer (some ⟨x,i*w+fo,none⟩)
 |.nmap,v=>v=.map none
 |.map _ x,v=>v=.map (some x)
 |.fn f a c,v=>∃a' c',v=.func f a' c'/\RepL C a a'.toList/\RepL C c c'.toList
 |.nilf,v=>v=.nilFunc
 |.iface t d,v=>∃x,v=.iface t x/\Rep C d x
 |.nili,v=>v=.nilIface
 |.agg cs,v=>∃vs,v=.agg vs/\RepL C cs vs.toList
 |.tup cs,v=>∃vs,v=.tuple vs/\RepL C cs vs.toList
def RepL(C:Ctx):List D->List Value->Prop
 | [],vs=>vs=[]
 |d::ds,vs=>∃x xs,vs=x::xs/\Rep C d x/\RepL C ds xs
def RepCells(C:Ctx)(b o:Nat):List D->Prop
 | []=>True
 |d::ds=>(∃v,C.imm b o=some v/\Rep C d v)/\RepCells C b (o+1) ds
end
def RepRows(C:Ctx)(w b o:Nat):List (List D)->Prop
 | []=>True
 |r::rs=>r.length=w/\RepCells C b o r/\RepRows C w b (o+w) rs
theorem HeadOk.mono{C C':Ctx}(h:C.le C'){w n:Nat}{m:Mode}{a:Option Addr}{len cap:Nat}(H:HeadOk C w n m a len cap):HeadOk C' w n m a len cap:=by
 obtain ⟨h1,h2,h3,h4,h5,h6⟩:=H
 refine⟨h1,h2,h3,h4,h5,?_⟩
 cases m with
 |tok k t =>
  simp only at h6 ⊢
  cases ht:C.tok t with
  |none=>rw[ht] at h6;exact h6.elim
  |some x=>rw[ht] at h6;rw[h.tok _ _ ht];exact h6
 |full=>simp only at h6 ⊢; rw[h.w0];exact h6
 |_=>exact h6
mutual
theorem Rep.mono{C C':Ctx}(h:C.le C'):∀(d:D) (v:Value),Rep C d v->Rep C' d v
 |.unk,_,_=>by simp[Rep]
 |.bool b,v,H=>by simpa[Rep] using H
 |.int k n,v,H=>by simpa[Rep] using H
 |.str s,v,H=>by simpa[Rep] using H
 |.nilp,v,H=>by simpa[Rep] using H
 |.ref _ x o,v,H=>by simpa[Rep] using H
 |.pt row,v,H=>by
  simp only[Rep] at H ⊢
  obtain ⟨b,o,e,r⟩:=H
  exact⟨b,o,e,RepCells.mono h b o row r⟩
 |.sl w n f m,v,H=>by
  simp only[Rep] at H ⊢
  obtain ⟨a,len,cap,e,hh,r⟩:=H
  exact⟨a,len,cap,e,hh.mono h,fun x hx i hi=>⟨(r x hx i hi).1,RepCells.mono h _ _ (f i) (r x hx i hi).2⟩⟩
 |.ms _ x o len cap w,v,H=>by simpa[Rep] using H
 |.vs _ x len cap w,v,H=>by simpa[Rep] using H
 |.er _ x i w fo,v,H=>by simpa[Rep] using H
 |.nmap,v,H=>by simpa[Rep] using H
 |.map _ x,v,H=>by simpa[Rep] using H
 |.fn f a c,v,H=>by
  simp only[Rep] at H ⊢
  obtain ⟨a',c',e,r1,r2⟩:=H
  exact⟨a',c',e,RepL.mono h a _ r1,RepL.mono h c _ r2⟩
 |.nilf,v,H=>by simpa[Rep] using H
 |.iface t d,v,H=>by
  simp only[Rep] at H ⊢
  obtain ⟨x,e,r⟩:=H
  exact⟨x,e,Rep.mono h d x r⟩
 |.nili,v,H=>by simpa[Rep] using H
 |.agg cs,v,H=>by
  simp only[Rep] at H ⊢
  obtain ⟨vs,e,r⟩:=H
  exact⟨vs,e,RepL.mono h cs _ r⟩
 |.tup cs,v,H=>by
  simp only[Rep] at H ⊢
  obtain ⟨vs,e,r⟩:=H
  exact⟨vs,e,RepL.mono h cs _ r⟩
theorem RepL.mono{C C':Ctx}(h:C.le C'):∀(ds:List D) (vs:List Value),RepL C ds vs->RepL C' ds vs
 | [],vs,H=>by simpa[RepL] using H
 |d::ds,vs,H=>by
  simp only[RepL] at H ⊢
  obtain ⟨x,xs,e,r1,r2⟩:=H
  exact⟨x,xs,e,Rep.mono h d x r1,RepL.mono h ds xs r2⟩
theorem RepCells.mono{C C':Ctx}(h:C.le C'):∀(b o:Nat) (ds:List D),RepCells C b o ds->RepCells C' b o ds
 |b,o,[],H=>by simp[RepCells]
 |b,o,d::ds,H=>by
  simp only[RepCells] at H ⊢
  obtain ⟨⟨v,e,r1⟩,r2⟩:=H
  exact⟨⟨v,h.imm _ _ _ e,Rep.mono h d v r1⟩,RepCells.mono h b (o+1) ds r2⟩
end
theorem RepRows.mono{C C':Ctx}(h:C.le C'):∀(w b o:Nat) (rs:List (List D)),RepRows C w b o rs->RepRows C' w b o rs
 |w,b,o,[],H=>by simp[RepRows]
 |w,b,o,r::rs,H=>by
  simp only[RepRows] at H ⊢
  exact⟨H.1,RepCells.mono h b o r H.2.1,RepRows.mono h w b (o+w) rs H.2.2⟩
theorem RepL.length{C:Ctx}:∀ {ds:List D} {vs:List Value},RepL C ds vs->vs.length=ds.length
 | [],vs,H=>by simp only[RepL] at H;simp[H]
 |d::ds,vs,H=>by
  simp only[RepL] at H
  obtain ⟨x,xs,rfl,_,r⟩:=H
  simp[RepL.length r]
theorem RepL.get{C:Ctx}:∀ {ds:List D} {vs:List Value},RepL C ds vs->∀(i:Nat) (d:D),ds[i]? =some d->∃v,vs[i]? =some v/\Rep C d v
 | [],vs,_,i,d,h=>by simp at h
 |d::ds,vs,H,0,e,h=>by
  simp only[RepL] at H
  obtain ⟨x,xs,rfl,r,_⟩:=H
  simp at h;subst h
  exact⟨x,rfl,r⟩
 |d::ds,vs,H,i+1,e,h=>by
  simp only[RepL] at H
  obtain ⟨x,xs,rfl,_,r⟩:=H
  simpa using RepL.get r i e (by simpa using h)
theorem RepL.append{C:Ctx}:∀ {axs bs:List D} {us vs:List Value},RepL C axs us->RepL C bs vs->RepL C (axs++bs) (us++vs)
 | [],bs,us,vs,h,k=>by simp only[RepL] at h;subst h;exact k
 |a::axs,bs,us,vs,h,k=>by
  simp only[RepL] at h
  obtain ⟨x,xs,rfl,r1,r2⟩:=h
  simp only[List.cons_append,RepL]
  exact⟨x,xs++vs,rfl,r1,RepL.append r2 k⟩
theorem RepL.take{C:Ctx}:∀ {ds:List D} {vs:List Value} (n:Nat),RepL C ds vs->RepL C (ds.take n) (vs.take n)
 |ds,vs,0,_=>by simp[RepL]
 | [],vs,n+1,H=>by simp only[RepL] at H;subst H;simp[RepL]
 |d::ds,vs,n+1,H=>by
  simp only[RepL] at H
  obtain ⟨x,xs,rfl,r1,r2⟩:=H
  simp only[List.take_succ_cons,RepL]
  exact⟨x,_,rfl,r1,RepL.take n r2⟩
theorem RepL.drop{C:Ctx}:∀ {ds:List D} {vs:List Value} (n:Nat),RepL C ds vs->RepL C (ds.drop n) (vs.drop n)
 |ds,vs,0,H=>by simpa using H
 | [],vs,n+1,H=>by simp only[RepL] at H;subst H;simp[RepL]
 |d::ds,vs,n+1,H=>by
  simp only[RepL] at H
  obtain ⟨x,xs,rfl,r1,r2⟩:=H
  simpa using RepL.drop n r2
theorem RepL.set{C:Ctx}{d:D}{v:Value}(hv:Rep C d v):∀ {ds:List D} {vs:List Value} (n:Nat),RepL C ds vs->RepL C (ds.set n d) (vs.set n v)
 | [],vs,n,H=>by simp only[RepL] at H;subst H;simp[RepL]
 |e::ds,vs,0,H=>by
  simp only[RepL] at H
  obtain ⟨x,xs,rfl,r1,r2⟩:=H
  simp only[List.set_cons_zero,RepL]
  exact⟨v,xs,rfl,hv,r2⟩
 |e::ds,vs,n+1,H=>by
  simp only[RepL] at H
  obtain ⟨x,xs,rfl,r1,r2⟩:=H
  simp only[List.set_cons_succ,RepL]
  exact⟨x,_,rfl,r1,RepL.set hv n r2⟩
theorem RepCells.get{C:Ctx}{b:Nat}:∀ {ds:List D} {o:Nat},RepCells C b o ds->∀(i:Nat) (d:D),ds[i]? =some d->∃v,C.imm b (o+i)=some v/\Rep C d v
 | [],o,_,i,d,h=>by simp at h
 |d::ds,o,H,0,e,h=>by
  simp only[RepCells] at H
  simp at h;subst h
  exact H.1
 |d::ds,o,H,i+1,e,h=>by
  simp only[RepCells] at H
  obtain ⟨v,h1,h2⟩:=RepCells.get H.2 i e (by simpa using h)
  exact⟨v,by rw[<- h1];congr 1;omega,h2⟩
theorem RepCells.drop{C:Ctx}{b:Nat}:∀ {ds:List D} {o:Nat} (n:Nat),RepCells C b o ds->RepCells C b (o+n) (ds.drop n)
 |ds,o,0,H=>by simpa using H
 | [],o,n+1,_=>by simp[RepCells]
 |d::ds,o,n+1,H=>by
  simp only[RepCells] at H
  have:=RepCells.drop n H.2
  rw[List.drop_succ_cons,show o+(n+1)=o+1+n by omega]
  exact this
theorem RepCells.append{C:Ctx}{b:Nat}:∀ {axs bs:List D} {o:Nat},RepCells C b o axs->RepCells C b (o+axs.length) bs->RepCells C b o (axs++bs)
 | [],bs,o,_,k=>by simpa using k
 |a::axs,bs,o,h,k=>by
  simp only[RepCells,List.cons_append] at h ⊢
  refine⟨h.1,RepCells.append h.2 ?_⟩
  rw[show o+1+axs.length=o+(a::axs).length by simp;omega]
  exact k
theorem RepRows.get{C:Ctx}{w b:Nat}:∀ {rs:List (List D)} {o:Nat},RepRows C w b o rs->∀(i:Nat) (r:List D),rs[i]? =some r->r.length=w/\RepCells C b (o+i*w) r
 | [],o,_,i,r,h=>by simp at h
 |r::rs,o,H,0,e,h=>by
  simp only[RepRows] at H
  simp at h;subst h
  exact⟨H.1,by simpa using H.2.1⟩
 |r::rs,o,H,i+1,e,h=>by
  simp only[RepRows] at H
  obtain ⟨h1,h2⟩:=RepRows.get H.2.2 i e (by simpa using h)
  refine⟨h1,?_⟩
  rw[show o+(i+1)*w=o+w+i*w by rw[Nat.add_mul];omega]
  exact h2
theorem RepRows.drop{C:Ctx}{w b:Nat}:∀ {rs:List (List D)} {o:Nat} (n:Nat),RepRows C w b o rs->n<=rs.length->RepRows C w b (o+n*w) (rs.drop n)
 |rs,o,0,H,_=>by simpa using H
 | [],o,n+1,_,h=>by simp at h
 |r::rs,o,n+1,H,h=>by
  simp only[RepRows] at H
  have:=RepRows.drop n H.2.2 (by simpa using h)
  rw[List.drop_succ_cons,show o+(n+1)*w=o+w+n*w by rw[Nat.add_mul];omega]
  exact this
theorem RepRows.take{C:Ctx}{w b:Nat}:∀ {rs:List (List D)} {o:Nat} (n:Nat),RepRows C w b o rs->RepRows C w b o (rs.take n)
 |rs,o,0,_=>by simp[RepRows]
 | [],o,n+1,_=>by simp[RepRows]
 |r::rs,o,n+1,H=>by
  simp only[RepRows] at H
  simp only[List.take_succ_cons,RepRows]
  exact⟨H.1,H.2.1,RepRows.take n H.2.2⟩
theorem RepRows.append{C:Ctx}{w b:Nat}:∀ {axs bs:List (List D)} {o:Nat},RepRows C w b o axs->RepRows C w b (o+axs.length*w) bs->RepRows C w b o (axs++bs)
 | [],bs,o,_,k=>by simpa using k
 |a::axs,bs,o,h,k=>by
  simp only[RepRows,List.cons_append] at h ⊢
  refine⟨h.1,h.2.1,RepRows.append h.2.2 ?_⟩
  rw[show o+w+axs.length*w=o+(a::axs).length*w by rw[List.length_cons,Nat.add_mul];omega]
  exact k
theorem RepRows.of_fun{C:Ctx}{w b:Nat}(f:Nat->List D):∀(n k o:Nat),(∀i,i<n->(f (k+i)).length=w/\RepCells C b (o+i*w) (f (k+i)))->RepRows C w b o ((List.range' k n).map f)
 |0,_,_,_=>by simp[RepRows]
 |n+1,k,o,h=>by
  simp only[List.range'_succ,List.map_cons,RepRows]
  have h0:=h 0 (by omega)
  refine⟨by simpa using h0.1,by simpa using h0.2,RepRows.of_fun f n (k+1) (o+w) fun i hi=>?_⟩
  have:=h (i+1) (by omega)
  rw[show k+1+i=k+(i+1) by omega,show o+w+i*w=o+(i+1)*w by rw[Nat.add_mul];omega]
  exact this
theorem Ux{C:Ctx}{w b o n:Nat}{f:Nat->List D}:RepRows C w b o ((List.range n).map f)↔∀i,i<n->(f i).length=w/\RepCells C b (o+i*w) (f i):=by
 constructor
 ·intro h i hi
  exact RepRows.get h i (f i) (by simp[hi])
 ·intro h
  have:=RepRows.of_fun (C:=C) (w:=w) (b:=b) f n 0 o (by simpa using h)
  simpa[List.range_eq_range'] using this
theorem Wm{C : Ctx}{w n : Nat}{f : Nat -> List D}{m : Mode}{v : Value} : Rep C (.sl w n f m) v ↔
  ∃a len cap,v=.slice a len cap/\HeadOk C w ((List.range n).map f).length m a len cap/\∀x,a=some x->RepRows C w x.block x.off ((List.range n).map f):=by
 simp only[Rep,Ux,List.length_map,List.length_range]
def slR(w:Nat)(rows:List (List D))(m:Mode):D:=.sl w rows.length (fun i=>rows.getD i []) m
theorem BiB(rows:List (List D)):(List.range rows.length).map (fun i=>rows.getD i [])=rows:=by
 apply List.ext_getElem
 ·simp
 ·intro i h1 h2
  simp[List.getD_eq_getElem?_getD,List.getElem?_eq_getElem h2]
theorem Tq{C : Ctx}{w : Nat}{rows : List (List D)}{m : Mode}{v : Value} : Rep C (slR w rows m) v ↔
  ∃a len cap,v=.slice a len cap/\HeadOk C w rows.length m a len cap/\∀x,a=some x->RepRows C w x.block x.off rows:=by
 unfold slR
 rw[Wm,BiB]
inductive AObj where
 |cells (ds:List D)
 |amap (k:IntKind) (es:List (List UInt8×Int))
 |sit (s:List UInt8) (pos:Nat)
 |vec (w n cap:Nat) (f:Nat->List D)
 |bld (T E:Nat) (d:D)
 |bldx (T E:Nat) (d:D) (ds:List D)
def Cj(w n cap:Nat)(f:Nat->List D):List D:=((List.range n).map f).flatten++List.replicate ((cap-n)*w) .unk
structure St where
 objs:List (Nat×Nat×AObj)
 toks:List (Nat×Nat)
def St.add(S F:St):St:=⟨S.objs++F.objs,S.toks++F.toks⟩
def Thawed(arr:Array Value)(fz:Nat×Nat):Prop:=fz.1=fz.2\/arr.size<=fz.1
def RepPairs(k:IntKind):List (List UInt8×Int)->List MapEntry->Prop
 | [],es=>es=[]
 |(s,n)::r,es=>∃e es',es=e::es'/\e.key=.string ⟨s.toArray⟩/\e.val=.int k n/\RepPairs k r es'
def Bbf(E:Nat):D->Prop
 |.sl _ _ _ (.tok _ t)=>Eu t=E+1
 |_=>False
def ObjAt(C:Ctx)(w:World)(x:Nat):AObj->Prop
 |.cells ds=>∃arr E fz,w.heap[x]? =some (.cells arr E fz)/\Thawed arr fz/\RepL C ds arr.toList
 |.amap k es=>∃entries clock,w.heap[x]? =some (.map entries clock)/\RepPairs k es entries.toList
 |.sit s pos=>w.heap[x]? =some (.stringIter ⟨s.toArray⟩ pos)
 |.vec wd n cap f=>n<=cap/\(∀i,i<n->(f i).length=wd)/\∃arr E fz,w.heap[x]? =some (.cells arr E fz)/\Thawed arr fz/\RepL C (Cj wd n cap f) arr.toList
 |.bld T E d=>∃v0 v1 fz,w.heap[x]? =some (.cells #[v0,v1] T fz)/\Thawed #[v0,v1] fz/\(v0=.pointer none\/v0=.pointer (some ⟨x,0,none⟩))/\Rep C d v1/\Bbf E d
 |.bldx T E d ds=>∃arr v0 v1 vs fz,w.heap[x]? =some (.cells arr T fz)/\arr.toList=v0::v1::vs/\Thawed arr fz/\(v0=.pointer none\/v0=.pointer (some ⟨x,0,none⟩))/\Rep C d v1/\RepL C ds vs/\Bbf E d
def TokAt(C:Ctx)(w:World)(t:Nat):Tok->Prop
 |.no=>True
 |.at b n cap wd=>C.w0.heap.size<=b/\(∀o,n*wd<=o->C.imm b o=none)/\∃arr E fz,w.heap[b]? =some (.cells arr E fz)/\Thawed arr fz/\arr.size=cap*wd/\(Eu t≠0->E+1=Eu t)
def Tok.clash:Tok->Nat->Prop
 |.no,_=>False
 |.at b _ _ _,x=>b=x
structure Sat (C:Ctx) (S:St) (w:World):Prop where
 below:Below C.w0.heap.size C.w0 w
 imm:∀b o v,C.imm b o=some v->w.cell? ⟨b,o,none⟩=some v
 one:∀b o v,C.imm b o=some v->v.oneCell'=true
 objs:∀p,p∈S.objs->C.w0.heap.size<=p.2.1/\(∀o,C.imm p.2.1 o=none)/\ObjAt C w p.2.1 p.2.2
 nodup:(S.objs.map (·.2.1)).Nodup
 toks:∀t,t∈S.toks->∃x,C.tok t.2=some x/\TokAt C w t.2 x/\∀p,p∈S.objs->¬x.clash p.2.1
 tnodup:(S.toks.map (·.2)).Nodup
 tfin:∃N,∀t,N<=t->C.tok t=none
 tdist:∀t t' b n c wd b' n' c' wd',t∈S.toks->t'∈S.toks->t.2≠t'.2->C.tok t.2=some (.at b n c wd)->C.tok t'.2=some (.at b' n' c' wd')->b≠b'
theorem ObjAt.mono{C C':Ctx}{w:World}{x:Nat}(h:C.le C'):∀ {o:AObj},ObjAt C w x o->ObjAt C' w x o
 |.cells _,⟨arr,E,fz,h1,h2,h3⟩=>⟨arr,E,fz,h1,h2,RepL.mono h _ _ h3⟩
 |.amap _ _,⟨en,cl,h1,h2⟩=>⟨en,cl,h1,h2⟩
 |.sit _ _,H=>H
 |.vec _ _ _ _,⟨a,b,arr,E,fz,h1,h2,h3⟩=>⟨a,b,arr,E,fz,h1,h2,RepL.mono h _ _ h3⟩
 |.bld _ _ _,⟨v0,v1,fz,h1,h2,h3,h4,h5⟩=>⟨v0,v1,fz,h1,h2,h3,Rep.mono h _ _ h4,h5⟩
 |.bldx _ _ _ _,⟨arr,v0,v1,vs,fz,h1,h2,h3,h4,h5,h6,h7⟩=>⟨arr,v0,v1,vs,fz,h1,h2,h3,h4,Rep.mono h _ _ h5,RepL.mono h _ _ h6,h7⟩
theorem ObjAt.of_heap{C:Ctx}{w w':World}{x:Nat}(h:w'.heap[x]? =w.heap[x]?):∀ {o:AObj},ObjAt C w x o->ObjAt C w' x o
 |.cells _,⟨arr,E,fz,h1,h2,h3⟩=>⟨arr,E,fz,h.trans h1,h2,h3⟩
 |.amap _ _,⟨en,cl,h1,h2⟩=>⟨en,cl,h.trans h1,h2⟩
 |.sit _ _,H=>h.trans H
 |.vec _ _ _ _,⟨a,b,arr,E,fz,h1,h2,h3⟩=>⟨a,b,arr,E,fz,h.trans h1,h2,h3⟩
 |.bld _ _ _,⟨v0,v1,fz,h1,h2,h3,h4⟩=>⟨v0,v1,fz,h.trans h1,h2,h3,h4⟩
 |.bldx _ _ _ _,⟨arr,v0,v1,vs,fz,h1,h2⟩=>⟨arr,v0,v1,vs,fz,h.trans h1,h2⟩
structure St.sub (S' S:St):Prop where
 objs:∀p,p∈S'.objs->p∈S.objs
 nodup:(S'.objs.map (·.2.1)).Nodup
 toks:∀t,t∈S'.toks->t∈S.toks
 tnodup:(S'.toks.map (·.2)).Nodup
theorem Sat.sub{C:Ctx}{S S':St}{w:World}(H:Sat C S w)(h:S'.sub S):Sat C S' w where
 below:=H.below
 imm:=H.imm
 one:=H.one
 objs:=fun p hp=>H.objs p (h.objs p hp)
 nodup:=h.nodup
 toks:=fun t ht=>let ⟨x,h1,h2,h3⟩:=H.toks t (h.toks t ht);⟨x,h1,h2,fun p hp=>h3 p (h.objs p hp)⟩
 tnodup:=h.tnodup
 tfin:=H.tfin
 tdist:=fun t t' b n c wd b' n' c' wd' ht ht'=>H.tdist t t' b n c wd b' n' c' wd' (h.toks t ht) (h.toks t' ht')
def St.le(S' S:St):Prop:=S'.objs.Sublist S.objs/\S'.toks.Sublist S.toks
theorem St.le.refl(S:St):S.le S:=⟨List.Sublist.refl _,List.Sublist.refl _⟩
theorem St.le.trans{A B C:St}(h:A.le B)(k:B.le C):A.le C:=⟨h.1.trans k.1,h.2.trans k.2⟩
theorem Sat.le{C:Ctx}{S S' F:St}{w:World}(H:Sat C (S.add F) w)(h:S'.le S):Sat C (S'.add F) w :=
 H.sub ⟨fun _ hp=>(h.1.append_right F.objs).subset hp,((h.1.append_right F.objs).map (·.2.1)).nodup H.nodup,
  fun _ hp=>(h.2.append_right F.toks).subset hp,((h.2.append_right F.toks).map (·.2)).nodup H.tnodup⟩
theorem Sat.drew{C:Ctx}{S:St}{w:World}(H:Sat C S w):Sat C S w.drew where
 below:=H.below.drew
 imm:=fun b o v h=>H.imm b o v h
 one:=H.one
 objs:=fun p hp=>let ⟨h1,h2,h3⟩:=H.objs p hp;⟨h1,h2,h3.of_heap rfl⟩
 nodup:=H.nodup
 toks:=fun t ht=>let ⟨x,h1,h2,h3⟩:=H.toks t ht;⟨x,h1,(by cases x with | no=>trivial | «at» b n c wd=>exact h2),h3⟩
 tnodup:=H.tnodup
 tfin:=H.tfin
 tdist:=H.tdist
abbrev Env:=List (Nat×D)
def look:Env->Nat->D
 | [],_=>.unk
 |(s,d)::r,t=>if s=t then d else look r t
def RepEnv(C:Ctx)(env:Env)(tmps:Array Value):Prop:=∀t,Rep C (look env t) (tmps.getD t undef)
theorem RepEnv.mono{C C':Ctx}(h:C.le C'){env:Env}{tmps:Array Value}(H:RepEnv C env tmps):RepEnv C' env tmps :=
 fun t=>Rep.mono h _ _ (H t)
theorem RepEnv.put{C : Ctx}{env : Env}{tmps : Array Value}(H : RepEnv C env tmps){t : Nat}{d : D}{v : Value}(ht : t<tmps.size)(hv : Rep C d v) :
  RepEnv C ((t,d)::env) (tmps.setIfInBounds t v):=by
 intro s
 simp only[look]
 split
 ·rename_i h;subst h
  simpa[ht] using hv
 ·rename_i h
  have:=H s
  simpa[Array.getElem?_setIfInBounds,h] using this
def Bla(env' env:Env):Prop:=∀t,look env' t=.unk\/look env' t=look env t
theorem RepEnv.sub{C:Ctx}{env env':Env}{tmps:Array Value}(H:RepEnv C env tmps)(h:Bla env' env):RepEnv C env' tmps:=by
 intro t
 rcases h t with e | e
 ·rw[e];simp[Rep]
 ·rw[e];exact H t
inductive AEnd where
 |ret (d:D)
 |pan (d:D)
def RepEnd(C:Ctx):AEnd->Ending->Prop
 |.ret d,.returned v=>Rep C d v
 |.pan d,.panicked ch=>∃v,ch=[{ v,recovered:=false }]/\Rep C d v
 |_,_=>False
def FnOk(P : Program)(f : Nat) : Prop := ∃ fn, P.funcs[f]? = some fn ∧ (fn.name == "runtime.NumGoroutine") = false ∧ fn.body.isNone = false
def ACalls(P:Program)(f:FuncId)(ds:List D)(S:St)(R:AEnd->St->Prop):Prop :=
 FnOk P f/\∀(C:Ctx) (F:St) (args:Array Value) (w:World),RepL C ds args.toList->Sat C (S.add F) w ->
  Calls P f args w fun e w'=>∃C' r S',C.le C'/\Sat C' (S'.add F) w'/\RepEnd C' r e/\R r S'
theorem ACalls.mono{P:Program}{f:FuncId}{ds:List D}{S:St}{R R':AEnd->St->Prop}(h:ACalls P f ds S R)(k:∀r S',R r S'->R' r S'):ACalls P f ds S R' :=
 ⟨h.1,fun C F args w ha hs=>(h.2 C F args w ha hs).mono fun _ _ ⟨C',r,S',h1,h2,h3,h4⟩=>⟨C',r,S',h1,h2,h3,k _ _ h4⟩⟩
theorem St.add_assoc(A B C:St):(A.add B).add C=A.add (B.add C):=by simp[St.add]
theorem ACalls.frame{P : Program}{f : FuncId}{ds : List D}{S : St}{R : AEnd -> St -> Prop}(h : ACalls P f ds S R)(G : St) :
  ACalls P f ds (S.add G) (fun r S'=>∃S0,R r S0/\S'=S0.add G):=by
 refine⟨h.1,?_⟩
 intro C F args w ha hs
 rw[St.add_assoc] at hs
 refine (h.2 C (G.add F) args w ha hs).mono ?_
 rintro e w' ⟨C',r,S',h1,h2,h3,h4⟩
 exact⟨C',r,S'.add G,h1,by rw[St.add_assoc];exact h2,h3,S',h4,rfl⟩
theorem Sat.perm{C:Ctx}{S S':St}{w:World}(h:Sat C S w)(ho:S.objs.Perm S'.objs)(ht:S.toks.Perm S'.toks):Sat C S' w :=
 h.sub ⟨fun _ hp=>(ho.mem_iff).2 hp,(ho.map (·.2.1)).nodup h.nodup,fun _ hp=>(ht.mem_iff).2 hp,(ht.map (·.2)).nodup h.tnodup⟩
theorem Sat.add_perm{C:Ctx}{S S' F:St}{w:World}(h:Sat C (S.add F) w)(ho:S.objs.Perm S'.objs)(ht:S.toks.Perm S'.toks):Sat C (S'.add F) w :=
 h.perm (ho.append_right _) (ht.append_right _)
theorem ACalls.perm{P : Program}{f : FuncId}{ds : List D}{S S' : St}{R : AEnd -> St -> Prop}(h : ACalls P f ds S R)(ho : S'.objs.Perm S.objs)(ht : S'.toks.Perm S.toks) :
  ACalls P f ds S' R:=⟨h.1,fun C F args w ha hs=>h.2 C F args w ha (hs.add_perm ho ht)⟩
inductive AExit where
 |normal
 |exit (id:Nat)
 |goto (l:Nat)
 |ret
 |panic (d:D)
def RepExit(C:Ctx):AExit->Exit->Prop
 |.normal,.normal=>True
 |.exit i,.exit j=>i=j
 |.goto i,.goto j=>i=j
 |.ret,.ret=>True
 |.panic d,.panic ch=>∃v,ch=[{ v,recovered:=false }]/\Rep C d v
 |_,_=>False
abbrev APostT:=AExit->Env->St->Prop
def APost(C:Ctx)(F:St)(n:Nat)(dfs:List Deferred)(Q:APostT)(e:Exit)(a:Act)(w:World):Prop :=
 ∃C' x env S,C.le C'/\RepEnv C' env a.tmps/\a.tmps.size=n/\a.defers=dfs/\Sat C' (S.add F) w/\RepExit C' x e/\Q x env S
theorem APost.up{C C1:Ctx}{F:St}{n:Nat}{dfs:List Deferred}{Q:APostT}{e:Exit}{a:Act}{w:World}(h:C.le C1)(H:APost C1 F n dfs Q e a w):APost C F n dfs Q e a w :=
 let ⟨C',x,env,S,h1,r⟩:=H;⟨C',x,env,S,h.trans h1,r⟩
def AWp(P:Program)(n:Nat)(dfs:List Deferred)(c:Code)(Q:APostT)(env:Env)(S:St):Prop :=
 ∀(C:Ctx) (F:St) (a:Act) (w:World),RepEnv C env a.tmps->a.tmps.size=n->a.defers=dfs->Sat C (S.add F) w->c.wp P (APost C F n dfs Q) a w
section
variable {P:Program} {n:Nat} {dfs:List Deferred} {Q:APostT} {env:Env} {S:St}
theorem AWp.mono{c:Code}{Q':APostT}(h:AWp P n dfs c Q env S)(k:∀e env S,Q e env S->Q' e env S):AWp P n dfs c Q' env S :=
 fun C F a w h1 h2 h3 h4=>wp_mono (h C F a w h1 h2 h3 h4) fun _ _ _ ⟨C',x,env,S,a1,a2,a3,a4,a5,a6,a7⟩=>⟨C',x,env,S,a1,a2,a3,a4,a5,a6,k _ _ _ a7⟩
theorem AWp.skip(h:Q .normal env S):AWp P n dfs .skip Q env S :=
 fun C _ _ _ h1 h2 h3 h4=>wp_skip ⟨C,.normal,env,S,.refl C,h1,h2,h3,h4,trivial,h⟩
theorem AWp.label{l:Nat}(h:Q .normal env S):AWp P n dfs (.label l) Q env S :=
 fun C _ _ _ h1 h2 h3 h4=>wp_label ⟨C,.normal,env,S,.refl C,h1,h2,h3,h4,trivial,h⟩
theorem AWp.exit{i:Nat}(h:Q (.exit i) env S):AWp P n dfs (.exit i) Q env S :=
 fun C _ _ _ h1 h2 h3 h4=>wp_exit ⟨C,.exit i,env,S,.refl C,h1,h2,h3,h4,rfl,h⟩
theorem AWp.goto{i:Nat}(h:Q (.goto i) env S):AWp P n dfs (.goto i) Q env S :=
 fun C _ _ _ h1 h2 h3 h4=>wp_goto ⟨C,.goto i,env,S,.refl C,h1,h2,h3,h4,rfl,h⟩
theorem AWp.ret(h:Q .ret env S):AWp P n dfs .ret Q env S :=
 fun C _ _ _ h1 h2 h3 h4=>wp_ret ⟨C,.ret,env,S,.refl C,h1,h2,h3,h4,trivial,h⟩
def M6(K:Env->St->Prop)(Q:APostT):APostT:=fun e env S=>match e with
 |.normal=>K env S
 |e=>Q e env S
theorem AWp.seq{x y:Code}(h:AWp P n dfs x (M6 (fun env S=>AWp P n dfs y Q env S) Q) env S):AWp P n dfs (.seq x y) Q env S:=by
 intro C F a w h1 h2 h3 h4
 refine wp_seq (wp_mono (h C F a w h1 h2 h3 h4) ?_)
 rintro e a' w' ⟨C',x,env',S',a1,a2,a3,a4,a5,a6,a7⟩
 cases e<;>cases x<;>simp only[RepExit] at a6
 case normal.normal=>exact wp_mono (a7 C' F a' w' a2 a3 a4 a5) fun _ _ _ H=>H.up a1
 all_goals exact⟨C',_,env',S',a1,a2,a3,a4,a5,(by simp only[RepExit];try exact a6),a7⟩
def Bew(id:Nat)(Q:APostT):APostT:=fun e env S=>match e with
 |.exit i=>if i=id then Q .normal env S else Q (.exit i) env S
 |e=>Q e env S
theorem AWp.block{id:Nat}{c:Code}(h:AWp P n dfs c (Bew id Q) env S):AWp P n dfs (.block id c) Q env S:=by
 intro C F a w h1 h2 h3 h4
 refine wp_block (wp_mono (h C F a w h1 h2 h3 h4) ?_)
 rintro e a' w' ⟨C',x,env',S',a1,a2,a3,a4,a5,a6,a7⟩
 cases e<;>cases x<;>simp only[RepExit] at a6
 case exit.exit =>
  subst a6
  simp only[Exit.inBlock,Bew] at a7 ⊢
  split
  ·rename_i hid
   rw[if_pos hid] at a7
   exact⟨C',.normal,env',S',a1,a2,a3,a4,a5,trivial,a7⟩
  ·rename_i hid
   rw[if_neg hid] at a7
   exact⟨C',.exit _,env',S',a1,a2,a3,a4,a5,rfl,a7⟩
 all_goals exact⟨C',_,env',S',a1,a2,a3,a4,a5,(by simp only[RepExit];try exact a6),a7⟩
def evD(env:Env):Operand->D
 |.tmp t=>look env t
 |.const v=>match v with
  |.bool b=>.bool b
  |.int k n=>.int k n
  |.string s=>.str s.data.toList
  |.pointer none=>.nilp
  |.slice none 0 0=>.sl 1 0 (fun _=>[]) .nil
  |.map none=>.nmap
  |.nilFunc=>.nilf
  |.nilIface=>.nili
  |.tuple vs=>if vs.toList.isEmpty then .tup [] else .unk
  |_=>.unk
 |.global _=>.unk
 |.func f=>.fn (.func f) [] []
theorem MS{C:Ctx}{a:Act}(h:RepEnv C env a.tmps)(x:Operand):Rep C (evD env x) (a.eval x):=by
 cases x with
 |tmp t=>exact h t
 |global g=>simp[evD,Rep]
 |func f=>exact⟨#[],#[],rfl,rfl,rfl⟩
 |const v =>
  simp only[evD,Act.eval]
  split<;>try simp[Rep]
  ·exact⟨none,0,0,⟨rfl,rfl,rfl⟩,rfl,Nat.le_refl _,by simp[maxLen],fun _=>⟨rfl,rfl⟩,fun _ h=>(by cases h),rfl⟩
  ·split<;>simp_all[Rep,RepL]
theorem AWp.cond{c : Operand}{x y : Code}{t : Bool}(hc : evD env c=.bool t)(h1 : t=true -> AWp P n dfs x Q env S)(h2 : t=false -> AWp P n dfs y Q env S) :
  AWp P n dfs (.cond c x y) Q env S:=by
 intro C F a w k1 k2 k3 k4
 have hr:=MS k1 c
 rw[hc] at hr
 simp only[Rep] at hr
 exact wp_cond_split hr (fun e=>h1 e C F a w k1 k2 k3 k4) (fun e=>h2 e C F a w k1 k2 k3 k4)
theorem BhX{Q : Exit -> Act -> World -> Prop}{a : Act}{w : World}{c : Code}(J : Nat -> Act -> World -> Prop)(k0 : Nat)(h₀ : J k0 a w)
  (round:∀k a w,J k a w->c.wp P (Exit.then (fun a' w'=>∃m,m<k/\J m a' w') Q) a w):(Code.loop c).wp P Q a w:=by
 intro b k cs
 have key : ∀m a w, J m a w ->
   ∃e a' w',Q e a' w'/\Arrives P (lone (b.at a (.code c::.inLoop c::k)) cs w) b k cs e a' w':=by
  intro m
  induction m using Nat.strongRecOn with
  |_ m ih =>
   intro a w hJ
   obtain ⟨e,a₁,w₁,hq,harr⟩:=round m a w hJ b (.inLoop c::k) cs
   cases e with
   |normal =>
    obtain ⟨m',hlt,hJ₁⟩:=hq
    obtain ⟨e₂,a₂,w₂,hq₂,harr₂⟩:=ih m' hlt a₁ w₁ hJ₁
    exact⟨e₂,a₂,w₂,hq₂,.of_steps (Steps.trans harr (.one step_inLoop)) harr₂⟩
   |exit id=>exact⟨_,a₁,w₁,hq,.pass (x:=.inLoop c) rfl (fun _ _=>.inl (by simp)) harr⟩
   |goto l=>exact⟨_,a₁,w₁,hq,.pass (x:=.inLoop c) rfl (fun _ _=>.inl (by simp)) harr⟩
   |ret=>exact⟨_,a₁,w₁,hq,.pass (x:=.inLoop c) rfl (fun _ _=>.inl (by simp)) harr⟩
   |panic ch=>exact⟨_,a₁,w₁,hq,.pass (x:=.inLoop c) rfl (fun _ _=>.inl (by simp)) harr⟩
   |outgrown=>exact⟨_,a₁,w₁,hq,.pass (x:=.inLoop c) rfl (fun _ _=>.inl (by simp)) harr⟩
 obtain ⟨e,a',w',hq,harr⟩:=key k0 a w h₀
 exact⟨e,a',w',hq,.of_steps (.one step_loop) harr⟩
def EnvTo(env env':Env):Prop:=∀(C:Ctx) (tmps:Array Value),RepEnv C env tmps->RepEnv C env' tmps
def StTo(S S':St):Prop:=∀(C:Ctx) (F:St) (w:World),Sat C (S.add F) w->Sat C (S'.add F) w
theorem StTo.refl(S:St):StTo S S:=fun _ _ _ h=>h
theorem AWp.loop{c : Code}(I : Nat -> Env -> St -> Prop)(k0 : Nat)(h0 : I k0 env S)
  (round:∀k env S,I k env S->AWp P n dfs c (M6 (fun env S=>∃m,m<k/\∃env' S',EnvTo env env'/\StTo S S'/\I m env' S') Q) env S) :
  AWp P n dfs (.loop c) Q env S:=by
 intro C F a w h1 h2 h3 h4
 refine BhX (fun k a w=>∃C' env S,C.le C'/\RepEnv C' env a.tmps/\a.tmps.size=n/\a.defers=dfs/\Sat C' (S.add F) w/\I k env S) k0 ⟨C,env,S,.refl C,h1,h2,h3,h4,h0⟩ ?_
 rintro k a w ⟨C1,env1,S1,b1,b2,b3,b4,b5,b6⟩
 refine wp_mono (round k env1 S1 b6 C1 F a w b2 b3 b4 b5) ?_
 rintro e a' w' ⟨C',x,env',S',a1,a2,a3,a4,a5,a6,a7⟩
 cases e<;>cases x<;>simp only[RepExit] at a6
 case normal.normal =>
  obtain ⟨m,hm,env2,S2,e1,e2,e3⟩:=a7
  exact⟨m,hm,C',env2,S2,b1.trans a1,e1 _ _ a2,a3,a4,e2 _ _ _ a5,e3⟩
 all_goals exact⟨C',_,env',S',b1.trans a1,a2,a3,a4,a5,(by simp only[RepExit];try exact a6),a7⟩
end
theorem Sat.imm_lt{C:Ctx}{S:St}{w:World}(H:Sat C S w){b o:Nat}{v:Value}(h:C.imm b o=some v):b<w.heap.size :=
 World.block_lt_of_cell? w ⟨b,o,none⟩ (H.imm b o v h)
theorem Sat.base_le{C:Ctx}{S:St}{w:World}(H:Sat C S w):C.w0.heap.size<=w.heap.size:=H.below.size
theorem ObjAt.lt{C:Ctx}{w:World}{x:Nat}:∀ {o:AObj},ObjAt C w x o->x<w.heap.size
 |.cells _,⟨_,_,_,h,_⟩=>(Array.getElem?_eq_some_iff.1 h).1
 |.amap _ _,⟨_,_,h,_⟩=>(Array.getElem?_eq_some_iff.1 h).1
 |.sit _ _,h=>(Array.getElem?_eq_some_iff.1 h).1
 |.bld _ _ _,⟨_,_,_,h,_⟩=>(Array.getElem?_eq_some_iff.1 h).1
 |.bldx _ _ _ _,⟨_,_,_,_,_,h,_⟩=>(Array.getElem?_eq_some_iff.1 h).1
 |.vec _ _ _ _,⟨_,_,_,_,_,h,_⟩=>(Array.getElem?_eq_some_iff.1 h).1
theorem TokAt.of_heap{C:Ctx}{w w':World}{t:Nat}:∀ {x:Tok},(∀b,x.clash b->w'.heap[b]? =w.heap[b]?)->TokAt C w t x->TokAt C w' t x
 |.no,_,_=>trivial
 |.at b _ _ _,h,⟨h1,h2,arr,E,fz,h3,h4⟩=>⟨h1,h2,arr,E,fz,(h b rfl).trans h3,h4⟩
theorem TokAt.lt{C:Ctx}{w:World}{b t:Nat}:∀ {x:Tok},TokAt C w t x->x.clash b->b<w.heap.size
 |.no,_,h=>h.elim
 |.at _ _ _ _,⟨_,_,_,_,_,h3,_⟩,h=>by cases h;exact (Array.getElem?_eq_some_iff.1 h3).1
def Ctx.push(C:Ctx)(b:Nat)(arr:Array Value):Ctx :=
 { C with imm:=fun b' o=>if b'=b then arr[o]? else C.imm b' o }
theorem Sat.push_le{C:Ctx}{S:St}{w:World}(H:Sat C S w)(arr:Array Value):C.le (C.push w.heap.size arr) :=
  ⟨rfl,fun b o v h => by
    have := H.imm_lt h
    simp only [Ctx.push]; rw [if_neg (by omega)]; exact h,fun _ _ h => h,
   fun b o hb => by have := H.base_le; simp only [Ctx.push]; rw [if_neg (by omega)]⟩
theorem Sat.alloc_imm{C : Ctx}{S : St}{w : World}(H : Sat C S w)(arr : Array Value)(E : TypeId)(h1 : ∀v∈arr.toList, v.oneCell'=true) :
  Sat (C.push w.heap.size arr) S (w.alloc (.cells arr E)) where
 below:=H.below.alloc H.base_le _
 imm:=fun b o v h=>by
  simp only[Ctx.push] at h
  split at h
  ·rename_i e;subst e;rw[World.cell?_alloc_new];exact h
  ·rw[World.cell?_alloc_lt _ _ _ (H.imm_lt h)];exact H.imm b o v h
 one:=fun b o v h=>by
  simp only[Ctx.push] at h
  split at h
  ·exact h1 v (by obtain ⟨hl,e⟩:=Array.getElem?_eq_some_iff.1 h;rw[<- e];exact Array.mem_toList_iff.2 (Array.getElem_mem hl))
  ·exact H.one b o v h
 objs:=fun p hp=>by
  obtain ⟨h1,h2,h3⟩:=H.objs p hp
  have hlt:=h3.lt
  exact⟨h1,fun o=>by simp only[Ctx.push];rw[if_neg (by omega)];exact h2 o,(h3.mono (H.push_le arr)).of_heap (Below.heap_alloc _ _ _ hlt)⟩
 nodup:=H.nodup
 toks:=fun t ht=>by
  obtain ⟨x,h1,h2,h3⟩:=H.toks t ht
  refine⟨x,h1,?_,h3⟩
  cases x with
  |no=>trivial
  | «at» b n c wd =>
   have hlt:b<w.heap.size:=TokAt.lt h2 rfl
   obtain ⟨k1,k2,arr',E',fz,k3,k4⟩:=h2
   exact⟨k1,fun o ho=>by simp only[Ctx.push];rw[if_neg (by omega)];exact k2 o ho,arr',E',fz,(Below.heap_alloc _ _ _ hlt).trans k3,k4⟩
 tnodup:=H.tnodup
 tfin:=H.tfin
 tdist:=H.tdist
theorem Sat.alloc_own{C : Ctx}{S : St}{w : World}(H : Sat C S w)(O : Obj)(o : AObj)(k : Nat)(ho : ∀w' : World, w'.heap[w.heap.size]? =some O -> ObjAt C w' w.heap.size o) :
  Sat C ⟨(k,w.heap.size,o)::S.objs,S.toks⟩ (w.alloc O) where
 below:=H.below.alloc H.base_le _
 imm:=fun b o v h=>by rw[World.cell?_alloc_lt _ _ _ (H.imm_lt h)];exact H.imm b o v h
 one:=H.one
 objs:=fun p hp=>by
  rcases List.mem_cons.1 hp with rfl | hp
  ·refine⟨H.base_le,fun o=>?_,ho _ (by show (w.heap.push O)[w.heap.size]? =_;simp)⟩
   cases h:C.imm w.heap.size o with
   |none=>rfl
   |some v=>have:=H.imm_lt h;omega
  ·obtain ⟨h1,h2,h3⟩:=H.objs p hp
   exact⟨h1,h2,h3.of_heap (Below.heap_alloc _ _ _ h3.lt)⟩
 nodup:=by
  simp only[List.map_cons,List.nodup_cons]
  refine⟨fun hm=>?_,H.nodup⟩
  obtain ⟨p,hp,e⟩:=List.mem_map.1 hm
  have:=(H.objs p hp).2.2.lt
  omega
 toks:=fun t ht=>by
  obtain ⟨x,h1,h2,h3⟩:=H.toks t ht
  refine⟨x,h1,h2.of_heap fun b hb=>Below.heap_alloc _ _ _ (h2.lt hb),fun p hp=>?_⟩
  rcases List.mem_cons.1 hp with rfl | hp
  ·intro hc;have:=h2.lt hc;simp at this
  ·exact h3 p hp
 tnodup:=H.tnodup
 tfin:=H.tfin
 tdist:=H.tdist
theorem Sat.fresh{C:Ctx}{S:St}{w:World}(H:Sat C S w):∀p,p∈S.objs->p.2.1≠w.heap.size :=
 fun p hp e=>by have:=(H.objs p hp).2.2.lt;omega
def Bt:List (Nat×Nat×AObj)->Nat->Option (Nat×AObj)
 | [],_=>none
 |(y,a)::r,k=>if y=k then some a else Bt r k
def Gu:List (Nat×Nat×AObj)->Nat->AObj->List (Nat×Nat×AObj)
 | [],_,_=>[]
 |(y,x,a)::r,k,o=>if y=k then (y,x,o)::r else (y,x,a)::Gu r k o
def St.set(S:St)(k:Nat)(o:AObj):St:=⟨Gu S.objs k o,S.toks⟩
theorem ER:∀ {l:List (Nat×Nat×AObj)} {k x:Nat} {o:AObj},Bt l k=some (x,o)->∃l1 l2,l=l1++(k,x,o)::l2/\∀o',Gu l k o'=l1++(k,x,o')::l2
 | [],_,_,_,h=>by simp[Bt] at h
 |(y,a)::r,k,x,o,h=>by
  simp only[Bt] at h
  split at h
  ·rename_i e;subst e
   simp at h;subst h
   exact⟨[],r,rfl,fun o'=>by simp[Gu]⟩
  ·rename_i e
   obtain ⟨l1,l2,e1,e2⟩:=ER h
   exact⟨(y,a)::l1,l2,by simp[e1],fun o'=>by simp[Gu,e,e2 o']⟩
theorem Sat.obj_of{C : Ctx}{S F : St}{w : World}{k x : Nat}{o : AObj}(H : Sat C (S.add F) w)(h : Bt S.objs k=some (x, o)) :
  C.w0.heap.size<=x/\(∀i,C.imm x i=none)/\ObjAt C w x o:=by
 obtain ⟨l1,l2,e,_⟩:=ER h
 exact H.objs (k,x,o) (by simp[St.add,e])
theorem Sat.replace{C : Ctx}{S F : St}{w w' : World}{t x : Nat}{o o' : AObj}(H : Sat C (S.add F) w)(h : Bt S.objs t=some (x, o))
  (hs:w'.heap.size=w.heap.size) (hh:∀k,k≠x->w'.heap[k]? =w.heap[k]?) (h1:w'.os=w.os) (h2:w'.tape=w.tape) (h3:w'.output=w.output)
  (ho:ObjAt C w' x o'):Sat C ((S.set t o').add F) w':=by
 obtain ⟨l1,l2,e,es⟩:=ER h
 obtain ⟨b1,b2,_⟩:=H.obj_of h
 have mem:∀p,p∈((S.set t o').add F).objs->p=(t,x,o')\/p∈(S.add F).objs/\p.2.1≠x:=by
  have nd:=H.nodup
  simp only[St.add,e,List.append_assoc,List.cons_append,List.map_append,List.map_cons,List.nodup_append,List.nodup_cons] at nd
  have mm:∀ {l:List (Nat×Nat×AObj)} {p:Nat×Nat×AObj},p∈l->p.2.1∈l.map (fun q=>q.2.1):=fun h=>List.mem_map_of_mem h
  intro p hp
  simp only[St.add,St.set,es,List.append_assoc,List.cons_append,List.mem_append,List.mem_cons] at hp
  rcases hp with hp | rfl | hp | hp
  ·refine .inr ⟨by simp[St.add,e,hp],fun ex=>?_⟩
   exact nd.2.2 p.2.1 (mm hp) x (by simp) ex
  ·exact .inl rfl
  ·exact .inr ⟨by simp[St.add,e,hp],fun ex=>nd.2.1.1 (List.mem_append.2 (.inl (ex ▸ mm hp)))⟩
  ·exact .inr ⟨by simp[St.add,hp],fun ex=>nd.2.1.1 (List.mem_append.2 (.inr (ex ▸ mm hp)))⟩
 have keys:((S.set t o').add F).objs.map (·.2.1)=(S.add F).objs.map (·.2.1):=by simp only[St.add,St.set,es];rw[e];simp
 refine⟨?_,?_,H.one,?_,?_,?_,H.tnodup,H.tfin,H.tdist⟩
 ·exact H.below.trans ⟨h1,h2,h3,by omega,fun k hk=>hh k (by omega)⟩
 ·intro b k v hv
  have:b≠x:=fun ex=>by subst ex;rw[b2] at hv;cases hv
  rw[World.cell?_of_block (w:=w) (hh b this)]
  exact H.imm b k v hv
 ·intro p hp
  rcases mem p hp with rfl | ⟨hp,hne⟩
  ·exact⟨b1,b2,ho⟩
  ·obtain ⟨k1,k2,k3⟩:=H.objs p hp
   exact⟨k1,k2,k3.of_heap (hh _ hne)⟩
 ·rw[keys];exact H.nodup
 ·intro s hs
  obtain ⟨y,k1,k2,k3⟩:=H.toks s hs
  have kx:¬y.clash x:=k3 (t,x,o) (by simp[St.add,e])
  refine⟨y,k1,k2.of_heap fun b hb=>hh b fun ex=>kx (ex ▸ hb),fun p hp=>?_⟩
  rcases mem p hp with rfl | ⟨hp,_⟩
  ·exact kx
  ·exact k3 p hp
theorem cell_of_heap{w:World}{x o:Nat}{arr:Array Value}{E:TypeId}{fz:Nat×Nat}(h:w.heap[x]? =some (.cells arr E fz)):w.cell? ⟨x,o,none⟩=arr[o]? :=by
 simp[World.cell?,h]
theorem B8{w : World}{x o : Nat}{arr : Array Value}{E : TypeId}{fz : Nat×Nat}(h : w.heap[x]? =some (.cells arr E fz))(ht : Thawed arr fz)(ho : o<arr.size) :
  w.frozen? ⟨x,o,none⟩=false:=by
 simp only[World.frozen?,h,Bool.and_eq_false_iff,decide_eq_false_iff_not]
 rcases ht with e | e<;>omega
theorem Cs{w : World}{x o : Nat}{arr : Array Value}{E : TypeId}{fz : Nat×Nat}(h : w.heap[x]? =some (.cells arr E fz))(v : Value) :
  (w.setCell ⟨x,o,none⟩ v).heap[x]? =some (.cells (arr.setIfInBounds o v) E fz):=by
 simp only[World.setCell,Array.getElem?_modify,if_true,h,Option.map_some];rfl
theorem Thawed.set{arr:Array Value}{fz:Nat×Nat}(h:Thawed arr fz)(o:Nat)(v:Value):Thawed (arr.setIfInBounds o v) fz:=by
 simpa[Thawed] using h
theorem Sat.setCell{C : Ctx}{S F : St}{w : World}{t x : Nat}{ds : List D}{d : D}{v : Value}{o : Nat}(H : Sat C (S.add F) w)(h : Bt S.objs t=some (x, .cells ds))(hv : Rep C d v) :
  Sat C ((S.set t (.cells (ds.set o d))).add F) (w.setCell ⟨x,o,none⟩ v):=by
 obtain ⟨b1,b2,arr,E,fz,k1,k2,k3⟩:=H.obj_of h
 refine H.replace h (by simp) (fun k hk=>Below.heap_setCell _ _ _ _ hk) rfl rfl rfl ⟨_,E,fz,Cs k1 v,k2.set o v,?_⟩
 rw[Array.toList_setIfInBounds]
 exact RepL.set hv o k3
theorem Gv:∀ {l:List (Nat×Nat×AObj)} {t x:Nat} {o o':AObj},Bt l t=some (x,o)->Bt (Gu l t o') t=some (x,o')
 | [],_,_,_,_,h=>by simp[Bt] at h
 |(y,x0,a)::r,t,x,o,o',h=>by
  simp only[Bt] at h
  simp only[Gu]
  split
  ·rename_i e;rw[if_pos e] at h;cases h;simp[Bt, *]
  ·rename_i e;rw[if_neg e] at h;simp only[Bt,if_neg e];exact Gv h
theorem T3:∀ {l:List (Nat×Nat×AObj)} {x:Nat} {o o':AObj},Gu (Gu l x o) x o'=Gu l x o'
 | [],_,_,_=>rfl
 |(y,x0,a)::r,x,o,o'=>by
  simp only[Gu]
  split
  ·simp[Gu, *]
  ·rename_i e;simp[Gu,e,T3]
structure TI where
 desc:TypeDesc
 size:Nat
 bytes:Nat
 zero:List D
def Tu:Value->D
 |.bool b=>.bool b
 |.int k n=>.int k n
 |.string s=>.str s.data.toList
 |.pointer none=>.nilp
 |.slice none 0 0=>.sl 1 0 (fun _=>[]) .nil
 |.map none=>.nmap
 |.nilFunc=>.nilf
 |.nilIface=>.nili
 |_=>.unk
theorem BeE(C:Ctx)(v:Value):Rep C (Tu v) v:=by
 unfold Tu
 split<;>try simp[Rep]
 exact⟨none,0,0,⟨rfl,rfl,rfl⟩,rfl,Nat.le_refl _,by simp[maxLen],fun _=>⟨rfl,rfl⟩,fun _ h=>(by cases h),rfl⟩
theorem Mb(C:Ctx):∀(vs:List Value),RepL C (vs.map Tu) vs
 | []=>by simp[RepL]
 |v::vs=>by simp only[List.map_cons,RepL];exact⟨v,vs,rfl,BeE C v,Mb C vs⟩
def TabOk(P:Program)(tt:Nat->Option TI):Prop :=
 ∀t ti,tt t=some ti->P.underlying t=some ti.desc/\∃i z,P.info? t=some i/\i.size=ti.size/\i.bytes=ti.bytes/\i.zero=some z/\z.cells.size=ti.size/\ti.zero=z.cells.toList.map Tu
def In:List (Nat×TI)->Nat->Option TI
 | [],_=>none
 |(s,i)::r,t=>if s=t then some i else In r t
theorem TabOk.nil(P:Program):TabOk P (In []):=by intro t ti h;simp[In] at h
theorem TabOk.cons{P : Program}{l : List (Nat×TI)}{t : Nat}{ti : TI}(h1 : P.underlying t=some ti.desc)
  (h2:(P.info? t).map (fun i=>(i.size,i.bytes,i.zero.map fun z=>(z.cells.size,z.cells.toList.map Tu)))=some (ti.size,ti.bytes,some (ti.size,ti.zero)))
  (h:TabOk P (In l)):TabOk P (In ((t,ti)::l)):=by
 intro s si hs
 simp only[In] at hs
 split at hs
 ·rename_i e;subst e
  simp at hs;subst hs
  refine⟨h1,?_⟩
  obtain ⟨i,hi,e⟩:=Option.map_eq_some_iff.1 h2
  simp only[Prod.mk.injEq] at e
  obtain ⟨e1,e2,e3⟩:=e
  obtain ⟨z,hz,e⟩:=Option.map_eq_some_iff.1 e3
  simp only[Prod.mk.injEq] at e
  exact⟨i,z,hi,e1,e2,hz,e.1,e.2.symm⟩
 ·exact h s si hs
structure LoopAnn where
 slots:List Nat
 keep:List Nat
 α:Type
 st:α->List D×St
 inv:α->Prop
 mu:α->Nat
 dry:Bool:=false
 fr:α->St:=fun _=>⟨[],[]⟩
inductive Place where
 |slot (t:Nat)
 |part (t o:Nat)
 |cell (k o:Nat)
structure FnSpec where
 β:Type
 α:Type
 args:β->List D
 st:β->St
 pre:β->Prop
 post:β->α->Prop
 res:β->α->AEnd
 out:β->α->St
 fit:Option β:=none
 all:Bool:=false
def SpecR(A:FnSpec)(x:A.β):AEnd->St->Prop:=fun r S'=>∃y,A.post x y/\r=A.res x y/\S'=A.out x y
structure Senv where
 P:Program
 tt:Nat->Option TI
 n:Nat
 dfs:List Deferred
 V:Nat
 cross:List Nat
 gh:Nat->List Place
 gr:List Place
 unr:Nat->Nat
 cut:Nat->Env->St->Option LoopAnn
 ann:Nat->Env->St->Option LoopAnn
 ord:Nat->List Nat×List Nat
 con:Nat->List D->St->Option FnSpec
 inl:Nat->List D->St->(AEnd->St->Prop)->Prop:=fun _ _ _ _=>False
 eqs:List Nat:=[]
 ann2:Nat->Env->St->Option (LoopAnn×LoopAnn):=fun _ _ _=>none
 cut2:Nat->Env->St->Option (LoopAnn×LoopAnn):=fun _ _ _=>none
 own:Nat->Bool:=fun _=>false
 gz:Nat->List Place:=fun _=>[]
 mg:Nat->Nat:=fun _=>0
 auto:Bool:=false
 bcut:Nat->Env->St->Option LoopAnn:=fun _ _ _=>none
 pvt:Nat->List D->D:=fun _ _=>.unk
 bd:Nat->Option Nat:=fun _=>none
def Good(P:Program)(C:Ctx)(F:St)(K X:D->St->Prop):Result Next->Prop
 |.ok (.value v) w'=>∃C' d S',C.le C'/\Rep C' d v/\Sat C' (S'.add F) w'/\K d S'
 |.ok .skip w'=>∃C' S',C.le C'/\Sat C' (S'.add F) w'/\K (.tup []) S'
 |.ok (.enter f args) w'=>∃C' ds S',C.le C'/\RepL C' ds args.toList/\Sat C' (S'.add F) w'/\ACalls P f ds S' fun r S''=>match r with
  |.ret d=>K d S''
  |.pan d=>X d S''
 |.halt (.panic v) w'=>∃C' d S',C.le C'/\Rep C' d v/\Sat C' (S'.add F) w'/\X d S'
 |_=>False
section
variable {P:Program} {C:Ctx} {F S:St} {w:World} {K X:D->St->Prop}
theorem Good.val{v:Value}{d:D}(hs:Sat C (S.add F) w)(hv:Rep C d v)(hk:K d S):Good P C F K X (.ok (.value v) w) :=
 ⟨C,d,S,.refl C,hv,hs,hk⟩
theorem Good.of_val{s : Sem Value}{v : Value}{d : D}(hs : Sat C (S.add F) w)(hr : s.run P w=.ok v w)(hv : Rep C d v)(hk : K d S) :
  Good P C F K X ((do pure (Next.value (<- s)):Sem Next).run P w):=by
 simp only[Sem.run_bind,hr,Result.andThen_ok,Sem.run_pure];exact .val hs hv hk
theorem Good.of_val'{s : Sem Value}{v : Value}{w' : World}{C' : Ctx}{S' : St}{d : D}(hr : s.run P w=.ok v w')(hc : C.le C')(hs : Sat C' (S'.add F) w')(hv : Rep C' d v)(hk : K d S') :
  Good P C F K X ((do pure (Next.value (<- s)):Sem Next).run P w):=by
 simp only[Sem.run_bind,hr,Result.andThen_ok,Sem.run_pure];exact⟨C',d,S',hc,hv,hs,hk⟩
theorem Good.of_unit{s : Sem Unit}{w' : World}{C' : Ctx}{S' : St}(hr : s.run P w=.ok () w')(hc : C.le C')(hs : Sat C' (S'.add F) w')(hk : K (.tup []) S') :
  Good P C F K X ((do s;pure Next.skip:Sem Next).run P w):=by
 simp only[Sem.run_bind,hr,Result.andThen_ok,Sem.run_pure];exact⟨C',S',hc,hs,hk⟩
end
def Mq(k:IntKind)(a b:Int):Int:=k.wrap (BitVec.ofInt k.bits a &&& BitVec.ofInt k.bits b).toNat
def orI(k:IntKind)(a b:Int):Int:=k.wrap (BitVec.ofInt k.bits a ||| BitVec.ofInt k.bits b).toNat
def BoM(k:IntKind)(a b:Int):Int:=k.wrap (BitVec.ofInt k.bits a ^^^ BitVec.ofInt k.bits b).toNat
def BgL(k:IntKind)(a b:Int):Int:=k.wrap (BitVec.ofInt k.bits a &&& ~~~ BitVec.ofInt k.bits b).toNat
def Bpu(k:IntKind)(a:Int):Int:=k.wrap (BitVec.ofInt k.bits (if k.signed then -1 else k.max) ^^^ BitVec.ofInt k.bits a).toNat
def chk(b:Bool)(X:Prop):Prop:=match b with
 |true=>X
 |false=>False
def Be(p:Prop)[Decidable p](X:Prop):Prop:=chk (decide p) X
theorem Ba{b:Bool}{X:Prop}:chk b X↔b=true/\X:=by cases b<;>simp[chk]
theorem Bc{p X:Prop}[Decidable p]:Be p X↔p/\X:=by simp[Be,Ba]
def ifB(t:Bool)(X Y:Prop):Prop:=match t with
 |true=>X
 |false=>Y
theorem BbP{t:Bool}{X Y:Prop}(h:t=true->X)(k:t=false->Y):ifB t X Y:=by cases t<;>simp_all[ifB]
theorem C7{t:Bool}{X Y:Prop}(h:ifB t X Y):(t=true->X)/\(t=false->Y):=by cases t<;>simp_all[ifB]
def kEq(k k':IntKind):Bool:=decide (k=k')
def Bac(op:BinOp)(k:IntKind)(a:Int)(k':IntKind)(b:Int)(K:D->Prop):Prop :=
 match op with
 |.shl=>Be (0<=b) (K (.int k (k.wrap (a*2 ^ (min b.toNat k.bits)))))
 |.shr=>Be (0<=b) (K (.int k (a.fdiv (2 ^ (min b.toNat k.bits)))))
 |.add=>chk (kEq k k') (K (.int k (k.wrap (a+b))))
 |.sub=>chk (kEq k k') (K (.int k (k.wrap (a-b))))
 |.mul=>chk (kEq k k') (K (.int k (k.wrap (a*b))))
 |.quo=>chk (kEq k k') (Be (b≠0) (K (.int k (k.wrap (a.tdiv b)))))
 |.rem=>chk (kEq k k') (Be (b≠0) (K (.int k (a.tmod b))))
 |.and=>chk (kEq k k') (K (.int k (Mq k a b)))
 |.or=>chk (kEq k k') (K (.int k (orI k a b)))
 |.xor=>chk (kEq k k') (K (.int k (BoM k a b)))
 |.andNot=>chk (kEq k k') (K (.int k (BgL k a b)))
 |.eql=>chk (kEq k k') (K (.bool (a==b)))
 |.neq=>chk (kEq k k') (K (.bool (a != b)))
 |.lss=>chk (kEq k k') (K (.bool (decide (a<b))))
 |.leq=>chk (kEq k k') (K (.bool (decide (a<=b))))
 |.gtr=>chk (kEq k k') (K (.bool (decide (b<a))))
 |.geq=>chk (kEq k k') (K (.bool (decide (b<=a))))
theorem Bhi{P : Program}{w : World}{op : BinOp}{k k' : IntKind}{a b : Int}{K : D -> Prop}{t : TypeId}(h : Bac op k a k' b K) :
  ∃k2 v,(binOp op t (.int k a) (.int k' b)).run P w=.ok v w/\K k2/\∀C,Rep C k2 v:=by
 cases op<;>simp only[Bac,Bc] at h
 case shl=>exact⟨_,_,by simp[binOp,Op.shift,Int.not_lt.2 h.1];rfl,h.2,fun C=>by simp[Rep]⟩
 case shr=>exact⟨_,_,by simp[binOp,Op.shift,Int.not_lt.2 h.1];rfl,h.2,fun C=>by simp[Rep]⟩
 all_goals
  replace h:=Ba.1 h
  obtain ⟨hk,h⟩:=h
  have hk:k=k':=of_decide_eq_true hk
  subst hk
 case quo =>
  obtain ⟨h0,h⟩:=h
  exact⟨_,_,by simp[binOp,Op.intDiv,h0];rfl,h,fun C=>by simp[Rep]⟩
 case rem =>
  obtain ⟨h0,h⟩:=h
  exact⟨_,_,by simp[binOp,Op.intDiv,h0];rfl,h,fun C=>by simp[Rep]⟩
 all_goals
  exact⟨_,_,by simp[binOp,Op.intArith,Op.intBits,Op.intCmp];rfl,h,fun C=>by simp[Rep,Mq,orI,BoM,BgL]⟩
def u8s(l:List UInt8):List (List D):=l.map fun b=>[.int .u8 (b.toNat:Int)]
def BaA(op:BinOp)(a b:List UInt8)(K:D->Prop):Prop :=
 match op with
 |.add=>Be (a.length+b.length<=9223372036854775807) (K (.str (a++b)))
 |.eql=>K (.bool (a==b))
 |.neq=>K (.bool (a != b))
 |.lss=>K (.bool (Op.bytesLess a b))
 |.leq=>K (.bool (Op.bytesLess a b||a==b))
 |.gtr=>K (.bool !(Op.bytesLess a b||a==b))
 |.geq=>K (.bool !(Op.bytesLess a b))
 |_=>False
theorem Bhz{P : Program}{w : World}{op : BinOp}{a b : List UInt8}{K : D -> Prop}{t : TypeId}(h : BaA op a b K) :
  ∃k2 v,(binOp op t (.string ⟨a.toArray⟩) (.string ⟨b.toArray⟩)).run P w=.ok v w/\K k2/\∀C,Rep C k2 v:=by
 cases op<;>simp only[BaA,Bc] at h
 case add =>
  refine⟨_,_,?_,h.2,fun C=>by simp only[Rep];rfl⟩
  simp only[binOp]
  rw[run_string_add_sum _ _ _ (by simpa[ByteArray.size] using h.1),ByteArray.mk_append_mk]
 all_goals first
  |exact h.elim
  |exact⟨_,_,by simp only[binOp,Op.stringOp,ByteArray.toList_mk];rfl,h,fun C=>by simp only[Rep];try rfl⟩
theorem HeadOk.nil_a{C:Ctx}{w n:Nat}{a:Option Addr}{len cap:Nat}(h:HeadOk C w n .nil a len cap):a=none/\len=0/\cap=0:=by
 obtain ⟨h1,_,_,h4,_,h6⟩:=h
 have h6':a=none:=h6
 obtain ⟨e1,e2⟩:=h4 h6'
 exact⟨h6',by omega,e2⟩
def WU:D->Option Bool
 |.nilp=>some true
 |.ref _ _ _=>some false
 |.er _ _ _ _ _=>some false
 |.pt _=>some false
 |_=>none
def U8:D->Option Bool
 |.nmap=>some true
 |.map _ _=>some false
 |_=>none
def BdW:D->Option Bool
 |.nilf=>some true
 |.fn _ _ _=>some false
 |_=>none
def Bcl:D->Option Bool
 |.nili=>some true
 |.iface _ _=>some false
 |_=>none
def Bdd:D->Option Bool
 |.sl _ _ _ m=>match m with
  |.nil=>some true
  |.full=>some false
  |_=>none
 |.ms _ _ _ _ _ _=>some false
 |.vs _ _ _ _ _=>some false
 |_=>none
def Ia:Option Bool->Option Bool->Option Bool
 |some true,some b=>some b
 |some false,some true=>some false
 |_,_=>none
def eqT(d:TypeDesc)(x y:D):Option Bool :=
 match d with
 |.bool=>match x,y with
  |.bool a,.bool b=>some (a==b)
  |_,_=>none
 |.pointer _=>Ia (WU x) (WU y)
 |.map _ _=>Ia (U8 x) (U8 y)
 |.func _ _ _=>Ia (BdW x) (BdW y)
 |.interface _=>Ia (Bcl x) (Bcl y)
 |.slice _=>Ia (Bdd x) (Bdd y)
 |_=>none
theorem EG{a b:Option Bool}{r:Bool}(h:Ia a b=some r):(a=some true/\b=some r)\/(a=some false/\b=some true/\r=false):=by
 unfold Ia at h
 split at h<;>simp_all
theorem IN{C:Ctx}{x:D}{u:Value}{b:Bool}(h:WU x=some b)(hr:Rep C x u):∃a:Option Addr,u=.pointer a/\a.isNone=b:=by
 unfold WU at h
 split at h<;>simp only[Option.some.injEq,reduceCtorEq] at h<;>subst h<;>simp only[Rep] at hr
 ·exact⟨_,hr,rfl⟩
 ·exact⟨_,hr,rfl⟩
 ·exact⟨_,hr,rfl⟩
 ·obtain ⟨b,o,e,_⟩:=hr;exact⟨_,e,rfl⟩
theorem IV{C:Ctx}{x:D}{u:Value}{b:Bool}(h:U8 x=some b)(hr:Rep C x u):∃a:Option Nat,u=.map a/\a.isNone=b:=by
 unfold U8 at h
 split at h<;>simp only[Option.some.injEq,reduceCtorEq] at h<;>subst h<;>simp only[Rep] at hr
 ·exact⟨_,hr,rfl⟩
 ·exact⟨_,hr,rfl⟩
theorem MO{C:Ctx}{x:D}{u:Value}{b:Bool}(h:BdW x=some b)(hr:Rep C x u):(b=true/\u=.nilFunc)\/(b=false/\∃f a c,u=.func f a c):=by
 unfold BdW at h
 split at h<;>simp only[Option.some.injEq,reduceCtorEq] at h<;>subst h<;>simp only[Rep] at hr
 ·exact .inl ⟨rfl,hr⟩
 ·obtain ⟨a,c,e,_⟩:=hr;exact .inr ⟨rfl,_,_,_,e⟩
theorem M2{C:Ctx}{x:D}{u:Value}{b:Bool}(h:Bcl x=some b)(hr:Rep C x u):(b=true/\u=.nilIface)\/(b=false/\∃t v,u=.iface t v):=by
 unfold Bcl at h
 split at h<;>simp only[Option.some.injEq,reduceCtorEq] at h<;>subst h<;>simp only[Rep] at hr
 ·exact .inl ⟨rfl,hr⟩
 ·obtain ⟨a,e,_⟩:=hr;exact .inr ⟨rfl,_,_,e⟩
theorem MH{C:Ctx}{x:D}{u:Value}{b:Bool}(h:Bdd x=some b)(hr:Rep C x u):∃(a:Option Addr) (l c:Nat),u=.slice a l c/\a.isNone=b/\(b=true->l=0/\c=0):=by
 unfold Bdd at h
 split at h
 ·simp only[Rep] at hr
  obtain ⟨a,len,cap,e,hh,_⟩:=hr
  split at h
  ·simp only[Option.some.injEq] at h;subst h
   obtain ⟨e1,e2,e3⟩:=hh.nil_a
   exact⟨a,len,cap,e,by simp[e1],fun _=>⟨e2,e3⟩⟩
  ·simp only[Option.some.injEq] at h;subst h
   have:cap=_/\a≠none:=⟨hh.2.2.2.2.2.1,by obtain ⟨x,hx,_⟩:=hh.2.2.2.2.2.2;simp[hx]⟩
   refine⟨a,len,cap,e,?_,fun h=>by cases h⟩
   cases a<;>simp_all
  ·cases h
 ·simp only[Option.some.injEq] at h;subst h
  simp only[Rep] at hr
  exact⟨_,_,_,hr.1,rfl,fun h=>by cases h⟩
 ·simp only[Option.some.injEq] at h;subst h
  simp only[Rep] at hr
  exact⟨_,_,_,hr.1,rfl,fun h=>by cases h⟩
 ·cases h
theorem Bhm(n : Nat){P : Program}{C : Ctx}{w : World}{t : TypeId}{d : TypeDesc}(hd : P.underlying t=some d){x y : D}{r : Bool}(h : eqT d x y=some r){u v : Value}
  (hx:Rep C x u) (hy:Rep C y v):(Op.equalIn (n+1) t u v).run P w=.ok r w:=by
 unfold eqT at h
 split at h
 ·split at h<;>simp only[Option.some.injEq,reduceCtorEq] at h
  subst h
  simp only[Rep] at hx hy;subst hx hy
  simp[Op.equalIn,run_underlying hd]
 ·rcases EG h with ⟨h1,h2⟩ | ⟨h1,h2,rfl⟩
  ·obtain ⟨a,rfl,ha⟩:=IN h1 hx;obtain ⟨b,rfl,hb⟩:=IN h2 hy
   cases a<;>simp at ha
   simp[Op.equalIn,run_underlying hd,hb]
  ·obtain ⟨a,rfl,ha⟩:=IN h1 hx;obtain ⟨b,rfl,hb⟩:=IN h2 hy
   cases b<;>simp at hb
   cases a<;>simp at ha
   simp[Op.equalIn,run_underlying hd]
 ·rcases EG h with ⟨h1,h2⟩ | ⟨h1,h2,rfl⟩
  ·obtain ⟨a,rfl,ha⟩:=IV h1 hx;obtain ⟨b,rfl,hb⟩:=IV h2 hy
   cases a<;>simp at ha
   simp[Op.equalIn,run_underlying hd,hb]
  ·obtain ⟨a,rfl,ha⟩:=IV h1 hx;obtain ⟨b,rfl,hb⟩:=IV h2 hy
   cases b<;>simp at hb
   cases a<;>simp at ha
   simp[Op.equalIn,run_underlying hd]
 ·rcases EG h with ⟨h1,h2⟩ | ⟨h1,h2,rfl⟩
  ·rcases MO h1 hx with ⟨_,rfl⟩ | ⟨e,_⟩
   ·rcases MO h2 hy with ⟨rfl,rfl⟩ | ⟨rfl,_,_,_,rfl⟩<;>simp[Op.equalIn,run_underlying hd]
   ·cases e
  ·rcases MO h1 hx with ⟨e,_⟩ | ⟨_,_,_,_,rfl⟩
   ·cases e
   ·rcases MO h2 hy with ⟨_,rfl⟩ | ⟨e,_⟩
    ·simp[Op.equalIn,run_underlying hd]
    ·cases e
 ·rcases EG h with ⟨h1,h2⟩ | ⟨h1,h2,rfl⟩
  ·rcases M2 h1 hx with ⟨_,rfl⟩ | ⟨e,_⟩
   ·rcases M2 h2 hy with ⟨rfl,rfl⟩ | ⟨rfl,_,_,rfl⟩<;>simp[Op.equalIn,run_underlying hd]
   ·cases e
  ·rcases M2 h1 hx with ⟨e,_⟩ | ⟨_,_,_,rfl⟩
   ·cases e
   ·rcases M2 h2 hy with ⟨_,rfl⟩ | ⟨e,_⟩
    ·simp[Op.equalIn,run_underlying hd]
    ·cases e
 ·rcases EG h with ⟨h1,h2⟩ | ⟨h1,h2,rfl⟩
  ·obtain ⟨a,l,c,rfl,ha,ha'⟩:=MH h1 hx;obtain ⟨b,l',c',rfl,hb,_⟩:=MH h2 hy
   cases a<;>simp at ha
   simp[Op.equalIn,run_underlying hd,hb]
  ·obtain ⟨a,l,c,rfl,ha,_⟩:=MH h1 hx;obtain ⟨b,l',c',rfl,hb,_⟩:=MH h2 hy
   cases b<;>simp at hb
   cases a<;>simp at ha
   simp[Op.equalIn,run_underlying hd]
 ·cases h
theorem Bgs{P : Program}{C : Ctx}{w : World}{t : TypeId}{d : TypeDesc}(hd : P.underlying t=some d){x y : D}{r : Bool}(h : eqT d x y=some r){u v : Value}
  (hx:Rep C x u) (hy:Rep C y v):(Op.equal t u v).run P w=.ok r w:=Bhm 9999 hd h hx hy
def CJ:D->List D
 |.agg cs=>cs
 |d=>[d]
def Gi:D->Bool
 |.unk | .agg _ | .tup _=>false
 |_=>true
def C6:TypeDesc->Bool
 |.struct _ | .array _ _=>true
 |_=>false
theorem IT{C:Ctx}{d:D}{v:Value}(h:Gi d=true)(hr:Rep C d v):v.oneCell'=true/\v.cells=#[v]:=by
 cases d<;>simp only[Gi,Bool.false_eq_true] at h<;>simp only[Rep] at hr
 case pt=>obtain ⟨_,_,rfl,_⟩:=hr;exact⟨rfl,rfl⟩
 case sl=>obtain ⟨_,_,_,rfl,_⟩:=hr;exact⟨rfl,rfl⟩
 case ms=>obtain ⟨rfl,_⟩:=hr;exact⟨rfl,rfl⟩
 case vs=>obtain ⟨rfl,_⟩:=hr;exact⟨rfl,rfl⟩
 case fn=>obtain ⟨_,_,rfl,_⟩:=hr;exact⟨rfl,rfl⟩
 case iface=>obtain ⟨_,rfl,_⟩:=hr;exact⟨rfl,rfl⟩
 all_goals (subst hr;exact⟨rfl,rfl⟩)
def EI(d:D):Bool:=(CJ d).all Gi
theorem ID{C:Ctx}{d:D}{v:Value}(h:EI d=true)(hr:Rep C d v):RepL C (CJ d) v.cells.toList:=by
 cases d
 case agg cs =>
  simp only[Rep] at hr
  obtain ⟨vs,rfl,hl⟩:=hr
  exact hl
 all_goals
  simp only[EI,CJ,List.all_cons,List.all_nil,Bool.and_true] at h
  have:=(IT h hr).2
  simp only[CJ,RepL,this]
  exact⟨v,[],rfl,hr,rfl⟩
theorem E6{C:Ctx}:∀ {ds:List D} {vs:List Value},ds.all Gi=true->RepL C ds vs->∀v∈vs,v.oneCell'=true
 | [],vs,_,hr,v,hv=>by simp only[RepL] at hr;subst hr;cases hv
 |d::ds,vs,h,hr,v,hv=>by
  simp only[RepL] at hr
  obtain ⟨x,xs,rfl,h1,h2⟩:=hr
  simp only[List.all_cons,Bool.and_eq_true] at h
  rcases List.mem_cons.1 hv with rfl | hv
  ·exact (IT h.1 h1).1
  ·exact E6 h.2 h2 v hv
theorem MD{C:Ctx}{d:D}{v:Value}(h:EI d=true)(hr:Rep C d v):∀x∈v.cells.toList,x.oneCell'=true :=
 E6 h (ID h hr)
section
variable {P:Program} {tt:Nat->Option TI} {w:World}
theorem Bo(hT:TabOk P tt){t:Nat}{ti:TI}(h:tt t=some ti):(sizeOf t).run P w=.ok ti.size w:=by
 obtain ⟨_,i,z,h1,h2,_⟩:=hT t ti h
 simp[sizeOf,typeInfo,h1,h2]
theorem Bz(hT:TabOk P tt){t:Nat}{ti:TI}(h:tt t=some ti):(underlying t).run P w=.ok ti.desc w :=
 run_underlying (hT t ti h).1 w
theorem BaM(hT:TabOk P tt){t:Nat}{ti:TI}(h:tt t=some ti):(isAgg t).run P w=.ok (C6 ti.desc) w:=by
 simp only[isAgg,Sem.run_bind,Bz hT h,Result.andThen_ok]
 cases ti.desc<;>rfl
theorem GW(hT:TabOk P tt){t:Nat}{ti:TI}(h:tt t=some ti):∃z,(zeroValue t).run P w=.ok z w/\z.cells.size=ti.size/\∀C,RepL C ti.zero z.cells.toList:=by
 obtain ⟨_,i,z,h1,h2,h3,h4,h5,h6⟩:=hT t ti h
 exact⟨z,by simp[zeroValue,typeInfo,h1,h4],h5,fun C=>by rw[h6];exact Mb C _⟩
end
theorem Addr.add_mk(b o n:Nat):(⟨b,o,none⟩:Addr).add n=⟨b,o+n,none⟩:=by
 unfold Addr.add;split<;>simp_all
def Ch(ti:TI)(ds:List D)(o:Nat):D :=
 if C6 ti.desc then .agg ((ds.drop o).take ti.size) else ds.getD o .unk
theorem Eo{P : Program}{tt : Nat -> Option TI}{w : World}{C : Ctx}(hT : TabOk P tt){t : Nat}{ti : TI}(h : tt t=some ti){b o : Nat}{ds : List D}
  (hc:∀i d,ds[i]? =some d->∃v,w.cell? ⟨b,o+i,none⟩=some v/\Rep C d v) (hn:if C6 ti.desc then ti.size<=ds.length else 0<ds.length) :
  ∃v,(loadVar t ⟨b,o,none⟩).run P w=.ok v w/\Rep C (Ch ti ds 0) v:=by
 simp only[loadVar,Sem.run_bind,BaM hT h,Result.andThen_ok,Ch]
 cases ha:C6 ti.desc with
 |true =>
  simp only[ha,if_true] at hn ⊢
  simp only[Sem.run_bind,Bo hT h,Result.andThen_ok]
  have hx:∀i,i<ti.size->∃v,w.cell? ⟨b,o+i,none⟩=some v/\Rep C (ds.getD i .unk) v:=by
   intro i hi
   obtain ⟨v,h1,h2⟩:=hc i (ds.getD i .unk) (by simp[List.getD_eq_getElem?_getD,List.getElem?_eq_getElem (show i<ds.length by omega)])
   exact⟨v,h1,h2⟩
  let f:Nat->Value:=fun i=>if hi:i<ti.size then (hx i hi).choose else undef
  have hf:∀i,i<ti.size->w.cell? ⟨b,o+i,none⟩=some (f i)/\Rep C (ds.getD i .unk) (f i):=by
   intro i hi
   simp only[f,dif_pos hi]
   exact (hx i hi).choose_spec
  rw[run_loadCells w ⟨b,o,none⟩ ti.size f (fun j hj=>by rw[Addr.add_mk];exact (hf j hj).1)]
  refine⟨_,rfl,?_⟩
  simp only[Rep]
  refine⟨_,rfl,?_⟩
  have key:∀(n:Nat) (k:Nat),k+n<=ti.size->RepL C ((ds.drop k).take n) ((List.range' k n).map f):=by
   intro n
   induction n with
   |zero=>intro k _;simp[RepL]
   |succ n ih =>
    intro k hk
    have hlt:k<ds.length:=by omega
    rw[List.drop_eq_getElem_cons hlt,List.take_succ_cons,List.range'_succ,List.map_cons]
    simp only[RepL]
    refine⟨f k,_,rfl,?_,ih (k+1) (by omega)⟩
    have:=(hf k (by omega)).2
    simpa[List.getD_eq_getElem?_getD,List.getElem?_eq_getElem hlt] using this
  have:=key ti.size 0 (by omega)
  simp only[List.drop_zero,List.range_eq_range'] at this ⊢
  exact this
 |false =>
  simp only[ha,Bool.false_eq_true,if_false] at hn ⊢
  obtain ⟨v,h1,h2⟩:=hc 0 (ds.getD 0 .unk) (by simp[List.getD_eq_getElem?_getD,List.getElem?_eq_getElem hn])
  refine⟨v,?_,h2⟩
  simp at h1
  simp[h1]
section
variable {P:Program} {tt:Nat->Option TI} {C:Ctx} {F S:St} {w:World} {K X:D->St->Prop}
theorem Bh1{b o : Nat}{row : List D}(hs : Sat C (S.add F) w)(h : RepCells C b o row) :
  ∀i d,row[i]? =some d->∃v,w.cell? ⟨b,o+i,none⟩=some v/\Rep C d v:=fun i d hd =>
 let ⟨v,h1,h2⟩:=h.get i d hd
 ⟨v,hs.imm _ _ _ h1,h2⟩
theorem Gy{t x : Nat}{ds : List D}(hs : Sat C (S.add F) w)(h : Bt S.objs t=some (x, .cells ds))(o : Nat) :
  ∀i d,(ds.drop o)[i]? =some d->∃v,w.cell? ⟨x,o+i,none⟩=some v/\Rep C d v:=by
 obtain ⟨_,_,arr,E,fz,k1,_,k3⟩:=hs.obj_of h
 intro i d hd
 rw[List.getElem?_drop] at hd
 obtain ⟨v,e,r⟩:=RepL.get k3 _ _ hd
 exact⟨v,by rw[cell_of_heap k1];simpa using e,r⟩
theorem Em{w n cap:Nat}{f:Nat->List D}(hw:∀i,i<n->(f i).length=w):∀ {m:Nat},m<=n->((List.range m).map f).flatten.length=m*w
 |0,_=>by simp
 |m+1,h=>by
  rw[List.range_succ,List.map_append,List.flatten_append,List.length_append,Em (cap:=cap) hw (Nat.le_of_succ_le h)]
  simp[hw m (by omega),Nat.add_mul]
theorem CM{w n cap:Nat}{f:Nat->List D}(hw:∀i,i<n->(f i).length=w)(hc:n<=cap):(Cj w n cap f).length=cap*w:=by
 simp only[Cj,List.length_append,Em (cap:=cap) hw (Nat.le_refl n),List.length_replicate]
 rw[<- Nat.add_mul];congr 1;omega
theorem Baz{n i:Nat}(hi:i<n):List.range n=List.range i++i::(List.range n).drop (i+1):=by
 have h:=(List.take_append_drop i (List.range n)).symm
 rw[List.drop_eq_getElem_cons (by simpa using hi)] at h
 simpa[Nat.min_eq_left (Nat.le_of_lt hi)] using h
theorem Be8{n:Nat}(f:Nat->List D){i:Nat}(hi:i<n):∃A,((List.range n).map f).flatten=((List.range i).map f).flatten++(f i++A):=by
 obtain ⟨l,hl⟩:∃l,List.range n=List.range i++i::l:=⟨_,Baz hi⟩
 exact⟨(l.map f).flatten,by rw[hl];simp⟩
theorem Bho{w n cap:Nat}{f:Nat->List D}(hw:∀i,i<n->(f i).length=w){i:Nat}(hi:i<n):∃A,(Cj w n cap f).drop (i*w)=f i++A:=by
 obtain ⟨A,hA⟩:=Be8 f hi
 have hl:=Em (cap:=cap) hw (Nat.le_of_lt hi)
 refine⟨A++List.replicate ((cap-n)*w) .unk,?_⟩
 rw[Cj,hA,List.append_assoc,List.drop_append_of_le_length (by rw[hl];exact Nat.le_refl _),<- hl]
 simp
theorem BdF{w n cap:Nat}{f:Nat->List D}(hw:∀i,i<n->(f i).length=w){m:Nat}(hm:m<=n):(Cj w n cap f).take (m*w)=((List.range m).map f).flatten:=by
 have hl:=Em (cap:=cap) hw hm
 have:∃A,((List.range n).map f).flatten=((List.range m).map f).flatten++A:=by
  refine⟨(((List.range n).drop m).map f).flatten,?_⟩
  conv=>lhs;rw[<- List.take_append_drop m (List.range n)]
  simp only[List.take_range,Nat.min_eq_left hm,List.map_append,List.flatten_append]
 obtain ⟨A,hA⟩:=this
 rw[Cj,hA,List.append_assoc,<- hl]
 simp
def OO(f:Nat->List D)(i:Nat)(r:List D):Nat->List D:=fun j=>if j=i then r else f j
theorem BiX{f:Nat->List D}{r:List D}:∀ {n i:Nat},n<=i->(List.range n).map (OO f i r)=(List.range n).map f:=by
 intro n i h
 refine List.map_congr_left fun j hj=>?_
 have:=List.mem_range.1 hj
 simp[OO,show ¬j=i by omega]
theorem MV(hs : Sat C (S.add F) w){k x wd n cap : Nat}{f : Nat -> List D}(h : Bt S.objs k=some (x, .vec wd n cap f)) :
  Sat C ((S.set k (.cells (Cj wd n cap f))).add F) w/\n<=cap/\(∀i,i<n->(f i).length=wd)/\Bt (S.set k (.cells (Cj wd n cap f))).objs k=some (x,.cells (Cj wd n cap f)):=by
 obtain ⟨_,_,h1,h2,h3⟩:=hs.obj_of h
 exact⟨hs.replace h rfl (fun _ _=>rfl) rfl rfl rfl h3,h1,h2,Gv h⟩
theorem TH{k : Nat}{ds : List D}(hs : Sat C ((S.set k (.cells ds)).add F) w){x wd n cap : Nat}{f : Nat -> List D}{o : AObj}(h : Bt S.objs k=some (x, o))(hd : ds=Cj wd n cap f)(hc : n<=cap)(hw : ∀i, i<n -> (f i).length=wd) :
  Sat C ((S.set k (.vec wd n cap f)).add F) w:=by
 have hg:Bt (S.set k (.cells ds)).objs k=some (x,.cells ds):=Gv h
 obtain ⟨_,_,arr,E,fz,h3⟩:=hs.obj_of hg
 have:=hs.replace (o':=.vec wd n cap f) hg rfl (fun _ _=>rfl) rfl rfl rfl ⟨hc,hw,arr,E,fz,hd ▸ h3⟩
 simpa[St.set,T3] using this
def Ew(ti:TI):Nat:=if C6 ti.desc then ti.size else 1
def Ba8(ti:TI)(x:D)(S:St)(K:D->St->Prop):Prop :=
 match x with
 |.ref k b o=>match Bt S.objs k with
  |some (x,.cells ds)=>x=b/\Be (o+Ew ti<=ds.length) (K (Ch ti ds o) S)
  |some (x,.bld _ _ d)=>chk (decide (o=1)&&!C6 ti.desc) (x=b/\K d S)
  |some (x,.bldx _ _ d ds)=>x=b/\Be (1<=o/\o+Ew ti<=2+ds.length) (K (Ch ti (.unk::d::ds) o) S)
  |_=>False
 |.pt row=>Be (Ew ti<=row.length) (K (Ch ti row 0) S)
 |.er k b i wd fo=>match Bt S.objs k with
  |some (x,.vec w _n _ f)=>chk (decide (w=wd)&&decide (fo+Ew ti<=wd)) (x=b/\Be (i<_n) (K (Ch ti (f i) fo) S))
  |_=>False
 |_=>False
theorem Of(ti:TI)(ds:List D)(o:Nat):Ch ti (ds.drop o) 0=Ch ti ds o:=by
 simp[Ch,List.getD_eq_getElem?_getD]
theorem BhE(hs : Sat C (S.add F) w){k x T E : Nat}{d : D}(h : Bt S.objs k=some (x, .bld T E d)) :
  Sat C ((S.set k (.cells [.unk,d])).add F) w/\Bt (S.set k (.cells [.unk,d])).objs k=some (x,.cells [.unk,d]):=by
 obtain ⟨_,_,v0,v1,fz,h1,h2,h3,h4,_⟩:=hs.obj_of h
 exact⟨hs.replace h rfl (fun _ _=>rfl) rfl rfl rfl ⟨_,T,fz,h1,h2,by simp only[RepL];exact⟨v0,[v1],rfl,by simp[Rep],v1,[],rfl,h4,rfl⟩⟩,Gv h⟩
theorem BeI(hs : Sat C (S.add F) w){k x T E : Nat}{d : D}{ds : List D}(h : Bt S.objs k=some (x, .bldx T E d ds)) :
  Sat C ((S.set k (.cells (.unk::d::ds))).add F) w/\Bt (S.set k (.cells (.unk::d::ds))).objs k=some (x,.cells (.unk::d::ds)):=by
 obtain ⟨_,_,arr,v0,v1,vs,fz,h1,h2,h3,_,h5,h6,_⟩:=hs.obj_of h
 refine⟨hs.replace h rfl (fun _ _=>rfl) rfl rfl rfl ⟨_,T,fz,h1,h3,?_⟩,Gv h⟩
 rw[h2]
 simp only[RepL]
 exact⟨v0,_,rfl,by simp[Rep],v1,_,rfl,h5,h6⟩
theorem Bik(hT : TabOk P tt)(hs : Sat C (S.add F) w){t : Nat}{ti : TI}(ht : tt t=some ti){x : D}{v : Value}(hx : Rep C x v)(h : Ba8 ti x S K) :
  Good P C F K X ((do pure (Next.value (<- Instr.loadAt t v)):Sem Next).run P w):=by
 unfold Ba8 at h
 simp only[Bc] at h
 split at h
 ·split at h
  ·rename_i t b o _ x ds hg
   simp only[Rep] at hx;subst hx
   obtain ⟨rfl,hn,hk⟩:=h
   have hn':if C6 ti.desc then ti.size<=(ds.drop o).length else 0<(ds.drop o).length:=by
    simp only[Ew] at hn
    split at hn<;>simp_all<;>omega
   obtain ⟨u,h1,h2⟩:=Eo (P:=P) hT ht (Gy hs hg o) hn'
   rw[Of] at h2
   exact .of_val hs (by simp[Instr.loadAt,Instr.sureAddr,h1]) h2 hk
  ·rename_i t b o _ x T E d hg
   simp only[Rep] at hx;subst hx
   obtain ⟨hck,rfl,hk⟩:=Ba.1 h
   simp only[Bool.and_eq_true,decide_eq_true_eq,Bool.not_eq_true'] at hck
   obtain ⟨rfl,ha⟩:=hck
   obtain ⟨hs',hg'⟩:=BhE hs hg
   obtain ⟨u,h1,h2⟩:=Eo (P:=P) hT ht (Gy hs' hg' 1) (by simp[ha])
   have e:Ch ti (([D.unk,d]:List D).drop 1) 0=d:=by simp[Ch,ha]
   rw[e] at h2
   exact .of_val hs (by simp[Instr.loadAt,Instr.sureAddr,h1]) h2 hk
  ·rename_i t b o _ x T E d ds hg
   simp only[Rep] at hx;subst hx
   obtain ⟨rfl,⟨_,hn⟩,hk⟩:=h
   obtain ⟨hs',hg'⟩:=BeI hs hg
   have hn':if C6 ti.desc then ti.size<=((D.unk::d::ds).drop o).length else 0<((D.unk::d::ds).drop o).length:=by
    simp only[Ew] at hn
    split at hn<;>simp_all<;>omega
   obtain ⟨u,h1,h2⟩:=Eo (P:=P) hT ht (Gy hs' hg' o) hn'
   rw[Of] at h2
   exact .of_val hs (by simp[Instr.loadAt,Instr.sureAddr,h1]) h2 hk
  ·exact h.elim
 ·rename_i row
  simp only[Rep] at hx
  obtain ⟨b,o,rfl,hr⟩:=hx
  obtain ⟨hn,hk⟩:=h
  have hn':if C6 ti.desc then ti.size<=row.length else 0<row.length:=by
   simp only[Ew] at hn
   split at hn<;>simp_all<;>omega
  obtain ⟨u,h1,h2⟩:=Eo (P:=P) hT ht (Bh1 hs hr) hn'
  exact .of_val hs (by simp[Instr.loadAt,Instr.sureAddr,h1]) h2 hk
 ·split at h
  ·rename_i k b i wd fo _ x w' n cap f hg
   simp only[Rep] at hx;subst hx
   obtain ⟨hck,rfl,hi,hk⟩:=Ba.1 h
   simp only[Bool.and_eq_true,decide_eq_true_eq] at hck
   obtain ⟨rfl,hfo⟩:=hck
   obtain ⟨hs',hc,hw,hg'⟩:=MV hs hg
   obtain ⟨A,hA⟩:=Bho (cap:=cap) hw hi
   have hfl:=hw i hi
   have hdr:(Cj w' n cap f).drop (i*w'+fo)=(f i).drop fo++A:=by
    rw[<- List.drop_drop,hA,List.drop_append_of_le_length (by omega)]
   have hn':if C6 ti.desc then ti.size<=((Cj w' n cap f).drop (i*w'+fo)).length else 0<((Cj w' n cap f).drop (i*w'+fo)).length:=by
    rw[hdr]
    simp only[Ew] at hfo
    split at hfo<;>simp_all<;>omega
   obtain ⟨u,h1,h2⟩:=Eo (P:=P) hT ht (Gy hs' hg' (i*w'+fo)) hn'
   have e:Ch ti ((Cj w' n cap f).drop (i*w'+fo)) 0=Ch ti (f i) fo:=by
    rw[hdr]
    simp only[Ch,Ew] at hfo ⊢
    split
    ·rename_i ha
     simp only[ha,if_true] at hfo
     rw[List.drop_zero,List.take_append_of_le_length (by simp;omega)]
    ·rename_i ha
     simp only[ha,Bool.false_eq_true,if_false] at hfo
     simp only[List.getD_eq_getElem?_getD]
     rw[List.getElem?_append_left (by simp;omega),List.getElem?_drop];simp
   rw[e] at h2
   exact .of_val hs (by simp[Instr.loadAt,Instr.sureAddr,h1]) h2 hk
  ·exact h.elim
 ·exact h.elim
def BP(ds:List D)(o:Nat)(new:List D):List D :=
 match new with
 | []=>ds
 |d::r=>BP (ds.set o d) (o+1) r
theorem GP:∀(new ds:List D) (o:Nat),(BP ds o new).length=ds.length
 | [],_,_=>rfl
 |d::r,ds,o=>by simp[BP,GP r]
theorem St.set_set(S:St)(x:Nat)(o o':AObj):(S.set x o).set x o'=S.set x o':=by simp[St.set,T3]
theorem BkL(S:St){t x:Nat}{o o':AObj}(h:Bt S.objs t=some (x,o)):Bt (S.set t o').objs t=some (x,o'):=Gv h
theorem B9{t x : Nat} : ∀(new : List D) (vs : List Value) (ds : List D) (o i : Nat) (w : World) (S : St), RepL C new vs -> (∀v∈vs, v.oneCell'=true) ->
  Sat C (S.add F) w->Bt S.objs t=some (x,.cells ds)->o+i+new.length<=ds.length ->
  ∃w',(storeCells ⟨x,o,none⟩ vs i).run P w=.ok () w'/\Sat C ((S.set t (.cells (BP ds (o+i) new))).add F) w'
 | [],vs,ds,o,i,w,S,hr,_,hs,hg,_=>by
  simp only[RepL] at hr;subst hr
  refine⟨w,by simp[storeCells],?_⟩
  have:S.set t (.cells ds)=S:=by
   obtain ⟨l1,l2,e1,e2⟩:=ER hg
   simp[St.set,e2,<- e1]
  simpa[BP,this] using hs
 |d::new,vs,ds,o,i,w,S,hr,hone,hs,hg,hlen=>by
  simp only[RepL] at hr
  obtain ⟨v,vs,rfl,h1,h2⟩:=hr
  simp only[List.length_cons] at hlen
  obtain ⟨_,_,arr,E,fz,k1,k2,k3⟩:=hs.obj_of hg
  have hsz:arr.size=ds.length:=by have:=RepL.length k3;simpa using this
  have hs':=hs.setCell (o:=o+i) hg h1
  obtain ⟨w',r1,r2⟩:=B9 (t:=t) (x:=x) new vs (ds.set (o+i) d) o (i+1) _ (S.set t (.cells (ds.set (o+i) d))) h2 (fun u hu=>hone u (by simp[hu])) hs' (BkL S hg) (by simp;omega)
  refine⟨w',?_,?_⟩
  ·have hcell:w.cell? ⟨x,o+i,none⟩=some (arr[o+i]'(by omega)):=by rw[cell_of_heap k1];simp[show o+i<arr.size by omega]
   have hfz:w.frozen? ⟨x,o+i,none⟩=false:=B8 k1 k2 (by omega)
   simp only[storeCells,Addr.add_mk,Sem.run_bind,run_store P w _ v _ (hone v (by simp)),hcell,hfz]
   exact r1
  ·rw[St.set_set] at r2
   exact r2
def BgA:D->Bool
 |.sl _ _ _ _=>true
 |_=>false
theorem CK:∀(new ds:List D) (o:Nat),o+new.length<=ds.length->BP ds o new=ds.take o++new++ds.drop (o+new.length)
 | [],ds,o,_=>by simp[BP]
 |d::r,ds,o,h=>by
  simp only[List.length_cons] at h
  rw[BP,CK r _ _ (by simp;omega)]
  have h1:(ds.set o d).take (o+1)=ds.take o++[d]:=by
   rw[List.take_add_one,List.take_set_of_le (Nat.le_refl o)]
   simp[show o<ds.length by omega]
  have h2:(ds.set o d).drop (o+1+r.length)=ds.drop (o+(r.length+1)):=by
   rw[List.drop_set_of_lt (by omega)];congr 1;omega
  rw[h1,h2];simp
def Bbn(size:Nat)(ds:List D)(o:Nat)(new:List D):List D :=
 match Nat.blt 8 size with
 |true=>ds.take o++(new++ds.drop (o+size))
 |false=>BP ds o new
theorem BeN{size:Nat}{ds new:List D}{o:Nat}(h1:new.length=size)(h2:o+size<=ds.length):Bbn size ds o new=BP ds o new:=by
 subst h1
 unfold Bbn
 split
 ·rw[CK _ _ _ h2,List.append_assoc]
 ·rfl
def Bex(d:D)(K:D->Prop):Prop :=
 match d with
 |.int k a=>K (.int k a)
 |.bool b=>K (.bool b)
 |.str s=>K (.str s)
 |.sl w n f m=>K (.sl w n f m)
 |.agg cs=>K (.agg cs)
 |.iface t d=>K (.iface t d)
 |d=>K d
theorem Beo{d:D}{K:D->Prop}:Bex d K↔K d:=by
 unfold Bex;split<;>exact Iff.rfl
def Om:List D->(List D->Prop)->Prop
 | [],K=>K []
 |d::ds,K=>Bex d fun d=>Om ds fun ds=>K (d::ds)
theorem Ct:∀ {ds:List D} {K:List D->Prop},Om ds K↔K ds
 | [],_=>Iff.rfl
 |_::_,_=>by rw[Om,Beo,Ct]
def Bea(n:Nat)(ds:List D)(K:List D->Prop):Prop :=
 match Nat.blt 8 n with
 |true=>Om ds K
 |false=>K ds
theorem BeX{n:Nat}{ds:List D}{K:List D->Prop}:Bea n ds K↔K ds:=by
 unfold Bea
 split
 ·exact Ct
 ·exact Iff.rfl
def BbY(size wd:Nat)(row:List D)(o:Nat)(new:List D):List D :=
 match Nat.beq o 0&&Nat.beq size wd with
 |true=>new
 |false=>BP row o new
theorem Beg{size wd o:Nat}{row new:List D}(h1:new.length=size)(h2:row.length=wd):BbY size wd row o new=BP row o new:=by
 unfold BbY
 split
 ·rename_i h
  rw[Bool.and_eq_true] at h
  have e1:=Nat.eq_of_beq_eq_true h.1
  have e2:=Nat.eq_of_beq_eq_true h.2
  subst e1
  rw[CK new row 0 (by omega),Nat.zero_add,List.drop_eq_nil_of_le (by omega),List.take_zero,List.append_nil,List.nil_append]
 ·rfl
def Bbq(ti:TI)(a x:D)(S:St)(K:D->St->Prop):Prop :=
 match a with
 |.ref k b o=>match Bt S.objs k with
  |some (y,.cells ds)=>chk (EI x&&decide ((CJ x).length=ti.size)) (y=b/\Be (o+ti.size<=ds.length) (Bea ti.size (Bbn ti.size ds o (CJ x)) fun cs=>K (.tup []) (S.set k (.cells cs))))
  |some (y,.bld T E d)=>chk (decide (o=1)&&decide (ti.size=1)&&BgA x) (y=b/\(Bbf E d->Bbf E x)/\K (.tup []) (S.set k (.bld T E x)))
  |some (y,.bldx T E d ds)=>match Nat.beq o 1 with
   |true=>chk (decide (ti.size=1)&&BgA x) (y=b/\(Bbf E d->Bbf E x)/\K (.tup []) (S.set k (.bldx T E x ds)))
   |false=>chk (decide (ti.size=1)&&Gi x) (y=b/\Be (2<=o/\o<2+ds.length) (K (.tup []) (S.set k (.bldx T E d (ds.set (o-2) x)))))
  |_=>False
 |.er k b i wd fo=>match Bt S.objs k with
  |some (y,.vec w n cap f)=>chk (EI x&&decide ((CJ x).length=ti.size)&&decide (w=wd)&&decide (fo+ti.size<=wd)) (y=b/\Be (i<n) (K (.tup []) (S.set k (.vec wd n cap (OO f i (BbY ti.size wd (f i) fo (CJ x)))))))
  |_=>False
 |_=>False
theorem Bej{w n cap : Nat}{f : Nat -> List D}(hw : ∀i, i<n -> (f i).length=w){i fo : Nat}(hi : i<n){new : List D}(hf : fo+new.length<=w) :
  BP (Cj w n cap f) (i*w+fo) new=Cj w n cap (OO f i (BP (f i) fo new)):=by
 obtain ⟨l,hl⟩:∃l,List.range n=List.range i++i::l/\∀j∈l,j≠i:=by
  refine⟨(List.range n).drop (i+1),Baz hi,?_⟩
  ·intro j hj e
   obtain ⟨k,hk,e2⟩:=List.getElem_of_mem hj
   simp at e2
   omega
 obtain ⟨hl,hne⟩:=hl
 have hp:=Em (cap:=cap) hw (Nat.le_of_lt hi)
 have hfl:=hw i hi
 have e1:Cj w n cap f=((List.range i).map f).flatten++(f i++((l.map f).flatten++List.replicate ((cap-n)*w) .unk)):=by
  rw[Cj,hl];simp
 have hu:∀r,Cj w n cap (OO f i r)=((List.range i).map f).flatten++(r++((l.map f).flatten++List.replicate ((cap-n)*w) .unk)):=by
  intro r
  have q1:(List.range i).map (OO f i r)=(List.range i).map f:=BiX (Nat.le_refl i)
  have q2:l.map (OO f i r)=l.map f:=List.map_congr_left fun j hj=>by simp[OO,hne j hj]
  have q3:OO f i r i=r:=by simp[OO]
  rw[Cj,hl,List.map_append,List.map_cons,q1,q2,q3];simp
 rw[hu,e1,CK _ _ _ (by simp only[List.length_append,hp,hfl];omega),CK _ _ _ (by omega)]
 have t1:(((List.range i).map f).flatten++(f i++((l.map f).flatten++List.replicate ((cap-n)*w) D.unk))).take (i*w+fo)=((List.range i).map f).flatten++(f i).take fo:=by
  rw[List.take_append,hp,List.take_of_length_le (by rw[hp];omega),show i*w+fo-i*w=fo by omega,List.take_append_of_le_length (by omega)]
 have t2:(((List.range i).map f).flatten++(f i++((l.map f).flatten++List.replicate ((cap-n)*w) D.unk))).drop (i*w+fo+new.length)=(f i).drop (fo+new.length)++((l.map f).flatten++List.replicate ((cap-n)*w) .unk):=by
  rw[List.drop_append,hp,List.drop_of_length_le (by rw[hp];omega),show i*w+fo+new.length-i*w=fo+new.length by omega,List.nil_append,List.drop_append_of_le_length (by omega)]
 rw[t1,t2];simp
theorem BeQ(hT : TabOk P tt)(hs : Sat C (S.add F) w){t : Nat}{ti : TI}(ht : tt t=some ti){a x : D}{u v : Value}(ha : Rep C a u)(hx : Rep C x v)(h : Bbq ti a x S K) :
  Good P C F K X ((do Instr.storeAt t u v;pure Next.skip:Sem Next).run P w):=by
 unfold Bbq at h
 simp only[Bc] at h
 split at h
 ·split at h
  ·rename_i t b o _ y ds hg
   simp only[Rep] at ha;subst ha
   obtain ⟨hck,rfl,h3,hk⟩:=Ba.1 h
   rw[Bool.and_eq_true] at hck
   obtain ⟨h1,h2⟩:=hck
   have h2:=of_decide_eq_true h2
   rw[BeX,BeN h2 h3] at hk
   have hr:=ID h1 hx
   have hsz:v.cells.size=ti.size:=by have:=RepL.length hr;simpa[h2] using this
   obtain ⟨w',r1,r2⟩:=B9 (P:=P) (t:=t) (x:=y) _ _ ds o 0 w S hr (MD h1 hx) hs hg (by omega)
   refine .of_unit ?_ (.refl C) r2 hk
   simp[Instr.storeAt,Instr.sureAddr,storeVar,Bo hT ht,hsz,r1]
  ·rename_i t b o _ y T E d hg
   simp only[Rep] at ha;subst ha
   obtain ⟨hck,rfl,hbt,hk⟩:=Ba.1 h
   simp only[Bool.and_eq_true,decide_eq_true_eq] at hck
   obtain ⟨⟨rfl,h1⟩,hsl⟩:=hck
   obtain ⟨_,_,v0,v1,fz,k1,k2,k3,k4,k5⟩:=hs.obj_of hg
   obtain ⟨wd,n,f,m,rfl⟩:∃wd n f m,x=.sl wd n f m:=by
    cases x<;>simp_all[BgA]
   have hx':=hx
   simp only[Rep] at hx'
   obtain ⟨a,len,cap,rfl,_⟩:=hx'
   have hcell:w.cell? ⟨y,1,none⟩=some v1:=by rw[cell_of_heap k1];rfl
   have hfz:w.frozen? ⟨y,1,none⟩=false:=B8 k1 k2 (by simp)
   have hr:=Cs k1 (o:=1) (.slice a len cap)
   refine .of_unit (w':=w.setCell ⟨y,1,none⟩ (.slice a len cap)) ?_ (.refl C) (hs.replace (o':=.bld T E (.sl wd n f m)) hg (by simp) (fun j hj=>Below.heap_setCell _ _ _ _ hj) rfl rfl rfl ⟨v0,.slice a len cap,fz,by simpa using hr,by simpa using k2.set 1 (.slice a len cap),k3,hx,hbt k5⟩) hk
   simp[Instr.storeAt,Instr.sureAddr,storeVar,Bo hT ht,h1,Value.cells,storeCells,Addr.add_mk,Sem.run_bind,run_store P w _ (.slice a len cap) _ rfl,hcell,hfz]
  ·rename_i t b o _ y T E d ds hg
   simp only[Rep] at ha;subst ha
   obtain ⟨_,_,arr,v0,v1,vs,fz,k1,k2,k3,k4,k5,k6,k7⟩:=hs.obj_of hg
   have hsz:arr.size=vs.length+2:=by have:=congrArg List.length k2;simpa using this
   split at h
   ·rename_i ho
    have ho:o=1:=Nat.eq_of_beq_eq_true ho
    subst ho
    obtain ⟨hck,rfl,hbt,hk⟩:=Ba.1 h
    simp only[Bool.and_eq_true,decide_eq_true_eq] at hck
    obtain ⟨h1,hsl⟩:=hck
    obtain ⟨wd,n,f,m,rfl⟩:∃wd n f m,x=.sl wd n f m:=by
     cases x<;>simp_all[BgA]
    have hx':=hx
    simp only[Rep] at hx'
    obtain ⟨a,len,cap,rfl,_⟩:=hx'
    have hcell:w.cell? ⟨y,1,none⟩=some v1:=by rw[cell_of_heap k1,<- Array.getElem?_toList,k2];rfl
    have hfz:w.frozen? ⟨y,1,none⟩=false:=B8 k1 k3 (by omega)
    have hr:=Cs k1 (o:=1) (.slice a len cap)
    refine .of_unit (w':=w.setCell ⟨y,1,none⟩ (.slice a len cap)) ?_ (.refl C) (hs.replace (o':=.bldx T E (.sl wd n f m) ds) hg (by simp) (fun j hj=>Below.heap_setCell _ _ _ _ hj) rfl rfl rfl ⟨_,v0,.slice a len cap,vs,fz,hr,by rw[Array.toList_setIfInBounds,k2];rfl,k3.set 1 (.slice a len cap),k4,hx,k6,hbt k7⟩) hk
    simp[Instr.storeAt,Instr.sureAddr,storeVar,Bo hT ht,h1,Value.cells,storeCells,Addr.add_mk,Sem.run_bind,run_store P w _ (.slice a len cap) _ rfl,hcell,hfz]
   ·obtain ⟨hck,rfl,⟨hlo,hhi⟩,hk⟩:=Ba.1 h
    simp only[Bool.and_eq_true,decide_eq_true_eq] at hck
    obtain ⟨h1,hok⟩:=hck
    obtain ⟨hone,hvc⟩:=IT hok hx
    have hvl:ds.length=vs.length:=(RepL.length k6).symm
    obtain ⟨j,rfl⟩:∃j,o=j+2:=⟨o-2,by omega⟩
    have hj:j<vs.length:=by omega
    have hcell:w.cell? ⟨y,j+2,none⟩=some vs[j]:=by
     rw[cell_of_heap k1,<- Array.getElem?_toList,k2]
     simp[hj]
    have hfz:w.frozen? ⟨y,j+2,none⟩=false:=B8 k1 k3 (by omega)
    have hr:=Cs k1 (o:=j+2) v
    refine .of_unit (w':=w.setCell ⟨y,j+2,none⟩ v) ?_ (.refl C) (hs.replace (o':=.bldx T E d (ds.set j x)) hg (by simp) (fun j hj=>Below.heap_setCell _ _ _ _ hj) rfl rfl rfl ⟨_,v0,v1,vs.set j v,fz,hr,by rw[Array.toList_setIfInBounds,k2];rfl,k3.set (j+2) v,k4,k5,RepL.set hx j k6,k7⟩) (by simpa using hk)
    simp[Instr.storeAt,Instr.sureAddr,storeVar,Bo hT ht,h1,hvc,storeCells,Addr.add_mk,Sem.run_bind,run_store P w _ v _ hone,hcell,hfz]
  ·exact h.elim
 ·split at h
  ·rename_i k b i wd fo _ y w' n cap f hg
   simp only[Rep] at ha;subst ha
   obtain ⟨hck,rfl,hi,hk⟩:=Ba.1 h
   simp only[Bool.and_eq_true,decide_eq_true_eq] at hck
   obtain ⟨⟨⟨h1,h2⟩,rfl⟩,h4⟩:=hck
   obtain ⟨hs',hc,hw,hg'⟩:=MV hs hg
   rw[Beg h2 (hw i hi)] at hk
   have hr:=ID h1 hx
   have hsz:v.cells.size=ti.size:=by have:=RepL.length hr;simpa[h2] using this
   have hvl:=CM hw hc
   have hin:i*w'+fo+0+(CJ x).length<=(Cj w' n cap f).length:=by
    rw[hvl,h2]
    calc i*w'+fo+0+ti.size<=i*w'+w':=by omega
     _=(i+1)*w':=by rw[Nat.add_mul];omega
     _<=cap*w':=Nat.mul_le_mul_right _ (by omega)
   obtain ⟨w2,r1,r2⟩:=B9 (P:=P) (t:=k) (x:=y) _ _ _ (i*w'+fo) 0 w _ hr (MD h1 hx) hs' hg' hin
   rw[Nat.add_zero,Bej hw hi (by omega),St.set_set] at r2
   refine .of_unit ?_ (.refl C) (TH r2 hg rfl hc fun j hj=>?_) hk
   ·simp[Instr.storeAt,Instr.sureAddr,storeVar,Bo hT ht,hsz,r1]
   ·simp only[OO]
    split
    ·rename_i e;subst e;rw[GP];exact hw j hj
    ·exact hw j hj
  ·exact h.elim
 ·exact h.elim
def freshIn(x:Nat):List (Nat×Nat×AObj)->Prop
 | []=>True
 |p::r=>p.2.1≠x/\freshIn x r
theorem W2{x:Nat}:∀ {l:List (Nat×Nat×AObj)},(∀p,p∈l->p.2.1≠x)->freshIn x l
 | [],_=>trivial
 |p::r,h=>⟨h p (by simp),W2 fun q hq=>h q (by simp[hq])⟩
theorem Sat.freshIn{C:Ctx}{S F:St}{w:World}(H:Sat C (S.add F) w):freshIn w.heap.size S.objs :=
 W2 fun p hp=>H.fresh p (by simp[St.add,hp])
def B2:List (Nat×Nat×AObj)->Nat
 | []=>0
 |p::r=>max (p.1+1) (B2 r)
def St.new(S:St)(x:Nat)(o:AObj):St:=⟨(B2 S.objs,x,o)::S.objs,S.toks⟩
def BfN(cells:List D)(S:St)(K:D->St->Prop):Prop:=∀x,freshIn x S.objs->K (.ref (B2 S.objs) x 0) (S.new x (.cells cells))
theorem Sat.new_cells{C : Ctx}{S F : St}{w : World}(H : Sat C (S.add F) w){ds : List D}{arr : Array Value}(E : TypeId)(hr : RepL C ds arr.toList) :
  Sat C ((S.new w.heap.size (.cells ds)).add F) (w.alloc (.cells arr E)) :=
 H.alloc_own _ _ _ fun _ hw=>⟨arr,E,(0,0),hw,.inl rfl,hr⟩
theorem BiL(hs : Sat C (S.add F) w)(E : TypeId){x : D}{v : Value}(hx : Rep C x v)(h : chk (EI x) (BfN (CJ x) S K)) :
  Good P C F K X ((do pure (Next.value (<- Instr.box E v)):Sem Next).run P w) :=
 have h:=Ba.1 h
 .of_val' (by simp[Instr.box,newVar,newRow];rfl) (.refl C) (hs.new_cells E (ID h.1 hx)) (by simp[Rep]) (h.2 _ hs.freshIn)
theorem Be4(hT : TabOk P tt)(hs : Sat C (S.add F) w){t : Nat}{ti : TI}(ht : tt t=some ti)(old : Value)(h : BfN ti.zero S K) :
  Good P C F K X ((do pure (Next.value (<- Instr.alloc t true old)):Sem Next).run P w):=by
 obtain ⟨z,h1,_,h3⟩:=GW (P:=P) (w:=w) hT ht
 exact .of_val' (by simp[Instr.alloc,h1,newVar,newRow];rfl) (.refl C) (hs.new_cells t (h3 C)) (by simp[Rep]) (h _ hs.freshIn)
def Gr(d:TypeDesc)(f:Nat):Option Field :=
 match d with
 |.struct fs=>fs.toList[f]?
 |_=>none
def G8(fo:Nat)(x:D)(S:St)(K:D->St->Prop):Prop :=
 match x with
 |.ref k b o=>K (.ref k b (o+fo)) S
 |.pt row=>K (.pt (row.drop fo)) S
 |.er k b i w o=>K (.er k b i w (o+fo)) S
 |_=>False
theorem Mx(hT : TabOk P tt){t f : Nat}{ti fi : TI}(ht : tt t=some ti){fd : Field}(hf : Gr ti.desc f=some fd)(hfi : tt fd.type=some fi)(hz : fi.size≠0)(b o : Nat) :
  (Instr.fieldAt t (.pointer (some ⟨b,o,none⟩)) f).run P w=.ok (.pointer (some ⟨b,o+fd.offset,none⟩)) w:=by
 unfold Gr at hf
 split at hf
 ·rename_i fs hd
  have hu:=Bz (w:=w) hT ht
  rw[hd] at hu
  have hf':fs[f]? =some fd:=by simpa using hf
  simp[Instr.fieldAt,hu,hf',Instr.sureAddr,fieldPlace,Bo hT hfi,hz,Addr.add_mk]
 ·cases hf
theorem Wl(hT : TabOk P tt)(hs : Sat C (S.add F) w){t f : Nat}{ti fi : TI}(ht : tt t=some ti){fd : Field}(hf : Gr ti.desc f=some fd)(hfi : tt fd.type=some fi)(hz : fi.size≠0)
  {x:D} {v:Value} (hx:Rep C x v) (h:G8 fd.offset x S K):Good P C F K X ((do pure (Next.value (<- Instr.fieldAt t v f)):Sem Next).run P w):=by
 unfold G8 at h
 split at h
 ·simp only[Rep] at hx;subst hx
  exact .of_val hs (Mx hT ht hf hfi hz _ _) (by simp[Rep]) h
 ·simp only[Rep] at hx
  obtain ⟨b,o,rfl,hr⟩:=hx
  exact .of_val hs (Mx hT ht hf hfi hz _ _) (by simp only[Rep];exact⟨_,_,rfl,hr.drop _⟩) h
 ·simp only[Rep] at hx;subst hx
  exact .of_val hs (Mx hT ht hf hfi hz _ _) (by simp[Rep,Nat.add_assoc]) h
 ·exact h.elim
theorem Th(hT : TabOk P tt){t : Nat}{ti : TI}(ht : tt t=some ti){cs : List D}{vs : Array Value}(hr : RepL C cs vs.toList){o : Nat}(hn : o+Ew ti<=cs.length) :
  ∃v,(part t vs o).run P w=.ok v w/\Rep C (Ch ti cs o) v:=by
 simp only[part,Sem.run_bind,BaM hT ht,Result.andThen_ok,Ch]
 have hl:vs.size=cs.length:=by have:=RepL.length hr;simpa using this
 cases ha:C6 ti.desc with
 |true =>
  simp only[if_true,Sem.run_bind,Bo hT ht,Result.andThen_ok]
  refine⟨_,rfl,?_⟩
  simp only[Rep]
  refine⟨_,rfl,?_⟩
  have:=RepL.take ti.size (RepL.drop o hr)
  simpa[Array.toList_extract,List.extract_eq_take_drop,List.take_drop] using this
 |false =>
  simp only[Ew,ha,Bool.false_eq_true,if_false] at hn ⊢
  obtain ⟨v,h1,h2⟩:=RepL.get hr o (cs.getD o .unk) (by simp[List.getD_eq_getElem?_getD,List.getElem?_eq_getElem (show o<cs.length by omega)])
  refine⟨v,?_,h2⟩
  have:vs[o]? =some v:=by simpa using h1
  simp[this]
def UM(fo:Nat)(fi:TI)(x:D)(S:St)(K:D->St->Prop):Prop :=
 match x with
 |.agg cs=>chk (decide (fo+Ew fi<=cs.length)) (K (Ch fi cs fo) S)
 |_=>False
theorem Bed(hT : TabOk P tt)(hs : Sat C (S.add F) w){t f : Nat}{ti fi : TI}(ht : tt t=some ti){fd : Field}(hf : Gr ti.desc f=some fd)(hfi : tt fd.type=some fi)
  {x:D} {v:Value} (hx:Rep C x v) (h:UM fd.offset fi x S K):Good P C F K X ((do pure (Next.value (<- Instr.field t v f)):Sem Next).run P w):=by
 unfold UM at h
 split at h
 ·simp only[Rep] at hx
  obtain ⟨vs,rfl,hr⟩:=hx
  have h:=Ba.1 h
  obtain ⟨u,h1,h2⟩:=Th (P:=P) (w:=w) hT hfi hr (of_decide_eq_true h.1)
  refine .of_val hs ?_ h2 h.2
  unfold Gr at hf
  split at hf
  ·rename_i fs hd
   have hu:=Bz (w:=w) hT ht
   rw[hd] at hu
   have hf':fs[f]? =some fd:=by simpa using hf
   simp[Instr.field,hu,hf',asAgg,h1]
  ·cases hf
 ·exact h.elim
def Ic(es:Nat)(x i:D)(S:St)(K:D->St->Prop):Prop :=
 match x,i with
 |.sl wd n f _,.int _ i=>chk (decide (wd=es)) (Be (0<=i/\i<n) (K (.pt (f i.toNat)) S))
 |.ms k b o len _ wd,.int _ i=>chk (decide (wd=es)) (Be (0<=i/\i<len) (K (.ref k b (o+i.toNat*wd)) S))
 |.vs k b len _ wd,.int _ i=>chk (decide (wd=es)) (Be (0<=i/\i<len) (K (.er k b i.toNat wd 0) S))
 |_,_=>False
theorem U6(hT : TabOk P tt)(hs : Sat C (S.add F) w){t e : Nat}{ti ei : TI}(ht : tt t=some ti)(hd : ti.desc=.slice e)(he : tt e=some ei)
  {x i:D} {v u:Value} (hx:Rep C x v) (hi:Rep C i u) (h:Ic ei.size x i S K):Good P C F K X ((do pure (Next.value (<- Instr.indexAt t v u)):Sem Next).run P w):=by
 have hu:=Bz (w:=w) hT ht
 rw[hd] at hu
 unfold Ic at h
 simp only[Bc,and_assoc] at h
 split at h
 ·rename_i wd N f m k n
  obtain ⟨hwd,h0,h1,hk⟩:=Ba.1 h
  have hwd:wd=ei.size:=of_decide_eq_true hwd
  subst hwd
  simp only[Rep] at hx hi;subst hi
  obtain ⟨a,len,cap,rfl,hh,hr⟩:=hx
  have hlen:len=N:=hh.1
  cases a with
  |none=>have:=(hh.2.2.2.1 rfl).1;omega
  |some a =>
   have hsp:=hh.2.2.2.2.1 a rfl (by have:=hh.2.1;omega)
   obtain ⟨b,o,sp⟩:=a
   simp only at hsp;subst hsp
   have hrow:=hr _ rfl n.toNat (by omega)
   refine .of_val (v:=.pointer (some ⟨b,o+n.toNat*ei.size,none⟩)) hs ?_ (by simp only[Rep];exact⟨_,_,rfl,hrow.2⟩) hk
   have hc:0<=n/\n<(len:Int):=⟨h0,by omega⟩
   simp[Instr.indexAt,asIntOf,hu,hc,Bo hT he,Addr.add_mk]
 ·rename_i t b o len cap wd k n
  obtain ⟨hwd,h0,h1,hk⟩:=Ba.1 h
  have hwd:wd=ei.size:=of_decide_eq_true hwd
  subst hwd
  simp only[Rep] at hx hi;subst hi
  obtain ⟨rfl,_,_⟩:=hx
  refine .of_val (v:=.pointer (some ⟨b,o+n.toNat*ei.size,none⟩)) hs ?_ (by simp[Rep]) hk
  have hc:0<=n/\n<(len:Int):=⟨h0,by omega⟩
  simp[Instr.indexAt,asIntOf,hu,hc,Bo hT he,Addr.add_mk]
 ·rename_i t b len cap wd k n
  obtain ⟨hwd,h0,h1,hk⟩:=Ba.1 h
  have hwd:wd=ei.size:=of_decide_eq_true hwd
  subst hwd
  simp only[Rep] at hx hi;subst hi
  obtain ⟨rfl,_,_⟩:=hx
  refine .of_val (v:=.pointer (some ⟨b,0+n.toNat*ei.size,none⟩)) hs ?_ (by simp[Rep]) hk
  have hc:0<=n/\n<(len:Int):=⟨h0,by omega⟩
  simp[Instr.indexAt,asIntOf,hu,hc,Bo hT he,Addr.add_mk]
 ·exact h.elim
def IQ(n es:Nat)(x i:D)(S:St)(K:D->St->Prop):Prop :=
 match x,i with
 |.ref k b o,.int _ i=>Be (0<=i/\i<n) (K (.ref k b (o+i.toNat*es)) S)
 |.pt row,.int _ i=>Be (0<=i/\i<n) (K (.pt (row.drop (i.toNat*es))) S)
 |_,_=>False
theorem RW(hT : TabOk P tt)(hs : Sat C (S.add F) w){t e n : Nat}{ti ei : TI}(ht : tt t=some ti)(hd : ti.desc=.array n e)(he : tt e=some ei)
  {x i:D} {v u:Value} (hx:Rep C x v) (hi:Rep C i u) (h:IQ n ei.size x i S K):Good P C F K X ((do pure (Next.value (<- Instr.indexAt t v u)):Sem Next).run P w):=by
 have hu:=Bz (w:=w) hT ht
 rw[hd] at hu
 unfold IQ at h
 simp only[Bc,and_assoc] at h
 split at h
 ·rename_i t b o k j
  obtain ⟨h0,h1,hk⟩:=h
  simp only[Rep] at hx hi;subst hi hx
  refine .of_val (v:=.pointer (some ⟨b,o+j.toNat*ei.size,none⟩)) hs ?_ (by simp[Rep]) hk
  have hc:0<=j/\j<(n:Int):=⟨h0,h1⟩
  simp[Instr.indexAt,Instr.sureAddr,asIntOf,hu,hc,Bo hT he,Addr.add_mk]
 ·rename_i row k j
  obtain ⟨h0,h1,hk⟩:=h
  simp only[Rep] at hx hi;subst hi
  obtain ⟨b,o,rfl,hr⟩:=hx
  refine .of_val (v:=.pointer (some ⟨b,o+j.toNat*ei.size,none⟩)) hs ?_ (by simp only[Rep];exact⟨_,_,rfl,hr.drop _⟩) hk
  have hc:0<=j/\j<(n:Int):=⟨h0,h1⟩
  simp[Instr.indexAt,Instr.sureAddr,asIntOf,hu,hc,Bo hT he,Addr.add_mk]
 ·exact h.elim
def IL(x i:D)(S:St)(K:D->St->Prop):Prop :=
 match x,i with
 |.str s,.int _ i=>Be (0<=i/\i<s.length) (K (.int .u8 ((s.getD i.toNat 0).toNat:Int)) S)
 |_,_=>False
theorem RY(hT : TabOk P tt)(hs : Sat C (S.add F) w){t : Nat}{ti : TI}(ht : tt t=some ti)(hd : ti.desc=.string)
  {x i:D} {v u:Value} (hx:Rep C x v) (hi:Rep C i u) (h:IL x i S K):Good P C F K X ((do pure (Next.value (<- Instr.index t v u)):Sem Next).run P w):=by
 have hu:=Bz (w:=w) hT ht
 rw[hd] at hu
 unfold IL at h
 simp only[Bc,and_assoc] at h
 split at h
 ·rename_i s k j
  obtain ⟨h0,h1,hk⟩:=h
  simp only[Rep] at hx hi;subst hi hx
  have hlt:j.toNat<s.length:=by omega
  have e:(⟨s.toArray⟩:ByteArray)[j.toNat]? =some (s.getD j.toNat 0):=by
   rw[ByteArray.getElem?_lt' _ _ (by simpa[ByteArray.size] using hlt)]
   simp[List.getD_eq_getElem?_getD,List.getElem?_eq_getElem hlt]
   rfl
  exact .of_val (v:=.int .u8 ((s.getD j.toNat 0).toNat:Int)) hs (by simp[Instr.index,asIntOf,hu,h0,e]) (by simp[Rep]) hk
 ·exact h.elim
def TW:D->Bool
 |.str _=>true
 |_=>false
def Bbv:D->List UInt8
 |.str s=>s
 |_=>[]
theorem Tv:∀ {cs:List D} {o:Nat} {x:D},cs.all TW=true->o<cs.length->cs.getD o x=.str ((cs.map Bbv).getD o [])
 | [],o,_,_,h=>absurd h (Nat.not_lt_zero o)
 |c::cs,0,_,h,_=>by
  simp only[List.all_cons,Bool.and_eq_true] at h
  cases c<;>simp_all[TW,Bbv]
 |c::cs,o+1,x,h,hl=>by
  simp only[List.all_cons,Bool.and_eq_true] at h
  simpa using Tv (x:=x) h.2 (by simpa using hl)
def Bdj(ei:TI)(cs:List D)(o:Nat):D:=bif !C6 ei.desc&&cs.all TW then .str ((cs.map Bbv).getD o []) else Ch ei cs o
theorem Bjc{ei:TI}{cs:List D}{o:Nat}(h:o<cs.length):Bdj ei cs o=Ch ei cs o:=by
 unfold Bdj
 cases hc:!C6 ei.desc&&cs.all TW with
 |false=>rfl
 |true =>
  rw[Bool.and_eq_true,Bool.not_eq_true'] at hc
  simp only[cond_true,Ch,hc.1]
  rw[Tv hc.2 h]
  simp
def IZ(n:Nat)(ei:TI)(x i:D)(S:St)(K:D->St->Prop):Prop :=
 match x,i with
 |.agg cs,.int _ i=>chk (decide (cs.length=n*ei.size)&&decide (Ew ei<=ei.size)) (Be (0<=i/\i<n) (K (Bdj ei cs (i.toNat*ei.size)) S))
 |_,_=>False
theorem RQ(hT : TabOk P tt)(hs : Sat C (S.add F) w){t e n : Nat}{ti ei : TI}(ht : tt t=some ti)(hd : ti.desc=.array n e)(he : tt e=some ei)
  {x i:D} {v u:Value} (hx:Rep C x v) (hi:Rep C i u) (h:IZ n ei x i S K):Good P C F K X ((do pure (Next.value (<- Instr.index t v u)):Sem Next).run P w):=by
 have hu:=Bz (w:=w) hT ht
 rw[hd] at hu
 unfold IZ at h
 split at h
 ·rename_i cs k j
  have h:=Ba.1 h
  simp only[Bc,and_assoc,Bool.and_eq_true,decide_eq_true_eq] at h
  obtain ⟨hl,hn,h0,h1,hk⟩:=h
  simp only[Rep] at hx hi;subst hi
  obtain ⟨vs,rfl,hr⟩:=hx
  have hlt:j.toNat*ei.size+Ew ei<=cs.length:=by
   have h2:(j.toNat+1)*ei.size<=n*ei.size:=Nat.mul_le_mul_right _ (by omega)
   rw[Nat.add_mul,Nat.one_mul] at h2
   omega
  obtain ⟨u,q1,q2⟩:=Th (P:=P) (w:=w) hT he hr hlt
  have hq:j.toNat*ei.size<cs.length\/C6 ei.desc=true:=by
   cases ha:C6 ei.desc with
   |true=>exact .inr rfl
   |false=>left;simp only[Ew,ha] at hlt;simp at hlt;omega
  have hp:Bdj ei cs (j.toNat*ei.size)=Ch ei cs (j.toNat*ei.size):=by
   rcases hq with hq | hq
   ·exact Bjc hq
   ·simp[Bdj,hq]
  rw[hp] at hk
  refine .of_val hs ?_ q2 hk
  have hc:0<=j/\j<(n:Int):=⟨h0,h1⟩
  simp[Instr.index,asIntOf,hu,hc,Bo hT he,q1]
 ·exact h.elim
def MJ(i:Nat)(x:D)(S:St)(K:D->St->Prop):Prop :=
 match x with
 |.tup ds=>chk (decide (i<ds.length)) (K (ds.getD i .unk) S)
 |_=>False
theorem BbD(hs : Sat C (S.add F) w){i : Nat}{x : D}{v : Value}(hx : Rep C x v)(h : MJ i x S K) :
  Good P C F K X ((do pure (Next.value (<- Instr.extract v i)):Sem Next).run P w):=by
 unfold MJ at h
 split at h
 ·rename_i ds
  simp only[Rep] at hx
  obtain ⟨vs,rfl,hr⟩:=hx
  have h:=Ba.1 h
  have hlt:=of_decide_eq_true h.1
  obtain ⟨u,h1,h2⟩:=RepL.get hr i (ds.getD i .unk) (by simp[List.getD_eq_getElem?_getD,List.getElem?_eq_getElem hlt])
  have:vs[i]? =some u:=by simpa using h1
  exact .of_val hs (by simp[Instr.extract,this]) h2 h.2
 ·exact h.elim
end
def Ctx.tokd(C:Ctx)(t:Nat)(x:Tok):Ctx:={ C with tok:=fun s=>if s=t then some x else C.tok s }
theorem Ctx.tokd_le{C:Ctx}{t:Nat}{x:Tok}(h:C.tok t=none):C.le (C.tokd t x) :=
 ⟨rfl,fun _ _ _ h=>h,fun s y hs=>by simp only[Ctx.tokd];split;(rename_i e;subst e;rw[h] at hs;cases hs);exact hs,fun _ _ _=>rfl⟩
theorem Sat.tok_typed{C:Ctx}{S:St}{w:World}(H:Sat C S w){e:Nat}(he:e<1000003):∃t,C.tok t=none/\(∀p,p∈S.toks->p.2≠t)/\Eu t=e:=by
 obtain ⟨N,hN⟩:=H.tfin
 have hle:N<=(N+1)*1000003+e:=by omega
 refine⟨(N+1)*1000003+e,hN _ hle,fun p hm q=>?_,Bm6 N he⟩
 obtain ⟨x,hx,_⟩:=H.toks p hm
 rw[q,hN _ hle] at hx;cases hx
theorem Sat.tok_free{C:Ctx}{S:St}{w:World}(H:Sat C S w):∃t,C.tok t=none/\(∀p,p∈S.toks->p.2≠t)/\Eu t=0:=H.tok_typed (by omega)
theorem TokAt.imm_same{C C':Ctx}{w:World}{t:Nat}(hw:C'.w0=C.w0)(hi:∀b o,C'.imm b o=C.imm b o):∀ {x:Tok},TokAt C w t x->TokAt C' w t x
 |.no,_=>trivial
 |.at _ _ _ _,⟨h1,h2,h3⟩=>⟨by rw[hw];exact h1,fun o ho=>by rw[hi];exact h2 o ho,h3⟩
theorem Sat.tok_no{C:Ctx}{S:St}{w:World}(H:Sat C S w){t:Nat}(k:Nat)(h:C.tok t=none)(hm:∀p,p∈S.toks->p.2≠t):Sat (C.tokd t .no) ⟨S.objs,(k,t)::S.toks⟩ w where
 below:=H.below
 imm:=H.imm
 one:=H.one
 objs:=fun p hp=>let ⟨a,b,c⟩:=H.objs p hp;⟨a,b,c.mono (Ctx.tokd_le h)⟩
 nodup:=H.nodup
 toks:=fun s hs=>by
  rcases List.mem_cons.1 hs with rfl | hs
  ·exact⟨.no,by simp[Ctx.tokd],trivial,fun _ _ h=>h⟩
  ·obtain ⟨x,h1,h2,h3⟩:=H.toks s hs
   exact⟨x,(Ctx.tokd_le h).tok _ _ h1,h2.imm_same rfl fun _ _=>rfl,h3⟩
 tnodup:=by
  simp only[List.map_cons,List.nodup_cons]
  exact⟨fun hx=>(let ⟨p,hp,e⟩:=List.mem_map.1 hx;hm p hp e),H.tnodup⟩
 tfin:=let ⟨N,hN⟩:=H.tfin;⟨max N (t+1),fun s hs=>by simp only[Ctx.tokd];rw[if_neg (by omega)];exact hN s (by omega)⟩
 tdist:=fun s s' b n c wd b' n' c' wd' hs hs' hne e e'=>by
  simp only[Ctx.tokd] at e e'
  split at e
  ·cases e
  ·split at e'
   ·cases e'
   ·rename_i h1 h2
    have m1:s∈S.toks:=(List.mem_cons.1 hs).resolve_left (fun e=>h1 (congrArg Prod.snd e))
    have m2:s'∈S.toks:=(List.mem_cons.1 hs').resolve_left (fun e=>h2 (congrArg Prod.snd e))
    exact H.tdist s s' b n c wd b' n' c' wd' m1 m2 hne e e'
def Ctx.grown(C:Ctx)(b k:Nat)(arr:Array Value)(t:Nat)(x:Tok):Ctx :=
 { w0:=C.w0,ok:=C.ok,imm:=fun b' o=>if b'=b then (if o<k then arr[o]? else none) else C.imm b' o,tok:=fun s=>if s=t then some x else C.tok s }
theorem Sat.grown_le{C:Ctx}{S:St}{w:World}(H:Sat C S w)(k:Nat)(arr:Array Value){t:Nat}(x:Tok)(h:C.tok t = none):C.le (C.grown w.heap.size k arr t x) :=
  ⟨rfl,fun b o v hv => by
    have := H.imm_lt hv
    simp only [Ctx.grown]; rw [if_neg (by omega)]; exact hv,
   fun s y hs => by simp only [Ctx.grown]; split; (rename_i e; subst e; rw [h] at hs; cases hs); exact hs,
   fun b o hb => by have := H.base_le; simp only [Ctx.grown]; rw [if_neg (by omega)]⟩
theorem Sat.alloc_tok{C : Ctx}{S : St}{w : World}(H : Sat C S w)(arr : Array Value)(E : TypeId)(fz : Nat×Nat)(hfz : Thawed arr fz){t n cap wd : Nat}(k0 : Nat)(h : C.tok t=none)(hm : ∀p, p∈S.toks -> p.2≠t)(hte : Eu t≠0 -> E+1=Eu t)(hsz : arr.size=cap*wd)(hone : ∀i v, i<n*wd -> arr[i]? =some v -> v.oneCell'=true) :
  Sat (C.grown w.heap.size (n*wd) arr t (.at w.heap.size n cap wd)) ⟨S.objs,(k0,t)::S.toks⟩ (w.alloc (.cells arr E fz)) where
 below:=H.below.alloc H.base_le _
 imm:=fun b o v hv=>by
  simp only[Ctx.grown] at hv
  split at hv
  ·rename_i e;subst e
   split at hv
   ·have:(w.alloc (.cells arr E fz)).heap[w.heap.size]? =some (.cells arr E fz):=by show (w.heap.push _)[w.heap.size]? =_;simp
    rw[cell_of_heap this];exact hv
   ·cases hv
  ·rw[World.cell?_alloc_lt _ _ _ (H.imm_lt hv)];exact H.imm b o v hv
 one:=fun b o v hv=>by
  simp only[Ctx.grown] at hv
  split at hv
  ·split at hv
   ·exact hone _ _ (by assumption) hv
   ·cases hv
  ·exact H.one b o v hv
 objs:=fun p hp=>by
  obtain ⟨h1,h2,h3⟩:=H.objs p hp
  have hlt:=h3.lt
  exact⟨h1,fun o=>by simp only[Ctx.grown];rw[if_neg (by omega)];exact h2 o,(h3.mono (H.grown_le _ arr _ h)).of_heap (Below.heap_alloc _ _ _ hlt)⟩
 nodup:=H.nodup
 toks:=fun s hs=>by
  rcases List.mem_cons.1 hs with rfl | hs
  ·refine⟨.at w.heap.size n cap wd,by simp[Ctx.grown],⟨H.base_le,fun o ho=>?_,arr,E,fz,?_,hfz,hsz,hte⟩,fun p hp hc=>?_⟩
   ·simp only[Ctx.grown,if_true];rw[if_neg (by omega)]
   ·show (w.heap.push _)[w.heap.size]? =_;simp
   ·exact H.fresh p hp hc.symm
  ·obtain ⟨x,h1,h2,h3⟩:=H.toks s hs
   refine⟨x,(H.grown_le (n*wd) arr _ h).tok _ _ h1,?_,h3⟩
   cases x with
   |no=>trivial
   | «at» b n' c wd' =>
    have hlt:b<w.heap.size:=TokAt.lt h2 rfl
    obtain ⟨k1,k2,arr',E',fz',k3,k4⟩:=h2
    exact⟨k1,fun o ho=>by simp only[Ctx.grown];rw[if_neg (by omega)];exact k2 o ho,arr',E',fz',(Below.heap_alloc _ _ _ hlt).trans k3,k4⟩
 tnodup:=by
  simp only[List.map_cons,List.nodup_cons]
  exact⟨fun hx=>(let ⟨p,hp,e⟩:=List.mem_map.1 hx;hm p hp e),H.tnodup⟩
 tfin:=let ⟨N,hN⟩:=H.tfin;⟨max N (t+1),fun s hs=>by simp only[Ctx.grown];rw[if_neg (by omega)];exact hN s (by omega)⟩
 tdist:=fun s s' b n1 c wd1 b' n' c' wd' hs hs' hne e e'=>by
  have key:∀(s:Nat×Nat) b n c wd,s∈S.toks->C.tok s.2=some (.at b n c wd)->b<w.heap.size:=fun s b n c wd hs e=>by
   obtain ⟨x,h1,h2,_⟩:=H.toks s hs
   rw[e] at h1;cases h1
   exact h2.lt rfl
  simp only[Ctx.grown] at e e'
  split at e
  ·rename_i q;subst q
   split at e'
   ·rename_i q;exact (hne q.symm).elim
   ·rename_i q
    cases e
    have:=key s' b' n' c' wd' ((List.mem_cons.1 hs').resolve_left (fun e=>q (by rw[e]))) e'
    omega
  ·rename_i q
   have m1:s∈S.toks:=(List.mem_cons.1 hs).resolve_left (fun e=>q (congrArg Prod.snd e))
   split at e'
   ·cases e'
    have:=key s b n1 c wd1 m1 e
    omega
   ·rename_i q'
    exact H.tdist s s' b n1 c wd1 b' n' c' wd' m1 ((List.mem_cons.1 hs').resolve_left (fun e=>q' (congrArg Prod.snd e))) hne e e'
def Ctx.wrote(C:Ctx)(b k:Nat)(new:List Value)(t:Nat)(x:Tok):Ctx :=
 { w0:=C.w0,ok:=C.ok,imm:=fun b' o=>if b'=b/\k<=o/\o<k+new.length then new[o-k]? else C.imm b' o,tok:=fun s=>if s=t then some x else C.tok s }
theorem Ctx.wrote_le{C:Ctx}{b k:Nat}{new:List Value}{t:Nat}{x:Tok}(h:C.tok t = none)(hi:∀ o,k <= o->C.imm b o = none)(h0:C.w0.heap.size <= b):C.le (C.wrote b k new t x) :=
  ⟨rfl,fun b' o v hv => (by
    simp only [Ctx.wrote]
    rw [if_neg]
    · exact hv
    · rintro ⟨rfl,h1,_⟩
      rw [hi o h1] at hv; cases hv),
   fun s y hs => by simp only [Ctx.wrote]; split; (rename_i e; subst e; rw [h] at hs; cases hs); exact hs,
   fun b' o hb => by simp only [Ctx.wrote]; rw [if_neg (by omega)]⟩
def Mf:List (Nat×Nat)->Nat->Option Nat
 | [],_=>none
 |p::r,k=>if p.1=k then some p.2 else Mf r k
def Ex:List (Nat×Nat)->Nat->List (Nat×Nat)
 | [],_=>[]
 |p::r,k=>if p.1=k then r else p::Ex r k
def Bm:List (Nat×Nat)->Nat
 | []=>0
 |p::r=>max (p.1+1) (Bm r)
theorem I0:∀ {l:List (Nat×Nat)} {k t:Nat},Mf l k=some t->∃l1 l2,l=l1++(k,t)::l2/\Ex l k=l1++l2
 | [],_,_,h=>by simp[Mf] at h
 |(y,a)::r,k,t,h=>by
  simp only[Mf] at h
  split at h
  ·rename_i e;subst e
   simp at h;subst h
   exact⟨[],r,rfl,by simp[Ex]⟩
  ·rename_i e
   obtain ⟨l1,l2,e1,e2⟩:=I0 h
   exact⟨(y,a)::l1,l2,by simp[e1],by simp[Ex,e,e2]⟩
theorem RI(l:List (Nat×Nat))(k:Nat):(Ex l k).Sublist l:=by
 induction l with
 |nil=>exact .refl _
 |cons p r ih =>
  simp only[Ex]
  split
  ·exact List.sublist_cons_self _ _
  ·exact ih.cons_cons _
theorem Sat.write_tok{C : Ctx}{S : St}{w w' : World}(H : Sat C S w){k0 t0 t b n cap wd m : Nat}{l1 l2 : List (Nat×Nat)}(k1 : Nat)(hS : S.toks=l1++(k0, t0)::l2)(e0 : C.tok t0=some (.at b n cap wd))(h : C.tok t=none)(hm : ∀p, p∈S.toks -> p.2≠t)(new : List Value)
  (hl:new.length=m*wd) (hone:∀v∈new,v.oneCell'=true) {arr:Array Value} {E:TypeId} {fz:Nat×Nat}
  (hw:w'.heap[b]? =some (.cells arr E fz)) (hth:Thawed arr fz) (hte:Eu t≠0->E+1=Eu t) (hsz:arr.size=cap*wd) (hnew:∀i v,new[i]? =some v->arr[n*wd+i]? =some v)
  (hold:∀o,o<n*wd->arr[o]? =w.cell? ⟨b,o,none⟩)
  (hs:w'.heap.size=w.heap.size) (hh:∀k,k≠b->w'.heap[k]? =w.heap[k]?) (h1:w'.os=w.os) (h2:w'.tape=w.tape) (h3:w'.output=w.output) :
  Sat (C.wrote b (n*wd) new t (.at b (n+m) cap wd)) ⟨S.objs,(k1,t)::(l1++l2)⟩ w':=by
 have h0:(k0,t0)∈S.toks:=by rw[hS];simp
 obtain ⟨x0,q1,q2,q3⟩:=H.toks (k0,t0) h0
 rw[e0] at q1;cases q1
 obtain ⟨p1,p2,_⟩:=q2
 have hle:=Ctx.wrote_le (new:=new) (x:=.at b (n+m) cap wd) h p2 p1
 have hnb:∀p∈S.objs,p.2.1≠b:=fun p hp e=>q3 p hp e.symm
 have nd:=H.tnodup
 rw[hS] at nd
 simp only[List.map_append,List.map_cons,List.nodup_append,List.nodup_cons] at nd
 have mm:∀ {l:List (Nat×Nat)} {p:Nat×Nat},p∈l->p.2∈l.map (·.2):=fun h=>List.mem_map_of_mem h
 have er:∀s,s∈l1++l2->s∈S.toks/\s.2≠t0:=by
  intro s hs
  rcases List.mem_append.1 hs with hs | hs
  ·exact⟨by rw[hS];simp[hs],fun e=>nd.2.2 s.2 (mm hs) t0 (by simp) e⟩
  ·exact⟨by rw[hS];simp[hs],fun e=>nd.2.1.1 (e ▸ mm hs)⟩
 have other:∀s,s∈S.toks->s.2≠t0->∀b' n' c' wd',C.tok s.2=some (.at b' n' c' wd')->b'≠b:=fun s hs hne b' n' c' wd' e eb =>
  H.tdist s (k0,t0) b' n' c' wd' b n cap wd hs h0 hne e e0 eb
 have sub:(l1++l2).Sublist S.toks:=by rw[hS];exact (List.Sublist.refl l1).append (List.sublist_cons_self _ _)
 refine⟨?_,?_,?_,?_,H.nodup,?_,?_,?_,?_⟩
 ·exact H.below.trans ⟨h1,h2,h3,by omega,fun k hk=>hh k (by omega)⟩
 ·intro b' o v hv
  simp only[Ctx.wrote] at hv
  split at hv
  ·rename_i hc
   obtain ⟨rfl,c1,c2⟩:=hc
   rw[cell_of_heap hw]
   have:=hnew _ _ hv
   rwa [show n*wd+(o-n*wd)=o by omega] at this
  ·by_cases hb:b'=b
   ·subst hb
    have hlt:o<n*wd:=by
     rcases Nat.lt_or_ge o (n*wd) with h' | h'
     ·exact h'
     ·rw[p2 o h'] at hv;cases hv
    rw[cell_of_heap hw,hold o hlt]
    exact H.imm _ _ _ hv
   ·rw[World.cell?_of_block (w:=w) (hh b' hb)]
    exact H.imm _ _ _ hv
 ·intro b' o v hv
  simp only[Ctx.wrote] at hv
  split at hv
  ·exact hone v (List.mem_of_getElem? hv)
  ·exact H.one _ _ _ hv
 ·intro p hp
  obtain ⟨k1,k2,k3⟩:=H.objs p hp
  refine⟨k1,fun o=>?_,(k3.mono hle).of_heap (hh _ (hnb p hp))⟩
  simp only[Ctx.wrote]
  rw[if_neg (fun hc=>hnb p hp hc.1)]
  exact k2 o
 ·intro s hs
  rcases List.mem_cons.1 hs with rfl | hs
  ·refine⟨.at b (n+m) cap wd,by simp[Ctx.wrote],⟨p1,fun o ho=>?_,arr,E,fz,hw,hth,hsz,hte⟩,fun p hp hc=>hnb p hp hc.symm⟩
   simp only[Ctx.wrote]
   rw[Nat.add_mul] at ho
   rw[if_neg (by omega)]
   exact p2 o (by omega)
  ·obtain ⟨m1,m2⟩:=er s hs
   obtain ⟨x,k1,k2,k3⟩:=H.toks s m1
   refine⟨x,hle.tok _ _ k1,?_,k3⟩
   cases x with
   |no=>trivial
   | «at» b' n' c' wd' =>
    have hne:=other s m1 m2 _ _ _ _ k1
    obtain ⟨l1,l2,arr',E',fz',l3,l4⟩:=k2
    exact⟨l1,fun o ho=>by simp only[Ctx.wrote];rw[if_neg (fun hc=>hne hc.1)];exact l2 o ho,arr',E',fz',(hh _ hne).trans l3,l4⟩
 ·simp only[List.map_cons,List.nodup_cons]
  exact⟨fun hx=>(let ⟨p,hp,e⟩:=List.mem_map.1 hx;hm p (er p hp).1 e),(sub.map (·.2)).nodup H.tnodup⟩
 ·obtain ⟨N,hN⟩:=H.tfin
  exact⟨max N (t+1),fun s hs=>by simp only[Ctx.wrote];rw[if_neg (by omega)];exact hN s (by omega)⟩
 ·intro s s' b1 n1 c1 wd1 b2 n2 c2 wd2 hs hs' hne e e'
  simp only[Ctx.wrote] at e e'
  have rl:∀ {s:Nat×Nat},s∈(k1,t)::(l1++l2)->¬s.2=t->s∈l1++l2:=fun hs q=>(List.mem_cons.1 hs).resolve_left fun e=>q (congrArg Prod.snd e)
  split at e
  ·rename_i q
   cases e
   split at e'
   ·rename_i q'; exact (hne (q.trans q'.symm)).elim
   ·rename_i q'
    obtain ⟨m1,m2⟩:=er s' (rl hs' q')
    exact fun eb=>other s' m1 m2 _ _ _ _ e' eb.symm
  ·rename_i q
   obtain ⟨m1,m2⟩:=er s (rl hs q)
   split at e'
   ·cases e'
    exact other s m1 m2 _ _ _ _ e
   ·rename_i q'
    exact H.tdist s s' b1 n1 c1 wd1 b2 n2 c2 wd2 m1 (er s' (rl hs' q')).1 hne e e'
theorem RepRows.flat{C:Ctx}{wd b:Nat}:∀ {rs:List (List D)} {o:Nat},RepRows C wd b o rs->RepCells C b o rs.flatten/\rs.flatten.length=rs.length*wd
 | [],_,_=>by simp[RepCells]
 |r::rs,o,H=>by
  simp only[RepRows] at H
  obtain ⟨h1,h2⟩:=RepRows.flat H.2.2
  refine⟨?_,?_⟩
  ·rw[List.flatten_cons]
   refine RepCells.append H.2.1 ?_
   rw[H.1];exact h1
  ·rw[List.flatten_cons,List.length_append,h2,H.1,List.length_cons,Nat.add_mul];omega
theorem RepRows.unflat{C:Ctx}{wd b:Nat}:∀ {rs:List (List D)} {o:Nat},RepCells C b o rs.flatten->(∀r,r∈rs->r.length=wd)->RepRows C wd b o rs
 | [],_,_,_=>by simp[RepRows]
 |r::rs,o,H,hl=>by
  simp only[RepRows]
  have hr:r.length=wd:=hl r (by simp)
  rw[List.flatten_cons] at H
  have h2:RepCells C b (o+r.length) rs.flatten:=by
   have:=RepCells.drop r.length H
   rwa [List.drop_left] at this
  have h1:RepCells C b o r:=by
   have:∀(r s:List D) (o:Nat),RepCells C b o (r++s)->RepCells C b o r:=by
    intro r
    induction r with
    |nil=>intro s o _;simp[RepCells]
    |cons d r ih=>intro s o h;simp only[List.cons_append,RepCells] at h ⊢; exact⟨h.1,ih s _ h.2⟩
   exact this r _ o H
  exact⟨hr,h1,RepRows.unflat (hr ▸ h2) fun q hq=>hl q (by simp[hq])⟩
theorem RepRows.width{C:Ctx}{wd b:Nat}:∀ {rs:List (List D)} {o:Nat},RepRows C wd b o rs->∀r,r∈rs->r.length=wd
 | [],_,_,r,hr=>by cases hr
 |q::rs,o,H,r,hr=>by
  simp only[RepRows] at H
  rcases List.mem_cons.1 hr with rfl | hr
  ·exact H.1
  ·exact RepRows.width H.2.2 r hr
theorem RepCells.ofL{C:Ctx}{b:Nat}:∀ {ds:List D} {vs:List Value} {o:Nat},RepL C ds vs->(∀i v,vs[i]? =some v->C.imm b (o+i)=some v)->RepCells C b o ds
 | [],_,_,_,_=>by simp[RepCells]
 |d::ds,vs,o,H,h=>by
  simp only[RepL] at H
  obtain ⟨x,xs,rfl,r1,r2⟩:=H
  simp only[RepCells]
  refine⟨⟨x,h 0 x rfl,r1⟩,RepCells.ofL r2 fun i v hv=>?_⟩
  rw[show o+1+i=o+(i+1) by omega]
  exact h (i+1) v (by simpa using hv)
theorem RepCells.vals{C:Ctx}{b:Nat}:∀ {ds:List D} {o:Nat},RepCells C b o ds->∃vs,RepL C ds vs/\∀i v,vs[i]? =some v->C.imm b (o+i)=some v
 | [],_,_=>⟨[],by simp[RepL],by simp⟩
 |d::ds,o,H=>by
  simp only[RepCells] at H
  obtain ⟨⟨v,e,r⟩,h⟩:=H
  obtain ⟨vs,h1,h2⟩:=RepCells.vals h
  refine⟨v::vs,by simp only[RepL];exact⟨v,vs,rfl,r,h1⟩,fun i u hu=>?_⟩
  cases i with
  |zero=>simp at hu;subst hu;exact e
  |succ i=>rw[show o+(i+1)=o+1+i by omega];exact h2 i u (by simpa using hu)
theorem BjI{C:Ctx}:∀ {ds:List D} {vs:List Value},RepL C ds vs->ds.all Gi=true->∀v∈vs,v.oneCell'=true :=
 fun h k=>E6 k h
theorem Cv{P : Program}{b o : Nat}{E : TypeId}{fz : Nat×Nat} : ∀(vs : List Value) (i : Nat) (arr : Array Value) (w : World), w.heap[b]? =some (.cells arr E fz) -> Thawed arr fz ->
  (∀v∈vs,v.oneCell'=true)->o+i+vs.length<=arr.size ->
  ∃w' arr',(storeCells ⟨b,o,none⟩ vs i).run P w=.ok () w'/\w'.heap[b]? =some (.cells arr' E fz)/\arr'.size=arr.size /\
   (∀j v,vs[j]? =some v->arr'[o+i+j]? =some v)/\(∀k,k<o+i->arr'[k]? =arr[k]?) /\
   w'.heap.size=w.heap.size/\(∀k,k≠b->w'.heap[k]? =w.heap[k]?)/\w'.os=w.os/\w'.tape=w.tape/\w'.output=w.output
 | [],i,arr,w,hw,_,_,_=>⟨w,arr,by simp[storeCells],hw,rfl,by simp,fun _ _=>rfl,rfl,fun _ _=>rfl,rfl,rfl,rfl⟩
 |v::vs,i,arr,w,hw,ht,h1,hl=>by
  simp only[List.length_cons] at hl
  have hw1:=Cs (x:=b) (o:=o+i) hw v
  obtain ⟨w',arr',r1,r2,r3,r4,r5,r6,r7,r8,r9,r10⟩:=Cv (P:=P) (o:=o) vs (i+1) (arr.setIfInBounds (o+i) v) _ hw1 (ht.set _ v) (fun u hu=>h1 u (by simp[hu])) (by simp;omega)
  refine⟨w',arr',?_,r2,by simpa using r3,?_,?_,by simpa using r6,fun k hk=>(r7 k hk).trans (Below.heap_setCell _ _ _ _ hk),r8,r9,r10⟩
  ·have hcell:w.cell? ⟨b,o+i,none⟩=some (arr[o+i]'(by omega)):=by rw[cell_of_heap hw];simp[show o+i<arr.size by omega]
   have hfz:w.frozen? ⟨b,o+i,none⟩=false:=B8 hw ht (by omega)
   simp only[storeCells,Addr.add_mk,Sem.run_bind,run_store P w _ v _ (h1 v (by simp)),hcell,hfz]
   exact r1
  ·intro j u hu
   cases j with
   |zero =>
    simp at hu;subst hu
    rw[show o+i+0=o+i by omega,r5 (o+i) (by omega)]
    simp[show o+i<arr.size by omega]
   |succ j=>rw[show o+i+(j+1)=o+(i+1)+j by omega];exact r4 j u (by simpa using hu)
  ·intro k hk
   rw[r5 k (by omega),Array.getElem?_setIfInBounds_ne (by omega)]
def Gk:D->Option (Nat×(Nat->List D))
 |.sl _ n f _=>some (n,f)
 |.str s=>some (s.length,fun i=>[.int .u8 ((s.getD i 0).toNat:Int)])
 |_=>none
theorem Bnz(s:List UInt8):(List.range s.length).map (fun i=>[D.int .u8 ((s.getD i 0).toNat:Int)])=u8s s:=by
 apply List.ext_getElem
 ·simp[u8s]
 ·intro i h1 h2
  have h3:i<s.length:=by simpa using h1
  simp[u8s,List.getD_eq_getElem?_getD,List.getElem?_eq_getElem h3]
theorem Bmb{C:Ctx}(s:List UInt8):RepL C (u8s s).flatten (s.map fun b=>Value.int .u8 b.toNat):=by
 induction s with
 |nil=>simp[u8s,RepL]
 |cons b s ih =>
  simp only[u8s,List.map_cons,List.flatten_cons,List.cons_append,List.nil_append,RepL]
  exact⟨_,_,rfl,by simp[Rep],ih⟩
theorem GZ{P : Program}{C : Ctx}{x : D}{v : Value}{m : Nat}{g : Nat -> List D}{wd : Nat}(hx : Rep C x v)(hn : Gk x=some (m, g))(hw : ∀i, i<m -> (g i).length=wd)(hS : (∃s, x=.str s) -> wd=1) :
  ∃vs,RepL C ((List.range m).map g).flatten vs/\vs.length=m*wd/\(∀S w,Sat C S w->∀v∈vs,v.oneCell'=true)/\(∀w,(Builtin.lenOf v).run P w=.ok m w) /\
   ∀S w,Sat C S w->(Builtin.firstCells wd m v).run P w=.ok vs.toArray w:=by
 unfold Gk at hn
 split at hn
 ·rename_i wd' n f md
  simp only[Option.some.injEq,Prod.mk.injEq] at hn
  obtain ⟨rfl,rfl⟩:=hn
  rw[Wm] at hx
  obtain ⟨a,len,cap,rfl,hh,hr⟩:=hx
  have hlen:len=n:=by have:=hh.1;simpa using this
  subst hlen
  cases a with
  |none =>
   have h0:len=0:=by have:=(hh.2.2.2.1 rfl).1;simpa using this
   subst h0
   exact⟨[],by simp[RepL],by simp,by simp,fun w=>by simp[Builtin.lenOf],fun S w _=>by simp[Builtin.firstCells]⟩
  |some a =>
   by_cases hne:len=0
   ·subst hne
    exact⟨[],by simp[RepL],by simp,by simp,fun w=>by simp[Builtin.lenOf],fun S w _=>by simp[Builtin.firstCells,loadCells,loadCellsFrom]⟩
   ·have hsp:=hh.2.2.2.2.1 a rfl (by have:=hh.2.1;simp only[List.length_map,List.length_range] at this;omega)
    obtain ⟨b,o,sp⟩:=a
    simp only at hsp;subst hsp
    have hr':=hr _ rfl
    have e:wd'=wd:=((Ux.1 hr') 0 (by omega)).1.symm.trans (hw 0 (by omega))
    subst e
    obtain ⟨hc,hl⟩:=RepRows.flat hr'
    obtain ⟨vs,h1,h2⟩:=hc.vals
    have hvl:vs.length=len*wd':=by rw[RepL.length h1,hl];simp
    refine⟨vs,h1,hvl,fun S w hs v hv=>(let ⟨_,e⟩:=List.mem_iff_getElem?.1 hv;hs.one _ _ _ (h2 _ _ e)),fun w=>by simp[Builtin.lenOf],fun S w hs=>?_⟩
    exact run_firstCells_some (P:=P) w wd' len ⟨b,o,none⟩ _ cap vs hvl fun j u hu=>by
     rw[Addr.add_mk];exact hs.imm _ _ _ (h2 j u hu)
 ·rename_i s
  have e:wd=1:=hS ⟨s,rfl⟩
  simp only[Option.some.injEq,Prod.mk.injEq] at hn
  obtain ⟨rfl,rfl⟩:=hn
  simp only[Rep] at hx;subst hx
  subst e
  rw[Bnz]
  refine⟨_,Bmb s,by simp,fun _ _ _ v hv=>(by obtain ⟨b,_,rfl⟩:=List.mem_map.1 hv;rfl),fun w=>by simp[Builtin.lenOf,ByteArray.size],fun S w _=>?_⟩
  have:(⟨s.toArray⟩:ByteArray).extract 0 s.length=⟨s.toArray⟩:=by
   rw[ByteArray.extract_mk];simp
  simp[Builtin.firstCells,this]
 ·cases hn
def BW(n:Nat)(f g:Nat->List D):Nat->List D:=fun i=>if i<n then f i else g (i-n)
theorem Bdl(n m:Nat)(f g:Nat->List D):(List.range (n+m)).map (BW n f g)=(List.range n).map f++(List.range m).map g:=by
 apply List.ext_getElem
 ·simp
 ·intro i h1 h2
  by_cases h:i<n
  ·rw[List.getElem_append_left (by simpa using h)];simp[BW,h]
  ·rw[List.getElem_append_right (by simpa using h)];simp[BW,h]
def Ur(wd:Nat):D->Bool
 |.sl w _ _ _=>decide (w=wd)
 |.str _=>decide (wd=1)
 |_=>false
def Bfx(key wd bytes n:Nat)(f:Nat->List D)(m:Nat)(g:Nat->List D)(S1:St)(K:D->St->Prop):Prop :=
 Be ((n+m)*bytes<=140737488355328/\n+m<=9223372036854775807)
  (∀t,K (.sl wd (n+m) (BW n f g) (.tok key t)) ⟨S1.objs,(key,t)::S1.toks⟩)
def W8(wd bytes:Nat)(x y:D)(S:St)(K:D->St->Prop):Prop :=
 match Gk y with
 |none=>False
 |some (m,g)=>chk (Ur wd y) (match x with
  |.sl _ n f .nil=>Bfx (Bm S.toks) wd bytes n f m g S K
  |.sl w n f .full=>chk (decide (w=wd)) (Bfx (Bm S.toks) wd bytes n f m g S K)
  |.sl w n f (.tok k t)=>match Mf S.toks k with
   |some t'=>chk (decide (w=wd)) (t'=t/\Bfx k wd bytes n f m g ⟨S.objs,Ex S.toks k⟩ K)
   |none=>False
  |_=>False)
theorem Sat.cons_frame{C:Ctx}{o:List (Nat×Nat×AObj)}{t:Nat×Nat}{tk:List (Nat×Nat)}{F:St}{w:World}(h:Sat C ⟨o++F.objs,t::(tk++F.toks)⟩ w):Sat C (St.add ⟨o,t::tk⟩ F) w:=h
theorem Mv{P : Program}{C : Ctx}{S F : St}{w : World}{tt : Nat -> Option TI}(hT : TabOk P tt)(hs : Sat C (S.add F) w){t u ty e : Nat}{ti ui ei : TI}(ht : tt t=some ti)(hd : ti.desc=.slice e)
  (hu:tt u=some ui) (hnoint:ui.desc=.string\/∃e',ui.desc=.slice e') (he:tt e=some ei) {rows:List (List D)} {S1:St} {wd n:Nat} {md:Mode} (k:Nat) (f:Nat->List D) (hrows:rows=(List.range n).map f) (hrw:∀r,r∈rows->r.length=ei.size) {v y:Value} (hv:Rep C (.sl wd n f md) v)
  (hsub:S1.le S) (hmd:(md=.nil\/md=.full)\/∃k0 t0,md=.tok k0 t0/\Mf S.toks k0=some t0/\wd=ei.size/\S1=⟨S.objs,Ex S.toks k0⟩)
  {m:Nat} {cells:List D} {news:List Value} (hn:RepL C cells news) (hnl:news.length=m*ei.size) (hone:∀z∈news,z.oneCell'=true) (hlen:∀w,(Builtin.lenOf y).run P w=.ok m w)
  (hfc:∀S w,Sat C S w->(Builtin.firstCells ei.size m y).run P w=.ok news.toArray w)
  (hb:(rows.length+m)*ei.bytes<=140737488355328) (h63:rows.length+m<=9223372036854775807) :
  ∃v' w' C' tk,(Builtin.append_ #[t,u] ty #[v,y]).run P w=.ok v' w'/\C.le C'/\Sat C' (St.add ⟨S1.objs,(k,tk)::S1.toks⟩ F) w' /\
   (∀(nrows:List (List D)),nrows.flatten=cells->nrows.length=m->(∀r,r∈nrows->r.length=ei.size)->Rep C' (slR ei.size (rows++nrows) (.tok k tk)) v')/\(∀k0 t0,md=.tok k0 t0->Eu t0=e+1->Eu tk=e+1):=by
 have hut:=Bz (w:=w) hT ht
 rw[hd] at hut
 have huu:=Bz (w:=w) hT hu
 obtain ⟨tk,htk,htm,hte0,hty⟩:∃t,C.tok t=none/\(∀p,p∈(S.add F).toks->p.2≠t)/\(Eu t≠0->Eu t=e+1/\∃k0 t0,md=.tok k0 t0/\Eu t0=e+1)/\(∀k0 t0,md=.tok k0 t0->Eu t0=e+1->Eu t=e+1):=by
  by_cases hq:∃k0 t0,md=.tok k0 t0/\Eu t0=e+1
  ·obtain ⟨k0,t0,q1,q2⟩:=hq
   have hlt:e+1<1000003:=by rw[<- q2];exact Nat.mod_lt _ (by omega)
   obtain ⟨t,a,b,c⟩:=hs.tok_typed hlt
   exact⟨t,a,b,fun _=>⟨c,k0,t0,q1,q2⟩,fun _ _ _ _=>c⟩
  ·obtain ⟨t,a,b,c⟩:=hs.tok_free
   exact⟨t,a,b,fun h=>(h c).elim,fun k0 t0 q1 q2=>(hq ⟨k0,t0,q1,q2⟩).elim⟩
 obtain ⟨_,inf,z,hinf,hsz,hby,hz,hzs,_⟩:=hT e ei he
 have hsize:∀w,(sizeOf e).run P w=.ok ei.size w:=fun w=>Bo hT he
 rw[Wm,<- hrows] at hv
 obtain ⟨a,sLen,cap,rfl,hh,hrep⟩:=hv
 have hsl:sLen=rows.length:=hh.1
 subst hsl
 have hcap:rows.length<=cap:=hh.2.1
 have hcm:cap<=maxLen:=hh.2.2.1
 -- the old cells
 have holdc:∃olds:List Value,RepL C rows.flatten olds/\olds.length=rows.length*ei.size/\(∀z∈olds,z.oneCell'=true)/\(∀b,a=some b->∀j u,olds[j]? =some u->C.imm b.block (b.off+j)=some u):=by
  cases a with
  |none =>
   have h0:rows=[]:=List.eq_nil_of_length_eq_zero (hh.2.2.2.1 rfl).1
   subst h0
   exact⟨[],by simp[RepL],by simp,by simp,fun b h=>by cases h⟩
  |some b =>
   have hr:=hrep b rfl
   obtain ⟨hc,hl⟩:=RepRows.flat hr
   obtain ⟨vs,h1,h2⟩:=hc.vals
   have hwd:rows.length*wd=rows.length*ei.size:=by
    cases rows with
    |nil=>simp
    |cons r rs =>
     have e1:=RepRows.width hr r (by simp)
     have e2:=hrw r (by simp)
     rw[<- e1,e2]
   refine⟨vs,h1,by rw[RepL.length h1,hl,hwd],fun z hz=>?_,fun b' hb' j u hu=>by cases hb'; exact h2 j u hu⟩
   obtain ⟨i,hi⟩:=List.mem_iff_getElem?.1 hz
   exact hs.one _ _ _ (h2 i z hi)
 obtain ⟨olds,ho1,ho2,ho3,ho4⟩:=holdc
 have hfo:∀w',Sat C (S.add F) w'->(Builtin.firstCells ei.size rows.length (.slice a rows.length cap)).run P w'=.ok olds.toArray w':=by
  intro w' hs'
  cases a with
  |none =>
   have h0:rows=[]:=List.eq_nil_of_length_eq_zero (hh.2.2.2.1 rfl).1
   subst h0
   have:olds=[]:=List.eq_nil_of_length_eq_zero (by simpa using ho2)
   subst this
   simp[Builtin.firstCells]
  |some b =>
   by_cases h0:rows.length=0
   ·have:olds=[]:=List.eq_nil_of_length_eq_zero (by simpa[h0] using ho2)
    subst this
    rw[h0]
    simp[Builtin.firstCells,loadCells,loadCellsFrom]
   have hsp:=hh.2.2.2.2.1 b rfl (by omega)
   obtain ⟨b,o,sp⟩:=b
   simp only at hsp;subst hsp
   exact run_firstCells_some (P:=P) w' ei.size rows.length ⟨b,o,none⟩ _ cap olds ho2 fun j u hu=>by rw[Addr.add_mk];exact hs'.imm _ _ _ (ho4 _ rfl j u hu)
 by_cases hroom:rows.length+m<=cap
 ·-- room
  by_cases hfull0:cap=rows.length/\(Eu tk≠0->a=none)
  ·-- nothing is appended
   have hfull:=hfull0.1
   have hm0:m=0:=by omega
   subst hm0
   have hn0:news=[]:=List.eq_nil_of_length_eq_zero (by simpa using hnl)
   subst hn0
   have hf0:=hfc _ w hs
   refine⟨.slice a rows.length cap,w,C.tokd tk .no,tk,?_,Ctx.tokd_le htk,Sat.cons_frame ((hs.le hsub).tok_no k htk (fun p hp=>htm p ((hsub.2.append_right F.toks).subset hp))),?_,hty⟩
   ·rcases hnoint with hq | ⟨e',hq⟩<;>rw[hq] at huu<;>cases a<;>simp[Builtin.append_,hut,huu,hsize,hlen,hcap,hf0,storeCells]
   ·intro nrows e1 e2 e3
    have:nrows=[]:=List.eq_nil_of_length_eq_zero e2
    subst this
    rw[Tq,List.append_nil]
    refine⟨a,rows.length,cap,rfl,⟨rfl,hcap,hcm,hh.2.2.2.1,hh.2.2.2.2.1,by simp only[Ctx.tokd,if_true];exact hfull0⟩,fun b hb=>?_⟩
    have:=RepRows.mono (Ctx.tokd_le htk (x:=.no)) _ _ _ _ (hrep b hb)
    exact RepRows.unflat (RepRows.flat this).1 hrw
  ·-- into the free end
   have h6:=hh.2.2.2.2.2
   have htok:∃k0 t0 b,md=.tok k0 t0/\Mf S.toks k0=some t0/\wd=ei.size/\S1=⟨S.objs,Ex S.toks k0⟩/\C.tok t0=some (.at b rows.length cap wd)/\a=some ⟨b,0,none⟩:=by
    rcases hmd with (rfl | rfl) | ⟨k0,t0,rfl,hm,hw,rfl⟩
    ·exact (hfull0 ⟨(hh.2.2.2.1 h6).2.trans (hh.2.2.2.1 h6).1.symm,fun _=>h6⟩).elim
    ·exact (hfull0 ⟨h6.1,fun h=>by obtain ⟨_,_,_,q,_⟩:=hte0 h;cases q⟩).elim
    ·simp only at h6
     cases hq:C.tok t0 with
     |none=>rw[hq] at h6;exact h6.elim
     |some q =>
      rw[hq] at h6
      cases q with
      |no=>exact (hfull0 ⟨h6.1,fun h=>h6.2 (by obtain ⟨_,_,_,q,q2⟩:=hte0 h;cases q;rw[q2];omega)⟩).elim
      | «at» b n' c' w' =>
       obtain ⟨g1,g2,g3,g4⟩:=h6
       subst g2 g3 g4
       exact⟨k0,t0,b,rfl,hm,hw,rfl,hq,g1⟩
   obtain ⟨k0,t0,b,rfl,hm0,rfl,rfl,htok0,rfl⟩:=htok
   obtain ⟨l1,l2,hl1,hl2⟩:=I0 hm0
   have hS:(S.add F).toks=l1++(k0,t0)::(l2++F.toks):=by simp[St.add,hl1]
   obtain ⟨q0,hq1,hq2,hq3⟩:=hs.toks (k0,t0) (by rw[hS];simp)
   simp only at hq1
   rw[htok0] at hq1;cases hq1
   obtain ⟨p1,p2,arr,E,fz,p3,p4,p5,p6⟩:=hq2
   have hfit:0+rows.length*ei.size+news.length<=arr.size:=by
    rw[p5,hnl,Nat.zero_add,<- Nat.add_mul];exact Nat.mul_le_mul_right _ hroom
   obtain ⟨w',arr',r1,r2,r3,r4,r5,r6,r7,r8,r9,r10⟩:=Cv (P:=P) (o:=0+rows.length*ei.size) (fz:=fz) news 0 arr w p3 p4 hone (by omega)
   have hsat:=hs.write_tok (w':=w') (t0:=t0) (t:=tk) (m:=m) k hS htok0 htk htm news hnl hone r2 (p4.imp id fun h=>by omega) (fun h=>by obtain ⟨a1,_,_,q,q2⟩:=hte0 h;cases q;rw[a1,<- q2];exact p6 (by rw[q2];omega)) (by omega)
    (fun i v hi=>by have:=r4 i v hi;simpa using this) (fun o ho=>by rw[r5 o (by omega),cell_of_heap p3]) r6 r7 r8 r9 r10
   refine⟨.slice (some ⟨b,0,none⟩) (rows.length+m) cap,w',C.wrote b (rows.length*ei.size) news tk (.at b (rows.length+m) cap ei.size),tk,?_,Ctx.wrote_le htk p2 p1,?_,?_,hty⟩
   ·have hf0:=hfc _ w hs
    simp only[Nat.zero_add] at r1
    rcases hnoint with hq | ⟨e',hq⟩<;>rw[hq] at huu<;>simp[Builtin.append_,hut,huu,hsize,hlen,hroom,hf0,Addr.add_mk,r1]
   ·refine Sat.cons_frame ?_
    simp only[St.add] at hsat
    rw[hl2,List.append_assoc]
    exact hsat
   ·intro nrows e1 e2 e3
    rw[Tq]
    refine⟨_,_,_,rfl,⟨by simp[e2],by simpa[e2] using hroom,hcm,by simp,by simp,by simp[Ctx.wrote,e2]⟩,fun x hx=>?_⟩
    cases hx
    have hle:=Ctx.wrote_le (b:=b) (k:=rows.length*ei.size) (new:=news) (x:=.at b (rows.length+m) cap ei.size) htk p2 p1
    refine RepRows.append (RepRows.mono hle _ _ _ _ (hrep _ rfl)) (RepRows.unflat ?_ e3)
    rw[e1]
    refine RepCells.ofL (RepL.mono hle _ _ hn) fun i v hi=>?_
    have hi':i<news.length:=(List.getElem?_eq_some_iff.1 hi).1
    simp only[Ctx.wrote]
    rw[if_pos ⟨trivial,by omega,by omega⟩,<- hi]
    congr 1;omega
 ·-- a new block
  have hg:cap<rows.length+m:=by omega
  have hfit:=growslice_fits hg hb
  have hfd:=hfc _ w.drew hs.drew
  have hod:=hfo w.drew hs.drew
  have hzero:∀w,(zeroValue e).run P w=.ok z w:=fun w=>by simp[zeroValue,typeInfo,hinf,hz]
  have hcap':=grownCap_ge w (rows.length+m) cap e
  let arr:Array Value:=olds.toArray++news.toArray++Builtin.zeroCells z.cells (grownCap w (rows.length+m) cap e-(rows.length+m))
  have hkl:olds.length+news.length=(rows.length+m)*ei.size:=by rw[ho2,hnl,Nat.add_mul]
  have harr:arr.size=grownCap w (rows.length+m) cap e*ei.size:=by
   simp only[arr,Array.size_append,List.size_toArray,size_zeroCells,hzs,hkl,<- Nat.add_mul]
   congr 1;omega
  have hget:∀i,i<(rows.length+m)*ei.size->arr[i]? =(olds++news)[i]? :=by
   intro i hi
   simp only[arr]
   rw[Array.getElem?_append_left (by simp;omega)]
   simp
  have hsat:=((hs.le hsub).drew).alloc_tok (n:=rows.length+m) arr e (0,0) (.inl rfl) k htk (fun p hp=>htm p ((hsub.2.append_right F.toks).subset hp)) (fun h=>((hte0 h).1).symm) harr (fun i v hi hv=>by
   rw[hget i hi] at hv
   rcases List.mem_append.1 (List.mem_of_getElem? hv) with h | h
   ·exact ho3 v h
   ·exact hone v h)
  refine⟨.slice (some ⟨w.heap.size,0,none⟩) (rows.length+m) (grownCap w (rows.length+m) cap e),w.drew.alloc (.cells arr e),_,tk,?_,(hs.le hsub).drew.grown_le _ arr _ htk,Sat.cons_frame hsat,?_,hty⟩
  ·have h63':¬(9223372036854775807<((rows.length:Int)+(m:Int))):=by omega
   have hfit':¬(281474976710656<Builtin.nextslicecap (rows.length+m) cap*ei.bytes):=by omega
   rcases hnoint with hq | ⟨e',hq⟩<;>rw[hq] at huu<;>simp[Builtin.append_,hut,huu,hsize,hlen,hroom,typeInfo,hinf,hby,h63',hfit',Question.forced,hfd,hod,hzero,newRow,grownCap,arr]
  ·intro nrows e1 e2 e3
   rw[Tq]
   refine⟨_,_,_,rfl,⟨by simp[e2],by simpa[e2] using hcap',grownCap_le_maxLen w _ _ e (by simpa[maxLen] using h63),by simp,by simp,by simp[Ctx.grown,e2]⟩,fun x hx=>?_⟩
   cases hx
   have hle:=(hs.le hsub).drew.grown_le ((rows.length+m)*ei.size) arr (.at w.drew.heap.size (rows.length+m) (grownCap w (rows.length+m) cap e) ei.size) htk
   refine RepRows.unflat ?_ fun r hr=>?_
   ·rw[List.flatten_append,e1]
    refine RepCells.ofL (RepL.append (RepL.mono hle _ _ ho1) (RepL.mono hle _ _ hn)) fun i v hi=>?_
    have hi':i<(rows.length+m)*ei.size:=by have:=(List.getElem?_eq_some_iff.1 hi).1;rw[List.length_append] at this;omega
    simp only[Ctx.grown,World.size_drew,if_true,Nat.zero_add]
    rw[if_pos hi',hget i hi']
    exact hi
   ·rcases List.mem_append.1 hr with h | h
    ·exact hrw r h
    ·exact e3 r h
theorem Bf4{n m:Nat}{f g:Nat->List D}{C:Ctx}{w:Nat}{md:Mode}{v:Value}(h:Rep C (slR w ((List.range n).map f++(List.range m).map g) md) v):Rep C (.sl w (n+m) (BW n f g) md) v:=by
 rw[Tq] at h
 rw[Wm,Bdl]
 exact h
theorem BdH{P : Program}{C : Ctx}{S F : St}{w : World}{tt : Nat -> Option TI}{K X : D -> St -> Prop}(hT : TabOk P tt)(hs : Sat C (S.add F) w){t u ty e : Nat}{ti ui ei : TI}(ht : tt t=some ti)(hd : ti.desc=.slice e)
  (hu:tt u=some ui) (hnoint:ui.desc=.string\/∃e',ui.desc=.slice e') (he:tt e=some ei) {x y:D} {v z:Value} (hv:Rep C x v) (hy:Rep C y z)
  (h:W8 ei.size ei.bytes x y S K):Good P C F K X ((do pure (Next.value (<- Builtin.append_ #[t,u] ty #[v,z])):Sem Next).run P w):=by
 unfold W8 at h
 split at h
 ·exact h.elim
 ·rename_i m g hn
  obtain ⟨hw,h⟩:=Ba.1 h
  have hgl:∀i,i<m->(g i).length=ei.size:=by
   intro i hi
   unfold Gk at hn
   split at hn
   ·rename_i w' n' f' m'
    simp only[Option.some.injEq,Prod.mk.injEq] at hn
    obtain ⟨rfl,rfl⟩:=hn
    have e:w'=ei.size:=of_decide_eq_true hw
    subst e
    simp only[Rep] at hy
    obtain ⟨a,len,cap,rfl,hh,hr⟩:=hy
    cases a with
    |none=>have:=(hh.2.2.2.1 rfl).1;omega
    |some a=>exact (hr a rfl i hi).1
   ·rename_i s
    simp only[Option.some.injEq,Prod.mk.injEq] at hn
    obtain ⟨rfl,rfl⟩:=hn
    have e:ei.size=1:=of_decide_eq_true hw
    simp[e]
   ·cases hn
  have hS:(∃s,y=.str s)->ei.size=1:=by
   rintro ⟨s,rfl⟩;exact of_decide_eq_true hw
  obtain ⟨vs,q1,q2,q3,q4,q5⟩:=GZ (P:=P) hy hn hgl hS
  have go : ∀ {key wd n : Nat} {f : Nat -> List D} {md : Mode} {S1 : St}, Rep C (.sl wd n f md) v -> (n=0 \/ wd=ei.size) -> S1.le S ->
    ((md=.nil\/md=.full)\/∃k0 t0,md=.tok k0 t0/\Mf S.toks k0=some t0/\wd=ei.size/\S1=⟨S.objs,Ex S.toks k0⟩)->Bfx key ei.size ei.bytes n f m g S1 K ->
    Good P C F K X ((do pure (Next.value (<- Builtin.append_ #[t,u] ty #[v,z])):Sem Next).run P w):=by
   intro key wd n f md S1 hv hwd hsub hmd hgo
   obtain ⟨⟨h3,h4⟩,h5⟩:=Bc.1 hgo
   have hfl:∀r,r∈(List.range n).map f->r.length=ei.size:=by
    intro r hr
    obtain ⟨i,hi,rfl⟩:=List.mem_map.1 hr
    have hi:=List.mem_range.1 hi
    have e:=hwd.resolve_left (by omega)
    subst e
    have hv':=hv
    simp only[Rep] at hv'
    obtain ⟨a,len,cap,rfl,hh,hr⟩:=hv'
    cases a with
    |none=>have:=(hh.2.2.2.1 rfl).1;omega
    |some a=>exact (hr a rfl i hi).1
   obtain ⟨v',w',C',tk,r1,r2,r4,r5,_⟩:=Mv hT hs (ty:=ty) ht hd hu hnoint he key f rfl hfl hv hsub hmd q1 q2 (q3 _ w hs) q4 q5 (by simpa using h3) (by simpa using h4)
   exact .of_val' r1 r2 r4 (Bf4 (r5 ((List.range m).map g) rfl (by simp) (by
    intro r hr
    obtain ⟨i,hi,rfl⟩:=List.mem_map.1 hr
    exact hgl i (List.mem_range.1 hi)))) (h5 tk)
  split at h
  ·rename_i w' n f
   refine go hv (.inl ?_) (.refl S) (.inl (.inl rfl)) h
   simp only[Rep] at hv
   obtain ⟨a,len,cap,rfl,hh,hr⟩:=hv
   exact (hh.2.2.2.1 hh.2.2.2.2.2).1
  ·obtain ⟨hw',h⟩:=Ba.1 h
   exact go hv (.inr (of_decide_eq_true hw')) (.refl S) (.inl (.inr rfl)) h
  ·split at h
   ·rename_i k t0 _ t' hg
    obtain ⟨hw',ht,h9⟩:=Ba.1 h
    subst ht
    refine go (S1:=⟨S.objs,Ex S.toks _⟩) hv (.inr (of_decide_eq_true hw')) ⟨List.Sublist.refl _,RI _ _⟩ (.inr ⟨_,_,rfl,hg,of_decide_eq_true hw',rfl⟩) h9
   ·exact h.elim
  ·exact h.elim
def TX(e wd bytes:Nat)(x y:D)(S:St)(K:D->St->Prop):Prop :=
 match Gk y with
 |none=>False
 |some (m,g)=>chk (Ur wd y) (match x with
  |.sl w n f (.tok k t)=>match Mf S.toks k with
   |some t'=>chk (decide (w=wd)) (t'=t/\Be ((n+m)*bytes<=140737488355328/\n+m<=9223372036854775807)
    (∀t1,(Eu t=e+1->Eu t1=e+1)->K (.sl wd (n+m) (BW n f g) (.tok k t1)) ⟨S.objs,(k,t1)::Ex S.toks k⟩))
   |none=>False
  |_=>False)
theorem Bba{P : Program}{C : Ctx}{S F : St}{w : World}{tt : Nat -> Option TI}{K X : D -> St -> Prop}(hT : TabOk P tt)(hs : Sat C (S.add F) w){t u ty e : Nat}{ti ui ei : TI}(ht : tt t=some ti)(hd : ti.desc=.slice e)
  (hu:tt u=some ui) (hnoint:ui.desc=.string\/∃e',ui.desc=.slice e') (he:tt e=some ei) {x y:D} {v z:Value} (hv:Rep C x v) (hy:Rep C y z)
  (h:TX e ei.size ei.bytes x y S K):Good P C F K X ((do pure (Next.value (<- Builtin.append_ #[t,u] ty #[v,z])):Sem Next).run P w):=by
 unfold TX at h
 split at h
 ·exact h.elim
 ·rename_i m g hn
  obtain ⟨hw,h⟩:=Ba.1 h
  have hgl:∀i,i<m->(g i).length=ei.size:=by
   intro i hi
   unfold Gk at hn
   split at hn
   ·rename_i w' n' f' m'
    simp only[Option.some.injEq,Prod.mk.injEq] at hn
    obtain ⟨rfl,rfl⟩:=hn
    have e:w'=ei.size:=of_decide_eq_true hw
    subst e
    simp only[Rep] at hy
    obtain ⟨a,len,cap,rfl,hh,hr⟩:=hy
    cases a with
    |none=>have:=(hh.2.2.2.1 rfl).1;omega
    |some a=>exact (hr a rfl i hi).1
   ·rename_i s
    simp only[Option.some.injEq,Prod.mk.injEq] at hn
    obtain ⟨rfl,rfl⟩:=hn
    have e:ei.size=1:=of_decide_eq_true hw
    simp[e]
   ·cases hn
  have hS:(∃s,y=.str s)->ei.size=1:=by
   rintro ⟨s,rfl⟩;exact of_decide_eq_true hw
  obtain ⟨vs,q1,q2,q3,q4,q5⟩:=GZ (P:=P) hy hn hgl hS
  have go : ∀ {key wd n : Nat} {f : Nat -> List D} {md : Mode} {S1 : St}, Rep C (.sl wd n f md) v -> (n=0 \/ wd=ei.size) -> S1.le S ->
    (∃k0 t0,md=.tok k0 t0/\Mf S.toks k0=some t0/\wd=ei.size/\S1=⟨S.objs,Ex S.toks k0⟩)->Be ((n+m)*ei.bytes<=140737488355328/\n+m<=9223372036854775807) (∀t1,(∀k0 t0,md=.tok k0 t0->Eu t0=e+1->Eu t1=e+1)->K (.sl ei.size (n+m) (BW n f g) (.tok key t1)) ⟨S1.objs,(key,t1)::S1.toks⟩) ->
    Good P C F K X ((do pure (Next.value (<- Builtin.append_ #[t,u] ty #[v,z])):Sem Next).run P w):=by
   intro key wd n f md S1 hv hwd hsub hmd hgo
   obtain ⟨⟨h3,h4⟩,h5⟩:=Bc.1 hgo
   have hfl:∀r,r∈(List.range n).map f->r.length=ei.size:=by
    intro r hr
    obtain ⟨i,hi,rfl⟩:=List.mem_map.1 hr
    have hi:=List.mem_range.1 hi
    have e:=hwd.resolve_left (by omega)
    subst e
    have hv':=hv
    simp only[Rep] at hv'
    obtain ⟨a,len,cap,rfl,hh,hr⟩:=hv'
    cases a with
    |none=>have:=(hh.2.2.2.1 rfl).1;omega
    |some a=>exact (hr a rfl i hi).1
   obtain ⟨v',w',C',tk,r1,r2,r4,r5,r6⟩:=Mv hT hs (ty:=ty) ht hd hu hnoint he key f rfl hfl hv hsub (.inr hmd) q1 q2 (q3 _ w hs) q4 q5 (by simpa using h3) (by simpa using h4)
   exact .of_val' r1 r2 r4 (Bf4 (r5 ((List.range m).map g) rfl (by simp) (by
    intro r hr
    obtain ⟨i,hi,rfl⟩:=List.mem_map.1 hr
    exact hgl i (List.mem_range.1 hi)))) (h5 tk r6)
  split at h
  ·split at h
   ·rename_i k0 t0 _ t' hg
    obtain ⟨hw',ht,h9⟩:=Ba.1 h
    subst ht
    exact go (S1:=⟨S.objs,Ex S.toks _⟩) hv (.inr (of_decide_eq_true hw')) ⟨List.Sublist.refl _,RI _ _⟩ ⟨_,_,rfl,hg,of_decide_eq_true hw',rfl⟩ (Bc.2 ⟨(Bc.1 h9).1,fun t1 h1=>(Bc.1 h9).2 t1 fun he=>h1 _ _ rfl he⟩)
   ·exact h.elim
  ·exact h.elim
def Cr:List (Nat×Nat×AObj)->Nat->List (Nat×Nat×AObj)
 | [],_=>[]
 |(y,a)::r,k=>if y=k then r else (y,a)::Cr r k
theorem Gp:∀ {l:List (Nat×Nat×AObj)} {k x:Nat} {o:AObj},Bt l k=some (x,o)->∃l1 l2,l=l1++(k,x,o)::l2/\Cr l k=l1++l2/\∀o',Gu l k o'=l1++(k,x,o')::l2
 | [],_,_,_,h=>by simp[Bt] at h
 |(y,a)::r,k,x,o,h=>by
  simp only[Bt] at h
  split at h
  ·rename_i e
   simp only[Option.some.injEq] at h
   subst e h
   exact⟨[],r,rfl,by simp[Cr],fun o'=>by simp[Gu]⟩
  ·rename_i e
   obtain ⟨l1,l2,e1,e2,e3⟩:=Gp h
   refine⟨(y,a)::l1,l2,by rw[e1];rfl,by simp only[Cr,if_neg e];rw[e2];rfl,fun o'=>?_⟩
   obtain ⟨a1,a2⟩:=a
   simp only[Gu,if_neg e];rw[e3];rfl
theorem Sat.rewrite{C : Ctx}{S F : St}{w w' : World}{t x : Nat}{o o' : AObj}(H : Sat C (S.add F) w)(h : Bt S.objs t=some (x, o))
  (hs:w'.heap.size=w.heap.size) (hh:∀k,k≠x->w'.heap[k]? =w.heap[k]?) (h1:w'.os=w.os) (h2:w'.tape=w.tape) (h3:w'.output=w.output)
  (ho:ObjAt C w' x o'):Sat C (St.add ⟨(t,x,o')::Cr S.objs t,S.toks⟩ F) w':=by
 obtain ⟨l1,l2,e1,e2,e3⟩:=Gp h
 refine (H.replace h hs hh h1 h2 h3 ho).add_perm ?_ (List.Perm.refl _)
 simp only[St.set,e3,e2]
 exact List.perm_middle
theorem Sat.renew{C : Ctx}{S F : St}{w : World}{t : Nat}(H : Sat C (S.add F) w)(O : Obj)(o' : AObj){x : Nat}{o : AObj}(h : Bt S.objs t=some (x, o))
  (ho:∀w':World,w'.heap[w.heap.size]? =some O->ObjAt C w' w.heap.size o'):Sat C (St.add ⟨(t,w.heap.size,o')::Cr S.objs t,S.toks⟩ F) (w.alloc O):=by
 obtain ⟨l1,l2,e1,e2,e3⟩:=Gp h
 refine (H.alloc_own O o' t ho).sub ⟨?_,?_,fun _ h=>h,H.tnodup⟩
 ·intro p hp
  simp only[St.add,List.cons_append,List.mem_cons,e2] at hp ⊢
  rcases hp with hp | hp
  ·exact .inl hp
  ·right
   rw[e1]
   simp only[List.mem_append,List.mem_cons] at hp ⊢
   rcases hp with (hp | hp) | hp
   ·exact .inl (.inl hp)
   ·exact .inl (.inr (.inr hp))
   ·exact .inr hp
 ·have:=(H.alloc_own O o' t ho).nodup
  simp only[St.add,List.cons_append,List.map_cons,List.nodup_cons,e2] at this ⊢
  refine⟨fun hm=>this.1 ?_,this.2.sublist ?_⟩
  ·rw[e1]
   simp only[List.map_append,List.map_cons,List.mem_append,List.mem_cons] at hm ⊢
   rcases hm with (hm | hm) | hm
   ·exact .inl (.inl hm)
   ·exact .inl (.inr (.inr hm))
   ·exact .inr hm
  ·rw[e1]
   exact (((List.sublist_cons_self _ _).append_left l1).append_right F.objs).map _
def BeK(m:Nat)(g:Nat->List D):List D:=(List.range m).map fun i=>(g i).getD 0 .unk
def Rn(wd bytes m:Nat)(g:Nat->List D)(k b len cap:Nat)(S:St)(K:D->St->Prop):Prop :=
 match Bt S.objs k with
 |some (x, .cells ds)=>chk (decide (wd=1)) (x=b /\ cap=ds.length /\ Be ((len+m)*bytes<=140737488355328 /\ len+m<=9223372036854775807)
   (∀y cap',len+m<=cap'->K (.ms k y 0 (len+m) cap' 1) ⟨(k,y,.cells (ds.take len++BeK m g++List.replicate (cap'-(len+m)) .unk))::Cr S.objs k,S.toks⟩))
 |_=>False
def Rj(wd bytes m:Nat)(g:Nat->List D)(k b len cap:Nat)(S:St)(K:D->St->Prop):Prop :=
 match Bt S.objs k with
 |some (x, .vec w n c f)=>chk (decide (w=wd)) (x=b /\ cap=c /\ Be (len<=n /\ (len+m)*bytes<=140737488355328 /\ len+m<=9223372036854775807)
   (∀y cap',len+m<=cap'->K (.vs k y (len+m) cap' wd) ⟨(k,y,.vec wd (len+m) cap' (BW len f g))::Cr S.objs k,S.toks⟩))
 |_=>False
def Mt(wd bytes:Nat)(y:D)(S:St)(K:D->St->Prop):Prop :=
 match Gk y with
 |none=>False
 |some (m, g)=>chk (Ur wd y) (Be (m*bytes<=140737488355328 /\ m<=9223372036854775807)
   (ifB (Nat.beq m 0) (K (.sl wd 0 (fun _=>[]) .nil) S) (∀y cap',freshIn y S.objs->m<=cap'->K (.vs (B2 S.objs) y m cap' wd) (S.new y (.vec wd m cap' g)))))
def MI(wd bytes:Nat)(x y:D)(S:St)(K:D->St->Prop):Prop :=
 match x with
 |.vs k b len cap w=>match Gk y with
  |none=>False
  |some (m,g)=>chk (Ur wd y&&decide (w=wd)) (Rj wd bytes m g k b len cap S K)
 |.ms k b 0 len cap w=>match Gk y with
  |none=>False
  |some (m,g)=>chk (Ur wd y&&decide (w=wd)) (Rn wd bytes m g k b len cap S K)
 |x=>W8 wd bytes x y S K
theorem RepL.unks{C:Ctx}:∀(vs:List Value),RepL C (List.replicate vs.length .unk) vs
 | []=>by simp[RepL]
 |v::vs=>by simp only[List.length_cons,List.replicate_succ,RepL];exact⟨v,vs,rfl,by simp[Rep],RepL.unks vs⟩
theorem Bdy:∀(m:Nat) (g:Nat->List D),(∀i,i<m->(g i).length=1)->((List.range m).map g).flatten=BeK m g:=by
 intro m g h
 have:(List.range m).map g=(List.range m).map fun i=>[(g i).getD 0 .unk]:=by
  refine List.map_congr_left fun i hi=>?_
  have:=h i (List.mem_range.1 hi)
  match hg:g i,this with
  | [d],_=>rfl
 rw[this,BeK]
 induction List.range m with
 |nil=>rfl
 |cons a l ih=>rw[List.map_cons,List.flatten_cons,ih];rfl
theorem R1{P : Program}{C : Ctx}{S F : St}{w : World}{tt : Nat -> Option TI}(hT : TabOk P tt)(hs : Sat C (S.add F) w){t u ty e : Nat}{ti ui ei : TI}(ht : tt t=some ti)(hd : ti.desc=.slice e)
  (hu:tt u=some ui) (hnoint:ui.desc=.string\/∃e',ui.desc=.slice e') (he:tt e=some ei) (h1:ei.size=1) {k b len cap:Nat} {ds:List D} (hg:Bt S.objs k=some (b,.cells ds)) (hle:len<=cap) (hc:cap=ds.length)
  {m:Nat} {cells:List D} {news:List Value} {y:Value} (hn:RepL C cells news) (hnl:news.length=m*ei.size) (hone:∀z∈news,z.oneCell'=true) (hlen:∀w,(Builtin.lenOf y).run P w=.ok m w)
  (hfc:∀S w,Sat C S w->(Builtin.firstCells ei.size m y).run P w=.ok news.toArray w) (hb:(len+m)*ei.bytes<=140737488355328) (h63:len+m<=9223372036854775807) (hcm:cap<=maxLen) :
  ∃x' cap' w',(Builtin.append_ #[t,u] ty #[.slice (some ⟨b,0,none⟩) len cap,y]).run P w=.ok (.slice (some ⟨x',0,none⟩) (len+m) cap') w'/\len+m<=cap'/\cap'<=maxLen /\
   Sat C (St.add ⟨(k,x',.cells (ds.take len++cells++List.replicate (cap'-(len+m)) .unk))::Cr S.objs k,S.toks⟩ F) w':=by
 have hut:=Bz (w:=w) hT ht
 rw[hd] at hut
 have huu:=Bz (w:=w) hT hu
 obtain ⟨_,inf,z,hinf,hsz,hby,hz,hzs,_⟩:=hT e ei he
 have hsize:∀w,(sizeOf e).run P w=.ok ei.size w:=fun w=>Bo hT he
 obtain ⟨c1,c2,arr,E,fz,p3,p4,p5⟩:=hs.obj_of hg
 have hal:arr.size=cap:=by have:=RepL.length p5;simp at this;omega
 have hnl':news.length=m:=by rw[hnl,h1];omega
 by_cases hroom:len+m<=cap
 ·obtain ⟨w',arr',r1,r2,r3,r4,r5,r6,r7,r8,r9,r10⟩:=Cv (P:=P) (o:=0+len*ei.size) (fz:=fz) news 0 arr w p3 p4 hone (by rw[h1];omega)
  refine⟨b,cap,w',?_,hroom,hcm,?_⟩
  ·have hf0:=hfc _ w hs
   simp only[Nat.zero_add] at r1
   rcases hnoint with hq | ⟨e',hq⟩<;>rw[hq] at huu<;>simp[Builtin.append_,hut,huu,hsize,hlen,hroom,hf0,Addr.add_mk,r1]
  ·refine hs.rewrite hg r6 r7 r8 r9 r10 ⟨arr',E,fz,r2,p4.imp id fun h=>by omega,?_⟩
   have e1:arr'.toList=(arr.toList.take len++news)++(arr'.toList.drop (len+m)):=by
    apply List.ext_getElem?
    intro i
    by_cases hi:i<len
    ·rw[List.append_assoc,List.getElem?_append_left (by simp;omega),List.getElem?_take_of_lt hi]
     simpa using r5 i (by rw[h1];omega)
    ·by_cases hi2:i<len+m
     ·rw[List.append_assoc,List.getElem?_append_right (by simp;omega),List.getElem?_append_left (by simp;omega)]
      have hj:i-(arr.toList.take len).length=i-len:=by simp;omega
      rw[hj]
      obtain ⟨v,hv⟩:∃v,news[i-len]? =some v:=⟨_,List.getElem?_eq_getElem (by omega)⟩
      rw[hv]
      have:=r4 (i-len) v hv
      rw[h1] at this
      have e:0+len*1+0+(i-len)=i:=by omega
      rw[e] at this
      simpa using this
     ·rw[List.getElem?_append_right (by simp;omega),List.getElem?_drop]
      congr 1
      simp;omega
   rw[e1]
   refine RepL.append (RepL.append (RepL.take len p5) hn) ?_
   have:=RepL.unks (C:=C) (arr'.toList.drop (len+m))
   simpa[r3,hal] using this
 ·have hg0:cap<len+m:=by omega
  have hfit:=growslice_fits hg0 hb
  have hfd:=hfc _ w.drew hs.drew
  have hod:(Builtin.firstCells ei.size len (.slice (some ⟨b,0,none⟩) len cap)).run P w.drew=.ok (arr.toList.take len).toArray w.drew:=by
   refine run_firstCells_some (P:=P) w.drew ei.size len ⟨b,0,none⟩ _ cap (arr.toList.take len) (by simp[h1];omega) fun j u hj=>?_
   rw[Addr.add_mk]
   have hj':j<len:=by have:=(List.getElem?_eq_some_iff.1 hj).1;simp at this;omega
   rw[List.getElem?_take_of_lt hj'] at hj
   have:w.drew.cell? ⟨b,0+j,none⟩=arr[0+j]? :=cell_of_heap (w:=w.drew) p3
   rw[this];simpa using hj
  have hzero:∀w,(zeroValue e).run P w=.ok z w:=fun w=>by simp[zeroValue,typeInfo,hinf,hz]
  have hcap':=grownCap_ge w (len+m) cap e
  let arr2:Array Value:=(arr.toList.take len).toArray++news.toArray++Builtin.zeroCells z.cells (grownCap w (len+m) cap e-(len+m))
  refine⟨w.heap.size,grownCap w (len+m) cap e,w.drew.alloc (.cells arr2 e),?_,hcap',grownCap_le_maxLen w _ _ e (by simpa[maxLen] using h63),?_⟩
  ·have h63':¬(9223372036854775807<((len:Int)+(m:Int))):=by omega
   have hfit':¬(281474976710656<Builtin.nextslicecap (len+m) cap*ei.bytes):=by omega
   rcases hnoint with hq | ⟨e',hq⟩<;>rw[hq] at huu<;>simp[Builtin.append_,hut,huu,hsize,hlen,hroom,typeInfo,hinf,hby,h63',hfit',Question.forced,hfd,hod,hzero,newRow,grownCap,arr2]
  ·have hsat:=Sat.renew (w:=w.drew) hs.drew (.cells arr2 e) (.cells (ds.take len++cells++List.replicate (grownCap w (len+m) cap e-(len+m)) .unk)) hg fun w' hw'=>⟨arr2,e,(0,0),hw',.inl rfl,?_⟩
   ·exact hsat
   ·have e2:arr2.toList=(arr.toList.take len++news)++(Builtin.zeroCells z.cells (grownCap w (len+m) cap e-(len+m))).toList:=by simp[arr2]
    rw[e2]
    refine RepL.append (RepL.append (RepL.take len p5) hn) ?_
    have:=RepL.unks (C:=C) (Builtin.zeroCells z.cells (grownCap w (len+m) cap e-(len+m))).toList
    have e3:(Builtin.zeroCells z.cells (grownCap w (len+m) cap e-(len+m))).toList.length=grownCap w (len+m) cap e-(len+m):=by
     simp[size_zeroCells,hzs,h1]
    rw[e3] at this
    exact this
theorem BkN{n m:Nat}{f g:Nat->List D}:(List.range (n+m)).map (BW n f g)=(List.range n).map f++(List.range m).map g:=Bdl n m f g
theorem BlB{n m wd:Nat}{f g:Nat->List D}(h1:∀i,i<n->(f i).length=wd)(h2:∀i,i<m->(g i).length=wd):∀i,i<n+m->(BW n f g i).length=wd:=by
 intro i hi
 simp only[BW]
 split
 ·exact h1 i ‹_›
 ·exact h2 _ (by omega)
theorem RepL.unks'{C:Ctx}{n:Nat}{vs:List Value}(h:vs.length=n):RepL C (List.replicate n .unk) vs:=h ▸ RepL.unks vs
theorem RP{P : Program}{C : Ctx}{S F : St}{w : World}{tt : Nat -> Option TI}(hT : TabOk P tt)(hs : Sat C (S.add F) w){t u ty e : Nat}{ti ui ei : TI}(ht : tt t=some ti)(hd : ti.desc=.slice e)
  (hu:tt u=some ui) (hnoint:ui.desc=.string\/∃e',ui.desc=.slice e') (he:tt e=some ei) {k b len cap n:Nat} {f:Nat->List D} (hg:Bt S.objs k=some (b,.vec ei.size n cap f)) (hln:len<=n)
  {m:Nat} {g:Nat->List D} {news:List Value} {y:Value} (hn:RepL C ((List.range m).map g).flatten news) (hgl:∀i,i<m->(g i).length=ei.size) (hnl:news.length=m*ei.size) (hone:∀z∈news,z.oneCell'=true) (hlen:∀w,(Builtin.lenOf y).run P w=.ok m w)
  (hfc:∀S w,Sat C S w->(Builtin.firstCells ei.size m y).run P w=.ok news.toArray w) (hb:(len+m)*ei.bytes<=140737488355328) (h63:len+m<=9223372036854775807) (hcm:cap<=maxLen) :
  ∃x' cap' w',(Builtin.append_ #[t,u] ty #[.slice (some ⟨b,0,none⟩) len cap,y]).run P w=.ok (.slice (some ⟨x',0,none⟩) (len+m) cap') w'/\len+m<=cap'/\cap'<=maxLen /\
   Sat C (St.add ⟨(k,x',.vec ei.size (len+m) cap' (BW len f g))::Cr S.objs k,S.toks⟩ F) w':=by
 have hut:=Bz (w:=w) hT ht
 rw[hd] at hut
 have huu:=Bz (w:=w) hT hu
 obtain ⟨_,inf,z,hinf,hsz,hby,hz,hzs,_⟩:=hT e ei he
 have hsize:∀w,(sizeOf e).run P w=.ok ei.size w:=fun w=>Bo hT he
 obtain ⟨c1,c2,hc,hw,arr,E,fz,p3,p4,p5⟩:=hs.obj_of hg
 have hle:len<=cap:=by omega
 have hvl:=CM hw hc
 have hal:arr.size=cap*ei.size:=by have:=RepL.length p5;rw[hvl] at this;simpa using this
 have hwl:∀i,i<len->(f i).length=ei.size:=fun i hi=>hw i (by omega)
 have hwa:=BlB hwl hgl
 have hold:RepL C ((List.range len).map f).flatten (arr.toList.take (len*ei.size)):=by
  have:=RepL.take (len*ei.size) p5
  rwa [BdF hw hln] at this
 have hvec:∀(c:Nat) (rest:List Value),rest.length=(c-(len+m))*ei.size->RepL C (Cj ei.size (len+m) c (BW len f g)) (arr.toList.take (len*ei.size)++news++rest):=by
  intro c rest hr
  rw[Cj,BkN,List.flatten_append]
  exact RepL.append (RepL.append hold hn) (RepL.unks' hr)
 have htl:(arr.toList.take (len*ei.size)).length=len*ei.size:=by
  rw[List.length_take,Array.length_toList,hal]
  exact Nat.min_eq_left (Nat.mul_le_mul_right _ hle)
 by_cases hroom:len+m<=cap
 ·have hfit:0+len*ei.size+news.length<=arr.size:=by
   rw[hal,hnl,Nat.zero_add,<- Nat.add_mul];exact Nat.mul_le_mul_right _ hroom
  obtain ⟨w',arr',r1,r2,r3,r4,r5,r6,r7,r8,r9,r10⟩:=Cv (P:=P) (o:=0+len*ei.size) (fz:=fz) news 0 arr w p3 p4 hone (by omega)
  refine⟨b,cap,w',?_,hroom,hcm,?_⟩
  ·have hf0:=hfc _ w hs
   simp only[Nat.zero_add] at r1
   rcases hnoint with hq | ⟨e',hq⟩<;>rw[hq] at huu<;>simp[Builtin.append_,hut,huu,hsize,hlen,hroom,hf0,Addr.add_mk,r1]
  ·refine hs.rewrite hg r6 r7 r8 r9 r10 ⟨hroom,hwa,arr',E,fz,r2,p4.imp id fun h=>by omega,?_⟩
   have e1:arr'.toList=(arr.toList.take (len*ei.size)++news)++(arr'.toList.drop ((len+m)*ei.size)):=by
    have hnm:(arr.toList.take (len*ei.size)++news).length=(len+m)*ei.size:=by rw[List.length_append,htl,hnl,Nat.add_mul]
    apply List.ext_getElem?
    intro i
    by_cases hi:i<len*ei.size
    ·rw[List.append_assoc,List.getElem?_append_left (by omega),List.getElem?_take_of_lt hi]
     simpa using r5 i (by omega)
    ·by_cases hi2:i<(len+m)*ei.size
     ·rw[List.append_assoc,List.getElem?_append_right (by omega),List.getElem?_append_left (by rw[htl,hnl];rw[Nat.add_mul] at hi2;omega)]
      rw[htl]
      obtain ⟨v,hv⟩:∃v,news[i-len*ei.size]? =some v:=⟨_,List.getElem?_eq_getElem (by rw[hnl];rw[Nat.add_mul] at hi2;omega)⟩
      rw[hv]
      have:=r4 (i-len*ei.size) v hv
      have e:0+len*ei.size+0+(i-len*ei.size)=i:=by omega
      rw[e] at this
      simpa using this
     ·rw[List.getElem?_append_right (by omega),List.getElem?_drop]
      congr 1
      omega
   rw[e1]
   exact hvec cap _ (by rw[List.length_drop,Array.length_toList,r3,hal,<- Nat.sub_mul])
 ·have hg0:cap<len+m:=by omega
  have hfit:=growslice_fits hg0 hb
  have hfd:=hfc _ w.drew hs.drew
  have hod:(Builtin.firstCells ei.size len (.slice (some ⟨b,0,none⟩) len cap)).run P w.drew=.ok (arr.toList.take (len*ei.size)).toArray w.drew:=by
   refine run_firstCells_some (P:=P) w.drew ei.size len ⟨b,0,none⟩ _ cap (arr.toList.take (len*ei.size)) htl fun j u hj=>?_
   rw[Addr.add_mk]
   have hj':j<len*ei.size:=by have:=(List.getElem?_eq_some_iff.1 hj).1;omega
   rw[List.getElem?_take_of_lt hj'] at hj
   have:w.drew.cell? ⟨b,0+j,none⟩=arr[0+j]? :=cell_of_heap (w:=w.drew) p3
   rw[this];simpa using hj
  have hzero:∀w,(zeroValue e).run P w=.ok z w:=fun w=>by simp[zeroValue,typeInfo,hinf,hz]
  have hcap':=grownCap_ge w (len+m) cap e
  let arr2:Array Value:=(arr.toList.take (len*ei.size)).toArray++news.toArray++Builtin.zeroCells z.cells (grownCap w (len+m) cap e-(len+m))
  refine⟨w.heap.size,grownCap w (len+m) cap e,w.drew.alloc (.cells arr2 e),?_,hcap',grownCap_le_maxLen w _ _ e (by simpa[maxLen] using h63),?_⟩
  ·have h63':¬(9223372036854775807<((len:Int)+(m:Int))):=by omega
   have hfit':¬(281474976710656<Builtin.nextslicecap (len+m) cap*ei.bytes):=by omega
   rcases hnoint with hq | ⟨e',hq⟩<;>rw[hq] at huu<;>simp[Builtin.append_,hut,huu,hsize,hlen,hroom,typeInfo,hinf,hby,h63',hfit',Question.forced,hfd,hod,hzero,newRow,grownCap,arr2]
  ·refine Sat.renew (w:=w.drew) hs.drew (.cells arr2 e) (.vec ei.size (len+m) (grownCap w (len+m) cap e) (BW len f g)) hg fun w' hw'=>⟨hcap',hwa,arr2,e,(0,0),hw',.inl rfl,?_⟩
   have e2:arr2.toList=(arr.toList.take (len*ei.size)++news)++(Builtin.zeroCells z.cells (grownCap w (len+m) cap e-(len+m))).toList:=by simp[arr2]
   rw[e2]
   exact hvec _ _ (by simp[size_zeroCells,hzs])
theorem WP{P : Program}{C : Ctx}{S F : St}{w : World}{tt : Nat -> Option TI}{K X : D -> St -> Prop}(hT : TabOk P tt)(hs : Sat C (S.add F) w){t u ty e : Nat}{ti ui ei : TI}(ht : tt t=some ti)(hd : ti.desc=.slice e)
  (hu:tt u=some ui) (hnoint:ui.desc=.string\/∃e',ui.desc=.slice e') (he:tt e=some ei) {wd0 n0:Nat} {f0:Nat->List D} {y:D} {v z:Value} (hv:Rep C (.sl wd0 n0 f0 .nil) v) (hy:Rep C y z)
  (h:Mt ei.size ei.bytes y S K):Good P C F K X ((do pure (Next.value (<- Builtin.append_ #[t,u] ty #[v,z])):Sem Next).run P w):=by
 unfold Mt at h
 split at h
 ·exact h.elim
 ·rename_i m g hn
  obtain ⟨hw,h⟩:=Ba.1 h
  obtain ⟨⟨h3,h4⟩,h5⟩:=Bc.1 h
  obtain ⟨h50,h5⟩:=C7 h5
  simp only[Rep] at hv
  obtain ⟨a,ln,cp,rfl,hh,_⟩:=hv
  obtain ⟨rfl,rfl,rfl⟩:=hh.nil_a
  have hut:=Bz (w:=w) hT ht
  rw[hd] at hut
  have huu:=Bz (w:=w) hT hu
  obtain ⟨_,inf,zv,hinf,hsz,hby,hz,hzs,_⟩:=hT e ei he
  have hsize:∀w,(sizeOf e).run P w=.ok ei.size w:=fun w=>Bo hT he
  have hgl:∀i,i<m->(g i).length=ei.size:=by
   intro i hi
   unfold Gk at hn
   split at hn
   ·rename_i w' n' f' m'
    simp only[Option.some.injEq,Prod.mk.injEq] at hn
    obtain ⟨rfl,rfl⟩:=hn
    have e:w'=ei.size:=of_decide_eq_true hw
    subst e
    simp only[Rep] at hy
    obtain ⟨a,len,cap,rfl,hh,hr⟩:=hy
    cases a with
    |none=>have:=(hh.2.2.2.1 rfl).1;omega
    |some a=>exact (hr a rfl i hi).1
   ·rename_i s
    simp only[Option.some.injEq,Prod.mk.injEq] at hn
    obtain ⟨rfl,rfl⟩:=hn
    have e:ei.size=1:=of_decide_eq_true hw
    simp[e]
   ·cases hn
  have hS1:(∃s,y=.str s)->ei.size=1:=by
   rintro ⟨s,rfl⟩
   exact of_decide_eq_true hw
  obtain ⟨news,q1,q2,q3,q4,q5⟩:=GZ (P:=P) hy hn hgl hS1
  have hone:=q3 _ w hs
  by_cases hz0:m=0
  ·subst hz0
   have hn0:news=[]:=List.eq_nil_of_length_eq_zero (by simpa using q2)
   subst hn0
   have hf0:=q5 _ w hs
   refine .of_val (v:=.slice none 0 0) hs ?_ ?_ (h50 rfl)
   ·rcases hnoint with hq | ⟨e',hq⟩<;>rw[hq] at huu<;>simp[Builtin.append_,hut,huu,hsize,q4,hf0]
   ·simp only[Rep]
    exact⟨none,0,0,rfl,⟨rfl,Nat.le_refl _,by simp[maxLen],fun _=>⟨rfl,rfl⟩,fun _ h=>(by cases h),rfl⟩,fun _ h=>(by cases h)⟩
  have h5:=h5 (by
   cases hb:Nat.beq m 0 with
   |false=>rfl
   |true=>exact (hz0 (Nat.eq_of_beq_eq_true hb)).elim)
  have h1:1<=m:=by omega
  have hg0:0<0+m:=by omega
  have hfit:=growslice_fits (bytes:=ei.bytes) hg0 (by simpa using h3)
  have hfd:=q5 _ w.drew hs.drew
  have hod:(Builtin.firstCells ei.size 0 (.slice none 0 0)).run P w.drew=.ok #[] w.drew:=by simp[Builtin.firstCells]
  have hzero:∀w,(zeroValue e).run P w=.ok zv w:=fun w=>by simp[zeroValue,typeInfo,hinf,hz]
  have hcap':=grownCap_ge w (0+m) 0 e
  let arr2:Array Value:=#[]++news.toArray++Builtin.zeroCells zv.cells (grownCap w (0+m) 0 e-(0+m))
  have hroom:¬(0+m<=0):=by omega
  have hm0:¬m=0:=by omega
  refine .of_val' (v:=.slice (some ⟨w.heap.size,0,none⟩) (0+m) (grownCap w (0+m) 0 e)) (w':=w.drew.alloc (.cells arr2 e)) (S':=S.new w.heap.size (.vec ei.size m (grownCap w (0+m) 0 e) g)) ?_ (.refl C) ?_ ?_ (h5 _ _ hs.freshIn (by omega))
  ·have h63':¬(9223372036854775807<(m:Int)):=by omega
   have hfit':¬(281474976710656<Builtin.nextslicecap (0+m) 0*ei.bytes):=by omega
   simp only[Nat.zero_add] at *
   rcases hnoint with hq | ⟨e',hq⟩<;>rw[hq] at huu<;>simp[Builtin.append_,hut,huu,hsize,q4,hm0,typeInfo,hinf,hby,h63',hfit',Question.forced,hfd,hod,hzero,newRow,grownCap,arr2]
  ·refine Sat.alloc_own (w:=w.drew) hs.drew (.cells arr2 e) _ _ fun w' hw'=>⟨by omega,hgl,arr2,e,(0,0),hw',.inl rfl,?_⟩
   have e2:arr2.toList=news++(Builtin.zeroCells zv.cells (grownCap w (0+m) 0 e-(0+m))).toList:=by simp[arr2]
   rw[e2,Cj]
   exact RepL.append q1 (RepL.unks' (by simp[size_zeroCells,hzs]))
  ·simp only[Rep]
   exact⟨by simp,by omega,grownCap_le_maxLen w _ _ e (by simp only[maxLen];omega)⟩
theorem O1{P : Program}{C : Ctx}{S F : St}{w : World}{tt : Nat -> Option TI}{K X : D -> St -> Prop}(hT : TabOk P tt)(hs : Sat C (S.add F) w){t u ty e : Nat}{ti ui ei : TI}(ht : tt t=some ti)(hd : ti.desc=.slice e)
  (hu:tt u=some ui) (hnoint:ui.desc=.string\/∃e',ui.desc=.slice e') (he:tt e=some ei) {x y:D} {v z:Value} (hv:Rep C x v) (hy:Rep C y z)
  (h:MI ei.size ei.bytes x y S K):Good P C F K X ((do pure (Next.value (<- Builtin.append_ #[t,u] ty #[v,z])):Sem Next).run P w):=by
 unfold MI at h
 split at h
 ·rename_i k b len cap wd
  split at h
  ·exact h.elim
  ·rename_i m g hn
   obtain ⟨hw,h⟩:=Ba.1 h
   simp only[Bool.and_eq_true,decide_eq_true_eq] at hw
   obtain ⟨hw,hwd⟩:=hw
   unfold Rj at h
   split at h
   ·rename_i x w' n c f hg
    obtain ⟨h1,hx,hcc,hsd⟩:=Ba.1 h
    obtain ⟨⟨h2,h3,h4⟩,h5⟩:=Bc.1 hsd
    have h1:w'=ei.size:=of_decide_eq_true h1
    rw[h1] at hg
    subst hx hcc
    simp only[Rep] at hv
    obtain ⟨rfl,hle,hcm⟩:=hv
    have hgl:∀i,i<m->(g i).length=ei.size:=by
     intro i hi
     unfold Gk at hn
     split at hn
     ·rename_i w' n' f' m'
      simp only[Option.some.injEq,Prod.mk.injEq] at hn
      obtain ⟨rfl,rfl⟩:=hn
      have e:w'=ei.size:=of_decide_eq_true hw
      subst e
      simp only[Rep] at hy
      obtain ⟨a,len,cap,rfl,hh,hr⟩:=hy
      cases a with
      |none=>have:=(hh.2.2.2.1 rfl).1;omega
      |some a=>exact (hr a rfl i hi).1
     ·rename_i s
      simp only[Option.some.injEq,Prod.mk.injEq] at hn
      obtain ⟨rfl,rfl⟩:=hn
      have e:ei.size=1:=of_decide_eq_true hw
      simp[e]
     ·cases hn
    have hS1:(∃s,y=.str s)->ei.size=1:=by
     rintro ⟨s,rfl⟩
     exact of_decide_eq_true hw
    obtain ⟨vs,q1,q2,q3,q4,q5⟩:=GZ (P:=P) hy hn hgl hS1
    obtain ⟨x',cap',w',r1,r2,r3,r4⟩:=RP hT hs (ty:=ty) ht hd hu hnoint he hg h2 q1 hgl q2 (q3 _ w hs) q4 q5 h3 h4 hcm
    exact .of_val' r1 (.refl C) r4 (by simp only[Rep];exact⟨trivial,r2,r3⟩) (h5 x' cap' r2)
   ·exact h.elim
 ·rename_i k b len cap wd
  split at h
  ·exact h.elim
  ·rename_i m g hn
   obtain ⟨hw,h⟩:=Ba.1 h
   simp only[Bool.and_eq_true,decide_eq_true_eq] at hw
   obtain ⟨hw,hwd⟩:=hw
   unfold Rn at h
   split at h
   ·rename_i x ds hg
    obtain ⟨h1,rfl,hc,h⟩:=Ba.1 h
    have h1:ei.size=1:=of_decide_eq_true h1
    obtain ⟨⟨h3,h4⟩,h5⟩:=Bc.1 h
    simp only[Rep] at hv
    obtain ⟨rfl,hle,hcm⟩:=hv
    have hgl:∀i,i<m->(g i).length=ei.size:=by
     intro i hi
     unfold Gk at hn
     split at hn
     ·rename_i w' n' f' m'
      simp only[Option.some.injEq,Prod.mk.injEq] at hn
      obtain ⟨rfl,rfl⟩:=hn
      have e:w'=ei.size:=of_decide_eq_true hw
      subst e
      simp only[Rep] at hy
      obtain ⟨a,len,cap,rfl,hh,hr⟩:=hy
      cases a with
      |none=>have:=(hh.2.2.2.1 rfl).1;omega
      |some a=>exact (hr a rfl i hi).1
     ·rename_i s
      simp only[Option.some.injEq,Prod.mk.injEq] at hn
      obtain ⟨rfl,rfl⟩:=hn
      simp[h1]
     ·cases hn
    obtain ⟨vs,q1,q2,q3,q4,q5⟩:=GZ (P:=P) hy hn hgl (fun _=>h1)
    rw[Bdy m g (fun i hi=>(hgl i hi).trans h1)] at q1
    obtain ⟨x',cap',w',r1,r2,r3,r4⟩:=R1 hT hs (ty:=ty) ht hd hu hnoint he h1 hg hle hc q1 q2 (q3 _ w hs) q4 q5 h3 h4 hcm
    exact .of_val' r1 (.refl C) r4 (by simp only[Rep];exact⟨trivial,r2,r3⟩) (h5 x' cap' r2)
   ·exact h.elim
 ·exact BdH hT hs ht hd hu hnoint he hv hy h
open Go
def Mn(wd bytes:Nat)(y:D)(S:St)(K:D->St->Prop):Prop :=
 match Gk y with
 |none=>False
 |some (m, g)=>chk (Ur wd y) (Be (0<m /\ m*bytes<=140737488355328 /\ m<=9223372036854775807)
   (∀y cap',freshIn y S.objs->m<=cap'->K (.vs (B2 S.objs) y m cap' wd) (S.new y (.vec wd m cap' g))))
theorem BcB{C:Ctx}{wd m:Nat}{g:Nat->List D}{y:D}{z:Value}(hw:Ur wd y=true)(hy:Rep C y z)(hn:Gk y=some (m,g)):∀i,i<m->(g i).length=wd:=by
 intro i hi
 unfold Gk at hn
 split at hn
 ·rename_i w' n' f' m'
  simp only[Option.some.injEq,Prod.mk.injEq] at hn
  obtain ⟨rfl,rfl⟩:=hn
  have e:w'=wd:=of_decide_eq_true hw
  subst e
  simp only[Rep] at hy
  obtain ⟨a,len,cap,rfl,hh,hr⟩:=hy
  cases a with
  |none=>have:=(hh.2.2.2.1 rfl).1;omega
  |some a=>exact (hr a rfl i hi).1
 ·rename_i s
  simp only[Option.some.injEq,Prod.mk.injEq] at hn
  obtain ⟨rfl,rfl⟩:=hn
  have e:wd=1:=of_decide_eq_true hw
  simp[e]
 ·cases hn
theorem Rr{P : Program}{C : Ctx}{S F : St}{w : World}{tt : Nat -> Option TI}{K X : D -> St -> Prop}(hT : TabOk P tt)(hs : Sat C (S.add F) w){t u ty e : Nat}{ti ui ei : TI}(ht : tt t=some ti)(hd : ti.desc=.slice e)
  (hu:tt u=some ui) (hnoint:ui.desc=.string\/∃e',ui.desc=.slice e') (he:tt e=some ei) {wd0:Nat} {f0:Nat->List D} {y:D} {v z:Value} (hv:Rep C (.sl wd0 0 f0 .full) v) (hy:Rep C y z)
  (h:Mn ei.size ei.bytes y S K):Good P C F K X ((do pure (Next.value (<- Builtin.append_ #[t,u] ty #[v,z])):Sem Next).run P w):=by
 unfold Mn at h
 split at h
 ·exact h.elim
 ·rename_i m g hn
  obtain ⟨hw,h⟩:=Ba.1 h
  obtain ⟨⟨hm,h3,h4⟩,h5⟩:=Bc.1 h
  simp only[Rep] at hv
  obtain ⟨a,ln,cp,rfl,hh,_⟩:=hv
  obtain ⟨hl,_,_,_,_,hc,a,rfl,_⟩:=hh
  subst hl hc
  have hut:=Bz (w:=w) hT ht
  rw[hd] at hut
  have huu:=Bz (w:=w) hT hu
  obtain ⟨_,inf,zv,hinf,hsz,hby,hz,hzs,_⟩:=hT e ei he
  have hsize:∀w,(sizeOf e).run P w=.ok ei.size w:=fun w=>Bo hT he
  have hgl:=BcB hw hy hn
  have hS1:(∃s,y=.str s)->ei.size=1:=by
   rintro ⟨s,rfl⟩
   exact of_decide_eq_true hw
  obtain ⟨news,q1,q2,q3,q4,q5⟩:=GZ (P:=P) hy hn hgl hS1
  have hg0:0<0+m:=by omega
  have hfit:=growslice_fits (bytes:=ei.bytes) hg0 (by simpa using h3)
  have hfd:=q5 _ w.drew hs.drew
  have hod:(Builtin.firstCells ei.size 0 (.slice (some a) 0 0)).run P w.drew=.ok #[] w.drew :=
   run_firstCells_some (P:=P) w.drew ei.size 0 a _ 0 [] (by simp) fun j u hj=>by simp at hj
  have hzero:∀w,(zeroValue e).run P w=.ok zv w:=fun w=>by simp[zeroValue,typeInfo,hinf,hz]
  have hcap':=grownCap_ge w (0+m) 0 e
  let arr2:Array Value:=#[]++news.toArray++Builtin.zeroCells zv.cells (grownCap w (0+m) 0 e-(0+m))
  have hroom:¬(0+m<=0):=by omega
  have hm0:¬m=0:=by omega
  refine .of_val' (v:=.slice (some ⟨w.heap.size,0,none⟩) (0+m) (grownCap w (0+m) 0 e)) (w':=w.drew.alloc (.cells arr2 e)) (S':=S.new w.heap.size (.vec ei.size m (grownCap w (0+m) 0 e) g)) ?_ (.refl C) ?_ ?_ (h5 _ _ hs.freshIn (by omega))
  ·have h63':¬(9223372036854775807<(m:Int)):=by omega
   have hfit':¬(281474976710656<Builtin.nextslicecap (0+m) 0*ei.bytes):=by omega
   simp only[Nat.zero_add] at *
   rcases hnoint with hq | ⟨e',hq⟩<;>rw[hq] at huu<;>simp[Builtin.append_,hut,huu,hsize,q4,hm0,typeInfo,hinf,hby,h63',hfit',Question.forced,hfd,hod,hzero,newRow,grownCap,arr2]
  ·refine Sat.alloc_own (w:=w.drew) hs.drew (.cells arr2 e) _ _ fun w' hw'=>⟨by omega,hgl,arr2,e,(0,0),hw',.inl rfl,?_⟩
   have e2:arr2.toList=news++(Builtin.zeroCells zv.cells (grownCap w (0+m) 0 e-(0+m))).toList:=by simp[arr2]
   rw[e2,Cj]
   exact RepL.append q1 (RepL.unks' (by simp[size_zeroCells,hzs]))
  ·simp only[Rep]
   exact⟨by simp,by omega,grownCap_le_maxLen w _ _ e (by simp only[maxLen];omega)⟩
def BnH(m:Nat)(f g:Nat->List D):Nat->List D:=fun i=>if i<m then g i else f i
def OY(f:Nat->List D)(m c:Nat):Nat->List D:=fun i=>if i<m then f i else if i<m+c then f (i-m) else f i
def Bmi:D->Bool
 |.sl _ _ _ .full=>true
 |_=>false
def WQ(k k2 b b2 o len m:Nat)(S:St)(K:D->St->Prop):Prop :=
 match Bt S.objs k with
 |some (x',.vec 1 n c f)=>chk (Nat.beq k k2) (x'=b/\b2=b/\o=m/\o+len=n/\(∀i,i<m->Gi ((f i).getD 0 .unk)=true)/\K (.int .i64 (min len m:Nat)) (S.set k (.vec 1 n c (OY f m (min len m)))))
 |_=>False
def Bfr(wd:Nat)(x y:D)(S:St)(K:D->St->Prop):Prop :=
 match x with
 |.vs k b len _ w=>match Gk y with
  |none=>False
  |some (m,g)=>chk (Ur wd y&&decide (w=wd)) (match Bt S.objs k with
   |some (x',.vec w' n c f)=>chk (decide (w'=wd)) (match Bmi y with
    |true=>x'=b/\m<=len/\len=n/\K (.int .i64 m) (S.set k (.vec wd n c (BnH m f g)))
    |false=>x'=b/\m=len/\len=n/\K (.int .i64 m) (S.set k (.vec wd n c g)))
   |_=>False)
 |.ms k b o len _ w=>match y with
  |.vs k2 b2 m _ w2=>chk (decide (wd=1)&&decide (w=1)&&decide (w2=1)) (WQ k k2 b b2 o len m S K)
  |_=>False
 |_=>False
theorem Bjs{n:Nat}{f:Nat->List D}{i:Nat}:(BeK n f)[i]? =if i<n then some ((f i).getD 0 .unk) else none:=by
 unfold BeK
 split
 ·rename_i h;simp[h]
 ·rename_i h;simp;omega
theorem OK{n c:Nat}{f:Nat->List D}(h:∀i,i<n->(f i).length=1){i:Nat}:(Cj 1 n c f)[i]? =if i<n then some ((f i).getD 0 .unk) else if i<n+(c-n) then some .unk else none:=by
 rw[Cj,Bdy n f h]
 have hl:(BeK n f).length=n:=by simp[BeK]
 by_cases hi:i<n
 ·rw[List.getElem?_append_left (by omega),Bjs,if_pos hi,if_pos hi]
 ·rw[List.getElem?_append_right (by omega),if_neg hi,hl,Nat.mul_one,List.getElem?_replicate]
  by_cases h2:i<n+(c-n)
  ·rw[if_pos h2,if_pos (by omega)]
  ·rw[if_neg h2,if_neg (by omega)]
theorem BiU{n c m cnt : Nat}{f : Nat -> List D}(hw : ∀i, i<n -> (f i).length=1)(h1 : m+cnt<=n)(_h2 : cnt<=m)(hc : n<=c) :
  BP (Cj 1 n c f) m ((Cj 1 n c f).take cnt)=Cj 1 n c (OY f m cnt):=by
 have hl:=CM hw hc
 have hw':∀i,i<n->(OY f m cnt i).length=1:=by
  intro i hi
  unfold OY
  split
  ·exact hw i hi
  ·split
   ·exact hw _ (by omega)
   ·exact hw i hi
 have ht:((Cj 1 n c f).take cnt).length=cnt:=by rw[List.length_take,hl];omega
 rw[CK _ _ _ (by rw[ht,hl];omega),ht]
 apply List.ext_getElem?
 intro i
 rw[OK hw']
 have hm:((Cj 1 n c f).take m).length=m:=by rw[List.length_take,hl];omega
 by_cases a1:i<m
 ·rw[List.append_assoc,List.getElem?_append_left (by omega),List.getElem?_take_of_lt a1,OK hw,if_pos (by omega),if_pos (by omega)]
  simp[OY,a1]
 ·by_cases a2:i<m+cnt
  ·rw[List.getElem?_append_left (by rw[List.length_append,hm,ht];omega),List.getElem?_append_right (by omega),hm,List.getElem?_take_of_lt (by omega),OK hw,if_pos (by omega),if_pos (by omega)]
   simp[OY,a1,a2]
  ·rw[List.getElem?_append_right (by rw[List.length_append,hm,ht];omega),List.length_append,hm,ht,List.getElem?_drop,show m+cnt+(i-(m+cnt))=i by omega,OK hw]
   simp[OY,a1,a2]
theorem BaK{w n cap m:Nat}{f:Nat->List D}(hm:m<=n):Cj w n cap f=((List.range m).map f).flatten++((((List.range n).drop m).map f).flatten++List.replicate ((cap-n)*w) .unk):=by
 have e:List.range n=List.range m++(List.range n).drop m:=by
  conv=>lhs;rw[<- List.take_append_drop m (List.range n)]
  rw[List.take_range,Nat.min_eq_left hm]
 rw[Cj]
 conv=>lhs;rw[e]
 rw[List.map_append,List.flatten_append,List.append_assoc]
theorem BmY{w n cap m : Nat}{f g f' : Nat -> List D}(hw : ∀i, i<n -> (f i).length=w)(hg : ∀i, i<m -> (g i).length=w)(hm : m<=n)(hc : n<=cap)(h1 : ∀i, i<m -> f' i=g i)(h2 : ∀i, m<=i -> i<n -> f' i=f i) :
  BP (Cj w n cap f) 0 ((List.range m).map g).flatten=Cj w n cap f':=by
 have l1:((List.range m).map g).flatten.length=m*w:=Em (cap:=0) (n:=m) hg (Nat.le_refl _)
 have l2:((List.range m).map f).flatten.length=m*w:=Em (cap:=0) hw hm
 have hl:=CM hw hc
 have hmc:m*w<=cap*w:=Nat.mul_le_mul_right _ (Nat.le_trans hm hc)
 rw[CK _ _ _ (by rw[l1,hl];omega),l1,List.take_zero,List.nil_append,Nat.zero_add]
 rw[BaK hm,BaK (f:=f') hm]
 have e1:(List.range m).map f'=(List.range m).map g:=List.map_congr_left fun i hi=>h1 i (List.mem_range.1 hi)
 have e2:((List.range n).drop m).map f'=((List.range n).drop m).map f:=by
  apply List.map_congr_left
  intro i hi
  obtain ⟨j,hj,e⟩:=List.getElem_of_mem hi
  rw[List.getElem_drop,List.getElem_range] at e
  rw[List.length_drop,List.length_range] at hj
  exact h2 i (by omega) (by omega)
 rw[e1,e2,List.drop_append_of_le_length (by omega),List.drop_of_length_le (by omega),List.nil_append]
theorem Bin{P : Program}{C : Ctx}{S F : St}{w : World}{tt : Nat -> Option TI}{K X : D -> St -> Prop}(hT : TabOk P tt)(hs : Sat C (S.add F) w){t u ty e : Nat}{ti ei : TI}(ht : tt t=some ti)(hd : ti.desc=.slice e)
  (he:tt e=some ei) {x y:D} {v z:Value} (hv:Rep C x v) (hy:Rep C y z)
  (h:Bfr ei.size x y S K):Good P C F K X ((do pure (Next.value (<- Builtin.copy_ #[t,u] ty #[v,z])):Sem Next).run P w):=by
 have hut:=Bz (w:=w) hT ht
 rw[hd] at hut
 have hsize:∀w,(sizeOf e).run P w=.ok ei.size w:=fun w=>Bo hT he
 unfold Bfr at h
 split at h
 ·rename_i k b len cap wd
  split at h
  ·exact h.elim
  ·rename_i m g hn
   obtain ⟨hw,h⟩:=Ba.1 h
   simp only[Bool.and_eq_true,decide_eq_true_eq] at hw
   obtain ⟨hw,hwd⟩:=hw
   split at h
   ·rename_i x' w' n c f hg
    obtain ⟨h1,hx⟩:=Ba.1 h
    have h1:w'=ei.size:=of_decide_eq_true h1
    subst h1
    obtain ⟨rfl,hmle,rfl,f',hf',hf2,h5⟩:x'=b/\m<=len/\len=n/\∃f',(∀i,i<m->f' i=g i)/\(∀i,m<=i->i<n->f' i=f i)/\K (.int .i64 m) (S.set k (.vec ei.size n c f')):=by
     split at hx
     ·obtain ⟨e1,e2,e3,e4⟩:=hx
      exact⟨e1,e2,e3,BnH m f g,fun i hi=>by simp[BnH,hi],fun i hi _=>by simp[BnH,Nat.not_lt.2 hi],e4⟩
     ·obtain ⟨e1,e2,e3,e4⟩:=hx
      exact⟨e1,by omega,e3,g,fun i _=>rfl,fun i hi h2=>by omega,e4⟩
    simp only[Rep] at hv
    obtain ⟨rfl,hle,hcm⟩:=hv
    have hgl:=BcB hw hy hn
    have hS1:(∃s,y=.str s)->ei.size=1:=by
     rintro ⟨s,rfl⟩
     exact of_decide_eq_true hw
    obtain ⟨news,q1,q2,q3,q4,q5⟩:=GZ (P:=P) hy hn hgl hS1
    obtain ⟨hs',hc,hwl,hg'⟩:=MV hs hg
    have hvl:=CM hwl hc
    have hnl:((List.range m).map g).flatten.length=m*ei.size:=Em (cap:=0) (n:=m) hgl (Nat.le_refl _)
    have hmc:m*ei.size<=c*ei.size:=Nat.mul_le_mul_right _ (Nat.le_trans hmle hc)
    obtain ⟨w2,r1,r2⟩:=B9 (P:=P) (t:=k) (x:=x') _ _ _ 0 0 w _ q1 (q3 _ w hs) hs' hg' (by rw[hvl,hnl];omega)
    rw[Nat.add_zero,BmY hwl hgl hmle hc hf' hf2,St.set_set] at r2
    have hf0:=q5 _ w hs
    have hmin:Nat.min m len=m:=Nat.min_eq_left hmle
    refine .of_val' (v:=.int .i64 m) (w':=w2) (S':=S.set k (.vec ei.size len c f')) ?_ (.refl C) (TH r2 hg rfl hc fun i hi=>?_) (by simp[Rep]) h5
    ·simp[Builtin.copy_,hut,hsize,q4,hf0,r1,goInt,hmin]
    ·by_cases him:i<m
     ·rw[hf' i him];exact hgl i him
     ·rw[hf2 i (by omega) hi];exact hwl i hi
   ·exact h.elim
 ·split at h
  ·obtain ⟨hw,h⟩:=Ba.1 h
   unfold WQ at h
   split at h
   ·rename_i k b o len cap1 wd y1 k2 b2 m cap2 w2 h0 xo x' n c f hg
    obtain ⟨hk,h6⟩:=Ba.1 h
    obtain ⟨e1,e2,e3,e4,hok,h5⟩:=h6
    have hk:k=k2:=Nat.eq_of_beq_eq_true hk
    simp only[Bool.and_eq_true,decide_eq_true_eq] at hw
    obtain ⟨⟨hw0,hw1⟩,hw2⟩:=hw
    subst hk e1 e2 e3 e4
    simp only[Rep] at hv hy
    obtain ⟨rfl,hle,hcm⟩:=hv
    obtain ⟨rfl,hle2,hcm2⟩:=hy
    obtain ⟨hs',hc,hwl,hg'⟩:=MV hs hg
    have hvl:=CM hwl hc
    obtain ⟨_,_,_,_,arr,E,fz,p3,p4,p5⟩:=hs.obj_of hg
    have hal:arr.size=c:=by have:=RepL.length p5;rw[hvl] at this;simpa using this
    have hcnt:min len o<=o:=Nat.min_le_right _ _
    have q1:=RepL.take (min len o) p5
    have q2:((arr.toList.take (min len o)).length)=min len o*1:=by rw[List.length_take,Array.length_toList,hal];omega
    have hone:∀v∈arr.toList.take (min len o),v.oneCell'=true:=by
     refine E6 (List.all_eq_true.2 fun d hd=>?_) q1
     obtain ⟨i,hi⟩:=List.mem_iff_getElem?.1 hd
     have hil:i<min len o:=by
      have:=(List.getElem?_eq_some_iff.1 hi).1
      rw[List.length_take] at this
      omega
     rw[List.getElem?_take_of_lt hil,OK hwl,if_pos (by omega)] at hi
     injection hi with hi
     rw[<- hi]
     exact hok i (by omega)
    have hf0:=run_firstCells_some (P:=P) w 1 (min len o) ⟨b2,0,none⟩ o cap2 (arr.toList.take (min len o)) q2 fun j u hu=>by
     have hjl:j<min len o:=by
      have:=(List.getElem?_eq_some_iff.1 hu).1
      rw[q2] at this
      omega
     rw[List.getElem?_take_of_lt hjl] at hu
     rw[Addr.add_mk,cell_of_heap p3]
     simpa using hu
    obtain ⟨w2,r1,r2⟩:=B9 (P:=P) (t:=k) (x:=b2) _ _ _ o 0 w _ q1 hone hs' hg' (by rw[hvl,List.length_take,hvl];omega)
    rw[Nat.add_zero,BiU hwl (by omega) hcnt hc,St.set_set] at r2
    have hmin:Nat.min o len=min len o:=Nat.min_comm _ _
    refine .of_val' (v:=.int .i64 (min len o:Nat)) (w':=w2) (S':=S.set k (.vec 1 (o+len) c (OY f o (min len o)))) ?_ (.refl C) (TH r2 hg rfl hc fun i hi=>?_) (by simp[Rep]) h5
    ·simp[Builtin.copy_,hut,hsize,hf0,r1,goInt,hmin,hw0,Builtin.lenOf]
    ·unfold OY
     split
     ·exact hwl i hi
     ·split
      ·exact hwl _ (by omega)
      ·exact hwl i hi
   ·exact h.elim
  ·exact h.elim
 ·exact h.elim
section
variable {P:Program} {tt:Nat->Option TI} {C:Ctx} {F S:St} {w:World} {K X:D->St->Prop}
def I3(x:Option D)(dflt:Nat):Option Int :=
 match x with
 |none=>some dflt
 |some (.int _ n)=>some n
 |_=>none
def IY(x:D)(lo hi:Option D)(S:St)(K:D->St->Prop):Prop :=
 match x with
 |.str s=>match I3 lo 0,I3 hi s.length with
  |some l,some h=>Be (0<=l/\l<=h/\h<=s.length) (K (.str ((s.take h.toNat).drop l.toNat)) S)
  |_,_=>False
 |_=>False
def Bom:Mode->Mode
 |.nil=>.nil
 |_=>.any
def BgU:Int->Bool
 |.ofNat 0=>true
 |_=>false
def MM(es:Nat)(x:D)(lo hi:Option D)(S:St)(K:D->St->Prop):Prop :=
 match x with
 |.sl wd n f m=>match I3 lo 0,I3 hi n with
  |some l,some h=>chk (decide (wd=es)) (Be (0<=l/\l<=h/\h<=n) (K (.sl es (h.toNat-l.toNat) (fun i=>f (l.toNat+i)) (Bom m)) S))
  |_,_=>False
 |.ms k b o len cap wd=>match I3 lo 0,I3 hi len with
  |some l,some h=>chk (decide (wd=es)) (Be (0<=l/\l<=h/\h<=cap/\l<cap) (K (.ms k b (o+l.toNat*wd) (h.toNat-l.toNat) (cap-l.toNat) wd) S))
  |_,_=>False
 |.vs k b len cap wd=>match lo,hi with
  |some (.int .i64 l),none=>chk (decide (wd=es)) (0<=l/\l<=len/\l<cap/\K (.ms k b (l.toNat*wd) (len-l.toNat) (cap-l.toNat) wd) S)
  |lo,hi=>match I3 lo 0,I3 hi len with
   |some l,some h=>chk (decide (wd=es)&&BgU l) (Be (0<=h/\h<=cap) (K (.vs k b h.toNat cap wd) S))
   |_,_=>False
 |_=>False
def RepO(C:Ctx):Option D->Option Value->Prop
 |none,none=>True
 |some d,some v=>Rep C d v
 |_,_=>False
theorem EN{C : Ctx}{lo hi : Option D}{vl vh : Option Value}(h1 : RepO C lo vl)(h2 : RepO C hi vh){isS : Bool}{len cap : Nat}{l h : Int}(e1 : I3 lo 0=some l)(e2 : I3 hi len=some h)
  (b1:0<=l) (b2:l<=h) (b3:h<=cap):(Instr.sliceBounds isS len cap vl vh none).run P w=.ok (l.toNat,h.toNat,cap) w:=by
 have q1:(lo=none/\vl=none/\l=0)\/∃k,vl=some (.int k l):=by
  unfold I3 at e1
  split at e1
  ·cases vl with
   |none=>simp at e1;exact .inl ⟨rfl,rfl,e1.symm⟩
   |some _=>exact h1.elim
  ·simp at e1;subst e1
   cases vl with
   |none=>exact h1.elim
   |some v=>simp only[RepO,Rep] at h1;subst h1;exact .inr ⟨_,rfl⟩
  ·cases e1
 have q2:(hi=none/\vh=none/\h=len)\/∃k,vh=some (.int k h):=by
  unfold I3 at e2
  split at e2
  ·cases vh with
   |none=>simp at e2;exact .inl ⟨rfl,rfl,e2.symm⟩
   |some _=>exact h2.elim
  ·simp at e2;subst e2
   cases vh with
   |none=>exact h2.elim
   |some v=>simp only[RepO,Rep] at h2;subst h2;exact .inr ⟨_,rfl⟩
  ·cases e2
 have c1:0<=l/\l<=((h.toNat:Nat):Int):=⟨b1,by omega⟩
 have c2:0<=h/\h<=(cap:Int):=⟨by omega,b3⟩
 rcases q1 with ⟨_,rfl,rfl⟩ | ⟨k1,rfl⟩<;>rcases q2 with ⟨_,rfl,rfl⟩ | ⟨k2,rfl⟩ <;>
  simp_all[Instr.sliceBounds,Instr.sliceBound,asIntOf]
theorem RX(hT : TabOk P tt)(hs : Sat C (S.add F) w){t : Nat}{ti : TI}(ht : tt t=some ti)(hd : ti.desc=.string)
  {x:D} {v:Value} (hx:Rep C x v) {lo hi:Option D} {vl vh:Option Value} (h1:RepO C lo vl) (h2:RepO C hi vh) (h:IY x lo hi S K) :
  Good P C F K X ((do pure (Next.value (<- Instr.sliceAt t v vl vh none)):Sem Next).run P w):=by
 have hu:=Bz (w:=w) hT ht
 rw[hd] at hu
 unfold IY at h
 simp only[Bc,and_assoc] at h
 split at h
 ·rename_i s
  split at h
  ·rename_i l r e1 e2
   obtain ⟨b1,b2,b3,hk⟩:=h
   simp only[Rep] at hx;subst hx
   have hb:=EN (P:=P) (w:=w) (isS:=false) (cap:=s.length) h1 h2 e1 e2 b1 b2 b3
   refine .of_val (v:=.string ⟨((s.take r.toNat).drop l.toNat).toArray⟩) hs ?_ (by simp[Rep]) hk
   have hsz:(⟨s.toArray⟩:ByteArray).size=s.length:=by simp[ByteArray.size]
   simp[Instr.sliceAt,Instr.slice,hu,hsz,hb,ByteArray.extract_mk,List.drop_take]
  ·exact h.elim
 ·exact h.elim
theorem Bbm(hT : TabOk P tt)(hs : Sat C (S.add F) w){t e : Nat}{ti ei : TI}(ht : tt t=some ti)(hd : ti.desc=.slice e)(he : tt e=some ei)
  {x:D} {v:Value} (hx:Rep C x v) {lo hi:Option D} {vl vh:Option Value} (h1:RepO C lo vl) (h2:RepO C hi vh) (h:MM ei.size x lo hi S K) :
  Good P C F K X ((do pure (Next.value (<- Instr.sliceAt t v vl vh none)):Sem Next).run P w):=by
 have hu:=Bz (w:=w) hT ht
 rw[hd] at hu
 unfold MM at h
 simp only[Bc,and_assoc] at h
 split at h
 ·rename_i wd n f m
  split at h
  ·rename_i l r e1 e2
   obtain ⟨hwd,b1,b2,b3,hk⟩:=Ba.1 h
   have hwd:wd=ei.size:=of_decide_eq_true hwd
   subst hwd
   simp only[Rep] at hx
   obtain ⟨a,len,cap,rfl,hh,hrep⟩:=hx
   have hl:len=n:=hh.1
   subst hl
   have hcap:=hh.2.1
   have hb:=EN (P:=P) (w:=w) (isS:=true) (cap:=cap) h1 h2 e1 e2 b1 b2 (by omega)
   refine .of_val (v:=.slice (if cap=l.toNat then a else a.map (·.add (l.toNat*ei.size))) (r.toNat-l.toNat) (cap-l.toNat)) hs ?_ ?_ hk
   ·simp[Instr.sliceAt,Instr.slice,hu,hb,Bo hT he]
   ·simp only[Rep]
    refine⟨_,_,_,rfl,⟨rfl,by omega,by have:=hh.2.2.1;omega,?_,?_,(by cases m<;>first | trivial | (have h6:a=none:=hh.2.2.2.2.2;subst h6;simp[Bom]))⟩,?_⟩
    ·intro hn
     have:a=none:=by
      split at hn
      ·exact hn
      ·cases a<;>simp_all
     have:=hh.2.2.2.1 this
     omega
    ·intro y hy h0
     split at hy
     ·exact hh.2.2.2.2.1 y hy (by omega)
     ·cases a with
      |none=>simp at hy
      |some a =>
       have hsp:=hh.2.2.2.2.1 a rfl (by omega)
       obtain ⟨b,o,sp⟩:=a
       simp only at hsp;subst hsp
       simp[Addr.add_mk] at hy;rw[<- hy]
    ·intro y hy i hi
     have hcl:cap≠l.toNat:=by omega
     rw[if_neg hcl] at hy
     cases a with
     |none=>simp at hy
     |some a =>
      have hsp:=hh.2.2.2.2.1 a rfl (by omega)
      obtain ⟨b,o,sp⟩:=a
      simp only at hsp;subst hsp
      simp[Addr.add_mk] at hy;rw[<- hy]
      have:=hrep _ rfl (l.toNat+i) (by omega)
      refine⟨this.1,?_⟩
      have e:o+l.toNat*ei.size+i*ei.size=o+(l.toNat+i)*ei.size:=by rw[Nat.add_mul];omega
      show RepCells C b (o+l.toNat*ei.size+i*ei.size) (f (l.toNat+i))
      rw[e];exact this.2
  ·exact h.elim
 ·rename_i k b o len cap wd
  split at h
  ·rename_i l r e1 e2
   obtain ⟨hwd,b1,b2,b3,b4,hk⟩:=Ba.1 h
   have hwd:wd=ei.size:=of_decide_eq_true hwd
   subst hwd
   simp only[Rep] at hx
   obtain ⟨rfl,hx1,hx2⟩:=hx
   have hb:=EN (P:=P) (w:=w) (isS:=true) (cap:=cap) h1 h2 e1 e2 b1 b2 b3
   have hcl:cap≠l.toNat:=by omega
   refine .of_val (v:=.slice (some ⟨b,o+l.toNat*ei.size,none⟩) (r.toNat-l.toNat) (cap-l.toNat)) hs ?_ ?_ hk
   ·simp[Instr.sliceAt,Instr.slice,hu,hb,Bo hT he,hcl,Addr.add_mk]
   ·simp only[Rep];exact⟨trivial,by omega,by omega⟩
  ·exact h.elim
 ·rename_i k b len cap wd
  split at h
  ·rename_i l
   obtain ⟨hwd,b1,b2,b3,hk⟩:=Ba.1 h
   have hwd:wd=ei.size:=of_decide_eq_true hwd
   subst hwd
   simp only[Rep] at hx
   obtain ⟨rfl,hx1,hx2⟩:=hx
   have e1:I3 (some (.int .i64 l)) 0=some l:=rfl
   have e2:I3 none len=some (len:Int):=rfl
   have hb:=EN (P:=P) (w:=w) (isS:=true) (cap:=cap) h1 h2 e1 e2 b1 b2 (by omega)
   have hcl:cap≠l.toNat:=by omega
   refine .of_val (v:=.slice (some ⟨b,l.toNat*ei.size,none⟩) (len-l.toNat) (cap-l.toNat)) hs ?_ ?_ hk
   ·simp[Instr.sliceAt,Instr.slice,hu,hb,Bo hT he,hcl,Addr.add_mk]
   ·simp only[Rep];exact⟨trivial,by omega,by omega⟩
  ·split at h
   ·rename_i l r e1 e2
    obtain ⟨hwd,b1,b2,hk⟩:=Ba.1 h
    simp only[Bool.and_eq_true,decide_eq_true_eq] at hwd
    obtain ⟨hwd,hz⟩:=hwd
    subst hwd
    have hl0:l=0:=by
     unfold BgU at hz
     split at hz
     ·rfl
     ·cases hz
    subst hl0
    simp only[Rep] at hx
    obtain ⟨rfl,hx1,hx2⟩:=hx
    have hb:=EN (P:=P) (w:=w) (isS:=true) (cap:=cap) h1 h2 e1 e2 (by omega) b1 b2
    refine .of_val (v:=.slice (some ⟨b,0,none⟩) r.toNat cap) hs ?_ ?_ hk
    ·simp[Instr.sliceAt,Instr.slice,hu,hb,Bo hT he,Addr.add_mk]
    ·simp only[Rep];exact⟨trivial,by omega,by omega⟩
   ·exact h.elim
 ·exact h.elim
def IU(n es:Nat)(x:D)(lo hi:Option D)(S:St)(K:D->St->Prop):Prop :=
 match x with
 |.ref k b o=>match I3 lo 0,I3 hi n with
  |some l,some h=>Be (0<=l/\l<=h/\h<=n/\l<n/\n<=9223372036854775807) (K (.ms k b (o+l.toNat*es) (h.toNat-l.toNat) (n-l.toNat) es) S)
  |_,_=>False
 |_=>False
theorem RO(hT : TabOk P tt)(hs : Sat C (S.add F) w){t e n : Nat}{ti ei : TI}(ht : tt t=some ti)(hd : ti.desc=.array n e)(he : tt e=some ei)
  {x:D} {v:Value} (hx:Rep C x v) {lo hi:Option D} {vl vh:Option Value} (h1:RepO C lo vl) (h2:RepO C hi vh) (h:IU n ei.size x lo hi S K) :
  Good P C F K X ((do pure (Next.value (<- Instr.sliceAt t v vl vh none)):Sem Next).run P w):=by
 have hu:=Bz (w:=w) hT ht
 rw[hd] at hu
 unfold IU at h
 simp only[Bc,and_assoc] at h
 split at h
 ·rename_i k b o
  split at h
  ·rename_i l r e1 e2
   obtain ⟨b1,b2,b3,b4,b5,hk⟩:=h
   simp only[Rep] at hx;subst hx
   have hb:=EN (P:=P) (w:=w) (isS:=false) (cap:=n) h1 h2 e1 e2 b1 b2 b3
   have hcl:n≠l.toNat:=by omega
   refine .of_val (v:=.slice (some ⟨b,o+l.toNat*ei.size,none⟩) (r.toNat-l.toNat) (n-l.toNat)) hs ?_ ?_ hk
   ·simp[Instr.sliceAt,Instr.sureAddr,hu,hb,Bo hT he,hcl,Addr.add_mk]
   ·simp only[Rep,maxLen];exact⟨trivial,by omega,by omega⟩
  ·exact h.elim
 ·exact h.elim
def E8(place:Nat->Option (Nat×Nat))(cells:List D):List (Nat×D)->Option (List D)
 | []=>some cells
 |(i,d)::rest=>match place i with
  |none=>none
  |some (off,size)=>if (CJ d).length=size/\off+size<=cells.length/\EI d=true then E8 place (BP cells off (CJ d)) rest else none
def Bca(place:Nat->Option (Nat×Nat)):List D->Nat->List (Nat×D)->Option (List D)
 |cells,_,[]=>some cells
 |cells,pos,(i,d)::rest=>match place i with
  |none=>none
  |some (off,size)=>match decide (pos<=off)&&decide ((CJ d).length=size)&&decide (off-pos+size<=cells.length)&&EI d with
   |true=>match Bca place (cells.drop (off-pos+size)) (off+size) rest with
    |some r=>some (cells.take (off-pos)++(CJ d++r))
    |none=>none
   |false=>none
def Bcu(place:Nat->Option (Nat×Nat))(cells:List D)(parts:List (Nat×D)):Option (List D) :=
 match Bca place cells 0 parts with
 |some r=>some r
 |none=>E8 place cells parts
theorem Un:∀(new a m b:List D),m.length=new.length->BP (a++(m++b)) a.length new=a++(new++b)
 | [],a,m,b,h=>by
  obtain rfl:m=[]:=List.length_eq_zero_iff.1 h
  rfl
 |d::r,a,[],b,h=>by simp at h
 |d::r,a,x::m,b,h=>by
  have ih:=Un r (a++[d]) m b (by simpa using h)
  simp only[BP]
  have e:(a++(x::m++b)).set a.length d=(a++[d])++(m++b):=by simp
  rw[e]
  simpa using ih
theorem WR{place:Nat->Option (Nat×Nat)}:∀(parts:List (Nat×D)) (cells:List D) (pos:Nat) (pre r:List D),pre.length=pos->Bca place cells pos parts=some r->E8 place (pre++cells) parts=some (pre++r)
 | [],cells,pos,pre,r,_,h=>by simp only[Bca,Option.some.injEq] at h;subst h;rfl
 |(i,d)::rest,cells,pos,pre,r,hp,h=>by
  simp only[Bca] at h
  cases hpl:place i with
  |none=>rw[hpl] at h;cases h
  |some q =>
   obtain ⟨off,size⟩:=q
   rw[hpl] at h
   simp only at h
   split at h
   ·rename_i hc
    simp only[Bool.and_eq_true,decide_eq_true_eq] at hc
    obtain ⟨⟨⟨c1,c2⟩,c3⟩,c4⟩:=hc
    split at h
    ·rename_i q hq
     injection h with h
     have ih:=WR rest (cells.drop (off-pos+size)) (off+size) (pre++(cells.take (off-pos)++CJ d)) q (by simp[hp,c2];omega) hq
     simp only[E8,hpl]
     rw[if_pos ⟨c2,by simp[hp];omega,c4⟩]
     have e1:pre++cells=(pre++cells.take (off-pos))++((cells.drop (off-pos)).take size++cells.drop (off-pos+size)):=by
      rw[List.append_assoc,<- List.drop_drop,List.take_append_drop,List.take_append_drop]
     have e2:(pre++cells.take (off-pos)).length=off:=by simp[hp];omega
     have e3:=Un (CJ d) (pre++cells.take (off-pos)) ((cells.drop (off-pos)).take size) (cells.drop (off-pos+size)) (by simp[c2];omega)
     rw[e2,<- e1] at e3
     rw[e3,<- h]
     simpa[List.append_assoc] using ih
    ·cases h
   ·cases h
theorem Oc{place:Nat->Option (Nat×Nat)}{cells out:List D}{parts:List (Nat×D)}(h:Bcu place cells parts=some out):E8 place cells parts=some out:=by
 unfold Bcu at h
 split at h
 ·rename_i r hr
  injection h with h;subst h
  exact WR parts cells 0 [] r rfl hr
 ·exact h
def RepParts(C:Ctx):List (Nat×D)->List (Nat×Value)->Prop
 | [],vs=>vs=[]
 |(i,d)::r,vs=>∃v vs',vs=(i,v)::vs'/\Rep C d v/\RepParts C r vs'
theorem WS{C : Ctx} : ∀(new : List D) (vs : List Value) (k : Nat) (ds : List D) (arr : Array Value) (off : Nat), RepL C new vs -> RepL C ds arr.toList ->
  RepL C (BP ds (off+k) new) ((vs.zipIdx k).foldl (fun cs (c,j)=>cs.setIfInBounds (off+j) c) arr).toList
 | [],vs,k,ds,arr,off,h,h2=>by simp only[RepL] at h;subst h;simpa[BP] using h2
 |d::new,vs,k,ds,arr,off,h,h2=>by
  simp only[RepL] at h
  obtain ⟨x,xs,rfl,r1,r2⟩:=h
  simp only[BP,List.zipIdx_cons,List.foldl_cons]
  rw[show off+k+1=off+(k+1) by omega]
  refine WS new xs (k+1) _ _ off r2 ?_
  rw[Array.toList_setIfInBounds]
  exact RepL.set r1 _ h2
theorem OI{C : Ctx}{place : Nat -> Option (Nat×Nat)} : ∀ {parts : List (Nat×D)} {vps : List (Nat×Value)} {ds out : List D} {arr : Array Value}, RepParts C parts vps -> RepL C ds arr.toList -> E8 place ds parts=some out ->
  ∃arr',Instr.fill place arr vps=some arr'/\RepL C out arr'.toList
 | [],vps,ds,out,arr,h,h2,h3=>by
  simp only[RepParts] at h;subst h
  simp only[E8,Option.some.injEq] at h3;subst h3
  exact⟨arr,rfl,h2⟩
 |(i,d)::rest,vps,ds,out,arr,h,h2,h3=>by
  simp only[RepParts] at h
  obtain ⟨v,vs',rfl,r1,r2⟩:=h
  simp only[E8] at h3
  cases hp:place i with
  |none=>rw[hp] at h3;cases h3
  |some q =>
   obtain ⟨off,size⟩:=q
   rw[hp] at h3
   simp only at h3
   split at h3
   ·rename_i hc
    obtain ⟨c1,c2,c3⟩:=hc
    have hr:=ID c3 r1
    have hl:v.cells.size=size:=by have:=RepL.length hr;simpa[c1] using this
    have hal:arr.size=ds.length:=by have:=RepL.length h2;simpa using this
    have hsp:=WS (CJ d) v.cells.toList 0 ds arr off hr h2
    obtain ⟨arr',e1,e2⟩:=OI (place:=place) (arr:=v.cells.zipIdx.foldl (fun cs (c,j)=>cs.setIfInBounds (off+j) c) arr) r2 (by
     rw[<- Array.foldl_toList,Array.toList_zipIdx];simpa using hsp) h3
    refine⟨arr',?_,e2⟩
    simp only[Instr.fill,hp]
    rw[if_neg (by simp[hl];omega)]
    exact e1
   ·cases h3
def IP(tt:Nat->Option TI)(fs:List Field)(i:Nat):Option (Nat×Nat) :=
 match fs[i]? with
 |some f=>match tt f.type with
  |some fi=>some (f.offset,fi.size)
  |none=>none
 |none=>none
def UK(tt:Nat->Option TI)(ti:TI)(parts:List (Nat×D))(S:St)(K:D->St->Prop):Prop :=
 match ti.desc with
 |.struct fs=>chk (fs.toList.all fun f=>(tt f.type).isSome) (match Bcu (IP tt fs.toList) ti.zero parts with
  |some cs=>Om cs fun cs=>K (.agg cs) S
  |none=>False)
 |.array _ e=>match tt e with
  |some ei=>match Bcu (fun i=>some (i*ei.size,ei.size)) ti.zero parts with
   |some cs=>Om cs fun cs=>K (.agg cs) S
   |none=>False
  |none=>False
 |_=>False
theorem Be1(hT : TabOk P tt)(fs : Array Field)(h : ∀f, f∈fs.toList -> (tt f.type).isSome=true) :
  ∃ps:Array (Nat×Nat),((fs.mapM fun f=>do pure (f.offset,<- sizeOf f.type):Sem (Array (Nat×Nat)))).run P w=.ok ps w/\∀i,ps[i]? =IP tt fs.toList i:=by
 have key:∀(l:List Field),(∀f,f∈l->(tt f.type).isSome=true)->∃ps:List (Nat×Nat),((l.mapM fun f=>do pure (f.offset,<- sizeOf f.type):Sem (List (Nat×Nat)))).run P w=.ok ps w/\∀i,ps[i]? =IP tt l i:=by
  intro l
  induction l with
  |nil=>intro _;exact⟨[],by simp,fun i=>by simp[IP]⟩
  |cons f l ih =>
   intro hl
   obtain ⟨ps,h1,h2⟩:=ih fun g hg=>hl g (by simp[hg])
   obtain ⟨fi,hfi⟩:=Option.isSome_iff_exists.1 (hl f (by simp))
   refine⟨(f.offset,fi.size)::ps,?_,fun i=>?_⟩
   ·simp only[bind_pure_comp] at h1 ⊢
    simp[List.mapM_cons,Bo hT hfi,h1]
   ·cases i with
    |zero=>simp[IP,hfi]
    |succ i=>simpa[IP] using h2 i
 obtain ⟨ps,h1,h2⟩:=key fs.toList h
 refine⟨ps.toArray,?_,fun i=>by simpa using h2 i⟩
 rw[Array.mapM_eq_mapM_toList]
 simp only[bind_pure_comp] at h1
 simp[h1]
theorem BeO(hT : TabOk P tt)(hs : Sat C (S.add F) w){t : Nat}{ti : TI}(ht : tt t=some ti){parts : List (Nat×D)}{vps : Array (Nat×Value)}(hp : RepParts C parts vps.toList)(h : UK tt ti parts S K) :
  Good P C F K X ((do pure (Next.value (<- Instr.build t vps)):Sem Next).run P w):=by
 obtain ⟨z,hz1,_,hz3⟩:=GW (P:=P) (w:=w) hT ht
 have hu:=Bz (w:=w) hT ht
 unfold UK at h
 split at h
 ·rename_i fs hd
  rw[hd] at hu
  obtain ⟨hf,h⟩:=Ba.1 h
  split at h
  ·rename_i cs hfill
   obtain ⟨ps,p1,p2⟩:=Be1 (P:=P) (w:=w) hT fs (fun f hm=>List.all_eq_true.1 hf f hm)
   obtain ⟨arr',e1,e2⟩:=OI hp (hz3 C) (Oc hfill)
   have hpl:(fun i=>ps[i]?)=IP tt fs.toList:=funext p2
   refine .of_val (v:=.agg arr') hs ?_ (by simp only[Rep];exact⟨_,rfl,e2⟩) (Ct.1 h)
   simp only[bind_pure_comp] at p1
   simp[Instr.build,hz1,hu,p1,hpl,e1]
  ·exact h.elim
 ·rename_i n e hd
  rw[hd] at hu
  split at h
  ·rename_i ei he
   split at h
   ·rename_i cs hfill
    obtain ⟨arr',e1,e2⟩:=OI hp (hz3 C) (Oc hfill)
    refine .of_val (v:=.agg arr') hs ?_ (by simp only[Rep];exact⟨_,rfl,e2⟩) (Ct.1 h)
    simp[Instr.build,hz1,hu,Bo hT he,e1]
   ·exact h.elim
  ·exact h.elim
 ·exact h.elim
end
section
variable {P:Program} {tt:Nat->Option TI} {C:Ctx} {F S:St} {w:World} {K X:D->St->Prop}
def Ij(wd:Nat):Nat->List D->List (List D)
 |0,_=>[]
 |n+1,l=>l.take wd::Ij wd n (l.drop wd)
theorem RA(wd:Nat):∀(n:Nat) (l:List D),l.length=n*wd->(Ij wd n l).flatten=l/\∀r,r∈Ij wd n l->r.length=wd
 |0,l,h=>by
  have:l=[]:=List.eq_nil_of_length_eq_zero (by simpa using h)
  subst this;simp[Ij]
 |n+1,l,h=>by
  rw[Nat.add_mul] at h
  obtain ⟨h1,h2⟩:=RA wd n (l.drop wd) (by simp;omega)
  refine⟨by simp[Ij,h1],fun r hr=>?_⟩
  simp only[Ij,List.mem_cons] at hr
  rcases hr with rfl | hr
  ·simp;omega
  ·exact h2 r hr
theorem EA(wd:Nat):∀(n:Nat) (l:List D),(Ij wd n l).length=n
 |0,_=>rfl
 |n+1,l=>by simp[Ij,EA wd n]
def BbV(wd n:Nat)(cs:List D):Nat->List D:=bif decide (wd=1)&&cs.all TW then fun i=>[.str ((cs.map Bbv).getD i [])] else fun i=>(Ij wd n cs).getD i []
theorem BaG:∀(n:Nat) (cs:List D) (i:Nat),n=cs.length->i<n->(Ij 1 n cs).getD i []=[cs.getD i .unk]
 |0,_,i,_,hi=>absurd hi (Nat.not_lt_zero i)
 |n+1,[],_,h,_=>by simp at h
 |n+1,c::cs,0,_,_=>by simp[Ij]
 |n+1,c::cs,i+1,h,hi=>by
  have:=BaG n cs i (by simpa using h) (by omega)
  simpa[Ij] using this
theorem Be9{wd n i:Nat}{cs:List D}(h:cs.length=n*wd)(hi:i<n):BbV wd n cs i=(Ij wd n cs).getD i []:=by
 unfold BbV
 cases hc:decide (wd=1)&&cs.all TW with
 |false=>rfl
 |true =>
  rw[Bool.and_eq_true,decide_eq_true_eq] at hc
  obtain ⟨rfl,hc⟩:=hc
  rw[Nat.mul_one] at h
  simp only[cond_true]
  rw[BaG n cs i h.symm hi,Tv hc (by omega)]
def Tf(ei:TI)(len:Nat)(parts:List (Nat×D))(S:St)(K:D->St->Prop):Prop :=
 chk (decide (ei.size≠0)&&decide (len*ei.size<=16777216)) (match Bcu (fun i=>some (i*ei.size,ei.size)) ((List.replicate len ei.zero).flatten) parts with
  |some cs=>Om cs fun cs=>chk (cs.all Gi) (K (.sl ei.size len (BbV ei.size len cs) .full) S)
  |none=>False)
theorem Rx{C:Ctx}{ds:List D}{vs:List Value}(h:RepL C ds vs):∀n,RepL C (List.replicate n ds).flatten (List.replicate n vs).flatten
 |0=>by simp[RepL]
 |n+1=>by simp only[List.replicate_succ,List.flatten_cons];exact RepL.append h (Rx h n)
theorem Bas(z:Array Value)(hz:0<z.size):∀n,((Array.range (n*z.size)).map (z[· % z.size]!)).toList=(List.replicate n z.toList).flatten:=by
 intro n
 apply List.ext_getElem
 ·simp[List.length_flatten,List.map_replicate]
 ·intro i h1 h2
  have hlt:i % z.size<z.size:=Nat.mod_lt _ hz
  have e1:(Array.map (fun x=>z[x % z.size]!) (Array.range (n*z.size))).toList[i]=z[i % z.size]:=by
   simp[hlt]
  rw[e1]
  have key:∀(m i:Nat) (hi:i<((List.replicate m z.toList).flatten).length),((List.replicate m z.toList).flatten)[i]=z[i % z.size]'(Nat.mod_lt _ hz):=by
   intro m
   induction m with
   |zero=>intro i hi;simp at hi
   |succ m ih =>
    intro i hi
    simp only[List.replicate_succ,List.flatten_cons]
    by_cases hlt:i<z.toList.length
    ·rw[List.getElem_append_left hlt]
     have:i % z.size=i:=Nat.mod_eq_of_lt (by simpa using hlt)
     simp[this]
    ·have hge:z.toList.length<=i:=Nat.le_of_not_lt hlt
     rw[List.getElem_append_right hge,ih]
     have:(i-z.size) % z.size=i % z.size:=by
      have hge':z.size<=i:=by simpa using hge
      conv=>rhs;rw[<- Nat.sub_add_cancel hge',Nat.add_mod_right]
     simp[this]
  exact (key n i h2).symm
theorem Uz(hT : TabOk P tt)(hs : Sat C (S.add F) w){t e len : Nat}{ti ei : TI}(ht : tt t=some ti)(hd : ti.desc=.slice e)(he : tt e=some ei)
  {parts:List (Nat×D)} {vps:Array (Nat×Value)} (hp:RepParts C parts vps.toList) (h:Tf ei len parts S K) :
  Good P C F K X ((do pure (Next.value (<- Instr.buildSlice t len vps)):Sem Next).run P w):=by
 obtain ⟨z,hz1,hz2,hz3⟩:=GW (P:=P) (w:=w) hT he
 have hu:=Bz (w:=w) hT ht
 rw[hd] at hu
 obtain ⟨hc,h⟩:=Ba.1 h
 rw[Bool.and_eq_true] at hc
 have h0:=of_decide_eq_true hc.1
 have h1:=of_decide_eq_true hc.2
 split at h
 ·rename_i cs hfill
  have hfill:=Oc hfill
  obtain ⟨hall,hk⟩:=Ba.1 (Ct.1 h)
  let z0:Array Value:=if len*ei.size=0 then #[] else z.cells
  have hbase:RepL C ((List.replicate len ei.zero).flatten) ((Array.range (len*ei.size)).map (z0[· % z0.size]!)).toList:=by
   by_cases hl:len=0
   ·subst hl;simp[RepL]
   ·have:len*ei.size≠0:=Nat.mul_ne_zero hl h0
    simp only[z0,if_neg this]
    rw[<- hz2,Bas z.cells (by omega)]
    exact Rx (hz3 C) len
  obtain ⟨arr',e1,e2⟩:=OI hp hbase hfill
  have hlen:cs.length=len*ei.size:=by
   have q1:=RepL.length e2
   have q2:∀ {parts:List (Nat×D)} {ds out:List D},E8 (fun i=>some (i*ei.size,ei.size)) ds parts=some out->out.length=ds.length:=by
    intro parts
    induction parts with
    |nil=>intro ds out h;simp only[E8,Option.some.injEq] at h;rw[h]
    |cons p parts ih =>
     intro ds out h
     simp only[E8] at h
     split at h
     ·rw[ih h,GP]
     ·cases h
   rw[q2 hfill]
   have q3:=RepL.length hbase
   simp at q3
   simp[List.length_flatten,List.map_replicate]
   have:=RepL.length (hz3 C)
   simp[hz2] at this
   rw[this]
  obtain ⟨c1,c2⟩:=RA ei.size len cs hlen
  have hal:arr'.size=len*ei.size:=by have:=RepL.length e2;simpa[hlen] using this
  have hone:=E6 hall e2
  refine .of_val' (v:=.slice (some ⟨w.heap.size,0,none⟩) len len) (w':=w.alloc (.cells arr' e)) ?_ (hs.push_le arr') (hs.alloc_imm arr' e hone) ?_ hk
  ·have hsz:=Bo (P:=P) (w:=w) hT he
   have hle:¬(16777216<len*ei.size):=by omega
   by_cases hl:len*ei.size=0
   ·simp only[z0,if_pos hl] at e1
    simp[Instr.buildSlice,hu,hsz,hl] at e1 ⊢
    simp[e1,newRow]
   ·simp only[z0,if_neg hl] at e1
    simp[Instr.buildSlice,hu,hsz,hle,hl,hz1,e1,newRow]
  ·have hcm:len<=maxLen:=by
    have:len<=len*ei.size:=Nat.le_mul_of_pos_right _ (by omega)
    unfold maxLen;omega
   have hl:=EA ei.size len cs
   suffices hsuf:Rep (C.push w.heap.size arr') (slR ei.size (Ij ei.size len cs) .full) (.slice (some ⟨w.heap.size,0,none⟩) len len) by
    unfold slR at hsuf
    rw[hl] at hsuf
    simp only[Rep] at hsuf ⊢
    obtain ⟨a,l,c,q1,q2,q3⟩:=hsuf
    exact⟨a,l,c,q1,q2,fun x hx i hi=>by rw[Be9 hlen hi];exact q3 x hx i hi⟩
   rw[Tq]
   refine⟨_,_,_,rfl,⟨(EA _ _ _).symm,by simp[EA],hcm,by simp,by simp,⟨by simp[EA],_,rfl,hs.below.size⟩⟩,fun x hx=>?_⟩
   cases hx
   refine RepRows.unflat ?_ c2
   rw[c1]
   refine RepCells.ofL (RepL.mono (hs.push_le arr') _ _ e2) fun i v hv=>?_
   simp only[Ctx.push,if_true,Nat.zero_add]
   simpa using hv
 ·exact h.elim
def Bf8(x:D)(S:St)(K:D->St->Prop):Prop :=
 match x with
 |.str s=>K (.int .i64 s.length) S
 |.sl _ n _ _=>K (.int .i64 n) S
 |.ms _ _ _ len _ _=>K (.int .i64 len) S
 |.vs _ _ len _ _=>K (.int .i64 len) S
 |.nmap=>K (.int .i64 0) S
 |.map k m=>match Bt S.objs k with
  |some (x,.amap _ es)=>x=m/\K (.int .i64 es.length) S
  |_=>False
 |_=>False
def Ba0(d:TypeDesc)(x:D):Bool :=
 match d,x with
 |.string,.str _=>true
 |.slice _,.sl _ _ _ _=>true
 |.slice _,.ms _ _ _ _ _ _=>true
 |.slice _,.vs _ _ _ _ _=>true
 |.map _ _,.nmap=>true
 |.map _ _,.map _ _=>true
 |_,_=>false
theorem RepPairs.length{k:IntKind}:∀ {ps:List (List UInt8×Int)} {es:List MapEntry},RepPairs k ps es->es.length=ps.length
 | [],es,h=>by simp only[RepPairs] at h;simp[h]
 |(k,d)::r,es,h=>by
  simp only[RepPairs] at h
  obtain ⟨e,es',rfl,_,_,h3⟩:=h
  simp[RepPairs.length h3]
theorem Bkt(hT : TabOk P tt)(hs : Sat C (S.add F) w){t ty : Nat}{ti : TI}(ht : tt t=some ti){x : D}{v : Value}(hx : Rep C x v)(hd : Ba0 ti.desc x=true)(h : Bf8 x S K) :
  Good P C F K X ((do pure (Next.value (<- Builtin.len_ #[t] ty #[v])):Sem Next).run P w):=by
 have hu:=Bz (w:=w) hT ht
 unfold Ba0 at hd
 split at hd
 ·rename_i hq;rw[hq] at hu
  simp only[Rep] at hx;subst hx
  exact .of_val (v:=.int .i64 _) hs (by simp[Builtin.len_,hu,goInt,ByteArray.size_mk'];rfl) (by simp[Rep]) h
 ·rename_i hq;rw[hq] at hu
  simp only[Rep] at hx
  obtain ⟨a,len,cap,rfl,hh,_⟩:=hx
  have hl:len=_:=hh.1
  subst hl
  exact .of_val hs (by simp[Builtin.len_,hu,goInt];rfl) (by simp[Rep]) h
 ·rename_i hq;rw[hq] at hu
  simp only[Rep] at hx
  obtain ⟨rfl,_⟩:=hx
  exact .of_val hs (by simp[Builtin.len_,hu,goInt];rfl) (by simp[Rep]) h
 ·rename_i hq;rw[hq] at hu
  simp only[Rep] at hx
  obtain ⟨rfl,_⟩:=hx
  exact .of_val hs (by simp[Builtin.len_,hu,goInt];rfl) (by simp[Rep]) h
 ·rename_i hq;rw[hq] at hu
  simp only[Rep] at hx;subst hx
  exact .of_val hs (by simp[Builtin.len_,hu,goInt];rfl) (by simp[Rep]) h
 ·rename_i hq;rw[hq] at hu
  simp only[Rep] at hx;subst hx
  simp only[Bf8] at h
  split at h
  ·rename_i x es hg
   obtain ⟨rfl,h⟩:=h
   obtain ⟨_,_,en,cl,e1,e2⟩:=hs.obj_of hg
   have:=RepPairs.length e2
   refine .of_val (v:=.int .i64 es.length) hs ?_ (by simp[Rep]) h
   simp at this
   simp[Builtin.len_,hu,getObj,Sem.run,e1,goInt,this]
  ·exact h.elim
 ·cases hd
def BpH:List D->Option D
 | [.int k a,.int _ b]=>some (.int k (if b<a then b else a))
 | [.int k a,.int _ b,.int _ c]=>some (.int k (if c<(if b<a then b else a) then c else (if b<a then b else a)))
 |_=>none
def BoH:List D->Option D
 | [.int k a,.int _ b]=>some (.int k (if a<b then b else a))
 | [.int k a,.int _ b,.int _ c]=>some (.int k (if (if a<b then b else a)<c then c else (if a<b then b else a)))
 |_=>none
theorem Bj4(hs : Sat C (S.add F) w){ts : Array TypeId}{ty : Nat}{xs : List D}{vs : Array Value}(hx : RepL C xs vs.toList){d : D}(hd : BpH xs=some d)(h : K d S) :
  Good P C F K X ((do pure (Next.value (<- Builtin.min_ ts ty vs)):Sem Next).run P w):=by
 unfold BpH at hd
 split at hd<;>simp only[Option.some.injEq,reduceCtorEq] at hd<;>subst hd
 ·simp only[RepL,Rep] at hx
  obtain ⟨_,_,e,rfl,_,_,rfl,rfl,rfl⟩:=hx
  exact .of_val hs (by simp[Builtin.min_,e,Builtin.min2];rfl) (by simp[Rep]) h
 ·simp only[RepL,Rep] at hx
  obtain ⟨_,_,e,rfl,_,_,rfl,rfl,_,_,rfl,rfl,rfl⟩:=hx
  exact .of_val hs (by simp[Builtin.min_,e,Builtin.min2];rfl) (by simp[Rep]) h
theorem BkK(hs : Sat C (S.add F) w){ts : Array TypeId}{ty : Nat}{xs : List D}{vs : Array Value}(hx : RepL C xs vs.toList){d : D}(hd : BoH xs=some d)(h : K d S) :
  Good P C F K X ((do pure (Next.value (<- Builtin.max_ ts ty vs)):Sem Next).run P w):=by
 unfold BoH at hd
 split at hd<;>simp only[Option.some.injEq,reduceCtorEq] at hd<;>subst hd
 ·simp only[RepL,Rep] at hx
  obtain ⟨_,_,e,rfl,_,_,rfl,rfl,rfl⟩:=hx
  exact .of_val hs (by simp[Builtin.max_,e,Builtin.max2];rfl) (by simp[Rep]) h
 ·simp only[RepL,Rep] at hx
  obtain ⟨_,_,e,rfl,_,_,rfl,rfl,_,_,rfl,rfl,rfl⟩:=hx
  exact .of_val hs (by simp[Builtin.max_,e,Builtin.max2];rfl) (by simp[Rep]) h
def E3:TypeDesc->Bool
 |.interface _=>true
 |_=>false
theorem Oj(hT : TabOk P tt)(hs : Sat C (S.add F) w){t : Nat}{ti : TI}(ht : tt t=some ti)(hi : E3 ti.desc=false){x : D}{v : Value}(hx : Rep C x v)(h : K (.iface t x) S) :
  Good P C F K X ((do pure (Next.value (<- Instr.makeInterface t v)):Sem Next).run P w):=by
 have hu:=Bz (w:=w) hT ht
 refine .of_val (v:=.iface t v) hs ?_ (by simp only[Rep];exact⟨v,rfl,hx⟩) h
 simp only[Instr.makeInterface,Sem.run_bind,hu,Result.andThen_ok]
 cases hq:ti.desc<;>simp_all[E3]
def Wf(t:Nat)(ok:Bool)(x:D)(S:St)(K:D->St->Prop):Prop :=
 match x with
 |.iface u d=>if u=t then K (if ok then .tup [d,.bool true] else d) S else chk ok (K (.tup [.unk,.bool false]) S)
 |.nili=>chk ok (K (.tup [.unk,.bool false]) S)
 |_=>False
theorem Bdc(hT : TabOk P tt)(hs : Sat C (S.add F) w){xt t : Nat}{ti : TI}(ht : tt t=some ti)(hi : E3 ti.desc=false){ok : Bool}{x : D}{v : Value}(hx : Rep C x v)(h : Wf t ok x S K) :
  Good P C F K X ((do pure (Next.value (<- Instr.typeAssert v xt t ok)):Sem Next).run P w):=by
 have hu:=Bz (w:=w) hT ht
 obtain ⟨z,hz,_⟩:=GW (P:=P) (w:=w) hT ht
 unfold Wf at h
 split at h
 ·rename_i u d
  simp only[Rep] at hx
  obtain ⟨y,rfl,hy⟩:=hx
  split at h
  ·rename_i e;subst e
   refine .of_val (v:=if ok then .tuple #[y,.bool true] else y) hs ?_ ?_ h
   ·cases hq:ti.desc<;>simp_all[Instr.typeAssert,E3]<;>cases ok<;>simp
   ·cases ok
    ·simpa using hy
    ·simp[Rep,RepL,hy]
  ·rename_i e
   obtain ⟨rfl,h⟩:=Ba.1 h
   refine .of_val (v:=.tuple #[z,.bool false]) hs ?_ (by simp[Rep,RepL]) h
   cases hq:ti.desc<;>simp_all[Instr.typeAssert,E3]
 ·simp only[Rep] at hx;subst hx
  obtain ⟨rfl,h⟩:=Ba.1 h
  refine .of_val (v:=.tuple #[z,.bool false]) hs ?_ (by simp[Rep,RepL]) h
  cases hq:ti.desc<;>simp_all[Instr.typeAssert,E3]
 ·exact h.elim
def I8(ei:TI)(l c:D)(S:St)(K:D->St->Prop):Prop :=
 match l,c with
 |.int _ l, .int _ c=>Be (0<=l /\ l<=c /\ (ei.bytes : Int)*c<=281474976710656 /\ c<=9223372036854775807) (chk (decide (0<ei.size))
   (∀x,freshIn x S.objs->K (.vs (B2 S.objs) x l.toNat c.toNat ei.size) (S.new x (.vec ei.size c.toNat c.toNat fun _=>ei.zero))))
 |_,_=>False
theorem We(hT : TabOk P tt)(hs : Sat C (S.add F) w){t e : Nat}{ti ei : TI}(ht : tt t=some ti)(hd : ti.desc=.slice e)(he : tt e=some ei)
  {l c:D} {vl vc:Value} (hl:Rep C l vl) (hc:Rep C c vc) (h:I8 ei l c S K):Good P C F K X ((do pure (Next.value (<- Instr.makeSlice t vl vc)):Sem Next).run P w):=by
 unfold I8 at h
 simp only[Bc,and_assoc] at h
 split at h
 ·rename_i k l k' c
  obtain ⟨h0,h1,h2,h3,h4⟩:=h
  obtain ⟨h4,hk⟩:=Ba.1 h4
  have h4:=of_decide_eq_true h4
  simp only[Rep] at hl hc;subst hl hc
  obtain ⟨_,i,z,q1,q2,q3,q4,q5,q6⟩:=hT e ei he
  have hut:P.underlying t=some (.slice e):=by rw[<- hd];exact (hT t ti ht).1
  have hr:=run_make (P:=P) w t e i z hut q1 q4 k k' l c h0 h1 (by rw[q3];exact h2) h3
  have hsat:Sat C ((S.new w.heap.size (.vec ei.size c.toNat c.toNat fun _=>ei.zero)).add F) (w.alloc (.cells (madeCells z.cells (c.toNat*i.size)) e)):=by
   refine hs.alloc_own _ (.vec ei.size c.toNat c.toNat fun _=>ei.zero) _ fun _ hw=>⟨Nat.le_refl _,fun _ _=>?_,_,e,(0,0),hw,.inl rfl,?_⟩
   ·have:=congrArg List.length q6
    simpa[q5] using this
   have ev:Cj ei.size c.toNat c.toNat (fun _=>ei.zero)=(List.replicate c.toNat ei.zero).flatten:=by
    simp only[Cj,Nat.sub_self,Nat.zero_mul,List.replicate_zero,List.append_nil]
    congr 1
    exact List.ext_getElem (by simp) (by simp)
   rw[ev,madeCells,q2,<- q5,Bas z.cells (by omega),q6]
   exact Rx (Mb C _) _
  refine .of_val' hr (.refl C) hsat ?_ (hk _ hs.freshIn)
  ·simp only[Rep,maxLen];exact⟨trivial,by omega,by omega⟩
 ·exact h.elim
theorem Bd5(hT : TabOk P tt)(hs : Sat C (S.add F) w){t : Nat}{ti : TI}(ht : tt t=some ti)(hd : ti.desc=.string){s : List UInt8}{v : Value}(hx : Rep C (.str s) v)
  (h:∀x,freshIn x S.objs->K (.ref (B2 S.objs) x 0) (S.new x (.sit s 0))):Good P C F K X ((do pure (Next.value (<- Instr.range t v)):Sem Next).run P w):=by
 simp only[Rep] at hx;subst hx
 have hut:P.underlying t=some .string:=by rw[<- hd];exact (hT t ti ht).1
 exact .of_val' (S':=S.new w.heap.size (.sit s 0)) (run_range_string w t _ hut) (.refl C) (hs.alloc_own _ (.sit s 0) _ fun _ hw=>hw) (by simp[Rep]) (h _ hs.freshIn)
def Ir(s:List UInt8)(pos:Nat):Nat×Nat:=Utf8.decode ⟨s.toArray⟩ pos
def Be0(x:D)(S:St)(K:D->St->Prop):Prop :=
 match x with
 |.ref k b 0=>match Bt S.objs k with
  |some (y,.sit s pos)=>y=b/\ifB (decide (pos<s.length)) (K (.tup [.bool true,.int .i64 pos,.int .i32 (Ir s pos).1]) (S.set k (.sit s (pos+(Ir s pos).2)))) (K (.tup [.bool false]) S)
  |_=>False
 |_=>False
theorem Bg9(hs : Sat C (S.add F) w){ty : Nat}{x : D}{v : Value}(hx : Rep C x v)(h : Be0 x S K) :
  Good P C F K X ((do pure (Next.value (<- Instr.next v true ty)):Sem Next).run P w):=by
 unfold Be0 at h
 split at h
 ·rename_i k b
  split at h
  ·rename_i y s pos hg
   obtain ⟨rfl,h⟩:=h
   have h:(pos<s.length->_)/\(¬pos<s.length->_):=⟨fun hp=>(C7 h).1 (decide_eq_true hp),fun hp=>(C7 h).2 (decide_eq_false hp)⟩
   simp only[Rep] at hx;subst hx
   obtain ⟨_,_,e1⟩:=hs.obj_of hg
   simp only[ObjAt] at e1
   have hsz:(⟨s.toArray⟩:ByteArray).size=s.length:=by simp[ByteArray.size_mk']
   have hb:y<w.heap.size:=(Array.getElem?_eq_some_iff.1 e1).1
   by_cases hp:pos<s.length
   ·refine .of_val' (v:=.tuple #[.bool true,.int .i64 pos,.int .i32 (Ir s pos).1]) (w':={ w with heap:=w.heap.setIfInBounds y (.stringIter ⟨s.toArray⟩ (pos+(Ir s pos).2)) }) ?_ (.refl C) ?_ (by simp[Rep,RepL]) (h.1 hp)
    ·simp[Instr.next,getObj,setObj,Sem.run,e1,hsz,hp,goInt,Ir]
    ·refine hs.replace hg (by simp) (fun k hk=>by simp[Ne.symm hk]) rfl rfl rfl ?_
     simp[ObjAt,hb]
   ·refine .of_val (v:=.tuple #[.bool false]) hs ?_ (by simp[Rep,RepL]) (h.2 hp)
    simp[Instr.next,getObj,Sem.run,e1,hsz,hp]
  ·exact h.elim
 ·exact h.elim
end
section
variable {P:Program} {tt:Nat->Option TI} {C:Ctx} {F S:St} {w:World} {K X:D->St->Prop}
def u8c(l:List UInt8):List D:=l.map fun b=>.int .u8 (b.toNat:Int)
def BhY:TypeDesc->Prop
 |.int .u8=>True
 |_=>False
def byteB:D->Bool
 |.int .u8 z=>decide (0<=z)&&decide (z<256)
 |_=>false
def byteOf:D->UInt8
 |.int _ z=>UInt8.ofNat z.toNat
 |_=>0
def BkZ:List D->Bool
 | [d]=>byteB d
 |_=>false
def MG:List D->UInt8
 | [d]=>byteOf d
 |_=>0
def Cg(n:Nat)(f:Nat->List D):Bool:=(List.range n).all fun i=>BkZ (f i)
def bytesOf(n:Nat)(f:Nat->List D):List UInt8:=(List.range n).map fun i=>MG (f i)
theorem WA{d:D}(h:byteB d=true):d=.int .u8 ((byteOf d).toNat:Int):=by
 unfold byteB at h
 split at h
 ·rename_i z
  simp only[Bool.and_eq_true,decide_eq_true_eq] at h
  simp only[byteOf,UInt8.toNat_ofNat']
  congr 1
  omega
 ·cases h
theorem WD(n:Nat)(f:Nat->List D):(bytesOf n f).length=n:=by simp[bytesOf]
theorem Bc3{n:Nat}{f:Nat->List D}(h:Cg n f=true){i:Nat}(hi:i<n):f i=[.int .u8 (((bytesOf n f).getD i 0).toNat:Int)]:=by
 have hr:=List.all_eq_true.1 h i (List.mem_range.2 hi)
 have e:(bytesOf n f).getD i 0=MG (f i):=by simp[bytesOf,List.getD_eq_getElem?_getD,hi]
 rw[e]
 revert hr
 generalize f i=r
 intro hr
 unfold BkZ at hr
 split at hr
 ·rename_i d;rw[MG,<- WA hr]
 ·cases hr
theorem U4:∀ {l:List D},l.all byteB=true->l=u8c (l.map byteOf)
 | [],_=>rfl
 |d::l,h=>by
  simp only[List.all_cons,Bool.and_eq_true] at h
  have:=U4 h.2
  simp only[u8c,List.map_cons] at this ⊢
  rw[<- this,<- WA h.1]
def Bj9(r:List UInt8):Nat×Nat:=Lib.decodeN r.length (r.getD 0 0).toNat (r.getD 1 0).toNat (r.getD 2 0).toNat (r.getD 3 0).toNat
def Rf:Nat->List UInt8->List Nat
 |0,_=>[]
 |n+1,r=>if r=[] then [] else (Bj9 r).1::Rf n (r.drop (Bj9 r).2)
def TP(r:List UInt8):List Nat:=Rf r.length r
def Bgc:TypeDesc->Bool
 |.int .i32=>true
 |_=>false
theorem BdZ{d:TypeDesc}(h:Bgc d=true):d=.int .i32:=by
 unfold Bgc at h
 split at h
 ·rfl
 ·cases h
theorem O0(l:List UInt8)(k:Nat):(⟨l.toArray⟩:ByteArray).get! k=l.getD k 0:=by
 show l.toArray[k]! =_
 by_cases h:k<l.length
 ·rw[List.getElem!_toArray,getElem!_pos l k h]
  simp[List.getD_eq_getElem?_getD,List.getElem?_eq_getElem h]
 ·rw[List.getElem!_toArray,getElem!_neg l k h]
  simp[List.getD_eq_getElem?_getD,List.getElem?_eq_none (Nat.le_of_not_lt h)]
  rfl
theorem I9(l:List UInt8)(i:Nat):Utf8.decode ⟨l.toArray⟩ i=Bj9 (l.drop i):=by
 have e:∀k,(l.drop i).getD k 0=l.getD (i+k) 0:=fun k=>by simp[List.getD_eq_getElem?_getD]
 rw[Lib.decode_at,O0,O0,O0,O0]
 unfold Bj9
 rw[List.length_drop,e,e,e,e]
 rfl
theorem U5(l:List UInt8):∀(n i:Nat) (acc:Array Value),Conv.runesFrom ⟨l.toArray⟩ n i acc=acc++((Rf n (l.drop i)).map fun r:Nat=>Value.int .i32 (r:Int)).toArray
 |0,i,acc=>by simp[Conv.runesFrom,Rf]
 |n+1,i,acc=>by
  simp only[Conv.runesFrom,Rf]
  have hsz:(⟨l.toArray⟩:ByteArray).size=l.length:=by simp[ByteArray.size]
  rw[hsz]
  by_cases h:i<l.length
  ·have hne:l.drop i≠[]:=fun e=>by
    have:=List.drop_eq_nil_iff.1 e
    omega
   rw[if_pos h,if_neg hne,I9]
   rw[U5 l n,List.drop_drop]
   simp
  ·rw[if_neg h,if_pos (List.drop_eq_nil_of_le (Nat.le_of_not_lt h))]
   simp
theorem Bbk(l:List UInt8):Conv.runesFrom ⟨l.toArray⟩ (⟨l.toArray⟩:ByteArray).size 0 #[]=((TP l).map fun r:Nat=>Value.int .i32 (r:Int)).toArray:=by
 rw[U5]
 have hsz:(⟨l.toArray⟩:ByteArray).size=l.length:=by simp[ByteArray.size]
 rw[hsz]
 simp[TP]
def BoG:List D->Bool
 | [.int .i32 _]=>true
 |_=>false
def Be3:List D->Int
 | [.int _ z]=>z
 |_=>0
def Bqw(n:Nat)(f:Nat->List D):Bool:=(List.range n).all fun i=>BoG (f i)
def G5(n:Nat)(f:Nat->List D):List Int:=(List.range n).map fun i=>Be3 (f i)
def Ben(l:List Int):List UInt8:=l.flatMap fun z=>(Utf8.encode z).data.toList
theorem BnA{r:List D}(h:BoG r=true):r=[.int .i32 (Be3 r)]:=by
 unfold BoG at h
 split at h
 ·rfl
 ·cases h
theorem Re(l:List Int):runesBytes l=⟨(Ben l).toArray⟩:=by
 have key:∀(l:List Int) (s:ByteArray),l.foldl (fun r n=>r++Utf8.encode n) s=s++⟨(Ben l).toArray⟩:=by
  intro l
  induction l with
  |nil =>
   intro s
   apply ByteArray.ext
   simp[Ben]
  |cons z l ih =>
   intro s
   rw[List.foldl_cons,ih]
   apply ByteArray.ext
   simp only[Ben,List.flatMap_cons,ByteArray.data_append,Array.append_assoc]
   congr 1
   apply Array.ext'
   simp
 unfold runesBytes
 rw[key]
 apply ByteArray.ext
 simp
def GB(tt:Nat->Option TI)(sd dd:TypeDesc)(x:D)(S:St)(K:D->St->Prop):Prop :=
 match x with
 |.int _ n=>match dd with
  |.int k=>K (.int k (k.wrap n)) S
  |.string=>K (.str (Utf8.encode n).data.toList) S
  |_=>False
 |.str s=>match sd,dd with
  |_,.string=>K (.str s) S
  |.string,.slice e=>match tt e with
   |some ei=>match Bgc ei.desc with
    |true=>Be ((TP s).length<=70368744177664) (∀t,K (.sl 1 (TP s).length (fun i=>[.int .i32 ((TP s).getD i 0:Nat)]) (.tok (Bm S.toks) t)) ⟨S.objs,(Bm S.toks,t)::S.toks⟩)
    |false=>BhY ei.desc/\Be (s.length<=9223372036854775807) (∀t,K (.sl 1 s.length (fun i=>[.int .u8 ((s.getD i 0).toNat:Int)]) (.tok (Bm S.toks) t)) ⟨S.objs,(Bm S.toks,t)::S.toks⟩)
   |none=>False
  |_,_=>False
 |.sl wd n f _=>match sd,dd with
  |.slice e,.string=>match tt e with
   |some ei=>match Bgc ei.desc with
    |true=>chk (decide (wd=1)&&Bqw n f) (K (.str (Ben (G5 n f))) S)
    |false=>BhY ei.desc/\chk (decide (wd=1)&&Cg n f) (K (.str (bytesOf n f)) S)
   |none=>False
  |_,_=>False
 |.ms k b o len _ _=>match sd,dd with
  |.slice e,.string=>match tt e with
   |some ei=>BhY ei.desc/\match Bt S.objs k with
    |some (x,.cells ds)=>x=b/\chk (((ds.drop o).take len).all byteB&&decide (((ds.drop o).take len).length=len)) (K (.str (((ds.drop o).take len).map byteOf)) S)
    |_=>False
   |none=>False
  |_,_=>False
 |_=>False
theorem UT{d:TypeDesc}(h:BhY d):d=.int .u8:=by
 unfold BhY at h
 split at h
 ·rfl
 ·exact h.elim
theorem Bbb(hT : TabOk P tt)(hs : Sat C (S.add F) w){src dst : Nat}{si di : TI}(h1 : tt src=some si)(h2 : tt dst=some di){x : D}{v : Value}(hx : Rep C x v)
  (h:GB tt si.desc di.desc x S K):Good P C F K X ((do pure (Next.value (<- convert src dst v)):Sem Next).run P w):=by
 have hu1:=Bz (w:=w) hT h1
 have hu2:=Bz (w:=w) hT h2
 have p1:=(hT _ _ h1).1
 have p2:=(hT _ _ h2).1
 unfold GB at h
 simp only[Bc] at h
 split at h
 ·rename_i k0 n
  simp only[Rep] at hx;subst hx
  split at h
  ·rename_i k hd;rw[hd] at hu2
   exact .of_val (v:=.int k (k.wrap n)) hs (by simp[convert,hu1,hu2,Conv.intToInt]) (by simp[Rep]) h
  ·rename_i hd;rw[hd] at hu2
   exact .of_val (v:=.string (Utf8.encode n)) hs (by simp[convert,hu1,hu2,Conv.intToString]) (by simp[Rep]) h
  ·exact h.elim
 ·rename_i s
  simp only[Rep] at hx;subst hx
  split at h
  ·rename_i hd;rw[hd] at hu2
   exact .of_val (v:=.string ⟨s.toArray⟩) hs (by cases hq:si.desc<;>simp_all[convert]) (by simp[Rep]) h
  ·rename_i e hd0 hd
   split at h
   ·rename_i ei he
    split at h
    ·rename_i hr32
     obtain ⟨h46,hk⟩:=h
     have p3:=(hT _ _ he).1
     rw[BdZ hr32] at p3
     rw[hd] at p2
     rw[hd0] at p1
     obtain ⟨tk,htk,htm,hte⟩:=hs.tok_free
     have hr:=run_runes_of_string (P:=P) w src dst e ⟨s.toArray⟩ p1 p2 p3
     rw[Bbk] at hr
     obtain ⟨L,hL⟩:∃L,TP s=L:=⟨_,rfl⟩
     rw[hL] at hr hk h46
     have hsz:((L.map fun r:Nat=>Value.int .i32 (r:Int)).toArray).size=L.length:=by simp
     rw[hsz] at hr
     have hr:=hr h46
     have hcap:L.length<=grownCap w L.length 0 e:=grownCap_ge w _ _ _
     have hml:L.length<=maxLen:=by simp only[maxLen];omega
     have hcm:grownCap w L.length 0 e<=maxLen:=grownCap_le_maxLen w _ _ e hml
     obtain ⟨row,hrow⟩:∃row,(L.map fun r:Nat=>Value.int .i32 (r:Int)).toArray++Array.replicate (grownCap w L.length 0 e-L.length) (Value.int .i32 0)=row:=⟨_,rfl⟩
     have hbs:row.size=grownCap w L.length 0 e*1:=by
      rw[<- hrow]
      simp;omega
     have hget:∀i,i<L.length->row[i]? =some (.int .i32 ((L.getD i 0:Nat):Int)):=by
      intro i hi
      rw[<- hrow,Array.getElem?_append_left (by simpa using hi)]
      simp[List.getD_eq_getElem?_getD,List.getElem?_eq_getElem hi]
     rw[hrow] at hr
     have hsat:=hs.drew.alloc_tok (n:=L.length) (wd:=1) row e (0,0)
      (.inl (by simp)) (Bm S.toks) htk htm (fun h=>(h hte).elim) hbs (fun i v hi hv=>by rw[hget i (by omega)] at hv;cases hv;rfl)
     refine .of_val' hr (hs.drew.grown_le _ _ _ htk) (Sat.cons_frame hsat) ?_ (hk tk)
     simp only[Rep]
     refine⟨_,_,_,rfl,⟨rfl,hcap,hcm,by simp,by simp,by simp[Ctx.grown]⟩,fun x hx i hi=>?_⟩
     cases hx
     refine⟨rfl,?_⟩
     simp only[RepCells,and_true]
     refine⟨.int .i32 ((L.getD i 0:Nat):Int),?_,by simp[Rep]⟩
     simp only[Ctx.grown,World.size_drew,if_true,Nat.zero_add,Nat.mul_one]
     rw[if_pos hi,hget i hi]
    obtain ⟨hu8,hml0,hk⟩:=h
    have p3:=(hT _ _ he).1
    rw[UT hu8] at p3
    rw[hd] at p2
    rw[hd0] at p1
    obtain ⟨tk,htk,htm,hte⟩:=hs.tok_free
    have hsz:(⟨s.toArray⟩:ByteArray).size=s.length:=by simp[ByteArray.size_mk']
    have hcap:s.length<=grownCap w s.length 0 e:=grownCap_ge w _ _ _
    have hr:=run_bytes_of_string (P:=P) w src dst e ⟨s.toArray⟩ p1 p2 p3
    rw[hsz] at hr
    have hml:s.length<=maxLen:=by simpa[maxLen] using hml0
    have hcm:grownCap w s.length 0 e<=maxLen:=grownCap_le_maxLen w _ _ e hml
    have hbs:(bytesRow ⟨s.toArray⟩ (grownCap w s.length 0 e)).size=grownCap w s.length 0 e*1:=by
     simp[bytesRow,hsz];omega
    have hget:∀i,i<s.length->(bytesRow ⟨s.toArray⟩ (grownCap w s.length 0 e))[i]? =some (.int .u8 ((s.getD i 0).toNat:Int)):=by
     intro i hi
     simp only[bytesRow]
     rw[Array.getElem?_append_left (by simpa using hi)]
     simp[List.getD_eq_getElem?_getD,List.getElem?_eq_getElem hi]
    have hsat:=hs.drew.alloc_tok (n:=s.length) (wd:=1) (bytesRow ⟨s.toArray⟩ (grownCap w s.length 0 e)) e ((bytesRow ⟨s.toArray⟩ (grownCap w s.length 0 e)).size,(bytesRow ⟨s.toArray⟩ (grownCap w s.length 0 e)).size+1)
     (.inr (Nat.le_refl _)) (Bm S.toks) htk htm (fun h=>(h hte).elim) hbs (fun i v hi hv=>by rw[hget i (by omega)] at hv;cases hv;rfl)
    refine .of_val' hr (hs.drew.grown_le _ _ _ htk) (Sat.cons_frame hsat) ?_ (hk tk)
    simp only[Rep]
    refine⟨_,_,_,rfl,⟨rfl,hcap,hcm,by simp,by simp,by simp[Ctx.grown]⟩,fun x hx i hi=>?_⟩
    cases hx
    refine⟨rfl,?_⟩
    simp only[RepCells,and_true]
    refine⟨.int .u8 ((s.getD i 0).toNat:Int),?_,by simp[Rep]⟩
    simp only[Ctx.grown,World.size_drew,if_true,Nat.zero_add,Nat.mul_one]
    rw[if_pos hi,hget i hi]
   ·exact h.elim
  ·exact h.elim
 ·rename_i wd n f m
  simp only[Rep] at hx
  obtain ⟨a,len,cap,rfl,hh,hrep⟩:=hx
  split at h
  ·rename_i e hd1 hd2
   split at h
   ·rename_i ei he
    split at h
    ·rename_i hr32
     obtain ⟨hwd,hk⟩:=Ba.1 h
     rw[Bool.and_eq_true] at hwd
     obtain ⟨hwd,hrb⟩:=hwd
     have hwd:wd=1:=of_decide_eq_true hwd
     subst hwd
     have p3:=(hT _ _ he).1
     rw[BdZ hr32] at p3
     rw[hd1] at p1;rw[hd2] at p2
     have hl:len=n:=hh.1
     subst hl
     cases a with
     |none =>
      have h0:len=0:=(hh.2.2.2.1 rfl).1
      subst h0
      exact .of_val (v:=.string .empty) hs (by
       have:=run_convert_runes_nil (P:=P) w src dst e 0 cap p1 p3 p2
       simp only[this];try rfl) (by simp[Rep,G5,Ben];rfl) hk
     |some a =>
      have hcell:∀j,j<(G5 len f).length->w.cell? (a.add j)=some (.int .i32 ((G5 len f).getD j 0)):=by
       intro j hj
       have hj:j<len:=by simpa[G5] using hj
       have hsp:=hh.2.2.2.2.1 a rfl (by have:=hh.2.1;omega)
       obtain ⟨b,o,sp⟩:=a
       simp only at hsp;subst hsp
       have hc:=(hrep _ rfl j hj).2
       have hrow:=BnA (List.all_eq_true.1 hrb j (List.mem_range.2 hj))
       rw[hrow] at hc
       simp only[RepCells,and_true] at hc
       obtain ⟨v,q1,q2⟩:=hc
       simp only[Rep] at q2;subst q2
       rw[Addr.add_mk]
       have:=hs.imm _ _ _ q1
       have e2:(G5 len f).getD j 0=Be3 (f j):=by simp[G5,List.getD_eq_getElem?_getD,hj]
       rw[e2]
       simpa using this
      have hlen:len<=(G5 len f).length:=by simp[G5]
      have hr:=run_convert_runes (P:=P) w src dst e a len cap (G5 len f) hlen p1 p3 p2 hcell
      have htk:(G5 len f).take len=G5 len f:=List.take_of_length_le (by simp[G5])
      rw[htk,Re] at hr
      exact .of_val (v:=.string ⟨(Ben (G5 len f)).toArray⟩) hs (by simp only[hr];try rfl) (by simp[Rep]) hk
    obtain ⟨hu8,h⟩:=h
    obtain ⟨hwd,hk⟩:=Ba.1 h
    rw[Bool.and_eq_true] at hwd
    obtain ⟨hwd,hrb⟩:=hwd
    obtain ⟨bs,hbs,rfl,hf⟩:∃bs,bytesOf n f=bs/\bs.length=n/\∀i,i<n->f i=[.int .u8 ((bs.getD i 0).toNat:Int)]:=⟨_,rfl,WD n f,fun i hi=>Bc3 hrb hi⟩
    rw[hbs] at hk
    have hwd:wd=1:=of_decide_eq_true hwd
    subst hwd
    have p3:=(hT _ _ he).1
    rw[UT hu8] at p3
    rw[hd1] at p1;rw[hd2] at p2
    have hl:len=bs.length:=hh.1
    subst hl
    cases a with
    |none =>
     have h0:bs=[]:=by have:=(hh.2.2.2.1 rfl).1;exact List.eq_nil_of_length_eq_zero this
     subst h0
     exact .of_val (v:=.string ⟨#[]⟩) hs (by rw[run_convert_bytes_string w src dst e _ _ _ p1 p3 p2];simp[Conv.bytesToString];rfl) (by simp[Rep]) hk
    |some a =>
     refine .of_val (v:=.string ⟨bs.toArray⟩) hs ?_ (by simp[Rep]) hk
     refine run_convert_bytes_back w src dst e _ cap bs p1 p3 p2 fun j hj=>?_
     have hsp:=hh.2.2.2.2.1 a rfl (by have:=hh.2.1;omega)
     obtain ⟨b,o,sp⟩:=a
     simp only at hsp;subst hsp
     have hc:=(hrep _ rfl j hj).2
     rw[hf j hj] at hc
     simp only[RepCells,and_true] at hc
     obtain ⟨v,q1,q2⟩:=hc
     simp only[Rep] at q2;subst q2
     rw[Addr.add_mk]
     have:=hs.imm _ _ _ q1
     simpa[List.getD_eq_getElem?_getD,List.getElem?_eq_getElem hj] using this
   ·exact h.elim
  ·exact h.elim
 ·rename_i k b o len cap wd
  simp only[Rep] at hx
  obtain ⟨rfl,_,_⟩:=hx
  split at h
  ·rename_i e hd1 hd2
   split at h
   ·rename_i ei he
    obtain ⟨hu8,h⟩:=h
    split at h
    ·rename_i x ds hg
     obtain ⟨rfl,h⟩:=h
     obtain ⟨hbb,hk⟩:=Ba.1 h
     rw[Bool.and_eq_true] at hbb
     obtain ⟨bs,hbs,rfl,hds⟩:∃bs,((ds.drop o).take len).map byteOf=bs/\bs.length=len/\(ds.drop o).take len=u8c bs:=⟨_,rfl,by rw[List.length_map];exact of_decide_eq_true hbb.2,U4 hbb.1⟩
     rw[hbs] at hk
     have p3:=(hT _ _ he).1
     rw[UT hu8] at p3
     rw[hd1] at p1;rw[hd2] at p2
     refine .of_val (v:=.string ⟨bs.toArray⟩) hs ?_ (by simp[Rep]) hk
     refine run_convert_bytes_back w src dst e _ cap bs p1 p3 p2 fun j hj=>?_
     have hd:(ds.drop o)[j]? =some (.int .u8 (bs[j].toNat:Int)):=by
      have:((ds.drop o).take bs.length)[j]? =some (.int .u8 (bs[j].toNat:Int)):=by rw[hds];simp[u8c,hj]
      rwa [List.getElem?_take_of_lt hj] at this
     obtain ⟨v,q1,q2⟩:=Gy hs hg o j _ hd
     simp only[Rep] at q2;subst q2
     rw[Addr.add_mk];exact q1
    ·exact h.elim
   ·exact h.elim
  ·exact h.elim
 ·exact h.elim
theorem T2{f : Nat}{ds : List D}{vs : Array Value}(hs : Sat C (S.add F) w)(hr : RepL C ds vs.toList)
  (h:ACalls P f ds S fun r S'=>match r with | .ret d=>K d S' | .pan d=>X d S'):Good P C F K X ((callFunc f vs).run P w):=by
 obtain ⟨fn,h1,h2,h3⟩:=h.1
 have hrun:(callFunc f vs).run P w=.ok (.enter f vs) w:=by
  simp only[callFunc,Sem.run_bind,run_program,Result.andThen_ok,h1,h2,h3,Bool.false_eq_true,if_false]
  rfl
 rw[hrun]
 exact⟨C,ds,S,.refl C,hr,hs,h⟩
theorem W0(hs:Sat C (S.add F) w){t:Nat}{d:D}{v:Value}(hx:Rep C (.iface t d) v)(h:X (.iface t d) S):Good P C F K X ((do pure (Next.value (<- Instr.panic v)):Sem Next).run P w):=by
 have hx':=hx
 simp only[Rep] at hx
 obtain ⟨y,rfl,_⟩:=hx
 simp[Instr.panic]
 exact⟨C,_,S,.refl C,hx',hs,h⟩
def Boe:List D->Bool
 | [.nilp,.sl _ _ _ m]=>match m with
  |.nil=>true
  |_=>false
 |_=>false
def BoO(T E kt t:Nat):AObj:=.bld T E (.sl 1 0 (fun _=>[]) (.tok kt t))
def Bka(T E:Nat)(z:List D)(S:St)(K:D->St->Prop):Prop :=
 chk (Boe z&&decide (E<1000000)) (∀y t,freshIn y S.objs->K (.ref (B2 S.objs) y 0) ⟨(B2 S.objs,y,BoO T E (Bm S.toks) t)::S.objs,(Bm S.toks,t)::S.toks⟩)
theorem BdC(hT : TabOk P tt)(hs : Sat C (S.add F) w){t E : Nat}{ti : TI}(ht : tt t=some ti)(old : Value)(h : Bka t E ti.zero S K) :
  Good P C F K X ((do pure (Next.value (<- Instr.alloc t true old)):Sem Next).run P w):=by
 obtain ⟨z,h1,_,h3⟩:=GW (P:=P) (w:=w) hT ht
 obtain ⟨hz,hk⟩:=Ba.1 h
 rw[Bool.and_eq_true,decide_eq_true_eq] at hz
 obtain ⟨hz,hE⟩:=hz
 have hr:=h3 C
 obtain ⟨wd,n,f,e⟩:∃wd n f,ti.zero=[.nilp,.sl wd n f .nil]:=by
  unfold Boe at hz
  split at hz
  ·split at hz
   ·exact⟨_,_,_,by assumption⟩
   ·cases hz
  ·cases hz
 rw[e] at hr
 simp only[RepL] at hr
 obtain ⟨v0,vs,e1,r0,v1,vs2,e2,r1,e3⟩:=hr
 subst e3
 have hzc:z.cells=#[v0,v1]:=by
  have:z.cells.toList=[v0,v1]:=by rw[e1,e2]
  rw[<- Array.toList_inj];exact this
 simp only[Rep] at r0 r1
 obtain ⟨a,len,cap,e4,hh,_⟩:=r1
 obtain ⟨ea,el,ec⟩:=hh.nil_a
 subst ea el ec
 obtain ⟨tk,htk,htm,hte⟩:=hs.tok_typed (e:=E+1) (by omega)
 have hs1:Sat (C.tokd tk .no) (St.add ⟨S.objs,(Bm S.toks,tk)::S.toks⟩ F) w:=Sat.cons_frame (hs.tok_no _ htk htm)
 have hs2:=hs1.alloc_own (.cells z.cells t) (BoO t E (Bm S.toks) tk) (B2 S.objs) fun w' hw=>⟨v0,v1,(0,0),by rw[hw,hzc],.inl rfl,.inl r0,(by
  rw[e4]
  simp only[Rep]
  exact⟨none,0,0,rfl,⟨rfl,Nat.le_refl _,by simp[maxLen],fun _=>⟨rfl,rfl⟩,fun _ _ h0=>absurd h0 (by omega),by simp[Ctx.tokd]⟩,fun _ _ i hi=>by omega⟩),hte⟩
 exact .of_val' (v:=.pointer (some ⟨w.heap.size,0,none⟩)) (w':=w.alloc (.cells z.cells t)) (C':=C.tokd tk .no) (S':=⟨(B2 S.objs,w.heap.size,BoO t E (Bm S.toks) tk)::S.objs,(Bm S.toks,tk)::S.toks⟩) (by simp[Instr.alloc,h1,newVar,newRow]) (Ctx.tokd_le htk) hs2 (by simp[Rep]) (hk _ _ hs.freshIn)
def Bn3:List D->Bool
 |.nilp::.sl _ _ _ m::_=>match m with
  |.nil=>true
  |_=>false
 |_=>false
def BpF(T E kt t:Nat)(ds:List D):AObj:=.bldx T E (.sl 1 0 (fun _=>[]) (.tok kt t)) ds
def BkP(T E:Nat)(z:List D)(S:St)(K:D->St->Prop):Prop :=
 chk (Bn3 z&&decide (E<1000000)) (∀y t,freshIn y S.objs->K (.ref (B2 S.objs) y 0) ⟨(B2 S.objs,y,BpF T E (Bm S.toks) t (z.drop 2))::S.objs,(Bm S.toks,t)::S.toks⟩)
theorem Bc7(hT : TabOk P tt)(hs : Sat C (S.add F) w){t E : Nat}{ti : TI}(ht : tt t=some ti)(old : Value)(h : BkP t E ti.zero S K) :
  Good P C F K X ((do pure (Next.value (<- Instr.alloc t true old)):Sem Next).run P w):=by
 obtain ⟨z,h1,_,h3⟩:=GW (P:=P) (w:=w) hT ht
 obtain ⟨hz,hk⟩:=Ba.1 h
 rw[Bool.and_eq_true,decide_eq_true_eq] at hz
 obtain ⟨hz,hE⟩:=hz
 have hr:=h3 C
 obtain ⟨wd,n,f,ds,e⟩:∃wd n f ds,ti.zero=.nilp::.sl wd n f .nil::ds:=by
  unfold Bn3 at hz
  split at hz
  ·split at hz
   ·exact⟨_,_,_,_,by assumption⟩
   ·cases hz
  ·cases hz
 rw[e] at hr hk
 simp only[RepL] at hr
 obtain ⟨v0,vs,e1,r0,v1,vs2,e2,r1,r2⟩:=hr
 have hzc:z.cells.toList=v0::v1::vs2:=by rw[e1,e2]
 simp only[Rep] at r0 r1
 obtain ⟨a,len,cap,e4,hh,_⟩:=r1
 obtain ⟨ea,el,ec⟩:=hh.nil_a
 subst ea el ec
 obtain ⟨tk,htk,htm,hte⟩:=hs.tok_typed (e:=E+1) (by omega)
 have hs1:Sat (C.tokd tk .no) (St.add ⟨S.objs,(Bm S.toks,tk)::S.toks⟩ F) w:=Sat.cons_frame (hs.tok_no _ htk htm)
 have hs2:=hs1.alloc_own (.cells z.cells t) (BpF t E (Bm S.toks) tk ds) (B2 S.objs) fun w' hw=>⟨z.cells,v0,v1,vs2,(0,0),hw,hzc,.inl rfl,.inl r0,(by
  rw[e4]
  simp only[Rep]
  exact⟨none,0,0,rfl,⟨rfl,Nat.le_refl _,by simp[maxLen],fun _=>⟨rfl,rfl⟩,fun _ _ h0=>absurd h0 (by omega),by simp[Ctx.tokd]⟩,fun _ _ i hi=>by omega⟩),RepL.mono (Ctx.tokd_le htk) _ _ r2,hte⟩
 exact .of_val' (v:=.pointer (some ⟨w.heap.size,0,none⟩)) (w':=w.alloc (.cells z.cells t)) (C':=C.tokd tk .no) (S':=⟨(B2 S.objs,w.heap.size,BpF t E (Bm S.toks) tk ds)::S.objs,(Bm S.toks,tk)::S.toks⟩) (by simp[Instr.alloc,h1,newVar,newRow]) (Ctx.tokd_le htk) hs2 (by simp[Rep]) (hk _ _ hs.freshIn)
def Bb4(T E:Nat)(z:List D)(S:St)(K:D->St->Prop):Prop:=match Nat.beq z.length 2 with
 |true=>Bka T E z S K
 |false=>BkP T E z S K
theorem Bbl(hT : TabOk P tt)(hs : Sat C (S.add F) w){t E : Nat}{ti : TI}(ht : tt t=some ti)(old : Value)(h : Bb4 t E ti.zero S K) :
  Good P C F K X ((do pure (Next.value (<- Instr.alloc t true old)):Sem Next).run P w):=by
 unfold Bb4 at h
 split at h
 ·exact BdC hT hs ht old h
 ·exact Bc7 hT hs ht old h
end
def BbT:TypeDesc->Option Nat
 |.slice e=>some e
 |_=>none
theorem Sat.freeze_end{C:Ctx}{S:St}{w:World}(H:Sat C S w){b n:Nat}{E:TypeId}(hb:C.w0.heap.size<=b)(hs:w.shape? b=some (E,n)):Sat C S (w.freeze ⟨b,n,none⟩ 1):=by
 obtain ⟨c,fz,hc,hn⟩:∃c fz,w.heap[b]? =some (.cells c E fz)/\c.size=n:=by
  unfold World.shape? at hs
  split at hs
  ·rename_i c elem fz hc
   simp only[Option.some.injEq,Prod.mk.injEq] at hs
   obtain ⟨rfl,h⟩:=hs
   exact⟨c,_,hc,h⟩
  ·cases hs
 subst hn
 obtain ⟨lo,hi⟩:=fz
 have hne:∀k,k≠b->(w.freeze ⟨b,c.size,none⟩ 1).heap[k]? =w.heap[k]? :=by
  intro k hk
  simp[World.freeze,Array.getElem?_modify,Ne.symm hk]
 obtain ⟨fz',hb',hth⟩:∃fz',(w.freeze ⟨b,c.size,none⟩ 1).heap[b]? =some (.cells c E fz')/\(Thawed c (lo,hi)->Thawed c fz'):=by
  refine⟨if lo=hi then (c.size,c.size+1) else (min lo c.size,max hi (c.size+1)),by simp[World.freeze,Array.getElem?_modify,hc],?_⟩
  intro ht
  split
  ·exact .inr (Nat.le_refl _)
  ·rename_i hne
   rcases ht with e | e
   ·exact (hne e).elim
   ·exact .inr (by simp only at e ⊢; omega)
 have hcell:∀a,(w.freeze ⟨b,c.size,none⟩ 1).cell? a=w.cell? a:=by
  intro a
  unfold World.cell?
  by_cases e:a.block=b
  ·rw[e,hb',hc]
  ·rw[hne _ e]
 have hobj:∀x o,ObjAt C w x o->ObjAt C (w.freeze ⟨b,c.size,none⟩ 1) x o:=by
  intro x o ho
  by_cases e:x=b
  ·subst e
   cases o with
   |cells ds =>
    obtain ⟨arr,E',fz,h1,h2,h3⟩:=ho
    rw[hc] at h1
    cases h1
    exact⟨c,E,fz',hb',hth h2,h3⟩
   |amap k es=>obtain ⟨en,cl,h1,_⟩:=ho;rw[hc] at h1;cases h1
   |sit s pos=>have h1:w.heap[x]? =_:=ho;rw[hc] at h1;cases h1
   |bld T E d =>
    obtain ⟨v0,v1,fz,h1,h2,h3,h4⟩:=ho
    rw[hc] at h1
    cases h1
    exact⟨v0,v1,fz',hb',hth h2,h3,h4⟩
   |bldx T E d ds =>
    obtain ⟨arr,v0,v1,vs,fz,h1,h2,h3,h4⟩:=ho
    rw[hc] at h1
    cases h1
    exact⟨c,v0,v1,vs,fz',hb',h2,hth h3,h4⟩
   |vec wd n cap f =>
    obtain ⟨a1,a2,arr,E',fz,h1,h2,h3⟩:=ho
    rw[hc] at h1
    cases h1
    exact⟨a1,a2,c,E,fz',hb',hth h2,h3⟩
  ·exact ho.of_heap (hne _ e)
 have hsz:(w.freeze ⟨b,c.size,none⟩ 1).heap.size=w.heap.size:=by simp[World.freeze]
 refine⟨H.below.trans ⟨rfl,rfl,rfl,by rw[hsz];exact Nat.le_refl _,fun k hk=>hne k (by omega)⟩,fun x o v h=>(hcell _).trans (H.imm x o v h),H.one,fun p hp=>?_,H.nodup,fun t ht=>?_,H.tnodup,H.tfin,H.tdist⟩
 ·obtain ⟨h1,h2,h3⟩:=H.objs p hp
  exact⟨h1,h2,hobj _ _ h3⟩
 ·obtain ⟨x,h1,h2,h3⟩:=H.toks t ht
  refine⟨x,h1,?_,h3⟩
  cases x with
  |no=>trivial
  | «at» b' n' cap wd =>
   obtain ⟨q1,q2,arr,E',fz,q3,q4,q5⟩:=h2
   refine⟨q1,q2,?_⟩
   by_cases e:b'=b
   ·subst e
    rw[hc] at q3
    cases q3
    exact⟨c,E,fz',hb',hth q4,q5⟩
   ·exact⟨arr,E',fz,(hne _ e).trans q3,q4,q5⟩
def MY(s d:Nat)(x:D):Bool :=
 match x with
 |.sl _ _ _ .full=>Nat.beq s d
 |_=>false
def M1(tt:Nat->Option TI)(sd:TypeDesc)(x:D)(S:St)(K:D->St->Prop):Prop :=
 match BbT sd with
 |some e=>match tt e with
  |some ei=>BhY ei.desc/\K x S
  |none=>False
 |none=>False
theorem BbF{P : Program}{tt : Nat -> Option TI}{C : Ctx}{F S : St}{w : World}{K X : D -> St -> Prop}(hT : TabOk P tt)(hs : Sat C (S.add F) w){src dst : Nat}{si di : TI}(h1 : tt src=some si)(h2 : tt dst=some di){x : D}{v : Value}(hx : Rep C x v)
  (h0:MY src dst x=true) (h:M1 tt si.desc x S K):Good P C F K X ((do pure (Next.value (<- convert src dst v)):Sem Next).run P w):=by
 unfold MY at h0
 split at h0
 ·rename_i wd n f
  have e:=Nat.eq_of_beq_eq_true h0
  subst e
  unfold M1 at h
  split at h
  ·rename_i e he
   split at h
   ·rename_i ei hei
    obtain ⟨hu8,hk⟩:=h
    have hd:si.desc=.slice e:=by
     unfold BbT at he
     split at he
     ·rename_i e' hd;injection he with he;rw[hd,he]
     ·cases he
    have hu1:=Bz (w:=w) hT h1
    rw[hd] at hu1
    have hu3:=Bz (P:=P) (w:=w) hT hei
    have hx0:=hx
    simp only[Rep] at hx
    obtain ⟨a,len,cap,rfl,hh,hrep⟩:=hx
    obtain ⟨_,y,rfl,hy⟩:=hh.2.2.2.2.2
    rw[UT hu8] at hu3
    by_cases hsh:∃E n,w.shape? y.block=some (E,n)
    ·obtain ⟨E,n',hsh⟩:=hsh
     refine .of_val' (w':=w.freeze ⟨y.block,n',none⟩ 1) ?_ (.refl C) (hs.freeze_end hy hsh) hx0 hk
     simp[convert,hu1,hu3,markStringish,shape,freeze,hsh,Sem.run]
    ·have hsh:w.shape? y.block=none:=by
      cases hq:w.shape? y.block with
      |none=>rfl
      |some p=>exact (hsh ⟨p.1,p.2,hq⟩).elim
     refine .of_val hs ?_ hx0 hk
     simp[convert,hu1,hu3,markStringish,shape,freeze,hsh,Sem.run]
   ·exact h.elim
  ·exact h.elim
 ·cases h0
theorem Ctx.grown_own{C:Ctx}{b k:Nat}{arr:Array Value}{t:Nat}{x:Tok}(h:C.tok t=none)(hi:∀o,C.imm b o=none)(h0:C.w0.heap.size<=b):C.le (C.grown b k arr t x) :=
 by
 refine⟨rfl,fun b' o v hv=>?_,fun s y hs=>?_,fun b' o hb=>by simp only[Ctx.grown];rw[if_neg (by omega)]⟩
 ·simp only[Ctx.grown]
  rw[if_neg]
  ·exact hv
  ·rintro rfl
   rw[hi o] at hv;cases hv
 ·simp only[Ctx.grown]
  split
  ·rename_i e;subst e;rw[h] at hs;cases hs
  ·exact hs
theorem Sat.settle{C : Ctx}{S F : St}{w : World}{k x wd n cap len t : Nat}{f : Nat -> List D}(H : Sat C (S.add F) w)(hg : Bt S.objs k=some (x, .vec wd n cap f))(hl : len<=n)
  (hok:∀i,i<len->(f i).all Gi=true) (k0:Nat) (h:C.tok t=none) (hm:∀p,p∈(S.add F).toks->p.2≠t) (hte:Eu t=0) :
  ∃arr:Array Value,(C.le (C.grown x (len*wd) arr t (.at x len cap wd))/\Sat (C.grown x (len*wd) arr t (.at x len cap wd)) (St.add ⟨Cr S.objs k,(k0,t)::S.toks⟩ F) w /\
   Rep (C.grown x (len*wd) arr t (.at x len cap wd)) (.sl wd len f (.tok k0 t)) (.slice (some ⟨x,0,none⟩) len cap))\/cap > maxLen:=by
 by_cases hcm:cap<=maxLen
 rotate_left
 ·exact⟨#[],.inr (by omega)⟩
 obtain ⟨l1,l2,e1,e2,e3⟩:=Gp hg
 have hmem:(k,x,AObj.vec wd n cap f)∈(S.add F).objs:=by simp[St.add,e1]
 obtain ⟨c1,c2,hc,hw,arr,E,fz,p3,p4,p5⟩:=H.objs _ hmem
 simp only at c1 c2 p3
 have hle:C.le (C.grown x (len*wd) arr t (.at x len cap wd)):=Ctx.grown_own h c2 c1
 have hvl:=CM hw hc
 have hal:arr.size=cap*wd:=by have:=RepL.length p5;rw[hvl] at this;simpa using this
 have hwl:∀i,i<len->(f i).length=wd:=fun i hi=>hw i (by omega)
 have hpre:=BdF (cap:=cap) hw hl
 have hold:RepL C ((List.range len).map f).flatten (arr.toList.take (len*wd)):=by
  have:=RepL.take (len*wd) p5
  rwa [hpre] at this
 have hone:∀v,v∈arr.toList.take (len*wd)->v.oneCell'=true:=by
  refine BjI hold ?_
  rw[List.all_flatten,List.all_map,List.all_eq_true]
  exact fun i hi=>hok i (List.mem_range.1 hi)
 have hsub:∀p,p∈(St.add ⟨Cr S.objs k,S.toks⟩ F).objs->p∈(S.add F).objs/\p.2.1≠x:=by
  have hnd:=H.nodup
  simp only[St.add,e2]
  simp only[St.add,e1,List.map_append,List.map_cons,List.append_assoc,List.cons_append] at hnd ⊢
  intro p hp
  rw[List.nodup_append] at hnd
  obtain ⟨n1,n2,n3⟩:=hnd
  rw[List.nodup_cons] at n2
  rcases List.mem_append.1 hp with q | q
  ·exact⟨List.mem_append.2 (.inl q),fun e=>n3 _ (List.mem_map_of_mem q) x (by simp) e⟩
  ·refine⟨List.mem_append.2 (.inr (List.mem_cons_of_mem _ q)),fun e=>n2.1 ?_⟩
   rw[<- List.map_append]
   exact e ▸ List.mem_map_of_mem q
 refine⟨arr,.inl ⟨hle,?_,?_⟩⟩
 ·refine⟨H.below,fun b o v hv=>?_,fun b o v hv=>?_,fun p hp=>?_,?_,fun s hs=>?_,?_,?_,fun s s' b1 n1 c1 wd1 b' n' c' wd' hs hs' hne e e'=>?_⟩
  ·simp only[Ctx.grown] at hv
   split at hv
   ·rename_i e;subst e
    split at hv
    ·rw[cell_of_heap p3];exact hv
    ·cases hv
   ·exact H.imm b o v hv
  ·simp only[Ctx.grown] at hv
   split at hv
   ·split at hv
    ·rename_i ho
     refine hone v (List.mem_iff_getElem?.2 ⟨o,?_⟩)
     rw[List.getElem?_take_of_lt ho]
     simpa using hv
    ·cases hv
   ·exact H.one b o v hv
  ·obtain ⟨q1,q2⟩:=hsub p hp
   obtain ⟨h1,h2,h3⟩:=H.objs p q1
   exact⟨h1,fun o=>by simp only[Ctx.grown];rw[if_neg q2];exact h2 o,h3.mono hle⟩
  ·have hnd:=H.nodup
   simp only[St.add,e2]
   simp only[St.add,e1,List.map_append,List.map_cons] at hnd ⊢
   refine hnd.sublist ?_
   exact ((List.Sublist.refl _).append (List.sublist_cons_self _ _)).append (List.Sublist.refl _)
  ·rcases List.mem_cons.1 hs with rfl | hs
   ·refine⟨.at x len cap wd,by simp[Ctx.grown],⟨c1,fun o ho=>?_,arr,E,fz,p3,p4,hal,fun h=>(h hte).elim⟩,fun p hp hcl=>?_⟩
    ·simp only[Ctx.grown,if_true];rw[if_neg (by omega)]
    ·exact (hsub p hp).2 hcl.symm
   ·obtain ⟨y,h1,h2,h3⟩:=H.toks s hs
    refine⟨y,hle.tok _ _ h1,?_,fun p hp=>h3 p (hsub p hp).1⟩
    cases y with
    |no=>trivial
    | «at» b n' c wd' =>
     have hne:¬b=x:=fun e=>h3 _ hmem e
     obtain ⟨k1,k2,arr',E',fz',k3,k4⟩:=h2
     exact⟨k1,fun o ho=>by simp only[Ctx.grown];rw[if_neg hne];exact k2 o ho,arr',E',fz',k3,k4⟩
  ·have:=H.tnodup
   simp only[St.add,List.cons_append,List.map_cons,List.nodup_cons] at this ⊢
   exact⟨fun hx=>(let ⟨p,hp,e⟩:=List.mem_map.1 hx;hm p hp e),this⟩
  ·obtain ⟨N,hN⟩:=H.tfin
   exact⟨max N (t+1),fun s hs=>by simp only[Ctx.grown];rw[if_neg (by omega)];exact hN s (by omega)⟩
  ·have key:∀(s:Nat×Nat) b n c wd,s∈(S.add F).toks->C.tok s.2=some (.at b n c wd)->b≠x:=fun s b n c wd hs e=>by
    obtain ⟨y,h1,_,h3⟩:=H.toks s hs
    rw[e] at h1;cases h1
    exact fun e=>h3 _ hmem e
   have hs:s∈(k0,t)::(S.add F).toks:=hs
   have hs':s'∈(k0,t)::(S.add F).toks:=hs'
   simp only[Ctx.grown] at e e'
   split at e
   ·rename_i q
    cases e
    split at e'
    ·rename_i q'; exact (hne (q.trans q'.symm)).elim
    ·rename_i q'
     exact fun eb=>key s' _ _ _ _ ((List.mem_cons.1 hs').resolve_left (fun e=>q' (by rw[e]))) e' eb.symm
   ·rename_i q
    have m1:s∈(S.add F).toks:=(List.mem_cons.1 hs).resolve_left (fun e=>q (congrArg Prod.snd e))
    split at e'
    ·cases e'
     exact key s _ _ _ _ m1 e
    ·rename_i q'
     exact H.tdist s s' b1 n1 c1 wd1 b' n' c' wd' m1 ((List.mem_cons.1 hs').resolve_left (fun e=>q' (congrArg Prod.snd e))) hne e e'
 ·rw[Wm]
  refine⟨_,_,_,rfl,⟨by simp,by simp only[List.length_map,List.length_range];omega,hcm,by simp,by simp,by simp[Ctx.grown]⟩,fun y hy=>?_⟩
  cases hy
  refine RepRows.unflat ?_ fun r hr=>?_
  ·refine RepCells.ofL (RepL.mono hle _ _ hold) fun i v hi=>?_
   have hi':i<len*wd:=by
    have:=(List.getElem?_eq_some_iff.1 hi).1
    rw[List.length_take] at this;omega
   rw[List.getElem?_take_of_lt hi'] at hi
   simp only[Ctx.grown,if_true,Nat.zero_add]
   rw[if_pos hi']
   simpa using hi
  ·obtain ⟨i,hi,rfl⟩:=List.mem_map.1 hr
   exact hwl i (List.mem_range.1 hi)
def Weak(d d':D):Prop:=∀C v,Rep C d v->Rep C d' v
theorem Weak.refl(d:D):Weak d d:=fun _ _ h=>h
def BE:Mode->Mode->Prop
 |_,.any=>True
 |.nil,.nil=>True
 |.full,.full=>True
 |.tok _ t,.tok _ t'=>t=t'
 |_,_=>False
mutual
/-- A condition that reckons itself and is enough. -/
def Bg:D->D->Prop
 |_,.unk=>True
 |.int k a,.int k' b=>chk (kEq k k') (a=b)
 |.bool a,.bool b=>a=b
 |.str a,.str b=>a=b
 |.nilp,.nilp=>True
 |.nmap,.nmap=>True
 |.nilf,.nilf=>True
 |.nili,.nili=>True
 |.ref _ x o,.ref _ x' o'=>chk (decide (o=o')) (x=x')
 |.ms _ x o l c w,.ms _ x' o' l' c' w'=>chk (decide (w=w')) (x=x'/\o=o'/\l=l'/\c=c')
 |.vs _ x l c w,.vs _ x' l' c' w'=>chk (decide (w=w')) (x=x'/\l=l'/\c=c')
 |.er _ x i w o,.er _ x' i' w' o'=>chk (decide (w=w')&&decide (o=o')) (x=x'/\i=i')
 |.map _ x,.map _ x'=>x=x'
 |.sl w n f m,.sl w' n' f' m'=>chk (decide (w=w')) (n=n'/\(∀i,i<n->f i=f' i)/\BE m m')
 |.agg cs,.agg cs'=>Br cs cs'
 |.tup cs,.tup cs'=>Br cs cs'
 |.iface t d,.iface t' d'=>t=t'/\Bg d d'
 |d,d'=>d=d'
def Br:List D->List D->Prop
 | [],[]=>True
 |d::ds,d'::ds'=>Bg d d'/\Br ds ds'
 |_,_=>False
end
theorem Oo{C:Ctx}{w n:Nat}{m m':Mode}(h:BE m m'){a:Option Addr}{len cap:Nat}(H:HeadOk C w n m a len cap):HeadOk C w n m' a len cap:=by
 obtain ⟨h1,h2,h3,h4,h5,h6⟩:=H
 refine⟨h1,h2,h3,h4,h5,?_⟩
 cases m' with
 |any=>trivial
 |nil=>cases m<;>simp_all[BE]
 |full=>cases m<;>simp_all[BE]
 |tok k t=>cases m<;>simp_all[BE]
mutual
theorem Bq:∀(d d':D),Bg d d'->∀C v,Rep C d v->Rep C d' v
 |d,d',h,C,v,H=>by
  unfold Bg at h
  split at h
  ·simp[Rep]
  ·obtain ⟨hk,rfl⟩:=Ba.1 h
   have hk:=of_decide_eq_true hk
   subst hk;exact H
  ·subst h;exact H
  ·subst h;exact H
  ·exact H
  ·exact H
  ·exact H
  ·exact H
  ·obtain ⟨ho,rfl⟩:=Ba.1 h
   have ho:=of_decide_eq_true ho
   subst ho;exact H
  ·obtain ⟨_,rfl,rfl,rfl,rfl⟩:=Ba.1 h;exact H
  ·obtain ⟨_,rfl,rfl,rfl⟩:=Ba.1 h;exact H
  ·obtain ⟨hc,rfl,rfl⟩:=Ba.1 h
   simp only[Bool.and_eq_true,decide_eq_true_eq] at hc
   obtain ⟨rfl,rfl⟩:=hc
   exact H
  ·subst h;exact H
  ·rename_i w n f m w' n' f' m'
   obtain ⟨hw,rfl,hf,hm⟩:=Ba.1 h
   have hw:w=w':=of_decide_eq_true hw
   subst hw
   simp only[Rep] at H ⊢
   obtain ⟨a,len,cap,e,hh,hr⟩:=H
   exact⟨a,len,cap,e,Oo hm hh,fun x hx i hi=>by rw[<- hf i hi];exact hr x hx i hi⟩
  ·rename_i cs cs'
   simp only[Rep] at H ⊢
   obtain ⟨vs,e,r⟩:=H
   exact⟨vs,e,B5 cs cs' h C _ r⟩
  ·rename_i cs cs'
   simp only[Rep] at H ⊢
   obtain ⟨vs,e,r⟩:=H
   exact⟨vs,e,B5 cs cs' h C _ r⟩
  ·rename_i t d t' d'
   obtain ⟨rfl,h⟩:=h
   simp only[Rep] at H ⊢
   obtain ⟨x,e,r⟩:=H
   exact⟨x,e,Bq d d' h C x r⟩
  ·subst h;exact H
theorem B5:∀(ds ds':List D),Br ds ds'->∀C vs,RepL C ds vs->RepL C ds' vs
 | [],[],_,_,_,H=>H
 |d::ds,d'::ds',h,C,vs,H=>by
  simp only[Br] at h
  simp only[RepL] at H ⊢
  obtain ⟨x,xs,e,r1,r2⟩:=H
  exact⟨x,xs,e,Bq d d' h.1 C x r1,B5 ds ds' h.2 C xs r2⟩
 | [],_::_,h,_,_,_=>by simp[Br] at h
 |_::_,[],h,_,_,_=>by simp[Br] at h
end
def Ot:D->Bool
 |.sl _ _ _ (.tok _ _)=>true
 |_=>false
theorem Bal{E:Nat}{d d':D}(ht:Ot d'=true)(h:Bg d d')(hb:Bbf E d):Bbf E d':=by
 unfold Ot at ht
 split at ht
 ·rename_i w n f k t
  unfold Bbf at hb
  split at hb
  ·unfold Bg at h
   obtain ⟨_,_,_,h⟩:=Ba.1 h
   simp only[BE] at h
   subst h
   exact hb
  ·exact hb.elim
 ·cases ht
def CT:AObj->AObj->Prop
 |.cells ds,.cells ds'=>Br ds ds'
 |.sit s p,.sit s' p'=>s=s'/\p=p'
 |.amap k es,.amap k' es'=>chk (kEq k k') (es=es')
 |.bld T E d,.bld T' E' d'=>chk (decide (T=T')&&decide (E=E')&&Ot d') (Bg d d')
 |.bldx T E d ds,.bldx T' E' d' ds'=>chk (decide (T=T')&&decide (E=E')&&Ot d') (Bg d d'/\Br ds ds')
 |.vec w n c f,.vec w' n' c' f'=>chk (decide (w=w')) (n=n'/\c=c'/\∀i,i<n->f i=f' i)
 |o,o'=>o=o'
theorem Ww{C:Ctx}{w:World}{x:Nat}{o o':AObj}(h:CT o o')(H:ObjAt C w x o):ObjAt C w x o':=by
 unfold CT at h
 split at h
 ·rename_i ds ds'
  obtain ⟨arr,E,fz,h1,h2,h3⟩:=H
  exact⟨arr,E,fz,h1,h2,B5 _ _ h C _ h3⟩
 ·obtain ⟨rfl,rfl⟩:=h;exact H
 ·obtain ⟨hk,rfl⟩:=Ba.1 h
  have hk:=of_decide_eq_true hk
  subst hk;exact H
 ·rename_i T E d T' E' d'
  obtain ⟨hk,hd⟩:=Ba.1 h
  simp only[Bool.and_eq_true,decide_eq_true_eq] at hk
  obtain ⟨⟨rfl,rfl⟩,ht⟩:=hk
  obtain ⟨v0,v1,fz,h1,h2,h3,h4,h5⟩:=H
  exact⟨v0,v1,fz,h1,h2,h3,Bq _ _ hd C _ h4,Bal ht hd h5⟩
 ·rename_i T E d ds T' E' d' ds'
  obtain ⟨hk,hd,hl⟩:=Ba.1 h
  simp only[Bool.and_eq_true,decide_eq_true_eq] at hk
  obtain ⟨⟨rfl,rfl⟩,ht⟩:=hk
  obtain ⟨arr,v0,v1,vs,fz,h1,h2,h3,h4,h5,h6,h7⟩:=H
  exact⟨arr,v0,v1,vs,fz,h1,h2,h3,h4,Bq _ _ hd C _ h5,B5 _ _ hl C _ h6,Bal ht hd h7⟩
 ·rename_i w n c f w' n' c' f'
  obtain ⟨hw,rfl,rfl,hf⟩:=Ba.1 h
  have hw:w=w':=of_decide_eq_true hw
  subst hw
  obtain ⟨h1,h2,h3⟩:=H
  have e:Cj w n c f=Cj w n c f':=by
   simp only[Cj]
   congr 2
   exact List.map_congr_left fun i hi=>hf i (List.mem_range.1 hi)
  exact⟨h1,fun i hi=>hf i hi ▸ h2 i hi,e ▸ h3⟩
 ·subst h;exact H
def leO:List (Nat×Nat×AObj)->List (Nat×Nat×AObj)->Prop
 | [],_=>True
 |(k,x,o)::r,l=>match Bt l k with
  |some (y,o')=>y=x/\CT o' o/\leO r l
  |none=>False
def leT:List (Nat×Nat)->List (Nat×Nat)->Prop
 | [],_=>True
 |(k,t)::r,l=>match Mf l k with
  |some t'=>t'=t/\leT r l
  |none=>False
def nodupB:List Nat->Bool
 | []=>true
 |k::r=>!r.contains k&&nodupB r
def leS(S' S:St):Prop:=chk (nodupB (S'.objs.map (·.1))&&nodupB (S'.toks.map (·.1))) (leO S'.objs S.objs/\leT S'.toks S.toks)
theorem Ez:∀ {l:List Nat},nodupB l=true->l.Nodup
 | [],_=>List.nodup_nil
 |k::r,h=>by
  simp only[nodupB,Bool.and_eq_true,Bool.not_eq_true'] at h
  exact List.nodup_cons.2 ⟨by simpa using h.1,Ez h.2⟩
theorem Bb0:∀ {l' l:List (Nat×Nat×AObj)},leO l' l->∀p,p∈l'->∃o',Bt l p.1=some (p.2.1,o')/\CT o' p.2.2
 | [],_,_,p,hp=>by cases hp
 |(k,x,o)::r,l,h,p,hp=>by
  simp only[leO] at h
  split at h
  ·rename_i y o' hg
   obtain ⟨rfl,h1,h2⟩:=h
   rcases List.mem_cons.1 hp with rfl | hp
   ·exact⟨o',hg,h1⟩
   ·exact Bb0 h2 p hp
  ·exact h.elim
theorem Bbj:∀ {l' l:List (Nat×Nat)},leT l' l->∀p,p∈l'->Mf l p.1=some p.2
 | [],_,_,p,hp=>by cases hp
 |(k,t)::r,l,h,p,hp=>by
  simp only[leT] at h
  split at h
  ·rename_i t' hg
   obtain ⟨rfl,h2⟩:=h
   rcases List.mem_cons.1 hp with rfl | hp
   ·exact hg
   ·exact Bbj h2 p hp
  ·exact h.elim
theorem EB{α:Type}:∀ {l:List α} (f g:α->Nat),(l.map f).Nodup->(∀a b,a∈l->b∈l->g a=g b->f a=f b)->(l.map g).Nodup
 | [],_,_,_,_=>by simp
 |a::l,f,g,h,hi=>by
  simp only[List.map_cons,List.nodup_cons] at h ⊢
  refine⟨fun hm=>?_,EB f g h.2 fun x y hx hy=>hi x y (by simp[hx]) (by simp[hy])⟩
  obtain ⟨b,hb,e⟩:=List.mem_map.1 hm
  exact h.1 (List.mem_map.2 ⟨b,hb,(hi a b (by simp) (by simp[hb]) e.symm).symm⟩)
theorem Sat.leS{C:Ctx}{S S' F:St}{w:World}(H:Sat C (S.add F) w)(h:leS S' S):Sat C (S'.add F) w:=by
 obtain ⟨hc,hO,hT⟩:=Ba.1 h
 rw[Bool.and_eq_true] at hc
 have n1:=Ez hc.1
 have n2:=Ez hc.2
 -- every object of S' is one of S
 have ho:∀p,p∈S'.objs->∃q,q∈S.objs/\q.1=p.1/\q.2.1=p.2.1/\CT q.2.2 p.2.2:=by
  intro p hp
  obtain ⟨o',hg,hw⟩:=Bb0 hO p hp
  obtain ⟨l1,l2,e,_⟩:=ER hg
  exact⟨(p.1,p.2.1,o'),by rw[e];simp,rfl,rfl,hw⟩
 have ht:∀p,p∈S'.toks->p∈S.toks:=by
  intro p hp
  obtain ⟨l1,l2,e,_⟩:=I0 (Bbj hT p hp)
  rw[e];simp
 have hnd:=H.nodup
 have htd:=H.tnodup
 simp only[St.add,List.map_append] at hnd htd
 rw[List.nodup_append] at hnd htd
 -- in S a block has one tag
 have inj:∀ {l:List (Nat×Nat×AObj)},(l.map (·.2.1)).Nodup->∀a b,a∈l->b∈l->a.2.1=b.2.1->a=b:=by
  intro l
  induction l with
  |nil=>intro _ a b ha;cases ha
  |cons p l ih =>
   intro hn a b ha hb e
   simp only[List.map_cons,List.nodup_cons] at hn
   rcases List.mem_cons.1 ha with q1 | q1<;>rcases List.mem_cons.1 hb with q2 | q2
   ·rw[q1,q2]
   ·exact (hn.1 (List.mem_map.2 ⟨b,q2,by rw[<- e,q1]⟩)).elim
   ·exact (hn.1 (List.mem_map.2 ⟨a,q1,by rw[e,q2]⟩)).elim
   ·exact ih hn.2 a b q1 q2 e
 have injT:∀ {l:List (Nat×Nat)},(l.map (·.2)).Nodup->∀a b,a∈l->b∈l->a.2=b.2->a=b:=by
  intro l
  induction l with
  |nil=>intro _ a b ha;cases ha
  |cons p l ih =>
   intro hn a b ha hb e
   simp only[List.map_cons,List.nodup_cons] at hn
   rcases List.mem_cons.1 ha with q1 | q1<;>rcases List.mem_cons.1 hb with q2 | q2
   ·rw[q1,q2]
   ·exact (hn.1 (List.mem_map.2 ⟨b,q2,by rw[<- e,q1]⟩)).elim
   ·exact (hn.1 (List.mem_map.2 ⟨a,q1,by rw[e,q2]⟩)).elim
   ·exact ih hn.2 a b q1 q2 e
 refine⟨H.below,H.imm,H.one,?_,?_,?_,?_,H.tfin,?_⟩
 ·intro p hp
  rcases List.mem_append.1 hp with hp | hp
  ·obtain ⟨q,hq,_,e2,hw⟩:=ho p hp
   obtain ⟨b1,b2,b3⟩:=H.objs q (by simp[St.add,hq])
   rw[e2] at b1 b2 b3
   exact⟨b1,b2,Ww hw b3⟩
  ·exact H.objs p (by simp[St.add,hp])
 ·simp only[St.add,List.map_append]
  rw[List.nodup_append]
  refine⟨EB (fun q:Nat×Nat×AObj=>q.1) (fun q:Nat×Nat×AObj=>q.2.1) n1 ?_,hnd.2.1,?_⟩
  ·intro a b ha hb e
   obtain ⟨qa,h1,h2,h3,_⟩:=ho a ha
   obtain ⟨qb,k1,k2,k3,_⟩:=ho b hb
   have:=inj hnd.1 qa qb h1 k1 (h3.trans (e.trans k3.symm))
   rw[<- h2,<- k2,this]
  ·intro x hx y hy
   obtain ⟨p,hp,rfl⟩:=List.mem_map.1 hx
   obtain ⟨q,hq,_,e2,_⟩:=ho p hp
   rw[<- e2]
   exact hnd.2.2 _ (List.mem_map.2 ⟨q,hq,rfl⟩) y hy
 ·intro t htm
  have hm:t∈(S.add F).toks:=by
   rcases List.mem_append.1 htm with h | h
   ·simp[St.add,ht t h]
   ·simp[St.add,h]
  obtain ⟨x,k1,k2,k3⟩:=H.toks t hm
  refine⟨x,k1,k2,fun p hp=>?_⟩
  rcases List.mem_append.1 hp with hp | hp
  ·obtain ⟨q,hq,_,e2,_⟩:=ho p hp
   rw[<- e2];exact k3 q (by simp[St.add,hq])
  ·exact k3 p (by simp[St.add,hp])
 ·simp only[St.add,List.map_append]
  rw[List.nodup_append]
  refine⟨EB (fun q:Nat×Nat=>q.1) (fun q:Nat×Nat=>q.2) n2 ?_,htd.2.1,?_⟩
  ·intro a b ha hb e
   rw[injT htd.1 a b (ht a ha) (ht b hb) e]
  ·intro x hx y hy
   obtain ⟨p,hp,rfl⟩:=List.mem_map.1 hx
   exact htd.2.2 _ (List.mem_map.2 ⟨p,ht p hp,rfl⟩) y hy
 ·intro t t' b n c wd b' n' c' wd' h1 h2
  have m:∀t,t∈(S'.add F).toks->t∈(S.add F).toks:=by
   intro t htm
   rcases List.mem_append.1 htm with h | h
   ·simp[St.add,ht t h]
   ·simp[St.add,h]
  exact H.tdist t t' b n c wd b' n' c' wd' (m t h1) (m t' h2)
def St.less(S T:St):St:=⟨S.objs.filter fun p=>!(T.objs.map (·.1)).contains p.1,S.toks.filter fun p=>!(T.toks.map (·.1)).contains p.1⟩
theorem Sat.split{C:Ctx}{S T F:St}{w:World}(H:Sat C (S.add F) w)(h:Ab.leS T S):Sat C ((T.add (S.less T)).add F) w:=by
 obtain ⟨hc,hO,hT⟩:=Ba.1 h
 rw[Bool.and_eq_true] at hc
 have n1:=Ez hc.1
 have n2:=Ez hc.2
 have ho:∀p,p∈T.objs->∃q,q∈S.objs/\q.1=p.1/\q.2.1=p.2.1/\CT q.2.2 p.2.2:=by
  intro p hp
  obtain ⟨o',hg,hw⟩:=Bb0 hO p hp
  obtain ⟨l1,l2,e,_⟩:=ER hg
  exact⟨(p.1,p.2.1,o'),by rw[e];simp,rfl,rfl,hw⟩
 have ht:∀p,p∈T.toks->p∈S.toks:=by
  intro p hp
  obtain ⟨l1,l2,e,_⟩:=I0 (Bbj hT p hp)
  rw[e];simp
 have hgo:∀p,p∈(S.less T).objs->p∈S.objs/\∀q,q∈T.objs->q.1≠p.1:=by
  intro p hp
  obtain ⟨h1,h2⟩:=List.mem_filter.1 hp
  refine⟨h1,fun q hq e=>?_⟩
  simp only[Bool.not_eq_true',List.contains_eq_mem,decide_eq_false_iff_not] at h2
  exact h2 (List.mem_map.2 ⟨q,hq,e⟩)
 have hgt:∀p,p∈(S.less T).toks->p∈S.toks/\∀q,q∈T.toks->q.1≠p.1:=by
  intro p hp
  obtain ⟨h1,h2⟩:=List.mem_filter.1 hp
  refine⟨h1,fun q hq e=>?_⟩
  simp only[Bool.not_eq_true',List.contains_eq_mem,decide_eq_false_iff_not] at h2
  exact h2 (List.mem_map.2 ⟨q,hq,e⟩)
 have hnd:=H.nodup
 have htd:=H.tnodup
 simp only[St.add,List.map_append] at hnd htd
 rw[List.nodup_append] at hnd htd
 have inj:∀ {γ:Type} {f:γ->Nat} {l:List γ},(l.map f).Nodup->∀a b,a∈l->b∈l->f a=f b->a=b:=by
  intro γ f l
  induction l with
  |nil=>intro _ a b ha;cases ha
  |cons p l ih =>
   intro hn a b ha hb e
   simp only[List.map_cons,List.nodup_cons] at hn
   rcases List.mem_cons.1 ha with q1 | q1<;>rcases List.mem_cons.1 hb with q2 | q2
   ·rw[q1,q2]
   ·exact (hn.1 (List.mem_map.2 ⟨b,q2,by rw[<- e,q1]⟩)).elim
   ·exact (hn.1 (List.mem_map.2 ⟨a,q1,by rw[e,q2]⟩)).elim
   ·exact ih hn.2 a b q1 q2 e
 have hblk:∀p,p∈(T.add (S.less T)).objs->∃q,q∈S.objs/\q.2.1=p.2.1:=by
  intro p hp
  rcases List.mem_append.1 hp with hp | hp
  ·obtain ⟨q,h1,_,h3,_⟩:=ho p hp
   exact⟨q,h1,h3⟩
  ·exact⟨p,(hgo p hp).1,rfl⟩
 have htok:∀t,t∈((T.add (S.less T)).add F).toks->t∈(S.add F).toks:=by
  intro t htm
  simp only[St.add,List.append_assoc,List.mem_append] at htm ⊢
  rcases htm with h | h | h
  ·exact .inl (ht t h)
  ·exact .inl (hgt t h).1
  ·exact .inr h
 refine⟨H.below,H.imm,H.one,?_,?_,?_,?_,H.tfin,?_⟩
 ·intro p hp
  rcases List.mem_append.1 hp with hp | hp
  ·rcases List.mem_append.1 hp with hp | hp
   ·obtain ⟨q,hq,_,e2,hw⟩:=ho p hp
    obtain ⟨b1,b2,b3⟩:=H.objs q (by simp[St.add,hq])
    rw[e2] at b1 b2 b3
    exact⟨b1,b2,Ww hw b3⟩
   ·exact H.objs p (by simp[St.add,(hgo p hp).1])
  ·exact H.objs p (by simp[St.add,hp])
 ·show (((T.objs++(S.less T).objs)++F.objs).map (·.2.1)).Nodup
  rw[List.map_append,List.nodup_append]
  refine⟨?_,hnd.2.1,?_⟩
  ·rw[List.map_append,List.nodup_append]
   refine⟨EB (fun q:Nat×Nat×AObj=>q.1) (fun q:Nat×Nat×AObj=>q.2.1) n1 ?_,(List.filter_sublist.map _).nodup hnd.1,?_⟩
   ·intro a b ha hb e
    obtain ⟨qa,h1,h2,h3,_⟩:=ho a ha
    obtain ⟨qb,k1,k2,k3,_⟩:=ho b hb
    have:=inj hnd.1 qa qb h1 k1 (h3.trans (e.trans k3.symm))
    rw[<- h2,<- k2,this]
   ·intro x hx y hy e
    obtain ⟨p,hp,rfl⟩:=List.mem_map.1 hx
    obtain ⟨q,hq,rfl⟩:=List.mem_map.1 hy
    obtain ⟨qa,h1,h2,h3,_⟩:=ho p hp
    have:=inj hnd.1 qa q h1 (hgo q hq).1 (h3.trans e)
    exact (hgo q hq).2 p hp (by rw[<- h2,this])
  ·intro x hx y hy
   obtain ⟨p,hp,rfl⟩:=List.mem_map.1 hx
   obtain ⟨q,hq,e2⟩:=hblk p hp
   rw[<- e2]
   exact hnd.2.2 _ (List.mem_map.2 ⟨q,hq,rfl⟩) y hy
 ·intro t htm
  obtain ⟨x,k1,k2,k3⟩:=H.toks t (htok t htm)
  refine⟨x,k1,k2,fun p hp=>?_⟩
  rcases List.mem_append.1 hp with hp | hp
  ·obtain ⟨q,hq,e2⟩:=hblk p hp
   rw[<- e2];exact k3 q (by simp[St.add,hq])
  ·exact k3 p (by simp[St.add,hp])
 ·show (((T.toks++(S.less T).toks)++F.toks).map (·.2)).Nodup
  rw[List.map_append,List.nodup_append]
  refine⟨?_,htd.2.1,?_⟩
  ·rw[List.map_append,List.nodup_append]
   refine⟨EB (fun q:Nat×Nat=>q.1) (fun q:Nat×Nat=>q.2) n2 ?_,(List.filter_sublist.map _).nodup htd.1,?_⟩
   ·intro a b ha hb e
    rw[inj htd.1 a b (ht a ha) (ht b hb) e]
   ·intro x hx y hy e
    obtain ⟨p,hp,rfl⟩:=List.mem_map.1 hx
    obtain ⟨q,hq,rfl⟩:=List.mem_map.1 hy
    have:=inj htd.1 p q (ht p hp) (hgt q hq).1 e
    exact (hgt q hq).2 p hp (by rw[this])
  ·intro x hx y hy
   obtain ⟨p,hp,rfl⟩:=List.mem_map.1 hx
   refine htd.2.2 _ (List.mem_map.2 ⟨p,?_,rfl⟩) y hy
   rcases List.mem_append.1 hp with h | h
   ·exact ht p h
   ·exact (hgt p h).1
 ·intro t t' b n c wd b' n' c' wd' h1 h2
  exact H.tdist t t' b n c wd b' n' c' wd' (htok t h1) (htok t' h2)
theorem Bl0{S S':St}(h:Ab.leS S' S):StTo S S':=fun _ _ _ H=>H.leS h
def ConOk(P:Program)(con:Nat->List D->St->Option FnSpec):Prop :=
 ∀k ds S A,con k ds S=some A->(∀x,A.pre x->ACalls P k (A.args x) (A.st x) (SpecR A x))/\(∀x,A.fit=some x->A.pre x->Br ds (A.args x)/\leS (A.st x) S)/\(A.all=true->∀x,A.pre x->Br ds (A.args x)/\A.st x=S)
end Go.Ab
