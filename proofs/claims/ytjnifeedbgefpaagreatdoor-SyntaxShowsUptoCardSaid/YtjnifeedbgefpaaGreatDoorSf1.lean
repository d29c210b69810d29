/- Functions of the given program and what each of them computes: lemmas towards the statement, their conditions stated with each of them. -/
import Derived.Test.YtjnifeedbgefpaaGreatDoorS4
import Derived.ProofKit
import Derived.WalkKit
import Derived.OpenShut
namespace Go.Ab
open Go Go.RowKit
theorem ctx0_imm{W:World}{hG:G0 W}{b o:Nat}{v:Value}(h:W.cell? ⟨b,o,none⟩=some v)(h1:v.oneCell'=true):(ctx0 W hG).imm b o=some v:=by
 simp[ctx0,h,h1]
variable {P:Program} {W:World}
theorem wOk_all{H:Type}{P:Program}{e:TypeId}:∀ {l:List (DataW H)},(∀x∈DataW.weightsAll P e l,x≤maxB)→∀d∈l,wOk P e d
 | [],_,d,hd=>by cases hd
 |a::l,h,d,hd=>by
  simp only[DataW.weightsAll,List.mem_append] at h
  rcases List.mem_cons.1 hd with rfl | hd
  ·exact fun x hx=>h x (.inl hx)
  ·exact wOk_all (fun x hx=>h x (.inr hx)) d hd
def RStr:List D→Prop:=fun ds=>∃s:List UInt8,ds=[.str s]∧s.length≤maxB
def RSlice(w:Nat)(R:List D→Prop):List D→Prop:=fun ds=>ds=[.sl w 0 (fun _=>[]) .nil]∨∃l:List (List D),(∀x∈l,R x)∧l.length≤maxB∧ds=[.sl w l.length (fun i=>l.getD i []) .any]
def RSeq:List (List D→Prop)→List D→Prop
 | [],ds=>ds=[]
 |R::Rs,ds=>∃a b,R a∧RSeq Rs b∧ds=a++b
theorem read_string{t:TypeId}(ht:P.underlying t=some .string):Reads P t RStr:=by
 intro W n
 cases n with
 |zero=>exact .zero _ _
 |succ n =>
  intro hG H enc cs d ps h hwt
  simp only[DataW.trod,ht] at h
  split at h<;>try (simp_all;done)
  rename_i s h1
  split at h
  ·rename_i hc
   injection h with h;injection h with h _;subst h
   exact⟨⟨[.str s.data.toList],⟨_,rfl,hwt _ (by simp[DataW.weights])⟩,by simp[RepL,Rep]⟩,by simp[Value.oneCell']⟩
  ·cases h
theorem cells?_at{base:Nat}{a:Addr}{n:Nat}{cs:List Value}(h:W.cells? base a n=some cs):cs.length=n∧∀i,i<n→W.cell? (a.add i)=cs[i]? :=by
 unfold World.cells? at h
 split at h
 ·refine⟨by simpa using mapM_some_length h,fun i hi=>mapM_some_get h i i (by simp[hi])⟩
 ·cases h
theorem add_none{a:Addr}(h:a.spot=none)(i:Nat):a.add i=⟨a.block,a.off+i,none⟩:=by
 obtain ⟨b,o,s⟩:=a
 simp only at h;subst h
 exact Addr.add_mk ..
theorem spot_of{a:Addr}{v:Value}(h:W.cell? a=some v):a.spot=none:=by
 unfold World.cell? at h
 split at h
 ·split at h
  ·cases h
  ·rename_i hs;simpa using hs
 ·cases h
theorem row_cells{hG:G0 W}{b o:Nat}:∀ {ds:List D} {cs:List Value},RepL (ctx0 W hG) ds cs→(∀v∈cs,v.oneCell'=true)→(∀i,i<cs.length→W.cell? ⟨b,o+i,none⟩=cs[i]?)→RepCells (ctx0 W hG) b o ds:=by
 intro ds
 induction ds generalizing o with
 |nil=>intro cs _ _ _;trivial
 |cons d ds ih =>
  intro cs h1 h2 h3
  simp only[RepL] at h1
  obtain ⟨x,xs,rfl,r1,r2⟩:=h1
  simp only[RepCells]
  refine⟨⟨x,ctx0_imm (by simpa using h3 0 (by simp)) (h2 x (by simp)),r1⟩,ih r2 (fun v hv=>h2 v (by simp[hv])) fun i hi=>?_⟩
  have:=h3 (i+1) (by simpa using hi)
  simpa[Nat.add_assoc,Nat.add_comm 1 i] using this
theorem read_slice{t e:TypeId}{w:Nat}{R:List D→Prop}(ht:P.underlying t=some (.slice e))(hw:P.cellsOf e=w)(hc:0<w)(hby:0<P.bytesOf e){n:Nat}(he:ReadAt P W n e R):ReadAt P W (n+1) t (RSlice w R):=by
 intro hG H enc cs d ps h hwt
 simp only[DataW.trod,ht] at h
 split at h<;>try (simp_all;done)
 ·refine⟨⟨_,.inl rfl,?_⟩,by simp[Value.oneCell']⟩
  simp only[RepL,Rep]
  exact⟨_,_,rfl,⟨none,0,0,rfl,⟨rfl,Nat.le_refl _,by simp[maxLen],fun _=>⟨rfl,rfl⟩,fun _ h=>(by cases h),rfl⟩,fun _ h=>by cases h⟩,rfl⟩
 ·rename_i e' a len cap h1
  injection h1 with h1;injection h1 with h1;subst h1
  rw[hw] at h
  split at h
  ·rename_i hb
   obtain ⟨_,hlc,hcm⟩:=hb
   obtain ⟨els,hels,h⟩:=Option.bind_eq_some_iff.1 h
   obtain ⟨rest,hrest,hde⟩:=Option.map_eq_some_iff.1 h
   injection hde with hde _
   subst hde
   have hwt:∀y∈(els.length+rest.length)*P.bytesOf e::(DataW.weightsAll P e (els.map (·.1))++DataW.weightsAll P e (rest.map (·.1))),y≤maxB:=fun y hy=>hwt y (by simpa[DataW.weights,ht] using hy)
   have hwe:=wOk_all (P:=P) (e:=e) (l:=els.map (·.1)) fun y hy=>hwt y (List.mem_cons_of_mem _ (List.mem_append_left _ hy))
   simp only[if_true] at hrest
   have hlen:els.length=len:=by simpa using mapM_some_length hels
   have hlb:len≤maxB:=by
    have h1:=hwt _ List.mem_cons_self
    have h2:els.length+rest.length≤(els.length+rest.length)*P.bytesOf e:=Nat.le_mul_of_pos_right _ hby
    omega
   have hat:∀i,i<len→∃cs' x,W.cells? 0 (a.add (i*w)) w=some cs'∧DataW.trod enc P W 0 (fun _=>true) true n e cs'=some x∧wOk P e x.1:=by
    intro i hi
    have:=mapM_some_get hels i i (by simp[hi])
    rw[List.getElem?_eq_getElem (by omega)] at this
    obtain ⟨cs',q1,q2⟩:=Option.bind_eq_some_iff.1 this
    exact⟨cs',_,q1,q2,hwe _ (List.mem_map.2 ⟨_,List.getElem_mem _,rfl⟩)⟩
   have hsp:0<cap→a.spot=none:=by
    intro hcap
    have key:∃cs',W.cells? 0 (a.add 0) w=some cs':=by
     by_cases hl:0<len
     ·obtain ⟨cs',_,q,_,_⟩:=hat 0 hl
      exact⟨cs',by simpa using q⟩
     ·have hrl:rest.length=cap-len:=by simpa using mapM_some_length hrest
      have:=mapM_some_get hrest 0 0 (by rw[List.getElem?_range (by omega)])
      rw[List.getElem?_eq_getElem (by omega)] at this
      obtain ⟨cs',q1,_⟩:=Option.bind_eq_some_iff.1 this
      have hz:len=0:=by omega
      subst hz
      exact⟨cs',by simpa using q1⟩
    obtain ⟨cs',q⟩:=key
    obtain ⟨hl,hq⟩:=cells?_at q
    have h0:=hq 0 hc
    rw[List.getElem?_eq_getElem (by omega)] at h0
    have:=spot_of h0
    simpa[Addr.add] using this
   have rows:∀i,i<len→∃row,R row∧row.length=w∧RepCells (ctx0 W hG) a.block (a.off+i*w) row:=by
    intro i hi
    obtain ⟨cs',x,q1,q2,q3⟩:=hat i hi
    obtain ⟨⟨row,hR,hrep⟩,h1⟩:=he hG H enc cs' x.1 x.2 q2 q3
    obtain ⟨hl,hq⟩:=cells?_at q1
    have hs:=hsp (by omega)
    refine⟨row,hR,by rw[← RepL.length hrep,hl],?_⟩
    refine row_cells hrep h1 fun j hj=>?_
    have:=hq j (by omega)
    rw[add_none hs,add_none rfl] at this
    exact this
   have mk:∀m,m≤len→∃l:List (List D),l.length=m∧(∀x∈l,R x)∧∀i,i<m→(l.getD i []).length=w∧RepCells (ctx0 W hG) a.block (a.off+i*w) (l.getD i []):=by
    intro m
    induction m with
    |zero=>exact fun _=>⟨[],rfl,by simp,fun i hi=>by omega⟩
    |succ m ih =>
     intro hm
     obtain ⟨l,q1,q2,q3⟩:=ih (by omega)
     obtain ⟨row,r1,r2,r3⟩:=rows m (by omega)
     refine⟨l++[row],by simp[q1],fun x hx=>?_,fun i hi=>?_⟩
     ·rcases List.mem_append.1 hx with hx | hx
      ·exact q2 x hx
      ·rw[List.mem_singleton] at hx;subst hx;exact r1
     ·by_cases him:i<m
      ·have:(l++[row]).getD i []=l.getD i []:=by
        simp[List.getD_eq_getElem?_getD,List.getElem?_append_left (show i<l.length by omega)]
       rw[this];exact q3 i him
      ·have hi:i=m:=by omega
       subst hi
       have:(l++[row]).getD i []=row:=by simp[List.getD_eq_getElem?_getD,← q1]
       rw[this];exact⟨r2,r3⟩
   obtain ⟨l,q1,q2,q3⟩:=mk len (Nat.le_refl _)
   refine⟨⟨_,.inr ⟨l,q2,by omega,rfl⟩,?_⟩,by simp[Value.oneCell']⟩
   simp only[RepL,Rep]
   refine⟨_,_,rfl,⟨some a,len,cap,rfl,⟨q1.symm,by omega,hcm,(fun h=>by cases h),fun x hx h0=>by cases hx;exact hsp h0,trivial⟩,fun x hx i hi=>?_⟩,rfl⟩
   cases hx
   exact q3 i (by omega)
  ·cases h
def layB(P:Program):List Field→Nat→Nat→Bool
 | [],o,n=>o==n
 |f::fs,o,n=>f.offset==o&&layB P fs (o+P.cellsOf f.type) n
def FieldsAt(P:Program)(W:World)(n:Nat):List Field→List (List D→Prop)→Prop
 | [],[]=>True
 |f::fs,R::Rs=>ReadAt P W n f.type R∧FieldsAt P W n fs Rs
 |_,_=>False
theorem read_fields(hG : G0 W){H : Type}{enc : TypeId×Value → H}{n : Nat}{cs : List Value} : ∀(fs : List Field) (Rs : List (List D → Prop)) (o : Nat) (xs : List (DataW H×List MemPlace)), layB P fs o cs.length=true → FieldsAt P W n fs Rs → (∀y∈DataW.weightsEach P (fs.map (·.type)) (xs.map (·.1)), y≤maxB) →
  (fs.mapM fun f=>DataW.trod enc P W 0 (fun _=>true) true n f.type ((cs.drop f.offset).take (P.cellsOf f.type)))=some xs →
  (∃ds,RSeq Rs ds∧RepL (ctx0 W hG) ds (cs.drop o))∧∀v∈cs.drop o,v.oneCell'=true
 | [],Rs,o,xs,hl,hf,_,_=>by
  simp only[layB,beq_iff_eq] at hl
  subst hl
  cases Rs with
  |nil=>exact⟨⟨[],rfl,by simp[RepL]⟩,by simp⟩
  |cons _ _=>exact hf.elim
 |f::fs,Rs,o,xs,hl,hf,hwt,hm=>by
  simp only[layB,Bool.and_eq_true,beq_iff_eq] at hl
  obtain ⟨ho,hl⟩:=hl
  cases Rs with
  |nil=>exact hf.elim
  |cons R Rs =>
   obtain ⟨h1,h2⟩:=hf
   rw[List.mapM_cons] at hm
   obtain ⟨x,hx,hm⟩:=Option.bind_eq_some_iff.1 hm
   obtain ⟨ys,hy,hm⟩:=Option.bind_eq_some_iff.1 hm
   obtain rfl:x::ys=xs:=by simpa using hm
   simp only[List.map_cons,DataW.weightsEach,List.mem_append] at hwt
   obtain ⟨⟨a,ra,rb⟩,r1⟩:=h1 hG H enc _ x.1 x.2 hx (fun y hy=>hwt y (.inl hy))
   obtain ⟨⟨b,sa,sb⟩,s1⟩:=read_fields hG fs Rs (o+P.cellsOf f.type) ys hl h2 (fun y hy=>hwt y (.inr hy)) hy
   rw[ho] at rb r1
   have e:cs.drop o=(cs.drop o).take (P.cellsOf f.type)++cs.drop (o+P.cellsOf f.type):=by
    rw[← List.drop_drop,List.take_append_drop]
   refine⟨⟨a++b,⟨a,b,ra,sa,rfl⟩,by rw[e];exact RepL.append rb sb⟩,fun v hv=>?_⟩
   rw[e] at hv
   rcases List.mem_append.1 hv with hv | hv
   ·exact r1 v hv
   ·exact s1 v hv
theorem read_struct{t:TypeId}{fs:Array Field}{Rs:List (List D→Prop)}(ht:P.underlying t=some (.struct fs))(hl:layB P fs.toList 0 (P.cellsOf t)=true){n:Nat}(hf:FieldsAt P W n fs.toList Rs):ReadAt P W (n+1) t (RSeq Rs):=by
 intro hG H enc cs d ps h hwt
 unfold DataW.trod at h
 rw[ht] at h
 simp only at h
 split at h
 ·rename_i hc
  obtain ⟨xs,hx,hde⟩:=Option.map_eq_some_iff.1 h
  injection hde with hde _
  subst hde
  rw[← hc] at hl
  simpa using read_fields hG fs.toList Rs 0 xs hl hf (fun y hy=>hwt y (by simpa[DataW.weights,ht] using hy)) hx
 ·cases h
variable {P:Program} {W:World}
def RSliceA(w:Nat)(R:List D→Prop):List D→Prop:=fun ds=>∃l:List (List D),(∀x∈l,R x)∧l.length≤maxB∧ds=[.sl w l.length (fun i=>l.getD i []) .any]
theorem read_sliceA{t e:TypeId}{w:Nat}{R:List D→Prop}(ht:P.underlying t=some (.slice e))(hw:P.cellsOf e=w)(hc:0<w)(hby:0<P.bytesOf e){n:Nat}(he:ReadAt P W n e R):ReadAt P W (n+1) t (RSliceA w R):=by
 refine (read_slice ht hw hc hby he).weak ?_
 rintro hG ds vs (rfl | ⟨l,h1,hl,rfl⟩) h
 ·refine⟨_,⟨[],by simp,by simp[maxB],rfl⟩,?_⟩
  refine weakL_weak _ _ ?_ _ _ h
  simp[weakL,weakD,chk,weakM]
 ·exact⟨_,⟨l,h1,hl,rfl⟩,h⟩
theorem rows_of{α:Type}{R:List D→Prop}{g:α→List D}{Q:α→Prop}(hR:∀x,R x→∃a,Q a∧x=g a):∀(l:List (List D)),(∀x∈l,R x)→∃l':List α,(∀a∈l',Q a)∧l=l'.map g
 | [],_=>⟨[],by simp,rfl⟩
 |x::l,h=>by
  obtain ⟨a,q,e⟩:=hR x (h x (by simp))
  obtain ⟨l',q',e'⟩:=rows_of hR l fun y hy=>h y (by simp[hy])
  refine⟨a::l',?_,by rw[e,e'];rfl⟩
  intro b hb
  rcases List.mem_cons.1 hb with rfl | hb
  ·exact q
  ·exact q' b hb
end Go.Ab
