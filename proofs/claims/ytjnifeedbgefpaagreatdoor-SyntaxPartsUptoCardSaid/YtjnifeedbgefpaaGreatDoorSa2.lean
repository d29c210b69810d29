/- The syntax laws, walked through the code. -/
import Derived.Test.YtjnifeedbgefpaaGreatDoorSa1
import Derived.Test.YtjnifeedbgefpaaGreatDoorRows
import Derived.Test.YtjnifeedbgefpaaGreatDoorCards
import Derived.Test.YtjnifeedbgefpaaGreatDoorTie
import Derived.WalkKit
import Derived.ProofKit
import Derived.OpenShut
import Derived.Deep.DeepHandedRow
import Derived.Lib.LaidTab
import Derived.Stop.LaidErr
import Derived.Test.YtjnifeedbgefpaaGreatDoorProg
import Derived.Lib.ItoaNum
import Derived.Lib.TrailingZeros
import Derived.Calls
import Derived.Below
import Derived.Laws.Entries
import Derived.Laws.Build
import Derived.Laws.Concat
import Derived.Laws.AppendOwn
import Derived.Laws.IdiomStrings
import Derived.Laws.BytesString
import Derived.Laws.NewFold
import Derived.Laws.MakeOwn
import Derived.Laws.IdiomCopy
import Derived.Laws.Shifts
import Derived.Laws.Strings
import Derived.Laws.Strings2
import Derived.Laws.Strings3
import Derived.Laws.RangeString
import Derived.Laws.Cover4
import Derived.Lib.DecodeN
import Derived.MapKept
import Derived.Laws.StructEq
import Derived.Orders
import Derived.Scope
import Derived.Recover
import Derived.KernelRfl
import Derived.Shelf.Strings.Builder1
import Derived.Shelf.Strings.Builder2
import Derived.Shelf.Strings.OnBuilder
import Derived.Shelf.Strings.BuilderF
import Derived.Shelf.Strconv.Itoa0
import Derived.Shelf.Strconv.Itoa1
import Derived.Shelf.LaysM
import Derived.Shelf.Strconv.Itoa2
import Derived.Shelf.Strconv.Itoa3
import Derived.Shelf.Strconv.Itoa4
import Derived.Shelf.Bits.Mul64
import Derived.Lib.AppendIntMem
import Derived.Lib.ItoaLen
import Derived.Lib.Join
import Derived.Lib.Builder
import Derived.Lib.UnsafeStr
namespace Go.Proofs.YtjnifeedbgefpaaGreatDoor
open Go Go.Ab
noncomputable section
theorem smL_iff:∀(l:List Arr),smL l↔∀a∈l,a.sm
 | []=>by simp[smL]
 |a::l=>by simp only[smL,List.forall_mem_cons,smL_iff l]
def RInts:List D→Prop:=fun ds=>∃l:List Int,(∀z∈l,inI64 z)∧l.length≤maxB∧ds=[isl l .any]
def RArr:List D→Prop:=fun ds=>∃a:Arr,(a.ok∧a.sm)∧ds=a.row
theorem int_row:∀x,RInt .i64 x→∃z,inI64 z∧x=[.int .i64 z]:=by
 rintro x ⟨n,rfl,h1,h2⟩
 simp only[IntKind.min,IntKind.max,IntKind.signed,IntKind.bits] at h1 h2
 exact⟨n,⟨by simpa using h1,by simp at h2;omega⟩,rfl⟩
theorem read_ints(W:World)(n:Nat):ReadAt Tryz.prog W n 27 RInts:=by
 cases n with
 |zero=>exact .zero _ _
 |succ n =>
  refine (read_sliceA (w:=1) Tryz.underlying27 (by kernel_rfl) (by decide) (by decide +kernel) (read_int Tryz.underlying3 W n)).weak ?_
  rintro _ ds vs ⟨l,h1,h2,rfl⟩ h
  obtain ⟨l',q,rfl⟩:=rows_of int_row l h1
  refine⟨_,⟨l',q,by simpa using h2,rfl⟩,weakL_weak _ _ ?_ _ _ h⟩
  simp only[isl,weakL,weakD,chk_iff]
  refine⟨⟨by simp,by simp,fun i hi=>?_,by simp[weakM]⟩,trivial⟩
  have hi:i<l'.length:=by simpa using hi
  simp[List.getD_eq_getElem?_getD,hi]
theorem read_arr(W:World):∀n,ReadAt Tryz.prog W n 30 RArr
 |0=>.zero _ _
 |n+1=>by
  have hi:ReadAt Tryz.prog W n 28 (RSliceA 4 RArr):=by
   cases n with
   |zero=>exact .zero _ _
   |succ m=>exact read_sliceA (w:=4) Tryz.underlying28 (by kernel_rfl) (by decide) (by decide +kernel) (read_arr W m)
  refine (read_struct Tryz.underlying30 (by kernel_rfl) (Rs:=[RInt .i64,RInts,RInts,RSliceA 4 RArr]) ⟨read_int (by kernel_rfl) W n,read_ints W n,read_ints W n,hi,trivial⟩).mono ?_
  rintro ds ⟨_,_,h1,⟨_,_,h2,⟨_,_,h3,⟨_,_,h4,h5,rfl⟩,rfl⟩,rfl⟩,rfl⟩
  obtain rfl:_=[]:=h5
  obtain ⟨k,hk,rfl⟩:=int_row _ h1
  obtain ⟨s,s1,s2,rfl⟩:=h2
  obtain ⟨m,m1,m2,rfl⟩:=h3
  obtain ⟨l,l1,l2,rfl⟩:=h4
  obtain ⟨is,q,rfl⟩:=rows_of (g:=Arr.row) (Q:=fun a=>a.ok∧a.sm) (fun x hx=>hx) l l1
  have l2:is.length≤maxB:=by simpa using l2
  refine⟨.mk k s m is,⟨?_,?_⟩,?_⟩
  ·simp only[Arr.ok]
   exact⟨hk,s1,m1,maxB_le s2,maxB_le m2,maxB_le l2,(okL_iff _).2 fun a ha=>(q a ha).1⟩
  ·simp only[Arr.sm]
   exact⟨s2,m2,l2,(smL_iff _).2 fun a ha=>(q a ha).2⟩
  ·simp only[Arr.row,rowsL_map,List.cons_append,List.nil_append]
set_option maxRecDepth 100000
def okTy(P:Program)(TS:List Nat)(t:Nat):Bool :=
 match P.underlying t with
 |some (.slice e)=>TS.contains e&&decide (P.bytesOf e≤4096)
 |some (.struct fs)=>fs.toList.all fun f=>TS.contains f.type
 |some (.pointer e)=>TS.contains e
 |some (.array _ e)=>TS.contains e
 |some (.map k e)=>TS.contains e&&decide (P.bytesOf k+P.bytesOf e≤4096)
 |_=>true
theorem bulk_one{H:Type}(d:DataW H):1≤Rows.uptoBulk d:=by
 cases d with
 |lit l=>cases l<;>simp[Rows.uptoBulk]
 |nil=>simp[Rows.uptoBulk]
 |ptr d=>simp[Rows.uptoBulk]
 |slice elems spare=>simp[Rows.uptoBulk]
 |agg parts=>simp[Rows.uptoBulk]
 |iface t d=>simp[Rows.uptoBulk]
 |map entries=>simp[Rows.uptoBulk]
 |held h=>simp[Rows.uptoBulk]
theorem bulk_len{H:Type}:∀l:List (DataW H),l.length≤Rows.uptoBulkAll l
 | []=>by simp[Rows.uptoBulkAll]
 |x::r=>by
  have:=bulk_one x
  have:=bulk_len r
  simp only[Rows.uptoBulkAll,List.length_cons]
  omega
theorem bulk_ent{H:Type}:∀l:List (Go.Lit×DataW H),l.length≤Rows.uptoBulkEntries l
 | []=>by simp[Rows.uptoBulkEntries]
 |(k,d)::r=>by
  have:=bulk_one d
  have:=bulk_ent r
  have h:1≤Rows.uptoBulkEntry (k,d):=by cases k<;>simp[Rows.uptoBulkEntry]
  simp only[Rows.uptoBulkEntries,List.length_cons]
  omega
theorem mul_4096{a b c:Nat}(h1:a≤c)(h2:b≤4096):a*b≤8192*c:=by
 calc a*b≤c*4096:=Nat.mul_le_mul h1 h2
  _≤8192*c:=by omega
mutual
theorem w_le{P:Program}{TS:List Nat}(hT:∀t∈TS,okTy P TS t=true){H:Type}:∀(d:DataW H) (t:Nat),t∈TS→∀x∈d.weights P t,x≤8192*Rows.uptoBulk d
 |.lit l,t,_,x,hx=>by
  cases l with
  |string bytes =>
   simp only[DataW.weights,List.mem_singleton] at hx
   simp only[Rows.uptoBulk]
   omega
  |_=>simp[DataW.weights] at hx
 |.nil,t,_,x,hx=>by simp[DataW.weights] at hx
 |.ptr d,t,ht,x,hx=>by
  have ho:=hT t ht
  simp only[DataW.weights] at hx
  unfold okTy at ho
  split at hx
  ·rename_i e hu
   rw[hu] at ho
   have:=w_le hT d e (by simpa using ho) x hx
   simp only[Rows.uptoBulk]
   omega
  ·simp at hx
 |.slice elems spare,t,ht,x,hx=>by
  have ho:=hT t ht
  simp only[DataW.weights] at hx
  unfold okTy at ho
  split at hx
  ·rename_i e hu
   rw[hu] at ho
   simp only[Bool.and_eq_true,decide_eq_true_eq] at ho
   have he:e∈TS:=by simpa using ho.1
   simp only[Rows.uptoBulk]
   rcases List.mem_cons.1 hx with rfl | hx
   ·exact Nat.le_trans (mul_4096 (Nat.add_le_add (bulk_len elems) (bulk_len spare)) ho.2) (by omega)
   ·rcases List.mem_append.1 hx with hx | hx
    ·have:=wAll_le hT elems e he x hx
     omega
    ·have:=wAll_le hT spare e he x hx
     omega
  ·simp at hx
 |.agg parts,t,ht,x,hx=>by
  have ho:=hT t ht
  simp only[DataW.weights] at hx
  unfold okTy at ho
  split at hx
  ·rename_i fs hu
   rw[hu] at ho
   have:=wEach_le hT (fs.toList.map (·.type)) parts (fun t h=>by
    obtain ⟨f,hf,rfl⟩:=List.mem_map.1 h
    simpa using List.all_eq_true.1 ho f hf) x hx
   simp only[Rows.uptoBulk]
   omega
  ·rename_i e hu
   rw[hu] at ho
   have:=wAll_le hT parts e (by simpa using ho) x hx
   simp only[Rows.uptoBulk]
   omega
  ·simp at hx
 |.iface _ _,t,_,x,hx=>by simp[DataW.weights] at hx
 |.map entries,t,ht,x,hx=>by
  have ho:=hT t ht
  simp only[DataW.weights] at hx
  unfold okTy at ho
  split at hx
  ·rename_i k e hu
   rw[hu] at ho
   simp only[Bool.and_eq_true,decide_eq_true_eq] at ho
   simp only[Rows.uptoBulk]
   rcases List.mem_cons.1 hx with rfl | hx
   ·exact Nat.le_trans (mul_4096 (bulk_ent entries) ho.2) (by omega)
   ·have:=wEnt_le hT entries e (by simpa using ho.1) x hx
    omega
  ·simp at hx
 |.held _,t,_,x,hx=>by simp[DataW.weights] at hx
theorem wAll_le{P:Program}{TS:List Nat}(hT:∀t∈TS,okTy P TS t=true){H:Type}:∀(l:List (DataW H)) (e:Nat),e∈TS→∀x∈DataW.weightsAll P e l,x≤8192*Rows.uptoBulkAll l
 | [],e,_,x,hx=>by simp[DataW.weightsAll] at hx
 |d::r,e,he,x,hx=>by
  simp only[DataW.weightsAll] at hx
  simp only[Rows.uptoBulkAll]
  rcases List.mem_append.1 hx with hx | hx
  ·have:=w_le hT d e he x hx;omega
  ·have:=wAll_le hT r e he x hx;omega
theorem wEach_le{P:Program}{TS:List Nat}(hT:∀t∈TS,okTy P TS t=true){H:Type}:∀(ts:List Nat) (l:List (DataW H)),(∀t∈ts,t∈TS)→∀x∈DataW.weightsEach P ts l,x≤8192*Rows.uptoBulkAll l
 | [],l,_,x,hx=>by simp[DataW.weightsEach] at hx
 |t::ts,[],_,x,hx=>by simp[DataW.weightsEach] at hx
 |t::ts,d::r,ht,x,hx=>by
  simp only[DataW.weightsEach] at hx
  simp only[Rows.uptoBulkAll]
  rcases List.mem_append.1 hx with hx | hx
  ·have:=w_le hT d t (ht t (by simp)) x hx;omega
  ·have:=wEach_le hT ts r (fun u hu=>ht u (by simp[hu])) x hx;omega
theorem wEnt_le{P:Program}{TS:List Nat}(hT:∀t∈TS,okTy P TS t=true){H:Type}:∀(l:List (Go.Lit×DataW H)) (e:Nat),e∈TS→∀x∈DataW.weightsEntries P e l,x≤8192*Rows.uptoBulkEntries l
 | [],e,_,x,hx=>by simp[DataW.weightsEntries] at hx
 |(k,d)::r,e,he,x,hx=>by
  simp only[DataW.weightsEntries] at hx
  simp only[Rows.uptoBulkEntries]
  rcases List.mem_append.1 hx with hx | hx
  ·cases k with
   |string bytes =>
    simp only[DataW.weightsEntry] at hx
    simp only[Rows.uptoBulkEntry]
    rcases List.mem_cons.1 hx with rfl | hx
    ·omega
    ·have:=w_le hT d e he x hx;omega
   |_ =>
    simp only[DataW.weightsEntry] at hx
    simp only[Rows.uptoBulkEntry]
    have:=w_le hT d e he x hx;omega
  ·have:=wEnt_le hT r e he x hx;omega
end
theorem upto_sz{P:Program}{TS:List Nat}(hT:∀t∈TS,okTy P TS t=true){H:Type}{ts:List Nat}(hts:∀t∈ts,t∈TS){ds:List (DataW H)}(hk:Rows.uptoSmall H ds=true):(DataW.weightsEach P ts ds).all (·≤maxB)=true:=by
 have hb:Rows.uptoBulkAll ds≤1048576:=of_decide_eq_true hk
 refine List.all_eq_true.2 fun x hx=>?_
 have:=wEach_le hT ts ds hts x hx
 unfold maxB
 simp only[decide_eq_true_eq]
 omega
def RNd:List D→Prop:=fun ds=>∃n:Nd,(n.ok∧n.sm)∧ds=n.row
def RSm:List D→Prop:=fun ds=>∃s:Sm,(s.ok∧s.sm)∧ds=s.row
theorem read_sm(W:World)(m:Nat)(hn:∀k,k<m→ReadAt Tryz.prog W k 34 RNd):ReadAt Tryz.prog W m 55 RSm:=by
 cases m with
 |zero=>exact .zero _ _
 |succ k =>
  refine (read_struct Tryz.underlying55 (by kernel_rfl) (Rs:=[RInt .i64,RInt .i64,RStr,RInt .i64,RNd,RNd]) ⟨read_int (by kernel_rfl) W k,read_int (by kernel_rfl) W k,read_string (by kernel_rfl) W k,read_int (by kernel_rfl) W k,hn k (Nat.lt_succ_self k),hn k (Nat.lt_succ_self k),trivial⟩).mono ?_
  rintro ds ⟨_,_,h1,⟨_,_,h2,⟨_,_,h3,⟨_,_,h4,⟨_,_,h5,⟨_,_,h6,h7,rfl⟩,rfl⟩,rfl⟩,rfl⟩,rfl⟩,rfl⟩
  obtain rfl:_=[]:=h7
  obtain ⟨kd,kd1,rfl⟩:=int_row _ h1
  obtain ⟨at_,at1,rfl⟩:=int_row _ h2
  obtain ⟨nm,rfl,nm1⟩:=h3
  obtain ⟨sl,sl1,rfl⟩:=int_row _ h4
  obtain ⟨te,⟨te1,te2⟩,rfl⟩:=h5
  obtain ⟨nd,⟨nd1,nd2⟩,rfl⟩:=h6
  refine⟨.mk kd at_ nm sl te nd,⟨?_,?_⟩,?_⟩
  ·simp only[Sm.ok]
   exact⟨⟨kd1,at1,sl1⟩,te1,nd1⟩
  ·simp only[Sm.sm]
   exact⟨nm1,te2,nd2⟩
  ·simp only[Sm.row,List.cons_append,List.nil_append,List.append_nil]
theorem read_nd(W:World):∀n,ReadAt Tryz.prog W n 34 RNd:=by
 intro n
 induction n using Nat.strongRecOn with
 |_ n ih =>
  cases n with
  |zero=>exact .zero _ _
  |succ m =>
   have hk:ReadAt Tryz.prog W m 31 (RSliceA 15 RNd):=by
    cases m with
    |zero=>exact .zero _ _
    |succ k=>exact read_sliceA (w:=15) Tryz.underlying31 (by kernel_rfl) (by decide) (by decide +kernel) (ih k (by omega))
   have hb:ReadAt Tryz.prog W m 32 (RSliceA 34 RSm):=by
    cases m with
    |zero=>exact .zero _ _
    |succ k=>exact read_sliceA (w:=34) Tryz.underlying32 (by kernel_rfl) (by decide) (by decide +kernel) (read_sm W k fun j hj=>ih j (by omega))
   have ri:∀t,Tryz.prog.underlying t=some (.int .i64)→ReadAt Tryz.prog W m t (RInt .i64):=fun t ht=>read_int ht W m
   refine (read_struct Tryz.underlying34 (by kernel_rfl) (Rs:=[RInt .i64,RInt .i64,RInt .i64,RStr,RInt .i64,RInt .i64,RArr,RSliceA 15 RNd,RSliceA 34 RSm,RInt .i64,RInt .i64,RInt .i64])
    ⟨ri _ (by kernel_rfl),ri _ (by kernel_rfl),ri _ (by kernel_rfl),read_string (by kernel_rfl) W m,ri _ (by kernel_rfl),ri _ (by kernel_rfl),read_arr W m,hk,hb,ri _ (by kernel_rfl),ri _ (by kernel_rfl),ri _ (by kernel_rfl),trivial⟩).weak ?_
   rintro _ ds vs ⟨_,_,h1,⟨_,_,h2,⟨_,_,h3,⟨_,_,h4,⟨_,_,h5,⟨_,_,h6,⟨_,_,h7,⟨_,_,h8,⟨_,_,h9,⟨_,_,h10,⟨_,_,h11,⟨_,_,h12,h13,rfl⟩,rfl⟩,rfl⟩,rfl⟩,rfl⟩,rfl⟩,rfl⟩,rfl⟩,rfl⟩,rfl⟩,rfl⟩,rfl⟩ hr
   obtain rfl:_=[]:=h13
   obtain ⟨kd,kd1,rfl⟩:=int_row _ h1
   obtain ⟨at_,at1,rfl⟩:=int_row _ h2
   obtain ⟨cl,cl1,rfl⟩:=int_row _ h3
   obtain ⟨tx,rfl,tx1⟩:=h4
   obtain ⟨pr,pr1,rfl⟩:=int_row _ h5
   obtain ⟨op,op1,rfl⟩:=int_row _ h6
   obtain ⟨va,⟨va1,va2⟩,rfl⟩:=h7
   obtain ⟨l,l1,l2,rfl⟩:=h8
   obtain ⟨b,b1,b2,rfl⟩:=h9
   obtain ⟨de,de1,rfl⟩:=int_row _ h10
   obtain ⟨sl,sl1,rfl⟩:=int_row _ h11
   obtain ⟨ss,ss1,rfl⟩:=int_row _ h12
   obtain ⟨ki,qk,rfl⟩:=rows_of (g:=Nd.row) (Q:=fun a=>a.ok∧a.sm) (fun x hx=>hx) l l1
   obtain ⟨bo,qb,rfl⟩:=rows_of (g:=Sm.row) (Q:=fun a=>a.ok∧a.sm) (fun x hx=>hx) b b1
   have l2:ki.length≤maxB:=by simpa using l2
   have b2:bo.length≤maxB:=by simpa using b2
   refine⟨(Nd.mk kd at_ cl tx pr op va ki bo de sl ss).row,⟨_,⟨?_,?_⟩,rfl⟩,wkL_weak _ _ ?_ _ _ hr⟩
   ·simp only[Nd.ok]
    exact⟨⟨kd1,at1,cl1,pr1,op1,de1,sl1,ss1⟩,va1,(ndsOk_iff _).2 fun a ha=>(qk a ha).1,(smsOk_iff _).2 fun a ha=>(qb a ha).1⟩
   ·simp only[Nd.sm]
    exact⟨⟨tx1,l2,b2⟩,va2,(ndsSm_iff _).2 fun a ha=>(qk a ha).2,(smsSm_iff _).2 fun a ha=>(qb a ha).2⟩
   ·simp only[Nd.row,ndRows_map,smRows_map,List.cons_append,List.nil_append,List.append_nil,wkL]
    refine⟨wkD_refl _,wkD_refl _,wkD_refl _,wkD_refl _,wkD_refl _,wkD_refl _,?_⟩
    have h:=wkL_app (row_wk va) (wkL_refl (lsl 15 (ki.map Nd.row)::lsl 34 (bo.map Sm.row)::[D.int .i64 de,D.int .i64 sl,D.int .i64 ss]))
    simp only[Arr.row1,List.cons_append,List.nil_append] at h
    exact h
theorem nd_self0(n:Nd)(ex:List D):isN n (.agg n.row::ex) ex:=by
 simp only[isN,wkL,wkD];exact⟨nd_wk n,wkL_refl _⟩
theorem any_congr{α:Type}{p q:α→Bool}:∀ {l:List α},(∀x∈l,p x=q x)→l.any p=l.any q
 | [],_=>rfl
 |x::l,h=>by
  simp only[List.any_cons]
  rw[h x (by simp),any_congr fun y hy=>h y (by simp[hy])]
open Go Go.Ab Go.RowKit
def TSl:List Nat:=List.range 181
theorem tysOk:∀t∈TSl,okTy Tryz.prog TSl t=true:=List.all_eq_true.1 (show TSl.all (okTy Tryz.prog TSl)=true by kernel_rfl)
theorem some_with{α:Type}{o:Option α}{p:α→Bool}(h:(match o with | some x=>p x | none=>false)=true):∃x,o=some x∧p x=true:=by
 cases o with
 |none=>cases h
 |some x=>exact⟨x,rfl,h⟩
theorem utf8_ne'(c:Int):utf8 c≠[]:=by
 have : ∀c : Nat, ((if c<0x80 then ⟨#[UInt8.ofNat c]⟩
   else if c<0x800 then ⟨#[UInt8.ofNat (0xC0+c / 64),UInt8.ofNat (0x80+c % 64)]⟩
   else if c<0x10000 then ⟨#[UInt8.ofNat (0xE0+c / 4096),UInt8.ofNat (0x80+c / 64 % 64),UInt8.ofNat (0x80+c % 64)]⟩
   else ⟨#[UInt8.ofNat (0xF0+c / 262144),UInt8.ofNat (0x80+c / 4096 % 64),UInt8.ofNat (0x80+c / 64 % 64),UInt8.ofNat (0x80+c % 64)]⟩:ByteArray).data.toList)≠[]:=fun c=>by
  (repeat' split)<;>simp
 exact this _
theorem quoB_ne(q:Int)(l:List Int):quoB q l≠[]:=by
 unfold quoB
 intro h
 rw[List.append_eq_nil_iff,List.append_eq_nil_iff] at h
 exact utf8_ne' _ h.1.1
theorem showI_ne'(z:Int):showI z≠[]:=by
 unfold showI
 split
 ·simp
 ·rw[Lib.decDigits]
  split<;>simp
theorem withT_ne{ks:List Int}{k:Int}{x:List UInt8}(h:x≠[]):withT ks k x≠[]:=by
 unfold withT wrapT
 split
 ·simp
 ·exact h
theorem nd_mem{l:List Nd}{i:Nat}(h:i<l.length):l.getD i default∈l:=by
 rw[List.getD_eq_getElem?_getD,List.getElem?_eq_getElem h];simp
theorem app_ne{a b:List UInt8}(h:a≠[]):a++b≠[]:=fun e=>h (List.append_eq_nil_iff.1 e).1
theorem join_ne{x:List UInt8}{l:List (List UInt8)}{sep:List UInt8}(h:x≠[]):Lib.join (x::l) sep≠[]:=by
 rw[join_cons]
 exact app_ne h
theorem litF_ne{a:Arr}(h1:(chkA a).1=0)(h2:(a.sh.isEmpty&&a.k != 3||a.sh.length==1&&a.k==2)=true):litF a≠[]:=by
 unfold litF
 rw[if_pos h1,litA_eq]
 unfold litK
 rw[Bool.or_eq_true,Bool.and_eq_true,Bool.and_eq_true,List.isEmpty_iff,beq_iff_eq,beq_iff_eq] at h2
 rcases h2 with ⟨h2,_⟩ | ⟨h2,h3⟩
 ·rw[if_pos (by rw[h2];rfl)]
  unfold scalK
  split
  ·exact showI_ne' _
  split
  ·exact quoB_ne _ _
  ·exact app_ne (by decide)
 ·rw[if_neg (by omega),if_pos ⟨h2,.inl h3⟩]
  unfold vecK
  rw[if_pos h3]
  exact quoB_ne _ _
theorem show_ne(n:Nd)(h:nodeV n=true):showN n≠[]:=by
 by_cases h10:n.kd=10
 ·cases n with
  |mk kd at_ cl tx pr op va ki bo de sl ss =>
   have h10:kd=10:=h10
   subst h10
   simp only[showN]
   simp
 ·have hc:=kind_cases h h10
  have ih:∀i,i<n.ki.length→(compB n=true→showN (n.ki.getD i default)≠[]):=fun i hi hcb=>by
   have hm:n.ki.getD i default∈n.ki:=nd_mem hi
   have hs:=Nd.size_kid hm
   rcases hc with hc | ⟨_,hc⟩
   ·unfold leafB at hc
    rw[Bool.and_eq_true,List.isEmpty_iff] at hc
    rw[hc.1] at hi
    exact absurd hi (Nat.not_lt_zero _)
   ·exact show_ne _ (hc _ hm)
  cases n with
  |mk kd at_ cl tx pr op va ki bo de sl ss =>
   have ih:∀i,i<ki.length→(compB (.mk kd at_ cl tx pr op va ki bo de sl ss)=true→(showL ki).getD i []≠[]):=fun i hi hcb=>by
    rw[showL_getD hi];exact ih i hi hcb
   have h10:kd≠10:=h10
   have hc:leafB (.mk kd at_ cl tx pr op va ki bo de sl ss)=true∨compB (.mk kd at_ cl tx pr op va ki bo de sl ss)=true:=by
    rcases hc with h | h
    ·exact .inl h
    ·exact .inr h.1
   have cl':∀ {l:List Int},classesB (.mk kd at_ cl tx pr op va ki bo de sl ss) l=true→ki.length=l.length:=fun h=>classes_len h
   simp only[showN]
   unfold leafB compB at hc
   simp only[Nd.kd,Nd.cl,Nd.tx,Nd.pr,Nd.op,Nd.va,Nd.ki] at hc
   unfold compB at ih
   simp only[Nd.kd,Nd.cl,Nd.ki] at ih
   by_cases e1:kd=1
   ·subst e1
    simp only[if_true] at hc ⊢
    rcases hc with hc | hc
    ·simp only[Bool.and_eq_true,beq_iff_eq] at hc
     exact litF_ne hc.2.1.2 hc.2.2
    ·simp at hc
   by_cases e2:kd=2
   ·subst e2
    simp at hc ⊢
    have:=hc.2.2
    intro e
    rw[e] at this
    exact absurd this (by decide)
   by_cases e6:kd=6
   ·subst e6;simp
   by_cases e7:kd=7
   ·subst e7;simp
   by_cases e8:kd=8
   ·subst e8;simp
   by_cases e11:kd=11
   ·subst e11;simp
   by_cases e12:kd=12
   ·subst e12;simp
   by_cases e13:kd=13
   ·subst e13;simp
   by_cases e9:kd=9
   ·subst e9
    simp at hc ⊢
    exact hc.2.2
   by_cases e17:kd=17
   ·subst e17
    simp at hc ⊢
    exact hc.2.2
   have words:∀ks:List Int,0<ki.length→(showL ki).getD 0 []≠[]→Lib.join (zipT ks ki (showL ki)) [32]≠[]:=fun ks hl hx=>by
    cases ki with
    |nil=>exact absurd hl (Nat.not_lt_zero _)
    |cons a r =>
     have e:zipT ks (a::r) (showL (a::r))=withT ks a.kd (showN a)::zipT ks r (showL r):=by simp only[showL,zipT]
     rw[e]
     refine join_ne (withT_ne ?_)
     simpa[showL] using hx
   by_cases e3:kd=3
   ·subst e3
    simp at hc ih ⊢
    have h2:=of_decide_eq_true hc.1.1.2
    have hl:0<ki.length:=by omega
    refine words _ hl ?_
    simpa using ih 0 hl hc.1.1.1 hc.1.1.2 hc.1.2 hc.2
   by_cases e4:kd=4
   ·subst e4;simp
   by_cases e5:kd=5
   ·subst e5;simp
   by_cases e16:kd=16
   ·subst e16
    simp at hc ih ⊢
    have hl:0<ki.length:=by
     rcases hc.2 with (h | h) | h<;>(have:=cl' h;simp at this;omega)
    refine words _ hl ?_
    simpa using ih 0 hl hc.1 hc.2
   by_cases e14:kd=14
   ·subst e14;simp
   by_cases e15:kd=15
   ·subst e15;simp
   simp[e1,e2,e3,e4,e5,e6,e7,e8,e9,e11,e12,e13,e14,e15,e16,e17] at hc
termination_by SizeOf.sizeOf n
theorem out_one(n:Nd):outB [.mk 1 0 [] 0 nd0 n]=([6,7,11,12,13].any fun k=>occN k n):=by
 unfold outB occB
 refine any_congr fun k _=>?_
 have e:partsS (.mk 1 0 [] 0 nd0 n)=[n]:=rfl
 simp only[List.any_cons,List.any_nil,Bool.or_false,e]
theorem right_zero'{n:Nd}:rightN n=0↔checkN n=0∧∀k∈[(6:Int),7,11,12,13],occN k n=false:=by
 unfold rightN
 by_cases h1:checkN n≠0
 ·rw[if_pos h1];exact⟨fun h=>(h1 h).elim,fun h=>(h1 h.1).elim⟩
 rw[if_neg h1,out_one]
 have h1:checkN n=0:=by simpa using h1
 by_cases h2:([6,7,11,12,13].any fun k=>occN k n)=true
 ·rw[if_pos h2]
  refine⟨fun h=>by omega,fun h=>?_⟩
  obtain ⟨k,hk,ho⟩:=List.any_eq_true.1 h2
  rw[h.2 k hk] at ho
  cases ho
 ·rw[if_neg h2]
  refine⟨fun _=>⟨h1,fun k hk=>?_⟩,fun _=>rfl⟩
  cases ho:occN k n with
  |false=>rfl
  |true=>exact (h2 (List.any_eq_true.2 ⟨k,hk,ho⟩)).elim
theorem parts_ok{n : Nd}{i : Nat}(h : rightN n=0)(hi : i<n.ki.length) :
  rightN (n.ki.getD i default)=0∧szN (n.ki.getD i default)<szN n∧szN n≤16384∧showNd (n.ki.getD i default)≠[]:=by
 obtain ⟨h1,h2⟩:=right_zero'.1 h
 obtain ⟨d,s,v⟩:=check_zero.1 h1
 have hm:=nd_mem hi
 obtain ⟨v1,v2⟩:=valid_kids v
 have hk:n.kd≠10:=fun e=>by rw[v2 e] at hi;exact absurd hi (Nat.not_lt_zero _)
 have hin:n.ki.getD i default∈innerN n:=List.mem_append.2 (.inl hm)
 have hd:=dpL_mem hin
 have hs:=szL_mem hin
 rw[dpN_inner] at d
 rw[szN_inner] at s
 have hc:checkN (n.ki.getD i default)=0:=check_zero.2 ⟨by omega,by omega,v1 _ hm⟩
 refine⟨right_zero'.2 ⟨hc,fun k hkk=>?_⟩,by rw[szN_inner n];omega,by rw[szN_inner n];omega,?_⟩
 ·have ho:=h2 k hkk
  rw[occN_eq,Bool.or_eq_false_iff] at ho
  have ho:=ho.2
  have hkb:(n.kd != 10)=true:=by simpa using hk
  rw[hkb,Bool.true_and] at ho
  cases hq:occN k (n.ki.getD i default) with
  |false=>rfl
  |true =>
   have:=List.any_eq_true.2 ⟨_,hm,hq⟩
   rw[this] at ho
   cases ho
 ·unfold showNd
  rw[if_pos hc]
  exact show_ne _ (v1 _ hm)
def Nd.rowX(n:Nd):List D:=[.int .i64 n.kd,.int .i64 n.at_,.int .i64 n.cl,.str n.tx,.int .i64 n.pr,.int .i64 n.op,.int .i64 n.va.k,isl n.va.sh .any,isl n.va.nu .any,gsl 4 Arr.row n.va.it,lsl 15 (ndRows n.ki),lsl 34 (smRows n.bo),.int .i64 n.de,.int .i64 n.sl,.int .i64 n.ss]
theorem rowX_eq(n:Nd):n.rowX=n.row:=by
 cases n
 simp only[Nd.row]
 rfl
def Nd.rowF(n:Nd):List D:=[.int .i64 n.kd,.int .i64 n.at_,.int .i64 n.cl,.str n.tx,.int .i64 n.pr,.int .i64 n.op,.int .i64 n.va.k,isl n.va.sh .any,isl n.va.nu .any,gsl 4 Arr.row n.va.it,gsl 15 Nd.rowX n.ki,gsl 34 Sm.row n.bo,.int .i64 n.de,.int .i64 n.sl,.int .i64 n.ss]
theorem rowX_isN(b:Nd)(ex:List D):isN b (.agg b.rowX::ex) ex:=by
 rw[rowX_eq]
 exact nd_self0 b ex
theorem rowF_row1(n:Nd):wkL n.rowF n.row1:=by
 simp only[Nd.rowF,Nd.row1,Nd.rowE,wkL]
 refine⟨wkD_refl _,wkD_refl _,wkD_refl _,wkD_refl _,wkD_refl _,wkD_refl _,wkD_refl _,wkD_refl _,wkD_refl _,wkD_refl _,gsl_wk fun x=>?_,wkD_refl _,wkD_refl _,wkD_refl _,wkD_refl _,trivial⟩
 rw[rowX_eq]
 exact wkL_refl _
theorem rowF_isN(n:Nd)(ex:List D):isN n (.agg n.rowF::ex) ex:=by
 simp only[isN,wkL,wkD]
 exact⟨rowF_row1 n,wkL_refl _⟩
theorem row_rowF'(n:Nd):wkL n.row n.rowF:=by
 rw[← rowX_eq]
 simp only[Nd.rowF,Nd.rowX,wkL,ndRows_map,smRows_map]
 refine⟨wkD_refl _,wkD_refl _,wkD_refl _,wkD_refl _,wkD_refl _,wkD_refl _,wkD_refl _,wkD_refl _,wkD_refl _,wkD_refl _,?_,lsl_wk,wkD_refl _,wkD_refl _,wkD_refl _,trivial⟩
 have e:n.ki.map Nd.row=n.ki.map Nd.rowX:=List.map_congr_left fun x _=>(rowX_eq x).symm
 rw[e]
 exact lsl_wk
theorem row_rowF(n:Nd)(ex:List D):wkL (.agg n.row::ex) (.agg n.rowF::ex):=by
 simp only[wkL,wkD]
 exact⟨row_rowF' n,wkL_refl _⟩
noncomputable def conLw:Con:=fun k ds S=>match k with
 |20=>some (pE (β:=Nd) ds S (fun b=>.str (showNd b)) (fun b=>isN b ds []∧good b))
 |9=>some (pE (β:=Nd) ds S (fun b=>.int .i64 (rightN b)) (fun b=>isN b ds []∧good b))
 |11=>some (pE (β:=Nd) ds S (fun b=>.int .i64 (sizeN b)) (fun b=>isN b ds []∧good b))
 |14=>some (pA ds S (.bool true) (ds=[]))
 |_=>none
theorem conLw_ok:ConOk Tryz.prog conLw:=by
 intro k ds S A hh
 unfold conLw at hh
 split at hh
 ·injection hh with hh;subst hh
  exact pS_ok fun b ⟨e,h⟩=>CD.at_ (CD.wk (sw_ok' b h.1 h.2) e) _
 ·injection hh with hh;subst hh
  exact pS_ok fun b ⟨e,h⟩=>CD.at_ (CD.wk (rn_ok' b h.1 h.2) e) _
 ·injection hh with hh;subst hh
  exact pS_ok fun b ⟨e,h⟩=>CD.at_ (CD.wk (szs_ok b h.2) e) _
 ·injection hh with hh;subst hh
  exact pA_ok fun e=>by rw[e];exact CD.at_ kw_ok _
 ·cases hh
noncomputable def Elp:Senv:={ EC conLw 41 3 [4,5,16] (fun id=>match id with | 4=>([0,1,2,3,4,6,5,7,8,9,10,11,12,13,14,15,16,17,18],[1,5,7,12,16]) | _=>([],[])) with mg:=fun _=>2 }
def Qm6(a:Nd):Arr:=Nd.va a
def QLC(a:Nd):List Int:=Arr.sh (Qm6 a)
def QLD(a:Nd):List Int:=Arr.nu (Qm6 a)
def QD1(a:Nd):List Arr:=Arr.it (Qm6 a)
def Qm7:Arr:=DA
def Qj0(a:Nd):List Nd:=Nd.ki a
def Qm8:Nd:=Nd.mk Z0 Z0 Z0 [] Z0 Z0 Qm7 [] [] Z0 Z0 Z0
def HJ(a:Nd)(b:Nat):Nd:=List.getD (Qj0 a) b Qm8
def Qm9(a:Nd)(b:Nat):Arr:=Nd.va (HJ a b)
def QLE(a:Nd)(b:Nat):List Int:=Arr.sh (Qm9 a b)
def QLF(a:Nd)(b:Nat):List Int:=Arr.nu (Qm9 a b)
def QD2(a:Nd)(b:Nat):List Arr:=Arr.it (Qm9 a b)
def QD3(a:Nd)(b:Nat):List (List D):=ndRows (Nd.ki (HJ a b))
def QD4(a:Nd)(b:Nat):List (List D):=smRows (Nd.bo (HJ a b))
def QD5(a:Nd):D:=D.agg [ZI (Nd.kd a),ZI (Nd.at_ a),ZI (Nd.cl a),D.str (Nd.tx a),ZI (Nd.pr a),ZI (Nd.op a),ZI (Arr.k (Qm6 a)),SI (QLC a),SI (QLD a),D.sl N4 (LN (QD1 a)) (fun (i:Nat)=>Arr.row (List.getD (QD1 a) i Qm7)) Mode.any,D.sl (15:Nat) (LN (Qj0 a)) (fun (i:Nat)=>[ZI (Nd.kd (HJ a i)),ZI (Nd.at_ (HJ a i)),ZI (Nd.cl (HJ a i)),D.str (Nd.tx (HJ a i)),ZI (Nd.pr (HJ a i)),ZI (Nd.op (HJ a i)),ZI (Arr.k (Qm9 a i)),SI (QLE a i),SI (QLF a i),D.sl N4 (LN (QD2 a i)) (fun (i_1:Nat)=>Arr.row (List.getD (QD2 a i) i_1 Qm7)) Mode.any,D.sl (15:Nat) (LN (QD3 a i)) (fun (i_1:Nat)=>List.getD (QD3 a i) i_1 []) Mode.any,D.sl (34:Nat) (LN (QD4 a i)) (fun (i_1:Nat)=>List.getD (QD4 a i) i_1 []) Mode.any,ZI (Nd.de (HJ a i)),ZI (Nd.sl (HJ a i)),ZI (Nd.ss (HJ a i))]) Mode.any,D.sl (34:Nat) (LN (Nd.bo a)) (fun (i:Nat)=>Sm.row (List.getD (Nd.bo a) i (Sm.mk Z0 Z0 [] Z0 Qm8 Qm8))) Mode.any,ZI (Nd.de a),ZI (Nd.sl a),ZI (Nd.ss a)]
def QD6(a b:Nd):Prop:=isN a [QD5 b] []∧good a
def Qrr:Prop:=∃(_x:Unit),eqOf (List D) [] []∧∀(_y:Unit),True→True∧∃(_y:Unit),True∧SM true∧True∧True
def HK(a:Nd)(b:Int):Nd:=List.getD (Qj0 a) (Int.toNat b) Qm8
def Qna(a:Nd)(b:Int):Arr:=Nd.va (HK a b)
def QLG(a:Nd)(b:Int):List Int:=Arr.sh (Qna a b)
def QLH(a:Nd)(b:Int):List Int:=Arr.nu (Qna a b)
def QD7(a:Nd)(b:Int):List Arr:=Arr.it (Qna a b)
def QD8(a:Nd)(b:Int):List (List D):=ndRows (Nd.ki (HK a b))
def QD9(a:Nd)(b:Int):List (List D):=smRows (Nd.bo (HK a b))
def Qrs(a b:Nd)(c:Int):Prop:=isN a [D.agg [ZI (Nd.kd (HK b c)),ZI (Nd.at_ (HK b c)),ZI (Nd.cl (HK b c)),D.str (Nd.tx (HK b c)),ZI (Nd.pr (HK b c)),ZI (Nd.op (HK b c)),ZI (Arr.k (Qna b c)),SI (QLG b c),SI (QLH b c),D.sl N4 (LN (QD7 b c)) (fun (i:Nat)=>Arr.row (List.getD (QD7 b c) i Qm7)) Mode.any,D.sl (15:Nat) (LN (QD8 b c)) (fun (i:Nat)=>List.getD (QD8 b c) i []) Mode.any,D.sl (34:Nat) (LN (QD9 b c)) (fun (i:Nat)=>List.getD (QD9 b c) i []) Mode.any,ZI (Nd.de (HK b c)),ZI (Nd.sl (HK b c)),ZI (Nd.ss (HK b c))]] []∧good a
def Qrt:Prop:=True∧∃(_y:Unit),True∧false=true∧True∧True
theorem law_parts(n:Nd)(w:Int)(hn:good n)(h0:0≤w)(h1:w≤255):CD 7 [.agg n.rowF,.int .u8 w] (.bool true):=by
 refine con_of (A:=sC _ _) (x:=()) (E:=Elp) (eOk conLw_ok rfl) Tryz.func7 rfl (by kernel_rfl) rfl (by simp[sC,Elp,EC,E0]) ?_
 refine vc_eq (T :=
  ∀(x:Nat),True→SM x∧∃(x_1:Nd),QD6 x_1 n∧∀(y:Unit),True→ifB (rightN x_1 != Z0) Qrr (SM x∧ifB (decide ((LI (Qj0 n))≤IntKind.wrap IntKind.i64 w)) Qrr (SM x∧side (Z0≤w∧w<(LI (Qj0 n))) (∀(x_2:Nat),x≠x_2∧True→SM x_2∧SM x_2∧∃(x_3:Nd),Qrs x_3 n w∧∀(y:Unit),True→ifB (rightN x_3==Z0) (SM x_2∧SM x∧∃(x_4:Nd),Qrs x_4 n w∧∀(y:Unit),True→(SM x∧SM (QD5 n))∧∃(x:Nd),QD6 x n∧∀(y:Unit),True→ifB (decide (sizeN x_4<sizeN x)) (SM x_2∧∃(x:Nd),Qrs x n w∧∀(y:Unit),True→ifB (showNd x != []) Qrr Qrt) Qrt) Qrt)))) (by kernel_rfl) ?_
 delta DA GI LI LN N1 N4 SI SM Z0 ZI Qm6 QLC QLF QD2 QD3 QD4 QD5 QD6 Qrr HK Qna QLG QLD QLH QD7 QD8 QD9 Qrs Qrt QD1 Qm7 Qj0 Qm8 HJ Qm9 QLE
 try simp only[← dm]
 try simp only[← dn]
 simp only[ne_eq,implies_true,ifB_iff,side_iff,decide_eq_true_eq,decide_eq_false_iff_not,true_and,and_true,beq_iff_eq,bne_iff_ne,bne_eq_false_iff_eq,beq_eq_false_iff_ne,exists_const,forall_const]
 have w2:IntKind.i64.wrap w=w:=wrap_i64' (by omega) (by omega)
 rw[w2]
 refine fun x=>⟨n,⟨rowF_isN n _,hn⟩,fun hr hi=>?_⟩
 have hi':w.toNat<n.ki.length:=by omega
 obtain ⟨p1,p2,p3,p4⟩:=parts_ok hr hi'
 have hk:good (n.ki.getD w.toNat default):=⟨ki_ok hn.1 _ (nd_getD hi'),sm_kid hn.2 (kid_inner (nd_getD hi'))⟩
 have hs:sizeN (n.ki.getD w.toNat default)<sizeN n:=by
  unfold sizeN
  split<;>split<;>omega
 refine⟨⟨by omega,by omega⟩,fun _ _=>⟨n.ki.getD w.toNat default,⟨rowX_isN _ _,hk⟩,fun _=>⟨n.ki.getD w.toNat default,⟨rowX_isN _ _,hk⟩,n,⟨rowF_isN n _,hn⟩,fun _=>⟨n.ki.getD w.toNat default,⟨rowX_isN _ _,hk⟩,fun h=>absurd h p4⟩,fun h=>absurd hs h⟩,fun h=>absurd p1 h⟩⟩
theorem parts_row(n:Nd)(w:Int)(hn:n.ok∧n.sm)(h0:0≤w)(h1:w≤255):ACalls Tryz.prog 7 [.agg n.row,.int .u8 w] ⟨[],[]⟩ (SpecR (sC [.agg n.row,.int .u8 w] (.bool true)) ()) :=
 CD.wk (law_parts n w hn h0 h1) (row_rowF n _)
noncomputable def wit1:Array Value:=#[.agg #[.int .i64 0,.int .i64 0,.int .i64 0,.string ⟨#[]⟩,.int .i64 0,.int .i64 0,.int .i64 0,.slice none 0 0,.slice none 0 0,.slice none 0 0,.slice none 0 0,.slice none 0 0,.int .i64 0,.int .i64 0,.int .i64 0],.int .u8 0]
theorem laid_met1(os:Os):laidMet Tryz.prog laidL ((laidWorld os).forCall (fun _ _=>0) ⟨#[],wit1,[]⟩).memory :=
 laidMet_of_run' 8 (by kernel_rfl) (by kernel_rfl)
theorem reads1(os:Os){H:Type}(enc:TypeId×Value→H):∃x,DataW.whole enc Tryz.prog ((laidWorld os).forCall (fun _ _=>0) ⟨#[],wit1,[]⟩).memory [34,5] [] false (wit1).toList 8=some x∧Rows.uptoSmall H (x.1++x.2.1)=true :=
 some_with (by kernel_rfl)
theorem contract1{H : Type}{enc : TypeId×Value → H}
  (W:World) (base:Nat) (args:Array Value) (ds gs:List (DataW H)) (before:List MemPlace)
  (hval:∀(j:Nat) t v,Tryz.f7.params[j]? =some t→args[j]? =some v→Value.okWide Tryz.prog W .any base t v)
  (hW:DataW.Whole enc Tryz.prog Tryz.f7.params.toList Rows.syntaxPartsSpec.vars false W args.toList ds gs before)
  (hsz:(DataW.weightsEach Tryz.prog (Tryz.f7.params.toList++Rows.syntaxPartsSpec.plain.varTypes Tryz.prog) (ds++gs)).all (·≤maxB)=true) (hL:laidMetH Tryz.prog laidL W) :
  Calls Tryz.prog 7 args W fun e W'=>∃v,e=.returned v∧Rows.syntaxPartsSpec.post enc Tryz.prog Tryz.f7 false true false false W args v W':=by
 refine law_contract (rs:=[(34,RNd),(5,RInt .u8)]) laid (by rw[Tryz.params7];kernel_rfl) rfl (fun ds hd=>?_) (rt:=4) rfl Tryz.underlying4 (by rw[Tryz.params7];rfl) ?_ W (g0_laid hL) base args ds gs before hval hW hsz ?_
 ·rw[Tryz.params7] at hd
  match ds,hd with
  | [_,_],_=>exact⟨rfl,rfl,rfl⟩
 ·intro r hr
  simp only[List.mem_cons,List.not_mem_nil,or_false] at hr
  rcases hr with rfl | rfl
  ·exact read_nd
  ·exact read_int Tryz.underlying5
 ·intro Ds h
  obtain ⟨dx,_,rfl,hx,h⟩:=h.agg (by kernel_rfl)
  obtain ⟨dy,_,rfl,hy,h⟩:=h.flat (by kernel_rfl)
  obtain rfl:=h.nil
  obtain ⟨x,⟨hokx,hsmx⟩,rfl⟩:=hx
  obtain ⟨y,ey,hloy,hhiy⟩:=hy
  injection ey with ey _
  subst ey
  have hoky:0≤y∧y≤255:=by
   simp only[IntKind.min,IntKind.max,IntKind.signed,IntKind.bits] at hloy hhiy
   simp at hloy hhiy
   omega
  exact (parts_row x y ⟨hokx,hsmx⟩ hoky.1 hoky.2).mono fun r S' ⟨_,_,hr,_⟩=>hr
theorem lifted1(os : Os)(started : os.Started)(H : Type)(enc : TypeId×Value → H)(F : Stop.Interp) :
  ReturnsInHanded {} Tryz.checked os 7 .any ((Rows.OpenSpec.upto Rows.syntaxPartsSpec).preRow enc Tryz.prog Tryz.f7 Rows.syntaxPartsUptoRow.domain false Rows.syntaxPartsUptoRow.laid) (((Rows.OpenSpec.upto Rows.syntaxPartsSpec).at F).post enc Tryz.prog Tryz.f7 false true false false):=by
 obtain ⟨x,hx,hxk⟩:=reads1 os enc
 refine returnsInHanded_of_row (C:=Tryz.checked) (s:=Rows.OpenSpec.upto Rows.syntaxPartsSpec) own started (by kernel_rfl) Tryz.func7
  (witness_row_at (enc:=enc) (C:=Tryz.checked) false (laidWorld os) wit1 rfl (by kernel_rfl) (by kernel_rfl) (by kernel_rfl)
   (OpenSpec.preRow_of_cond 8 hx rfl (fun k hk=>by cases hk;exact hxk) (by kernel_rfl) (laid_met1 os))) ?_
 intro W base args ds gs before hval hW _ hk _ hL _ _
 refine contract1 W base args ds gs before hval hW ?_ hL
 have e:Tryz.f7.params.toList++Rows.syntaxPartsSpec.plain.varTypes Tryz.prog=[34,5]:=by rw[Tryz.params7];kernel_rfl
 rw[e]
 exact upto_sz tysOk (by decide +kernel) (hk _ rfl)
theorem said1:Rows.SyntaxPartsUptoSaid :=
 OpenClaim.holds_of_cond 7 Tryz.f7 rfl rfl rfl rfl rfl rfl rfl ⟨rfl,rfl,rfl,rfl,rfl⟩ rfl rfl rfl rfl rfl (by kernel_rfl) Tryz.func7 (by kernel_rfl)
  (of_decide_eq_true (by kernel_rfl)) (by unfold Func.isWrapper;first | (rw[if_pos (by decide +kernel)];kernel_rfl) | (rw[if_neg (by decide +kernel)];exact⟨rfl,rfl⟩))
  (fun os started H enc _ F=>by rw[OpenClaim.pre_eq_preRow];exact lifted1 os started H enc F)
theorem plain1(f : FuncId)(fn : Func)(hf : Tryz.pinned.checked.prog.funcNamed "arraylang/arraylanglaw10.SyntaxParts" = some f)(hfn : Tryz.pinned.checked.prog.funcs[f]? = some fn) :
  false=Tryz.pinned.checked.prog.looks []∧∀(j:Nat) t,fn.params[j]? =some t→Tryz.pinned.checked.prog.wantsStandIn t=false:=by
 obtain rfl : f = 7 := Option.some.inj ((show Tryz.prog.funcNamed "arraylang/arraylanglaw10.SyntaxParts" = some 7 by kernel_rfl).symm.trans hf) |>.symm
 obtain rfl:fn=Tryz.f7:=(Option.some.inj (Tryz.func7.symm.trans hfn)).symm
 refine⟨by kernel_rfl,fun j t ht=>?_⟩
 rw[Tryz.params7] at ht
 have hm:t∈[34,5]:=by simpa using Array.mem_of_getElem? ht
 simp only[List.mem_cons,List.not_mem_nil,or_false] at hm
 rcases hm with rfl | rfl
 ·exact (show Tryz.prog.wantsStandIn 34=false by kernel_rfl)
 ·exact (show Tryz.prog.wantsStandIn 5=false by kernel_rfl)
theorem provedSyntaxParts:Rows.SyntaxPartsUptoCardSaid :=
 Claim7.holds_tied_plain_at .later [] _ _ _ _ said1 (fun _ h=>by cases h) (by kernel_rfl) (fun _ h=>by cases h) syntaxPartsUpto_row_tie rfl ⟨rfl,rfl⟩ (by kernel_rfl) rfl plain1 (by kernel_rfl)
end
end Go.Proofs.YtjnifeedbgefpaaGreatDoor
