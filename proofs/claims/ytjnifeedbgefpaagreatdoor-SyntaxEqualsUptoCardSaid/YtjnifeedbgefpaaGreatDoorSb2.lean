/- The syntax laws, walked through the code. -/
import Derived.Test.YtjnifeedbgefpaaGreatDoorSb1
import Derived.Test.YtjnifeedbgefpaaGreatDoorRows
import Derived.Test.YtjnifeedbgefpaaGreatDoorCards
import Derived.Test.YtjnifeedbgefpaaGreatDoorTie
import Derived.WalkKit
import Derived.ProofKit
import Derived.OpenShut
import Derived.Deep.DeepHandedRow
import Derived.Lib.LaidTab
import Derived.Stop.LaidErr
import Derived.Test.YtjnifeedbgefpaaGreatDoorProg
import Derived.Lib.ItoaNum
import Derived.Lib.TrailingZeros
import Derived.Calls
import Derived.Below
import Derived.Laws.Entries
import Derived.Laws.Build
import Derived.Laws.Concat
import Derived.Laws.AppendOwn
import Derived.Laws.IdiomStrings
import Derived.Laws.BytesString
import Derived.Laws.NewFold
import Derived.Laws.MakeOwn
import Derived.Laws.IdiomCopy
import Derived.Laws.Shifts
import Derived.Laws.Strings
import Derived.Laws.Strings2
import Derived.Laws.Strings3
import Derived.Laws.RangeString
import Derived.Laws.Cover4
import Derived.Lib.DecodeN
import Derived.MapKept
import Derived.Laws.StructEq
import Derived.Orders
import Derived.Scope
import Derived.Recover
import Derived.KernelRfl
import Derived.Shelf.Strings.Builder1
import Derived.Shelf.Strings.Builder2
import Derived.Shelf.Strings.OnBuilder
import Derived.Shelf.Strings.BuilderF
import Derived.Shelf.Strconv.Itoa0
import Derived.Shelf.Strconv.Itoa1
import Derived.Shelf.LaysM
import Derived.Shelf.Strconv.Itoa2
import Derived.Shelf.Strconv.Itoa3
import Derived.Shelf.Strconv.Itoa4
import Derived.Shelf.Bits.Mul64
import Derived.Lib.AppendIntMem
import Derived.Lib.ItoaLen
import Derived.Lib.Join
import Derived.Lib.Builder
import Derived.Lib.UnsafeStr
namespace Go.Proofs.YtjnifeedbgefpaaGreatDoor
open Go Go.Ab
noncomputable section
theorem smL_iff:∀(l:List Arr),smL l↔∀a∈l,a.sm
 | []=>by simp[smL]
 |a::l=>by simp only[smL,List.forall_mem_cons,smL_iff l]
def RInts:List D→Prop:=fun ds=>∃l:List Int,(∀z∈l,inI64 z)∧l.length≤maxB∧ds=[isl l .any]
def RArr:List D→Prop:=fun ds=>∃a:Arr,(a.ok∧a.sm)∧ds=a.row
theorem int_row:∀x,RInt .i64 x→∃z,inI64 z∧x=[.int .i64 z]:=by
 rintro x ⟨n,rfl,h1,h2⟩
 simp only[IntKind.min,IntKind.max,IntKind.signed,IntKind.bits] at h1 h2
 exact⟨n,⟨by simpa using h1,by simp at h2;omega⟩,rfl⟩
theorem read_ints(W:World)(n:Nat):ReadAt Tryz.prog W n 27 RInts:=by
 cases n with
 |zero=>exact .zero _ _
 |succ n =>
  refine (read_sliceA (w:=1) Tryz.underlying27 (by kernel_rfl) (by decide) (by decide +kernel) (read_int Tryz.underlying3 W n)).weak ?_
  rintro _ ds vs ⟨l,h1,h2,rfl⟩ h
  obtain ⟨l',q,rfl⟩:=rows_of int_row l h1
  refine⟨_,⟨l',q,by simpa using h2,rfl⟩,weakL_weak _ _ ?_ _ _ h⟩
  simp only[isl,weakL,weakD,chk_iff]
  refine⟨⟨by simp,by simp,fun i hi=>?_,by simp[weakM]⟩,trivial⟩
  have hi:i<l'.length:=by simpa using hi
  simp[List.getD_eq_getElem?_getD,hi]
theorem read_arr(W:World):∀n,ReadAt Tryz.prog W n 30 RArr
 |0=>.zero _ _
 |n+1=>by
  have hi:ReadAt Tryz.prog W n 28 (RSliceA 4 RArr):=by
   cases n with
   |zero=>exact .zero _ _
   |succ m=>exact read_sliceA (w:=4) Tryz.underlying28 (by kernel_rfl) (by decide) (by decide +kernel) (read_arr W m)
  refine (read_struct Tryz.underlying30 (by kernel_rfl) (Rs:=[RInt .i64,RInts,RInts,RSliceA 4 RArr]) ⟨read_int (by kernel_rfl) W n,read_ints W n,read_ints W n,hi,trivial⟩).mono ?_
  rintro ds ⟨_,_,h1,⟨_,_,h2,⟨_,_,h3,⟨_,_,h4,h5,rfl⟩,rfl⟩,rfl⟩,rfl⟩
  obtain rfl:_=[]:=h5
  obtain ⟨k,hk,rfl⟩:=int_row _ h1
  obtain ⟨s,s1,s2,rfl⟩:=h2
  obtain ⟨m,m1,m2,rfl⟩:=h3
  obtain ⟨l,l1,l2,rfl⟩:=h4
  obtain ⟨is,q,rfl⟩:=rows_of (g:=Arr.row) (Q:=fun a=>a.ok∧a.sm) (fun x hx=>hx) l l1
  have l2:is.length≤maxB:=by simpa using l2
  refine⟨.mk k s m is,⟨?_,?_⟩,?_⟩
  ·simp only[Arr.ok]
   exact⟨hk,s1,m1,maxB_le s2,maxB_le m2,maxB_le l2,(okL_iff _).2 fun a ha=>(q a ha).1⟩
  ·simp only[Arr.sm]
   exact⟨s2,m2,l2,(smL_iff _).2 fun a ha=>(q a ha).2⟩
  ·simp only[Arr.row,rowsL_map,List.cons_append,List.nil_append]
set_option maxRecDepth 100000
def okTy(P:Program)(TS:List Nat)(t:Nat):Bool :=
 match P.underlying t with
 |some (.slice e)=>TS.contains e&&decide (P.bytesOf e≤4096)
 |some (.struct fs)=>fs.toList.all fun f=>TS.contains f.type
 |some (.pointer e)=>TS.contains e
 |some (.array _ e)=>TS.contains e
 |some (.map k e)=>TS.contains e&&decide (P.bytesOf k+P.bytesOf e≤4096)
 |_=>true
theorem bulk_one{H:Type}(d:DataW H):1≤Rows.uptoBulk d:=by
 cases d with
 |lit l=>cases l<;>simp[Rows.uptoBulk]
 |nil=>simp[Rows.uptoBulk]
 |ptr d=>simp[Rows.uptoBulk]
 |slice elems spare=>simp[Rows.uptoBulk]
 |agg parts=>simp[Rows.uptoBulk]
 |iface t d=>simp[Rows.uptoBulk]
 |map entries=>simp[Rows.uptoBulk]
 |held h=>simp[Rows.uptoBulk]
theorem bulk_len{H:Type}:∀l:List (DataW H),l.length≤Rows.uptoBulkAll l
 | []=>by simp[Rows.uptoBulkAll]
 |x::r=>by
  have:=bulk_one x
  have:=bulk_len r
  simp only[Rows.uptoBulkAll,List.length_cons]
  omega
theorem bulk_ent{H:Type}:∀l:List (Go.Lit×DataW H),l.length≤Rows.uptoBulkEntries l
 | []=>by simp[Rows.uptoBulkEntries]
 |(k,d)::r=>by
  have:=bulk_one d
  have:=bulk_ent r
  have h:1≤Rows.uptoBulkEntry (k,d):=by cases k<;>simp[Rows.uptoBulkEntry]
  simp only[Rows.uptoBulkEntries,List.length_cons]
  omega
theorem mul_4096{a b c:Nat}(h1:a≤c)(h2:b≤4096):a*b≤8192*c:=by
 calc a*b≤c*4096:=Nat.mul_le_mul h1 h2
  _≤8192*c:=by omega
mutual
theorem w_le{P:Program}{TS:List Nat}(hT:∀t∈TS,okTy P TS t=true){H:Type}:∀(d:DataW H) (t:Nat),t∈TS→∀x∈d.weights P t,x≤8192*Rows.uptoBulk d
 |.lit l,t,_,x,hx=>by
  cases l with
  |string bytes =>
   simp only[DataW.weights,List.mem_singleton] at hx
   simp only[Rows.uptoBulk]
   omega
  |_=>simp[DataW.weights] at hx
 |.nil,t,_,x,hx=>by simp[DataW.weights] at hx
 |.ptr d,t,ht,x,hx=>by
  have ho:=hT t ht
  simp only[DataW.weights] at hx
  unfold okTy at ho
  split at hx
  ·rename_i e hu
   rw[hu] at ho
   have:=w_le hT d e (by simpa using ho) x hx
   simp only[Rows.uptoBulk]
   omega
  ·simp at hx
 |.slice elems spare,t,ht,x,hx=>by
  have ho:=hT t ht
  simp only[DataW.weights] at hx
  unfold okTy at ho
  split at hx
  ·rename_i e hu
   rw[hu] at ho
   simp only[Bool.and_eq_true,decide_eq_true_eq] at ho
   have he:e∈TS:=by simpa using ho.1
   simp only[Rows.uptoBulk]
   rcases List.mem_cons.1 hx with rfl | hx
   ·exact Nat.le_trans (mul_4096 (Nat.add_le_add (bulk_len elems) (bulk_len spare)) ho.2) (by omega)
   ·rcases List.mem_append.1 hx with hx | hx
    ·have:=wAll_le hT elems e he x hx
     omega
    ·have:=wAll_le hT spare e he x hx
     omega
  ·simp at hx
 |.agg parts,t,ht,x,hx=>by
  have ho:=hT t ht
  simp only[DataW.weights] at hx
  unfold okTy at ho
  split at hx
  ·rename_i fs hu
   rw[hu] at ho
   have:=wEach_le hT (fs.toList.map (·.type)) parts (fun t h=>by
    obtain ⟨f,hf,rfl⟩:=List.mem_map.1 h
    simpa using List.all_eq_true.1 ho f hf) x hx
   simp only[Rows.uptoBulk]
   omega
  ·rename_i e hu
   rw[hu] at ho
   have:=wAll_le hT parts e (by simpa using ho) x hx
   simp only[Rows.uptoBulk]
   omega
  ·simp at hx
 |.iface _ _,t,_,x,hx=>by simp[DataW.weights] at hx
 |.map entries,t,ht,x,hx=>by
  have ho:=hT t ht
  simp only[DataW.weights] at hx
  unfold okTy at ho
  split at hx
  ·rename_i k e hu
   rw[hu] at ho
   simp only[Bool.and_eq_true,decide_eq_true_eq] at ho
   simp only[Rows.uptoBulk]
   rcases List.mem_cons.1 hx with rfl | hx
   ·exact Nat.le_trans (mul_4096 (bulk_ent entries) ho.2) (by omega)
   ·have:=wEnt_le hT entries e (by simpa using ho.1) x hx
    omega
  ·simp at hx
 |.held _,t,_,x,hx=>by simp[DataW.weights] at hx
theorem wAll_le{P:Program}{TS:List Nat}(hT:∀t∈TS,okTy P TS t=true){H:Type}:∀(l:List (DataW H)) (e:Nat),e∈TS→∀x∈DataW.weightsAll P e l,x≤8192*Rows.uptoBulkAll l
 | [],e,_,x,hx=>by simp[DataW.weightsAll] at hx
 |d::r,e,he,x,hx=>by
  simp only[DataW.weightsAll] at hx
  simp only[Rows.uptoBulkAll]
  rcases List.mem_append.1 hx with hx | hx
  ·have:=w_le hT d e he x hx;omega
  ·have:=wAll_le hT r e he x hx;omega
theorem wEach_le{P:Program}{TS:List Nat}(hT:∀t∈TS,okTy P TS t=true){H:Type}:∀(ts:List Nat) (l:List (DataW H)),(∀t∈ts,t∈TS)→∀x∈DataW.weightsEach P ts l,x≤8192*Rows.uptoBulkAll l
 | [],l,_,x,hx=>by simp[DataW.weightsEach] at hx
 |t::ts,[],_,x,hx=>by simp[DataW.weightsEach] at hx
 |t::ts,d::r,ht,x,hx=>by
  simp only[DataW.weightsEach] at hx
  simp only[Rows.uptoBulkAll]
  rcases List.mem_append.1 hx with hx | hx
  ·have:=w_le hT d t (ht t (by simp)) x hx;omega
  ·have:=wEach_le hT ts r (fun u hu=>ht u (by simp[hu])) x hx;omega
theorem wEnt_le{P:Program}{TS:List Nat}(hT:∀t∈TS,okTy P TS t=true){H:Type}:∀(l:List (Go.Lit×DataW H)) (e:Nat),e∈TS→∀x∈DataW.weightsEntries P e l,x≤8192*Rows.uptoBulkEntries l
 | [],e,_,x,hx=>by simp[DataW.weightsEntries] at hx
 |(k,d)::r,e,he,x,hx=>by
  simp only[DataW.weightsEntries] at hx
  simp only[Rows.uptoBulkEntries]
  rcases List.mem_append.1 hx with hx | hx
  ·cases k with
   |string bytes =>
    simp only[DataW.weightsEntry] at hx
    simp only[Rows.uptoBulkEntry]
    rcases List.mem_cons.1 hx with rfl | hx
    ·omega
    ·have:=w_le hT d e he x hx;omega
   |_ =>
    simp only[DataW.weightsEntry] at hx
    simp only[Rows.uptoBulkEntry]
    have:=w_le hT d e he x hx;omega
  ·have:=wEnt_le hT r e he x hx;omega
end
theorem upto_sz{P:Program}{TS:List Nat}(hT:∀t∈TS,okTy P TS t=true){H:Type}{ts:List Nat}(hts:∀t∈ts,t∈TS){ds:List (DataW H)}(hk:Rows.uptoSmall H ds=true):(DataW.weightsEach P ts ds).all (·≤maxB)=true:=by
 have hb:Rows.uptoBulkAll ds≤1048576:=of_decide_eq_true hk
 refine List.all_eq_true.2 fun x hx=>?_
 have:=wEach_le hT ts ds hts x hx
 unfold maxB
 simp only[decide_eq_true_eq]
 omega
def RNd:List D→Prop:=fun ds=>∃n:Nd,(n.ok∧n.sm)∧ds=n.row
def RSm:List D→Prop:=fun ds=>∃s:Sm,(s.ok∧s.sm)∧ds=s.row
theorem read_sm(W:World)(m:Nat)(hn:∀k,k<m→ReadAt Tryz.prog W k 34 RNd):ReadAt Tryz.prog W m 55 RSm:=by
 cases m with
 |zero=>exact .zero _ _
 |succ k =>
  refine (read_struct Tryz.underlying55 (by kernel_rfl) (Rs:=[RInt .i64,RInt .i64,RStr,RInt .i64,RNd,RNd]) ⟨read_int (by kernel_rfl) W k,read_int (by kernel_rfl) W k,read_string (by kernel_rfl) W k,read_int (by kernel_rfl) W k,hn k (Nat.lt_succ_self k),hn k (Nat.lt_succ_self k),trivial⟩).mono ?_
  rintro ds ⟨_,_,h1,⟨_,_,h2,⟨_,_,h3,⟨_,_,h4,⟨_,_,h5,⟨_,_,h6,h7,rfl⟩,rfl⟩,rfl⟩,rfl⟩,rfl⟩,rfl⟩
  obtain rfl:_=[]:=h7
  obtain ⟨kd,kd1,rfl⟩:=int_row _ h1
  obtain ⟨at_,at1,rfl⟩:=int_row _ h2
  obtain ⟨nm,rfl,nm1⟩:=h3
  obtain ⟨sl,sl1,rfl⟩:=int_row _ h4
  obtain ⟨te,⟨te1,te2⟩,rfl⟩:=h5
  obtain ⟨nd,⟨nd1,nd2⟩,rfl⟩:=h6
  refine⟨.mk kd at_ nm sl te nd,⟨?_,?_⟩,?_⟩
  ·simp only[Sm.ok]
   exact⟨⟨kd1,at1,sl1⟩,te1,nd1⟩
  ·simp only[Sm.sm]
   exact⟨nm1,te2,nd2⟩
  ·simp only[Sm.row,List.cons_append,List.nil_append,List.append_nil]
theorem read_nd(W:World):∀n,ReadAt Tryz.prog W n 34 RNd:=by
 intro n
 induction n using Nat.strongRecOn with
 |_ n ih =>
  cases n with
  |zero=>exact .zero _ _
  |succ m =>
   have hk:ReadAt Tryz.prog W m 31 (RSliceA 15 RNd):=by
    cases m with
    |zero=>exact .zero _ _
    |succ k=>exact read_sliceA (w:=15) Tryz.underlying31 (by kernel_rfl) (by decide) (by decide +kernel) (ih k (by omega))
   have hb:ReadAt Tryz.prog W m 32 (RSliceA 34 RSm):=by
    cases m with
    |zero=>exact .zero _ _
    |succ k=>exact read_sliceA (w:=34) Tryz.underlying32 (by kernel_rfl) (by decide) (by decide +kernel) (read_sm W k fun j hj=>ih j (by omega))
   have ri:∀t,Tryz.prog.underlying t=some (.int .i64)→ReadAt Tryz.prog W m t (RInt .i64):=fun t ht=>read_int ht W m
   refine (read_struct Tryz.underlying34 (by kernel_rfl) (Rs:=[RInt .i64,RInt .i64,RInt .i64,RStr,RInt .i64,RInt .i64,RArr,RSliceA 15 RNd,RSliceA 34 RSm,RInt .i64,RInt .i64,RInt .i64])
    ⟨ri _ (by kernel_rfl),ri _ (by kernel_rfl),ri _ (by kernel_rfl),read_string (by kernel_rfl) W m,ri _ (by kernel_rfl),ri _ (by kernel_rfl),read_arr W m,hk,hb,ri _ (by kernel_rfl),ri _ (by kernel_rfl),ri _ (by kernel_rfl),trivial⟩).weak ?_
   rintro _ ds vs ⟨_,_,h1,⟨_,_,h2,⟨_,_,h3,⟨_,_,h4,⟨_,_,h5,⟨_,_,h6,⟨_,_,h7,⟨_,_,h8,⟨_,_,h9,⟨_,_,h10,⟨_,_,h11,⟨_,_,h12,h13,rfl⟩,rfl⟩,rfl⟩,rfl⟩,rfl⟩,rfl⟩,rfl⟩,rfl⟩,rfl⟩,rfl⟩,rfl⟩,rfl⟩ hr
   obtain rfl:_=[]:=h13
   obtain ⟨kd,kd1,rfl⟩:=int_row _ h1
   obtain ⟨at_,at1,rfl⟩:=int_row _ h2
   obtain ⟨cl,cl1,rfl⟩:=int_row _ h3
   obtain ⟨tx,rfl,tx1⟩:=h4
   obtain ⟨pr,pr1,rfl⟩:=int_row _ h5
   obtain ⟨op,op1,rfl⟩:=int_row _ h6
   obtain ⟨va,⟨va1,va2⟩,rfl⟩:=h7
   obtain ⟨l,l1,l2,rfl⟩:=h8
   obtain ⟨b,b1,b2,rfl⟩:=h9
   obtain ⟨de,de1,rfl⟩:=int_row _ h10
   obtain ⟨sl,sl1,rfl⟩:=int_row _ h11
   obtain ⟨ss,ss1,rfl⟩:=int_row _ h12
   obtain ⟨ki,qk,rfl⟩:=rows_of (g:=Nd.row) (Q:=fun a=>a.ok∧a.sm) (fun x hx=>hx) l l1
   obtain ⟨bo,qb,rfl⟩:=rows_of (g:=Sm.row) (Q:=fun a=>a.ok∧a.sm) (fun x hx=>hx) b b1
   have l2:ki.length≤maxB:=by simpa using l2
   have b2:bo.length≤maxB:=by simpa using b2
   refine⟨(Nd.mk kd at_ cl tx pr op va ki bo de sl ss).row,⟨_,⟨?_,?_⟩,rfl⟩,wkL_weak _ _ ?_ _ _ hr⟩
   ·simp only[Nd.ok]
    exact⟨⟨kd1,at1,cl1,pr1,op1,de1,sl1,ss1⟩,va1,(ndsOk_iff _).2 fun a ha=>(qk a ha).1,(smsOk_iff _).2 fun a ha=>(qb a ha).1⟩
   ·simp only[Nd.sm]
    exact⟨⟨tx1,l2,b2⟩,va2,(ndsSm_iff _).2 fun a ha=>(qk a ha).2,(smsSm_iff _).2 fun a ha=>(qb a ha).2⟩
   ·simp only[Nd.row,ndRows_map,smRows_map,List.cons_append,List.nil_append,List.append_nil,wkL]
    refine⟨wkD_refl _,wkD_refl _,wkD_refl _,wkD_refl _,wkD_refl _,wkD_refl _,?_⟩
    have h:=wkL_app (row_wk va) (wkL_refl (lsl 15 (ki.map Nd.row)::lsl 34 (bo.map Sm.row)::[D.int .i64 de,D.int .i64 sl,D.int .i64 ss]))
    simp only[Arr.row1,List.cons_append,List.nil_append] at h
    exact h
noncomputable def Eshp(l m:List Int):Senv:={ EC con0 26 2 [4,5,10,14,25] (fun id=>match id with | 6=>([0,1,2,3,4,5,6,7,8],[]) | _=>([],[])) with
 ann:=fun b _ S=>match b with
  |0=>some { slots:=[5],keep:=[0,1],α:=Nat,st:=fun i=>([.int .i64 i],S),inv:=fun i=>i≤l.length∧∀j,j<i→l.getD j 0=m.getD j 0,mu:=fun i=>l.length-i }
  |_=>none }
def Xb(a b:List Int):Prop:=RT (false=decide (a=b))
def JH(a:Nat)(b c:List Int):Prop:=a≤LN b∧∀(j:Nat),j<a→GI b j=GI c j
def Qaf(a:List Int):D:=SI a
def Xc(a:List Int):Prop:=SM (Qaf a)
theorem shapes_ok(l m:List Int)(hl:l.length≤maxLen)(hm:m.length≤maxLen):ACalls Tryz.prog 62 [isl l .any,isl m .any] ⟨[],[]⟩ (SpecR (sC [isl l .any,isl m .any] (.bool (decide (l=m)))) ()):=by
 refine con_of (A:=sC _ _) (x:=()) (E:=Eshp l m) (eOk con0_ok rfl) Tryz.func62 rfl (by kernel_rfl) rfl (by simp[sC,Eshp,EC,E0]) ?_
 refine vc_eq (T :=
  ifB ((LI l) != (LI m)) (Xb l m) ((∃(x:Nat),JH x l m∧(Z0=(↑x:Int)∧True)∧True∧True)∧∀(x:Nat),JH x l m→ifB (decide ((↑x:Int)<(LI l))) (side (Z0≤(↑x:Int)∧(↑x:Int)<(LI l)) (side (Z0≤(↑x:Int)∧(↑x:Int)<(LI m)) (ifB (GI l (Int.toNat (↑x:Int)) != GI m (Int.toNat (↑x:Int))) (Xb l m) ((Xc l∧Xc m∧True)∧∃(y:Nat),JH y l m∧LN l-y<LN l-x∧(IntKind.wrap IntKind.i64 ((↑x:Int)+Z1)=(↑y:Int)∧True)∧True∧True)))) (RT (true=decide (l=m))))) (by kernel_rfl) ?_
 delta GI LI LN N1 SI SM Z0 Z1 ZI Xb JH Qaf Xc RT
 simp only[ifB_iff,side_iff,decide_eq_true_eq,decide_eq_false_iff_not,true_and,and_true,beq_iff_eq,bne_iff_ne,ne_eq,exists_const,forall_const,implies_true,Int.toNat_natCast]
 simp only[maxLen] at hl hm
 refine⟨fun h=>?_,fun h=>⟨⟨0,⟨Nat.zero_le _,fun j hj=>absurd hj (by omega)⟩,rfl⟩,fun i hi=>⟨fun hlt=>?_,fun hge=>?_⟩⟩⟩
 ·exact (decide_eq_false fun e=>by rw[e] at h;exact h rfl).symm
 ·have h:l.length=m.length:=by
   have h:(l.length:Int)=m.length:=by simpa using h
   omega
  refine⟨⟨by omega,by omega⟩,⟨by omega,by omega⟩,fun hn=>?_,fun he=>⟨i+1,⟨by omega,fun j hj=>?_⟩,by omega,wrap_i64' (by omega) (by omega)⟩⟩
  ·exact (decide_eq_false fun e=>hn (by rw[e])).symm
  ·by_cases e:j=i
   ·subst e;simpa using he
   ·exact hi.2 j (by omega)
 ·have h:l.length=m.length:=by
   have h:(l.length:Int)=m.length:=by simpa using h
   omega
  exact (decide_eq_true (eq_getD 0 h fun j hj=>hi.2 j (by omega))).symm
noncomputable def sameA(a b:Arr):Bool:=@decide (a=b) (Classical.propDecidable _)
theorem sameA_iff{a b:Arr}:sameA a b=true↔a=b:=by unfold sameA;exact @decide_eq_true_iff _ (Classical.propDecidable _)
theorem sameA_no{a b:Arr}(h:a≠b):false=sameA a b:=by
 cases hs:sameA a b with
 |false=>rfl
 |true=>exact (h (sameA_iff.1 hs)).elim
noncomputable def sSm(row:Arr→List D)(q:Arr×Arr→Prop):FnSpec where
 β:=Arr×Arr
 α:=Unit
 args:=fun x=>[.agg (row x.1),.agg (row x.2)]
 st:=fun _=>⟨[],[]⟩
 pre:=q
 post:=fun _ _=>True
 res:=fun x _=>.ret (.bool (sameA x.1 x.2))
 out:=fun _ _=>⟨[],[]⟩
noncomputable def conSm(l m:List Arr):Con:=fun k ds _=>match k with
 |42=>some (sSm Arr.row1 (fun x=>x.1∈l∧x.2∈m))
 |62=>match ds with
  | [.sl 1 n f _,.sl 1 p g _]=>some (pC ds (.bool (decide (intsD n f=intsD p g))) ((IntsP n f∧n≤maxLen)∧IntsP p g∧p≤maxLen))
  |_=>none
 |_=>none
noncomputable def Esm(a b:Arr):Senv:={ EC (conSm a.it b.it) 55 6 [35,40,54] (fun id=>match id with | 6=>([0,1,2,3,4,5,6,7,8,9,10,11],[10]) | _=>([],[])) with
 ann:=fun q _ S=>match q with
  |0=>some { slots:=[5],keep:=[2,3],α:=Nat,st:=fun i=>([.int .i64 i],S),inv:=fun i=>i≤a.it.length∧∀j,j<i→a.it.getD j default=b.it.getD j default,mu:=fun i=>a.it.length-i }
  |_=>none }
def Kz(a:Arr):Int:=Arr.k a
def Kg(a b:Arr):Prop:=RT (false=sameA a b)
def Q3(a:Arr):Nat:=LN (Arr.sh a)
def KA(a:Arr)(b:Nat):List D:=[ZI (GI (Arr.sh a) b)]
def Xd(a:Arr):Prop:=(IntsP (Q3 a) fun (i:Nat)=>KA a i)∧Q3 a≤(9223372036854775807:Nat)
def Xe(a:Arr):List Int:=intsD (Q3 a) fun (i:Nat)=>KA a i
def Q4(a:Arr):Nat:=LN (Arr.nu a)
def KB(a:Arr)(b:Nat):List D:=[ZI (GI (Arr.nu a) b)]
def Xf(a:Arr):Prop:=(IntsP (Q4 a) fun (i:Nat)=>KB a i)∧Q4 a≤(9223372036854775807:Nat)
def Xg(a:Arr):List Int:=intsD (Q4 a) fun (i:Nat)=>KB a i
def Kh(a:Arr):List Arr:=Arr.it a
def QS(a:Arr):Nat:=LN (Kh a)
def Ki(a:Arr):Int:=(NI (QS a))
def KC:Arr:=DA
def QT(a:Arr)(b:Nat):Arr:=List.getD (Kh a) b KC
def JI(a:Nat)(b c:Arr):Prop:=a≤QS b∧∀(j:Nat),j<a→QT b j=QT c j
def Qag(a:Arr)(b:Nat):List Int:=Arr.sh (QT a b)
def Qah(a:Arr)(b:Nat):List Int:=Arr.nu (QT a b)
def Xh(a:Arr)(b:Nat):List Arr:=Arr.it (QT a b)
def Qai(a:Arr)(b:Nat):List D:=[ZI (Arr.k (QT a b)),SI (Qag a b),SI (Qah a b),D.sl N4 (LN (Xh a b)) (fun (i:Nat)=>Arr.row (List.getD (Xh a b) i KC)) Mode.any]
def Xi(a:Arr):Prop:=SM (Kz a)∧(SM (Q3 a)∧(∀(i:Nat),i<Q3 a→SM (KA a i))∧True)∧(SM (Q4 a)∧(∀(i:Nat),i<Q4 a→SM (KB a i))∧True)∧(SM (QS a)∧(∀(i:Nat),i<QS a→SM (Qai a i))∧True)∧True
def Xj(a:Nat)(b:Arr)(c:Nat)(d:Arr):Prop:=(SM a∧Xi b∧SM c∧Xi d∧True)∧True
def KD(a:Arr)(b:Nat):Arr:=List.getD (Kh a) (Int.toNat (↑b:Int)) KC
def Xk(a:Arr)(b:Nat):List Int:=Arr.sh (KD a b)
def Xl(a:Arr)(b:Nat):Nat:=LN (Xk a b)
def Xm(a:Arr)(b:Nat):List Int:=Arr.nu (KD a b)
def Xn(a:Arr)(b:Nat):Nat:=LN (Xm a b)
def Xo(a:Arr)(b:Nat):List Arr:=Arr.it (KD a b)
def Xp(a:Arr)(b:Nat):Nat:=LN (Xo a b)
def Xq(a:Arr)(b:Nat)(c:Arr):Prop:=Arr.k (KD a b)=Kz c∧(Xl a b=Q3 c∧(∀(i:Nat),i<Xl a b→[ZI (GI (Xk a b) i)]=KA c i)∧True)∧(Xn a b=Q4 c∧(∀(i:Nat),i<Xn a b→[ZI (GI (Xm a b) i)]=KB c i)∧True)∧(Xp a b=QS c∧(∀(i:Nat),i<Xp a b→Arr.row (List.getD (Xo a b) i KC)=Arr.row (QT c i))∧True)∧True
theorem same_step(a b : Arr)(ha : a.sh.length≤maxLen ∧ a.nu.length≤maxLen ∧ a.it.length≤maxLen)(hb : b.sh.length≤maxLen ∧ b.nu.length≤maxLen ∧ b.it.length≤maxLen)(hc : ConOk Tryz.prog (conSm a.it b.it)) :
  ACalls Tryz.prog 42 ((sSm Arr.row2 (fun _=>True)).args (a,b)) ⟨[],[]⟩ (SpecR (sSm Arr.row2 (fun _=>True)) (a,b)):=by
 refine con_of (A:=sSm Arr.row2 (fun _=>True)) (x:=(a,b)) (E:=Esm a b) (eOk hc rfl) Tryz.func42 rfl (by kernel_rfl) rfl (by simp[sSm,Esm,EC,E0]) ?_
 refine vc_eq (T :=
  ∀(x:Nat),True→∀(x_1:Nat),x≠x_1∧True→SM x∧SM x_1∧ifB (Kz a != Kz b) (Kg a b) (SM x∧SM x_1∧(Xd a∧Xd b)∧∀(y:Unit),True→ifB (!decide (Xe a=Xe b)) (Kg a b) (SM x∧SM x_1∧(Xf a∧Xf b)∧∀(y:Unit),True→ifB (!decide (Xg a=Xg b)) (Kg a b) (SM x∧SM x_1∧ifB (Ki a != Ki b) (Kg a b) ((∃(x_2:Nat),JI x_2 a b∧(Z0=(↑x_2:Int)∧True)∧Xj x_1 b x a)∧∀(x_2:Nat),JI x_2 a b→SM x∧ifB (decide ((↑x_2:Int)<Ki a)) (SM x∧side (Z0≤(↑x_2:Int)∧(↑x_2:Int)<Ki a) (SM x_1∧side (Z0≤(↑x_2:Int)∧(↑x_2:Int)<Ki b) (∃(x_3:Arr×Arr),(Xq a x_2 x_3.1∧Xq b x_2 x_3.2∧True)∧(True∧True)∧(x_3.1∈Kh a∧x_3.2∈Kh b)∧∀(y:Unit),True→ifB (!sameA x_3.1 x_3.2) (Kg a b) ((SM (D.ref N0 x N0)∧SM (D.ref (max (N0+N1) N0) x_1 N0)∧True)∧∃(y:Nat),JI y a b∧QS a-y<QS a-x_2∧(IntKind.wrap IntKind.i64 ((↑x_2:Int)+Z1)=(↑y:Int)∧True)∧Xj x_1 b x a)))) (RT (true=sameA a b))))))) (by kernel_rfl) ?_
 delta DA GI LN N0 N1 N4 NI SI SM Z0 Z1 ZI Q4 KB Xf Xg Kh QS Ki KC QT JI Qag Qah Xh Qai Xi Xj KD Xk Xl Xm Xn Xo Xp Xq Kz Kg Q3 KA Xd Xe RT
 have da:(default:Arr)=Arr.mk 0 [] [] []:=rfl
 simp only[← da,ifB_iff,side_iff,decide_eq_true_eq,decide_eq_false_iff_not,true_and,and_true,beq_iff_eq,bne_iff_ne,Bool.cond_false_right,Bool.cond_true_left,Bool.and_eq_true,Bool.and_eq_false_iff,Bool.or_eq_true,Bool.or_eq_false_iff,beq_eq_false_iff_ne,ne_eq,exists_const,forall_const,implies_true,Int.toNat_natCast,Prod.exists,intsD_isl]
 simp only[maxLen] at ha hb
 obtain ⟨a1,a2,a3⟩:=ha
 obtain ⟨b1,b2,b3⟩:=hb
 refine fun x x1 _=>⟨fun h=>sameA_no fun e=>h (by rw[e]),fun hk=>⟨⟨⟨intsP_isl _,a1⟩,intsP_isl _,b1⟩,fun h=>sameA_no fun e=>?_,fun hs=>⟨⟨⟨intsP_isl _,a2⟩,intsP_isl _,b2⟩,fun h=>sameA_no fun e=>?_,fun hn=>⟨fun h=>sameA_no fun e=>h (by rw[e]),fun hl=>⟨⟨0,⟨Nat.zero_le _,fun j hj=>absurd hj (by omega)⟩,rfl⟩,fun i hi=>⟨fun hlt=>?_,fun hge=>?_⟩⟩⟩⟩⟩⟩
 ·rw[e] at h;simp at h
 ·rw[e] at h;simp at h
 ·have hl:a.it.length=b.it.length:=by
   have hl:(a.it.length:Int)=b.it.length:=by simpa using hl
   omega
  have h1:i<a.it.length:=by omega
  have h2:i<b.it.length:=by omega
  refine⟨⟨by omega,by omega⟩,⟨by omega,by omega⟩,a.it.getD i default,b.it.getD i default,⟨⟨rfl,⟨rfl,fun _ _=>rfl⟩,⟨rfl,fun _ _=>rfl⟩,rfl,fun _ _=>rfl⟩,rfl,⟨rfl,fun _ _=>rfl⟩,⟨rfl,fun _ _=>rfl⟩,rfl,fun _ _=>rfl⟩,⟨mem_getD h1,mem_getD h2⟩,fun h=>sameA_no fun e=>?_,fun h=>⟨i+1,⟨by omega,fun j hj=>?_⟩,by omega,wrap_i64' (by omega) (by omega)⟩⟩
  ·rw[e,sameA_iff.2 rfl] at h;cases h
  ·by_cases e:j=i
   ·subst e
    exact sameA_iff.1 (by simpa using h)
   ·exact hi.2 j (by omega)
 ·have hl:a.it.length=b.it.length:=by
   have hl:(a.it.length:Int)=b.it.length:=by simpa using hl
   omega
  exact (sameA_iff.2 (arr_ext (by simpa using hk) (by simpa using hs) (by simpa using hn) (eq_getD default hl fun j hj=>hi.2 j (by omega)))).symm
theorem sSm_row{k:Nat}{q q':Arr×Arr→Prop}{x:Arr×Arr}(h:ACalls Tryz.prog k ((sSm Arr.row2 q).args x) ⟨[],[]⟩ (SpecR (sSm Arr.row2 q) x)):ACalls Tryz.prog k ((sSm Arr.row1 q').args x) ⟨[],[]⟩ (SpecR (sSm Arr.row1 q') x) :=
 (h.wkArgs (by simp only[sSm,wkL,wkD];exact⟨row1_wk _,row1_wk _,trivial⟩)).mono fun _ _ ⟨y,q1,q2,q3⟩=>⟨y,q1,q2,q3⟩
theorem same_all:∀(a b:Arr),a.ok→b.ok→ACalls Tryz.prog 42 ((sSm Arr.row2 (fun _=>True)).args (a,b)) ⟨[],[]⟩ (SpecR (sSm Arr.row2 (fun _=>True)) (a,b))
 |.mk k s n is,.mk k' s' n' is',ha,hb=>by
  simp only[Arr.ok] at ha hb
  obtain ⟨_,_,_,a1,a2,a3,a4⟩:=ha
  obtain ⟨_,_,_,b1,b2,b3,b4⟩:=hb
  refine same_step _ _ ⟨a1,a2,a3⟩ ⟨b1,b2,b3⟩ ?_
  intro f ds S A h
  unfold conSm at h
  split at h
  ·injection h with h;subst h
   refine ConOk.plain (fun (x:Arr×Arr) hx=>?_) rfl rfl
   obtain ⟨x,y⟩:=x
   have hx1:x∈is:=hx.1
   have hx2:y∈is':=hx.2
   exact sSm_row (same_all x y ((okL_iff _).1 a4 x hx1) ((okL_iff _).1 b4 y hx2))
  ·split at h
   ·injection h with h;subst h
    exact pC_ok fun ⟨⟨h1,h2⟩,h3,h4⟩=>⟨weakL_refl _,sC_weak (us:=[isl (intsD _ _) .any,isl (intsD _ _) .any]) ⟨(isl_weak h1).1,(isl_weak h3).1,trivial⟩ (shapes_ok _ _ (by rw[intsD_len];exact h2) (by rw[intsD_len];exact h4))⟩
   ·cases h
  ·cases h
termination_by a=>SizeOf.sizeOf a
decreasing_by
 have:=List.sizeOf_lt_of_mem hx1
 simp;omega
open Go Go.Ab Go.RowKit
def TSl:List Nat:=List.range 181
theorem tysOk:∀t∈TSl,okTy Tryz.prog TSl t=true:=List.all_eq_true.1 (show TSl.all (okTy Tryz.prog TSl)=true by kernel_rfl)
theorem some_with{α:Type}{o:Option α}{p:α→Bool}(h:(match o with | some x=>p x | none=>false)=true):∃x,o=some x∧p x=true:=by
 cases o with
 |none=>cases h
 |some x=>exact⟨x,rfl,h⟩
def RRS(a b:Nd):Prop:=CD 19 [.agg a.row2,.agg b.row2] (.bool (sameT (stN a) (stN b)))
noncomputable def conRb:Con:=fun k ds S=>match k with
 |19=>some (pE (β:=Nd×Nd) ds S (fun x=>.bool (sameT (stN x.1) (stN x.2))) (fun x=>wkL ds [.agg x.1.row1,.agg x.2.row1]∧RRS x.1 x.2))
 |_=>none
theorem conRb_ok:ConOk Tryz.prog conRb:=by
 intro k ds S A hh
 unfold conRb at hh
 split at hh
 ·injection hh with hh;subst hh
  exact pS_ok fun x ⟨e,h1⟩=>CD.at_ (CD.wk (CD.wk h1 two_wk) e) _
 ·cases hh
noncomputable def Erb(l m:List Sm):Senv:={ EC conRb 64 2 [4,5,9,63] (fun id=>match id with | 4=>([0,1,2,3,4,5,6,7,8,9,10,11,12,13,14,15,16,17,18,19,20,21,22,23,24,25,26,27,28,29,30,31,32,33,34,35,36,37,38,39,40,41,42,43,44,45,46,47,48,49,50,51],[35,49]) | _=>([],[])) with
 mg:=fun _=>2
 ann:=fun q _ S=>match q with
  |0=>some { slots:=[5],keep:=[0,1,2,3],α:=Nat,st:=fun i=>([.int .i64 i],S),inv:=fun i=>i≤l.length∧∀j,j<i→stM (l.getD j default)=stM (m.getD j default),mu:=fun i=>l.length-i }
  |_=>none }
def Kj:Arr:=DA
def Q5:Nd:=Nd.mk Z0 Z0 Z0 [] Z0 Z0 Kj [] [] Z0 Z0 Z0
def Q6:Sm:=Sm.mk Z0 Z0 [] Z0 Q5 Q5
def QU(a:List Sm)(b:Nat):Sm:=List.getD a b Q6
def Xr(a:List Sm)(b:Nat):Sm:=stM (QU a b)
def JJ(a:Nat)(b c:List Sm):Prop:=a≤LN b∧∀(j:Nat),j<a→Xr b j=Xr c j
def KE(a:List Sm)(b:Nat):Sm:=List.getD a (Int.toNat (↑b:Int)) Q6
def Xs(a:List Sm)(b:Nat):Int:=Sm.kd (KE a b)
def KF(a b:List Sm):Prop:=True∧∃(_y:Unit),True∧false=sameT (List.map stM a) (List.map stM b)∧True∧True
def Xt(a:List Sm)(b:Nat):List UInt8:=Sm.nm (KE a b)
def Qi(a:List Sm)(b:Nat):Nd:=Sm.te (KE a b)
def KG(a:List Sm)(b:Nat):Arr:=Nd.va (Qi a b)
def Qaj(a:List Sm)(b:Nat):List Int:=Arr.sh (KG a b)
def Qak(a:List Sm)(b:Nat):List Int:=Arr.nu (KG a b)
def Xu(a:List Sm)(b:Nat):List Arr:=Arr.it (KG a b)
def Xv(a:List Sm)(b:Nat):List Nd:=Nd.ki (Qi a b)
def Xw(a:List Sm)(b:Nat):List Sm:=Nd.bo (Qi a b)
def Xx(a:List Sm)(b:Nat):D:=D.agg [ZI (Nd.kd (Qi a b)),ZI (Nd.at_ (Qi a b)),ZI (Nd.cl (Qi a b)),D.str (Nd.tx (Qi a b)),ZI (Nd.pr (Qi a b)),ZI (Nd.op (Qi a b)),ZI (Arr.k (KG a b)),SI (Qaj a b),SI (Qak a b),D.sl N4 (LN (Xu a b)) (fun (i:Nat)=>Arr.row (List.getD (Xu a b) i Kj)) Mode.any,D.sl (15:Nat) (LN (Xv a b)) (fun (i:Nat)=>Nd.row (List.getD (Xv a b) i Q5)) Mode.any,D.sl (34:Nat) (LN (Xw a b)) (fun (i:Nat)=>Sm.row (List.getD (Xw a b) i Q6)) Mode.any,ZI (Nd.de (Qi a b)),ZI (Nd.sl (Qi a b)),ZI (Nd.ss (Qi a b))]
def Xy(a b:Nd):List D:=[D.agg (Nd.row1 a),D.agg (Nd.row1 b)]
def Xz(a b:Nd):Bool:=!sameT (stN a) (stN b)
def Qj(a:List Sm)(b:Nat):Nd:=Sm.nd (KE a b)
def KH(a:List Sm)(b:Nat):Arr:=Nd.va (Qj a b)
def Qal(a:List Sm)(b:Nat):List Int:=Arr.sh (KH a b)
def Qam(a:List Sm)(b:Nat):List Int:=Arr.nu (KH a b)
def XA(a:List Sm)(b:Nat):List Arr:=Arr.it (KH a b)
def XB(a:List Sm)(b:Nat):List Nd:=Nd.ki (Qj a b)
def XC(a:List Sm)(b:Nat):List Sm:=Nd.bo (Qj a b)
def XD(a:List Sm)(b:Nat):D:=D.agg [ZI (Nd.kd (Qj a b)),ZI (Nd.at_ (Qj a b)),ZI (Nd.cl (Qj a b)),D.str (Nd.tx (Qj a b)),ZI (Nd.pr (Qj a b)),ZI (Nd.op (Qj a b)),ZI (Arr.k (KH a b)),SI (Qal a b),SI (Qam a b),D.sl N4 (LN (XA a b)) (fun (i:Nat)=>Arr.row (List.getD (XA a b) i Kj)) Mode.any,D.sl (15:Nat) (LN (XB a b)) (fun (i:Nat)=>Nd.row (List.getD (XB a b) i Q5)) Mode.any,D.sl (34:Nat) (LN (XC a b)) (fun (i:Nat)=>Sm.row (List.getD (XC a b) i Q6)) Mode.any,ZI (Nd.de (Qj a b)),ZI (Nd.sl (Qj a b)),ZI (Nd.ss (Qj a b))]
def Qk(a:List Sm)(b:Nat):Nd:=Sm.te (QU a b)
def KI(a:List Sm)(b:Nat):Arr:=Nd.va (Qk a b)
def Qan(a:List Sm)(b:Nat):List Int:=Arr.sh (KI a b)
def Qao(a:List Sm)(b:Nat):List Int:=Arr.nu (KI a b)
def XE(a:List Sm)(b:Nat):List Arr:=Arr.it (KI a b)
def XF(a:List Sm)(b:Nat):List Nd:=Nd.ki (Qk a b)
def XG(a:List Sm)(b:Nat):List Sm:=Nd.bo (Qk a b)
def Ql(a:List Sm)(b:Nat):Nd:=Sm.nd (QU a b)
def KJ(a:List Sm)(b:Nat):Arr:=Nd.va (Ql a b)
def Qap(a:List Sm)(b:Nat):List Int:=Arr.sh (KJ a b)
def Qaq(a:List Sm)(b:Nat):List Int:=Arr.nu (KJ a b)
def XH(a:List Sm)(b:Nat):List Arr:=Arr.it (KJ a b)
def XI(a:List Sm)(b:Nat):List Nd:=Nd.ki (Ql a b)
def XJ(a:List Sm)(b:Nat):List Sm:=Nd.bo (Ql a b)
def Qar(a:List Sm):D:=D.sl (34:Nat) (LN a) (fun (i:Nat)=>[ZI (Sm.kd (QU a i)),ZI (Sm.at_ (QU a i)),D.str (Sm.nm (QU a i)),ZI (Sm.sl (QU a i)),ZI (Nd.kd (Qk a i)),ZI (Nd.at_ (Qk a i)),ZI (Nd.cl (Qk a i)),D.str (Nd.tx (Qk a i)),ZI (Nd.pr (Qk a i)),ZI (Nd.op (Qk a i)),ZI (Arr.k (KI a i)),SI (Qan a i),SI (Qao a i),D.sl N4 (LN (XE a i)) (fun (i_1:Nat)=>Arr.row (List.getD (XE a i) i_1 Kj)) Mode.any,D.sl (15:Nat) (LN (XF a i)) (fun (i_1:Nat)=>Nd.row (List.getD (XF a i) i_1 Q5)) Mode.any,D.sl (34:Nat) (LN (XG a i)) (fun (i_1:Nat)=>Sm.row (List.getD (XG a i) i_1 Q6)) Mode.any,ZI (Nd.de (Qk a i)),ZI (Nd.sl (Qk a i)),ZI (Nd.ss (Qk a i)),ZI (Nd.kd (Ql a i)),ZI (Nd.at_ (Ql a i)),ZI (Nd.cl (Ql a i)),D.str (Nd.tx (Ql a i)),ZI (Nd.pr (Ql a i)),ZI (Nd.op (Ql a i)),ZI (Arr.k (KJ a i)),SI (Qap a i),SI (Qaq a i),D.sl N4 (LN (XH a i)) (fun (i_1:Nat)=>Arr.row (List.getD (XH a i) i_1 Kj)) Mode.any,D.sl (15:Nat) (LN (XI a i)) (fun (i_1:Nat)=>Nd.row (List.getD (XI a i) i_1 Q5)) Mode.any,D.sl (34:Nat) (LN (XJ a i)) (fun (i_1:Nat)=>Sm.row (List.getD (XJ a i) i_1 Q6)) Mode.any,ZI (Nd.de (Ql a i)),ZI (Nd.sl (Ql a i)),ZI (Nd.ss (Ql a i))]) Mode.any
def XK(a:List Sm):Prop:=SM (Qar a)
theorem rbd_step(l m:List Sm)(he:l.length=m.length)(hl:l.length≤maxLen)(h:∀x∈l,∀y∈m,RRS x.te y.te∧RRS x.nd y.nd):CD 43 [gsl 34 Sm.row1 l,gsl 34 Sm.row1 m] (.bool (sameT (l.map stM) (m.map stM))):=by
 refine con_of (A:=sC _ _) (x:=()) (E:=Erb l m) (eOk conRb_ok rfl) Tryz.func43 rfl (by kernel_rfl) rfl (by simp[sC,Erb,EC,E0]) ?_
 refine vc_eq (T :=
  (∃(x:Nat),JJ x l m∧(Z0=(↑x:Int)∧True)∧True∧True)∧∀(x:Nat),JJ x l m→ifB (decide ((↑x:Int)<(LI l))) (side (Z0≤(↑x:Int)∧(↑x:Int)<(LI l)) (side (Z0≤(↑x:Int)∧(↑x:Int)<(LI m)) (ifB (Xs l x != Xs m x) (KF l m) (side (Z0≤(↑x:Int)∧(↑x:Int)<(LI l)) (side (Z0≤(↑x:Int)∧(↑x:Int)<(LI m)) (ifB (Xt l x != Xt m x) (KF l m) (side (Z0≤(↑x:Int)∧(↑x:Int)<(LI l)) (side (Z0≤(↑x:Int)∧(↑x:Int)<(LI m)) (∃(x_1:Nd×Nd),(wkL [Xx l x,Xx m x] (Xy x_1.1 x_1.2)∧RRS x_1.1 x_1.2)∧∀(y:Unit),True→ifB (Xz x_1.1 x_1.2) (KF l m) (side (Z0≤(↑x:Int)∧(↑x:Int)<(LI l)) (side (Z0≤(↑x:Int)∧(↑x:Int)<(LI m)) (∃(x_2:Nd×Nd),(wkL [XD l x,XD m x] (Xy x_2.1 x_2.2)∧RRS x_2.1 x_2.2)∧∀(y:Unit),True→ifB (Xz x_2.1 x_2.2) (KF l m) ((XK l∧XK m∧SM D.unk∧SM D.unk∧True)∧∃(y:Nat),JJ y l m∧LN l-y<LN l-x∧(IntKind.wrap IntKind.i64 ((↑x:Int)+Z1)=(↑y:Int)∧True)∧True∧True))))))))))))) (RT (true=sameT (List.map stM l) (List.map stM m)))) (by kernel_rfl) ?_
 delta DA GI LI LN N1 N4 SI SM Z0 Z1 ZI Kj Q5 Qi KG Qaj Qak Xu Xv Xw Xx Xy Xz Q6 Qj KH Qal Qam XA XB XC XD Qk KI QU Qan Qao XE XF XG Ql KJ Qap Qaq XH Xr XI XJ Qar XK JJ KE Xs KF Xt RT
 try simp only[← dm]
 try simp only[← dn]
 simp only[ne_eq,Int.toNat_natCast,ifB_iff,side_iff,decide_eq_true_eq,decide_eq_false_iff_not,true_and,and_true,bne_iff_ne,bne_eq_false_iff_eq,Bool.not_eq_true',Bool.not_eq_false',exists_const,forall_const,Prod.exists]
 have gm:∀ {i:Nat},i<l.length→i<m.length→l.getD i default∈l∧m.getD i default∈m:=fun h1 h2=>⟨by rw[List.getD_eq_getElem?_getD,List.getElem?_eq_getElem h1];exact List.getElem_mem h1,by rw[List.getD_eq_getElem?_getD,List.getElem?_eq_getElem h2];exact List.getElem_mem h2⟩
 have no:∀ {α:Type} {x y:α},sameT x y=false→x≠y:=fun h e=>by rw[sameT_iff.2 e] at h;cases h
 have gmap:∀ {l:List Sm} {i:Nat},i<l.length→(l.map stM).getD i (stM default)=stM (l.getD i default):=fun h=>by simp[List.getD_eq_getElem?_getD,h]
 have neq:∀ {i:Nat},i<l.length→stM (l.getD i default)≠stM (m.getD i default)→false=sameT (l.map stM) (m.map stM):=fun hi hn=>sameT_no fun e=>hn (by rw[← gmap hi,← gmap (by omega),e])
 simp only[maxLen] at hl
 refine⟨⟨0,⟨Nat.zero_le _,fun j hj=>absurd hj (by omega)⟩,rfl⟩,fun i ⟨i1,hi⟩=>⟨fun hlt=>?_,fun hge=>sameT_yes ?_⟩⟩
 ·have hi1:i<l.length:=by omega
  have hi2:i<m.length:=by omega
  obtain ⟨q1,q2⟩:=h _ (gm hi1 hi2).1 _ (gm hi1 hi2).2
  have iff:=stM_iff (l.getD i default) (m.getD i default)
  refine⟨⟨by omega,by omega⟩,⟨by omega,by omega⟩,fun a1=>neq hi1 fun e=>a1 (iff.1 e).1,fun a1=>⟨⟨by omega,by omega⟩,⟨by omega,by omega⟩,fun a2=>neq hi1 fun e=>a2 (iff.1 e).2.1,fun a2=>⟨⟨by omega,by omega⟩,⟨by omega,by omega⟩,(l.getD i default).te,(m.getD i default).te,⟨wkL_refl _,q1⟩,fun a3=>neq hi1 fun e=>no a3 (iff.1 e).2.2.1,fun a3=>⟨⟨by omega,by omega⟩,⟨by omega,by omega⟩,(l.getD i default).nd,(m.getD i default).nd,⟨wkL_refl _,q2⟩,?_⟩⟩⟩⟩
  have fin:sameT (stN (l.getD i default).nd) (stN (m.getD i default).nd)=true→∃y,(y≤l.length∧∀(j:Nat),j<y→stM (l.getD j default)=stM (m.getD j default))∧l.length-y<l.length-i∧IntKind.i64.wrap ((i:Int)+1)=(y:Int):=fun a4 =>
   ⟨i+1,⟨hi1,fun j hj=>by
    by_cases q:j=i
    ·rw[q];exact iff.2 ⟨a1,a2,sameT_iff.1 a3,sameT_iff.1 a4⟩
    ·exact hi j (by omega)⟩,by omega,wrap_i64' (by omega) (by omega)⟩
  exact⟨fun a4=>neq hi1 fun e=>no a4 (iff.1 e).2.2.2,fin⟩
 ·refine eq_getD (stM default) (by simpa using he) fun j hj=>?_
  have hj:j<l.length:=by simpa using hj
  rw[gmap hj,gmap (by omega)]
  exact hi j (by omega)
noncomputable def conRsm(a b:Nd):Con:=fun k ds S=>match k with
 |19=>some (pE (β:=Nd×Nd) ds S (fun x=>.bool (sameT (stN x.1) (stN x.2))) (fun x=>wkL ds [.agg x.1.row1,.agg x.2.row1]∧RRS x.1 x.2))
 |42=>some (pA ds S (.bool (sameA a.va b.va)) (wkL ds [.agg a.va.row1,.agg b.va.row1]))
 |43=>some (pA ds S (.bool (sameT (a.bo.map stM) (b.bo.map stM))) (a.bo.length=b.bo.length∧wkL ds [gsl 34 Sm.row1 a.bo,gsl 34 Sm.row1 b.bo]))
 |_=>none
noncomputable def Ersm(a b:Nd):Senv:={ EC (conRsm a b) 89 6 [64,69,83] (fun id=>match id with | 6=>([0,1,2,3,4,5,6,7,8,9,10,11],[10]) | _=>([],[])) with
 mg:=fun _=>2
 ann:=fun q _ S=>match q with
  |0=>some { slots:=[5],keep:=[0,1,2,3],α:=Nat,st:=fun i=>([.int .i64 i],S),inv:=fun i=>i≤a.ki.length∧∀j,j<i→stN (a.ki.getD j default)=stN (b.ki.getD j default),mu:=fun i=>a.ki.length-i }
  |_=>none }
def KK(a:Nd):Int:=Nd.kd a
def JK(a b:Nd):Bool:=sameT (stN a) (stN b)
def Qt(a b:Nd):Prop:=True∧∃(_y:Unit),True∧false=JK a b∧True∧True
def KL(a:Nd):Int:=Nd.cl a
def KM(a:Nd):List UInt8:=Nd.tx a
def KN(a:Nd):Int:=Nd.pr a
def KO(a:Nd):Int:=Nd.op a
def Q7(a:Nd):Arr:=Nd.va a
def XL(a:Nd):Int:=Arr.k (Q7 a)
def XM(a:Nd):D:=ZI (XL a)
def XN(a:Nd):List Int:=Arr.sh (Q7 a)
def JL(a:Nd):Nat:=LN (XN a)
def XO(a:Nd)(b:Nat):List D:=[ZI (GI (XN a) b)]
def XP(a:Nd):D:=D.sl N1 (JL a) (fun (i:Nat)=>XO a i) Mode.any
def XQ(a:Nd):List Int:=Arr.nu (Q7 a)
def JM(a:Nd):Nat:=LN (XQ a)
def XR(a:Nd)(b:Nat):List D:=[ZI (GI (XQ a) b)]
def XS(a:Nd):D:=D.sl N1 (JM a) (fun (i:Nat)=>XR a i) Mode.any
def XT(a:Nd):List Arr:=Arr.it (Q7 a)
def JN(a:Nd):Nat:=LN (XT a)
def JO:Arr:=DA
def XU(a:Nd)(b:Nat):List D:=Arr.row (List.getD (XT a) b JO)
def XV(a:Nd):D:=D.sl N4 (JN a) (fun (i:Nat)=>XU a i) Mode.any
def XW(a:Nd):D:=D.agg [XM a,XP a,XS a,XV a]
def XX(a b:Nd):List D:=[XW a,XW b]
def JP(a:Nd):List Nd:=Nd.ki a
def QV(a:Nd):Nat:=LN (JP a)
def Kk(a:Nd):Int:=(NI (QV a))
def KP(a:Nd):List Sm:=Nd.bo a
def QW(a:Nd):Nat:=LN (KP a)
def Kl:Nd:=Nd.mk Z0 Z0 Z0 [] Z0 Z0 JO [] [] Z0 Z0 Z0
def XY(a:Nd)(b:Nat):Nd:=List.getD (JP a) b Kl
def XZ(a:Nd)(b:Nat):Nd:=stN (XY a b)
def JQ(a:Nat)(b c:Nd):Prop:=a≤QV b∧∀(j:Nat),j<a→XZ b j=XZ c j
def X0(a:Nd):Int:=Nd.at_ a
def X1(a:Nd)(b:Nat):List D:=Nd.row1 (XY a b)
def X2:Sm:=Sm.mk Z0 Z0 [] Z0 Kl Kl
def X3(a:Nd)(b:Nat):List D:=Sm.row1 (List.getD (KP a) b X2)
def X4(a:Nd):Int:=Nd.de a
def X5(a:Nd):Int:=Nd.sl a
def X6(a:Nd):Int:=Nd.ss a
def X7(a:Nd):Prop:=SM (KK a)∧SM (X0 a)∧SM (KL a)∧SM (KM a)∧SM (KN a)∧SM (KO a)∧SM (XL a)∧(SM (JL a)∧(∀(i:Nat),i<JL a→SM (XO a i))∧True)∧(SM (JM a)∧(∀(i:Nat),i<JM a→SM (XR a i))∧True)∧(SM (JN a)∧(∀(i:Nat),i<JN a→SM (XU a i))∧True)∧(SM (QV a)∧(∀(i:Nat),i<QV a→SM (X1 a i))∧True)∧(SM (QW a)∧(∀(i:Nat),i<QW a→SM (X3 a i))∧True)∧SM (X4 a)∧SM (X5 a)∧SM (X6 a)∧True
def X8(a:Nat)(b:Nd)(c:Nat)(d:Nd):Prop:=(SM a∧X7 b∧SM c∧X7 d∧True)∧True
def Qm(a:Nd)(b:Nat):Nd:=List.getD (JP a) (Int.toNat (↑b:Int)) Kl
def KQ(a:Nd)(b:Nat):Arr:=Nd.va (Qm a b)
def Qas(a:Nd)(b:Nat):List Int:=Arr.sh (KQ a b)
def Qat(a:Nd)(b:Nat):List Int:=Arr.nu (KQ a b)
def X9(a:Nd)(b:Nat):List Arr:=Arr.it (KQ a b)
def Ya(a:Nd)(b:Nat):List Nd:=Nd.ki (Qm a b)
def Yb(a:Nd)(b:Nat):List Sm:=Nd.bo (Qm a b)
def Yc(a:Nd)(b:Nat):D:=D.agg [ZI (Nd.kd (Qm a b)),ZI (Nd.at_ (Qm a b)),ZI (Nd.cl (Qm a b)),D.str (Nd.tx (Qm a b)),ZI (Nd.pr (Qm a b)),ZI (Nd.op (Qm a b)),ZI (Arr.k (KQ a b)),SI (Qas a b),SI (Qat a b),D.sl N4 (LN (X9 a b)) (fun (i:Nat)=>Arr.row (List.getD (X9 a b) i JO)) Mode.any,D.sl (15:Nat) (LN (Ya a b)) (fun (i:Nat)=>Nd.row (List.getD (Ya a b) i Kl)) Mode.any,D.sl (34:Nat) (LN (Yb a b)) (fun (i:Nat)=>Sm.row (List.getD (Yb a b) i X2)) Mode.any,ZI (Nd.de (Qm a b)),ZI (Nd.sl (Qm a b)),ZI (Nd.ss (Qm a b))]
def JR(a:Nd):D:=D.sl (34:Nat) (QW a) (fun (i:Nat)=>X3 a i) Mode.any
def Qau(a:Nd):D:=D.agg [ZI (KK a),ZI (X0 a),ZI (KL a),D.str (KM a),ZI (KN a),ZI (KO a),XM a,XP a,XS a,XV a,D.sl (15:Nat) (QV a) (fun (i:Nat)=>X1 a i) Mode.any,JR a,ZI (X4 a),ZI (X5 a),ZI (X6 a)]
def Yd(a:Nd):Prop:=SM (Qau a)
def Ye(a b:Nd):List D:=[JR a,JR b]
theorem rsm_step(a b:Nd)(ha:a.sm∧a.va.ok)(hb:b.sm∧b.va.ok)(h1:∀x∈a.ki,∀y∈b.ki,RRS x y)(h2:∀x∈a.bo,∀y∈b.bo,RRS x.te y.te∧RRS x.nd y.nd):RRS a b:=by
 refine con_of (A:=sC _ _) (x:=()) (E:=Ersm a b) (eOk ?_ rfl) Tryz.func19 rfl (by kernel_rfl) rfl (by simp[sC,Ersm,EC,E0]) ?_
 ·intro k ds S A hh
  unfold conRsm at hh
  have a1:=sm_len ha.1
  split at hh
  ·injection hh with hh;subst hh
   exact pS_ok fun x ⟨e,h1⟩=>CD.at_ (CD.wk (CD.wk h1 two_wk) e) _
  ·injection hh with hh;subst hh
   refine pA_ok fun e=>CD.at_ (CD.wk (us:=[.agg a.va.row1,.agg b.va.row1]) ?_ e) _
   exact (sSm_row (q':=fun _=>True) (same_all a.va b.va ha.2 hb.2)).mono fun _ _ ⟨y,q1,q2,q3⟩=>⟨(),trivial,q2,q3⟩
  ·injection hh with hh;subst hh
   exact pA_ok fun ⟨hl,e⟩=>CD.at_ (CD.wk (rbd_step a.bo b.bo hl (maxB_le a1.2.2) h2) e) _
  ·cases hh
 refine vc_eq (T :=
  ∀(x:Nat),True→∀(x_1:Nat),x≠x_1∧True→SM x∧SM x_1∧ifB (KK a != KK b) (Qt a b) (SM x∧SM x_1∧ifB (KL a != KL b) (Qt a b) (SM x∧SM x_1∧ifB (KM a != KM b) (Qt a b) (SM x∧SM x_1∧ifB (KN a != KN b) (Qt a b) (SM x∧SM x_1∧ifB (KO a != KO b) (Qt a b) (SM x∧SM x_1∧∃(x_2:Unit),wkL (XX a b) (XX a b)∧∀(y:Unit),True→ifB (!sameA (Q7 a) (Q7 b)) (Qt a b) (SM x∧SM x_1∧ifB (Kk a != Kk b) (Qt a b) (SM x∧SM x_1∧ifB ((NI (QW a)) != (NI (QW b))) (Qt a b) ((∃(x_3:Nat),JQ x_3 a b∧(Z0=(↑x_3:Int)∧True)∧X8 x_1 b x a)∧∀(x_3:Nat),JQ x_3 a b→SM x∧ifB (decide ((↑x_3:Int)<Kk a)) (SM x∧side (Z0≤(↑x_3:Int)∧(↑x_3:Int)<Kk a) (SM x_1∧side (Z0≤(↑x_3:Int)∧(↑x_3:Int)<Kk b) (∃(x_4:Nd×Nd),(wkL [Yc a x_3,Yc b x_3] [D.agg (Nd.row1 x_4.1),D.agg (Nd.row1 x_4.2)]∧RRS x_4.1 x_4.2)∧∀(y:Unit),True→ifB (!JK x_4.1 x_4.2) (Qt a b) ((Yd a∧Yd b∧SM (D.ref N0 x N0)∧SM (D.ref (max (N0+N1) N0) x_1 N0)∧True)∧∃(y:Nat),JQ y a b∧QV a-y<QV a-x_3∧(IntKind.wrap IntKind.i64 ((↑x_3:Int)+Z1)=(↑y:Int)∧True)∧X8 x_1 b x a)))) (SM x∧SM x_1∧∃(x:Unit),(QW a=QW b∧wkL (Ye a b) (Ye a b))∧∀(y:Unit),True→RT (sameT (List.map stM (KP a)) (List.map stM (KP b))=JK a b))))))))))) (by kernel_rfl) ?_
 delta DA GI LN N0 N1 N4 NI SI SM Z0 Z1 ZI KK JK Qt KL KM KN KO Q7 XL XM XN JL XO XP XQ JM XR XS XT JN JO XU XV XW XX JP QV Kk KP QW Kl XY XZ JQ X0 X1 X2 X3 X4 X5 X6 X7 X8 Qm KQ Qas Qat X9 Ya Yb Yc JR Qau Yd Ye RT
 try simp only[← dm]
 try simp only[← dn]
 simp only[ne_eq,implies_true,Int.toNat_natCast,ifB_iff,side_iff,decide_eq_true_eq,decide_eq_false_iff_not,true_and,and_true,bne_iff_ne,bne_eq_false_iff_eq,Bool.not_eq_true',Bool.not_eq_false',exists_const,forall_const,Prod.exists]
 have iff:=stN_iff a b
 have no:∀ {α:Type} {x y:α},sameT x y=false→x≠y:=fun h e=>by rw[sameT_iff.2 e] at h;cases h
 have na:sameA a.va b.va=false→a.va≠b.va:=fun h e=>by rw[sameA_iff.2 e] at h;cases h
 have hl:=maxB_le (sm_len ha.1).2.1
 unfold maxLen at hl
 have gmap:∀ {l:List Nd} {i:Nat},i<l.length→(l.map stN).getD i (stN default)=stN (l.getD i default):=fun h=>by simp[List.getD_eq_getElem?_getD,h]
 refine fun u v _=>⟨fun c=>sameT_no fun e=>c (iff.1 e).1,fun a1=>⟨fun c=>sameT_no fun e=>c (iff.1 e).2.1,fun a2=>⟨fun c=>sameT_no fun e=>c (iff.1 e).2.2.1,fun a3=>⟨fun c=>sameT_no fun e=>c (iff.1 e).2.2.2.1,fun a4=>⟨fun c=>sameT_no fun e=>c (iff.1 e).2.2.2.2.1,fun a5=>⟨wkL_refl _,fun c=>sameT_no fun e=>na c (iff.1 e).2.2.2.2.2.1,fun a6=>⟨fun c=>sameT_no fun e=>?_,fun hk=>⟨fun c=>sameT_no fun e=>?_,fun hb2=>⟨⟨0,⟨Nat.zero_le _,fun j hj=>absurd hj (by omega)⟩,rfl⟩,fun i ⟨i1,hi⟩=>⟨fun hlt=>?_,fun hge=>?_⟩⟩⟩⟩⟩⟩⟩⟩⟩⟩
 ·have:=congrArg List.length (iff.1 e).2.2.2.2.2.2.1
  simp only[List.length_map] at this
  omega
 ·have:=congrArg List.length (iff.1 e).2.2.2.2.2.2.2
  simp only[List.length_map] at this
  omega
 ·have hi1:i<a.ki.length:=by omega
  have hi2:i<b.ki.length:=by omega
  refine⟨⟨by omega,by omega⟩,⟨by omega,by omega⟩,a.ki.getD i default,b.ki.getD i default,⟨wkL_refl _,h1 _ (nd_getD hi1) _ (nd_getD hi2)⟩,fun c=>sameT_no fun e=>no c ?_,fun c=>⟨i+1,⟨hi1,fun j hj=>?_⟩,by omega,wrap_i64' (by omega) (by omega)⟩⟩
  ·rw[← gmap hi1,← gmap hi2,(iff.1 e).2.2.2.2.2.2.1]
  ·by_cases q:j=i
   ·rw[q];exact sameT_iff.1 c
   ·exact hi j (by omega)
 ·have hki:a.ki.map stN=b.ki.map stN:=by
   refine eq_getD (stN default) (by simp only[List.length_map];omega) fun j hj=>?_
   have hj:j<a.ki.length:=by simpa using hj
   rw[gmap hj,gmap (by omega)]
   exact hi j (by omega)
  refine⟨⟨by omega,wkL_refl _⟩,?_⟩
  exact sameT_congr ⟨fun e=>iff.2 ⟨a1,a2,a3,a4,a5,sameA_iff.1 a6,hki,e⟩,fun e=>(iff.1 e).2.2.2.2.2.2.2⟩
theorem rsm_ok(a b:Nd)(ha:a.ok∧a.sm)(hb:b.ok∧b.sm):RRS a b :=
  rsm_step a b ⟨ha.2,va_ok ha.1⟩ ⟨hb.2,va_ok hb.1⟩ (fun x hx y hy => rsm_ok x y ⟨ki_ok ha.1 x hx,sm_kid ha.2 (kid_inner hx)⟩ ⟨ki_ok hb.1 y hy,sm_kid hb.2 (kid_inner hy)⟩) fun x hx y hy =>
    ⟨rsm_ok x.te y.te ⟨(sm_ok2 (bo_ok' ha.1 x hx)).1,(sm_sm2 (sm_bo ha.2 x hx)).1⟩ ⟨(sm_ok2 (bo_ok' hb.1 y hy)).1,(sm_sm2 (sm_bo hb.2 y hy)).1⟩,
     rsm_ok x.nd y.nd ⟨(sm_ok2 (bo_ok' ha.1 x hx)).2,(sm_sm2 (sm_bo ha.2 x hx)).2⟩ ⟨(sm_ok2 (bo_ok' hb.1 y hy)).2,(sm_sm2 (sm_bo hb.2 y hy)).2⟩⟩
termination_by SizeOf.sizeOf a
decreasing_by
  · exact Nd.size_kid hx
  · have := Nd.size_stmt hx
    have := Sm.size_te x
    omega
  · have := Nd.size_stmt hx
    have := Sm.size_nd x
    omega
noncomputable def conLe2(a b:Nd):Con:=fun k ds S=>match k with
 |18=>some (pE (β:=Bool) ds S (fun _=>.bool (sameT (stN a) (stN b))) (fun t=>wkL ds (bif t then [.agg a.row1,.agg b.row1] else [.agg b.row1,.agg a.row1])))
 |19=>some (pA ds S (.bool (sameT (stN a) (stN b))) (wkL ds [.agg a.row1,.agg b.row1]))
 |14=>some (pA ds S (.bool true) (ds=[]))
 |_=>none
theorem conLe2_ok{a b:Nd}(ha:good a)(hb:good b):ConOk Tryz.prog (conLe2 a b):=by
 intro k ds S A hh
 unfold conLe2 at hh
 split at hh
 ·injection hh with hh;subst hh
  refine pS_ok fun t e=>?_
  cases t with
  |true=>exact CD.at_ (CD.wk (CD.wk (sa_ok a b ha hb) two_wk) e) _
  |false =>
   have h:=sa_ok b a hb ha
   unfold RSame at h
   have e2:sameT (stN b) (stN a)=sameT (stN a) (stN b):=sameT_congr ⟨fun e=>e.symm,fun e=>e.symm⟩
   rw[e2] at h
   exact CD.at_ (CD.wk (CD.wk h two_wk) e) _
 ·injection hh with hh;subst hh
  exact pA_ok fun e=>CD.at_ (CD.wk (CD.wk (rsm_ok a b ha hb) two_wk) e) _
 ·injection hh with hh;subst hh
  exact pA_ok fun e=>by rw[e];exact CD.at_ kw_ok _
 ·cases hh
noncomputable def Ele2(a b:Nd):Senv:={ EC (conLe2 a b) 24 5 [] (fun id=>match id with | 1=>([0,1,3,4,2,5,6,7,8,9,11,12,10,13,14,15,16,17,18,19],[2,5,10,13,17]) | _=>([],[])) with mg:=fun _=>2 }
def Qnb(a:Nd):Arr:=Nd.va a
def QLI(a:Nd):List Int:=Arr.sh (Qnb a)
def QLJ(a:Nd):List Int:=Arr.nu (Qnb a)
def QEa(a:Nd):List Arr:=Arr.it (Qnb a)
def QEb:Arr:=DA
def Qru:Nd:=Nd.mk Z0 Z0 Z0 [] Z0 Z0 QEb [] [] Z0 Z0 Z0
def Qrv(a:Nd):D:=D.agg [ZI (Nd.kd a),ZI (Nd.at_ a),ZI (Nd.cl a),D.str (Nd.tx a),ZI (Nd.pr a),ZI (Nd.op a),ZI (Arr.k (Qnb a)),SI (QLI a),SI (QLJ a),D.sl N4 (LN (QEa a)) (fun (i:Nat)=>Arr.row (List.getD (QEa a) i QEb)) Mode.any,D.sl (15:Nat) (LN (Nd.ki a)) (fun (i:Nat)=>Nd.row (List.getD (Nd.ki a) i Qru)) Mode.any,D.sl (34:Nat) (LN (Nd.bo a)) (fun (i:Nat)=>Sm.row (List.getD (Nd.bo a) i (Sm.mk Z0 Z0 [] Z0 Qru Qru))) Mode.any,ZI (Nd.de a),ZI (Nd.sl a),ZI (Nd.ss a)]
def Qi3(a b:Nd):List D:=[Qrv a,Qrv b]
def QEc(a:Bool)(b c:Nd):List D:=bif a then Qi3 b c else Qi3 c b
def Qnc(a:Nat)(b:Nd):Prop:=SM a∧SM (Qrv b)
def QEd(a b:Nd):Prop:=wkL (Qi3 a b) (Qi3 a b)
def QEe(a b:Nd):Bool:=sameT (stN a) (stN b)
def QEf(a b:Nd):Bool:=QEe a b==QEe a b
def QEg:Prop:=True∧∃(_y:Unit),True∧false=true∧True∧True
theorem law_equals(a b:Nd)(ha:good a)(hb:good b):CD 5 [.agg a.row1,.agg b.row1] (.bool true):=by
 refine con_of (A:=sC _ _) (x:=()) (E:=Ele2 a b) (eOk (conLe2_ok ha hb) rfl) Tryz.func5 rfl (by kernel_rfl) rfl (by simp[sC,Ele2,EC,E0]) ?_
 refine vc_eq (T :=
  ∀(x:Nat),True→∀(x_1:Nat),x≠x_1∧True→SM x∧SM x_1∧SM x∧SM x_1∧∃(x_2:Bool),wkL (Qi3 a b) (QEc x_2 a b)∧∀(y:Unit),True→Qnc x_1 b∧Qnc x a∧∃(x_3:Unit),QEd a b∧∀(y:Unit),True→ifB (QEf a b) (SM x_1∧SM x∧SM x∧SM x_1∧∃(x_4:Bool),wkL (Qi3 b a) (QEc x_4 a b)∧∀(y:Unit),True→Qnc x_1 b∧Qnc x a∧∃(x:Unit),QEd a b∧∀(y:Unit),True→ifB (QEf a b) (∃(x:Unit),eqOf (List D) [] []∧∀(y:Unit),True→RT (SM true)) QEg) QEg) (by kernel_rfl) ?_
 delta DA GI LN N1 N4 SI SM Z0 ZI Qnb QLI QEd QEe QEf QEg QLJ QEa QEb Qru Qrv Qi3 QEc Qnc RT
 try simp only[← dm]
 try simp only[← dn]
 simp only[eq_self,ne_eq,implies_true,ifB_iff,true_and,and_true,beq_iff_eq,beq_eq_false_iff_ne,exists_const,forall_const]
 exact fun x x1 _=>⟨true,wkL_refl _,wkL_refl _,⟨false,wkL_refl _,wkL_refl _,fun h=>absurd trivial h⟩,fun h=>absurd trivial h⟩
theorem equals_row(a b:Nd)(ha:a.ok∧a.sm)(hb:b.ok∧b.sm):ACalls Tryz.prog 5 [.agg a.row,.agg b.row] ⟨[],[]⟩ (SpecR (sC [.agg a.row,.agg b.row] (.bool true)) ()) :=
 CD.wk (law_equals a b ha hb) (by simp only[wkL,wkD];exact⟨nd_wk a,nd_wk b,trivial⟩)
noncomputable def wit2:Array Value:=#[.agg #[.int .i64 0,.int .i64 0,.int .i64 0,.string ⟨#[]⟩,.int .i64 0,.int .i64 0,.int .i64 0,.slice none 0 0,.slice none 0 0,.slice none 0 0,.slice none 0 0,.slice none 0 0,.int .i64 0,.int .i64 0,.int .i64 0],.agg #[.int .i64 0,.int .i64 0,.int .i64 0,.string ⟨#[]⟩,.int .i64 0,.int .i64 0,.int .i64 0,.slice none 0 0,.slice none 0 0,.slice none 0 0,.slice none 0 0,.slice none 0 0,.int .i64 0,.int .i64 0,.int .i64 0]]
theorem laid_met2(os:Os):laidMet Tryz.prog laidL ((laidWorld os).forCall (fun _ _=>0) ⟨#[],wit2,[]⟩).memory :=
 laidMet_of_run' 8 (by kernel_rfl) (by kernel_rfl)
theorem reads2(os:Os){H:Type}(enc:TypeId×Value→H):∃x,DataW.whole enc Tryz.prog ((laidWorld os).forCall (fun _ _=>0) ⟨#[],wit2,[]⟩).memory [34,34] [] false (wit2).toList 8=some x∧Rows.uptoSmall H (x.1++x.2.1)=true :=
 some_with (by kernel_rfl)
theorem contract2{H : Type}{enc : TypeId×Value → H}
  (W:World) (base:Nat) (args:Array Value) (ds gs:List (DataW H)) (before:List MemPlace)
  (hval:∀(j:Nat) t v,Tryz.f5.params[j]? =some t→args[j]? =some v→Value.okWide Tryz.prog W .any base t v)
  (hW:DataW.Whole enc Tryz.prog Tryz.f5.params.toList Rows.syntaxEqualsSpec.vars false W args.toList ds gs before)
  (hsz:(DataW.weightsEach Tryz.prog (Tryz.f5.params.toList++Rows.syntaxEqualsSpec.plain.varTypes Tryz.prog) (ds++gs)).all (·≤maxB)=true) (hL:laidMetH Tryz.prog laidL W) :
  Calls Tryz.prog 5 args W fun e W'=>∃v,e=.returned v∧Rows.syntaxEqualsSpec.post enc Tryz.prog Tryz.f5 false true false false W args v W':=by
 refine law_contract (rs:=[(34,RNd),(34,RNd)]) laid (by rw[Tryz.params5];kernel_rfl) rfl (fun ds hd=>?_) (rt:=4) rfl Tryz.underlying4 (by rw[Tryz.params5];rfl) ?_ W (g0_laid hL) base args ds gs before hval hW hsz ?_
 ·rw[Tryz.params5] at hd
  match ds,hd with
  | [_,_],_=>exact⟨rfl,rfl,rfl⟩
 ·intro r hr
  simp only[List.mem_cons,List.not_mem_nil,or_false,or_self] at hr
  subst hr
  exact read_nd
 ·intro Ds h
  obtain ⟨dx,_,rfl,hx,h⟩:=h.agg (by kernel_rfl)
  obtain ⟨dy,_,rfl,hy,h⟩:=h.agg (by kernel_rfl)
  obtain rfl:=h.nil
  obtain ⟨x,⟨hokx,hsmx⟩,rfl⟩:=hx
  obtain ⟨y,⟨hoky,hsmy⟩,rfl⟩:=hy
  exact (equals_row x y ⟨hokx,hsmx⟩ ⟨hoky,hsmy⟩).mono fun r S' ⟨_,_,hr,_⟩=>hr
theorem lifted2(os : Os)(started : os.Started)(H : Type)(enc : TypeId×Value → H)(F : Stop.Interp) :
  ReturnsInHanded {} Tryz.checked os 5 .any ((Rows.OpenSpec.upto Rows.syntaxEqualsSpec).preRow enc Tryz.prog Tryz.f5 Rows.syntaxEqualsUptoRow.domain false Rows.syntaxEqualsUptoRow.laid) (((Rows.OpenSpec.upto Rows.syntaxEqualsSpec).at F).post enc Tryz.prog Tryz.f5 false true false false):=by
 obtain ⟨x,hx,hxk⟩:=reads2 os enc
 refine returnsInHanded_of_row (C:=Tryz.checked) (s:=Rows.OpenSpec.upto Rows.syntaxEqualsSpec) own started (by kernel_rfl) Tryz.func5
  (witness_row_at (enc:=enc) (C:=Tryz.checked) false (laidWorld os) wit2 rfl (by kernel_rfl) (by kernel_rfl) (by kernel_rfl)
   (OpenSpec.preRow_of_cond 8 hx rfl (fun k hk=>by cases hk;exact hxk) (by kernel_rfl) (laid_met2 os))) ?_
 intro W base args ds gs before hval hW _ hk _ hL _ _
 refine contract2 W base args ds gs before hval hW ?_ hL
 have e:Tryz.f5.params.toList++Rows.syntaxEqualsSpec.plain.varTypes Tryz.prog=[34,34]:=by rw[Tryz.params5];kernel_rfl
 rw[e]
 exact upto_sz tysOk (by decide +kernel) (hk _ rfl)
theorem said2:Rows.SyntaxEqualsUptoSaid :=
 OpenClaim.holds_of_cond 5 Tryz.f5 rfl rfl rfl rfl rfl rfl rfl ⟨rfl,rfl,rfl,rfl,rfl⟩ rfl rfl rfl rfl rfl (by kernel_rfl) Tryz.func5 (by kernel_rfl)
  (of_decide_eq_true (by kernel_rfl)) (by unfold Func.isWrapper;first | (rw[if_pos (by decide +kernel)];kernel_rfl) | (rw[if_neg (by decide +kernel)];exact⟨rfl,rfl⟩))
  (fun os started H enc _ F=>by rw[OpenClaim.pre_eq_preRow];exact lifted2 os started H enc F)
theorem plain2(f : FuncId)(fn : Func)(hf : Tryz.pinned.checked.prog.funcNamed "arraylang/arraylanglaw10.SyntaxEquals" = some f)(hfn : Tryz.pinned.checked.prog.funcs[f]? = some fn) :
  false=Tryz.pinned.checked.prog.looks []∧∀(j:Nat) t,fn.params[j]? =some t→Tryz.pinned.checked.prog.wantsStandIn t=false:=by
 obtain rfl : f = 5 := Option.some.inj ((show Tryz.prog.funcNamed "arraylang/arraylanglaw10.SyntaxEquals" = some 5 by kernel_rfl).symm.trans hf) |>.symm
 obtain rfl:fn=Tryz.f5:=(Option.some.inj (Tryz.func5.symm.trans hfn)).symm
 refine⟨by kernel_rfl,fun j t ht=>?_⟩
 rw[Tryz.params5] at ht
 have hm:t∈[34,34]:=by simpa using Array.mem_of_getElem? ht
 simp only[List.mem_cons,List.not_mem_nil,or_false,or_self] at hm
 subst hm
 exact (show Tryz.prog.wantsStandIn 34=false by kernel_rfl)
theorem provedSyntaxEquals:Rows.SyntaxEqualsUptoCardSaid :=
 Claim7.holds_tied_plain_at .later [] _ _ _ _ said2 (fun _ h=>by cases h) (by kernel_rfl) (fun _ h=>by cases h) syntaxEqualsUpto_row_tie rfl ⟨rfl,rfl⟩ (by kernel_rfl) rfl plain2 (by kernel_rfl)
end
end Go.Proofs.YtjnifeedbgefpaaGreatDoor
