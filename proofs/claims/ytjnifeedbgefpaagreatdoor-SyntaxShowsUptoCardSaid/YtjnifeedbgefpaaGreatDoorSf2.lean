/- Functions of the given program and what each of them computes: lemmas towards the statement, their conditions stated with each of them. -/
import Derived.Test.YtjnifeedbgefpaaGreatDoorSf1
import Derived.Test.YtjnifeedbgefpaaGreatDoorRows
import Derived.Test.YtjnifeedbgefpaaGreatDoorCards
import Derived.Test.YtjnifeedbgefpaaGreatDoorTie
import Derived.WalkKit
import Derived.ProofKit
import Derived.OpenShut
import Derived.Deep.DeepHandedRow
import Derived.Lib.LaidTab
import Derived.Stop.LaidErr
import Derived.Test.YtjnifeedbgefpaaGreatDoorProg
import Derived.Lib.ItoaNum
import Derived.Lib.TrailingZeros
import Derived.Calls
import Derived.Below
import Derived.Laws.Entries
import Derived.Laws.Build
import Derived.Laws.Concat
import Derived.Laws.AppendOwn
import Derived.Laws.IdiomStrings
import Derived.Laws.BytesString
import Derived.Laws.NewFold
import Derived.Laws.MakeOwn
import Derived.Laws.IdiomCopy
import Derived.Laws.Shifts
import Derived.Laws.Strings
import Derived.Laws.Strings2
import Derived.Laws.Strings3
import Derived.Laws.RangeString
import Derived.Laws.Cover4
import Derived.Lib.DecodeN
import Derived.MapKept
import Derived.Laws.StructEq
import Derived.Orders
import Derived.Scope
import Derived.Recover
import Derived.KernelRfl
import Derived.Shelf.Strings.Builder1
import Derived.Shelf.Strings.Builder2
import Derived.Shelf.Strings.OnBuilder
import Derived.Shelf.Strings.BuilderF
import Derived.Shelf.Strconv.Itoa0
import Derived.Shelf.Strconv.Itoa1
import Derived.Shelf.LaysM
import Derived.Shelf.Strconv.Itoa2
import Derived.Shelf.Strconv.Itoa3
import Derived.Shelf.Strconv.Itoa4
import Derived.Shelf.Bits.Mul64
import Derived.Lib.AppendIntMem
import Derived.Lib.ItoaLen
import Derived.Lib.Join
import Derived.Lib.Builder
import Derived.Lib.UnsafeStr
namespace Go.Proofs.YtjnifeedbgefpaaGreatDoor
open Go Go.Ab
noncomputable section
theorem smL_iff:∀(l:List Arr),smL l↔∀a∈l,a.sm
 | []=>by simp[smL]
 |a::l=>by simp only[smL,List.forall_mem_cons,smL_iff l]
def RInts:List D→Prop:=fun ds=>∃l:List Int,(∀z∈l,inI64 z)∧l.length≤maxB∧ds=[isl l .any]
def RArr:List D→Prop:=fun ds=>∃a:Arr,(a.ok∧a.sm)∧ds=a.row
theorem int_row:∀x,RInt .i64 x→∃z,inI64 z∧x=[.int .i64 z]:=by
 rintro x ⟨n,rfl,h1,h2⟩
 simp only[IntKind.min,IntKind.max,IntKind.signed,IntKind.bits] at h1 h2
 exact⟨n,⟨by simpa using h1,by simp at h2;omega⟩,rfl⟩
theorem read_ints(W:World)(n:Nat):ReadAt Tryz.prog W n 27 RInts:=by
 cases n with
 |zero=>exact .zero _ _
 |succ n =>
  refine (read_sliceA (w:=1) Tryz.underlying27 (by kernel_rfl) (by decide) (by decide +kernel) (read_int Tryz.underlying3 W n)).weak ?_
  rintro _ ds vs ⟨l,h1,h2,rfl⟩ h
  obtain ⟨l',q,rfl⟩:=rows_of int_row l h1
  refine⟨_,⟨l',q,by simpa using h2,rfl⟩,weakL_weak _ _ ?_ _ _ h⟩
  simp only[isl,weakL,weakD,chk_iff]
  refine⟨⟨by simp,by simp,fun i hi=>?_,by simp[weakM]⟩,trivial⟩
  have hi:i<l'.length:=by simpa using hi
  simp[List.getD_eq_getElem?_getD,hi]
theorem read_arr(W:World):∀n,ReadAt Tryz.prog W n 30 RArr
 |0=>.zero _ _
 |n+1=>by
  have hi:ReadAt Tryz.prog W n 28 (RSliceA 4 RArr):=by
   cases n with
   |zero=>exact .zero _ _
   |succ m=>exact read_sliceA (w:=4) Tryz.underlying28 (by kernel_rfl) (by decide) (by decide +kernel) (read_arr W m)
  refine (read_struct Tryz.underlying30 (by kernel_rfl) (Rs:=[RInt .i64,RInts,RInts,RSliceA 4 RArr]) ⟨read_int (by kernel_rfl) W n,read_ints W n,read_ints W n,hi,trivial⟩).mono ?_
  rintro ds ⟨_,_,h1,⟨_,_,h2,⟨_,_,h3,⟨_,_,h4,h5,rfl⟩,rfl⟩,rfl⟩,rfl⟩
  obtain rfl:_=[]:=h5
  obtain ⟨k,hk,rfl⟩:=int_row _ h1
  obtain ⟨s,s1,s2,rfl⟩:=h2
  obtain ⟨m,m1,m2,rfl⟩:=h3
  obtain ⟨l,l1,l2,rfl⟩:=h4
  obtain ⟨is,q,rfl⟩:=rows_of (g:=Arr.row) (Q:=fun a=>a.ok∧a.sm) (fun x hx=>hx) l l1
  have l2:is.length≤maxB:=by simpa using l2
  refine⟨.mk k s m is,⟨?_,?_⟩,?_⟩
  ·simp only[Arr.ok]
   exact⟨hk,s1,m1,maxB_le s2,maxB_le m2,maxB_le l2,(okL_iff _).2 fun a ha=>(q a ha).1⟩
  ·simp only[Arr.sm]
   exact⟨s2,m2,l2,(smL_iff _).2 fun a ha=>(q a ha).2⟩
  ·simp only[Arr.row,rowsL_map,List.cons_append,List.nil_append]
noncomputable def Ernum:Senv:=EC con0 9 1 [2] (fun _=>([],[]))
def Yj(a:Int):Bool:=bif decide ((-4611686018427387903:Int)≤a) then decide (a≤(4611686018427387903:Int)) else false
theorem rnum_ok(z:Int):ACalls Tryz.prog 129 [.int .i64 z] ⟨[],[]⟩ (SpecR (sC [.int .i64 z] (.bool (numB z))) ()):=by
 refine con_of (A:=sC _ _) (x:=()) (E:=Ernum) (eOk con0_ok rfl) Tryz.func129 rfl (by kernel_rfl) rfl (by simp[sC,Ernum,EC,E0]) ?_
 refine vc_eq (T :=
  ifB (decide ((-4611686018427387903:Int)≤z)) (decide (z≤(4611686018427387903:Int))=Yj z∧True) (false=Yj z∧True)∧RT (Yj z=numB z)) (by kernel_rfl) ?_
 delta Yj RT
 simp only[ifB_iff,decide_eq_true_eq,decide_eq_false_iff_not,true_and,and_true,Bool.cond_false_right,exists_const]
 refine⟨⟨fun h=>by rw[decide_eq_true h];rfl,fun h=>by rw[decide_eq_false h];rfl⟩,rfl⟩
noncomputable def Erchr:Senv:=EC con0 17 1 [2] (fun _=>([],[]))
def JW(a:Int):Bool:=bif bif decide (Z0≤a) then decide (a≤(1114111:Int)) else false then bif decide (a<(55296:Int)) then true else decide ((57343:Int)<a) else false
def Qav(a:Int):Prop:=false=JW a∧True
theorem rchr_ok(z:Int):ACalls Tryz.prog 130 [.int .i64 z] ⟨[],[]⟩ (SpecR (sC [.int .i64 z] (.bool (chrB z))) ()):=by
 refine con_of (A:=sC _ _) (x:=()) (E:=Erchr) (eOk con0_ok rfl) Tryz.func130 rfl (by kernel_rfl) rfl (by simp[sC,Erchr,EC,E0]) ?_
 refine vc_eq (T :=
  ifB (decide (Z0≤z)) (ifB (decide (z≤(1114111:Int))) (ifB (decide (z<(55296:Int))) (true=JW z∧True) (decide ((57343:Int)<z)=JW z∧True)) (Qav z)) (Qav z)∧RT (JW z=chrB z)) (by kernel_rfl) ?_
 delta Z0 JW Qav RT
 simp only[ifB_iff,decide_eq_true_eq,decide_eq_false_iff_not,true_and,and_true,Bool.cond_false_right,Bool.cond_true_left,exists_const]
 refine⟨⟨fun h1=>⟨fun h2=>⟨fun h3=>by simp[h1,h2,h3],fun h3=>by simp[h1,h2,h3]⟩,fun h2=>by simp[h1,h2]⟩,fun h1=>by simp[h1]⟩,rfl⟩
noncomputable def Esz:Senv:=EC con0 16 3 [4,5,11] (fun _=>([],[]))
def Qaw(a b:Nat)(c:Int)(d:Nat):Prop:=SM a∧True∧∃(_y:Unit),True∧(↑b:Int)=sizeR c b d∧True∧True
def Qax(a:Int)(b c d:Nat):Prop:=ifB (a==(3:Int)) (SM b∧True∧∃(_y:Unit),True∧(↑c:Int)=sizeR a d c∧True∧True) (True∧∃(_y:Unit),True∧Z0=sizeR a d c∧True∧True)
theorem sz_ok(k : Int)(ns nn ni : Nat)(f g h : Nat → List D) :
  ACalls Tryz.prog 127 [.agg [.int .i64 k,.sl 1 ns f .any,.sl 1 nn g .any,.sl 4 ni h .any]] ⟨[],[]⟩ (SpecR (sC [.agg [.int .i64 k,.sl 1 ns f .any,.sl 1 nn g .any,.sl 4 ni h .any]] (.int .i64 (sizeR k nn ni))) ()):=by
 refine con_of (A:=sC _ _) (x:=()) (E:=Esz) (eOk con0_ok rfl) Tryz.func127 rfl (by kernel_rfl) rfl (by simp[sC,Esz,EC,E0]) ?_
 refine vc_eq (T :=
  ∀(x:Nat),True→SM x∧ifB (k==Z1) (ifB (k==Z1) (Qaw x nn k ni) (Qax k x ni nn)) (ifB (k==(2:Int)) (Qaw x nn k ni) (Qax k x ni nn))) (by kernel_rfl) ?_
 delta SM Z0 Z1 Qaw Qax
 simp only[ifB_iff,true_and,and_true,beq_iff_eq,beq_eq_false_iff_ne,ne_eq,exists_const,forall_const]
 repeat' (first
  |refine And.intro ?_ ?_
  |intro _)
 all_goals first
  |(simp_all[sizeR];done)
  |grind [sizeR]
  |trace_state
def conRf:Con:=fun k ds S=>match k with
 |127=>match ds with
  | [.agg [.int .i64 k,.sl 1 _ _ _,.sl 1 nn _ _,.sl 4 ni _ _]]=>some (pC ds (.int .i64 (sizeR k nn ni)) True)
  |_=>none
 |129=>match ds with
  | [.int .i64 z]=>some (pC [.int .i64 z] (.bool (numB z)) True)
  |_=>none
 |130=>match ds with
  | [.int .i64 z]=>some (pC [.int .i64 z] (.bool (chrB z)) True)
  |_=>none
 |k=>conAr k ds S
theorem conRf_ok:ConOk Tryz.prog conRf:=by
 intro k ds S A h
 unfold conRf at h
 split at h
 ·split at h
  ·rename_i k ns f _ nn g _ ni g' _
   injection h with h;subst h
   refine pC_ok fun _=>⟨weakL_refl _,sC_weak (us:=[.agg [.int .i64 k,.sl 1 ns f .any,.sl 1 nn g .any,.sl 4 ni g' .any]]) ?_ (sz_ok _ _ _ _ _ _ _)⟩
   refine⟨?_,trivial⟩
   simp only[weakD,weakL]
   refine⟨by simp[chk_iff,kEq],?_,?_,?_,trivial⟩
   ·simp[chk_iff,weakM]
   ·simp[chk_iff,weakM]
   ·simp[chk_iff,weakM]
  ·cases h
 ·split at h
  ·injection h with h;subst h
   exact pC_ok fun _=>⟨weakL_refl _,rnum_ok _⟩
  ·cases h
 ·split at h
  ·injection h with h;subst h
   exact pC_ok fun _=>⟨weakL_refl _,rchr_ok _⟩
  ·cases h
 ·exact conAr_ok _ _ _ _ h
mutual
def wtA:Arr→Int
 |.mk k _ n is=>min (wtL k is (sizeR k n.length is.length)) 262145
def wtL(k:Int):List Arr→Int→Int
 | [],n=>n
 |x::r,n=>if k=3∧n≤262144 then wtL k r (n+wtA x) else n
end
theorem wtA_eq(a:Arr):wtA a=min (wtL a.k a.it (sizeR a.k a.nu.length a.it.length)) 262145:=by
 cases a with
 |mk k s n is=>rw[wtA];rfl
theorem wtL_pos(k:Int):∀(l:List Arr) (n:Int),0≤n→(∀x∈l,0≤wtA x)→0≤wtL k l n
 | [],n,h,_=>by rw[wtL];exact h
 |x::r,n,h,h2=>by
  rw[wtL]
  have:=h2 x (by simp)
  split
  ·exact wtL_pos k r _ (by omega) fun y hy=>h2 y (by simp[hy])
  ·exact h
theorem wtA_bounds:∀(a:Arr),0≤wtA a∧wtA a≤262145
 |.mk k s n is=>by
  rw[wtA]
  have hs:0≤sizeR k n.length is.length:=by unfold sizeR;split<;>(try split)<;>omega
  have:=wtL_pos k is _ hs fun x hx=>(wtA_bounds x).1
  omega
termination_by a=>SizeOf.sizeOf a
decreasing_by
 have:=List.sizeOf_lt_of_mem hx
 simp;omega
def conWt(its:List Arr):Con:=fun k ds S=>match k with
 |131=>some (sRc Arr.row1 (fun b=>b∈its) (fun b=>.int .i64 (wtA b)))
 |k=>conRf k ds S
theorem conWt_ok{its:List Arr}(ih:∀b∈its,ACalls Tryz.prog 131 ((sRc Arr.row2 (fun _=>True) (fun b=>.int .i64 (wtA b))).args b) ⟨[],[]⟩ (SpecR (sRc Arr.row2 (fun _=>True) (fun b=>.int .i64 (wtA b))) b)):ConOk Tryz.prog (conWt its):=by
 intro k ds S A h
 unfold conWt at h
 split at h
 ·injection h with h;subst h
  exact ConOk.plain (fun b hb=>sRc_row (ih b hb)) rfl rfl
 ·exact conRf_ok _ _ _ _ h
noncomputable def Ewt(a:Arr):Senv:={ EC (conWt a.it) 33 5 [20] (fun _=>([],[])) with
 ann:=fun b _ S=>match b with
  |0=>some { slots:=[3,4],keep:=[0,1,2],α:=Nat×Int,st:=fun y=>([.int .i64 y.2,.int .i64 y.1],S),inv:=fun y=>y.1≤a.it.length∧0≤y.2∧y.2≤maxLen∧wtL a.k (a.it.drop y.1) y.2=wtL a.k a.it (sizeR a.k a.nu.length a.it.length),mu:=fun y=>a.it.length-y.1 }
  |_=>none }
def KR(a:Arr):List Arr:=Arr.it a
def QX(a:Arr):Nat:=LN (KR a)
def Q8(a:Arr):Int:=Arr.k a
def Jj(a:Arr):Nat:=LN (Arr.nu a)
def Qay(a:Arr):Int:=sizeR (Q8 a) (Jj a) (QX a)
def Yk(a:Nat)(b:Arr)(c:Int):Prop:=a≤QX b∧Z0≤c∧c≤(9223372036854775807:Int)∧wtL (Q8 b) (List.drop a (KR b)) c=wtL (Q8 b) (KR b) (Qay b)
def JX(a:Arr):Nat:=LN (Arr.sh a)
def Yl(a:Arr)(b:Nat):List D:=[ZI (GI (Arr.sh a) b)]
def Ym(a:Arr)(b:Nat):List D:=[ZI (GI (Arr.nu a) b)]
def JY:Arr:=DA
def Jk(a:Arr)(b:Nat):Arr:=List.getD (KR a) b JY
def Qhc(a:Arr)(b:Nat):List Int:=Arr.sh (Jk a b)
def Qhd(a:Arr)(b:Nat):List Int:=Arr.nu (Jk a b)
def Qaz(a:Arr)(b:Nat):List Arr:=Arr.it (Jk a b)
def QaA(a:Arr)(b:Nat):List D:=[ZI (Arr.k (Jk a b)),SI (Qhc a b),SI (Qhd a b),D.sl N4 (LN (Qaz a b)) (fun (i:Nat)=>Arr.row (List.getD (Qaz a b) i JY)) Mode.any]
def QaB(a:Nat)(b:Arr):Prop:=(SM a∧(SM (Q8 b)∧(SM (JX b)∧(∀(i:Nat),i<JX b→SM (Yl b i))∧True)∧(SM (Jj b)∧(∀(i:Nat),i<Jj b→SM (Ym b i))∧True)∧(SM (QX b)∧(∀(i:Nat),i<QX b→SM (QaA b i))∧True)∧True)∧True)∧True
def QaC(a:Nat)(b:Arr):Bool:=decide ((↑a:Int)<(NI (QX b)))
def Yn(a:Nat)(b:Arr)(c:Int):Bool:=bif bif QaC a b then Q8 b==(3:Int) else false then decide (c≤(262144:Int)) else false
def QaD(a:Nat)(b:Arr)(c:Int):Prop:=false=Yn a b c∧True
def JZ(a:Arr)(b:Nat):Arr:=List.getD (KR a) (Int.toNat (↑b:Int)) JY
def QaE(a:Arr)(b:Nat):List Int:=Arr.sh (JZ a b)
def QaF(a:Arr)(b:Nat):Nat:=LN (QaE a b)
def QaG(a:Arr)(b:Nat):List Int:=Arr.nu (JZ a b)
def QaH(a:Arr)(b:Nat):Nat:=LN (QaG a b)
def QaI(a:Arr)(b:Nat):List Arr:=Arr.it (JZ a b)
def QaJ(a:Arr)(b:Nat):Nat:=LN (QaI a b)
def Qhe(a:Arr):D:=D.agg [ZI (Q8 a),D.sl N1 (JX a) (fun (i:Nat)=>Yl a i) Mode.any,D.sl N1 (Jj a) (fun (i:Nat)=>Ym a i) Mode.any,D.sl N4 (QX a) (fun (i:Nat)=>QaA a i) Mode.any]
theorem wt_step(a : Arr)(ha : a.nu.length≤maxLen ∧ a.it.length≤maxLen ∧ a.sh.length≤maxLen)(ih : ∀b∈a.it, ACalls Tryz.prog 131 ((sRc Arr.row2 (fun _=>True) (fun b=>.int .i64 (wtA b))).args b) ⟨[], []⟩ (SpecR (sRc Arr.row2 (fun _=>True) (fun b=>.int .i64 (wtA b))) b)) :
  ACalls Tryz.prog 131 ((sRc Arr.row2 (fun _=>True) (fun b=>.int .i64 (wtA b))).args a) ⟨[],[]⟩ (SpecR (sRc Arr.row2 (fun _=>True) (fun b=>.int .i64 (wtA b))) a):=by
 refine con_of (A:=sRc Arr.row2 (fun _=>True) (fun b=>.int .i64 (wtA b))) (x:=a) (E:=Ewt a) (eOk (conWt_ok ih) rfl) Tryz.func131 rfl (by kernel_rfl) rfl (by simp[sRc,Ewt,EC,E0]) ?_
 refine vc_eq (T :=
  ∀(x:Nat),True→SM x∧True∧∀(y:Unit),True→(∃(x_1:Nat×Int),Yk x_1.1 a x_1.2∧(Qay a=x_1.2∧Z0=(NI x_1.1)∧True)∧QaB x a)∧∀(x_1:Nat×Int),Yk x_1.1 a x_1.2→(SM x∧ifB (QaC x_1.1 a) (SM x∧ifB (Q8 a==(3:Int)) (decide (x_1.2≤(262144:Int))=Yn x_1.1 a x_1.2∧True) (QaD x_1.1 a x_1.2)) (QaD x_1.1 a x_1.2))∧ifB (Yn x_1.1 a x_1.2) (SM x∧side (Z0≤(NI x_1.1)∧(NI x_1.1)<(NI (QX a))) (∃(x_2:Arr),((Arr.k (JZ a x_1.1)=Q8 x_2∧(QaF a x_1.1=JX x_2∧(∀(i:Nat),i<QaF a x_1.1→[ZI (GI (QaE a x_1.1) i)]=Yl x_2 i)∧True)∧(QaH a x_1.1=Jj x_2∧(∀(i:Nat),i<QaH a x_1.1→[ZI (GI (QaG a x_1.1) i)]=Ym x_2 i)∧True)∧(QaJ a x_1.1=QX x_2∧(∀(i:Nat),i<QaJ a x_1.1→Arr.row (List.getD (QaI a x_1.1) i JY)=Arr.row (Jk x_2 i))∧True)∧True)∧True)∧(True∧True)∧x_2∈KR a∧∀(y:Unit),True→(SM (Qhe a)∧SM (D.ref N0 x N0)∧SM (ZI Z0)∧True)∧∃(y:Nat×Int),Yk y.1 a y.2∧QX a-y.1<QX a-x_1.1∧(IntKind.wrap IntKind.i64 (x_1.2+wtA x_2)=y.2∧IntKind.wrap IntKind.i64 ((NI x_1.1)+Z1)=(NI y.1)∧True)∧QaB x a)) (RT ((if (262145:Int)<x_1.2 then (262145:Int) else x_1.2)=wtA a))) (by kernel_rfl) ?_
 delta DA GI LN N0 N1 N4 NI SI SM Z0 Z1 ZI Yk JX Yl Ym JY Jk Qhc Qhd Qaz QaA QaB QaC Yn QaD JZ QaE QaF QaG QaH QaI QaJ Qhe KR QX Q8 Jj Qay RT
 have da:(default:Arr)=Arr.mk 0 [] [] []:=rfl
 simp only[← da,Int.toNat_natCast,ifB_iff,side_iff,decide_eq_true_eq,decide_eq_false_iff_not,true_and,and_true,beq_iff_eq,Bool.cond_false_right,Bool.and_eq_true,Bool.and_eq_false_iff,beq_eq_false_iff_ne,ne_eq,exists_const,forall_const]
 obtain ⟨l1,l2,l3⟩:=ha
 simp only[maxLen] at l1 l2 l3
 have tt:(∀i:Nat,i<a.sh.length→True)∧(∀i:Nat,i<a.nu.length→True)∧∀i:Nat,i<a.it.length→True:=⟨fun _ _=>trivial,fun _ _=>trivial,fun _ _=>trivial⟩
 have hsz:0≤sizeR a.k a.nu.length a.it.length∧sizeR a.k a.nu.length a.it.length≤9223372036854775807:=by
  unfold sizeR;split<;>(try split)<;>omega
 refine⟨⟨(0,sizeR a.k a.nu.length a.it.length),⟨Nat.zero_le _,hsz.1,hsz.2,rfl⟩,⟨rfl,rfl⟩,tt⟩,?_⟩
 rintro ⟨j,n⟩ ⟨b1,b2,b3,hch⟩
 simp only at b1 b2 b3 hch ⊢
 refine⟨⟨fun h1=>⟨fun h2=>by simp[h1,h2],fun h2=>by simp[h2]⟩,fun h1=>by simp[h1]⟩,fun ⟨⟨h1,h2⟩,h3⟩=>⟨by omega,?_⟩,fun hc=>?_⟩
 ·have hlt':j<a.it.length:=by omega
  have hbd:=wtA_bounds (a.it.getD j default)
  rw[drop_step hlt',wtL,if_pos ⟨h2,h3⟩] at hch
  refine⟨a.it.getD j default,⟨rfl,⟨rfl,fun _ _=>rfl⟩,⟨rfl,fun _ _=>rfl⟩,rfl,fun _ _=>rfl⟩,mem_getD hlt',(j+1,n+wtA (a.it.getD j default)),⟨by simp only;omega,by simp only;omega,by simp only;omega,hch⟩,by simp only;omega,⟨wrap_i64' (by omega) (by omega),wrap_i64' (by omega) (by omega)⟩,tt⟩
 ·have he:wtL a.k (a.it.drop j) n=n:=by
   by_cases hj:j<a.it.length
   ·rw[drop_step hj,wtL,if_neg (by rintro ⟨h2,h3⟩;rcases hc with (h | h) | h<;>omega)]
   ·rw[List.drop_eq_nil_of_le (by omega),wtL]
  rw[he] at hch
  rw[wtA_eq,← hch]
  split<;>omega
theorem wt_all:∀(a:Arr),a.ok→ACalls Tryz.prog 131 ((sRc Arr.row2 (fun _=>True) (fun b=>.int .i64 (wtA b))).args a) ⟨[],[]⟩ (SpecR (sRc Arr.row2 (fun _=>True) (fun b=>.int .i64 (wtA b))) a)
 |.mk k s n is,h=>by
  have h':=h
  simp only[Arr.ok] at h'
  obtain ⟨_,_,_,h1,h2,h3,h4⟩:=h'
  refine wt_step (.mk k s n is) ⟨h2,h3,h1⟩ fun b hb=>?_
  have hb':b∈is:=hb
  exact wt_all b ((okL_iff _).1 h4 b hb')
termination_by a=>SizeOf.sizeOf a
decreasing_by
 have:=List.sizeOf_lt_of_mem hb'
 simp;omega
theorem chkL_sat:∀(l:List Arr) (d d' w':Int),chkL l d 262145=some (d',w')→w'=262145
 | [],d,d',w',h=>by rw[chkL] at h;injection h with h;injection h with e1 e2;omega
 |x::r,d,d',w',h=>by
  rw[chkL] at h
  have:=chkA_bounds x
  split at h
  ·cases h
  ·have e:(if (262145:Int)<262145+(chkA x).2.2 then 262145 else 262145+(chkA x).2.2)=262145:=by split<;>omega
   rw[e] at h;exact chkL_sat r _ d' w' h
theorem wtL_chk(k:Int):∀(l:List Arr) (d w d' w':Int),chkL l d w=some (d',w')→(k=3∨l=[])→(∀x∈l,(chkA x).1=0→wtA x=(chkA x).2.2)→∀n,min n 262145=w→min (wtL k l n) 262145=w'
 | [],d,w,d',w',h,_,_,n,hn=>by
  rw[chkL] at h;injection h with h;injection h with e1 e2;rw[wtL];omega
 |x::r,d,w,d',w',h,hk,h3,n,hn=>by
  have hk:k=3:=hk.resolve_right (by simp)
  rw[chkL] at h
  have hb:=chkA_bounds x
  split at h
  ·cases h
  ·rename_i hx
   have hx:(chkA x).1=0:=by simpa using hx
   have hwx:=h3 x (by simp) hx
   rw[wtL]
   by_cases hn2:n≤262144
   ·rw[if_pos ⟨hk,hn2⟩]
    refine wtL_chk k r _ _ d' w' h (.inl hk) (fun y hy=>h3 y (by simp[hy])) _ ?_
    split<;>omega
   ·rw[if_neg (fun e=>hn2 e.2)]
    have hw:w=262145:=by omega
    rw[hw] at h
    have:(if (262145:Int)<262145+(chkA x).2.2 then 262145 else 262145+(chkA x).2.2)=262145:=by split<;>omega
    rw[this] at h
    have:=chkL_sat r _ _ _ h
    omega
theorem form_zero{k:Int}{s:List Int}{nn ni:Nat}(h:formS k s nn ni=0):(k=3∧nn=0)∨((k=1∨k=2)∧ni=0):=by
 unfold formS at h
 by_cases hk:k=1∨k=2∨k=3
 ·rw[if_pos hk] at h
  by_cases hd:dimsS s≠0
  ·rw[if_pos hd] at h;exact (hd h).elim
  ·rw[if_neg hd] at h
   by_cases hc:((if k=3 then (ni:Int) else nn)≠sizeS s)∨((if k=3 then (nn:Int) else ni)≠0)
   ·rw[if_pos hc] at h;omega
   ·simp only[not_or,ne_eq,Decidable.not_not] at hc
    obtain ⟨c1,c2⟩:=hc
    by_cases k3:k=3
    ·simp only[k3,if_true] at c2;left;omega
    ·simp only[k3,if_false] at c2;right;omega
 ·rw[if_neg hk] at h;omega
theorem wt_of{a:Arr}{r:Int×Int}(h0:formS a.k a.sh a.nu.length a.it.length=0)(hr:chkL a.it 0 ((a.nu.length:Int)+a.it.length)=some r)(h3:∀x∈a.it,(chkA x).1=0→wtA x=(chkA x).2.2):wtA a=r.2:=by
 have hz:=form_zero h0
 have hs:=form_small h0
 rw[wtA_eq]
 refine wtL_chk a.k a.it 0 _ r.1 r.2 hr ?_ h3 _ ?_
 ·rcases hz with ⟨h1,_⟩ | ⟨_,h2⟩
  ·exact .inl h1
  ·exact .inr (List.length_eq_zero_iff.1 h2)
 ·unfold sizeR
  rcases hz with ⟨h1,h2⟩ | ⟨h1,h2⟩
  ·rw[if_neg (by omega),if_pos h1];omega
  ·rw[if_pos h1];omega
theorem wt_chk:∀(a:Arr),(chkA a).1=0→wtA a=(chkA a).2.2
 |.mk k s n is,h=>by
  have ih:∀x∈(Arr.mk k s n is).it,(chkA x).1=0→wtA x=(chkA x).2.2:=fun x hx=>by
   have hx':x∈is:=hx
   exact wt_chk x
  have hA:=chkA_eq (Arr.mk k s n is)
  generalize Arr.mk k s n is=a at *
  by_cases h0:formS a.k a.sh a.nu.length a.it.length=0
  ·rw[if_neg (fun e=>e h0)] at hA
   by_cases h1:a.nu.any (badK a.k)=true
   ·rw[if_pos h1] at hA;rw[hA] at h;cases h
   ·rw[if_neg h1] at hA
    cases hr:chkL a.it 0 ((a.nu.length:Int)+a.it.length) with
    |none=>rw[hr] at hA;simp only at hA;rw[hA] at h;cases h
    |some r =>
     rw[hr] at hA
     simp only at hA
     split at hA
     ·rw[hA] at h;cases h
     ·rw[hA];exact wt_of h0 hr ih
  ·rw[if_pos h0] at hA;rw[hA] at h;exact (h0 h).elim
termination_by a=>SizeOf.sizeOf a
decreasing_by
 have:=List.sizeOf_lt_of_mem hx'
 simp;omega
def resC(b:Arr):D:=.tup [.int .i64 (chkA b).1,.int .i64 (chkA b).2.1]
def conCk(a:Arr):Con:=fun k ds S=>match k with
 |106=>some (sRc Arr.row1 (fun b=>b∈a.it) (fun b=>.tup [.int .i64 (chkA b).1,.int .i64 (chkA b).2.1]))
 |131=>some (sRc Arr.row2 (fun b=>b=a) (fun b=>.int .i64 (wtA b)))
 |k=>conRf k ds S
theorem conCk_ok{a:Arr}(ha:a.ok)(ih:∀b∈a.it,ACalls Tryz.prog 106 ((sRc Arr.row2 (fun _=>True) resC).args b) ⟨[],[]⟩ (SpecR (sRc Arr.row2 (fun _=>True) resC) b)):ConOk Tryz.prog (conCk a):=by
 intro k ds S A h
 unfold conCk at h
 split at h
 ·injection h with h;subst h
  exact ConOk.plain (fun b hb=>sRc_row (r:=resC) (ih b hb)) rfl rfl
 ·injection h with h;subst h
  refine ConOk.plain (fun b hb=>?_) rfl rfl
  have hb:b=a:=hb
  rw[hb]
  exact (wt_all a ha).mono fun _ _ ⟨y,h1,h2,h3⟩=>⟨y,h1,h2,h3⟩
 ·exact conRf_ok _ _ _ _ h
def cutW(a:Arr)(d:D)(S:St):Option LoopAnn :=
 match d with
 |.int _ i=>some { slots:=[76],keep:=[],α:=Unit,st:=fun _=>([.bool (badK a.k (a.nu.getD i.toNat 0))],S),inv:=fun _=>True,mu:=fun _=>0 }
 |_=>none
noncomputable def Eck(a:Arr):Senv:={ EC (conCk a) 107 11 [18,23,30,43,48,76,81,94,105] (fun id=>match id with | 9=>([0,2,3,1,4,5,6,7,8,9],[1,4]) | _=>([],[])) with
 cut:=fun id env S=>match id with
  |14=>cutW a (Ab.look env 6) S
  |_=>none
 ann:=fun b _ S=>match b with
  |0=>some { slots:=[6],keep:=[0,1,2,3],α:=Nat,st:=fun i=>([.int .i64 i],S),inv:=fun i=>i≤a.nu.length∧∀z∈a.nu.take i,badK a.k z=false,mu:=fun i=>a.nu.length-i }
  |2=>some { slots:=[8,7],keep:=[0,1,2,3],α:=Nat×Int×Int,st:=fun y=>([.int .i64 y.1,.int .i64 y.2.1],S),inv:=fun y=>y.1≤a.it.length∧0≤y.2.1∧y.2.1≤17∧0≤y.2.2∧y.2.2≤262145∧chkL (a.it.drop y.1) y.2.1 y.2.2=chkL a.it 0 ((a.nu.length:Int)+a.it.length),mu:=fun y=>a.it.length-y.1 }
  |_=>none }
def Qq(a:Arr):Int:=Arr.k a
def QaK(a:Arr):Bool:=decide (Qq a<Z1)
def QaL(a:Arr):Bool:=decide ((3:Int)<Qq a)
def Yo(a:Arr):Bool:=bif QaK a then true else QaL a
def Kp(a:Arr):Int:=Prod.fst (chkA a)
def Yp(a:Arr):Int:=Prod.fst (Prod.snd (chkA a))
def Jl(a:Arr):Prop:=Z0=Yp a∧True
def QZ(a:Arr):Nat:=LN (Arr.sh a)
def Kq(a:Arr)(b:Nat):List D:=[ZI (GI (Arr.sh a) b)]
def QaM(a:Arr):Prop:=IntsP (QZ a) fun (i:Nat)=>Kq a i
def QaN(a:Arr):List Int:=intsD (QZ a) fun (i:Nat)=>Kq a i
def Yq(a:Arr):Int:=dimsS (QaN a)
def QaO(a:Arr):D:=D.sl N1 (QZ a) (fun (i:Nat)=>Kq a i) Mode.any
def QaP(a:Nat)(b:Arr):Prop:=SM a∧SM (QaO b)
def QaQ(a:Arr):Prop:=QaM a∧Yq a=Z0
def J0(a:Arr):List Int:=Arr.nu a
def Qv(a:Arr):Nat:=LN (J0 a)
def KS(a:Arr):List Arr:=Arr.it a
def Qw(a:Arr):Nat:=LN (KS a)
def QaR(a:Arr):Bool:=sizeR (Qq a) (Qv a) (Qw a) != sizeS (QaN a)
def J1(a:Arr):Prop:=True∧∃(_y:Unit),True∧((16:Int)=Kp a∧Jl a)∧True∧True
def Jm(a:Arr):Int:=(NI (Qv a))
def Yr(a:Nat)(b:Arr):Prop:=a≤Qv b∧∀(z:Int),z∈List.take a (J0 b)→badK (Qq b) z=false
def Jn(a:Arr)(b:Nat):List D:=[ZI (GI (J0 a) b)]
def J2:Arr:=DA
def Jo(a:Arr)(b:Nat):Arr:=List.getD (KS a) b J2
def Qhf(a:Arr)(b:Nat):List Int:=Arr.sh (Jo a b)
def Qhg(a:Arr)(b:Nat):List Int:=Arr.nu (Jo a b)
def QaS(a:Arr)(b:Nat):List Arr:=Arr.it (Jo a b)
def J3(a:Arr)(b:Nat):List D:=[ZI (Arr.k (Jo a b)),SI (Qhf a b),SI (Qhg a b),D.sl N4 (LN (QaS a b)) (fun (i:Nat)=>Arr.row (List.getD (QaS a b) i J2)) Mode.any]
def Kr(a:Nat)(b:Arr):Prop:=(SM a∧(SM (Qq b)∧(SM (QZ b)∧(∀(i:Nat),i<QZ b→SM (Kq b i))∧True)∧(SM (Qv b)∧(∀(i:Nat),i<Qv b→SM (Jn b i))∧True)∧(SM (Qw b)∧(∀(i:Nat),i<Qw b→SM (J3 b i))∧True)∧True)∧True)∧True
def Ys(a:Arr)(b:Nat):Int:=GI (J0 a) (Int.toNat (↑b:Int))
def J4(a:Arr)(b:Nat):Bool:=badK (Qq a) (Ys a b)
def QaT(a:Nat)(b:Arr)(c:Nat):Prop:=SM a∧ifB (Qq b==(2:Int)) (SM a∧side (Z0≤(↑c:Int)∧(↑c:Int)<Jm b) (True∧∀(_y:Unit),True→∃(_x:Unit),True∧((!chrB (Ys b c))=J4 b c∧True)∧Kr a b)) (∃(_x:Unit),True∧(false=J4 b c∧True)∧Kr a b)
def QaU(a:Arr):Prop:=True∧∃(_y:Unit),True∧((17:Int)=Kp a∧Jl a)∧True∧True
def Qhh(a:Arr):D:=D.agg [ZI (Qq a),QaO a,D.sl N1 (Qv a) (fun (i:Nat)=>Jn a i) Mode.any,D.sl N4 (Qw a) (fun (i:Nat)=>J3 a i) Mode.any]
def QaV(a:Arr)(b:Nat):Prop:=SM (Qhh a)∧SM (D.ref N0 b N0)∧SM (ZI Z0)∧SM (ZI Z0)∧True
def J5(a:Arr):Int:=(NI (Qw a))
def Yt(a:Nat)(b:Arr)(c d:Int):Prop:=a≤Qw b∧Z0≤c∧c≤(17:Int)∧Z0≤d∧d≤(262145:Int)∧chkL (List.drop a (KS b)) c d=chkL (KS b) Z0 (Jm b+J5 b)
def J6(a:Arr)(b:Nat):Arr:=List.getD (KS a) (Int.toNat (↑b:Int)) J2
def QaW(a:Arr)(b:Nat):List Int:=Arr.sh (J6 a b)
def QaX(a:Arr)(b:Nat):Nat:=LN (QaW a b)
def QaY(a:Arr)(b:Nat):List Int:=Arr.nu (J6 a b)
def QaZ(a:Arr)(b:Nat):Nat:=LN (QaY a b)
def Qa0(a:Arr)(b:Nat):List Arr:=Arr.it (J6 a b)
def Qa1(a:Arr)(b:Nat):Nat:=LN (Qa0 a b)
def Qa2(a:Arr):Int:=IntKind.wrap IntKind.i64 (Yp a+Z1)
def Qa3(a:Arr):Prop:=True∧∃(_y:Unit),True∧((21:Int)=Kp a∧Jl a)∧True∧True
def Qa4(a:Arr)(b:Nat):Prop:=(∃(x:Nat),Yr x a∧(Z0=(↑x:Int)∧True)∧Kr b a)∧∀(x:Nat),Yr x a→SM b∧ifB (decide ((↑x:Int)<Jm a)) ((SM b∧ifB (Qq a==Z1) (SM b∧side (Z0≤(↑x:Int)∧(↑x:Int)<Jm a) (True∧∀(_y:Unit),True→ifB (!numB (Ys a x)) (∃(_x_1:Unit),True∧(true=J4 a x∧True)∧Kr b a) (QaT b a x))) (QaT b a x))∧∀(_x_1:Unit),True→ifB (J4 a x) (QaU a) (QaV a b∧∃(y:Nat),Yr y a∧Qv a-y<Qv a-x∧(IntKind.wrap IntKind.i64 ((↑x:Int)+Z1)=(↑y:Int)∧True)∧Kr b a)) ((∃(x:Nat×Int×Int),Yt x.1 a x.2.1 x.2.2∧(Z0=(NI x.1)∧Z0=x.2.1∧True)∧Kr b a)∧∀(x:Nat×Int×Int),Yt x.1 a x.2.1 x.2.2→SM b∧ifB (decide ((NI x.1)<J5 a)) (SM b∧side (Z0≤(NI x.1)∧(NI x.1)<J5 a) (∃(x_1:Arr),((Arr.k (J6 a x.1)=Qq x_1∧(QaX a x.1=QZ x_1∧(∀(i:Nat),i<QaX a x.1→[ZI (GI (QaW a x.1) i)]=Kq x_1 i)∧True)∧(QaZ a x.1=Qv x_1∧(∀(i:Nat),i<QaZ a x.1→[ZI (GI (QaY a x.1) i)]=Jn x_1 i)∧True)∧(Qa1 a x.1=Qw x_1∧(∀(i:Nat),i<Qa1 a x.1→Arr.row (List.getD (Qa0 a x.1) i J2)=Arr.row (Jo x_1 i))∧True)∧True)∧True)∧(True∧True)∧x_1∈KS a∧∀(_y:Unit),True→ifB (Kp x_1 != Z0) (QaU a) (QaV a b∧∃(y:Nat×Int×Int),Yt y.1 a y.2.1 y.2.2∧Qw a-y.1<Qw a-x.1∧(IntKind.wrap IntKind.i64 ((NI x.1)+Z1)=(NI y.1)∧(if x.2.1<Qa2 x_1 then Qa2 x_1 else x.2.1)=y.2.1∧True)∧Kr b a))) (ifB (decide ((16:Int)<x.2.1)) (Qa3 a) (SM b∧∃(x_1:Arr),((Qq a=Qq x_1∧(QZ a=QZ x_1∧(∀(i:Nat),i<QZ a→Kq a i=Kq x_1 i)∧True)∧(Qv a=Qv x_1∧(∀(i:Nat),i<Qv a→Jn a i=Jn x_1 i)∧True)∧(Qw a=Qw x_1∧(∀(i:Nat),i<Qw a→J3 a i=J3 x_1 i)∧True)∧True)∧True)∧(True∧True)∧x_1=a∧∀(_y:Unit),True→ifB (decide ((262144:Int)<wtA x_1)) (Qa3 a) (True∧∃(_y:Unit),True∧(Z0=Kp a∧x.2.1=Yp a∧True)∧True∧True))))
theorem ck_step(a : Arr)(hok : a.ok)(ha : a.nu.length≤maxLen ∧ a.it.length≤maxLen ∧ a.sh.length≤maxLen)(ih : ∀b∈a.it, ACalls Tryz.prog 106 ((sRc Arr.row2 (fun _=>True) resC).args b) ⟨[], []⟩ (SpecR (sRc Arr.row2 (fun _=>True) resC) b)) :
  ACalls Tryz.prog 106 ((sRc Arr.row2 (fun _=>True) resC).args a) ⟨[],[]⟩ (SpecR (sRc Arr.row2 (fun _=>True) resC) a):=by
 refine con_of (A:=sRc Arr.row2 (fun _=>True) resC) (x:=a) (E:=Eck a) (eOk (conCk_ok hok ih) rfl) Tryz.func106 rfl (by kernel_rfl) rfl (by simp[sRc,Eck,EC,E0]) ?_
 simp only[sRc,resC]
 refine vc_eq (T :=
  ∀(x:Nat),True→(SM x∧ifB (QaK a) (true=Yo a∧True) (SM x∧QaL a=Yo a∧True))∧ifB (Yo a) (True∧∃(y:Unit),True∧((14:Int)=Kp a∧Jl a)∧True∧True) (SM x∧QaM a∧∀(y:Unit),True→ifB (Yq a != Z0) (True∧∃(y:Unit),True∧(Yq a=Kp a∧Jl a)∧True∧True) (SM x∧SM x∧ifB (Qq a==(3:Int)) (SM x∧SM x∧SM x∧True∧∀(y:Unit),True→QaP x a∧QaQ a∧∀(y:Unit),True→ifB (QaR a) (J1 a) (ifB (decide (Z0<Jm a)) (J1 a) (Qa4 a x))) (SM x∧SM x∧True∧∀(y:Unit),True→QaP x a∧QaQ a∧∀(y:Unit),True→ifB (QaR a) (J1 a) (ifB (decide (Z0<J5 a)) (J1 a) (Qa4 a x)))))) (by kernel_rfl) ?_
 delta DA GI LN N0 N1 N4 NI SI SM Z0 Z1 ZI Qq QaK QaN Yq QaO QaP QaQ J0 Qv KS Qw QaR QaL J1 Jm Yr Jn J2 Jo Qhf Qhg QaS J3 Yo Kr Ys J4 QaT QaU Qhh QaV J5 Yt J6 Kp QaW QaX QaY QaZ Qa0 Qa1 Qa2 Qa3 Qa4 Yp Jl QZ Kq QaM
 have da:(default:Arr)=Arr.mk 0 [] [] []:=rfl
 simp only[← da,intsD_isl,Int.toNat_natCast,ifB_iff,side_iff,decide_eq_true_eq,decide_eq_false_iff_not,true_and,and_true,beq_iff_eq,bne_iff_ne,Bool.cond_true_left,beq_eq_false_iff_ne,ne_eq,exists_const,forall_const]
 have hA:=chkA_eq a
 obtain ⟨l1,l2,l3⟩:=ha
 simp only[maxLen] at l1 l2 l3
 have tt:(∀i:Nat,i<a.sh.length→True)∧(∀i:Nat,i<a.nu.length→True)∧∀i:Nat,i<a.it.length→True:=⟨fun _ _=>trivial,fun _ _=>trivial,fun _ _=>trivial⟩
 have bad:∀e,formS a.k a.sh a.nu.length a.it.length=e→e≠0→e=(chkA a).1∧0=(chkA a).2.1:=fun e h1 h2=>by
  rw[if_pos (by rw[h1];exact h2),h1] at hA
  rw[hA];exact⟨rfl,rfl⟩
 refine⟨⟨fun h=>by simp[h],fun h=>by simp[h]⟩,fun h=>bad 14 ?_ (by decide),fun h=>⟨intsP_isl _,fun hd=>bad _ ?_ hd,fun hd=>?_⟩⟩
 ·rw[Bool.or_eq_true,decide_eq_true_eq,decide_eq_true_eq] at h
  unfold formS;rw[if_neg (by omega)]
 ·rw[Bool.or_eq_false_iff,decide_eq_false_iff_not,decide_eq_false_iff_not] at h
  unfold formS;rw[if_pos (by omega),if_pos hd]
 rw[Bool.or_eq_false_iff,decide_eq_false_iff_not,decide_eq_false_iff_not] at h
 have hd0:dimsS a.sh=0:=by simpa using hd
 have hk:a.k=1∨a.k=2∨a.k=3:=by omega
 have hf:formS a.k a.sh a.nu.length a.it.length=if ((if a.k=3 then (a.it.length:Int) else a.nu.length)≠sizeS a.sh)∨((if a.k=3 then (a.nu.length:Int) else a.it.length)≠0) then 16 else 0:=by
  unfold formS;rw[if_pos hk,if_neg (fun e=>e hd0)]
 have hsz:sizeR a.k a.nu.length a.it.length=if a.k=3 then (a.it.length:Int) else a.nu.length:=by
  unfold sizeR
  by_cases k3:a.k=3
  ·rw[if_neg (by omega),if_pos k3,if_pos k3]
  ·rw[if_pos (by omega),if_neg k3]
 rw[← hsz] at hf
 refine⟨fun k3=>⟨⟨intsP_isl _,hd0⟩,fun hs=>bad 16 (by rw[hf,if_pos (.inl hs)]) (by decide),fun hs=>⟨fun ho=>bad 16 (by rw[hf,if_pos (.inr (by rw[if_pos k3];omega))]) (by decide),fun ho=>?_⟩⟩,
  fun k3=>⟨⟨intsP_isl _,hd0⟩,fun hs=>bad 16 (by rw[hf,if_pos (.inl hs)]) (by decide),fun hs=>⟨fun ho=>bad 16 (by rw[hf,if_pos (.inr (by rw[if_neg k3];omega))]) (by decide),fun ho=>?_⟩⟩⟩
 all_goals
  have hs':sizeR a.k a.nu.length a.it.length=sizeS a.sh:=by simpa using hs
  have h0:formS a.k a.sh a.nu.length a.it.length=0:=by
   rw[hf,if_neg]
   rintro (h1 | h1)
   ·exact h1 hs'
   ·simp only[k3,if_true,if_false] at h1;omega
  clear hf hs hsz
  have hsm:=form_small h0
  refine⟨⟨0,⟨Nat.zero_le _,by simp⟩,rfl,tt⟩,fun i hi=>⟨fun hlt=>?_,fun hge=>?_⟩⟩
  ·have hlt':i<a.nu.length:=by omega
   have hmem:a.nu.getD i 0∈a.nu:=by rw[List.getD_eq_getElem?_getD,List.getElem?_eq_getElem hlt'];exact List.getElem_mem hlt'
   have htk:a.nu.take (i+1)=a.nu.take i++[a.nu.getD i 0]:=by
    rw[List.take_add_one];simp[List.getD_eq_getElem?_getD,hlt']
   generalize a.nu.getD i 0=z at *
   refine⟨⟨fun k1=>⟨⟨by omega,hlt⟩,fun hn=>⟨by simp at hn;simp[badK,k1,hn],tt⟩,fun hn=>⟨fun k2=>by omega,fun k2=>⟨by simp at hn;simp[badK,k1,hn],tt⟩⟩⟩,fun k1=>⟨fun k2=>⟨⟨by omega,hlt⟩,by simp[badK,k2],tt⟩,fun k2=>⟨by simp[badK,k1,k2],tt⟩⟩⟩,fun hb=>?_,fun hb=>⟨i+1,⟨by omega,fun y hy=>?_⟩,by omega,wrap_i64' (by omega) (by omega),tt⟩⟩
   ·have:a.nu.any (badK a.k)=true:=List.any_eq_true.2 ⟨z,hmem,hb⟩
    rw[if_neg (fun e=>e h0),if_pos this] at hA
    rw[hA]
    exact⟨rfl,rfl⟩
   ·rw[htk,List.mem_append] at hy
    rcases hy with hy | hy
    ·exact hi.2 y hy
    ·simp at hy;rw[hy];exact hb
  ·have hii:i=a.nu.length:=by omega
   rw[hii,List.take_length] at hi
   have hany:¬a.nu.any (badK a.k)=true:=by
    rw[List.any_eq_true]
    rintro ⟨z,hz,hb⟩
    rw[hi.2 z hz] at hb
    cases hb
   rw[if_neg (fun e=>e h0),if_neg hany] at hA
   refine⟨⟨(0,0,(a.nu.length:Int)+a.it.length),⟨Nat.zero_le _,Int.le_refl _,by simp,by simp only;omega,by simp only;omega,by simp⟩,⟨rfl,rfl⟩,tt⟩,?_⟩
   rintro ⟨j,d,w⟩ ⟨b1,b2,b3,b4,b5,hch⟩
   simp only at b1 b2 b3 b4 b5 hch ⊢
   refine⟨fun hlt=>⟨⟨by omega,hlt⟩,?_⟩,fun hge=>?_⟩
   ·have hlt':j<a.it.length:=by omega
    have hbd:=chkA_bounds (a.it.getD j default)
    rw[drop_step hlt',chkL] at hch
    refine⟨a.it.getD j default,⟨rfl,⟨rfl,fun _ _=>rfl⟩,⟨rfl,fun _ _=>rfl⟩,rfl,fun _ _=>rfl⟩,mem_getD hlt',fun herr=>?_,fun hok=>?_⟩
    ·rw[if_pos herr] at hch
     rw[← hch] at hA
     rw[hA]
     exact⟨rfl,rfl⟩
    ·have hok:(chkA (a.it.getD j default)).1=0:=by simpa using hok
     rw[if_neg (fun hne=>hne hok)] at hch
     have w1:IntKind.i64.wrap ((chkA (a.it.getD j default)).2.1+1)=(chkA (a.it.getD j default)).2.1+1:=wrap_i64' (by omega) (by omega)
     rw[w1]
     refine⟨(j+1,(if d<(chkA (a.it.getD j default)).2.1+1 then (chkA (a.it.getD j default)).2.1+1 else d),(if 262145<w+(chkA (a.it.getD j default)).2.2 then 262145 else w+(chkA (a.it.getD j default)).2.2)),⟨by simp only;omega,?_,?_,?_,?_,hch⟩,by simp only;omega,⟨wrap_i64' (by omega) (by omega),rfl⟩,tt⟩
     ·simp only;split<;>omega
     ·simp only;split<;>omega
     ·simp only;split<;>omega
     ·simp only;split<;>omega
   ·have hj:j=a.it.length:=by omega
    rw[hj,List.drop_length,chkL] at hch
    have hw:=wt_of h0 hch.symm fun x _ hx=>wt_chk x hx
    rw[← hch] at hA
    simp only at hA hw
    refine⟨fun hc=>?_,fun hc=>⟨a,⟨rfl,⟨rfl,fun _ _=>rfl⟩,⟨rfl,fun _ _=>rfl⟩,rfl,fun _ _=>rfl⟩,rfl,fun hq=>?_,fun hq=>?_⟩⟩
    ·rw[if_pos (.inl hc)] at hA
     rw[hA];exact⟨rfl,rfl⟩
    ·rw[if_pos (.inr (by omega))] at hA
     rw[hA];exact⟨rfl,rfl⟩
    ·rw[if_neg (by omega)] at hA
     rw[hA];exact⟨rfl,rfl⟩
theorem ck_all:∀(a:Arr),a.ok→ACalls Tryz.prog 106 ((sRc Arr.row2 (fun _=>True) resC).args a) ⟨[],[]⟩ (SpecR (sRc Arr.row2 (fun _=>True) resC) a)
 |.mk k s n is,h=>by
  have h':=h
  simp only[Arr.ok] at h'
  obtain ⟨_,_,_,h1,h2,h3,h4⟩:=h'
  refine ck_step (.mk k s n is) h ⟨h2,h3,h1⟩ fun b hb=>?_
  have hb':b∈is:=hb
  exact ck_all b ((okL_iff _).1 h4 b hb')
termination_by a=>SizeOf.sizeOf a
decreasing_by
 have:=List.sizeOf_lt_of_mem hb'
 simp;omega
theorem sRc_q{k:Nat}{row:Arr→List D}{q q':Arr→Prop}{r:Arr→D}{b:Arr}(h:ACalls Tryz.prog k ((sRc row q r).args b) ⟨[],[]⟩ (SpecR (sRc row q r) b)):ACalls Tryz.prog k ((sRc row q' r).args b) ⟨[],[]⟩ (SpecR (sRc row q' r) b) :=
 h.mono fun _ _ ⟨y,h1,h2,h3⟩=>⟨y,h1,h2,h3⟩
def errA(a:Arr):D:=.int .i64 (chkA a).1
def conRr(a:Arr):Con:=fun k _ _=>match k with
 |106=>some (sRc Arr.row2 (fun b=>b=a) (fun b=>.tup [.int .i64 (chkA b).1,.int .i64 (chkA b).2.1]))
 |93=>some (sRc Arr.row1 (fun b=>b=a) (fun b=>.int .i64 (chkA b).1))
 |_=>none
theorem conRr_ok{a:Arr}(ha:a.ok):ConOk Tryz.prog (conRr a):=by
 intro k ds S A h
 unfold conRr at h
 split at h
 ·injection h with h;subst h
  refine ConOk.plain (fun b hb=>?_) rfl rfl
  have hb:b=a:=hb
  rw[hb]
  exact sRc_q (r:=resC) (ck_all a ha)
 ·injection h with h;subst h
  refine ConOk.plain (fun b hb=>?_) rfl rfl
  have hb:b=a:=hb
  rw[hb]
  exact (ri_ok a ha).mono fun _ _ ⟨y,h1,h2,h3⟩=>⟨(),trivial,h2,h3⟩
 ·cases h
noncomputable def Err(a:Arr):Senv:=EC (conRr a) 11 5 [] (fun _=>([],[]))
def Yu(a:Arr):Nat:=LN (Arr.sh a)
def Qa5(a:Arr)(b:Nat):List D:=[ZI (GI (Arr.sh a) b)]
def Yv(a:Arr):Nat:=LN (Arr.nu a)
def Qa6(a:Arr)(b:Nat):List D:=[ZI (GI (Arr.nu a) b)]
def Yw(a:Arr):Nat:=LN (Arr.it a)
def Qa7:Arr:=DA
def J7(a:Arr)(b:Nat):Arr:=List.getD (Arr.it a) b Qa7
def Qhi(a:Arr)(b:Nat):List Int:=Arr.sh (J7 a b)
def Qhj(a:Arr)(b:Nat):List Int:=Arr.nu (J7 a b)
def Qa8(a:Arr)(b:Nat):List Arr:=Arr.it (J7 a b)
def Qa9(a:Arr)(b:Nat):List D:=[ZI (Arr.k (J7 a b)),SI (Qhi a b),SI (Qhj a b),D.sl N4 (LN (Qa8 a b)) (fun (i:Nat)=>Arr.row (List.getD (Qa8 a b) i Qa7)) Mode.any]
theorem rri_ok(a:Arr)(ha:a.ok):ACalls Tryz.prog 86 ((sRc Arr.row2 (fun _=>True) errA).args a) ⟨[],[]⟩ (SpecR (sRc Arr.row2 (fun _=>True) errA) a):=by
 refine con_of (A:=sRc Arr.row2 (fun _=>True) errA) (x:=a) (E:=Err a) (eOk (conRr_ok ha) rfl) Tryz.func86 rfl (by kernel_rfl) rfl (by simp[sRc,Err,EC,E0]) ?_
 simp only[sRc,errA]
 refine vc_eq (T :=
  ∀(x:Nat),True→SM x∧∃(x:Arr),((Arr.k a=Arr.k x∧(Yu a=Yu x∧(∀(i:Nat),i<Yu a→Qa5 a i=Qa5 x i)∧True)∧(Yv a=Yv x∧(∀(i:Nat),i<Yv a→Qa6 a i=Qa6 x i)∧True)∧(Yw a=Yw x∧(∀(i:Nat),i<Yw a→Qa9 a i=Qa9 x i)∧True)∧True)∧True)∧(True∧True)∧x=a∧∀(y:Unit),True→RT (Prod.fst (chkA x)=Prod.fst (chkA a))) (by kernel_rfl) ?_
 delta DA GI LN N1 N4 SI SM Z0 ZI Yu Qa5 Qa9 Yv Qa6 Yw Qa7 J7 Qhi Qhj Qa8 RT
 simp only[and_true,exists_const]
 intro x _
 exact⟨trivial,a,⟨rfl,⟨rfl,fun _ _=>rfl⟩,⟨rfl,fun _ _=>rfl⟩,rfl,fun _ _=>rfl⟩,trivial,rfl,fun _ _=>⟨trivial,trivial,rfl⟩⟩
set_option maxRecDepth 100000
def okTy(P:Program)(TS:List Nat)(t:Nat):Bool :=
 match P.underlying t with
 |some (.slice e)=>TS.contains e&&decide (P.bytesOf e≤4096)
 |some (.struct fs)=>fs.toList.all fun f=>TS.contains f.type
 |some (.pointer e)=>TS.contains e
 |some (.array _ e)=>TS.contains e
 |some (.map k e)=>TS.contains e&&decide (P.bytesOf k+P.bytesOf e≤4096)
 |_=>true
theorem bulk_one{H:Type}(d:DataW H):1≤Rows.uptoBulk d:=by
 cases d with
 |lit l=>cases l<;>simp[Rows.uptoBulk]
 |nil=>simp[Rows.uptoBulk]
 |ptr d=>simp[Rows.uptoBulk]
 |slice elems spare=>simp[Rows.uptoBulk]
 |agg parts=>simp[Rows.uptoBulk]
 |iface t d=>simp[Rows.uptoBulk]
 |map entries=>simp[Rows.uptoBulk]
 |held h=>simp[Rows.uptoBulk]
theorem bulk_len{H:Type}:∀l:List (DataW H),l.length≤Rows.uptoBulkAll l
 | []=>by simp[Rows.uptoBulkAll]
 |x::r=>by
  have:=bulk_one x
  have:=bulk_len r
  simp only[Rows.uptoBulkAll,List.length_cons]
  omega
theorem bulk_ent{H:Type}:∀l:List (Go.Lit×DataW H),l.length≤Rows.uptoBulkEntries l
 | []=>by simp[Rows.uptoBulkEntries]
 |(k,d)::r=>by
  have:=bulk_one d
  have:=bulk_ent r
  have h:1≤Rows.uptoBulkEntry (k,d):=by cases k<;>simp[Rows.uptoBulkEntry]
  simp only[Rows.uptoBulkEntries,List.length_cons]
  omega
theorem mul_4096{a b c:Nat}(h1:a≤c)(h2:b≤4096):a*b≤8192*c:=by
 calc a*b≤c*4096:=Nat.mul_le_mul h1 h2
  _≤8192*c:=by omega
mutual
theorem w_le{P:Program}{TS:List Nat}(hT:∀t∈TS,okTy P TS t=true){H:Type}:∀(d:DataW H) (t:Nat),t∈TS→∀x∈d.weights P t,x≤8192*Rows.uptoBulk d
 |.lit l,t,_,x,hx=>by
  cases l with
  |string bytes =>
   simp only[DataW.weights,List.mem_singleton] at hx
   simp only[Rows.uptoBulk]
   omega
  |_=>simp[DataW.weights] at hx
 |.nil,t,_,x,hx=>by simp[DataW.weights] at hx
 |.ptr d,t,ht,x,hx=>by
  have ho:=hT t ht
  simp only[DataW.weights] at hx
  unfold okTy at ho
  split at hx
  ·rename_i e hu
   rw[hu] at ho
   have:=w_le hT d e (by simpa using ho) x hx
   simp only[Rows.uptoBulk]
   omega
  ·simp at hx
 |.slice elems spare,t,ht,x,hx=>by
  have ho:=hT t ht
  simp only[DataW.weights] at hx
  unfold okTy at ho
  split at hx
  ·rename_i e hu
   rw[hu] at ho
   simp only[Bool.and_eq_true,decide_eq_true_eq] at ho
   have he:e∈TS:=by simpa using ho.1
   simp only[Rows.uptoBulk]
   rcases List.mem_cons.1 hx with rfl | hx
   ·exact Nat.le_trans (mul_4096 (Nat.add_le_add (bulk_len elems) (bulk_len spare)) ho.2) (by omega)
   ·rcases List.mem_append.1 hx with hx | hx
    ·have:=wAll_le hT elems e he x hx
     omega
    ·have:=wAll_le hT spare e he x hx
     omega
  ·simp at hx
 |.agg parts,t,ht,x,hx=>by
  have ho:=hT t ht
  simp only[DataW.weights] at hx
  unfold okTy at ho
  split at hx
  ·rename_i fs hu
   rw[hu] at ho
   have:=wEach_le hT (fs.toList.map (·.type)) parts (fun t h=>by
    obtain ⟨f,hf,rfl⟩:=List.mem_map.1 h
    simpa using List.all_eq_true.1 ho f hf) x hx
   simp only[Rows.uptoBulk]
   omega
  ·rename_i e hu
   rw[hu] at ho
   have:=wAll_le hT parts e (by simpa using ho) x hx
   simp only[Rows.uptoBulk]
   omega
  ·simp at hx
 |.iface _ _,t,_,x,hx=>by simp[DataW.weights] at hx
 |.map entries,t,ht,x,hx=>by
  have ho:=hT t ht
  simp only[DataW.weights] at hx
  unfold okTy at ho
  split at hx
  ·rename_i k e hu
   rw[hu] at ho
   simp only[Bool.and_eq_true,decide_eq_true_eq] at ho
   simp only[Rows.uptoBulk]
   rcases List.mem_cons.1 hx with rfl | hx
   ·exact Nat.le_trans (mul_4096 (bulk_ent entries) ho.2) (by omega)
   ·have:=wEnt_le hT entries e (by simpa using ho.1) x hx
    omega
  ·simp at hx
 |.held _,t,_,x,hx=>by simp[DataW.weights] at hx
theorem wAll_le{P:Program}{TS:List Nat}(hT:∀t∈TS,okTy P TS t=true){H:Type}:∀(l:List (DataW H)) (e:Nat),e∈TS→∀x∈DataW.weightsAll P e l,x≤8192*Rows.uptoBulkAll l
 | [],e,_,x,hx=>by simp[DataW.weightsAll] at hx
 |d::r,e,he,x,hx=>by
  simp only[DataW.weightsAll] at hx
  simp only[Rows.uptoBulkAll]
  rcases List.mem_append.1 hx with hx | hx
  ·have:=w_le hT d e he x hx;omega
  ·have:=wAll_le hT r e he x hx;omega
theorem wEach_le{P:Program}{TS:List Nat}(hT:∀t∈TS,okTy P TS t=true){H:Type}:∀(ts:List Nat) (l:List (DataW H)),(∀t∈ts,t∈TS)→∀x∈DataW.weightsEach P ts l,x≤8192*Rows.uptoBulkAll l
 | [],l,_,x,hx=>by simp[DataW.weightsEach] at hx
 |t::ts,[],_,x,hx=>by simp[DataW.weightsEach] at hx
 |t::ts,d::r,ht,x,hx=>by
  simp only[DataW.weightsEach] at hx
  simp only[Rows.uptoBulkAll]
  rcases List.mem_append.1 hx with hx | hx
  ·have:=w_le hT d t (ht t (by simp)) x hx;omega
  ·have:=wEach_le hT ts r (fun u hu=>ht u (by simp[hu])) x hx;omega
theorem wEnt_le{P:Program}{TS:List Nat}(hT:∀t∈TS,okTy P TS t=true){H:Type}:∀(l:List (Go.Lit×DataW H)) (e:Nat),e∈TS→∀x∈DataW.weightsEntries P e l,x≤8192*Rows.uptoBulkEntries l
 | [],e,_,x,hx=>by simp[DataW.weightsEntries] at hx
 |(k,d)::r,e,he,x,hx=>by
  simp only[DataW.weightsEntries] at hx
  simp only[Rows.uptoBulkEntries]
  rcases List.mem_append.1 hx with hx | hx
  ·cases k with
   |string bytes =>
    simp only[DataW.weightsEntry] at hx
    simp only[Rows.uptoBulkEntry]
    rcases List.mem_cons.1 hx with rfl | hx
    ·omega
    ·have:=w_le hT d e he x hx;omega
   |_ =>
    simp only[DataW.weightsEntry] at hx
    simp only[Rows.uptoBulkEntry]
    have:=w_le hT d e he x hx;omega
  ·have:=wEnt_le hT r e he x hx;omega
end
theorem upto_sz{P:Program}{TS:List Nat}(hT:∀t∈TS,okTy P TS t=true){H:Type}{ts:List Nat}(hts:∀t∈ts,t∈TS){ds:List (DataW H)}(hk:Rows.uptoSmall H ds=true):(DataW.weightsEach P ts ds).all (·≤maxB)=true:=by
 have hb:Rows.uptoBulkAll ds≤1048576:=of_decide_eq_true hk
 refine List.all_eq_true.2 fun x hx=>?_
 have:=wEach_le hT ts ds hts x hx
 unfold maxB
 simp only[decide_eq_true_eq]
 omega
def RNd:List D→Prop:=fun ds=>∃n:Nd,(n.ok∧n.sm)∧ds=n.row
def RSm:List D→Prop:=fun ds=>∃s:Sm,(s.ok∧s.sm)∧ds=s.row
theorem read_sm(W:World)(m:Nat)(hn:∀k,k<m→ReadAt Tryz.prog W k 34 RNd):ReadAt Tryz.prog W m 55 RSm:=by
 cases m with
 |zero=>exact .zero _ _
 |succ k =>
  refine (read_struct Tryz.underlying55 (by kernel_rfl) (Rs:=[RInt .i64,RInt .i64,RStr,RInt .i64,RNd,RNd]) ⟨read_int (by kernel_rfl) W k,read_int (by kernel_rfl) W k,read_string (by kernel_rfl) W k,read_int (by kernel_rfl) W k,hn k (Nat.lt_succ_self k),hn k (Nat.lt_succ_self k),trivial⟩).mono ?_
  rintro ds ⟨_,_,h1,⟨_,_,h2,⟨_,_,h3,⟨_,_,h4,⟨_,_,h5,⟨_,_,h6,h7,rfl⟩,rfl⟩,rfl⟩,rfl⟩,rfl⟩,rfl⟩
  obtain rfl:_=[]:=h7
  obtain ⟨kd,kd1,rfl⟩:=int_row _ h1
  obtain ⟨at_,at1,rfl⟩:=int_row _ h2
  obtain ⟨nm,rfl,nm1⟩:=h3
  obtain ⟨sl,sl1,rfl⟩:=int_row _ h4
  obtain ⟨te,⟨te1,te2⟩,rfl⟩:=h5
  obtain ⟨nd,⟨nd1,nd2⟩,rfl⟩:=h6
  refine⟨.mk kd at_ nm sl te nd,⟨?_,?_⟩,?_⟩
  ·simp only[Sm.ok]
   exact⟨⟨kd1,at1,sl1⟩,te1,nd1⟩
  ·simp only[Sm.sm]
   exact⟨nm1,te2,nd2⟩
  ·simp only[Sm.row,List.cons_append,List.nil_append,List.append_nil]
theorem read_nd(W:World):∀n,ReadAt Tryz.prog W n 34 RNd:=by
 intro n
 induction n using Nat.strongRecOn with
 |_ n ih =>
  cases n with
  |zero=>exact .zero _ _
  |succ m =>
   have hk:ReadAt Tryz.prog W m 31 (RSliceA 15 RNd):=by
    cases m with
    |zero=>exact .zero _ _
    |succ k=>exact read_sliceA (w:=15) Tryz.underlying31 (by kernel_rfl) (by decide) (by decide +kernel) (ih k (by omega))
   have hb:ReadAt Tryz.prog W m 32 (RSliceA 34 RSm):=by
    cases m with
    |zero=>exact .zero _ _
    |succ k=>exact read_sliceA (w:=34) Tryz.underlying32 (by kernel_rfl) (by decide) (by decide +kernel) (read_sm W k fun j hj=>ih j (by omega))
   have ri:∀t,Tryz.prog.underlying t=some (.int .i64)→ReadAt Tryz.prog W m t (RInt .i64):=fun t ht=>read_int ht W m
   refine (read_struct Tryz.underlying34 (by kernel_rfl) (Rs:=[RInt .i64,RInt .i64,RInt .i64,RStr,RInt .i64,RInt .i64,RArr,RSliceA 15 RNd,RSliceA 34 RSm,RInt .i64,RInt .i64,RInt .i64])
    ⟨ri _ (by kernel_rfl),ri _ (by kernel_rfl),ri _ (by kernel_rfl),read_string (by kernel_rfl) W m,ri _ (by kernel_rfl),ri _ (by kernel_rfl),read_arr W m,hk,hb,ri _ (by kernel_rfl),ri _ (by kernel_rfl),ri _ (by kernel_rfl),trivial⟩).weak ?_
   rintro _ ds vs ⟨_,_,h1,⟨_,_,h2,⟨_,_,h3,⟨_,_,h4,⟨_,_,h5,⟨_,_,h6,⟨_,_,h7,⟨_,_,h8,⟨_,_,h9,⟨_,_,h10,⟨_,_,h11,⟨_,_,h12,h13,rfl⟩,rfl⟩,rfl⟩,rfl⟩,rfl⟩,rfl⟩,rfl⟩,rfl⟩,rfl⟩,rfl⟩,rfl⟩,rfl⟩ hr
   obtain rfl:_=[]:=h13
   obtain ⟨kd,kd1,rfl⟩:=int_row _ h1
   obtain ⟨at_,at1,rfl⟩:=int_row _ h2
   obtain ⟨cl,cl1,rfl⟩:=int_row _ h3
   obtain ⟨tx,rfl,tx1⟩:=h4
   obtain ⟨pr,pr1,rfl⟩:=int_row _ h5
   obtain ⟨op,op1,rfl⟩:=int_row _ h6
   obtain ⟨va,⟨va1,va2⟩,rfl⟩:=h7
   obtain ⟨l,l1,l2,rfl⟩:=h8
   obtain ⟨b,b1,b2,rfl⟩:=h9
   obtain ⟨de,de1,rfl⟩:=int_row _ h10
   obtain ⟨sl,sl1,rfl⟩:=int_row _ h11
   obtain ⟨ss,ss1,rfl⟩:=int_row _ h12
   obtain ⟨ki,qk,rfl⟩:=rows_of (g:=Nd.row) (Q:=fun a=>a.ok∧a.sm) (fun x hx=>hx) l l1
   obtain ⟨bo,qb,rfl⟩:=rows_of (g:=Sm.row) (Q:=fun a=>a.ok∧a.sm) (fun x hx=>hx) b b1
   have l2:ki.length≤maxB:=by simpa using l2
   have b2:bo.length≤maxB:=by simpa using b2
   refine⟨(Nd.mk kd at_ cl tx pr op va ki bo de sl ss).row,⟨_,⟨?_,?_⟩,rfl⟩,wkL_weak _ _ ?_ _ _ hr⟩
   ·simp only[Nd.ok]
    exact⟨⟨kd1,at1,cl1,pr1,op1,de1,sl1,ss1⟩,va1,(ndsOk_iff _).2 fun a ha=>(qk a ha).1,(smsOk_iff _).2 fun a ha=>(qb a ha).1⟩
   ·simp only[Nd.sm]
    exact⟨⟨tx1,l2,b2⟩,va2,(ndsSm_iff _).2 fun a ha=>(qk a ha).2,(smsSm_iff _).2 fun a ha=>(qb a ha).2⟩
   ·simp only[Nd.row,ndRows_map,smRows_map,List.cons_append,List.nil_append,List.append_nil,wkL]
    refine⟨wkD_refl _,wkD_refl _,wkD_refl _,wkD_refl _,wkD_refl _,wkD_refl _,?_⟩
    have h:=wkL_app (row_wk va) (wkL_refl (lsl 15 (ki.map Nd.row)::lsl 34 (bo.map Sm.row)::[D.int .i64 de,D.int .i64 sl,D.int .i64 ss]))
    simp only[Arr.row1,List.cons_append,List.nil_append] at h
    exact h
def posB(n:Nd):Bool:=decide (0≤n.at_)&&decide (0≤n.de)&&decide (0≤n.sl)&&decide (0≤n.ss)
def rEmp(n:Nd)(tx pr op va ki bo:Bool):Bool:=(tx||n.tx.isEmpty)&&(pr||n.pr==0)&&(op||n.op==0)&&(va||zeroA n.va)&&(ki||n.ki.isEmpty)&&(bo||n.bo.isEmpty)
def opClass(op:Int):Int:=if op<1∨11<op then 0 else if op≤5 then 3 else 4
def rLeaf(n:Nd):Bool :=
 if n.kd=1 then rEmp n false false false true false false&&n.cl==1&&(chkA n.va).1==0&&((n.va.sh.isEmpty&&n.va.k != 3)||(n.va.sh.length==1&&n.va.k==2))
 else if n.kd=2 then rEmp n true false false false false false&&nameB n.tx&&decide (1≤n.cl)&&decide (n.cl≤4)
 else if n.kd=6∨n.kd=7∨n.kd=8 then rEmp n false false false false false false&&n.cl==1
 else if n.kd=9 then rEmp n false true false false false false&&n.cl==2&&decide (1≤n.pr)&&decide (n.pr≤55)
 else if n.kd=11∨n.kd=12∨n.kd=13 then rEmp n false false false false false false&&n.cl==2
 else if n.kd=17 then rEmp n false false true false false false&&opClass n.op != 0&&n.cl==opClass n.op
 else false
def rInner(n:Nd):Bool := rEmp n false false false false true false &&
  (if n.kd = 3 then classesB n (List.replicate n.ki.length 1) && n.cl == 1 && decide (2 ≤ n.ki.length) && decide (n.ki.length ≤ 1000)
   else if n.kd = 4 then n.cl == 1 && classesB n [2,1]
   else if n.kd = 5 then n.cl == 1 && classesB n [2,1,1]
   else if n.kd = 14 then n.cl == 2 && classesB n [3,2]
   else if n.kd = 15 then n.cl == 2 && classesB n [4,2,rightK n]
   else if n.kd = 16 then n.cl == 2 && (classesB n [2,2] || classesB n [2,2,2] || classesB n [1,2,2])
   else false)
theorem primT_ne(p:Int):(primT p).isEmpty=!(decide (1≤p)&&decide (p≤55)):=by
 have h:∀n,n<56→(primL.getD n []).isEmpty=!(decide (1≤n)):=by decide +kernel
 unfold primT
 split
 ·rename_i hc
  have:(decide (1≤p)&&decide (p≤55))=false:=by
   rw[Bool.and_eq_false_iff,decide_eq_false_iff_not,decide_eq_false_iff_not];omega
  rw[this];rfl
 ·rename_i hc
  have:(decide (1≤p)&&decide (p≤55))=true:=by
   rw[Bool.and_eq_true,decide_eq_true_eq,decide_eq_true_eq];omega
  rw[this,h _ (by omega)]
  have:(1:Nat)≤p.toNat:=by omega
  simp[this]
theorem opT_ne(p:Int):(opT p).isEmpty=!(decide (1≤p)&&decide (p≤11)):=by
 have h:∀n,n<12→(opL.getD n []).isEmpty=!(decide (1≤n)):=by decide +kernel
 unfold opT
 split
 ·rename_i hc
  have:(decide (1≤p)&&decide (p≤11))=false:=by
   rw[Bool.and_eq_false_iff,decide_eq_false_iff_not,decide_eq_false_iff_not];omega
  rw[this];rfl
 ·rename_i hc
  have:(decide (1≤p)&&decide (p≤11))=true:=by
   rw[Bool.and_eq_true,decide_eq_true_eq,decide_eq_true_eq];omega
  rw[this,h _ (by omega)]
  have:(1:Nat)≤p.toNat:=by omega
  simp[this]
theorem only_pos(n:Nd):onlyB n n.kd=(posB n&&(n.tx.isEmpty||n.kd==2)&&(n.pr==0||n.kd==9)&&(n.op==0||n.kd==17)&&(zeroA n.va||n.kd==1)&&(n.bo.isEmpty||n.kd==10)):=by
 unfold onlyB posB
 simp
theorem op_class(op:Int):(opClass op != 0)=(decide (1≤op)&&decide (op≤11))∧((opClass op != 0)=true→opClass op=if op≤5 then 3 else 4):=by
 unfold opClass
 by_cases h:op<1∨11<op
 ·rw[if_pos h]
  have:(decide (1≤op)&&decide (op≤11))=false:=by
   rw[Bool.and_eq_false_iff,decide_eq_false_iff_not,decide_eq_false_iff_not];omega
  rw[this]
  exact⟨rfl,fun h=>by cases h⟩
 ·rw[if_neg h]
  have:(decide (1≤op)&&decide (op≤11))=true:=by
   rw[Bool.and_eq_true,decide_eq_true_eq,decide_eq_true_eq];omega
  rw[this]
  refine⟨?_,fun _=>rfl⟩
  split<;>rfl
theorem ref_node(n:Nd)(v:Bool)(h:n.kd≠10):(posB n&&(rLeaf n||(rInner n&&v)))=(onlyB n n.kd&&(leafB n||(compB n&&v))):=by
 rw[only_pos]
 obtain ⟨o1,o2⟩:=op_class n.op
 have h10:(n.kd==10)=false:=by simpa using h
 cases hp:posB n with
 |false=>simp
 |true =>
  unfold rLeaf rInner leafB compB rEmp
  by_cases e1:n.kd=1
  ·simp[e1]
   cases n.tx.isEmpty<;>cases n.ki.isEmpty<;>cases n.bo.isEmpty<;>simp
   ac_rfl
  by_cases e2:n.kd=2
  ·simp[e2]
   cases n.ki.isEmpty<;>cases n.bo.isEmpty<;>simp
   ac_rfl
  by_cases e3:n.kd=3
  ·simp[e3]
   cases n.tx.isEmpty<;>cases n.bo.isEmpty<;>simp
   ac_rfl
  by_cases e4:n.kd=4
  ·simp[e4]
   cases n.tx.isEmpty<;>cases n.bo.isEmpty<;>simp
   ac_rfl
  by_cases e5:n.kd=5
  ·simp[e5]
   cases n.tx.isEmpty<;>cases n.bo.isEmpty<;>simp
   ac_rfl
  by_cases e6:n.kd=6∨n.kd=7∨n.kd=8
  ·rcases e6 with e | e | e <;>
   ·simp[e]
    cases n.tx.isEmpty<;>cases n.ki.isEmpty<;>cases n.bo.isEmpty<;>simp
  by_cases e9:n.kd=9
  ·simp[e9,primT_ne]
   cases n.tx.isEmpty<;>cases n.ki.isEmpty<;>cases n.bo.isEmpty<;>simp
   ac_rfl
  by_cases e11:n.kd=11∨n.kd=12∨n.kd=13
  ·rcases e11 with e | e | e <;>
   ·simp[e]
    cases n.tx.isEmpty<;>cases n.ki.isEmpty<;>cases n.bo.isEmpty<;>simp
  by_cases e14:n.kd=14
  ·simp[e14]
   cases n.tx.isEmpty<;>cases n.bo.isEmpty<;>simp
   ac_rfl
  by_cases e15:n.kd=15
  ·simp[e15]
   cases n.tx.isEmpty<;>cases n.bo.isEmpty<;>simp
   ac_rfl
  by_cases e16:n.kd=16
  ·simp[e16]
   cases n.tx.isEmpty<;>cases n.bo.isEmpty<;>simp
   ac_rfl
  by_cases e17:n.kd=17
  ·simp only[e17]
   rw[opT_ne,← o1]
   cases ho:opClass n.op != 0 with
   |false=>simp
   |true =>
    rw[o2 ho]
    simp
    cases n.tx.isEmpty<;>cases n.ki.isEmpty<;>cases n.bo.isEmpty<;>simp
  ·simp only[e1,e2,e3,e4,e5,e6,e9,e11,e14,e15,e16,e17,if_false]
   simp
mutual
def mentN(k:Int):Nd→Bool
 |.mk kd _ _ _ _ _ _ ki _ _ _ _=>kd==k||mentL k ki
def mentL(k:Int):List Nd→Bool
 | []=>false
 |x::r=>mentN k x||mentL k r
end
def mentB(l:List Sm)(k:Int):Bool:=l.any fun s=>mentN k s.te||mentN k s.nd
theorem mentL_any(k:Int):∀l:List Nd,mentL k l=l.any (mentN k)
 | []=>by simp only[mentL,List.any_nil]
 |x::r=>by simp only[mentL,List.any_cons,mentL_any k r]
theorem mentN_eq(k:Int)(n:Nd):mentN k n=(n.kd==k||n.ki.any (mentN k)):=by
 cases n
 simp only[mentN,mentL_any]
 rfl
theorem any_congr{α:Type}{p q:α→Bool}:∀ {l:List α},(∀x∈l,p x=q x)→l.any p=l.any q
 | [],_=>rfl
 |x::l,h=>by
  simp only[List.any_cons]
  rw[h x (by simp),any_congr fun y hy=>h y (by simp[hy])]
theorem ment_occ(k:Int)(n:Nd)(h:nodeV n=true):mentN k n=occN k n:=by
 obtain ⟨h1,h2⟩:=valid_kids h
 rw[mentN_eq,occN_eq]
 have e:n.ki.any (mentN k)=n.ki.any (occN k):=any_congr fun x hx=>by
  have:=Nd.size_kid hx
  exact ment_occ k x (h1 x hx)
 rw[e]
 by_cases hk:n.kd=10
 ·rw[h2 hk];simp
 ·have:(n.kd != 10)=true:=by simpa using hk
  rw[this,Bool.true_and]
termination_by SizeOf.sizeOf n
theorem ment_zero{n:Nd}{k:Int}(h:emptyB n=true)(hk:k≠0):mentN k n=false:=by
 unfold emptyB at h
 simp only[Bool.and_eq_true,beq_iff_eq,List.isEmpty_iff] at h
 obtain ⟨⟨⟨⟨⟨⟨⟨h1,_⟩,_⟩,_⟩,_⟩,_⟩,_⟩,h2⟩:=h
 rw[mentN_eq,h1,h2]
 have:((0:Int)==k)=false:=by simpa using fun e=>hk e.symm
 rw[this];rfl
theorem body_ment{g:Bool}{l:List Sm}(h:bodyV g l=true){k:Int}(hk:k≠0):mentB l k=occB l k:=by
 unfold bodyV at h
 rw[Bool.and_eq_true] at h
 unfold mentB occB
 refine any_congr fun s hs=>?_
 obtain ⟨h1,h2⟩:=stmts_all h.2 s hs
 unfold partsS
 rcases h2 with ⟨h3,h4,_⟩ | ⟨h3,h4⟩
 ·rw[if_pos h3,ment_occ k _ h1,ment_occ k _ h4]
  simp
 ·rw[if_neg h3,ment_occ k _ h1,ment_zero h4 hk]
  simp
def rLam(n:Nd):Bool:=rEmp n false false false false false true&&!n.bo.isEmpty&&(n.bo.getD (n.bo.length-1) default).kd==1&&bodyV true n.bo &&
 (if mentB n.bo 13=true then n.cl==4 else if mentB n.bo 12=true then n.cl==3 else n.cl==2)
theorem ref_lam(n:Nd)(h:n.kd=10):(posB n&&rLam n)=(onlyB n n.kd&&(lamC n&&bodyV true n.bo)):=by
 rw[only_pos]
 have e2:(n.kd==2)=false:=by rw[h];rfl
 have e9:(n.kd==9)=false:=by rw[h];rfl
 have e17:(n.kd==17)=false:=by rw[h];rfl
 have e1:(n.kd==1)=false:=by rw[h];rfl
 have e10:(n.kd==10)=true:=by rw[h];rfl
 rw[e2,e9,e17,e1,e10]
 unfold rLam lamC rEmp
 cases hb:bodyV true n.bo with
 |false=>simp
 |true =>
  rw[body_ment hb (by decide),body_ment hb (by decide)]
  cases occB n.bo 12<;>cases occB n.bo 13<;>cases n.ki.isEmpty<;>cases n.bo.isEmpty<;>simp
  all_goals first
   |ac_rfl
   |skip
  all_goals by_cases c2:n.cl=2<;>by_cases c3:n.cl=3<;>by_cases c4:n.cl=4<;>simp[c2,c3,c4]<;>first | omega | ac_rfl
theorem nodeV_ref(n:Nd):nodeV n=(posB n&&(if n.kd=10 then rLam n else rLeaf n||(rInner n&&n.ki.all nodeV))):=by
 rw[nodeV_eq]
 by_cases h:n.kd=10
 ·rw[if_pos h,if_pos h,ref_lam n h]
 ·rw[if_neg h,if_neg h,ref_node n _ h]
noncomputable def Erpn:Senv:={ EC con0 18 1 [2,3,12] (fun _=>([],[])) with mg:=fun _=>2 }
def QFa(a:Int):Prop:=True∧∃(_y:Unit),True∧eqOf (List UInt8) [] (primT a)∧True∧True
theorem rpn_ok(p:Int)(h:inI64 p):ACalls Tryz.prog 100 [.int .i64 p] ⟨[],[]⟩ (SpecR (sC [.int .i64 p] (.str (primT p))) ()):=by
 refine con_of (A:=sC _ _) (x:=()) (E:=Erpn) (eOk con0_ok rfl) Tryz.func100 rfl (by kernel_rfl) rfl (by simp[sC,Erpn,EC,E0]) ?_
 refine vc_eq (T :=
  ifB (decide (p<Z1)) (QFa p) (ifB (decide ((55:Int)<p)) (QFa p) (side (Z0≤IntKind.wrap IntKind.i64 (p-Z1)∧IntKind.wrap IntKind.i64 (p-Z1)<(55:Int)) (True∧∃(y:Unit),True∧List.getD [[(43:UInt8)],[(45:UInt8)],[(42:UInt8)],[(37:UInt8)],[(124:UInt8)],[(94:UInt8)],[(109:UInt8),(105:UInt8),(110:UInt8)],[(109:UInt8),(97:UInt8),(120:UInt8)],[(60:UInt8)],[(60:UInt8),(61:UInt8)],[(61:UInt8)],[(126:UInt8),(61:UInt8)],[(62:UInt8),(61:UInt8)],[(62:UInt8)],[(97:UInt8),(110:UInt8),(100:UInt8)],[(111:UInt8),(114:UInt8)],[(110:UInt8),(111:UInt8),(116:UInt8)],[(115:UInt8),(104:UInt8),(97:UInt8),(112:UInt8),(101:UInt8)],[(114:UInt8),(101:UInt8),(115:UInt8),(104:UInt8),(97:UInt8),(112:UInt8),(101:UInt8)],[(116:UInt8),(97:UInt8),(108:UInt8),(108:UInt8),(121:UInt8)],[(100:UInt8),(101:UInt8),(112:UInt8),(116:UInt8),(104:UInt8)],[(44:UInt8)],[(115:UInt8),(116:UInt8),(97:UInt8),(99:UInt8),(107:UInt8)],[(105:UInt8),(111:UInt8),(116:UInt8),(97:UInt8)],[(116:UInt8),(97:UInt8),(107:UInt8),(101:UInt8)],[(100:UInt8),(114:UInt8),(111:UInt8),(112:UInt8)],[(102:UInt8),(105:UInt8),(114:UInt8),(115:UInt8),(116:UInt8)],[(114:UInt8),(101:UInt8),(118:UInt8),(101:UInt8),(114:UInt8),(115:UInt8),(101:UInt8)],[(114:UInt8),(111:UInt8),(116:UInt8),(97:UInt8),(116:UInt8),(101:UInt8)],[(116:UInt8),(114:UInt8),(97:UInt8),(110:UInt8),(115:UInt8),(112:UInt8),(111:UInt8),(115:UInt8),(101:UInt8)],[(102:UInt8),(114:UInt8),(111:UInt8),(109:UInt8)],[(112:UInt8),(105:UInt8),(99:UInt8),(107:UInt8)],[(115:UInt8),(101:UInt8),(108:UInt8),(101:UInt8),(99:UInt8),(116:UInt8)],[(97:UInt8),(109:UInt8),(101:UInt8),(110:UInt8),(100:UInt8)],[(117:UInt8),(112:UInt8)],[(100:UInt8),(111:UInt8),(119:UInt8),(110:UInt8)],[(115:UInt8),(111:UInt8),(114:UInt8),(116:UInt8)],[(102:UInt8),(105:UInt8),(110:UInt8),(100:UInt8)],[(105:UInt8),(110:UInt8)],[(117:UInt8),(110:UInt8),(105:UInt8),(113:UInt8),(117:UInt8),(101:UInt8)],[(119:UInt8),(104:UInt8),(101:UInt8),(114:UInt8),(101:UInt8)],[(99:UInt8),(111:UInt8),(112:UInt8),(121:UInt8)],[(101:UInt8),(120:UInt8),(112:UInt8),(97:UInt8),(110:UInt8),(100:UInt8)],[(99:UInt8),(117:UInt8),(116:UInt8)],[(101:UInt8),(110:UInt8),(99:UInt8),(111:UInt8),(100:UInt8),(101:UInt8)],[(100:UInt8),(101:UInt8),(99:UInt8),(111:UInt8),(100:UInt8),(101:UInt8)],[(98:UInt8),(111:UInt8),(120:UInt8)],[(111:UInt8),(112:UInt8),(101:UInt8),(110:UInt8)],[(115:UInt8),(97:UInt8),(109:UInt8),(101:UInt8)],[(107:UInt8),(105:UInt8),(110:UInt8),(100:UInt8)],[(111:UInt8),(114:UInt8),(100:UInt8)],[(99:UInt8),(104:UInt8),(114:UInt8)],[(102:UInt8),(111:UInt8),(114:UInt8),(109:UInt8),(97:UInt8),(116:UInt8)],[(108:UInt8),(101:UInt8),(102:UInt8),(116:UInt8)],[(114:UInt8),(105:UInt8),(103:UInt8),(104:UInt8),(116:UInt8)]] (Int.toNat (IntKind.wrap IntKind.i64 (p-Z1))) []=primT p∧True∧True)))) (by kernel_rfl) ?_
 delta Z0 Z1 QFa
 simp only[ifB_iff,side_iff,decide_eq_true_eq,decide_eq_false_iff_not,true_and,and_true,exists_const]
 unfold inI64 at h
 refine⟨fun h=>(prim_out (.inl h)).symm,fun h1=>⟨fun h=>(prim_out (.inr (by omega))).symm,fun h2=>?_⟩⟩
 have w:IntKind.i64.wrap (p-1)=p-1:=wrap_i64' (by omega) (by omega)
 rw[w,prim_in (by omega)]
 refine⟨⟨by omega,by omega⟩,?_⟩
 have e:primL.getD p.toNat []=(primL.drop 1).getD (p-1).toNat []:=by
  rw[List.getD_eq_getElem?_getD,List.getD_eq_getElem?_getD,List.getElem?_drop]
  congr 2;omega
 rw[e]
 have hL:∀A:List (List UInt8),A=primL.drop 1→A.getD (p-1).toNat []=(primL.drop 1).getD (p-1).toNat []:=fun A e=>by rw[e]
 first
  |exact hL _ (by decide +kernel)
  |exact⟨trivial,hL _ (by decide +kernel)⟩
noncomputable def Eron:Senv:={ EC con0 18 1 [2,3,12] (fun _=>([],[])) with mg:=fun _=>2 }
def QFb(a:Int):Prop:=True∧∃(_y:Unit),True∧eqOf (List UInt8) [] (opT a)∧True∧True
theorem ron_ok(p:Int)(h:inI64 p):ACalls Tryz.prog 101 [.int .i64 p] ⟨[],[]⟩ (SpecR (sC [.int .i64 p] (.str (opT p))) ()):=by
 refine con_of (A:=sC _ _) (x:=()) (E:=Eron) (eOk con0_ok rfl) Tryz.func101 rfl (by kernel_rfl) rfl (by simp[sC,Eron,EC,E0]) ?_
 refine vc_eq (T :=
  ifB (decide (p<Z1)) (QFb p) (ifB (decide ((11:Int)<p)) (QFb p) (side (Z0≤IntKind.wrap IntKind.i64 (p-Z1)∧IntKind.wrap IntKind.i64 (p-Z1)<(11:Int)) (True∧∃(y:Unit),True∧List.getD [[(47:UInt8)],[(92:UInt8)],[(101:UInt8),(97:UInt8),(99:UInt8),(104:UInt8)],[(115:UInt8),(119:UInt8),(97:UInt8),(112:UInt8)],[(111:UInt8),(117:UInt8),(116:UInt8),(101:UInt8),(114:UInt8)],[(105:UInt8),(110:UInt8),(110:UInt8),(101:UInt8),(114:UInt8)],[(114:UInt8),(97:UInt8),(110:UInt8),(107:UInt8)],[(112:UInt8),(111:UInt8),(119:UInt8),(101:UInt8),(114:UInt8)],[(115:UInt8),(116:UInt8),(101:UInt8),(110:UInt8),(99:UInt8),(105:UInt8),(108:UInt8)],[(97:UInt8),(116:UInt8),(111:UInt8),(112:UInt8)],[(111:UInt8),(118:UInt8),(101:UInt8),(114:UInt8)]] (Int.toNat (IntKind.wrap IntKind.i64 (p-Z1))) []=opT p∧True∧True)))) (by kernel_rfl) ?_
 delta Z0 Z1 QFb
 simp only[ifB_iff,side_iff,decide_eq_true_eq,decide_eq_false_iff_not,true_and,and_true,exists_const]
 unfold inI64 at h
 refine⟨fun h=>(op_out (.inl h)).symm,fun h1=>⟨fun h=>(op_out (.inr (by omega))).symm,fun h2=>?_⟩⟩
 have w:IntKind.i64.wrap (p-1)=p-1:=wrap_i64' (by omega) (by omega)
 rw[w,op_in (by omega)]
 refine⟨⟨by omega,by omega⟩,?_⟩
 have e:opL.getD p.toNat []=(opL.drop 1).getD (p-1).toNat []:=by
  rw[List.getD_eq_getElem?_getD,List.getD_eq_getElem?_getD,List.getElem?_drop]
  congr 2;omega
 rw[e]
 have hL:∀A:List (List UInt8),A=opL.drop 1→A.getD (p-1).toNat []=(opL.drop 1).getD (p-1).toNat []:=fun A e=>by rw[e]
 first
  |exact hL _ (by decide +kernel)
  |exact⟨trivial,hL _ (by decide +kernel)⟩
theorem bytesOf_eq{n:Nat}{l:List UInt8}{F:Nat→List D}(hn:n=l.length)(hF:∀i,i<n→F i=[D.int .u8 ((l.getD i 0).toNat:Int)]):bytesOf n F=l:=by
 subst hn
 conv=>rhs;rw[← bytesOf_bsl l]
 unfold bytesOf
 exact List.map_congr_left fun i hi=>by rw[hF i (List.mem_range.1 hi)]
theorem rowsB_eq{n:Nat}{l:List UInt8}{F:Nat→List D}(hn:n=l.length)(hF:∀i,i<n→F i=[D.int .u8 ((l.getD i 0).toNat:Int)]):rowsB n F=true:=by
 subst hn
 have h:=rowsB_bsl l
 simp only[rowsB,List.all_eq_true,List.mem_range] at h ⊢
 intro i hi
 rw[hF i hi];exact h i hi
noncomputable def Erq(l:List Int):Senv:={ EC conRc 25 5 [10] (fun _=>([],[])) with
 gh:=fun b=>match b with
  |0=>[.slot 3]
  |_=>[]
 ann:=fun b _ S=>match b with
  |0=>some { slots:=[4,3],keep:=[0,1],α:=Nat×Nat×List UInt8,st:=fun y=>([.int .i64 y.1,bsl y.2.2 (.tok 0 y.2.1)],⟨S.objs,[(0,y.2.1)]⟩),inv:=fun y=>QHd 34 l y.1 [34] y.2.2,mu:=fun y=>l.length-y.1 }
  |_=>none }
def QrN(a:List Int)(b:Nat)(c:List UInt8):Prop:=QHd (34:Int) a b [(34:UInt8)] c
def Qj5(a:List UInt8)(b:Nat):List D:=[ZB (BI a b)]
def QFc(a:Nat)(b:Int)(c:Nat)(d:Nat→List D)(e:List Int)(f:Nat)(g:Nat→List D)(h k:Nat):Prop:=(SM a∧(SM b∧(SM c∧(∀(i:Nat),i<c→SM (d i))∧True)∧(SM (LN e)∧(∀(i:Nat),i<LN e→SM [ZI (GI e i)])∧True)∧(SM f∧(∀(i:Nat),i<f→SM (g i))∧True)∧True)∧True)∧h=k∧True
def Qnv(a:List UInt8)(b:List Int)(c:Nat):Nat:=LN a+LN (escB (GI b (Int.toNat (↑c:Int))) (34:Int))
theorem rquo_ok(k:Int)(n1 n2:Nat)(f1 f2:Nat→List D)(l:List Int)(hl:l.length≤1099511627776)(hc:∀c∈l,0≤c∧c≤1114111):ACalls Tryz.prog 144 [.agg [.int .i64 k,.sl 1 n1 f1 .any,isl l .any,.sl 4 n2 f2 .any]] ⟨[],[]⟩ (SpecR (sC [.agg [.int .i64 k,.sl 1 n1 f1 .any,isl l .any,.sl 4 n2 f2 .any]] (.str (quoB 34 l))) ()):=by
 refine con_of (A:=sC _ _) (x:=()) (E:=Erq l) (eOk conRc_ok rfl) Tryz.func144 rfl (by kernel_rfl) rfl (by simp[sC,Erq,EC,E0]) ?_
 refine vc_eq (T :=
  ∀(x:Nat),True→∀(t:Nat),(∃(x_1:Nat×Nat×List UInt8),QrN l x_1.1 x_1.2.2∧(Z0=(NI x_1.1)∧(N1=LN x_1.2.2∧(∀(i:Nat),i<N1→List.getD [[ZB (34:Int)]] i []=Qj5 x_1.2.2 i)∧t=x_1.2.1)∧True)∧QFc x k n1 f1 l n2 f2 t x_1.2.1)∧∀(x_1:Nat×Nat×List UInt8),QrN l x_1.1 x_1.2.2→SM x∧ifB (decide ((NI x_1.1)<(LI l))) (SM x∧side (Z0≤(NI x_1.1)∧(NI x_1.1)<(LI l)) ((Z0≤GI l (TN x_1.1)∧GI l (TN x_1.1)≤(1114111:Int))∧∀(y:Unit),True→SM x_1.2.1∧side (Qnv x_1.2.2 l x_1.1*N1≤(140737488355328:Nat)∧Qnv x_1.2.2 l x_1.1≤(9223372036854775807:Nat)) (∀(t:Nat),(SM (D.agg [ZI k,D.sl N1 n1 f1 Mode.any,SI l,D.sl N4 n2 f2 Mode.any])∧SM (D.ref N0 x N0)∧True)∧∃(y:Nat×Nat×List UInt8),QrN l y.1 y.2.2∧LN l-y.1<LN l-x_1.1∧(IntKind.wrap IntKind.i64 ((NI x_1.1)+Z1)=(NI y.1)∧(Qnv x_1.2.2 l x_1.1=LN y.2.2∧(∀(i:Nat),i<Qnv x_1.2.2 l x_1.1→appF (LN x_1.2.2) (fun (i:Nat)=>Qj5 x_1.2.2 i) (fun (i:Nat)=>[ZB (BI (escB (GI l (TN x_1.1)) (34:Int)) i)]) i=Qj5 y.2.2 i)∧t=y.2.1)∧True)∧QFc x k n1 f1 l n2 f2 t y.2.1))) (SM x_1.2.1∧side ((LN x_1.2.2+N1)*N1≤(140737488355328:Nat)∧LN x_1.2.2+N1≤(9223372036854775807:Nat)) (∀(t:Nat),True∧chk (true&&rowsB (LN x_1.2.2+N1) (appF (LN x_1.2.2) (fun (i:Nat)=>Qj5 x_1.2.2 i) fun (i:Nat)=>List.getD [[ZB (34:Int)]] i [])) (RT (bytesOf (LN x_1.2.2+N1) (appF (LN x_1.2.2) (fun (i:Nat)=>Qj5 x_1.2.2 i) fun (i:Nat)=>List.getD [[ZB (34:Int)]] i [])=quoB (34:Int) l))))) (by kernel_rfl) ?_
 delta BI GI LI LN N0 N1 N4 NI SI SM TN U0 Z0 Z1 ZB ZI QrN Qj5 QFc Qnv RT
 simp only[ifB_iff,side_iff,decide_eq_true_eq,true_and,and_true,exists_const,forall_const,Int.toNat_natCast,eq_self,implies_true]
 have hr:∀i,i<1→([[D.int .u8 34]]:List (List D)).getD i []=[D.int .u8 (([34]:List UInt8).getD i 0).toNat]:=fun i hi=>by
  have:i=0:=by omega
  subst this;rfl
 intro t
 refine⟨⟨(0,t,[34]),QHd.init _ _ _,⟨rfl,rfl,hr,rfl⟩,rfl⟩,?_⟩
 rintro ⟨i,t1,out⟩ hh
 simp only at hh ⊢
 have h1:=hh.len
 have h0:([34]:List UInt8).length=1:=rfl
 refine⟨fun hlt=>?_,fun hge=>?_⟩
 ·have hlt':i<l.length:=by omega
  have h3:=escB_len (l.getD i 0) 34
  refine⟨by omega,hc _ (memI hlt'),by omega,fun t2=>⟨(i+1,t2,_),hh.step hlt',by omega,⟨wrap_i64' (by omega) (by omega),by rw[List.length_append],?_,rfl⟩,rfl⟩⟩
  exact app_gen rfl (fun _ _=>rfl) (fun _ _=>rfl)
 ·have hge':¬i<l.length:=by simpa using hge
  have hd:=hh.done hge'
  have ha:=app_row' (l:=out) (b:=34) (z:=34) rfl (fun _ _=>rfl) rfl
  refine⟨by omega,?_⟩
  rw[chk_iff,Bool.true_and]
  refine⟨rowsB_eq (l:=out++[34]) (by simp) ha,?_⟩
  rw[bytesOf_eq (l:=out++[34]) (by simp) ha,hd];rfl
noncomputable def Ern(s:List UInt8):Senv:={ EC conNn 47 1 [2,3,14,18,46] (fun _=>([],[])) with
 mg:=fun _=>2
 ann:=fun b _ S=>match b with
  |0=>some { slots:=[3],keep:=[0],α:=Nat,st:=fun y=>([.int .i64 y],S),inv:=fun y=>y≤s.length∧(s.take y).all chrN=true∧(0<y→low (s.getD 0 0)=true),mu:=fun y=>s.length-y }
  |_=>none }
def KT(a:List UInt8):Prop:=True∧∃(_y:Unit),True∧false=nameB a∧True∧True
def Yx(a:Nat)(b:List UInt8):Prop:=a≤LN b∧List.all (List.take a b) chrN=true∧(N0<a→low (List.getD b N0 U0)=true)
def J8(a:List UInt8)(b:Nat):Int:=(BI a (Int.toNat (↑b:Int)))
def Qba(a:List UInt8)(b:Nat):Prop:=(SM (D.str a)∧True)∧∃(y:Nat),Yx y a∧LN a-y<LN a-b∧(IntKind.wrap IntKind.i64 ((↑b:Int)+Z1)=(↑y:Int)∧True)∧True∧True
def Qbb(a:Nat)(b:List UInt8):Prop:=ifB ((↑a:Int)==Z0) (KT b) (side (Z0≤(↑a:Int)∧(↑a:Int)<(LI b)) (ifB (decide (J8 b a<(48:Int))) (KT b) (side (Z0≤(↑a:Int)∧(↑a:Int)<(LI b)) (ifB (decide ((57:Int)<J8 b a)) (KT b) (Qba b a)))))
theorem rn_ok(s:List UInt8):ACalls Tryz.prog 59 [.str s] ⟨[],[]⟩ (SpecR (sC [.str s] (.bool (nameB s))) ()):=by
 refine con_of (A:=sC _ _) (x:=()) (E:=Ern s) (eOk conNn_ok rfl) Tryz.func59 rfl (by kernel_rfl) rfl (by simp[sC,Ern,EC,E0]) ?_
 refine vc_eq (T :=
  ifB (s==[]) (KT s) (ifB (decide ((32:Int)<(LI s))) (KT s) (LN s≤(8589934592:Nat)∧∀(y:Unit),True→ifB (resB s) (KT s) ((∃(x:Nat),Yx x s∧(Z0=(↑x:Int)∧True)∧True∧True)∧∀(x:Nat),Yx x s→ifB (decide ((↑x:Int)<(LI s))) (side (Z0≤(↑x:Int)∧(↑x:Int)<(LI s)) (ifB (decide (J8 s x<(97:Int))) (Qbb x s) (side (Z0≤(↑x:Int)∧(↑x:Int)<(LI s)) (ifB (decide ((122:Int)<J8 s x)) (Qbb x s) (Qba s x))))) (RT (true=nameB s)))))) (by kernel_rfl) ?_
 delta BI LI LN N0 SM U0 Z0 Z1 J8 Qba Qbb KT Yx RT
 simp only[eq_self,ne_eq,Int.toNat_natCast,ifB_iff,side_iff,decide_eq_true_eq,decide_eq_false_iff_not,true_and,and_true,beq_iff_eq,beq_eq_false_iff_ne,exists_const,forall_const]
 refine⟨fun h=>name_not fun e=>(name_facts e).1 h,fun k1=>⟨fun h=>name_not fun e=>by have:=(name_facts e).2.1;omega,fun k2=>⟨by omega,fun h=>name_not fun e=>?_,fun k3=>?_⟩⟩⟩
 ·unfold nameB at e
  rw[h] at e
  simp at e
 have hl:0<s.length:=List.length_pos_iff.2 k1
 have lo:∀b:UInt8,low b=true↔(97≤b.toNat∧b.toNat≤122):=fun b=>by
  unfold low
  simp only[Bool.and_eq_true,decide_eq_true_eq]
 refine⟨⟨0,⟨Nat.zero_le _,rfl,fun h=>absurd h (by omega)⟩,rfl⟩,fun x ⟨hx,ht,h0⟩=>⟨fun hlt=>?_,fun hge=>?_⟩⟩
 ·have hx':x<s.length:=by omega
  have w:IntKind.i64.wrap ((x:Int)+1)=((x+1:Nat):Int):=by rw[wrap_i64' (by omega) (by omega)];rfl
  have go:((97≤(s.getD x 0).toNat∧(s.getD x 0).toNat≤122)∨(48≤(s.getD x 0).toNat∧(s.getD x 0).toNat≤57))→(x=0→(97≤(s.getD x 0).toNat∧(s.getD x 0).toNat≤122))→∃y,(y≤s.length∧(List.take y s).all chrN=true∧(0<y→low (s.getD 0 0)=true))∧s.length-y<s.length-x∧IntKind.i64.wrap ((x:Int)+1)=(y:Int):=fun hc h1 =>
   ⟨x+1,⟨hx',take_chr hx' ht ((chrN_iff _).2 hc),fun _=>by
    by_cases e:x=0
    ·subst e;exact (lo _).2 (h1 rfl)
    ·exact h0 (by omega)⟩,by omega,w⟩
  have no:¬((97≤(s.getD x 0).toNat∧(s.getD x 0).toNat≤122)∨(48≤(s.getD x 0).toNat∧(s.getD x 0).toNat≤57))→false=nameB s:=fun hc=>name_not fun e=>hc ((name_facts e).2.2.2.2.2.1 x hx')
  have n0:(x:Int)=0→¬(97≤(s.getD x 0).toNat∧(s.getD x 0).toNat≤122)→false=nameB s:=fun hx0 hc=>name_not fun e=>hc (by
   have:x=0:=by omega
   rw[this];exact (name_facts e).2.2.2.2.1)
  exact⟨⟨by omega,by omega⟩,fun a1=>⟨fun a2=>n0 a2 (by omega),fun a2=>⟨⟨by omega,by omega⟩,fun a3=>no (by omega),fun a3=>⟨⟨by omega,by omega⟩,fun a4=>no (by omega),fun a4=>go (by omega) (by omega)⟩⟩⟩,
   fun a1=>⟨⟨by omega,by omega⟩,fun b=>⟨fun a2=>n0 a2 (by omega),fun a2=>⟨⟨by omega,by omega⟩,fun a3=>no (by omega),fun a3=>⟨⟨by omega,by omega⟩,fun a4=>no (by omega),fun a4=>go (by omega) (by omega)⟩⟩⟩,fun b=>go (by omega) (by omega)⟩⟩
 ·have:x=s.length:=by omega
  rw[this,List.take_length] at ht
  have hp:plainB s=true:=(plainB_iff s).2 ⟨k1,h0 (by omega),ht⟩
  unfold nameB
  rw[hp,k3,decide_eq_true (by omega)]
  rfl
noncomputable def Eshp(l m:List Int):Senv:={ EC con0 26 2 [4,5,10,14,25] (fun id=>match id with | 6=>([0,1,2,3,4,5,6,7,8],[]) | _=>([],[])) with
 ann:=fun b _ S=>match b with
  |0=>some { slots:=[5],keep:=[0,1],α:=Nat,st:=fun i=>([.int .i64 i],S),inv:=fun i=>i≤l.length∧∀j,j<i→l.getD j 0=m.getD j 0,mu:=fun i=>l.length-i }
  |_=>none }
def Xb(a b:List Int):Prop:=RT (false=decide (a=b))
def JH(a:Nat)(b c:List Int):Prop:=a≤LN b∧∀(j:Nat),j<a→GI b j=GI c j
def Qaf(a:List Int):D:=SI a
def Xc(a:List Int):Prop:=SM (Qaf a)
theorem shapes_ok(l m:List Int)(hl:l.length≤maxLen)(hm:m.length≤maxLen):ACalls Tryz.prog 62 [isl l .any,isl m .any] ⟨[],[]⟩ (SpecR (sC [isl l .any,isl m .any] (.bool (decide (l=m)))) ()):=by
 refine con_of (A:=sC _ _) (x:=()) (E:=Eshp l m) (eOk con0_ok rfl) Tryz.func62 rfl (by kernel_rfl) rfl (by simp[sC,Eshp,EC,E0]) ?_
 refine vc_eq (T :=
  ifB ((LI l) != (LI m)) (Xb l m) ((∃(x:Nat),JH x l m∧(Z0=(↑x:Int)∧True)∧True∧True)∧∀(x:Nat),JH x l m→ifB (decide ((↑x:Int)<(LI l))) (side (Z0≤(↑x:Int)∧(↑x:Int)<(LI l)) (side (Z0≤(↑x:Int)∧(↑x:Int)<(LI m)) (ifB (GI l (Int.toNat (↑x:Int)) != GI m (Int.toNat (↑x:Int))) (Xb l m) ((Xc l∧Xc m∧True)∧∃(y:Nat),JH y l m∧LN l-y<LN l-x∧(IntKind.wrap IntKind.i64 ((↑x:Int)+Z1)=(↑y:Int)∧True)∧True∧True)))) (RT (true=decide (l=m))))) (by kernel_rfl) ?_
 delta GI LI LN N1 SI SM Z0 Z1 ZI Xb JH Qaf Xc RT
 simp only[ifB_iff,side_iff,decide_eq_true_eq,decide_eq_false_iff_not,true_and,and_true,beq_iff_eq,bne_iff_ne,ne_eq,exists_const,forall_const,implies_true,Int.toNat_natCast]
 simp only[maxLen] at hl hm
 refine⟨fun h=>?_,fun h=>⟨⟨0,⟨Nat.zero_le _,fun j hj=>absurd hj (by omega)⟩,rfl⟩,fun i hi=>⟨fun hlt=>?_,fun hge=>?_⟩⟩⟩
 ·exact (decide_eq_false fun e=>by rw[e] at h;exact h rfl).symm
 ·have h:l.length=m.length:=by
   have h:(l.length:Int)=m.length:=by simpa using h
   omega
  refine⟨⟨by omega,by omega⟩,⟨by omega,by omega⟩,fun hn=>?_,fun he=>⟨i+1,⟨by omega,fun j hj=>?_⟩,by omega,wrap_i64' (by omega) (by omega)⟩⟩
  ·exact (decide_eq_false fun e=>hn (by rw[e])).symm
  ·by_cases e:j=i
   ·subst e;simpa using he
   ·exact hi.2 j (by omega)
 ·have h:l.length=m.length:=by
   have h:(l.length:Int)=m.length:=by simpa using h
   omega
  exact (decide_eq_true (eq_getD 0 h fun j hj=>hi.2 j (by omega))).symm
noncomputable def sameA(a b:Arr):Bool:=@decide (a=b) (Classical.propDecidable _)
theorem sameA_iff{a b:Arr}:sameA a b=true↔a=b:=by unfold sameA;exact @decide_eq_true_iff _ (Classical.propDecidable _)
theorem sameA_no{a b:Arr}(h:a≠b):false=sameA a b:=by
 cases hs:sameA a b with
 |false=>rfl
 |true=>exact (h (sameA_iff.1 hs)).elim
noncomputable def sSm(row:Arr→List D)(q:Arr×Arr→Prop):FnSpec where
 β:=Arr×Arr
 α:=Unit
 args:=fun x=>[.agg (row x.1),.agg (row x.2)]
 st:=fun _=>⟨[],[]⟩
 pre:=q
 post:=fun _ _=>True
 res:=fun x _=>.ret (.bool (sameA x.1 x.2))
 out:=fun _ _=>⟨[],[]⟩
noncomputable def conSm(l m:List Arr):Con:=fun k ds _=>match k with
 |42=>some (sSm Arr.row1 (fun x=>x.1∈l∧x.2∈m))
 |62=>match ds with
  | [.sl 1 n f _,.sl 1 p g _]=>some (pC ds (.bool (decide (intsD n f=intsD p g))) ((IntsP n f∧n≤maxLen)∧IntsP p g∧p≤maxLen))
  |_=>none
 |_=>none
noncomputable def Esm(a b:Arr):Senv:={ EC (conSm a.it b.it) 55 6 [35,40,54] (fun id=>match id with | 6=>([0,1,2,3,4,5,6,7,8,9,10,11],[10]) | _=>([],[])) with
 ann:=fun q _ S=>match q with
  |0=>some { slots:=[5],keep:=[2,3],α:=Nat,st:=fun i=>([.int .i64 i],S),inv:=fun i=>i≤a.it.length∧∀j,j<i→a.it.getD j default=b.it.getD j default,mu:=fun i=>a.it.length-i }
  |_=>none }
def Kz(a:Arr):Int:=Arr.k a
def Kg(a b:Arr):Prop:=RT (false=sameA a b)
def Q3(a:Arr):Nat:=LN (Arr.sh a)
def KA(a:Arr)(b:Nat):List D:=[ZI (GI (Arr.sh a) b)]
def Xd(a:Arr):Prop:=(IntsP (Q3 a) fun (i:Nat)=>KA a i)∧Q3 a≤(9223372036854775807:Nat)
def Xe(a:Arr):List Int:=intsD (Q3 a) fun (i:Nat)=>KA a i
def Q4(a:Arr):Nat:=LN (Arr.nu a)
def KB(a:Arr)(b:Nat):List D:=[ZI (GI (Arr.nu a) b)]
def Xf(a:Arr):Prop:=(IntsP (Q4 a) fun (i:Nat)=>KB a i)∧Q4 a≤(9223372036854775807:Nat)
def Xg(a:Arr):List Int:=intsD (Q4 a) fun (i:Nat)=>KB a i
def Kh(a:Arr):List Arr:=Arr.it a
def QS(a:Arr):Nat:=LN (Kh a)
def Ki(a:Arr):Int:=(NI (QS a))
def KC:Arr:=DA
def QT(a:Arr)(b:Nat):Arr:=List.getD (Kh a) b KC
def JI(a:Nat)(b c:Arr):Prop:=a≤QS b∧∀(j:Nat),j<a→QT b j=QT c j
def Qag(a:Arr)(b:Nat):List Int:=Arr.sh (QT a b)
def Qah(a:Arr)(b:Nat):List Int:=Arr.nu (QT a b)
def Xh(a:Arr)(b:Nat):List Arr:=Arr.it (QT a b)
def Qai(a:Arr)(b:Nat):List D:=[ZI (Arr.k (QT a b)),SI (Qag a b),SI (Qah a b),D.sl N4 (LN (Xh a b)) (fun (i:Nat)=>Arr.row (List.getD (Xh a b) i KC)) Mode.any]
def Xi(a:Arr):Prop:=SM (Kz a)∧(SM (Q3 a)∧(∀(i:Nat),i<Q3 a→SM (KA a i))∧True)∧(SM (Q4 a)∧(∀(i:Nat),i<Q4 a→SM (KB a i))∧True)∧(SM (QS a)∧(∀(i:Nat),i<QS a→SM (Qai a i))∧True)∧True
def Xj(a:Nat)(b:Arr)(c:Nat)(d:Arr):Prop:=(SM a∧Xi b∧SM c∧Xi d∧True)∧True
def KD(a:Arr)(b:Nat):Arr:=List.getD (Kh a) (Int.toNat (↑b:Int)) KC
def Xk(a:Arr)(b:Nat):List Int:=Arr.sh (KD a b)
def Xl(a:Arr)(b:Nat):Nat:=LN (Xk a b)
def Xm(a:Arr)(b:Nat):List Int:=Arr.nu (KD a b)
def Xn(a:Arr)(b:Nat):Nat:=LN (Xm a b)
def Xo(a:Arr)(b:Nat):List Arr:=Arr.it (KD a b)
def Xp(a:Arr)(b:Nat):Nat:=LN (Xo a b)
def Xq(a:Arr)(b:Nat)(c:Arr):Prop:=Arr.k (KD a b)=Kz c∧(Xl a b=Q3 c∧(∀(i:Nat),i<Xl a b→[ZI (GI (Xk a b) i)]=KA c i)∧True)∧(Xn a b=Q4 c∧(∀(i:Nat),i<Xn a b→[ZI (GI (Xm a b) i)]=KB c i)∧True)∧(Xp a b=QS c∧(∀(i:Nat),i<Xp a b→Arr.row (List.getD (Xo a b) i KC)=Arr.row (QT c i))∧True)∧True
theorem same_step(a b : Arr)(ha : a.sh.length≤maxLen ∧ a.nu.length≤maxLen ∧ a.it.length≤maxLen)(hb : b.sh.length≤maxLen ∧ b.nu.length≤maxLen ∧ b.it.length≤maxLen)(hc : ConOk Tryz.prog (conSm a.it b.it)) :
  ACalls Tryz.prog 42 ((sSm Arr.row2 (fun _=>True)).args (a,b)) ⟨[],[]⟩ (SpecR (sSm Arr.row2 (fun _=>True)) (a,b)):=by
 refine con_of (A:=sSm Arr.row2 (fun _=>True)) (x:=(a,b)) (E:=Esm a b) (eOk hc rfl) Tryz.func42 rfl (by kernel_rfl) rfl (by simp[sSm,Esm,EC,E0]) ?_
 refine vc_eq (T :=
  ∀(x:Nat),True→∀(x_1:Nat),x≠x_1∧True→SM x∧SM x_1∧ifB (Kz a != Kz b) (Kg a b) (SM x∧SM x_1∧(Xd a∧Xd b)∧∀(y:Unit),True→ifB (!decide (Xe a=Xe b)) (Kg a b) (SM x∧SM x_1∧(Xf a∧Xf b)∧∀(y:Unit),True→ifB (!decide (Xg a=Xg b)) (Kg a b) (SM x∧SM x_1∧ifB (Ki a != Ki b) (Kg a b) ((∃(x_2:Nat),JI x_2 a b∧(Z0=(↑x_2:Int)∧True)∧Xj x_1 b x a)∧∀(x_2:Nat),JI x_2 a b→SM x∧ifB (decide ((↑x_2:Int)<Ki a)) (SM x∧side (Z0≤(↑x_2:Int)∧(↑x_2:Int)<Ki a) (SM x_1∧side (Z0≤(↑x_2:Int)∧(↑x_2:Int)<Ki b) (∃(x_3:Arr×Arr),(Xq a x_2 x_3.1∧Xq b x_2 x_3.2∧True)∧(True∧True)∧(x_3.1∈Kh a∧x_3.2∈Kh b)∧∀(y:Unit),True→ifB (!sameA x_3.1 x_3.2) (Kg a b) ((SM (D.ref N0 x N0)∧SM (D.ref (max (N0+N1) N0) x_1 N0)∧True)∧∃(y:Nat),JI y a b∧QS a-y<QS a-x_2∧(IntKind.wrap IntKind.i64 ((↑x_2:Int)+Z1)=(↑y:Int)∧True)∧Xj x_1 b x a)))) (RT (true=sameA a b))))))) (by kernel_rfl) ?_
 delta DA GI LN N0 N1 N4 NI SI SM Z0 Z1 ZI Q4 KB Xf Xg Kh QS Ki KC QT JI Qag Qah Xh Qai Xi Xj KD Xk Xl Xm Xn Xo Xp Xq Kz Kg Q3 KA Xd Xe RT
 have da:(default:Arr)=Arr.mk 0 [] [] []:=rfl
 simp only[← da,ifB_iff,side_iff,decide_eq_true_eq,decide_eq_false_iff_not,true_and,and_true,beq_iff_eq,bne_iff_ne,Bool.cond_false_right,Bool.cond_true_left,Bool.and_eq_true,Bool.and_eq_false_iff,Bool.or_eq_true,Bool.or_eq_false_iff,beq_eq_false_iff_ne,ne_eq,exists_const,forall_const,implies_true,Int.toNat_natCast,Prod.exists,intsD_isl]
 simp only[maxLen] at ha hb
 obtain ⟨a1,a2,a3⟩:=ha
 obtain ⟨b1,b2,b3⟩:=hb
 refine fun x x1 _=>⟨fun h=>sameA_no fun e=>h (by rw[e]),fun hk=>⟨⟨⟨intsP_isl _,a1⟩,intsP_isl _,b1⟩,fun h=>sameA_no fun e=>?_,fun hs=>⟨⟨⟨intsP_isl _,a2⟩,intsP_isl _,b2⟩,fun h=>sameA_no fun e=>?_,fun hn=>⟨fun h=>sameA_no fun e=>h (by rw[e]),fun hl=>⟨⟨0,⟨Nat.zero_le _,fun j hj=>absurd hj (by omega)⟩,rfl⟩,fun i hi=>⟨fun hlt=>?_,fun hge=>?_⟩⟩⟩⟩⟩⟩
 ·rw[e] at h;simp at h
 ·rw[e] at h;simp at h
 ·have hl:a.it.length=b.it.length:=by
   have hl:(a.it.length:Int)=b.it.length:=by simpa using hl
   omega
  have h1:i<a.it.length:=by omega
  have h2:i<b.it.length:=by omega
  refine⟨⟨by omega,by omega⟩,⟨by omega,by omega⟩,a.it.getD i default,b.it.getD i default,⟨⟨rfl,⟨rfl,fun _ _=>rfl⟩,⟨rfl,fun _ _=>rfl⟩,rfl,fun _ _=>rfl⟩,rfl,⟨rfl,fun _ _=>rfl⟩,⟨rfl,fun _ _=>rfl⟩,rfl,fun _ _=>rfl⟩,⟨mem_getD h1,mem_getD h2⟩,fun h=>sameA_no fun e=>?_,fun h=>⟨i+1,⟨by omega,fun j hj=>?_⟩,by omega,wrap_i64' (by omega) (by omega)⟩⟩
  ·rw[e,sameA_iff.2 rfl] at h;cases h
  ·by_cases e:j=i
   ·subst e
    exact sameA_iff.1 (by simpa using h)
   ·exact hi.2 j (by omega)
 ·have hl:a.it.length=b.it.length:=by
   have hl:(a.it.length:Int)=b.it.length:=by simpa using hl
   omega
  exact (sameA_iff.2 (arr_ext (by simpa using hk) (by simpa using hs) (by simpa using hn) (eq_getD default hl fun j hj=>hi.2 j (by omega)))).symm
theorem sSm_row{k:Nat}{q q':Arr×Arr→Prop}{x:Arr×Arr}(h:ACalls Tryz.prog k ((sSm Arr.row2 q).args x) ⟨[],[]⟩ (SpecR (sSm Arr.row2 q) x)):ACalls Tryz.prog k ((sSm Arr.row1 q').args x) ⟨[],[]⟩ (SpecR (sSm Arr.row1 q') x) :=
 (h.wkArgs (by simp only[sSm,wkL,wkD];exact⟨row1_wk _,row1_wk _,trivial⟩)).mono fun _ _ ⟨y,q1,q2,q3⟩=>⟨y,q1,q2,q3⟩
theorem same_all:∀(a b:Arr),a.ok→b.ok→ACalls Tryz.prog 42 ((sSm Arr.row2 (fun _=>True)).args (a,b)) ⟨[],[]⟩ (SpecR (sSm Arr.row2 (fun _=>True)) (a,b))
 |.mk k s n is,.mk k' s' n' is',ha,hb=>by
  simp only[Arr.ok] at ha hb
  obtain ⟨_,_,_,a1,a2,a3,a4⟩:=ha
  obtain ⟨_,_,_,b1,b2,b3,b4⟩:=hb
  refine same_step _ _ ⟨a1,a2,a3⟩ ⟨b1,b2,b3⟩ ?_
  intro f ds S A h
  unfold conSm at h
  split at h
  ·injection h with h;subst h
   refine ConOk.plain (fun (x:Arr×Arr) hx=>?_) rfl rfl
   obtain ⟨x,y⟩:=x
   have hx1:x∈is:=hx.1
   have hx2:y∈is':=hx.2
   exact sSm_row (same_all x y ((okL_iff _).1 a4 x hx1) ((okL_iff _).1 b4 y hx2))
  ·split at h
   ·injection h with h;subst h
    exact pC_ok fun ⟨⟨h1,h2⟩,h3,h4⟩=>⟨weakL_refl _,sC_weak (us:=[isl (intsD _ _) .any,isl (intsD _ _) .any]) ⟨(isl_weak h1).1,(isl_weak h3).1,trivial⟩ (shapes_ok _ _ (by rw[intsD_len];exact h2) (by rw[intsD_len];exact h4))⟩
   ·cases h
  ·cases h
termination_by a=>SizeOf.sizeOf a
decreasing_by
 have:=List.sizeOf_lt_of_mem hx1
 simp;omega
noncomputable def Ercl(n:Nd)(m:List Int):Senv:={ EC con0 29 3 [4,5,11,15,28] (fun id=>match id with | 6=>([0,1,2,3,4,5,6,7,8,9,10],[]) | _=>([],[])) with
 ann:=fun q _ S=>match q with
  |0=>some { slots:=[5],keep:=[0,1,2],α:=Nat,st:=fun i=>([.int .i64 i],S),inv:=fun i=>i≤m.length∧∀j,j<i→(n.ki.getD j default).cl=m.getD j 0,mu:=fun i=>m.length-i }
  |_=>none }
def Yy(a:Nd):List Nd:=Nd.ki a
def Jp(a:Nd):Nat:=LN (Yy a)
def Qbc(a:Nd)(b:List Int):Prop:=RT (false=classesB a b)
def Jq:Arr:=DA
def Ks:Nd:=Nd.mk Z0 Z0 Z0 [] Z0 Z0 Jq [] [] Z0 Z0 Z0
def Qx(a:Nd)(b:Nat):Nd:=List.getD (Yy a) b Ks
def Qbd(a:Nd)(b:Nat):Int:=Nd.cl (Qx a b)
def Yz(a:Nat)(b:List Int)(c:Nd):Prop:=a≤LN b∧∀(j:Nat),j<a→Qbd c j=GI b j
def Qbe(a:Nd):Int:=Nd.kd a
def Qbf(a:Nd):Int:=Nd.at_ a
def Qbg(a:Nd):Int:=Nd.cl a
def Qbh(a:Nd):List UInt8:=Nd.tx a
def Qbi(a:Nd):Int:=Nd.pr a
def Qbj(a:Nd):Int:=Nd.op a
def J9(a:Nd):Arr:=Nd.va a
def Qbk(a:Nd):Int:=Arr.k (J9 a)
def Qbl(a:Nd):List Int:=Arr.sh (J9 a)
def YA(a:Nd):Nat:=LN (Qbl a)
def Qbm(a:Nd)(b:Nat):List D:=[ZI (GI (Qbl a) b)]
def Qbn(a:Nd):List Int:=Arr.nu (J9 a)
def YB(a:Nd):Nat:=LN (Qbn a)
def Qbo(a:Nd)(b:Nat):List D:=[ZI (GI (Qbn a) b)]
def Qbp(a:Nd):List Arr:=Arr.it (J9 a)
def YC(a:Nd):Nat:=LN (Qbp a)
def Qbq(a:Nd)(b:Nat):List D:=Arr.row (List.getD (Qbp a) b Jq)
def Va(a:Nd)(b:Nat):Arr:=Nd.va (Qx a b)
def Qhk(a:Nd)(b:Nat):List Int:=Arr.sh (Va a b)
def Qhl(a:Nd)(b:Nat):List Int:=Arr.nu (Va a b)
def Qbr(a:Nd)(b:Nat):List Arr:=Arr.it (Va a b)
def Qbs(a:Nd)(b:Nat):List Nd:=Nd.ki (Qx a b)
def Qbt(a:Nd)(b:Nat):List Sm:=Nd.bo (Qx a b)
def Vb:Sm:=Sm.mk Z0 Z0 [] Z0 Ks Ks
def Qbu(a:Nd)(b:Nat):List D:=[ZI (Nd.kd (Qx a b)),ZI (Nd.at_ (Qx a b)),ZI (Qbd a b),D.str (Nd.tx (Qx a b)),ZI (Nd.pr (Qx a b)),ZI (Nd.op (Qx a b)),ZI (Arr.k (Va a b)),SI (Qhk a b),SI (Qhl a b),D.sl N4 (LN (Qbr a b)) (fun (i:Nat)=>Arr.row (List.getD (Qbr a b) i Jq)) Mode.any,D.sl (15:Nat) (LN (Qbs a b)) (fun (i:Nat)=>Nd.row (List.getD (Qbs a b) i Ks)) Mode.any,D.sl (34:Nat) (LN (Qbt a b)) (fun (i:Nat)=>Sm.row (List.getD (Qbt a b) i Vb)) Mode.any,ZI (Nd.de (Qx a b)),ZI (Nd.sl (Qx a b)),ZI (Nd.ss (Qx a b))]
def YD(a:Nd):Nat:=LN (Nd.bo a)
def KU(a:Nd)(b:Nat):Sm:=List.getD (Nd.bo a) b Vb
def Qy(a:Nd)(b:Nat):Nd:=Sm.te (KU a b)
def Vc(a:Nd)(b:Nat):Arr:=Nd.va (Qy a b)
def Qhm(a:Nd)(b:Nat):List Int:=Arr.sh (Vc a b)
def Qhn(a:Nd)(b:Nat):List Int:=Arr.nu (Vc a b)
def Qbv(a:Nd)(b:Nat):List Arr:=Arr.it (Vc a b)
def Qbw(a:Nd)(b:Nat):List Nd:=Nd.ki (Qy a b)
def Qbx(a:Nd)(b:Nat):List Sm:=Nd.bo (Qy a b)
def Qz(a:Nd)(b:Nat):Nd:=Sm.nd (KU a b)
def Vd(a:Nd)(b:Nat):Arr:=Nd.va (Qz a b)
def Qho(a:Nd)(b:Nat):List Int:=Arr.sh (Vd a b)
def Qhp(a:Nd)(b:Nat):List Int:=Arr.nu (Vd a b)
def Qby(a:Nd)(b:Nat):List Arr:=Arr.it (Vd a b)
def Qbz(a:Nd)(b:Nat):List Nd:=Nd.ki (Qz a b)
def QbA(a:Nd)(b:Nat):List Sm:=Nd.bo (Qz a b)
def QbB(a:Nd)(b:Nat):List D:=[ZI (Sm.kd (KU a b)),ZI (Sm.at_ (KU a b)),D.str (Sm.nm (KU a b)),ZI (Sm.sl (KU a b)),ZI (Nd.kd (Qy a b)),ZI (Nd.at_ (Qy a b)),ZI (Nd.cl (Qy a b)),D.str (Nd.tx (Qy a b)),ZI (Nd.pr (Qy a b)),ZI (Nd.op (Qy a b)),ZI (Arr.k (Vc a b)),SI (Qhm a b),SI (Qhn a b),D.sl N4 (LN (Qbv a b)) (fun (i:Nat)=>Arr.row (List.getD (Qbv a b) i Jq)) Mode.any,D.sl (15:Nat) (LN (Qbw a b)) (fun (i:Nat)=>Nd.row (List.getD (Qbw a b) i Ks)) Mode.any,D.sl (34:Nat) (LN (Qbx a b)) (fun (i:Nat)=>Sm.row (List.getD (Qbx a b) i Vb)) Mode.any,ZI (Nd.de (Qy a b)),ZI (Nd.sl (Qy a b)),ZI (Nd.ss (Qy a b)),ZI (Nd.kd (Qz a b)),ZI (Nd.at_ (Qz a b)),ZI (Nd.cl (Qz a b)),D.str (Nd.tx (Qz a b)),ZI (Nd.pr (Qz a b)),ZI (Nd.op (Qz a b)),ZI (Arr.k (Vd a b)),SI (Qho a b),SI (Qhp a b),D.sl N4 (LN (Qby a b)) (fun (i:Nat)=>Arr.row (List.getD (Qby a b) i Jq)) Mode.any,D.sl (15:Nat) (LN (Qbz a b)) (fun (i:Nat)=>Nd.row (List.getD (Qbz a b) i Ks)) Mode.any,D.sl (34:Nat) (LN (QbA a b)) (fun (i:Nat)=>Sm.row (List.getD (QbA a b) i Vb)) Mode.any,ZI (Nd.de (Qz a b)),ZI (Nd.sl (Qz a b)),ZI (Nd.ss (Qz a b))]
def QbC(a:Nd):Int:=Nd.de a
def QbD(a:Nd):Int:=Nd.sl a
def QbE(a:Nd):Int:=Nd.ss a
def QbF(a:Nat)(b:Nd):Prop:=(SM a∧(SM (Qbe b)∧SM (Qbf b)∧SM (Qbg b)∧SM (Qbh b)∧SM (Qbi b)∧SM (Qbj b)∧SM (Qbk b)∧(SM (YA b)∧(∀(i:Nat),i<YA b→SM (Qbm b i))∧True)∧(SM (YB b)∧(∀(i:Nat),i<YB b→SM (Qbo b i))∧True)∧(SM (YC b)∧(∀(i:Nat),i<YC b→SM (Qbq b i))∧True)∧(SM (Jp b)∧(∀(i:Nat),i<Jp b→SM (Qbu b i))∧True)∧(SM (YD b)∧(∀(i:Nat),i<YD b→SM (QbB b i))∧True)∧SM (QbC b)∧SM (QbD b)∧SM (QbE b)∧True)∧True)∧True
def Qhq(a:Nd):D:=D.agg [ZI (Qbe a),ZI (Qbf a),ZI (Qbg a),D.str (Qbh a),ZI (Qbi a),ZI (Qbj a),ZI (Qbk a),D.sl N1 (YA a) (fun (i:Nat)=>Qbm a i) Mode.any,D.sl N1 (YB a) (fun (i:Nat)=>Qbo a i) Mode.any,D.sl N4 (YC a) (fun (i:Nat)=>Qbq a i) Mode.any,D.sl (15:Nat) (Jp a) (fun (i:Nat)=>Qbu a i) Mode.any,D.sl (34:Nat) (YD a) (fun (i:Nat)=>QbB a i) Mode.any,ZI (QbC a),ZI (QbD a),ZI (QbE a)]
def Qhr(a:List Int):D:=SI a
theorem rcl_ok(n:Nd)(m:List Int)(hl:n.ki.length≤maxLen)(hm:m.length≤maxLen):CD 88 [.agg n.row2,isl m .any] (.bool (classesB n m)):=by
 refine con_of (A:=sC _ _) (x:=()) (E:=Ercl n m) (eOk con0_ok rfl) Tryz.func88 rfl (by kernel_rfl) rfl (by simp[sC,Ercl,EC,E0]) ?_
 refine vc_eq (T :=
  ∀(x:Nat),True→SM x∧ifB ((NI (Jp n)) != (LI m)) (Qbc n m) ((∃(x_1:Nat),Yz x_1 m n∧(Z0=(↑x_1:Int)∧True)∧QbF x n)∧∀(x_1:Nat),Yz x_1 m n→ifB (decide ((↑x_1:Int)<(LI m))) (SM x∧side (Z0≤(↑x_1:Int)∧(↑x_1:Int)<(NI (Jp n))) (side (Z0≤(↑x_1:Int)∧(↑x_1:Int)<(LI m)) (ifB (Nd.cl (List.getD (Yy n) (Int.toNat (↑x_1:Int)) Ks) != GI m (Int.toNat (↑x_1:Int))) (Qbc n m) ((SM (Qhq n)∧SM (Qhr m)∧SM (D.ref N0 x N0)∧True)∧∃(y:Nat),Yz y m n∧LN m-y<LN m-x_1∧(IntKind.wrap IntKind.i64 ((↑x_1:Int)+Z1)=(↑y:Int)∧True)∧QbF x n)))) (RT (true=classesB n m)))) (by kernel_rfl) ?_
 delta DA GI LI LN N0 N1 N4 NI SI SM Z0 Z1 ZI Yy Jp Qbc Jq Ks Qx Qbd Yz Qbe Qbf Qbg Qbh Qbi Qbj J9 Qbk Qbl YA Qbm Qbn YB Qbo Qbp YC Qbq Va Qhk Qhl Qbr Qbs Qbt Vb Qbu YD KU Qy Vc Qhm Qhn Qbv Qbw Qbx Qz Vd Qho Qhp Qby Qbz QbA QbB QbC QbD QbE QbF Qhq Qhr RT
 simp only[eq_self,ne_eq,implies_true,weakL_refl,Int.toNat_natCast,ifB_iff,side_iff,decide_eq_true_eq,decide_eq_false_iff_not,true_and,and_true,beq_iff_eq,bne_iff_ne,bne_eq_false_iff_eq,beq_eq_false_iff_ne,Bool.not_eq_true',Bool.not_eq_false',exists_const,forall_const]
 simp only[← dn]
 simp only[maxLen] at hl hm
 refine⟨fun h=>cls_no fun ⟨e,_⟩=>h (by omega),fun he=>⟨⟨0,⟨Nat.zero_le _,fun j hj=>by omega⟩,rfl⟩,fun x ⟨x1,hx⟩=>⟨fun hlt=>⟨⟨by omega,by omega⟩,⟨by omega,by omega⟩,fun h=>cls_no fun ⟨_,e⟩=>h (e x (by omega)),fun h=>⟨x+1,⟨by omega,fun j hj=>by
   by_cases e:j=x
   ·rw[e];exact h
   ·exact hx j (by omega)⟩,by omega,wrap_i64' (by omega) (by omega)⟩⟩,fun hge=>(cls_iff.2 ⟨by omega,fun j hj=>hx j (by omega)⟩).symm⟩⟩⟩
theorem valid_cl{n:Nd}(h:nodeV n=true):1≤n.cl∧n.cl≤4:=by
 rw[nodeV_eq,Bool.and_eq_true] at h
 have h:=h.2
 by_cases hk:n.kd=10
 ·rw[if_pos hk,Bool.and_eq_true] at h
  have h:=h.1
  unfold lamC at h
  rw[Bool.and_eq_true] at h
  have h:=h.2
  by_cases c2:n.cl=2
  ·omega
  ·rw[if_neg c2] at h
   by_cases c3:n.cl=3
   ·omega
   ·rw[if_neg c3] at h
    by_cases c4:n.cl=4
    ·omega
    ·rw[if_neg c4] at h;cases h
 ·rw[if_neg hk,Bool.or_eq_true,Bool.and_eq_true] at h
  rcases h with h | ⟨h,_⟩
  ·unfold leafB at h
   rw[Bool.and_eq_true] at h
   have h:=h.2
   repeat' (split at h)
   all_goals (try simp only[Bool.and_eq_true,beq_iff_eq,decide_eq_true_eq] at h)
   all_goals first
    |(have:=h.1.1;omega)
    |(have:=h.1;omega)
    |omega
    |cases h
  ·unfold compB at h
   repeat' (split at h)
   all_goals (try simp only[Bool.and_eq_true,beq_iff_eq,decide_eq_true_eq] at h)
   all_goals first
    |(have:=h.1.1.1;omega)
    |(have:=h.1;omega)
    |omega
    |cases h
def rStm(names : List (List UInt8))(s : Sm) : Bool := decide (0 ≤ s.at_) && nodeV s.nd &&
    (if s.kd = 1 then s.nd.cl == 1 && s.nm.isEmpty && s.sl == 0 && emptyB s.te
     else if s.kd = 2 then !(names.contains s.nm) && nameB s.nm && decide (0 ≤ s.sl) && emptyB s.te && !(decide (3 ≤ s.nd.cl) && s.nd.kd != 10)
     else if s.kd = 3 then s.nd.cl == 1 && nodeV s.te && s.te.cl == 1 && s.nm.isEmpty && s.sl == 0
     else false)
theorem rStm_eq(names:List (List UInt8))(s:Sm):rStm names s=stmtV true names s:=by
 rw[stmtV_eq]
 unfold rStm
 cases hv:nodeV s.nd with
 |false=>simp
 |true =>
  have hc:=valid_cl hv
  have hb:(s.nd.cl==1||s.nd.cl==2||s.nd.kd==10)=!(decide (3≤s.nd.cl)&&s.nd.kd != 10):=by
   rw[Bool.eq_iff_iff]
   simp only[Bool.or_eq_true,beq_iff_eq,Bool.not_eq_true',Bool.and_eq_false_iff,decide_eq_false_iff_not,bne_eq_false_iff_eq]
   omega
  rw[hb]
  by_cases h1:s.kd=1
  ·simp only[h1,if_true]
  ·by_cases h2:s.kd=2
   ·simp[h2]
    congr 1
    ac_rfl
   ·by_cases h3:s.kd=3
    ·simp[h3]
     congr 1
     ac_rfl
    ·simp only[h1,h2,h3,if_false]
def rOut(l:List Sm):Bool:=(l.all fun s=>s.kd != 3)&&(!mentB l 12&&(!mentB l 13&&(!mentB l 6&&(!mentB l 7&&!mentB l 11))))
noncomputable def Erfl:Senv:=EC conAr 20 3 [4,5,9,13] (fun _=>([],[]))
def Qig:D:=D.sl N1 N0 (fun (_x:Nat)=>[]) Mode.nil
def QFd:D:=D.sl N1 N1 (fun (i:Nat)=>List.getD [[ZI Z0]] i []) Mode.full
def QrO:List D:=[Qig]
def Qnw(a:Int):D:=fillD a
def QFe:List D:=Qig::QrO
theorem rfill_ok(k : Int)(ns nn ni : Nat)(f g h : Nat → List D) :
  ACalls Tryz.prog 147 [.agg [.int .i64 k,.sl 1 ns f .any,.sl 1 nn g .any,.sl 4 ni h .any]] ⟨[],[]⟩ (SpecR (sC [.agg [.int .i64 k,.sl 1 ns f .any,.sl 1 nn g .any,.sl 4 ni h .any]] (fillD k)) ()):=by
 refine con_of (A:=sC _ _) (x:=()) (E:=Erfl) (eOk conAr_ok rfl) Tryz.func147 rfl (by kernel_rfl) rfl (by simp[sC,Erfl,EC,E0]) ?_
 refine vc_eq (T :=
  ∀(x:Nat),True→∀(x_1:Nat),x≠x_1∧True→SM x∧ifB (k==Z1) (SM x_1∧(SM x_1∧True)∧∃(y:Unit),True∧weakD (D.agg (ZI Z1::Qig::QFd::QrO)) (Qnw k)∧True∧True) (ifB (k==(2:Int)) (SM x_1∧(SM x_1∧True)∧∃(y:Unit),True∧weakD (D.agg (ZI (2:Int)::Qig::D.sl N1 N1 (fun (i:Nat)=>List.getD [[ZI (32:Int)]] i []) Mode.full::QrO)) (Qnw k)∧True∧True) (ifB (k==(3:Int)) (SM x_1∧(SM x_1∧True)∧∃(y:Unit),True∧weakD (D.agg [ZI (3:Int),Qig,Qig,D.sl N4 N1 (fun (i:Nat)=>List.getD [ZI Z1::QFd::QFe] i []) Mode.full]) (Qnw k)∧True∧True) (SM x_1∧(SM x_1∧True)∧∃(y:Unit),True∧weakD (D.agg (ZI Z0::Qig::QFe)) (Qnw k)∧True∧True)))) (by kernel_rfl) ?_
 delta N0 N1 N4 SM Z0 Z1 ZI Qig QFd QrO Qnw QFe
 simp only[ifB_iff,true_and,and_true,beq_iff_eq,beq_eq_false_iff_ne,ne_eq,exists_const,forall_const]
 intro _ _ _
 refine⟨fun h=>?_,fun h1=>⟨fun h=>?_,fun h2=>⟨fun h=>?_,fun h3=>?_⟩⟩⟩
 ·subst h;exact weakD_refl _
 ·subst h;exact weakD_refl _
 ·subst h;exact weakD_refl _
 ·simp only[fillD,if_neg h1,if_neg h2,if_neg h3];exact weakD_refl _
theorem rfill_arr(a:Arr):ACalls Tryz.prog 147 [.agg a.row1] ⟨[],[]⟩ (SpecR (sC [.agg a.row1] (.agg (fillA a.k).row1)) ()):=wkRet (rfill_ok a.k _ _ _ _ _ _) (fill_wk a.k)
noncomputable def Erd(l:List Int):Senv:={ EC conJn 26 1 [2,3,4,9,13] (fun _=>([],[])) with
 gh:=fun b=>match b with
  |0=>[.slot 3]
  |_=>[]
 ann:=fun b _ S=>match b with
  |0=>some { slots:=[4,3],keep:=[0,1],α:=Nat×Nat×List UInt8,st:=fun y=>([.int .i64 y.1,bsl y.2.2 (.tok 0 y.2.1)],⟨S.objs,[(0,y.2.1)]⟩),inv:=fun y=>JHd [32] (l.map showI) y.1 y.2.2,mu:=fun y=>l.length-y.1 }
  |_=>none }
def Qnx(a:List Int)(b:Nat)(c:List UInt8):Prop:=JHd [(32:UInt8)] (List.map showI a) b c
def Qih(a:List UInt8)(b:Nat):List D:=[ZB (BI a b)]
def Qny(a:List UInt8)(b:List Int)(c:Nat):Nat:=LN a+N1+LN (showI (GI b (Int.toNat (↑c:Int))))
def QL3(a:List Int):D:=SI a
def QFf(a:List Int):Prop:=SM (QL3 a)∧SM D.unk∧True
def QFg(a:List Int)(b c:Nat):List D:=[ZB (BI (showI (GI a (Int.toNat (↑b:Int)))) c)]
def Qnz(a:List UInt8)(b:List Int)(c:Nat):Nat:=LN a+LN (showI (GI b (Int.toNat (↑c:Int))))
theorem rdims_ok(l:List Int)(hl:l.length≤1099511627776)(hc:∀z∈l,inI64 z):ACalls Tryz.prog 146 [isl l .any] ⟨[],[]⟩ (SpecR (sC [isl l .any] (.str (dimsB l))) ()):=by
 refine con_of (A:=sC _ _) (x:=()) (E:=Erd l) (eOk conJn_ok rfl) Tryz.func146 rfl (by kernel_rfl) rfl (by simp[sC,Erd,EC,E0]) ?_
 refine vc_eq (T :=
  ∀(t:Nat),(∃(x:Nat×Nat×List UInt8),Qnx l x.1 x.2.2∧(Z0=(NI x.1)∧(N0=LN x.2.2∧(∀(i:Nat),i<N0→[D.str []]=Qih x.2.2 i)∧t=x.2.1)∧True)∧True∧t=x.2.1∧True)∧∀(x:Nat×Nat×List UInt8),Qnx l x.1 x.2.2→ifB (decide ((NI x.1)<(LI l))) (ifB (decide (Z0<(NI x.1))) (SM x.2.1∧side ((LN x.2.2+N1)*N1≤(140737488355328:Nat)∧LN x.2.2+N1≤(9223372036854775807:Nat)) (∀(t:Nat),side (Z0≤(NI x.1)∧(NI x.1)<(LI l)) (inI64 (GI l (TN x.1))∧∀(y:Unit),True→SM t∧side (Qny x.2.2 l x.1*N1≤(140737488355328:Nat)∧Qny x.2.2 l x.1≤(9223372036854775807:Nat)) (∀(t:Nat),QFf l∧∃(y:Nat×Nat×List UInt8),Qnx l y.1 y.2.2∧LN l-y.1<LN l-x.1∧(IntKind.wrap IntKind.i64 ((NI x.1)+Z1)=(NI y.1)∧(Qny x.2.2 l x.1=LN y.2.2∧(∀(i:Nat),i<Qny x.2.2 l x.1→appF (LN x.2.2+N1) (appF (LN x.2.2) (fun (i:Nat)=>Qih x.2.2 i) fun (i:Nat)=>List.getD [[ZB (32:Int)]] i []) (fun (i:Nat)=>QFg l x.1 i) i=Qih y.2.2 i)∧t=y.2.1)∧True)∧True∧t=y.2.1∧True)))) (side (Z0≤(NI x.1)∧(NI x.1)<(LI l)) (inI64 (GI l (TN x.1))∧∀(y:Unit),True→SM x.2.1∧side (Qnz x.2.2 l x.1*N1≤(140737488355328:Nat)∧Qnz x.2.2 l x.1≤(9223372036854775807:Nat)) (∀(t:Nat),QFf l∧∃(y:Nat×Nat×List UInt8),Qnx l y.1 y.2.2∧LN l-y.1<LN l-x.1∧(IntKind.wrap IntKind.i64 ((NI x.1)+Z1)=(NI y.1)∧(Qnz x.2.2 l x.1=LN y.2.2∧(∀(i:Nat),i<Qnz x.2.2 l x.1→appF (LN x.2.2) (fun (i:Nat)=>Qih x.2.2 i) (fun (i:Nat)=>QFg l x.1 i) i=Qih y.2.2 i)∧t=y.2.1)∧True)∧True∧t=y.2.1∧True)))) (True∧chk (true&&rowsB (LN x.2.2) fun (i:Nat)=>Qih x.2.2 i) (RT ((bytesOf (LN x.2.2) fun (i:Nat)=>Qih x.2.2 i)=dimsB l)))) (by kernel_rfl) ?_
 delta BI GI LI LN N0 N1 NI SI SM TN U0 Z0 Z1 ZB ZI Qnx Qih Qny QL3 QFf QFg Qnz RT
 simp only[ifB_iff,side_iff,decide_eq_true_eq,true_and,and_true,exists_const,forall_const,Int.toNat_natCast,eq_self]
 intro t
 refine⟨⟨(0,t,[]),JHd.init _ _,⟨rfl,rfl,fun i hi=>absurd hi (by omega),rfl⟩,rfl⟩,?_⟩
 rintro ⟨i,t1,out⟩ hh
 simp only at hh ⊢
 have h1:=hh.len
 have hd:=dimsB_len hc
 have hdd:Lib.join (l.map showI) [32]=dimsB l:=rfl
 rw[hdd] at h1
 refine⟨fun hlt=>?_,fun hge=>?_⟩
 ·have hlt':i<l.length:=by omega
  have hz:=hc _ (memI hlt')
  have hs:=showI_len hz
  refine⟨fun h0=>⟨⟨by omega,by omega⟩,⟨by omega,by omega⟩,hz,⟨by omega,by omega⟩,fun t2=>⟨(i+1,t2,out++[32]++showI (l.getD i 0)),?_,by simp only;omega,⟨wrap_i64' (by omega) (by omega),by simp only[List.length_append,List.length_cons,List.length_nil],?_,rfl⟩,rfl⟩⟩,fun h0=>⟨⟨by omega,by omega⟩,hz,⟨by omega,by omega⟩,fun t2=>⟨(i+1,t2,out++showI (l.getD i 0)),?_,by simp only;omega,⟨wrap_i64' (by omega) (by omega),by simp only[List.length_append],?_,rfl⟩,rfl⟩⟩⟩
  ·have:=hh.step (by omega) (by simpa using hlt')
   rw[mapS hlt'] at this
   exact this
  ·exact app_gen (l:=out++[32]) (by simp) (app_row' (b:=32) rfl (fun _ _=>rfl) rfl) (fun _ _=>rfl)
  ·have e:i=0:=by simpa using h0
   subst e
   have:=hh.step0 (by simpa using hlt')
   rw[mapS hlt'] at this
   exact this
  ·exact app_gen rfl (fun _ _=>rfl) (fun _ _=>rfl)
 ·have hge':¬i<l.length:=by simpa using hge
  have hd:=hh.done (by simpa using hge')
  rw[chk_iff,Bool.true_and]
  refine⟨rowsB_bsl _,?_⟩
  rw[bytesOf_bsl,hd];rfl
open Go Go.Ab Go.RowKit
def TSl:List Nat:=List.range 181
theorem tysOk:∀t∈TSl,okTy Tryz.prog TSl t=true:=List.all_eq_true.1 (show TSl.all (okTy Tryz.prog TSl)=true by kernel_rfl)
theorem some_with{α:Type}{o:Option α}{p:α→Bool}(h:(match o with | some x=>p x | none=>false)=true):∃x,o=some x∧p x=true:=by
 cases o with
 |none=>cases h
 |some x=>exact⟨x,rfl,h⟩
def conRe(q:Arr→Prop):Con:=fun k ds S=>match k with
 |122=>some (sRc Arr.row1 q (fun b=>.str (litA b)))
 |146=>match ds with
  | [.sl 1 n f m]=>some (pC [.sl 1 n f m] (.str (dimsB (intsD n f))) (IntsP n f∧n≤1099511627776∧∀z∈intsD n f,inI64 z))
  |_=>none
 |k=>conJn k ds S
def RLit(a:Arr):Prop:=ACalls Tryz.prog 122 ((sRc Arr.row2 (fun _=>True) (fun b=>.str (litA b))).args a) ⟨[],[]⟩ (SpecR (sRc Arr.row2 (fun _=>True) (fun b=>.str (litA b))) a)
theorem conRe_ok{q:Arr→Prop}(hq:∀b,q b→RLit b):ConOk Tryz.prog (conRe q):=by
 intro k ds S A h
 unfold conRe at h
 split at h
 ·injection h with h;subst h
  exact ConOk.plain (fun b hb=>sRc_row (hq b hb)) rfl rfl
 ·split at h
  ·injection h with h;subst h
   exact pC_ok fun ⟨h1,h2,h3⟩=>⟨weakL_refl _,sC_weak (isl_weak h1) (rdims_ok _ (by rw[intsD_len];exact h2) h3)⟩
  ·cases h
 ·exact conJn_ok _ _ _ _ h
noncomputable def Ersc(q:Arr→Prop):Senv:=EC (conRe q) 27 3 [4,11,18] (fun _=>([],[]))
def QnA(a:Arr):Int:=Arr.k a
def Qi9(a:Arr):List Int:=Arr.nu a
def Qj6(a:Arr):Int:=GI (Qi9 a) N0
def Qj7(a:Arr):List Arr:=Arr.it a
def QrP(a:Arr):List UInt8:=scalK (QnA a) (Qi9 a) (List.map litA (Qj7 a))
def QFh(a:Arr):List UInt8:=escB (Qj6 a) (39:Int)
def QFi(a:Arr):List UInt8:=List.append [] (QFh a)
def QrQ:Arr:=DA
def QnB(a:Arr):Arr:=List.getD (Qj7 a) N0 QrQ
def QFj(a:Arr):List Int:=Arr.sh (QnB a)
def QFk(a:Arr):Nat:=LN (QFj a)
def QFl(a:Arr):List Int:=Arr.nu (QnB a)
def QFm(a:Arr):Nat:=LN (QFl a)
def QFn(a:Arr):List Arr:=Arr.it (QnB a)
def QFo(a:Arr):Nat:=LN (QFn a)
theorem rsc_step(a : Arr)(q : Arr → Prop)(lo : LOk a)(h1 : a.k≠3 → 0<a.nu.length)(h3 : a.k=3 → 0<a.it.length)(hi : ∀b∈a.it, q b)(hc : ConOk Tryz.prog (conRe q)) :
  ACalls Tryz.prog 143 ((sRc Arr.row2 (fun _=>True) (fun a=>.str (scalK a.k a.nu (a.it.map litA)))).args a) ⟨[],[]⟩ (SpecR (sRc Arr.row2 (fun _=>True) (fun a=>.str (scalK a.k a.nu (a.it.map litA)))) a):=by
 refine con_of (A:=sRc Arr.row2 (fun _=>True) (fun a=>.str (scalK a.k a.nu (a.it.map litA)))) (x:=a) (E:=Ersc q) (eOk hc rfl) Tryz.func143 rfl (by kernel_rfl) rfl (by simp[sRc,Ersc,EC,E0]) ?_
 refine vc_eq (T :=
  ∀(x:Nat),True→SM x∧ifB (QnA a==Z1) (SM x∧side (Z0≤Z0∧Z0<(LI (Qi9 a))) (inI64 (Qj6 a)∧∀(y:Unit),True→RT (showI (Qj6 a)=QrP a))) (ifB (QnA a==(2:Int)) (SM x∧side (Z0≤Z0∧Z0<(LI (Qi9 a))) ((Z0≤Qj6 a∧Qj6 a≤(1114111:Int))∧∀(y:Unit),True→side (N1+LN (QFh a)≤(9223372036854775807:Nat)) (side (LN ((39:UInt8)::QFi a)+N1≤(9223372036854775807:Nat)) (RT ((39:UInt8)::List.append (QFi a) [(39:UInt8)]=QrP a))))) (SM x∧side (Z0≤Z0∧Z0<(LI (Qj7 a))) (∃(x:Arr),((Arr.k (QnB a)=QnA x∧(QFk a=LN (Arr.sh x)∧(∀(i:Nat),i<QFk a→[ZI (GI (QFj a) i)]=[ZI (GI (Arr.sh x) i)])∧True)∧(QFm a=LN (Qi9 x)∧(∀(i:Nat),i<QFm a→[ZI (GI (QFl a) i)]=[ZI (GI (Qi9 x) i)])∧True)∧(QFo a=LN (Qj7 x)∧(∀(i:Nat),i<QFo a→Arr.row (List.getD (QFn a) i QrQ)=Arr.row (List.getD (Qj7 x) i QrQ))∧True)∧True)∧True)∧(True∧True)∧q x∧∀(y:Unit),True→side (N4+LN (litA x)≤(9223372036854775807:Nat)) (RT ((98:UInt8)::(111:UInt8)::(120:UInt8)::(32:UInt8)::List.append [] (litA x)=QrP a)))))) (by kernel_rfl) ?_
 delta DA GI LI LN N0 N1 N4 SM Z0 Z1 ZI QnA Qi9 QFk QFl QFm QFn QFo Qj6 Qj7 QrP QFh QFi QrQ QnB QFj RT
 have da:(default:Arr)=Arr.mk 0 [] [] []:=rfl
 simp only[← da,ifB_iff,side_iff,true_and,and_true,beq_iff_eq,beq_eq_false_iff_ne,ne_eq,exists_const,forall_const]
 have kd:=lo.kd
 have hsum:=lo.sum
 refine⟨fun hk=>?_,fun hk1=>⟨fun hk=>?_,fun hk2=>?_⟩⟩
 ·have:=h1 (by omega)
  exact⟨⟨by omega,by omega⟩,getD_i64 lo.ni,by rw[scalK,if_pos hk]⟩
 ·have:=h1 (by omega)
  have he:=escB_len (a.nu.getD 0 0) 39
  refine⟨⟨by omega,by omega⟩,lo.chr hk _ (memI (by omega)),by omega,by simp only[List.length_cons,app_nil'];omega,?_⟩
  rw[scalK,if_neg hk1,if_pos hk]
  simp[quoB,escL]
  rfl
 ·have:=h3 (by omega)
  have hm:=mem_getD (l:=a.it) (i:=0) (by omega)
  have hl:=mem_sum hm
  refine⟨⟨by omega,by omega⟩,a.it.getD 0 default,⟨rfl,⟨rfl,fun _ _=>rfl⟩,⟨rfl,fun _ _=>rfl⟩,rfl,fun _ _=>rfl⟩,hi _ hm,by omega,?_⟩
  rw[scalK,if_neg hk1,if_neg hk2]
  have:(a.it.map litA).getD 0 []=litA (a.it.getD 0 default):=by
   simp[List.getD_eq_getElem?_getD,List.getElem?_map,List.getElem?_eq_getElem (show 0<a.it.length by omega)]
  rw[this];rfl
noncomputable def Erel(a:Arr)(q:Arr→Prop):Senv:={ EC (conRe q) 36 5 [7,16,20] (fun _=>([],[])) with
 gh:=fun b=>match b with
  |0=>[.slot 3]
  |_=>[]
 ann:=fun b _ S=>match b with
  |0=>some { slots:=[4,3],keep:=[0,1],α:=Nat×Nat×List UInt8,st:=fun y=>([.int .i64 y.1,bsl y.2.2 (.tok 0 y.2.1)],⟨S.objs,[(0,y.2.1)]⟩),inv:=fun y=>JHd [32] (a.it.map fun b=>itemB (litA b)) y.1 y.2.2,mu:=fun y=>a.it.length-y.1 }
  |_=>none }
def Qj8(a:Arr):Int:=Arr.k a
def QrR(a:Arr):List Int:=Arr.nu a
def Qii(a:Arr):Nat:=LN (QrR a)
def Qj9(a:Arr)(b:Nat):List D:=[ZI (GI (QrR a) b)]
def QFp(a:Arr):List Int:=intsD (Qii a) fun (i:Nat)=>Qj9 a i
def Qka(a:Arr):List Arr:=Arr.it a
def QFq(a:Arr):List UInt8:=vecK (Qj8 a) (QrR a) (List.map litA (Qka a))
def Qkb(a:Arr):List UInt8:=litA a
def QnC(a:Arr)(c:Nat)(d:List UInt8):Prop:=JHd [(32:UInt8)] (List.map (fun (b:Arr)=>itemB (Qkb b)) (Qka a)) c d
def Qij(a:List UInt8)(b:Nat):List D:=[ZB (BI a b)]
def QnD(a:Arr):Nat:=LN (Arr.sh a)
def QrS(a:Arr)(b:Nat):List D:=[ZI (GI (Arr.sh a) b)]
def Qik(a:Arr):Nat:=LN (Qka a)
def QnE:Arr:=DA
def Qkc(a:Arr)(b:Nat):Arr:=List.getD (Qka a) b QnE
def QL4(a:Arr)(b:Nat):List Int:=Arr.sh (Qkc a b)
def QL5(a:Arr)(b:Nat):List Int:=Arr.nu (Qkc a b)
def QFr(a:Arr)(b:Nat):List Arr:=Arr.it (Qkc a b)
def QFs(a:Arr)(b:Nat):List D:=[ZI (Arr.k (Qkc a b)),SI (QL4 a b),SI (QL5 a b),D.sl N4 (LN (QFr a b)) (fun (i:Nat)=>Arr.row (List.getD (QFr a b) i QnE)) Mode.any]
def QrT(a:Nat)(b:Arr)(c d:Nat):Prop:=(SM a∧(SM (Qj8 b)∧(SM (QnD b)∧(∀(i:Nat),i<QnD b→SM (QrS b i))∧True)∧(SM (Qii b)∧(∀(i:Nat),i<Qii b→SM (Qj9 b i))∧True)∧(SM (Qik b)∧(∀(i:Nat),i<Qik b→SM (QFs b i))∧True)∧True)∧True)∧c=d∧True
def QrU(a:Arr):Int:=(NI (Qik a))
def QnF(a:Arr)(b:Nat):Arr:=List.getD (Qka a) (Int.toNat (↑b:Int)) QnE
def QFt(a:Arr)(b:Nat):List Int:=Arr.sh (QnF a b)
def QFu(a:Arr)(b:Nat):Nat:=LN (QFt a b)
def QFv(a:Arr)(b:Nat):List Int:=Arr.nu (QnF a b)
def QFw(a:Arr)(b:Nat):Nat:=LN (QFv a b)
def QFx(a:Arr)(b:Nat):List Arr:=Arr.it (QnF a b)
def QFy(a:Arr)(b:Nat):Nat:=LN (QFx a b)
def QFz(a:Arr)(b:Nat)(c:Arr):Prop:=(Arr.k (QnF a b)=Qj8 c∧(QFu a b=QnD c∧(∀(i:Nat),i<QFu a b→[ZI (GI (QFt a b) i)]=QrS c i)∧True)∧(QFw a b=Qii c∧(∀(i:Nat),i<QFw a b→[ZI (GI (QFv a b) i)]=Qj9 c i)∧True)∧(QFy a b=Qik c∧(∀(i:Nat),i<QFy a b→Arr.row (List.getD (QFx a b) i QnE)=Arr.row (Qkc c i))∧True)∧True)∧True
def QFA(a:Arr):Nat:=LN ((40:UInt8)::(98:UInt8)::(111:UInt8)::(120:UInt8)::(32:UInt8)::List.append [] (Qkb a))+N1
def QFB(a:Arr):List UInt8:=(40:UInt8)::(98:UInt8)::(111:UInt8)::(120:UInt8)::(32:UInt8)::List.append (List.append [] (Qkb a)) [(41:UInt8)]
def QFC(a:Arr):Nat:=LN (QFB a)
def QnG(a:List UInt8)(b:Arr):Nat:=LN a+N1+QFC b
def QL6(a:Arr):D:=D.agg [ZI (Qj8 a),D.sl N1 (QnD a) (fun (i:Nat)=>QrS a i) Mode.any,D.sl N1 (Qii a) (fun (i:Nat)=>Qj9 a i) Mode.any,D.sl N4 (Qik a) (fun (i:Nat)=>QFs a i) Mode.any]
def QFD(a:Arr)(b:Nat):Prop:=SM (QL6 a)∧SM (D.ref N0 b N0)∧True
def QFE(a:Arr)(b c:Nat):Prop:=Qik a-b<Qik a-c
def QFF(a:Arr)(b:Nat):List D:=[ZB (BI (QFB a) b)]
def QnH(a:List UInt8)(b:Arr):Nat:=LN a+QFC b
theorem rel_step(a : Arr)(q : Arr → Prop)(lo : LOk a)(hk : a.k≠2)(hi : ∀b∈a.it, q b)(hc : ConOk Tryz.prog (conRe q)) :
  ACalls Tryz.prog 145 ((sRc Arr.row2 (fun _=>True) (fun a=>.str (vecK a.k a.nu (a.it.map litA)))).args a) ⟨[],[]⟩ (SpecR (sRc Arr.row2 (fun _=>True) (fun a=>.str (vecK a.k a.nu (a.it.map litA)))) a):=by
 refine con_of (A:=sRc Arr.row2 (fun _=>True) (fun a=>.str (vecK a.k a.nu (a.it.map litA)))) (x:=a) (E:=Erel a q) (eOk hc rfl) Tryz.func145 rfl (by kernel_rfl) rfl (by simp[sRc,Erel,EC,E0]) ?_
 refine vc_eq (T :=
  ∀(x:Nat),True→SM x∧ifB (Qj8 a==Z1) (SM x∧((IntsP (Qii a) fun (i:Nat)=>Qj9 a i)∧Qii a≤(1099511627776:Nat)∧∀(z:Int),z∈QFp a→inI64 z)∧∀(y:Unit),True→RT (dimsB (QFp a)=QFq a)) (∀(t:Nat),(∃(x_1:Nat×Nat×List UInt8),QnC a x_1.1 x_1.2.2∧(Z0=(NI x_1.1)∧(N0=LN x_1.2.2∧(∀(i:Nat),i<N0→[D.str []]=Qij x_1.2.2 i)∧t=x_1.2.1)∧True)∧QrT x a t x_1.2.1)∧∀(x_1:Nat×Nat×List UInt8),QnC a x_1.1 x_1.2.2→SM x∧ifB (decide ((NI x_1.1)<QrU a)) (ifB (decide (Z0<(NI x_1.1))) (SM x_1.2.1∧side ((LN x_1.2.2+N1)*N1≤(140737488355328:Nat)∧LN x_1.2.2+N1≤(9223372036854775807:Nat)) (∀(t:Nat),SM x∧side (Z0≤(NI x_1.1)∧(NI x_1.1)<QrU a) (∃(x_2:Arr),QFz a x_1.1 x_2∧(True∧True)∧q x_2∧∀(y:Unit),True→side ((5:Nat)+LN (Qkb x_2)≤(9223372036854775807:Nat)) (side (QFA x_2≤(9223372036854775807:Nat)) (SM t∧side (QnG x_1.2.2 x_2*N1≤(140737488355328:Nat)∧QnG x_1.2.2 x_2≤(9223372036854775807:Nat)) (∀(t:Nat),QFD a x∧∃(y:Nat×Nat×List UInt8),QnC a y.1 y.2.2∧QFE a y.1 x_1.1∧(IntKind.wrap IntKind.i64 ((NI x_1.1)+Z1)=(NI y.1)∧(QnG x_1.2.2 x_2=LN y.2.2∧(∀(i:Nat),i<QnG x_1.2.2 x_2→appF (LN x_1.2.2+N1) (appF (LN x_1.2.2) (fun (i:Nat)=>Qij x_1.2.2 i) fun (i:Nat)=>List.getD [[ZB (32:Int)]] i []) (fun (i:Nat)=>QFF x_2 i) i=Qij y.2.2 i)∧t=y.2.1)∧True)∧QrT x a t y.2.1)))))) (SM x∧side (Z0≤(NI x_1.1)∧(NI x_1.1)<QrU a) (∃(x_2:Arr),QFz a x_1.1 x_2∧(True∧True)∧q x_2∧∀(y:Unit),True→side ((5:Nat)+LN (Qkb x_2)≤(9223372036854775807:Nat)) (side (QFA x_2≤(9223372036854775807:Nat)) (SM x_1.2.1∧side (QnH x_1.2.2 x_2*N1≤(140737488355328:Nat)∧QnH x_1.2.2 x_2≤(9223372036854775807:Nat)) (∀(t:Nat),QFD a x∧∃(y:Nat×Nat×List UInt8),QnC a y.1 y.2.2∧QFE a y.1 x_1.1∧(IntKind.wrap IntKind.i64 ((NI x_1.1)+Z1)=(NI y.1)∧(QnH x_1.2.2 x_2=LN y.2.2∧(∀(i:Nat),i<QnH x_1.2.2 x_2→appF (LN x_1.2.2) (fun (i:Nat)=>Qij x_1.2.2 i) (fun (i:Nat)=>QFF x_2 i) i=Qij y.2.2 i)∧t=y.2.1)∧True)∧QrT x a t y.2.1)))))) (True∧chk (true&&rowsB (LN x_1.2.2) fun (i:Nat)=>Qij x_1.2.2 i) (RT ((bytesOf (LN x_1.2.2) fun (i:Nat)=>Qij x_1.2.2 i)=QFq a))))) (by kernel_rfl) ?_
 delta BI DA GI LN N0 N1 N4 NI SI SM U0 Z0 Z1 ZB ZI Qj8 QrR Qii Qj9 QFp Qka QFq Qkb QnC Qij QnD QrS Qik QnE Qkc QL4 QL5 QFr QFs QrT QrU QnF QFt QFu QFv QFw QFx QFy QFz QFA QFB QFC QnG QL6 QFD QFE QFF QnH RT
 have da:(default:Arr)=Arr.mk 0 [] [] []:=rfl
 simp only[← da,ifB_iff,side_iff,decide_eq_true_eq,decide_eq_false_iff_not,true_and,and_true,beq_iff_eq,beq_eq_false_iff_ne,ne_eq,exists_const,forall_const,Int.toNat_natCast,intsD_isl]
 have hib:∀x:Arr,(40::98::111::120::32::(litA x).append [41])=itemB (litA x):=fun _=>rfl
 simp only[app_nil',hib]
 have kd:=lo.kd
 have hsum:=lo.sum
 have l2:=lo.n6
 have l3:=lo.i6
 have tt:(∀i:Nat,i<a.sh.length→True)∧(∀i:Nat,i<a.nu.length→True)∧∀i:Nat,i<a.it.length→True:=⟨fun _ _=>trivial,fun _ _=>trivial,fun _ _=>trivial⟩
 refine⟨fun h1=>⟨⟨intsP_isl _,by omega,lo.ni⟩,?_⟩,fun h1 t=>⟨⟨(0,t,[]),JHd.init _ _,⟨rfl,rfl,fun i hi=>absurd hi (by omega),rfl⟩,tt,rfl⟩,?_⟩⟩
 ·rw[vecK,if_neg hk,lo.no (by omega)]
  simp[dimsB]
 have hnu:=lo.bx (by omega)
 have hv:Lib.join (a.it.map fun b=>itemB (litA b)) [32]=vecK a.k a.nu (a.it.map litA):=by
  rw[vecK,if_neg hk,hnu,List.map_map];rfl
 have hvl:=vecK_len a.k lo.ni (a.it.map litA)
 rw[List.length_map] at hvl
 rintro ⟨i,t1,out⟩ hh
 simp only at hh ⊢
 have hl:=hh.len
 rw[hv] at hl
 refine⟨fun hlt=>?_,fun hge=>?_⟩
 ·have hlt':i<a.it.length:=by omega
  have hm:=mem_getD hlt'
  have hml:=mem_sum hm
  have hmi:i<(a.it.map fun b=>itemB (litA b)).length:=by simpa using hlt'
  have hg:(a.it.map fun b=>itemB (litA b)).getD i []=itemB (litA (a.it.getD i default)):=by
   simp[List.getD_eq_getElem?_getD,List.getElem?_map,List.getElem?_eq_getElem hlt']
  have hil:(itemB (litA (a.it.getD i default))).length=6+(litA (a.it.getD i default)).length:=by
   simp only[itemB,boxW,List.length_append,List.length_cons,List.length_nil];omega
  refine⟨fun h0=>⟨⟨by omega,by omega⟩,⟨by omega,by omega⟩,a.it.getD i default,⟨rfl,⟨rfl,fun _ _=>rfl⟩,⟨rfl,fun _ _=>rfl⟩,rfl,fun _ _=>rfl⟩,hi _ hm,by omega,by simp only[List.length_cons];omega,⟨by omega,by omega⟩,fun t2=>⟨(i+1,t2,out++[32]++itemB (litA (a.it.getD i default))),?_,by simp only;omega,⟨wrap_i64' (by omega) (by omega),by simp only[List.length_append,List.length_cons,List.length_nil],?_,rfl⟩,tt,rfl⟩⟩,fun h0=>⟨⟨by omega,by omega⟩,a.it.getD i default,⟨rfl,⟨rfl,fun _ _=>rfl⟩,⟨rfl,fun _ _=>rfl⟩,rfl,fun _ _=>rfl⟩,hi _ hm,by omega,by simp only[List.length_cons];omega,⟨by omega,by omega⟩,fun t2=>⟨(i+1,t2,out++itemB (litA (a.it.getD i default))),?_,by simp only;omega,⟨wrap_i64' (by omega) (by omega),by simp only[List.length_append],?_,rfl⟩,tt,rfl⟩⟩⟩
  ·have:=hh.step (by omega) hmi
   rw[hg] at this
   exact this
  ·exact app_gen (l:=out++[32]) (by simp) (app_row' (b:=32) rfl (fun _ _=>rfl) rfl) (fun _ _=>rfl)
  ·have e:i=0:=by omega
   subst e
   have:=hh.step0 hmi
   rw[hg] at this
   exact this
  ·exact app_gen rfl (fun _ _=>rfl) (fun _ _=>rfl)
 ·have hd:=hh.done (by simpa using hge)
  rw[chk_iff,Bool.true_and]
  refine⟨rowsB_bsl _,?_⟩
  rw[bytesOf_bsl,hd,hv]
def sAt1(q:Arr→Prop):FnSpec where
 β:=Arr
 α:=Unit
 args:=fun a=>[.agg a.row1,.int .i64 0]
 st:=fun _=>⟨[],[]⟩
 pre:=q
 post:=fun _ _=>True
 res:=fun a _=>.ret (.agg (atA a 0).row1)
 out:=fun _ _=>⟨[],[]⟩
def lineA(a:Arr):Arr:=.mk a.k [sizeR a.k a.nu.length a.it.length] a.nu a.it
def conRl(a:Arr):Con:=fun k ds S=>match k with
 |122=>some (sRc Arr.row1 (fun b=>b=lineA a∧1<a.nu.length+a.it.length∧a.sh.length≠1) (fun b=>.str (litA b)))
 |143=>some (sRc Arr.row1 (fun b=>(b=a∧a.sh.length=0)∨b=fillA a.k∨(b=atA a 0∧a.nu.length+a.it.length=1)) (fun b=>.str (scalK b.k b.nu (b.it.map litA))))
 |144=>some (sRc Arr.row1 (fun b=>b=a∧a.k=2) (fun b=>.str (quoB 34 b.nu)))
 |145=>some (sRc Arr.row1 (fun b=>b=a∧a.k≠2) (fun b=>.str (vecK b.k b.nu (b.it.map litA))))
 |147=>some (sRc Arr.row1 (fun b=>b=a) (fun b=>.agg (fillA b.k).row1))
 |148=>some (sAt1 (fun b=>b=a∧a.nu.length+a.it.length=1))
 |146=>match ds with
  | [.sl 1 n f m]=>some (pC [.sl 1 n f m] (.str (dimsB (intsD n f))) (IntsP n f∧n≤1099511627776∧∀z∈intsD n f,inI64 z))
  |_=>none
 |k=>conRf k ds S
theorem fill_sc{k:Int}(h:k=1∨k=2∨k=3):scalK (fillA k).k (fillA k).nu ((fillA k).it.map litA)=fillL k:=by
 rcases h with rfl | rfl | rfl
 ·rfl
 ·rfl
 ·rfl
theorem at_sc{a:Arr}(kd:a.k=1∨a.k=2∨a.k=3)(bx:a.k=3→a.nu=[])(h:a.nu.length+a.it.length=1):scalK (atA a 0).k (atA a 0).nu ((atA a 0).it.map litA)=scalK a.k a.nu (a.it.map litA):=by
 have h1:=at_lit kd bx h
 have h2:(atA a 0).sh.length=0:=by unfold atA;split<;>rfl
 rw[litA_eq (atA a 0),litK,if_pos h2] at h1
 exact h1
theorem line_lit{a:Arr}(h:1<a.nu.length+a.it.length):litA (lineA a)=vecK a.k a.nu (a.it.map litA):=by
 rw[litA_eq,litK,if_neg (by show ¬1=0;omega),if_pos ⟨rfl,.inr (by rw[List.length_map];exact h)⟩]
 rfl
noncomputable def Erl(a:Arr):Senv:=EC (conRl a) 64 5 [8,19,31,39,46] (fun _=>([],[]))
def ZR(a:Arr):Nat:=LN (Arr.sh a)
def HS(a:Arr):Int:=Arr.k a
def QFG(a b:Arr):Prop:=HS a=HS b
def Qil(a:Arr)(b:Nat):List D:=[ZI (GI (Arr.sh a) b)]
def Qkd(a:Arr):List Int:=Arr.nu a
def Qim(a:Arr):Nat:=LN (Qkd a)
def QnI(a:Arr)(b:Nat):List D:=[ZI (GI (Qkd a) b)]
def QnJ(a:Arr):List Arr:=Arr.it a
def Qin(a:Arr):Nat:=LN (QnJ a)
def QrV:Arr:=DA
def QnK(a:Arr)(b:Nat):List D:=Arr.row (List.getD (QnJ a) b QrV)
def QFH(a b:Arr):Prop:=(Qim a=Qim b∧(∀(i:Nat),i<Qim a→QnI a i=QnI b i)∧True)∧(Qin a=Qin b∧(∀(i:Nat),i<Qin a→QnK a i=QnK b i)∧True)∧True
def QFI(a b:Arr):Prop:=QFG a b∧(ZR a=ZR b∧(∀(i:Nat),i<ZR a→Qil a i=Qil b i)∧True)∧QFH a b
def QnL(a b:Arr):Prop:=QFI a b∧True
def Qke(a:Arr):Arr:=fillA (HS a)
def Qkf(a:Arr):Arr:=atA a N0
def QFJ(a:Arr):Nat:=Qim a+Qin a
def QFK(a:Arr):Prop:=QFJ a=N1
def QFL(a b:Arr):Prop:=a=b∧ZR b=N0∨a=Qke b∨a=Qkf b∧QFK b
def QrW(a:Arr):List UInt8:=scalK (HS a) (Qkd a) (List.map litA (QnJ a))
def Qio(a:Arr):List UInt8:=litA a
def QnM(a:Arr):Bool:=(NI (ZR a))==Z1
def QrX(a:Arr):Bool:=bif QnM a then HS a==(2:Int) else false
def QnN(a:Arr):Int:=sizeR (HS a) (Qim a) (Qin a)
def QFM(a:Arr):Bool:=decide ((2:Int)≤QnN a)
def QrY(a:Arr):Bool:=bif QnM a then QFM a else false
def QFN(a:Arr):List Int:=intsD (ZR a) fun (i:Nat)=>Qil a i
def QFO(a:Arr):List UInt8:=dimsB (QFN a)
def QFP(a:Arr):List Int:=Arr.sh (Qke a)
def QFQ(a:Arr):Nat:=LN (QFP a)
def QFR(a:Arr):List Int:=Arr.nu (Qke a)
def QFS(a:Arr):Nat:=LN (QFR a)
def QFT(a:Arr):List Arr:=Arr.it (Qke a)
def QFU(a:Arr):Nat:=LN (QFT a)
def QrZ(a:Arr):List UInt8:=QFO a++[(32:UInt8),(114:UInt8),(101:UInt8),(115:UInt8),(104:UInt8),(97:UInt8),(112:UInt8),(101:UInt8),(32:UInt8)]
def QFV(a:Arr):Nat:=LN (QrZ a)
def QFW(a b:Arr):Prop:=(True∧True)∧QFL a b∧∀(_y:Unit),True→side (QFV b+LN (QrW a)≤(9223372036854775807:Nat)) (True∧∃(_y:Unit),True∧QrZ b++QrW a=Qio b∧True∧True)
def QFX(a:Arr):List Int:=Arr.sh (Qkf a)
def QFY(a:Arr):Nat:=LN (QFX a)
def QFZ(a:Arr):List Int:=Arr.nu (Qkf a)
def QF0(a:Arr):Nat:=LN (QFZ a)
def QF1(a:Arr):List Arr:=Arr.it (Qkf a)
def QF2(a:Arr):Nat:=LN (QF1 a)
theorem rlit_step(a : Arr)(lo : LOk a)(hc : ConOk Tryz.prog (conRl a)) :
  ACalls Tryz.prog 122 ((sRc Arr.row1 (fun _=>True) (fun b=>.str (litA b))).args a) ⟨[],[]⟩ (SpecR (sRc Arr.row1 (fun _=>True) (fun b=>.str (litA b))) a):=by
 refine con_of (A:=sRc Arr.row1 (fun _=>True) (fun b=>.str (litA b))) (x:=a) (E:=Erl a) (eOk hc rfl) Tryz.func122 rfl (by kernel_rfl) rfl (by simp[sRc,Erl,EC,E0]) ?_
 refine vc_eq (T :=
  ∀(x:Nat),True→SM x∧ifB ((NI (ZR a))==Z0) (SM x∧∃(x:Arr),QnL a x∧(True∧True)∧QFL x a∧∀(y:Unit),True→RT (QrW x=Qio a)) ((SM x∧ifB (QnM a) (SM x∧(HS a==(2:Int))=QrX a∧True) (false=QrX a∧True))∧ifB (QrX a) (SM x∧∃(x:Arr),QnL a x∧(True∧True)∧(x=a∧HS a=(2:Int))∧∀(y:Unit),True→RT (quoB (34:Int) (Qkd x)=Qio a)) (SM x∧True∧∀(y:Unit),True→(SM x∧ifB (QnM a) (QFM a=QrY a∧True) (false=QrY a∧True))∧ifB (QrY a) (SM x∧∃(x:Arr),QnL a x∧(True∧True)∧(x=a∧HS a≠(2:Int))∧∀(y:Unit),True→RT (vecK (HS x) (Qkd x) (List.map litA (QnJ x))=Qio a)) (SM x∧((IntsP (ZR a) fun (i:Nat)=>Qil a i)∧ZR a≤(1099511627776:Nat)∧∀(z:Int),z∈QFN a→inI64 z)∧∀(y:Unit),True→side (LN (QFO a)+(9:Nat)≤(9223372036854775807:Nat)) (ifB (QnN a==Z0) (SM x∧∃(x:Arr),QnL a x∧(True∧True)∧x=a∧∀(y:Unit),True→∃(x_1:Arr),((Arr.k (Qke x)=HS x_1∧(QFQ x=ZR x_1∧(∀(i:Nat),i<QFQ x→[ZI (GI (QFP x) i)]=Qil x_1 i)∧True)∧(QFS x=Qim x_1∧(∀(i:Nat),i<QFS x→[ZI (GI (QFR x) i)]=QnI x_1 i)∧True)∧(QFU x=Qin x_1∧(∀(i:Nat),i<QFU x→Arr.row (List.getD (QFT x) i QrV)=QnK x_1 i)∧True)∧True)∧True)∧QFW x_1 a) (ifB (QnN a==Z1) (SM x∧∃(x:Arr),(QFI a x∧SM Z0∧True)∧(True∧True)∧(x=a∧QFK a)∧∀(y:Unit),True→∃(x_1:Arr),((Arr.k (Qkf x)=HS x_1∧(QFY x=ZR x_1∧(∀(i:Nat),i<QFY x→[ZI (GI (QFX x) i)]=Qil x_1 i)∧True)∧(QF0 x=Qim x_1∧(∀(i:Nat),i<QF0 x→[ZI (GI (QFZ x) i)]=QnI x_1 i)∧True)∧(QF2 x=Qin x_1∧(∀(i:Nat),i<QF2 x→Arr.row (List.getD (QF1 x) i QrV)=QnK x_1 i)∧True)∧True)∧True)∧QFW x_1 a) (SM x∧SM x∧SM x∧∃(x:Arr),((QFG a x∧(N1=ZR x∧(∀(i:Nat),i<N1→List.getD [[ZI (QnN a)]] i []=Qil x i)∧True)∧QFH a x)∧True)∧(True∧True)∧(x=lineA a∧N1<QFJ a∧ZR a≠N1)∧∀(y:Unit),True→side (QFV a+LN (Qio x)≤(9223372036854775807:Nat)) (RT (QrZ a++Qio x=Qio a))))))))) (by kernel_rfl) ?_
 delta DA GI LN N0 N1 NI SM Z0 Z1 ZI ZR HS QnK QFH QFI QnL Qke Qkf QFJ QFK QFL QrW QFG Qio QnM QrX QnN QFM QrY QFN QFO QFP QFQ Qil QFR QFS QFT QFU QrZ QFV QFW QFX QFY QFZ Qkd QF0 QF1 QF2 Qim QnI QnJ Qin QrV RT
 have da:(default:Arr)=Arr.mk 0 [] [] []:=rfl
 simp only[← da,ifB_iff,side_iff,decide_eq_true_eq,decide_eq_false_iff_not,true_and,and_true,beq_iff_eq,Bool.cond_false_right,Bool.and_eq_true,Bool.and_eq_false_iff,beq_eq_false_iff_ne,ne_eq,exists_const,forall_const,intsD_isl]
 obtain ⟨kd,s8,n6,i6,si,ni,hsum,hchr,hno,hbx,hsc⟩:=lo
 have hz:sizeR a.k a.nu.length a.it.length=((a.nu.length+a.it.length:Nat):Int):=by
  unfold sizeR
  by_cases h3:a.k=3
  ·rw[if_neg (by omega),if_pos h3,hbx h3];simp
  ·rw[if_pos (by omega),hno h3];simp
 have hd:=dimsB_len si
 have hfl:=fillL_len a.k
 have hsl:=scalK_len a.k ni (a.it.map litA)
 have hvl:=vecK_len a.k ni (a.it.map litA)
 rw[List.length_map] at hvl
 have len:∀e:List UInt8,e.length≤200000000→(dimsB a.sh++[32,114,101,115,104,97,112,101,32]).length+e.length≤9223372036854775807:=fun e he=>by
  simp only[List.length_append,List.length_cons,List.length_nil];omega
 have hlk:a.sh.length≠0→(¬a.sh.length=1∨¬a.k=2)→(¬a.sh.length=1∨a.nu.length+a.it.length<2)→litA a=dimsB a.sh++[32,114,101,115,104,97,112,101,32]++(if a.nu.length+a.it.length=0 then fillL a.k else if a.nu.length+a.it.length=1 then scalK a.k a.nu (a.it.map litA) else vecK a.k a.nu (a.it.map litA)):=fun h1 h2 h3=>by
  rw[litA_eq,litK,if_neg h1,if_neg (by rw[List.length_map];omega),List.length_map];rfl
 have hvk:a.sh.length=1→(a.k=2∨1<a.nu.length+a.it.length)→litA a=vecK a.k a.nu (a.it.map litA):=fun h1 h2=>by
  rw[litA_eq,litK,if_neg (by omega),if_pos ⟨h1,by rw[List.length_map];exact h2⟩]
 simp only[hz]
 refine⟨fun hs=>⟨a,⟨rfl,⟨rfl,fun _ _=>rfl⟩,⟨rfl,fun _ _=>rfl⟩,rfl,fun _ _=>rfl⟩,.inl ⟨rfl,by omega⟩,by rw[litA_eq a,litK,if_pos (by omega)]⟩,fun hs=>⟨⟨fun h=>by rw[h];rfl,fun h=>by rw[beq_eq_false_iff_ne.2 h];rfl⟩,fun ⟨h1,h2⟩=>⟨a,⟨rfl,⟨rfl,fun _ _=>rfl⟩,⟨rfl,fun _ _=>rfl⟩,rfl,fun _ _=>rfl⟩,⟨rfl,h2⟩,by rw[hvk (by omega) (.inl h2),vecK,if_pos h2]⟩,fun hn=>⟨⟨fun h=>by rw[h];rfl,fun h=>by rw[beq_eq_false_iff_ne.2 h];rfl⟩,fun ⟨h1,h2⟩=>⟨a,⟨rfl,⟨rfl,fun _ _=>rfl⟩,⟨rfl,fun _ _=>rfl⟩,rfl,fun _ _=>rfl⟩,⟨rfl,by omega⟩,by rw[hvk (by omega) (.inr (by omega))]⟩,fun hn2=>⟨⟨intsP_isl _,by omega,si⟩,by omega,fun h0=>?_,fun h0=>⟨fun h1=>?_,fun h1=>?_⟩⟩⟩⟩⟩
 ·refine⟨a,⟨rfl,⟨rfl,fun _ _=>rfl⟩,⟨rfl,fun _ _=>rfl⟩,rfl,fun _ _=>rfl⟩,rfl,fillA a.k,⟨rfl,⟨rfl,fun _ _=>rfl⟩,⟨rfl,fun _ _=>rfl⟩,rfl,fun _ _=>rfl⟩,.inr (.inl rfl),?_,?_⟩
  ·rw[fill_sc kd];exact len _ (by omega)
  ·rw[fill_sc kd,hlk (by omega) (by omega) (by omega),if_pos (by omega)]
 ·refine⟨a,⟨rfl,⟨rfl,fun _ _=>rfl⟩,⟨rfl,fun _ _=>rfl⟩,rfl,fun _ _=>rfl⟩,⟨rfl,by omega⟩,atA a 0,⟨rfl,⟨rfl,fun _ _=>rfl⟩,⟨rfl,fun _ _=>rfl⟩,rfl,fun _ _=>rfl⟩,.inr (.inr ⟨rfl,by omega⟩),?_,?_⟩
  ·rw[at_sc kd hbx (by omega)];exact len _ (by omega)
  ·rw[at_sc kd hbx (by omega),hlk (by omega) (by omega) (by omega),if_neg (by omega),if_pos (by omega)]
 ·refine⟨lineA a,⟨rfl,⟨rfl,fun i hi=>?_⟩,⟨rfl,fun _ _=>rfl⟩,rfl,fun _ _=>rfl⟩,⟨rfl,by omega,by omega⟩,?_,?_⟩
  ·have:i=0:=by omega
   subst this
   simp only[lineA,Arr.sh,hz];rfl
  ·rw[line_lit (by omega)];exact len _ (by omega)
  ·rw[line_lit (by omega),hlk (by omega) (by omega) (by omega),if_neg (by omega),if_neg (by omega)]
def conCr(its:List Arr):Con:=fun k ds S=>match k with
 |158=>some (sCl Arr.row1 Arr.row1 (fun b=>b∈its))
 |k=>conRf k ds S
noncomputable def Era(a:Arr):Senv:=EC (conCr a.it) 34 3 [4,12,16] (fun id=>match id with | 5=>([0,1,2,3,4,5,6,7,8,9],[7,9]) | _=>([],[]))
def QnO(a:Arr):Int:=Arr.k a
def Qr0(a:Arr):List Int:=Arr.nu a
def QnP(a:Arr):Nat:=LN (Qr0 a)
def QnQ(a:Arr):List Arr:=Arr.it a
def QnR(a:Arr):Nat:=LN (QnQ a)
def Qja:D:=D.sl N1 N0 (fun (_x:Nat)=>[]) Mode.nil
def QF3:List D:=[Qja]
def Qr1:Arr:=DA
def QnS(a:Arr)(b:Nat):Arr:=List.getD (QnQ a) (Int.toNat (↑b:Int)) Qr1
def QF4(a:Arr)(b:Nat):List Int:=Arr.sh (QnS a b)
def QF5(a:Arr)(b:Nat):Nat:=LN (QF4 a b)
def QF6(a:Arr)(b:Nat):List D:=[ZI (GI (Arr.sh a) b)]
def QF7(a:Arr)(b:Nat):List Int:=Arr.nu (QnS a b)
def QF8(a:Arr)(b:Nat):Nat:=LN (QF7 a b)
def QF9(a:Arr)(b:Nat):List D:=[ZI (GI (Qr0 a) b)]
def QGa(a:Arr)(b:Nat):List Arr:=Arr.it (QnS a b)
def QGb(a:Arr)(b:Nat):Nat:=LN (QGa a b)
def QGc(a:Arr)(b:Nat):List D:=Arr.row (List.getD (QnQ a) b Qr1)
def Qr2(a:Arr):D:=ZI (QnO a)
theorem rat_step(a : Arr)(i : Nat)(hk : a.k=1 ∨ a.k=2 ∨ a.k=3)(hi : (i : Int)<sizeR a.k a.nu.length a.it.length)(hc : ConOk Tryz.prog (conCr a.it)) :
  ACalls Tryz.prog 148 [.agg a.row2,.int .i64 i] ⟨[],[]⟩ (SpecR (sC [.agg a.row2,.int .i64 i] (atD a i)) ()):=by
 refine con_of (A:=sC _ _) (x:=()) (E:=Era a) (eOk hc rfl) Tryz.func148 rfl (by kernel_rfl) rfl (by simp[sC,Era,EC,E0]) ?_
 refine vc_eq (T :=
  ∀(x:Nat),True→∀(x_1:Nat),x≠x_1∧True→SM x∧True∧∀(y:Unit),True→ifB (decide (sizeR (QnO a) (QnP a) (QnR a)≤(↑i:Int))) (SM x_1∧(SM x_1∧True)∧∃(y:Unit),True∧weakD (D.agg (ZI Z0::Qja::Qja::QF3)) (atD a i)∧True∧True) (SM x∧ifB (QnO a==(3:Int)) (SM x∧side (Z0≤(↑i:Int)∧(↑i:Int)<(NI (QnR a))) (∃(x:Arr),((Arr.k (QnS a i)=QnO x∧(QF5 a i=LN (Arr.sh x)∧(∀(i_1:Nat),i_1<QF5 a i→[ZI (GI (QF4 a i) i_1)]=QF6 x i_1)∧True)∧(QF8 a i=QnP x∧(∀(i_1:Nat),i_1<QF8 a i→[ZI (GI (QF7 a i) i_1)]=QF9 x i_1)∧True)∧(QGb a i=QnR x∧(∀(i_1:Nat),i_1<QGb a i→Arr.row (List.getD (QGa a i) i_1 Qr1)=QGc x i_1)∧True)∧True)∧True)∧(True∧True)∧x∈QnQ a∧∀(y:Unit),True→SM x_1∧(SM x_1∧True)∧∃(y:Unit),True∧weakD (D.agg [ZI (3:Int),Qja,Qja,D.sl N4 N1 (fun (i:Nat)=>List.getD [[Qr2 x,D.sl N1 (LN (Arr.sh x)) (fun (i:Nat)=>QF6 x i) Mode.any,D.sl N1 (QnP x) (fun (i:Nat)=>QF9 x i) Mode.any,D.sl N4 (QnR x) (fun (i:Nat)=>QGc x i) Mode.any]] i []) Mode.full]) (atD a i)∧True∧True)) (SM x∧SM x∧side (Z0≤(↑i:Int)∧(↑i:Int)<(NI (QnP a))) ((SM x∧SM (Qr2 a))∧SM x_1∧(SM x_1∧True)∧∃(y:Unit),True∧weakD (D.agg (Qr2 a::Qja::D.sl N1 N1 (fun (i_1:Nat)=>List.getD [[ZI (GI (Qr0 a) (Int.toNat (↑i:Int)))]] i_1 []) Mode.full::QF3)) (atD a i)∧True∧True)))) (by kernel_rfl) ?_
 delta DA GI LN N0 N1 N4 NI SM Z0 ZI QnO Qr0 QF5 QF6 QF7 QF8 QF9 QGa QGb QGc Qr2 QnP QnQ QnR Qja QF3 Qr1 QnS QF4
 have da:(default:Arr)=Arr.mk 0 [] [] []:=rfl
 simp only[← da,ifB_iff,side_iff,decide_eq_true_eq,decide_eq_false_iff_not,true_and,and_true,beq_iff_eq,beq_eq_false_iff_ne,ne_eq,exists_const,forall_const,Int.toNat_natCast]
 have h12:a.k≠3→i<a.nu.length:=fun h3=>by
  have h:a.k=1∨a.k=2:=by omega
  rw[sizeR,if_pos h] at hi;omega
 have h3:a.k=3→i<a.it.length:=fun h3=>by
  rw[sizeR,if_neg (by omega),if_pos h3] at hi;omega
 repeat' (first | intro _ | refine And.intro ?_ ?_)
 all_goals first
  |omega
  |(exfalso;omega)
  |exact⟨a.it.getD i default,⟨rfl,⟨rfl,fun _ _=>rfl⟩,⟨rfl,fun _ _=>rfl⟩,rfl,fun _ _=>rfl⟩,mem_getD (by omega),by rw[atD,if_pos (by assumption),(by assumption:a.k=3)];exact weakD_refl _⟩
  |(rw[atD,if_neg (by omega)];exact weakD_refl _)
def RSc(a:Arr):Prop:=ACalls Tryz.prog 143 ((sRc Arr.row2 (fun _=>True) (fun a=>.str (scalK a.k a.nu (a.it.map litA)))).args a) ⟨[],[]⟩ (SpecR (sRc Arr.row2 (fun _=>True) (fun a=>.str (scalK a.k a.nu (a.it.map litA)))) a)
theorem rsc_of{a:Arr}(lo:LOk a)(hs:a.nu.length+a.it.length=1)(ih:∀b∈a.it,RLit b):RSc a:=by
 refine rsc_step a (·∈a.it) lo (fun h3=>?_) (fun h3=>?_) (fun _ h=>h) (conRe_ok ih)
 ·have:=lo.no h3;rw[this] at hs;simp at hs;omega
 ·have:=lo.bx h3;rw[this] at hs;simp at hs;omega
theorem size_of{a:Arr}(lo:LOk a)(h1:a.nu.length+a.it.length=1):((0:Nat):Int)<sizeR a.k a.nu.length a.it.length:=by
 unfold sizeR
 by_cases h3:a.k=3
 ·rw[if_neg (by omega),if_pos h3]
  have:=lo.bx h3
  rw[this] at h1
  simp at h1
  omega
 ·rw[if_pos (by have:=lo.kd;omega)]
  have:=lo.no h3
  rw[this] at h1
  simp at h1
  omega
theorem conRl_ok{a:Arr}(lo:LOk a)(ih:∀b∈a.it,RLit b)(hf:RSc (fillA a.k))(ha:a.nu.length+a.it.length=1→RSc (atA a 0))(hcl:a.nu.length+a.it.length=1→ConOk Tryz.prog (conCr a.it))(hl:1<a.nu.length+a.it.length→a.sh.length≠1→RLit (lineA a)):ConOk Tryz.prog (conRl a):=by
 intro k ds S A h
 unfold conRl at h
 split at h
 ·injection h with h;subst h
  refine ConOk.plain (fun b hb=>?_) rfl rfl
  obtain ⟨hb,h1,h2⟩:b=lineA a∧1<a.nu.length+a.it.length∧a.sh.length≠1:=hb
  rw[hb]
  exact sRc_row (hl h1 h2)
 ·injection h with h;subst h
  refine ConOk.plain (fun b hb=>?_) rfl rfl
  rcases (hb:(b=a∧a.sh.length=0)∨b=fillA a.k∨(b=atA a 0∧a.nu.length+a.it.length=1)) with ⟨hb,h1⟩ | hb | ⟨hb,h1⟩
  ·rw[hb];exact sRc_row (rsc_of lo (lo.sc h1) ih)
  ·rw[hb];exact sRc_row hf
  ·rw[hb];exact sRc_row (ha h1)
 ·injection h with h;subst h
  refine ConOk.plain (fun b hb=>?_) rfl rfl
  obtain ⟨hb,h1⟩:b=a∧a.k=2:=hb
  rw[hb]
  have hn:=lo.n6
  exact (rquo_ok a.k _ _ _ _ a.nu (by omega) (lo.chr h1)).mono fun _ _ ⟨y,q1,q2,q3⟩=>⟨y,q1,q2,q3⟩
 ·injection h with h;subst h
  refine ConOk.plain (fun b hb=>?_) rfl rfl
  obtain ⟨hb,h1⟩:b=a∧a.k≠2:=hb
  rw[hb]
  exact sRc_row (rel_step a (·∈a.it) lo h1 (fun _ h=>h) (conRe_ok ih))
 ·injection h with h;subst h
  refine ConOk.plain (fun b hb=>?_) rfl rfl
  have hb:b=a:=hb
  rw[hb]
  exact (rfill_arr a).mono fun _ _ ⟨y,q1,q2,q3⟩=>⟨y,q1,q2,q3⟩
 ·injection h with h;subst h
  refine ConOk.plain (fun b hb=>?_) rfl rfl
  obtain ⟨hb,h1⟩:b=a∧a.nu.length+a.it.length=1:=hb
  rw[hb]
  have:=ACalls.wkArgs (ds:=[.agg a.row1,.int .i64 0]) (wkRet (rat_step a 0 lo.kd (size_of lo h1) (hcl h1)) (at_wk a 0)) (by
   simp only[wkL,wkD]
   exact⟨row1_wk a,weakD_refl _,trivial⟩)
  exact this.mono fun _ _ ⟨y,q1,q2,q3⟩=>⟨y,q1,q2,q3⟩
 ·split at h
  ·injection h with h;subst h
   exact pC_ok fun ⟨h1,h2,h3⟩=>⟨weakL_refl _,sC_weak (isl_weak h1) (rdims_ok _ (by rw[intsD_len];exact h2) h3)⟩
  ·cases h
 ·exact conRf_ok _ _ _ _ h
theorem rlit_row2{a:Arr}(h:ACalls Tryz.prog 122 ((sRc Arr.row1 (fun _=>True) (fun b=>.str (litA b))).args a) ⟨[],[]⟩ (SpecR (sRc Arr.row1 (fun _=>True) (fun b=>.str (litA b))) a)):RLit a:=by
 refine (h.wkArgs ?_).mono fun _ _ ⟨y,h1,h2,h3⟩=>⟨y,h1,h2,h3⟩
 simp only[sRc,wkL,wkD]
 exact⟨row2_row1 a,trivial⟩
theorem lok_line{a:Arr}(lo:LOk a)(_h:1<a.nu.length+a.it.length):LOk (lineA a):=by
 have h6:=lo.n6
 have h7:=lo.i6
 refine⟨lo.kd,by show 1≤8;omega,lo.n6,lo.i6,?_,lo.ni,lo.sum,lo.chr,lo.no,lo.bx,fun h=>absurd h (by show ¬1=0;omega)⟩
 intro z hz
 have:z=sizeR a.k a.nu.length a.it.length:=List.mem_singleton.1 hz
 rw[this]
 unfold sizeR inI64
 split
 ·omega
 split<;>omega
theorem rlit_line{a:Arr}(lo:LOk a)(ih:∀b∈a.it,RLit b)(hf:RSc (fillA a.k))(h:1<a.nu.length+a.it.length):RLit (lineA a) :=
 rlit_row2 (rlit_step (lineA a) (lok_line lo h) (conRl_ok (lok_line lo h) ih hf (fun h1=>absurd h1 (by show ¬a.nu.length+a.it.length=1;omega)) (fun h1=>absurd h1 (by show ¬a.nu.length+a.it.length=1;omega)) (fun _ h2=>absurd rfl h2)))
theorem rfs1:RSc (.mk 1 [] [0] []):=rsc_of lok_fill1 rfl (fun b hb=>by cases hb)
theorem rfs2:RSc (.mk 2 [] [32] []):=rsc_of lok_fill2 rfl (fun b hb=>by cases hb)
theorem rlit_e:RLit (.mk 1 [0] [] []) :=
 rlit_row2 (rlit_step _ lok_e (conRl_ok lok_e (fun b hb=>by cases hb) rfs1 (fun h=>by cases h) (fun h=>by cases h) (fun h=>absurd h (by show ¬1<0;omega))))
theorem rfs3:RSc (.mk 3 [] [] [.mk 1 [0] [] []]):=rsc_of lok_fill3 rfl (fun b hb=>by
 have:b=.mk 1 [0] [] []:=List.mem_singleton.1 hb
 subst this;exact rlit_e)
theorem rfs{k:Int}(h:k=1∨k=2∨k=3):RSc (fillA k):=by
 rcases h with rfl | rfl | rfl
 ·exact rfs1
 ·exact rfs2
 ·exact rfs3
def conC2(its:List Arr):Con:=fun k _ _=>match k with
 |158=>some (sCl Arr.row1 Arr.row1 (fun b=>b∈its))
 |_=>none
noncomputable def Ec2(a:Arr):Senv:={ EC (conC2 a.it) 33 5 [18] (fun id=>match id with | 1=>([0,1,2,3,5,6,4,7,8,9,10],[4,7,9,10]) | 5=>([0,1,2,3,4,5,6,7,8,9,10,11],[7,8,9,11]) | _=>([],[])) with
 gh:=fun b=>match b with
  |0=>[.cell 11 403]
  |_=>[]
 ann:=fun b _env S=>match b with
  |0=>some { slots:=[4],keep:=[1,2,3],α:=Nat×Nat,st:=fun y=>([.int .i64 y.1],⟨setO S.objs 11 (.cells ((cellsO S.objs 11).set 3 (.sl 4 y.1 (fun j=>(a.it.getD j default).row1) (.tok 2 y.2)))),[(2,y.2)]⟩),inv:=fun y=>y.1≤a.it.length,mu:=fun y=>a.it.length-y.1 }
  |_=>none }
theorem app_rw{α : Type}{its : List α}{g : α → List D}(d : α){j : Nat} :
  ∀i,i<j+1→appF j (fun i=>g (its.getD i d)) (fun i=>[g (its.getD j d)].getD i []) i=g (its.getD i d):=by
 intro i hi
 simp only[appF]
 split
 ·rfl
 ·have:i=j:=by omega
  subst this
  simp
def Qjb(a:Arr):Nat:=LN (Arr.sh a)
def Qip(a:Arr):Nat:=N0+Qjb a
def QGd(a:Arr):Nat:=Qip a*(8:Nat)
def Qjc(a:Arr):Nat:=LN (Arr.nu a)
def Qkg(a:Arr)(b:Nat):List D:=[ZI (GI (Arr.nu a) b)]
def QGe(a:Arr):D:=D.sl N1 (Qjc a) (fun (i:Nat)=>Qkg a i) Mode.any
def Qr3(a:Nat)(b:Arr):Prop:=SM a∧SM (QGe b)
def Qr4(a:Arr):Int:=Arr.k a
def QGf(a:Arr):D:=ZI (Qr4 a)
def Qkh(a:Nat)(b:Arr):Prop:=SM a∧SM (QGf b)
def Qiq(a:Arr):Nat:=N0+Qjc a
def QGg(a:Arr):Nat:=Qiq a*(8:Nat)
def QnT(a:Arr):List Arr:=Arr.it a
def Qgc(a:Arr):Nat:=LN (QnT a)
def Qr5(a:Nat)(b:Arr):Prop:=a≤Qgc b
def QnU(a:Arr):Prop:=SM (Qr4 a)
def Qki(a:Arr)(b:Nat):List D:=[ZI (GI (Arr.sh a) b)]
def QGh(a:Arr)(b:Nat):List D:=appF N0 (fun (_x:Nat)=>[]) (fun (i:Nat)=>Qki a i) b
def QGi(a:Arr)(b:Nat):Prop:=SM (Qip a)∧(∀(i:Nat),i<Qip a→SM (QGh a i))∧SM b
def QGj(a:Arr)(b:Nat):List D:=appF N0 (fun (_x:Nat)=>[]) (fun (i:Nat)=>Qkg a i) b
def QGk(a:Arr)(b:Nat):Prop:=SM (Qiq a)∧(∀(i:Nat),i<Qiq a→SM (QGj a i))∧SM b
def QnV:Arr:=DA
def Qkj(a:Arr)(b:Nat):Arr:=List.getD (QnT a) b QnV
def QL7(a:Arr)(b:Nat):List Int:=Arr.sh (Qkj a b)
def QL8(a:Arr)(b:Nat):List Int:=Arr.nu (Qkj a b)
def QGl(a:Arr)(b:Nat):List Arr:=Arr.it (Qkj a b)
def Qkk(a:Arr)(b:Nat):List D:=[ZI (Arr.k (Qkj a b)),SI (QL7 a b),SI (QL8 a b),D.sl N4 (LN (QGl a b)) (fun (i:Nat)=>Arr.row (List.getD (QGl a b) i QnV)) Mode.any]
def Qr6:Prop:=SM N0∧(∀(i:Nat),i<N0→eqOf (List D) [] [])∧True
def QGm(a:Arr)(b:Nat):Prop:=SM (Qkk a b)
def QGn(a b:Nat)(c:Arr):Prop:=SM a∧(SM Z0∧Qr6∧Qr6∧Qr6∧True)∧SM b∧(QnU c∧(SM (Qjb c)∧(∀(i:Nat),i<Qjb c→SM (Qki c i))∧True)∧(SM (Qjc c)∧(∀(i:Nat),i<Qjc c→SM (Qkg c i))∧True)∧(SM (Qgc c)∧(∀(i:Nat),i<Qgc c→QGm c i)∧True)∧True)∧True
def QnW(a:Arr)(b:Nat):Arr:=List.getD (QnT a) (Int.toNat (↑b:Int)) QnV
def QGo(a:Arr)(b:Nat):List Int:=Arr.sh (QnW a b)
def QGp(a:Arr)(b:Nat):Nat:=LN (QGo a b)
def QGq(a:Arr)(b:Nat):List Int:=Arr.nu (QnW a b)
def QGr(a:Arr)(b:Nat):Nat:=LN (QGq a b)
def QGs(a:Arr)(b:Nat):List Arr:=Arr.it (QnW a b)
def QGt(a:Arr)(b:Nat):Nat:=LN (QGs a b)
def QGu(a:Arr)(b:Nat):List D:=Arr.row (Qkj a b)
def QL9(a:Nat)(b:Arr)(c:Nat):D:=D.sl N4 a (fun (j:Nat)=>Qkk b j) (Mode.tok N2 c)
def QGv(a b:Nat)(c:Arr)(d:Nat):Prop:=SM a∧SM (QL9 b c d)
def QGw(a:Arr):D:=D.sl N1 (Qjb a) (fun (i:Nat)=>Qki a i) Mode.any
def QGx(a:Nat)(b:Arr)(c d e f:Nat):Prop:=Qkh a b∧SM c∧∀(t:Nat),(∃(x:Nat×Nat),Qr5 x.1 b∧(Z0=(NI x.1)∧True)∧(SM c∧(QnU b∧QGi b d∧QGk b e∧(N0=x.1∧(∀(i:Nat),i<N0→eqOf (List D) [] (Qkk b i))∧t=x.2)∧True)∧QGn f a b)∧t=x.2∧True)∧∀(x:Nat×Nat),Qr5 x.1 b→SM a∧ifB (decide ((NI x.1)<(NI (Qgc b)))) (SM c∧SM a∧side (Z0≤(NI x.1)∧(NI x.1)<(NI (Qgc b))) (∃(x_1:Arr),((Arr.k (QnW b x.1)=Qr4 x_1∧(QGp b x.1=Qjb x_1∧(∀(i:Nat),i<QGp b x.1→[ZI (GI (QGo b x.1) i)]=Qki x_1 i)∧True)∧(QGr b x.1=Qjc x_1∧(∀(i:Nat),i<QGr b x.1→[ZI (GI (QGq b x.1) i)]=Qkg x_1 i)∧True)∧(QGt b x.1=Qgc x_1∧(∀(i:Nat),i<QGt b x.1→Arr.row (List.getD (QGs b x.1) i QnV)=QGu x_1 i)∧True)∧True)∧True)∧(True∧True)∧x_1∈QnT b∧∀(_y:Unit),True→QGv c x.1 b x.2∧QGv c x.1 b x.2∧SM x.2∧side ((x.1+N1)*(80:Nat)≤(140737488355328:Nat)∧x.1+N1≤(9223372036854775807:Nat)) (∀(t:Nat),SM c∧(SM (D.ref N0 a N0)∧SM (D.ref (max (N0+N1) N0) f N0)∧SM (D.ref (max N2 (max (N0+N1) N0)+nat_lit 9) c N0)∧True)∧∃(y:Nat×Nat),Qr5 y.1 b∧Qgc b-y.1<Qgc b-x.1∧(IntKind.wrap IntKind.i64 ((NI x.1)+Z1)=(NI y.1)∧True)∧(SM c∧(QnU b∧QGi b d∧QGk b e∧(x.1+N1=y.1∧(∀(i:Nat),i<x.1+N1→appF x.1 (fun (j:Nat)=>Qkk b j) (fun (i:Nat)=>List.getD [[QGf x_1,QGw x_1,QGe x_1,D.sl N4 (Qgc x_1) (fun (i:Nat)=>QGu x_1 i) Mode.any]] i []) i=Qkk b i)∧t=y.2)∧True)∧QGn f a b)∧t=y.2∧True))) (SM c∧SM f∧(SM f∧True)∧∃(_y:Unit),True∧(QnU b∧(Qip b=Qjb b∧(∀(i:Nat),i<Qip b→QGh b i=Qki b i)∧True)∧(Qiq b=Qjc b∧(∀(i:Nat),i<Qiq b→QGj b i=Qkg b i)∧True)∧(x.1=Qgc b∧(∀(i:Nat),i<x.1→QGm b i)∧True)∧True)∧True∧True)
def QGy(a:Nat)(b:Arr)(c d e:Nat):Prop:=Qr3 a b∧Qkh a b∧side (QGg b≤(140737488355328:Nat)∧Qiq b≤(9223372036854775807:Nat)) (∀(t:Nat),QGx a b c d t e)
theorem c2_step(a : Arr)(ha : a.nu.length ≤ 1000000 ∧ a.it.length ≤ 1000000 ∧ a.sh.length ≤ 1000000)(hc : ConOk Tryz.prog (conC2 a.it)) :
    ACalls Tryz.prog 158 ((sCl Arr.row2 Arr.row2 (fun _ => True)).args a) ⟨[],[]⟩ (SpecR (sCl Arr.row2 Arr.row2 (fun _ => True)) a) := by
  refine con_of (A := sCl Arr.row2 Arr.row2 (fun _ => True)) (x := a) (E := Ec2 a) (eOk hc rfl) Tryz.func158 rfl (by kernel_rfl) rfl (by simp [sCl,Ec2,EC,E0]) ?_
  refine vc_eq (T :=
    ∀ (x:Nat),True→∀ (x_1:Nat),x ≠ x_1∧True→SM x∧SM x∧SM x∧side (QGd a ≤ (140737488355328:Nat)∧Qip a ≤ (9223372036854775807:Nat)) (∀ (t:Nat),Qr3 x a∧Qkh x a∧side (QGg a ≤ (140737488355328:Nat)∧Qiq a ≤ (9223372036854775807:Nat)) (∀ (t_1:Nat),Qkh x a∧∀ (x_2:Nat),x_1 ≠ x_2∧x ≠ x_2∧True→QGx x a x_2 t t_1 x_1)∧∀ (x_2:Nat),x_1 ≠ x_2∧x ≠ x_2∧True→QGy x a x_2 t x_1)∧∀ (x_2:Nat),x_1 ≠ x_2∧x ≠ x_2∧True→Qr3 x a∧(SM x∧SM (QGw a))∧Qkh x a∧side (QGd a ≤ (140737488355328:Nat)∧Qip a ≤ (9223372036854775807:Nat)) (∀ (t:Nat),QGy x a x_2 t x_1)) (by kernel_rfl) ?_
  delta DA GI LN N0 N1 N2 N4 NI SI SM Z0 Z1 ZI Qjb Qip Qiq QGg QnT Qgc Qr5 QnU Qki QGh QGi QGj QGd QGk QnV Qkj QL7 QL8 QGl Qkk Qr6 QGm QGn Qjc QnW QGo QGp QGq QGr QGs QGt QGu QL9 QGv Qkg QGw QGx QGy QGe Qr3 Qr4 QGf Qkh
  have da:(default:Arr) = Arr.mk 0 [] [] [] := rfl
  simp only [← da,eq_self,implies_true,Int.toNat_natCast,ifB_iff,side_iff,decide_eq_true_eq,decide_eq_false_iff_not,true_and,and_true,exists_const,forall_const]
  obtain ⟨l1,l2,l3⟩ := ha
  repeat' (first | (rintro ⟨j,t⟩ (hj:j ≤ a.it.length)) | intro _ | refine And.intro ?_ ?_)
  all_goals try simp only at *
  all_goals first
    | omega
    | exact ⟨(0,_),Nat.zero_le _,rfl,⟨rfl,fun i hi => absurd hi (Nat.not_lt_zero _),rfl⟩,rfl⟩
    | exact ⟨a.it.getD j default,⟨rfl,⟨rfl,fun _ _ => rfl⟩,⟨rfl,fun _ _ => rfl⟩,rfl,fun _ _ => rfl⟩,mem_getD (by omega),⟨by omega,by omega⟩,fun t2 => ⟨(j + 1,t2),by simp only; omega,by simp only; omega,wrap_i64' (by omega) (by omega),⟨rfl,app_rw (g := Arr.row1) default,rfl⟩,rfl⟩⟩
    | (simp [appF]; done)
    | (have e : j = a.it.length := by omega
       subst e; rfl)
    | trace_state
  done
theorem c2_all:∀(a:Arr),(chkA a).1=0→ACalls Tryz.prog 158 [.agg a.row1] ⟨[],[]⟩ (SpecR (sCl Arr.row1 Arr.row1 (fun _=>True)) a)
 |.mk k s n is,h=>by
  obtain ⟨h1,h2,h3,h4⟩:=chkA_zero h
  have hc:ConOk Tryz.prog (conC2 (Arr.mk k s n is).it):=by
   intro k' ds S A hk
   unfold conC2 at hk
   split at hk
   ·injection hk with hk;subst hk
    refine ConOk.plain (fun (b:Arr) hb=>?_) rfl rfl
    have hb':b∈is:=hb
    exact (c2_all b (h4 b hb')).mono fun _ _ ⟨y,q1,q2,q3⟩=>⟨y,q1,q2,q3⟩
   ·cases hk
  have hm:=c2_step (.mk k s n is) ⟨by show n.length≤_;omega,by show is.length≤_;omega,by show s.length≤_;omega⟩ hc
  have hm2:ACalls Tryz.prog 158 [.agg (Arr.mk k s n is).row1] ⟨[],[]⟩ (SpecR (sCl Arr.row2 Arr.row2 (fun _=>True)) (.mk k s n is)):=by
   refine ACalls.wkArgs hm ?_
   simp only[sCl,wkL,wkD]
   exact⟨row1_wk _,trivial⟩
  refine ACalls.wkEnd hm2 fun r S' ⟨y,q1,q2,q3⟩=>?_
  subst q2 q3
  refine⟨.ret (.agg (Arr.mk k s n is).row1),fun C e he=>?_,⟨(),trivial,rfl,rfl⟩⟩
  cases e with
  |returned v =>
   refine wkD_weak (.agg (Arr.mk k s n is).row2) _ ?_ C v he
   simp only[wkD]
   exact row2_row1 _
  |panicked _=>exact he.elim
  |outgrown=>exact he.elim
termination_by a=>SizeOf.sizeOf a
decreasing_by
 have:=List.sizeOf_lt_of_mem hb'
 simp;omega
def RCl(a:Arr):Prop:=ACalls Tryz.prog 158 [.agg a.row1] ⟨[],[]⟩ (SpecR (sCl Arr.row1 Arr.row1 (fun _=>True)) a)
theorem conCr_of{its:List Arr}(h:∀b∈its,RCl b):ConOk Tryz.prog (conCr its):=by
 intro k' ds S A hk
 unfold conCr at hk
 split at hk
 ·injection hk with hk;subst hk
  exact ConOk.plain (fun (b:Arr) hb=>(h b hb).mono fun _ _ ⟨y,q1,q2,q3⟩=>⟨y,q1,q2,q3⟩) rfl rfl
 ·exact conRf_ok _ _ _ _ hk
theorem rlit_all0(hcl:∀b:Arr,(chkA b).1=0→RCl b):∀(a:Arr),a.ok→(chkA a).1=0→RLit a
 |.mk k s n is,ho,h=>by
  have lo:=lok_of ho h
  have hv:=(chkA_zero h).2.2.2
  have hok:∀b∈is,b.ok:=by
   simp only[Arr.ok] at ho
   exact (okL_iff _).1 ho.2.2.2.2.2.2
  have ih:∀b∈is,RLit b:=fun b hb=>rlit_all0 hcl b (hok b hb) (hv b hb)
  refine rlit_row2 (rlit_step (.mk k s n is) lo (conRl_ok lo ih (rfs lo.kd) (fun h1=>?_) (fun _=>conCr_of fun b hb=>hcl b (hv b hb)) (fun h1 _=>rlit_line lo ih (rfs lo.kd) h1)))
  have hsub:∀c∈(atA (.mk k s n is) 0).it,c∈is:=by
   intro c hc
   unfold atA at hc
   by_cases h3:(Arr.mk k s n is).k=3
   ·rw[if_pos h3] at hc
    have h2:is.length=1:=by
     have h4:n=[]:=lo.bx h3
     have h1:n.length+is.length=1:=h1
     rw[h4] at h1;simpa using h1
    have:c=is.getD 0 default:=List.mem_singleton.1 hc
    rw[this];exact mem_getD (by omega)
   ·rw[if_neg h3] at hc;cases hc
  have lo':=lok_at lo h1
  refine rsc_of lo' (lo'.sc ?_) (fun c hc=>ih c (hsub c hc))
  unfold atA
  split<;>rfl
termination_by a=>SizeOf.sizeOf a
decreasing_by
 have:=List.sizeOf_lt_of_mem hb
 simp;omega
theorem rlit_all(a:Arr)(ho:a.ok)(h:(chkA a).1=0):RLit a:=rlit_all0 (fun b hb=>c2_all b hb) a ho h
def conRtl(a:Arr):Con:=fun k _ _=>match k with
 |86=>some (sRc Arr.row1 (fun b=>b=a) errA)
 |122=>some (sRc Arr.row1 (fun b=>b=a∧(chkA a).1=0) (fun b=>.str (litA b)))
 |_=>none
theorem conRtl_ok{a:Arr}(ho:a.ok):ConOk Tryz.prog (conRtl a):=by
 intro k ds S A h
 unfold conRtl at h
 split at h
 ·injection h with h;subst h
  refine ConOk.plain (fun b hb=>?_) rfl rfl
  have hb:b=a:=hb
  rw[hb]
  exact sRc_row (rri_ok a ho)
 ·injection h with h;subst h
  refine ConOk.plain (fun b hb=>?_) rfl rfl
  obtain ⟨hb,h1⟩:b=a∧(chkA a).1=0:=hb
  rw[hb]
  exact sRc_row (rlit_all a ho h1)
 ·cases h
noncomputable def Ertl(a:Arr):Senv:=EC (conRtl a) 8 3 [5] (fun _=>([],[]))
def Qr7(a:Arr):Nat:=LN (Arr.sh a)
def QGz(a:Arr)(b:Nat):List D:=[ZI (GI (Arr.sh a) b)]
def Qr8(a:Arr):Nat:=LN (Arr.nu a)
def QGA(a:Arr)(b:Nat):List D:=[ZI (GI (Arr.nu a) b)]
def Qr9(a:Arr):Nat:=LN (Arr.it a)
def QGB(a:Arr)(b:Nat):List D:=Arr.row (GA (Arr.it a) b)
def QGC(a b:Arr):Prop:=(Arr.k a=Arr.k b∧(Qr7 a=Qr7 b∧(∀(i:Nat),i<Qr7 a→QGz a i=QGz b i)∧True)∧(Qr8 a=Qr8 b∧(∀(i:Nat),i<Qr8 a→QGA a i=QGA b i)∧True)∧(Qr9 a=Qr9 b∧(∀(i:Nat),i<Qr9 a→QGB a i=QGB b i)∧True)∧True)∧True
theorem rlitF_ok(a : Arr)(ho : a.ok) :
  ACalls Tryz.prog 99 ((sRc Arr.row1 (fun _=>True) (fun b=>.str (litF b))).args a) ⟨[],[]⟩ (SpecR (sRc Arr.row1 (fun _=>True) (fun b=>.str (litF b))) a):=by
 refine con_of (A:=sRc Arr.row1 (fun _=>True) (fun b=>.str (litF b))) (x:=a) (E:=Ertl a) (eOk (conRtl_ok ho) rfl) Tryz.func99 rfl (by kernel_rfl) rfl (by simp[sRc,Ertl,EC,E0]) ?_
 refine vc_eq (T :=
  ∀(x:Nat),True→SM x∧∃(x_1:Arr),QGC a x_1∧(True∧True)∧x_1=a∧∀(y:Unit),True→ifB (Prod.fst (chkA x_1) != Z0) (RT (eqOf (List UInt8) [] (litF a))) (SM x∧∃(x:Arr),QGC a x∧(True∧True)∧(x=a∧Prod.fst (chkA a)=Z0)∧∀(y:Unit),True→RT (litA x=litF a))) (by kernel_rfl) ?_
 delta DA GA GI LN SM Z0 ZI Qr7 QGz Qr8 QGA Qr9 QGB QGC RT
 have da:(default:Arr)=Arr.mk 0 [] [] []:=rfl
 simp only[← da,ifB_iff,true_and,and_true,bne_iff_ne,ne_eq,exists_const,forall_const]
 refine⟨a,⟨rfl,⟨rfl,fun _ _=>rfl⟩,⟨rfl,fun _ _=>rfl⟩,rfl,fun _ _=>rfl⟩,rfl,fun h=>by rw[litF,if_neg h],fun h=>?_⟩
 have h:(chkA a).1=0:=by simpa using h
 exact⟨a,⟨rfl,⟨rfl,fun _ _=>rfl⟩,⟨rfl,fun _ _=>rfl⟩,rfl,fun _ _=>rfl⟩,⟨rfl,h⟩,by rw[litF,if_pos h]⟩
def RRS(a b:Nd):Prop:=CD 19 [.agg a.row2,.agg b.row2] (.bool (sameT (stN a) (stN b)))
noncomputable def conRb:Con:=fun k ds S=>match k with
 |19=>some (pE (β:=Nd×Nd) ds S (fun x=>.bool (sameT (stN x.1) (stN x.2))) (fun x=>wkL ds [.agg x.1.row1,.agg x.2.row1]∧RRS x.1 x.2))
 |_=>none
theorem conRb_ok:ConOk Tryz.prog conRb:=by
 intro k ds S A hh
 unfold conRb at hh
 split at hh
 ·injection hh with hh;subst hh
  exact pS_ok fun x ⟨e,h1⟩=>CD.at_ (CD.wk (CD.wk h1 two_wk) e) _
 ·cases hh
noncomputable def Erb(l m:List Sm):Senv:={ EC conRb 64 2 [4,5,9,63] (fun id=>match id with | 4=>([0,1,2,3,4,5,6,7,8,9,10,11,12,13,14,15,16,17,18,19,20,21,22,23,24,25,26,27,28,29,30,31,32,33,34,35,36,37,38,39,40,41,42,43,44,45,46,47,48,49,50,51],[35,49]) | _=>([],[])) with
 mg:=fun _=>2
 ann:=fun q _ S=>match q with
  |0=>some { slots:=[5],keep:=[0,1,2,3],α:=Nat,st:=fun i=>([.int .i64 i],S),inv:=fun i=>i≤l.length∧∀j,j<i→stM (l.getD j default)=stM (m.getD j default),mu:=fun i=>l.length-i }
  |_=>none }
def Kj:Arr:=DA
def Q5:Nd:=Nd.mk Z0 Z0 Z0 [] Z0 Z0 Kj [] [] Z0 Z0 Z0
def Q6:Sm:=Sm.mk Z0 Z0 [] Z0 Q5 Q5
def QU(a:List Sm)(b:Nat):Sm:=List.getD a b Q6
def Xr(a:List Sm)(b:Nat):Sm:=stM (QU a b)
def JJ(a:Nat)(b c:List Sm):Prop:=a≤LN b∧∀(j:Nat),j<a→Xr b j=Xr c j
def KE(a:List Sm)(b:Nat):Sm:=List.getD a (Int.toNat (↑b:Int)) Q6
def Xs(a:List Sm)(b:Nat):Int:=Sm.kd (KE a b)
def KF(a b:List Sm):Prop:=True∧∃(_y:Unit),True∧false=sameT (List.map stM a) (List.map stM b)∧True∧True
def Xt(a:List Sm)(b:Nat):List UInt8:=Sm.nm (KE a b)
def Qi(a:List Sm)(b:Nat):Nd:=Sm.te (KE a b)
def KG(a:List Sm)(b:Nat):Arr:=Nd.va (Qi a b)
def Qaj(a:List Sm)(b:Nat):List Int:=Arr.sh (KG a b)
def Qak(a:List Sm)(b:Nat):List Int:=Arr.nu (KG a b)
def Xu(a:List Sm)(b:Nat):List Arr:=Arr.it (KG a b)
def Xv(a:List Sm)(b:Nat):List Nd:=Nd.ki (Qi a b)
def Xw(a:List Sm)(b:Nat):List Sm:=Nd.bo (Qi a b)
def Xx(a:List Sm)(b:Nat):D:=D.agg [ZI (Nd.kd (Qi a b)),ZI (Nd.at_ (Qi a b)),ZI (Nd.cl (Qi a b)),D.str (Nd.tx (Qi a b)),ZI (Nd.pr (Qi a b)),ZI (Nd.op (Qi a b)),ZI (Arr.k (KG a b)),SI (Qaj a b),SI (Qak a b),D.sl N4 (LN (Xu a b)) (fun (i:Nat)=>Arr.row (List.getD (Xu a b) i Kj)) Mode.any,D.sl (15:Nat) (LN (Xv a b)) (fun (i:Nat)=>Nd.row (List.getD (Xv a b) i Q5)) Mode.any,D.sl (34:Nat) (LN (Xw a b)) (fun (i:Nat)=>Sm.row (List.getD (Xw a b) i Q6)) Mode.any,ZI (Nd.de (Qi a b)),ZI (Nd.sl (Qi a b)),ZI (Nd.ss (Qi a b))]
def Xy(a b:Nd):List D:=[D.agg (Nd.row1 a),D.agg (Nd.row1 b)]
def Xz(a b:Nd):Bool:=!sameT (stN a) (stN b)
def Qj(a:List Sm)(b:Nat):Nd:=Sm.nd (KE a b)
def KH(a:List Sm)(b:Nat):Arr:=Nd.va (Qj a b)
def Qal(a:List Sm)(b:Nat):List Int:=Arr.sh (KH a b)
def Qam(a:List Sm)(b:Nat):List Int:=Arr.nu (KH a b)
def XA(a:List Sm)(b:Nat):List Arr:=Arr.it (KH a b)
def XB(a:List Sm)(b:Nat):List Nd:=Nd.ki (Qj a b)
def XC(a:List Sm)(b:Nat):List Sm:=Nd.bo (Qj a b)
def XD(a:List Sm)(b:Nat):D:=D.agg [ZI (Nd.kd (Qj a b)),ZI (Nd.at_ (Qj a b)),ZI (Nd.cl (Qj a b)),D.str (Nd.tx (Qj a b)),ZI (Nd.pr (Qj a b)),ZI (Nd.op (Qj a b)),ZI (Arr.k (KH a b)),SI (Qal a b),SI (Qam a b),D.sl N4 (LN (XA a b)) (fun (i:Nat)=>Arr.row (List.getD (XA a b) i Kj)) Mode.any,D.sl (15:Nat) (LN (XB a b)) (fun (i:Nat)=>Nd.row (List.getD (XB a b) i Q5)) Mode.any,D.sl (34:Nat) (LN (XC a b)) (fun (i:Nat)=>Sm.row (List.getD (XC a b) i Q6)) Mode.any,ZI (Nd.de (Qj a b)),ZI (Nd.sl (Qj a b)),ZI (Nd.ss (Qj a b))]
def Qk(a:List Sm)(b:Nat):Nd:=Sm.te (QU a b)
def KI(a:List Sm)(b:Nat):Arr:=Nd.va (Qk a b)
def Qan(a:List Sm)(b:Nat):List Int:=Arr.sh (KI a b)
def Qao(a:List Sm)(b:Nat):List Int:=Arr.nu (KI a b)
def XE(a:List Sm)(b:Nat):List Arr:=Arr.it (KI a b)
def XF(a:List Sm)(b:Nat):List Nd:=Nd.ki (Qk a b)
def XG(a:List Sm)(b:Nat):List Sm:=Nd.bo (Qk a b)
def Ql(a:List Sm)(b:Nat):Nd:=Sm.nd (QU a b)
def KJ(a:List Sm)(b:Nat):Arr:=Nd.va (Ql a b)
def Qap(a:List Sm)(b:Nat):List Int:=Arr.sh (KJ a b)
def Qaq(a:List Sm)(b:Nat):List Int:=Arr.nu (KJ a b)
def XH(a:List Sm)(b:Nat):List Arr:=Arr.it (KJ a b)
def XI(a:List Sm)(b:Nat):List Nd:=Nd.ki (Ql a b)
def XJ(a:List Sm)(b:Nat):List Sm:=Nd.bo (Ql a b)
def Qar(a:List Sm):D:=D.sl (34:Nat) (LN a) (fun (i:Nat)=>[ZI (Sm.kd (QU a i)),ZI (Sm.at_ (QU a i)),D.str (Sm.nm (QU a i)),ZI (Sm.sl (QU a i)),ZI (Nd.kd (Qk a i)),ZI (Nd.at_ (Qk a i)),ZI (Nd.cl (Qk a i)),D.str (Nd.tx (Qk a i)),ZI (Nd.pr (Qk a i)),ZI (Nd.op (Qk a i)),ZI (Arr.k (KI a i)),SI (Qan a i),SI (Qao a i),D.sl N4 (LN (XE a i)) (fun (i_1:Nat)=>Arr.row (List.getD (XE a i) i_1 Kj)) Mode.any,D.sl (15:Nat) (LN (XF a i)) (fun (i_1:Nat)=>Nd.row (List.getD (XF a i) i_1 Q5)) Mode.any,D.sl (34:Nat) (LN (XG a i)) (fun (i_1:Nat)=>Sm.row (List.getD (XG a i) i_1 Q6)) Mode.any,ZI (Nd.de (Qk a i)),ZI (Nd.sl (Qk a i)),ZI (Nd.ss (Qk a i)),ZI (Nd.kd (Ql a i)),ZI (Nd.at_ (Ql a i)),ZI (Nd.cl (Ql a i)),D.str (Nd.tx (Ql a i)),ZI (Nd.pr (Ql a i)),ZI (Nd.op (Ql a i)),ZI (Arr.k (KJ a i)),SI (Qap a i),SI (Qaq a i),D.sl N4 (LN (XH a i)) (fun (i_1:Nat)=>Arr.row (List.getD (XH a i) i_1 Kj)) Mode.any,D.sl (15:Nat) (LN (XI a i)) (fun (i_1:Nat)=>Nd.row (List.getD (XI a i) i_1 Q5)) Mode.any,D.sl (34:Nat) (LN (XJ a i)) (fun (i_1:Nat)=>Sm.row (List.getD (XJ a i) i_1 Q6)) Mode.any,ZI (Nd.de (Ql a i)),ZI (Nd.sl (Ql a i)),ZI (Nd.ss (Ql a i))]) Mode.any
def XK(a:List Sm):Prop:=SM (Qar a)
theorem rbd_step(l m:List Sm)(he:l.length=m.length)(hl:l.length≤maxLen)(h:∀x∈l,∀y∈m,RRS x.te y.te∧RRS x.nd y.nd):CD 43 [gsl 34 Sm.row1 l,gsl 34 Sm.row1 m] (.bool (sameT (l.map stM) (m.map stM))):=by
 refine con_of (A:=sC _ _) (x:=()) (E:=Erb l m) (eOk conRb_ok rfl) Tryz.func43 rfl (by kernel_rfl) rfl (by simp[sC,Erb,EC,E0]) ?_
 refine vc_eq (T :=
  (∃(x:Nat),JJ x l m∧(Z0=(↑x:Int)∧True)∧True∧True)∧∀(x:Nat),JJ x l m→ifB (decide ((↑x:Int)<(LI l))) (side (Z0≤(↑x:Int)∧(↑x:Int)<(LI l)) (side (Z0≤(↑x:Int)∧(↑x:Int)<(LI m)) (ifB (Xs l x != Xs m x) (KF l m) (side (Z0≤(↑x:Int)∧(↑x:Int)<(LI l)) (side (Z0≤(↑x:Int)∧(↑x:Int)<(LI m)) (ifB (Xt l x != Xt m x) (KF l m) (side (Z0≤(↑x:Int)∧(↑x:Int)<(LI l)) (side (Z0≤(↑x:Int)∧(↑x:Int)<(LI m)) (∃(x_1:Nd×Nd),(wkL [Xx l x,Xx m x] (Xy x_1.1 x_1.2)∧RRS x_1.1 x_1.2)∧∀(y:Unit),True→ifB (Xz x_1.1 x_1.2) (KF l m) (side (Z0≤(↑x:Int)∧(↑x:Int)<(LI l)) (side (Z0≤(↑x:Int)∧(↑x:Int)<(LI m)) (∃(x_2:Nd×Nd),(wkL [XD l x,XD m x] (Xy x_2.1 x_2.2)∧RRS x_2.1 x_2.2)∧∀(y:Unit),True→ifB (Xz x_2.1 x_2.2) (KF l m) ((XK l∧XK m∧SM D.unk∧SM D.unk∧True)∧∃(y:Nat),JJ y l m∧LN l-y<LN l-x∧(IntKind.wrap IntKind.i64 ((↑x:Int)+Z1)=(↑y:Int)∧True)∧True∧True))))))))))))) (RT (true=sameT (List.map stM l) (List.map stM m)))) (by kernel_rfl) ?_
 delta DA GI LI LN N1 N4 SI SM Z0 Z1 ZI Kj Q5 Qi KG Qaj Qak Xu Xv Xw Xx Xy Xz Q6 Qj KH Qal Qam XA XB XC XD Qk KI QU Qan Qao XE XF XG Ql KJ Qap Qaq XH Xr XI XJ Qar XK JJ KE Xs KF Xt RT
 try simp only[← dm]
 try simp only[← dn]
 simp only[ne_eq,Int.toNat_natCast,ifB_iff,side_iff,decide_eq_true_eq,decide_eq_false_iff_not,true_and,and_true,bne_iff_ne,bne_eq_false_iff_eq,Bool.not_eq_true',Bool.not_eq_false',exists_const,forall_const,Prod.exists]
 have gm:∀ {i:Nat},i<l.length→i<m.length→l.getD i default∈l∧m.getD i default∈m:=fun h1 h2=>⟨by rw[List.getD_eq_getElem?_getD,List.getElem?_eq_getElem h1];exact List.getElem_mem h1,by rw[List.getD_eq_getElem?_getD,List.getElem?_eq_getElem h2];exact List.getElem_mem h2⟩
 have no:∀ {α:Type} {x y:α},sameT x y=false→x≠y:=fun h e=>by rw[sameT_iff.2 e] at h;cases h
 have gmap:∀ {l:List Sm} {i:Nat},i<l.length→(l.map stM).getD i (stM default)=stM (l.getD i default):=fun h=>by simp[List.getD_eq_getElem?_getD,h]
 have neq:∀ {i:Nat},i<l.length→stM (l.getD i default)≠stM (m.getD i default)→false=sameT (l.map stM) (m.map stM):=fun hi hn=>sameT_no fun e=>hn (by rw[← gmap hi,← gmap (by omega),e])
 simp only[maxLen] at hl
 refine⟨⟨0,⟨Nat.zero_le _,fun j hj=>absurd hj (by omega)⟩,rfl⟩,fun i ⟨i1,hi⟩=>⟨fun hlt=>?_,fun hge=>sameT_yes ?_⟩⟩
 ·have hi1:i<l.length:=by omega
  have hi2:i<m.length:=by omega
  obtain ⟨q1,q2⟩:=h _ (gm hi1 hi2).1 _ (gm hi1 hi2).2
  have iff:=stM_iff (l.getD i default) (m.getD i default)
  refine⟨⟨by omega,by omega⟩,⟨by omega,by omega⟩,fun a1=>neq hi1 fun e=>a1 (iff.1 e).1,fun a1=>⟨⟨by omega,by omega⟩,⟨by omega,by omega⟩,fun a2=>neq hi1 fun e=>a2 (iff.1 e).2.1,fun a2=>⟨⟨by omega,by omega⟩,⟨by omega,by omega⟩,(l.getD i default).te,(m.getD i default).te,⟨wkL_refl _,q1⟩,fun a3=>neq hi1 fun e=>no a3 (iff.1 e).2.2.1,fun a3=>⟨⟨by omega,by omega⟩,⟨by omega,by omega⟩,(l.getD i default).nd,(m.getD i default).nd,⟨wkL_refl _,q2⟩,?_⟩⟩⟩⟩
  have fin:sameT (stN (l.getD i default).nd) (stN (m.getD i default).nd)=true→∃y,(y≤l.length∧∀(j:Nat),j<y→stM (l.getD j default)=stM (m.getD j default))∧l.length-y<l.length-i∧IntKind.i64.wrap ((i:Int)+1)=(y:Int):=fun a4 =>
   ⟨i+1,⟨hi1,fun j hj=>by
    by_cases q:j=i
    ·rw[q];exact iff.2 ⟨a1,a2,sameT_iff.1 a3,sameT_iff.1 a4⟩
    ·exact hi j (by omega)⟩,by omega,wrap_i64' (by omega) (by omega)⟩
  exact⟨fun a4=>neq hi1 fun e=>no a4 (iff.1 e).2.2.2,fin⟩
 ·refine eq_getD (stM default) (by simpa using he) fun j hj=>?_
  have hj:j<l.length:=by simpa using hj
  rw[gmap hj,gmap (by omega)]
  exact hi j (by omega)
noncomputable def conRsm(a b:Nd):Con:=fun k ds S=>match k with
 |19=>some (pE (β:=Nd×Nd) ds S (fun x=>.bool (sameT (stN x.1) (stN x.2))) (fun x=>wkL ds [.agg x.1.row1,.agg x.2.row1]∧RRS x.1 x.2))
 |42=>some (pA ds S (.bool (sameA a.va b.va)) (wkL ds [.agg a.va.row1,.agg b.va.row1]))
 |43=>some (pA ds S (.bool (sameT (a.bo.map stM) (b.bo.map stM))) (a.bo.length=b.bo.length∧wkL ds [gsl 34 Sm.row1 a.bo,gsl 34 Sm.row1 b.bo]))
 |_=>none
noncomputable def Ersm(a b:Nd):Senv:={ EC (conRsm a b) 89 6 [64,69,83] (fun id=>match id with | 6=>([0,1,2,3,4,5,6,7,8,9,10,11],[10]) | _=>([],[])) with
 mg:=fun _=>2
 ann:=fun q _ S=>match q with
  |0=>some { slots:=[5],keep:=[0,1,2,3],α:=Nat,st:=fun i=>([.int .i64 i],S),inv:=fun i=>i≤a.ki.length∧∀j,j<i→stN (a.ki.getD j default)=stN (b.ki.getD j default),mu:=fun i=>a.ki.length-i }
  |_=>none }
def KK(a:Nd):Int:=Nd.kd a
def JK(a b:Nd):Bool:=sameT (stN a) (stN b)
def Qt(a b:Nd):Prop:=True∧∃(_y:Unit),True∧false=JK a b∧True∧True
def KL(a:Nd):Int:=Nd.cl a
def KM(a:Nd):List UInt8:=Nd.tx a
def KN(a:Nd):Int:=Nd.pr a
def KO(a:Nd):Int:=Nd.op a
def Q7(a:Nd):Arr:=Nd.va a
def XL(a:Nd):Int:=Arr.k (Q7 a)
def XM(a:Nd):D:=ZI (XL a)
def XN(a:Nd):List Int:=Arr.sh (Q7 a)
def JL(a:Nd):Nat:=LN (XN a)
def XO(a:Nd)(b:Nat):List D:=[ZI (GI (XN a) b)]
def XP(a:Nd):D:=D.sl N1 (JL a) (fun (i:Nat)=>XO a i) Mode.any
def XQ(a:Nd):List Int:=Arr.nu (Q7 a)
def JM(a:Nd):Nat:=LN (XQ a)
def XR(a:Nd)(b:Nat):List D:=[ZI (GI (XQ a) b)]
def XS(a:Nd):D:=D.sl N1 (JM a) (fun (i:Nat)=>XR a i) Mode.any
def XT(a:Nd):List Arr:=Arr.it (Q7 a)
def JN(a:Nd):Nat:=LN (XT a)
def JO:Arr:=DA
def XU(a:Nd)(b:Nat):List D:=Arr.row (List.getD (XT a) b JO)
def XV(a:Nd):D:=D.sl N4 (JN a) (fun (i:Nat)=>XU a i) Mode.any
def XW(a:Nd):D:=D.agg [XM a,XP a,XS a,XV a]
def XX(a b:Nd):List D:=[XW a,XW b]
def JP(a:Nd):List Nd:=Nd.ki a
def QV(a:Nd):Nat:=LN (JP a)
def Kk(a:Nd):Int:=(NI (QV a))
def KP(a:Nd):List Sm:=Nd.bo a
def QW(a:Nd):Nat:=LN (KP a)
def Kl:Nd:=Nd.mk Z0 Z0 Z0 [] Z0 Z0 JO [] [] Z0 Z0 Z0
def XY(a:Nd)(b:Nat):Nd:=List.getD (JP a) b Kl
def XZ(a:Nd)(b:Nat):Nd:=stN (XY a b)
def JQ(a:Nat)(b c:Nd):Prop:=a≤QV b∧∀(j:Nat),j<a→XZ b j=XZ c j
def X0(a:Nd):Int:=Nd.at_ a
def X1(a:Nd)(b:Nat):List D:=Nd.row1 (XY a b)
def X2:Sm:=Sm.mk Z0 Z0 [] Z0 Kl Kl
def X3(a:Nd)(b:Nat):List D:=Sm.row1 (List.getD (KP a) b X2)
def X4(a:Nd):Int:=Nd.de a
def X5(a:Nd):Int:=Nd.sl a
def X6(a:Nd):Int:=Nd.ss a
def X7(a:Nd):Prop:=SM (KK a)∧SM (X0 a)∧SM (KL a)∧SM (KM a)∧SM (KN a)∧SM (KO a)∧SM (XL a)∧(SM (JL a)∧(∀(i:Nat),i<JL a→SM (XO a i))∧True)∧(SM (JM a)∧(∀(i:Nat),i<JM a→SM (XR a i))∧True)∧(SM (JN a)∧(∀(i:Nat),i<JN a→SM (XU a i))∧True)∧(SM (QV a)∧(∀(i:Nat),i<QV a→SM (X1 a i))∧True)∧(SM (QW a)∧(∀(i:Nat),i<QW a→SM (X3 a i))∧True)∧SM (X4 a)∧SM (X5 a)∧SM (X6 a)∧True
def X8(a:Nat)(b:Nd)(c:Nat)(d:Nd):Prop:=(SM a∧X7 b∧SM c∧X7 d∧True)∧True
def Qm(a:Nd)(b:Nat):Nd:=List.getD (JP a) (Int.toNat (↑b:Int)) Kl
def KQ(a:Nd)(b:Nat):Arr:=Nd.va (Qm a b)
def Qas(a:Nd)(b:Nat):List Int:=Arr.sh (KQ a b)
def Qat(a:Nd)(b:Nat):List Int:=Arr.nu (KQ a b)
def X9(a:Nd)(b:Nat):List Arr:=Arr.it (KQ a b)
def Ya(a:Nd)(b:Nat):List Nd:=Nd.ki (Qm a b)
def Yb(a:Nd)(b:Nat):List Sm:=Nd.bo (Qm a b)
def Yc(a:Nd)(b:Nat):D:=D.agg [ZI (Nd.kd (Qm a b)),ZI (Nd.at_ (Qm a b)),ZI (Nd.cl (Qm a b)),D.str (Nd.tx (Qm a b)),ZI (Nd.pr (Qm a b)),ZI (Nd.op (Qm a b)),ZI (Arr.k (KQ a b)),SI (Qas a b),SI (Qat a b),D.sl N4 (LN (X9 a b)) (fun (i:Nat)=>Arr.row (List.getD (X9 a b) i JO)) Mode.any,D.sl (15:Nat) (LN (Ya a b)) (fun (i:Nat)=>Nd.row (List.getD (Ya a b) i Kl)) Mode.any,D.sl (34:Nat) (LN (Yb a b)) (fun (i:Nat)=>Sm.row (List.getD (Yb a b) i X2)) Mode.any,ZI (Nd.de (Qm a b)),ZI (Nd.sl (Qm a b)),ZI (Nd.ss (Qm a b))]
def JR(a:Nd):D:=D.sl (34:Nat) (QW a) (fun (i:Nat)=>X3 a i) Mode.any
def Qau(a:Nd):D:=D.agg [ZI (KK a),ZI (X0 a),ZI (KL a),D.str (KM a),ZI (KN a),ZI (KO a),XM a,XP a,XS a,XV a,D.sl (15:Nat) (QV a) (fun (i:Nat)=>X1 a i) Mode.any,JR a,ZI (X4 a),ZI (X5 a),ZI (X6 a)]
def Yd(a:Nd):Prop:=SM (Qau a)
def Ye(a b:Nd):List D:=[JR a,JR b]
theorem rsm_step(a b:Nd)(ha:a.sm∧a.va.ok)(hb:b.sm∧b.va.ok)(h1:∀x∈a.ki,∀y∈b.ki,RRS x y)(h2:∀x∈a.bo,∀y∈b.bo,RRS x.te y.te∧RRS x.nd y.nd):RRS a b:=by
 refine con_of (A:=sC _ _) (x:=()) (E:=Ersm a b) (eOk ?_ rfl) Tryz.func19 rfl (by kernel_rfl) rfl (by simp[sC,Ersm,EC,E0]) ?_
 ·intro k ds S A hh
  unfold conRsm at hh
  have a1:=sm_len ha.1
  split at hh
  ·injection hh with hh;subst hh
   exact pS_ok fun x ⟨e,h1⟩=>CD.at_ (CD.wk (CD.wk h1 two_wk) e) _
  ·injection hh with hh;subst hh
   refine pA_ok fun e=>CD.at_ (CD.wk (us:=[.agg a.va.row1,.agg b.va.row1]) ?_ e) _
   exact (sSm_row (q':=fun _=>True) (same_all a.va b.va ha.2 hb.2)).mono fun _ _ ⟨y,q1,q2,q3⟩=>⟨(),trivial,q2,q3⟩
  ·injection hh with hh;subst hh
   exact pA_ok fun ⟨hl,e⟩=>CD.at_ (CD.wk (rbd_step a.bo b.bo hl (maxB_le a1.2.2) h2) e) _
  ·cases hh
 refine vc_eq (T :=
  ∀(x:Nat),True→∀(x_1:Nat),x≠x_1∧True→SM x∧SM x_1∧ifB (KK a != KK b) (Qt a b) (SM x∧SM x_1∧ifB (KL a != KL b) (Qt a b) (SM x∧SM x_1∧ifB (KM a != KM b) (Qt a b) (SM x∧SM x_1∧ifB (KN a != KN b) (Qt a b) (SM x∧SM x_1∧ifB (KO a != KO b) (Qt a b) (SM x∧SM x_1∧∃(x_2:Unit),wkL (XX a b) (XX a b)∧∀(y:Unit),True→ifB (!sameA (Q7 a) (Q7 b)) (Qt a b) (SM x∧SM x_1∧ifB (Kk a != Kk b) (Qt a b) (SM x∧SM x_1∧ifB ((NI (QW a)) != (NI (QW b))) (Qt a b) ((∃(x_3:Nat),JQ x_3 a b∧(Z0=(↑x_3:Int)∧True)∧X8 x_1 b x a)∧∀(x_3:Nat),JQ x_3 a b→SM x∧ifB (decide ((↑x_3:Int)<Kk a)) (SM x∧side (Z0≤(↑x_3:Int)∧(↑x_3:Int)<Kk a) (SM x_1∧side (Z0≤(↑x_3:Int)∧(↑x_3:Int)<Kk b) (∃(x_4:Nd×Nd),(wkL [Yc a x_3,Yc b x_3] [D.agg (Nd.row1 x_4.1),D.agg (Nd.row1 x_4.2)]∧RRS x_4.1 x_4.2)∧∀(y:Unit),True→ifB (!JK x_4.1 x_4.2) (Qt a b) ((Yd a∧Yd b∧SM (D.ref N0 x N0)∧SM (D.ref (max (N0+N1) N0) x_1 N0)∧True)∧∃(y:Nat),JQ y a b∧QV a-y<QV a-x_3∧(IntKind.wrap IntKind.i64 ((↑x_3:Int)+Z1)=(↑y:Int)∧True)∧X8 x_1 b x a)))) (SM x∧SM x_1∧∃(x:Unit),(QW a=QW b∧wkL (Ye a b) (Ye a b))∧∀(y:Unit),True→RT (sameT (List.map stM (KP a)) (List.map stM (KP b))=JK a b))))))))))) (by kernel_rfl) ?_
 delta DA GI LN N0 N1 N4 NI SI SM Z0 Z1 ZI KK JK Qt KL KM KN KO Q7 XL XM XN JL XO XP XQ JM XR XS XT JN JO XU XV XW XX JP QV Kk KP QW Kl XY XZ JQ X0 X1 X2 X3 X4 X5 X6 X7 X8 Qm KQ Qas Qat X9 Ya Yb Yc JR Qau Yd Ye RT
 try simp only[← dm]
 try simp only[← dn]
 simp only[ne_eq,implies_true,Int.toNat_natCast,ifB_iff,side_iff,decide_eq_true_eq,decide_eq_false_iff_not,true_and,and_true,bne_iff_ne,bne_eq_false_iff_eq,Bool.not_eq_true',Bool.not_eq_false',exists_const,forall_const,Prod.exists]
 have iff:=stN_iff a b
 have no:∀ {α:Type} {x y:α},sameT x y=false→x≠y:=fun h e=>by rw[sameT_iff.2 e] at h;cases h
 have na:sameA a.va b.va=false→a.va≠b.va:=fun h e=>by rw[sameA_iff.2 e] at h;cases h
 have hl:=maxB_le (sm_len ha.1).2.1
 unfold maxLen at hl
 have gmap:∀ {l:List Nd} {i:Nat},i<l.length→(l.map stN).getD i (stN default)=stN (l.getD i default):=fun h=>by simp[List.getD_eq_getElem?_getD,h]
 refine fun u v _=>⟨fun c=>sameT_no fun e=>c (iff.1 e).1,fun a1=>⟨fun c=>sameT_no fun e=>c (iff.1 e).2.1,fun a2=>⟨fun c=>sameT_no fun e=>c (iff.1 e).2.2.1,fun a3=>⟨fun c=>sameT_no fun e=>c (iff.1 e).2.2.2.1,fun a4=>⟨fun c=>sameT_no fun e=>c (iff.1 e).2.2.2.2.1,fun a5=>⟨wkL_refl _,fun c=>sameT_no fun e=>na c (iff.1 e).2.2.2.2.2.1,fun a6=>⟨fun c=>sameT_no fun e=>?_,fun hk=>⟨fun c=>sameT_no fun e=>?_,fun hb2=>⟨⟨0,⟨Nat.zero_le _,fun j hj=>absurd hj (by omega)⟩,rfl⟩,fun i ⟨i1,hi⟩=>⟨fun hlt=>?_,fun hge=>?_⟩⟩⟩⟩⟩⟩⟩⟩⟩⟩
 ·have:=congrArg List.length (iff.1 e).2.2.2.2.2.2.1
  simp only[List.length_map] at this
  omega
 ·have:=congrArg List.length (iff.1 e).2.2.2.2.2.2.2
  simp only[List.length_map] at this
  omega
 ·have hi1:i<a.ki.length:=by omega
  have hi2:i<b.ki.length:=by omega
  refine⟨⟨by omega,by omega⟩,⟨by omega,by omega⟩,a.ki.getD i default,b.ki.getD i default,⟨wkL_refl _,h1 _ (nd_getD hi1) _ (nd_getD hi2)⟩,fun c=>sameT_no fun e=>no c ?_,fun c=>⟨i+1,⟨hi1,fun j hj=>?_⟩,by omega,wrap_i64' (by omega) (by omega)⟩⟩
  ·rw[← gmap hi1,← gmap hi2,(iff.1 e).2.2.2.2.2.2.1]
  ·by_cases q:j=i
   ·rw[q];exact sameT_iff.1 c
   ·exact hi j (by omega)
 ·have hki:a.ki.map stN=b.ki.map stN:=by
   refine eq_getD (stN default) (by simp only[List.length_map];omega) fun j hj=>?_
   have hj:j<a.ki.length:=by simpa using hj
   rw[gmap hj,gmap (by omega)]
   exact hi j (by omega)
  refine⟨⟨by omega,wkL_refl _⟩,?_⟩
  exact sameT_congr ⟨fun e=>iff.2 ⟨a1,a2,a3,a4,a5,sameA_iff.1 a6,hki,e⟩,fun e=>(iff.1 e).2.2.2.2.2.2.2⟩
theorem rsm_ok(a b:Nd)(ha:a.ok∧a.sm)(hb:b.ok∧b.sm):RRS a b :=
  rsm_step a b ⟨ha.2,va_ok ha.1⟩ ⟨hb.2,va_ok hb.1⟩ (fun x hx y hy => rsm_ok x y ⟨ki_ok ha.1 x hx,sm_kid ha.2 (kid_inner hx)⟩ ⟨ki_ok hb.1 y hy,sm_kid hb.2 (kid_inner hy)⟩) fun x hx y hy =>
    ⟨rsm_ok x.te y.te ⟨(sm_ok2 (bo_ok' ha.1 x hx)).1,(sm_sm2 (sm_bo ha.2 x hx)).1⟩ ⟨(sm_ok2 (bo_ok' hb.1 y hy)).1,(sm_sm2 (sm_bo hb.2 y hy)).1⟩,
     rsm_ok x.nd y.nd ⟨(sm_ok2 (bo_ok' ha.1 x hx)).2,(sm_sm2 (sm_bo ha.2 x hx)).2⟩ ⟨(sm_ok2 (bo_ok' hb.1 y hy)).2,(sm_sm2 (sm_bo hb.2 y hy)).2⟩⟩
termination_by SizeOf.sizeOf a
decreasing_by
  · exact Nd.size_kid hx
  · have := Nd.size_stmt hx
    have := Sm.size_te x
    omega
  · have := Nd.size_stmt hx
    have := Sm.size_nd x
    omega
def zA:Arr:=.mk 0 [] [] []
theorem zA_ok:zA.ok:=by simp[zA,Arr.ok,okL,inI64,maxLen]
theorem same_zero(a:Arr):sameA a zA=zeroA a:=by
 cases a with
 |mk k s n i =>
  rw[Bool.eq_iff_iff,sameA_iff]
  unfold zeroA
  simp[zA,Arr.k,Arr.sh,Arr.nu,Arr.it,and_assoc]
def zarr:List D:=[.int .i64 0,.sl 1 0 (fun _=>[]) .nil,.sl 1 0 (fun _=>[]) .nil,.sl 1 0 (fun _=>[]) .nil]
theorem zarr_wk:wkL zarr zA.row1:=by
 simp[zarr,zA,Arr.row1,Arr.k,Arr.sh,Arr.nu,Arr.it,isl,gsl,wkL,wkD,weakD,chk_iff,weakM,nilMB,kEq]
theorem two_za(n:Nd):wkL [.agg n.va.row1,.agg zarr] [.agg n.va.row1,.agg zA.row1]:=by
 simp only[wkL,wkD]
 exact⟨wkL_refl _,zarr_wk,trivial⟩
def conEp(n:Nd):Con:=fun k ds S=>match k with
 |42=>some (pA ds S (.bool (zeroA n.va)) (wkL ds [.agg n.va.row1,.agg zA.row1]))
 |_=>none
theorem conEp_ok{n:Nd}(h:n.va.ok):ConOk Tryz.prog (conEp n):=by
 intro k ds S A hh
 unfold conEp at hh
 split at hh
 ·injection hh with hh;subst hh
  refine pA_ok fun e=>CD.at_ (CD.wk (us:=[.agg n.va.row1,.agg zA.row1]) ?_ e) _
  rw[← same_zero]
  exact (sSm_row (q':=fun _=>True) (same_all n.va zA h zA_ok)).mono fun _ _ ⟨y,q1,q2,q3⟩=>⟨(),trivial,q2,q3⟩
 ·cases hh
noncomputable def Eep(n:Nd):Senv:=EC (conEp n) 64 8 [14] (fun _=>([],[]))
def QbG(a:Bool)(b:Nd)(c d e f g:Bool)(h:Nat):Prop:=ifB a (True∧∃(_y:Unit),True∧true=rEmp b c d e f g a∧True∧True) (SM h∧True∧∃(_y:Unit),True∧((LI (Nd.bo b))==Z0)=rEmp b c d e f g a∧True∧True)
def Jr(a:Nd)(b c d e f g:Bool):Prop:=True∧∃(_y:Unit),True∧false=rEmp a b c d e f g∧True∧True
def QbH(a b:Bool)(c:Nd)(d e f g:Bool)(h:Nat):Prop:=ifB a (QbG b c d e f g a h) (SM h∧ifB ((LI (Nd.ki c))==Z0) (QbG b c d e f g a h) (Jr c d e f g a b))
def Js(a:Nd):Arr:=Nd.va a
def Qhs(a:Nd):List Int:=Arr.sh (Js a)
def Qht(a:Nd):List Int:=Arr.nu (Js a)
def QbI(a:Nd):List Arr:=Arr.it (Js a)
def KV:Arr:=DA
def QbJ(a:Nd):D:=D.agg [ZI (Arr.k (Js a)),SI (Qhs a),SI (Qht a),D.sl N4 (LN (QbI a)) (fun (i:Nat)=>Arr.row (List.getD (QbI a) i KV)) Mode.any]
def YE:D:=D.sl N1 N0 (fun (_x:Nat)=>[]) Mode.nil
def Qhu:List Int:=Arr.sh KV
def Qhv:List Int:=Arr.nu KV
def QbK(a b c:Bool)(d:Nd)(e f g:Bool)(h:Nat):Prop:=ifB a (QbH b c d e f g a h) (SM h∧∃(_x:Unit),wkL [QbJ d,D.agg [ZI Z0,YE,YE,YE]] [QbJ d,D.agg [ZI (Arr.k KV),SI Qhu,SI Qhv,D.sl N4 (LN (Arr.it KV)) (fun (_i:Nat)=>Arr.row KV) Mode.any]]∧∀(_y:Unit),True→ifB (zeroA (Js d)) (QbH b c d e f g a h) (Jr d e f g a b c))
def QbL(a b c d:Bool)(e:Nd)(f g:Bool)(h:Nat):Prop:=ifB a (QbK b c d e f g a h) (SM h∧ifB (Nd.op e==Z0) (QbK b c d e f g a h) (Jr e f g a b c d))
def QbM(a b c d e:Bool)(f:Nd)(g:Bool)(h:Nat):Prop:=ifB a (QbL b c d e f g a h) (SM h∧ifB (Nd.pr f==Z0) (QbL b c d e f g a h) (Jr f g a b c d e))
theorem re_ok(n:Nd)(h:n.va.ok)(tx pr op va ki bo:Bool):CD 85 [.agg n.row2,.bool tx,.bool pr,.bool op,.bool va,.bool ki,.bool bo] (.bool (rEmp n tx pr op va ki bo)):=by
 refine con_of (A:=sC _ _) (x:=()) (E:=Eep n) (eOk (conEp_ok h) rfl) Tryz.func85 rfl (by kernel_rfl) rfl (by simp[sC,Eep,EC,E0]) ?_
 refine vc_eq (T :=
  ∀(x:Nat),True→ifB tx (QbM pr op va ki bo n tx x) (SM x∧ifB (Nd.tx n==[]) (QbM pr op va ki bo n tx x) (Jr n tx pr op va ki bo))) (by kernel_rfl) ?_
 delta DA GI LI LN N0 N1 N4 SI SM Z0 ZI QbG Jr Qhu Qhv QbK QbL QbM QbH Js Qhs Qht QbI KV QbJ YE
 try simp only[]
 try simp only[← dn]
 simp only[ne_eq,ifB_iff,true_and,and_true,beq_iff_eq,beq_eq_false_iff_ne,exists_const,forall_const]
 have z:∀ {α:Type} (l:List α),((l.length:Int)==0)=l.isEmpty:=fun l=>by cases l<;>simp<;>omega
 have e:(n.tx==[])=n.tx.isEmpty:=by cases n.tx<;>rfl
 have hz:=two_za n
 unfold rEmp
 repeat' (first | exact hz | exact wkL_refl _ | refine And.intro ?_ ?_ | intro _)
 all_goals clear hz
 all_goals (try simp only[z,e] at *)
 all_goals first
  |(simp_all;done)
  |(simp_all;omega)
noncomputable def Eoc2:Senv:=EC con0 11 1 [2,8,10] (fun _=>([],[]))
def YF(a:Int):Bool:=bif decide (a<Z1) then true else decide ((11:Int)<a)
def YG(a:Int):Int:=opClass a
theorem opc_ok(op:Int):CD 87 [.int .i64 op] (.int .i64 (opClass op)):=by
 refine con_of (A:=sC _ _) (x:=()) (E:=Eoc2) (eOk con0_ok rfl) Tryz.func87 rfl (by kernel_rfl) rfl (by simp[sC,Eoc2,EC,E0]) ?_
 refine vc_eq (T :=
  ifB (decide (op<Z1)) (true=YF op∧True) (decide ((11:Int)<op)=YF op∧True)∧ifB (YF op) (RT (Z0=YG op)) (ifB (decide (op≤(5:Int))) (RT ((3:Int)=YG op)) (RT ((4:Int)=YG op)))) (by kernel_rfl) ?_
 delta Z0 Z1 YF YG RT
 simp only[ifB_iff,decide_eq_true_eq,decide_eq_false_iff_not,true_and,and_true,exists_const]
 unfold opClass
 repeat' (first | refine And.intro ?_ ?_ | intro _)
 all_goals by_cases c1:op<1<;>by_cases c2:11<op<;>by_cases c3:op≤5<;>first
  |omega
  |(simp_all;done)
  |(simp_all;omega)
def takesB(b:Nd):Bool:=b.kd==17&&(b.op==7||b.op==8||b.op==9)
theorem rightK_takes(n:Nd):rightK n=if takesB (n.ki.getD 0 default)=true then 1 else 2:=by
 unfold rightK takesB
 simp[or_assoc]
noncomputable def Eta:Senv:=EC con0 21 3 [] (fun _=>([],[]))
def KW(a:Nd):Int:=Nd.op a
def Ve(a:Nd):Bool:=bif Nd.kd a==(17:Int) then bif bif KW a==(7:Int) then true else KW a==(8:Int) then true else KW a==(9:Int) else false
def QbN(a:Nd):Prop:=true=Ve a∧True
theorem ta_ok(n:Nd):CD 89 [.agg n.row2] (.bool (takesB n)):=by
 refine con_of (A:=sC _ _) (x:=()) (E:=Eta) (eOk con0_ok rfl) Tryz.func89 rfl (by kernel_rfl) rfl (by simp[sC,Eta,EC,E0]) ?_
 refine vc_eq (T :=
  ∀(x:Nat),True→(SM x∧ifB (Nd.kd n==(17:Int)) (SM x∧ifB (KW n==(7:Int)) (QbN n) (SM x∧ifB (KW n==(8:Int)) (QbN n) (SM x∧(KW n==(9:Int))=Ve n∧True))) (false=Ve n∧True))∧RT (Ve n=takesB n)) (by kernel_rfl) ?_
 delta SM KW Ve QbN RT
 try simp only[]
 try simp only[← dn]
 simp only[ne_eq,ifB_iff,true_and,and_true,beq_iff_eq,beq_eq_false_iff_ne,exists_const,forall_const]
 unfold takesB
 repeat' (first | refine And.intro ?_ ?_ | intro _)
 all_goals first
  |(simp_all;done)
  |(simp_all;omega)
def conRlf(n:Nd):Con:=fun k ds S=>match k with
 |85=>match ds with
  | [_,.bool a,.bool b,.bool c,.bool d,.bool e,.bool f]=>some (pA ds S (.bool (rEmp n a b c d e f)) (isN2 n ds [.bool a,.bool b,.bool c,.bool d,.bool e,.bool f]))
  |_=>none
 |86=>some (pA ds S (.int .i64 (chkA n.va).1) (wkL ds [.agg n.va.row1]))
 |59=>some (pA ds S (.bool (nameB n.tx)) (wkL ds [.str n.tx]))
 |87=>some (pA ds S (.int .i64 (opClass n.op)) (wkL ds [.int .i64 n.op]))
 |_=>none
theorem conRlf_ok{n:Nd}(h:n.va.ok):ConOk Tryz.prog (conRlf n):=by
 intro k ds S A hh
 unfold conRlf at hh
 split at hh
 ·split at hh
  ·injection hh with hh;subst hh
   exact pA_ok fun e=>CD.at_ (CD.wk (re_ok n h _ _ _ _ _ _) e) _
  ·cases hh
 ·injection hh with hh;subst hh
  refine pA_ok fun e=>CD.at_ (CD.wk (CD.wk (us:=[.agg n.va.row2]) ?_ (by simp only[wkL,wkD];exact⟨row1_wk _,trivial⟩)) e) _
  exact (rri_ok n.va h).mono fun _ _ ⟨y,q1,q2,q3⟩=>⟨(),trivial,q2,q3⟩
 ·injection hh with hh;subst hh
  exact pA_ok fun e=>CD.at_ (CD.wk (rn_ok n.tx) e) _
 ·injection hh with hh;subst hh
  exact pA_ok fun e=>CD.at_ (CD.wk (opc_ok n.op) e) _
 ·cases hh
noncomputable def Erlf(n:Nd):Senv:=EC (conRlf n) 122 4 [5,6,44,63,74,93,104] (fun id=>match id with | 19=>([0,1,2,3,4,5,6,7,8,9,10,11,12,13,14,15,16],[1,5,13]) | _=>([],[]))
def Qn(a:Nd):Int:=Nd.kd a
def Q9(a:Nd):Int:=Nd.cl a
def QbO(a:Nd):D:=ZI (Q9 a)
def YH(a:Nd):Int:=Nd.pr a
def Jt(a:Nd):Arr:=Nd.va a
def YI(a:Nd):Int:=Arr.k (Jt a)
def QbP(a:Nd):D:=ZI (YI a)
def QbQ(a:Nd):List Int:=Arr.sh (Jt a)
def QbR(a:Nd):Nat:=LN (QbQ a)
def QbS(a:Nd):D:=D.sl N1 (QbR a) (fun (i:Nat)=>[ZI (GI (QbQ a) i)]) Mode.any
def Qhw(a:Nd):List Int:=Arr.nu (Jt a)
def QbT(a:Nd):D:=SI (Qhw a)
def QbU(a:Nd):List Arr:=Arr.it (Jt a)
def QbV:Arr:=DA
def QbW(a:Nd):D:=D.sl N4 (LN (QbU a)) (fun (i:Nat)=>Arr.row (List.getD (QbU a) i QbV)) Mode.any
def YJ:Nd:=Nd.mk Z0 Z0 Z0 [] Z0 Z0 QbV [] [] Z0 Z0 Z0
def Ju(a:Nd):D:=D.agg [ZI (Qn a),ZI (Nd.at_ a),QbO a,D.str (Nd.tx a),ZI (YH a),ZI (Nd.op a),QbP a,QbS a,QbT a,QbW a,D.sl (15:Nat) (LN (Nd.ki a)) (fun (i:Nat)=>Nd.row1 (List.getD (Nd.ki a) i YJ)) Mode.any,D.sl (34:Nat) (LN (Nd.bo a)) (fun (i:Nat)=>Sm.row1 (List.getD (Nd.bo a) i (Sm.mk Z0 Z0 [] Z0 YJ YJ))) Mode.any,ZI (Nd.de a),ZI (Nd.sl a),ZI (Nd.ss a)]
def QbX:List D:=[D.bool false,D.bool false,D.bool false,D.bool true,D.bool false,D.bool false]
def QbY(a:Nd):List D:=[D.agg [QbP a,QbS a,QbT a,QbW a]]
def QbZ(a:Nd):Int:=(NI (QbR a))
def Ka(a:Nd):Bool:=rLeaf a
def Qo(a:Nd):Prop:=True∧∃(_y:Unit),True∧false=Ka a∧True∧True
def Qb0(a:Nat)(b:Nd):Prop:=SM a∧ifB (QbZ b==Z1) (SM a∧True∧∃(_y:Unit),True∧(YI b==(2:Int))=Ka b∧True∧True) (Qo b)
def Qb1:List D:=[D.bool false,D.bool false,D.bool false]
def Qb2:List D:=D.bool false::Qb1
def Qb3:List D:=D.bool false::Qb2
def Qb4:List D:=D.bool true::Qb3
def Qb5:List D:=D.bool false::Qb3
def Qb6(a:Nd):Prop:=isN2 a (Ju a::Qb5) Qb5
def Qb7(a:Nd):Bool:=rEmp a false false false false false false
def YK(a:Nat)(b:Nd):Prop:=SM a∧∃(_x:Unit),Qb6 b∧∀(_y:Unit),True→ifB (Qb7 b) (SM a∧True∧∃(_y:Unit),True∧(Q9 b==Z1)=Ka b∧True∧True) (Qo b)
def Qb8:List D:=D.bool false::D.bool true::Qb2
def YL(a:Nat)(b:Nd):Prop:=SM a∧∃(_x:Unit),Qb6 b∧∀(_y:Unit),True→ifB (Qb7 b) (SM a∧True∧∃(_y:Unit),True∧(Q9 b==(2:Int))=Ka b∧True∧True) (Qo b)
def Qb9:List D:=D.bool false::D.bool false::D.bool true::Qb1
def Qca(a:Nd):Prop:=wkL [ZI (Nd.op a)] [ZI (Nd.op a)]
def Qcb(a:Nd):Int:=opClass (Nd.op a)
def YM(a:Nd)(b:Nat):Prop:=ifB (Qn a==(17:Int)) (SM b∧∃(_x:Unit),isN2 a (Ju a::Qb9) Qb9∧∀(_y:Unit),True→ifB (rEmp a false false true false false false) (SM b∧∃(_x:Unit),Qca a∧∀(_y:Unit),True→ifB (Qcb a != Z0) (SM b∧SM b∧∃(_x:Unit),Qca a∧∀(_y:Unit),True→(SM b∧SM (QbO a))∧True∧∃(_y:Unit),True∧(Q9 a==Qcb a)=Ka a∧True∧True) (Qo a)) (Qo a)) (Qo a)
def YN(a:Nd)(b:Nat):Prop:=ifB (Qn a==(9:Int)) (SM b∧∃(_x:Unit),isN2 a (Ju a::Qb8) Qb8∧∀(_y:Unit),True→ifB (rEmp a false true false false false false) (SM b∧ifB (Q9 a==(2:Int)) (SM b∧ifB (decide (Z1≤YH a)) (SM b∧True∧∃(_y:Unit),True∧decide (YH a≤(55:Int))=Ka a∧True∧True) (Qo a)) (Qo a)) (Qo a)) (ifB (Qn a==(11:Int)) (ifB (Qn a==(11:Int)) (YL b a) (YM a b)) (ifB (Qn a==(12:Int)) (ifB (Qn a==(12:Int)) (YL b a) (YM a b)) (ifB (Qn a==(13:Int)) (YL b a) (YM a b))))
theorem rlf_ok(n:Nd)(h:n.va.ok):CD 51 [.agg n.row2] (.bool (rLeaf n)):=by
 refine con_of (A:=sC _ _) (x:=()) (E:=Erlf n) (eOk (conRlf_ok h) rfl) Tryz.func51 rfl (by kernel_rfl) rfl (by simp[sC,Erlf,EC,E0]) ?_
 refine vc_eq (T :=
  ∀(x:Nat),True→SM x∧ifB (Qn n==Z1) (SM x∧∀(x_1:Nat),x≠x_1∧True→SM x_1∧SM x∧∃(x_2:Unit),isN2 n (Ju n::QbX) QbX∧∀(y:Unit),True→ifB (rEmp n false false false true false false) (SM x∧ifB (Q9 n==Z1) (SM x_1∧∃(x:Unit),wkL (QbY n) (QbY n)∧∀(y:Unit),True→ifB (Prod.fst (chkA (Jt n))==Z0) (SM x_1∧ifB (QbZ n==Z0) (SM x_1∧ifB (YI n != (3:Int)) (RT (true=Ka n)) (Qb0 x_1 n)) (Qb0 x_1 n)) (Qo n)) (Qo n)) (Qo n)) (ifB (Qn n==(2:Int)) (SM x∧∃(x_1:Unit),isN2 n (Ju n::Qb4) Qb4∧∀(y:Unit),True→ifB (rEmp n true false false false false false) (SM x∧∃(x_2:Unit),wkL [D.str (Nd.tx n)] [D.str (Nd.tx n)]∧∀(y:Unit),True→ifB (nameB (Nd.tx n)) (SM x∧ifB (decide (Z1≤Q9 n)) (SM x∧RT (decide (Q9 n≤(4:Int))=Ka n)) (Qo n)) (Qo n)) (Qo n)) (ifB (Qn n==(6:Int)) (ifB (Qn n==(6:Int)) (YK x n) (YN n x)) (ifB (Qn n==(7:Int)) (ifB (Qn n==(7:Int)) (YK x n) (YN n x)) (ifB (Qn n==(8:Int)) (YK x n) (YN n x)))))) (by kernel_rfl) ?_
 delta DA GI LN N1 N4 NI SI SM Z0 Z1 ZI Qn Q9 QbO YH Jt YI QbP QbQ QbR QbS Qhw QbT QbU QbV QbW YJ Ju QbX QbY QbZ Ka Qo Qb0 Qb1 Qb2 Qb3 Qb4 Qb5 Qb6 Qb7 YK Qb8 YL Qb9 Qca Qcb YM YN RT
 try simp only[← dm]
 try simp only[← dn]
 simp only[ne_eq,ifB_iff,decide_eq_true_eq,decide_eq_false_iff_not,true_and,and_true,beq_iff_eq,bne_iff_ne,bne_eq_false_iff_eq,beq_eq_false_iff_ne,exists_const,forall_const]
 have e2:n.va.sh.isEmpty=(n.va.sh.length==0):=by cases n.va.sh<;>rfl
 have e40:((n.va.sh.length:Int)==0)=(n.va.sh.length==0):=by rw[Bool.eq_iff_iff,beq_iff_eq,beq_iff_eq];omega
 have e41:((n.va.sh.length:Int)==1)=(n.va.sh.length==1):=by rw[Bool.eq_iff_iff,beq_iff_eq,beq_iff_eq];omega
 have self:∀a b c d e f:Bool,isN2 n [.agg n.row2,.bool a,.bool b,.bool c,.bool d,.bool e,.bool f] [.bool a,.bool b,.bool c,.bool d,.bool e,.bool f]:=fun _ _ _ _ _ _=>nd2_self n _
 try simp only[e40,e41]
 repeat' (first | exact self _ _ _ _ _ _ | exact wkL_refl _ | refine And.intro ?_ ?_ | intro _)
 all_goals clear self
 all_goals first
  |exact wkL_refl _
  |(exfalso;omega)
  |(simp_all[rLeaf];done)
  |(simp_all[rLeaf];omega)
def conRin(n:Nd):Con:=fun k ds S=>match k with
 |85=>match ds with
  | [_,.bool a,.bool b,.bool c,.bool d,.bool e,.bool f]=>some (pA ds S (.bool (rEmp n a b c d e f)) (isN2 n ds [.bool a,.bool b,.bool c,.bool d,.bool e,.bool f]))
  |_=>none
 |88=>match ds with
  | [_,.sl 1 m f _]=>some (pA ds S (.bool (classesB n (intsD m f))) (wkL ds [.agg n.row2,isl (intsD m f) .any]∧m≤maxLen))
  |_=>none
 |89=>some (pA ds S (.bool (takesB (n.ki.getD 0 default))) (isN (n.ki.getD 0 default) ds []))
 |_=>none
theorem conRin_ok{n:Nd}(h:n.va.ok)(hl:n.ki.length≤maxLen):ConOk Tryz.prog (conRin n):=by
 intro k ds S A hh
 unfold conRin at hh
 split at hh
 ·split at hh
  ·injection hh with hh;subst hh
   exact pA_ok fun e=>CD.at_ (CD.wk (re_ok n h _ _ _ _ _ _) e) _
  ·cases hh
 ·split at hh
  ·injection hh with hh;subst hh
   exact pA_ok fun ⟨e,hm⟩=>CD.at_ (CD.wk (rcl_ok n _ hl (by rw[intsD_len];exact hm)) e) _
  ·cases hh
 ·injection hh with hh;subst hh
  exact pA_ok fun e=>CD.at_ (CD.isN (ta_ok _) e) _
 ·cases hh
def onesB(n:Nd):Bool:=classesB n (List.replicate n.ki.length 1)
theorem ones_iff(n:Nd):onesB n=true↔∀j,j<n.ki.length→(n.ki.getD j default).cl=1:=by
 unfold onesB classesB
 rw[cls_iff]
 constructor
 ·intro ⟨_,h⟩ j hj
  rw[h j hj]
  simp[List.getD_eq_getElem?_getD,hj]
 ·intro h
  refine⟨by simp,fun j hj=>?_⟩
  rw[h j hj]
  simp[List.getD_eq_getElem?_getD,hj]
theorem inner_no{n:Nd}(h:rEmp n false false false false true false=false):false=rInner n:=by
 unfold rInner
 rw[h];rfl
theorem inner3{n:Nd}(h:rEmp n false false false false true false=true)(k:n.kd=3):rInner n=(onesB n&&n.cl==1&&decide (2≤n.ki.length)&&decide (n.ki.length≤1000)):=by
 unfold rInner onesB
 rw[h,if_pos k];rfl
noncomputable def Erin(n:Nd):Senv:={ EC (conRin n) 119 4 [6,8,9,15,24,40,50,60,70,82,99] (fun _=>([],[])) with
 mg:=fun _=>2
 ann:=fun q _ S=>match q with
  |1=>some { slots:=[3],keep:=[0,1],α:=Nat,st:=fun i=>([.int .i64 i],S),inv:=fun i=>i≤n.ki.length∧∀j,j<i→(n.ki.getD j default).cl=1,mu:=fun i=>n.ki.length-i }
  |_=>none }
def Kb(a:Nd):Int:=Nd.kd a
def Qcc(a:Nd):Int:=Nd.at_ a
def Vf(a:Nd):Int:=Nd.cl a
def Qcd(a:Nd):List UInt8:=Nd.tx a
def Qce(a:Nd):Int:=Nd.pr a
def Qcf(a:Nd):Int:=Nd.op a
def Vg(a:Nd):Arr:=Nd.va a
def Qcg(a:Nd):Int:=Arr.k (Vg a)
def Qch(a:Nd):List Int:=Arr.sh (Vg a)
def YO(a:Nd):Nat:=LN (Qch a)
def Qci(a:Nd)(b:Nat):List D:=[ZI (GI (Qch a) b)]
def Qcj(a:Nd):List Int:=Arr.nu (Vg a)
def YP(a:Nd):Nat:=LN (Qcj a)
def Qck(a:Nd)(b:Nat):List D:=[ZI (GI (Qcj a) b)]
def Qcl(a:Nd):List Arr:=Arr.it (Vg a)
def YQ(a:Nd):Nat:=LN (Qcl a)
def YR:Arr:=DA
def Qcm(a:Nd)(b:Nat):List D:=Arr.row (List.getD (Qcl a) b YR)
def Vh(a:Nd):List Nd:=Nd.ki a
def Kt(a:Nd):Nat:=LN (Vh a)
def KX:Nd:=Nd.mk Z0 Z0 Z0 [] Z0 Z0 YR [] [] Z0 Z0 Z0
def Qcn(a:Nd)(b:Nat):Nd:=List.getD (Vh a) b KX
def Qco(a:Nd)(b:Nat):List D:=Nd.row1 (Qcn a b)
def YS(a:Nd):Nat:=LN (Nd.bo a)
def Qcp:Sm:=Sm.mk Z0 Z0 [] Z0 KX KX
def Qcq(a:Nd)(b:Nat):List D:=Sm.row1 (List.getD (Nd.bo a) b Qcp)
def Qcr(a:Nd):Int:=Nd.de a
def Qcs(a:Nd):Int:=Nd.sl a
def Qct(a:Nd):Int:=Nd.ss a
def Qg(a:Nd):D:=D.agg [ZI (Kb a),ZI (Qcc a),ZI (Vf a),D.str (Qcd a),ZI (Qce a),ZI (Qcf a),ZI (Qcg a),D.sl N1 (YO a) (fun (i:Nat)=>Qci a i) Mode.any,D.sl N1 (YP a) (fun (i:Nat)=>Qck a i) Mode.any,D.sl N4 (YQ a) (fun (i:Nat)=>Qcm a i) Mode.any,D.sl (15:Nat) (Kt a) (fun (i:Nat)=>Qco a i) Mode.any,D.sl (34:Nat) (YS a) (fun (i:Nat)=>Qcq a i) Mode.any,ZI (Qcr a),ZI (Qcs a),ZI (Qct a)]
def Qcu:List D:=[D.bool false,D.bool false,D.bool false,D.bool false,D.bool true,D.bool false]
def Q0(a:Nd):Bool:=rInner a
def QR(a:Nd):Prop:=True∧∃(_y:Unit),True∧false=Q0 a∧True∧True
def YT(a:Nat)(b:Nd):Prop:=a≤Kt b∧∀(j:Nat),j<a→Nd.cl (Qcn b j)=Z1
def Qcv(a:Nat)(b:Nd):Prop:=(SM a∧(SM (Kb b)∧SM (Qcc b)∧SM (Vf b)∧SM (Qcd b)∧SM (Qce b)∧SM (Qcf b)∧SM (Qcg b)∧(SM (YO b)∧(∀(i:Nat),i<YO b→SM (Qci b i))∧True)∧(SM (YP b)∧(∀(i:Nat),i<YP b→SM (Qck b i))∧True)∧(SM (YQ b)∧(∀(i:Nat),i<YQ b→SM (Qcm b i))∧True)∧(SM (Kt b)∧(∀(i:Nat),i<Kt b→SM (Qco b i))∧True)∧(SM (YS b)∧(∀(i:Nat),i<YS b→SM (Qcq b i))∧True)∧SM (Qcr b)∧SM (Qcs b)∧SM (Qct b)∧True)∧True)∧True
def KY(a:Nd):Int:=(NI (Kt a))
def YU(a:Nd):Bool:=Vf a==Z1
def KZ:List D:=[ZI (2:Int)]
def Qcw:List (List D):=[KZ,[ZI Z1]]
def Qcx(a:Nat):List D:=List.getD Qcw a []
def Qcy:List Int:=intsD N2 fun (i:Nat)=>Qcx i
def Qcz(a:Nat):List D:=List.getD [KZ,[ZI Z1],[ZI Z1]] a []
def QcA:List Int:=intsD (3:Nat) fun (i:Nat)=>Qcz i
def Vi(a:Nd):Bool:=Vf a==(2:Int)
def QcB(a:Nat):List D:=List.getD [[ZI (3:Int)],KZ] a []
def QcC:List Int:=intsD N2 fun (i:Nat)=>QcB i
def Qp(a:Nd):Nd:=List.getD (Vh a) N0 KX
def Vj(a:Nd):Arr:=Nd.va (Qp a)
def Qhx(a:Nd):List Int:=Arr.sh (Vj a)
def Qhy(a:Nd):List Int:=Arr.nu (Vj a)
def QcD(a:Nd):List Arr:=Arr.it (Vj a)
def QcE(a:Nd):List Nd:=Nd.ki (Qp a)
def QcF(a:Nd):List Sm:=Nd.bo (Qp a)
def QcG(a:Nat):List D:=List.getD ([ZI (4:Int)]::Qcw) a []
def QcH:List Int:=intsD (3:Nat) fun (i:Nat)=>QcG i
def Vk:List (List D):=[KZ,KZ]
def QcI(a:Nat):List D:=List.getD ([ZI (4:Int)]::Vk) a []
def QcJ:List Int:=intsD (3:Nat) fun (i:Nat)=>QcI i
def QcK(a:Nat)(b:Nd):Prop:=SM a∧ifB (Vi b) (SM a∧∃(_x:Unit),(wkL [Qg b,D.sl N1 (3:Nat) (fun (i:Nat)=>QcI i) Mode.full] [Qg b,SI QcJ]∧(3:Nat)≤(9223372036854775807:Nat))∧∀(_y:Unit),True→True∧∃(_y:Unit),True∧classesB b QcJ=Q0 b∧True∧True) (QR b)
def QcL(a:Nat):List D:=List.getD Vk a []
def QcM:List Int:=intsD N2 fun (i:Nat)=>QcL i
def QcN(a:Nd):Prop:=True∧∃(_y:Unit),True∧true=Q0 a∧True∧True
def QcO(a:Nat):List D:=List.getD (KZ::Vk) a []
def QcP:List Int:=intsD (3:Nat) fun (i:Nat)=>QcO i
def QcQ(a:Nat):List D:=List.getD ([ZI Z1]::Vk) a []
def QcR:List Int:=intsD (3:Nat) fun (i:Nat)=>QcQ i
theorem rin_ok(n:Nd)(h:n.va.ok)(hl:n.ki.length ≤ maxLen):CD 52 [.agg n.row2] (.bool (rInner n)) := by
  refine con_of (A := sC _ _) (x := ()) (E := Erin n) (eOk (conRin_ok h hl) rfl) Tryz.func52 rfl (by kernel_rfl) rfl (by simp [sC,Erin,EC,E0]) ?_
  refine vc_eq (T :=
    ∀ (x:Nat),True→SM x∧∃ (x_1:Unit),isN2 n (Qg n :: Qcu) Qcu∧∀ (y:Unit),True→ifB (!rEmp n false false false false true false) (QR n) (SM x∧ifB (Kb n == (3:Int)) ((∃ (x_2:Nat),YT x_2 n∧(Z0 = (↑x_2:Int)∧True)∧Qcv x n)∧∀ (x_2:Nat),YT x_2 n→SM x∧ifB (decide ((↑x_2:Int) < KY n)) (SM x∧side (Z0 ≤ (↑x_2:Int)∧(↑x_2:Int) < KY n) (ifB (Nd.cl (List.getD (Vh n) (Int.toNat (↑x_2:Int)) KX) != Z1) (QR n) ((SM (Qg n)∧SM (D.ref N0 x N0)∧True)∧∃ (y:Nat),YT y n∧Kt n - y < Kt n - x_2∧(IntKind.wrap IntKind.i64 ((↑x_2:Int) + Z1) = (↑y:Int)∧True)∧Qcv x n))) (SM x∧ifB (YU n) (SM x∧ifB (decide ((2:Int) ≤ KY n)) (SM x∧True∧∃ (y:Unit),True∧decide (KY n ≤ (1000:Int)) = Q0 n∧True∧True) (QR n)) (QR n))) (ifB (Kb n == (4:Int)) (SM x∧ifB (YU n) (SM x∧∃ (x:Unit),(wkL [Qg n,D.sl N1 N2 (fun (i:Nat) => Qcx i) Mode.full] [Qg n,SI Qcy]∧N2 ≤ (9223372036854775807:Nat))∧∀ (y:Unit),True→True∧∃ (y:Unit),True∧classesB n Qcy = Q0 n∧True∧True) (QR n)) (ifB (Kb n == (5:Int)) (SM x∧ifB (YU n) (SM x∧∃ (x:Unit),(wkL [Qg n,D.sl N1 (3:Nat) (fun (i:Nat) => Qcz i) Mode.full] [Qg n,SI QcA]∧(3:Nat) ≤ (9223372036854775807:Nat))∧∀ (y:Unit),True→True∧∃ (y:Unit),True∧classesB n QcA = Q0 n∧True∧True) (QR n)) (ifB (Kb n == (14:Int)) (SM x∧ifB (Vi n) (SM x∧∃ (x:Unit),(wkL [Qg n,D.sl N1 N2 (fun (i:Nat) => QcB i) Mode.full] [Qg n,SI QcC]∧N2 ≤ (9223372036854775807:Nat))∧∀ (y:Unit),True→True∧∃ (y:Unit),True∧classesB n QcC = Q0 n∧True∧True) (QR n)) (ifB (Kb n == (15:Int)) (SM x∧ifB (decide (Z0 < KY n)) (SM x∧side (Z0 ≤ Z0∧Z0 < KY n) (∃ (x_2:Unit),isN (Qp n) [D.agg [ZI (Nd.kd (Qp n)),ZI (Nd.at_ (Qp n)),ZI (Nd.cl (Qp n)),D.str (Nd.tx (Qp n)),ZI (Nd.pr (Qp n)),ZI (Nd.op (Qp n)),ZI (Arr.k (Vj n)),SI (Qhx n),SI (Qhy n),D.sl N4 (LN (QcD n)) (fun (i:Nat) => Arr.row (List.getD (QcD n) i YR)) Mode.any,D.sl (15:Nat) (LN (QcE n)) (fun (i:Nat) => Nd.row (List.getD (QcE n) i KX)) Mode.any,D.sl (34:Nat) (LN (QcF n)) (fun (i:Nat) => Sm.row (List.getD (QcF n) i Qcp)) Mode.any,ZI (Nd.de (Qp n)),ZI (Nd.sl (Qp n)),ZI (Nd.ss (Qp n))]] []∧∀ (y:Unit),True→ifB (takesB (Qp n)) (SM x∧ifB (Vi n) (SM x∧∃ (x:Unit),(wkL [Qg n,D.sl N1 (3:Nat) (fun (i:Nat) => QcG i) Mode.full] [Qg n,SI QcH]∧(3:Nat) ≤ (9223372036854775807:Nat))∧∀ (y:Unit),True→True∧∃ (y:Unit),True∧classesB n QcH = Q0 n∧True∧True) (QR n)) (QcK x n))) (QcK x n)) (ifB (Kb n == (16:Int)) (SM x∧ifB (Vi n) (SM x∧∃ (x_2:Unit),(wkL [Qg n,D.sl N1 N2 (fun (i:Nat) => QcL i) Mode.full] [Qg n,SI QcM]∧N2 ≤ (9223372036854775807:Nat))∧∀ (y:Unit),True→ifB (classesB n QcM) (QcN n) (SM x∧∃ (x_3:Unit),(wkL [Qg n,D.sl N1 (3:Nat) (fun (i:Nat) => QcO i) Mode.full] [Qg n,SI QcP]∧(3:Nat) ≤ (9223372036854775807:Nat))∧∀ (y:Unit),True→ifB (classesB n QcP) (QcN n) (SM x∧∃ (x:Unit),(wkL [Qg n,D.sl N1 (3:Nat) (fun (i:Nat) => QcQ i) Mode.full] [Qg n,SI QcR]∧(3:Nat) ≤ (9223372036854775807:Nat))∧∀ (y:Unit),True→True∧∃ (y:Unit),True∧classesB n QcR = Q0 n∧True∧True))) (QR n)) (QR n)))))))) (by kernel_rfl) ?_
  delta DA GI LN N0 N1 N2 N4 NI SI SM Z0 Z1 ZI Kb Qcc Qci Qcj YP Qck Qcl YQ YR Qcm Vh Kt Vf KX Qcn Qco YS Qcp Qcq Qcr Qcs Qct Qg Qcd Qcu Q0 QR YT Qcv KY YU KZ Qcw Qcx Qce Qcy Qcz QcA Vi QcB QcC Qp Vj Qhx Qhy Qcf QcD QcE QcF QcG QcH Vk QcI QcJ QcK QcL Vg QcM QcN QcO QcP QcQ QcR Qcg Qch YO
  try simp only [← dm]
  try simp only [← dn]
  simp only [ne_eq,implies_true,Int.toNat_natCast,ifB_iff,side_iff,decide_eq_true_eq,decide_eq_false_iff_not,true_and,and_true,beq_iff_eq,bne_iff_ne,bne_eq_false_iff_eq,beq_eq_false_iff_ne,Bool.not_eq_true',Bool.not_eq_false',exists_const,forall_const]
  have i2:∀ a b:Int,intsD 2 (fun i => [[D.int IntKind.i64 a],[D.int IntKind.i64 b]].getD i []) = [a,b] := fun _ _ => rfl
  have i3:∀ a b c:Int,intsD 3 (fun i => [[D.int IntKind.i64 a],[D.int IntKind.i64 b],[D.int IntKind.i64 c]].getD i []) = [a,b,c] := fun _ _ _ => rfl
  have p2:∀ a b:Int,IntsP 2 (fun i => [[D.int IntKind.i64 a],[D.int IntKind.i64 b]].getD i []) := fun _ _ i hi => by
    match i,hi with
    | 0,_ => rfl
    | 1,_ => rfl
  have p3:∀ a b c:Int,IntsP 3 (fun i => [[D.int IntKind.i64 a],[D.int IntKind.i64 b],[D.int IntKind.i64 c]].getD i []) := fun _ _ _ i hi => by
    match i,hi with
    | 0,_ => rfl
    | 1,_ => rfl
    | 2,_ => rfl
  unfold maxLen at hl
  refine ⟨nd2_self n _,fun h0 => inner_no h0,fun h0 => ⟨fun k3 => ?_,fun n3 => ?_⟩⟩
  · rw [inner3 h0 k3]
    refine ⟨⟨0,⟨Nat.zero_le _,fun j hj => absurd hj (by omega)⟩,rfl⟩,fun i ⟨i1,hi⟩ => ⟨fun hlt => ⟨⟨by omega,hlt⟩,fun c => ?_,fun c => ⟨i + 1,⟨by omega,fun j hj => ?_⟩,by omega,wrap_i64' (by omega) (by omega)⟩⟩,fun hge => ?_⟩⟩
    · cases e:onesB n with
      | false => rfl
      | true => exact (c ((ones_iff n).1 e i (by omega))).elim
    · by_cases e':j = i
      · rw [e']; exact c
      · exact hi j (by omega)
    · have e:onesB n = true := (ones_iff n).2 fun j hj => hi j (by omega)
      rw [e]
      refine ⟨fun c => ⟨fun d => ?_,fun d => ?_⟩,fun c => ?_⟩
      · have d2:decide (2 ≤ n.ki.length) = true := decide_eq_true (by omega)
        rw [c,d2]
        simp only [Bool.true_and,beq_self_eq_true]
        exact decide_eq_decide.2 (by omega)
      · have d2:decide (2 ≤ n.ki.length) = false := decide_eq_false (by omega)
        rw [d2]; simp
      · have d2:(n.cl == 1) = false := by simpa using c
        rw [d2]; rfl
  · have z:¬ (0:Int) < n.ki.length→takesB (n.ki.getD 0 default) = false := fun h => by
      have:n.ki = [] := List.length_eq_zero_iff.1 (by omega)
      rw [this]; rfl
    have hr : rInner n = (if n.kd = 4 then n.cl == 1 && classesB n [2, 1]
       else if n.kd = 5 then n.cl == 1 && classesB n [2,1,1]
       else if n.kd = 14 then n.cl == 2 && classesB n [3,2]
       else if n.kd = 15 then n.cl == 2 && classesB n [4,2,if takesB (n.ki.getD 0 default) = true then 1 else 2]
       else if n.kd = 16 then n.cl == 2 && (classesB n [2,2] || classesB n [2,2,2] || classesB n [1,2,2])
       else false) := by
      unfold rInner
      rw [h0,rightK_takes,if_neg n3,Bool.true_and]
    rw [hr]
    clear hr
    repeat' (first | exact nd_self _ _ | exact nd2_self n _ | exact wkL_refl _ | exact cls_arg (p2 _ _) | exact cls_arg (p3 _ _ _) | refine And.intro ?_ ?_ | intro _)
    all_goals try simp only [i2,i3] at *
    clear i2 i3 p2 p3
    all_goals first
      | omega
      | (simp_all; done)
      | (simp_all; omega)
def RMent(q:Int)(n:Nd):Prop:=CD 90 [.agg n.row2,.int .i64 q] (.bool (mentN q n))
def conRme(q:Int)(p:Nd→Prop):Con:=fun k ds S=>match k with
 |90=>some (pE (β:=Nd) ds S (fun b=>.bool (mentN q b)) (fun b=>isN b ds [.int .i64 q]∧p b))
 |_=>none
theorem conRme_ok{q:Int}{p:Nd→Prop}(h:∀b,p b→RMent q b):ConOk Tryz.prog (conRme q p):=by
 intro k ds S A hh
 unfold conRme at hh
 split at hh
 ·injection hh with hh;subst hh
  exact pS_ok fun b ⟨e,hb⟩=>CD.at_ (CD.isN (h b hb) e) _
 ·cases hh
noncomputable def Erme(q:Int)(n:Nd):Senv:={ EC (conRme q (·∈n.ki)) 24 3 [4,5,9,14,23] (fun _=>([],[])) with
 mg:=fun _=>2
 ann:=fun b _ S=>match b with
  |0=>some { slots:=[5],keep:=[0,1,2],α:=Nat,st:=fun i=>([.int .i64 i],S),inv:=fun i=>i≤n.ki.length∧∀j,j<i→mentN q (n.ki.getD j default)=false,mu:=fun i=>n.ki.length-i }
  |_=>none }
theorem any_no{α:Type}[Inhabited α]{p:α→Bool}{l:List α}(h:∀j,j<l.length→p (l.getD j default)=false):l.any p=false:=by
 rw[List.any_eq_false]
 intro x hx
 obtain ⟨i,hi,rfl⟩:=List.getElem_of_mem hx
 have:=h i hi
 rw[List.getD_eq_getElem?_getD,List.getElem?_eq_getElem hi] at this
 simpa using this
theorem any_yes{α:Type}[Inhabited α]{p:α→Bool}{l:List α}{j:Nat}(hj:j<l.length)(h:p (l.getD j default)=true):l.any p=true:=by
 rw[List.any_eq_true]
 refine⟨l.getD j default,?_,h⟩
 rw[List.getD_eq_getElem?_getD,List.getElem?_eq_getElem hj]
 exact List.getElem_mem hj
def YV(a:Nd):Int:=Nd.kd a
def QcS(a:Int)(b:Nd):Prop:=True∧∃(_y:Unit),True∧true=mentN a b∧True∧True
def Vl(a:Nd):List Nd:=Nd.ki a
def Kc(a:Nd):Nat:=LN (Vl a)
def YW:Arr:=DA
def Jv:Nd:=Nd.mk Z0 Z0 Z0 [] Z0 Z0 YW [] [] Z0 Z0 Z0
def QcT(a:Nd)(b:Nat):Nd:=List.getD (Vl a) b Jv
def YX(a:Nat)(b:Nd)(c:Int):Prop:=a≤Kc b∧∀(j:Nat),j<a→mentN c (QcT b j)=false
def QcU(a:Nd):Int:=Nd.at_ a
def QcV(a:Nd):Int:=Nd.cl a
def QcW(a:Nd):List UInt8:=Nd.tx a
def QcX(a:Nd):Int:=Nd.pr a
def QcY(a:Nd):Int:=Nd.op a
def Vm(a:Nd):Arr:=Nd.va a
def QcZ(a:Nd):Int:=Arr.k (Vm a)
def Qc0(a:Nd):List Int:=Arr.sh (Vm a)
def YY(a:Nd):Nat:=LN (Qc0 a)
def Qc1(a:Nd)(b:Nat):List D:=[ZI (GI (Qc0 a) b)]
def Qc2(a:Nd):List Int:=Arr.nu (Vm a)
def YZ(a:Nd):Nat:=LN (Qc2 a)
def Qc3(a:Nd)(b:Nat):List D:=[ZI (GI (Qc2 a) b)]
def Qc4(a:Nd):List Arr:=Arr.it (Vm a)
def Y0(a:Nd):Nat:=LN (Qc4 a)
def Qc5(a:Nd)(b:Nat):List D:=Arr.row (List.getD (Qc4 a) b YW)
def Qc6(a:Nd)(b:Nat):List D:=Nd.row1 (QcT a b)
def Y1(a:Nd):Nat:=LN (Nd.bo a)
def Qc7:Sm:=Sm.mk Z0 Z0 [] Z0 Jv Jv
def Qc8(a:Nd)(b:Nat):List D:=Sm.row1 (List.getD (Nd.bo a) b Qc7)
def Qc9(a:Nd):Int:=Nd.de a
def Qda(a:Nd):Int:=Nd.sl a
def Qdb(a:Nd):Int:=Nd.ss a
def Qdc(a:Nat)(b:Nd):Prop:=(SM a∧(SM (YV b)∧SM (QcU b)∧SM (QcV b)∧SM (QcW b)∧SM (QcX b)∧SM (QcY b)∧SM (QcZ b)∧(SM (YY b)∧(∀(i:Nat),i<YY b→SM (Qc1 b i))∧True)∧(SM (YZ b)∧(∀(i:Nat),i<YZ b→SM (Qc3 b i))∧True)∧(SM (Y0 b)∧(∀(i:Nat),i<Y0 b→SM (Qc5 b i))∧True)∧(SM (Kc b)∧(∀(i:Nat),i<Kc b→SM (Qc6 b i))∧True)∧(SM (Y1 b)∧(∀(i:Nat),i<Y1 b→SM (Qc8 b i))∧True)∧SM (Qc9 b)∧SM (Qda b)∧SM (Qdb b)∧True)∧True)∧True
def QA(a:Nd)(b:Nat):Nd:=List.getD (Vl a) (Int.toNat (↑b:Int)) Jv
def Vn(a:Nd)(b:Nat):Arr:=Nd.va (QA a b)
def Qhz(a:Nd)(b:Nat):List Int:=Arr.sh (Vn a b)
def QhA(a:Nd)(b:Nat):List Int:=Arr.nu (Vn a b)
def Qdd(a:Nd)(b:Nat):List Arr:=Arr.it (Vn a b)
def Qde(a:Nd)(b:Nat):List Nd:=Nd.ki (QA a b)
def Qdf(a:Nd)(b:Nat):List Sm:=Nd.bo (QA a b)
def QhB(a:Nd):D:=D.agg [ZI (YV a),ZI (QcU a),ZI (QcV a),D.str (QcW a),ZI (QcX a),ZI (QcY a),ZI (QcZ a),D.sl N1 (YY a) (fun (i:Nat)=>Qc1 a i) Mode.any,D.sl N1 (YZ a) (fun (i:Nat)=>Qc3 a i) Mode.any,D.sl N4 (Y0 a) (fun (i:Nat)=>Qc5 a i) Mode.any,D.sl (15:Nat) (Kc a) (fun (i:Nat)=>Qc6 a i) Mode.any,D.sl (34:Nat) (Y1 a) (fun (i:Nat)=>Qc8 a i) Mode.any,ZI (Qc9 a),ZI (Qda a),ZI (Qdb a)]
theorem rme_step(q:Int)(n:Nd)(hl:n.ki.length≤maxLen)(h:∀b∈n.ki,RMent q b):RMent q n:=by
 refine con_of (A:=sC _ _) (x:=()) (E:=Erme q n) (eOk (conRme_ok h) rfl) Tryz.func90 rfl (by kernel_rfl) rfl (by simp[sC,Erme,EC,E0]) ?_
 refine vc_eq (T :=
  ∀(x:Nat),True→SM x∧ifB (YV n==q) (QcS q n) ((∃(x_1:Nat),YX x_1 n q∧(Z0=(↑x_1:Int)∧True)∧Qdc x n)∧∀(x_1:Nat),YX x_1 n q→SM x∧ifB (decide ((↑x_1:Int)<(NI (Kc n)))) (SM x∧side (Z0≤(↑x_1:Int)∧(↑x_1:Int)<(NI (Kc n))) (∃(x_2:Nd),(isN x_2 [D.agg [ZI (Nd.kd (QA n x_1)),ZI (Nd.at_ (QA n x_1)),ZI (Nd.cl (QA n x_1)),D.str (Nd.tx (QA n x_1)),ZI (Nd.pr (QA n x_1)),ZI (Nd.op (QA n x_1)),ZI (Arr.k (Vn n x_1)),SI (Qhz n x_1),SI (QhA n x_1),D.sl N4 (LN (Qdd n x_1)) (fun (i:Nat)=>Arr.row (List.getD (Qdd n x_1) i YW)) Mode.any,D.sl (15:Nat) (LN (Qde n x_1)) (fun (i:Nat)=>Nd.row (List.getD (Qde n x_1) i Jv)) Mode.any,D.sl (34:Nat) (LN (Qdf n x_1)) (fun (i:Nat)=>Sm.row (List.getD (Qdf n x_1) i Qc7)) Mode.any,ZI (Nd.de (QA n x_1)),ZI (Nd.sl (QA n x_1)),ZI (Nd.ss (QA n x_1))],ZI q] [ZI q]∧x_2∈Vl n)∧∀(y:Unit),True→ifB (mentN q x_2) (QcS q n) ((SM (QhB n)∧SM (ZI q)∧SM (D.ref N0 x N0)∧True)∧∃(y:Nat),YX y n q∧Kc n-y<Kc n-x_1∧(IntKind.wrap IntKind.i64 ((↑x_1:Int)+Z1)=(↑y:Int)∧True)∧Qdc x n))) (RT (false=mentN q n)))) (by kernel_rfl) ?_
 delta DA GI LN N0 N1 N4 NI SI SM Z0 Z1 ZI YV QcS QcW QcX QcY Vm QcZ Qc0 YY Qc1 Qc2 YZ Vl Qc3 Qc4 Y0 Qc5 Qc6 Y1 Qc7 Qc8 Qc9 Qda Kc Qdb Qdc QA Vn Qhz QhA Qdd Qde Qdf QhB YW Jv QcT YX QcU QcV RT
 try simp only[← dm]
 try simp only[← dn]
 simp only[ne_eq,implies_true,Int.toNat_natCast,ifB_iff,side_iff,decide_eq_true_eq,decide_eq_false_iff_not,true_and,and_true,beq_iff_eq,beq_eq_false_iff_ne,exists_const,forall_const]
 unfold maxLen at hl
 have e:=mentN_eq q n
 refine⟨fun hk=>by rw[e,hk];simp,fun hk=>⟨⟨0,⟨Nat.zero_le _,fun j hj=>absurd hj (by omega)⟩,rfl⟩,fun i ⟨i1,hi⟩=>⟨fun hlt=>?_,fun hge=>?_⟩⟩⟩
 ·have hi1:i<n.ki.length:=by omega
  refine⟨⟨by omega,by omega⟩,n.ki.getD i default,⟨nd_self _ _,nd_getD hi1⟩,fun c=>?_,fun c=>⟨i+1,⟨hi1,fun j hj=>?_⟩,by omega,wrap_i64' (by omega) (by omega)⟩⟩
  ·rw[e,any_yes hi1 c];simp
  ·by_cases e':j=i
   ·rw[e'];exact c
   ·exact hi j (by omega)
 ·have a:n.ki.any (mentN q)=false:=any_no fun j hj=>hi j (by omega)
  have hk':(n.kd==q)=false:=by simpa using hk
  rw[e,a,hk'];rfl
theorem rme_ok(q:Int)(n:Nd)(hn:n.sm):RMent q n :=
 rme_step q n (maxB_le (sm_len hn).2.1) fun b hb=>rme_ok q b (sm_kid hn (kid_inner hb))
termination_by szN n
decreasing_by exact inner_sz (kid_inner hb)
noncomputable def Erbm(q:Int)(l:List Sm):Senv:={ EC (conRme q Nd.sm) 28 2 [4,5,9,27] (fun _=>([],[])) with
 mg:=fun _=>2
 ann:=fun b _ S=>match b with
  |0=>some { slots:=[5],keep:=[0,1],α:=Nat,st:=fun i=>([.int .i64 i],S),inv:=fun i=>i≤l.length∧∀j,j<i→(mentN q (l.getD j default).te||mentN q (l.getD j default).nd)=false,mu:=fun i=>l.length-i }
  |_=>none }
def Jw:Arr:=DA
def K0:Nd:=Nd.mk Z0 Z0 Z0 [] Z0 Z0 Jw [] [] Z0 Z0 Z0
def K1:Sm:=Sm.mk Z0 Z0 [] Z0 K0 K0
def K2(a:List Sm)(b:Nat):Sm:=List.getD a b K1
def Qr(a:List Sm)(b:Nat):Nd:=Sm.te (K2 a b)
def Qs(a:List Sm)(b:Nat):Nd:=Sm.nd (K2 a b)
def Y2(a:Nat)(b:List Sm)(c:Int):Prop:=a≤LN b∧∀(j:Nat),j<a→(mentN c (Qr b j)||mentN c (Qs b j))=false
def Qdg(a:List Sm)(b:Nat):Sm:=List.getD a (Int.toNat (↑b:Int)) K1
def QB(a:List Sm)(b:Nat):Nd:=Sm.te (Qdg a b)
def Vo(a:List Sm)(b:Nat):Arr:=Nd.va (QB a b)
def QhC(a:List Sm)(b:Nat):List Int:=Arr.sh (Vo a b)
def QhD(a:List Sm)(b:Nat):List Int:=Arr.nu (Vo a b)
def Qdh(a:List Sm)(b:Nat):List Arr:=Arr.it (Vo a b)
def Qdi(a:List Sm)(b:Nat):List Nd:=Nd.ki (QB a b)
def Qdj(a:List Sm)(b:Nat):List Sm:=Nd.bo (QB a b)
def Qdk(a:List Sm)(b:Int):Prop:=True∧∃(_y:Unit),True∧true=mentB a b∧True∧True
def QC(a:List Sm)(b:Nat):Nd:=Sm.nd (Qdg a b)
def Vp(a:List Sm)(b:Nat):Arr:=Nd.va (QC a b)
def QhE(a:List Sm)(b:Nat):List Int:=Arr.sh (Vp a b)
def QhF(a:List Sm)(b:Nat):List Int:=Arr.nu (Vp a b)
def Qdl(a:List Sm)(b:Nat):List Arr:=Arr.it (Vp a b)
def Qdm(a:List Sm)(b:Nat):List Nd:=Nd.ki (QC a b)
def Qdn(a:List Sm)(b:Nat):List Sm:=Nd.bo (QC a b)
def Vq(a:List Sm)(b:Nat):Arr:=Nd.va (Qr a b)
def QhG(a:List Sm)(b:Nat):List Int:=Arr.sh (Vq a b)
def QhH(a:List Sm)(b:Nat):List Int:=Arr.nu (Vq a b)
def Qdo(a:List Sm)(b:Nat):List Arr:=Arr.it (Vq a b)
def Qdp(a:List Sm)(b:Nat):List Nd:=Nd.ki (Qr a b)
def Qdq(a:List Sm)(b:Nat):List Sm:=Nd.bo (Qr a b)
def Vr(a:List Sm)(b:Nat):Arr:=Nd.va (Qs a b)
def QhI(a:List Sm)(b:Nat):List Int:=Arr.sh (Vr a b)
def QhJ(a:List Sm)(b:Nat):List Int:=Arr.nu (Vr a b)
def Qdr(a:List Sm)(b:Nat):List Arr:=Arr.it (Vr a b)
def Qds(a:List Sm)(b:Nat):List Nd:=Nd.ki (Qs a b)
def Qdt(a:List Sm)(b:Nat):List Sm:=Nd.bo (Qs a b)
def QhK(a:List Sm):D:=D.sl (34:Nat) (LN a) (fun (i:Nat)=>[ZI (Sm.kd (K2 a i)),ZI (Sm.at_ (K2 a i)),D.str (Sm.nm (K2 a i)),ZI (Sm.sl (K2 a i)),ZI (Nd.kd (Qr a i)),ZI (Nd.at_ (Qr a i)),ZI (Nd.cl (Qr a i)),D.str (Nd.tx (Qr a i)),ZI (Nd.pr (Qr a i)),ZI (Nd.op (Qr a i)),ZI (Arr.k (Vq a i)),SI (QhG a i),SI (QhH a i),D.sl N4 (LN (Qdo a i)) (fun (i_1:Nat)=>Arr.row (List.getD (Qdo a i) i_1 Jw)) Mode.any,D.sl (15:Nat) (LN (Qdp a i)) (fun (i_1:Nat)=>Nd.row (List.getD (Qdp a i) i_1 K0)) Mode.any,D.sl (34:Nat) (LN (Qdq a i)) (fun (i_1:Nat)=>Sm.row (List.getD (Qdq a i) i_1 K1)) Mode.any,ZI (Nd.de (Qr a i)),ZI (Nd.sl (Qr a i)),ZI (Nd.ss (Qr a i)),ZI (Nd.kd (Qs a i)),ZI (Nd.at_ (Qs a i)),ZI (Nd.cl (Qs a i)),D.str (Nd.tx (Qs a i)),ZI (Nd.pr (Qs a i)),ZI (Nd.op (Qs a i)),ZI (Arr.k (Vr a i)),SI (QhI a i),SI (QhJ a i),D.sl N4 (LN (Qdr a i)) (fun (i_1:Nat)=>Arr.row (List.getD (Qdr a i) i_1 Jw)) Mode.any,D.sl (15:Nat) (LN (Qds a i)) (fun (i_1:Nat)=>Nd.row (List.getD (Qds a i) i_1 K0)) Mode.any,D.sl (34:Nat) (LN (Qdt a i)) (fun (i_1:Nat)=>Sm.row (List.getD (Qdt a i) i_1 K1)) Mode.any,ZI (Nd.de (Qs a i)),ZI (Nd.sl (Qs a i)),ZI (Nd.ss (Qs a i))]) Mode.any
theorem rbm_ok(q:Int)(l:List Sm)(hl:l.length≤maxLen)(h:∀s∈l,s.sm):CD 53 [gsl 34 Sm.row1 l,.int .i64 q] (.bool (mentB l q)):=by
 refine con_of (A:=sC _ _) (x:=()) (E:=Erbm q l) (eOk (conRme_ok (rme_ok q)) rfl) Tryz.func53 rfl (by kernel_rfl) rfl (by simp[sC,Erbm,EC,E0]) ?_
 refine vc_eq (T :=
  (∃(x:Nat),Y2 x l q∧(Z0=(↑x:Int)∧True)∧True∧True)∧∀(x:Nat),Y2 x l q→ifB (decide ((↑x:Int)<(LI l))) (side (Z0≤(↑x:Int)∧(↑x:Int)<(LI l)) (∃(x_1:Nd),(isN x_1 [D.agg [ZI (Nd.kd (QB l x)),ZI (Nd.at_ (QB l x)),ZI (Nd.cl (QB l x)),D.str (Nd.tx (QB l x)),ZI (Nd.pr (QB l x)),ZI (Nd.op (QB l x)),ZI (Arr.k (Vo l x)),SI (QhC l x),SI (QhD l x),D.sl N4 (LN (Qdh l x)) (fun (i:Nat)=>Arr.row (List.getD (Qdh l x) i Jw)) Mode.any,D.sl (15:Nat) (LN (Qdi l x)) (fun (i:Nat)=>Nd.row (List.getD (Qdi l x) i K0)) Mode.any,D.sl (34:Nat) (LN (Qdj l x)) (fun (i:Nat)=>Sm.row (List.getD (Qdj l x) i K1)) Mode.any,ZI (Nd.de (QB l x)),ZI (Nd.sl (QB l x)),ZI (Nd.ss (QB l x))],ZI q] [ZI q]∧Nd.sm x_1)∧∀(y:Unit),True→ifB (mentN q x_1) (Qdk l q) (side (Z0≤(↑x:Int)∧(↑x:Int)<(LI l)) (∃(x_2:Nd),(isN x_2 [D.agg [ZI (Nd.kd (QC l x)),ZI (Nd.at_ (QC l x)),ZI (Nd.cl (QC l x)),D.str (Nd.tx (QC l x)),ZI (Nd.pr (QC l x)),ZI (Nd.op (QC l x)),ZI (Arr.k (Vp l x)),SI (QhE l x),SI (QhF l x),D.sl N4 (LN (Qdl l x)) (fun (i:Nat)=>Arr.row (List.getD (Qdl l x) i Jw)) Mode.any,D.sl (15:Nat) (LN (Qdm l x)) (fun (i:Nat)=>Nd.row (List.getD (Qdm l x) i K0)) Mode.any,D.sl (34:Nat) (LN (Qdn l x)) (fun (i:Nat)=>Sm.row (List.getD (Qdn l x) i K1)) Mode.any,ZI (Nd.de (QC l x)),ZI (Nd.sl (QC l x)),ZI (Nd.ss (QC l x))],ZI q] [ZI q]∧Nd.sm x_2)∧∀(y:Unit),True→ifB (mentN q x_2) (Qdk l q) ((SM (QhK l)∧SM (ZI q)∧True)∧∃(y:Nat),Y2 y l q∧LN l-y<LN l-x∧(IntKind.wrap IntKind.i64 ((↑x:Int)+Z1)=(↑y:Int)∧True)∧True∧True))))) (RT (false=mentB l q))) (by kernel_rfl) ?_
 delta DA GI LI LN N1 N4 SI SM Z0 Z1 ZI Jw K0 K1 K2 Qr Qs Y2 Qdg QB Vo QhC QhD Qdh Qdi Qdj Qdk QC Vp QhE QhF Qdl Qdm Qdn Vq QhG QhH Qdo Qdp Qdq Vr QhI QhJ Qdr Qds Qdt QhK RT
 try simp only[← dm]
 try simp only[← dn]
 simp only[Int.toNat_natCast,ifB_iff,side_iff,decide_eq_true_eq,decide_eq_false_iff_not,true_and,and_true,exists_const,forall_const]
 unfold maxLen at hl
 refine⟨⟨0,⟨Nat.zero_le _,fun j hj=>absurd hj (by omega)⟩,rfl⟩,fun i hi'=>⟨fun hlt=>?_,fun hge=>?_⟩⟩
 ·obtain ⟨i1,hi⟩:=hi'
  have hi1:i<l.length:=by omega
  obtain ⟨h1,h2⟩:=sm_sm2 (h _ (sm_getD hi1))
  have w:IntKind.i64.wrap ((i:Int)+1)=((i+1:Nat):Int):=by rw[wrap_i64' (by omega) (by omega)];rfl
  have yes:(mentN q (l.getD i default).te||mentN q (l.getD i default).nd)=true→true=mentB l q:=fun c=>(any_yes (l:=l) (p:=fun s:Sm=>mentN q s.te||mentN q s.nd) hi1 c).symm
  have go:(mentN q (l.getD i default).te||mentN q (l.getD i default).nd)=false→∀j,j<i+1→(mentN q (l.getD j default).te||mentN q (l.getD j default).nd)=false:=fun c j hj=>by
   by_cases e':j=i
   ·rw[e'];exact c
   ·exact hi j (by omega)
  refine⟨⟨by omega,by omega⟩,(l.getD i default).te,⟨nd_self _ _,h1⟩,fun c=>yes (by rw[c];rfl),fun c=>⟨⟨by omega,by omega⟩,(l.getD i default).nd,⟨nd_self _ _,h2⟩,fun c2=>yes (by rw[c2];simp),fun c2=>⟨i+1,⟨hi1,go (by rw[c,c2];rfl)⟩,by omega,w⟩⟩⟩
 ·obtain ⟨i1,hi⟩:=hi'
  exact (any_no (l:=l) (p:=fun s:Sm=>mentN q s.te||mentN q s.nd) fun j hj=>hi j (by omega)).symm
end
end Go.Proofs.YtjnifeedbgefpaaGreatDoor
