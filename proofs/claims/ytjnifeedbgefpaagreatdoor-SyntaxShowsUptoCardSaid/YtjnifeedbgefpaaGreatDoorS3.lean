/- Functions of the given program and what each of them computes: lemmas towards the statement, their conditions stated with each of them. -/
import Derived.Test.YtjnifeedbgefpaaGreatDoorS2
import Derived.Lib.Builder
import Derived.Lib.UnsafeStr
import Derived.WalkKit
import Derived.ProofKit
import Derived.Test.YtjnifeedbgefpaaGreatDoorCards
import Derived.Test.YtjnifeedbgefpaaGreatDoorTie
import Derived.OpenShut
import Derived.Deep.DeepHandedRow
import Derived.Lib.LaidTab
import Derived.Stop.LaidErr
import Derived.Test.YtjnifeedbgefpaaGreatDoorProg
import Derived.Lib.ItoaNum
import Derived.Lib.TrailingZeros
import Derived.Calls
import Derived.Below
import Derived.Laws.Entries
import Derived.Laws.Build
import Derived.Laws.Concat
import Derived.Laws.AppendOwn
import Derived.Laws.IdiomStrings
import Derived.Laws.BytesString
import Derived.Laws.NewFold
import Derived.Laws.MakeOwn
import Derived.Laws.IdiomCopy
import Derived.Laws.Shifts
import Derived.Laws.Strings
import Derived.Laws.Strings2
import Derived.Laws.Strings3
import Derived.Laws.RangeString
import Derived.Laws.Cover4
import Derived.Lib.DecodeN
import Derived.MapKept
import Derived.Laws.StructEq
import Derived.Orders
import Derived.Scope
import Derived.Recover
import Derived.KernelRfl
import Derived.Shelf.Strings.Builder1
import Derived.Shelf.Strings.Builder2
import Derived.Shelf.Strings.OnBuilder
import Derived.Shelf.Strings.BuilderF
import Derived.Shelf.Strconv.Itoa0
import Derived.Shelf.Strconv.Itoa1
import Derived.Shelf.LaysM
import Derived.Shelf.Strconv.Itoa2
import Derived.Shelf.Strconv.Itoa3
import Derived.Shelf.Strconv.Itoa4
import Derived.Shelf.Bits.Mul64
import Derived.Lib.AppendIntMem
import Derived.Lib.ItoaLen
import Derived.Test.YtjnifeedbgefpaaGreatDoorRows
import Derived.Lib.Join
namespace Go.Proofs.YtjnifeedbgefpaaGreatDoor
open Go Go.Ab
set_option maxRecDepth 100000
noncomputable section
def addZ(s:Int)(k:Nat):Int:=if s+(k:Int)≤16385 then s+(k:Int) else 16385
theorem szL_take{l:List Nd}{i:Nat}(h:i<l.length):szL (l.take (i+1))=szL (l.take i)+szN (l.getD i default):=by
 rw[take_step h,szL_app]
 simp only[szL]
 omega
theorem szL_take_le(l:List Nd)(i:Nat):szL (l.take i)≤szL l:=by
 have h:=szL_app (l.take i) (l.drop i)
 rw[List.take_append_drop] at h
 omega
def szSt(xs xc:Nat)(s:Int):St:=⟨[(2,xc,.cells [.fn (.func 30) [] [.ref 1 xs 0,.ref 2 xc 0]]),(1,xs,.cells [.int .i64 s])],[]⟩
def sSz(xs xc:Nat)(q:Nd×Int→Prop):FnSpec where
 β:=Nd×Int
 α:=Unit
 args:=fun y=>[.agg y.1.row1,.ref 1 xs 0,.ref 2 xc 0]
 st:=fun y=>szSt xs xc y.2
 pre:=q
 post:=fun _ _=>True
 res:=fun _ _=>.ret (.tup [])
 out:=fun y _=>szSt xs xc (addZ y.2 (szN y.1))
def sSz2(xs xc:Nat):FnSpec where
 β:=Nd×Int
 α:=Unit
 args:=fun y=>[.agg y.1.row2,.ref 1 xs 0,.ref 2 xc 0]
 st:=fun y=>szSt xs xc y.2
 pre:=fun _=>True
 post:=fun _ _=>True
 res:=fun _ _=>.ret (.tup [])
 out:=fun y _=>szSt xs xc (addZ y.2 (szN y.1))
def conSz1(xs xc:Nat)(n:Nd):Con:=fun k ds S=>match k with
 |31=>some (pA ds S (gsl 15 Nd.row1 (innerN n)) (isN2 n ds []))
 |30=>some (sSz xs xc (fun y=>y.1∈innerN n∧0≤y.2∧y.2≤16384))
 |_=>none
noncomputable def Esz1(xs xc:Nat)(n:Nd)(s:Int):Senv:={ EC (conSz1 xs xc n) 21 4 [5,9,10,11,12,16] (fun _=>([],[])) with
 ann:=fun b _ _S=>match b with
  |0=>some { slots:=[11],keep:=[0,1,2,3,9,10],α:=Nat×Int,st:=fun y=>([.int .i64 y.1],⟨[(2,xc,.cells [.fn (.func 30) [] [.ref 1 xs 0,.ref 2 xc 0]]),(1,xs,.cells [.int .i64 y.2])],[]⟩),inv:=fun y=>y.1≤(innerN n).length∧y.2=addZ (s+1) (szL ((innerN n).take y.1)),mu:=fun y=>(innerN n).length-y.1 }
  |_=>none }
def QlA(a:Nd):Arr:=Nd.va a
def Qxv(a:Nd):Int:=Arr.k (QlA a)
def Qxw(a:Nd):List Int:=Arr.sh (QlA a)
def Qxx(a:Nd):Nat:=LN (Qxw a)
def Qxy(a:Nd)(b:Nat):List D:=[ZI (GI (Qxw a) b)]
def Qxz(a:Nd):List Int:=Arr.nu (QlA a)
def QxA(a:Nd):Nat:=LN (Qxz a)
def QxB(a:Nd)(b:Nat):List D:=[ZI (GI (Qxz a) b)]
def QxC(a:Nd):List Arr:=Arr.it (QlA a)
def QxD(a:Nd):Nat:=LN (QxC a)
def Qp0:Arr:=DA
def QxE(a:Nd)(b:Nat):List D:=Arr.row (List.getD (QxC a) b Qp0)
def QiO:Nd:=Nd.mk Z0 Z0 Z0 [] Z0 Z0 Qp0 [] [] Z0 Z0 Z0
def QxF(a:Nd)(b:Nat):Nd:=List.getD (Nd.ki a) b QiO
def QxG:Sm:=Sm.mk Z0 Z0 [] Z0 QiO QiO
def QxH(a:Nd)(b:Nat):Sm:=List.getD (Nd.bo a) b QxG
def QxI(a:Nd):D:=D.agg [ZI (Nd.kd a),ZI (Nd.at_ a),ZI (Nd.cl a),D.str (Nd.tx a),ZI (Nd.pr a),ZI (Nd.op a),ZI (Qxv a),D.sl N1 (Qxx a) (fun (i:Nat)=>Qxy a i) Mode.any,D.sl N1 (QxA a) (fun (i:Nat)=>QxB a i) Mode.any,D.sl N4 (QxD a) (fun (i:Nat)=>QxE a i) Mode.any,D.sl (15:Nat) (LN (Nd.ki a)) (fun (i:Nat)=>Nd.row1 (QxF a i)) Mode.any,D.sl (34:Nat) (LN (Nd.bo a)) (fun (i:Nat)=>Sm.row1 (QxH a i)) Mode.any,ZI (Nd.de a),ZI (Nd.sl a),ZI (Nd.ss a)]
def QjE(a:Nd):List Nd:=innerN a
def QjF(a:Nd):Nat:=LN (QjE a)
def Qp1(a:Nat)(b:Nd)(c d:Int):Prop:=a≤QjF b∧c=addZ (d+Z1) (szL (List.take a (QjE b)))
def QJ8(a b:Nat):D:=D.fn (Fn.func (30:Nat)) [] [D.ref N1 a N0,D.ref N2 b N0]
def QlB(a b:Nat):Prop:=SM (QJ8 a b)∧True
def Qp2(a:Nd):Int:=(NI (QjF a))
def QxJ(a:Int)(b:Nd):Int:=addZ a (szN b)
def QxK(a b:Nat)(c d:Int)(e:Nd):Prop:=True∧∃(_y:Unit),True∧True∧(SM a∧QlB b a∧SM b∧(c=QxJ d e∧True)∧True)∧True
def Hg(a:Nd)(b:Nat):Nd:=List.getD (QjE a) (Int.toNat (↑b:Int)) QiO
def QlC(a:Nd)(b:Nat):Arr:=Nd.va (Hg a b)
def QxL(a:Nd)(b:Nat):List Int:=Arr.sh (QlC a b)
def QxM(a:Nd)(b:Nat):Nat:=LN (QxL a b)
def QxN(a:Nd)(b:Nat):List Int:=Arr.nu (QlC a b)
def QxO(a:Nd)(b:Nat):Nat:=LN (QxN a b)
def QxP(a:Nd)(b:Nat):List Arr:=Arr.it (QlC a b)
def QxQ(a:Nd)(b:Nat):Nat:=LN (QxP a b)
def QxR(a:Nd)(b:Nat):List Nd:=Nd.ki (Hg a b)
def QxS(a:Nd)(b:Nat):Nat:=LN (QxR a b)
def QxT(a:Nd)(b:Nat):List Sm:=Nd.bo (Hg a b)
def QxU(a:Nd)(b:Nat):Nat:=LN (QxT a b)
def QJ9(a:Nd):D:=D.sl (15:Nat) (QjF a) (fun (i:Nat)=>Nd.row1 (List.getD (QjE a) i QiO)) Mode.any
theorem sz1_step(xs xc : Nat)(n : Nd)(s : Int)(hn : n.sm)(h0 : 0≤s)(h1 : s≤16384)(h : ∀b∈innerN n, ∀z, 0≤z → z≤16384 → ACalls Tryz.prog 30 ((sSz2 xs xc).args (b, z)) ((sSz2 xs xc).st (b, z)) (SpecR (sSz2 xs xc) (b, z))) :
  ACalls Tryz.prog 30 ((sSz2 xs xc).args (n,s)) ((sSz2 xs xc).st (n,s)) (SpecR (sSz2 xs xc) (n,s)):=by
 obtain ⟨_,k1,k2⟩:=sm_len hn
 refine con_of (A:=sSz2 xs xc) (x:=(n,s)) (E:=Esz1 xs xc n s) (eOk ?_ rfl) Tryz.func30 rfl (by kernel_rfl) rfl (by simp[sSz2,Esz1,EC,E0]) ?_
 ·intro k ds S A hh
  try unfold conSz1 at hh
  try dsimp only at hh
  split at hh
  ·injection hh with hh;subst hh
   exact pA_ok fun e=>CD.at_ (CD.wk (in0_ok n k1 k2) e) _
  ·injection hh with hh;subst hh
   refine ConOk.plain (fun y hy=>?_) rfl rfl
   refine ((h y.1 hy.1 y.2 hy.2.1 hy.2.2).wkArgs ?_).mono fun _ _ ⟨u,q1,q2,q3⟩=>⟨u,q1,q2,q3⟩
   simp only[sSz2,sSz,wkL,wkD]
   exact⟨nd1_wk _,by simp[weakD,chk_iff],by simp[weakD,chk_iff],trivial⟩
  ·cases hh
 refine vc_eq (T :=
  ∀(x:Nat),xc≠x∧xs≠x∧True→SM xs∧SM xs∧SM x∧∃(x_1:Unit),isN2 n [QxI n] []∧∀(y:Unit),True→(∃(x:Nat×Int),Qp1 x.1 n x.2 s∧(Z0=(NI x.1)∧True)∧(SM xc∧QlB xs xc∧SM xs∧(IntKind.wrap IntKind.i64 (s+Z1)=x.2∧True)∧True)∧True)∧∀(x_2:Nat×Int),Qp1 x_2.1 n x_2.2 s→ifB (decide ((NI x_2.1)<Qp2 n)) (side (Z0≤(NI x_2.1)∧(NI x_2.1)<Qp2 n) (∀(x_3:Nat),xc≠x_3∧xs≠x_3∧True→SM x_3∧SM xs∧ifB (decide ((16384:Int)<x_2.2)) (QxK xc xs x_2.2 s n) (SM xc∧SM x_3∧∃(x_4:Nd×Int),((Nd.kd (Hg n x_2.1)=Nd.kd x_4.1∧Nd.at_ (Hg n x_2.1)=Nd.at_ x_4.1∧Nd.cl (Hg n x_2.1)=Nd.cl x_4.1∧Nd.tx (Hg n x_2.1)=Nd.tx x_4.1∧Nd.pr (Hg n x_2.1)=Nd.pr x_4.1∧Nd.op (Hg n x_2.1)=Nd.op x_4.1∧Arr.k (QlC n x_2.1)=Qxv x_4.1∧(QxM n x_2.1=Qxx x_4.1∧(∀(i:Nat),i<QxM n x_2.1→[ZI (GI (QxL n x_2.1) i)]=Qxy x_4.1 i)∧True)∧(QxO n x_2.1=QxA x_4.1∧(∀(i:Nat),i<QxO n x_2.1→[ZI (GI (QxN n x_2.1) i)]=QxB x_4.1 i)∧True)∧(QxQ n x_2.1=QxD x_4.1∧(∀(i:Nat),i<QxQ n x_2.1→Arr.row (List.getD (QxP n x_2.1) i Qp0)=QxE x_4.1 i)∧True)∧(QxS n x_2.1=LN (Nd.ki x_4.1)∧(∀(i:Nat),i<QxS n x_2.1→Nd.row (List.getD (QxR n x_2.1) i QiO)=Nd.row (QxF x_4.1 i))∧True)∧(QxU n x_2.1=LN (Nd.bo x_4.1)∧(∀(i:Nat),i<QxU n x_2.1→Sm.row (List.getD (QxT n x_2.1) i QxG)=Sm.row (QxH x_4.1 i))∧True)∧Nd.de (Hg n x_2.1)=Nd.de x_4.1∧Nd.sl (Hg n x_2.1)=Nd.sl x_4.1∧Nd.ss (Hg n x_2.1)=Nd.ss x_4.1∧True)∧SM xs∧SM xc∧True)∧((SM xc∧QlB xs xc∧SM xs∧(x_2.2=x_4.2∧True)∧True)∧True)∧(x_4.1∈QjE n∧Z0≤x_4.2∧x_4.2≤(16384:Int))∧∀(y:Unit),True→(SM (QxI n)∧SM (D.ref N1 xs N0)∧SM (D.ref N2 xc N0)∧SM (D.ref (3:Nat) x N0)∧SM (QJ9 n)∧SM (ZI (Qp2 n))∧True)∧∃(y:Nat×Int),Qp1 y.1 n y.2 s∧QjF n-y.1<QjF n-x_2.1∧(IntKind.wrap IntKind.i64 ((NI x_2.1)+Z1)=(NI y.1)∧True)∧(SM xc∧QlB xs xc∧SM xs∧(QxJ x_4.2 x_4.1=y.2∧True)∧True)∧True))) (QxK xc xs x_2.2 s n)) (by kernel_rfl) ?_
 delta DA GI LN N0 N1 N2 N4 NI SM Z0 Z1 ZI QlA Qxv Qp0 QxE QiO QxF QxG QxH QxI QjE QjF Qp1 Qxw QJ8 QlB Qp2 QxJ QxK Hg QlC QxL QxM QxN Qxx QxO QxP QxQ QxR QxS QxT QxU QJ9 Qxy Qxz QxA QxB QxC QxD
 try simp only[← dm]
 try simp only[← dn]
 simp only[ne_eq,Int.toNat_natCast,ifB_iff,side_iff,decide_eq_true_eq,decide_eq_false_iff_not,true_and,and_true,exists_const,forall_const,Prod.exists]
 have hsz:=szN_inner n
 have w1:IntKind.i64.wrap (s+1)=s+1:=wrap_i64' (by omega) (by omega)
 intro x _
 refine⟨nd2_self n _,⟨0,s+1,⟨Nat.zero_le _,by simp only[List.take_zero,szL,addZ];split<;>omega⟩,rfl,w1⟩,?_⟩
 rintro ⟨i,c⟩ ⟨hi,hc⟩
 simp only at hi hc ⊢
 have hl:=sm_inner hn
 unfold maxLen at hl
 have hle:=szL_take_le (innerN n) i
 refine⟨fun hlt=>⟨⟨by omega,hlt⟩,fun _ _=>⟨fun hb=>?_,fun hb=>?_⟩⟩,fun hge=>?_⟩
 ·rw[hc]
  unfold addZ at hc ⊢
  split at hc<;>split<;>omega
 ·have hlt':i<(innerN n).length:=by omega
  have ht:=szL_take hlt'
  refine⟨(innerN n).getD i default,c,⟨rfl,rfl,rfl,rfl,rfl,rfl,rfl,⟨rfl,fun _ _=>rfl⟩,⟨rfl,fun _ _=>rfl⟩,⟨rfl,fun _ _=>rfl⟩,⟨rfl,fun _ _=>rfl⟩,⟨rfl,fun _ _=>rfl⟩,rfl,rfl,rfl⟩,rfl,⟨nd_getD hlt',?_,by omega⟩,i+1,addZ c (szN ((innerN n).getD i default)),⟨hlt',?_⟩,by omega,wrap_i64' (by omega) (by omega),rfl⟩
  ·unfold addZ at hc
   split at hc<;>omega
  ·rw[ht]
   unfold addZ at hc ⊢
   split at hc<;>split<;>split<;>omega
 ·have e:i=(innerN n).length:=by omega
  rw[e,List.take_length] at hc
  rw[hc]
  unfold addZ
  split<;>split<;>omega
theorem sz1_ok(xs xc:Nat)(n:Nd)(s:Int)(hn:n.sm)(h0:0≤s)(h1:s≤16384):ACalls Tryz.prog 30 ((sSz2 xs xc).args (n,s)) ((sSz2 xs xc).st (n,s)) (SpecR (sSz2 xs xc) (n,s)) :=
 sz1_step xs xc n s hn h0 h1 fun b hb z z0 z1=>sz1_ok xs xc b z (sm_kid hn hb) z0 z1
termination_by szN n
decreasing_by exact inner_sz hb
def sizeN(n:Nd):Int:=if szN n≤16385 then (szN n:Int) else 16385
def conSzs(n:Nd):Con:=fun k ds _=>match k with
 |30=>match ds with
  | [_,.ref _ xs _,.ref _ xc _]=>some (sSz xs xc (fun y=>y.1=n∧y.2=0))
  |_=>none
 |_=>none
noncomputable def Eszs(n:Nd):Senv:=EC (conSzs n) 11 5 [] (fun _=>([],[]))
def QlD(a:Nd):Arr:=Nd.va a
def QxV(a:Nd):Int:=Arr.k (QlD a)
def QxW(a:Nd):List Int:=Arr.sh (QlD a)
def Qp3(a:Nd):Nat:=LN (QxW a)
def QxX(a:Nd)(b:Nat):List D:=[ZI (GI (QxW a) b)]
def QxY(a:Nd):List Int:=Arr.nu (QlD a)
def Qp4(a:Nd):Nat:=LN (QxY a)
def QxZ(a:Nd)(b:Nat):List D:=[ZI (GI (QxY a) b)]
def Qx0(a:Nd):List Arr:=Arr.it (QlD a)
def Qp5(a:Nd):Nat:=LN (Qx0 a)
def Qx1:Arr:=DA
def Qx2(a:Nd)(b:Nat):List D:=Arr.row (List.getD (Qx0 a) b Qx1)
def Qp6(a:Nd):Nat:=LN (Nd.ki a)
def Qp7:Nd:=Nd.mk Z0 Z0 Z0 [] Z0 Z0 Qx1 [] [] Z0 Z0 Z0
def Qx3(a:Nd)(b:Nat):List D:=Nd.row (List.getD (Nd.ki a) b Qp7)
def Qp8(a:Nd):Nat:=LN (Nd.bo a)
def Qx4(a:Nd)(b:Nat):List D:=Sm.row (List.getD (Nd.bo a) b (Sm.mk Z0 Z0 [] Z0 Qp7 Qp7))
def Qx5(a:Int)(b:Nd):Int:=addZ a (szN b)
theorem szs_ok(n:Nd)(hn:n.sm):CD 11 [.agg n.row1] (.int .i64 (sizeN n)):=by
 refine con_of (A:=sC _ _) (x:=()) (E:=Eszs n) (eOk ?_ rfl) Tryz.func11 rfl (by kernel_rfl) rfl (by simp[sC,Eszs,EC,E0]) ?_
 ·intro k ds S A hh
  try unfold conSzs at hh
  try dsimp only at hh
  split at hh
  ·split at hh
   ·injection hh with hh;subst hh
    refine ConOk.plain (fun y hy=>?_) rfl rfl
    obtain ⟨y,z⟩:=y
    obtain ⟨rfl,rfl⟩:y=n∧z=0:=hy
    refine ((sz1_ok _ _ y 0 hn (by omega) (by omega)).wkArgs ?_).mono fun _ _ ⟨u,q1,q2,q3⟩=>⟨u,q1,q2,q3⟩
    simp only[sSz2,sSz,wkL,wkD]
    exact⟨nd1_wk _,by simp[weakD,chk_iff],by simp[weakD,chk_iff],trivial⟩
   ·cases hh
  ·cases hh
 refine vc_eq (T :=
  ∀(x:Nat),True→∀(x_1:Nat),x≠x_1∧True→SM x_1∧∀(x_2:Nat),x_1≠x_2∧x≠x_2∧True→SM x_2∧SM x_2∧SM x∧∃(x:Nd×Int),((Nd.kd n=Nd.kd x.1∧Nd.at_ n=Nd.at_ x.1∧Nd.cl n=Nd.cl x.1∧Nd.tx n=Nd.tx x.1∧Nd.pr n=Nd.pr x.1∧Nd.op n=Nd.op x.1∧QxV n=QxV x.1∧(Qp3 n=Qp3 x.1∧(∀(i:Nat),i<Qp3 n→QxX n i=QxX x.1 i)∧True)∧(Qp4 n=Qp4 x.1∧(∀(i:Nat),i<Qp4 n→QxZ n i=QxZ x.1 i)∧True)∧(Qp5 n=Qp5 x.1∧(∀(i:Nat),i<Qp5 n→Qx2 n i=Qx2 x.1 i)∧True)∧(Qp6 n=Qp6 x.1∧(∀(i:Nat),i<Qp6 n→Qx3 n i=Qx3 x.1 i)∧True)∧(Qp8 n=Qp8 x.1∧(∀(i:Nat),i<Qp8 n→Qx4 n i=Qx4 x.1 i)∧True)∧Nd.de n=Nd.de x.1∧Nd.sl n=Nd.sl x.1∧Nd.ss n=Nd.ss x.1∧True)∧SM x_1∧SM x_2∧True)∧((SM x_2∧(D.fn (Fn.func (30:Nat)) [] [D.ref (max (N0+N1) N0) x_1 N0,D.ref (max N2 (max (N0+N1) N0)) x_2 N0]=D.fn (Fn.func (30:Nat)) [] [D.ref N1 x_1 N0,D.ref N2 x_2 N0]∧True)∧SM x_1∧(Z0=x.2∧True)∧True)∧True)∧(x.1=n∧x.2=Z0)∧∀(y:Unit),True→SM x_1∧RT ((if (16385:Int)<Qx5 x.2 x.1 then (16385:Int) else Qx5 x.2 x.1)=sizeN n)) (by kernel_rfl) ?_
 delta DA GI LN N0 N1 N2 SM Z0 ZI QlD QxV QxW Qp3 QxX QxY Qp4 QxZ Qx0 Qp5 Qx1 Qx2 Qp6 Qp7 Qx3 Qp8 Qx4 Qx5 RT
 try simp only[← dm]
 try simp only[← dn]
 simp only[ne_eq,true_and,and_true,exists_const,forall_const,Prod.exists]
 refine fun _ _ _ _ _=>⟨n,0,⟨rfl,rfl,rfl,rfl,rfl,rfl,rfl,⟨rfl,fun _ _=>rfl⟩,⟨rfl,fun _ _=>rfl⟩,⟨rfl,fun _ _=>rfl⟩,⟨rfl,fun _ _=>rfl⟩,⟨rfl,fun _ _=>rfl⟩,rfl,rfl,rfl⟩,⟨rfl,rfl⟩,⟨rfl,rfl⟩,?_⟩
 unfold addZ sizeN
 split<;>split<;>split<;>omega
theorem va_ok{n:Nd}(h:n.ok):n.va.ok:=by
 cases n with
 |mk kd at_ cl tx pr op va ki bo de sl ss =>
  simp only[Nd.ok] at h
  exact h.2.1
theorem ki_ok{n:Nd}(h:n.ok):∀b∈n.ki,b.ok:=by
 cases n with
 |mk kd at_ cl tx pr op va ki bo de sl ss =>
  simp only[Nd.ok] at h
  exact (ndsOk_iff _).1 h.2.2.1
theorem bo_ok'{n:Nd}(h:n.ok):∀s∈n.bo,s.ok:=by
 cases n with
 |mk kd at_ cl tx pr op va ki bo de sl ss =>
  simp only[Nd.ok] at h
  exact (smsOk_iff _).1 h.2.2.2
theorem sm_ok2{s:Sm}(h:s.ok):s.te.ok∧s.nd.ok:=by
 cases s with
 |mk kd at_ nm sl te nd =>
  simp only[Sm.ok] at h
  exact h.2
theorem sm_sm2{s:Sm}(h:s.sm):s.te.sm∧s.nd.sm:=by
 cases s with
 |mk kd at_ nm sl te nd =>
  simp only[Sm.sm] at h
  exact h.2
theorem nd_ok(n:Nd)(ho:n.ok)(hn:n.sm):RNode n :=
 nd_step n hn (va_ok ho) (bo_step n.bo true (sm_len hn).2.2 fun s hs =>
  have h1:=sm_ok2 (bo_ok' ho s hs)
  have h2:=sm_sm2 (sm_bo hn s hs)
  ⟨nd_ok s.nd h1.2 h2.2,nd_ok s.te h1.1 h2.1⟩) fun b hb=>nd_ok b (ki_ok ho b hb) (sm_kid hn (kid_inner hb))
termination_by SizeOf.sizeOf n
decreasing_by
 ·have:=Nd.size_stmt hs
  have:=Sm.size_nd s
  omega
 ·have:=Nd.size_stmt hs
  have:=Sm.size_te s
  omega
 ·exact Nd.size_kid hb
theorem bo_all(l:List Sm)(g:Bool)(hl:l.length≤maxB)(ho:∀s∈l,s.ok)(hs:∀s∈l,s.sm):RBody l g :=
 bo_step l g hl fun s h=>⟨nd_ok s.nd (sm_ok2 (ho s h)).2 (sm_sm2 (hs s h)).2,nd_ok s.te (sm_ok2 (ho s h)).1 (sm_sm2 (hs s h)).1⟩
def conCks(n:Nd):Con:=fun k ds S=>match k with
 |34=>some (pA ds S (.bool (deepB n 60)) (isN n ds [.int .i64 60]))
 |11=>some (pA ds S (.int .i64 (sizeN n)) (isN n ds []))
 |46=>some (pA ds S (.bool (nodeV n)) (isN n ds []))
 |_=>none
theorem conCks_ok{n:Nd}(ho:n.ok)(hn:n.sm):ConOk Tryz.prog (conCks n):=by
 intro k ds S A hh
 unfold conCks at hh
 split at hh
 ·injection hh with hh;subst hh
  exact pA_ok fun e=>CD.at_ (CD.isN (de_ok n 60 hn (by unfold inI64;omega)) e) _
 ·injection hh with hh;subst hh
  exact pA_ok fun e=>CD.at_ (CD.wk (szs_ok n hn) e) _
 ·injection hh with hh;subst hh
  exact pA_ok fun e=>CD.at_ (CD.isN (nd_ok n ho hn) e) _
 ·cases hh
noncomputable def Ecks(n:Nd):Senv:=EC (conCks n) 14 4 [6,10] (fun _=>([],[]))
def QlE(a:Nd):Arr:=Nd.va a
def QKa(a:Nd):List Int:=Arr.sh (QlE a)
def QKb(a:Nd):List Int:=Arr.nu (QlE a)
def Qx6(a:Nd):List Arr:=Arr.it (QlE a)
def Qx7:Arr:=DA
def Qp9:Nd:=Nd.mk Z0 Z0 Z0 [] Z0 Z0 Qx7 [] [] Z0 Z0 Z0
def Qx8(a:Nd):D:=D.agg [ZI (Nd.kd a),ZI (Nd.at_ a),ZI (Nd.cl a),D.str (Nd.tx a),ZI (Nd.pr a),ZI (Nd.op a),ZI (Arr.k (QlE a)),SI (QKa a),SI (QKb a),D.sl N4 (LN (Qx6 a)) (fun (i:Nat)=>Arr.row (List.getD (Qx6 a) i Qx7)) Mode.any,D.sl (15:Nat) (LN (Nd.ki a)) (fun (i:Nat)=>Nd.row (List.getD (Nd.ki a) i Qp9)) Mode.any,D.sl (34:Nat) (LN (Nd.bo a)) (fun (i:Nat)=>Sm.row (List.getD (Nd.bo a) i (Sm.mk Z0 Z0 [] Z0 Qp9 Qp9))) Mode.any,ZI (Nd.de a),ZI (Nd.sl a),ZI (Nd.ss a)]
def QlF(a:Nd):Int:=checkN a
def Qx9(a:Nd):Prop:=isN a [Qx8 a] []
theorem ck_ok'(n:Nd)(ho:n.ok)(hn:n.sm):CD 24 [.agg n.row1] (.int .i64 (checkN n)):=by
 refine con_of (A:=sC _ _) (x:=()) (E:=Ecks n) (eOk (conCks_ok ho hn) rfl) Tryz.func24 rfl (by kernel_rfl) rfl (by simp[sC,Ecks,EC,E0]) ?_
 refine vc_eq (T :=
  ∀(x:Nat),True→SM x∧∃(x_1:Unit),isN n [Qx8 n,ZI (60:Int)] [ZI (60:Int)]∧∀(y:Unit),True→ifB (deepB n (60:Int)) (RT ((8:Int)=QlF n)) (SM x∧∃(x_2:Unit),Qx9 n∧∀(y:Unit),True→ifB (decide ((16384:Int)<sizeN n)) (RT ((21:Int)=QlF n)) (SM x∧∃(x:Unit),Qx9 n∧∀(y:Unit),True→ifB (!nodeV n) (RT ((11:Int)=QlF n)) (RT (Z0=QlF n))))) (by kernel_rfl) ?_
 delta DA GI LN N1 N4 SI SM Z0 ZI QlE QKa QKb Qx6 Qx7 Qp9 Qx8 QlF Qx9 RT
 try simp only[← dm]
 try simp only[← dn]
 simp only[ifB_iff,decide_eq_true_eq,decide_eq_false_iff_not,true_and,and_true,Bool.not_eq_true',Bool.not_eq_false',exists_const,forall_const]
 have e1:deepB n 60=true↔60<dpN n:=by unfold deepB;rw[decide_eq_true_eq];omega
 have e2:16384<sizeN n↔16384<szN n:=by unfold sizeN;split<;>omega
 have e3:deepB n 60=false↔¬60<dpN n:=by rw[← e1];simp
 simp only[e1,e2,e3]
 unfold checkN
 refine⟨nd_self _ _,fun h=>(if_pos h).symm,fun h=>?_⟩
 rw[if_neg h]
 refine⟨nd_self _ _,fun h=>(if_pos h).symm,fun h=>?_⟩
 rw[if_neg h]
 refine⟨nd_self _ _,fun h=>?_,fun h=>?_⟩
 ·rw[h];rfl
 ·rw[h];rfl
def oneSt(k:Int)(n:Nd):Sm:=.mk k 0 [] 0 nd0 n
def conRns(n:Nd):Con:=fun k ds S=>match k with
 |24=>some (pA ds S (.int .i64 (checkN n)) (isN n ds []))
 |25=>some (pA ds S (.bool (outB [oneSt 1 n])) (wkL ds [gsl 34 Sm.row1 [oneSt 1 n]]))
 |_=>none
def zcells:List D:=[.int .i64 0,.int .i64 0,.int .i64 0,.str [],.int .i64 0,.int .i64 0,.int .i64 0,.sl 1 0 (fun _=>[]) .nil,.sl 1 0 (fun _=>[]) .nil,.sl 1 0 (fun _=>[]) .nil,.sl 1 0 (fun _=>[]) .nil,.sl 1 0 (fun _=>[]) .nil,.int .i64 0,.int .i64 0,.int .i64 0]
theorem zero_wk:wkL zcells nd0.rowE:=by
 simp[zcells,Nd.rowE,nd0,Nd.kd,Nd.at_,Nd.cl,Nd.tx,Nd.pr,Nd.op,Nd.va,Nd.ki,Nd.bo,Nd.de,Nd.sl,Nd.ss,Arr.k,Arr.sh,Arr.nu,Arr.it,isl,gsl,wkL,wkD,weakD,chk_iff,weakM,nilMB,kEq]
theorem one_wk(k:Int)(n:Nd):wkL [.sl 34 1 (fun i=>[D.int .i64 k::.int .i64 0::.str []::.int .i64 0::(zcells++n.rowE)].getD i []) .full] [gsl 34 Sm.row1 [oneSt k n]]:=by
 simp only[gsl,wkL,wkD,chk_iff]
 refine⟨⟨by simp,by simp,fun i hi=>?_,by simp[weakM]⟩,trivial⟩
 match i,hi with
 |0,_ =>
  show wkL (D.int .i64 k::.int .i64 0::.str []::.int .i64 0::(zcells++n.rowE)) (.int .i64 k::.int .i64 0::.str []::.int .i64 0::(nd0.rowE++n.rowE))
  simp only[wkL]
  exact⟨wkD_refl _,wkD_refl _,wkD_refl _,wkD_refl _,wkL_app zero_wk (wkL_refl _)⟩
theorem one_sm{k:Int}{n:Nd}(hn:n.sm):∀s∈[oneSt k n],s.sm:=by
 intro s hs
 rw[List.mem_singleton.1 hs]
 unfold oneSt
 simp only[Sm.sm]
 exact⟨by decide,by simp[nd0,Nd.sm,Arr.sm,smL,ndsSm,smsSm],hn⟩
theorem conRns_ok{n:Nd}(ho:n.ok)(hn:n.sm):ConOk Tryz.prog (conRns n):=by
 intro k ds S A hh
 unfold conRns at hh
 split at hh
 ·injection hh with hh;subst hh
  exact pA_ok fun e=>CD.at_ (CD.wk (ck_ok' n ho hn) e) _
 ·injection hh with hh;subst hh
  exact pA_ok fun e=>CD.at_ (CD.wk (ou_ok [oneSt 1 n] (by simp[maxLen]) (one_sm hn)) e) _
 ·cases hh
noncomputable def Erns(n:Nd):Senv:=EC (conRns n) 13 4 [7,12] (fun _=>([],[]))
def QlG(a:Nd):Arr:=Nd.va a
def QKc(a:Nd):List Int:=Arr.sh (QlG a)
def QKd(a:Nd):List Int:=Arr.nu (QlG a)
def Qya(a:Nd):List Arr:=Arr.it (QlG a)
def Qyb:Arr:=DA
def Qqa:Nd:=Nd.mk Z0 Z0 Z0 [] Z0 Z0 Qyb [] [] Z0 Z0 Z0
def Qyc:Sm:=Sm.mk Z0 Z0 [] Z0 Qqa Qqa
def Qyd(a:Nd):List D:=[ZI (Nd.kd a),ZI (Nd.at_ a),ZI (Nd.cl a),D.str (Nd.tx a),ZI (Nd.pr a),ZI (Nd.op a),ZI (Arr.k (QlG a)),SI (QKc a),SI (QKd a),D.sl N4 (LN (Qya a)) (fun (i:Nat)=>Arr.row (List.getD (Qya a) i Qyb)) Mode.any,D.sl (15:Nat) (LN (Nd.ki a)) (fun (i:Nat)=>Nd.row (List.getD (Nd.ki a) i Qqa)) Mode.any,D.sl (34:Nat) (LN (Nd.bo a)) (fun (i:Nat)=>Sm.row (List.getD (Nd.bo a) i Qyc)) Mode.any,ZI (Nd.de a),ZI (Nd.sl a),ZI (Nd.ss a)]
def Qqb(a:Nd):Int:=rightN a
def H4:D:=ZI Z0
def QjG:D:=D.sl N1 N0 (fun (_x:Nat)=>[]) Mode.nil
def Qqc(a:Nd):List Sm:=[oneSt Z1 a]
theorem rn_ok'(n:Nd)(ho:n.ok)(hn:n.sm):CD 9 [.agg n.row1] (.int .i64 (rightN n)):=by
 refine con_of (A:=sC _ _) (x:=()) (E:=Erns n) (eOk (conRns_ok ho hn) rfl) Tryz.func9 rfl (by kernel_rfl) rfl (by simp[sC,Erns,EC,E0]) ?_
 refine vc_eq (T :=
  ∀(x:Nat),True→SM x∧∃(x_1:Unit),isN n [D.agg (Qyd n)] []∧∀(y:Unit),True→ifB (checkN n != Z0) (RT (checkN n=Qqb n)) (SM x∧∃(x:Unit),wkL [D.sl (34:Nat) N1 (fun (i:Nat)=>List.getD [ZI Z1::H4::D.str []::H4::H4::H4::H4::D.str []::H4::H4::H4::QjG::QjG::QjG::QjG::QjG::H4::H4::H4::Qyd n] i []) Mode.full] [D.sl (34:Nat) (LN (Qqc n)) (fun (i:Nat)=>Sm.row1 (List.getD (Qqc n) i Qyc)) Mode.any]∧∀(y:Unit),True→ifB (outB (Qqc n)) (RT ((11:Int)=Qqb n)) (RT (Z0=Qqb n)))) (by kernel_rfl) ?_
 delta DA GI LN N0 N1 N4 SI SM Z0 Z1 ZI QKc QKd Qya Qyb Qqa Qyc Qyd Qqb H4 QjG Qqc QlG RT
 try simp only[← dm]
 try simp only[← dn]
 simp only[ne_eq,ifB_iff,true_and,and_true,bne_iff_ne,bne_eq_false_iff_eq,exists_const,forall_const]
 have hr:rightN n=if checkN n≠0 then checkN n else if outB [oneSt 1 n]=true then 11 else 0:=rfl
 rw[hr]
 refine⟨nd_self _ _,fun h=>(if_pos h).symm,fun h=>⟨one_wk 1 n,fun h2=>?_,fun h2=>?_⟩⟩
 ·rw[if_neg (by simpa using h),if_pos h2]
 ·rw[if_neg (by simpa using h),if_neg (by rw[h2];exact Bool.false_ne_true)]
def anyD(l:List Nd):Bool:=l.any fun b=>deepB b 60
def anyB(l:List Sm):Bool:=l.any fun s=>anyD (partsS s)
def sumZ:List Nd→Int
 | []=>0
 |x::r=>sizeN x+sumZ r
def sumB:List Sm→Int
 | []=>0
 |s::r=>sumZ (partsS s)+sumB r
theorem anyD_take{l:List Nd}{i:Nat}(h:i<l.length):anyD (l.take (i+1))=(anyD (l.take i)||deepB (l.getD i default) 60):=by
 unfold anyD
 rw[take_step h,List.any_append]
 simp
theorem anyB_take{l:List Sm}{i:Nat}(h:i<l.length):anyB (l.take (i+1))=(anyB (l.take i)||anyD (partsS (l.getD i default))):=by
 unfold anyB
 rw[take_step h,List.any_append]
 simp
theorem sumZ_app:∀a b:List Nd,sumZ (a++b)=sumZ a+sumZ b
 | [],b=>by simp only[List.nil_append,sumZ];omega
 |x::a,b=>by simp only[List.cons_append,sumZ,sumZ_app a b];omega
theorem sumB_app:∀a b:List Sm,sumB (a++b)=sumB a+sumB b
 | [],b=>by simp only[List.nil_append,sumB];omega
 |x::a,b=>by simp only[List.cons_append,sumB,sumB_app a b];omega
theorem sumZ_take{l:List Nd}{i:Nat}(h:i<l.length):sumZ (l.take (i+1))=sumZ (l.take i)+sizeN (l.getD i default):=by
 rw[take_step h,sumZ_app]
 simp only[sumZ]
 omega
theorem sumB_take{l:List Sm}{i:Nat}(h:i<l.length):sumB (l.take (i+1))=sumB (l.take i)+sumZ (partsS (l.getD i default)):=by
 rw[take_step h,sumB_app]
 simp only[sumB]
 omega
theorem sizeN_le(n:Nd):0≤sizeN n∧sizeN n≤16385:=by
 unfold sizeN
 split<;>omega
theorem sumZ_le:∀l:List Nd,0≤sumZ l∧sumZ l≤16385*(l.length:Int)
 | []=>by simp[sumZ]
 |x::r=>by
  have:=sizeN_le x
  have:=sumZ_le r
  simp only[sumZ,List.length_cons]
  omega
theorem sumB_le:∀l:List Sm,0≤sumB l∧sumB l≤32770*(l.length:Int)
 | []=>by simp[sumB]
 |s::r=>by
  have h1:=sumZ_le (partsS s)
  have:=sumB_le r
  have:=parts_two s
  simp only[sumB,List.length_cons]
  omega
theorem sumZ_sz:∀l:List Nd,sumZ l≤(szL l:Int)∧(szL l≤16384→sumZ l=(szL l:Int))∧(16384<szL l→16384<sumZ l)
 | []=>by simp[sumZ,szL]
 |x::r=>by
  have:=sumZ_sz r
  have:=sumZ_le r
  have h:sizeN x=if szN x≤16385 then (szN x:Int) else 16385:=rfl
  simp only[sumZ,szL]
  split at h<;>omega
theorem sumB_flat:∀l:List Sm,sumB l=sumZ (l.flatMap partsS)
 | []=>by simp only[sumB,List.flatMap_nil,sumZ]
 |s::r=>by simp only[sumB,List.flatMap_cons,sumZ_app,sumB_flat r]
theorem sumB_sz(l:List Sm):16384<sumB l↔16384<szB l:=by
 rw[sumB_flat,szB_parts]
 have:=sumZ_sz (l.flatMap partsS)
 omega
theorem anyB_flat:∀l:List Sm,anyB l=anyD (l.flatMap partsS)
 | []=>rfl
 |s::r=>by
  have:=anyB_flat r
  unfold anyB anyD at this ⊢
  rw[List.any_cons,this,List.flatMap_cons,List.any_append]
theorem anyB_dp(l:List Sm):anyB l=true↔60<dpB l:=by
 rw[anyB_flat,dpB_parts]
 unfold anyD
 rw[deep_any]
 constructor
 ·rintro ⟨_,h⟩;omega
 ·intro h
  refine⟨fun e=>?_,by omega⟩
  rw[e] at h
  simp[dpL] at h
def conPr(l:List Sm):Con:=fun k ds S=>match k with
 |33=>some (pE (β:=Sm) ds S (fun s=>gsl 15 Nd.row1 (partsS s)) (fun s=>isS s ds []))
 |34=>some (pE (β:=Nd) ds S (fun b=>.bool (deepB b 60)) (fun b=>isN b ds [.int .i64 60]∧b.sm))
 |11=>some (pE (β:=Nd) ds S (fun b=>.int .i64 (sizeN b)) (fun b=>isN b ds []∧b.sm))
 |35=>some (pA ds S (.bool (bodyV false l)) (wkL ds [gsl 34 Sm.row1 l,.bool false]))
 |25=>some (pA ds S (.bool (outB l)) (wkL ds [gsl 34 Sm.row1 l]))
 |_=>none
theorem conPr_ok{l:List Sm}(hl:l.length≤maxB)(ho:∀s∈l,s.ok)(hs:∀s∈l,s.sm):ConOk Tryz.prog (conPr l):=by
 intro k ds S A hh
 unfold conPr at hh
 split at hh
 ·injection hh with hh;subst hh
  exact pS_ok fun s e=>CD.at_ (CD.wk (pa_ok s) e) _
 ·injection hh with hh;subst hh
  exact pS_ok fun b ⟨e,hb⟩=>CD.at_ (CD.isN (de_ok b 60 hb (by unfold inI64;omega)) e) _
 ·injection hh with hh;subst hh
  exact pS_ok fun b ⟨e,hb⟩=>CD.at_ (CD.wk (szs_ok b hb) e) _
 ·injection hh with hh;subst hh
  exact pA_ok fun e=>CD.at_ (CD.wk (bo_all l false hl ho hs) e) _
 ·injection hh with hh;subst hh
  exact pA_ok fun e=>CD.at_ (CD.wk (ou_ok l (maxB_le hl) hs) e) _
 ·cases hh
noncomputable def Epr(l:List Sm):Senv:={ EC (conPr l) 72 5 [6,8,10,12,16,18,19,20,21,25,26,27,28,38,40,41,42,43,47,48,49,50,59,62] (fun _=>([],[])) with
 mg:=fun _=>2
 ann:=fun b env S=>match b with
  |0=>some { slots:=[20,4],keep:=[0,1,3,18,19],α:=Nat×Bool,st:=fun y=>([.int .i64 y.1,.bool y.2],S),inv:=fun y=>y.1≤l.length∧y.2=anyB (l.take y.1),mu:=fun y=>l.length-y.1 }
  |2=>match Ab.look env 25,Ab.look env 20,Ab.look env 4 with
   |.sl _ n _f _,.int _ i,.bool t=>some { slots:=[27,4],keep:=[0,1,3,18,19,20,25,26],α:=Nat×Bool,st:=fun y=>([.int .i64 y.1,.bool y.2],S),inv:=fun y=>y.1≤n∧y.2=(t||anyD ((partsS (l.getD i.toNat default)).take y.1)),mu:=fun y=>n-y.1 }
   |_,_,_=>none
  |4=>some { slots:=[42,3],keep:=[0,1,40,41],α:=Nat×Int,st:=fun y=>([.int .i64 y.1,.int .i64 y.2],S),inv:=fun y=>y.1≤l.length∧y.2=sumB (l.take y.1),mu:=fun y=>l.length-y.1 }
  |6=>match Ab.look env 47,Ab.look env 42,Ab.look env 3 with
   |.sl _ n _f _,.int _ i,.int _ t=>some { slots:=[49,3],keep:=[0,1,40,41,42,47,48],α:=Nat×Int,st:=fun y=>([.int .i64 y.1,.int .i64 y.2],S),inv:=fun y=>y.1≤n∧y.2=t+sumZ ((partsS (l.getD i.toNat default)).take y.1),mu:=fun y=>n-y.1 }
   |_,_,_=>none
  |_=>none }
def QjH(a:List Sm):Int:=rightP a
def Qqd(a:Nat)(b:List Sm)(c:Bool):Prop:=a≤LN b∧c=anyB (List.take a b)
def QiP:Arr:=DA
def Qgk:Nd:=Nd.mk Z0 Z0 Z0 [] Z0 Z0 QiP [] [] Z0 Z0 Z0
def QgX:Sm:=Sm.mk Z0 Z0 [] Z0 Qgk Qgk
def QiQ(a:List Sm)(b:Nat):Sm:=List.getD a b QgX
def Hh(a:List Sm)(b:Nat):Nd:=Sm.te (QiQ a b)
def QlH(a:List Sm)(b:Nat):Arr:=Nd.va (Hh a b)
def QKe(a:List Sm)(b:Nat):List Int:=Arr.sh (QlH a b)
def QKf(a:List Sm)(b:Nat):List Int:=Arr.nu (QlH a b)
def Qye(a:List Sm)(b:Nat):List Arr:=Arr.it (QlH a b)
def Qyf(a:List Sm)(b:Nat):List Nd:=Nd.ki (Hh a b)
def Qyg(a:List Sm)(b:Nat):List Sm:=Nd.bo (Hh a b)
def Hi(a:List Sm)(b:Nat):Nd:=Sm.nd (QiQ a b)
def QlI(a:List Sm)(b:Nat):Arr:=Nd.va (Hi a b)
def QKg(a:List Sm)(b:Nat):List Int:=Arr.sh (QlI a b)
def QKh(a:List Sm)(b:Nat):List Int:=Arr.nu (QlI a b)
def Qyh(a:List Sm)(b:Nat):List Arr:=Arr.it (QlI a b)
def Qyi(a:List Sm)(b:Nat):List Nd:=Nd.ki (Hi a b)
def Qyj(a:List Sm)(b:Nat):List Sm:=Nd.bo (Hi a b)
def Qyk(a:List Sm)(b:Nat):List D:=[ZI (Sm.kd (QiQ a b)),ZI (Sm.at_ (QiQ a b)),D.str (Sm.nm (QiQ a b)),ZI (Sm.sl (QiQ a b)),ZI (Nd.kd (Hh a b)),ZI (Nd.at_ (Hh a b)),ZI (Nd.cl (Hh a b)),D.str (Nd.tx (Hh a b)),ZI (Nd.pr (Hh a b)),ZI (Nd.op (Hh a b)),ZI (Arr.k (QlH a b)),SI (QKe a b),SI (QKf a b),D.sl N4 (LN (Qye a b)) (fun (i:Nat)=>Arr.row (List.getD (Qye a b) i QiP)) Mode.any,D.sl (15:Nat) (LN (Qyf a b)) (fun (i:Nat)=>Nd.row (List.getD (Qyf a b) i Qgk)) Mode.any,D.sl (34:Nat) (LN (Qyg a b)) (fun (i:Nat)=>Sm.row (List.getD (Qyg a b) i QgX)) Mode.any,ZI (Nd.de (Hh a b)),ZI (Nd.sl (Hh a b)),ZI (Nd.ss (Hh a b)),ZI (Nd.kd (Hi a b)),ZI (Nd.at_ (Hi a b)),ZI (Nd.cl (Hi a b)),D.str (Nd.tx (Hi a b)),ZI (Nd.pr (Hi a b)),ZI (Nd.op (Hi a b)),ZI (Arr.k (QlI a b)),SI (QKg a b),SI (QKh a b),D.sl N4 (LN (Qyh a b)) (fun (i:Nat)=>Arr.row (List.getD (Qyh a b) i QiP)) Mode.any,D.sl (15:Nat) (LN (Qyi a b)) (fun (i:Nat)=>Nd.row (List.getD (Qyi a b) i Qgk)) Mode.any,D.sl (34:Nat) (LN (Qyj a b)) (fun (i:Nat)=>Sm.row (List.getD (Qyj a b) i QgX)) Mode.any,ZI (Nd.de (Hi a b)),ZI (Nd.sl (Hi a b)),ZI (Nd.ss (Hi a b))]
def Qyl(a:Nat)(b:List Sm):Prop:=SM a∧((SM (LN b)∧(∀(i:Nat),i<LN b→SM (Qyk b i))∧True)∧True)∧True
def QlJ(a:Nat)(b:List Sm):Prop:=Qyl a b∧True
def QgY(a:List Sm)(b:Nat):Sm:=List.getD a (Int.toNat (↑b:Int)) QgX
def Qym(a:List Sm)(b:Nat):Int:=Sm.kd (QgY a b)
def Qyn(a:List Sm)(b:Nat):Int:=Sm.at_ (QgY a b)
def Qyo(a:List Sm)(b:Nat):List UInt8:=Sm.nm (QgY a b)
def Qyp(a:List Sm)(b:Nat):Int:=Sm.sl (QgY a b)
def Hj(a:List Sm)(b:Nat):Nd:=Sm.te (QgY a b)
def Qyq(a:List Sm)(b:Nat):Int:=Nd.kd (Hj a b)
def Qyr(a:List Sm)(b:Nat):Int:=Nd.at_ (Hj a b)
def Qys(a:List Sm)(b:Nat):Int:=Nd.cl (Hj a b)
def Qyt(a:List Sm)(b:Nat):List UInt8:=Nd.tx (Hj a b)
def Qyu(a:List Sm)(b:Nat):Int:=Nd.pr (Hj a b)
def Qyv(a:List Sm)(b:Nat):Int:=Nd.op (Hj a b)
def QlK(a:List Sm)(b:Nat):Arr:=Nd.va (Hj a b)
def Qyw(a:List Sm)(b:Nat):Int:=Arr.k (QlK a b)
def Qyx(a:List Sm)(b:Nat):List Int:=Arr.sh (QlK a b)
def Qqe(a:List Sm)(b:Nat):Nat:=LN (Qyx a b)
def Qyy(a:List Sm)(b c:Nat):List D:=[ZI (GI (Qyx a b) c)]
def Qyz(a:List Sm)(b:Nat):List Int:=Arr.nu (QlK a b)
def Qqf(a:List Sm)(b:Nat):Nat:=LN (Qyz a b)
def QyA(a:List Sm)(b c:Nat):List D:=[ZI (GI (Qyz a b) c)]
def QyB(a:List Sm)(b:Nat):List Arr:=Arr.it (QlK a b)
def Qqg(a:List Sm)(b:Nat):Nat:=LN (QyB a b)
def QyC(a:List Sm)(b c:Nat):List D:=Arr.row (List.getD (QyB a b) c QiP)
def QyD(a:List Sm)(b:Nat):List Nd:=Nd.ki (Hj a b)
def Qqh(a:List Sm)(b:Nat):Nat:=LN (QyD a b)
def QyE(a:List Sm)(b c:Nat):List D:=Nd.row (List.getD (QyD a b) c Qgk)
def QyF(a:List Sm)(b:Nat):List Sm:=Nd.bo (Hj a b)
def Qqi(a:List Sm)(b:Nat):Nat:=LN (QyF a b)
def QyG(a:List Sm)(b c:Nat):List D:=Sm.row (List.getD (QyF a b) c QgX)
def QyH(a:List Sm)(b:Nat):Int:=Nd.de (Hj a b)
def QyI(a:List Sm)(b:Nat):Int:=Nd.sl (Hj a b)
def QyJ(a:List Sm)(b:Nat):Int:=Nd.ss (Hj a b)
def Hk(a:List Sm)(b:Nat):Nd:=Sm.nd (QgY a b)
def QyK(a:List Sm)(b:Nat):Int:=Nd.kd (Hk a b)
def QyL(a:List Sm)(b:Nat):Int:=Nd.at_ (Hk a b)
def QyM(a:List Sm)(b:Nat):Int:=Nd.cl (Hk a b)
def QyN(a:List Sm)(b:Nat):List UInt8:=Nd.tx (Hk a b)
def QyO(a:List Sm)(b:Nat):Int:=Nd.pr (Hk a b)
def QyP(a:List Sm)(b:Nat):Int:=Nd.op (Hk a b)
def QlL(a:List Sm)(b:Nat):Arr:=Nd.va (Hk a b)
def QyQ(a:List Sm)(b:Nat):Int:=Arr.k (QlL a b)
def QyR(a:List Sm)(b:Nat):List Int:=Arr.sh (QlL a b)
def Qqj(a:List Sm)(b:Nat):Nat:=LN (QyR a b)
def QyS(a:List Sm)(b c:Nat):List D:=[ZI (GI (QyR a b) c)]
def QyT(a:List Sm)(b:Nat):List Int:=Arr.nu (QlL a b)
def Qqk(a:List Sm)(b:Nat):Nat:=LN (QyT a b)
def QyU(a:List Sm)(b c:Nat):List D:=[ZI (GI (QyT a b) c)]
def QyV(a:List Sm)(b:Nat):List Arr:=Arr.it (QlL a b)
def Qql(a:List Sm)(b:Nat):Nat:=LN (QyV a b)
def QyW(a:List Sm)(b c:Nat):List D:=Arr.row (List.getD (QyV a b) c QiP)
def QyX(a:List Sm)(b:Nat):List Nd:=Nd.ki (Hk a b)
def Qqm(a:List Sm)(b:Nat):Nat:=LN (QyX a b)
def QyY(a:List Sm)(b c:Nat):List D:=Nd.row (List.getD (QyX a b) c Qgk)
def QyZ(a:List Sm)(b:Nat):List Sm:=Nd.bo (Hk a b)
def Qqn(a:List Sm)(b:Nat):Nat:=LN (QyZ a b)
def Qy0(a:List Sm)(b c:Nat):List D:=Sm.row (List.getD (QyZ a b) c QgX)
def Qy1(a:List Sm)(b:Nat):Int:=Nd.de (Hk a b)
def Qy2(a:List Sm)(b:Nat):Int:=Nd.sl (Hk a b)
def Qy3(a:List Sm)(b:Nat):Int:=Nd.ss (Hk a b)
def Qy4(a:Sm)(b:List Sm)(c:Nat):Prop:=isS a [D.agg [ZI (Qym b c),ZI (Qyn b c),D.str (Qyo b c),ZI (Qyp b c),ZI (Qyq b c),ZI (Qyr b c),ZI (Qys b c),D.str (Qyt b c),ZI (Qyu b c),ZI (Qyv b c),ZI (Qyw b c),D.sl N1 (Qqe b c) (fun (i:Nat)=>Qyy b c i) Mode.any,D.sl N1 (Qqf b c) (fun (i:Nat)=>QyA b c i) Mode.any,D.sl N4 (Qqg b c) (fun (i:Nat)=>QyC b c i) Mode.any,D.sl (15:Nat) (Qqh b c) (fun (i:Nat)=>QyE b c i) Mode.any,D.sl (34:Nat) (Qqi b c) (fun (i:Nat)=>QyG b c i) Mode.any,ZI (QyH b c),ZI (QyI b c),ZI (QyJ b c),ZI (QyK b c),ZI (QyL b c),ZI (QyM b c),D.str (QyN b c),ZI (QyO b c),ZI (QyP b c),ZI (QyQ b c),D.sl N1 (Qqj b c) (fun (i:Nat)=>QyS b c i) Mode.any,D.sl N1 (Qqk b c) (fun (i:Nat)=>QyU b c i) Mode.any,D.sl N4 (Qql b c) (fun (i:Nat)=>QyW b c i) Mode.any,D.sl (15:Nat) (Qqm b c) (fun (i:Nat)=>QyY b c i) Mode.any,D.sl (34:Nat) (Qqn b c) (fun (i:Nat)=>Qy0 b c i) Mode.any,ZI (Qy1 b c),ZI (Qy2 b c),ZI (Qy3 b c)]] []
def Qqo(a:Sm):List Nd:=partsS a
def QiR(a:Sm):Nat:=LN (Qqo a)
def Qy5(a:Nat)(b:List Sm)(c:Nat):List Nd:=List.take a (partsS (QgY b c))
def QlM(a:Nat)(b:Sm)(c d:Bool)(e:List Sm)(f:Nat):Prop:=a≤QiR b∧c=(d||anyD (Qy5 a e f))
def QjI(a:Nat)(b:List Sm)(c d:Nat):Prop:=(SM a∧(SM (Qym b c)∧SM (Qyn b c)∧SM (Qyo b c)∧SM (Qyp b c)∧SM (Qyq b c)∧SM (Qyr b c)∧SM (Qys b c)∧SM (Qyt b c)∧SM (Qyu b c)∧SM (Qyv b c)∧SM (Qyw b c)∧(SM (Qqe b c)∧(∀(i:Nat),i<Qqe b c→SM (Qyy b c i))∧True)∧(SM (Qqf b c)∧(∀(i:Nat),i<Qqf b c→SM (QyA b c i))∧True)∧(SM (Qqg b c)∧(∀(i:Nat),i<Qqg b c→SM (QyC b c i))∧True)∧(SM (Qqh b c)∧(∀(i:Nat),i<Qqh b c→SM (QyE b c i))∧True)∧(SM (Qqi b c)∧(∀(i:Nat),i<Qqi b c→SM (QyG b c i))∧True)∧SM (QyH b c)∧SM (QyI b c)∧SM (QyJ b c)∧SM (QyK b c)∧SM (QyL b c)∧SM (QyM b c)∧SM (QyN b c)∧SM (QyO b c)∧SM (QyP b c)∧SM (QyQ b c)∧(SM (Qqj b c)∧(∀(i:Nat),i<Qqj b c→SM (QyS b c i))∧True)∧(SM (Qqk b c)∧(∀(i:Nat),i<Qqk b c→SM (QyU b c i))∧True)∧(SM (Qql b c)∧(∀(i:Nat),i<Qql b c→SM (QyW b c i))∧True)∧(SM (Qqm b c)∧(∀(i:Nat),i<Qqm b c→SM (QyY b c i))∧True)∧(SM (Qqn b c)∧(∀(i:Nat),i<Qqn b c→SM (Qy0 b c i))∧True)∧SM (Qy1 b c)∧SM (Qy2 b c)∧SM (Qy3 b c)∧True)∧Qyl d b)∧True
def QlN(a:Sm):Int:=(NI (QiR a))
def Qy6(a:Nat)(b:Sm):Bool:=decide ((↑a:Int)<QlN b)
def Qqp(a:List Sm):D:=D.sl (34:Nat) (LN a) (fun (i:Nat)=>Qyk a i) Mode.any
def Qqq(a:List Sm):List D:=[Qqp a]
def QKi(a:List Sm):D:=D.agg (Qqq a)
def QlO(a:List Sm):Prop:=SM (QKi a)
def QlP(a:Nat):Prop:=SM (D.ref N0 a N0)
def Qy7(a:List Sm):Prop:=SM (Qqp a)
def QKj(a:Sm):D:=D.sl (15:Nat) (QiR a) (fun (i:Nat)=>Nd.row1 (List.getD (Qqo a) i Qgk)) Mode.any
def Qy8(a:List Sm)(b:Nat)(c:Sm):Prop:=Qy7 a∧SM (ZI (LI a))∧SM (ZI (↑b:Int))∧SM (QKj c)∧SM (ZI (QlN c))∧True
def Qy9(a:List Sm)(b c:Nat)(d:Sm):Prop:=QlO a∧QlP b∧SM (ZI Z0)∧Qy8 a c d
def Qqr(a:Sm)(b c:Nat):Prop:=QiR a-b<QiR a-c
def QjJ(a b:Nat):Prop:=IntKind.wrap IntKind.i64 ((↑a:Int)+Z1)=(↑b:Int)
def Hl(a:Sm)(b:Nat):Nd:=List.getD (Qqo a) (Int.toNat (↑b:Int)) Qgk
def QlQ(a:Sm)(b:Nat):Arr:=Nd.va (Hl a b)
def QKk(a:Sm)(b:Nat):List Int:=Arr.sh (QlQ a b)
def QKl(a:Sm)(b:Nat):List Int:=Arr.nu (QlQ a b)
def Qza(a:Sm)(b:Nat):List Arr:=Arr.it (QlQ a b)
def Qzb(a:Sm)(b:Nat):List Nd:=Nd.ki (Hl a b)
def Qzc(a:Sm)(b:Nat):List Sm:=Nd.bo (Hl a b)
def Qzd(a:Sm)(b:Nat):D:=D.agg [ZI (Nd.kd (Hl a b)),ZI (Nd.at_ (Hl a b)),ZI (Nd.cl (Hl a b)),D.str (Nd.tx (Hl a b)),ZI (Nd.pr (Hl a b)),ZI (Nd.op (Hl a b)),ZI (Arr.k (QlQ a b)),SI (QKk a b),SI (QKl a b),D.sl N4 (LN (Qza a b)) (fun (i:Nat)=>Arr.row (List.getD (Qza a b) i QiP)) Mode.any,D.sl (15:Nat) (LN (Qzb a b)) (fun (i:Nat)=>Nd.row (List.getD (Qzb a b) i Qgk)) Mode.any,D.sl (34:Nat) (LN (Qzc a b)) (fun (i:Nat)=>Sm.row (List.getD (Qzc a b) i QgX)) Mode.any,ZI (Nd.de (Hl a b)),ZI (Nd.sl (Hl a b)),ZI (Nd.ss (Hl a b))]
def Qze(a:List Sm):Prop:=Qy7 a∧SM (ZI (LI a))∧True
def Qqs(a:Nat)(b:List Sm)(c:Int):Prop:=a≤LN b∧c=sumB (List.take a b)
def Qqt(a:Nat)(b:Sm)(c d:Int)(e:List Sm)(f:Nat):Prop:=a≤QiR b∧c=d+sumZ (Qy5 a e f)
def Qzf(a:List Sm):List D:=[Qqp a,D.bool false]
def Qzg(a:List Sm):Prop:=True∧∃(_y:Unit),True∧(11:Int)=QjH a∧True∧True
theorem pr_ok(l:List Sm)(hl:l.length≤maxB)(ho:∀s∈l,s.ok)(hs:∀s∈l,s.sm):CD 15 [.agg [gsl 34 Sm.row1 l]] (.int .i64 (rightP l)):=by
 refine con_of (A:=sC _ _) (x:=()) (E:=Epr l) (eOk (conPr_ok hl ho hs) rfl) Tryz.func15 rfl (by kernel_rfl) rfl (by simp[sC,Epr,EC,E0]) ?_
 refine vc_eq (T :=
  ∀(x:Nat),True→SM x∧ifB (decide ((1000:Int)<(LI l))) (RT ((2:Int)=QjH l)) (SM x∧(∃(x_1:Nat×Bool),Qqd x_1.1 l x_1.2∧(Z0=(NI x_1.1)∧false=x_1.2∧True)∧QlJ x l)∧∀(x_1:Nat×Bool),Qqd x_1.1 l x_1.2→ifB (decide ((NI x_1.1)<(LI l))) (side (Z0≤(NI x_1.1)∧(NI x_1.1)<(LI l)) (∀(x_2:Nat),x≠x_2∧True→SM x_2∧SM x_2∧∃(x_3:Sm),Qy4 x_3 l x_1.1∧∀(y:Unit),True→(∃(x_4:Nat×Bool),QlM x_4.1 x_3 x_4.2 x_1.2 l x_1.1∧(Z0=(NI x_4.1)∧x_1.2=x_4.2∧True)∧QjI x_2 l x_1.1 x)∧∀(x_4:Nat×Bool),QlM x_4.1 x_3 x_4.2 x_1.2 l x_1.1→ifB (Qy6 x_4.1 x_3) (side (Z0≤(NI x_4.1)∧(NI x_4.1)<QlN x_3) (∀(x_5:Nat),x_2≠x_5∧x≠x_5∧True→SM x_5∧ifB x_4.2 (Qy9 l x x_1.1 x_3∧∃(y:Nat×Bool),QlM y.1 x_3 y.2 x_1.2 l x_1.1∧Qqr x_3 y.1 x_4.1∧(QjJ x_4.1 y.1∧true=y.2∧True)∧QjI x_2 l x_1.1 x) (SM x_5∧∃(x_6:Nd),(isN x_6 [Qzd x_3 x_4.1,ZI (60:Int)] [ZI (60:Int)]∧Nd.sm x_6)∧∀(y:Unit),True→Qy9 l x x_1.1 x_3∧∃(y:Nat×Bool),QlM y.1 x_3 y.2 x_1.2 l x_1.1∧Qqr x_3 y.1 x_4.1∧(QjJ x_4.1 y.1∧deepB x_6 (60:Int)=y.2∧True)∧QjI x_2 l x_1.1 x))) ((QlO l∧QlP x∧SM (ZI Z0)∧Qze l)∧∃(y:Nat×Bool),Qqd y.1 l y.2∧LN l-y.1<LN l-x_1.1∧(QjJ x_1.1 y.1∧x_4.2=y.2∧True)∧QlJ x l))) (ifB x_1.2 (RT ((8:Int)=QjH l)) (SM x∧(∃(x_2:Nat×Int),Qqs x_2.1 l x_2.2∧(Z0=(NI x_2.1)∧Z0=x_2.2∧True)∧QlJ x l)∧∀(x_2:Nat×Int),Qqs x_2.1 l x_2.2→ifB (decide ((NI x_2.1)<(LI l))) (side (Z0≤(NI x_2.1)∧(NI x_2.1)<(LI l)) (∀(x_3:Nat),x≠x_3∧True→SM x_3∧SM x_3∧∃(x_4:Sm),Qy4 x_4 l x_2.1∧∀(y:Unit),True→(∃(x_5:Nat×Int),Qqt x_5.1 x_4 x_5.2 x_2.2 l x_2.1∧(Z0=(NI x_5.1)∧x_2.2=x_5.2∧True)∧QjI x_3 l x_2.1 x)∧∀(x_5:Nat×Int),Qqt x_5.1 x_4 x_5.2 x_2.2 l x_2.1→ifB (Qy6 x_5.1 x_4) (side (Z0≤(NI x_5.1)∧(NI x_5.1)<QlN x_4) (∀(x_6:Nat),x_3≠x_6∧x≠x_6∧True→SM x_6∧SM x_6∧∃(x_7:Nd),(isN x_7 [Qzd x_4 x_5.1] []∧Nd.sm x_7)∧∀(y:Unit),True→(QlO l∧QlP x∧Qy8 l x_2.1 x_4)∧∃(y:Nat×Int),Qqt y.1 x_4 y.2 x_2.2 l x_2.1∧Qqr x_4 y.1 x_5.1∧(QjJ x_5.1 y.1∧IntKind.wrap IntKind.i64 (x_5.2+sizeN x_7)=y.2∧True)∧QjI x_3 l x_2.1 x)) ((QlO l∧QlP x∧Qze l)∧∃(y:Nat×Int),Qqs y.1 l y.2∧LN l-y.1<LN l-x_2.1∧(QjJ x_2.1 y.1∧x_5.2=y.2∧True)∧QlJ x l))) (ifB (decide ((16384:Int)<x_2.2)) (RT ((21:Int)=QjH l)) (SM x∧∃(x_3:Unit),wkL (Qzf l) (Qzf l)∧∀(y:Unit),True→ifB (!bodyV false l) (Qzg l) (SM x∧∃(x:Unit),wkL (Qqq l) (Qqq l)∧∀(y:Unit),True→ifB (outB l) (Qzg l) (RT (Z0=QjH l))))))))) (by kernel_rfl) ?_
 delta DA GI LI LN N0 N1 N4 NI SI SM Z0 Z1 ZI Qy1 Qy2 Qy3 Qy4 Qqo QiR Qy5 QlM QjI QlN Qy6 Qqp Qqq QKi QlO QlP Qy7 QKj Qy8 Qy9 Qqr QjJ Hl QlQ QKk QKl Qza Qzb Qzc Qzd Qze Qqs Qqt Qzf Qzg QjH Qqd QiP Qgk QgX QiQ Hh QlH QKe QKf Qye Qyf Qyg Hi QlI QKg QKh Qyh Qyi Qyj Qyk Qyl QlJ QgY Qym Qyn Qyo Qyp Hj Qyq Qyr Qys Qyt Qyu Qyv QlK Qyw Qyx Qqe Qyy Qyz Qqf QyA QyB Qqg QyC QyD Qqh QyE QyF Qqi QyG QyH QyI QyJ Hk QyK QyL QyM QyN QyO QyP QlL QyQ QyR Qqj QyS QyT Qqk QyU QyV Qql QyW QyX Qqm QyY QyZ Qqn Qy0 RT
 try simp only[← dm]
 try simp only[← dn]
 simp only[ne_eq,implies_true,Int.toNat_natCast,ifB_iff,side_iff,decide_eq_true_eq,decide_eq_false_iff_not,true_and,and_true,Bool.not_eq_true',Bool.not_eq_false',exists_const,forall_const,Prod.exists]
 unfold maxB at hl
 have hr:rightP l=if 1000<l.length then 2 else if 60<dpB l then 8 else if 16384<szB l then 21 else if (bodyV false l&&!outB l)=true then 0 else 11:=rfl
 rw[hr]
 intro x
 refine⟨fun h=>by rw[if_pos (by omega)],fun h=>?_⟩
 rw[if_neg (by omega)]
 refine⟨⟨0,false,⟨Nat.zero_le _,rfl⟩,rfl,rfl⟩,?_⟩
 rintro ⟨i,t⟩ ⟨hi,ht⟩
 simp only at hi ht ⊢
 refine⟨fun hlt=>⟨⟨by omega,hlt⟩,fun z _=>?_⟩,fun hge=>?_⟩
 ·have hlt':i<l.length:=by omega
  have hsm:=sm_parts (hs _ (sm_getD hlt'))
  have h2:=parts_two (l.getD i default)
  have hta:=anyB_take hlt'
  refine⟨l.getD i default,sm_self _ _,⟨0,t,⟨Nat.zero_le _,by simp[anyD]⟩,rfl,rfl⟩,?_⟩
  rintro ⟨j,u⟩ ⟨hj,hu⟩
  simp only at hj hu ⊢
  refine⟨fun hl2=>⟨⟨by omega,hl2⟩,fun _ _=>?_⟩,fun hg2=>?_⟩
  ·have hl2':j<(partsS (l.getD i default)).length:=by omega
   have htd:=anyD_take hl2'
   have w:IntKind.i64.wrap ((j:Int)+1)=((j+1:Nat):Int):=by rw[wrap_i64' (by omega) (by omega)];rfl
   refine⟨fun e=>⟨j+1,true,⟨hl2',?_⟩,by omega,w,rfl⟩,fun e=>⟨(partsS (l.getD i default)).getD j default,⟨nd_self _ _,hsm _ (nd_getD hl2')⟩,j+1,_,⟨hl2',?_⟩,by omega,w,rfl⟩⟩
   ·rw[htd,← Bool.or_assoc,← hu,e];rfl
   ·rw[htd,← Bool.or_assoc,← hu,e];rfl
  ·have e:j=(partsS (l.getD i default)).length:=by omega
   refine⟨i+1,u,⟨hlt',?_⟩,by omega,by rw[wrap_i64' (by omega) (by omega)];rfl,rfl⟩
   rw[hta,← ht,hu,e,List.take_length]
 ·have e:i=l.length:=by omega
  rw[e,List.take_length] at ht
  have hdp:=anyB_dp l
  rw[← ht] at hdp
  refine⟨fun h3=>by rw[if_pos (hdp.1 h3)],fun h3=>?_⟩
  rw[if_neg (fun h4=>by rw[hdp.2 h4] at h3;cases h3)]
  refine⟨⟨0,0,⟨Nat.zero_le _,rfl⟩,rfl,rfl⟩,?_⟩
  rintro ⟨k,c⟩ ⟨hk,hc⟩
  simp only at hk hc ⊢
  have hb:=sumB_le (l.take k)
  rw[List.length_take] at hb
  refine⟨fun hlt=>⟨⟨by omega,hlt⟩,fun z _=>?_⟩,fun hge=>?_⟩
  ·have hlt':k<l.length:=by omega
   have hsm:=sm_parts (hs _ (sm_getD hlt'))
   have h2:=parts_two (l.getD k default)
   have hta:=sumB_take hlt'
   refine⟨l.getD k default,sm_self _ _,⟨0,c,⟨Nat.zero_le _,by simp[sumZ]⟩,rfl,rfl⟩,?_⟩
   rintro ⟨j,u⟩ ⟨hj,hu⟩
   simp only at hj hu ⊢
   refine⟨fun hl2=>⟨⟨by omega,hl2⟩,fun _ _=>?_⟩,fun hg2=>?_⟩
   ·have hl2':j<(partsS (l.getD k default)).length:=by omega
    have htd:=sumZ_take hl2'
    have hz:=sumZ_le ((partsS (l.getD k default)).take j)
    rw[List.length_take] at hz
    have hs1:=sizeN_le ((partsS (l.getD k default)).getD j default)
    have w:IntKind.i64.wrap ((j:Int)+1)=((j+1:Nat):Int):=by rw[wrap_i64' (by omega) (by omega)];rfl
    have w2:IntKind.i64.wrap (u+sizeN ((partsS (l.getD k default)).getD j default))=u+sizeN ((partsS (l.getD k default)).getD j default):=wrap_i64' (by omega) (by omega)
    refine⟨(partsS (l.getD k default)).getD j default,⟨nd_self _ _,hsm _ (nd_getD hl2')⟩,j+1,u+sizeN ((partsS (l.getD k default)).getD j default),⟨hl2',?_⟩,by omega,w,w2⟩
    rw[htd,hu]
    omega
   ·have e:j=(partsS (l.getD k default)).length:=by omega
    refine⟨k+1,u,⟨hlt',?_⟩,by omega,by rw[wrap_i64' (by omega) (by omega)];rfl,rfl⟩
    rw[hta,← hc,hu,e,List.take_length]
  ·have e:k=l.length:=by omega
   rw[e,List.take_length] at hc
   have hsz:=sumB_sz l
   rw[← hc] at hsz
   refine⟨fun h4=>by rw[if_pos (hsz.1 h4)],fun h4=>?_⟩
   rw[if_neg (fun h5=>h4 (hsz.2 h5))]
   exact⟨wkL_refl _,fun h5=>by rw[h5];rfl,fun h5=>⟨wkL_refl _,fun h6=>by rw[h5,h6];rfl,fun h6=>by rw[h5,h6];rfl⟩⟩
def _root_.Go.Ab.cellsO(os:List (Nat×Nat×AObj))(k:Nat):List D:=match getO os k with
 |some (_,.cells ds)=>ds
 |_=>[]
theorem ACalls.wkEnd{P:Program}{k:FuncId}{ds:List D}{S:St}{R R':AEnd→St→Prop}(h:ACalls P k ds S R)(hr:∀r S',R r S'→∃r',(∀C e,RepEnd C r e→RepEnd C r' e)∧R' r' S'):ACalls P k ds S R' :=
 ⟨h.1,fun C F args w ha hs=>(h.2 C F args w ha hs).mono fun _ _ ⟨C',_r,S',h1,h2,h3,h4⟩=>let ⟨r',q0,q2⟩:=hr _ _ h4;⟨C',r',S',h1,h2,q0 _ _ h3,q2⟩⟩
theorem row1_row(a:Arr):wkL a.row1 a.row:=by
 cases a with
 |mk k s n is =>
  simp only[Arr.row,Arr.row1,Arr.k,Arr.sh,Arr.nu,Arr.it,gsl,isl,wkL,wkD,weakD,chk_iff]
  refine⟨⟨by simp[kEq],trivial⟩,⟨by simp,trivial,fun i _=>by simp[kEq],by simp[weakM]⟩,⟨by simp,trivial,fun i _=>by simp[kEq],by simp[weakM]⟩,⟨by simp,by simp[rowsL_map],fun i hi=>?_,by simp[weakM]⟩,trivial⟩
  have:(rowsL is).getD i []=(is.getD i default).row:=by
   rw[rowsL_map];simp[List.getD_eq_getElem?_getD,hi]
  rw[this]
  exact wkL_refl _
theorem form_len{k:Int}{s:List Int}{nn ni:Nat}(h:formS k s nn ni=0):s.length≤8:=by
 unfold formS at h
 by_cases hk:k=1∨k=2∨k=3
 ·rw[if_pos hk] at h
  by_cases hd:dimsS s≠0
  ·rw[if_pos hd] at h;exact (hd h).elim
  ·have hd:dimsS s=0:=by simpa using hd
   unfold dimsS at hd
   by_cases h8:8<s.length
   ·rw[if_pos h8] at hd;omega
   ·omega
 ·rw[if_neg hk] at h;omega
def _root_.Go.Ab.refKey:D→Nat
 |.ref k _ _=>k
 |_=>0
def _root_.Go.Ab.vkey(os:List (Nat×Nat×AObj))(k:Nat):Nat:=match cellsO os k with
 | [_,_,_,.vs kv _ _ _ _]=>kv
 |_=>0
def zrow:List D:=[.int .i64 0,.sl 1 0 (fun _=>[]) .nil,.sl 1 0 (fun _=>[]) .nil,.sl 1 0 (fun _=>[]) .nil]
def clR(its:List Arr)(i j:Nat):List D:=match Nat.blt j i with
 |true=>(its.getD j default).row1
 |false=>zrow
def sCl(row row':Arr→List D)(q:Arr→Prop):FnSpec where
 β:=Arr
 α:=Unit
 args:=fun a=>[.agg (row a)]
 st:=fun _=>⟨[],[]⟩
 pre:=q
 post:=fun _ _=>True
 res:=fun a _=>.ret (.agg (row' a))
 out:=fun _ _=>⟨[],[]⟩
def conCl(its:List Arr):Con:=fun k _ _=>match k with
 |139=>some (sCl Arr.row1 Arr.row1 (fun b=>b∈its))
 |_=>none
theorem clR_lt{its:List Arr}{i j:Nat}(h:j<i):clR its i j=(its.getD j default).row1:=by
 unfold clR
 have:Nat.blt j i=true:=by simpa using h
 rw[this]
theorem clR_ge{its:List Arr}{i j:Nat}(h:¬j<i):clR its i j=zrow:=by
 unfold clR
 cases hb:Nat.blt j i with
 |false=>rfl
 |true=>exact (h (by simpa using hb)).elim
noncomputable def Ecl(a:Arr):Senv:={ EC (conCl a.it) 47 6 [32,33,34,35] (fun id=>match id with | 1=>([0,1,2,3,4,6,7,8,10,11,12,5,9,13,14,15,16],[5,9,13,15,16]) | 7=>([0,1,2,3,4,5,6],[4,6]) | _=>([],[])) with
 gz:=fun r=>match r with
  |9=>[.cell 17 1,.cell 17 2,.cell 17 3]
  |_=>[]
 cut:=fun id _ S=>match id with
  |1=>some { slots:=[3],keep:=[],α:=(Nat×Nat)×Nat×Nat,st:=fun y=>([.ref 17 y.2.2 0],⟨[(17,y.2.2,.cells [.int .i64 a.k,.vs 7 y.1.1 a.sh.length a.sh.length 1,.vs 11 y.1.2 a.nu.length a.nu.length 1,.vs 15 y.2.1 a.it.length a.it.length 4]),(15,y.2.1,.vec 4 a.it.length a.it.length (clR a.it 0)),(11,y.1.2,.vec 1 a.nu.length a.nu.length (fun _=>[.int .i64 0])),(7,y.1.1,.vec 1 a.sh.length a.sh.length (fun _=>[.int .i64 0]))]++S.objs,[]⟩),inv:=fun _=>True,mu:=fun _=>0 }
  |_=>none
 ann:=fun b env S=>match b with
  |0=>some { slots:=[34],keep:=[1,2,3,32,33],α:=Nat,st:=fun i=>([.int .i64 i],⟨setO S.objs (vkey S.objs (refKey (Ab.look env 3))) (.vec 4 a.it.length a.it.length (clR a.it i)),S.toks⟩),inv:=fun i=>i≤a.it.length,mu:=fun i=>a.it.length-i }
  |_=>none }
def Qgl(a:Arr):Nat:=LN (Arr.sh a)
def Qd(a:Arr):Int:=(NI (Qgl a))
def JS(a:Arr):Int:=(8:Int)*Qd a
def QgB(a:Arr):List Arr:=Arr.it a
def V4(a:Arr):Nat:=LN (QgB a)
def QlR:Arr:=DA
def QjK(a:Arr)(b:Nat):Arr:=List.getD (QgB a) b QlR
def QKm(a:Arr)(b:Nat):List Int:=Arr.sh (QjK a b)
def QKn(a:Arr)(b:Nat):List Int:=Arr.nu (QjK a b)
def Qzh(a:Arr)(b:Nat):List Arr:=Arr.it (QjK a b)
def Qqu(a:Arr)(b:Nat):List D:=[ZI (Arr.k (QjK a b)),SI (QKm a b),SI (QKn a b),D.sl N4 (LN (Qzh a b)) (fun (i:Nat)=>Arr.row (List.getD (Qzh a b) i QlR)) Mode.any]
def QKo(a:Arr):D:=D.sl N4 (V4 a) (fun (i:Nat)=>Qqu a i) Mode.any
def Qzi(a:Arr):Prop:=SM (QKo a)
def V5(a:Nat)(b:Arr):Prop:=SM a∧Qzi b
def Qgm(a:Arr):Nat:=LN (Arr.nu a)
def QlS(a:Arr)(b:Nat):List D:=[ZI (GI (Arr.nu a) b)]
def Qzj(a:Arr):D:=D.sl N1 (Qgm a) (fun (i:Nat)=>QlS a i) Mode.any
def V6(a:Nat)(b:Arr):Prop:=SM a∧SM (Qzj b)
def Qqv(a:Arr):Int:=Arr.k a
def Qzk(a:Arr):D:=ZI (Qqv a)
def Qu(a:Nat)(b:Arr):Prop:=SM a∧SM (Qzk b)
def Qe(a:Arr):Int:=(NI (Qgm a))
def JT(a:Arr):Int:=(8:Int)*Qe a
def Yg(a b c d:Nat):Prop:=a≠b∧c≠b∧d≠b∧True
def Qb(a:Arr):Int:=(NI (V4 a))
def JU(a:Arr):Int:=(80:Int)*Qb a
def Kn(a b c d e:Nat):Prop:=a≠b∧Yg c b d e
def Ko(a b c d e f:Nat):Prop:=a≠b∧Kn c b d e f
def QlT(a:Arr):Prop:=SM (Qqv a)
def QlU(a:Arr):Prop:=Int.toNat (Qd a)=Qgl a
def QlV(a:Arr):Prop:=Int.toNat (Qe a)=Qgm a
def QlW(a:Arr):Prop:=Int.toNat (Qb a)=V4 a
def Qqw:D:=D.sl N1 N0 (fun (_x:Nat)=>[]) Mode.nil
def Qzl(a:Arr)(b:Nat):List D:=clR (QgB a) N0 b
def Qzm:Prop:=SM [ZI Z0]
def Qqx:Prop:=SM N0∧(∀(i:Nat),i<N0→eqOf (List D) [] [])∧True
def QgC(a:Arr):Prop:=SM (Qgl a)
def QlX(a:Arr)(b:Nat):List D:=[ZI (GI (Arr.sh a) b)]
def Qzn(a:Arr):Prop:=∀(i:Nat),i<Qgl a→SM (QlX a i)
def Qzo(a:Arr):Prop:=QgC a∧Qzn a∧True
def QgD(a:Arr):Prop:=SM (Qgm a)
def Qzp(a:Arr):Prop:=∀(i:Nat),i<Qgm a→SM (QlS a i)
def Qzq(a:Arr):Prop:=QgD a∧Qzp a∧True
def Qgn(a:Arr):Prop:=SM (V4 a)
def QjL(a:Nat)(b:Arr):Prop:=a<V4 b
def Qzr(a b:Nat)(c:Arr):Prop:=SM a∧(SM Z0∧Qqx∧Qqx∧Qqx∧True)∧SM b∧(QlT c∧Qzo c∧Qzq c∧(Qgn c∧(∀(i:Nat),QjL i c→SM (Qqu c i))∧True)∧True)∧True
def Ky(a:Nat)(b:Arr)(c d e f g:Nat):Prop:=Qu a b∧SM c∧∃(x:(Nat×Nat)×Nat×Nat),True∧(c=x.2.2∧True)∧(c=x.2.2∧(QlT b∧(d=x.1.1∧QlU b∧QlU b)∧(e=x.1.2∧QlV b∧QlV b)∧(f=x.2.1∧QlW b∧QlW b)∧True)∧f=x.2.1∧(QlW b∧QlW b∧∀(i:Nat),i<Int.toNat (Qb b)→[ZI Z0,Qqw,Qqw,Qqw]=Qzl b i)∧e=x.1.2∧(QlV b∧QlV b∧∀(i:Nat),i<Int.toNat (Qe b)→Qzm)∧d=x.1.1∧(QlU b∧QlU b∧∀(i:Nat),i<Int.toNat (Qd b)→Qzm)∧Qzr g a b)∧True
def Qzs(a:Arr):D:=D.sl N1 (Qgl a) (fun (i:Nat)=>QlX a i) Mode.any
def V7(a:Nat)(b:Arr):Prop:=SM a∧SM (Qzs b)
def Qqy(a:Nat)(b:Arr):Prop:=a≤V4 b
def Qzt(a:Arr)(b c d:Nat):Prop:=QlT a∧(SM b∧QgC a∧QgC a)∧(SM c∧QgD a∧QgD a)∧(SM d∧Qgn a∧Qgn a)∧True
def QlY(a:Arr)(b c:Nat):List D:=clR (QgB a) b c
def Qzu(a:Nat)(b:Arr)(c d e:Nat):Prop:=SM a∧(QgD b∧QgD b∧Qzp b)∧SM c∧(QgC b∧QgC b∧Qzn b)∧Qzr d e b
def QlZ(a:Arr)(b:Nat):Arr:=List.getD (QgB a) (Int.toNat (↑b:Int)) QlR
def Qzv(a:Arr)(b:Nat):List Int:=Arr.sh (QlZ a b)
def Qzw(a:Arr)(b:Nat):Nat:=LN (Qzv a b)
def Qzx(a:Arr)(b:Nat):List Int:=Arr.nu (QlZ a b)
def Qzy(a:Arr)(b:Nat):Nat:=LN (Qzx a b)
def Qzz(a:Arr)(b:Nat):List Arr:=Arr.it (QlZ a b)
def QzA(a:Arr)(b:Nat):Nat:=LN (Qzz a b)
def QzB(a:Arr)(b:Nat):List D:=Arr.row (QjK a b)
def QKp(a:Nat)(b:Arr):D:=D.vs (15:Nat) a (V4 b) (V4 b) N4
def Qqz(a:D):Bool:=match a with | D.unk=>false | D.agg _cs=>false | D.tup _ds=>false | _x=>true
theorem cl_step(a : Arr)(ha : a.nu.length≤1000000 ∧ a.it.length≤1000000 ∧ a.sh.length≤1000000)(hc : ConOk Tryz.prog (conCl a.it)) :
  ACalls Tryz.prog 139 ((sCl Arr.row2 Arr.row2 (fun _=>True)).args a) ⟨[],[]⟩ (SpecR (sCl Arr.row2 Arr.row2 (fun _=>True)) a):=by
 refine con_of (A:=sCl Arr.row2 Arr.row2 (fun _=>True)) (x:=a) (E:=Ecl a) (eOk hc rfl) Tryz.func139 rfl (by kernel_rfl) rfl (by simp[sCl,Ecl,EC,E0]) ?_
 refine vc_eq (T :=
  ∀(x:Nat),True→∀(x_1:Nat),x≠x_1∧True→(SM x∧SM x∧SM x∧SM x∧side (Z0≤Qd a∧Qd a≤Qd a∧JS a≤(281474976710656:Int)∧Qd a≤(9223372036854775807:Int)) (∀(x_2:Nat),x_1≠x_2∧x≠x_2∧True→V5 x a∧V6 x a∧Qu x a∧side (Z0≤Qe a∧Qe a≤Qe a∧JT a≤(281474976710656:Int)∧Qe a≤(9223372036854775807:Int)) (∀(x_3:Nat),Yg x_2 x_3 x_1 x→V5 x a∧Qu x a∧side (Z0≤Qb a∧Qb a≤Qb a∧JU a≤(281474976710656:Int)∧Qb a≤(9223372036854775807:Int)) (∀(x_4:Nat),Kn x_3 x_4 x_2 x_1 x→Qu x a∧∀(x_5:Nat),Ko x_4 x_5 x_3 x_2 x_1 x→Ky x a x_5 x_2 x_3 x_4 x_1)∧∀(x_4:Nat),Kn x_3 x_4 x_2 x_1 x→V5 x a∧Qu x a∧side (Z0≤Qb a∧Qb a≤Qb a∧JU a≤(281474976710656:Int)∧Qb a≤(9223372036854775807:Int)) (∀(x_5:Nat),Ko x_4 x_5 x_3 x_2 x_1 x→Ky x a x_4 x_2 x_3 x_5 x_1))∧side (Z0≤Qb a∧Qb a≤Qb a∧JU a≤(281474976710656:Int)∧Qb a≤(9223372036854775807:Int)) (∀(x_3:Nat),Yg x_2 x_3 x_1 x→V6 x a∧Qu x a∧side (Z0≤Qe a∧Qe a≤Qe a∧JT a≤(281474976710656:Int)∧Qe a≤(9223372036854775807:Int)) (∀(x_4:Nat),Kn x_3 x_4 x_2 x_1 x→Qu x a∧∀(x_5:Nat),Ko x_4 x_5 x_3 x_2 x_1 x→Ky x a x_5 x_2 x_4 x_3 x_1)∧∀(x_4:Nat),Kn x_3 x_4 x_2 x_1 x→V6 x a∧Qu x a∧side (Z0≤Qe a∧Qe a≤Qe a∧JT a≤(281474976710656:Int)∧Qe a≤(9223372036854775807:Int)) (∀(x_5:Nat),Ko x_4 x_5 x_3 x_2 x_1 x→Ky x a x_4 x_2 x_5 x_3 x_1))∧∀(x_3:Nat),Yg x_2 x_3 x_1 x→V5 x a∧V6 x a∧Qu x a∧side (Z0≤Qe a∧Qe a≤Qe a∧JT a≤(281474976710656:Int)∧Qe a≤(9223372036854775807:Int)) (∀(x_4:Nat),Kn x_3 x_4 x_2 x_1 x→V5 x a∧Qu x a∧side (Z0≤Qb a∧Qb a≤Qb a∧JU a≤(281474976710656:Int)∧Qb a≤(9223372036854775807:Int)) (∀(x_5:Nat),Ko x_4 x_5 x_3 x_2 x_1 x→Ky x a x_3 x_2 x_4 x_5 x_1))∧side (Z0≤Qb a∧Qb a≤Qb a∧JU a≤(281474976710656:Int)∧Qb a≤(9223372036854775807:Int)) (∀(x_4:Nat),Kn x_3 x_4 x_2 x_1 x→V6 x a∧Qu x a∧side (Z0≤Qe a∧Qe a≤Qe a∧JT a≤(281474976710656:Int)∧Qe a≤(9223372036854775807:Int)) (∀(x_5:Nat),Ko x_4 x_5 x_3 x_2 x_1 x→Ky x a x_3 x_2 x_5 x_4 x_1)))∧side (Z0≤Qe a∧Qe a≤Qe a∧JT a≤(281474976710656:Int)∧Qe a≤(9223372036854775807:Int)) (∀(x_2:Nat),x_1≠x_2∧x≠x_2∧True→V5 x a∧V7 x a∧Qu x a∧side (Z0≤Qd a∧Qd a≤Qd a∧JS a≤(281474976710656:Int)∧Qd a≤(9223372036854775807:Int)) (∀(x_3:Nat),Yg x_2 x_3 x_1 x→V5 x a∧Qu x a∧side (Z0≤Qb a∧Qb a≤Qb a∧JU a≤(281474976710656:Int)∧Qb a≤(9223372036854775807:Int)) (∀(x_4:Nat),Kn x_3 x_4 x_2 x_1 x→Qu x a∧∀(x_5:Nat),Ko x_4 x_5 x_3 x_2 x_1 x→Ky x a x_5 x_3 x_2 x_4 x_1)∧∀(x_4:Nat),Kn x_3 x_4 x_2 x_1 x→V5 x a∧Qu x a∧side (Z0≤Qb a∧Qb a≤Qb a∧JU a≤(281474976710656:Int)∧Qb a≤(9223372036854775807:Int)) (∀(x_5:Nat),Ko x_4 x_5 x_3 x_2 x_1 x→Ky x a x_4 x_3 x_2 x_5 x_1))∧side (Z0≤Qb a∧Qb a≤Qb a∧JU a≤(281474976710656:Int)∧Qb a≤(9223372036854775807:Int)) (∀(x_3:Nat),Yg x_2 x_3 x_1 x→V7 x a∧Qu x a∧side (Z0≤Qd a∧Qd a≤Qd a∧JS a≤(281474976710656:Int)∧Qd a≤(9223372036854775807:Int)) (∀(x_4:Nat),Kn x_3 x_4 x_2 x_1 x→Qu x a∧∀(x_5:Nat),Ko x_4 x_5 x_3 x_2 x_1 x→Ky x a x_5 x_4 x_2 x_3 x_1)∧∀(x_4:Nat),Kn x_3 x_4 x_2 x_1 x→V7 x a∧Qu x a∧side (Z0≤Qd a∧Qd a≤Qd a∧JS a≤(281474976710656:Int)∧Qd a≤(9223372036854775807:Int)) (∀(x_5:Nat),Ko x_4 x_5 x_3 x_2 x_1 x→Ky x a x_4 x_5 x_2 x_3 x_1))∧∀(x_3:Nat),Yg x_2 x_3 x_1 x→V5 x a∧V7 x a∧Qu x a∧side (Z0≤Qd a∧Qd a≤Qd a∧JS a≤(281474976710656:Int)∧Qd a≤(9223372036854775807:Int)) (∀(x_4:Nat),Kn x_3 x_4 x_2 x_1 x→V5 x a∧Qu x a∧side (Z0≤Qb a∧Qb a≤Qb a∧JU a≤(281474976710656:Int)∧Qb a≤(9223372036854775807:Int)) (∀(x_5:Nat),Ko x_4 x_5 x_3 x_2 x_1 x→Ky x a x_3 x_4 x_2 x_5 x_1))∧side (Z0≤Qb a∧Qb a≤Qb a∧JU a≤(281474976710656:Int)∧Qb a≤(9223372036854775807:Int)) (∀(x_4:Nat),Kn x_3 x_4 x_2 x_1 x→V7 x a∧Qu x a∧side (Z0≤Qd a∧Qd a≤Qd a∧JS a≤(281474976710656:Int)∧Qd a≤(9223372036854775807:Int)) (∀(x_5:Nat),Ko x_4 x_5 x_3 x_2 x_1 x→Ky x a x_3 x_5 x_2 x_4 x_1)))∧side (Z0≤Qb a∧Qb a≤Qb a∧JU a≤(281474976710656:Int)∧Qb a≤(9223372036854775807:Int)) (∀(x_2:Nat),x_1≠x_2∧x≠x_2∧True→V6 x a∧V7 x a∧Qu x a∧side (Z0≤Qd a∧Qd a≤Qd a∧JS a≤(281474976710656:Int)∧Qd a≤(9223372036854775807:Int)) (∀(x_3:Nat),Yg x_2 x_3 x_1 x→V6 x a∧Qu x a∧side (Z0≤Qe a∧Qe a≤Qe a∧JT a≤(281474976710656:Int)∧Qe a≤(9223372036854775807:Int)) (∀(x_4:Nat),Kn x_3 x_4 x_2 x_1 x→Qu x a∧∀(x_5:Nat),Ko x_4 x_5 x_3 x_2 x_1 x→Ky x a x_5 x_3 x_4 x_2 x_1)∧∀(x_4:Nat),Kn x_3 x_4 x_2 x_1 x→V6 x a∧Qu x a∧side (Z0≤Qe a∧Qe a≤Qe a∧JT a≤(281474976710656:Int)∧Qe a≤(9223372036854775807:Int)) (∀(x_5:Nat),Ko x_4 x_5 x_3 x_2 x_1 x→Ky x a x_4 x_3 x_5 x_2 x_1))∧side (Z0≤Qe a∧Qe a≤Qe a∧JT a≤(281474976710656:Int)∧Qe a≤(9223372036854775807:Int)) (∀(x_3:Nat),Yg x_2 x_3 x_1 x→V7 x a∧Qu x a∧side (Z0≤Qd a∧Qd a≤Qd a∧JS a≤(281474976710656:Int)∧Qd a≤(9223372036854775807:Int)) (∀(x_4:Nat),Kn x_3 x_4 x_2 x_1 x→Qu x a∧∀(x_5:Nat),Ko x_4 x_5 x_3 x_2 x_1 x→Ky x a x_5 x_4 x_3 x_2 x_1)∧∀(x_4:Nat),Kn x_3 x_4 x_2 x_1 x→V7 x a∧Qu x a∧side (Z0≤Qd a∧Qd a≤Qd a∧JS a≤(281474976710656:Int)∧Qd a≤(9223372036854775807:Int)) (∀(x_5:Nat),Ko x_4 x_5 x_3 x_2 x_1 x→Ky x a x_4 x_5 x_3 x_2 x_1))∧∀(x_3:Nat),Yg x_2 x_3 x_1 x→V6 x a∧V7 x a∧Qu x a∧side (Z0≤Qd a∧Qd a≤Qd a∧JS a≤(281474976710656:Int)∧Qd a≤(9223372036854775807:Int)) (∀(x_4:Nat),Kn x_3 x_4 x_2 x_1 x→V6 x a∧Qu x a∧side (Z0≤Qe a∧Qe a≤Qe a∧JT a≤(281474976710656:Int)∧Qe a≤(9223372036854775807:Int)) (∀(x_5:Nat),Ko x_4 x_5 x_3 x_2 x_1 x→Ky x a x_3 x_4 x_5 x_2 x_1))∧side (Z0≤Qe a∧Qe a≤Qe a∧JT a≤(281474976710656:Int)∧Qe a≤(9223372036854775807:Int)) (∀(x_4:Nat),Kn x_3 x_4 x_2 x_1 x→V7 x a∧Qu x a∧side (Z0≤Qd a∧Qd a≤Qd a∧JS a≤(281474976710656:Int)∧Qd a≤(9223372036854775807:Int)) (∀(x_5:Nat),Ko x_4 x_5 x_3 x_2 x_1 x→Ky x a x_3 x_5 x_4 x_2 x_1)))∧∀(x_2:Nat),x_1≠x_2∧x≠x_2∧True→V5 x a∧V6 x a∧V7 x a∧Qu x a∧side (Z0≤Qd a∧Qd a≤Qd a∧JS a≤(281474976710656:Int)∧Qd a≤(9223372036854775807:Int)) (∀(x_3:Nat),Yg x_2 x_3 x_1 x→V5 x a∧V6 x a∧Qu x a∧side (Z0≤Qe a∧Qe a≤Qe a∧JT a≤(281474976710656:Int)∧Qe a≤(9223372036854775807:Int)) (∀(x_4:Nat),Kn x_3 x_4 x_2 x_1 x→V5 x a∧Qu x a∧side (Z0≤Qb a∧Qb a≤Qb a∧JU a≤(281474976710656:Int)∧Qb a≤(9223372036854775807:Int)) (∀(x_5:Nat),Ko x_4 x_5 x_3 x_2 x_1 x→Ky x a x_2 x_3 x_4 x_5 x_1))∧side (Z0≤Qb a∧Qb a≤Qb a∧JU a≤(281474976710656:Int)∧Qb a≤(9223372036854775807:Int)) (∀(x_4:Nat),Kn x_3 x_4 x_2 x_1 x→V6 x a∧Qu x a∧side (Z0≤Qe a∧Qe a≤Qe a∧JT a≤(281474976710656:Int)∧Qe a≤(9223372036854775807:Int)) (∀(x_5:Nat),Ko x_4 x_5 x_3 x_2 x_1 x→Ky x a x_2 x_3 x_5 x_4 x_1)))∧side (Z0≤Qe a∧Qe a≤Qe a∧JT a≤(281474976710656:Int)∧Qe a≤(9223372036854775807:Int)) (∀(x_3:Nat),Yg x_2 x_3 x_1 x→V5 x a∧V7 x a∧Qu x a∧side (Z0≤Qd a∧Qd a≤Qd a∧JS a≤(281474976710656:Int)∧Qd a≤(9223372036854775807:Int)) (∀(x_4:Nat),Kn x_3 x_4 x_2 x_1 x→V5 x a∧Qu x a∧side (Z0≤Qb a∧Qb a≤Qb a∧JU a≤(281474976710656:Int)∧Qb a≤(9223372036854775807:Int)) (∀(x_5:Nat),Ko x_4 x_5 x_3 x_2 x_1 x→Ky x a x_2 x_4 x_3 x_5 x_1))∧side (Z0≤Qb a∧Qb a≤Qb a∧JU a≤(281474976710656:Int)∧Qb a≤(9223372036854775807:Int)) (∀(x_4:Nat),Kn x_3 x_4 x_2 x_1 x→V7 x a∧Qu x a∧side (Z0≤Qd a∧Qd a≤Qd a∧JS a≤(281474976710656:Int)∧Qd a≤(9223372036854775807:Int)) (∀(x_5:Nat),Ko x_4 x_5 x_3 x_2 x_1 x→Ky x a x_2 x_5 x_3 x_4 x_1)))∧side (Z0≤Qb a∧Qb a≤Qb a∧JU a≤(281474976710656:Int)∧Qb a≤(9223372036854775807:Int)) (∀(x_3:Nat),Yg x_2 x_3 x_1 x→V6 x a∧V7 x a∧Qu x a∧side (Z0≤Qd a∧Qd a≤Qd a∧JS a≤(281474976710656:Int)∧Qd a≤(9223372036854775807:Int)) (∀(x_4:Nat),Kn x_3 x_4 x_2 x_1 x→V6 x a∧Qu x a∧side (Z0≤Qe a∧Qe a≤Qe a∧JT a≤(281474976710656:Int)∧Qe a≤(9223372036854775807:Int)) (∀(x_5:Nat),Ko x_4 x_5 x_3 x_2 x_1 x→Ky x a x_2 x_4 x_5 x_3 x_1))∧side (Z0≤Qe a∧Qe a≤Qe a∧JT a≤(281474976710656:Int)∧Qe a≤(9223372036854775807:Int)) (∀(x_4:Nat),Kn x_3 x_4 x_2 x_1 x→V7 x a∧Qu x a∧side (Z0≤Qd a∧Qd a≤Qd a∧JS a≤(281474976710656:Int)∧Qd a≤(9223372036854775807:Int)) (∀(x_5:Nat),Ko x_4 x_5 x_3 x_2 x_1 x→Ky x a x_2 x_5 x_4 x_3 x_1))))∧∀(x_2:(Nat×Nat)×Nat×Nat),True→SM x_2.2.2∧SM x∧SM x_2.1.1∧QgC a∧QgC a∧SM x_2.2.2∧SM x∧SM x_2.1.2∧QgD a∧QgD a∧SM x∧(∃(x_3:Nat),Qqy x_3 a∧(Z0=(↑x_3:Int)∧True)∧(SM x_2.2.2∧Qzt a x_2.1.1 x_2.1.2 x_2.2.1∧SM x_2.2.1∧(Qgn a∧Qgn a∧∀(i:Nat),QjL i a→Qzl a i=QlY a x_3 i)∧Qzu x_2.1.2 a x_2.1.1 x_1 x)∧True)∧∀(x_3:Nat),Qqy x_3 a→ifB (decide ((↑x_3:Int)<Qb a)) (side (Z0≤(↑x_3:Int)∧(↑x_3:Int)<Qb a) (∀(x_4:Nat),x_2.2.2≠x_4∧Ko x_2.2.1 x_4 x_2.1.2 x_2.1.1 x_1 x→SM x_4∧SM x_2.2.2∧SM x_4∧∃(x_5:Arr),((Arr.k (QlZ a x_3)=Qqv x_5∧(Qzw a x_3=Qgl x_5∧(∀(i:Nat),i<Qzw a x_3→[ZI (GI (Qzv a x_3) i)]=QlX x_5 i)∧True)∧(Qzy a x_3=Qgm x_5∧(∀(i:Nat),i<Qzy a x_3→[ZI (GI (Qzx a x_3) i)]=QlS x_5 i)∧True)∧(QzA a x_3=V4 x_5∧(∀(i:Nat),i<QzA a x_3→Arr.row (List.getD (Qzz a x_3) i QlR)=QzB x_5 i)∧True)∧True)∧True)∧(True∧True)∧x_5∈QgB a∧∀(y:Unit),True→(SM x_2.2.2∧SM (QKp x_2.2.1 a))∧side (Z0≤(↑x_3:Int)∧(↑x_3:Int)<Qb a) (SM x_2.2.1∧side (Int.toNat (↑x_3:Int)<V4 a) ((SM (D.ref N0 x N0)∧SM (D.ref (max (N0+N1) N0) x_1 N0)∧SM (D.ref (17:Nat) x_2.2.2 N0)∧Qzi a∧SM (ZI (Qb a))∧True)∧∃(y:Nat),Qqy y a∧V4 a-y<V4 a-x_3∧(IntKind.wrap IntKind.i64 ((↑x_3:Int)+Z1)=(↑y:Int)∧True)∧(SM x_2.2.2∧Qzt a x_2.1.1 x_2.1.2 x_2.2.1∧SM x_2.2.1∧(Qgn a∧Qgn a∧∀(i:Nat),QjL i a→updF (clR (QgB a) x_3) (Int.toNat (↑x_3:Int)) (List.set (List.set (List.set (List.set (clR (QgB a) x_3 (Int.toNat (↑x_3:Int))) N0 (Qzk x_5)) (N0+N1) (Qzs x_5)) N2 (Qzj x_5)) (3:Nat) (D.sl N4 (V4 x_5) (fun (i:Nat)=>QzB x_5 i) Mode.any)) i=QlY a y i)∧Qzu x_2.1.2 a x_2.1.1 x_1 x)∧True)))) (SM x_2.1.1∧QgC a∧side (Qgl a≤Qgl a) ((∀(i:Nat),i<Qgl a→(List.all (QlX a i) fun (x:D)=>Qqz x)=true)∧∀(t:Nat),SM x_2.1.2∧QgD a∧side (Qgm a≤Qgm a) ((∀(i:Nat),i<Qgm a→(List.all (QlS a i) fun (x:D)=>Qqz x)=true)∧∀(t:Nat),SM x_2.2.1∧Qgn a∧side (V4 a≤V4 a) ((∀(i:Nat),QjL i a→(List.all (QlY a x_3 i) fun (x:D)=>Qqz x)=true)∧∀(t:Nat),SM x_2.2.2∧SM x_1∧(SM x_1∧True)∧∃(y:Unit),True∧(QlT a∧Qzo a∧Qzq a∧(Qgn a∧(∀(i:Nat),QjL i a→QlY a x_3 i=Qqu a i)∧True)∧True)∧True∧True))))) (by kernel_rfl) ?_
 delta DA GI LN N0 N1 N2 N4 NI SI SM Z0 Z1 ZI Qgl Qd Qqu QKo Qzi V5 Qgm QlS Qzj V6 Qqv Qzk JS Qu Qe JT Yg Qb JU Kn Ko QlT QlU QgB QlV QlW Qqw Qzl Qzm Qqx QgC QlX Qzn Qzo V4 QgD Qzp Qzq Qgn QjL Qzr Ky Qzs V7 Qqy QlR Qzt QlY Qzu QlZ Qzv Qzw Qzx Qzy Qzz QzA QjK QzB QKp Qqz QKm QKn Qzh
 have da:(default:Arr)=Arr.mk 0 [] [] []:=rfl
 simp only[← da,eq_self,implies_true,Int.toNat_natCast,ifB_iff,side_iff,decide_eq_true_eq,decide_eq_false_iff_not,true_and,and_true,exists_const,forall_const]
 obtain ⟨l1,l2,l3⟩:=ha
 refine fun x x1 hx=>⟨?_,?_⟩
 ·repeat' (first | (refine⟨((_,_),_,_),rfl,rfl,⟨rfl,rfl,rfl⟩,rfl,fun _ _=>rfl,rfl,rfl⟩) | (refine And.intro ?_ ?_) | intro _ | omega)
 refine fun y=>⟨⟨0,Nat.zero_le _,rfl,fun _ _=>rfl⟩,fun i hi=>⟨fun hlt=>⟨⟨by omega,hlt⟩,fun x4 _=>⟨a.it.getD i default,⟨rfl,⟨rfl,fun _ _=>rfl⟩,⟨rfl,fun _ _=>rfl⟩,rfl,fun _ _=>rfl⟩,mem_getD (by omega),⟨by omega,hlt⟩,by omega,i+1,by omega,by omega,wrap_i64' (by omega) (by omega),fun j hj=>?_⟩⟩,fun hge=>⟨Nat.le_refl _,fun _ _=>rfl,Nat.le_refl _,fun _ _=>rfl,Nat.le_refl _,fun j hj=>?_,fun j hj=>?_⟩⟩⟩
 ·rw[clR_ge (its:=a.it) (i:=i) (j:=i) (by omega)]
  by_cases e:j=i
  ·subst e
   rw[clR_lt (by omega)]
   simp only[updF,if_true]
   rfl
  ·simp only[updF,e,if_false]
   by_cases e2:j<i
   ·rw[clR_lt e2,clR_lt (by omega)]
   ·rw[clR_ge e2,clR_ge (by omega)]
 ·rw[clR_lt (by omega)];rfl
 ·rw[clR_lt (by omega)];rfl
theorem row2_row1(a:Arr):wkL a.row2 a.row1:=by
 simp only[Arr.row1,Arr.row2,gsl,isl,wkL,wkD,weakD,chk_iff]
 exact⟨⟨by simp[kEq],trivial⟩,⟨by simp,trivial,fun i _=>by simp[kEq],by simp[weakM]⟩,⟨by simp,trivial,fun i _=>by simp[kEq],by simp[weakM]⟩,⟨by simp,trivial,fun i _=>row1_row _,by simp[weakM]⟩,trivial⟩
theorem chkL_zero:∀(l:List Arr) (d w:Int) (r:Int×Int),chkL l d w=some r→∀x∈l,(chkA x).1=0
 | [],_,_,_,_,x,hx=>by cases hx
 |y::l,d,w,r,h,x,hx=>by
  rw[chkL] at h
  split at h
  ·cases h
  ·rename_i hy
   rcases List.mem_cons.1 hx with rfl | hx
   ·simpa using hy
   ·exact chkL_zero l _ _ r h x hx
theorem chkA_zero{k:Int}{s n:List Int}{is:List Arr}(h:(chkA (.mk k s n is)).1=0):s.length≤8∧n.length≤65536∧is.length≤65536∧∀x∈is,(chkA x).1=0:=by
 rw[chkA] at h
 by_cases h0:formS k s n.length is.length≠0
 ·rw[if_pos h0] at h;exact (h0 h).elim
 ·rw[if_neg h0] at h
  have h0:formS k s n.length is.length=0:=by simpa using h0
  have hs:=form_small h0
  refine⟨form_len h0,hs.1,hs.2,?_⟩
  by_cases hb:n.any (badK k)=true
  ·rw[if_pos hb] at h;simp at h
  ·rw[if_neg hb] at h
   cases hr:chkL is 0 ((n.length:Int)+is.length) with
   |none=>rw[hr] at h;simp at h
   |some r=>exact chkL_zero _ _ _ r hr
theorem cl_all:∀(a:Arr),(chkA a).1=0→ACalls Tryz.prog 139 [.agg a.row1] ⟨[],[]⟩ (SpecR (sCl Arr.row1 Arr.row1 (fun _=>True)) a)
 |.mk k s n is,h=>by
  obtain ⟨h1,h2,h3,h4⟩:=chkA_zero h
  have hc:ConOk Tryz.prog (conCl (Arr.mk k s n is).it):=by
   intro k' ds S A hk
   unfold conCl at hk
   split at hk
   ·injection hk with hk;subst hk
    refine ConOk.plain (fun (b:Arr) hb=>?_) rfl rfl
    have hb':b∈is:=hb
    exact (cl_all b (h4 b hb')).mono fun _ _ ⟨y,q1,q2,q3⟩=>⟨y,q1,q2,q3⟩
   ·cases hk
  have hm:=cl_step (.mk k s n is) ⟨by show n.length≤_;omega,by show is.length≤_;omega,by show s.length≤_;omega⟩ hc
  have hm2:ACalls Tryz.prog 139 [.agg (Arr.mk k s n is).row1] ⟨[],[]⟩ (SpecR (sCl Arr.row2 Arr.row2 (fun _=>True)) (.mk k s n is)):=by
   refine ACalls.wkArgs hm ?_
   simp only[sCl,wkL,wkD]
   exact⟨row1_wk _,trivial⟩
  refine ACalls.wkEnd hm2 fun r S' ⟨y,q1,q2,q3⟩=>?_
  subst q2 q3
  refine⟨.ret (.agg (Arr.mk k s n is).row1),fun C e he=>?_,⟨(),trivial,rfl,rfl⟩⟩
  cases e with
  |returned v =>
   refine wkD_weak (.agg (Arr.mk k s n is).row2) _ ?_ C v he
   simp only[wkD]
   exact row2_row1 _
  |panicked _=>exact he.elim
  |outgrown=>exact he.elim
termination_by a=>SizeOf.sizeOf a
decreasing_by
 have:=List.sizeOf_lt_of_mem hb'
 simp;omega
def fillA(k:Int):Arr:=if k=1 then .mk 1 [] [0] [] else if k=2 then .mk 2 [] [32] [] else if k=3 then .mk 3 [] [] [.mk 1 [0] [] []] else .mk 0 [] [] []
def nilS(w:Nat):D:=.sl w 0 (fun _=>[]) .nil
def fillD(k:Int):D :=
 if k=1 then .agg [.int .i64 1,nilS 1,.sl 1 1 (fun i=>[[D.int .i64 0]].getD i []) .full,nilS 1]
 else if k=2 then .agg [.int .i64 2,nilS 1,.sl 1 1 (fun i=>[[D.int .i64 32]].getD i []) .full,nilS 1]
 else if k=3 then .agg [.int .i64 3,nilS 1,nilS 1,.sl 4 1 (fun i=>[[D.int .i64 1,.sl 1 1 (fun i=>[[D.int .i64 0]].getD i []) .full,nilS 1,nilS 1]].getD i []) .full]
 else .agg [.int .i64 0,nilS 1,nilS 1,nilS 1]
noncomputable def Efl:Senv:=EC conAr 20 3 [4,5,9,13] (fun _=>([],[]))
def QgZ:D:=D.sl N1 N0 (fun (_x:Nat)=>[]) Mode.nil
def QzC:D:=D.sl N1 N1 (fun (i:Nat)=>List.getD [[ZI Z0]] i []) Mode.full
def QqA:List D:=[QgZ]
def Ql0(a:Int):D:=fillD a
def QzD:List D:=QgZ::QqA
theorem fill_ok(k : Int)(ns nn ni : Nat)(f g h : Nat → List D) :
  ACalls Tryz.prog 116 [.agg [.int .i64 k,.sl 1 ns f .any,.sl 1 nn g .any,.sl 4 ni h .any]] ⟨[],[]⟩ (SpecR (sC [.agg [.int .i64 k,.sl 1 ns f .any,.sl 1 nn g .any,.sl 4 ni h .any]] (fillD k)) ()):=by
 refine con_of (A:=sC _ _) (x:=()) (E:=Efl) (eOk conAr_ok rfl) Tryz.func116 rfl (by kernel_rfl) rfl (by simp[sC,Efl,EC,E0]) ?_
 refine vc_eq (T :=
  ∀(x:Nat),True→∀(x_1:Nat),x≠x_1∧True→SM x∧ifB (k==Z1) (SM x_1∧(SM x_1∧True)∧∃(y:Unit),True∧weakD (D.agg (ZI Z1::QgZ::QzC::QqA)) (Ql0 k)∧True∧True) (ifB (k==(2:Int)) (SM x_1∧(SM x_1∧True)∧∃(y:Unit),True∧weakD (D.agg (ZI (2:Int)::QgZ::D.sl N1 N1 (fun (i:Nat)=>List.getD [[ZI (32:Int)]] i []) Mode.full::QqA)) (Ql0 k)∧True∧True) (ifB (k==(3:Int)) (SM x_1∧(SM x_1∧True)∧∃(y:Unit),True∧weakD (D.agg [ZI (3:Int),QgZ,QgZ,D.sl N4 N1 (fun (i:Nat)=>List.getD [ZI Z1::QzC::QzD] i []) Mode.full]) (Ql0 k)∧True∧True) (SM x_1∧(SM x_1∧True)∧∃(y:Unit),True∧weakD (D.agg (ZI Z0::QgZ::QzD)) (Ql0 k)∧True∧True)))) (by kernel_rfl) ?_
 delta N0 N1 N4 SM Z0 Z1 ZI QgZ QzC QqA Ql0 QzD
 simp only[ifB_iff,true_and,and_true,beq_iff_eq,beq_eq_false_iff_ne,ne_eq,exists_const,forall_const]
 intro _ _ _
 refine⟨fun h=>?_,fun h1=>⟨fun h=>?_,fun h2=>⟨fun h=>?_,fun h3=>?_⟩⟩⟩
 ·subst h;exact weakD_refl _
 ·subst h;exact weakD_refl _
 ·subst h;exact weakD_refl _
 ·simp only[fillD,if_neg h1,if_neg h2,if_neg h3];exact weakD_refl _
theorem wk_nil{α:Type}[Inhabited α](w:Nat)(g:α→List D):wkD (nilS 1) (gsl w g []):=by
 simp[nilS,gsl,wkD,chk,weakM,nilMB]
theorem wk_nilI:wkD (nilS 1) (isl [] .any):=by
 simp[nilS,isl,wkD,chk,weakM]
theorem wk_nil4:wkD (nilS 1) (.sl 4 ([]:List (List D)).length (fun i=>([]:List (List D)).getD i []) .any):=by
 simp[nilS,wkD,chk,weakM,nilMB]
theorem wk_one(z:Int):wkD (.sl 1 1 (fun i=>[[D.int .i64 z]].getD i []) .full) (isl [z] .any):=by
 simp only[isl,wkD,chk_iff]
 refine⟨by simp,by simp,fun i hi=>?_,by simp[weakM]⟩
 have:i=0:=by omega
 subst this
 exact wkL_refl _
theorem fill_wk(k:Int):wkD (fillD k) (.agg (fillA k).row1):=by
 unfold fillD fillA
 split
 ·simp only[wkD,wkL,Arr.row1,Arr.k,Arr.sh,Arr.nu,Arr.it]
  exact⟨weakD_refl _,wk_nilI,wk_one _,wk_nil _ _,trivial⟩
 split
 ·simp only[wkD,wkL,Arr.row1,Arr.k,Arr.sh,Arr.nu,Arr.it]
  exact⟨weakD_refl _,wk_nilI,wk_one _,wk_nil _ _,trivial⟩
 split
 ·simp only[wkD,wkL,Arr.row1,Arr.k,Arr.sh,Arr.nu,Arr.it]
  refine⟨weakD_refl _,wk_nilI,wk_nilI,?_,trivial⟩
  simp only[gsl,wkD,chk_iff]
  refine⟨by simp,by simp,fun i hi=>?_,by simp[weakM]⟩
  have:i=0:=by omega
  subst this
  simp only[List.getD_cons_zero,Arr.row,wkL,wkD,rowsL]
  exact⟨weakD_refl _,wk_one _,wk_nilI,wk_nil4,trivial⟩
 ·simp only[wkD,wkL,Arr.row1,Arr.k,Arr.sh,Arr.nu,Arr.it]
  exact⟨weakD_refl _,wk_nilI,wk_nilI,wk_nil _ _,trivial⟩
theorem wkRet{k:Nat}{ds:List D}{d d':D}(h:ACalls Tryz.prog k ds ⟨[],[]⟩ (SpecR (sC ds d) ()))(hw:wkD d d'):ACalls Tryz.prog k ds ⟨[],[]⟩ (SpecR (sC ds d') ()):=by
 refine ACalls.wkEnd h fun r S' ⟨y,q1,q2,q3⟩=>?_
 subst q2 q3
 refine⟨.ret d',fun C e he=>?_,⟨(),trivial,rfl,rfl⟩⟩
 cases e with
 |returned v=>exact wkD_weak d d' hw C v he
 |panicked _=>exact he.elim
 |outgrown=>exact he.elim
def atA(a:Arr)(i:Nat):Arr:=if a.k=3 then .mk 3 [] [] [a.it.getD i default] else .mk a.k [] [a.nu.getD i 0] []
def atD(a:Arr)(i:Nat):D :=
 if a.k=3 then .agg [.int .i64 a.k,nilS 1,nilS 1,.sl 4 1 (fun j=>[(a.it.getD i default).row1].getD j []) .full]
 else .agg [.int .i64 a.k,nilS 1,.sl 1 1 (fun j=>[[D.int .i64 (a.nu.getD i 0)]].getD j []) .full,nilS 1]
noncomputable def Eat(a:Arr):Senv:=EC (conCl a.it) 36 3 [4,12,16] (fun id=>match id with | 4=>([0,1,2,3,4,5,6,7,8,9,10],[7,8,10]) | 5=>([0,1,2,3,4,5,6,7,8,9],[7,9]) | _=>([],[]))
def Qg0(a:Arr):Int:=Arr.k a
def QqB(a:Arr):List Int:=Arr.nu a
def Ql1(a:Arr):Nat:=LN (QqB a)
def QiS:D:=D.sl N1 N0 (fun (_x:Nat)=>[]) Mode.nil
def QzE:List D:=[QiS]
def QqC(a:Nat)(b:Arr)(c:Nat):Prop:=SM a∧(SM a∧True)∧∃(_y:Unit),True∧weakD (D.agg (ZI Z0::QiS::QiS::QzE)) (atD b c)∧True∧True
def Ql2(a:Arr):List Arr:=Arr.it a
def Ql3(a:Arr):Nat:=LN (Ql2 a)
def QqD:Arr:=DA
def Ql4(a:Arr)(b:Nat):Arr:=List.getD (Ql2 a) (Int.toNat (↑b:Int)) QqD
def QzF(a:Arr)(b:Nat):List Int:=Arr.sh (Ql4 a b)
def QzG(a:Arr)(b:Nat):Nat:=LN (QzF a b)
def QzH(a:Arr)(b:Nat):List D:=[ZI (GI (Arr.sh a) b)]
def QzI(a:Arr)(b:Nat):List Int:=Arr.nu (Ql4 a b)
def QzJ(a:Arr)(b:Nat):Nat:=LN (QzI a b)
def QzK(a:Arr)(b:Nat):List D:=[ZI (GI (QqB a) b)]
def QzL(a:Arr)(b:Nat):List Arr:=Arr.it (Ql4 a b)
def QzM(a:Arr)(b:Nat):Nat:=LN (QzL a b)
def QzN(a:Arr)(b:Nat):List D:=Arr.row (List.getD (Ql2 a) b QqD)
def Ql5(a:Arr):D:=ZI (Qg0 a)
def QqE(a:Nat)(b:Arr):Prop:=SM a∧SM (Ql5 b)
def QzO(a:Nat)(b:Arr)(c d:Nat):Prop:=SM a∧ifB (Qg0 b==(3:Int)) (SM a∧SM a∧side (Z0≤(↑c:Int)∧(↑c:Int)<(NI (Ql3 b))) (∃(x:Arr),((Arr.k (Ql4 b c)=Qg0 x∧(QzG b c=LN (Arr.sh x)∧(∀(i:Nat),i<QzG b c→[ZI (GI (QzF b c) i)]=QzH x i)∧True)∧(QzJ b c=Ql1 x∧(∀(i:Nat),i<QzJ b c→[ZI (GI (QzI b c) i)]=QzK x i)∧True)∧(QzM b c=Ql3 x∧(∀(i:Nat),i<QzM b c→Arr.row (List.getD (QzL b c) i QqD)=QzN x i)∧True)∧True)∧True)∧(True∧True)∧x∈Ql2 b∧∀(_y:Unit),True→QqE a b∧QqE a b∧SM d∧(SM d∧True)∧∃(_y:Unit),True∧weakD (D.agg [Ql5 b,QiS,QiS,D.sl N4 N1 (fun (i:Nat)=>List.getD [[Ql5 x,D.sl N1 (LN (Arr.sh x)) (fun (i:Nat)=>QzH x i) Mode.any,D.sl N1 (Ql1 x) (fun (i:Nat)=>QzK x i) Mode.any,D.sl N4 (Ql3 x) (fun (i:Nat)=>QzN x i) Mode.any]] i []) Mode.full]) (atD b c)∧True∧True)) (SM a∧SM a∧side (Z0≤(↑c:Int)∧(↑c:Int)<(NI (Ql1 b))) (QqE a b∧SM d∧(SM d∧True)∧∃(_y:Unit),True∧weakD (D.agg (Ql5 b::QiS::D.sl N1 N1 (fun (i:Nat)=>List.getD [[ZI (GI (QqB b) (Int.toNat (↑c:Int)))]] i []) Mode.full::QzE)) (atD b c)∧True∧True))
def QzP(a:Nat)(b:Arr)(c d e:Nat):Prop:=SM a∧True∧ifB (decide ((NI (Ql1 b))≤(↑c:Int))) (QqC d b c) (QzO e b c d)
def QzQ(a:Arr)(b c d e:Nat):Prop:=ifB (Qg0 a==(3:Int)) (SM b∧True∧ifB (decide ((NI (Ql3 a))≤(↑c:Int))) (QqC d a c) (QzO e a c d)) (True∧QqC d a c)
theorem at_step(a : Arr)(i : Nat)(hk : a.k=1 ∨ a.k=2 ∨ a.k=3)(hi : (i : Int)<sizeR a.k a.nu.length a.it.length)(hc : ConOk Tryz.prog (conCl a.it)) :
  ACalls Tryz.prog 117 [.agg a.row2,.int .i64 i] ⟨[],[]⟩ (SpecR (sC [.agg a.row2,.int .i64 i] (atD a i)) ()):=by
 refine con_of (A:=sC _ _) (x:=()) (E:=Eat a) (eOk hc rfl) Tryz.func117 rfl (by kernel_rfl) rfl (by simp[sC,Eat,EC,E0]) ?_
 refine vc_eq (T :=
  ∀(x:Nat),True→∀(x_1:Nat),x≠x_1∧True→SM x∧∀(x_2:Nat),x_1≠x_2∧x≠x_2∧True→SM x_2∧ifB (Qg0 a==Z1) (ifB (Qg0 a==Z1) (QzP x_2 a i x_1 x) (QzQ a x_2 i x_1 x)) (ifB (Qg0 a==(2:Int)) (QzP x_2 a i x_1 x) (QzQ a x_2 i x_1 x))) (by kernel_rfl) ?_
 delta DA GI LN N0 N1 N4 NI SM Z0 Z1 ZI Qg0 QqB QzF QzG QzH QzI QzJ QzK QzL QzM QzN Ql5 Ql1 QqE QzO QzP QzQ QiS QzE QqC Ql2 Ql3 QqD Ql4
 have da:(default:Arr)=Arr.mk 0 [] [] []:=rfl
 simp only[← da,ifB_iff,side_iff,decide_eq_true_eq,decide_eq_false_iff_not,true_and,and_true,beq_iff_eq,beq_eq_false_iff_ne,ne_eq,exists_const,forall_const,Int.toNat_natCast]
 have h12:a.k≠3→i<a.nu.length:=fun h3=>by
  have h:a.k=1∨a.k=2:=by omega
  rw[sizeR,if_pos h] at hi;omega
 have h3:a.k=3→i<a.it.length:=fun h3=>by
  rw[sizeR,if_neg (by omega),if_pos h3] at hi;omega
 clear hi
 repeat' (first | intro _ | refine And.intro ?_ ?_)
 all_goals first
  |omega
  |(exfalso;omega)
  |exact⟨a.it.getD i default,⟨rfl,⟨rfl,fun _ _=>rfl⟩,⟨rfl,fun _ _=>rfl⟩,rfl,fun _ _=>rfl⟩,mem_getD (by omega),by rw[atD,if_pos (by assumption)];exact weakD_refl _⟩
  |(rw[atD,if_neg (by omega)];exact weakD_refl _)
theorem at_wk(a:Arr)(i:Nat):wkD (atD a i) (.agg (atA a i).row1):=by
 unfold atD atA
 split
 ·rename_i h3
  rw[h3]
  simp only[wkD,wkL,Arr.row1]
  refine⟨weakD_refl _,wk_nilI,wk_nilI,?_,trivial⟩
  simp only[gsl,wkD,chk_iff]
  refine⟨by simp,by simp[Arr.it],fun j hj=>?_,by simp[weakM]⟩
  have:j=0:=by omega
  subst this
  simp only[List.getD_cons_zero,Arr.it]
  exact row1_row _
 ·simp only[wkD,wkL,Arr.row1]
  exact⟨weakD_refl _,wk_nilI,wk_one _,wk_nil _ _,trivial⟩
theorem form_kind{k:Int}{s:List Int}{nn ni:Nat}(h:formS k s nn ni=0):k=1∨k=2∨k=3:=by
 unfold formS at h
 by_cases hk:k=1∨k=2∨k=3
 ·exact hk
 ·rw[if_neg hk] at h;simp at h
theorem chk_form{a:Arr}(h:(chkA a).1=0):formS a.k a.sh a.nu.length a.it.length=0:=by
 cases a with
 |mk k s n is =>
  rw[chkA] at h
  by_cases h0:formS k s n.length is.length≠0
  ·rw[if_pos h0] at h;exact (h0 h).elim
  ·exact Decidable.not_not.1 h0
theorem conCl_ok{a:Arr}(h:(chkA a).1=0):ConOk Tryz.prog (conCl a.it):=by
 intro k' ds S A hk
 unfold conCl at hk
 split at hk
 ·injection hk with hk;subst hk
  refine ConOk.plain (fun (b:Arr) hb=>?_) rfl rfl
  cases a with
  |mk k s n is=>exact (cl_all b ((chkA_zero h).2.2.2 b hb)).mono fun _ _ ⟨y,q1,q2,q3⟩=>⟨y,q1,q2,q3⟩
 ·cases hk
def jT(sep:List UInt8)(l:List (List UInt8)):List UInt8:=l.flatMap fun x=>sep++x
theorem join_cons(x:List UInt8)(l:List (List UInt8))(sep:List UInt8):Lib.join (x::l) sep=x++jT sep l:=by
 unfold Lib.join
 induction l generalizing x with
 |nil=>simp[jT,List.intercalate]
 |cons y l ih =>
  have:=ih y
  simp only[List.intercalate,List.intersperse_cons_cons,List.flatten_cons] at this ⊢
  rw[this]
  simp[jT]
theorem join_nil(sep:List UInt8):Lib.join [] sep=[]:=by simp[Lib.join,List.intercalate]
def jR(sep:List UInt8)(i:Nat)(l:List (List UInt8)):List UInt8:=if i=0 then Lib.join l sep else jT sep l
structure JHd (sep:List UInt8) (l:List (List UInt8)) (i:Nat) (out:List UInt8):Prop where
 hi:i≤l.length
 ho:out++jR sep i (l.drop i)=Lib.join l sep
theorem JHd.init(sep:List UInt8)(l:List (List UInt8)):JHd sep l 0 []:=⟨Nat.zero_le _,by simp[jR]⟩
theorem drop_stepS{l:List (List UInt8)}{i:Nat}(h:i<l.length):l.drop i=l.getD i []::l.drop (i+1):=by
 rw[List.drop_eq_getElem_cons h,List.getD_eq_getElem?_getD,List.getElem?_eq_getElem h];rfl
theorem JHd.step0{sep:List UInt8}{l:List (List UInt8)}{out:List UInt8}(h:JHd sep l 0 out)(hlt:0<l.length):JHd sep l (0+1) (out++l.getD 0 []):=by
 refine⟨by omega,?_⟩
 have:=h.ho
 rw[drop_stepS hlt,jR,if_pos rfl,join_cons] at this
 rw[← this,jR,if_neg (by omega),List.append_assoc]
theorem JHd.step{sep:List UInt8}{l:List (List UInt8)}{i:Nat}{out:List UInt8}(h:JHd sep l i out)(h0:i≠0)(hlt:i<l.length):JHd sep l (i+1) (out++sep++l.getD i []):=by
 refine⟨by omega,?_⟩
 have:=h.ho
 rw[drop_stepS hlt,jR,if_neg h0] at this
 rw[← this,jR,if_neg (by omega)]
 simp[jT]
theorem JHd.len{sep:List UInt8}{l:List (List UInt8)}{i:Nat}{out:List UInt8}(h:JHd sep l i out):out.length≤(Lib.join l sep).length:=by
 have:=congrArg List.length h.ho
 simp only[List.length_append] at this;omega
theorem JHd.done{sep:List UInt8}{l:List (List UInt8)}{i:Nat}{out:List UInt8}(h:JHd sep l i out)(hge:¬i<l.length):out=Lib.join l sep:=by
 have:=h.ho
 rw[List.drop_of_length_le (by omega)] at this
 have e:jR sep i []=[]:=by unfold jR;split<;>simp[jT,join_nil]
 rw[e,List.append_nil] at this
 exact this
def dimsB(l:List Int):List UInt8:=Lib.join (l.map showI) [32]
theorem jT_len(sep:List UInt8)(b:Nat):∀l:List (List UInt8),(∀x∈l,x.length≤b)→(jT sep l).length≤(sep.length+b)*l.length
 | [],_=>by simp[jT]
 |x::l,h=>by
  have h1:=jT_len sep b l fun y hy=>h y (List.mem_cons_of_mem _ hy)
  have h2:=h x List.mem_cons_self
  simp only[jT,List.flatMap_cons,List.length_append,List.length_cons,Nat.mul_succ] at h1 ⊢
  omega
theorem join_len(sep:List UInt8)(b:Nat)(l:List (List UInt8))(h:∀x∈l,x.length≤b):(Lib.join l sep).length≤(sep.length+b)*l.length:=by
 cases l with
 |nil=>simp[join_nil]
 |cons x l =>
  have h1:=jT_len sep b l fun y hy=>h y (List.mem_cons_of_mem _ hy)
  have h2:=h x List.mem_cons_self
  rw[join_cons]
  simp only[List.length_append,List.length_cons,Nat.mul_succ]
  omega
theorem dimsB_len{l:List Int}(h:∀z∈l,inI64 z):(dimsB l).length≤22*l.length:=by
 have:=join_len [32] 21 (l.map showI) (fun x hx=>by
  obtain ⟨z,hz,rfl⟩:=List.mem_map.1 hx
  exact (showI_len (h z hz)).2)
 simpa[dimsB] using this
theorem mapS{l:List Int}{i:Nat}(h:i<l.length):(l.map showI).getD i []=showI (l.getD i 0):=by
 simp[List.getD_eq_getElem?_getD,List.getElem?_map,List.getElem?_eq_getElem h]
noncomputable def Ejn:Senv:=EC conJn 5 1 [2] (fun _=>([],[]))
def QzR(a:List (List UInt8)):List (List UInt8):=strsOf (LN a) fun (i:Nat)=>[D.str (List.getD a i [])]
theorem fjoin_ok(l:List (List UInt8))(h:joinOk l [32]):ACalls Tryz.prog 114 [ssl l .any] ⟨[],[]⟩ (SpecR (sC [ssl l .any] (.str (Lib.join l [32]))) ()):=by
 refine con_of (A:=sC _ _) (x:=()) (E:=Ejn) (eOk conJn_ok rfl) Tryz.func114 rfl (by kernel_rfl) rfl (by simp[sC,Ejn,EC,E0]) ?_
 refine vc_eq (T :=
  ((strsB (LN l) fun (i:Nat)=>[D.str (List.getD l i [])])=true∧joinOk (QzR l) [(32:UInt8)])∧∀(y:Unit),True→RT (Lib.join (QzR l) [(32:UInt8)]=Lib.join l [(32:UInt8)])) (by kernel_rfl) ?_
 delta LN QzR RT
 simp only[strsOf_eq (l:=l) rfl (fun _ _=>rfl),strsB_eq (l:=l) rfl (fun _ _=>rfl),h,and_true,exists_const,implies_true]
theorem tyB:Tryz.prog.underlying 101=some (.pointer 104):=Tryz.underlying101
theorem tyU:Tryz.prog.underlying 141=some .unsafePointer:=Tryz.underlying141
theorem infoB:∃j,Tryz.prog.info? 104=some j∧j.size=2:=Option.map_eq_some_iff.1 (show (Tryz.prog.info? 104).map (·.size)=some 2 by kernel_rfl)
theorem liesB:liesAt Tryz.prog Tryz.prog.depth 104 (2 / Tryz.prog.cellsOf 104) 0 104 1=true:=by kernel_rfl
theorem cc_used(b : Nat)(w : World)(h0 : w.cell? ⟨b, 0, none⟩=some (.pointer (some ⟨b, 0, none⟩))) :
  Calls Tryz.prog 120 #[.pointer (some ⟨b,0,none⟩)] w fun e w'=>e=.returned (.tuple #[])∧w'=w:=by
 obtain ⟨j,hj,hjs⟩:=infoB
 go_enter Tryz.func120,Tryz.ntmps120
 go_wp2
 rw[Lib.run_neq_ptr_same w _ tyB hj]
 go_wp2
 go_end0
 exact⟨rfl,rfl⟩
theorem cc_fresh(b : Nat)(w : World)(h0 : w.cell? ⟨b, 0, none⟩=some (.pointer none))(hsh : w.shape? b=some (104, 2))(hfz : w.frozen? ⟨b, 0, none⟩=false) :
  Calls Tryz.prog 120 #[.pointer (some ⟨b,0,none⟩)] w fun e w'=>e=.returned (.tuple #[])∧w'=w.setCell ⟨b,0,none⟩ (.pointer (some ⟨b,0,none⟩)):=by
 obtain ⟨j,hj,hjs⟩:=infoB
 go_enter Tryz.func120,Tryz.ntmps120
 go_wp2
 rw[Lib.run_to_unsafe w ⟨b,0,none⟩ tyB tyU hj (by rw[hjs];decide) hsh (Nat.zero_lt_succ 1)]
 simp only[Result.andThen]
 rw[Oper.upon_value]
 go_wp2
 rw[run_callFunc_extern Tryz.func141 (by kernel_rfl) (by kernel_rfl) (by kernel_rfl) (e:=Extern.AbiNoEscape.same) (by kernel_rfl)]
 rw[Lib.run_noEscape]
 simp only[Result.andThen]
 rw[Oper.upon_value]
 go_wp2
 rw[Lib.run_from_unsafe w ⟨b,0,none⟩ tyU tyB hj hsh liesB]
 simp only[Result.andThen]
 rw[Oper.upon_value]
 go_wp2
 go_end0
 exact⟨rfl,rfl⟩
def sCc(k x E:Nat)(d:D):FnSpec where
 β:=Unit
 α:=Unit
 args:=fun _=>[.ref k x 0]
 st:=fun _=>⟨[(k,x,.bld 104 E d)],[]⟩
 pre:=fun _=>True
 post:=fun _ _=>True
 res:=fun _ _=>.ret (.tup [])
 out:=fun _ _=>⟨[(k,x,.bld 104 E d)],[]⟩
theorem cc_ok(k x E:Nat)(d:D):ACalls Tryz.prog 120 ((sCc k x E d).args ()) ((sCc k x E d).st ()) (SpecR (sCc k x E d) ()):=by
 refine⟨⟨_,Tryz.func120,by kernel_rfl,by kernel_rfl⟩,fun C F args w ha hs=>?_⟩
 obtain ⟨u,e,hu⟩:=repL_one' ha
 have e2:args=[u].toArray:=by rw[← e]
 subst e2
 simp only[Rep] at hu
 subst hu
 have hg:getO ((sCc k x E d).st ()).objs k=some (x,.bld 104 E d):=by simp[sCc,getO]
 obtain ⟨c1,c2,v0,v1,fz,h1,h2,h3,h4,h5⟩:=hs.obj_of hg
 have fin:∀w',Sat C (((sCc k x E d).st ()).add F) w'→∃C' r S',C.le C'∧Sat C' (S'.add F) w'∧RepEnd C' r (.returned (.tuple #[]))∧SpecR (sCc k x E d) () r S':=fun w' h =>
  ⟨C,.ret (.tup []),_,.refl C,h,by simp[RepEnd,Rep,RepL],(),trivial,rfl,rfl⟩
 rcases h3 with rfl | rfl
 ·have hc:w.cell? ⟨x,0,none⟩=some (.pointer none):=by rw[cell_of_heap h1];rfl
  have hsh:w.shape? x=some (104,2):=by simp[World.shape?,h1]
  have hfz:w.frozen? ⟨x,0,none⟩=false:=frozen_of_heap h1 h2 (by simp)
  refine (cc_fresh x w hc hsh hfz).mono fun e w' ⟨he,hw⟩=>?_
  subst he hw
  refine fin _ ?_
  have hr:=setCell_heap h1 (o:=0) (.pointer (some ⟨x,0,none⟩))
  have:=hs.replace (o':=.bld 104 E d) (w':=w.setCell ⟨x,0,none⟩ (.pointer (some ⟨x,0,none⟩))) hg (by simp) (fun j hj=>Go.RowKit.Below.heap_setCell _ _ _ _ hj) rfl rfl rfl ⟨.pointer (some ⟨x,0,none⟩),v1,fz,by simpa using hr,by simpa using h2.set 0 (.pointer (some ⟨x,0,none⟩)),.inr rfl,h4,h5⟩
  simpa[sCc,St.set,setO] using this
 ·have hc:w.cell? ⟨x,0,none⟩=some (.pointer (some ⟨x,0,none⟩)):=by rw[cell_of_heap h1];rfl
  refine (cc_used x w hc).mono fun e w' ⟨he,hw⟩=>?_
  subst he hw
  exact fin _ hs
def conCc:Con:=fun k ds S=>match k with
 |120=>match ds with
  | [.ref k x 0]=>match getO S.objs k with
   |some (y,.bld T E d)=>some ((sCc k x E d).fits () (y=x∧T=104∧tokD d=true))
   |_=>none
  |_=>none
 |_=>none
theorem conCc_ok:ConOk Tryz.prog conCc:=by
 intro k ds S A h
 unfold conCc at h
 split at h
 ·split at h
  ·rename_i k x
   split at h
   ·rename_i y T E d hg
    injection h with h;subst h
    refine⟨fun _ _=>cc_ok k x E d,fun _ _ hy=>?_,fun h=>nomatch h⟩
    obtain ⟨⟨rfl,rfl,ht⟩,_⟩:=hy
    refine⟨⟨by simp[weakD,chk],trivial⟩,chk_iff.2 ⟨rfl,?_,trivial⟩⟩
    simp only[FnSpec.fits,sCc,leO,hg]
    exact⟨trivial,chk_iff.2 ⟨by simp[ht],weakD_refl _⟩,trivial⟩
   ·cases h
  ·cases h
 ·cases h
def sWs(f:List UInt8)(E x t:Nat)(l:List UInt8)(r:AEnd)(ar:List D):FnSpec where
 β:=Unit
 α:=Nat
 args:=fun _=>.ref 0 x 0::ar
 st:=fun _=>⟨[(0,x,.bld 104 E (bsl l (.tok 0 t)))],[(0,t)]⟩
 pre:=fun _=>True
 post:=fun _ _=>True
 res:=fun _ _=>r
 out:=fun _ t'=>⟨[(0,x,.bld 104 E (bsl (l++f) (.tok 0 t')))],[(0,t')]⟩
noncomputable def Ews:Senv:={ EC conCc 19 2 [4,5] (fun _=>([],[])) with own:=fun t=>Nat.beq t 102 }
theorem ws_ok(x t : Nat)(l s : List UInt8)(hl : l.length+s.length≤140737488355328) :
  ACalls Tryz.prog 97 ((sWs s 5 x t l (.ret (.tup [.int .i64 s.length,.nili])) [.str s]).args ()) ((sWs s 5 x t l (.ret (.tup [.int .i64 s.length,.nili])) [.str s]).st ()) (SpecR (sWs s 5 x t l (.ret (.tup [.int .i64 s.length,.nili])) [.str s]) ()):=by
 refine con_of (A:=sWs s 5 x t l (.ret (.tup [.int .i64 s.length,.nili])) [.str s]) (x:=()) (E:=Ews) (eOk conCc_ok rfl) Tryz.func97 rfl (by kernel_rfl) rfl (by simp[sWs,Ews,EC,E0]) ?_
 refine vc_eq (T :=
  ((SM x∧SM (104:Nat)∧SM true)∧True)∧∀(y:Unit),True→SM x∧SM t∧side ((LN l+LN s)*N1≤(140737488355328:Nat)∧LN l+LN s≤(9223372036854775807:Nat)) (∀(t1:Nat),(t % (1000003:Nat)=N6→t1 % (1000003:Nat)=N6)→SM x∧(t % (1000003:Nat)=N6→t1 % (1000003:Nat)=N6)∧True∧∃(y:Nat),True∧(SM (LI s)∧True∧True)∧(SM x∧(LN l+LN s=LN (l++s)∧(∀(i:Nat),i<LN l+LN s→appF (LN l) (fun (i:Nat)=>[ZB (BI l i)]) (fun (i:Nat)=>[ZB (BI s i)]) i=[ZB (BI (l++s) i)])∧t1=y)∧True)∧t1=y∧True)) (by kernel_rfl) ?_
 delta BI LI LN N1 N6 SM U0 ZB
 refine⟨⟨⟨rfl,rfl,rfl⟩,trivial⟩,fun _ _=>⟨rfl,rfl,?_⟩⟩
 rw[side_iff]
 exact⟨by omega,fun t1 ht=>⟨rfl,ht,trivial,t1,trivial,⟨rfl,trivial,trivial⟩,⟨rfl,⟨by rw[List.length_append],app_gen rfl (fun _ _=>rfl) (fun _ _=>rfl),rfl⟩,trivial⟩,rfl,trivial⟩⟩
noncomputable def Ewb:Senv:={ EC conCc 17 2 [4] (fun _=>([],[])) with own:=fun t=>Nat.beq t 102 }
theorem wb_ok(x t : Nat)(l : List UInt8)(b : UInt8)(hl : l.length+1≤140737488355328) :
  ACalls Tryz.prog 140 ((sWs [b] 5 x t l (.ret .nili) [.int .u8 (b.toNat:Int)]).args ()) ((sWs [b] 5 x t l (.ret .nili) [.int .u8 (b.toNat:Int)]).st ()) (SpecR (sWs [b] 5 x t l (.ret .nili) [.int .u8 (b.toNat:Int)]) ()):=by
 refine con_of (A:=sWs [b] 5 x t l (.ret .nili) [.int .u8 (b.toNat:Int)]) (x:=()) (E:=Ewb) (eOk conCc_ok rfl) Tryz.func140 rfl (by kernel_rfl) rfl (by simp[sWs,Ewb,EC,E0]) ?_
 refine vc_eq (T :=
  ((SM x∧SM (104:Nat)∧SM true)∧True)∧∀(y:Unit),True→SM x∧SM t∧side ((LN l+N1)*N1≤(140737488355328:Nat)∧LN l+N1≤(9223372036854775807:Nat)) (∀(t1:Nat),(t % (1000003:Nat)=N6→t1 % (1000003:Nat)=N6)→SM x∧(t % (1000003:Nat)=N6→t1 % (1000003:Nat)=N6)∧True∧∃(y:Nat),True∧True∧(SM x∧(LN l+N1=LN (l++[b])∧(∀(i:Nat),i<LN l+N1→appF (LN l) (fun (i:Nat)=>[ZB (BI l i)]) (fun (i:Nat)=>List.getD [[ZB (NI (UInt8.toNat b))]] i []) i=[ZB (BI (l++[b]) i)])∧t1=y)∧True)∧t1=y∧True)) (by kernel_rfl) ?_
 delta BI LN N1 N6 NI SM U0 ZB
 refine⟨⟨⟨rfl,rfl,rfl⟩,trivial⟩,fun _ _=>⟨rfl,rfl,?_⟩⟩
 rw[side_iff]
 exact⟨by omega,fun t1 ht=>⟨rfl,ht,trivial,t1,trivial,trivial,⟨rfl,⟨by simp,app_row' rfl (fun _ _=>rfl) rfl,rfl⟩,trivial⟩,rfl,trivial⟩⟩
def sBw(f:List UInt8)(k kt x t:Nat)(l:List UInt8)(r:AEnd)(ar:List D):FnSpec where
 β:=Unit
 α:=Nat
 args:=fun _=>.ref k x 0::ar
 st:=fun _=>⟨[(k,x,.bld 104 5 (bsl l (.tok kt t)))],[(kt,t)]⟩
 pre:=fun _=>True
 post:=fun _ _=>True
 res:=fun _ _=>r
 out:=fun _ t'=>⟨[(k,x,.bld 104 5 (bsl (l++f) (.tok kt t')))],[(kt,t')]⟩
theorem bw_of{g : Nat}{f : List UInt8}(k kt x t : Nat){l : List UInt8}{r : AEnd}{ar : List D}(h : ACalls Tryz.prog g ((sWs f 5 x t l r ar).args ()) ((sWs f 5 x t l r ar).st ()) (SpecR (sWs f 5 x t l r ar) ())) :
  ACalls Tryz.prog g ((sBw f k kt x t l r ar).args ()) ((sBw f k kt x t l r ar).st ()) (SpecR (sBw f k kt x t l r ar) ()):=by
 refine h.respec (A':=sBw f k kt x t l r ar) (x':=()) ?_ ?_ fun y _=>⟨y,trivial,?_,?_⟩
 ·simp[sBw,sWs,weakL,weakD,chk,weakL_refl]
 ·simp[sBw,sWs,posS,posO,posT,weakO,weakD,chk,bsl,weakM,tokD]
 ·simp only[sBw,sWs];cases r<;>simp[weakEnd,weakD_refl]
 ·simp[sBw,sWs,posS,posO,posT,weakO,weakD,chk,bsl,weakM,tokD];rfl
theorem str_some(b g cap cs : Nat)(p : Value)(fz : Nat×Nat)(arr : Array Value)(fg : Nat×Nat)(l : List UInt8)(w : World)(h0 : l≠[])(hn : l.length≤cap)(hcs : l.length≤arr.size)(h63 : l.length≤9223372036854775807)
  (hbk:w.heap[b]? =some (.cells #[p,.slice (some ⟨g,0,none⟩) l.length cap] cs fz)) (hg:w.heap[g]? =some (.cells arr 5 fg))
  (hcell:∀j x,l[j]? =some x→w.cell? ⟨g,j,none⟩=some (.int .u8 x.toNat)) :
  Calls Tryz.prog 98 #[.pointer (some ⟨b,0,none⟩)] w fun e w'=>e=.returned (.string ⟨l.toArray⟩)∧w'=w.drew.freeze ⟨g,0,none⟩ l.length:=by
 have hl0:l.length≠0:=by simpa using h0
 have c1:w.drew.cell? ⟨b,1,none⟩=some (.slice (some ⟨g,0,none⟩) l.length cap):=by
  have:w.drew.heap[b]? =some (.cells #[p,.slice (some ⟨g,0,none⟩) l.length cap] cs fz):=hbk
  rw[cell_of_heap this];rfl
 have hSD:(Builtin.unsafeSliceData_ #[102] 128 #[.slice (some ⟨g,0,none⟩) l.length cap]).run Tryz.prog w.drew=.ok (.pointer (some ⟨g,0,none⟩)) w.drew :=
  Lib.run_unsafeSliceData_row _ _ _ _ _ _ (by omega)
 have hUS:(Builtin.unsafeString_ #[128,3] 9 #[.pointer (some ⟨g,0,none⟩),.int .i64 l.length]).run Tryz.prog w.drew=.ok (.string ⟨l.toArray⟩) (w.drew.freeze ⟨g,0,none⟩ l.length):=by
  refine Lib.run_unsafeString_row w.drew 128 3 9 5 Tryz.underlying128 (by kernel_rfl) g arr.size (by have hg':w.drew.heap[g]? =some (.cells arr 5 fg):=hg;simp[World.shape?,hg']) l h0 hcs h63 ?_
  intro j x hx
  have e:w.drew.cell? ⟨g,j,none⟩=some (.int .u8 x.toNat):=hcell j x hx
  have e2:(if j=0 then (⟨g,0,none⟩:Addr) else ⟨g,j,none⟩)=⟨g,j,none⟩:=by split<;>simp_all
  simpa[Addr.add,e2] using e
 have mixed:Tryz.prog.follows .mixedOrders=true:=by kernel_rfl
 go_enter Tryz.func98,Tryz.ntmps98
 go_wp2
 go_region_o
 all_goals (go_wp2;go_ret;exact⟨rfl,rfl⟩)
theorem str_nil(b cs : Nat)(p : Value)(fz : Nat×Nat)(w : World)(hbk : w.heap[b]? =some (.cells #[p, .slice none 0 0] cs fz)) :
  Calls Tryz.prog 98 #[.pointer (some ⟨b,0,none⟩)] w fun e w'=>e=.returned (.string ⟨#[]⟩)∧Go.RowKit.Below w.heap.size w w':=by
 have hUS:∀W,(Builtin.unsafeString_ #[128,3] 9 #[.pointer none,.int .i64 0]).run Tryz.prog W=.ok (.string .empty) W:=fun W=>Lib.run_unsafeString_none W _ _ _ none
 have c1:w.drew.cell? ⟨b,1,none⟩=some (.slice none 0 0):=by
  have:w.drew.heap[b]? =some (.cells #[p,.slice none 0 0] cs fz):=hbk
  rw[cell_of_heap this];rfl
 have hSD:(Builtin.unsafeSliceData_ #[102] 128 #[.slice none 0 0]).run Tryz.prog w.drew=.ok (.pointer none) w.drew:=Lib.run_unsafeSliceData_nil _ _ _ _ _
 have mixed:Tryz.prog.follows .mixedOrders=true:=by kernel_rfl
 go_enter Tryz.func98,Tryz.ntmps98
 go_wp2
 go_region_o
 all_goals (go_wp2;go_ret;exact⟨rfl,Go.RowKit.Below.drew (Go.RowKit.Below.refl _ w)⟩)
theorem str_room(b g cap cs : Nat)(p : Value)(fz : Nat×Nat)(w : World)(hc0 : cap≠0)(hbk : w.heap[b]? =some (.cells #[p, .slice (some ⟨g, 0, none⟩) 0 cap] cs fz)) :
  Calls Tryz.prog 98 #[.pointer (some ⟨b,0,none⟩)] w fun e w'=>e=.returned (.string ⟨#[]⟩)∧Go.RowKit.Below w.heap.size w w':=by
 have hUS:∀W,(Builtin.unsafeString_ #[128,3] 9 #[.pointer (some ⟨g,0,none⟩),.int .i64 0]).run Tryz.prog W=.ok (.string .empty) W:=fun W=>Lib.run_unsafeString_none W _ _ _ _
 have c1:w.drew.cell? ⟨b,1,none⟩=some (.slice (some ⟨g,0,none⟩) 0 cap):=by
  have:w.drew.heap[b]? =some (.cells #[p,.slice (some ⟨g,0,none⟩) 0 cap] cs fz):=hbk
  rw[cell_of_heap this];rfl
 have hSD:(Builtin.unsafeSliceData_ #[102] 128 #[.slice (some ⟨g,0,none⟩) 0 cap]).run Tryz.prog w.drew=.ok (.pointer (some ⟨g,0,none⟩)) w.drew :=
  Lib.run_unsafeSliceData_row _ _ _ _ _ _ hc0
 clear hc0
 have mixed:Tryz.prog.follows .mixedOrders=true:=by kernel_rfl
 go_enter Tryz.func98,Tryz.ntmps98
 go_wp2
 go_region_o
 all_goals (go_wp2;go_ret;exact⟨rfl,Go.RowKit.Below.drew (Go.RowKit.Below.refl _ w)⟩)
theorem str_noroom(b g cs : Nat)(p : Value)(fz fg : Nat×Nat)(arr : Array Value)(E : Nat)(w : World)(hg : w.heap[g]? =some (.cells arr E fg))(hbk : w.heap[b]? =some (.cells #[p, .slice (some ⟨g, 0, none⟩) 0 0] cs fz)) :
  Calls Tryz.prog 98 #[.pointer (some ⟨b,0,none⟩)] w fun e w'=>e=.returned (.string ⟨#[]⟩)∧Go.RowKit.Below w.heap.size w w':=by
 have hUS:∀W q,(Builtin.unsafeString_ #[128,3] 9 #[.pointer q,.int .i64 0]).run Tryz.prog W=.ok (.string .empty) W:=fun W q=>Lib.run_unsafeString_none W _ _ _ q
 have hb:b<w.heap.size:=(Array.getElem?_eq_some_iff.1 hbk).1
 have c1:w.drew.cell? ⟨b,1,none⟩=some (.slice (some ⟨g,0,none⟩) 0 0):=by
  have:w.drew.heap[b]? =some (.cells #[p,.slice (some ⟨g,0,none⟩) 0 0] cs fz):=hbk
  rw[cell_of_heap this];rfl
 have c0:w.cell? ⟨b,1,none⟩=some (.slice (some ⟨g,0,none⟩) 0 0):=c1
 have hSD:(Builtin.unsafeSliceData_ #[102] 128 #[.slice (some ⟨g,0,none⟩) 0 0]).run Tryz.prog w.drew=.ok (.pointer (some ⟨w.drew.heap.size,0,none⟩)) (w.drew.alloc (.view ⟨g,0,none⟩ 5)) :=
  Lib.run_unsafeSliceData_zero _ _ _ _ Tryz.underlying128 _ _ (E,arr.size) (by have hg':w.drew.heap[g]? =some (.cells arr E fg):=hg;simp[World.shape?,hg'])
 have hSD0:(Builtin.unsafeSliceData_ #[102] 128 #[.slice (some ⟨g,0,none⟩) 0 0]).run Tryz.prog w=.ok (.pointer (some ⟨w.heap.size,0,none⟩)) (w.alloc (.view ⟨g,0,none⟩ 5)) :=
  Lib.run_unsafeSliceData_zero _ _ _ _ Tryz.underlying128 _ _ (E,arr.size) (by simp[World.shape?,hg])
 have c2:(w.drew.alloc (.view ⟨g,0,none⟩ 5)).cell? ⟨b,1,none⟩=some (.slice (some ⟨g,0,none⟩) 0 0):=by
  rw[World.cell?_alloc_lt _ _ _ hb];exact c1
 have c3:(w.alloc (.view ⟨g,0,none⟩ 5)).drew.cell? ⟨b,1,none⟩=some (.slice (some ⟨g,0,none⟩) 0 0):=c2
 have mixed:Tryz.prog.follows .mixedOrders=true:=by kernel_rfl
 go_enter Tryz.func98,Tryz.ntmps98
 go_wp2
 go_region_o
 all_goals (go_wp2;go_ret;exact⟨rfl,(Go.RowKit.Below.drew (Go.RowKit.Below.refl _ w)).alloc (Nat.le_refl _) _⟩)
theorem sat_freeze{C:Ctx}{S:St}{w:World}{g n:Nat}(H:Sat C S w)(hg:C.w0.heap.size≤g)(ho:∀p∈S.objs,p.2.1≠g)(ht:∀t∈S.toks,∀x,C.tok t.2=some x→¬x.clash g):Sat C S (w.freeze ⟨g,0,none⟩ n):=by
 have hne:∀k,k≠g→(w.freeze ⟨g,0,none⟩ n).heap[k]? =w.heap[k]? :=by
  intro k hk
  unfold World.freeze;split<;>simp[Array.getElem?_modify,Ne.symm hk]
 have hcell:∀a,(w.freeze ⟨g,0,none⟩ n).cell? a=w.cell? a:=by
  intro a
  unfold World.cell?
  by_cases e:a.block=g
  ·rw[e]
   unfold World.freeze
   by_cases h0:n=0
   ·rw[if_pos h0]
   ·rw[if_neg h0]
    simp only[Array.getElem?_modify,if_true]
    cases w.heap[g]? with
    |none=>rfl
    |some o=>cases o<;>rfl
  ·rw[hne _ e]
 refine⟨H.below.trans ⟨by unfold World.freeze;split<;>rfl,by unfold World.freeze;split<;>rfl,by unfold World.freeze;split<;>rfl,by unfold World.freeze;split<;>simp,fun k hk=>hne k (by omega)⟩,fun b o v h=>(hcell _).trans (H.imm b o v h),H.one,fun p hp=>?_,H.nodup,fun t htm=>?_,H.tnodup,H.tfin,H.tdist⟩
 ·obtain ⟨h1,h2,h3⟩:=H.objs p hp
  exact⟨h1,h2,h3.of_heap (hne _ (ho p hp))⟩
 ·obtain ⟨x,h1,h2,h3⟩:=H.toks t htm
  exact⟨x,h1,h2.of_heap fun b hb=>hne b fun e=>ht t htm x h1 (e ▸ hb),h3⟩
def sBs(k kt x t:Nat)(l:List UInt8):FnSpec where
 β:=Unit
 α:=Unit
 args:=fun _=>[.ref k x 0]
 st:=fun _=>⟨[(k,x,.bld 104 5 (bsl l (.tok kt t)))],[(kt,t)]⟩
 pre:=fun _=>True
 post:=fun _ _=>True
 res:=fun _ _=>.ret (.str l)
 out:=fun _ _=>⟨[],[]⟩
theorem bstr_ok(k kt x t:Nat)(l:List UInt8)(h63:l.length≤9223372036854775807):ACalls Tryz.prog 98 ((sBs k kt x t l).args ()) ((sBs k kt x t l).st ()) (SpecR (sBs k kt x t l) ()):=by
 refine⟨⟨_,Tryz.func98,by kernel_rfl,by kernel_rfl⟩,fun C F args w ha hs=>?_⟩
 obtain ⟨u,e,hu⟩:=repL_one' ha
 have e2:args=[u].toArray:=by rw[← e]
 subst e2
 simp only[Rep] at hu
 subst hu
 have hg:getO ((sBs k kt x t l).st ()).objs k=some (x,.bld 104 5 (bsl l (.tok kt t))):=by simp[sBs,getO]
 obtain ⟨c1,c2,v0,v1,fz,h1,h2,h3,h4,h5⟩:=hs.obj_of hg
 have h5:tokE t=5+1:=h5
 simp only[bsl,Rep] at h4
 obtain ⟨a,len,cap,rfl,hh,hr⟩:=h4
 have hlen:len=l.length:=hh.1
 subst hlen
 have hF:Sat C F w:=by
  have h:=hs.le (S':=⟨[],[]⟩) ⟨List.nil_sublist _,List.nil_sublist _⟩
  simpa[St.add] using h
 have fin:∀w',Sat C F w'→∃C' r S',C.le C'∧Sat C' (S'.add F) w'∧RepEnd C' r (.returned (.string ⟨l.toArray⟩))∧SpecR (sBs k kt x t l) () r S':=fun w' h =>
  ⟨C,.ret (.str l),⟨[],[]⟩,.refl C,h,by simp[RepEnd,Rep],(),trivial,rfl,rfl⟩
 have h6:=hh.2.2.2.2.2
 have hcap:l.length≤cap:=hh.2.1
 simp only at h6
 have hmem:(kt,t)∈(((sBs k kt x t l).st ()).add F).toks:=by simp[sBs,St.add]
 obtain ⟨q,q1,q2,q3⟩:=hs.toks (kt,t) hmem
 simp only at q1
 rw[q1] at h6
 cases q with
 |no =>
  simp only at h6
  have ha0:a=none:=h6.2 (by rw[h5];omega)
  subst ha0
  have hl0:=(hh.2.2.2.1 rfl)
  have hl:l=[]:=List.length_eq_zero_iff.1 hl0.1
  subst hl
  obtain rfl:cap=0:=hl0.2
  refine (str_nil x _ v0 fz w h1).mono fun e w' ⟨he,hb⟩=>?_
  subst he
  exact fin w' (hF.kept hb)
 | «at» g n cp wd =>
  obtain ⟨rfl,rfl,rfl,rfl⟩:=h6
  obtain ⟨p1,p2,arr,E,fg,p3,p4,p5,p6⟩:=q2
  have hE:E=5:=Nat.succ.inj ((p6 (by simp only;rw[h5];omega)).trans h5)
  subst hE
  by_cases hl:l=[]
  ·subst hl
   by_cases hc:cp=0
   ·subst hc
    refine (str_noroom x g _ v0 fz fg arr _ w p3 h1).mono fun e w' ⟨he,hb⟩=>?_
    subst he
    exact fin w' (hF.kept hb)
   ·refine (str_room x g cp _ v0 fz w hc h1).mono fun e w' ⟨he,hb⟩=>?_
    subst he
    exact fin w' (hF.kept hb)
  ·refine (str_some x g cp _ v0 fz arr fg l w hl hcap (by rw[p5];omega) h63 h1 p3 fun j y hy=>?_).mono fun e w' ⟨he,hw⟩=>?_
   ·have hj:j<l.length:=(List.getElem?_eq_some_iff.1 hy).1
    have hrow:=(hr ⟨g,0,none⟩ rfl j hj).2
    simp only[RepCells] at hrow
    obtain ⟨⟨v,i1,i2⟩,_⟩:=hrow
    simp only[Rep] at i2
    subst i2
    have:=hs.imm _ _ _ i1
    have e:l.getD j 0=y:=by rw[List.getD_eq_getElem?_getD,hy];rfl
    rw[e] at this
    simpa using this
   ·subst he hw
    refine fin _ (sat_freeze hF.drew p1 (fun p hp e=>q3 p (by simp[St.add,hp]) e.symm) fun s hs2 y hy hcl=>?_)
    cases y with
    |no=>exact hcl
    | «at» b' n' c' wd' =>
     have hcl:b'=g:=hcl
     have hnd:=hs.tnodup
     simp only[St.add,sBs,List.cons_append,List.nil_append,List.map_cons,List.nodup_cons] at hnd
     have hne:t≠s.2:=fun e=>hnd.1 (e ▸ List.mem_map_of_mem hs2)
     exact hs.tdist (kt,t) s _ _ _ _ _ _ _ _ hmem (by simp[St.add,hs2]) hne q1 hy hcl.symm
def tokIs(ts:List (Nat×Nat))(kt t:Nat):Prop :=
 match getT ts kt with
 |some t'=>t'=t
 |none=>False
def bFit(ts:List (Nat×Nat))(x y T E kt t n:Nat)(g:Nat→List D):Prop:=y=x∧T=104∧E=5∧tokIs ts kt t∧rowsB n g=true
def byteU(z:Int):UInt8:=UInt8.ofNat z.toNat
def conBd:Con:=fun k ds S=>match k with
 |97=>match ds with
  | [.ref k x 0,.str s]=>match getO S.objs k with
   |some (y,.bld T E (.sl 1 n g (.tok kt t)))=>some ((sBw s k kt x t (bytesOf n g) (.ret (.tup [.int .i64 s.length,.nili])) [.str s]).fits () (bFit S.toks x y T E kt t n g∧n+s.length≤140737488355328))
   |_=>none
  |_=>none
 |140=>match ds with
  | [.ref k x 0,.int .u8 z]=>match getO S.objs k with
   |some (y,.bld T E (.sl 1 n g (.tok kt t)))=>some ((sBw [byteU z] k kt x t (bytesOf n g) (.ret .nili) [.int .u8 z]).fits () (bFit S.toks x y T E kt t n g∧(0≤z∧z≤255)∧n+1≤140737488355328))
   |_=>none
  |_=>none
 |98=>match ds with
  | [.ref k x 0]=>match getO S.objs k with
   |some (y,.bld T E (.sl 1 n g (.tok kt t)))=>some ((sBs k kt x t (bytesOf n g)).fits () (bFit S.toks x y T E kt t n g∧n≤140737488355328))
   |_=>none
  |_=>none
 |k=>conJn k ds S
theorem byteU_nat{z:Int}(h:0≤z∧z≤255):((byteU z).toNat:Int)=z:=by
 unfold byteU
 rw[UInt8.toNat_ofNat'];omega
theorem leO_bld{os : List (Nat×Nat×AObj)}{k x y T E n kt t : Nat}{g : Nat → List D}(hg : getO os k=some (y, .bld T E (.sl 1 n g (.tok kt t))))(h1 : y=x)(h2 : T=104)(h3 : E=5)(hr : rowsB n g=true) :
  leO [(k,x,.bld 104 5 (bsl (bytesOf n g) (.tok kt t)))] os:=by
 subst h1 h2 h3
 simp only[leO,hg,weakO]
 exact⟨trivial,chk_iff.2 ⟨by simp[tokD,bsl],bsl_weak hr⟩,trivial⟩
theorem leT_tok{ts:List (Nat×Nat)}{kt t:Nat}(h:tokIs ts kt t):leT [(kt,t)] ts:=by
 unfold tokIs at h
 simp only[leT]
 split at h
 ·rename_i t' e;rw[e];exact⟨h,trivial⟩
 ·exact h.elim
theorem conBd_ok:ConOk Tryz.prog conBd:=by
 intro k ds S A h
 unfold conBd at h
 split at h
 ·split at h
  ·split at h
   ·rename_i k x s _ y T E n g kt t hg
    injection h with h;subst h
    have key:∀p:n+s.length≤140737488355328,ACalls Tryz.prog 97 ((sBw s k kt x t (bytesOf n g) (.ret (.tup [.int .i64 s.length,.nili])) [.str s]).args ()) ((sBw s k kt x t (bytesOf n g) (.ret (.tup [.int .i64 s.length,.nili])) [.str s]).st ()) (SpecR (sBw s k kt x t (bytesOf n g) (.ret (.tup [.int .i64 s.length,.nili])) [.str s]) ()):=fun p =>
     bw_of k kt x t (ws_ok x t (bytesOf n g) s (by simpa[bytesOf] using p))
    refine⟨fun _ hy=>key hy.1.2,fun _ _ hy=>?_,fun h=>nomatch h⟩
    obtain ⟨⟨⟨h1,h2,h3,h4,h5⟩,_⟩,_⟩:=hy
    exact⟨⟨by simp[weakD,chk],by simp[weakD],trivial⟩,chk_iff.2 ⟨rfl,leO_bld hg h1 h2 h3 h5,leT_tok h4⟩⟩
   ·cases h
  ·cases h
 ·split at h
  ·split at h
   ·rename_i k x z _ y T E n g kt t hg
    injection h with h;subst h
    have key:∀p:(0≤z∧z≤255)∧n+1≤140737488355328,ACalls Tryz.prog 140 ((sBw [byteU z] k kt x t (bytesOf n g) (.ret .nili) [.int .u8 z]).args ()) ((sBw [byteU z] k kt x t (bytesOf n g) (.ret .nili) [.int .u8 z]).st ()) (SpecR (sBw [byteU z] k kt x t (bytesOf n g) (.ret .nili) [.int .u8 z]) ()):=fun p=>by
     have:=bw_of k kt x t (wb_ok x t (bytesOf n g) (byteU z) (by simpa[bytesOf] using p.2))
     rw[byteU_nat p.1] at this
     exact this
    refine⟨fun _ hy=>key hy.1.2,fun _ _ hy=>?_,fun h=>nomatch h⟩
    obtain ⟨⟨⟨h1,h2,h3,h4,h5⟩,_⟩,_⟩:=hy
    exact⟨⟨by simp[weakD,chk],weakD_refl _,trivial⟩,chk_iff.2 ⟨rfl,leO_bld hg h1 h2 h3 h5,leT_tok h4⟩⟩
   ·cases h
  ·cases h
 ·split at h
  ·split at h
   ·rename_i k x _ y T E n g kt t hg
    injection h with h;subst h
    refine⟨fun _ hy=>bstr_ok k kt x t (bytesOf n g) (by have:=hy.1.2;simp[bytesOf];omega),fun _ _ hy=>?_,fun h=>nomatch h⟩
    obtain ⟨⟨⟨h1,h2,h3,h4,h5⟩,_⟩,_⟩:=hy
    exact⟨⟨by simp[weakD,chk],trivial⟩,chk_iff.2 ⟨rfl,leO_bld hg h1 h2 h3 h5,leT_tok h4⟩⟩
   ·cases h
  ·cases h
 ·exact conJn_ok _ _ _ _ h
theorem bfit_ok(t y:Nat)(l:List UInt8):bFit [(0,t)] y y 104 5 0 t l.length (fun i=>[.int .u8 ((l.getD i 0).toNat:Int)]):=⟨rfl,rfl,rfl,rfl,rowsB_bsl l⟩
theorem showI_neg{n:Int}(h:n<0):showI n=95::(Lib.itoa n).drop 1:=by
 simp only[showI,Lib.itoa,if_pos h];rfl
theorem showI_pos{n:Int}(h:¬n<0):showI n=Lib.itoa n:=by
 simp only[showI,Lib.itoa,if_neg h]
theorem app_nil'(l:List UInt8):[].append l=l:=rfl
noncomputable def Ess(l:List Int):Senv:={ EC conBd 28 1 [2,3,4,5,6,7,8,9,10,15,20] (fun _=>([],[])) with
 bd:=fun t=>match t with
  |104=>some 5
  |_=>none
 ann:=fun b _ S=>match b with
  |0=>some { slots:=[9],keep:=[0,1,3,7,8],α:=Nat×Nat×List UInt8,st:=fun y=>([.int .i64 y.1],⟨setO S.objs 0 (.bld 104 5 (bsl y.2.2 (.tok 0 y.2.1))),[(0,y.2.1)]⟩),inv:=fun y=>JHd [32] (l.map showI) y.1 y.2.2,mu:=fun y=>l.length-y.1 }
  |_=>none }
def QiT(a:List Int)(b:Nat)(c:List UInt8):Prop:=JHd [(32:UInt8)] (List.map showI a) b c
def Qg1(a:List UInt8)(b:Nat):List D:=[ZB (BI a b)]
def Ql6(a b:Nat)(c:List UInt8):Prop:=bFit [(N0,a)] b b (104:Nat) (5:Nat) N0 a (LN c) fun (i:Nat)=>Qg1 c i
def Ql7(a:List Int)(b:Nat):List UInt8:=Lib.itoa (GI a (Int.toNat (↑b:Int)))
def QqF(a:List Int)(b:Nat):Nat:=LN (Ql7 a b)
def Qg2(a:List Int)(b:Nat):Int:=(NI (QqF a b))
def QzS(a:List Int)(b:Nat):List UInt8:=List.drop N1 (List.take (Int.toNat (Qg2 a b)) (Ql7 a b))
def QzT(a:List Int)(b:Nat):Nat:=N1+LN (QzS a b)
def Ql8(a:List UInt8):List UInt8:=bytesOf (LN a) fun (i:Nat)=>Qg1 a i
def QzU(a:List UInt8):List UInt8:=Ql8 a++[byteU (32:Int)]
def Ql9(a:List UInt8):Nat:=LN (QzU a)
def QzV(a:List UInt8)(b:Nat):List D:=[ZB (BI (QzU a) b)]
def QzW(a b:Nat)(c:List UInt8):Prop:=bFit [(N0,a)] b b (104:Nat) (5:Nat) N0 a (Ql9 c) fun (i:Nat)=>QzV c i
def QqG(a:List Int)(b:Nat):List UInt8:=(95:UInt8)::List.append [] (QzS a b)
def QzX(a:List Int)(b:Nat):Nat:=LN (QqG a b)
def QKq(a:List Int):D:=SI a
def QzY(a:List Int):Prop:=SM (QKq a)
def Qma(a:List Int)(b:Nat):Prop:=QzY a∧SM D.unk∧SM (D.ref N0 b N0)∧QzY a∧SM (ZI (LI a))∧True
def Qmb(a b:Nat):Prop:=IntKind.wrap IntKind.i64 ((↑a:Int)+Z1)=(↑b:Int)∧True
def QzZ(a:List UInt8):List UInt8:=bytesOf (Ql9 a) fun (i:Nat)=>QzV a i
def Qz0(a:List UInt8)(b:List Int)(c:Nat):List UInt8:=QzZ a++QqG b c
def Qz1(a:List UInt8)(b:List Int)(c:Nat):Nat:=LN (Qz0 a b c)
def Qz2(a:List UInt8)(b:List Int)(c:Nat):List UInt8:=QzZ a++Ql7 b c
def Qz3(a:List UInt8)(b:List Int)(c:Nat):Nat:=LN (Qz2 a b c)
def Qz4(a:List UInt8)(b:List Int)(c:Nat):List UInt8:=Ql8 a++QqG b c
def Qz5(a:List UInt8)(b:List Int)(c:Nat):Nat:=LN (Qz4 a b c)
def Qz6(a:List UInt8)(b:List Int)(c:Nat):List UInt8:=Ql8 a++Ql7 b c
def Qz7(a:List UInt8)(b:List Int)(c:Nat):Nat:=LN (Qz6 a b c)
theorem sshow_ok(l:List Int)(hl:l.length≤1099511627776)(hc:∀z∈l,inI64 z):ACalls Tryz.prog 118 [isl l .any] ⟨[],[]⟩ (SpecR (sC [isl l .any] (.str (dimsB l))) ()):=by
 refine con_of (A:=sC _ _) (x:=()) (E:=Ess l) (eOk conBd_ok rfl) Tryz.func118 rfl (by kernel_rfl) rfl (by simp[sC,Ess,EC,E0]) ?_
 refine vc_eq (T :=
  ∀(y t:Nat),True→(∃(x:Nat×Nat×List UInt8),QiT l x.1 x.2.2∧(Z0=(NI x.1)∧True)∧(SM y∧(N0=LN x.2.2∧(∀(i:Nat),i<N0→eqOf (List D) [] (Qg1 x.2.2 i))∧t=x.2.1)∧True)∧t=x.2.1∧True)∧∀(x:Nat×Nat×List UInt8),QiT l x.1 x.2.2→ifB (decide ((NI x.1)<(LI l))) (side (Z0≤(NI x.1)∧(NI x.1)<(LI l)) (ifB (decide (Z0<(NI x.1))) (((Ql6 x.2.1 y x.2.2∧(Z0≤(32:Int)∧(32:Int)≤(255:Int))∧LN x.2.2+N1≤(140737488355328:Nat))∧True)∧∀(y_1:Nat),True→inI64 (GI l (TN x.1))∧∀(y_2:Unit),True→ifB (decide (GI l (TN x.1)<Z0)) (side (Z0≤Z1∧Z1≤Qg2 l x.1∧Qg2 l x.1≤Qg2 l x.1) (side (QzT l x.1≤(9223372036854775807:Nat)) (((QzW y_1 y x.2.2∧Ql9 x.2.2+QzX l x.1≤(140737488355328:Nat))∧True)∧∀(y_3:Nat),True→Qma l y∧∃(y_4:Nat×Nat×List UInt8),QiT l y_4.1 y_4.2.2∧LN l-y_4.1<LN l-x.1∧Qmb x.1 y_4.1∧(SM y∧(Qz1 x.2.2 l x.1=LN y_4.2.2∧(∀(i:Nat),i<Qz1 x.2.2 l x.1→[ZB (BI (Qz0 x.2.2 l x.1) i)]=Qg1 y_4.2.2 i)∧y_3=y_4.2.1)∧True)∧y_3=y_4.2.1∧True))) (((QzW y_1 y x.2.2∧Ql9 x.2.2+QqF l x.1≤(140737488355328:Nat))∧True)∧∀(y_3:Nat),True→Qma l y∧∃(y_4:Nat×Nat×List UInt8),QiT l y_4.1 y_4.2.2∧LN l-y_4.1<LN l-x.1∧Qmb x.1 y_4.1∧(SM y∧(Qz3 x.2.2 l x.1=LN y_4.2.2∧(∀(i:Nat),i<Qz3 x.2.2 l x.1→[ZB (BI (Qz2 x.2.2 l x.1) i)]=Qg1 y_4.2.2 i)∧y_3=y_4.2.1)∧True)∧y_3=y_4.2.1∧True)) (inI64 (GI l (TN x.1))∧∀(y_1:Unit),True→ifB (decide (GI l (TN x.1)<Z0)) (side (Z0≤Z1∧Z1≤Qg2 l x.1∧Qg2 l x.1≤Qg2 l x.1) (side (QzT l x.1≤(9223372036854775807:Nat)) (((Ql6 x.2.1 y x.2.2∧LN x.2.2+QzX l x.1≤(140737488355328:Nat))∧True)∧∀(y_2:Nat),True→Qma l y∧∃(y_3:Nat×Nat×List UInt8),QiT l y_3.1 y_3.2.2∧LN l-y_3.1<LN l-x.1∧Qmb x.1 y_3.1∧(SM y∧(Qz5 x.2.2 l x.1=LN y_3.2.2∧(∀(i:Nat),i<Qz5 x.2.2 l x.1→[ZB (BI (Qz4 x.2.2 l x.1) i)]=Qg1 y_3.2.2 i)∧y_2=y_3.2.1)∧True)∧y_2=y_3.2.1∧True))) (((Ql6 x.2.1 y x.2.2∧LN x.2.2+QqF l x.1≤(140737488355328:Nat))∧True)∧∀(y_2:Nat),True→Qma l y∧∃(y_3:Nat×Nat×List UInt8),QiT l y_3.1 y_3.2.2∧LN l-y_3.1<LN l-x.1∧Qmb x.1 y_3.1∧(SM y∧(Qz7 x.2.2 l x.1=LN y_3.2.2∧(∀(i:Nat),i<Qz7 x.2.2 l x.1→[ZB (BI (Qz6 x.2.2 l x.1) i)]=Qg1 y_3.2.2 i)∧y_2=y_3.2.1)∧True)∧y_2=y_3.2.1∧True)))) (((Ql6 x.2.1 y x.2.2∧LN x.2.2≤(140737488355328:Nat))∧True)∧∀(y:Unit),True→RT (Ql8 x.2.2=dimsB l))) (by kernel_rfl) ?_
 delta BI GI LI LN N0 N1 NI SI SM TN U0 Z0 Z1 ZB ZI QiT Qg1 Ql9 QzV QzW QqG QzX QKq QzY Qma Qmb QzZ Ql6 Qz0 Qz1 Qz2 Qz3 Qz4 Qz5 Qz6 Qz7 Ql7 QqF Qg2 QzS QzT Ql8 QzU RT
 simp only[ifB_iff,side_iff,decide_eq_true_eq,true_and,and_true,exists_const,forall_const,Int.toNat_natCast,eq_self,bytesOf_bsl,bfit_ok,List.take_length,app_nil']
 intro t
 refine⟨⟨(0,t,[]),JHd.init _ _,rfl,⟨rfl,fun i hi=>absurd hi (by omega),rfl⟩,rfl⟩,?_⟩
 rintro ⟨i,t1,out⟩ hh
 simp only at hh ⊢
 have h1:=hh.len
 have hd:=dimsB_len hc
 have hdd:Lib.join (l.map showI) [32]=dimsB l:=rfl
 rw[hdd] at h1
 refine⟨fun hlt=>?_,fun hge=>?_⟩
 ·have hlt':i<l.length:=by omega
  have hz:=hc _ (memI hlt')
  have hi:=itoa_len hz
  have hb:byteU 32=32:=rfl
  have hm:i<(l.map showI).length:=by simpa using hlt'
  have st:i≠0→JHd [32] (l.map showI) (i+1) (out++[byteU 32]++showI (l.getD i 0)):=fun h0=>by
   have:=hh.step h0 hm
   rw[mapS hlt'] at this
   exact this
  have st0:i=0→JHd [32] (l.map showI) (i+1) (out++showI (l.getD i 0)):=fun h0=>by
   subst h0
   have:=hh.step0 hm
   rw[mapS hlt'] at this
   exact this
  refine⟨⟨by omega,by omega⟩,fun h0=>⟨⟨⟨by omega,by omega⟩,by omega⟩,hz,fun hn=>⟨⟨by omega,by omega,by omega⟩,by rw[List.length_drop];omega,?_,fun t3=>⟨(i+1,t3,out++[byteU 32]++95::List.drop 1 (Lib.itoa (l.getD i 0))),?_,by simp only;omega,wrap_i64' (by omega) (by omega),⟨rfl,fun _ _=>rfl,rfl⟩,rfl⟩⟩,fun hn=>⟨?_,fun t3=>⟨(i+1,t3,out++[byteU 32]++Lib.itoa (l.getD i 0)),?_,by simp only;omega,wrap_i64' (by omega) (by omega),⟨rfl,fun _ _=>rfl,rfl⟩,rfl⟩⟩⟩,
   fun h0=>⟨hz,fun hn=>⟨⟨by omega,by omega,by omega⟩,by rw[List.length_drop];omega,?_,fun t3=>⟨(i+1,t3,out++95::List.drop 1 (Lib.itoa (l.getD i 0))),?_,by simp only;omega,wrap_i64' (by omega) (by omega),⟨rfl,fun _ _=>rfl,rfl⟩,rfl⟩⟩,fun hn=>⟨?_,fun t3=>⟨(i+1,t3,out++Lib.itoa (l.getD i 0)),?_,by simp only;omega,wrap_i64' (by omega) (by omega),⟨rfl,fun _ _=>rfl,rfl⟩,rfl⟩⟩⟩⟩
  ·simp only[List.length_append,List.length_cons,List.length_nil,List.length_drop];omega
  ·rw[← showI_neg hn];exact st (by omega)
  ·simp only[List.length_append,List.length_cons,List.length_nil];omega
  ·rw[← showI_pos (n:=l.getD i 0) (by simpa using hn)];exact st (by omega)
  ·simp only[List.length_cons,List.length_drop];omega
  ·rw[← showI_neg hn];exact st0 (by simpa using h0)
  ·omega
  ·rw[← showI_pos (n:=l.getD i 0) (by simpa using hn)];exact st0 (by simpa using h0)
 ·have hge':¬i<l.length:=by simpa using hge
  have hd:=hh.done (by simpa using hge')
  exact⟨by omega,hd⟩
def boxW:List UInt8:=[98,111,120,32]
def reshW:List UInt8:=[32,114,101,115,104,97,112,101,32]
def scalK(k:Int)(n:List Int)(ls:List (List UInt8)):List UInt8 :=
 if k=1 then showI (n.getD 0 0) else if k=2 then quoB 39 [n.getD 0 0] else boxW++ls.getD 0 []
def itemB(l:List UInt8):List UInt8:=40::(boxW++l++[41])
def vecK(k:Int)(n:List Int)(ls:List (List UInt8)):List UInt8 :=
 if k=2 then quoB 34 n else Lib.join (n.map showI++ls.map itemB) [32]
def fillL(k:Int):List UInt8:=if k=1 then showI 0 else if k=2 then quoB 39 [32] else boxW++(dimsB [0]++reshW++showI 0)
def litK(k:Int)(s n:List Int)(ls:List (List UInt8)):List UInt8 :=
 if s.length=0 then scalK k n ls
 else if s.length=1∧(k=2∨1<n.length+ls.length) then vecK k n ls
 else dimsB s++reshW++(if n.length+ls.length=0 then fillL k else if n.length+ls.length=1 then scalK k n ls else vecK k n ls)
mutual
def litA:Arr→List UInt8
 |.mk k s n is=>litK k s n (litsL is)
def litsL:List Arr→List (List UInt8)
 | []=>[]
 |a::r=>litA a::litsL r
end
theorem litsL_map:∀l:List Arr,litsL l=l.map litA
 | []=>rfl
 |a::l=>by simp only[litsL,List.map_cons,litsL_map l]
theorem litA_eq(a:Arr):litA a=litK a.k a.sh a.nu (a.it.map litA):=by
 cases a with
 |mk k s n is=>rw[litA,litsL_map];rfl
def sumL:List (List UInt8)→Nat
 | []=>0
 |x::l=>x.length+sumL l
theorem sumL_getD:∀l:List (List UInt8),(l.getD 0 []).length≤sumL l
 | []=>by simp[sumL]
 |x::l=>by simp[sumL]
theorem sumL_append:∀l r:List (List UInt8),sumL (l++r)=sumL l+sumL r
 | [],r=>by simp[sumL]
 |x::l,r=>by simp only[List.cons_append,sumL,sumL_append l r];omega
theorem jT_sum(sep:List UInt8):∀l:List (List UInt8),(jT sep l).length=sep.length*l.length+sumL l
 | []=>by simp[jT,sumL]
 |x::l=>by
  have:=jT_sum sep l
  simp only[jT,List.flatMap_cons,List.length_append,List.length_cons,Nat.mul_succ,sumL] at this ⊢
  omega
theorem join_sum(sep:List UInt8)(l:List (List UInt8)):(Lib.join l sep).length≤sep.length*l.length+sumL l:=by
 cases l with
 |nil=>simp[join_nil]
 |cons x l =>
  rw[join_cons]
  have:=jT_sum sep l
  simp only[List.length_append,List.length_cons,Nat.mul_succ,sumL]
  omega
theorem sum_show:∀l:List Int,(∀z∈l,inI64 z)→sumL (l.map showI)≤21*l.length
 | [],_=>by simp[sumL]
 |x::l,h=>by
  have h1:=sum_show l fun y hy=>h y (List.mem_cons_of_mem _ hy)
  have h2:=showI_len (h x List.mem_cons_self)
  simp only[List.map_cons,sumL,List.length_cons];omega
theorem sum_item:∀l:List (List UInt8),sumL (l.map itemB)=6*l.length+sumL l
 | []=>by simp[sumL]
 |x::l=>by
  have:=sum_item l
  simp only[List.map_cons,sumL,List.length_cons,this,itemB,boxW,List.length_append,List.length_nil];omega
theorem quoB_len(q:Int)(l:List Int):(quoB q l).length≤8+6*l.length:=by
 have h1:=utf8_len q
 have h2:=escL_len q l
 simp only[quoB,List.length_append];omega
theorem show_len'{z:Int}(h:inI64 z):(showI z).length≤21:=(showI_len h).2
theorem getD_i64{l:List Int}(h:∀z∈l,inI64 z):inI64 (l.getD 0 0):=by
 cases l with
 |nil=>exact⟨by decide,by decide⟩
 |cons x l=>exact h x List.mem_cons_self
theorem scalK_len(k:Int){n:List Int}(hn:∀z∈n,inI64 z)(ls:List (List UInt8)):(scalK k n ls).length≤21+sumL ls:=by
 have h1:=show_len' (getD_i64 hn)
 have h2:=quoB_len 39 [n.getD 0 0]
 have h3:=sumL_getD ls
 simp only[List.length_cons,List.length_nil] at h2
 unfold scalK boxW
 split
 ·omega
 split
 ·omega
 ·simp only[List.length_append,List.length_cons,List.length_nil];omega
theorem vecK_len(k:Int){n:List Int}(hn:∀z∈n,inI64 z)(ls:List (List UInt8)):(vecK k n ls).length≤8+22*n.length+7*ls.length+sumL ls:=by
 have h1:=quoB_len 34 n
 have h2:=join_sum [32] (n.map showI++ls.map itemB)
 have h3:=sum_show n hn
 have h4:=sum_item ls
 rw[sumL_append] at h2
 simp only[List.length_append,List.length_map,List.length_cons,List.length_nil] at h2
 unfold vecK
 split<;>omega
theorem fillL_len(k:Int):(fillL k).length≤60:=by
 have h0:inI64 0:=⟨by decide,by decide⟩
 have h1:=show_len' h0
 have h2:=quoB_len 39 [32]
 have h3:=dimsB_len (l:=[0]) (by simpa using h0)
 simp only[List.length_cons,List.length_nil] at h2 h3
 unfold fillL boxW reshW
 split
 ·omega
 split
 ·omega
 ·simp only[List.length_append,List.length_cons,List.length_nil];omega
theorem litK_len(k : Int){s n : List Int}(hs8 : s.length≤8)(hs : ∀z∈s, inI64 z)(hn : ∀z∈n, inI64 z)(ls : List (List UInt8)) :
  (litK k s n ls).length≤300+22*n.length+7*ls.length+sumL ls:=by
 have h1:=scalK_len k hn ls
 have h2:=vecK_len k hn ls
 have h3:=fillL_len k
 have h4:=dimsB_len hs
 unfold litK reshW
 split
 ·omega
 split
 ·omega
 ·simp only[List.length_append,List.length_cons,List.length_nil]
  split
  ·omega
  split<;>omega
mutual
def totA:Arr→Nat
 |.mk _ _ n is=>n.length+totL is
def totL:List Arr→Nat
 | []=>0
 |a::r=>1+totA a+totL r
end
theorem litA_len:∀a:Arr,a.ok→(chkA a).1=0→(litA a).length≤600*totA a+300
 |.mk k s n is,ho,h=>by
  obtain ⟨h1,_,_,h4⟩:=chkA_zero h
  simp only[Arr.ok] at ho
  obtain ⟨_,hs,hn,_,_,_,hi⟩:=ho
  have hi:=(okL_iff _).1 hi
  have key:∀l:List Arr,(∀x∈l,x∈is)→7*l.length+sumL (litsL l)≤600*totL l:=fun l=>by
   induction l with
   |nil=>simp[litsL,sumL,totL]
   |cons x l ih =>
    intro hl
    have h5:=ih fun y hy=>hl y (List.mem_cons_of_mem _ hy)
    have hx:x∈is:=hl x List.mem_cons_self
    have h6:=litA_len x (hi x hx) (h4 x hx)
    simp only[litsL,sumL,totL,List.length_cons];omega
  have hk:=key is fun x hx=>hx
  have h7:=litK_len k h1 hs hn (litsL is)
  have h8:(litsL is).length=is.length:=by rw[litsL_map,List.length_map]
  simp only[litA,totA]
  omega
termination_by a=>SizeOf.sizeOf a
decreasing_by
 have:=List.sizeOf_lt_of_mem hx
 simp;omega
theorem chkL_big:∀(l:List Arr) (d w:Int) (r:Int×Int),chkL l d w=some r→262145≤w→262145≤r.2
 | [],d,w,r,h,hw=>by rw[chkL] at h;injection h with h;subst h;exact hw
 |x::l,d,w,r,h,hw=>by
  rw[chkL] at h
  split at h
  ·cases h
  ·have hb:=(chkA_bounds x).2.1
   refine chkL_big l _ _ r h ?_
   split<;>omega
theorem chkL_tot:∀(l:List Arr),(∀x∈l,(chkA x).1=0→(chkA x).2.2=totA x)→∀(d w:Int) (r:Int×Int),chkL l d w=some r→r.2≤262144→r.2=w+totL l-l.length
 | [],_,d,w,r,h,_=>by rw[chkL] at h;injection h with h;subst h;simp[totL]
 |x::l,hx,d,w,r,h,hr=>by
  rw[chkL] at h
  split at h
  ·cases h
  ·rename_i h0
   have h0:(chkA x).1=0:=Decidable.not_not.1 h0
   have h1:=hx x List.mem_cons_self h0
   by_cases hb:262145<w+(chkA x).2.2
   ·rw[if_pos hb] at h
    have:=chkL_big l _ _ r h (Int.le_refl _)
    omega
   ·rw[if_neg hb] at h
    have:=chkL_tot l (fun y hy=>hx y (List.mem_cons_of_mem _ hy)) _ _ r h hr
    simp only[totL,List.length_cons]
    omega
theorem chkA_tot:∀a:Arr,(chkA a).1=0→(chkA a).2.2=totA a
 |.mk k s n is,h=>by
  have hx:∀x∈is,(chkA x).1=0→(chkA x).2.2=totA x:=fun x hx h=>chkA_tot x h
  rw[chkA] at h ⊢
  by_cases h0:formS k s n.length is.length≠0
  ·rw[if_pos h0] at h;exact (h0 h).elim
  ·rw[if_neg h0] at h ⊢
   by_cases hb:n.any (badK k)=true
   ·rw[if_pos hb] at h;simp at h
   ·rw[if_neg hb] at h ⊢
    cases hr:chkL is 0 ((n.length:Int)+is.length) with
    |none=>rw[hr] at h;simp at h
    |some r =>
     rw[hr] at h
     simp only at h ⊢
     by_cases hc:16<r.1∨262144<r.2
     ·rw[if_pos hc] at h;simp at h
     ·rw[if_neg hc]
      have:=chkL_tot is hx _ _ r hr (by omega)
      simp only[totA]
      omega
termination_by a=>SizeOf.sizeOf a
decreasing_by
 have:=List.sizeOf_lt_of_mem hx
 simp;omega
theorem tot_le{a:Arr}(h:(chkA a).1=0):totA a≤262144:=by
 have h1:=chkA_tot a h
 have h2:=chkA_bounds a
 omega
theorem lit_le{a:Arr}(ho:a.ok)(h:(chkA a).1=0):(litA a).length≤157286700:=by
 have h1:=litA_len a ho h
 have h2:=tot_le h
 omega
def conVc(its:List Arr):Con:=fun k ds S=>match k with
 |94=>some (sRc Arr.row1 (fun b=>b∈its) (fun b=>.str (litA b)))
 |114=>match ds with
  | [.sl 1 n f m]=>some (pC [.sl 1 n f m] (.str (Lib.join (strsOf n f) [32])) (strsB n f=true∧joinOk (strsOf n f) [32]))
  |_=>none
 |k=>conJn k ds S
theorem conVc_ok{its:List Arr}(ih:∀b∈its,ACalls Tryz.prog 94 ((sRc Arr.row2 (fun _=>True) (fun b=>.str (litA b))).args b) ⟨[],[]⟩ (SpecR (sRc Arr.row2 (fun _=>True) (fun b=>.str (litA b))) b)):ConOk Tryz.prog (conVc its):=by
 intro k ds S A h
 unfold conVc at h
 split at h
 ·injection h with h;subst h
  exact ConOk.plain (fun b hb=>sRc_row (ih b hb)) rfl rfl
 ·split at h
  ·injection h with h;subst h
   exact pC_ok fun ⟨h1,h2⟩=>⟨weakL_refl _,sC_weak (us:=[ssl (strsOf _ _) .any]) ⟨ssl_weak h1,trivial⟩ (fjoin_ok _ h2)⟩
  ·cases h
 ·exact conJn_ok _ _ _ _ h
noncomputable def Evc(a:Arr):Senv:={ EC (conVc a.it) 44 4 [5,7,10,15,16,17,18,28,29,30,31] (fun _=>([],[])) with
 gh:=fun b=>match b with
  |0=>[.slot 3]
  |_=>[]
 ann:=fun b _ S=>match b with
  |0=>some { slots:=[17,3],keep:=[1,15,16],α:=Nat×Nat×List (List UInt8),st:=fun y=>([.int .i64 y.1,ssl y.2.2 (.tok 0 y.2.1)],⟨S.objs,[(0,y.2.1)]⟩),inv:=fun y=>y.1≤a.nu.length∧y.2.2=(a.nu.take y.1).map showI,mu:=fun y=>a.nu.length-y.1 }
  |2=>some { slots:=[30,3],keep:=[1,28,29],α:=Nat×Nat×List (List UInt8),st:=fun y=>([.int .i64 y.1,ssl y.2.2 (.tok 0 y.2.1)],⟨S.objs,[(0,y.2.1)]⟩),inv:=fun y=>y.1≤a.it.length∧y.2.2=a.nu.map showI++(a.it.take y.1).map (fun b=>itemB (litA b)),mu:=fun y=>a.it.length-y.1 }
  |_=>none }
theorem app_str{l : List (List UInt8)}{s : List UInt8} :
  ∀i,i<l.length+1→appF l.length (fun i=>[D.str (l.getD i [])]) (fun i=>[D.str ([s].getD i [])]) i=[D.str ((l++[s]).getD i [])]:=by
 intro i hi
 simp only[appF]
 split
 ·rename_i hlt
  simp[List.getD_eq_getElem?_getD,List.getElem?_append_left hlt]
 ·have:i=l.length:=by omega
  subst this
  simp[List.getD_eq_getElem?_getD]
theorem take_st{α:Type}{l:List α}{i:Nat}(d:α)(h:i<l.length):l.take (i+1)=l.take i++[l.getD i d]:=by
 rw[List.take_add_one,List.getElem?_eq_getElem h,List.getD_eq_getElem?_getD,List.getElem?_eq_getElem h];rfl
theorem chk_chr{a:Arr}(h:(chkA a).1=0)(h2:a.k=2):∀c∈a.nu,0≤c∧c≤1114111:=by
 cases a with
 |mk k s n is =>
  have h2:k=2:=h2
  subst h2
  rw[chkA] at h
  by_cases h0:formS 2 s n.length is.length≠0
  ·rw[if_pos h0] at h;exact (h0 h).elim
  ·rw[if_neg h0] at h
   by_cases hb:n.any (badK 2)=true
   ·rw[if_pos hb] at h;simp at h
   ·intro c hc
    have hb:¬badK 2 c=true:=fun h=>hb (List.any_eq_true.2 ⟨c,hc,h⟩)
    have:chrB c=true:=by simpa[badK] using hb
    simp only[chrB,Bool.and_eq_true,decide_eq_true_eq] at this
    omega
theorem items_len{a:Arr}(ho:a.ok)(h:(chkA a).1=0):7*a.it.length+sumL (a.it.map litA)≤157286400:=by
 have ht:=tot_le h
 cases a with
 |mk k s n is =>
  obtain ⟨_,_,_,h4⟩:=chkA_zero h
  simp only[Arr.ok] at ho
  have hi:=(okL_iff _).1 ho.2.2.2.2.2.2
  have key:∀l:List Arr,(∀x∈l,x∈is)→7*l.length+sumL (l.map litA)≤600*totL l:=fun l=>by
   induction l with
   |nil=>simp[sumL,totL]
   |cons x l ih =>
    intro hl
    have h5:=ih fun y hy=>hl y (List.mem_cons_of_mem _ hy)
    have hx:x∈is:=hl x List.mem_cons_self
    have h6:=litA_len x (hi x hx) (h4 x hx)
    simp only[List.map_cons,sumL,totL,List.length_cons];omega
  have hk:=key is fun x hx=>hx
  simp only[totA] at ht
  show 7*is.length+sumL (is.map litA)≤_
  omega
theorem mem_sum:∀ {l:List Arr} {x:Arr},x∈l→(litA x).length≤sumL (l.map litA)
 |y::l,x,h=>by
  simp only[List.map_cons,sumL]
  rcases List.mem_cons.1 h with rfl | h
  ·omega
  ·have:=mem_sum h;omega
theorem arr_dims{a:Arr}(ho:a.ok)(h:(chkA a).1=0):a.sh.length≤8∧a.nu.length≤65536∧a.it.length≤65536∧(∀z∈a.sh,inI64 z)∧∀z∈a.nu,inI64 z:=by
 cases a with
 |mk k s n is =>
  obtain ⟨h1,h2,h3,_⟩:=chkA_zero h
  simp only[Arr.ok] at ho
  exact⟨h1,h2,h3,ho.2.1,ho.2.2.1⟩
structure LOk (a:Arr):Prop where
 kd:a.k=1∨a.k=2∨a.k=3
 s8:a.sh.length≤8
 n6:a.nu.length≤65536
 i6:a.it.length≤65536
 si:∀z∈a.sh,inI64 z
 ni:∀z∈a.nu,inI64 z
 sum:7*a.it.length+sumL (a.it.map litA)≤157286400
 chr:a.k=2→∀c∈a.nu,0≤c∧c≤1114111
 no:a.k≠3→a.it=[]
 bx:a.k=3→a.nu=[]
 sc:a.sh.length=0→a.nu.length+a.it.length=1
def Qmc(a:Arr):Int:=Arr.k a
def Qg3(a:Arr):List Int:=Arr.nu a
def H5(a:Arr):Nat:=LN (Qg3 a)
def QjM(a:Arr)(b:Nat):List D:=[ZI (GI (Qg3 a) b)]
def Qz8(a:Arr):List Int:=intsD (H5 a) fun (i:Nat)=>QjM a i
def QiU(a:Arr):List Arr:=Arr.it a
def Qz9(a:Arr):List UInt8:=vecK (Qmc a) (Qg3 a) (List.map litA (QiU a))
def QqH(a:Nat)(b:Arr)(c:List (List UInt8)):Prop:=a≤H5 b∧c=List.map showI (List.take a (Qg3 b))
def Qgo(a:List (List UInt8))(b:Nat):List D:=[D.str (List.getD a b [])]
def QqI(a:Arr):Nat:=LN (Arr.sh a)
def QAa(a:Arr)(b:Nat):List D:=[ZI (GI (Arr.sh a) b)]
def QgE(a:Arr):Nat:=LN (QiU a)
def Qmd:Arr:=DA
def QjN(a:Arr)(b:Nat):Arr:=List.getD (QiU a) b Qmd
def QKr(a:Arr)(b:Nat):List Int:=Arr.sh (QjN a b)
def QKs(a:Arr)(b:Nat):List Int:=Arr.nu (QjN a b)
def QAb(a:Arr)(b:Nat):List Arr:=Arr.it (QjN a b)
def QAc(a:Arr)(b:Nat):List D:=[ZI (Arr.k (QjN a b)),SI (QKr a b),SI (QKs a b),D.sl N4 (LN (QAb a b)) (fun (i:Nat)=>Arr.row (List.getD (QAb a b) i Qmd)) Mode.any]
def Qme(a:Nat)(b:Arr)(c d:Nat):Prop:=(SM a∧(SM (Qmc b)∧(SM (QqI b)∧(∀(i:Nat),i<QqI b→SM (QAa b i))∧True)∧(SM (H5 b)∧(∀(i:Nat),i<H5 b→SM (QjM b i))∧True)∧(SM (QgE b)∧(∀(i:Nat),i<QgE b→SM (QAc b i))∧True)∧True)∧True)∧c=d∧True
def QqJ(a:Arr):Int:=(NI (H5 a))
def QKt(a:Arr):D:=D.sl N1 (H5 a) (fun (i:Nat)=>QjM a i) Mode.any
def Qmf(a:Arr):List UInt8:=litA a
def QqK(a:Nat)(c:Arr)(d:List (List UInt8)):Prop:=a≤QgE c∧d=List.map showI (Qg3 c)++List.map (fun (b:Arr)=>itemB (Qmf b)) (List.take a (QiU c))
def QqL(a:Arr):Int:=(NI (QgE a))
def Qmg(a:Arr)(b:Nat):Arr:=List.getD (QiU a) (Int.toNat (↑b:Int)) Qmd
def QAd(a:Arr)(b:Nat):List Int:=Arr.sh (Qmg a b)
def QAe(a:Arr)(b:Nat):Nat:=LN (QAd a b)
def QAf(a:Arr)(b:Nat):List Int:=Arr.nu (Qmg a b)
def QAg(a:Arr)(b:Nat):Nat:=LN (QAf a b)
def QAh(a:Arr)(b:Nat):List Arr:=Arr.it (Qmg a b)
def QAi(a:Arr)(b:Nat):Nat:=LN (QAh a b)
def QKu(a:Arr):D:=D.sl N4 (QgE a) (fun (i:Nat)=>QAc a i) Mode.any
def QAj(a:List (List UInt8)):List (List UInt8):=strsOf (LN a) fun (i:Nat)=>Qgo a i
theorem vec_step(a : Arr)(ho : LOk a)(hc : ConOk Tryz.prog (conVc a.it)) :
  ACalls Tryz.prog 115 ((sRc Arr.row2 (fun _=>True) (fun a=>.str (vecK a.k a.nu (a.it.map litA)))).args a) ⟨[],[]⟩ (SpecR (sRc Arr.row2 (fun _=>True) (fun a=>.str (vecK a.k a.nu (a.it.map litA)))) a):=by
 refine con_of (A:=sRc Arr.row2 (fun _=>True) (fun a=>.str (vecK a.k a.nu (a.it.map litA)))) (x:=a) (E:=Evc a) (eOk hc rfl) Tryz.func115 rfl (by kernel_rfl) rfl (by simp[sRc,Evc,EC,E0]) ?_
 refine vc_eq (T :=
  ∀(x:Nat),True→SM x∧ifB (Qmc a==(2:Int)) (SM x∧(H5 a≤(1099511627776:Nat)∧(IntsP (H5 a) fun (i:Nat)=>QjM a i)∧∀(c:Int),c∈Qz8 a→Z0≤c∧c≤(1114111:Int))∧∀(y:Unit),True→RT (quoB (34:Int) (Qz8 a)=Qz9 a)) (SM x∧∀(t:Nat),(∃(x_1:Nat×Nat×List (List UInt8)),QqH x_1.1 a x_1.2.2∧(Z0=(NI x_1.1)∧(N0=LN x_1.2.2∧(∀(i:Nat),i<N0→eqOf (List D) [] (Qgo x_1.2.2 i))∧t=x_1.2.1)∧True)∧Qme x a t x_1.2.1)∧∀(x_1:Nat×Nat×List (List UInt8)),QqH x_1.1 a x_1.2.2→ifB (decide ((NI x_1.1)<QqJ a)) (side (Z0≤(NI x_1.1)∧(NI x_1.1)<QqJ a) (inI64 (GI (Qg3 a) (TN x_1.1))∧∀(y:Unit),True→SM x_1.2.1∧side ((LN x_1.2.2+N1)*(16:Nat)≤(140737488355328:Nat)∧LN x_1.2.2+N1≤(9223372036854775807:Nat)) (∀(t:Nat),(SM (D.ref N0 x N0)∧SM (QKt a)∧SM (ZI (QqJ a))∧True)∧∃(y:Nat×Nat×List (List UInt8)),QqH y.1 a y.2.2∧H5 a-y.1<H5 a-x_1.1∧(IntKind.wrap IntKind.i64 ((NI x_1.1)+Z1)=(NI y.1)∧(LN x_1.2.2+N1=LN y.2.2∧(∀(i:Nat),i<LN x_1.2.2+N1→appF (LN x_1.2.2) (fun (i:Nat)=>Qgo x_1.2.2 i) (fun (i:Nat)=>[D.str (List.getD [showI (GI (Qg3 a) (TN x_1.1))] i [])]) i=Qgo y.2.2 i)∧t=y.2.1)∧True)∧Qme x a t y.2.1))) (SM x∧(∃(x_2:Nat×Nat×List (List UInt8)),QqK x_2.1 a x_2.2.2∧(Z0=(NI x_2.1)∧(LN x_1.2.2=LN x_2.2.2∧(∀(i:Nat),i<LN x_1.2.2→Qgo x_1.2.2 i=Qgo x_2.2.2 i)∧x_1.2.1=x_2.2.1)∧True)∧Qme x a x_1.2.1 x_2.2.1)∧∀(x_2:Nat×Nat×List (List UInt8)),QqK x_2.1 a x_2.2.2→ifB (decide ((NI x_2.1)<QqL a)) (side (Z0≤(NI x_2.1)∧(NI x_2.1)<QqL a) (∀(x_3:Nat),x≠x_3∧True→SM x_3∧SM x_3∧∃(x_4:Arr),((Arr.k (Qmg a x_2.1)=Qmc x_4∧(QAe a x_2.1=QqI x_4∧(∀(i:Nat),i<QAe a x_2.1→[ZI (GI (QAd a x_2.1) i)]=QAa x_4 i)∧True)∧(QAg a x_2.1=H5 x_4∧(∀(i:Nat),i<QAg a x_2.1→[ZI (GI (QAf a x_2.1) i)]=QjM x_4 i)∧True)∧(QAi a x_2.1=QgE x_4∧(∀(i:Nat),i<QAi a x_2.1→Arr.row (List.getD (QAh a x_2.1) i Qmd)=Arr.row (QjN x_4 i))∧True)∧True)∧True)∧(True∧True)∧x_4∈QiU a∧∀(y:Unit),True→side ((5:Nat)+LN (Qmf x_4)≤(9223372036854775807:Nat)) (side (LN ((40:UInt8)::(98:UInt8)::(111:UInt8)::(120:UInt8)::(32:UInt8)::List.append [] (Qmf x_4))+N1≤(9223372036854775807:Nat)) (SM x_2.2.1∧side ((LN x_2.2.2+N1)*(16:Nat)≤(140737488355328:Nat)∧LN x_2.2.2+N1≤(9223372036854775807:Nat)) (∀(t:Nat),(SM (D.ref N0 x N0)∧SM (QKu a)∧SM (ZI (QqL a))∧True)∧∃(y:Nat×Nat×List (List UInt8)),QqK y.1 a y.2.2∧QgE a-y.1<QgE a-x_2.1∧(IntKind.wrap IntKind.i64 ((NI x_2.1)+Z1)=(NI y.1)∧(LN x_2.2.2+N1=LN y.2.2∧(∀(i:Nat),i<LN x_2.2.2+N1→appF (LN x_2.2.2) (fun (i:Nat)=>Qgo x_2.2.2 i) (fun (i:Nat)=>[D.str (List.getD [(40:UInt8)::(98:UInt8)::(111:UInt8)::(120:UInt8)::(32:UInt8)::List.append (List.append [] (Qmf x_4)) [(41:UInt8)]] i [])]) i=Qgo y.2.2 i)∧t=y.2.1)∧True)∧Qme x a t y.2.1))))) (((strsB (LN x_2.2.2) fun (i:Nat)=>Qgo x_2.2.2 i)=true∧joinOk (QAj x_2.2.2) [(32:UInt8)])∧∀(y:Unit),True→RT (Lib.join (QAj x_2.2.2) [(32:UInt8)]=Qz9 a))))) (by kernel_rfl) ?_
 delta DA GI LN N0 N1 N4 NI SI SM TN Z0 Z1 ZI Qmc Qg3 QAa QgE Qmd QjN QKr QKs QAb QAc Qme QqJ H5 QKt Qmf QqK QqL Qmg QAd QAe QAf QAg QAh QjM QAi QKu QAj Qz8 QiU Qz9 QqH Qgo QqI RT
 have da:(default:Arr)=Arr.mk 0 [] [] []:=rfl
 simp only[← da,ifB_iff,side_iff,decide_eq_true_eq,decide_eq_false_iff_not,true_and,and_true,beq_iff_eq,beq_eq_false_iff_ne,ne_eq,exists_const,forall_const,Int.toNat_natCast]
 simp only[intsD_isl]
 obtain ⟨_,l1,l2,l3,l4,l5,hsum,hchr,_,_,_⟩:=ho
 have tt:(∀i:Nat,i<a.sh.length→True)∧(∀i:Nat,i<a.nu.length→True)∧∀i:Nat,i<a.it.length→True:=⟨fun _ _=>trivial,fun _ _=>trivial,fun _ _=>trivial⟩
 intro x
 refine⟨fun h2=>⟨⟨by omega,intsP_isl _,hchr h2⟩,by rw[vecK,if_pos h2]⟩,fun h2 t=>⟨⟨(0,t,[]),⟨Nat.zero_le _,rfl⟩,⟨rfl,rfl,fun i hi=>absurd hi (by omega),rfl⟩,tt,rfl⟩,?_⟩⟩
 rintro ⟨i,t1,out⟩ ⟨hi,he⟩
 simp only at hi he ⊢
 have ho1:out.length=i:=by rw[he,List.length_map,List.length_take];omega
 refine⟨fun hlt=>?_,fun hge=>⟨⟨(0,t1,out),⟨Nat.zero_le _,?_⟩,⟨rfl,rfl,fun _ _=>rfl,rfl⟩,tt,rfl⟩,?_⟩⟩
 ·have hlt':i<a.nu.length:=by omega
  refine⟨⟨by omega,by omega⟩,l5 _ (memI hlt'),⟨by omega,by omega⟩,fun t2=>⟨(i+1,t2,out++[showI (a.nu.getD i 0)]),⟨by simp only;omega,?_⟩,by simp only;omega,⟨wrap_i64' (by omega) (by omega),by simp,app_str,rfl⟩,tt,rfl⟩⟩
  simp only
  rw[take_st 0 hlt',List.map_append,he];rfl
 ·have:i=a.nu.length:=by omega
  subst this
  rw[he];simp
 rintro ⟨j,t3,o2⟩ ⟨hj,he2⟩
 simp only at hj he2 ⊢
 have ho2:o2.length=a.nu.length+j:=by rw[he2,List.length_append,List.length_map,List.length_map,List.length_take];omega
 refine⟨fun hlt=>⟨⟨by omega,by omega⟩,fun x3 _=>?_⟩,fun hge=>?_⟩
 ·have hlt':j<a.it.length:=by omega
  have hm:=mem_getD hlt'
  have hl:=mem_sum hm
  refine⟨a.it.getD j default,⟨rfl,⟨rfl,fun _ _=>rfl⟩,⟨rfl,fun _ _=>rfl⟩,rfl,fun _ _=>rfl⟩,hm,by omega,?_,⟨by omega,by omega⟩,fun t4=>⟨(j+1,t4,o2++[itemB (litA (a.it.getD j default))]),⟨by simp only;omega,?_⟩,by simp only;omega,⟨wrap_i64' (by omega) (by omega),by simp,app_str,rfl⟩,tt,rfl⟩⟩
  ·simp only[List.length_cons,app_nil'];omega
  ·simp only
   rw[take_st default hlt',List.map_append,he2,List.append_assoc];rfl
 ·have hj':j=a.it.length:=by omega
  subst hj'
  rw[List.take_length] at he2
  have hv:Lib.join o2 [32]=vecK a.k a.nu (a.it.map litA):=by
   rw[vecK,if_neg h2,he2,List.map_map];rfl
  have hvl:=vecK_len a.k l5 (a.it.map litA)
  rw[List.length_map] at hvl
  rw[strsOf_eq (l:=o2) rfl (fun _ _=>rfl)]
  exact⟨⟨strsB_eq (l:=o2) rfl (fun _ _=>rfl),by omega,by rw[hv];omega⟩,hv⟩
def sAt(q:Arr→Prop):FnSpec where
 β:=Arr
 α:=Unit
 args:=fun a=>[.agg a.row2,.int .i64 0]
 st:=fun _=>⟨[],[]⟩
 pre:=q
 post:=fun _ _=>True
 res:=fun a _=>.ret (.agg (atA a 0).row1)
 out:=fun _ _=>⟨[],[]⟩
def conLf(a:Arr)(q:Arr→Prop):Con:=fun k ds S=>match k with
 |94=>some (sRc Arr.row1 q (fun b=>.str (litA b)))
 |115=>some (sRc Arr.row2 (fun b=>b=a) (fun b=>.str (vecK b.k b.nu (b.it.map litA))))
 |116=>some (sRc Arr.row2 (fun b=>b=a) (fun b=>.agg (fillA b.k).row1))
 |117=>some (sAt (fun b=>b=a∧a.nu.length+a.it.length=1))
 |118=>match ds with
  | [.sl 1 n f m]=>some (pC [.sl 1 n f m] (.str (dimsB (intsD n f))) (IntsP n f∧n≤1099511627776∧∀z∈intsD n f,inI64 z))
  |_=>none
 |114=>match ds with
  | [.sl 1 n f m]=>some (pC [.sl 1 n f m] (.str (Lib.join (strsOf n f) [32])) (strsB n f=true∧joinOk (strsOf n f) [32]))
  |_=>none
 |k=>conJn k ds S
theorem join2(x y:List UInt8):Lib.join [x,y] [32]=x++32::y:=by rw[join_cons];simp[jT]
theorem join3(x y z:List UInt8):Lib.join [x,y,z] [32]=x++(32::(y++32::z)):=by rw[join_cons];simp[jT]
theorem strs2(x y:List UInt8):strsOf 2 (fun i=>[D.str ([x,y].getD i [])])=[x,y]:=rfl
theorem strs3(x y z:List UInt8):strsOf 3 (fun i=>[D.str ([x,y,z].getD i [])])=[x,y,z]:=rfl
theorem strsB2(x y:List UInt8):strsB 2 (fun i=>[D.str ([x,y].getD i [])])=true:=rfl
theorem strsB3(x y z:List UInt8):strsB 3 (fun i=>[D.str ([x,y,z].getD i [])])=true:=rfl
theorem ints1(z:Int):intsD 1 (fun i=>[[D.int .i64 z]].getD i [])=[z]:=rfl
theorem intsP1(z:Int):IntsP 1 (fun i=>[[D.int .i64 z]].getD i []):=fun i hi=>by
 have:i=0:=by omega
 subst this;rfl
theorem fill_lit{k:Int}(h:k=1∨k=2∨k=3):litA (fillA k)=fillL k:=by
 rcases h with rfl | rfl | rfl
 ·rfl
 ·rfl
 ·rfl
theorem litA_scal(k:Int)(n:List Int)(is:List Arr):litA (.mk k [] n is)=scalK k n (is.map litA):=by
 rw[litA,litsL_map,litK,if_pos List.length_nil]
theorem at_lit{a:Arr}(kd:a.k=1∨a.k=2∨a.k=3)(bx:a.k=3→a.nu=[])(h:a.nu.length+a.it.length=1):litA (atA a 0)=scalK a.k a.nu (a.it.map litA):=by
 unfold atA
 by_cases h3:a.k=3
 ·rw[if_pos h3,litA_scal,h3]
  cases hi:a.it with
  |nil=>rw[bx h3,hi] at h;simp at h
  |cons x l=>rfl
 ·rw[if_neg h3,litA_scal,scalK,scalK]
  by_cases h1:a.k=1
  ·rw[if_pos h1,if_pos h1];rfl
  ·rw[if_neg h1,if_neg h1,if_pos (by omega),if_pos (by omega)];rfl
noncomputable def Elf(a:Arr)(q:Arr→Prop):Senv:=EC (conLf a q) 90 5 [12,27,43,55,71,74,79] (fun _=>([],[]))
def H6(a:Arr):Nat:=LN (Arr.sh a)
def QjO(a:Arr):Bool:=(NI (H6 a))==Z0
def Qac(a:Arr):Int:=Arr.k a
def QqM(a:Arr):Bool:=bif QjO a then Qac a==Z1 else false
def Qmh(a:Arr):List Int:=Arr.nu a
def QgF(a:Arr):Nat:=LN (Qmh a)
def QqN(a:Arr):Int:=(NI (QgF a))
def QqO(a:Arr):Int:=GI (Qmh a) N0
def QgG(a:Arr):List UInt8:=litA a
def Qmi(a:Arr):Bool:=Qac a==(2:Int)
def QqP(a:Arr):Bool:=bif QjO a then Qmi a else false
def QAk(a:Arr)(b:Nat):List D:=List.getD [[ZI (QqO a)]] b []
def QAl(a:Arr):List Int:=intsD N1 fun (i:Nat)=>QAk a i
def Qmj(a:Arr):List Arr:=Arr.it a
def Qgp(a:Arr):Nat:=LN (Qmj a)
def QiV:Arr:=DA
def Qmk(a:Arr):Arr:=List.getD (Qmj a) N0 QiV
def QAm(a:Arr):List Int:=Arr.sh (Qmk a)
def QAn(a:Arr):Nat:=LN (QAm a)
def Qg4(a:Arr)(b:Nat):List D:=[ZI (GI (Arr.sh a) b)]
def QAo(a:Arr):List Int:=Arr.nu (Qmk a)
def QAp(a:Arr):Nat:=LN (QAo a)
def QjP(a:Arr)(b:Nat):List D:=[ZI (GI (Qmh a) b)]
def QAq(a:Arr):List Arr:=Arr.it (Qmk a)
def QAr(a:Arr):Nat:=LN (QAq a)
def QjQ(a:Arr)(b:Nat):Arr:=List.getD (Qmj a) b QiV
def QqQ(a:Arr)(b:Nat):List D:=Arr.row (QjQ a b)
def QAs(a:Arr)(b:Nat):List D:=[D.str (List.getD [[(98:UInt8),(111:UInt8),(120:UInt8)],QgG a] b [])]
def QAt(a:Arr):List (List UInt8):=strsOf N2 fun (i:Nat)=>QAs a i
def QAu(a:Arr):Bool:=(NI (H6 a))==Z1
def QqR(a:Arr):Int:=IntKind.wrap IntKind.i64 (QqN a+(NI (Qgp a)))
def QAv(a:Arr):Bool:=decide (Z1<QqR a)
def Qml(a:Arr):Bool:=bif QAu a then bif Qmi a then true else QAv a else false
def QKv(a:Arr)(b:Nat):List Int:=Arr.sh (QjQ a b)
def QKw(a:Arr)(b:Nat):List Int:=Arr.nu (QjQ a b)
def QAw(a:Arr)(b:Nat):List Arr:=Arr.it (QjQ a b)
def QAx(a:Arr)(b:Nat):List D:=[ZI (Arr.k (QjQ a b)),SI (QKv a b),SI (QKw a b),D.sl N4 (LN (QAw a b)) (fun (i:Nat)=>Arr.row (List.getD (QAw a b) i QiV)) Mode.any]
def QAy(a b:Arr):Prop:=Qac a=Qac b∧(H6 a=H6 b∧(∀(i:Nat),i<H6 a→Qg4 a i=Qg4 b i)∧True)∧(QgF a=QgF b∧(∀(i:Nat),i<QgF a→QjP a i=QjP b i)∧True)∧(Qgp a=Qgp b∧(∀(i:Nat),i<Qgp a→QAx a i=QAx b i)∧True)∧True
def QqS(a b:Arr):Prop:=QAy a b∧True
def QAz(a:Arr):List UInt8:=vecK (Qac a) (Qmh a) (List.map litA (Qmj a))
def Qmm(a:Arr):Arr:=fillA (Qac a)
def QAA(a:Arr):List Int:=Arr.sh (Qmm a)
def QAB(a:Arr):Nat:=LN (QAA a)
def QAC(a:Arr):List Int:=Arr.nu (Qmm a)
def QAD(a:Arr):Nat:=LN (QAC a)
def QAE(a:Arr):List Arr:=Arr.it (Qmm a)
def QAF(a:Arr):Nat:=LN (QAE a)
def QAG(a:Arr):List Int:=intsD (H6 a) fun (i:Nat)=>Qg4 a i
def QAH(a:Arr):Prop:=(IntsP (H6 a) fun (i:Nat)=>Qg4 a i)∧H6 a≤(1099511627776:Nat)∧∀(z:Int),z∈QAG a→inI64 z
def QAI(a:Arr):List UInt8:=dimsB (QAG a)
def QAJ(a b:Arr)(c:Nat):List D:=[D.str (List.getD [QAI a,[(114:UInt8),(101:UInt8),(115:UInt8),(104:UInt8),(97:UInt8),(112:UInt8),(101:UInt8)],QgG b] c [])]
def QAK(a b:Arr):List (List UInt8):=strsOf (3:Nat) fun (i:Nat)=>QAJ a b i
def QAL(a:Arr→Prop)(b:Arr)(c:Nat)(d:Arr):Prop:=(True∧True)∧a b∧∀(_y:Unit),True→SM c∧QAH d∧∀(_y:Unit),True→((strsB (3:Nat) fun (i:Nat)=>QAJ d b i)=true∧joinOk (QAK d b) [(32:UInt8)])∧∀(_y:Unit),True→True∧∃(_y:Unit),True∧Lib.join (QAK d b) [(32:UInt8)]=QgG d∧True∧True
def Qmn(a:Arr):Arr:=atA a N0
def QAM(a:Arr):List Int:=Arr.sh (Qmn a)
def QAN(a:Arr):Nat:=LN (QAM a)
def QAO(a:Arr):List Int:=Arr.nu (Qmn a)
def QAP(a:Arr):Nat:=LN (QAO a)
def QAQ(a:Arr):List Arr:=Arr.it (Qmn a)
def QAR(a:Arr):Nat:=LN (QAQ a)
def QAS(a b:Arr)(c:Nat):List D:=[D.str (List.getD [QAI a,[(114:UInt8),(101:UInt8),(115:UInt8),(104:UInt8),(97:UInt8),(112:UInt8),(101:UInt8)],QAz b] c [])]
def QAT(a b:Arr):List (List UInt8):=strsOf (3:Nat) fun (i:Nat)=>QAS a b i
theorem lit_step(a : Arr)(q : Arr → Prop)(ho : LOk a)(hi : ∀b∈a.it, q b)(h0 : a.sh.length≠0 → a.nu.length+a.it.length=0 → q (fillA a.k))(h1 : a.sh.length≠0 → a.nu.length+a.it.length=1 → q (atA a 0))(hc : ConOk Tryz.prog (conLf a q)) :
  ACalls Tryz.prog 94 ((sRc Arr.row2 (fun _=>True) (fun b=>.str (litA b))).args a) ⟨[],[]⟩ (SpecR (sRc Arr.row2 (fun _=>True) (fun b=>.str (litA b))) a):=by
 refine con_of (A:=sRc Arr.row2 (fun _=>True) (fun b=>.str (litA b))) (x:=a) (E:=Elf a q) (eOk hc rfl) Tryz.func94 rfl (by kernel_rfl) rfl (by simp[sRc,Elf,EC,E0]) ?_
 refine vc_eq (T :=
  ∀(x:Nat),True→SM x∧SM x∧(SM x∧ifB (QjO a) (SM x∧(Qac a==Z1)=QqM a∧True) (false=QqM a∧True))∧ifB (QqM a) (SM x∧side (Z0≤Z0∧Z0<QqN a) (inI64 (QqO a)∧∀(y:Unit),True→RT (showI (QqO a)=QgG a))) ((SM x∧ifB (QjO a) (SM x∧Qmi a=QqP a∧True) (false=QqP a∧True))∧ifB (QqP a) (SM x∧side (Z0≤Z0∧Z0<QqN a) ((N1≤(1099511627776:Nat)∧(IntsP N1 fun (i:Nat)=>QAk a i)∧∀(c:Int),c∈QAl a→Z0≤c∧c≤(1114111:Int))∧∀(y:Unit),True→RT (quoB (39:Int) (QAl a)=QgG a))) (SM x∧ifB (QjO a) (SM x∧side (Z0≤Z0∧Z0<(NI (Qgp a))) (∃(x:Arr),((Arr.k (Qmk a)=Qac x∧(QAn a=H6 x∧(∀(i:Nat),i<QAn a→[ZI (GI (QAm a) i)]=Qg4 x i)∧True)∧(QAp a=QgF x∧(∀(i:Nat),i<QAp a→[ZI (GI (QAo a) i)]=QjP x i)∧True)∧(QAr a=Qgp x∧(∀(i:Nat),i<QAr a→Arr.row (List.getD (QAq a) i QiV)=QqQ x i)∧True)∧True)∧True)∧(True∧True)∧q x∧∀(y:Unit),True→((strsB N2 fun (i:Nat)=>QAs x i)=true∧joinOk (QAt x) [(32:UInt8)])∧∀(y:Unit),True→RT (Lib.join (QAt x) [(32:UInt8)]=QgG a))) ((SM x∧ifB (QAu a) (SM x∧ifB (Qmi a) (true=Qml a∧True) (QAv a=Qml a∧True)) (false=Qml a∧True))∧ifB (Qml a) (SM x∧∃(x:Arr),QqS a x∧(True∧True)∧x=a∧∀(y:Unit),True→RT (QAz x=QgG a)) (ifB (QqR a==Z0) (SM x∧∃(x_1:Arr),QqS a x_1∧(True∧True)∧x_1=a∧∀(y:Unit),True→∃(x_2:Arr),((Arr.k (Qmm x_1)=Qac x_2∧(QAB x_1=H6 x_2∧(∀(i:Nat),i<QAB x_1→[ZI (GI (QAA x_1) i)]=Qg4 x_2 i)∧True)∧(QAD x_1=QgF x_2∧(∀(i:Nat),i<QAD x_1→[ZI (GI (QAC x_1) i)]=QjP x_2 i)∧True)∧(QAF x_1=Qgp x_2∧(∀(i:Nat),i<QAF x_1→Arr.row (List.getD (QAE x_1) i QiV)=QqQ x_2 i)∧True)∧True)∧True)∧QAL q x_2 x a) (ifB (QqR a==Z1) (SM x∧∃(x_1:Arr),(QAy a x_1∧SM Z0∧True)∧(True∧True)∧(x_1=a∧QgF a+Qgp a=N1)∧∀(y:Unit),True→∃(x_2:Arr),((Arr.k (Qmn x_1)=Qac x_2∧(QAN x_1=H6 x_2∧(∀(i:Nat),i<QAN x_1→[ZI (GI (QAM x_1) i)]=Qg4 x_2 i)∧True)∧(QAP x_1=QgF x_2∧(∀(i:Nat),i<QAP x_1→[ZI (GI (QAO x_1) i)]=QjP x_2 i)∧True)∧(QAR x_1=Qgp x_2∧(∀(i:Nat),i<QAR x_1→Arr.row (List.getD (QAQ x_1) i QiV)=QqQ x_2 i)∧True)∧True)∧True)∧QAL q x_2 x a) (SM x∧∃(x_1:Arr),QqS a x_1∧(True∧True)∧x_1=a∧∀(y:Unit),True→SM x∧QAH a∧∀(y:Unit),True→((strsB (3:Nat) fun (i:Nat)=>QAS a x_1 i)=true∧joinOk (QAT a x_1) [(32:UInt8)])∧∀(y:Unit),True→RT (Lib.join (QAT a x_1) [(32:UInt8)]=QgG a)))))))) (by kernel_rfl) ?_
 delta DA GI LN N0 N1 N2 N4 NI SI SM Z0 Z1 ZI H6 QjO QqP QAk QAl Qmj Qgp QiV Qmk QAm QAn Qg4 Qac QAo QAp QjP QAq QAr QjQ QqQ QAs QAt QAu QqM QqR QAv Qml QKv QKw QAw QAx QAy QqS QAz Qmh Qmm QAA QAB QAC QAD QAE QAF QAG QAH QAI QgF QAJ QAK QAL Qmn QAM QAN QAO QAP QAQ QAR QqN QAS QAT QqO QgG Qmi RT
 have da:(default:Arr)=Arr.mk 0 [] [] []:=rfl
 simp only[← da,ifB_iff,side_iff,decide_eq_true_eq,decide_eq_false_iff_not,true_and,and_true,beq_iff_eq,Bool.cond_false_right,Bool.cond_true_left,Bool.and_eq_true,Bool.and_eq_false_iff,Bool.or_eq_true,Bool.or_eq_false_iff,beq_eq_false_iff_ne,ne_eq,exists_const,forall_const,intsD_isl]
 obtain ⟨kd,s8,n6,i6,si,ni,hsum,hchr,hno,hbx,hsc⟩:=ho
 have hw:IntKind.i64.wrap ((a.nu.length:Int)+(a.it.length:Int))=(a.nu.length:Int)+(a.it.length:Int):=wrap_i64' (by omega) (by omega)
 have tt:(∀i:Nat,i<a.sh.length→True)∧(∀i:Nat,i<a.nu.length→True)∧∀i:Nat,i<a.it.length→True:=⟨fun _ _=>trivial,fun _ _=>trivial,fun _ _=>trivial⟩
 simp only[hw,litA_eq a]
 simp only[strs2,strs3,strsB2,strsB3,ints1,joinOk,join2,join3,true_and]
 have hnu:a.sh.length=0→a.k≠3→a.nu.length=1:=fun h1 h2=>by
  have:=hsc h1
  rw[hno h2] at this
  simpa using this
 have hit:a.sh.length=0→a.k=3→a.it.length=1:=fun h1 h2=>by
  have:=hsc h1
  rw[hbx h2] at this
  simpa using this
 refine⟨⟨fun h=>by rw[h];rfl,fun h=>by rw[beq_eq_false_iff_ne.2 h];rfl⟩,fun ⟨hs,hk⟩=>?_,fun hn1=>⟨⟨fun h=>by rw[h];rfl,fun h=>by rw[beq_eq_false_iff_ne.2 h];rfl⟩,fun ⟨hs,hk⟩=>?_,fun hn2=>⟨fun hs=>?_,fun hs=>?_⟩⟩⟩
 ·have:=hnu (by omega) (by omega)
  exact⟨⟨by omega,by omega⟩,getD_i64 ni,by rw[litK,if_pos (by omega),scalK,if_pos hk]⟩
 ·have:=hnu (by omega) (by omega)
  refine⟨⟨by omega,by omega⟩,⟨by omega,intsP1 _,?_⟩,by rw[litK,if_pos (by omega),scalK,if_neg (by omega),if_pos hk]⟩
  intro c hc
  rw[List.mem_singleton] at hc
  subst hc
  exact hchr hk _ (memI (by omega))
 ·have hk:a.k=3:=by omega
  have h1:=hit (by omega) hk
  have hm:=mem_getD (l:=a.it) (i:=0) (by omega)
  have hl:=mem_sum hm
  refine⟨⟨by omega,by omega⟩,a.it.getD 0 default,⟨rfl,⟨rfl,fun _ _=>rfl⟩,⟨rfl,fun _ _=>rfl⟩,rfl,fun _ _=>rfl⟩,hi _ hm,⟨by simp,?_⟩,?_⟩
  ·simp only[List.length_append,List.length_cons,List.length_nil];omega
  ·rw[litK,if_pos (by omega),scalK,if_neg (by omega),if_neg (by omega)]
   have:(a.it.map litA).getD 0 []=litA (a.it.getD 0 default):=by
    simp[List.getD_eq_getElem?_getD,List.getElem?_map,List.getElem?_eq_getElem (show 0<a.it.length by omega)]
   rw[this];rfl
 ·have hd:=dimsB_len si
  have hfl:=fillL_len a.k
  have hsl:=scalK_len a.k ni (a.it.map litA)
  have hvl:=vecK_len a.k ni (a.it.map litA)
  rw[List.length_map] at hvl
  have len:∀e:List UInt8,e.length≤200000000→[dimsB a.sh,[114,101,115,104,97,112,101],e].length≤140737488355328∧(dimsB a.sh++32::([114,101,115,104,97,112,101]++32::e)).length≤140737488355328:=fun e he=>by
   refine⟨by simp,?_⟩
   simp only[List.length_append,List.length_cons,List.length_nil];omega
  have eqn:∀e:List UInt8,dimsB a.sh++32::([114,101,115,104,97,112,101]++32::e)=dimsB a.sh++reshW++e:=fun e=>by simp[reshW]
  refine⟨⟨fun h=>⟨fun h2=>by rw[h,h2];rfl,fun h2=>by rw[h,beq_eq_false_iff_ne.2 h2];rfl⟩,fun h=>by rw[beq_eq_false_iff_ne.2 h];rfl⟩,fun ⟨h2,h3⟩=>⟨a,⟨rfl,⟨rfl,fun _ _=>rfl⟩,⟨rfl,fun _ _=>rfl⟩,rfl,fun _ _=>rfl⟩,rfl,?_⟩,fun hn=>?_⟩
  ·rw[litK,if_neg (by omega),if_pos ⟨by omega,by rw[List.length_map];omega⟩]
  have hlk:litK a.k a.sh a.nu (a.it.map litA)=dimsB a.sh++reshW++(if a.nu.length+a.it.length=0 then fillL a.k else if a.nu.length+a.it.length=1 then scalK a.k a.nu (a.it.map litA) else vecK a.k a.nu (a.it.map litA)):=by
   rw[litK,if_neg (by omega),if_neg (by rw[List.length_map];omega),List.length_map]
  rw[hlk]
  refine⟨fun hz=>⟨a,⟨rfl,⟨rfl,fun _ _=>rfl⟩,⟨rfl,fun _ _=>rfl⟩,rfl,fun _ _=>rfl⟩,rfl,fillA a.k,⟨rfl,⟨rfl,fun _ _=>rfl⟩,⟨rfl,fun _ _=>rfl⟩,rfl,fun _ _=>rfl⟩,h0 (by omega) (by omega),⟨intsP_isl _,by omega,si⟩,?_,?_⟩,fun hz=>⟨fun h2=>⟨a,⟨rfl,⟨rfl,fun _ _=>rfl⟩,⟨rfl,fun _ _=>rfl⟩,rfl,fun _ _=>rfl⟩,⟨rfl,by omega⟩,atA a 0,⟨rfl,⟨rfl,fun _ _=>rfl⟩,⟨rfl,fun _ _=>rfl⟩,rfl,fun _ _=>rfl⟩,h1 (by omega) (by omega),⟨intsP_isl _,by omega,si⟩,?_,?_⟩,fun h2=>⟨a,⟨rfl,⟨rfl,fun _ _=>rfl⟩,⟨rfl,fun _ _=>rfl⟩,rfl,fun _ _=>rfl⟩,rfl,⟨intsP_isl _,by omega,si⟩,?_,?_⟩⟩⟩
  ·rw[fill_lit kd];exact len _ (by omega)
  ·rw[fill_lit kd,eqn,if_pos (by omega)]
  ·rw[at_lit kd hbx (by omega)];exact len _ (by omega)
  ·rw[at_lit kd hbx (by omega),eqn,if_neg (by omega),if_pos (by omega)]
  ·exact len _ (by omega)
  ·rw[eqn,if_neg (by omega),if_neg (by omega)]
def Lit(a:Arr):Prop:=ACalls Tryz.prog 94 ((sRc Arr.row2 (fun _=>True) (fun b=>.str (litA b))).args a) ⟨[],[]⟩ (SpecR (sRc Arr.row2 (fun _=>True) (fun b=>.str (litA b))) a)
theorem fill_row2(a:Arr):ACalls Tryz.prog 116 [.agg a.row2] ⟨[],[]⟩ (SpecR (sC [.agg a.row2] (.agg (fillA a.k).row1)) ()):=wkRet (fill_ok a.k _ _ _ _ _ _) (fill_wk a.k)
theorem conLf_ok{a:Arr}{q:Arr→Prop}(hq:∀b,q b→Lit b)(hv:∀b∈a.it,Lit b)(ho:LOk a)(hcl:a.nu.length+a.it.length=1→ConOk Tryz.prog (conCl a.it)):ConOk Tryz.prog (conLf a q):=by
 intro k ds S A h
 unfold conLf at h
 split at h
 ·injection h with h;subst h
  exact ConOk.plain (fun b hb=>sRc_row (hq b hb)) rfl rfl
 ·injection h with h;subst h
  refine ConOk.plain (fun b hb=>?_) rfl rfl
  have hb:b=a:=hb
  rw[hb]
  exact (vec_step a ho (conVc_ok hv)).mono fun _ _ ⟨y,q1,q2,q3⟩=>⟨y,q1,q2,q3⟩
 ·injection h with h;subst h
  refine ConOk.plain (fun b hb=>?_) rfl rfl
  have hb:b=a:=hb
  rw[hb]
  exact (fill_row2 a).mono fun _ _ ⟨y,q1,q2,q3⟩=>⟨y,q1,q2,q3⟩
 ·injection h with h;subst h
  refine ConOk.plain (fun b hb=>?_) rfl rfl
  obtain ⟨hb,h1⟩:b=a∧a.nu.length+a.it.length=1:=hb
  rw[hb]
  have hsz:((0:Nat):Int)<sizeR a.k a.nu.length a.it.length:=by
   unfold sizeR
   by_cases h3:a.k=3
   ·rw[if_neg (by omega),if_pos h3]
    have:=ho.bx h3
    rw[this] at h1
    simp at h1
    omega
   ·rw[if_pos (by have:=ho.kd;omega)]
    have:=ho.no h3
    rw[this] at h1
    simp at h1
    omega
  exact (wkRet (at_step a 0 ho.kd hsz (hcl h1)) (at_wk a 0)).mono fun _ _ ⟨y,q1,q2,q3⟩=>⟨y,q1,q2,q3⟩
 ·split at h
  ·injection h with h;subst h
   exact pC_ok fun ⟨h1,h2,h3⟩=>⟨weakL_refl _,sC_weak (isl_weak h1) (sshow_ok _ (by rw[intsD_len];exact h2) h3)⟩
  ·cases h
 ·split at h
  ·injection h with h;subst h
   exact pC_ok fun ⟨h1,h2⟩=>⟨weakL_refl _,sC_weak (us:=[ssl (strsOf _ _) .any]) ⟨ssl_weak h1,trivial⟩ (fjoin_ok _ h2)⟩
  ·cases h
 ·exact conJn_ok _ _ _ _ h
theorem conCl_of{its:List Arr}(h:∀b∈its,(chkA b).1=0):ConOk Tryz.prog (conCl its):=by
 intro k' ds S A hk
 unfold conCl at hk
 split at hk
 ·injection hk with hk;subst hk
  exact ConOk.plain (fun (b:Arr) hb=>(cl_all b (h b hb)).mono fun _ _ ⟨y,q1,q2,q3⟩=>⟨y,q1,q2,q3⟩) rfl rfl
 ·cases hk
theorem lit_sc{a:Arr}(ho:LOk a)(hs:a.sh.length=0)(ih:∀b∈a.it,Lit b)(hv:∀b∈a.it,(chkA b).1=0):Lit a :=
 lit_step a (·∈a.it) ho (fun _ hb=>hb) (fun h=>absurd hs h) (fun h=>absurd hs h) (conLf_ok ih ih ho fun _=>conCl_of hv)
theorem lok_fill1:LOk (.mk 1 [] [0] []):=⟨.inl rfl,by decide,by decide,by decide,by simp[Arr.sh],by simp[Arr.nu,inI64],by simp[Arr.it,sumL],fun h=>absurd h (by decide),fun _=>rfl,fun h=>absurd h (by decide),fun _=>rfl⟩
theorem lit_fill1:Lit (.mk 1 [] [0] []):=lit_sc lok_fill1 rfl (fun b hb=>by cases hb) (fun b hb=>by cases hb)
theorem lok_fill2:LOk (.mk 2 [] [32] []):=⟨.inr (.inl rfl),by decide,by decide,by decide,by simp[Arr.sh],by simp[Arr.nu,inI64],by simp[Arr.it,sumL],by simp[Arr.nu],fun _=>rfl,fun h=>absurd h (by decide),fun _=>rfl⟩
theorem lit_fill2:Lit (.mk 2 [] [32] []):=lit_sc lok_fill2 rfl (fun b hb=>by cases hb) (fun b hb=>by cases hb)
theorem lok_e:LOk (.mk 1 [0] [] []):=⟨.inl rfl,by decide,by decide,by decide,by simp[Arr.sh,inI64],by simp[Arr.nu],by simp[Arr.it,sumL],fun h=>absurd h (by decide),fun _=>rfl,fun h=>absurd h (by decide),fun h=>absurd h (by decide)⟩
theorem lit_e:Lit (.mk 1 [0] [] []):=by
 refine lit_step _ (·=.mk 1 [] [0] []) lok_e (fun b hb=>by cases hb) (fun _ _=>rfl) (fun _ h=>by cases h) ?_
 refine conLf_ok (fun b hb=>?_) (fun b hb=>by cases hb) lok_e (fun h=>by cases h)
 subst hb
 exact lit_fill1
theorem chk_e:(chkA (.mk 1 [0] [] [])).1=0:=by decide
theorem len_e:(litA (.mk 1 [0] [] [])).length≤600:=by
 have:=litK_len 1 (s:=[0]) (n:=[]) (by decide) (by simp[inI64]) (by simp) []
 rw[litA]
 simp only[litsL,sumL,List.length_nil] at this ⊢
 omega
theorem lok_fill3:LOk (.mk 3 [] [] [.mk 1 [0] [] []]):=⟨.inr (.inr rfl),by decide,by decide,by decide,by simp[Arr.sh],by simp[Arr.nu],by have:=len_e;simp only[Arr.it,sumL,List.map_cons,List.map_nil,List.length_cons,List.length_nil];omega,fun h=>absurd h (by decide),fun h=>absurd rfl h,fun _=>rfl,fun _=>rfl⟩
theorem lit_fill3:Lit (.mk 3 [] [] [.mk 1 [0] [] []]):=by
 refine lit_sc lok_fill3 rfl (fun b hb=>?_) (fun b hb=>?_)
 ·have:b=.mk 1 [0] [] []:=List.mem_singleton.1 hb
  subst this;exact lit_e
 ·have:b=.mk 1 [0] [] []:=List.mem_singleton.1 hb
  subst this;exact chk_e
theorem lit_fill{k:Int}(h:k=1∨k=2∨k=3):Lit (fillA k):=by
 rcases h with rfl | rfl | rfl
 ·exact lit_fill1
 ·exact lit_fill2
 ·exact lit_fill3
theorem form_parts{k:Int}{s:List Int}{nn ni:Nat}(h:formS k s nn ni=0):(k≠3→ni=0∧(nn:Int)=sizeS s)∧(k=3→nn=0∧(ni:Int)=sizeS s):=by
 have hk:=form_kind h
 unfold formS at h
 rw[if_pos hk] at h
 by_cases hd:dimsS s≠0
 ·rw[if_pos hd] at h;exact (hd h).elim
 ·rw[if_neg hd] at h
  by_cases hc:((if k=3 then (ni:Int) else nn)≠sizeS s)∨((if k=3 then (nn:Int) else ni)≠0)
  ·rw[if_pos hc] at h;simp at h
  ·have h1:(if k=3 then (ni:Int) else nn)=sizeS s:=Decidable.not_not.1 fun h=>hc (.inl h)
   have h2:(if k=3 then (nn:Int) else ni)=0:=Decidable.not_not.1 fun h=>hc (.inr h)
   refine⟨fun h3=>?_,fun h3=>?_⟩
   ·rw[if_neg h3] at h1 h2
    exact⟨by omega,h1⟩
   ·rw[if_pos h3] at h1 h2
    exact⟨by omega,h1⟩
theorem lok_of{a:Arr}(ho:a.ok)(h:(chkA a).1=0):LOk a:=by
 have hf:=chk_form h
 obtain ⟨p1,p2⟩:=form_parts hf
 obtain ⟨l1,l2,l3,l4,l5⟩:=arr_dims ho h
 refine⟨form_kind hf,l1,l2,l3,l4,l5,items_len ho h,chk_chr h,fun h3=>List.length_eq_zero_iff.1 (p1 h3).1,fun h3=>List.length_eq_zero_iff.1 (p2 h3).1,fun hs=>?_⟩
 have hs:a.sh=[]:=List.length_eq_zero_iff.1 hs
 have h1:sizeS a.sh=1:=by rw[hs];rfl
 by_cases h3:a.k=3
 ·have:=p2 h3;omega
 ·have:=p1 h3;omega
theorem lok_at{a:Arr}(lo:LOk a)(h1:a.nu.length+a.it.length=1):LOk (atA a 0):=by
 unfold atA
 by_cases h3:a.k=3
 ·rw[if_pos h3]
  have h2:a.it.length=1:=by have:=lo.bx h3;rw[this] at h1;simpa using h1
  have hm:=mem_getD (l:=a.it) (i:=0) (by omega)
  have hl:=mem_sum hm
  have hs:=lo.sum
  exact⟨.inr (.inr rfl),by simp[Arr.sh],by simp[Arr.nu],by simp[Arr.it],by simp[Arr.sh],by simp[Arr.nu],by show 7*1+((litA (a.it.getD 0 default)).length+0)≤_;omega,fun h=>absurd h (by show ¬(3:Int)=2;decide),fun h=>absurd rfl h,fun _=>rfl,fun _=>rfl⟩
 ·rw[if_neg h3]
  have h2:a.nu.length=1:=by have:=lo.no h3;rw[this] at h1;simpa using h1
  have hm:a.nu.getD 0 0∈a.nu:=memI (by omega)
  refine⟨lo.kd,by simp[Arr.sh],by simp[Arr.nu],by simp[Arr.it],by simp[Arr.sh],?_,by simp[Arr.it,sumL],?_,fun _=>rfl,fun h=>absurd h h3,fun _=>rfl⟩
  ·intro z hz
   have:z=a.nu.getD 0 0:=List.mem_singleton.1 hz
   rw[this];exact lo.ni _ hm
  ·intro h z hz
   have:z=a.nu.getD 0 0:=List.mem_singleton.1 hz
   rw[this];exact lo.chr h _ hm
theorem lit_all:∀(a:Arr),a.ok→(chkA a).1=0→Lit a
 |.mk k s n is,ho,h=>by
  have lo:=lok_of ho h
  have hv:=(chkA_zero h).2.2.2
  have hok:∀b∈is,b.ok:=by
   simp only[Arr.ok] at ho
   exact (okL_iff _).1 ho.2.2.2.2.2.2
  have ih:∀b∈is,Lit b:=fun b hb=>lit_all b (hok b hb) (hv b hb)
  refine lit_step (.mk k s n is) (fun b=>b∈is∨b=fillA k∨(b=atA (.mk k s n is) 0∧n.length+is.length=1)) lo (fun b hb=>.inl hb) (fun _ _=>.inr (.inl rfl)) (fun _ h1=>.inr (.inr ⟨rfl,h1⟩)) (conLf_ok (fun b hb=>?_) ih lo fun _=>conCl_ok h)
  rcases hb with hb | hb | ⟨hb,h1⟩
  ·exact ih b hb
  ·rw[hb];exact lit_fill lo.kd
  ·rw[hb]
   have hsub:∀c∈(atA (.mk k s n is) 0).it,c∈is:=by
    intro c hc
    unfold atA at hc
    by_cases h3:(Arr.mk k s n is).k=3
    ·rw[if_pos h3] at hc
     have h2:is.length=1:=by
      have h4:n=[]:=lo.bx h3
      rw[h4] at h1;simpa using h1
     have:c=is.getD 0 default:=List.mem_singleton.1 hc
     rw[this];exact mem_getD (by omega)
    ·rw[if_neg h3] at hc;cases hc
   refine lit_sc (lok_at lo h1) ?_ (fun c hc=>ih c (hsub c hc)) (fun c hc=>hv c (hsub c hc))
   unfold atA
   split<;>rfl
termination_by a=>SizeOf.sizeOf a
decreasing_by
 have:=List.sizeOf_lt_of_mem hb
 simp;omega
def litF(a:Arr):List UInt8:=if (chkA a).1=0 then litA a else []
def conLt(a:Arr):Con:=fun k _ _=>match k with
 |93=>some (sRc Arr.row1 (fun b=>b=a) (fun b=>.int .i64 (chkA b).1))
 |94=>some (sRc Arr.row1 (fun b=>b=a∧(chkA a).1=0) (fun b=>.str (litA b)))
 |_=>none
theorem conLt_ok{a:Arr}(ho:a.ok):ConOk Tryz.prog (conLt a):=by
 intro k ds S A h
 unfold conLt at h
 split at h
 ·injection h with h;subst h
  refine ConOk.plain (fun b hb=>?_) rfl rfl
  have hb:b=a:=hb
  rw[hb]
  exact (ri_ok a ho).mono fun _ _ ⟨y,q1,q2,q3⟩=>⟨y,q1,q2,q3⟩
 ·injection h with h;subst h
  refine ConOk.plain (fun b hb=>?_) rfl rfl
  obtain ⟨hb,h1⟩:b=a∧(chkA a).1=0:=hb
  rw[hb]
  exact sRc_row (lit_all a ho h1)
 ·cases h
noncomputable def Elt(a:Arr):Senv:=EC (conLt a) 8 3 [5] (fun _=>([],[]))
def QqT(a:Arr):Nat:=LN (Arr.sh a)
def QAU(a:Arr)(b:Nat):List D:=[ZI (GI (Arr.sh a) b)]
def QqU(a:Arr):Nat:=LN (Arr.nu a)
def QAV(a:Arr)(b:Nat):List D:=[ZI (GI (Arr.nu a) b)]
def QqV(a:Arr):Nat:=LN (Arr.it a)
def QAW(a:Arr)(b:Nat):List D:=Arr.row (GA (Arr.it a) b)
def QAX(a b:Arr):Prop:=(Arr.k a=Arr.k b∧(QqT a=QqT b∧(∀(i:Nat),i<QqT a→QAU a i=QAU b i)∧True)∧(QqU a=QqU b∧(∀(i:Nat),i<QqU a→QAV a i=QAV b i)∧True)∧(QqV a=QqV b∧(∀(i:Nat),i<QqV a→QAW a i=QAW b i)∧True)∧True)∧True
theorem litF_ok(a : Arr)(ho : a.ok) :
  ACalls Tryz.prog 63 ((sRc Arr.row1 (fun _=>True) (fun b=>.str (litF b))).args a) ⟨[],[]⟩ (SpecR (sRc Arr.row1 (fun _=>True) (fun b=>.str (litF b))) a):=by
 refine con_of (A:=sRc Arr.row1 (fun _=>True) (fun b=>.str (litF b))) (x:=a) (E:=Elt a) (eOk (conLt_ok ho) rfl) Tryz.func63 rfl (by kernel_rfl) rfl (by simp[sRc,Elt,EC,E0]) ?_
 refine vc_eq (T :=
  ∀(x:Nat),True→SM x∧∃(x_1:Arr),QAX a x_1∧(True∧True)∧x_1=a∧∀(y:Unit),True→ifB (Prod.fst (chkA x_1) != Z0) (RT (eqOf (List UInt8) [] (litF a))) (SM x∧∃(x:Arr),QAX a x∧(True∧True)∧(x=a∧Prod.fst (chkA a)=Z0)∧∀(y:Unit),True→RT (litA x=litF a))) (by kernel_rfl) ?_
 delta DA GA GI LN SM Z0 ZI QqT QAU QqU QAV QqV QAW QAX RT
 have da:(default:Arr)=Arr.mk 0 [] [] []:=rfl
 simp only[← da,ifB_iff,true_and,and_true,bne_iff_ne,ne_eq,exists_const,forall_const]
 refine⟨a,⟨rfl,⟨rfl,fun _ _=>rfl⟩,⟨rfl,fun _ _=>rfl⟩,rfl,fun _ _=>rfl⟩,rfl,fun h=>by rw[litF,if_neg h],fun h=>?_⟩
 have h:(chkA a).1=0:=by simpa using h
 exact⟨a,⟨rfl,⟨rfl,fun _ _=>rfl⟩,⟨rfl,fun _ _=>rfl⟩,rfl,fun _ _=>rfl⟩,⟨rfl,h⟩,by rw[litF,if_pos h]⟩
def wrapT(x:List UInt8):List UInt8:=[40,32]++x++[32,41]
def withT(ks:List Int)(k:Int)(x:List UInt8):List UInt8:=if ks.contains k=true then wrapT x else x
def kAt(l:List Nd)(i:Nat):Int:=(l.getD i default).kd
def zipT(ks:List Int):List Nd→List (List UInt8)→List (List UInt8)
 |n::l,x::r=>withT ks n.kd x::zipT ks l r
 |_,_=>[]
mutual
def showN:Nd→List UInt8
 |.mk kd _ _ tx pr op va ki bo _ _ _ =>
  if kd=1 then litF va
  else if kd=2 then tx
  else if kd=6 then [88]
  else if kd=7 then [89]
  else if kd=8 then [97,114,103]
  else if kd=11 then [115,101,108,102]
  else if kd=12 then [70]
  else if kd=13 then [71]
  else if kd=9 then primT pr
  else if kd=17 then opT op
  else if kd=3 then Lib.join (zipT [3,4,5] ki (showL ki)) [32]
  else if kd=4 then withT [16] (kAt ki 0) ((showL ki).getD 0 [])++[32]++(showL ki).getD 1 []
  else if kd=5 then withT [4,5] (kAt ki 1) ((showL ki).getD 1 [])++[32]++withT [16] (kAt ki 0) ((showL ki).getD 0 [])++[32]++(showL ki).getD 2 []
  else if kd=16 then Lib.join (zipT [4,5,16] ki (showL ki)) [32]
  else if kd=14 then withT [16] (kAt ki 1) ((showL ki).getD 1 [])++[32]++(showL ki).getD 0 []
  else if kd=15 then withT [16] (kAt ki 1) ((showL ki).getD 1 [])++[32]++(showL ki).getD 0 []++[32]++withT [3,4,5,16,14,15] (kAt ki 2) ((showL ki).getD 2 [])
  else [123,32]++Lib.join (showS bo) [32,59,32]++[32,125]
def showL:List Nd→List (List UInt8)
 | []=>[]
 |x::r=>showN x::showL r
def showS:List Sm→List (List UInt8)
 | []=>[]
 |x::r=>showM x::showS r
def showM:Sm→List UInt8
 |.mk kd _ nm _ te nd=>if kd=2 then nm++[32,60,45,32]++showN nd else if kd=3 then showN te++[32,58,32]++showN nd else showN nd
end
theorem showL_map:∀l:List Nd,showL l=l.map showN
 | []=>by simp only[showL,List.map_nil]
 |x::r=>by simp only[showL,List.map_cons,showL_map r]
theorem showS_map:∀l:List Sm,showS l=l.map showM
 | []=>by simp only[showS,List.map_nil]
 |x::r=>by simp only[showS,List.map_cons,showS_map r]
def withN(ks:List Int)(n:Nd):List UInt8:=withT ks n.kd (showN n)
theorem zipT_map(ks:List Int):∀l:List Nd,zipT ks l (showL l)=l.map (withN ks)
 | []=>by simp only[zipT,List.map_nil]
 |x::r=>by simp only[showL,zipT,List.map_cons,zipT_map ks r];rfl
theorem showL_getD{l:List Nd}{i:Nat}(h:i<l.length):(showL l).getD i []=showN (l.getD i default):=by
 rw[showL_map]
 simp[List.getD_eq_getElem?_getD,h]
theorem showM_eq(s:Sm):showM s=if s.kd=2 then s.nm++[32,60,45,32]++showN s.nd else if s.kd=3 then showN s.te++[32,58,32]++showN s.nd else showN s.nd:=by
 cases s
 simp only[showM]
 rfl
def showNd(n:Nd):List UInt8:=if checkN n=0 then showN n else []
mutual
/-- A tree without what comparisons do not see. -/
def stN:Nd→Nd
 |.mk kd _ cl tx pr op va ki bo _ _ _=>.mk kd 0 cl tx pr op va (stL ki) (stB bo) 0 0 0
def stL:List Nd→List Nd
 | []=>[]
 |x::r=>stN x::stL r
def stB:List Sm→List Sm
 | []=>[]
 |x::r=>stM x::stB r
def stM:Sm→Sm
 |.mk kd _ nm _ te nd=>.mk kd 0 nm 0 (stN te) (stN nd)
end
theorem stL_map:∀l:List Nd,stL l=l.map stN
 | []=>by simp only[stL,List.map_nil]
 |x::r=>by simp only[stL,List.map_cons,stL_map r]
theorem stB_map:∀l:List Sm,stB l=l.map stM
 | []=>by simp only[stB,List.map_nil]
 |x::r=>by simp only[stB,List.map_cons,stB_map r]
theorem stN_iff(a b:Nd):stN a=stN b↔a.kd=b.kd∧a.cl=b.cl∧a.tx=b.tx∧a.pr=b.pr∧a.op=b.op∧a.va=b.va∧a.ki.map stN=b.ki.map stN∧a.bo.map stM=b.bo.map stM:=by
 cases a;cases b
 simp only[stN,stL_map,stB_map,Nd.mk.injEq,Nd.kd,Nd.cl,Nd.tx,Nd.pr,Nd.op,Nd.va,Nd.ki,Nd.bo,true_and,and_true]
theorem stM_iff(a b:Sm):stM a=stM b↔a.kd=b.kd∧a.nm=b.nm∧stN a.te=stN b.te∧stN a.nd=stN b.nd:=by
 cases a;cases b
 simp only[stM,Sm.mk.injEq,Sm.kd,Sm.nm,Sm.te,Sm.nd,true_and]
noncomputable def conEen(l m:List Nd):Con:=fun k ds S=>match k with
 |18=>some (pE (β:=Nd×Nd) ds S (fun x=>.bool (sameT (stN x.1) (stN x.2))) (fun x=>wkL ds [.agg x.1.row1,.agg x.2.row1]∧x.1∈l∧x.2∈m))
 |_=>none
noncomputable def EEen(l m:List Nd):Senv:={ EC (conEen l m) 32 3 [6,7,8,9,14,15,16,17,18,30] (fun _=>([],[])) with
 ann:=fun q _ S=>match q with
  |0=>some { slots:=[17],keep:=[0,1,2,15,16],α:=Nat,st:=fun i=>([.int .i64 i],S),inv:=fun i=>i≤l.length∧∀j,j<i→stN (l.getD j default)=stN (m.getD j default),mu:=fun i=>l.length-i }
  |_=>none }
def QAY(a b:List Nd):Prop:=RT (false=sameT (List.map stN a) (List.map stN b))
def Qmo:Arr:=DA
def Qg5:Nd:=Nd.mk Z0 Z0 Z0 [] Z0 Z0 Qmo [] [] Z0 Z0 Z0
def Yh(a:List Nd)(b:Nat):Nd:=List.getD a b Qg5
def QAZ(a:List Nd)(b:Nat):Nd:=stN (Yh a b)
def QqW(a:Nat)(b c:List Nd):Prop:=a≤LN b∧∀(j:Nat),j<a→QAZ b j=QAZ c j
def Hm(a:List Nd)(b:Nat):Nd:=List.getD a (Int.toNat (↑b:Int)) Qg5
def Qmp(a:List Nd)(b:Nat):Arr:=Nd.va (Hm a b)
def QKx(a:List Nd)(b:Nat):List Int:=Arr.sh (Qmp a b)
def QKy(a:List Nd)(b:Nat):List Int:=Arr.nu (Qmp a b)
def QA0(a:List Nd)(b:Nat):List Arr:=Arr.it (Qmp a b)
def QA1(a:List Nd)(b:Nat):List Nd:=Nd.ki (Hm a b)
def QA2(a:List Nd)(b:Nat):List Sm:=Nd.bo (Hm a b)
def QqX:Sm:=Sm.mk Z0 Z0 [] Z0 Qg5 Qg5
def QA3(a:List Nd)(b:Nat):D:=D.agg [ZI (Nd.kd (Hm a b)),ZI (Nd.at_ (Hm a b)),ZI (Nd.cl (Hm a b)),D.str (Nd.tx (Hm a b)),ZI (Nd.pr (Hm a b)),ZI (Nd.op (Hm a b)),ZI (Arr.k (Qmp a b)),SI (QKx a b),SI (QKy a b),D.sl N4 (LN (QA0 a b)) (fun (i:Nat)=>Arr.row (List.getD (QA0 a b) i Qmo)) Mode.any,D.sl (15:Nat) (LN (QA1 a b)) (fun (i:Nat)=>Nd.row (List.getD (QA1 a b) i Qg5)) Mode.any,D.sl (34:Nat) (LN (QA2 a b)) (fun (i:Nat)=>Sm.row (List.getD (QA2 a b) i QqX)) Mode.any,ZI (Nd.de (Hm a b)),ZI (Nd.sl (Hm a b)),ZI (Nd.ss (Hm a b))]
def Qmq(a:Nd):Arr:=Nd.va a
def QKz(a:Nd):List Int:=Arr.sh (Qmq a)
def QKA(a:Nd):List Int:=Arr.nu (Qmq a)
def QA4(a:Nd):List Arr:=Arr.it (Qmq a)
def QA5(a:Nd):D:=D.agg [ZI (Nd.kd a),ZI (Nd.at_ a),ZI (Nd.cl a),D.str (Nd.tx a),ZI (Nd.pr a),ZI (Nd.op a),ZI (Arr.k (Qmq a)),SI (QKz a),SI (QKA a),D.sl N4 (LN (QA4 a)) (fun (i:Nat)=>Arr.row (List.getD (QA4 a) i Qmo)) Mode.any,D.sl (15:Nat) (LN (Nd.ki a)) (fun (i:Nat)=>Nd.row (List.getD (Nd.ki a) i Qg5)) Mode.any,D.sl (34:Nat) (LN (Nd.bo a)) (fun (i:Nat)=>Sm.row (List.getD (Nd.bo a) i QqX)) Mode.any,ZI (Nd.de a),ZI (Nd.sl a),ZI (Nd.ss a)]
def Qmr(a:List Nd)(b:Nat):Arr:=Nd.va (Yh a b)
def QKB(a:List Nd)(b:Nat):List Int:=Arr.sh (Qmr a b)
def QKC(a:List Nd)(b:Nat):List Int:=Arr.nu (Qmr a b)
def QA6(a:List Nd)(b:Nat):List Arr:=Arr.it (Qmr a b)
def QA7(a:List Nd)(b:Nat):List Nd:=Nd.ki (Yh a b)
def QA8(a:List Nd)(b:Nat):List Sm:=Nd.bo (Yh a b)
def QKD(a:List Nd):D:=D.sl (15:Nat) (LN a) (fun (i:Nat)=>[ZI (Nd.kd (Yh a i)),ZI (Nd.at_ (Yh a i)),ZI (Nd.cl (Yh a i)),D.str (Nd.tx (Yh a i)),ZI (Nd.pr (Yh a i)),ZI (Nd.op (Yh a i)),ZI (Arr.k (Qmr a i)),SI (QKB a i),SI (QKC a i),D.sl N4 (LN (QA6 a i)) (fun (i_1:Nat)=>Arr.row (List.getD (QA6 a i) i_1 Qmo)) Mode.any,D.sl (15:Nat) (LN (QA7 a i)) (fun (i_1:Nat)=>Nd.row (List.getD (QA7 a i) i_1 Qg5)) Mode.any,D.sl (34:Nat) (LN (QA8 a i)) (fun (i_1:Nat)=>Sm.row (List.getD (QA8 a i) i_1 QqX)) Mode.any,ZI (Nd.de (Yh a i)),ZI (Nd.sl (Yh a i)),ZI (Nd.ss (Yh a i))]) Mode.any
def QqY(a:List Nd):Prop:=SM (QKD a)
theorem Een_ok(l m : List Nd)(hl : l.length≤maxLen)(hm : m.length≤maxLen)(h : ∀x∈l, ∀y∈m, CD 18 [.agg x.row1, .agg y.row1] (.bool (sameT (stN x) (stN y)))) :
  CD 41 [gsl 15 Nd.row1 l,gsl 15 Nd.row1 m,.fn (.func 18) [] []] (.bool (sameT (l.map stN) (m.map stN))):=by
 refine con_of (A:=sC _ _) (x:=()) (E:=EEen l m) (eOk ?_ rfl) Tryz.func41 rfl (by kernel_rfl) rfl (by simp[sC,EEen,EC,E0]) ?_
 ·intro k ds S A hh
  unfold conEen at hh
  split at hh
  ·injection hh with hh;subst hh
   exact pS_ok fun x ⟨e,h1,h2⟩=>CD.at_ (CD.wk (h _ h1 _ h2) e) _
  ·cases hh
 refine vc_eq (T :=
  ifB ((LI l) != (LI m)) (QAY l m) ((∃(x:Nat),QqW x l m∧(Z0=(↑x:Int)∧True)∧True∧True)∧∀(x:Nat),QqW x l m→ifB (decide ((↑x:Int)<(LI l))) (side (Z0≤(↑x:Int)∧(↑x:Int)<(LI l)) (∀(x_1:Nat),True→SM x_1∧side (Z0≤(↑x:Int)∧(↑x:Int)<(LI m)) (∀(x_2:Nat),x_1≠x_2∧True→SM x_2∧SM x_1∧SM x_2∧∃(x_3:Nd×Nd),(wkL [QA3 l x,QA3 m x] [QA5 x_3.1,QA5 x_3.2]∧x_3.1∈l∧x_3.2∈m)∧∀(y:Unit),True→ifB (!sameT (stN x_3.1) (stN x_3.2)) (QAY l m) ((QqY l∧QqY m∧SM (D.fn (Fn.func (18:Nat)) [] [])∧QqY l∧SM (ZI (LI l))∧True)∧∃(y:Nat),QqW y l m∧LN l-y<LN l-x∧(IntKind.wrap IntKind.i64 ((↑x:Int)+Z1)=(↑y:Int)∧True)∧True∧True)))) (RT (true=sameT (List.map stN l) (List.map stN m))))) (by kernel_rfl) ?_
 delta DA GI LI LN N1 N4 SI SM Z0 Z1 ZI QAY Qmo QA0 QA1 QA2 QqX QA3 Qmq QKz QKA QA4 QA5 Qg5 Qmr QKB QKC QA6 QA7 QA8 QKD QqY Yh QAZ QqW Hm Qmp QKx QKy RT
 try simp only[← dm]
 try simp only[← dn]
 simp only[eq_self,ne_eq,implies_true,weakL_refl,Int.toNat_natCast,ifB_iff,side_iff,decide_eq_true_eq,decide_eq_false_iff_not,true_and,and_true,beq_iff_eq,bne_iff_ne,bne_eq_false_iff_eq,beq_eq_false_iff_ne,Bool.not_eq_true',Bool.not_eq_false',exists_const,forall_const,Prod.exists]
 simp only[maxLen] at hl hm
 have gm:∀ {i:Nat},i<l.length→i<m.length→l.getD i default∈l∧m.getD i default∈m:=fun h1 h2=>⟨by rw[List.getD_eq_getElem?_getD,List.getElem?_eq_getElem h1];exact List.getElem_mem h1,by rw[List.getD_eq_getElem?_getD,List.getElem?_eq_getElem h2];exact List.getElem_mem h2⟩
 have gmap:∀ {l:List Nd} {i:Nat},i<l.length→(l.map stN).getD i (stN default)=stN (l.getD i default):=fun h=>by simp[List.getD_eq_getElem?_getD,h]
 refine⟨fun h=>sameT_no fun e=>h (by have:=congrArg List.length e;simp only[List.length_map] at this;omega),fun he=>⟨⟨0,⟨Nat.zero_le _,fun j hj=>absurd hj (by omega)⟩,rfl⟩,fun i ⟨i1,hi⟩=>⟨fun hlt=>⟨⟨by omega,hlt⟩,fun _=>⟨⟨by omega,by omega⟩,fun _ _=>⟨l.getD i default,m.getD i default,⟨wkL_refl _,gm (by omega) (by omega)⟩,fun hn=>sameT_no fun e=>?_,fun hs=>⟨i+1,⟨by omega,fun j hj=>?_⟩,by omega,wrap_i64' (by omega) (by omega)⟩⟩⟩⟩,fun hge=>sameT_yes ?_⟩⟩⟩
 ·have e2:stN (l.getD i default)=stN (m.getD i default):=by
   rw[← gmap (by omega),← gmap (by omega),e]
  rw[e2,sameT_iff.2 rfl] at hn;cases hn
 ·by_cases q:j=i
  ·rw[q];exact sameT_iff.1 hs
  ·exact hi j (by omega)
 ·refine eq_getD (stN default) (by simp;omega) fun j hj=>?_
  have hj:j<l.length:=by simpa using hj
  rw[gmap hj,gmap (by omega)]
  exact hi j (by omega)
noncomputable def conEes(l m:List Sm):Con:=fun k ds S=>match k with
 |39=>some (pE (β:=Sm×Sm) ds S (fun x=>.bool (sameT (stM x.1) (stM x.2))) (fun x=>wkL ds [.agg x.1.row1,.agg x.2.row1]∧x.1∈l∧x.2∈m))
 |_=>none
noncomputable def EEes(l m:List Sm):Senv:={ EC (conEes l m) 32 3 [6,7,8,9,14,15,16,17,18,30] (fun _=>([],[])) with
 ann:=fun q _ S=>match q with
  |0=>some { slots:=[17],keep:=[0,1,2,15,16],α:=Nat,st:=fun i=>([.int .i64 i],S),inv:=fun i=>i≤l.length∧∀j,j<i→stM (l.getD j default)=stM (m.getD j default),mu:=fun i=>l.length-i }
  |_=>none }
def QA9(a b:List Sm):Prop:=RT (false=sameT (List.map stM a) (List.map stM b))
def Qg6:Arr:=DA
def QgH:Nd:=Nd.mk Z0 Z0 Z0 [] Z0 Z0 Qg6 [] [] Z0 Z0 Z0
def QgI:Sm:=Sm.mk Z0 Z0 [] Z0 QgH QgH
def Qg7(a:List Sm)(b:Nat):Sm:=List.getD a b QgI
def QBa(a:List Sm)(b:Nat):Sm:=stM (Qg7 a b)
def QqZ(a:Nat)(b c:List Sm):Prop:=a≤LN b∧∀(j:Nat),j<a→QBa b j=QBa c j
def QiW(a:List Sm)(b:Nat):Sm:=List.getD a (Int.toNat (↑b:Int)) QgI
def Hn(a:List Sm)(b:Nat):Nd:=Sm.te (QiW a b)
def Qms(a:List Sm)(b:Nat):Arr:=Nd.va (Hn a b)
def QKE(a:List Sm)(b:Nat):List Int:=Arr.sh (Qms a b)
def QKF(a:List Sm)(b:Nat):List Int:=Arr.nu (Qms a b)
def QBb(a:List Sm)(b:Nat):List Arr:=Arr.it (Qms a b)
def QBc(a:List Sm)(b:Nat):List Nd:=Nd.ki (Hn a b)
def QBd(a:List Sm)(b:Nat):List Sm:=Nd.bo (Hn a b)
def Ho(a:List Sm)(b:Nat):Nd:=Sm.nd (QiW a b)
def Qmt(a:List Sm)(b:Nat):Arr:=Nd.va (Ho a b)
def QKG(a:List Sm)(b:Nat):List Int:=Arr.sh (Qmt a b)
def QKH(a:List Sm)(b:Nat):List Int:=Arr.nu (Qmt a b)
def QBe(a:List Sm)(b:Nat):List Arr:=Arr.it (Qmt a b)
def QBf(a:List Sm)(b:Nat):List Nd:=Nd.ki (Ho a b)
def QBg(a:List Sm)(b:Nat):List Sm:=Nd.bo (Ho a b)
def QBh(a:List Sm)(b:Nat):D:=D.agg [ZI (Sm.kd (QiW a b)),ZI (Sm.at_ (QiW a b)),D.str (Sm.nm (QiW a b)),ZI (Sm.sl (QiW a b)),ZI (Nd.kd (Hn a b)),ZI (Nd.at_ (Hn a b)),ZI (Nd.cl (Hn a b)),D.str (Nd.tx (Hn a b)),ZI (Nd.pr (Hn a b)),ZI (Nd.op (Hn a b)),ZI (Arr.k (Qms a b)),SI (QKE a b),SI (QKF a b),D.sl N4 (LN (QBb a b)) (fun (i:Nat)=>Arr.row (List.getD (QBb a b) i Qg6)) Mode.any,D.sl (15:Nat) (LN (QBc a b)) (fun (i:Nat)=>Nd.row (List.getD (QBc a b) i QgH)) Mode.any,D.sl (34:Nat) (LN (QBd a b)) (fun (i:Nat)=>Sm.row (List.getD (QBd a b) i QgI)) Mode.any,ZI (Nd.de (Hn a b)),ZI (Nd.sl (Hn a b)),ZI (Nd.ss (Hn a b)),ZI (Nd.kd (Ho a b)),ZI (Nd.at_ (Ho a b)),ZI (Nd.cl (Ho a b)),D.str (Nd.tx (Ho a b)),ZI (Nd.pr (Ho a b)),ZI (Nd.op (Ho a b)),ZI (Arr.k (Qmt a b)),SI (QKG a b),SI (QKH a b),D.sl N4 (LN (QBe a b)) (fun (i:Nat)=>Arr.row (List.getD (QBe a b) i Qg6)) Mode.any,D.sl (15:Nat) (LN (QBf a b)) (fun (i:Nat)=>Nd.row (List.getD (QBf a b) i QgH)) Mode.any,D.sl (34:Nat) (LN (QBg a b)) (fun (i:Nat)=>Sm.row (List.getD (QBg a b) i QgI)) Mode.any,ZI (Nd.de (Ho a b)),ZI (Nd.sl (Ho a b)),ZI (Nd.ss (Ho a b))]
def Hp(a:Sm):Nd:=Sm.te a
def Qmu(a:Sm):Arr:=Nd.va (Hp a)
def QKI(a:Sm):List Int:=Arr.sh (Qmu a)
def QKJ(a:Sm):List Int:=Arr.nu (Qmu a)
def QBi(a:Sm):List Arr:=Arr.it (Qmu a)
def QBj(a:Sm):List Nd:=Nd.ki (Hp a)
def QBk(a:Sm):List Sm:=Nd.bo (Hp a)
def Hq(a:Sm):Nd:=Sm.nd a
def Qmv(a:Sm):Arr:=Nd.va (Hq a)
def QKK(a:Sm):List Int:=Arr.sh (Qmv a)
def QKL(a:Sm):List Int:=Arr.nu (Qmv a)
def QBl(a:Sm):List Arr:=Arr.it (Qmv a)
def QBm(a:Sm):List Nd:=Nd.ki (Hq a)
def QBn(a:Sm):List Sm:=Nd.bo (Hq a)
def QBo(a:Sm):D:=D.agg [ZI (Sm.kd a),ZI (Sm.at_ a),D.str (Sm.nm a),ZI (Sm.sl a),ZI (Nd.kd (Hp a)),ZI (Nd.at_ (Hp a)),ZI (Nd.cl (Hp a)),D.str (Nd.tx (Hp a)),ZI (Nd.pr (Hp a)),ZI (Nd.op (Hp a)),ZI (Arr.k (Qmu a)),SI (QKI a),SI (QKJ a),D.sl N4 (LN (QBi a)) (fun (i:Nat)=>Arr.row (List.getD (QBi a) i Qg6)) Mode.any,D.sl (15:Nat) (LN (QBj a)) (fun (i:Nat)=>Nd.row (List.getD (QBj a) i QgH)) Mode.any,D.sl (34:Nat) (LN (QBk a)) (fun (i:Nat)=>Sm.row (List.getD (QBk a) i QgI)) Mode.any,ZI (Nd.de (Hp a)),ZI (Nd.sl (Hp a)),ZI (Nd.ss (Hp a)),ZI (Nd.kd (Hq a)),ZI (Nd.at_ (Hq a)),ZI (Nd.cl (Hq a)),D.str (Nd.tx (Hq a)),ZI (Nd.pr (Hq a)),ZI (Nd.op (Hq a)),ZI (Arr.k (Qmv a)),SI (QKK a),SI (QKL a),D.sl N4 (LN (QBl a)) (fun (i:Nat)=>Arr.row (List.getD (QBl a) i Qg6)) Mode.any,D.sl (15:Nat) (LN (QBm a)) (fun (i:Nat)=>Nd.row (List.getD (QBm a) i QgH)) Mode.any,D.sl (34:Nat) (LN (QBn a)) (fun (i:Nat)=>Sm.row (List.getD (QBn a) i QgI)) Mode.any,ZI (Nd.de (Hq a)),ZI (Nd.sl (Hq a)),ZI (Nd.ss (Hq a))]
def Hr(a:List Sm)(b:Nat):Nd:=Sm.te (Qg7 a b)
def Qmw(a:List Sm)(b:Nat):Arr:=Nd.va (Hr a b)
def QKM(a:List Sm)(b:Nat):List Int:=Arr.sh (Qmw a b)
def QKN(a:List Sm)(b:Nat):List Int:=Arr.nu (Qmw a b)
def QBp(a:List Sm)(b:Nat):List Arr:=Arr.it (Qmw a b)
def QBq(a:List Sm)(b:Nat):List Nd:=Nd.ki (Hr a b)
def QBr(a:List Sm)(b:Nat):List Sm:=Nd.bo (Hr a b)
def Hs(a:List Sm)(b:Nat):Nd:=Sm.nd (Qg7 a b)
def Qmx(a:List Sm)(b:Nat):Arr:=Nd.va (Hs a b)
def QKO(a:List Sm)(b:Nat):List Int:=Arr.sh (Qmx a b)
def QKP(a:List Sm)(b:Nat):List Int:=Arr.nu (Qmx a b)
def QBs(a:List Sm)(b:Nat):List Arr:=Arr.it (Qmx a b)
def QBt(a:List Sm)(b:Nat):List Nd:=Nd.ki (Hs a b)
def QBu(a:List Sm)(b:Nat):List Sm:=Nd.bo (Hs a b)
def QKQ(a:List Sm):D:=D.sl (34:Nat) (LN a) (fun (i:Nat)=>[ZI (Sm.kd (Qg7 a i)),ZI (Sm.at_ (Qg7 a i)),D.str (Sm.nm (Qg7 a i)),ZI (Sm.sl (Qg7 a i)),ZI (Nd.kd (Hr a i)),ZI (Nd.at_ (Hr a i)),ZI (Nd.cl (Hr a i)),D.str (Nd.tx (Hr a i)),ZI (Nd.pr (Hr a i)),ZI (Nd.op (Hr a i)),ZI (Arr.k (Qmw a i)),SI (QKM a i),SI (QKN a i),D.sl N4 (LN (QBp a i)) (fun (i_1:Nat)=>Arr.row (List.getD (QBp a i) i_1 Qg6)) Mode.any,D.sl (15:Nat) (LN (QBq a i)) (fun (i_1:Nat)=>Nd.row (List.getD (QBq a i) i_1 QgH)) Mode.any,D.sl (34:Nat) (LN (QBr a i)) (fun (i_1:Nat)=>Sm.row (List.getD (QBr a i) i_1 QgI)) Mode.any,ZI (Nd.de (Hr a i)),ZI (Nd.sl (Hr a i)),ZI (Nd.ss (Hr a i)),ZI (Nd.kd (Hs a i)),ZI (Nd.at_ (Hs a i)),ZI (Nd.cl (Hs a i)),D.str (Nd.tx (Hs a i)),ZI (Nd.pr (Hs a i)),ZI (Nd.op (Hs a i)),ZI (Arr.k (Qmx a i)),SI (QKO a i),SI (QKP a i),D.sl N4 (LN (QBs a i)) (fun (i_1:Nat)=>Arr.row (List.getD (QBs a i) i_1 Qg6)) Mode.any,D.sl (15:Nat) (LN (QBt a i)) (fun (i_1:Nat)=>Nd.row (List.getD (QBt a i) i_1 QgH)) Mode.any,D.sl (34:Nat) (LN (QBu a i)) (fun (i_1:Nat)=>Sm.row (List.getD (QBu a i) i_1 QgI)) Mode.any,ZI (Nd.de (Hs a i)),ZI (Nd.sl (Hs a i)),ZI (Nd.ss (Hs a i))]) Mode.any
def Qq0(a:List Sm):Prop:=SM (QKQ a)
theorem Ees_ok(l m : List Sm)(hl : l.length≤maxLen)(hm : m.length≤maxLen)(h : ∀x∈l, ∀y∈m, CD 39 [.agg x.row1, .agg y.row1] (.bool (sameT (stM x) (stM y)))) :
  CD 38 [gsl 34 Sm.row1 l,gsl 34 Sm.row1 m,.fn (.func 39) [] []] (.bool (sameT (l.map stM) (m.map stM))):=by
 refine con_of (A:=sC _ _) (x:=()) (E:=EEes l m) (eOk ?_ rfl) Tryz.func38 rfl (by kernel_rfl) rfl (by simp[sC,EEes,EC,E0]) ?_
 ·intro k ds S A hh
  unfold conEes at hh
  split at hh
  ·injection hh with hh;subst hh
   exact pS_ok fun x ⟨e,h1,h2⟩=>CD.at_ (CD.wk (h _ h1 _ h2) e) _
  ·cases hh
 refine vc_eq (T :=
  ifB ((LI l) != (LI m)) (QA9 l m) ((∃(x:Nat),QqZ x l m∧(Z0=(↑x:Int)∧True)∧True∧True)∧∀(x:Nat),QqZ x l m→ifB (decide ((↑x:Int)<(LI l))) (side (Z0≤(↑x:Int)∧(↑x:Int)<(LI l)) (∀(x_1:Nat),True→SM x_1∧side (Z0≤(↑x:Int)∧(↑x:Int)<(LI m)) (∀(x_2:Nat),x_1≠x_2∧True→SM x_2∧SM x_1∧SM x_2∧∃(x_3:Sm×Sm),(wkL [QBh l x,QBh m x] [QBo x_3.1,QBo x_3.2]∧x_3.1∈l∧x_3.2∈m)∧∀(y:Unit),True→ifB (!sameT (stM x_3.1) (stM x_3.2)) (QA9 l m) ((Qq0 l∧Qq0 m∧SM (D.fn (Fn.func (39:Nat)) [] [])∧Qq0 l∧SM (ZI (LI l))∧True)∧∃(y:Nat),QqZ y l m∧LN l-y<LN l-x∧(IntKind.wrap IntKind.i64 ((↑x:Int)+Z1)=(↑y:Int)∧True)∧True∧True)))) (RT (true=sameT (List.map stM l) (List.map stM m))))) (by kernel_rfl) ?_
 delta DA GI LI LN N1 N4 SI SM Z0 Z1 ZI QA9 Qg6 QgH QgI Qg7 QBa QqZ QiW Hn Qms QKE QKF QBb QBc QBd Ho Qmt QKG QKH QBe QBf QBg QBh Hp Qmu QKI QKJ QBi QBj QBk Hq Qmv QKK QKL QBl QBm QBn QBo Hr Qmw QKM QKN QBp QBq QBr Hs Qmx QKO QKP QBs QBt QBu QKQ Qq0 RT
 try simp only[← dm]
 try simp only[← dn]
 simp only[eq_self,ne_eq,implies_true,weakL_refl,Int.toNat_natCast,ifB_iff,side_iff,decide_eq_true_eq,decide_eq_false_iff_not,true_and,and_true,beq_iff_eq,bne_iff_ne,bne_eq_false_iff_eq,beq_eq_false_iff_ne,Bool.not_eq_true',Bool.not_eq_false',exists_const,forall_const,Prod.exists]
 simp only[maxLen] at hl hm
 have gm:∀ {i:Nat},i<l.length→i<m.length→l.getD i default∈l∧m.getD i default∈m:=fun h1 h2=>⟨by rw[List.getD_eq_getElem?_getD,List.getElem?_eq_getElem h1];exact List.getElem_mem h1,by rw[List.getD_eq_getElem?_getD,List.getElem?_eq_getElem h2];exact List.getElem_mem h2⟩
 have gmap:∀ {l:List Sm} {i:Nat},i<l.length→(l.map stM).getD i (stM default)=stM (l.getD i default):=fun h=>by simp[List.getD_eq_getElem?_getD,h]
 refine⟨fun h=>sameT_no fun e=>h (by have:=congrArg List.length e;simp only[List.length_map] at this;omega),fun he=>⟨⟨0,⟨Nat.zero_le _,fun j hj=>absurd hj (by omega)⟩,rfl⟩,fun i ⟨i1,hi⟩=>⟨fun hlt=>⟨⟨by omega,hlt⟩,fun _=>⟨⟨by omega,by omega⟩,fun _ _=>⟨l.getD i default,m.getD i default,⟨wkL_refl _,gm (by omega) (by omega)⟩,fun hn=>sameT_no fun e=>?_,fun hs=>⟨i+1,⟨by omega,fun j hj=>?_⟩,by omega,wrap_i64' (by omega) (by omega)⟩⟩⟩⟩,fun hge=>sameT_yes ?_⟩⟩⟩
 ·have e2:stM (l.getD i default)=stM (m.getD i default):=by
   rw[← gmap (by omega),← gmap (by omega),e]
  rw[e2,sameT_iff.2 rfl] at hn;cases hn
 ·by_cases q:j=i
  ·rw[q];exact sameT_iff.1 hs
  ·exact hi j (by omega)
 ·refine eq_getD (stM default) (by simp;omega) fun j hj=>?_
  have hj:j<l.length:=by simpa using hj
  rw[gmap hj,gmap (by omega)]
  exact hi j (by omega)
def RSame(a b:Nd):Prop:=CD 18 [.agg a.row2,.agg b.row2] (.bool (sameT (stN a) (stN b)))
theorem two_wk{a b:Nd}:wkL [.agg a.row1,.agg b.row1] [.agg a.row2,.agg b.row2]:=by
 simp only[wkL,wkD]
 exact⟨nd1_wk a,nd1_wk b,trivial⟩
noncomputable def conSt:Con:=fun k ds S=>match k with
 |18=>some (pE (β:=Nd×Nd) ds S (fun x=>.bool (sameT (stN x.1) (stN x.2))) (fun x=>wkL ds [.agg x.1.row1,.agg x.2.row1]∧RSame x.1 x.2))
 |_=>none
theorem conSt_ok:ConOk Tryz.prog conSt:=by
 intro k ds S A hh
 unfold conSt at hh
 split at hh
 ·injection hh with hh;subst hh
  exact pS_ok fun x ⟨e,h1⟩=>CD.at_ (CD.wk (CD.wk h1 two_wk) e) _
 ·cases hh
noncomputable def Est:Senv:={ EC conSt 31 5 [] (fun _=>([],[])) with mg:=fun _=>2 }
def Ht(a:Sm):Nd:=Sm.te a
def Qmy(a:Sm):Arr:=Nd.va (Ht a)
def QKR(a:Sm):List Int:=Arr.sh (Qmy a)
def QKS(a:Sm):List Int:=Arr.nu (Qmy a)
def QBv(a:Sm):List Arr:=Arr.it (Qmy a)
def Qmz:Arr:=DA
def QBw(a:Sm):List Nd:=Nd.ki (Ht a)
def QjR:Nd:=Nd.mk Z0 Z0 Z0 [] Z0 Z0 Qmz [] [] Z0 Z0 Z0
def QBx(a:Sm):List Sm:=Nd.bo (Ht a)
def Qq1:Sm:=Sm.mk Z0 Z0 [] Z0 QjR QjR
def QBy(a:Sm):D:=D.agg [ZI (Nd.kd (Ht a)),ZI (Nd.at_ (Ht a)),ZI (Nd.cl (Ht a)),D.str (Nd.tx (Ht a)),ZI (Nd.pr (Ht a)),ZI (Nd.op (Ht a)),ZI (Arr.k (Qmy a)),SI (QKR a),SI (QKS a),D.sl N4 (LN (QBv a)) (fun (i:Nat)=>Arr.row (List.getD (QBv a) i Qmz)) Mode.any,D.sl (15:Nat) (LN (QBw a)) (fun (i:Nat)=>Nd.row (List.getD (QBw a) i QjR)) Mode.any,D.sl (34:Nat) (LN (QBx a)) (fun (i:Nat)=>Sm.row (List.getD (QBx a) i Qq1)) Mode.any,ZI (Nd.de (Ht a)),ZI (Nd.sl (Ht a)),ZI (Nd.ss (Ht a))]
def QmA(a:Nd):Arr:=Nd.va a
def QKT(a:Nd):List Int:=Arr.sh (QmA a)
def QKU(a:Nd):List Int:=Arr.nu (QmA a)
def QBz(a:Nd):List Arr:=Arr.it (QmA a)
def QBA(a:Nd):D:=D.agg [ZI (Nd.kd a),ZI (Nd.at_ a),ZI (Nd.cl a),D.str (Nd.tx a),ZI (Nd.pr a),ZI (Nd.op a),ZI (Arr.k (QmA a)),SI (QKT a),SI (QKU a),D.sl N4 (LN (QBz a)) (fun (i:Nat)=>Arr.row (List.getD (QBz a) i Qmz)) Mode.any,D.sl (15:Nat) (LN (Nd.ki a)) (fun (i:Nat)=>Nd.row (List.getD (Nd.ki a) i QjR)) Mode.any,D.sl (34:Nat) (LN (Nd.bo a)) (fun (i:Nat)=>Sm.row (List.getD (Nd.bo a) i Qq1)) Mode.any,ZI (Nd.de a),ZI (Nd.sl a),ZI (Nd.ss a)]
def QBB(a b:Nd):List D:=[QBA a,QBA b]
def QBC(a b:Nd):Bool:=sameT (stN a) (stN b)
def Hu(a:Sm):Nd:=Sm.nd a
def QmB(a:Sm):Arr:=Nd.va (Hu a)
def QKV(a:Sm):List Int:=Arr.sh (QmB a)
def QKW(a:Sm):List Int:=Arr.nu (QmB a)
def QBD(a:Sm):List Arr:=Arr.it (QmB a)
def QBE(a:Sm):List Nd:=Nd.ki (Hu a)
def QBF(a:Sm):List Sm:=Nd.bo (Hu a)
def QBG(a:Sm):D:=D.agg [ZI (Nd.kd (Hu a)),ZI (Nd.at_ (Hu a)),ZI (Nd.cl (Hu a)),D.str (Nd.tx (Hu a)),ZI (Nd.pr (Hu a)),ZI (Nd.op (Hu a)),ZI (Arr.k (QmB a)),SI (QKV a),SI (QKW a),D.sl N4 (LN (QBD a)) (fun (i:Nat)=>Arr.row (List.getD (QBD a) i Qmz)) Mode.any,D.sl (15:Nat) (LN (QBE a)) (fun (i:Nat)=>Nd.row (List.getD (QBE a) i QjR)) Mode.any,D.sl (34:Nat) (LN (QBF a)) (fun (i:Nat)=>Sm.row (List.getD (QBF a) i Qq1)) Mode.any,ZI (Nd.de (Hu a)),ZI (Nd.sl (Hu a)),ZI (Nd.ss (Hu a))]
def QBH(a b:Sm):Bool:=sameT (stM a) (stM b)
def Qq2(a b:Sm):Prop:=RT (false=QBH a b)
theorem st_step(x y:Sm)(h1:RSame x.te y.te)(h2:RSame x.nd y.nd):CD 39 [.agg x.row1,.agg y.row1] (.bool (sameT (stM x) (stM y))):=by
 refine con_of (A:=sC _ _) (x:=()) (E:=Est) (eOk conSt_ok rfl) Tryz.func39 rfl (by kernel_rfl) rfl (by simp[sC,Est,EC,E0]) ?_
 refine vc_eq (T :=
  ∀(x_1:Nat),True→∀(x_2:Nat),x_1≠x_2∧True→SM x_1∧SM x_2∧ifB (Sm.kd x==Sm.kd y) (SM x_1∧SM x_2∧ifB (Sm.nm x==Sm.nm y) (SM x_1∧SM x_2∧∃(x_3:Nd×Nd),(wkL [QBy x,QBy y] (QBB x_3.1 x_3.2)∧RSame x_3.1 x_3.2)∧∀(y_1:Unit),True→ifB (QBC x_3.1 x_3.2) (SM x_1∧SM x_2∧∃(x_4:Nd×Nd),(wkL [QBG x,QBG y] (QBB x_4.1 x_4.2)∧RSame x_4.1 x_4.2)∧∀(y_2:Unit),True→True∧∃(y_3:Unit),True∧QBC x_4.1 x_4.2=QBH x y∧True∧True) (Qq2 x y)) (Qq2 x y)) (Qq2 x y)) (by kernel_rfl) ?_
 delta DA GI LN N1 N4 SI SM Z0 ZI Hu QmB QKV QKW QBD QBE QBF QBG QBH Qq2 Ht Qmy QKR QKS QBv Qmz QBw QjR QBx Qq1 QBy QmA QKT QKU QBz QBA QBB QBC RT
 try simp only[← dm]
 try simp only[← dn]
 simp only[eq_self,ne_eq,implies_true,weakL_refl,Int.toNat_natCast,ifB_iff,side_iff,decide_eq_true_eq,decide_eq_false_iff_not,true_and,and_true,beq_iff_eq,bne_iff_ne,bne_eq_false_iff_eq,beq_eq_false_iff_ne,Bool.not_eq_true',Bool.not_eq_false',exists_const,forall_const,Prod.exists]
 have iff:=stM_iff x y
 have no:∀ {α:Type} {x y:α},sameT x y=false→x≠y:=fun h e=>by rw[sameT_iff.2 e] at h;cases h
 refine fun u v _=>⟨fun a1=>⟨fun a2=>⟨x.te,y.te,⟨wkL_refl _,h1⟩,fun a3=>⟨x.nd,y.nd,⟨wkL_refl _,h2⟩,?_⟩,fun a3=>sameT_no fun e=>no a3 (iff.1 e).2.2.1⟩,fun a2=>sameT_no fun e=>a2 (iff.1 e).2.1⟩,fun a1=>sameT_no fun e=>a1 (iff.1 e).1⟩
 exact sameT_congr ⟨fun e=>iff.2 ⟨a1,a2,sameT_iff.1 a3,e⟩,fun e=>(iff.1 e).2.2.2⟩
noncomputable def conSa(a b:Nd):Con:=fun k ds S=>match k with
 |40=>some (pA ds S (.bool (sameT a.va b.va)) (wkL ds [.agg a.va.row1,.agg b.va.row1]))
 |41=>some (pA ds S (.bool (sameT (a.ki.map stN) (b.ki.map stN))) (wkL ds [gsl 15 Nd.row1 a.ki,gsl 15 Nd.row1 b.ki,.fn (.func 18) [] []]))
 |38=>some (pA ds S (.bool (sameT (a.bo.map stM) (b.bo.map stM))) (wkL ds [gsl 34 Sm.row1 a.bo,gsl 34 Sm.row1 b.bo,.fn (.func 39) [] []]))
 |_=>none
noncomputable def Esa(a b:Nd):Senv:={ EC (conSa a b) 59 5 [] (fun _=>([],[])) with mg:=fun _=>2 }
def QiX(a:Nd):Arr:=Nd.va a
def QKX(a:Nd):List Int:=Arr.sh (QiX a)
def QKY(a:Nd):List Int:=Arr.nu (QiX a)
def QBI(a:Nd):List Arr:=Arr.it (QiX a)
def QBJ:Arr:=DA
def QBK(a:Nd):D:=D.agg [ZI (Arr.k (QiX a)),SI (QKX a),SI (QKY a),D.sl N4 (LN (QBI a)) (fun (i:Nat)=>Arr.row (List.getD (QBI a) i QBJ)) Mode.any]
def QBL(a b:Nd):List D:=[QBK a,QBK b]
def QmC(a:Nd):List Nd:=Nd.ki a
def Qq3:Nd:=Nd.mk Z0 Z0 Z0 [] Z0 Z0 QBJ [] [] Z0 Z0 Z0
def QBM(a:Nd):D:=D.sl (15:Nat) (LN (QmC a)) (fun (i:Nat)=>Nd.row1 (List.getD (QmC a) i Qq3)) Mode.any
def QBN(a b:Nd):List D:=[QBM a,QBM b,D.fn (Fn.func (18:Nat)) [] []]
def QmD(a:Nd):List Sm:=Nd.bo a
def QBO(a:Nd):D:=D.sl (34:Nat) (LN (QmD a)) (fun (i:Nat)=>Sm.row1 (List.getD (QmD a) i (Sm.mk Z0 Z0 [] Z0 Qq3 Qq3))) Mode.any
def QBP(a b:Nd):List D:=[QBO a,QBO b,D.fn (Fn.func (39:Nat)) [] []]
def QBQ(a b:Nd):Bool:=sameT (stN a) (stN b)
def Qg8(a b:Nd):Prop:=RT (false=QBQ a b)
theorem sa_step(a b:Nd)(ha:a.sm∧a.va.ok)(hb:b.sm∧b.va.ok)(h1:∀x∈a.ki,∀y∈b.ki,RSame x y)(h2:∀x∈a.bo,∀y∈b.bo,RSame x.te y.te∧RSame x.nd y.nd):RSame a b:=by
 refine con_of (A:=sC _ _) (x:=()) (E:=Esa a b) (eOk ?_ rfl) Tryz.func18 rfl (by kernel_rfl) rfl (by simp[sC,Esa,EC,E0]) ?_
 ·intro k ds S A hh
  unfold conSa at hh
  have a1:=sm_len ha.1
  have b1:=sm_len hb.1
  split at hh
  ·injection hh with hh;subst hh
   exact pA_ok fun e=>CD.at_ (CD.wk (as_row (as_all a.va b.va ha.2 hb.2)) e) _
  ·injection hh with hh;subst hh
   exact pA_ok fun e=>CD.at_ (CD.wk (Een_ok a.ki b.ki (maxB_le a1.2.1) (maxB_le b1.2.1) fun x hx y hy=>CD.wk (h1 x hx y hy) two_wk) e) _
  ·injection hh with hh;subst hh
   exact pA_ok fun e=>CD.at_ (CD.wk (Ees_ok a.bo b.bo (maxB_le a1.2.2) (maxB_le b1.2.2) fun x hx y hy=>st_step x y (h2 x hx y hy).1 (h2 x hx y hy).2) e) _
  ·cases hh
 refine vc_eq (T :=
  ∀(x:Nat),True→∀(x_1:Nat),x≠x_1∧True→SM x∧SM x_1∧ifB (Nd.kd a==Nd.kd b) (SM x∧SM x_1∧ifB (Nd.cl a==Nd.cl b) (SM x∧SM x_1∧ifB (Nd.tx a==Nd.tx b) (SM x∧SM x_1∧ifB (Nd.pr a==Nd.pr b) (SM x∧SM x_1∧ifB (Nd.op a==Nd.op b) (SM x∧SM x_1∧∃(x_2:Unit),wkL (QBL a b) (QBL a b)∧∀(y:Unit),True→ifB (sameT (QiX a) (QiX b)) (SM x∧SM x_1∧∃(x_3:Unit),wkL (QBN a b) (QBN a b)∧∀(y:Unit),True→ifB (sameT (List.map stN (QmC a)) (List.map stN (QmC b))) (SM x∧SM x_1∧∃(x:Unit),wkL (QBP a b) (QBP a b)∧∀(y:Unit),True→RT (sameT (List.map stM (QmD a)) (List.map stM (QmD b))=QBQ a b)) (Qg8 a b)) (Qg8 a b)) (Qg8 a b)) (Qg8 a b)) (Qg8 a b)) (Qg8 a b)) (Qg8 a b)) (by kernel_rfl) ?_
 delta DA GI LN N1 N4 SI SM Z0 ZI QiX QKX QKY QBI QBJ QBK QBL QmC Qq3 QBM QBN QmD QBO QBP QBQ Qg8 RT
 try simp only[← dm]
 try simp only[← dn]
 simp only[eq_self,ne_eq,implies_true,weakL_refl,Int.toNat_natCast,ifB_iff,side_iff,decide_eq_true_eq,decide_eq_false_iff_not,true_and,and_true,beq_iff_eq,bne_iff_ne,bne_eq_false_iff_eq,beq_eq_false_iff_ne,Bool.not_eq_true',Bool.not_eq_false',exists_const,forall_const,Prod.exists]
 have iff:=stN_iff a b
 have no:∀ {α:Type} {x y:α},sameT x y=false→x≠y:=fun h e=>by rw[sameT_iff.2 e] at h;cases h
 refine fun u v _=>⟨fun a1=>⟨fun a2=>⟨fun a3=>⟨fun a4=>⟨fun a5=>⟨wkL_refl _,fun a6=>⟨wkL_refl _,fun a7=>⟨wkL_refl _,?_⟩,fun a7=>sameT_no fun e=>no a7 (iff.1 e).2.2.2.2.2.2.1⟩,fun a6=>sameT_no fun e=>no a6 (iff.1 e).2.2.2.2.2.1⟩,fun a5=>sameT_no fun e=>a5 (iff.1 e).2.2.2.2.1⟩,fun a4=>sameT_no fun e=>a4 (iff.1 e).2.2.2.1⟩,fun a3=>sameT_no fun e=>a3 (iff.1 e).2.2.1⟩,fun a2=>sameT_no fun e=>a2 (iff.1 e).2.1⟩,fun a1=>sameT_no fun e=>a1 (iff.1 e).1⟩
 exact sameT_congr ⟨fun e=>iff.2 ⟨a1,a2,a3,a4,a5,sameT_iff.1 a6,sameT_iff.1 a7,e⟩,fun e=>(iff.1 e).2.2.2.2.2.2.2⟩
theorem sa_ok(a b:Nd)(ha:a.ok∧a.sm)(hb:b.ok∧b.sm):RSame a b :=
  sa_step a b ⟨ha.2,va_ok ha.1⟩ ⟨hb.2,va_ok hb.1⟩ (fun x hx y hy => sa_ok x y ⟨ki_ok ha.1 x hx,sm_kid ha.2 (kid_inner hx)⟩ ⟨ki_ok hb.1 y hy,sm_kid hb.2 (kid_inner hy)⟩) fun x hx y hy =>
    ⟨sa_ok x.te y.te ⟨(sm_ok2 (bo_ok' ha.1 x hx)).1,(sm_sm2 (sm_bo ha.2 x hx)).1⟩ ⟨(sm_ok2 (bo_ok' hb.1 y hy)).1,(sm_sm2 (sm_bo hb.2 y hy)).1⟩,
     sa_ok x.nd y.nd ⟨(sm_ok2 (bo_ok' ha.1 x hx)).2,(sm_sm2 (sm_bo ha.2 x hx)).2⟩ ⟨(sm_ok2 (bo_ok' hb.1 y hy)).2,(sm_sm2 (sm_bo hb.2 y hy)).2⟩⟩
termination_by SizeOf.sizeOf a
decreasing_by
  · exact Nd.size_kid hx
  · have := Nd.size_stmt hx
    have := Sm.size_te x
    omega
  · have := Nd.size_stmt hx
    have := Sm.size_nd x
    omega
def okS(l:List Sm):Prop:=l.length≤maxB∧(∀s∈l,s.ok)∧∀s∈l,s.sm
theorem st_ok(x y:Sm)(hx:x.ok∧x.sm)(hy:y.ok∧y.sm):CD 39 [.agg x.row1,.agg y.row1] (.bool (sameT (stM x) (stM y))) :=
 st_step x y (sa_ok _ _ ⟨(sm_ok2 hx.1).1,(sm_sm2 hx.2).1⟩ ⟨(sm_ok2 hy.1).1,(sm_sm2 hy.2).1⟩) (sa_ok _ _ ⟨(sm_ok2 hx.1).2,(sm_sm2 hx.2).2⟩ ⟨(sm_ok2 hy.1).2,(sm_sm2 hy.2).2⟩)
noncomputable def conSp(a b:List Sm):Con:=fun k ds S=>match k with
 |38=>some (pA ds S (.bool (sameT (a.map stM) (b.map stM))) (wkL ds [gsl 34 Sm.row1 a,gsl 34 Sm.row1 b,.fn (.func 39) [] []]))
 |_=>none
noncomputable def Esp(a b:List Sm):Senv:=EC (conSp a b) 10 5 [] (fun _=>([],[]))
def QBR:Nd:=Nd.mk Z0 Z0 Z0 [] Z0 Z0 DA [] [] Z0 Z0 Z0
def QBS(a:List Sm):D:=D.sl (34:Nat) (LN a) (fun (i:Nat)=>Sm.row1 (List.getD a i (Sm.mk Z0 Z0 [] Z0 QBR QBR))) Mode.any
def QBT(a b:List Sm):List D:=[QBS a,QBS b,D.fn (Fn.func (39:Nat)) [] []]
theorem sp_ok(a b:List Sm)(ha:okS a)(hb:okS b):CD 17 [.agg [gsl 34 Sm.row1 a],.agg [gsl 34 Sm.row1 b]] (.bool (sameT (a.map stM) (b.map stM))):=by
 refine con_of (A:=sC _ _) (x:=()) (E:=Esp a b) (eOk ?_ rfl) Tryz.func17 rfl (by kernel_rfl) rfl (by simp[sC,Esp,EC,E0]) ?_
 ·intro k ds S A hh
  try unfold conSp at hh
  try dsimp only at hh
  split at hh
  ·injection hh with hh;subst hh
   exact pA_ok fun e=>CD.at_ (CD.wk (Ees_ok a b (maxB_le ha.1) (maxB_le hb.1) fun x hx y hy=>st_ok x y ⟨ha.2.1 x hx,ha.2.2 x hx⟩ ⟨hb.2.1 y hy,hb.2.2 y hy⟩) e) _
  ·cases hh
 refine vc_eq (T :=
  ∀(x:Nat),True→∀(x_1:Nat),x≠x_1∧True→SM x∧SM x_1∧∃(x:Unit),wkL (QBT a b) (QBT a b)∧∀(y:Unit),True→RT (SM (sameT (List.map stM a) (List.map stM b)))) (by kernel_rfl) ?_
 delta DA LN SM Z0 QBR QBS QBT RT
 try simp only[← dm]
 try simp only[← dn]
 simp only[eq_self,ne_eq,implies_true,weakL_refl,Int.toNat_natCast,ifB_iff,side_iff,decide_eq_true_eq,decide_eq_false_iff_not,true_and,and_true,beq_iff_eq,bne_iff_ne,bne_eq_false_iff_eq,beq_eq_false_iff_ne,Bool.not_eq_true',Bool.not_eq_false',exists_const,forall_const,Prod.exists]
 first
  |exact fun _ _ _=>wkL_refl _
  |exact fun _ _=>wkL_refl _
  |exact wkL_refl _
open Go Go.Ab Go.RowKit
theorem own:ownKnob Tryz.prog.godebug=none:=by kernel_rfl
theorem laid:laidOutB Tryz.prog=true:=by kernel_rfl
theorem gN0 : Tryz.prog.globalNamed "internal/strconv.uint64pow10" = some 1 := by kernel_rfl
theorem tN0:(Tryz.prog.globals[1]?).map (·.type)=some 162:=by kernel_rfl
theorem gN1 : Tryz.prog.globalNamed "math/bits.deBruijn64tab" = some 3 := by kernel_rfl
theorem tN1:(Tryz.prog.globals[3]?).map (·.type)=some 167:=by kernel_rfl
theorem gN2 : Tryz.prog.globalNamed "math/bits.deBruijn32tab" = some 2 := by kernel_rfl
theorem tN2:(Tryz.prog.globals[2]?).map (·.type)=some 166:=by kernel_rfl
def laidL : List (String × DataW Unit) := [("math/bits.deBruijn32tab", Rows.laid_math_bits_deBruijn32tab), ("math/bits.deBruijn64tab", Rows.laid_math_bits_deBruijn64tab), ("internal/strconv.uint64pow10", Rows.laid_internal_strconv_uint64pow10)]
theorem g0_laid{W:World}(h:laidMetH Tryz.prog laidL W):G0 W:=by
 have h0:laidMet Tryz.prog laidL W:=h
 have h1:=h0.tail
 have h2:=h1.tail
 exact⟨Lib.tabIs_of_head (rest:=[]) gN0 tN0 Tryz.underlying162 Tryz.underlying147 (by kernel_rfl) (by kernel_rfl) h2,
  Lib.tabIs_of_head gN1 tN1 Tryz.underlying167 Tryz.underlying5 (by kernel_rfl) (by kernel_rfl) h1,
  Lib.tabIs_of_head gN2 tN2 Tryz.underlying166 Tryz.underlying5 (by kernel_rfl) (by kernel_rfl) h0⟩
noncomputable def layT(l:Array Value):Obj→Obj
 |.cells _ t frozen=>.cells l t frozen
 |o=>o
noncomputable def laidWorld(os:Os):World :=
 { World.holding Tryz.prog os ⟨#[],#[],[]⟩ with heap:=(((World.holding Tryz.prog os ⟨#[],#[],[]⟩).heap.modify 1 (layT (Lib.pow10Tab.map fun z=>Value.int .u64 z).toArray)).modify 3 (layT (Lib.deBruijn64tab.map fun z=>Value.int .u8 (Int.ofNat z)).toArray)).modify 2 (layT (Lib.deBruijn32tab.map fun z=>Value.int .u8 (Int.ofNat z)).toArray) }
theorem classes_len{n:Nd}{l:List Int}(h:classesB n l=true):n.ki.length=l.length:=by
 unfold classesB at h
 rw[beq_iff_eq] at h
 have:=congrArg List.length h
 simpa using this
theorem kind_cases{n:Nd}(h:nodeV n=true)(hk:n.kd≠10):leafB n=true∨(compB n=true∧∀x∈n.ki,nodeV x=true):=by
 rw[nodeV_eq,Bool.and_eq_true] at h
 have h:=h.2
 rw[if_neg hk,Bool.or_eq_true,Bool.and_eq_true] at h
 rcases h with h | h
 ·exact .inl h
 ·exact .inr ⟨h.1,fun x hx=>List.all_eq_true.1 h.2 x hx⟩
end
end Go.Proofs.YtjnifeedbgefpaaGreatDoor
