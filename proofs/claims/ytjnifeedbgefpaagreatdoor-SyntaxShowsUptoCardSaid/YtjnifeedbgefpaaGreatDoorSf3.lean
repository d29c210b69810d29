/- The syntax laws, walked through the code. -/
import Derived.Test.YtjnifeedbgefpaaGreatDoorSf2
import Derived.Test.YtjnifeedbgefpaaGreatDoorProg
import Derived.Lib.LaidTab
import Derived.Lib.ItoaNum
import Derived.Lib.TrailingZeros
import Derived.Calls
import Derived.Below
import Derived.Laws.Entries
import Derived.Laws.Build
import Derived.Laws.Concat
import Derived.Laws.AppendOwn
import Derived.Laws.IdiomStrings
import Derived.Laws.BytesString
import Derived.Laws.NewFold
import Derived.Laws.MakeOwn
import Derived.Laws.IdiomCopy
import Derived.Laws.Shifts
import Derived.Laws.Strings
import Derived.Laws.Strings2
import Derived.Laws.Strings3
import Derived.Laws.RangeString
import Derived.Laws.Cover4
import Derived.Lib.DecodeN
import Derived.MapKept
import Derived.Laws.StructEq
import Derived.Orders
import Derived.Scope
import Derived.ProofKit
import Derived.WalkKit
import Derived.OpenShut
import Derived.Recover
import Derived.KernelRfl
import Derived.Shelf.Strings.Builder1
import Derived.Shelf.Strings.Builder2
import Derived.Shelf.Strings.OnBuilder
import Derived.Shelf.Strings.BuilderF
import Derived.Shelf.Strconv.Itoa0
import Derived.Shelf.Strconv.Itoa1
import Derived.Shelf.LaysM
import Derived.Shelf.Strconv.Itoa2
import Derived.Shelf.Strconv.Itoa3
import Derived.Shelf.Strconv.Itoa4
import Derived.Shelf.Bits.Mul64
import Derived.Lib.AppendIntMem
import Derived.Lib.ItoaLen
import Derived.Test.YtjnifeedbgefpaaGreatDoorRows
import Derived.Lib.Join
import Derived.Lib.Builder
import Derived.Lib.UnsafeStr
import Derived.Test.YtjnifeedbgefpaaGreatDoorCards
import Derived.Test.YtjnifeedbgefpaaGreatDoorTie
import Derived.Deep.DeepHandedRow
import Derived.Stop.LaidErr
namespace Go.Proofs.YtjnifeedbgefpaaGreatDoor
open Go Go.Ab
set_option maxRecDepth 100000
noncomputable section
theorem nd0_ok:nd0.ok:=by simp[nd0,Nd.ok,Arr.ok,okL,ndsOk,smsOk,inI64,maxLen]
theorem nd0_sm:nd0.sm:=by simp[nd0,Nd.sm,Arr.sm,smL,ndsSm,smsSm]
theorem zero_eq(n:Nd):(sameT (stN n) (stN nd0)&&n.at_==0&&n.de==0&&n.sl==0&&n.ss==0)=emptyB n:=by
 rw[Bool.eq_iff_iff]
 simp only[Bool.and_eq_true,sameT_iff,stN_iff,beq_iff_eq]
 unfold emptyB onlyB zeroA
 cases n with
 |mk kd at_ cl tx pr op va ki bo de sl ss =>
  cases va with
  |mk k s nu it =>
   simp[nd0,Nd.kd,Nd.at_,Nd.cl,Nd.tx,Nd.pr,Nd.op,Nd.va,Nd.ki,Nd.bo,Nd.de,Nd.sl,Nd.ss,Arr.k,Arr.sh,Arr.nu,Arr.it]
   constructor
   ·rintro ⟨⟨⟨⟨⟨a,b,c,d,e,⟨f1,f2,f3,f4⟩,g,h⟩,i⟩,j⟩,k⟩,l⟩
    subst_vars
    simp
   ·intro h
    simp_all
def zrow2:List D:=nd0.row2
theorem zero_wk2:wkL zcells nd0.row2:=by
 simp[zcells,Nd.row2,nd0,Nd.kd,Nd.at_,Nd.cl,Nd.tx,Nd.pr,Nd.op,Nd.va,Nd.ki,Nd.bo,Nd.de,Nd.sl,Nd.ss,Arr.k,Arr.sh,Arr.nu,Arr.it,isl,gsl,wkL,wkD,weakD,chk_iff,weakM,nilMB,kEq]
theorem two_zn(n:Nd):wkL [.agg n.row2,.agg zcells] [.agg n.row2,.agg zrow2]:=by
 simp only[wkL,wkD]
 exact⟨wkL_refl _,zero_wk2,trivial⟩
noncomputable def conRz(n:Nd):Con:=fun k ds S=>match k with
 |19=>some (pA ds S (.bool (sameT (stN n) (stN nd0))) (wkL ds [.agg n.row2,.agg zrow2]))
 |_=>none
noncomputable def Erz(n:Nd):Senv:={ EC (conRz n) 26 3 [] (fun _=>([],[])) with mg:=fun _=>2 }
def Vs(a:Nd):Arr:=Nd.va a
def QhL(a:Nd):List Int:=Arr.sh (Vs a)
def QhM(a:Nd):List Int:=Arr.nu (Vs a)
def Qdu(a:Nd):List Arr:=Arr.it (Vs a)
def Qdv:Arr:=DA
def Qdw(a:Nd):D:=D.agg [ZI (Nd.kd a),ZI (Nd.at_ a),ZI (Nd.cl a),D.str (Nd.tx a),ZI (Nd.pr a),ZI (Nd.op a),ZI (Arr.k (Vs a)),SI (QhL a),SI (QhM a),D.sl N4 (LN (Qdu a)) (fun (i:Nat)=>Arr.row (List.getD (Qdu a) i Qdv)) Mode.any,D.sl (15:Nat) (LN (Nd.ki a)) (fun (i:Nat)=>Nd.row1 (List.getD (Nd.ki a) i (Nd.mk Z0 Z0 Z0 [] Z0 Z0 Qdv [] [] Z0 Z0 Z0))) Mode.any,D.sl (34:Nat) (LN (Nd.bo a)) (fun (i:Nat)=>Sm.row1 (List.getD (Nd.bo a) i (Sm.mk Z0 Z0 [] Z0 nd0 nd0))) Mode.any,ZI (Nd.de a),ZI (Nd.sl a),ZI (Nd.ss a)]
def Q2:D:=ZI Z0
def Jx:D:=D.sl N1 N0 (fun (_x:Nat)=>[]) Mode.nil
def Vt(a:Nd):Prop:=True∧∃(_y:Unit),True∧false=emptyB a∧True∧True
theorem rz_ok(n:Nd)(ho:n.ok)(hs:n.sm):CD 58 [.agg n.row2] (.bool (emptyB n)):=by
 refine con_of (A:=sC _ _) (x:=()) (E:=Erz n) (eOk ?_ rfl) Tryz.func58 rfl (by kernel_rfl) rfl (by simp[sC,Erz,EC,E0]) ?_
 ·intro k ds S A hh
  unfold conRz at hh
  split at hh
  ·injection hh with hh;subst hh
   exact pA_ok fun e=>CD.at_ (CD.wk (rsm_ok n nd0 ⟨ho,hs⟩ ⟨nd0_ok,nd0_sm⟩) e) _
  ·cases hh
 refine vc_eq (T :=
  ∀(x:Nat),True→SM x∧∃(x_1:Unit),wkL [Qdw n,D.agg [Q2,Q2,Q2,D.str [],Q2,Q2,Q2,Jx,Jx,Jx,Jx,Jx,Q2,Q2,Q2]] [Qdw n,D.agg zrow2]∧∀(y:Unit),True→ifB (sameT (stN n) (stN nd0)) (SM x∧ifB (Nd.at_ n==Z0) (SM x∧ifB (Nd.de n==Z0) (SM x∧ifB (Nd.sl n==Z0) (SM x∧RT ((Nd.ss n==Z0)=emptyB n)) (Vt n)) (Vt n)) (Vt n)) (Vt n)) (by kernel_rfl) ?_
 delta DA GI LN N0 N1 N4 SI SM Z0 ZI Vs QhL QhM Qdu Qdv Qdw Q2 Jx Vt RT
 try simp only[]
 try simp only[← dn]
 simp only[ne_eq,ifB_iff,true_and,and_true,beq_iff_eq,beq_eq_false_iff_ne,exists_const,forall_const]
 rw[← zero_eq]
 have hz:=two_zn n
 repeat' (first | exact hz | refine And.intro ?_ ?_ | intro _)
 all_goals clear hz
 all_goals first
  |(simp_all;done)
  |(simp_all;omega)
def RVal(n:Nd):Prop:=CD 28 [.agg n.row2] (.bool (nodeV n))
def RBdy(l:List Sm):Prop:=CD 37 [gsl 34 Sm.row1 l] (.bool (bodyV true l))
def conRla(n:Nd):Con:=fun k ds S=>match k with
 |85=>match ds with
  | [_,.bool a,.bool b,.bool c,.bool d,.bool e,.bool f]=>some (pA ds S (.bool (rEmp n a b c d e f)) (isN2 n ds [.bool a,.bool b,.bool c,.bool d,.bool e,.bool f]))
  |_=>none
 |37=>some (pA ds S (.bool (bodyV true n.bo)) (wkL ds [gsl 34 Sm.row1 n.bo]))
 |53=>match ds with
  | [_,.int .i64 q]=>some (pA ds S (.bool (mentB n.bo q)) (wkL ds [gsl 34 Sm.row1 n.bo,.int .i64 q]))
  |_=>none
 |_=>none
theorem conRla_ok{n:Nd}(h:n.va.ok)(hn:n.sm)(hb:RBdy n.bo):ConOk Tryz.prog (conRla n):=by
 intro k ds S A hh
 unfold conRla at hh
 split at hh
 ·split at hh
  ·injection hh with hh;subst hh
   exact pA_ok fun e=>CD.at_ (CD.wk (re_ok n h _ _ _ _ _ _) e) _
  ·cases hh
 ·injection hh with hh;subst hh
  exact pA_ok fun e=>CD.at_ (CD.wk hb e) _
 ·split at hh
  ·injection hh with hh;subst hh
   exact pA_ok fun e=>CD.at_ (CD.wk (rbm_ok _ n.bo (maxB_le (sm_len hn).2.2) (sm_bo hn)) e) _
  ·cases hh
 ·cases hh
noncomputable def Erla(n:Nd):Senv:={ EC (conRla n) 49 5 [31,38,42] (fun id=>match id with | 3=>([0,1,3,4,2,5,6,7],[2,5]) | _=>([],[])) with mg:=fun _=>2 }
def Vu(a:Nd):Int:=Nd.cl a
def Vv(a:Nd):Arr:=Nd.va a
def QhN(a:Nd):List Int:=Arr.sh (Vv a)
def QhO(a:Nd):List Int:=Arr.nu (Vv a)
def Qdx(a:Nd):List Arr:=Arr.it (Vv a)
def Qdy:Arr:=DA
def Y3:Nd:=Nd.mk Z0 Z0 Z0 [] Z0 Z0 Qdy [] [] Z0 Z0 Z0
def Ku(a:Nd):List Sm:=Nd.bo a
def Qdz:Sm:=Sm.mk Z0 Z0 [] Z0 Y3 Y3
def Jy(a:Nd):D:=D.sl (34:Nat) (LN (Ku a)) (fun (i:Nat)=>Sm.row1 (List.getD (Ku a) i Qdz)) Mode.any
def QdA:List D:=[D.bool false,D.bool false,D.bool false,D.bool false,D.bool false,D.bool true]
def Vw(a:Nd):Bool:=rLam a
def Vx(a:Nd):Prop:=True∧∃(_y:Unit),True∧false=Vw a∧True∧True
def Y4(a:Nd):Int:=(LI (Ku a))
def Y5(a:Nd):Int:=IntKind.wrap IntKind.i64 (Y4 a-Z1)
def QdB(a:Nd):List D:=[Jy a]
def QdC(a:Nd):List D:=[Jy a,ZI (12:Int)]
def QdD(a:Nd):List D:=[Jy a,ZI (13:Int)]
theorem rla_ok(n:Nd)(h:n.va.ok)(hn:n.sm)(hb:RBdy n.bo):CD 50 [.agg n.row2] (.bool (rLam n)):=by
 refine con_of (A:=sC _ _) (x:=()) (E:=Erla n) (eOk (conRla_ok h hn hb) rfl) Tryz.func50 rfl (by kernel_rfl) rfl (by simp[sC,Erla,EC,E0]) ?_
 refine vc_eq (T :=
  ∀(x:Nat),True→SM x∧∃(x_1:Unit),isN2 n (D.agg [ZI (Nd.kd n),ZI (Nd.at_ n),ZI (Vu n),D.str (Nd.tx n),ZI (Nd.pr n),ZI (Nd.op n),ZI (Arr.k (Vv n)),SI (QhN n),SI (QhO n),D.sl N4 (LN (Qdx n)) (fun (i:Nat)=>Arr.row (List.getD (Qdx n) i Qdy)) Mode.any,D.sl (15:Nat) (LN (Nd.ki n)) (fun (i:Nat)=>Nd.row1 (List.getD (Nd.ki n) i Y3)) Mode.any,Jy n,ZI (Nd.de n),ZI (Nd.sl n),ZI (Nd.ss n)]::QdA) QdA∧∀(y:Unit),True→ifB (!rEmp n false false false false false true) (Vx n) (SM x∧ifB (Y4 n==Z0) (Vx n) (SM x∧SM x∧side (Z0≤Y5 n∧Y5 n<Y4 n) (ifB (Sm.kd (List.getD (Ku n) (Int.toNat (Y5 n)) Qdz) != Z1) (Vx n) (SM x∧∃(x_2:Unit),wkL (QdB n) (QdB n)∧∀(y:Unit),True→ifB (!bodyV true (Ku n)) (Vx n) (SM x∧SM x∧∃(x_3:Unit),wkL (QdC n) (QdC n)∧∀(y:Unit),True→(SM x∧SM (Jy n))∧∃(x_4:Unit),wkL (QdD n) (QdD n)∧∀(y:Unit),True→ifB (mentB (Ku n) (13:Int)) (SM x∧RT ((Vu n==(4:Int))=Vw n)) (ifB (mentB (Ku n) (12:Int)) (SM x∧RT ((Vu n==(3:Int))=Vw n)) (SM x∧RT ((Vu n==(2:Int))=Vw n))))))))) (by kernel_rfl) ?_
 delta DA GI LI LN N1 N4 SI SM Z0 Z1 ZI Vv QhN QhO Qdx Qdy Y3 Ku Qdz Jy QdA Vw Vx Y4 Y5 QdB QdC QdD Vu RT
 try simp only[← dm]
 try simp only[← dn]
 simp only[ne_eq,ifB_iff,side_iff,true_and,and_true,beq_iff_eq,bne_iff_ne,bne_eq_false_iff_eq,beq_eq_false_iff_ne,Bool.not_eq_true',Bool.not_eq_false',exists_const,forall_const]
 have e2:n.bo.isEmpty=(n.bo.length==0):=by cases n.bo<;>rfl
 have hlen:=(sm_len hn).2.2
 unfold maxB at hlen
 have self:∀a b c d e f:Bool,isN2 n [.agg n.row2,.bool a,.bool b,.bool c,.bool d,.bool e,.bool f] [.bool a,.bool b,.bool c,.bool d,.bool e,.bool f]:=fun _ _ _ _ _ _=>nd2_self n _
 by_cases hb:n.bo.length=0
 ·skip
  repeat' (first | exact self _ _ _ _ _ _ | exact wkL_refl _ | refine And.intro ?_ ?_ | intro _)
  all_goals clear self
  all_goals first
   |(exfalso;omega)
   |(unfold rLam;rw[e2,hb];simp;done)
   |(unfold rLam;simp_all;done)
 ·have w:IntKind.i64.wrap ((n.bo.length:Int)-1)=((n.bo.length-1:Nat):Int):=by rw[wrap_i64' (by omega) (by omega)];omega
  simp only[w,Int.toNat_natCast]
  have e3:(n.bo.length==0)=false:=by simpa using hb
  repeat' (first | exact self _ _ _ _ _ _ | exact wkL_refl _ | refine And.intro ?_ ?_ | intro _)
  all_goals clear self
  all_goals first
   |omega
   |(unfold rLam;rw[e2,e3];simp_all;done)
   |(unfold rLam;simp_all;done)
def conRva(n:Nd):Con:=fun k ds S=>match k with
 |50=>some (pA ds S (.bool (rLam n)) (isN2 n ds []))
 |51=>some (pA ds S (.bool (rLeaf n)) (isN2 n ds []))
 |52=>some (pA ds S (.bool (rInner n)) (isN2 n ds []))
 |28=>some (pE (β:=Nd) ds S (fun b=>.bool (nodeV b)) (fun b=>isN b ds []∧b∈n.ki))
 |_=>none
theorem conRva_ok{n:Nd}(hn:n.sm)(ho:n.va.ok)(h1:RBdy n.bo)(h2:∀b∈n.ki,RVal b):ConOk Tryz.prog (conRva n):=by
 intro k ds S A hh
 have hl:=maxB_le (sm_len hn).2.1
 unfold conRva at hh
 split at hh
 ·injection hh with hh;subst hh
  exact pA_ok fun e=>CD.at_ (CD.wk (rla_ok n ho hn h1) e) _
 ·injection hh with hh;subst hh
  exact pA_ok fun e=>CD.at_ (CD.wk (rlf_ok n ho) e) _
 ·injection hh with hh;subst hh
  exact pA_ok fun e=>CD.at_ (CD.wk (rin_ok n ho hl) e) _
 ·injection hh with hh;subst hh
  exact pS_ok fun b ⟨e,hb⟩=>CD.at_ (CD.isN (h2 b hb) e) _
 ·cases hh
noncomputable def Erva(n:Nd):Senv:={ EC (conRva n) 46 4 [21,24,28,31,36,45] (fun _=>([],[])) with
 mg:=fun _=>2
 ann:=fun b _ S=>match b with
  |0=>some { slots:=[3],keep:=[0,1],α:=Nat,st:=fun i=>([.int .i64 i],S),inv:=fun i=>i≤n.ki.length∧∀j,j<i→nodeV (n.ki.getD j default)=true,mu:=fun i=>n.ki.length-i }
  |_=>none }
theorem all_no{α:Type}[Inhabited α]{p:α→Bool}{l:List α}{j:Nat}(hj:j<l.length)(h:p (l.getD j default)=false):l.all p=false:=by
 rw[Bool.eq_false_iff]
 intro e
 have:=List.all_eq_true.1 e (l.getD j default) (by rw[List.getD_eq_getElem?_getD,List.getElem?_eq_getElem hj];exact List.getElem_mem hj)
 rw[h] at this;cases this
theorem all_yes{α:Type}[Inhabited α]{p:α→Bool}{l:List α}(h:∀j,j<l.length→p (l.getD j default)=true):l.all p=true:=by
 rw[List.all_eq_true]
 intro x hx
 obtain ⟨i,hi,rfl⟩:=List.getElem_of_mem hx
 have:=h i hi
 rwa [List.getD_eq_getElem?_getD,List.getElem?_eq_getElem hi] at this
def Y6(a:Nd):Int:=Nd.at_ a
def Vy(a:Nd):Bool:=nodeV a
def K3(a:Nd):Prop:=True∧∃(_y:Unit),True∧false=Vy a∧True∧True
def Y7(a:Nd):Int:=Nd.de a
def Y8(a:Nd):Int:=Nd.sl a
def Y9(a:Nd):Int:=Nd.ss a
def Za(a:Nd):Int:=Nd.kd a
def QdE(a:Nd):Int:=Nd.cl a
def QdF(a:Nd):List UInt8:=Nd.tx a
def QdG(a:Nd):Int:=Nd.pr a
def QdH(a:Nd):Int:=Nd.op a
def Vz(a:Nd):Arr:=Nd.va a
def QdI(a:Nd):Int:=Arr.k (Vz a)
def QdJ(a:Nd):List Int:=Arr.sh (Vz a)
def Zb(a:Nd):Nat:=LN (QdJ a)
def QdK(a:Nd)(b:Nat):List D:=[ZI (GI (QdJ a) b)]
def QdL(a:Nd):List Int:=Arr.nu (Vz a)
def Zc(a:Nd):Nat:=LN (QdL a)
def QdM(a:Nd)(b:Nat):List D:=[ZI (GI (QdL a) b)]
def QdN(a:Nd):List Arr:=Arr.it (Vz a)
def Zd(a:Nd):Nat:=LN (QdN a)
def Ze:Arr:=DA
def QdO(a:Nd)(b:Nat):List D:=Arr.row (List.getD (QdN a) b Ze)
def VA(a:Nd):List Nd:=Nd.ki a
def Kd(a:Nd):Nat:=LN (VA a)
def Jz:Nd:=Nd.mk Z0 Z0 Z0 [] Z0 Z0 Ze [] [] Z0 Z0 Z0
def QdP(a:Nd)(b:Nat):Nd:=List.getD (VA a) b Jz
def QdQ(a:Nd)(b:Nat):List D:=Nd.row1 (QdP a b)
def Zf(a:Nd):Nat:=LN (Nd.bo a)
def QdR:Sm:=Sm.mk Z0 Z0 [] Z0 Jz Jz
def QdS(a:Nd)(b:Nat):List D:=Sm.row1 (List.getD (Nd.bo a) b QdR)
def QdT(a:Nd):D:=D.agg [ZI (Za a),ZI (Y6 a),ZI (QdE a),D.str (QdF a),ZI (QdG a),ZI (QdH a),ZI (QdI a),D.sl N1 (Zb a) (fun (i:Nat)=>QdK a i) Mode.any,D.sl N1 (Zc a) (fun (i:Nat)=>QdM a i) Mode.any,D.sl N4 (Zd a) (fun (i:Nat)=>QdO a i) Mode.any,D.sl (15:Nat) (Kd a) (fun (i:Nat)=>QdQ a i) Mode.any,D.sl (34:Nat) (Zf a) (fun (i:Nat)=>QdS a i) Mode.any,ZI (Y7 a),ZI (Y8 a),ZI (Y9 a)]
def Zg(a:Nd):Prop:=isN2 a [QdT a] []
def QdU(a:Nd):Prop:=True∧∃(_y:Unit),True∧true=Vy a∧True∧True
def Zh(a:Nat)(b:Nd):Prop:=a≤Kd b∧∀(j:Nat),j<a→nodeV (QdP b j)=true
def QdV(a:Nat)(b:Nd):Prop:=(SM a∧(SM (Za b)∧SM (Y6 b)∧SM (QdE b)∧SM (QdF b)∧SM (QdG b)∧SM (QdH b)∧SM (QdI b)∧(SM (Zb b)∧(∀(i:Nat),i<Zb b→SM (QdK b i))∧True)∧(SM (Zc b)∧(∀(i:Nat),i<Zc b→SM (QdM b i))∧True)∧(SM (Zd b)∧(∀(i:Nat),i<Zd b→SM (QdO b i))∧True)∧(SM (Kd b)∧(∀(i:Nat),i<Kd b→SM (QdQ b i))∧True)∧(SM (Zf b)∧(∀(i:Nat),i<Zf b→SM (QdS b i))∧True)∧SM (Y7 b)∧SM (Y8 b)∧SM (Y9 b)∧True)∧True)∧True
def QE(a:Nd)(b:Nat):Nd:=List.getD (VA a) (Int.toNat (↑b:Int)) Jz
def VB(a:Nd)(b:Nat):Arr:=Nd.va (QE a b)
def QhP(a:Nd)(b:Nat):List Int:=Arr.sh (VB a b)
def QhQ(a:Nd)(b:Nat):List Int:=Arr.nu (VB a b)
def QdW(a:Nd)(b:Nat):List Arr:=Arr.it (VB a b)
def QdX(a:Nd)(b:Nat):List Nd:=Nd.ki (QE a b)
def QdY(a:Nd)(b:Nat):List Sm:=Nd.bo (QE a b)
theorem rva_step(n:Nd)(hn:n.sm)(ho:n.va.ok)(h1:RBdy n.bo)(h2:∀b∈n.ki,RVal b):RVal n:=by
 refine con_of (A:=sC _ _) (x:=()) (E:=Erva n) (eOk (conRva_ok hn ho h1 h2) rfl) Tryz.func28 rfl (by kernel_rfl) rfl (by simp[sC,Erva,EC,E0]) ?_
 refine vc_eq (T :=
  ∀(x:Nat),True→SM x∧ifB (decide (Y6 n<Z0)) (K3 n) (SM x∧ifB (decide (Y7 n<Z0)) (K3 n) (SM x∧ifB (decide (Y8 n<Z0)) (K3 n) (SM x∧ifB (decide (Y9 n<Z0)) (K3 n) (SM x∧ifB (Za n==(10:Int)) (SM x∧∃(x:Unit),Zg n∧∀(y:Unit),True→RT (rLam n=Vy n)) (SM x∧∃(x_1:Unit),Zg n∧∀(y:Unit),True→ifB (rLeaf n) (QdU n) (SM x∧∃(x_2:Unit),Zg n∧∀(y:Unit),True→ifB (!rInner n) (K3 n) ((∃(x_3:Nat),Zh x_3 n∧(Z0=(↑x_3:Int)∧True)∧QdV x n)∧∀(x_3:Nat),Zh x_3 n→SM x∧ifB (decide ((↑x_3:Int)<(NI (Kd n)))) (SM x∧side (Z0≤(↑x_3:Int)∧(↑x_3:Int)<(NI (Kd n))) (∃(x_4:Nd),(isN x_4 [D.agg [ZI (Nd.kd (QE n x_3)),ZI (Nd.at_ (QE n x_3)),ZI (Nd.cl (QE n x_3)),D.str (Nd.tx (QE n x_3)),ZI (Nd.pr (QE n x_3)),ZI (Nd.op (QE n x_3)),ZI (Arr.k (VB n x_3)),SI (QhP n x_3),SI (QhQ n x_3),D.sl N4 (LN (QdW n x_3)) (fun (i:Nat)=>Arr.row (List.getD (QdW n x_3) i Ze)) Mode.any,D.sl (15:Nat) (LN (QdX n x_3)) (fun (i:Nat)=>Nd.row (List.getD (QdX n x_3) i Jz)) Mode.any,D.sl (34:Nat) (LN (QdY n x_3)) (fun (i:Nat)=>Sm.row (List.getD (QdY n x_3) i QdR)) Mode.any,ZI (Nd.de (QE n x_3)),ZI (Nd.sl (QE n x_3)),ZI (Nd.ss (QE n x_3))]] []∧x_4∈VA n)∧∀(y:Unit),True→ifB (!Vy x_4) (K3 n) ((SM (QdT n)∧SM (D.ref N0 x N0)∧True)∧∃(y:Nat),Zh y n∧Kd n-y<Kd n-x_3∧(IntKind.wrap IntKind.i64 ((↑x_3:Int)+Z1)=(↑y:Int)∧True)∧QdV x n))) (QdU n))))))))) (by kernel_rfl) ?_
 delta DA GI LN N0 N1 N4 NI SI SM Z0 Z1 ZI Y6 Vy K3 Y7 Y8 Y9 Za QdE QdF QdG QdH Vz QdI QdJ Zb QdK QdL Zc QdM QdN Zd Ze QdO VA Kd Jz QdP QdQ Zf QdR QdS QdT Zg QdU Zh QdV QE VB QhP QhQ QdW QdX QdY RT
 try simp only[← dm]
 try simp only[← dn]
 simp only[ne_eq,implies_true,Int.toNat_natCast,ifB_iff,side_iff,decide_eq_true_eq,decide_eq_false_iff_not,true_and,and_true,beq_iff_eq,beq_eq_false_iff_ne,Bool.not_eq_true',Bool.not_eq_false',exists_const,forall_const]
 have hl:=maxB_le (sm_len hn).2.1
 unfold maxLen at hl
 have e:=nodeV_ref n
 have no:posB n=false→false=nodeV n:=fun h=>by rw[e,h];rfl
 refine⟨fun c=>no ?_,fun c1=>⟨fun c=>no ?_,fun c2=>⟨fun c=>no ?_,fun c3=>⟨fun c=>no ?_,fun c4=>?_⟩⟩⟩⟩
 ·unfold posB;rw[decide_eq_false (by omega)];rfl
 ·unfold posB;rw[decide_eq_false (p:=0≤n.de) (by omega)];simp
 ·unfold posB;rw[decide_eq_false (p:=0≤n.sl) (by omega)];simp
 ·unfold posB;rw[decide_eq_false (p:=0≤n.ss) (by omega)];simp
 have hp:posB n=true:=by
  unfold posB
  rw[decide_eq_true (by omega),decide_eq_true (by omega),decide_eq_true (by omega),decide_eq_true (by omega)];rfl
 rw[hp,Bool.true_and] at e
 clear no
 refine⟨fun k=>⟨nd2_self n _,?_⟩,fun k=>⟨nd2_self n _,fun c=>?_,fun c=>⟨nd2_self n _,fun d=>?_,fun d=>⟨⟨0,⟨Nat.zero_le _,fun j hj=>absurd hj (by omega)⟩,rfl⟩,fun i ⟨i1,hi⟩=>⟨fun hlt=>?_,fun hge=>?_⟩⟩⟩⟩⟩
 ·rw[e,if_pos k]
 ·rw[e,if_neg k,c];rfl
 ·rw[e,if_neg k,c,d];rfl
 ·have hi1:i<n.ki.length:=by omega
  refine⟨⟨by omega,by omega⟩,n.ki.getD i default,⟨nd_self _ _,nd_getD hi1⟩,fun f=>?_,fun f=>⟨i+1,⟨hi1,fun j hj=>?_⟩,by omega,wrap_i64' (by omega) (by omega)⟩⟩
  ·rw[e,if_neg k,c,d,all_no hi1 f];rfl
  ·by_cases e':j=i
   ·rw[e'];exact f
   ·exact hi j (by omega)
 ·rw[e,if_neg k,c,d,all_yes fun j hj=>hi j (by omega)];rfl
def conRbo:Con:=fun k ds S=>match k with
 |28=>some (pE (β:=Nd) ds S (fun b=>.bool (nodeV b)) (fun b=>isN b ds []∧RVal b))
 |58=>some (pE (β:=Nd) ds S (fun b=>.bool (emptyB b)) (fun b=>isN b ds []∧b.ok∧b.sm))
 |59=>match ds with
  | [.str s]=>some (pA ds S (.bool (nameB s)) True)
  |_=>none
 |_=>none
theorem conRbo_ok:ConOk Tryz.prog conRbo:=by
 intro k ds S A hh
 unfold conRbo at hh
 split at hh
 ·injection hh with hh;subst hh
  exact pS_ok fun b ⟨e,h⟩=>CD.at_ (CD.isN h e) _
 ·injection hh with hh;subst hh
  exact pS_ok fun b ⟨e,h⟩=>CD.at_ (CD.isN (rz_ok b h.1 h.2) e) _
 ·split at hh
  ·injection hh with hh;subst hh
   exact pA_ok fun _=>CD.at_ (rn_ok _) _
  ·cases hh
 ·cases hh
theorem names_iff{l:List Sm}{x:Nat}{v:List UInt8}:(namesD (l.take x)).contains v=true↔∃j,j<x∧j<l.length∧(l.getD j default).kd=2∧(l.getD j default).nm=v:=by
 rw[List.contains_eq_mem,decide_eq_true_eq]
 unfold namesD
 simp only[List.mem_map,List.mem_filter,beq_iff_eq]
 constructor
 ·rintro ⟨s,⟨hm,hk⟩,hn⟩
  obtain ⟨j,hj,e⟩:=List.getElem_of_mem hm
  rw[List.getElem_take] at e
  rw[List.length_take] at hj
  have h1:j<l.length:=by omega
  refine⟨j,by omega,h1,?_,?_⟩
  ·rw[List.getD_eq_getElem?_getD,List.getElem?_eq_getElem h1,Option.getD_some,e];exact hk
  ·rw[List.getD_eq_getElem?_getD,List.getElem?_eq_getElem h1,Option.getD_some,e];exact hn
 ·rintro ⟨j,h1,h2,hk,hn⟩
  have h3:j<(l.take x).length:=by rw[List.length_take];omega
  have e:(l.take x)[j]=l.getD j default:=by rw[List.getElem_take,List.getD_eq_getElem?_getD,List.getElem?_eq_getElem h2];rfl
  exact⟨l.getD j default,⟨by rw[← e];exact List.getElem_mem h3,hk⟩,hn⟩
noncomputable def Erbo(l:List Sm):Senv:={ EC conRbo 130 1 [2,3,4,5,8,12,27,29,30,51,52,56,74,101,102,129] (fun id=>match id with | 18=>([0,1,2,3,4,5,6,7,8,9,10,11,12,13,14,15],[]) | _=>([],[])) with
 mg:=fun _=>2
 ann:=fun b env S=>match b with
  |0=>some { slots:=[3],keep:=[0],α:=Nat,st:=fun i=>([.int .i64 i],S),inv:=fun i=>i≤l.length∧stmtsV true [] l=stmtsV true (namesD (l.take i)) (l.drop i),mu:=fun i=>l.length-i }
  |3=>match Ab.look env 3 with
   |.int _ i=>some { slots:=[5],keep:=[0,3,4],α:=Nat,st:=fun y=>([.int .i64 y],S),inv:=fun y=>y≤i.toNat∧∀j,j<y→¬((l.getD j default).kd=2∧(l.getD j default).nm=(l.getD i.toNat default).nm),mu:=fun y=>i.toNat-y }
   |_=>none
  |_=>none }
def Qh(a:List Sm):Prop:=True∧∃(_y:Unit),True∧false=bodyV true a∧True∧True
def Zi(a:Nat)(b:List Sm):Prop:=a≤LN b∧stmtsV true [] b=stmtsV true (namesD (List.take a b)) (List.drop a b)
def JA:Arr:=DA
def K4:Nd:=Nd.mk Z0 Z0 Z0 [] Z0 Z0 JA [] [] Z0 Z0 Z0
def K5:Sm:=Sm.mk Z0 Z0 [] Z0 K4 K4
def K6(a:List Sm)(b:Nat):Sm:=List.getD a (Int.toNat (↑b:Int)) K5
def QdZ(a:List Sm)(b:Nat):Int:=Sm.at_ (K6 a b)
def QF(a:List Sm)(b:Nat):Nd:=Sm.nd (K6 a b)
def Zj(a:List Sm)(b:Nat):Int:=Nd.kd (QF a b)
def Qd0(a:List Sm)(b:Nat):Int:=Nd.at_ (QF a b)
def VC(a:List Sm)(b:Nat):Int:=Nd.cl (QF a b)
def Qd1(a:List Sm)(b:Nat):List UInt8:=Nd.tx (QF a b)
def Qd2(a:List Sm)(b:Nat):Int:=Nd.pr (QF a b)
def Qd3(a:List Sm)(b:Nat):Int:=Nd.op (QF a b)
def VD(a:List Sm)(b:Nat):Arr:=Nd.va (QF a b)
def Qd4(a:List Sm)(b:Nat):Int:=Arr.k (VD a b)
def Qd5(a:List Sm)(b:Nat):List Int:=Arr.sh (VD a b)
def Zk(a:List Sm)(b:Nat):Nat:=LN (Qd5 a b)
def Qd6(a:List Sm)(b c:Nat):List D:=[ZI (GI (Qd5 a b) c)]
def Qd7(a:List Sm)(b:Nat):List Int:=Arr.nu (VD a b)
def Zl(a:List Sm)(b:Nat):Nat:=LN (Qd7 a b)
def Qd8(a:List Sm)(b c:Nat):List D:=[ZI (GI (Qd7 a b) c)]
def Qd9(a:List Sm)(b:Nat):List Arr:=Arr.it (VD a b)
def Zm(a:List Sm)(b:Nat):Nat:=LN (Qd9 a b)
def Qea(a:List Sm)(b c:Nat):List D:=Arr.row (List.getD (Qd9 a b) c JA)
def Qeb(a:List Sm)(b:Nat):List Nd:=Nd.ki (QF a b)
def Zn(a:List Sm)(b:Nat):Nat:=LN (Qeb a b)
def Qec(a:List Sm)(b c:Nat):List D:=Nd.row (List.getD (Qeb a b) c K4)
def Qed(a:List Sm)(b:Nat):List Sm:=Nd.bo (QF a b)
def Zo(a:List Sm)(b:Nat):Nat:=LN (Qed a b)
def Qee(a:List Sm)(b c:Nat):List D:=Sm.row (List.getD (Qed a b) c K5)
def Qef(a:List Sm)(b:Nat):Int:=Nd.de (QF a b)
def Qeg(a:List Sm)(b:Nat):Int:=Nd.sl (QF a b)
def Qeh(a:List Sm)(b:Nat):Int:=Nd.ss (QF a b)
def VE(a:List Sm)(b:Nat):Int:=Sm.kd (K6 a b)
def Qei(a:List Sm)(b:Nat):Bool:=VC a b != Z1
def K7(a:List Sm)(b:Nat):List UInt8:=Sm.nm (K6 a b)
def Qej(a:List Sm)(b:Nat):Bool:=K7 a b != []
def Zp(a:List Sm)(b:Nat):Int:=Sm.sl (K6 a b)
def Qek(a:List Sm)(b:Nat):Bool:=Zp a b != Z0
def QG(a:List Sm)(b:Nat):Nd:=Sm.te (K6 a b)
def Qel(a:List Sm)(b:Nat):Int:=Nd.kd (QG a b)
def Qem(a:List Sm)(b:Nat):Int:=Nd.at_ (QG a b)
def Zq(a:List Sm)(b:Nat):Int:=Nd.cl (QG a b)
def Qen(a:List Sm)(b:Nat):List UInt8:=Nd.tx (QG a b)
def Qeo(a:List Sm)(b:Nat):Int:=Nd.pr (QG a b)
def Qep(a:List Sm)(b:Nat):Int:=Nd.op (QG a b)
def VF(a:List Sm)(b:Nat):Arr:=Nd.va (QG a b)
def Qeq(a:List Sm)(b:Nat):Int:=Arr.k (VF a b)
def Qer(a:List Sm)(b:Nat):List Int:=Arr.sh (VF a b)
def Zr(a:List Sm)(b:Nat):Nat:=LN (Qer a b)
def Qes(a:List Sm)(b c:Nat):List D:=[ZI (GI (Qer a b) c)]
def Qet(a:List Sm)(b:Nat):List Int:=Arr.nu (VF a b)
def Zs(a:List Sm)(b:Nat):Nat:=LN (Qet a b)
def Qeu(a:List Sm)(b c:Nat):List D:=[ZI (GI (Qet a b) c)]
def Qev(a:List Sm)(b:Nat):List Arr:=Arr.it (VF a b)
def Zt(a:List Sm)(b:Nat):Nat:=LN (Qev a b)
def Qew(a:List Sm)(b c:Nat):List D:=Arr.row (List.getD (Qev a b) c JA)
def Qex(a:List Sm)(b:Nat):List Nd:=Nd.ki (QG a b)
def Zu(a:List Sm)(b:Nat):Nat:=LN (Qex a b)
def Qey(a:List Sm)(b c:Nat):List D:=Nd.row (List.getD (Qex a b) c K4)
def Qez(a:List Sm)(b:Nat):List Sm:=Nd.bo (QG a b)
def Zv(a:List Sm)(b:Nat):Nat:=LN (Qez a b)
def QeA(a:List Sm)(b c:Nat):List D:=Sm.row (List.getD (Qez a b) c K5)
def QeB(a:List Sm)(b:Nat):Int:=Nd.de (QG a b)
def QeC(a:List Sm)(b:Nat):Int:=Nd.sl (QG a b)
def QeD(a:List Sm)(b:Nat):Int:=Nd.ss (QG a b)
def QeE(a:Nd)(b:List Sm)(c:Nat):Prop:=isN a [D.agg [ZI (Qel b c),ZI (Qem b c),ZI (Zq b c),D.str (Qen b c),ZI (Qeo b c),ZI (Qep b c),ZI (Qeq b c),D.sl N1 (Zr b c) (fun (i:Nat)=>Qes b c i) Mode.any,D.sl N1 (Zs b c) (fun (i:Nat)=>Qeu b c i) Mode.any,D.sl N4 (Zt b c) (fun (i:Nat)=>Qew b c i) Mode.any,D.sl (15:Nat) (Zu b c) (fun (i:Nat)=>Qey b c i) Mode.any,D.sl (34:Nat) (Zv b c) (fun (i:Nat)=>QeA b c i) Mode.any,ZI (QeB b c),ZI (QeC b c),ZI (QeD b c)]] []
def QeF(a:Nd)(b:List Sm)(c:Nat):Prop:=QeE a b c∧Nd.ok a∧Nd.sm a
def K8(a:List Sm)(b:Nat):Sm:=List.getD a b K5
def QeG(a:List Sm)(b:Nat):Int:=Sm.kd (K8 a b)
def QeH(a:List Sm)(b:Nat):List UInt8:=Sm.nm (K8 a b)
def QH(a:List Sm)(b:Nat):Nd:=Sm.te (K8 a b)
def VG(a:List Sm)(b:Nat):Arr:=Nd.va (QH a b)
def QhR(a:List Sm)(b:Nat):List Int:=Arr.sh (VG a b)
def QhS(a:List Sm)(b:Nat):List Int:=Arr.nu (VG a b)
def QeI(a:List Sm)(b:Nat):List Arr:=Arr.it (VG a b)
def QeJ(a:List Sm)(b:Nat):List Nd:=Nd.ki (QH a b)
def QeK(a:List Sm)(b:Nat):List Sm:=Nd.bo (QH a b)
def QI(a:List Sm)(b:Nat):Nd:=Sm.nd (K8 a b)
def VH(a:List Sm)(b:Nat):Arr:=Nd.va (QI a b)
def QhT(a:List Sm)(b:Nat):List Int:=Arr.sh (VH a b)
def QhU(a:List Sm)(b:Nat):List Int:=Arr.nu (VH a b)
def QeL(a:List Sm)(b:Nat):List Arr:=Arr.it (VH a b)
def QeM(a:List Sm)(b:Nat):List Nd:=Nd.ki (QI a b)
def QeN(a:List Sm)(b:Nat):List Sm:=Nd.bo (QI a b)
def QhV(a:List Sm):D:=D.sl (34:Nat) (LN a) (fun (i:Nat)=>[ZI (QeG a i),ZI (Sm.at_ (K8 a i)),D.str (QeH a i),ZI (Sm.sl (K8 a i)),ZI (Nd.kd (QH a i)),ZI (Nd.at_ (QH a i)),ZI (Nd.cl (QH a i)),D.str (Nd.tx (QH a i)),ZI (Nd.pr (QH a i)),ZI (Nd.op (QH a i)),ZI (Arr.k (VG a i)),SI (QhR a i),SI (QhS a i),D.sl N4 (LN (QeI a i)) (fun (i_1:Nat)=>Arr.row (List.getD (QeI a i) i_1 JA)) Mode.any,D.sl (15:Nat) (LN (QeJ a i)) (fun (i_1:Nat)=>Nd.row (List.getD (QeJ a i) i_1 K4)) Mode.any,D.sl (34:Nat) (LN (QeK a i)) (fun (i_1:Nat)=>Sm.row (List.getD (QeK a i) i_1 K5)) Mode.any,ZI (Nd.de (QH a i)),ZI (Nd.sl (QH a i)),ZI (Nd.ss (QH a i)),ZI (Nd.kd (QI a i)),ZI (Nd.at_ (QI a i)),ZI (Nd.cl (QI a i)),D.str (Nd.tx (QI a i)),ZI (Nd.pr (QI a i)),ZI (Nd.op (QI a i)),ZI (Arr.k (VH a i)),SI (QhT a i),SI (QhU a i),D.sl N4 (LN (QeL a i)) (fun (i_1:Nat)=>Arr.row (List.getD (QeL a i) i_1 JA)) Mode.any,D.sl (15:Nat) (LN (QeM a i)) (fun (i_1:Nat)=>Nd.row (List.getD (QeM a i) i_1 K4)) Mode.any,D.sl (34:Nat) (LN (QeN a i)) (fun (i_1:Nat)=>Sm.row (List.getD (QeN a i) i_1 K5)) Mode.any,ZI (Nd.de (QI a i)),ZI (Nd.sl (QI a i)),ZI (Nd.ss (QI a i))]) Mode.any
def QeO(a:List Sm):Prop:=SM (QhV a)
def VI(a:List Sm)(b:Nat):Prop:=(QeO a∧True)∧∃(y:Nat),Zi y a∧LN a-y<LN a-b∧(IntKind.wrap IntKind.i64 ((↑b:Int)+Z1)=(↑y:Int)∧True)∧True∧True
def QeP(a:List Sm)(b:Nat):Bool:=VE a b==(2:Int)
def Zw(a b:Nat)(c:List Sm):Prop:=a≤Int.toNat (↑b:Int)∧∀(j:Nat),j<a→¬(QeG c j=(2:Int)∧QeH c j=K7 c b)
def QeQ(a:Nat)(b:List Sm)(c:Nat):Prop:=(SM a∧(SM (VE b c)∧SM (QdZ b c)∧SM (K7 b c)∧SM (Zp b c)∧SM (Qel b c)∧SM (Qem b c)∧SM (Zq b c)∧SM (Qen b c)∧SM (Qeo b c)∧SM (Qep b c)∧SM (Qeq b c)∧(SM (Zr b c)∧(∀(i:Nat),i<Zr b c→SM (Qes b c i))∧True)∧(SM (Zs b c)∧(∀(i:Nat),i<Zs b c→SM (Qeu b c i))∧True)∧(SM (Zt b c)∧(∀(i:Nat),i<Zt b c→SM (Qew b c i))∧True)∧(SM (Zu b c)∧(∀(i:Nat),i<Zu b c→SM (Qey b c i))∧True)∧(SM (Zv b c)∧(∀(i:Nat),i<Zv b c→SM (QeA b c i))∧True)∧SM (QeB b c)∧SM (QeC b c)∧SM (QeD b c)∧SM (Zj b c)∧SM (Qd0 b c)∧SM (VC b c)∧SM (Qd1 b c)∧SM (Qd2 b c)∧SM (Qd3 b c)∧SM (Qd4 b c)∧(SM (Zk b c)∧(∀(i:Nat),i<Zk b c→SM (Qd6 b c i))∧True)∧(SM (Zl b c)∧(∀(i:Nat),i<Zl b c→SM (Qd8 b c i))∧True)∧(SM (Zm b c)∧(∀(i:Nat),i<Zm b c→SM (Qea b c i))∧True)∧(SM (Zn b c)∧(∀(i:Nat),i<Zn b c→SM (Qec b c i))∧True)∧(SM (Zo b c)∧(∀(i:Nat),i<Zo b c→SM (Qee b c i))∧True)∧SM (Qef b c)∧SM (Qeg b c)∧SM (Qeh b c)∧True)∧True)∧True
def QeR(a:List Sm)(b c d:Nat):Prop:=(QeO a∧SM (ZI (↑b:Int))∧SM (D.ref N0 c N0)∧True)∧∃(y:Nat),Zw y b a∧Int.toNat (↑b:Int)-y<Int.toNat (↑b:Int)-d∧(IntKind.wrap IntKind.i64 ((↑d:Int)+Z1)=(↑y:Int)∧True)∧QeQ c a b
theorem rbo_step(l:List Sm)(hl:l.length≤maxB)(h:∀s∈l,RVal s.nd∧RVal s.te∧(s.te.ok∧s.te.sm)):RBdy l:=by
 refine con_of (A:=sC _ _) (x:=()) (E:=Erbo l) (eOk conRbo_ok rfl) Tryz.func37 rfl (by kernel_rfl) rfl (by simp[sC,Erbo,EC,E0]) ?_
 refine vc_eq (T :=
  ifB (decide ((1000:Int)<(LI l))) (Qh l) ((∃(x:Nat),Zi x l∧(Z0=(↑x:Int)∧True)∧True∧True)∧∀(x:Nat),Zi x l→ifB (decide ((↑x:Int)<(LI l))) (side (Z0≤(↑x:Int)∧(↑x:Int)<(LI l)) (∀(x_1:Nat),True→SM x_1∧SM x_1∧ifB (decide (QdZ l x<Z0)) (Qh l) (SM x_1∧∃(x_2:Nd),(isN x_2 [D.agg [ZI (Zj l x),ZI (Qd0 l x),ZI (VC l x),D.str (Qd1 l x),ZI (Qd2 l x),ZI (Qd3 l x),ZI (Qd4 l x),D.sl N1 (Zk l x) (fun (i:Nat)=>Qd6 l x i) Mode.any,D.sl N1 (Zl l x) (fun (i:Nat)=>Qd8 l x i) Mode.any,D.sl N4 (Zm l x) (fun (i:Nat)=>Qea l x i) Mode.any,D.sl (15:Nat) (Zn l x) (fun (i:Nat)=>Qec l x i) Mode.any,D.sl (34:Nat) (Zo l x) (fun (i:Nat)=>Qee l x i) Mode.any,ZI (Qef l x),ZI (Qeg l x),ZI (Qeh l x)]] []∧RVal x_2)∧∀(y:Unit),True→ifB (!nodeV x_2) (Qh l) (SM x_1∧ifB (VE l x==Z1) (SM x_1∧ifB (Qei l x) (Qh l) (SM x_1∧ifB (Qej l x) (Qh l) (SM x_1∧ifB (Qek l x) (Qh l) (SM x_1∧∃(x_3:Nd),QeF x_3 l x∧∀(y:Unit),True→ifB (!emptyB x_3) (Qh l) (VI l x))))) (ifB (QeP l x) ((∃(x_3:Nat),Zw x_3 x l∧(Z0=(↑x_3:Int)∧True)∧QeQ x_1 l x)∧∀(x_3:Nat),Zw x_3 x l→ifB (decide ((↑x_3:Int)<(↑x:Int))) (side (Z0≤(↑x_3:Int)∧(↑x_3:Int)<(LI l)) (ifB (QeP l x_3) (side (Z0≤(↑x_3:Int)∧(↑x_3:Int)<(LI l)) (SM x_1∧ifB (K7 l x_3==K7 l x) (Qh l) (QeR l x x_1 x_3))) (QeR l x x_1 x_3))) (SM x_1∧∃(x_4:Unit),True∧∀(y:Unit),True→ifB (!nameB (K7 l x)) (Qh l) (SM x_1∧ifB (decide (Zp l x<Z0)) (Qh l) (SM x_1∧∃(x_5:Nd),QeF x_5 l x∧∀(y:Unit),True→ifB (!emptyB x_5) (Qh l) (SM x_1∧ifB (decide ((3:Int)≤VC l x)) (SM x_1∧ifB (Zj l x != (10:Int)) (Qh l) (VI l x)) (VI l x)))))) (ifB (VE l x==(3:Int)) (SM x_1∧ifB (Qei l x) (Qh l) (SM x_1∧∃(x_3:Nd),(QeE x_3 l x∧RVal x_3)∧∀(y:Unit),True→ifB (!nodeV x_3) (Qh l) (SM x_1∧ifB (Zq l x != Z1) (Qh l) (SM x_1∧ifB (Qej l x) (Qh l) (SM x_1∧ifB (Qek l x) (Qh l) (VI l x)))))) (Qh l))))))) (RT (true=bodyV true l)))) (by kernel_rfl) ?_
 delta DA GI LI LN N0 N1 N4 SI SM Z0 Z1 ZI Qee Qef Qeg Qeh VE Qei K7 Qej Zp Qek QG Qel Qem Zq Qen Qeo Qep VF Qeq Qer Zr Qes Qet Zs Qeu Qev Zt Qew Qex Zu Qey Qez Zv QeA QeB QeC QeD QeE QeF K8 QeG QeH QH VG QhR QhS QeI QeJ QeK QI VH QhT QhU QeL QeM QeN QhV QeO VI QeP Zw QeQ QeR Qh Zi JA K4 K5 K6 QdZ QF Zj Qd0 VC Qd1 Qd2 Qd3 VD Qd4 Qd5 Zk Qd6 Qd7 Zl Qd8 Qd9 Zm Qea Qeb Zn Qec Qed Zo RT
 try simp only[← dm]
 try simp only[← dn]
 simp only[ne_eq,implies_true,Int.toNat_natCast,ifB_iff,side_iff,decide_eq_true_eq,decide_eq_false_iff_not,true_and,and_true,beq_iff_eq,bne_iff_ne,bne_eq_false_iff_eq,beq_eq_false_iff_ne,Bool.not_eq_true',Bool.not_eq_false',exists_const,forall_const]
 unfold maxB at hl
 have hbody:bodyV true l=(decide (l.length≤1000)&&stmtsV true [] l):=rfl
 refine⟨fun c=>?_,fun c=>⟨⟨0,⟨Nat.zero_le _,rfl⟩,rfl⟩,fun x ⟨x1,hx⟩=>⟨fun hlt=>?_,fun hge=>?_⟩⟩⟩
 ·rw[hbody,decide_eq_false (by omega)];rfl
 ·have hlt':x<l.length:=by omega
  rw[decide_eq_true (by omega),Bool.true_and,hx,stmts_step hlt',← rStm_eq] at hbody
  obtain ⟨v1,v2,v3⟩:=h _ (sm_getD hlt')
  have w:IntKind.i64.wrap ((x:Int)+1)=((x+1:Nat):Int):=by rw[wrap_i64' (by omega) (by omega)];rfl
  have no:rStm (namesD (l.take x)) (l.getD x default)=false→false=bodyV true l:=fun h=>by rw[hbody,h];rfl
  have go:rStm (namesD (l.take x)) (l.getD x default)=true→∃y,(y≤l.length∧stmtsV true [] l=stmtsV true (namesD (List.take y l)) (List.drop y l))∧l.length-y<l.length-x∧IntKind.i64.wrap ((x:Int)+1)=(y:Int):=fun h =>
   ⟨x+1,⟨hlt',by rw[hx,stmts_step hlt',← rStm_eq,h,Bool.true_and]⟩,by omega,w⟩
  have nin:=names_iff (l:=l) (x:=x) (v:=(l.getD x default).nm)
  clear hx hbody h w
  unfold rStm at no go
  generalize hs:l.getD x default=s at *
  refine⟨⟨by omega,hlt⟩,fun a0=>no ?_,fun a0=>⟨s.nd,⟨nd_self _ _,v1⟩,fun a1=>no ?_,fun a1=>?_⟩⟩
  ·rw[decide_eq_false (by omega)];rfl
  ·rw[a1];simp
  have at0:decide (0≤s.at_)=true:=decide_eq_true (by omega)
  rw[at0,a1] at no go
  refine⟨fun k1=>?_,fun n1=>⟨fun k2=>?_,fun n2=>⟨fun k3=>?_,fun n3=>?_⟩⟩⟩
  ·rw[if_pos k1] at no go
   clear nin
   refine⟨fun b1=>no ?_,fun b1=>⟨fun b2=>no ?_,fun b2=>⟨fun b3=>no ?_,fun b3=>⟨s.te,⟨nd_self _ _,v3⟩,fun b4=>no ?_,fun b4=>go ?_⟩⟩⟩⟩
   all_goals simp_all
  ·rw[if_neg n1,if_pos k2] at no go
   refine⟨⟨0,⟨Nat.zero_le _,fun j hj=>absurd hj (by omega)⟩,rfl⟩,fun y ⟨y1,hy⟩=>⟨fun hly=>⟨⟨by omega,by omega⟩,fun b1=>⟨⟨by omega,by omega⟩,fun b2=>no ?_,fun b2=>⟨y+1,⟨by omega,fun j hj=>?_⟩,by omega,wrap_i64' (by omega) (by omega)⟩⟩,fun b1=>⟨y+1,⟨by omega,fun j hj=>?_⟩,by omega,wrap_i64' (by omega) (by omega)⟩⟩,fun hgy=>?_⟩⟩
   ·rw[nin.2 ⟨y,by omega,by omega,b1,b2⟩];simp
   ·by_cases e':j=y
    ·rw[e'];exact fun e=>b2 e.2
    ·exact hy j (by omega)
   ·by_cases e':j=y
    ·rw[e'];exact fun e=>b1 e.1
    ·exact hy j (by omega)
   ·have hn:(namesD (l.take x)).contains s.nm=false:=by
     cases e:(namesD (l.take x)).contains s.nm with
     |false=>rfl
     |true =>
      obtain ⟨j,j1,_,j3,j4⟩:=nin.1 e
      exact (hy j (by omega) ⟨j3,j4⟩).elim
    rw[hn] at no go
    clear nin hn hy
    refine⟨fun b1=>no ?_,fun b1=>⟨fun b2=>no ?_,fun b2=>⟨s.te,⟨nd_self _ _,v3⟩,fun b4=>no ?_,fun b4=>⟨fun b5=>⟨fun b6=>no ?_,fun b6=>go ?_⟩,fun b5=>go ?_⟩⟩⟩⟩
    ·rw[b1];simp
    ·rw[decide_eq_false (p:=0≤s.sl) (by omega)];simp
    ·rw[b4];simp
    ·rw[decide_eq_true (p:=3≤s.nd.cl) b5];simp[b6]
    ·rw[b1,b4,b6,decide_eq_true (p:=0≤s.sl) (by omega)];simp
    ·rw[b1,b4,decide_eq_true (p:=0≤s.sl) (by omega),decide_eq_false (p:=3≤s.nd.cl) b5];rfl
  ·rw[if_neg n1,if_neg n2,if_pos k3] at no go
   clear nin
   refine⟨fun b1=>no ?_,fun b1=>⟨s.te,⟨nd_self _ _,v2⟩,fun b2=>no ?_,fun b2=>⟨fun b3=>no ?_,fun b3=>⟨fun b4=>no ?_,fun b4=>⟨fun b5=>no ?_,fun b5=>go ?_⟩⟩⟩⟩⟩
   all_goals simp_all
  ·rw[if_neg n1,if_neg n2,if_neg n3] at no
   exact no (by simp)
 ·have e:x=l.length:=by omega
  rw[e,stmts_done (Nat.le_refl _)] at hx
  rw[hbody,hx,decide_eq_true (by omega)];rfl
def depM(k:Nat)(m:Int):Int:=if (k:Int)≤m+1 then (k:Int) else m+1
def RDep(n:Nd)(m:Int):Prop:=CD 26 [.agg n.row2,.int .i64 m] (.int .i64 (depM (dpN n) m))
theorem dpL_take{l:List Nd}{i:Nat}(h:i<l.length):dpL (l.take (i+1))=max (dpL (l.take i)) (dpN (l.getD i default)):=by
 rw[take_step h,dpL_app]
 simp only[dpL]
 omega
theorem dpB_app:∀a b:List Sm,dpB (a++b)=max (dpB a) (dpB b)
 | [],b=>by simp only[List.nil_append,dpB];omega
 |x::a,b=>by simp only[List.cons_append,dpB,dpB_app a b];omega
theorem dpM_eq(s:Sm):dpM s=if s.kd=3 then max (dpN s.te) (dpN s.nd) else dpN s.nd:=by
 cases s
 simp only[dpM]
 rfl
theorem dpB_take{l:List Sm}{i:Nat}(h:i<l.length):dpB (l.take (i+1))=max (dpB (l.take i)) (dpM (l.getD i default)):=by
 rw[take_step h,dpB_app]
 simp only[dpB]
 omega
theorem dpN_eq(n:Nd):dpN n=1+max (dpL n.ki) (dpB n.bo):=by
 cases n
 simp only[dpN]
 rfl
def conRdp(p:Nd→Prop):Con:=fun k ds S=>match k with
 |26=>match ds with
  | [_,.int .i64 m]=>some (pE (β:=Nd) ds S (fun b=>.int .i64 (depM (dpN b) m)) (fun b=>isN b ds [.int .i64 m]∧0≤m∧m≤60∧p b))
  |_=>none
 |_=>none
theorem conRdp_ok{p:Nd→Prop}(h:∀b,p b→∀m,0≤m→m≤60→RDep b m):ConOk Tryz.prog (conRdp p):=by
 intro k ds S A hh
 unfold conRdp at hh
 split at hh
 ·split at hh
  ·injection hh with hh;subst hh
   exact pS_ok fun b ⟨e,h0,h1,hb⟩=>CD.at_ (CD.isN (h b hb _ h0 h1) e) _
  ·cases hh
 ·cases hh
noncomputable def Erdp(p:Nd→Prop)(n:Nd)(m:Int):Senv:={ EC (conRdp p) 65 3 [4,5,6,7,9,14,31,51] (fun _=>([],[])) with
 mg:=fun _=>2
 ann:=fun b _ S=>match b with
  |0=>some { slots:=[6,5],keep:=[0,1,2],α:=Nat×Int,st:=fun y=>([.int .i64 y.1,.int .i64 y.2],S),inv:=fun y=>y.1≤n.ki.length∧0≤y.2∧y.2=depM (dpL (n.ki.take y.1)) (m-1),mu:=fun y=>n.ki.length-y.1 }
  |2=>some { slots:=[7,5],keep:=[0,1,2],α:=Nat×Int,st:=fun y=>([.int .i64 y.1,.int .i64 y.2],S),inv:=fun y=>y.1≤n.bo.length∧0≤y.2∧y.2=depM (max (dpL n.ki) (dpB (n.bo.take y.1))) (m-1),mu:=fun y=>n.bo.length-y.1 }
  |_=>none }
def QeS(a:Nd)(b:Int):Int:=depM (dpN a) b
def JB(a:Nd):List Nd:=Nd.ki a
def Ke(a:Nd):Nat:=LN (JB a)
def Zx(a:Nat)(b:Nd)(c d:Int):Prop:=a≤Ke b∧Z0≤c∧c=depM (dpL (List.take a (JB b))) (d-Z1)
def QeT(a:Nd):Int:=Nd.kd a
def QeU(a:Nd):Int:=Nd.at_ a
def QeV(a:Nd):Int:=Nd.cl a
def QeW(a:Nd):List UInt8:=Nd.tx a
def QeX(a:Nd):Int:=Nd.pr a
def QeY(a:Nd):Int:=Nd.op a
def VJ(a:Nd):Arr:=Nd.va a
def QeZ(a:Nd):Int:=Arr.k (VJ a)
def Qe0(a:Nd):List Int:=Arr.sh (VJ a)
def Zy(a:Nd):Nat:=LN (Qe0 a)
def Qe1(a:Nd)(b:Nat):List D:=[ZI (GI (Qe0 a) b)]
def Qe2(a:Nd):List Int:=Arr.nu (VJ a)
def Zz(a:Nd):Nat:=LN (Qe2 a)
def Qe3(a:Nd)(b:Nat):List D:=[ZI (GI (Qe2 a) b)]
def Qe4(a:Nd):List Arr:=Arr.it (VJ a)
def ZA(a:Nd):Nat:=LN (Qe4 a)
def JC:Arr:=DA
def Qe5(a:Nd)(b:Nat):List D:=Arr.row (List.getD (Qe4 a) b JC)
def Kv:Nd:=Nd.mk Z0 Z0 Z0 [] Z0 Z0 JC [] [] Z0 Z0 Z0
def Qe6(a:Nd)(b:Nat):List D:=Nd.row1 (List.getD (JB a) b Kv)
def VK(a:Nd):List Sm:=Nd.bo a
def Kw(a:Nd):Nat:=LN (VK a)
def JD:Sm:=Sm.mk Z0 Z0 [] Z0 Kv Kv
def Qe7(a:Nd)(b:Nat):List D:=Sm.row1 (List.getD (VK a) b JD)
def Qe8(a:Nd):Int:=Nd.de a
def Qe9(a:Nd):Int:=Nd.sl a
def Qfa(a:Nd):Int:=Nd.ss a
def VL(a:Nat)(b:Nd):Prop:=(SM a∧(SM (QeT b)∧SM (QeU b)∧SM (QeV b)∧SM (QeW b)∧SM (QeX b)∧SM (QeY b)∧SM (QeZ b)∧(SM (Zy b)∧(∀(i:Nat),i<Zy b→SM (Qe1 b i))∧True)∧(SM (Zz b)∧(∀(i:Nat),i<Zz b→SM (Qe3 b i))∧True)∧(SM (ZA b)∧(∀(i:Nat),i<ZA b→SM (Qe5 b i))∧True)∧(SM (Ke b)∧(∀(i:Nat),i<Ke b→SM (Qe6 b i))∧True)∧(SM (Kw b)∧(∀(i:Nat),i<Kw b→SM (Qe7 b i))∧True)∧SM (Qe8 b)∧SM (Qe9 b)∧SM (Qfa b)∧True)∧True)∧True
def QJ(a:Nd)(b:Nat):Nd:=List.getD (JB a) (Int.toNat (↑b:Int)) Kv
def VM(a:Nd)(b:Nat):Arr:=Nd.va (QJ a b)
def QhW(a:Nd)(b:Nat):List Int:=Arr.sh (VM a b)
def QhX(a:Nd)(b:Nat):List Int:=Arr.nu (VM a b)
def Qfb(a:Nd)(b:Nat):List Arr:=Arr.it (VM a b)
def Qfc(a:Nd)(b:Nat):List Nd:=Nd.ki (QJ a b)
def Qfd(a:Nd)(b:Nat):List Sm:=Nd.bo (QJ a b)
def VN(a:Int):Int:=IntKind.wrap IntKind.i64 (a-Z1)
def K9(a:Int):List D:=[ZI (VN a)]
def ZC(a:Int)(b:Nd→Prop)(c:Nd):Prop:=Z0≤VN a∧VN a≤(60:Int)∧b c
def QhY(a:Nd):D:=D.agg [ZI (QeT a),ZI (QeU a),ZI (QeV a),D.str (QeW a),ZI (QeX a),ZI (QeY a),ZI (QeZ a),D.sl N1 (Zy a) (fun (i:Nat)=>Qe1 a i) Mode.any,D.sl N1 (Zz a) (fun (i:Nat)=>Qe3 a i) Mode.any,D.sl N4 (ZA a) (fun (i:Nat)=>Qe5 a i) Mode.any,D.sl (15:Nat) (Ke a) (fun (i:Nat)=>Qe6 a i) Mode.any,D.sl (34:Nat) (Kw a) (fun (i:Nat)=>Qe7 a i) Mode.any,ZI (Qe8 a),ZI (Qe9 a),ZI (Qfa a)]
def ZD(a:Nd)(b:Int)(c:Nat):Prop:=SM (QhY a)∧SM (ZI b)∧SM (D.ref N0 c N0)∧True
def VO(a:Nd)(b:Int):Int:=depM (dpN a) (VN b)
def ZE(a:Int)(b:Nd)(c:Int):Int:=if a<VO b c then VO b c else a
def Qfe(a b:Nat)(c:Int)(d:Nd)(e f:Int)(g:Nat)(h:Nd):Prop:=(IntKind.wrap IntKind.i64 ((↑a:Int)+Z1)=(↑b:Int)∧ZE c d e=f∧True)∧VL g h
def VP(a:Nat)(b:Nd)(c d:Int):Prop:=a≤Kw b∧Z0≤c∧c=depM (max (dpL (JB b)) (dpB (List.take a (VK b)))) (d-Z1)
def VQ(a:Nd):Int:=(NI (Kw a))
def ZF(a:Nd)(b:Nat):Sm:=List.getD (VK a) (Int.toNat (↑b:Int)) JD
def QK(a:Nd)(b:Nat):Nd:=Sm.nd (ZF a b)
def VR(a:Nd)(b:Nat):Arr:=Nd.va (QK a b)
def QhZ(a:Nd)(b:Nat):List Int:=Arr.sh (VR a b)
def Qh0(a:Nd)(b:Nat):List Int:=Arr.nu (VR a b)
def Qff(a:Nd)(b:Nat):List Arr:=Arr.it (VR a b)
def Qfg(a:Nd)(b:Nat):List Nd:=Nd.ki (QK a b)
def Qfh(a:Nd)(b:Nat):List Sm:=Nd.bo (QK a b)
def QL(a:Nd)(b:Nat):Nd:=Sm.te (ZF a b)
def VS(a:Nd)(b:Nat):Arr:=Nd.va (QL a b)
def Qh1(a:Nd)(b:Nat):List Int:=Arr.sh (VS a b)
def Qh2(a:Nd)(b:Nat):List Int:=Arr.nu (VS a b)
def Qfi(a:Nd)(b:Nat):List Arr:=Arr.it (VS a b)
def Qfj(a:Nd)(b:Nat):List Nd:=Nd.ki (QL a b)
def Qfk(a:Nd)(b:Nat):List Sm:=Nd.bo (QL a b)
def Qfl(a:Nd)(b c:Nat):Prop:=Kw a-b<Kw a-c
theorem rdp_step(p:Nd→Prop)(n:Nd)(m:Int)(h0:0≤m)(h1:m≤60)(hn:n.sm)(h:∀b,p b→∀m,0≤m→m≤60→RDep b m)(hk:∀b∈n.ki,p b)(hb:∀s∈n.bo,p s.te∧p s.nd):RDep n m:=by
 refine con_of (A:=sC _ _) (x:=()) (E:=Erdp p n m) (eOk (conRdp_ok h) rfl) Tryz.func26 rfl (by kernel_rfl) rfl (by simp[sC,Erdp,EC,E0]) ?_
 refine vc_eq (T :=
  ∀(x:Nat),True→ifB (decide (m≤Z0)) (RT (Z1=QeS n m)) ((∃(x_1:Nat×Int),Zx x_1.1 n x_1.2 m∧(Z0=(NI x_1.1)∧Z0=x_1.2∧True)∧VL x n)∧∀(x_1:Nat×Int),Zx x_1.1 n x_1.2 m→SM x∧ifB (decide ((NI x_1.1)<(NI (Ke n)))) (SM x∧side (Z0≤(NI x_1.1)∧(NI x_1.1)<(NI (Ke n))) (∃(x_2:Nd),(isN x_2 (D.agg [ZI (Nd.kd (QJ n x_1.1)),ZI (Nd.at_ (QJ n x_1.1)),ZI (Nd.cl (QJ n x_1.1)),D.str (Nd.tx (QJ n x_1.1)),ZI (Nd.pr (QJ n x_1.1)),ZI (Nd.op (QJ n x_1.1)),ZI (Arr.k (VM n x_1.1)),SI (QhW n x_1.1),SI (QhX n x_1.1),D.sl N4 (LN (Qfb n x_1.1)) (fun (i:Nat)=>Arr.row (List.getD (Qfb n x_1.1) i JC)) Mode.any,D.sl (15:Nat) (LN (Qfc n x_1.1)) (fun (i:Nat)=>Nd.row (List.getD (Qfc n x_1.1) i Kv)) Mode.any,D.sl (34:Nat) (LN (Qfd n x_1.1)) (fun (i:Nat)=>Sm.row (List.getD (Qfd n x_1.1) i JD)) Mode.any,ZI (Nd.de (QJ n x_1.1)),ZI (Nd.sl (QJ n x_1.1)),ZI (Nd.ss (QJ n x_1.1))]::K9 m) (K9 m)∧ZC m p x_2)∧∀(y:Unit),True→ZD n m x∧∃(y:Nat×Int),Zx y.1 n y.2 m∧Ke n-y.1<Ke n-x_1.1∧Qfe x_1.1 y.1 x_1.2 x_2 m y.2 x n)) ((∃(x_2:Nat×Int),VP x_2.1 n x_2.2 m∧(Z0=(NI x_2.1)∧x_1.2=x_2.2∧True)∧VL x n)∧∀(x_2:Nat×Int),VP x_2.1 n x_2.2 m→SM x∧ifB (decide ((NI x_2.1)<VQ n)) (SM x∧side (Z0≤(NI x_2.1)∧(NI x_2.1)<VQ n) (∃(x_3:Nd),(isN x_3 (D.agg [ZI (Nd.kd (QK n x_2.1)),ZI (Nd.at_ (QK n x_2.1)),ZI (Nd.cl (QK n x_2.1)),D.str (Nd.tx (QK n x_2.1)),ZI (Nd.pr (QK n x_2.1)),ZI (Nd.op (QK n x_2.1)),ZI (Arr.k (VR n x_2.1)),SI (QhZ n x_2.1),SI (Qh0 n x_2.1),D.sl N4 (LN (Qff n x_2.1)) (fun (i:Nat)=>Arr.row (List.getD (Qff n x_2.1) i JC)) Mode.any,D.sl (15:Nat) (LN (Qfg n x_2.1)) (fun (i:Nat)=>Nd.row (List.getD (Qfg n x_2.1) i Kv)) Mode.any,D.sl (34:Nat) (LN (Qfh n x_2.1)) (fun (i:Nat)=>Sm.row (List.getD (Qfh n x_2.1) i JD)) Mode.any,ZI (Nd.de (QK n x_2.1)),ZI (Nd.sl (QK n x_2.1)),ZI (Nd.ss (QK n x_2.1))]::K9 m) (K9 m)∧ZC m p x_3)∧∀(y:Unit),True→SM x∧side (Z0≤(NI x_2.1)∧(NI x_2.1)<VQ n) (ifB (Sm.kd (ZF n x_2.1)==(3:Int)) (SM x∧side (Z0≤(NI x_2.1)∧(NI x_2.1)<VQ n) (∃(x_4:Nd),(isN x_4 (D.agg [ZI (Nd.kd (QL n x_2.1)),ZI (Nd.at_ (QL n x_2.1)),ZI (Nd.cl (QL n x_2.1)),D.str (Nd.tx (QL n x_2.1)),ZI (Nd.pr (QL n x_2.1)),ZI (Nd.op (QL n x_2.1)),ZI (Arr.k (VS n x_2.1)),SI (Qh1 n x_2.1),SI (Qh2 n x_2.1),D.sl N4 (LN (Qfi n x_2.1)) (fun (i:Nat)=>Arr.row (List.getD (Qfi n x_2.1) i JC)) Mode.any,D.sl (15:Nat) (LN (Qfj n x_2.1)) (fun (i:Nat)=>Nd.row (List.getD (Qfj n x_2.1) i Kv)) Mode.any,D.sl (34:Nat) (LN (Qfk n x_2.1)) (fun (i:Nat)=>Sm.row (List.getD (Qfk n x_2.1) i JD)) Mode.any,ZI (Nd.de (QL n x_2.1)),ZI (Nd.sl (QL n x_2.1)),ZI (Nd.ss (QL n x_2.1))]::K9 m) (K9 m)∧ZC m p x_4)∧∀(y:Unit),True→ZD n m x∧∃(y:Nat×Int),VP y.1 n y.2 m∧Qfl n y.1 x_2.1∧(IntKind.wrap IntKind.i64 ((NI x_2.1)+Z1)=(NI y.1)∧(if ZE x_2.2 x_3 m<VO x_4 m then VO x_4 m else ZE x_2.2 x_3 m)=y.2∧True)∧VL x n)) (ZD n m x∧∃(y:Nat×Int),VP y.1 n y.2 m∧Qfl n y.1 x_2.1∧Qfe x_2.1 y.1 x_2.2 x_3 m y.2 x n)))) (RT (IntKind.wrap IntKind.i64 (x_2.2+Z1)=QeS n m))))) (by kernel_rfl) ?_
 delta DA GI LN N0 N1 N4 NI SI SM Z0 Z1 ZI QeS JB VJ QeZ Qe0 Zy Qe1 Qe2 Zz Qe3 Qe4 ZA Ke JC Qe5 Kv Qe6 VK Kw JD Qe7 Qe8 Qe9 Zx Qfa VL QJ VM QhW QhX Qfb Qfc Qfd VN QeT K9 ZC QhY ZD VO ZE Qfe VP VQ ZF QeU QK VR QhZ Qh0 Qff Qfg Qfh QL VS Qh1 QeV Qh2 Qfi Qfj Qfk Qfl QeW QeX QeY RT
 try simp only[← dm]
 try simp only[← dn]
 simp only[ne_eq,implies_true,Int.toNat_natCast,ifB_iff,side_iff,decide_eq_true_eq,decide_eq_false_iff_not,true_and,and_true,beq_iff_eq,beq_eq_false_iff_ne,exists_const,forall_const,Prod.exists]
 have hz:=dpN_eq n
 have k1:=maxB_le (sm_len hn).2.1
 have k2:=maxB_le (sm_len hn).2.2
 unfold maxLen at k1 k2
 refine⟨fun h2=>?_,fun h2=>?_⟩
 ·unfold depM;split<;>omega
 have w:IntKind.i64.wrap (m-1)=m-1:=wrap_i64' (by omega) (by omega)
 rw[w]
 refine⟨⟨0,0,⟨Nat.zero_le _,Int.le_refl _,?_⟩,rfl,rfl⟩,?_⟩
 ·simp only[List.take_zero,dpL];unfold depM;split<;>omega
 rintro ⟨i,d⟩ ⟨i1,d0,hd⟩
 simp only at i1 d0 hd ⊢
 refine⟨fun hlt=>?_,fun hge=>?_⟩
 ·have hlt':i<n.ki.length:=by omega
  have ht:=dpL_take hlt'
  refine⟨⟨by omega,hlt⟩,n.ki.getD i default,⟨nd_self _ _,by omega,by omega,hk _ (nd_getD hlt')⟩,i+1,_,⟨hlt',?_,?_⟩,by omega,wrap_i64' (by omega) (by omega),rfl⟩
  ·unfold depM;split<;>(try split)<;>omega
  ·rw[ht]
   unfold depM at hd ⊢
   split at hd<;>split<;>(try split)<;>(try split)<;>omega
 ·have e:i=n.ki.length:=by omega
  rw[e,List.take_length] at hd
  refine⟨⟨0,d,⟨Nat.zero_le _,d0,?_⟩,rfl,rfl⟩,?_⟩
  ·simp only[List.take_zero,dpB,Nat.max_zero];exact hd
  rintro ⟨j,c⟩ ⟨j1,c0,hc⟩
  simp only at j1 c0 hc ⊢
  refine⟨fun hlt=>?_,fun hge=>?_⟩
  ·have hlt':j<n.bo.length:=by omega
   have ht:=dpB_take hlt'
   have hs:=dpM_eq (n.bo.getD j default)
   obtain ⟨q1,q2⟩:=hb _ (sm_getD hlt')
   have wj:IntKind.i64.wrap ((j:Int)+1)=((j+1:Nat):Int):=by rw[wrap_i64' (by omega) (by omega)];rfl
   refine⟨⟨by omega,hlt⟩,(n.bo.getD j default).nd,⟨nd_self _ _,by omega,by omega,q2⟩,⟨by omega,hlt⟩,fun h3=>⟨⟨by omega,hlt⟩,(n.bo.getD j default).te,⟨nd_self _ _,by omega,by omega,q1⟩,j+1,_,⟨hlt',?_,?_⟩,by omega,wj,rfl⟩,fun h3=>⟨j+1,_,⟨hlt',?_,?_⟩,by omega,wj,rfl⟩⟩
   ·generalize dpN (n.bo.getD j default).nd=u
    generalize dpN (n.bo.getD j default).te=v
    unfold depM
    repeat' split
    all_goals omega
   ·rw[ht,hs,if_pos h3]
    generalize dpN (n.bo.getD j default).nd=u
    generalize dpN (n.bo.getD j default).te=v
    generalize dpB (List.take j n.bo)=t at hc
    generalize dpL n.ki=z at hc
    clear hs ht
    unfold depM at hc ⊢
    split at hc<;>repeat' split
    all_goals omega
   ·generalize dpN (n.bo.getD j default).nd=u
    unfold depM
    repeat' split
    all_goals omega
   ·rw[ht,hs,if_neg h3]
    generalize dpN (n.bo.getD j default).nd=u
    generalize dpB (List.take j n.bo)=t at hc
    generalize dpL n.ki=z at hc
    clear hs ht
    unfold depM at hc ⊢
    split at hc<;>repeat' split
    all_goals omega
  ·have e2:j=n.bo.length:=by omega
   rw[e2,List.take_length] at hc
   have cb:c≤60:=by unfold depM at hc;split at hc<;>omega
   rw[wrap_i64' (by omega) (by omega),hc,hz]
   unfold depM
   split<;>split<;>omega
theorem rdp_ok(n:Nd)(hn:n.sm)(m:Int)(h0:0≤m)(h1:m≤60):RDep n m :=
 rdp_step (fun b=>b.sm∧SizeOf.sizeOf b<SizeOf.sizeOf n) n m h0 h1 hn (fun b hb m h0 h1=>rdp_ok b hb.1 m h0 h1) (fun b hb=>⟨sm_kid hn (kid_inner hb),Nd.size_kid hb⟩) fun s hs =>
  have h2:=sm_sm2 (sm_bo hn s hs)
  have e:=Nd.size_stmt hs
  have e1:=Sm.size_te s
  have e2:=Sm.size_nd s
  ⟨⟨h2.1,by omega⟩,⟨h2.2,by omega⟩⟩
termination_by SizeOf.sizeOf n
decreasing_by exact hb.2
def cntM(k:Nat)(m:Int):Int:=if (k:Int)≤m+1 then (k:Int) else m+1
def RCnt(n:Nd)(m:Int):Prop:=CD 27 [.agg n.row2,.int .i64 m] (.int .i64 (cntM (szN n) m))
def RCns(l:List Sm)(m:Int):Prop:=CD 36 [gsl 34 Sm.row1 l,.int .i64 m] (.int .i64 (cntM (szB l) m))
theorem szB_app:∀a b:List Sm,szB (a++b)=szB a+szB b
 | [],b=>by simp only[List.nil_append,szB];omega
 |x::a,b=>by simp only[List.cons_append,szB,szB_app a b];omega
theorem szB_take{l:List Sm}{i:Nat}(h:i<l.length):szB (l.take (i+1))=szB (l.take i)+szM (l.getD i default):=by
 rw[take_step h,szB_app]
 simp only[szB]
 omega
theorem szL_take'{l:List Nd}{i:Nat}(h:i<l.length):szL (l.take (i+1))=szL (l.take i)+szN (l.getD i default):=by
 rw[take_step h,szL_app]
 simp only[szL]
 omega
theorem szL_mono(l:List Nd)(i:Nat):szL (l.take i)≤szL l:=by
 have h:=szL_app (l.take i) (l.drop i)
 rw[List.take_append_drop] at h
 omega
theorem szB_mono(l:List Sm)(i:Nat):szB (l.take i)≤szB l:=by
 have h:=szB_app (l.take i) (l.drop i)
 rw[List.take_append_drop] at h
 omega
theorem szM_two(s:Sm):szM s=if s.kd=3 then szN s.te+szN s.nd else szN s.nd:=by
 cases s
 simp only[szM]
 rfl
theorem szN_two(n:Nd):szN n=1+szL n.ki+szB n.bo:=by
 cases n
 simp only[szN]
 rfl
def conRcs(p:Nd→Prop):Con:=fun k ds S=>match k with
 |27=>match ds with
  | [_,.int .i64 m]=>some (pE (β:=Nd) ds S (fun b=>.int .i64 (cntM (szN b) m)) (fun b=>isN b ds [.int .i64 m]∧0≤m∧m≤16384∧p b))
  |_=>none
 |_=>none
theorem conRcs_ok{p:Nd→Prop}(h:∀b,p b→∀m,0≤m→m≤16384→RCnt b m):ConOk Tryz.prog (conRcs p):=by
 intro k ds S A hh
 unfold conRcs at hh
 split at hh
 ·split at hh
  ·injection hh with hh;subst hh
   exact pS_ok fun b ⟨e,h0,h1,hb⟩=>CD.at_ (CD.isN (h b hb _ h0 h1) e) _
  ·cases hh
 ·cases hh
def conRct(p:Nd→Prop)(l:List Sm):Con:=fun k ds S=>match k with
 |36=>match ds with
  | [_,.int .i64 m]=>some (pA ds S (.int .i64 (cntM (szB l) m)) (wkL ds [gsl 34 Sm.row1 l,.int .i64 m]∧-1≤m∧m≤16384))
  |_=>none
 |k=>conRcs p k ds S
theorem conRct_ok{p:Nd→Prop}{l:List Sm}(h:∀b,p b→∀m,0≤m→m≤16384→RCnt b m)(h2:∀m,-1≤m→m≤16384→RCns l m):ConOk Tryz.prog (conRct p l):=by
 intro k ds S A hh
 unfold conRct at hh
 split at hh
 ·split at hh
  ·injection hh with hh;subst hh
   exact pA_ok fun ⟨e,h0,h1⟩=>CD.at_ (CD.wk (h2 _ h0 h1) e) _
  ·cases hh
 ·exact conRcs_ok h _ _ _ _ hh
noncomputable def Ercs(p:Nd→Prop)(l:List Sm)(m:Int):Senv:={ EC (conRcs p) 56 2 [4,5,6,15,39] (fun _=>([],[])) with
 mg:=fun _=>2
 ann:=fun b _ S=>match b with
  |0=>some { slots:=[6,5],keep:=[0,1],α:=Nat×Int,st:=fun y=>([.int .i64 y.1,.int .i64 y.2],S),inv:=fun y=>y.1≤l.length∧y.2=cntM (szB (l.take y.1)) m,mu:=fun y=>l.length-y.1 }
  |_=>none }
def VT(a:Nat)(b:List Sm)(c d:Int):Prop:=a≤LN b∧c=cntM (szB (List.take a b)) d
def JE:Arr:=DA
def Ja:Nd:=Nd.mk Z0 Z0 Z0 [] Z0 Z0 JE [] [] Z0 Z0 Z0
def Jb:Sm:=Sm.mk Z0 Z0 [] Z0 Ja Ja
def ZG(a:List Sm)(b:Nat):Sm:=List.getD a (Int.toNat (↑b:Int)) Jb
def QM(a:List Sm)(b:Nat):Nd:=Sm.nd (ZG a b)
def VU(a:List Sm)(b:Nat):Arr:=Nd.va (QM a b)
def Qh3(a:List Sm)(b:Nat):List Int:=Arr.sh (VU a b)
def Qh4(a:List Sm)(b:Nat):List Int:=Arr.nu (VU a b)
def Qfm(a:List Sm)(b:Nat):List Arr:=Arr.it (VU a b)
def Qfn(a:List Sm)(b:Nat):List Nd:=Nd.ki (QM a b)
def Qfo(a:List Sm)(b:Nat):List Sm:=Nd.bo (QM a b)
def VV(a:Int)(b:Nd)(c:Int):Int:=IntKind.wrap IntKind.i64 (a+cntM (szN b) (IntKind.wrap IntKind.i64 (c-a)))
def QN(a:List Sm)(b:Nat):Nd:=Sm.te (ZG a b)
def VW(a:List Sm)(b:Nat):Arr:=Nd.va (QN a b)
def Qh5(a:List Sm)(b:Nat):List Int:=Arr.sh (VW a b)
def Qh6(a:List Sm)(b:Nat):List Int:=Arr.nu (VW a b)
def Qfp(a:List Sm)(b:Nat):List Arr:=Arr.it (VW a b)
def Qfq(a:List Sm)(b:Nat):List Nd:=Nd.ki (QN a b)
def Qfr(a:List Sm)(b:Nat):List Sm:=Nd.bo (QN a b)
def VX(a b:Int)(c:Nd):Int:=IntKind.wrap IntKind.i64 (a-VV b c a)
def Qfs(a b:Int)(c:Nd):List D:=[ZI (VX a b c)]
def Jc(a:List Sm)(b:Nat):Sm:=List.getD a b Jb
def QO(a:List Sm)(b:Nat):Nd:=Sm.te (Jc a b)
def VY(a:List Sm)(b:Nat):Arr:=Nd.va (QO a b)
def Qh7(a:List Sm)(b:Nat):List Int:=Arr.sh (VY a b)
def Qh8(a:List Sm)(b:Nat):List Int:=Arr.nu (VY a b)
def Qft(a:List Sm)(b:Nat):List Arr:=Arr.it (VY a b)
def Qfu(a:List Sm)(b:Nat):List Nd:=Nd.ki (QO a b)
def Qfv(a:List Sm)(b:Nat):List Sm:=Nd.bo (QO a b)
def QP(a:List Sm)(b:Nat):Nd:=Sm.nd (Jc a b)
def VZ(a:List Sm)(b:Nat):Arr:=Nd.va (QP a b)
def Qh9(a:List Sm)(b:Nat):List Int:=Arr.sh (VZ a b)
def Qia(a:List Sm)(b:Nat):List Int:=Arr.nu (VZ a b)
def Qfw(a:List Sm)(b:Nat):List Arr:=Arr.it (VZ a b)
def Qfx(a:List Sm)(b:Nat):List Nd:=Nd.ki (QP a b)
def Qfy(a:List Sm)(b:Nat):List Sm:=Nd.bo (QP a b)
def Qib(a:List Sm):D:=D.sl (34:Nat) (LN a) (fun (i:Nat)=>[ZI (Sm.kd (Jc a i)),ZI (Sm.at_ (Jc a i)),D.str (Sm.nm (Jc a i)),ZI (Sm.sl (Jc a i)),ZI (Nd.kd (QO a i)),ZI (Nd.at_ (QO a i)),ZI (Nd.cl (QO a i)),D.str (Nd.tx (QO a i)),ZI (Nd.pr (QO a i)),ZI (Nd.op (QO a i)),ZI (Arr.k (VY a i)),SI (Qh7 a i),SI (Qh8 a i),D.sl N4 (LN (Qft a i)) (fun (i_1:Nat)=>Arr.row (List.getD (Qft a i) i_1 JE)) Mode.any,D.sl (15:Nat) (LN (Qfu a i)) (fun (i_1:Nat)=>Nd.row (List.getD (Qfu a i) i_1 Ja)) Mode.any,D.sl (34:Nat) (LN (Qfv a i)) (fun (i_1:Nat)=>Sm.row (List.getD (Qfv a i) i_1 Jb)) Mode.any,ZI (Nd.de (QO a i)),ZI (Nd.sl (QO a i)),ZI (Nd.ss (QO a i)),ZI (Nd.kd (QP a i)),ZI (Nd.at_ (QP a i)),ZI (Nd.cl (QP a i)),D.str (Nd.tx (QP a i)),ZI (Nd.pr (QP a i)),ZI (Nd.op (QP a i)),ZI (Arr.k (VZ a i)),SI (Qh9 a i),SI (Qia a i),D.sl N4 (LN (Qfw a i)) (fun (i_1:Nat)=>Arr.row (List.getD (Qfw a i) i_1 JE)) Mode.any,D.sl (15:Nat) (LN (Qfx a i)) (fun (i_1:Nat)=>Nd.row (List.getD (Qfx a i) i_1 Ja)) Mode.any,D.sl (34:Nat) (LN (Qfy a i)) (fun (i_1:Nat)=>Sm.row (List.getD (Qfy a i) i_1 Jb)) Mode.any,ZI (Nd.de (QP a i)),ZI (Nd.sl (QP a i)),ZI (Nd.ss (QP a i))]) Mode.any
def Qfz(a:List Sm)(b:Int):Prop:=SM (Qib a)∧SM (ZI b)∧True
def QfA(a:List Sm)(b:Int)(c:Nat)(d:Int)(e:Nd):Prop:=Qfz a b∧∃(y:Nat×Int),VT y.1 a y.2 b∧LN a-y.1<LN a-c∧(IntKind.wrap IntKind.i64 ((↑c:Int)+Z1)=(NI y.1)∧VV d e b=y.2∧True)∧True∧True
def QfB(a:Int):Int:=IntKind.wrap IntKind.i64 ((if a<(-1:Int) then (-1:Int) else a)+Z1)
def QfC(a b:Int)(c:List Sm):Prop:=True∧∃(_y:Unit),True∧(if QfB a<b then QfB a else b)=cntM (szB c) a∧True∧True
theorem rcs_step(p:Nd→Prop)(l:List Sm)(m:Int)(h0:-1≤m)(h1:m≤16384)(hl:l.length≤maxB)(h:∀b,p b→∀m,0≤m→m≤16384→RCnt b m)(hb:∀s∈l,p s.te∧p s.nd):RCns l m:=by
 refine con_of (A:=sC _ _) (x:=()) (E:=Ercs p l m) (eOk (conRcs_ok h) rfl) Tryz.func36 rfl (by kernel_rfl) rfl (by simp[sC,Ercs,EC,E0]) ?_
 refine vc_eq (T :=
  (∃(x:Nat×Int),VT x.1 l x.2 m∧(Z0=(NI x.1)∧Z0=x.2∧True)∧True∧True)∧∀(x:Nat×Int),VT x.1 l x.2 m→ifB (decide ((NI x.1)<(LI l))) (ifB (decide (x.2≤m)) (side (Z0≤(NI x.1)∧(NI x.1)<(LI l)) (∃(x_1:Nd),(isN x_1 [D.agg [ZI (Nd.kd (QM l x.1)),ZI (Nd.at_ (QM l x.1)),ZI (Nd.cl (QM l x.1)),D.str (Nd.tx (QM l x.1)),ZI (Nd.pr (QM l x.1)),ZI (Nd.op (QM l x.1)),ZI (Arr.k (VU l x.1)),SI (Qh3 l x.1),SI (Qh4 l x.1),D.sl N4 (LN (Qfm l x.1)) (fun (i:Nat)=>Arr.row (List.getD (Qfm l x.1) i JE)) Mode.any,D.sl (15:Nat) (LN (Qfn l x.1)) (fun (i:Nat)=>Nd.row (List.getD (Qfn l x.1) i Ja)) Mode.any,D.sl (34:Nat) (LN (Qfo l x.1)) (fun (i:Nat)=>Sm.row (List.getD (Qfo l x.1) i Jb)) Mode.any,ZI (Nd.de (QM l x.1)),ZI (Nd.sl (QM l x.1)),ZI (Nd.ss (QM l x.1))],ZI (IntKind.wrap IntKind.i64 (m-x.2))] [ZI (IntKind.wrap IntKind.i64 (m-x.2))]∧Z0≤IntKind.wrap IntKind.i64 (m-x.2)∧IntKind.wrap IntKind.i64 (m-x.2)≤(16384:Int)∧p x_1)∧∀(y:Unit),True→side (Z0≤(NI x.1)∧(NI x.1)<(LI l)) (ifB (Sm.kd (ZG l x.1)==(3:Int)) (ifB (decide (VV x.2 x_1 m≤m)) (side (Z0≤(NI x.1)∧(NI x.1)<(LI l)) (∃(x_2:Nd),(isN x_2 (D.agg [ZI (Nd.kd (QN l x.1)),ZI (Nd.at_ (QN l x.1)),ZI (Nd.cl (QN l x.1)),D.str (Nd.tx (QN l x.1)),ZI (Nd.pr (QN l x.1)),ZI (Nd.op (QN l x.1)),ZI (Arr.k (VW l x.1)),SI (Qh5 l x.1),SI (Qh6 l x.1),D.sl N4 (LN (Qfp l x.1)) (fun (i:Nat)=>Arr.row (List.getD (Qfp l x.1) i JE)) Mode.any,D.sl (15:Nat) (LN (Qfq l x.1)) (fun (i:Nat)=>Nd.row (List.getD (Qfq l x.1) i Ja)) Mode.any,D.sl (34:Nat) (LN (Qfr l x.1)) (fun (i:Nat)=>Sm.row (List.getD (Qfr l x.1) i Jb)) Mode.any,ZI (Nd.de (QN l x.1)),ZI (Nd.sl (QN l x.1)),ZI (Nd.ss (QN l x.1))]::Qfs m x.2 x_1) (Qfs m x.2 x_1)∧Z0≤VX m x.2 x_1∧VX m x.2 x_1≤(16384:Int)∧p x_2)∧∀(y:Unit),True→Qfz l m∧∃(y:Nat×Int),VT y.1 l y.2 m∧LN l-y.1<LN l-x.1∧(IntKind.wrap IntKind.i64 ((NI x.1)+Z1)=(NI y.1)∧IntKind.wrap IntKind.i64 (VV x.2 x_1 m+cntM (szN x_2) (VX m x.2 x_1))=y.2∧True)∧True∧True)) (QfA l m x.1 x.2 x_1)) (QfA l m x.1 x.2 x_1)))) (QfC m x.2 l)) (QfC m x.2 l)) (by kernel_rfl) ?_
 delta DA GI LI LN N1 N4 NI SI SM Z0 Z1 ZI VT JE Qfn Qfo VV QN VW Qh5 Qh6 Qfp Qfq Qfr Ja VX Qfs Jc QO VY Qh7 Qh8 Qft Qfu Qfv Jb QP VZ Qh9 Qia Qfw Qfx Qfy Qib Qfz QfA ZG QfB QfC QM VU Qh3 Qh4 Qfm
 try simp only[← dm]
 try simp only[← dn]
 simp only[ne_eq,Int.toNat_natCast,ifB_iff,side_iff,decide_eq_true_eq,decide_eq_false_iff_not,true_and,and_true,beq_iff_eq,beq_eq_false_iff_ne,exists_const,forall_const,Prod.exists]
 unfold maxB at hl
 have fin:∀c:Int,c=cntM (szB l) m→(if IntKind.i64.wrap ((if m < -1 then -1 else m)+1)<c then IntKind.i64.wrap ((if m < -1 then -1 else m)+1) else c)=cntM (szB l) m:=fun c hc=>by
  rw[if_neg (show ¬m < -1 by omega),wrap_i64' (by omega) (by omega),if_neg ?_,hc]
  rw[hc];unfold cntM;split<;>omega
 refine⟨⟨0,0,⟨Nat.zero_le _,?_⟩,rfl,rfl⟩,?_⟩
 ·simp only[List.take_zero,szB];unfold cntM;split<;>omega
 rintro ⟨i,c⟩ ⟨i1,hc⟩
 simp only at i1 hc ⊢
 have hmono:=szB_mono l i
 have c0:0≤c∧c≤m+1:=by rw[hc];unfold cntM;split<;>omega
 refine⟨fun hlt=>⟨fun hle=>?_,fun hgt=>fin c ?_⟩,fun hge=>fin c ?_⟩
 ·have hlt':i<l.length:=by omega
  have ht:=szB_take hlt'
  have hs:=szM_two (l.getD i default)
  obtain ⟨q1,q2⟩:=hb _ (sm_getD hlt')
  have w1:IntKind.i64.wrap (m-c)=m-c:=wrap_i64' (by omega) (by omega)
  have wi:IntKind.i64.wrap ((i:Int)+1)=((i+1:Nat):Int):=by rw[wrap_i64' (by omega) (by omega)];rfl
  have hu:0≤cntM (szN (l.getD i default).nd) (m-c)∧cntM (szN (l.getD i default).nd) (m-c)≤m-c+1:=by unfold cntM;split<;>omega
  have w2:IntKind.i64.wrap (c+cntM (szN (l.getD i default).nd) (m-c))=c+cntM (szN (l.getD i default).nd) (m-c):=wrap_i64' (by omega) (by omega)
  have e1:c+cntM (szN (l.getD i default).nd) (m-c)=cntM (szB (l.take i)+szN (l.getD i default).nd) m:=by
   rw[hc] at hle ⊢
   unfold cntM at hle ⊢
   split at hle<;>repeat' split
   all_goals omega
  rw[w1]
  refine⟨⟨by omega,hlt⟩,(l.getD i default).nd,⟨nd_self _ _,by omega,by omega,q2⟩,⟨by omega,hlt⟩,fun h3=>?_,fun h3=>⟨i+1,_,⟨hlt',?_⟩,by omega,wi,rfl⟩⟩
  ·rw[w2,if_pos h3] at *
   refine⟨fun h4=>?_,fun h4=>⟨i+1,_,⟨hlt',?_⟩,by omega,wi,rfl⟩⟩
   ·have w3:IntKind.i64.wrap (m-(c+cntM (szN (l.getD i default).nd) (m-c)))=m-(c+cntM (szN (l.getD i default).nd) (m-c)):=wrap_i64' (by omega) (by omega)
    rw[w3]
    refine⟨⟨by omega,hlt⟩,(l.getD i default).te,⟨nd_self _ _,by omega,by omega,q1⟩,i+1,_,⟨hlt',?_⟩,by omega,wi,rfl⟩
    have hv:0≤cntM (szN (l.getD i default).te) (m-(c+cntM (szN (l.getD i default).nd) (m-c)))∧cntM (szN (l.getD i default).te) (m-(c+cntM (szN (l.getD i default).nd) (m-c)))≤m-(c+cntM (szN (l.getD i default).nd) (m-c))+1:=by
     generalize c+cntM (szN (l.getD i default).nd) (m-c)=z at *
     unfold cntM;split<;>omega
    rw[wrap_i64' (by omega) (by omega),ht,hs,e1]
    rw[e1] at h4
    generalize szB (l.take i)=t at *
    generalize szN (l.getD i default).nd=u at *
    generalize szN (l.getD i default).te=v at *
    clear e1 w1 w2 w3 hu hv hc c0 ht hs
    unfold cntM at h4 ⊢
    split at h4<;>repeat' split
    all_goals omega
   ·rw[ht,hs,e1]
    rw[e1] at h4
    generalize szB (l.take i)=t at *
    generalize szN (l.getD i default).nd=u at *
    generalize szN (l.getD i default).te=v at *
    clear e1 w1 w2 hu hc c0 ht hs
    unfold cntM at h4 ⊢
    split at h4<;>repeat' split
    all_goals omega
  ·rw[w2,ht,hs,if_neg h3,e1]
 ·rw[hc] at hgt ⊢
  unfold cntM at hgt ⊢
  split at hgt<;>repeat' split
  all_goals omega
 ·have e:i=l.length:=by omega
  rw[e,List.take_length] at hc
  exact hc
noncomputable def Erct(p:Nd→Prop)(n:Nd)(m:Int):Senv:={ EC (conRct p n.bo) 41 3 [4,5,6,16] (fun _=>([],[])) with
 mg:=fun _=>2
 ann:=fun b _ S=>match b with
  |0=>some { slots:=[6,5],keep:=[0,1,2],α:=Nat×Int,st:=fun y=>([.int .i64 y.1,.int .i64 y.2],S),inv:=fun y=>y.1≤n.ki.length∧y.2=cntM (1+szL (n.ki.take y.1)) m,mu:=fun y=>n.ki.length-y.1 }
  |_=>none }
def V0(a:Nd):List Nd:=Nd.ki a
def Kf(a:Nd):Nat:=LN (V0 a)
def ZH(a:Nat)(b:Nd)(c d:Int):Prop:=a≤Kf b∧c=cntM (N1+szL (List.take a (V0 b))) d
def QfD(a:Nd):Int:=Nd.kd a
def QfE(a:Nd):Int:=Nd.at_ a
def QfF(a:Nd):Int:=Nd.cl a
def QfG(a:Nd):List UInt8:=Nd.tx a
def QfH(a:Nd):Int:=Nd.pr a
def QfI(a:Nd):Int:=Nd.op a
def V1(a:Nd):Arr:=Nd.va a
def QfJ(a:Nd):Int:=Arr.k (V1 a)
def QfK(a:Nd):List Int:=Arr.sh (V1 a)
def ZJ(a:Nd):Nat:=LN (QfK a)
def QfL(a:Nd)(b:Nat):List D:=[ZI (GI (QfK a) b)]
def QfM(a:Nd):List Int:=Arr.nu (V1 a)
def ZK(a:Nd):Nat:=LN (QfM a)
def QfN(a:Nd)(b:Nat):List D:=[ZI (GI (QfM a) b)]
def QfO(a:Nd):List Arr:=Arr.it (V1 a)
def ZL(a:Nd):Nat:=LN (QfO a)
def ZM:Arr:=DA
def QfP(a:Nd)(b:Nat):List D:=Arr.row (List.getD (QfO a) b ZM)
def JF:Nd:=Nd.mk Z0 Z0 Z0 [] Z0 Z0 ZM [] [] Z0 Z0 Z0
def QfQ(a:Nd)(b:Nat):List D:=Nd.row1 (List.getD (V0 a) b JF)
def ZN(a:Nd):List Sm:=Nd.bo a
def ZO(a:Nd):Nat:=LN (ZN a)
def QfR:Sm:=Sm.mk Z0 Z0 [] Z0 JF JF
def QfS(a:Nd)(b:Nat):List D:=Sm.row1 (List.getD (ZN a) b QfR)
def QfT(a:Nd):Int:=Nd.de a
def QfU(a:Nd):Int:=Nd.sl a
def QfV(a:Nd):Int:=Nd.ss a
def QfW(a:Nat)(b:Nd):Prop:=(SM a∧(SM (QfD b)∧SM (QfE b)∧SM (QfF b)∧SM (QfG b)∧SM (QfH b)∧SM (QfI b)∧SM (QfJ b)∧(SM (ZJ b)∧(∀(i:Nat),i<ZJ b→SM (QfL b i))∧True)∧(SM (ZK b)∧(∀(i:Nat),i<ZK b→SM (QfN b i))∧True)∧(SM (ZL b)∧(∀(i:Nat),i<ZL b→SM (QfP b i))∧True)∧(SM (Kf b)∧(∀(i:Nat),i<Kf b→SM (QfQ b i))∧True)∧(SM (ZO b)∧(∀(i:Nat),i<ZO b→SM (QfS b i))∧True)∧SM (QfT b)∧SM (QfU b)∧SM (QfV b)∧True)∧True)∧True
def QQ(a:Nd)(b:Nat):Nd:=List.getD (V0 a) (Int.toNat (↑b:Int)) JF
def V2(a:Nd)(b:Nat):Arr:=Nd.va (QQ a b)
def Qic(a:Nd)(b:Nat):List Int:=Arr.sh (V2 a b)
def Qid(a:Nd)(b:Nat):List Int:=Arr.nu (V2 a b)
def QfX(a:Nd)(b:Nat):List Arr:=Arr.it (V2 a b)
def QfY(a:Nd)(b:Nat):List Nd:=Nd.ki (QQ a b)
def QfZ(a:Nd)(b:Nat):List Sm:=Nd.bo (QQ a b)
def Kx(a b:Int):Int:=IntKind.wrap IntKind.i64 (a-b)
def ZP(a b:Int):List D:=[ZI (Kx a b)]
def Qf0(a:Nd):D:=D.sl (34:Nat) (ZO a) (fun (i:Nat)=>QfS a i) Mode.any
def Qie(a:Nd):D:=D.agg [ZI (QfD a),ZI (QfE a),ZI (QfF a),D.str (QfG a),ZI (QfH a),ZI (QfI a),ZI (QfJ a),D.sl N1 (ZJ a) (fun (i:Nat)=>QfL a i) Mode.any,D.sl N1 (ZK a) (fun (i:Nat)=>QfN a i) Mode.any,D.sl N4 (ZL a) (fun (i:Nat)=>QfP a i) Mode.any,D.sl (15:Nat) (Kf a) (fun (i:Nat)=>QfQ a i) Mode.any,Qf0 a,ZI (QfT a),ZI (QfU a),ZI (QfV a)]
def Qf1(a:Nd)(b c:Int):List D:=Qf0 a::ZP b c
def Qf2(a:Int)(b:Nd)(c:Int):Int:=IntKind.wrap IntKind.i64 (a+cntM (szB (ZN b)) (Kx c a))
def Qf3(a:Nat)(b:Nd)(c d:Int):Prop:=SM a∧∃(_x:Unit),(wkL (Qf1 b c d) (Qf1 b c d)∧(-1:Int)≤Kx c d∧Kx c d≤(16384:Int))∧∀(_y:Unit),True→True∧∃(_y:Unit),True∧(if IntKind.wrap IntKind.i64 (c+Z1)<Qf2 d b c then IntKind.wrap IntKind.i64 (c+Z1) else Qf2 d b c)=cntM (szN b) c∧True∧True
theorem rct_step(p:Nd→Prop)(n:Nd)(m:Int)(h0:0≤m)(h1:m≤16384)(hn:n.sm)(h:∀b,p b→∀m,0≤m→m≤16384→RCnt b m)(hk:∀b∈n.ki,p b)(hb:∀s∈n.bo,p s.te∧p s.nd):RCnt n m:=by
 refine con_of (A:=sC _ _) (x:=()) (E:=Erct p n m) (eOk (conRct_ok h fun m h0 h1=>rcs_step p n.bo m h0 h1 (sm_len hn).2.2 h hb) rfl) Tryz.func27 rfl (by kernel_rfl) rfl (by simp[sC,Erct,EC,E0]) ?_
 refine vc_eq (T :=
  ∀(x:Nat),True→(∃(x_1:Nat×Int),ZH x_1.1 n x_1.2 m∧(Z0=(NI x_1.1)∧Z1=x_1.2∧True)∧QfW x n)∧∀(x_1:Nat×Int),ZH x_1.1 n x_1.2 m→SM x∧ifB (decide ((NI x_1.1)<(NI (Kf n)))) (ifB (decide (x_1.2≤m)) (SM x∧side (Z0≤(NI x_1.1)∧(NI x_1.1)<(NI (Kf n))) (∃(x_2:Nd),(isN x_2 (D.agg [ZI (Nd.kd (QQ n x_1.1)),ZI (Nd.at_ (QQ n x_1.1)),ZI (Nd.cl (QQ n x_1.1)),D.str (Nd.tx (QQ n x_1.1)),ZI (Nd.pr (QQ n x_1.1)),ZI (Nd.op (QQ n x_1.1)),ZI (Arr.k (V2 n x_1.1)),SI (Qic n x_1.1),SI (Qid n x_1.1),D.sl N4 (LN (QfX n x_1.1)) (fun (i:Nat)=>Arr.row (List.getD (QfX n x_1.1) i ZM)) Mode.any,D.sl (15:Nat) (LN (QfY n x_1.1)) (fun (i:Nat)=>Nd.row (List.getD (QfY n x_1.1) i JF)) Mode.any,D.sl (34:Nat) (LN (QfZ n x_1.1)) (fun (i:Nat)=>Sm.row (List.getD (QfZ n x_1.1) i QfR)) Mode.any,ZI (Nd.de (QQ n x_1.1)),ZI (Nd.sl (QQ n x_1.1)),ZI (Nd.ss (QQ n x_1.1))]::ZP m x_1.2) (ZP m x_1.2)∧Z0≤Kx m x_1.2∧Kx m x_1.2≤(16384:Int)∧p x_2)∧∀(y:Unit),True→(SM (Qie n)∧SM (ZI m)∧SM (D.ref N0 x N0)∧True)∧∃(y:Nat×Int),ZH y.1 n y.2 m∧Kf n-y.1<Kf n-x_1.1∧(IntKind.wrap IntKind.i64 ((NI x_1.1)+Z1)=(NI y.1)∧IntKind.wrap IntKind.i64 (x_1.2+cntM (szN x_2) (Kx m x_1.2))=y.2∧True)∧QfW x n)) (Qf3 x n m x_1.2)) (Qf3 x n m x_1.2)) (by kernel_rfl) ?_
 delta DA GI LN N0 N1 N4 NI SI SM Z0 Z1 ZI V0 Kf ZH QfD QfE QfF QfG QfH QfI V1 QfJ QfK ZJ QfL QfM ZK QfN QfO ZL ZM QfP JF QfQ ZN ZO QfR QfS QfT QfU QfV QfW QQ V2 Qic Qid QfX QfY QfZ Kx ZP Qf0 Qie Qf1 Qf2 Qf3
 try simp only[← dm]
 try simp only[← dn]
 simp only[implies_true,Int.toNat_natCast,ifB_iff,side_iff,decide_eq_true_eq,decide_eq_false_iff_not,true_and,and_true,exists_const,forall_const,Prod.exists]
 have k1:=maxB_le (sm_len hn).2.1
 unfold maxLen at k1
 have hz:=szN_two n
 have fin:∀c:Int,0≤c∧c≤m+1→c=cntM (1+szL n.ki) m→(wkL [D.sl 34 n.bo.length (fun i=>(n.bo.getD i default).row1) Mode.any,.int .i64 (IntKind.i64.wrap (m-c))] [D.sl 34 n.bo.length (fun i=>(n.bo.getD i default).row1) Mode.any,.int .i64 (IntKind.i64.wrap (m-c))]∧-1≤IntKind.i64.wrap (m-c)∧IntKind.i64.wrap (m-c)≤16384)∧(if IntKind.i64.wrap (m+1)<IntKind.i64.wrap (c+cntM (szB n.bo) (IntKind.i64.wrap (m-c))) then IntKind.i64.wrap (m+1) else IntKind.i64.wrap (c+cntM (szB n.bo) (IntKind.i64.wrap (m-c))))=cntM (szN n) m:=fun c c0 hc=>by
  have w1:IntKind.i64.wrap (m-c)=m-c:=wrap_i64' (by omega) (by omega)
  have w2:IntKind.i64.wrap (m+1)=m+1:=wrap_i64' (by omega) (by omega)
  have hv:0≤cntM (szB n.bo) (m-c)∧cntM (szB n.bo) (m-c)≤m-c+1:=by unfold cntM;split<;>omega
  rw[w1,w2,wrap_i64' (show (-9223372036854775808:Int)≤c+cntM (szB n.bo) (m-c) by omega) (by omega)]
  refine⟨⟨wkL_refl _,by omega,by omega⟩,?_⟩
  rw[if_neg (by omega),hz]
  clear hv w1 w2 c0
  generalize szL n.ki=t at *
  generalize szB n.bo=u at *
  rw[hc]
  unfold cntM
  repeat' split
  all_goals omega
 refine⟨⟨0,1,⟨Nat.zero_le _,?_⟩,rfl,rfl⟩,?_⟩
 ·simp only[List.take_zero,szL];unfold cntM;split<;>omega
 rintro ⟨i,c⟩ ⟨i1,hc⟩
 simp only at i1 hc ⊢
 have hmono:=szL_mono n.ki i
 have c0:0≤c∧c≤m+1:=by rw[hc];unfold cntM;split<;>omega
 refine⟨fun hlt=>⟨fun hle=>?_,fun hgt=>fin c c0 ?_⟩,fun hge=>fin c c0 ?_⟩
 ·have hlt':i<n.ki.length:=by omega
  have ht:=szL_take' hlt'
  have w1:IntKind.i64.wrap (m-c)=m-c:=wrap_i64' (by omega) (by omega)
  have hu:0≤cntM (szN (n.ki.getD i default)) (m-c)∧cntM (szN (n.ki.getD i default)) (m-c)≤m-c+1:=by unfold cntM;split<;>omega
  rw[w1]
  refine⟨⟨by omega,hlt⟩,n.ki.getD i default,⟨nd_self _ _,by omega,by omega,hk _ (nd_getD hlt')⟩,i+1,_,⟨hlt',?_⟩,by omega,by rw[wrap_i64' (by omega) (by omega)];rfl,rfl⟩
  rw[wrap_i64' (by omega) (by omega),ht]
  clear hu w1 c0
  generalize szL (n.ki.take i)=t at *
  generalize szN (n.ki.getD i default)=u at *
  rw[hc] at hle ⊢
  unfold cntM at hle ⊢
  split at hle<;>repeat' split
  all_goals omega
 ·rw[hc] at hgt ⊢
  unfold cntM at hgt ⊢
  split at hgt<;>repeat' split
  all_goals omega
 ·have e:i=n.ki.length:=by omega
  rw[e,List.take_length] at hc
  exact hc
theorem rct_ok(n:Nd)(hn:n.sm)(m:Int)(h0:0≤m)(h1:m≤16384):RCnt n m :=
 rct_step (fun b=>b.sm∧SizeOf.sizeOf b<SizeOf.sizeOf n) n m h0 h1 hn (fun b hb m h0 h1=>rct_ok b hb.1 m h0 h1) (fun b hb=>⟨sm_kid hn (kid_inner hb),Nd.size_kid hb⟩) fun s hs =>
  have h2:=sm_sm2 (sm_bo hn s hs)
  have e:=Nd.size_stmt hs
  have e1:=Sm.size_te s
  have e2:=Sm.size_nd s
  ⟨⟨h2.1,by omega⟩,⟨h2.2,by omega⟩⟩
termination_by SizeOf.sizeOf n
decreasing_by exact hb.2
theorem rva_ok(n:Nd)(ho:n.ok)(hn:n.sm):RVal n :=
 rva_step n hn (va_ok ho) (rbo_step n.bo (sm_len hn).2.2 fun s hs =>
  have h1:=sm_ok2 (bo_ok' ho s hs)
  have h2:=sm_sm2 (sm_bo hn s hs)
  ⟨rva_ok s.nd h1.2 h2.2,rva_ok s.te h1.1 h2.1,h1.1,h2.1⟩) fun b hb=>rva_ok b (ki_ok ho b hb) (sm_kid hn (kid_inner hb))
termination_by SizeOf.sizeOf n
decreasing_by
 ·have:=Nd.size_stmt hs
  have:=Sm.size_nd s
  omega
 ·have:=Nd.size_stmt hs
  have:=Sm.size_te s
  omega
 ·exact Nd.size_kid hb
def conRou(l:List Sm):Con:=fun k ds S=>match k with
 |53=>match ds with
  | [_,.int .i64 q]=>some (pA ds S (.bool (mentB l q)) (wkL ds [gsl 34 Sm.row1 l,.int .i64 q]))
  |_=>none
 |_=>none
theorem conRou_ok{l:List Sm}(hl:l.length≤maxLen)(h:∀s∈l,s.sm):ConOk Tryz.prog (conRou l):=by
 intro k ds S A hh
 unfold conRou at hh
 split at hh
 ·split at hh
  ·injection hh with hh;subst hh
   exact pA_ok fun e=>CD.at_ (CD.wk (rbm_ok _ l hl h) e) _
  ·cases hh
 ·cases hh
noncomputable def Erou(l:List Sm):Senv:={ EC (conRou l) 39 1 [2,3,7,15] (fun _=>([],[])) with
 mg:=fun _=>2
 ann:=fun b _ S=>match b with
  |0=>some { slots:=[3],keep:=[0],α:=Nat,st:=fun i=>([.int .i64 i],S),inv:=fun i=>i≤l.length∧∀j,j<i→((l.getD j default).kd != 3)=true,mu:=fun i=>l.length-i }
  |_=>none }
def Qf4:Nd:=Nd.mk Z0 Z0 Z0 [] Z0 Z0 DA [] [] Z0 Z0 Z0
def Qf5:Sm:=Sm.mk Z0 Z0 [] Z0 Qf4 Qf4
def Qf6(a:List Sm)(b:Nat):Sm:=List.getD a b Qf5
def ZQ(a:Nat)(b:List Sm):Prop:=a≤LN b∧∀(j:Nat),j<a→(Sm.kd (Qf6 b j) != (3:Int))=true
def JG(a:List Sm):Prop:=True∧∃(_y:Unit),True∧false=rOut a∧True∧True
def Jd(a:List Sm):D:=D.sl (34:Nat) (LN a) (fun (i:Nat)=>Sm.row1 (Qf6 a i)) Mode.any
def Qf7(a:List Sm):List D:=[Jd a,ZI (12:Int)]
def Qf8(a:List Sm):List D:=[Jd a,ZI (13:Int)]
def Qf9(a:List Sm):List D:=[Jd a,ZI (6:Int)]
def Qga(a:List Sm):List D:=[Jd a,ZI (7:Int)]
def Qgb(a:List Sm):List D:=[Jd a,ZI (11:Int)]
theorem rou_ok(l:List Sm)(hl:l.length≤maxLen)(h:∀s∈l,s.sm):CD 29 [gsl 34 Sm.row1 l] (.bool (rOut l)):=by
 refine con_of (A:=sC _ _) (x:=()) (E:=Erou l) (eOk (conRou_ok hl h) rfl) Tryz.func29 rfl (by kernel_rfl) rfl (by simp[sC,Erou,EC,E0]) ?_
 refine vc_eq (T :=
  (∃(x:Nat),ZQ x l∧(Z0=(↑x:Int)∧True)∧True∧True)∧∀(x:Nat),ZQ x l→ifB (decide ((↑x:Int)<(LI l))) (side (Z0≤(↑x:Int)∧(↑x:Int)<(LI l)) (ifB (Sm.kd (List.getD l (Int.toNat (↑x:Int)) Qf5)==(3:Int)) (JG l) ((SM (Jd l)∧True)∧∃(y:Nat),ZQ y l∧LN l-y<LN l-x∧(IntKind.wrap IntKind.i64 ((↑x:Int)+Z1)=(↑y:Int)∧True)∧True∧True))) (∃(x:Unit),wkL (Qf7 l) (Qf7 l)∧∀(y:Unit),True→ifB (!mentB l (12:Int)) (∃(x:Unit),wkL (Qf8 l) (Qf8 l)∧∀(y:Unit),True→ifB (!mentB l (13:Int)) (∃(x:Unit),wkL (Qf9 l) (Qf9 l)∧∀(y:Unit),True→ifB (!mentB l (6:Int)) (∃(x:Unit),wkL (Qga l) (Qga l)∧∀(y:Unit),True→ifB (!mentB l (7:Int)) (∃(x:Unit),wkL (Qgb l) (Qgb l)∧∀(y:Unit),True→RT ((!mentB l (11:Int))=rOut l)) (JG l)) (JG l)) (JG l)) (JG l))) (by kernel_rfl) ?_
 delta DA LI LN SM Z0 Z1 ZI Qf4 Qf5 Qgb Qf6 ZQ JG Jd Qf7 Qf8 Qf9 Qga RT
 try simp only[← dm]
 try simp only[← dn]
 simp only[ne_eq,Int.toNat_natCast,ifB_iff,side_iff,decide_eq_true_eq,decide_eq_false_iff_not,true_and,and_true,beq_iff_eq,bne_iff_ne,beq_eq_false_iff_ne,Bool.not_eq_true',Bool.not_eq_false',exists_const,forall_const]
 unfold maxLen at hl
 refine⟨⟨0,⟨Nat.zero_le _,fun j hj=>absurd hj (by omega)⟩,rfl⟩,fun i hi'=>⟨fun hlt=>?_,fun hge=>?_⟩⟩
 ·obtain ⟨i1,hi⟩:=hi'
  have hi1:i<l.length:=by omega
  refine⟨⟨by omega,by omega⟩,fun c=>?_,fun c=>⟨i+1,⟨hi1,fun j hj=>?_⟩,by omega,wrap_i64' (by omega) (by omega)⟩⟩
  ·unfold rOut
   rw[all_no (p:=fun s:Sm=>s.kd != 3) hi1 (by simpa using c)];rfl
  ·by_cases e':j=i
   ·rw[e'];simpa using c
   ·exact hi j (by omega)
 ·obtain ⟨i1,hi⟩:=hi'
  have a:(l.all fun s=>s.kd != 3)=true:=all_yes fun j hj=>by simpa using hi j (by omega)
  unfold rOut
  rw[a,Bool.true_and]
  repeat' (first | exact wkL_refl _ | refine And.intro ?_ ?_ | intro _)
  all_goals first
   |(simp_all;done)
   |(simp_all;omega)
def conRrn(n:Nd):Con:=fun k ds S=>match k with
 |26=>some (pA ds S (.int .i64 (depM (dpN n) 60)) (isN n ds [.int .i64 60]))
 |27=>some (pA ds S (.int .i64 (cntM (szN n) 16384)) (isN n ds [.int .i64 16384]))
 |28=>some (pA ds S (.bool (nodeV n)) (isN n ds []))
 |29=>some (pA ds S (.bool (rOut [oneSt 0 n])) (wkL ds [gsl 34 Sm.row1 [oneSt 0 n]]))
 |_=>none
theorem conRrn_ok{n:Nd}(ho:n.ok)(hn:n.sm):ConOk Tryz.prog (conRrn n):=by
 intro k ds S A hh
 unfold conRrn at hh
 split at hh
 ·injection hh with hh;subst hh
  exact pA_ok fun e=>CD.at_ (CD.isN (rdp_ok n hn 60 (by omega) (by omega)) e) _
 ·injection hh with hh;subst hh
  exact pA_ok fun e=>CD.at_ (CD.isN (rct_ok n hn _ (by omega) (by omega)) e) _
 ·injection hh with hh;subst hh
  exact pA_ok fun e=>CD.at_ (CD.isN (rva_ok n ho hn) e) _
 ·injection hh with hh;subst hh
  exact pA_ok fun e=>CD.at_ (CD.wk (rou_ok [oneSt 0 n] (by simp[maxLen]) (one_sm hn)) e) _
 ·cases hh
theorem dep_60(k:Nat):60<depM k 60↔60<k:=by unfold depM;split<;>omega
theorem cnt_16384(k:Nat):16384<cntM k 16384↔16384<k:=by unfold cntM;split<;>omega
theorem jT_app(sep:List UInt8)(a b:List (List UInt8)):jT sep (a++b)=jT sep a++jT sep b:=by
 unfold jT
 rw[List.flatMap_append]
theorem join_app(sep:List UInt8)(a b:List (List UInt8))(h:a≠[]):Lib.join (a++b) sep=Lib.join a sep++jT sep b:=by
 cases a with
 |nil=>exact (h rfl).elim
 |cons x r=>rw[List.cons_append,join_cons,join_cons,jT_app,List.append_assoc]
theorem join_take{l:List (List UInt8)}(sep:List UInt8){i:Nat}(h:i<l.length):Lib.join (l.take (i+1)) sep=(if 0<i then Lib.join (l.take i) sep++sep else [])++l.getD i []:=by
 have e:l.take (i+1)=l.take i++[l.getD i []]:=by
  rw[List.take_add_one,List.getElem?_eq_getElem h,List.getD_eq_getElem?_getD,List.getElem?_eq_getElem h];rfl
 rw[e]
 cases i with
 |zero=>simp[join_cons,jT]
 |succ k =>
  rw[join_app _ _ _ (by intro e;have:=congrArg List.length e;simp at this;subst this;simp at h),if_pos (by omega)]
  simp[jT]
theorem join_le(l:List (List UInt8))(sep:List UInt8)(i:Nat):(Lib.join (l.take i) sep).length≤(Lib.join l sep).length:=by
 by_cases h:l.take i=[]
 ·rw[h];simp[Lib.join]
 ·have e:=join_app sep (l.take i) (l.drop i) h
  rw[List.take_append_drop] at e
  rw[e,List.length_append]
  omega
theorem join_item{l:List (List UInt8)}(sep:List UInt8){i:Nat}(h:i<l.length):(l.getD i []).length≤(Lib.join l sep).length∧(0<i→(Lib.join (l.take i) sep).length+sep.length+(l.getD i []).length≤(Lib.join l sep).length):=by
 have h1:=join_le l sep (i+1)
 rw[join_take sep h,List.length_append] at h1
 refine⟨by omega,fun h0=>?_⟩
 rw[if_pos h0,List.length_append] at h1
 omega
def RRShow(n:Nd):Prop:=CD 45 [.agg n.row2] (.str (showN n))∧(showN n).length≤20000000000000
noncomputable def Eamo(n:Nd)(ks:List Int):Senv:={ EC con0 19 3 [4,5,9,18] (fun id=>match id with | 4=>([0,1,2,3,4,5,6],[]) | _=>([],[])) with
 mg:=fun _=>2
 ann:=fun b _ S=>match b with
  |0=>some { slots:=[5],keep:=[0,1,2],α:=Nat,st:=fun i=>([.int .i64 i],S),inv:=fun i=>i≤ks.length∧∀j,j<i→n.kd≠ks.getD j 0,mu:=fun i=>ks.length-i }
  |_=>none }
def Qjd(a:Nd):Int:=Nd.kd a
def Qsa(a:Nat)(b:List Int)(c:Nd):Prop:=a≤LN b∧∀(j:Nat),j<a→Qjd c≠GI b j
def QGD(a:Nd):Int:=Nd.at_ a
def QGE(a:Nd):Int:=Nd.cl a
def QGF(a:Nd):List UInt8:=Nd.tx a
def QGG(a:Nd):Int:=Nd.pr a
def QGH(a:Nd):Int:=Nd.op a
def QnX(a:Nd):Arr:=Nd.va a
def QGI(a:Nd):Int:=Arr.k (QnX a)
def QGJ(a:Nd):List Int:=Arr.sh (QnX a)
def Qsb(a:Nd):Nat:=LN (QGJ a)
def QGK(a:Nd)(b:Nat):List D:=[ZI (GI (QGJ a) b)]
def QGL(a:Nd):List Int:=Arr.nu (QnX a)
def Qsc(a:Nd):Nat:=LN (QGL a)
def QGM(a:Nd)(b:Nat):List D:=[ZI (GI (QGL a) b)]
def QGN(a:Nd):List Arr:=Arr.it (QnX a)
def Qsd(a:Nd):Nat:=LN (QGN a)
def QGO:Arr:=DA
def QGP(a:Nd)(b:Nat):List D:=Arr.row (List.getD (QGN a) b QGO)
def Qse(a:Nd):Nat:=LN (Nd.ki a)
def Qsf:Nd:=Nd.mk Z0 Z0 Z0 [] Z0 Z0 QGO [] [] Z0 Z0 Z0
def QGQ(a:Nd)(b:Nat):List D:=Nd.row (List.getD (Nd.ki a) b Qsf)
def Qsg(a:Nd):Nat:=LN (Nd.bo a)
def QGR(a:Nd)(b:Nat):List D:=Sm.row (List.getD (Nd.bo a) b (Sm.mk Z0 Z0 [] Z0 Qsf Qsf))
def QGS(a:Nd):Int:=Nd.de a
def QGT(a:Nd):Int:=Nd.sl a
def QGU(a:Nd):Int:=Nd.ss a
def QGV(a:Nat)(b:Nd):Prop:=(SM a∧(SM (Qjd b)∧SM (QGD b)∧SM (QGE b)∧SM (QGF b)∧SM (QGG b)∧SM (QGH b)∧SM (QGI b)∧(SM (Qsb b)∧(∀(i:Nat),i<Qsb b→SM (QGK b i))∧True)∧(SM (Qsc b)∧(∀(i:Nat),i<Qsc b→SM (QGM b i))∧True)∧(SM (Qsd b)∧(∀(i:Nat),i<Qsd b→SM (QGP b i))∧True)∧(SM (Qse b)∧(∀(i:Nat),i<Qse b→SM (QGQ b i))∧True)∧(SM (Qsg b)∧(∀(i:Nat),i<Qsg b→SM (QGR b i))∧True)∧SM (QGS b)∧SM (QGT b)∧SM (QGU b)∧True)∧True)∧True
def QMa(a:Nd):D:=D.agg [ZI (Qjd a),ZI (QGD a),ZI (QGE a),D.str (QGF a),ZI (QGG a),ZI (QGH a),ZI (QGI a),D.sl N1 (Qsb a) (fun (i:Nat)=>QGK a i) Mode.any,D.sl N1 (Qsc a) (fun (i:Nat)=>QGM a i) Mode.any,D.sl N4 (Qsd a) (fun (i:Nat)=>QGP a i) Mode.any,D.sl (15:Nat) (Qse a) (fun (i:Nat)=>QGQ a i) Mode.any,D.sl (34:Nat) (Qsg a) (fun (i:Nat)=>QGR a i) Mode.any,ZI (QGS a),ZI (QGT a),ZI (QGU a)]
def QMb(a:List Int):D:=SI a
theorem amo_ok(n:Nd)(ks:List Int)(hk:ks.length≤maxLen):CD 73 [.agg n.row1,isl ks .any] (.bool (ks.contains n.kd)):=by
 refine con_of (A:=sC _ _) (x:=()) (E:=Eamo n ks) (eOk con0_ok rfl) Tryz.func73 rfl (by kernel_rfl) rfl (by simp[sC,Eamo,EC,E0]) ?_
 refine vc_eq (T :=
  ∀(x:Nat),True→(∃(x_1:Nat),Qsa x_1 ks n∧(Z0=(↑x_1:Int)∧True)∧QGV x n)∧∀(x_1:Nat),Qsa x_1 ks n→ifB (decide ((↑x_1:Int)<(LI ks))) (SM x∧side (Z0≤(↑x_1:Int)∧(↑x_1:Int)<(LI ks)) (ifB (Qjd n==GI ks (Int.toNat (↑x_1:Int))) (RT (true=List.contains ks (Qjd n))) ((SM (QMa n)∧SM (QMb ks)∧SM (D.ref N0 x N0)∧True)∧∃(y:Nat),Qsa y ks n∧LN ks-y<LN ks-x_1∧(IntKind.wrap IntKind.i64 ((↑x_1:Int)+Z1)=(↑y:Int)∧True)∧QGV x n))) (RT (false=List.contains ks (Qjd n)))) (by kernel_rfl) ?_
 delta DA GI LI LN N0 N1 N4 SI SM Z0 Z1 ZI Qjd Qsa Qsb QGK QGL Qsc QGM QGN Qsd QGO QGP Qse QGD Qsf QGQ Qsg QGR QGS QGT QGU QGV QMa QMb QGE QGF QGG QGH QnX QGI QGJ RT
 try simp only[← dm]
 try simp only[← dn]
 simp only[ne_eq,implies_true,Int.toNat_natCast,ifB_iff,side_iff,decide_eq_true_eq,decide_eq_false_iff_not,true_and,and_true,beq_iff_eq,beq_eq_false_iff_ne,exists_const,forall_const]
 unfold maxLen at hk
 refine⟨⟨0,⟨Nat.zero_le _,fun j hj=>absurd hj (by omega)⟩,rfl⟩,fun i hi'=>⟨fun hlt=>?_,fun hge=>?_⟩⟩
 ·obtain ⟨i1,hi⟩:=hi'
  have hi1:i<ks.length:=by omega
  refine⟨⟨by omega,by omega⟩,fun c=>?_,fun c=>⟨i+1,⟨hi1,fun j hj=>?_⟩,by omega,wrap_i64' (by omega) (by omega)⟩⟩
  ·symm
   rw[List.contains_eq_mem,decide_eq_true_eq,c,List.getD_eq_getElem?_getD,List.getElem?_eq_getElem hi1]
   exact List.getElem_mem hi1
  ·by_cases e':j=i
   ·rw[e'];exact c
   ·exact hi j (by omega)
 ·obtain ⟨i1,hi⟩:=hi'
  symm
  rw[List.contains_eq_mem,decide_eq_false_iff_not]
  intro hm
  obtain ⟨j,hj,e⟩:=List.getElem_of_mem hm
  refine hi j (by omega) ?_
  rw[List.getD_eq_getElem?_getD,List.getElem?_eq_getElem hj]
  exact e.symm
def parT(b:Bool)(x:List UInt8):List UInt8:=bif b then wrapT x else x
theorem parT_with(ks:List Int)(n:Nd):parT (ks.contains n.kd) (showN n)=withN ks n:=by
 unfold parT withN withT
 cases ks.contains n.kd<;>rfl
def conRpa(q:Nd→Prop):Con:=fun k ds S=>match k with
 |45=>some (pE (β:=Nd) ds S (fun b=>.str (showN b)) (fun b=>isN b ds []∧q b))
 |_=>none
theorem conRpa_ok{q:Nd→Prop}(h:∀b,q b→RRShow b):ConOk Tryz.prog (conRpa q):=by
 intro k ds S A hh
 unfold conRpa at hh
 split at hh
 ·injection hh with hh;subst hh
  exact pS_ok fun b ⟨e,hb⟩=>CD.at_ (CD.isN (h b hb).1 e) _
 ·cases hh
noncomputable def Epar(q:Nd→Prop):Senv:=EC (conRpa q) 12 3 [4,5] (fun _=>([],[]))
def QnY(a:Nd):Arr:=Nd.va a
def QMc(a:Nd):List Int:=Arr.sh (QnY a)
def QMd(a:Nd):List Int:=Arr.nu (QnY a)
def QGW(a:Nd):List Arr:=Arr.it (QnY a)
def QGX:Arr:=DA
def Qsh:Nd:=Nd.mk Z0 Z0 Z0 [] Z0 Z0 QGX [] [] Z0 Z0 Z0
def QGY(a b:Nd)(c:Nd→Prop):Prop:=isN a [D.agg [ZI (Nd.kd b),ZI (Nd.at_ b),ZI (Nd.cl b),D.str (Nd.tx b),ZI (Nd.pr b),ZI (Nd.op b),ZI (Arr.k (QnY b)),SI (QMc b),SI (QMd b),D.sl N4 (LN (QGW b)) (fun (i:Nat)=>Arr.row (List.getD (QGW b) i QGX)) Mode.any,D.sl (15:Nat) (LN (Nd.ki b)) (fun (i:Nat)=>Nd.row (List.getD (Nd.ki b) i Qsh)) Mode.any,D.sl (34:Nat) (LN (Nd.bo b)) (fun (i:Nat)=>Sm.row (List.getD (Nd.bo b) i (Sm.mk Z0 Z0 [] Z0 Qsh Qsh))) Mode.any,ZI (Nd.de b),ZI (Nd.sl b),ZI (Nd.ss b)]] []∧c a
def Qkl(a:Nd):List UInt8:=showN a
def QGZ(a:Bool)(b:Nd):List UInt8:=parT a (Qkl b)
theorem par_ok(q:Nd→Prop)(h:∀b,q b→RRShow b)(n:Nd)(hn:q n)(b:Bool):CD 72 [.agg n.row1,.bool b] (.str (parT b (showN n))):=by
 refine con_of (A:=sC _ _) (x:=()) (E:=Epar q) (eOk (conRpa_ok h) rfl) Tryz.func72 rfl (by kernel_rfl) rfl (by simp[sC,Epar,EC,E0]) ?_
 refine vc_eq (T :=
  ∀(x:Nat),True→ifB b (SM x∧∃(x:Nd),QGY x n q∧∀(y:Unit),True→side (N2+LN (Qkl x)≤(9223372036854775807:Nat)) (side (LN ((40:UInt8)::(32:UInt8)::List.append [] (Qkl x))+N2≤(9223372036854775807:Nat)) (RT ((40:UInt8)::(32:UInt8)::List.append (List.append [] (Qkl x)) [(32:UInt8),(41:UInt8)]=QGZ b n)))) (SM x∧∃(x:Nd),QGY x n q∧∀(y:Unit),True→RT (Qkl x=QGZ b n))) (by kernel_rfl) ?_
 delta DA GI LN N1 N2 N4 SI SM Z0 ZI QnY QMc QMd QGW QGX Qsh QGY Qkl QGZ RT
 try simp only[← dm]
 try simp only[← dn]
 simp only[ifB_iff,side_iff,true_and,and_true,exists_const,forall_const]
 have hl:=(h n hn).2
 refine⟨fun c=>⟨n,⟨nd_self _ _,hn⟩,by omega,?_,?_⟩,fun c=>⟨n,⟨nd_self _ _,hn⟩,?_⟩⟩
 ·simp only[List.length_cons,List.append_eq,List.nil_append];omega
 ·rw[c];rfl
 ·rw[c];rfl
def conRli(q:Nd→Prop):Con:=fun k ds S=>match k with
 |73=>match ds with
  | [_,.sl 1 m f _]=>some (pE (β:=Nd) ds S (fun b=>.bool ((intsD m f).contains b.kd)) (fun b=>wkL ds [.agg b.row1,isl (intsD m f) .any]∧m≤maxLen))
  |_=>none
 |72=>match ds with
  | [_,.bool t]=>some (pE (β:=Nd) ds S (fun b=>.str (parT t (showN b))) (fun b=>isN b ds [.bool t]∧q b))
  |_=>none
 |k=>conRpa q k ds S
theorem conRli_ok{q:Nd→Prop}(h:∀b,q b→RRShow b):ConOk Tryz.prog (conRli q):=by
 intro k ds S A hh
 unfold conRli at hh
 split at hh
 ·split at hh
  ·injection hh with hh;subst hh
   exact pS_ok fun b ⟨e,hm⟩=>CD.at_ (CD.wk (amo_ok b _ (by rw[intsD_len];exact hm)) e) _
  ·cases hh
 ·split at hh
  ·injection hh with hh;subst hh
   exact pS_ok fun b ⟨e,hb⟩=>CD.at_ (CD.wk (par_ok q h b hb _) e) _
  ·cases hh
 ·exact conRpa_ok h _ _ _ _ hh
noncomputable def Erli(q:Nd→Prop)(l:List Nd)(ks:List Int):Senv:={ EC (conRli q) 31 2 [4,5,6,10,14] (fun id=>match id with | 7=>([0,1,2,3,4,5,6,7,8,9,10,11,12,13],[10,11]) | _=>([],[])) with
 mg:=fun _=>2
 ann:=fun b _ S=>match b with
  |0=>some { slots:=[6,5],keep:=[0,1],α:=Nat×List UInt8,st:=fun y=>([.int .i64 y.1,.str y.2],S),inv:=fun y=>y.1≤l.length∧y.2=Lib.join ((l.map (withN ks)).take y.1) [32],mu:=fun y=>l.length-y.1 }
  |_=>none }
def QnZ(a:Nat)(b:List Nd)(c:List UInt8)(d:List Int):Prop:=a≤LN b∧c=Lib.join (List.take a (List.map (withN d) b)) [(32:UInt8)]
def Qn0:Arr:=DA
def Qir:Nd:=Nd.mk Z0 Z0 Z0 [] Z0 Z0 Qn0 [] [] Z0 Z0 Z0
def HT(a:List Nd)(b:Nat):Nd:=List.getD a (Int.toNat (↑b:Int)) Qir
def Qn1(a:List Nd)(b:Nat):Arr:=Nd.va (HT a b)
def QMe(a:List Nd)(b:Nat):List Int:=Arr.sh (Qn1 a b)
def QMf(a:List Nd)(b:Nat):List Int:=Arr.nu (Qn1 a b)
def QG0(a:List Nd)(b:Nat):List Arr:=Arr.it (Qn1 a b)
def QG1(a:List Nd)(b:Nat):List Nd:=Nd.ki (HT a b)
def QG2(a:List Nd)(b:Nat):List Sm:=Nd.bo (HT a b)
def Qsi:Sm:=Sm.mk Z0 Z0 [] Z0 Qir Qir
def QG3(a:List Nd)(b:Nat):D:=D.agg [ZI (Nd.kd (HT a b)),ZI (Nd.at_ (HT a b)),ZI (Nd.cl (HT a b)),D.str (Nd.tx (HT a b)),ZI (Nd.pr (HT a b)),ZI (Nd.op (HT a b)),ZI (Arr.k (Qn1 a b)),SI (QMe a b),SI (QMf a b),D.sl N4 (LN (QG0 a b)) (fun (i:Nat)=>Arr.row (List.getD (QG0 a b) i Qn0)) Mode.any,D.sl (15:Nat) (LN (QG1 a b)) (fun (i:Nat)=>Nd.row (List.getD (QG1 a b) i Qir)) Mode.any,D.sl (34:Nat) (LN (QG2 a b)) (fun (i:Nat)=>Sm.row (List.getD (QG2 a b) i Qsi)) Mode.any,ZI (Nd.de (HT a b)),ZI (Nd.sl (HT a b)),ZI (Nd.ss (HT a b))]
def QG4(a:List Int):D:=SI a
def Qn2(a:Nd):Arr:=Nd.va a
def QMg(a:Nd):List Int:=Arr.sh (Qn2 a)
def QMh(a:Nd):List Int:=Arr.nu (Qn2 a)
def QG5(a:Nd):List Arr:=Arr.it (Qn2 a)
def QG6(a:List Int):List Int:=intsD (LN a) fun (i:Nat)=>[ZI (GI a i)]
def QG7(a:List Nd)(b:Nat)(c:List Int)(d:Nd):Prop:=wkL [QG3 a b,QG4 c] [D.agg [ZI (Nd.kd d),ZI (Nd.at_ d),ZI (Nd.cl d),D.str (Nd.tx d),ZI (Nd.pr d),ZI (Nd.op d),ZI (Arr.k (Qn2 d)),SI (QMg d),SI (QMh d),D.sl N4 (LN (QG5 d)) (fun (i:Nat)=>Arr.row (List.getD (QG5 d) i Qn0)) Mode.any,D.sl (15:Nat) (LN (Nd.ki d)) (fun (i:Nat)=>Nd.row (List.getD (Nd.ki d) i Qir)) Mode.any,D.sl (34:Nat) (LN (Nd.bo d)) (fun (i:Nat)=>Sm.row (List.getD (Nd.bo d) i Qsi)) Mode.any,ZI (Nd.de d),ZI (Nd.sl d),ZI (Nd.ss d)],SI (QG6 c)]∧LN c≤(9223372036854775807:Nat)
def QG8(a:List Int)(b:Nd):Bool:=List.contains (QG6 a) (Nd.kd b)
def QG9(a:List Int)(b:Nd):List D:=[D.bool (QG8 a b)]
def QHa(a:Nd)(b:List Nd)(c:Nat)(d:List Int)(e:Nd)(f:Nd→Prop):Prop:=isN a (QG3 b c::QG9 d e) (QG9 d e)∧f a
def Qsj(a:List Int)(b c:Nd):List UInt8:=parT (QG8 a b) (showN c)
def QHb(a:List Int)(b c:Nd):Nat:=LN (Qsj a b c)
def HU(a:List Nd)(b:Nat):Nd:=List.getD a b Qir
def Qn3(a:List Nd)(b:Nat):Arr:=Nd.va (HU a b)
def QMi(a:List Nd)(b:Nat):List Int:=Arr.sh (Qn3 a b)
def QMj(a:List Nd)(b:Nat):List Int:=Arr.nu (Qn3 a b)
def QHc(a:List Nd)(b:Nat):List Arr:=Arr.it (Qn3 a b)
def QHe(a:List Nd)(b:Nat):List Nd:=Nd.ki (HU a b)
def QHf(a:List Nd)(b:Nat):List Sm:=Nd.bo (HU a b)
def QMk(a:List Nd):D:=D.sl (15:Nat) (LN a) (fun (i:Nat)=>[ZI (Nd.kd (HU a i)),ZI (Nd.at_ (HU a i)),ZI (Nd.cl (HU a i)),D.str (Nd.tx (HU a i)),ZI (Nd.pr (HU a i)),ZI (Nd.op (HU a i)),ZI (Arr.k (Qn3 a i)),SI (QMi a i),SI (QMj a i),D.sl N4 (LN (QHc a i)) (fun (i_1:Nat)=>Arr.row (List.getD (QHc a i) i_1 Qn0)) Mode.any,D.sl (15:Nat) (LN (QHe a i)) (fun (i_1:Nat)=>Nd.row (List.getD (QHe a i) i_1 Qir)) Mode.any,D.sl (34:Nat) (LN (QHf a i)) (fun (i_1:Nat)=>Sm.row (List.getD (QHf a i) i_1 Qsi)) Mode.any,ZI (Nd.de (HU a i)),ZI (Nd.sl (HU a i)),ZI (Nd.ss (HU a i))]) Mode.any
def QHg(a:List Nd)(b:List Int):Prop:=SM (QMk a)∧SM (QG4 b)∧True
theorem rli_ok(q : Nd → Prop)(l : List Nd)(ks : List Int)(h : ∀b, q b → RRShow b)(hq : ∀b∈l, q b)(hl : l.length≤maxLen)(hk : ks.length≤maxLen)(hj : (Lib.join (l.map (withN ks)) [32]).length≤20000000000000) :
  CD 71 [gsl 15 Nd.row1 l,isl ks .any] (.str (Lib.join (l.map (withN ks)) [32])):=by
 refine con_of (A:=sC _ _) (x:=()) (E:=Erli q l ks) (eOk (conRli_ok h) rfl) Tryz.func71 rfl (by kernel_rfl) rfl (by simp[sC,Erli,EC,E0]) ?_
 refine vc_eq (T :=
  (∃(x:Nat×List UInt8),QnZ x.1 l x.2 ks∧(Z0=(NI x.1)∧eqOf (List UInt8) [] x.2∧True)∧True∧True)∧∀(x:Nat×List UInt8),QnZ x.1 l x.2 ks→ifB (decide ((NI x.1)<(LI l))) (ifB (decide (Z0<(NI x.1))) (side (LN x.2+N1≤(9223372036854775807:Nat)) (side (Z0≤(NI x.1)∧(NI x.1)<(LI l)) (side (Z0≤(NI x.1)∧(NI x.1)<(LI l)) (∃(x_1:Nd),QG7 l x.1 ks x_1∧∀(y:Unit),True→∃(x_2:Nd),QHa x_2 l x.1 ks x_1 q∧∀(y:Unit),True→side (LN (x.2++[(32:UInt8)])+QHb ks x_1 x_2≤(9223372036854775807:Nat)) (QHg l ks∧∃(y:Nat×List UInt8),QnZ y.1 l y.2 ks∧LN l-y.1<LN l-x.1∧(IntKind.wrap IntKind.i64 ((NI x.1)+Z1)=(NI y.1)∧x.2++[(32:UInt8)]++Qsj ks x_1 x_2=y.2∧True)∧True∧True))))) (side (Z0≤(NI x.1)∧(NI x.1)<(LI l)) (side (Z0≤(NI x.1)∧(NI x.1)<(LI l)) (∃(x_1:Nd),QG7 l x.1 ks x_1∧∀(y:Unit),True→∃(x_2:Nd),QHa x_2 l x.1 ks x_1 q∧∀(y:Unit),True→side (LN x.2+QHb ks x_1 x_2≤(9223372036854775807:Nat)) (QHg l ks∧∃(y:Nat×List UInt8),QnZ y.1 l y.2 ks∧LN l-y.1<LN l-x.1∧(IntKind.wrap IntKind.i64 ((NI x.1)+Z1)=(NI y.1)∧x.2++Qsj ks x_1 x_2=y.2∧True)∧True∧True))))) (RT (x.2=Lib.join (List.map (withN ks) l) [(32:UInt8)]))) (by kernel_rfl) ?_
 delta DA GI LI LN N1 N4 NI SI SM Z0 Z1 ZI QnZ Qn0 Qir HT Qn1 QMe QMf QG0 QG1 QG2 Qsi QG3 QG4 Qn2 QMg QMh QG5 QG6 QG7 QG8 QG9 QHa Qsj QHb HU Qn3 QMi QMj QHc QHe QHf QMk QHg RT
 try simp only[← dm]
 try simp only[← dn]
 simp only[Int.toNat_natCast,ifB_iff,side_iff,decide_eq_true_eq,decide_eq_false_iff_not,true_and,and_true,exists_const,forall_const,Prod.exists]
 simp only[intsD_isl]
 unfold maxLen at hk hl
 refine⟨⟨0,[],⟨Nat.zero_le _,by simp[Lib.join]⟩,rfl,rfl⟩,?_⟩
 rintro ⟨i,s⟩ ⟨i1,hs⟩
 simp only at i1 hs ⊢
 refine⟨fun hlt=>?_,fun hge=>?_⟩
 ·have hlt':i<l.length:=by omega
  have hlm:i<(l.map (withN ks)).length:=by simpa using hlt'
  have jt:=join_take [32] hlm
  obtain ⟨j1,j2⟩:=join_item [32] hlm
  have eg:(l.map (withN ks)).getD i []=withN ks (l.getD i default):=by simp[List.getD_eq_getElem?_getD,hlt']
  have pw:=parT_with ks (l.getD i default)
  have w:IntKind.i64.wrap ((i:Int)+1)=((i+1:Nat):Int):=by rw[wrap_i64' (by omega) (by omega)];rfl
  rw[eg] at jt j1 j2
  simp only[List.length_cons,List.length_nil] at j2
  refine⟨fun h0=>⟨?_,⟨by omega,hlt⟩,⟨by omega,hlt⟩,l.getD i default,⟨wkL_refl _,hk⟩,l.getD i default,⟨nd_self _ _,hq _ (nd_getD hlt')⟩,?_,i+1,_,⟨hlt',?_⟩,by omega,w,rfl⟩,
   fun h0=>⟨⟨by omega,hlt⟩,⟨by omega,hlt⟩,l.getD i default,⟨wkL_refl _,hk⟩,l.getD i default,⟨nd_self _ _,hq _ (nd_getD hlt')⟩,?_,i+1,_,⟨hlt',?_⟩,by omega,w,rfl⟩⟩
  ·have:=j2 (by omega)
   rw[hs];omega
  ·have:=j2 (by omega)
   rw[pw,hs]
   simp only[List.length_append,List.length_cons,List.length_nil]
   omega
  ·rw[jt,if_pos (by omega),pw,hs]
  ·rw[pw,hs]
   have:i=0:=by omega
   subst this
   simp only[List.take_zero]
   have e0:(Lib.join ([]:List (List UInt8)) [32])=[]:=by simp[Lib.join]
   rw[e0]
   simp only[List.length_nil]
   omega
  ·have:i=0:=by omega
   subst this
   rw[jt,pw,hs]
   simp[Lib.join]
 ·have e:i=l.length:=by omega
  rw[hs,e,List.take_of_length_le (by simp)]
def leafT(n:Nd):List UInt8:=if n.kd=1 then litF n.va else if n.kd=2 then n.tx else if n.kd=9 then primT n.pr else if n.kd=17 then opT n.op
 else if n.kd=6 then [88] else if n.kd=7 then [89] else if n.kd=8 then [97,114,103] else if n.kd=11 then [115,101,108,102] else if n.kd=12 then [70] else [71]
def conRwo(n:Nd):Con:=fun k ds S=>match k with
 |99=>some (pA ds S (.str (litF n.va)) (wkL ds [.agg n.va.row1]))
 |100=>some (pA ds S (.str (primT n.pr)) (wkL ds [.int .i64 n.pr]))
 |101=>some (pA ds S (.str (opT n.op)) (wkL ds [.int .i64 n.op]))
 |_=>none
theorem nd_int{n:Nd}(h:n.ok):inI64 n.pr∧inI64 n.op:=by
 cases n with
 |mk kd at_ cl tx pr op va ki bo de sl ss =>
  simp only[Nd.ok] at h
  exact⟨h.1.2.2.2.1,h.1.2.2.2.2.1⟩
theorem conRwo_ok{n:Nd}(ho:n.ok):ConOk Tryz.prog (conRwo n):=by
 intro k ds S A hh
 unfold conRwo at hh
 split at hh
 ·injection hh with hh;subst hh
  exact pA_ok fun e=>CD.at_ (CD.wk (show CD _ [.agg n.va.row1] _ from (rlitF_ok n.va (va_ok ho)).mono fun _ _ ⟨_,h1,h2,h3⟩=>⟨(),trivial,h2,h3⟩) e) _
 ·injection hh with hh;subst hh
  exact pA_ok fun e=>CD.at_ (CD.wk (rpn_ok n.pr (nd_int ho).1) e) _
 ·injection hh with hh;subst hh
  exact pA_ok fun e=>CD.at_ (CD.wk (ron_ok n.op (nd_int ho).2) e) _
 ·cases hh
noncomputable def Erwo(n:Nd):Senv:=EC (conRwo n) 34 3 [4,5,10,14,19,24,26,28,30,32] (fun _=>([],[]))
def Qgu(a:Nd):Int:=Nd.kd a
def Qkm(a:Nd):Arr:=Nd.va a
def QMl(a:Nd):List Int:=Arr.sh (Qkm a)
def QMm(a:Nd):List Int:=Arr.nu (Qkm a)
def QHh(a:Nd):List Arr:=Arr.it (Qkm a)
def QHi(a:Nd):List D:=[D.agg [ZI (Arr.k (Qkm a)),SI (QMl a),SI (QMm a),D.sl N4 (LN (QHh a)) (fun (i:Nat)=>Arr.row (GA (QHh a) i)) Mode.any]]
def Qgd(a:Nd):List UInt8:=leafT a
theorem rwo_ok(n:Nd)(ho:n.ok):CD 75 [.agg n.row2] (.str (leafT n)):=by
 refine con_of (A:=sC _ _) (x:=()) (E:=Erwo n) (eOk (conRwo_ok ho) rfl) Tryz.func75 rfl (by kernel_rfl) rfl (by simp[sC,Erwo,EC,E0]) ?_
 refine vc_eq (T :=
  ∀(x:Nat),True→SM x∧ifB (Qgu n==Z1) (SM x∧∃(x:Unit),wkL (QHi n) (QHi n)∧∀(y:Unit),True→RT (litF (Qkm n)=Qgd n)) (ifB (Qgu n==(2:Int)) (SM x∧RT (Nd.tx n=Qgd n)) (ifB (Qgu n==(9:Int)) (SM x∧∃(x:Unit),wkL [ZI (Nd.pr n)] [ZI (Nd.pr n)]∧∀(y:Unit),True→RT (primT (Nd.pr n)=Qgd n)) (ifB (Qgu n==(17:Int)) (SM x∧∃(x:Unit),wkL [ZI (Nd.op n)] [ZI (Nd.op n)]∧∀(y:Unit),True→RT (opT (Nd.op n)=Qgd n)) (ifB (Qgu n==(6:Int)) (RT ([(88:UInt8)]=Qgd n)) (ifB (Qgu n==(7:Int)) (RT ([(89:UInt8)]=Qgd n)) (ifB (Qgu n==(8:Int)) (RT ([(97:UInt8),(114:UInt8),(103:UInt8)]=Qgd n)) (ifB (Qgu n==(11:Int)) (RT ([(115:UInt8),(101:UInt8),(108:UInt8),(102:UInt8)]=Qgd n)) (ifB (Qgu n==(12:Int)) (RT ([(70:UInt8)]=Qgd n)) (RT ([(71:UInt8)]=Qgd n))))))))))) (by kernel_rfl) ?_
 delta DA GA GI LN N1 N4 SI SM Z0 Z1 ZI Qgu Qkm QMl QMm QHh QHi Qgd RT
 try simp only[]
 try simp only[← dn]
 simp only[ne_eq,ifB_iff,true_and,and_true,beq_iff_eq,beq_eq_false_iff_ne,exists_const,forall_const]
 unfold leafT
 repeat' (first | exact wkL_refl _ | refine And.intro ?_ ?_ | intro _)
 all_goals first
  |(simp_all;done)
  |(simp_all;omega)
noncomputable def Erbd(q:Nd→Prop)(l:List Sm):Senv:={ EC (conRpa q) 56 2 [4,5,6,10,14,23,37] (fun _=>([],[])) with
 mg:=fun _=>2
 ann:=fun b _ S=>match b with
  |0=>some { slots:=[6,5],keep:=[0,1],α:=Nat×List UInt8,st:=fun y=>([.int .i64 y.1,.str y.2],S),inv:=fun y=>y.1≤l.length∧y.2=Lib.join ((l.map showM).take y.1) [32,59,32],mu:=fun y=>l.length-y.1 }
  |_=>none }
def Qn4:List UInt8:=[(32:UInt8),(59:UInt8),(32:UInt8)]
def Qge(a:Nat)(b:List Sm)(c:List UInt8):Prop:=a≤LN b∧c=Lib.join (List.take a (List.map showM b)) Qn4
def Qkn:Arr:=DA
def Qje:Nd:=Nd.mk Z0 Z0 Z0 [] Z0 Z0 Qkn [] [] Z0 Z0 Z0
def Qjf:Sm:=Sm.mk Z0 Z0 [] Z0 Qje Qje
def Qn5(a:List Sm)(b:Nat):Sm:=List.getD a (Int.toNat (↑b:Int)) Qjf
def QHj(a:List Sm)(b:Nat):Int:=Sm.kd (Qn5 a b)
def QHk(a:List Sm)(b:Nat):Bool:=QHj a b==(2:Int)
def QHl(a:List Sm)(b:Nat):List UInt8:=Sm.nm (Qn5 a b)
def QHm(a:List Sm)(b:Nat):Nat:=LN (QHl a b)+N4
def Qn6(a:List UInt8):List UInt8:=a++Qn4
def Qsk(a:List UInt8):Nat:=LN (Qn6 a)
def Qsl(a:List Sm)(b:Nat):List UInt8:=QHl a b++[(32:UInt8),(60:UInt8),(45:UInt8),(32:UInt8)]
def QHn(a:List Sm)(b:Nat):Nat:=LN (Qsl a b)
def Qn7(a:List Sm)(b:Nat):Bool:=QHj a b==(3:Int)
def HV(a:List Sm)(b:Nat):Nd:=Sm.te (Qn5 a b)
def Qn8(a:List Sm)(b:Nat):Arr:=Nd.va (HV a b)
def QMn(a:List Sm)(b:Nat):List Int:=Arr.sh (Qn8 a b)
def QMo(a:List Sm)(b:Nat):List Int:=Arr.nu (Qn8 a b)
def QHo(a:List Sm)(b:Nat):List Arr:=Arr.it (Qn8 a b)
def QHp(a:List Sm)(b:Nat):List Nd:=Nd.ki (HV a b)
def QHq(a:List Sm)(b:Nat):List Sm:=Nd.bo (HV a b)
def Qn9(a:Nd)(b:List Sm)(c:Nat)(d:Nd→Prop):Prop:=isN a [D.agg [ZI (Nd.kd (HV b c)),ZI (Nd.at_ (HV b c)),ZI (Nd.cl (HV b c)),D.str (Nd.tx (HV b c)),ZI (Nd.pr (HV b c)),ZI (Nd.op (HV b c)),ZI (Arr.k (Qn8 b c)),SI (QMn b c),SI (QMo b c),D.sl N4 (LN (QHo b c)) (fun (i:Nat)=>Arr.row (List.getD (QHo b c) i Qkn)) Mode.any,D.sl (15:Nat) (LN (QHp b c)) (fun (i:Nat)=>Nd.row (List.getD (QHp b c) i Qje)) Mode.any,D.sl (34:Nat) (LN (QHq b c)) (fun (i:Nat)=>Sm.row (List.getD (QHq b c) i Qjf)) Mode.any,ZI (Nd.de (HV b c)),ZI (Nd.sl (HV b c)),ZI (Nd.ss (HV b c))]] []∧d a
def Qgf(a:Nd):List UInt8:=showN a
def Qgv(a:Nd):Nat:=LN (Qgf a)
def Qoa(a:Nd):Nat:=Qgv a+(3:Nat)
def Qsm(a:List UInt8)(b:List Sm)(c:Nat):List UInt8:=Qn6 a++Qsl b c
def QHr(a:List UInt8)(b:List Sm)(c:Nat):Nat:=LN (Qsm a b c)
def Qko(a:Nd):List UInt8:=Qgf a++[(32:UInt8),(58:UInt8),(32:UInt8)]
def Qob(a:Nd):Nat:=LN (Qko a)
def HW(a:List Sm)(b:Nat):Nd:=Sm.nd (Qn5 a b)
def Qoc(a:List Sm)(b:Nat):Arr:=Nd.va (HW a b)
def QMp(a:List Sm)(b:Nat):List Int:=Arr.sh (Qoc a b)
def QMq(a:List Sm)(b:Nat):List Int:=Arr.nu (Qoc a b)
def QHs(a:List Sm)(b:Nat):List Arr:=Arr.it (Qoc a b)
def QHt(a:List Sm)(b:Nat):List Nd:=Nd.ki (HW a b)
def QHu(a:List Sm)(b:Nat):List Sm:=Nd.bo (HW a b)
def QgK(a:Nd)(b:List Sm)(c:Nat)(d:Nd→Prop):Prop:=isN a [D.agg [ZI (Nd.kd (HW b c)),ZI (Nd.at_ (HW b c)),ZI (Nd.cl (HW b c)),D.str (Nd.tx (HW b c)),ZI (Nd.pr (HW b c)),ZI (Nd.op (HW b c)),ZI (Arr.k (Qoc b c)),SI (QMp b c),SI (QMq b c),D.sl N4 (LN (QHs b c)) (fun (i:Nat)=>Arr.row (List.getD (QHs b c) i Qkn)) Mode.any,D.sl (15:Nat) (LN (QHt b c)) (fun (i:Nat)=>Nd.row (List.getD (QHt b c) i Qje)) Mode.any,D.sl (34:Nat) (LN (QHu b c)) (fun (i:Nat)=>Sm.row (List.getD (QHu b c) i Qjf)) Mode.any,ZI (Nd.de (HW b c)),ZI (Nd.sl (HW b c)),ZI (Nd.ss (HW b c))]] []∧d a
def QHv(a:List UInt8)(b:List Sm)(c:Nat)(d:Nd):List UInt8:=Qsm a b c++Qko d
def Qjg(a:List Sm)(b:Nat):Sm:=List.getD a b Qjf
def HX(a:List Sm)(b:Nat):Nd:=Sm.te (Qjg a b)
def Qod(a:List Sm)(b:Nat):Arr:=Nd.va (HX a b)
def QMr(a:List Sm)(b:Nat):List Int:=Arr.sh (Qod a b)
def QMs(a:List Sm)(b:Nat):List Int:=Arr.nu (Qod a b)
def QHw(a:List Sm)(b:Nat):List Arr:=Arr.it (Qod a b)
def QHx(a:List Sm)(b:Nat):List Nd:=Nd.ki (HX a b)
def QHy(a:List Sm)(b:Nat):List Sm:=Nd.bo (HX a b)
def HY(a:List Sm)(b:Nat):Nd:=Sm.nd (Qjg a b)
def Qoe(a:List Sm)(b:Nat):Arr:=Nd.va (HY a b)
def QMt(a:List Sm)(b:Nat):List Int:=Arr.sh (Qoe a b)
def QMu(a:List Sm)(b:Nat):List Int:=Arr.nu (Qoe a b)
def QHz(a:List Sm)(b:Nat):List Arr:=Arr.it (Qoe a b)
def QHA(a:List Sm)(b:Nat):List Nd:=Nd.ki (HY a b)
def QHB(a:List Sm)(b:Nat):List Sm:=Nd.bo (HY a b)
def QMv(a:List Sm):D:=D.sl (34:Nat) (LN a) (fun (i:Nat)=>[ZI (Sm.kd (Qjg a i)),ZI (Sm.at_ (Qjg a i)),D.str (Sm.nm (Qjg a i)),ZI (Sm.sl (Qjg a i)),ZI (Nd.kd (HX a i)),ZI (Nd.at_ (HX a i)),ZI (Nd.cl (HX a i)),D.str (Nd.tx (HX a i)),ZI (Nd.pr (HX a i)),ZI (Nd.op (HX a i)),ZI (Arr.k (Qod a i)),SI (QMr a i),SI (QMs a i),D.sl N4 (LN (QHw a i)) (fun (i_1:Nat)=>Arr.row (List.getD (QHw a i) i_1 Qkn)) Mode.any,D.sl (15:Nat) (LN (QHx a i)) (fun (i_1:Nat)=>Nd.row (List.getD (QHx a i) i_1 Qje)) Mode.any,D.sl (34:Nat) (LN (QHy a i)) (fun (i_1:Nat)=>Sm.row (List.getD (QHy a i) i_1 Qjf)) Mode.any,ZI (Nd.de (HX a i)),ZI (Nd.sl (HX a i)),ZI (Nd.ss (HX a i)),ZI (Nd.kd (HY a i)),ZI (Nd.at_ (HY a i)),ZI (Nd.cl (HY a i)),D.str (Nd.tx (HY a i)),ZI (Nd.pr (HY a i)),ZI (Nd.op (HY a i)),ZI (Arr.k (Qoe a i)),SI (QMt a i),SI (QMu a i),D.sl N4 (LN (QHz a i)) (fun (i_1:Nat)=>Arr.row (List.getD (QHz a i) i_1 Qkn)) Mode.any,D.sl (15:Nat) (LN (QHA a i)) (fun (i_1:Nat)=>Nd.row (List.getD (QHA a i) i_1 Qje)) Mode.any,D.sl (34:Nat) (LN (QHB a i)) (fun (i_1:Nat)=>Sm.row (List.getD (QHB a i) i_1 Qjf)) Mode.any,ZI (Nd.de (HY a i)),ZI (Nd.sl (HY a i)),ZI (Nd.ss (HY a i))]) Mode.any
def QgL(a:List Sm):Prop:=SM (QMv a)∧SM (D.str Qn4)∧True
def QgM(a:List Sm)(b c:Nat):Prop:=LN a-b<LN a-c
def QgN(a b:Nat):Prop:=IntKind.wrap IntKind.i64 ((↑a:Int)+Z1)=(↑b:Int)
def QHC(a:List UInt8)(b:Nd):List UInt8:=Qn6 a++Qko b
def Qsn(a:List UInt8)(b:List Sm)(c:Nat):List UInt8:=a++Qsl b c
def QHD(a:List UInt8)(b:List Sm)(c:Nat):Nat:=LN (Qsn a b c)
def QHE(a:List UInt8)(b:List Sm)(c:Nat)(d:Nd):List UInt8:=Qsn a b c++Qko d
def QHF(a:List UInt8)(b:Nd):List UInt8:=a++Qko b
theorem rbd_ok'(q : Nd → Prop)(l : List Sm)(h : ∀b, q b → RRShow b)(hs : ∀s∈l, q s.nd ∧ (s.kd=3 → q s.te) ∧ s.nm.length≤maxB)(hl : l.length≤maxLen)(hj : (Lib.join (l.map showM) [32, 59, 32]).length≤20000000000000) :
  CD 74 [gsl 34 Sm.row1 l,.str [32,59,32]] (.str (Lib.join (l.map showM) [32,59,32])):=by
 refine con_of (A:=sC _ _) (x:=()) (E:=Erbd q l) (eOk (conRpa_ok h) rfl) Tryz.func74 rfl (by kernel_rfl) rfl (by simp[sC,Erbd,EC,E0]) ?_
 refine vc_eq (T :=
  (∃(x:Nat×List UInt8),Qge x.1 l x.2∧(Z0=(NI x.1)∧eqOf (List UInt8) [] x.2∧True)∧True∧True)∧∀(x:Nat×List UInt8),Qge x.1 l x.2→ifB (decide ((NI x.1)<(LI l))) (ifB (decide (Z0<(NI x.1))) (side (LN x.2+(3:Nat)≤(9223372036854775807:Nat)) (side (Z0≤(NI x.1)∧(NI x.1)<(LI l)) (ifB (QHk l x.1) (side (Z0≤(NI x.1)∧(NI x.1)<(LI l)) (side (QHm l x.1≤(9223372036854775807:Nat)) (side (Qsk x.2+QHn l x.1≤(9223372036854775807:Nat)) (side (Z0≤(NI x.1)∧(NI x.1)<(LI l)) (ifB (Qn7 l x.1) (side (Z0≤(NI x.1)∧(NI x.1)<(LI l)) (∃(x_1:Nd),Qn9 x_1 l x.1 q∧∀(y:Unit),True→side (Qoa x_1≤(9223372036854775807:Nat)) (side (QHr x.2 l x.1+Qob x_1≤(9223372036854775807:Nat)) (side (Z0≤(NI x.1)∧(NI x.1)<(LI l)) (∃(x_2:Nd),QgK x_2 l x.1 q∧∀(y:Unit),True→side (LN (QHv x.2 l x.1 x_1)+Qgv x_2≤(9223372036854775807:Nat)) (QgL l∧∃(y:Nat×List UInt8),Qge y.1 l y.2∧QgM l y.1 x.1∧(QgN x.1 y.1∧QHv x.2 l x.1 x_1++Qgf x_2=y.2∧True)∧True∧True)))))) (side (Z0≤(NI x.1)∧(NI x.1)<(LI l)) (∃(x_1:Nd),QgK x_1 l x.1 q∧∀(y:Unit),True→side (QHr x.2 l x.1+Qgv x_1≤(9223372036854775807:Nat)) (QgL l∧∃(y:Nat×List UInt8),Qge y.1 l y.2∧QgM l y.1 x.1∧(QgN x.1 y.1∧Qsm x.2 l x.1++Qgf x_1=y.2∧True)∧True∧True)))))))) (side (Z0≤(NI x.1)∧(NI x.1)<(LI l)) (ifB (Qn7 l x.1) (side (Z0≤(NI x.1)∧(NI x.1)<(LI l)) (∃(x_1:Nd),Qn9 x_1 l x.1 q∧∀(y:Unit),True→side (Qoa x_1≤(9223372036854775807:Nat)) (side (Qsk x.2+Qob x_1≤(9223372036854775807:Nat)) (side (Z0≤(NI x.1)∧(NI x.1)<(LI l)) (∃(x_2:Nd),QgK x_2 l x.1 q∧∀(y:Unit),True→side (LN (QHC x.2 x_1)+Qgv x_2≤(9223372036854775807:Nat)) (QgL l∧∃(y:Nat×List UInt8),Qge y.1 l y.2∧QgM l y.1 x.1∧(QgN x.1 y.1∧QHC x.2 x_1++Qgf x_2=y.2∧True)∧True∧True)))))) (side (Z0≤(NI x.1)∧(NI x.1)<(LI l)) (∃(x_1:Nd),QgK x_1 l x.1 q∧∀(y:Unit),True→side (Qsk x.2+Qgv x_1≤(9223372036854775807:Nat)) (QgL l∧∃(y:Nat×List UInt8),Qge y.1 l y.2∧QgM l y.1 x.1∧(QgN x.1 y.1∧Qn6 x.2++Qgf x_1=y.2∧True)∧True∧True)))))))) (side (Z0≤(NI x.1)∧(NI x.1)<(LI l)) (ifB (QHk l x.1) (side (Z0≤(NI x.1)∧(NI x.1)<(LI l)) (side (QHm l x.1≤(9223372036854775807:Nat)) (side (LN x.2+QHn l x.1≤(9223372036854775807:Nat)) (side (Z0≤(NI x.1)∧(NI x.1)<(LI l)) (ifB (Qn7 l x.1) (side (Z0≤(NI x.1)∧(NI x.1)<(LI l)) (∃(x_1:Nd),Qn9 x_1 l x.1 q∧∀(y:Unit),True→side (Qoa x_1≤(9223372036854775807:Nat)) (side (QHD x.2 l x.1+Qob x_1≤(9223372036854775807:Nat)) (side (Z0≤(NI x.1)∧(NI x.1)<(LI l)) (∃(x_2:Nd),QgK x_2 l x.1 q∧∀(y:Unit),True→side (LN (QHE x.2 l x.1 x_1)+Qgv x_2≤(9223372036854775807:Nat)) (QgL l∧∃(y:Nat×List UInt8),Qge y.1 l y.2∧QgM l y.1 x.1∧(QgN x.1 y.1∧QHE x.2 l x.1 x_1++Qgf x_2=y.2∧True)∧True∧True)))))) (side (Z0≤(NI x.1)∧(NI x.1)<(LI l)) (∃(x_1:Nd),QgK x_1 l x.1 q∧∀(y:Unit),True→side (QHD x.2 l x.1+Qgv x_1≤(9223372036854775807:Nat)) (QgL l∧∃(y:Nat×List UInt8),Qge y.1 l y.2∧QgM l y.1 x.1∧(QgN x.1 y.1∧Qsn x.2 l x.1++Qgf x_1=y.2∧True)∧True∧True)))))))) (side (Z0≤(NI x.1)∧(NI x.1)<(LI l)) (ifB (Qn7 l x.1) (side (Z0≤(NI x.1)∧(NI x.1)<(LI l)) (∃(x_1:Nd),Qn9 x_1 l x.1 q∧∀(y:Unit),True→side (Qoa x_1≤(9223372036854775807:Nat)) (side (LN x.2+Qob x_1≤(9223372036854775807:Nat)) (side (Z0≤(NI x.1)∧(NI x.1)<(LI l)) (∃(x_2:Nd),QgK x_2 l x.1 q∧∀(y:Unit),True→side (LN (QHF x.2 x_1)+Qgv x_2≤(9223372036854775807:Nat)) (QgL l∧∃(y:Nat×List UInt8),Qge y.1 l y.2∧QgM l y.1 x.1∧(QgN x.1 y.1∧QHF x.2 x_1++Qgf x_2=y.2∧True)∧True∧True)))))) (side (Z0≤(NI x.1)∧(NI x.1)<(LI l)) (∃(x_1:Nd),QgK x_1 l x.1 q∧∀(y:Unit),True→side (LN x.2+Qgv x_1≤(9223372036854775807:Nat)) (QgL l∧∃(y:Nat×List UInt8),Qge y.1 l y.2∧QgM l y.1 x.1∧(QgN x.1 y.1∧x.2++Qgf x_1=y.2∧True)∧True∧True)))))))) (RT (x.2=Lib.join (List.map showM l) Qn4))) (by kernel_rfl) ?_
 delta DA GI LI LN N1 N4 NI SI SM Z0 Z1 ZI Qje Qjf Qn5 QHj QHk QHl QHm Qn6 Qsk Qsl QHn Qn7 HV Qn8 QMn QMo QHo QHp QHq Qn9 Qgf Qgv Qoa Qsm QHr Qko Qob HW Qoc QMp QMq QHs QHt QHu QgK QHv Qjg HX Qod QMr QMs QHw QHx QHy HY Qoe QMt QMu QHz QHA QHB QMv QgL QgM QgN QHC Qsn QHD QHE QHF Qn4 Qge Qkn RT
 try simp only[← dm]
 try simp only[← dn]
 simp only[ne_eq,Int.toNat_natCast,ifB_iff,side_iff,decide_eq_true_eq,decide_eq_false_iff_not,true_and,and_true,beq_iff_eq,beq_eq_false_iff_ne,exists_const,forall_const,Prod.exists]
 unfold maxLen at hl
 refine⟨⟨0,[],⟨Nat.zero_le _,by simp[Lib.join]⟩,rfl,rfl⟩,?_⟩
 rintro ⟨i,s⟩ ⟨i1,hs'⟩
 simp only at i1 hs' ⊢
 refine⟨fun hlt=>?_,fun hge=>?_⟩
 ·have hlt':i<l.length:=by omega
  have hlm:i<(l.map showM).length:=by simpa using hlt'
  have jt:=join_take [32,59,32] hlm
  obtain ⟨j1,j2⟩:=join_item [32,59,32] hlm
  have eg:(l.map showM).getD i []=showM (l.getD i default):=by simp[List.getD_eq_getElem?_getD,hlt']
  have w:IntKind.i64.wrap ((i:Int)+1)=((i+1:Nat):Int):=by rw[wrap_i64' (by omega) (by omega)];rfl
  obtain ⟨q2,q1,qn⟩:=hs _ (sm_getD hlt')
  unfold maxB at qn
  rw[eg] at jt j1 j2
  simp only[List.length_cons,List.length_nil] at j2
  have s0:i=0→s=[]:=fun e=>by rw[hs',e];simp[Lib.join]
  have js:Lib.join (List.take (i+1) (l.map showM)) [32,59,32]=(if 0<i then s++[32,59,32] else s)++showM (l.getD i default):=by
   rw[jt,← hs']
   by_cases e:0<i
   ·rw[if_pos e,if_pos e]
   ·rw[if_neg e,if_neg e,s0 (by omega)]
  have hlen:s.length+3+(showM (l.getD i default)).length≤20000000000003:=by
   by_cases e:0<i
   ·have:=j2 e
    rw[← hs'] at this
    omega
   ·rw[s0 (by omega)]
    simp only[List.length_nil]
    omega
  have eM:=showM_eq (l.getD i default)
  have go:∀T,T=(if 0<i then s++[32,59,32] else s)++showM (l.getD i default)→∃a b,(a≤l.length∧b=Lib.join (List.take a (l.map showM)) [32,59,32])∧l.length-a<l.length-i∧IntKind.i64.wrap ((i:Int)+1)=(a:Int)∧T=b:=fun T hT =>
   ⟨i+1,T,⟨hlt',by rw[hT,js]⟩,by omega,w,rfl⟩
  have l2:(l.getD i default).kd=2→(showM (l.getD i default)).length=(l.getD i default).nm.length+4+(showN (l.getD i default).nd).length:=fun k=>by
   rw[eM,if_pos k];simp only[List.length_append,List.length_cons,List.length_nil]
  have l3:(l.getD i default).kd=3→(showM (l.getD i default)).length=(showN (l.getD i default).te).length+3+(showN (l.getD i default).nd).length:=fun k=>by
   rw[eM,if_neg (by omega),if_pos k];simp only[List.length_append,List.length_cons,List.length_nil]
  have l4:(l.getD i default).kd≠2→(l.getD i default).kd≠3→(showM (l.getD i default)).length=(showN (l.getD i default).nd).length:=fun k k'=>by
   rw[eM,if_neg k,if_neg k']
  clear js jt j1 j2 eg hlm hs' hs h hj w s0
  generalize l.getD i default=x at *
  by_cases k2:x.kd=2
  ·have l2:=l2 k2
   rw[if_pos k2] at eM
   clear l3 l4
   repeat' (first
    |exact absurd (by assumption) (show ¬x.kd=3 by omega)
    |refine⟨x.nd,⟨nd_self _ _,q2⟩,?_⟩
    |refine go _ ?_
    |refine And.intro ?_ ?_
    |intro _)
   all_goals first
    |omega
    |(simp only[List.length_append,List.length_cons,List.length_nil];omega)
    |(rw[eM,if_pos (by omega)];simp only[List.append_assoc])
    |(rw[eM,if_neg (by omega)];simp only[List.append_assoc])
    |(exfalso;omega)
  ·by_cases k3:x.kd=3
   ·have l3:=l3 k3
    rw[if_neg k2,if_pos k3] at eM
    clear l2 l4
    repeat' (first
     |exact absurd (by assumption) k2
     |refine⟨x.nd,⟨nd_self _ _,q2⟩,?_⟩
     |refine⟨x.te,⟨nd_self _ _,q1 k3⟩,?_⟩
     |refine go _ ?_
     |refine And.intro ?_ ?_
     |intro _)
    all_goals first
     |omega
     |(simp only[List.length_append,List.length_cons,List.length_nil];omega)
     |(rw[eM,if_pos (by omega)];simp only[List.append_assoc])
     |(rw[eM,if_neg (by omega)];simp only[List.append_assoc])
     |(exfalso;omega)
   ·have l4:=l4 k2 k3
    rw[if_neg k2,if_neg k3] at eM
    clear l2 l3
    repeat' (first
     |exact absurd (by assumption) k2
     |exact absurd (by assumption) k3
     |refine⟨x.nd,⟨nd_self _ _,q2⟩,?_⟩
     |refine go _ ?_
     |refine And.intro ?_ ?_
     |intro _)
    all_goals first
     |omega
     |(simp only[List.length_append,List.length_cons,List.length_nil];omega)
     |(rw[eM,if_pos (by omega)])
     |(rw[eM,if_neg (by omega)])
     |(exfalso;omega)
 ·have e:i=l.length:=by omega
  rw[hs',e,List.take_of_length_le (by simp)]
theorem with_perm(b:Nd):withN [16,14,15,3,4,5] b=withN [3,4,5,16,14,15] b:=by
 unfold withN withT
 have e:[16,14,15,3,4,5].contains b.kd=[3,4,5,16,14,15].contains b.kd:=by
  rw[Bool.eq_iff_iff]
  simp only[List.contains_eq_mem,decide_eq_true_eq,List.mem_cons,List.not_mem_nil,or_false]
  omega
 rw[e]
theorem with_train:withN [16,4,5]=withN [4,5,16]:=by
 funext b
 unfold withN withT
 have e:[16,4,5].contains b.kd=[4,5,16].contains b.kd:=by
  rw[Bool.eq_iff_iff]
  simp only[List.contains_eq_mem,decide_eq_true_eq,List.mem_cons,List.not_mem_nil,or_false]
  omega
 rw[e]
def conRsh(n:Nd)(q:Nd→Prop):Con:=fun k ds S=>match k with
 |75=>some (pA ds S (.str (leafT n)) (isN2 n ds []))
 |74=>some (pA ds S (.str (Lib.join (n.bo.map showM) [32,59,32])) (wkL ds [gsl 34 Sm.row1 n.bo,.str [32,59,32]]∧n.kd=10∧(Lib.join (n.bo.map showM) [32,59,32]).length≤20000000000000))
 |71=>match ds with
  | [_,.sl 1 m f _]=>some (pA ds S (.str (Lib.join (n.ki.map (withN (intsD m f))) [32])) (wkL ds [gsl 15 Nd.row1 n.ki,isl (intsD m f) .any]∧m≤maxLen∧(Lib.join (n.ki.map (withN (intsD m f))) [32]).length≤20000000000000))
  |_=>none
 |k=>conRli q k ds S
theorem conRsh_ok{n:Nd}{q:Nd→Prop}(ho:n.ok)(hn:n.sm)(h:∀b,q b→RRShow b)(hq:∀b∈n.ki,q b)(hs:n.kd=10→∀s∈n.bo,q s.nd∧(s.kd=3→q s.te)∧s.nm.length≤maxB):ConOk Tryz.prog (conRsh n q):=by
 intro k ds S A hh
 unfold conRsh at hh
 split at hh
 ·injection hh with hh;subst hh
  exact pA_ok fun e=>CD.at_ (CD.wk (rwo_ok n ho) e) _
 ·injection hh with hh;subst hh
  exact pA_ok fun ⟨e,hk,hj⟩=>CD.at_ (CD.wk (rbd_ok' q n.bo h (hs hk) (maxB_le (sm_len hn).2.2) hj) e) _
 ·split at hh
  ·injection hh with hh;subst hh
   exact pA_ok fun ⟨e,hm,hj⟩=>CD.at_ (CD.wk (rli_ok q n.ki _ h hq (maxB_le (sm_len hn).2.1) (by rw[intsD_len];exact hm) hj) e) _
  ·cases hh
 ·exact conRli_ok h _ _ _ _ hh
noncomputable def Ersh(n:Nd)(q:Nd→Prop):Senv:={ EC (conRsh n q) 140 7 [11,14,20,40,73,93,127,133] (fun id=>match id with | 9=>([0,1,2,3,4,5,6,7,8,12,13,14,15,9,10,11,16,17,18],[9,10,16]) | 11=>([0,1,2,3,4,5,6,7,8,12,13,14,15,16,17,18,19,20,25,26,27,28,9,10,11,21,22,23,24,29,30,31],[9,10,21,22,29]) | 13=>([0,1,2,3,4,5,6,7,8,12,13,14,15,9,10,11,16,17,18],[9,10,16]) | 16=>([0,1,2,3,4,5,6,7,8,12,13,14,15,19,20,21,22,23,24,25,26,27,9,10,11,16,17,18,28,29,30,31],[9,10,16,28,29]) | _=>([],[])) with mg:=fun _=>2 }
theorem word_show{n:Nd}(hv:nodeV n=true)(h3:n.kd≠3)(h4:n.kd≠4)(h5:n.kd≠5)(h14:n.kd≠14)(h15:n.kd≠15)(h16:n.kd≠16)(h10:n.kd≠10):leafT n=showN n:=by
 rw[showN_eq,if_neg h3,if_neg h4,if_neg h5,if_neg h16,if_neg h14,if_neg h15]
 have hl:leafB n=true:=by
  rcases kind_cases hv h10 with hc | ⟨hc,_⟩
  ·exact hc
  ·unfold compB at hc
   simp[h3,h4,h5,h14,h15,h16] at hc
 unfold leafB at hl
 rw[Bool.and_eq_true] at hl
 have hl:=hl.2
 unfold leafT
 by_cases k1:n.kd=1
 ·simp[k1]
 by_cases k2:n.kd=2
 ·simp[k2]
 by_cases k6:n.kd=6
 ·simp[k6]
 by_cases k7:n.kd=7
 ·simp[k7]
 by_cases k8:n.kd=8
 ·simp[k8]
 by_cases k9:n.kd=9
 ·simp[k9]
 by_cases k11:n.kd=11
 ·simp[k11]
 by_cases k12:n.kd=12
 ·simp[k12]
 by_cases k13:n.kd=13
 ·simp[k13]
 by_cases k17:n.kd=17
 ·simp[k17]
 simp[k1,k2,k6,k7,k8,k9,k11,k12,k13,k17] at hl
def HZ(a:Nd):Int:=Nd.kd a
def QgO(a:Nd):List Nd:=Nd.ki a
def Qkp:Arr:=DA
def Qgw:Nd:=Nd.mk Z0 Z0 Z0 [] Z0 Z0 Qkp [] [] Z0 Z0 Z0
def Qjh(a:Nd):D:=D.sl (15:Nat) (LN (QgO a)) (fun (i:Nat)=>Nd.row1 (List.getD (QgO a) i Qgw)) Mode.any
def Qso:List (List D):=[[ZI (4:Int)],[ZI (5:Int)]]
def QHG:List (List D):=[ZI (3:Int)]::Qso
def QHH(a:Nat):List D:=List.getD QHG a []
def QHI:List Int:=intsD (3:Nat) fun (i:Nat)=>QHH i
def QHJ(a:Nd):List UInt8:=Lib.join (List.map (withN QHI) (QgO a)) [(32:UInt8)]
def Yf(a:Nd):List UInt8:=showN a
def V3(a:Nd):Int:=(LI (QgO a))
def H0(a:Nd):Nd:=List.getD (QgO a) N0 Qgw
def Qof(a:Nd):Arr:=Nd.va (H0 a)
def QMw(a:Nd):List Int:=Arr.sh (Qof a)
def QMx(a:Nd):List Int:=Arr.nu (Qof a)
def QHK(a:Nd):List Arr:=Arr.it (Qof a)
def QHL(a:Nd):List Nd:=Nd.ki (H0 a)
def QHM(a:Nd):List Sm:=Nd.bo (H0 a)
def Qog:Sm:=Sm.mk Z0 Z0 [] Z0 Qgw Qgw
def Qsp(a:Nd):D:=D.agg [ZI (Nd.kd (H0 a)),ZI (Nd.at_ (H0 a)),ZI (Nd.cl (H0 a)),D.str (Nd.tx (H0 a)),ZI (Nd.pr (H0 a)),ZI (Nd.op (H0 a)),ZI (Arr.k (Qof a)),SI (QMw a),SI (QMx a),D.sl N4 (LN (QHK a)) (fun (i:Nat)=>Arr.row (List.getD (QHK a) i Qkp)) Mode.any,D.sl (15:Nat) (LN (QHL a)) (fun (i:Nat)=>Nd.row (List.getD (QHL a) i Qgw)) Mode.any,D.sl (34:Nat) (LN (QHM a)) (fun (i:Nat)=>Sm.row (List.getD (QHM a) i Qog)) Mode.any,ZI (Nd.de (H0 a)),ZI (Nd.sl (H0 a)),ZI (Nd.ss (H0 a))]
def QHN:List D:=[D.sl N1 N1 (fun (i:Nat)=>List.getD [[ZI (16:Int)]] i []) Mode.full]
def Qsq(a:Nd):D:=D.agg (Nd.row1 a)
def QHO:List Int:=intsD N1 fun (i:Nat)=>List.getD [[ZI (16:Int)]] i []
def QHP(a:Nd):List D:=[Qsq a,SI QHO]
def QHQ(a b:Nd):Prop:=wkL (Qsp a::QHN) (QHP b)∧N1≤(9223372036854775807:Nat)
def Km(a:Nat)(b:Nd):Prop:=SM a∧SM (Qjh b)
def QHR(a:Nd):Bool:=List.contains QHO (HZ a)
def Qoh(a:Nd):List D:=[D.bool (QHR a)]
def QHS(a b c:Nd)(d:Nd→Prop):Prop:=isN a (Qsp b::Qoh c) (Qoh c)∧d a
def Qsr(a b:Nd):List UInt8:=parT (QHR a) (Yf b)
def QHT(a b:Nd):Nat:=LN (Qsr a b)
def Qss(a b:Nd):Nat:=QHT a b+N1
def H1(a:Nd):Nd:=List.getD (QgO a) N1 Qgw
def Qoi(a:Nd):Arr:=Nd.va (H1 a)
def QMy(a:Nd):List Int:=Arr.sh (Qoi a)
def QMz(a:Nd):List Int:=Arr.nu (Qoi a)
def QHU(a:Nd):List Arr:=Arr.it (Qoi a)
def QHV(a:Nd):List Nd:=Nd.ki (H1 a)
def QHW(a:Nd):List Sm:=Nd.bo (H1 a)
def Qkq(a:Nd):D:=D.agg [ZI (Nd.kd (H1 a)),ZI (Nd.at_ (H1 a)),ZI (Nd.cl (H1 a)),D.str (Nd.tx (H1 a)),ZI (Nd.pr (H1 a)),ZI (Nd.op (H1 a)),ZI (Arr.k (Qoi a)),SI (QMy a),SI (QMz a),D.sl N4 (LN (QHU a)) (fun (i:Nat)=>Arr.row (List.getD (QHU a) i Qkp)) Mode.any,D.sl (15:Nat) (LN (QHV a)) (fun (i:Nat)=>Nd.row (List.getD (QHV a) i Qgw)) Mode.any,D.sl (34:Nat) (LN (QHW a)) (fun (i:Nat)=>Sm.row (List.getD (QHW a) i Qog)) Mode.any,ZI (Nd.de (H1 a)),ZI (Nd.sl (H1 a)),ZI (Nd.ss (H1 a))]
def QHX(a b:Nd):List UInt8:=Qsr a b++[(32:UInt8)]
def QHY(a b c:Nd):Nat:=LN (QHX a b)+LN (Yf c)
def Qst(a b c:Nd):List UInt8:=QHX a b++Yf c
def QHZ(a b c d:Nd):Prop:=∀(_y:Unit),True→side (QHY a b c≤(9223372036854775807:Nat)) (True∧∃(_y:Unit),True∧Qst a b c=Yf d∧True∧True)
def QH0(a:Nat):List D:=List.getD Qso a []
def QH1:List Int:=intsD N2 fun (i:Nat)=>QH0 i
def QH2(a:Nd):Bool:=List.contains QH1 (HZ a)
def QH3(a:Nd):List D:=[D.bool (QH2 a)]
def QH4(a b:Nd):List UInt8:=parT (QH2 a) (Yf b)
def QH5(a b:Nd):List UInt8:=QH4 a b++[(32:UInt8)]
def QH6(a b c d:Nd):List UInt8:=QH5 a b++Qsr c d
def H2(a:Nd):Nd:=List.getD (QgO a) N2 Qgw
def Qoj(a:Nd):Arr:=Nd.va (H2 a)
def QMA(a:Nd):List Int:=Arr.sh (Qoj a)
def QMB(a:Nd):List Int:=Arr.nu (Qoj a)
def QH7(a:Nd):List Arr:=Arr.it (Qoj a)
def QH8(a:Nd):List Nd:=Nd.ki (H2 a)
def QH9(a:Nd):List Sm:=Nd.bo (H2 a)
def Qsu(a:Nd):D:=D.agg [ZI (Nd.kd (H2 a)),ZI (Nd.at_ (H2 a)),ZI (Nd.cl (H2 a)),D.str (Nd.tx (H2 a)),ZI (Nd.pr (H2 a)),ZI (Nd.op (H2 a)),ZI (Arr.k (Qoj a)),SI (QMA a),SI (QMB a),D.sl N4 (LN (QH7 a)) (fun (i:Nat)=>Arr.row (List.getD (QH7 a) i Qkp)) Mode.any,D.sl (15:Nat) (LN (QH8 a)) (fun (i:Nat)=>Nd.row (List.getD (QH8 a) i Qgw)) Mode.any,D.sl (34:Nat) (LN (QH9 a)) (fun (i:Nat)=>Sm.row (List.getD (QH9 a) i Qog)) Mode.any,ZI (Nd.de (H2 a)),ZI (Nd.sl (H2 a)),ZI (Nd.ss (H2 a))]
def QIa(a b c d:Nd):List UInt8:=QH6 a b c d++[(32:UInt8)]
def QIb(a b:Nd):Prop:=wkL (Qkq a::QHN) (QHP b)∧N1≤(9223372036854775807:Nat)
def QIc(a b c:Nd)(d:Nd→Prop):Prop:=isN a (Qkq b::Qoh c) (Qoh c)∧d a
def QId(a b:Nd)(c:Nd→Prop):Prop:=isN a [Qsp b] []∧c a
def QIe(a:Nat):List D:=List.getD ([ZI (16:Int)]::[ZI (14:Int)]::[ZI (15:Int)]::QHG) a []
def QIf:List Int:=intsD N6 fun (i:Nat)=>QIe i
def QIg(a:Nd):Bool:=List.contains QIf (HZ a)
def QIh(a:Nd):List D:=[D.bool (QIg a)]
def QIi(a b c:Nd):List UInt8:=Qst a b c++[(32:UInt8)]
def QIj(a b:Nd):List UInt8:=parT (QIg a) (Yf b)
def QIk(a:Nat):List D:=List.getD ([ZI (16:Int)]::Qso) a []
def QIl:List Int:=intsD (3:Nat) fun (i:Nat)=>QIk i
def QIm(a:Nd):List UInt8:=Lib.join (List.map (withN QIl) (QgO a)) [(32:UInt8)]
def Qsv(a:Nd):List Sm:=Nd.bo a
def QIn(a:Nd):D:=D.sl (34:Nat) (LN (Qsv a)) (fun (i:Nat)=>Sm.row1 (List.getD (Qsv a) i Qog)) Mode.any
def QIo(a:Nd):List D:=[QIn a,D.str [(32:UInt8),(59:UInt8),(32:UInt8)]]
def QIp(a:Nd):List UInt8:=Lib.join (List.map showM (Qsv a)) [(32:UInt8),(59:UInt8),(32:UInt8)]
def QIq(a:Nd):Nat:=LN (QIp a)
def QIr(a:Nd):List UInt8:=List.append [] (QIp a)
def Qok(a:Nd):Arr:=Nd.va a
def QMC(a:Nd):List Int:=Arr.sh (Qok a)
def QMD(a:Nd):List Int:=Arr.nu (Qok a)
def QIs(a:Nd):List Arr:=Arr.it (Qok a)
theorem rsh_step(n : Nd)(q : Nd → Prop)(hv : nodeV n=true)(ho : n.ok)(hn : n.sm)(hz : szN n≤16384)(h : ∀b, q b → RRShow b)(hq : ∀b∈n.ki, q b)(hs : n.kd=10 → ∀s∈n.bo, q s.nd ∧ (s.kd=3 → q s.te) ∧ s.nm.length≤maxB) :
  CD 45 [.agg n.row2] (.str (showN n)):=by
 refine con_of (A:=sC _ _) (x:=()) (E:=Ersh n q) (eOk (conRsh_ok ho hn h hq hs) rfl) Tryz.func45 rfl (by kernel_rfl) rfl (by simp[sC,Ersh,EC,E0]) ?_
 refine vc_eq (T :=
  ∀(x:Nat),True→SM x∧ifB (HZ n==(3:Int)) (SM x∧∃(x:Unit),(wkL [Qjh n,D.sl N1 (3:Nat) (fun (i:Nat)=>QHH i) Mode.full] [Qjh n,SI QHI]∧(3:Nat)≤(9223372036854775807:Nat)∧LN (QHJ n)≤(20000000000000:Nat))∧∀(y:Unit),True→RT (QHJ n=Yf n)) (ifB (HZ n==(4:Int)) (SM x∧side (Z0≤Z0∧Z0<V3 n) (SM x∧side (Z0≤Z0∧Z0<V3 n) (SM x∧side (Z0≤Z1∧Z1<V3 n) (∃(x_1:Nd),QHQ n x_1∧∀(y:Unit),True→Km x n∧Km x n∧∃(x_2:Nd),QHS x_2 n x_1 q∧∀(y:Unit),True→Km x n∧side (Qss x_1 x_2≤(9223372036854775807:Nat)) (∃(x:Nd),(isN x [Qkq n] []∧q x)∧QHZ x_1 x_2 x n))))) (ifB (HZ n==(5:Int)) (SM x∧side (Z0≤Z1∧Z1<V3 n) (SM x∧side (Z0≤Z1∧Z1<V3 n) (SM x∧side (Z0≤Z0∧Z0<V3 n) (SM x∧side (Z0≤Z0∧Z0<V3 n) (SM x∧side (Z0≤(2:Int)∧(2:Int)<V3 n) (∃(x_1:Nd),(wkL [Qkq n,D.sl N1 N2 (fun (i:Nat)=>QH0 i) Mode.full] [Qsq x_1,SI QH1]∧N2≤(9223372036854775807:Nat))∧∀(y:Unit),True→Km x n∧Km x n∧Km x n∧Km x n∧∃(x_2:Nd),(isN x_2 (Qkq n::QH3 x_1) (QH3 x_1)∧q x_2)∧∀(y:Unit),True→Km x n∧Km x n∧Km x n∧side (LN (QH4 x_1 x_2)+N1≤(9223372036854775807:Nat)) (∃(x_3:Nd),QHQ n x_3∧∀(y:Unit),True→Km x n∧Km x n∧∃(x_4:Nd),QHS x_4 n x_3 q∧∀(y:Unit),True→Km x n∧side (LN (QH5 x_1 x_2)+QHT x_3 x_4≤(9223372036854775807:Nat)) (side (LN (QH6 x_1 x_2 x_3 x_4)+N1≤(9223372036854775807:Nat)) (∃(x:Nd),(isN x [Qsu n] []∧q x)∧∀(y:Unit),True→side (LN (QIa x_1 x_2 x_3 x_4)+LN (Yf x)≤(9223372036854775807:Nat)) (RT (QIa x_1 x_2 x_3 x_4++Yf x=Yf n))))))))))) (ifB (HZ n==(14:Int)) (SM x∧side (Z0≤Z1∧Z1<V3 n) (SM x∧side (Z0≤Z1∧Z1<V3 n) (SM x∧side (Z0≤Z0∧Z0<V3 n) (∃(x_1:Nd),QIb n x_1∧∀(y:Unit),True→Km x n∧Km x n∧∃(x_2:Nd),QIc x_2 n x_1 q∧∀(y:Unit),True→Km x n∧side (Qss x_1 x_2≤(9223372036854775807:Nat)) (∃(x:Nd),QId x n q∧QHZ x_1 x_2 x n))))) (ifB (HZ n==(15:Int)) (SM x∧side (Z0≤Z1∧Z1<V3 n) (SM x∧side (Z0≤Z1∧Z1<V3 n) (SM x∧side (Z0≤Z0∧Z0<V3 n) (SM x∧side (Z0≤(2:Int)∧(2:Int)<V3 n) (SM x∧side (Z0≤(2:Int)∧(2:Int)<V3 n) (∃(x_1:Nd),QIb n x_1∧∀(y:Unit),True→Km x n∧Km x n∧Km x n∧Km x n∧∃(x_2:Nd),QIc x_2 n x_1 q∧∀(y:Unit),True→Km x n∧Km x n∧Km x n∧side (Qss x_1 x_2≤(9223372036854775807:Nat)) (∃(x_3:Nd),QId x_3 n q∧∀(y:Unit),True→Km x n∧Km x n∧side (QHY x_1 x_2 x_3≤(9223372036854775807:Nat)) (side (LN (Qst x_1 x_2 x_3)+N1≤(9223372036854775807:Nat)) (∃(x_4:Nd),(wkL [Qsu n,D.sl N1 N6 (fun (i:Nat)=>QIe i) Mode.full] [Qsq x_4,SI QIf]∧N6≤(9223372036854775807:Nat))∧∀(y:Unit),True→Km x n∧∃(x:Nd),(isN x (Qsu n::QIh x_4) (QIh x_4)∧q x)∧∀(y:Unit),True→side (LN (QIi x_1 x_2 x_3)+LN (QIj x_4 x)≤(9223372036854775807:Nat)) (RT (QIi x_1 x_2 x_3++QIj x_4 x=Yf n))))))))))) (ifB (HZ n==(16:Int)) (SM x∧∃(x:Unit),(wkL [Qjh n,D.sl N1 (3:Nat) (fun (i:Nat)=>QIk i) Mode.full] [Qjh n,SI QIl]∧(3:Nat)≤(9223372036854775807:Nat)∧LN (QIm n)≤(20000000000000:Nat))∧∀(y:Unit),True→RT (QIm n=Yf n)) (ifB (HZ n==(10:Int)) (SM x∧∃(x:Unit),(wkL (QIo n) (QIo n)∧HZ n=(10:Int)∧QIq n≤(20000000000000:Nat))∧∀(y:Unit),True→side (N2+QIq n≤(9223372036854775807:Nat)) (side (LN ((123:UInt8)::(32:UInt8)::QIr n)+N2≤(9223372036854775807:Nat)) (RT ((123:UInt8)::(32:UInt8)::List.append (QIr n) [(32:UInt8),(125:UInt8)]=Yf n)))) (SM x∧∃(x:Unit),isN2 n [D.agg [ZI (HZ n),ZI (Nd.at_ n),ZI (Nd.cl n),D.str (Nd.tx n),ZI (Nd.pr n),ZI (Nd.op n),ZI (Arr.k (Qok n)),SI (QMC n),SI (QMD n),D.sl N4 (LN (QIs n)) (fun (i:Nat)=>Arr.row (List.getD (QIs n) i Qkp)) Mode.any,Qjh n,QIn n,ZI (Nd.de n),ZI (Nd.sl n),ZI (Nd.ss n)]] []∧∀(y:Unit),True→RT (leafT n=Yf n))))))))) (by kernel_rfl) ?_
 delta DA GI LI LN N0 N1 N2 N4 N6 SI SM Z0 Z1 ZI HZ QgO Yf V3 H0 Qof QMw QMx QHK QHL QHM Qog Qkp Qsp QHN Qsq QHO QHP QHQ Km QHR Qoh QHS Qgw Qsr QHT Qss H1 Qoi QMy QMz QHU QHV QHW Qjh Qkq QHX QHY Qst QHZ QH0 QH1 QH2 QH3 QH4 Qso QH5 QH6 H2 Qoj QMA QMB QH7 QH8 QH9 Qsu QHG QIa QIb QIc QId QIe QIf QIg QIh QIi QIj QHH QIk QIl QIm Qsv QIn QIo QIp QIq QIr Qok QHI QMC QMD QIs QHJ RT
 try simp only[← dm]
 try simp only[← dn]
 simp only[ne_eq,ifB_iff,side_iff,true_and,and_true,beq_iff_eq,beq_eq_false_iff_ne,exists_const,forall_const]
 have i1:intsD 1 (fun i=>[[D.int IntKind.i64 16]].getD i [])=[16]:=rfl
 have i2:intsD 2 (fun i=>[[D.int IntKind.i64 4],[D.int IntKind.i64 5]].getD i [])=[4,5]:=rfl
 have i3:∀a b c:Int,intsD 3 (fun i=>[[D.int IntKind.i64 a],[D.int IntKind.i64 b],[D.int IntKind.i64 c]].getD i [])=[a,b,c]:=fun _ _ _=>rfl
 have i6:intsD 6 (fun i=>[[D.int IntKind.i64 16],[D.int IntKind.i64 14],[D.int IntKind.i64 15],[D.int IntKind.i64 3],[D.int IntKind.i64 4],[D.int IntKind.i64 5]].getD i [])=[16,14,15,3,4,5]:=rfl
 have p1:IntsP 1 (fun i=>[[D.int IntKind.i64 16]].getD i []):=fun i hi=>by
  match i,hi with
  |0,_=>rfl
 have p2:IntsP 2 (fun i=>[[D.int IntKind.i64 4],[D.int IntKind.i64 5]].getD i []):=fun i hi=>by
  match i,hi with
  |0,_=>rfl
  |1,_=>rfl
 have p3:∀a b c:Int,IntsP 3 (fun i=>[[D.int IntKind.i64 a],[D.int IntKind.i64 b],[D.int IntKind.i64 c]].getD i []):=fun _ _ _ i hi=>by
  match i,hi with
  |0,_=>rfl
  |1,_=>rfl
  |2,_=>rfl
 have p6:IntsP 6 (fun i=>[[D.int IntKind.i64 16],[D.int IntKind.i64 14],[D.int IntKind.i64 15],[D.int IntKind.i64 3],[D.int IntKind.i64 4],[D.int IntKind.i64 5]].getD i []):=fun i hi=>by
  match i,hi with
  |0,_=>rfl
  |1,_=>rfl
  |2,_=>rfl
  |3,_=>rfl
  |4,_=>rfl
  |5,_=>rfl
 obtain ⟨L2,L3,_⟩:=comp_len hv
 have kq:∀i,i<n.ki.length→q (n.ki.getD i default):=fun i hi=>hq _ (nd_getD hi)
 have wl:∀(ks:List Int) (b:Nd),q b→(withN ks b).length≤20000000000004:=fun ks b hb=>by
  have h1:=withT_len ks b.kd (showN b)
  have h2:=(h b hb).2
  unfold withN
  omega
 have sg:∀i,i<n.ki.length→(showL n.ki).getD i []=showN (n.ki.getD i default):=fun i hi=>showL_getD hi
 have hlen:=show_len n hv ho
 refine⟨fun k=>?_,fun n3=>⟨fun k=>?_,fun n4=>⟨fun k=>?_,fun n5=>⟨fun k=>?_,fun n14=>⟨fun k=>?_,fun n15=>⟨fun k=>?_,fun n16=>⟨fun k=>?_,fun n10=>⟨nd2_self n _,word_show hv n3 n4 n5 n14 n15 n16 n10⟩⟩⟩⟩⟩⟩⟩⟩
 ·rw[showN_eq] at hlen ⊢
  simp only[k] at hlen ⊢
  exact⟨⟨cls_arg2 (p3 _ _ _),by omega,by rw[i3];simp at hlen;omega⟩,by rw[i3];simp⟩
 ·have hL:n.ki.length=2:=L2 (.inl k)
  have q0:=kq 0 (by omega)
  have q1:=kq 1 (by omega)
  have r0:=(h _ q0).2
  have r1:=(h _ q1).2
  have w0:=wl [16] _ q0
  have e:showN n=withN [16] (n.ki.getD 0 default)++[32]++showN (n.ki.getD 1 default):=by
   rw[showN_eq]
   simp only[k]
   rw[sg 0 (by omega),sg 1 (by omega)]
   rfl
  have pw:=parT_with [16] (n.ki.getD 0 default)
  rw[e]
  refine⟨⟨by omega,by omega⟩,⟨by omega,by omega⟩,⟨by omega,by omega⟩,n.ki.getD 0 default,⟨cls_arg (r:=(n.ki.getD 0 default).row1) p1,by omega⟩,n.ki.getD 0 default,⟨nd_self _ _,q0⟩,?_,n.ki.getD 1 default,⟨nd_self _ _,q1⟩,?_,?_⟩
  all_goals rw[i1,pw]
  all_goals first
   |omega
   |(simp only[List.length_append,List.length_cons,List.length_nil];omega)
 ·have hL:n.ki.length=3:=L3 (.inl k)
  have q0:=kq 0 (by omega)
  have q1:=kq 1 (by omega)
  have q2:=kq 2 (by omega)
  have r2:=(h _ q2).2
  have w0:=wl [16] _ q0
  have w1:=wl [4,5] _ q1
  have e:showN n=withN [4,5] (n.ki.getD 1 default)++[32]++withN [16] (n.ki.getD 0 default)++[32]++showN (n.ki.getD 2 default):=by
   rw[showN_eq]
   simp only[k]
   rw[sg 0 (by omega),sg 1 (by omega),sg 2 (by omega)]
   rfl
  have pw:=parT_with [16] (n.ki.getD 0 default)
  have pw2:=parT_with [4,5] (n.ki.getD 1 default)
  rw[e]
  refine⟨⟨by omega,by omega⟩,⟨by omega,by omega⟩,⟨by omega,by omega⟩,⟨by omega,by omega⟩,⟨by omega,by omega⟩,n.ki.getD 1 default,⟨cls_arg (r:=(n.ki.getD 1 default).row1) p2,by omega⟩,n.ki.getD 1 default,⟨nd_self _ _,q1⟩,?_,n.ki.getD 0 default,⟨cls_arg (r:=(n.ki.getD 0 default).row1) p1,by omega⟩,n.ki.getD 0 default,⟨nd_self _ _,q0⟩,?_,?_,n.ki.getD 2 default,⟨nd_self _ _,q2⟩,?_,?_⟩
  all_goals rw[i2,pw2]
  all_goals try rw[i1,pw]
  all_goals first
   |omega
   |(simp only[List.length_append,List.length_cons,List.length_nil];omega)
 ·have hL:n.ki.length=2:=L2 (.inr k)
  have q0:=kq 0 (by omega)
  have q1:=kq 1 (by omega)
  have r0:=(h _ q0).2
  have w1:=wl [16] _ q1
  have e:showN n=withN [16] (n.ki.getD 1 default)++[32]++showN (n.ki.getD 0 default):=by
   rw[showN_eq]
   simp only[k]
   rw[sg 0 (by omega),sg 1 (by omega)]
   rfl
  have pw:=parT_with [16] (n.ki.getD 1 default)
  rw[e]
  refine⟨⟨by omega,by omega⟩,⟨by omega,by omega⟩,⟨by omega,by omega⟩,n.ki.getD 1 default,⟨cls_arg (r:=(n.ki.getD 1 default).row1) p1,by omega⟩,n.ki.getD 1 default,⟨nd_self _ _,q1⟩,?_,n.ki.getD 0 default,⟨nd_self _ _,q0⟩,?_,?_⟩
  all_goals rw[i1,pw]
  all_goals first
   |omega
   |(simp only[List.length_append,List.length_cons,List.length_nil];omega)
 ·have hL:n.ki.length=3:=L3 (.inr k)
  have q0:=kq 0 (by omega)
  have q1:=kq 1 (by omega)
  have q2:=kq 2 (by omega)
  have r0:=(h _ q0).2
  have w1:=wl [16] _ q1
  have w2:=wl [3,4,5,16,14,15] _ q2
  have e:showN n=withN [16] (n.ki.getD 1 default)++[32]++showN (n.ki.getD 0 default)++[32]++withN [3,4,5,16,14,15] (n.ki.getD 2 default):=by
   rw[showN_eq]
   simp only[k]
   rw[sg 0 (by omega),sg 1 (by omega),sg 2 (by omega)]
   rfl
  have pw:=parT_with [16] (n.ki.getD 1 default)
  have pw2:=parT_with [16,14,15,3,4,5] (n.ki.getD 2 default)
  rw[with_perm] at pw2
  rw[e]
  refine⟨⟨by omega,by omega⟩,⟨by omega,by omega⟩,⟨by omega,by omega⟩,⟨by omega,by omega⟩,⟨by omega,by omega⟩,n.ki.getD 1 default,⟨cls_arg (r:=(n.ki.getD 1 default).row1) p1,by omega⟩,n.ki.getD 1 default,⟨nd_self _ _,q1⟩,?_,n.ki.getD 0 default,⟨nd_self _ _,q0⟩,?_,?_,n.ki.getD 2 default,⟨cls_arg (r:=(n.ki.getD 2 default).row1) p6,by omega⟩,n.ki.getD 2 default,⟨nd_self _ _,q2⟩,?_,?_⟩
  all_goals rw[i1,pw]
  all_goals try rw[i6,pw2]
  all_goals first
   |omega
   |(simp only[List.length_append,List.length_cons,List.length_nil];omega)
 ·rw[showN_eq] at hlen ⊢
  simp only[k] at hlen ⊢
  rw[i3,with_train]
  exact⟨⟨cls_arg2 (p3 _ _ _),by omega,by simp at hlen;omega⟩,by simp⟩
 ·rw[showN_eq] at hlen ⊢
  simp only[k] at hlen ⊢
  simp at hlen
  repeat' (first | exact wkL_refl _ | exact k | refine And.intro ?_ ?_)
  all_goals first
   |omega
   |(simp only[List.length_cons];omega)
   |(simp;omega)
   |(simp;done)
theorem rsh_ok(n:Nd)(hv:nodeV n=true)(ho:n.ok)(hn:n.sm)(hz:szN n≤16384):RRShow n:=by
 have hl:=show_len n hv ho
 refine⟨rsh_step n RRShow hv ho hn hz (fun _ h=>h) (fun b hb=>?_) (fun hk s hs=>?_),by omega⟩
 ·have:=inner_sz (kid_inner hb)
  exact rsh_ok b ((valid_kids hv).1 b hb) (ki_ok ho b hb) (sm_kid hn (kid_inner hb)) (by omega)
 ·have h1:=hv
  rw[nodeV_eq,Bool.and_eq_true,if_pos hk,Bool.and_eq_true] at h1
  have hb:=h1.2.2
  unfold bodyV at hb
  rw[Bool.and_eq_true] at hb
  obtain ⟨q1,q2⟩:=stmts_all hb.2 s hs
  have o:=sm_ok2 (bo_ok' ho s hs)
  have m:=sm_sm2 (sm_bo hn s hs)
  have i1:s.nd∈innerN n:=List.mem_append.2 (.inr (List.mem_flatMap.2 ⟨s,hs,by unfold partsS;split<;>simp⟩))
  have z1:=inner_sz i1
  refine⟨rsh_ok s.nd q1 o.2 m.2 (by omega),fun h3=>?_,sm_nm (sm_bo hn s hs)⟩
  have i2:s.te∈innerN n:=List.mem_append.2 (.inr (List.mem_flatMap.2 ⟨s,hs,by unfold partsS;rw[if_pos h3];simp⟩))
  have z2:=inner_sz i2
  have hv2:nodeV s.te=true:=by
   rcases q2 with ⟨_,q,_⟩ | ⟨q,_⟩
   ·exact q
   ·exact (q h3).elim
  exact rsh_ok s.te hv2 o.1 m.1 (by omega)
termination_by szN n
decreasing_by all_goals omega
def conRsw(n:Nd):Con:=fun k ds S=>match k with
 |45=>some (pA ds S (.str (showN n)) (isN n ds []∧checkN n=0))
 |k=>conRrn n k ds S
noncomputable def Ersw(n:Nd):Senv:={ EC (conRsw n) 18 3 [15] (fun _=>([],[])) with mg:=fun _=>2 }
def Qol(a:Nd):Arr:=Nd.va a
def QME(a:Nd):List Int:=Arr.sh (Qol a)
def QMF(a:Nd):List Int:=Arr.nu (Qol a)
def QIt(a:Nd):List Arr:=Arr.it (Qol a)
def QIu:Arr:=DA
def Qsw:Nd:=Nd.mk Z0 Z0 Z0 [] Z0 Z0 QIu [] [] Z0 Z0 Z0
def Qsx(a:Nd):D:=D.agg [ZI (Nd.kd a),ZI (Nd.at_ a),ZI (Nd.cl a),D.str (Nd.tx a),ZI (Nd.pr a),ZI (Nd.op a),ZI (Arr.k (Qol a)),SI (QME a),SI (QMF a),D.sl N4 (LN (QIt a)) (fun (i:Nat)=>Arr.row (List.getD (QIt a) i QIu)) Mode.any,D.sl (15:Nat) (LN (Nd.ki a)) (fun (i:Nat)=>Nd.row (List.getD (Nd.ki a) i Qsw)) Mode.any,D.sl (34:Nat) (LN (Nd.bo a)) (fun (i:Nat)=>Sm.row (List.getD (Nd.bo a) i (Sm.mk Z0 Z0 [] Z0 Qsw Qsw))) Mode.any,ZI (Nd.de a),ZI (Nd.sl a),ZI (Nd.ss a)]
def Qsy(a:Nd):Prop:=True∧∃(_y:Unit),True∧eqOf (List UInt8) [] (showNd a)∧True∧True
def QIv(a:Nd):Prop:=isN a [Qsx a] []
theorem rsw_ok'(n:Nd)(ho:n.ok)(hn:n.sm):CD 21 [.agg n.row1] (.str (showNd n)):=by
 refine con_of (A:=sC _ _) (x:=()) (E:=Ersw n) (eOk ?_ rfl) Tryz.func21 rfl (by kernel_rfl) rfl (by simp[sC,Ersw,EC,E0]) ?_
 ·intro k ds S A hh
  unfold conRsw at hh
  split at hh
  ·injection hh with hh;subst hh
   refine pA_ok fun ⟨e,h0⟩=>?_
   obtain ⟨_,h2,h3⟩:=check_zero.1 h0
   exact CD.at_ (CD.isN (rsh_ok n h3 ho hn h2).1 e) _
  ·exact conRrn_ok ho hn _ _ _ _ hh
 refine vc_eq (T :=
  ∀(x:Nat),True→SM x∧∃(x_1:Unit),isN n [Qsx n,ZI (60:Int)] [ZI (60:Int)]∧∀(y:Unit),True→ifB (decide ((60:Int)<depM (dpN n) (60:Int))) (Qsy n) (SM x∧∃(x_2:Unit),isN n [Qsx n,ZI (16384:Int)] [ZI (16384:Int)]∧∀(y:Unit),True→ifB (decide ((16384:Int)<cntM (szN n) (16384:Int))) (Qsy n) (SM x∧∃(x_3:Unit),QIv n∧∀(y:Unit),True→ifB (!nodeV n) (Qsy n) (SM x∧∃(x:Unit),(QIv n∧checkN n=Z0)∧∀(y:Unit),True→RT (showN n=showNd n))))) (by kernel_rfl) ?_
 delta DA GI LN N1 N4 SI SM Z0 ZI Qol QME QMF QIt QIu Qsw Qsx Qsy QIv RT
 try simp only[← dm]
 try simp only[← dn]
 simp only[ifB_iff,decide_eq_true_eq,decide_eq_false_iff_not,true_and,and_true,Bool.not_eq_true',Bool.not_eq_false',exists_const,forall_const]
 simp only[dep_60,cnt_16384]
 unfold showNd
 refine⟨nd_self _ _,fun h=>?_,fun h=>⟨nd_self _ _,fun h2=>?_,fun h2=>⟨nd_self _ _,fun h3=>?_,fun h3=>?_⟩⟩⟩
 ·exact (if_neg (fun e=>by have:=(check_zero.1 e).1;omega)).symm
 ·exact (if_neg (fun e=>by have:=(check_zero.1 e).2.1;omega)).symm
 ·exact (if_neg (fun e=>by have:=(check_zero.1 e).2.2;rw[h3] at this;cases this)).symm
 ·have e:checkN n=0:=check_zero.2 ⟨by omega,by omega,h3⟩
  rw[if_pos e]
  exact⟨⟨nd_self _ _,e⟩,rfl⟩
noncomputable def conLs(n:Nd):Con:=fun k ds S=>match k with
 |20=>some (pA ds S (.str (showNd n)) (isN n ds []))
 |21=>some (pA ds S (.str (showNd n)) (isN n ds []))
 |14=>some (pA ds S (.bool true) (ds=[]))
 |_=>none
theorem conLs_ok{n:Nd}(h:good n):ConOk Tryz.prog (conLs n):=by
 intro k ds S A hh
 unfold conLs at hh
 split at hh
 ·injection hh with hh;subst hh
  exact pA_ok fun e=>CD.at_ (CD.wk (sw_ok' n h.1 h.2) e) _
 ·injection hh with hh;subst hh
  exact pA_ok fun e=>CD.at_ (CD.wk (rsw_ok' n h.1 h.2) e) _
 ·injection hh with hh;subst hh
  exact pA_ok fun e=>by rw[e];exact CD.at_ kw_ok _
 ·cases hh
noncomputable def Els(n:Nd):Senv:={ EC (conLs n) 11 3 [] (fun id=>match id with | 1=>([0,2,1,3,4,5,6,7,8],[1,3,6]) | _=>([],[])) with mg:=fun _=>2 }
def Qom(a:Nd):Arr:=Nd.va a
def QMG(a:Nd):List Int:=Arr.sh (Qom a)
def QMH(a:Nd):List Int:=Arr.nu (Qom a)
def QIw(a:Nd):List Arr:=Arr.it (Qom a)
def QIx:Arr:=DA
def Qsz:Nd:=Nd.mk Z0 Z0 Z0 [] Z0 Z0 QIx [] [] Z0 Z0 Z0
def QIy(a:Nd):D:=D.agg [ZI (Nd.kd a),ZI (Nd.at_ a),ZI (Nd.cl a),D.str (Nd.tx a),ZI (Nd.pr a),ZI (Nd.op a),ZI (Arr.k (Qom a)),SI (QMG a),SI (QMH a),D.sl N4 (LN (QIw a)) (fun (i:Nat)=>Arr.row (List.getD (QIw a) i QIx)) Mode.any,D.sl (15:Nat) (LN (Nd.ki a)) (fun (i:Nat)=>Nd.row (List.getD (Nd.ki a) i Qsz)) Mode.any,D.sl (34:Nat) (LN (Nd.bo a)) (fun (i:Nat)=>Sm.row (List.getD (Nd.bo a) i (Sm.mk Z0 Z0 [] Z0 Qsz Qsz))) Mode.any,ZI (Nd.de a),ZI (Nd.sl a),ZI (Nd.ss a)]
def QIz(a:Nd):Prop:=isN a [QIy a] []
theorem law_shows(n:Nd)(hn:good n):CD 6 [.agg n.row1] (.bool true):=by
 refine con_of (A:=sC _ _) (x:=()) (E:=Els n) (eOk (conLs_ok hn) rfl) Tryz.func6 rfl (by kernel_rfl) rfl (by simp[sC,Els,EC,E0]) ?_
 refine vc_eq (T :=
  ∀(x:Nat),True→SM x∧SM x∧∃(x_1:Unit),QIz n∧∀(y:Unit),True→(SM x∧SM (QIy n))∧∃(x:Unit),QIz n∧∀(y:Unit),True→ifB (showNd n==showNd n) (∃(x:Unit),eqOf (List D) [] []∧∀(y:Unit),True→RT (SM true)) (RT (false=true))) (by kernel_rfl) ?_
 delta DA GI LN N1 N4 SI SM Z0 ZI Qom QMG QMH QIw QIx Qsz QIy QIz RT
 try simp only[← dm]
 try simp only[← dn]
 simp only[eq_self,ne_eq,implies_true,weakL_refl,Int.toNat_natCast,ifB_iff,side_iff,decide_eq_true_eq,decide_eq_false_iff_not,true_and,and_true,beq_iff_eq,bne_iff_ne,bne_eq_false_iff_eq,beq_eq_false_iff_ne,Bool.not_eq_true',Bool.not_eq_false',exists_const,forall_const,Prod.exists]
 exact⟨nd_self _ _,nd_self _ _,fun h=>absurd trivial h⟩
theorem shows_row(n:Nd)(hn:n.ok∧n.sm):ACalls Tryz.prog 6 [.agg n.row] ⟨[],[]⟩ (SpecR (sC [.agg n.row] (.bool true)) ()) :=
 CD.wk (law_shows n hn) (row_row1 n [])
open Go Go.Ab Go.RowKit
noncomputable def wit6:Array Value:=#[.agg #[.int .i64 0,.int .i64 0,.int .i64 0,.string ⟨#[]⟩,.int .i64 0,.int .i64 0,.int .i64 0,.slice none 0 0,.slice none 0 0,.slice none 0 0,.slice none 0 0,.slice none 0 0,.int .i64 0,.int .i64 0,.int .i64 0]]
theorem laid_met6(os:Os):laidMet Tryz.prog laidL ((laidWorld os).forCall (fun _ _=>0) ⟨#[],wit6,[]⟩).memory :=
 laidMet_of_run' 8 (by kernel_rfl) (by kernel_rfl)
theorem reads6(os:Os){H:Type}(enc:TypeId×Value→H):∃x,DataW.whole enc Tryz.prog ((laidWorld os).forCall (fun _ _=>0) ⟨#[],wit6,[]⟩).memory [34] [] false (wit6).toList 8=some x∧Rows.uptoSmall H (x.1++x.2.1)=true :=
 some_with (by kernel_rfl)
theorem contract6{H : Type}{enc : TypeId×Value → H}
  (W:World) (base:Nat) (args:Array Value) (ds gs:List (DataW H)) (before:List MemPlace)
  (hval:∀(j:Nat) t v,Tryz.f6.params[j]? =some t→args[j]? =some v→Value.okWide Tryz.prog W .any base t v)
  (hW:DataW.Whole enc Tryz.prog Tryz.f6.params.toList Rows.syntaxShowsSpec.vars false W args.toList ds gs before)
  (hsz:(DataW.weightsEach Tryz.prog (Tryz.f6.params.toList++Rows.syntaxShowsSpec.plain.varTypes Tryz.prog) (ds++gs)).all (·≤maxB)=true) (hL:laidMetH Tryz.prog laidL W) :
  Calls Tryz.prog 6 args W fun e W'=>∃v,e=.returned v∧Rows.syntaxShowsSpec.post enc Tryz.prog Tryz.f6 false true false false W args v W':=by
 refine law_contract (rs:=[(34,RNd)]) laid (by rw[Tryz.params6];kernel_rfl) rfl (fun ds hd=>?_) (rt:=4) rfl Tryz.underlying4 (by rw[Tryz.params6];rfl) ?_ W (g0_laid hL) base args ds gs before hval hW hsz ?_
 ·rw[Tryz.params6] at hd
  match ds,hd with
  | [_],_=>exact⟨rfl,rfl,rfl⟩
 ·intro r hr
  simp only[List.mem_cons,List.not_mem_nil,or_false,or_self] at hr
  subst hr
  exact read_nd
 ·intro Ds h
  obtain ⟨dx,_,rfl,hx,h⟩:=h.agg (by kernel_rfl)
  obtain rfl:=h.nil
  obtain ⟨x,⟨hokx,hsmx⟩,rfl⟩:=hx
  exact (shows_row x ⟨hokx,hsmx⟩).mono fun r S' ⟨_,_,hr,_⟩=>hr
theorem lifted6(os : Os)(started : os.Started)(H : Type)(enc : TypeId×Value → H)(F : Stop.Interp) :
  ReturnsInHanded {} Tryz.checked os 6 .any ((Rows.OpenSpec.upto Rows.syntaxShowsSpec).preRow enc Tryz.prog Tryz.f6 Rows.syntaxShowsUptoRow.domain false Rows.syntaxShowsUptoRow.laid) (((Rows.OpenSpec.upto Rows.syntaxShowsSpec).at F).post enc Tryz.prog Tryz.f6 false true false false):=by
 obtain ⟨x,hx,hxk⟩:=reads6 os enc
 refine returnsInHanded_of_row (C:=Tryz.checked) (s:=Rows.OpenSpec.upto Rows.syntaxShowsSpec) own started (by kernel_rfl) Tryz.func6
  (witness_row_at (enc:=enc) (C:=Tryz.checked) false (laidWorld os) wit6 rfl (by kernel_rfl) (by kernel_rfl) (by kernel_rfl)
   (OpenSpec.preRow_of_cond 8 hx rfl (fun k hk=>by cases hk;exact hxk) (by kernel_rfl) (laid_met6 os))) ?_
 intro W base args ds gs before hval hW _ hk _ hL _ _
 refine contract6 W base args ds gs before hval hW ?_ hL
 have e:Tryz.f6.params.toList++Rows.syntaxShowsSpec.plain.varTypes Tryz.prog=[34]:=by rw[Tryz.params6];kernel_rfl
 rw[e]
 exact upto_sz tysOk (by decide +kernel) (hk _ rfl)
theorem said6:Rows.SyntaxShowsUptoSaid :=
 OpenClaim.holds_of_cond 6 Tryz.f6 rfl rfl rfl rfl rfl rfl rfl ⟨rfl,rfl,rfl,rfl,rfl⟩ rfl rfl rfl rfl rfl (by kernel_rfl) Tryz.func6 (by kernel_rfl)
  (of_decide_eq_true (by kernel_rfl)) (by unfold Func.isWrapper;first | (rw[if_pos (by decide +kernel)];kernel_rfl) | (rw[if_neg (by decide +kernel)];exact⟨rfl,rfl⟩))
  (fun os started H enc _ F=>by rw[OpenClaim.pre_eq_preRow];exact lifted6 os started H enc F)
theorem plain6(f : FuncId)(fn : Func)(hf : Tryz.pinned.checked.prog.funcNamed "arraylang/arraylanglaw10.SyntaxShows" = some f)(hfn : Tryz.pinned.checked.prog.funcs[f]? = some fn) :
  false=Tryz.pinned.checked.prog.looks []∧∀(j:Nat) t,fn.params[j]? =some t→Tryz.pinned.checked.prog.wantsStandIn t=false:=by
 obtain rfl : f = 6 := Option.some.inj ((show Tryz.prog.funcNamed "arraylang/arraylanglaw10.SyntaxShows" = some 6 by kernel_rfl).symm.trans hf) |>.symm
 obtain rfl:fn=Tryz.f6:=(Option.some.inj (Tryz.func6.symm.trans hfn)).symm
 refine⟨by kernel_rfl,fun j t ht=>?_⟩
 rw[Tryz.params6] at ht
 have hm:t∈[34]:=by simpa using Array.mem_of_getElem? ht
 simp only[List.mem_cons,List.not_mem_nil,or_false,or_self] at hm
 subst hm
 exact (show Tryz.prog.wantsStandIn 34=false by kernel_rfl)
theorem provedSyntaxShows:Rows.SyntaxShowsUptoCardSaid :=
 Claim7.holds_tied_plain_at .later [] _ _ _ _ said6 (fun _ h=>by cases h) (by kernel_rfl) (fun _ h=>by cases h) syntaxShowsUpto_row_tie rfl ⟨rfl,rfl⟩ (by kernel_rfl) rfl plain6 (by kernel_rfl)
end
end Go.Proofs.YtjnifeedbgefpaaGreatDoor
