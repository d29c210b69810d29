/- The syntax laws, walked through the code. -/
import Derived.Test.YtjnifeedbgefpaaGreatDoorSe2
import Derived.Test.YtjnifeedbgefpaaGreatDoorProg
import Derived.Lib.LaidTab
import Derived.Lib.ItoaNum
import Derived.Lib.TrailingZeros
import Derived.Calls
import Derived.Below
import Derived.Laws.Entries
import Derived.Laws.Build
import Derived.Laws.Concat
import Derived.Laws.AppendOwn
import Derived.Laws.IdiomStrings
import Derived.Laws.BytesString
import Derived.Laws.NewFold
import Derived.Laws.MakeOwn
import Derived.Laws.IdiomCopy
import Derived.Laws.Shifts
import Derived.Laws.Strings
import Derived.Laws.Strings2
import Derived.Laws.Strings3
import Derived.Laws.RangeString
import Derived.Laws.Cover4
import Derived.Lib.DecodeN
import Derived.MapKept
import Derived.Laws.StructEq
import Derived.Orders
import Derived.Scope
import Derived.ProofKit
import Derived.WalkKit
import Derived.OpenShut
import Derived.Recover
import Derived.KernelRfl
import Derived.Shelf.Strings.Builder1
import Derived.Shelf.Strings.Builder2
import Derived.Shelf.Strings.OnBuilder
import Derived.Shelf.Strings.BuilderF
import Derived.Shelf.Strconv.Itoa0
import Derived.Shelf.Strconv.Itoa1
import Derived.Shelf.LaysM
import Derived.Shelf.Strconv.Itoa2
import Derived.Shelf.Strconv.Itoa3
import Derived.Shelf.Strconv.Itoa4
import Derived.Shelf.Bits.Mul64
import Derived.Lib.AppendIntMem
import Derived.Lib.ItoaLen
import Derived.Test.YtjnifeedbgefpaaGreatDoorRows
import Derived.Lib.Join
import Derived.Lib.Builder
import Derived.Lib.UnsafeStr
import Derived.Test.YtjnifeedbgefpaaGreatDoorCards
import Derived.Test.YtjnifeedbgefpaaGreatDoorTie
import Derived.Deep.DeepHandedRow
import Derived.Stop.LaidErr
namespace Go.Proofs.YtjnifeedbgefpaaGreatDoor
open Go Go.Ab
set_option maxRecDepth 100000
noncomputable section
def cntM(k:Nat)(m:Int):Int:=if (k:Int)≤m+1 then (k:Int) else m+1
def RCnt(n:Nd)(m:Int):Prop:=CD 27 [.agg n.row2,.int .i64 m] (.int .i64 (cntM (szN n) m))
def RCns(l:List Sm)(m:Int):Prop:=CD 36 [gsl 34 Sm.row1 l,.int .i64 m] (.int .i64 (cntM (szB l) m))
theorem szB_app:∀a b:List Sm,szB (a++b)=szB a+szB b
 | [],b=>by simp only[List.nil_append,szB];omega
 |x::a,b=>by simp only[List.cons_append,szB,szB_app a b];omega
theorem szB_take{l:List Sm}{i:Nat}(h:i<l.length):szB (l.take (i+1))=szB (l.take i)+szM (l.getD i default):=by
 rw[take_step h,szB_app]
 simp only[szB]
 omega
theorem szL_take'{l:List Nd}{i:Nat}(h:i<l.length):szL (l.take (i+1))=szL (l.take i)+szN (l.getD i default):=by
 rw[take_step h,szL_app]
 simp only[szL]
 omega
theorem szL_mono(l:List Nd)(i:Nat):szL (l.take i)≤szL l:=by
 have h:=szL_app (l.take i) (l.drop i)
 rw[List.take_append_drop] at h
 omega
theorem szB_mono(l:List Sm)(i:Nat):szB (l.take i)≤szB l:=by
 have h:=szB_app (l.take i) (l.drop i)
 rw[List.take_append_drop] at h
 omega
theorem szM_two(s:Sm):szM s=if s.kd=3 then szN s.te+szN s.nd else szN s.nd:=by
 cases s
 simp only[szM]
 rfl
theorem szN_two(n:Nd):szN n=1+szL n.ki+szB n.bo:=by
 cases n
 simp only[szN]
 rfl
def conRcs(p:Nd→Prop):Con:=fun k ds S=>match k with
 |27=>match ds with
  | [_,.int .i64 m]=>some (pE (β:=Nd) ds S (fun b=>.int .i64 (cntM (szN b) m)) (fun b=>isN b ds [.int .i64 m]∧0≤m∧m≤16384∧p b))
  |_=>none
 |_=>none
theorem conRcs_ok{p:Nd→Prop}(h:∀b,p b→∀m,0≤m→m≤16384→RCnt b m):ConOk Tryz.prog (conRcs p):=by
 intro k ds S A hh
 unfold conRcs at hh
 split at hh
 ·split at hh
  ·injection hh with hh;subst hh
   exact pS_ok fun b ⟨e,h0,h1,hb⟩=>CD.at_ (CD.isN (h b hb _ h0 h1) e) _
  ·cases hh
 ·cases hh
def conRct(p:Nd→Prop)(l:List Sm):Con:=fun k ds S=>match k with
 |36=>match ds with
  | [_,.int .i64 m]=>some (pA ds S (.int .i64 (cntM (szB l) m)) (wkL ds [gsl 34 Sm.row1 l,.int .i64 m]∧-1≤m∧m≤16384))
  |_=>none
 |k=>conRcs p k ds S
theorem conRct_ok{p:Nd→Prop}{l:List Sm}(h:∀b,p b→∀m,0≤m→m≤16384→RCnt b m)(h2:∀m,-1≤m→m≤16384→RCns l m):ConOk Tryz.prog (conRct p l):=by
 intro k ds S A hh
 unfold conRct at hh
 split at hh
 ·split at hh
  ·injection hh with hh;subst hh
   exact pA_ok fun ⟨e,h0,h1⟩=>CD.at_ (CD.wk (h2 _ h0 h1) e) _
  ·cases hh
 ·exact conRcs_ok h _ _ _ _ hh
noncomputable def Ercs(p:Nd→Prop)(l:List Sm)(m:Int):Senv:={ EC (conRcs p) 56 2 [4,5,6,15,39] (fun _=>([],[])) with
 mg:=fun _=>2
 ann:=fun b _ S=>match b with
  |0=>some { slots:=[6,5],keep:=[0,1],α:=Nat×Int,st:=fun y=>([.int .i64 y.1,.int .i64 y.2],S),inv:=fun y=>y.1≤l.length∧y.2=cntM (szB (l.take y.1)) m,mu:=fun y=>l.length-y.1 }
  |_=>none }
def VT(a:Nat)(b:List Sm)(c d:Int):Prop:=a≤LN b∧c=cntM (szB (List.take a b)) d
def JE:Arr:=DA
def Ja:Nd:=Nd.mk Z0 Z0 Z0 [] Z0 Z0 JE [] [] Z0 Z0 Z0
def Jb:Sm:=Sm.mk Z0 Z0 [] Z0 Ja Ja
def ZG(a:List Sm)(b:Nat):Sm:=List.getD a (Int.toNat (↑b:Int)) Jb
def QM(a:List Sm)(b:Nat):Nd:=Sm.nd (ZG a b)
def VU(a:List Sm)(b:Nat):Arr:=Nd.va (QM a b)
def Qh3(a:List Sm)(b:Nat):List Int:=Arr.sh (VU a b)
def Qh4(a:List Sm)(b:Nat):List Int:=Arr.nu (VU a b)
def Qfm(a:List Sm)(b:Nat):List Arr:=Arr.it (VU a b)
def Qfn(a:List Sm)(b:Nat):List Nd:=Nd.ki (QM a b)
def Qfo(a:List Sm)(b:Nat):List Sm:=Nd.bo (QM a b)
def VV(a:Int)(b:Nd)(c:Int):Int:=IntKind.wrap IntKind.i64 (a+cntM (szN b) (IntKind.wrap IntKind.i64 (c-a)))
def QN(a:List Sm)(b:Nat):Nd:=Sm.te (ZG a b)
def VW(a:List Sm)(b:Nat):Arr:=Nd.va (QN a b)
def Qh5(a:List Sm)(b:Nat):List Int:=Arr.sh (VW a b)
def Qh6(a:List Sm)(b:Nat):List Int:=Arr.nu (VW a b)
def Qfp(a:List Sm)(b:Nat):List Arr:=Arr.it (VW a b)
def Qfq(a:List Sm)(b:Nat):List Nd:=Nd.ki (QN a b)
def Qfr(a:List Sm)(b:Nat):List Sm:=Nd.bo (QN a b)
def VX(a b:Int)(c:Nd):Int:=IntKind.wrap IntKind.i64 (a-VV b c a)
def Qfs(a b:Int)(c:Nd):List D:=[ZI (VX a b c)]
def Jc(a:List Sm)(b:Nat):Sm:=List.getD a b Jb
def QO(a:List Sm)(b:Nat):Nd:=Sm.te (Jc a b)
def VY(a:List Sm)(b:Nat):Arr:=Nd.va (QO a b)
def Qh7(a:List Sm)(b:Nat):List Int:=Arr.sh (VY a b)
def Qh8(a:List Sm)(b:Nat):List Int:=Arr.nu (VY a b)
def Qft(a:List Sm)(b:Nat):List Arr:=Arr.it (VY a b)
def Qfu(a:List Sm)(b:Nat):List Nd:=Nd.ki (QO a b)
def Qfv(a:List Sm)(b:Nat):List Sm:=Nd.bo (QO a b)
def QP(a:List Sm)(b:Nat):Nd:=Sm.nd (Jc a b)
def VZ(a:List Sm)(b:Nat):Arr:=Nd.va (QP a b)
def Qh9(a:List Sm)(b:Nat):List Int:=Arr.sh (VZ a b)
def Qia(a:List Sm)(b:Nat):List Int:=Arr.nu (VZ a b)
def Qfw(a:List Sm)(b:Nat):List Arr:=Arr.it (VZ a b)
def Qfx(a:List Sm)(b:Nat):List Nd:=Nd.ki (QP a b)
def Qfy(a:List Sm)(b:Nat):List Sm:=Nd.bo (QP a b)
def Qib(a:List Sm):D:=D.sl (34:Nat) (LN a) (fun (i:Nat)=>[ZI (Sm.kd (Jc a i)),ZI (Sm.at_ (Jc a i)),D.str (Sm.nm (Jc a i)),ZI (Sm.sl (Jc a i)),ZI (Nd.kd (QO a i)),ZI (Nd.at_ (QO a i)),ZI (Nd.cl (QO a i)),D.str (Nd.tx (QO a i)),ZI (Nd.pr (QO a i)),ZI (Nd.op (QO a i)),ZI (Arr.k (VY a i)),SI (Qh7 a i),SI (Qh8 a i),D.sl N4 (LN (Qft a i)) (fun (i_1:Nat)=>Arr.row (List.getD (Qft a i) i_1 JE)) Mode.any,D.sl (15:Nat) (LN (Qfu a i)) (fun (i_1:Nat)=>Nd.row (List.getD (Qfu a i) i_1 Ja)) Mode.any,D.sl (34:Nat) (LN (Qfv a i)) (fun (i_1:Nat)=>Sm.row (List.getD (Qfv a i) i_1 Jb)) Mode.any,ZI (Nd.de (QO a i)),ZI (Nd.sl (QO a i)),ZI (Nd.ss (QO a i)),ZI (Nd.kd (QP a i)),ZI (Nd.at_ (QP a i)),ZI (Nd.cl (QP a i)),D.str (Nd.tx (QP a i)),ZI (Nd.pr (QP a i)),ZI (Nd.op (QP a i)),ZI (Arr.k (VZ a i)),SI (Qh9 a i),SI (Qia a i),D.sl N4 (LN (Qfw a i)) (fun (i_1:Nat)=>Arr.row (List.getD (Qfw a i) i_1 JE)) Mode.any,D.sl (15:Nat) (LN (Qfx a i)) (fun (i_1:Nat)=>Nd.row (List.getD (Qfx a i) i_1 Ja)) Mode.any,D.sl (34:Nat) (LN (Qfy a i)) (fun (i_1:Nat)=>Sm.row (List.getD (Qfy a i) i_1 Jb)) Mode.any,ZI (Nd.de (QP a i)),ZI (Nd.sl (QP a i)),ZI (Nd.ss (QP a i))]) Mode.any
def Qfz(a:List Sm)(b:Int):Prop:=SM (Qib a)∧SM (ZI b)∧True
def QfA(a:List Sm)(b:Int)(c:Nat)(d:Int)(e:Nd):Prop:=Qfz a b∧∃(y:Nat×Int),VT y.1 a y.2 b∧LN a-y.1<LN a-c∧(IntKind.wrap IntKind.i64 ((↑c:Int)+Z1)=(NI y.1)∧VV d e b=y.2∧True)∧True∧True
def QfB(a:Int):Int:=IntKind.wrap IntKind.i64 ((if a<(-1:Int) then (-1:Int) else a)+Z1)
def QfC(a b:Int)(c:List Sm):Prop:=True∧∃(_y:Unit),True∧(if QfB a<b then QfB a else b)=cntM (szB c) a∧True∧True
theorem rcs_step(p:Nd→Prop)(l:List Sm)(m:Int)(h0:-1≤m)(h1:m≤16384)(hl:l.length≤maxB)(h:∀b,p b→∀m,0≤m→m≤16384→RCnt b m)(hb:∀s∈l,p s.te∧p s.nd):RCns l m:=by
 refine con_of (A:=sC _ _) (x:=()) (E:=Ercs p l m) (eOk (conRcs_ok h) rfl) Tryz.func36 rfl (by kernel_rfl) rfl (by simp[sC,Ercs,EC,E0]) ?_
 refine vc_eq (T :=
  (∃(x:Nat×Int),VT x.1 l x.2 m∧(Z0=(NI x.1)∧Z0=x.2∧True)∧True∧True)∧∀(x:Nat×Int),VT x.1 l x.2 m→ifB (decide ((NI x.1)<(LI l))) (ifB (decide (x.2≤m)) (side (Z0≤(NI x.1)∧(NI x.1)<(LI l)) (∃(x_1:Nd),(isN x_1 [D.agg [ZI (Nd.kd (QM l x.1)),ZI (Nd.at_ (QM l x.1)),ZI (Nd.cl (QM l x.1)),D.str (Nd.tx (QM l x.1)),ZI (Nd.pr (QM l x.1)),ZI (Nd.op (QM l x.1)),ZI (Arr.k (VU l x.1)),SI (Qh3 l x.1),SI (Qh4 l x.1),D.sl N4 (LN (Qfm l x.1)) (fun (i:Nat)=>Arr.row (List.getD (Qfm l x.1) i JE)) Mode.any,D.sl (15:Nat) (LN (Qfn l x.1)) (fun (i:Nat)=>Nd.row (List.getD (Qfn l x.1) i Ja)) Mode.any,D.sl (34:Nat) (LN (Qfo l x.1)) (fun (i:Nat)=>Sm.row (List.getD (Qfo l x.1) i Jb)) Mode.any,ZI (Nd.de (QM l x.1)),ZI (Nd.sl (QM l x.1)),ZI (Nd.ss (QM l x.1))],ZI (IntKind.wrap IntKind.i64 (m-x.2))] [ZI (IntKind.wrap IntKind.i64 (m-x.2))]∧Z0≤IntKind.wrap IntKind.i64 (m-x.2)∧IntKind.wrap IntKind.i64 (m-x.2)≤(16384:Int)∧p x_1)∧∀(y:Unit),True→side (Z0≤(NI x.1)∧(NI x.1)<(LI l)) (ifB (Sm.kd (ZG l x.1)==(3:Int)) (ifB (decide (VV x.2 x_1 m≤m)) (side (Z0≤(NI x.1)∧(NI x.1)<(LI l)) (∃(x_2:Nd),(isN x_2 (D.agg [ZI (Nd.kd (QN l x.1)),ZI (Nd.at_ (QN l x.1)),ZI (Nd.cl (QN l x.1)),D.str (Nd.tx (QN l x.1)),ZI (Nd.pr (QN l x.1)),ZI (Nd.op (QN l x.1)),ZI (Arr.k (VW l x.1)),SI (Qh5 l x.1),SI (Qh6 l x.1),D.sl N4 (LN (Qfp l x.1)) (fun (i:Nat)=>Arr.row (List.getD (Qfp l x.1) i JE)) Mode.any,D.sl (15:Nat) (LN (Qfq l x.1)) (fun (i:Nat)=>Nd.row (List.getD (Qfq l x.1) i Ja)) Mode.any,D.sl (34:Nat) (LN (Qfr l x.1)) (fun (i:Nat)=>Sm.row (List.getD (Qfr l x.1) i Jb)) Mode.any,ZI (Nd.de (QN l x.1)),ZI (Nd.sl (QN l x.1)),ZI (Nd.ss (QN l x.1))]::Qfs m x.2 x_1) (Qfs m x.2 x_1)∧Z0≤VX m x.2 x_1∧VX m x.2 x_1≤(16384:Int)∧p x_2)∧∀(y:Unit),True→Qfz l m∧∃(y:Nat×Int),VT y.1 l y.2 m∧LN l-y.1<LN l-x.1∧(IntKind.wrap IntKind.i64 ((NI x.1)+Z1)=(NI y.1)∧IntKind.wrap IntKind.i64 (VV x.2 x_1 m+cntM (szN x_2) (VX m x.2 x_1))=y.2∧True)∧True∧True)) (QfA l m x.1 x.2 x_1)) (QfA l m x.1 x.2 x_1)))) (QfC m x.2 l)) (QfC m x.2 l)) (by kernel_rfl) ?_
 delta DA GI LI LN N1 N4 NI SI SM Z0 Z1 ZI VT JE Qfn Qfo VV QN VW Qh5 Qh6 Qfp Qfq Qfr Ja VX Qfs Jc QO VY Qh7 Qh8 Qft Qfu Qfv Jb QP VZ Qh9 Qia Qfw Qfx Qfy Qib Qfz QfA ZG QfB QfC QM VU Qh3 Qh4 Qfm
 try simp only[← dm]
 try simp only[← dn]
 simp only[ne_eq,Int.toNat_natCast,ifB_iff,side_iff,decide_eq_true_eq,decide_eq_false_iff_not,true_and,and_true,beq_iff_eq,beq_eq_false_iff_ne,exists_const,forall_const,Prod.exists]
 unfold maxB at hl
 have fin:∀c:Int,c=cntM (szB l) m→(if IntKind.i64.wrap ((if m < -1 then -1 else m)+1)<c then IntKind.i64.wrap ((if m < -1 then -1 else m)+1) else c)=cntM (szB l) m:=fun c hc=>by
  rw[if_neg (show ¬m < -1 by omega),wrap_i64' (by omega) (by omega),if_neg ?_,hc]
  rw[hc];unfold cntM;split<;>omega
 refine⟨⟨0,0,⟨Nat.zero_le _,?_⟩,rfl,rfl⟩,?_⟩
 ·simp only[List.take_zero,szB];unfold cntM;split<;>omega
 rintro ⟨i,c⟩ ⟨i1,hc⟩
 simp only at i1 hc ⊢
 have hmono:=szB_mono l i
 have c0:0≤c∧c≤m+1:=by rw[hc];unfold cntM;split<;>omega
 refine⟨fun hlt=>⟨fun hle=>?_,fun hgt=>fin c ?_⟩,fun hge=>fin c ?_⟩
 ·have hlt':i<l.length:=by omega
  have ht:=szB_take hlt'
  have hs:=szM_two (l.getD i default)
  obtain ⟨q1,q2⟩:=hb _ (sm_getD hlt')
  have w1:IntKind.i64.wrap (m-c)=m-c:=wrap_i64' (by omega) (by omega)
  have wi:IntKind.i64.wrap ((i:Int)+1)=((i+1:Nat):Int):=by rw[wrap_i64' (by omega) (by omega)];rfl
  have hu:0≤cntM (szN (l.getD i default).nd) (m-c)∧cntM (szN (l.getD i default).nd) (m-c)≤m-c+1:=by unfold cntM;split<;>omega
  have w2:IntKind.i64.wrap (c+cntM (szN (l.getD i default).nd) (m-c))=c+cntM (szN (l.getD i default).nd) (m-c):=wrap_i64' (by omega) (by omega)
  have e1:c+cntM (szN (l.getD i default).nd) (m-c)=cntM (szB (l.take i)+szN (l.getD i default).nd) m:=by
   rw[hc] at hle ⊢
   unfold cntM at hle ⊢
   split at hle<;>repeat' split
   all_goals omega
  rw[w1]
  refine⟨⟨by omega,hlt⟩,(l.getD i default).nd,⟨nd_self _ _,by omega,by omega,q2⟩,⟨by omega,hlt⟩,fun h3=>?_,fun h3=>⟨i+1,_,⟨hlt',?_⟩,by omega,wi,rfl⟩⟩
  ·rw[w2,if_pos h3] at *
   refine⟨fun h4=>?_,fun h4=>⟨i+1,_,⟨hlt',?_⟩,by omega,wi,rfl⟩⟩
   ·have w3:IntKind.i64.wrap (m-(c+cntM (szN (l.getD i default).nd) (m-c)))=m-(c+cntM (szN (l.getD i default).nd) (m-c)):=wrap_i64' (by omega) (by omega)
    rw[w3]
    refine⟨⟨by omega,hlt⟩,(l.getD i default).te,⟨nd_self _ _,by omega,by omega,q1⟩,i+1,_,⟨hlt',?_⟩,by omega,wi,rfl⟩
    have hv:0≤cntM (szN (l.getD i default).te) (m-(c+cntM (szN (l.getD i default).nd) (m-c)))∧cntM (szN (l.getD i default).te) (m-(c+cntM (szN (l.getD i default).nd) (m-c)))≤m-(c+cntM (szN (l.getD i default).nd) (m-c))+1:=by
     generalize c+cntM (szN (l.getD i default).nd) (m-c)=z at *
     unfold cntM;split<;>omega
    rw[wrap_i64' (by omega) (by omega),ht,hs,e1]
    rw[e1] at h4
    generalize szB (l.take i)=t at *
    generalize szN (l.getD i default).nd=u at *
    generalize szN (l.getD i default).te=v at *
    clear e1 w1 w2 w3 hu hv hc c0 ht hs
    unfold cntM at h4 ⊢
    split at h4<;>repeat' split
    all_goals omega
   ·rw[ht,hs,e1]
    rw[e1] at h4
    generalize szB (l.take i)=t at *
    generalize szN (l.getD i default).nd=u at *
    generalize szN (l.getD i default).te=v at *
    clear e1 w1 w2 hu hc c0 ht hs
    unfold cntM at h4 ⊢
    split at h4<;>repeat' split
    all_goals omega
  ·rw[w2,ht,hs,if_neg h3,e1]
 ·rw[hc] at hgt ⊢
  unfold cntM at hgt ⊢
  split at hgt<;>repeat' split
  all_goals omega
 ·have e:i=l.length:=by omega
  rw[e,List.take_length] at hc
  exact hc
noncomputable def Erct(p:Nd→Prop)(n:Nd)(m:Int):Senv:={ EC (conRct p n.bo) 41 3 [4,5,6,16] (fun _=>([],[])) with
 mg:=fun _=>2
 ann:=fun b _ S=>match b with
  |0=>some { slots:=[6,5],keep:=[0,1,2],α:=Nat×Int,st:=fun y=>([.int .i64 y.1,.int .i64 y.2],S),inv:=fun y=>y.1≤n.ki.length∧y.2=cntM (1+szL (n.ki.take y.1)) m,mu:=fun y=>n.ki.length-y.1 }
  |_=>none }
def V0(a:Nd):List Nd:=Nd.ki a
def Kf(a:Nd):Nat:=LN (V0 a)
def ZH(a:Nat)(b:Nd)(c d:Int):Prop:=a≤Kf b∧c=cntM (N1+szL (List.take a (V0 b))) d
def QfD(a:Nd):Int:=Nd.kd a
def QfE(a:Nd):Int:=Nd.at_ a
def QfF(a:Nd):Int:=Nd.cl a
def QfG(a:Nd):List UInt8:=Nd.tx a
def QfH(a:Nd):Int:=Nd.pr a
def QfI(a:Nd):Int:=Nd.op a
def V1(a:Nd):Arr:=Nd.va a
def QfJ(a:Nd):Int:=Arr.k (V1 a)
def QfK(a:Nd):List Int:=Arr.sh (V1 a)
def ZJ(a:Nd):Nat:=LN (QfK a)
def QfL(a:Nd)(b:Nat):List D:=[ZI (GI (QfK a) b)]
def QfM(a:Nd):List Int:=Arr.nu (V1 a)
def ZK(a:Nd):Nat:=LN (QfM a)
def QfN(a:Nd)(b:Nat):List D:=[ZI (GI (QfM a) b)]
def QfO(a:Nd):List Arr:=Arr.it (V1 a)
def ZL(a:Nd):Nat:=LN (QfO a)
def ZM:Arr:=DA
def QfP(a:Nd)(b:Nat):List D:=Arr.row (List.getD (QfO a) b ZM)
def JF:Nd:=Nd.mk Z0 Z0 Z0 [] Z0 Z0 ZM [] [] Z0 Z0 Z0
def QfQ(a:Nd)(b:Nat):List D:=Nd.row1 (List.getD (V0 a) b JF)
def ZN(a:Nd):List Sm:=Nd.bo a
def ZO(a:Nd):Nat:=LN (ZN a)
def QfR:Sm:=Sm.mk Z0 Z0 [] Z0 JF JF
def QfS(a:Nd)(b:Nat):List D:=Sm.row1 (List.getD (ZN a) b QfR)
def QfT(a:Nd):Int:=Nd.de a
def QfU(a:Nd):Int:=Nd.sl a
def QfV(a:Nd):Int:=Nd.ss a
def QfW(a:Nat)(b:Nd):Prop:=(SM a∧(SM (QfD b)∧SM (QfE b)∧SM (QfF b)∧SM (QfG b)∧SM (QfH b)∧SM (QfI b)∧SM (QfJ b)∧(SM (ZJ b)∧(∀(i:Nat),i<ZJ b→SM (QfL b i))∧True)∧(SM (ZK b)∧(∀(i:Nat),i<ZK b→SM (QfN b i))∧True)∧(SM (ZL b)∧(∀(i:Nat),i<ZL b→SM (QfP b i))∧True)∧(SM (Kf b)∧(∀(i:Nat),i<Kf b→SM (QfQ b i))∧True)∧(SM (ZO b)∧(∀(i:Nat),i<ZO b→SM (QfS b i))∧True)∧SM (QfT b)∧SM (QfU b)∧SM (QfV b)∧True)∧True)∧True
def QQ(a:Nd)(b:Nat):Nd:=List.getD (V0 a) (Int.toNat (↑b:Int)) JF
def V2(a:Nd)(b:Nat):Arr:=Nd.va (QQ a b)
def Qic(a:Nd)(b:Nat):List Int:=Arr.sh (V2 a b)
def Qid(a:Nd)(b:Nat):List Int:=Arr.nu (V2 a b)
def QfX(a:Nd)(b:Nat):List Arr:=Arr.it (V2 a b)
def QfY(a:Nd)(b:Nat):List Nd:=Nd.ki (QQ a b)
def QfZ(a:Nd)(b:Nat):List Sm:=Nd.bo (QQ a b)
def Kx(a b:Int):Int:=IntKind.wrap IntKind.i64 (a-b)
def ZP(a b:Int):List D:=[ZI (Kx a b)]
def Qf0(a:Nd):D:=D.sl (34:Nat) (ZO a) (fun (i:Nat)=>QfS a i) Mode.any
def Qie(a:Nd):D:=D.agg [ZI (QfD a),ZI (QfE a),ZI (QfF a),D.str (QfG a),ZI (QfH a),ZI (QfI a),ZI (QfJ a),D.sl N1 (ZJ a) (fun (i:Nat)=>QfL a i) Mode.any,D.sl N1 (ZK a) (fun (i:Nat)=>QfN a i) Mode.any,D.sl N4 (ZL a) (fun (i:Nat)=>QfP a i) Mode.any,D.sl (15:Nat) (Kf a) (fun (i:Nat)=>QfQ a i) Mode.any,Qf0 a,ZI (QfT a),ZI (QfU a),ZI (QfV a)]
def Qf1(a:Nd)(b c:Int):List D:=Qf0 a::ZP b c
def Qf2(a:Int)(b:Nd)(c:Int):Int:=IntKind.wrap IntKind.i64 (a+cntM (szB (ZN b)) (Kx c a))
def Qf3(a:Nat)(b:Nd)(c d:Int):Prop:=SM a∧∃(_x:Unit),(wkL (Qf1 b c d) (Qf1 b c d)∧(-1:Int)≤Kx c d∧Kx c d≤(16384:Int))∧∀(_y:Unit),True→True∧∃(_y:Unit),True∧(if IntKind.wrap IntKind.i64 (c+Z1)<Qf2 d b c then IntKind.wrap IntKind.i64 (c+Z1) else Qf2 d b c)=cntM (szN b) c∧True∧True
theorem rct_step(p:Nd→Prop)(n:Nd)(m:Int)(h0:0≤m)(h1:m≤16384)(hn:n.sm)(h:∀b,p b→∀m,0≤m→m≤16384→RCnt b m)(hk:∀b∈n.ki,p b)(hb:∀s∈n.bo,p s.te∧p s.nd):RCnt n m:=by
 refine con_of (A:=sC _ _) (x:=()) (E:=Erct p n m) (eOk (conRct_ok h fun m h0 h1=>rcs_step p n.bo m h0 h1 (sm_len hn).2.2 h hb) rfl) Tryz.func27 rfl (by kernel_rfl) rfl (by simp[sC,Erct,EC,E0]) ?_
 refine vc_eq (T :=
  ∀(x:Nat),True→(∃(x_1:Nat×Int),ZH x_1.1 n x_1.2 m∧(Z0=(NI x_1.1)∧Z1=x_1.2∧True)∧QfW x n)∧∀(x_1:Nat×Int),ZH x_1.1 n x_1.2 m→SM x∧ifB (decide ((NI x_1.1)<(NI (Kf n)))) (ifB (decide (x_1.2≤m)) (SM x∧side (Z0≤(NI x_1.1)∧(NI x_1.1)<(NI (Kf n))) (∃(x_2:Nd),(isN x_2 (D.agg [ZI (Nd.kd (QQ n x_1.1)),ZI (Nd.at_ (QQ n x_1.1)),ZI (Nd.cl (QQ n x_1.1)),D.str (Nd.tx (QQ n x_1.1)),ZI (Nd.pr (QQ n x_1.1)),ZI (Nd.op (QQ n x_1.1)),ZI (Arr.k (V2 n x_1.1)),SI (Qic n x_1.1),SI (Qid n x_1.1),D.sl N4 (LN (QfX n x_1.1)) (fun (i:Nat)=>Arr.row (List.getD (QfX n x_1.1) i ZM)) Mode.any,D.sl (15:Nat) (LN (QfY n x_1.1)) (fun (i:Nat)=>Nd.row (List.getD (QfY n x_1.1) i JF)) Mode.any,D.sl (34:Nat) (LN (QfZ n x_1.1)) (fun (i:Nat)=>Sm.row (List.getD (QfZ n x_1.1) i QfR)) Mode.any,ZI (Nd.de (QQ n x_1.1)),ZI (Nd.sl (QQ n x_1.1)),ZI (Nd.ss (QQ n x_1.1))]::ZP m x_1.2) (ZP m x_1.2)∧Z0≤Kx m x_1.2∧Kx m x_1.2≤(16384:Int)∧p x_2)∧∀(y:Unit),True→(SM (Qie n)∧SM (ZI m)∧SM (D.ref N0 x N0)∧True)∧∃(y:Nat×Int),ZH y.1 n y.2 m∧Kf n-y.1<Kf n-x_1.1∧(IntKind.wrap IntKind.i64 ((NI x_1.1)+Z1)=(NI y.1)∧IntKind.wrap IntKind.i64 (x_1.2+cntM (szN x_2) (Kx m x_1.2))=y.2∧True)∧QfW x n)) (Qf3 x n m x_1.2)) (Qf3 x n m x_1.2)) (by kernel_rfl) ?_
 delta DA GI LN N0 N1 N4 NI SI SM Z0 Z1 ZI V0 Kf ZH QfD QfE QfF QfG QfH QfI V1 QfJ QfK ZJ QfL QfM ZK QfN QfO ZL ZM QfP JF QfQ ZN ZO QfR QfS QfT QfU QfV QfW QQ V2 Qic Qid QfX QfY QfZ Kx ZP Qf0 Qie Qf1 Qf2 Qf3
 try simp only[← dm]
 try simp only[← dn]
 simp only[implies_true,Int.toNat_natCast,ifB_iff,side_iff,decide_eq_true_eq,decide_eq_false_iff_not,true_and,and_true,exists_const,forall_const,Prod.exists]
 have k1:=maxB_le (sm_len hn).2.1
 unfold maxLen at k1
 have hz:=szN_two n
 have fin:∀c:Int,0≤c∧c≤m+1→c=cntM (1+szL n.ki) m→(wkL [D.sl 34 n.bo.length (fun i=>(n.bo.getD i default).row1) Mode.any,.int .i64 (IntKind.i64.wrap (m-c))] [D.sl 34 n.bo.length (fun i=>(n.bo.getD i default).row1) Mode.any,.int .i64 (IntKind.i64.wrap (m-c))]∧-1≤IntKind.i64.wrap (m-c)∧IntKind.i64.wrap (m-c)≤16384)∧(if IntKind.i64.wrap (m+1)<IntKind.i64.wrap (c+cntM (szB n.bo) (IntKind.i64.wrap (m-c))) then IntKind.i64.wrap (m+1) else IntKind.i64.wrap (c+cntM (szB n.bo) (IntKind.i64.wrap (m-c))))=cntM (szN n) m:=fun c c0 hc=>by
  have w1:IntKind.i64.wrap (m-c)=m-c:=wrap_i64' (by omega) (by omega)
  have w2:IntKind.i64.wrap (m+1)=m+1:=wrap_i64' (by omega) (by omega)
  have hv:0≤cntM (szB n.bo) (m-c)∧cntM (szB n.bo) (m-c)≤m-c+1:=by unfold cntM;split<;>omega
  rw[w1,w2,wrap_i64' (show (-9223372036854775808:Int)≤c+cntM (szB n.bo) (m-c) by omega) (by omega)]
  refine⟨⟨wkL_refl _,by omega,by omega⟩,?_⟩
  rw[if_neg (by omega),hz]
  clear hv w1 w2 c0
  generalize szL n.ki=t at *
  generalize szB n.bo=u at *
  rw[hc]
  unfold cntM
  repeat' split
  all_goals omega
 refine⟨⟨0,1,⟨Nat.zero_le _,?_⟩,rfl,rfl⟩,?_⟩
 ·simp only[List.take_zero,szL];unfold cntM;split<;>omega
 rintro ⟨i,c⟩ ⟨i1,hc⟩
 simp only at i1 hc ⊢
 have hmono:=szL_mono n.ki i
 have c0:0≤c∧c≤m+1:=by rw[hc];unfold cntM;split<;>omega
 refine⟨fun hlt=>⟨fun hle=>?_,fun hgt=>fin c c0 ?_⟩,fun hge=>fin c c0 ?_⟩
 ·have hlt':i<n.ki.length:=by omega
  have ht:=szL_take' hlt'
  have w1:IntKind.i64.wrap (m-c)=m-c:=wrap_i64' (by omega) (by omega)
  have hu:0≤cntM (szN (n.ki.getD i default)) (m-c)∧cntM (szN (n.ki.getD i default)) (m-c)≤m-c+1:=by unfold cntM;split<;>omega
  rw[w1]
  refine⟨⟨by omega,hlt⟩,n.ki.getD i default,⟨nd_self _ _,by omega,by omega,hk _ (nd_getD hlt')⟩,i+1,_,⟨hlt',?_⟩,by omega,by rw[wrap_i64' (by omega) (by omega)];rfl,rfl⟩
  rw[wrap_i64' (by omega) (by omega),ht]
  clear hu w1 c0
  generalize szL (n.ki.take i)=t at *
  generalize szN (n.ki.getD i default)=u at *
  rw[hc] at hle ⊢
  unfold cntM at hle ⊢
  split at hle<;>repeat' split
  all_goals omega
 ·rw[hc] at hgt ⊢
  unfold cntM at hgt ⊢
  split at hgt<;>repeat' split
  all_goals omega
 ·have e:i=n.ki.length:=by omega
  rw[e,List.take_length] at hc
  exact hc
theorem rct_ok(n:Nd)(hn:n.sm)(m:Int)(h0:0≤m)(h1:m≤16384):RCnt n m :=
 rct_step (fun b=>b.sm∧SizeOf.sizeOf b<SizeOf.sizeOf n) n m h0 h1 hn (fun b hb m h0 h1=>rct_ok b hb.1 m h0 h1) (fun b hb=>⟨sm_kid hn (kid_inner hb),Nd.size_kid hb⟩) fun s hs =>
  have h2:=sm_sm2 (sm_bo hn s hs)
  have e:=Nd.size_stmt hs
  have e1:=Sm.size_te s
  have e2:=Sm.size_nd s
  ⟨⟨h2.1,by omega⟩,⟨h2.2,by omega⟩⟩
termination_by SizeOf.sizeOf n
decreasing_by exact hb.2
theorem rcs_all(l:List Sm)(hl:l.length≤maxB)(hs:∀s∈l,s.sm)(m:Int)(h0:-1≤m)(h1:m≤16384):RCns l m :=
 rcs_step Nd.sm l m h0 h1 hl (fun b hb m h0 h1=>rct_ok b hb m h0 h1) fun s h=>sm_sm2 (hs s h)
theorem rva_ok(n:Nd)(ho:n.ok)(hn:n.sm):RVal n :=
 rva_step n hn (va_ok ho) (rbo_step n.bo (sm_len hn).2.2 fun s hs =>
  have h1:=sm_ok2 (bo_ok' ho s hs)
  have h2:=sm_sm2 (sm_bo hn s hs)
  ⟨rva_ok s.nd h1.2 h2.2,rva_ok s.te h1.1 h2.1,h1.1,h2.1⟩) fun b hb=>rva_ok b (ki_ok ho b hb) (sm_kid hn (kid_inner hb))
termination_by SizeOf.sizeOf n
decreasing_by
 ·have:=Nd.size_stmt hs
  have:=Sm.size_nd s
  omega
 ·have:=Nd.size_stmt hs
  have:=Sm.size_te s
  omega
 ·exact Nd.size_kid hb
theorem rbo_all(l:List Sm)(hl:l.length≤maxB)(ho:∀s∈l,s.ok)(hs:∀s∈l,s.sm):RBdy l :=
 rbo_step l hl fun s h=>⟨rva_ok s.nd (sm_ok2 (ho s h)).2 (sm_sm2 (hs s h)).2,rva_ok s.te (sm_ok2 (ho s h)).1 (sm_sm2 (hs s h)).1,(sm_ok2 (ho s h)).1,(sm_sm2 (hs s h)).1⟩
def conRou(l:List Sm):Con:=fun k ds S=>match k with
 |53=>match ds with
  | [_,.int .i64 q]=>some (pA ds S (.bool (mentB l q)) (wkL ds [gsl 34 Sm.row1 l,.int .i64 q]))
  |_=>none
 |_=>none
theorem conRou_ok{l:List Sm}(hl:l.length≤maxLen)(h:∀s∈l,s.sm):ConOk Tryz.prog (conRou l):=by
 intro k ds S A hh
 unfold conRou at hh
 split at hh
 ·split at hh
  ·injection hh with hh;subst hh
   exact pA_ok fun e=>CD.at_ (CD.wk (rbm_ok _ l hl h) e) _
  ·cases hh
 ·cases hh
noncomputable def Erou(l:List Sm):Senv:={ EC (conRou l) 39 1 [2,3,7,15] (fun _=>([],[])) with
 mg:=fun _=>2
 ann:=fun b _ S=>match b with
  |0=>some { slots:=[3],keep:=[0],α:=Nat,st:=fun i=>([.int .i64 i],S),inv:=fun i=>i≤l.length∧∀j,j<i→((l.getD j default).kd != 3)=true,mu:=fun i=>l.length-i }
  |_=>none }
def Qf4:Nd:=Nd.mk Z0 Z0 Z0 [] Z0 Z0 DA [] [] Z0 Z0 Z0
def Qf5:Sm:=Sm.mk Z0 Z0 [] Z0 Qf4 Qf4
def Qf6(a:List Sm)(b:Nat):Sm:=List.getD a b Qf5
def ZQ(a:Nat)(b:List Sm):Prop:=a≤LN b∧∀(j:Nat),j<a→(Sm.kd (Qf6 b j) != (3:Int))=true
def JG(a:List Sm):Prop:=True∧∃(_y:Unit),True∧false=rOut a∧True∧True
def Jd(a:List Sm):D:=D.sl (34:Nat) (LN a) (fun (i:Nat)=>Sm.row1 (Qf6 a i)) Mode.any
def Qf7(a:List Sm):List D:=[Jd a,ZI (12:Int)]
def Qf8(a:List Sm):List D:=[Jd a,ZI (13:Int)]
def Qf9(a:List Sm):List D:=[Jd a,ZI (6:Int)]
def Qga(a:List Sm):List D:=[Jd a,ZI (7:Int)]
def Qgb(a:List Sm):List D:=[Jd a,ZI (11:Int)]
theorem rou_ok(l:List Sm)(hl:l.length≤maxLen)(h:∀s∈l,s.sm):CD 29 [gsl 34 Sm.row1 l] (.bool (rOut l)):=by
 refine con_of (A:=sC _ _) (x:=()) (E:=Erou l) (eOk (conRou_ok hl h) rfl) Tryz.func29 rfl (by kernel_rfl) rfl (by simp[sC,Erou,EC,E0]) ?_
 refine vc_eq (T :=
  (∃(x:Nat),ZQ x l∧(Z0=(↑x:Int)∧True)∧True∧True)∧∀(x:Nat),ZQ x l→ifB (decide ((↑x:Int)<(LI l))) (side (Z0≤(↑x:Int)∧(↑x:Int)<(LI l)) (ifB (Sm.kd (List.getD l (Int.toNat (↑x:Int)) Qf5)==(3:Int)) (JG l) ((SM (Jd l)∧True)∧∃(y:Nat),ZQ y l∧LN l-y<LN l-x∧(IntKind.wrap IntKind.i64 ((↑x:Int)+Z1)=(↑y:Int)∧True)∧True∧True))) (∃(x:Unit),wkL (Qf7 l) (Qf7 l)∧∀(y:Unit),True→ifB (!mentB l (12:Int)) (∃(x:Unit),wkL (Qf8 l) (Qf8 l)∧∀(y:Unit),True→ifB (!mentB l (13:Int)) (∃(x:Unit),wkL (Qf9 l) (Qf9 l)∧∀(y:Unit),True→ifB (!mentB l (6:Int)) (∃(x:Unit),wkL (Qga l) (Qga l)∧∀(y:Unit),True→ifB (!mentB l (7:Int)) (∃(x:Unit),wkL (Qgb l) (Qgb l)∧∀(y:Unit),True→RT ((!mentB l (11:Int))=rOut l)) (JG l)) (JG l)) (JG l)) (JG l))) (by kernel_rfl) ?_
 delta DA LI LN SM Z0 Z1 ZI Qf4 Qf5 Qgb Qf6 ZQ JG Jd Qf7 Qf8 Qf9 Qga RT
 try simp only[← dm]
 try simp only[← dn]
 simp only[ne_eq,Int.toNat_natCast,ifB_iff,side_iff,decide_eq_true_eq,decide_eq_false_iff_not,true_and,and_true,beq_iff_eq,bne_iff_ne,beq_eq_false_iff_ne,Bool.not_eq_true',Bool.not_eq_false',exists_const,forall_const]
 unfold maxLen at hl
 refine⟨⟨0,⟨Nat.zero_le _,fun j hj=>absurd hj (by omega)⟩,rfl⟩,fun i hi'=>⟨fun hlt=>?_,fun hge=>?_⟩⟩
 ·obtain ⟨i1,hi⟩:=hi'
  have hi1:i<l.length:=by omega
  refine⟨⟨by omega,by omega⟩,fun c=>?_,fun c=>⟨i+1,⟨hi1,fun j hj=>?_⟩,by omega,wrap_i64' (by omega) (by omega)⟩⟩
  ·unfold rOut
   rw[all_no (p:=fun s:Sm=>s.kd != 3) hi1 (by simpa using c)];rfl
  ·by_cases e':j=i
   ·rw[e'];simpa using c
   ·exact hi j (by omega)
 ·obtain ⟨i1,hi⟩:=hi'
  have a:(l.all fun s=>s.kd != 3)=true:=all_yes fun j hj=>by simpa using hi j (by omega)
  unfold rOut
  rw[a,Bool.true_and]
  repeat' (first | exact wkL_refl _ | refine And.intro ?_ ?_ | intro _)
  all_goals first
   |(simp_all;done)
   |(simp_all;omega)
theorem dep_60(k:Nat):60<depM k 60↔60<k:=by unfold depM;split<;>omega
theorem cnt_16384(k:Nat):16384<cntM k 16384↔16384<k:=by unfold cntM;split<;>omega
def dpS(s:Sm):Bool:=decide (60<dpM s)
def conRpr(l:List Sm):Con:=fun k ds S=>match k with
 |26=>some (pE (β:=Nd) ds S (fun b=>.int .i64 (depM (dpN b) 60)) (fun b=>isN b ds [.int .i64 60]∧b.sm))
 |36=>some (pA ds S (.int .i64 (cntM (szB l) 16384)) (wkL ds [gsl 34 Sm.row1 l,.int .i64 16384]))
 |37=>some (pA ds S (.bool (bodyV true l)) (wkL ds [gsl 34 Sm.row1 l]))
 |29=>some (pA ds S (.bool (rOut l)) (wkL ds [gsl 34 Sm.row1 l]))
 |_=>none
theorem conRpr_ok{l:List Sm}(hl:l.length≤maxB)(ho:∀s∈l,s.ok)(hs:∀s∈l,s.sm):ConOk Tryz.prog (conRpr l):=by
 intro k ds S A hh
 unfold conRpr at hh
 split at hh
 ·injection hh with hh;subst hh
  exact pS_ok fun b ⟨e,hb⟩=>CD.at_ (CD.isN (rdp_ok b hb 60 (by omega) (by omega)) e) _
 ·injection hh with hh;subst hh
  exact pA_ok fun e=>CD.at_ (CD.wk (rcs_all l hl hs _ (by omega) (by omega)) e) _
 ·injection hh with hh;subst hh
  exact pA_ok fun e=>CD.at_ (CD.wk (rbo_all l hl ho hs) e) _
 ·injection hh with hh;subst hh
  exact pA_ok fun e=>CD.at_ (CD.wk (rou_ok l (maxB_le hl) hs) e) _
 ·cases hh
theorem dpB_any:∀l:List Sm,l.any dpS=decide (60<dpB l)
 | []=>by simp[dpB]
 |s::l=>by
  have e:dpB (s::l)=max (dpM s) (dpB l):=by simp only[dpB]
  rw[List.any_cons,dpB_any l,dpS,Bool.eq_iff_iff,e]
  simp only[Bool.or_eq_true,decide_eq_true_eq]
  omega
noncomputable def Erpr(l:List Sm):Senv:={ EC (conRpr l) 56 4 [7,12,41,45,55] (fun _=>([],[])) with
 mg:=fun _=>2
 ann:=fun b _ S=>match b with
  |0=>some { slots:=[3],keep:=[0,1],α:=Nat,st:=fun i=>([.int .i64 i],S),inv:=fun i=>i≤l.length∧∀j,j<i→dpS (l.getD j default)=false,mu:=fun i=>l.length-i }
  |_=>none }
def Qj3(a:List Sm):Int:=rightP a
def Qj4:Arr:=DA
def Qi6:Nd:=Nd.mk Z0 Z0 Z0 [] Z0 Z0 Qj4 [] [] Z0 Z0 Z0
def Qi7:Sm:=Sm.mk Z0 Z0 [] Z0 Qi6 Qi6
def Qif(a:List Sm)(b:Nat):Sm:=List.getD a b Qi7
def QrG(a:Nat)(b:List Sm):Prop:=a≤LN b∧∀(j:Nat),j<a→dpS (Qif b j)=false
def HM(a:List Sm)(b:Nat):Nd:=Sm.te (Qif a b)
def Qnn(a:List Sm)(b:Nat):Arr:=Nd.va (HM a b)
def QLQ(a:List Sm)(b:Nat):List Int:=Arr.sh (Qnn a b)
def QLR(a:List Sm)(b:Nat):List Int:=Arr.nu (Qnn a b)
def QEH(a:List Sm)(b:Nat):List Arr:=Arr.it (Qnn a b)
def QEI(a:List Sm)(b:Nat):List Nd:=Nd.ki (HM a b)
def QEJ(a:List Sm)(b:Nat):List Sm:=Nd.bo (HM a b)
def HN(a:List Sm)(b:Nat):Nd:=Sm.nd (Qif a b)
def Qno(a:List Sm)(b:Nat):Arr:=Nd.va (HN a b)
def QLS(a:List Sm)(b:Nat):List Int:=Arr.sh (Qno a b)
def QLT(a:List Sm)(b:Nat):List Int:=Arr.nu (Qno a b)
def QEK(a:List Sm)(b:Nat):List Arr:=Arr.it (Qno a b)
def QEL(a:List Sm)(b:Nat):List Nd:=Nd.ki (HN a b)
def QEM(a:List Sm)(b:Nat):List Sm:=Nd.bo (HN a b)
def QEN(a:List Sm)(b:Nat):List D:=[ZI (Sm.kd (Qif a b)),ZI (Sm.at_ (Qif a b)),D.str (Sm.nm (Qif a b)),ZI (Sm.sl (Qif a b)),ZI (Nd.kd (HM a b)),ZI (Nd.at_ (HM a b)),ZI (Nd.cl (HM a b)),D.str (Nd.tx (HM a b)),ZI (Nd.pr (HM a b)),ZI (Nd.op (HM a b)),ZI (Arr.k (Qnn a b)),SI (QLQ a b),SI (QLR a b),D.sl N4 (LN (QEH a b)) (fun (i:Nat)=>Arr.row (List.getD (QEH a b) i Qj4)) Mode.any,D.sl (15:Nat) (LN (QEI a b)) (fun (i:Nat)=>Nd.row (List.getD (QEI a b) i Qi6)) Mode.any,D.sl (34:Nat) (LN (QEJ a b)) (fun (i:Nat)=>Sm.row (List.getD (QEJ a b) i Qi7)) Mode.any,ZI (Nd.de (HM a b)),ZI (Nd.sl (HM a b)),ZI (Nd.ss (HM a b)),ZI (Nd.kd (HN a b)),ZI (Nd.at_ (HN a b)),ZI (Nd.cl (HN a b)),D.str (Nd.tx (HN a b)),ZI (Nd.pr (HN a b)),ZI (Nd.op (HN a b)),ZI (Arr.k (Qno a b)),SI (QLS a b),SI (QLT a b),D.sl N4 (LN (QEK a b)) (fun (i:Nat)=>Arr.row (List.getD (QEK a b) i Qj4)) Mode.any,D.sl (15:Nat) (LN (QEL a b)) (fun (i:Nat)=>Nd.row (List.getD (QEL a b) i Qi6)) Mode.any,D.sl (34:Nat) (LN (QEM a b)) (fun (i:Nat)=>Sm.row (List.getD (QEM a b) i Qi7)) Mode.any,ZI (Nd.de (HN a b)),ZI (Nd.sl (HN a b)),ZI (Nd.ss (HN a b))]
def QEO(a:Nat)(b:List Sm):Prop:=(SM a∧((SM (LN b)∧(∀(i:Nat),i<LN b→SM (QEN b i))∧True)∧True)∧True)∧True
def QrH(a:List Sm)(b:Nat):Sm:=List.getD a (Int.toNat (↑b:Int)) Qi7
def HO(a:List Sm)(b:Nat):Nd:=Sm.nd (QrH a b)
def Qnp(a:List Sm)(b:Nat):Arr:=Nd.va (HO a b)
def QLU(a:List Sm)(b:Nat):List Int:=Arr.sh (Qnp a b)
def QLV(a:List Sm)(b:Nat):List Int:=Arr.nu (Qnp a b)
def QEP(a:List Sm)(b:Nat):List Arr:=Arr.it (Qnp a b)
def QEQ(a:List Sm)(b:Nat):List Nd:=Nd.ki (HO a b)
def QER(a:List Sm)(b:Nat):List Sm:=Nd.bo (HO a b)
def Qnq:List D:=[ZI (60:Int)]
def QES(a:Nd):Bool:=decide ((60:Int)<depM (dpN a) (60:Int))
def QET(a:List Sm):Prop:=True∧∃(_y:Unit),True∧(8:Int)=Qj3 a∧True∧True
def HP(a:List Sm)(b:Nat):Nd:=Sm.te (QrH a b)
def Qnr(a:List Sm)(b:Nat):Arr:=Nd.va (HP a b)
def QLW(a:List Sm)(b:Nat):List Int:=Arr.sh (Qnr a b)
def QLX(a:List Sm)(b:Nat):List Int:=Arr.nu (Qnr a b)
def QEU(a:List Sm)(b:Nat):List Arr:=Arr.it (Qnr a b)
def QEV(a:List Sm)(b:Nat):List Nd:=Nd.ki (HP a b)
def QEW(a:List Sm)(b:Nat):List Sm:=Nd.bo (HP a b)
def QEX(a:List Sm):D:=D.sl (34:Nat) (LN a) (fun (i:Nat)=>QEN a i) Mode.any
def QrI(a:List Sm):List D:=[QEX a]
def QLY(a:List Sm):D:=D.agg (QrI a)
def QEY(a:List Sm)(b c:Nat):Prop:=(SM (QLY a)∧SM (D.ref N0 b N0)∧True)∧∃(y:Nat),QrG y a∧LN a-y<LN a-c∧(IntKind.wrap IntKind.i64 ((↑c:Int)+Z1)=(↑y:Int)∧True)∧QEO b a
def QEZ(a:List Sm):List D:=[QEX a,ZI (16384:Int)]
def QE0(a:List Sm):Prop:=wkL (QrI a) (QrI a)
def QE1(a:List Sm):Prop:=True∧∃(_y:Unit),True∧(11:Int)=Qj3 a∧True∧True
theorem rpr_ok(l:List Sm)(hl:l.length≤maxB)(ho:∀s∈l,s.ok)(hs:∀s∈l,s.sm):CD 16 [.agg [gsl 34 Sm.row1 l]] (.int .i64 (rightP l)):=by
 refine con_of (A:=sC _ _) (x:=()) (E:=Erpr l) (eOk (conRpr_ok hl ho hs) rfl) Tryz.func16 rfl (by kernel_rfl) rfl (by simp[sC,Erpr,EC,E0]) ?_
 refine vc_eq (T :=
  ∀(x:Nat),True→SM x∧ifB (decide ((1000:Int)<(LI l))) (RT ((2:Int)=Qj3 l)) ((∃(x_1:Nat),QrG x_1 l∧(Z0=(↑x_1:Int)∧True)∧QEO x l)∧∀(x_1:Nat),QrG x_1 l→SM x∧ifB (decide ((↑x_1:Int)<(LI l))) (SM x∧side (Z0≤(↑x_1:Int)∧(↑x_1:Int)<(LI l)) (∃(x_2:Nd),(isN x_2 (D.agg [ZI (Nd.kd (HO l x_1)),ZI (Nd.at_ (HO l x_1)),ZI (Nd.cl (HO l x_1)),D.str (Nd.tx (HO l x_1)),ZI (Nd.pr (HO l x_1)),ZI (Nd.op (HO l x_1)),ZI (Arr.k (Qnp l x_1)),SI (QLU l x_1),SI (QLV l x_1),D.sl N4 (LN (QEP l x_1)) (fun (i:Nat)=>Arr.row (List.getD (QEP l x_1) i Qj4)) Mode.any,D.sl (15:Nat) (LN (QEQ l x_1)) (fun (i:Nat)=>Nd.row (List.getD (QEQ l x_1) i Qi6)) Mode.any,D.sl (34:Nat) (LN (QER l x_1)) (fun (i:Nat)=>Sm.row (List.getD (QER l x_1) i Qi7)) Mode.any,ZI (Nd.de (HO l x_1)),ZI (Nd.sl (HO l x_1)),ZI (Nd.ss (HO l x_1))]::Qnq) Qnq∧Nd.sm x_2)∧∀(y:Unit),True→ifB (QES x_2) (QET l) (SM x∧side (Z0≤(↑x_1:Int)∧(↑x_1:Int)<(LI l)) (ifB (Sm.kd (QrH l x_1)==(3:Int)) (SM x∧side (Z0≤(↑x_1:Int)∧(↑x_1:Int)<(LI l)) (∃(x_3:Nd),(isN x_3 (D.agg [ZI (Nd.kd (HP l x_1)),ZI (Nd.at_ (HP l x_1)),ZI (Nd.cl (HP l x_1)),D.str (Nd.tx (HP l x_1)),ZI (Nd.pr (HP l x_1)),ZI (Nd.op (HP l x_1)),ZI (Arr.k (Qnr l x_1)),SI (QLW l x_1),SI (QLX l x_1),D.sl N4 (LN (QEU l x_1)) (fun (i:Nat)=>Arr.row (List.getD (QEU l x_1) i Qj4)) Mode.any,D.sl (15:Nat) (LN (QEV l x_1)) (fun (i:Nat)=>Nd.row (List.getD (QEV l x_1) i Qi6)) Mode.any,D.sl (34:Nat) (LN (QEW l x_1)) (fun (i:Nat)=>Sm.row (List.getD (QEW l x_1) i Qi7)) Mode.any,ZI (Nd.de (HP l x_1)),ZI (Nd.sl (HP l x_1)),ZI (Nd.ss (HP l x_1))]::Qnq) Qnq∧Nd.sm x_3)∧∀(y:Unit),True→ifB (QES x_3) (QET l) (QEY l x x_1))) (QEY l x x_1))))) (SM x∧∃(x_2:Unit),wkL (QEZ l) (QEZ l)∧∀(y:Unit),True→ifB (decide ((16384:Int)<cntM (szB l) (16384:Int))) (RT ((21:Int)=Qj3 l)) (SM x∧∃(x_3:Unit),QE0 l∧∀(y:Unit),True→ifB (!bodyV true l) (QE1 l) (SM x∧∃(x:Unit),QE0 l∧∀(y:Unit),True→ifB (!rOut l) (QE1 l) (RT (Z0=Qj3 l))))))) (by kernel_rfl) ?_
 delta DA GI LI LN N0 N1 N4 SI SM Z0 Z1 ZI Qj3 Qj4 Qi6 Qi7 Qif QrG HM Qnn QLQ QLR QEH QEI QEJ HN Qno QLS QLT QEK QEL QEM QEN QEO QrH HO Qnp QLU QLV QEP QEQ QER Qnq QES QET HP Qnr QLW QLX QEU QEV QEW QEX QrI QLY QEY QEZ QE0 QE1 RT
 try simp only[← dm]
 try simp only[← dn]
 simp only[ne_eq,implies_true,Int.toNat_natCast,ifB_iff,side_iff,decide_eq_true_eq,decide_eq_false_iff_not,true_and,and_true,beq_iff_eq,beq_eq_false_iff_ne,Bool.not_eq_true',Bool.not_eq_false',exists_const,forall_const]
 unfold maxB at hl
 simp only[dep_60,cnt_16384]
 have hr:rightP l=if 1000<l.length then 2 else if 60<dpB l then 8 else if 16384<szB l then 21 else if (bodyV true l&&rOut l)=true then 0 else 11:=by rw[prog_right];rfl
 have da:=dpB_any l
 rw[hr]
 refine⟨fun c=>by rw[if_pos (by omega)],fun c=>?_⟩
 rw[if_neg (by omega)]
 refine⟨⟨0,⟨Nat.zero_le _,fun j hj=>absurd hj (by omega)⟩,rfl⟩,fun i ⟨i1,hi⟩=>⟨fun hlt=>?_,fun hge=>?_⟩⟩
 ·have hi1:i<l.length:=by omega
  obtain ⟨q1,q2⟩:=sm_sm2 (hs _ (sm_getD hi1))
  have hd:=dpM_eq (l.getD i default)
  have w:IntKind.i64.wrap ((i:Int)+1)=((i+1:Nat):Int):=by rw[wrap_i64' (by omega) (by omega)];rfl
  have yes:60<dpM (l.getD i default)→8=(if 60<dpB l then (8:Int) else if 16384<szB l then 21 else if (bodyV true l&&rOut l)=true then 0 else 11):=fun h2=>by
   have:l.any dpS=true:=any_yes hi1 (decide_eq_true h2)
   rw[da,decide_eq_true_eq] at this
   rw[if_pos this]
  have go:¬60<dpM (l.getD i default)→∃y,(y≤l.length∧∀(j:Nat),j<y→dpS (l.getD j default)=false)∧l.length-y<l.length-i∧IntKind.i64.wrap ((i:Int)+1)=(y:Int):=fun h2 =>
   ⟨i+1,⟨hi1,fun j hj=>by
    by_cases e':j=i
    ·rw[e'];exact decide_eq_false h2
    ·exact hi j (by omega)⟩,by omega,w⟩
  refine⟨⟨by omega,hlt⟩,(l.getD i default).nd,⟨nd_self _ _,q2⟩,fun b=>yes ?_,fun b=>⟨⟨by omega,hlt⟩,fun k3=>⟨⟨by omega,hlt⟩,(l.getD i default).te,⟨nd_self _ _,q1⟩,fun b2=>yes ?_,fun b2=>go ?_⟩,fun k3=>go ?_⟩⟩
  ·rw[hd];split<;>omega
  ·rw[hd,if_pos k3];omega
  ·rw[hd,if_pos k3];omega
  ·rw[hd,if_neg k3];exact b
 ·have a:l.any dpS=false:=any_no fun j hj=>hi j (by omega)
  rw[da,decide_eq_false_iff_not] at a
  rw[if_neg a]
  refine⟨wkL_refl _,fun b=>by rw[if_pos b],fun b=>?_⟩
  rw[if_neg b]
  refine⟨wkL_refl _,fun b1=>?_,fun b1=>⟨wkL_refl _,fun b2=>?_,fun b2=>?_⟩⟩
  ·rw[b1];rfl
  ·rw[b1,b2];rfl
  ·rw[b1,b2];rfl
noncomputable def conLg(l:List Sm):Con:=fun k ds S=>match k with
 |15=>some (pA ds S (.int .i64 (rightP l)) (wkL ds [.agg [gsl 34 Sm.row1 l]]))
 |16=>some (pA ds S (.int .i64 (rightP l)) (wkL ds [.agg [gsl 34 Sm.row1 l]]))
 |17=>some (pA ds S (.bool true) (wkL ds [.agg [gsl 34 Sm.row1 l],.agg [gsl 34 Sm.row1 l]]))
 |14=>some (pA ds S (.bool true) (ds=[]))
 |_=>none
theorem conLg_ok{l:List Sm}(hl:okS l):ConOk Tryz.prog (conLg l):=by
 intro k ds S A hh
 unfold conLg at hh
 split at hh
 ·injection hh with hh;subst hh
  exact pA_ok fun e=>CD.at_ (CD.wk (pr_ok l hl.1 hl.2.1 hl.2.2) e) _
 ·injection hh with hh;subst hh
  exact pA_ok fun e=>CD.at_ (CD.wk (rpr_ok l hl.1 hl.2.1 hl.2.2) e) _
 ·injection hh with hh;subst hh
  refine pA_ok fun e=>CD.at_ (CD.wk ?_ e) _
  have:=sp_ok l l hl hl
  rw[sameT_iff.2 rfl] at this
  exact this
 ·injection hh with hh;subst hh
  exact pA_ok fun e=>by rw[e];exact CD.at_ kw_ok _
 ·cases hh
noncomputable def Elg(l:List Sm):Senv:={ EC (conLg l) 16 3 [] (fun id=>match id with | 1=>([0,2,1,3,4,5,6,7,8,9,10,11,12,13],[1,3,8,11]) | _=>([],[])) with mg:=fun _=>2 }
def QrJ:Arr:=DA
def Qns:Nd:=Nd.mk Z0 Z0 Z0 [] Z0 Z0 QrJ [] [] Z0 Z0 Z0
def QrK:Sm:=Sm.mk Z0 Z0 [] Z0 Qns Qns
def Qi8(a:List Sm)(b:Nat):Sm:=List.getD a b QrK
def HQ(a:List Sm)(b:Nat):Nd:=Sm.te (Qi8 a b)
def Qnt(a:List Sm)(b:Nat):Arr:=Nd.va (HQ a b)
def QLZ(a:List Sm)(b:Nat):List Int:=Arr.sh (Qnt a b)
def QL0(a:List Sm)(b:Nat):List Int:=Arr.nu (Qnt a b)
def QE2(a:List Sm)(b:Nat):List Arr:=Arr.it (Qnt a b)
def QE3(a:List Sm)(b:Nat):List Nd:=Nd.ki (HQ a b)
def QE4(a:List Sm)(b:Nat):List Sm:=Nd.bo (HQ a b)
def HR(a:List Sm)(b:Nat):Nd:=Sm.nd (Qi8 a b)
def Qnu(a:List Sm)(b:Nat):Arr:=Nd.va (HR a b)
def QL1(a:List Sm)(b:Nat):List Int:=Arr.sh (Qnu a b)
def QL2(a:List Sm)(b:Nat):List Int:=Arr.nu (Qnu a b)
def QE5(a:List Sm)(b:Nat):List Arr:=Arr.it (Qnu a b)
def QE6(a:List Sm)(b:Nat):List Nd:=Nd.ki (HR a b)
def QE7(a:List Sm)(b:Nat):List Sm:=Nd.bo (HR a b)
def QrL(a:List Sm):D:=D.agg [D.sl (34:Nat) (LN a) (fun (i:Nat)=>[ZI (Sm.kd (Qi8 a i)),ZI (Sm.at_ (Qi8 a i)),D.str (Sm.nm (Qi8 a i)),ZI (Sm.sl (Qi8 a i)),ZI (Nd.kd (HQ a i)),ZI (Nd.at_ (HQ a i)),ZI (Nd.cl (HQ a i)),D.str (Nd.tx (HQ a i)),ZI (Nd.pr (HQ a i)),ZI (Nd.op (HQ a i)),ZI (Arr.k (Qnt a i)),SI (QLZ a i),SI (QL0 a i),D.sl N4 (LN (QE2 a i)) (fun (i_1:Nat)=>Arr.row (List.getD (QE2 a i) i_1 QrJ)) Mode.any,D.sl (15:Nat) (LN (QE3 a i)) (fun (i_1:Nat)=>Nd.row (List.getD (QE3 a i) i_1 Qns)) Mode.any,D.sl (34:Nat) (LN (QE4 a i)) (fun (i_1:Nat)=>Sm.row (List.getD (QE4 a i) i_1 QrK)) Mode.any,ZI (Nd.de (HQ a i)),ZI (Nd.sl (HQ a i)),ZI (Nd.ss (HQ a i)),ZI (Nd.kd (HR a i)),ZI (Nd.at_ (HR a i)),ZI (Nd.cl (HR a i)),D.str (Nd.tx (HR a i)),ZI (Nd.pr (HR a i)),ZI (Nd.op (HR a i)),ZI (Arr.k (Qnu a i)),SI (QL1 a i),SI (QL2 a i),D.sl N4 (LN (QE5 a i)) (fun (i_1:Nat)=>Arr.row (List.getD (QE5 a i) i_1 QrJ)) Mode.any,D.sl (15:Nat) (LN (QE6 a i)) (fun (i_1:Nat)=>Nd.row (List.getD (QE6 a i) i_1 Qns)) Mode.any,D.sl (34:Nat) (LN (QE7 a i)) (fun (i_1:Nat)=>Sm.row (List.getD (QE7 a i) i_1 QrK)) Mode.any,ZI (Nd.de (HR a i)),ZI (Nd.sl (HR a i)),ZI (Nd.ss (HR a i))]) Mode.any]
def QrM(a:List Sm):List D:=[QrL a]
def QE8(a:List Sm):Prop:=wkL (QrM a) (QrM a)
def QE9(a:List Sm):List D:=QrL a::QrM a
theorem law_programs(l:List Sm)(hl:okS l):CD 4 [.agg [gsl 34 Sm.row1 l]] (.bool true):=by
 refine con_of (A:=sC _ _) (x:=()) (E:=Elg l) (eOk (conLg_ok hl) rfl) Tryz.func4 rfl (by kernel_rfl) rfl (by simp[sC,Elg,EC,E0]) ?_
 refine vc_eq (T :=
  ∀(x:Nat),True→SM x∧SM x∧∃(x_1:Unit),QE8 l∧∀(y:Unit),True→(SM x∧SM (QrL l))∧∃(x_2:Unit),QE8 l∧∀(y:Unit),True→ifB (rightP l==rightP l) (SM x∧SM x∧∃(x:Unit),wkL (QE9 l) (QE9 l)∧∀(y:Unit),True→∃(x:Unit),eqOf (List D) [] []∧∀(y:Unit),True→RT (SM true)) (RT (false=true))) (by kernel_rfl) ?_
 delta DA GI LN N1 N4 SI SM Z0 ZI QrJ Qns QE4 HR Qnu QL1 QL2 QE5 QE6 QE7 QrL QrM QrK QE8 QE9 Qi8 HQ Qnt QLZ QL0 QE2 QE3 RT
 try simp only[← dm]
 try simp only[← dn]
 simp only[eq_self,ne_eq,implies_true,weakL_refl,Int.toNat_natCast,ifB_iff,side_iff,decide_eq_true_eq,decide_eq_false_iff_not,true_and,and_true,beq_iff_eq,bne_iff_ne,bne_eq_false_iff_eq,beq_eq_false_iff_ne,Bool.not_eq_true',Bool.not_eq_false',exists_const,forall_const,Prod.exists]
 exact⟨wkL_refl _,wkL_refl _,wkL_refl _,fun h=>absurd trivial h⟩
theorem programs_row(l:List Sm)(hl:okS l):ACalls Tryz.prog 4 [.agg [lsl 34 (smRows l)]] ⟨[],[]⟩ (SpecR (sC [.agg [lsl 34 (smRows l)]] (.bool true)) ()) :=
 CD.isP (law_programs l hl) (wkL_refl _)
open Go Go.Ab Go.RowKit
noncomputable def wit5:Array Value:=#[.agg #[.slice none 0 0]]
theorem laid_met5(os:Os):laidMet Tryz.prog laidL ((laidWorld os).forCall (fun _ _=>0) ⟨#[],wit5,[]⟩).memory :=
 laidMet_of_run' 8 (by kernel_rfl) (by kernel_rfl)
theorem reads5(os:Os){H:Type}(enc:TypeId×Value→H):∃x,DataW.whole enc Tryz.prog ((laidWorld os).forCall (fun _ _=>0) ⟨#[],wit5,[]⟩).memory [42] [] false (wit5).toList 8=some x∧Rows.uptoSmall H (x.1++x.2.1)=true :=
 some_with (by kernel_rfl)
theorem contract5{H : Type}{enc : TypeId×Value → H}
  (W:World) (base:Nat) (args:Array Value) (ds gs:List (DataW H)) (before:List MemPlace)
  (hval:∀(j:Nat) t v,Tryz.f4.params[j]? =some t→args[j]? =some v→Value.okWide Tryz.prog W .any base t v)
  (hW:DataW.Whole enc Tryz.prog Tryz.f4.params.toList Rows.syntaxProgramsSpec.vars false W args.toList ds gs before)
  (hsz:(DataW.weightsEach Tryz.prog (Tryz.f4.params.toList++Rows.syntaxProgramsSpec.plain.varTypes Tryz.prog) (ds++gs)).all (·≤maxB)=true) (hL:laidMetH Tryz.prog laidL W) :
  Calls Tryz.prog 4 args W fun e W'=>∃v,e=.returned v∧Rows.syntaxProgramsSpec.post enc Tryz.prog Tryz.f4 false true false false W args v W':=by
 refine law_contract (rs:=[(42,RPg)]) laid (by rw[Tryz.params4];kernel_rfl) rfl (fun ds hd=>?_) (rt:=4) rfl Tryz.underlying4 (by rw[Tryz.params4];rfl) ?_ W (g0_laid hL) base args ds gs before hval hW hsz ?_
 ·rw[Tryz.params4] at hd
  match ds,hd with
  | [_],_=>exact⟨rfl,rfl,rfl⟩
 ·intro r hr
  simp only[List.mem_cons,List.not_mem_nil,or_false,or_self] at hr
  subst hr
  exact read_pg
 ·intro Ds h
  obtain ⟨dx,_,rfl,hx,h⟩:=h.agg (by kernel_rfl)
  obtain rfl:=h.nil
  obtain ⟨x,hokx,rfl⟩:=hx
  exact (programs_row x hokx).mono fun r S' ⟨_,_,hr,_⟩=>hr
theorem lifted5(os : Os)(started : os.Started)(H : Type)(enc : TypeId×Value → H)(F : Stop.Interp) :
  ReturnsInHanded {} Tryz.checked os 4 .any ((Rows.OpenSpec.upto Rows.syntaxProgramsSpec).preRow enc Tryz.prog Tryz.f4 Rows.syntaxProgramsUptoRow.domain false Rows.syntaxProgramsUptoRow.laid) (((Rows.OpenSpec.upto Rows.syntaxProgramsSpec).at F).post enc Tryz.prog Tryz.f4 false true false false):=by
 obtain ⟨x,hx,hxk⟩:=reads5 os enc
 refine returnsInHanded_of_row (C:=Tryz.checked) (s:=Rows.OpenSpec.upto Rows.syntaxProgramsSpec) own started (by kernel_rfl) Tryz.func4
  (witness_row_at (enc:=enc) (C:=Tryz.checked) false (laidWorld os) wit5 rfl (by kernel_rfl) (by kernel_rfl) (by kernel_rfl)
   (OpenSpec.preRow_of_cond 8 hx rfl (fun k hk=>by cases hk;exact hxk) (by kernel_rfl) (laid_met5 os))) ?_
 intro W base args ds gs before hval hW _ hk _ hL _ _
 refine contract5 W base args ds gs before hval hW ?_ hL
 have e:Tryz.f4.params.toList++Rows.syntaxProgramsSpec.plain.varTypes Tryz.prog=[42]:=by rw[Tryz.params4];kernel_rfl
 rw[e]
 exact upto_sz tysOk (by decide +kernel) (hk _ rfl)
theorem said5:Rows.SyntaxProgramsUptoSaid :=
 OpenClaim.holds_of_cond 4 Tryz.f4 rfl rfl rfl rfl rfl rfl rfl ⟨rfl,rfl,rfl,rfl,rfl⟩ rfl rfl rfl rfl rfl (by kernel_rfl) Tryz.func4 (by kernel_rfl)
  (of_decide_eq_true (by kernel_rfl)) (by unfold Func.isWrapper;first | (rw[if_pos (by decide +kernel)];kernel_rfl) | (rw[if_neg (by decide +kernel)];exact⟨rfl,rfl⟩))
  (fun os started H enc _ F=>by rw[OpenClaim.pre_eq_preRow];exact lifted5 os started H enc F)
theorem plain5(f : FuncId)(fn : Func)(hf : Tryz.pinned.checked.prog.funcNamed "arraylang/arraylanglaw10.SyntaxPrograms" = some f)(hfn : Tryz.pinned.checked.prog.funcs[f]? = some fn) :
  false=Tryz.pinned.checked.prog.looks []∧∀(j:Nat) t,fn.params[j]? =some t→Tryz.pinned.checked.prog.wantsStandIn t=false:=by
 obtain rfl : f = 4 := Option.some.inj ((show Tryz.prog.funcNamed "arraylang/arraylanglaw10.SyntaxPrograms" = some 4 by kernel_rfl).symm.trans hf) |>.symm
 obtain rfl:fn=Tryz.f4:=(Option.some.inj (Tryz.func4.symm.trans hfn)).symm
 refine⟨by kernel_rfl,fun j t ht=>?_⟩
 rw[Tryz.params4] at ht
 have hm:t∈[42]:=by simpa using Array.mem_of_getElem? ht
 simp only[List.mem_cons,List.not_mem_nil,or_false,or_self] at hm
 subst hm
 exact (show Tryz.prog.wantsStandIn 42=false by kernel_rfl)
theorem provedSyntaxPrograms:Rows.SyntaxProgramsUptoCardSaid :=
 Claim7.holds_tied_plain_at .later [] _ _ _ _ said5 (fun _ h=>by cases h) (by kernel_rfl) (fun _ h=>by cases h) syntaxProgramsUpto_row_tie rfl ⟨rfl,rfl⟩ (by kernel_rfl) rfl plain5 (by kernel_rfl)
end
end Go.Proofs.YtjnifeedbgefpaaGreatDoor
