/- resolve: Program, Right and Same answer as the reference, and a resolved program resolves to itself -/
import Derived.Test.YtfbfnhbafjmnaaaGreatS4
namespace Go.Proofs.YtfbfnhbafjmnaaaGreat
open Go Go.Ab
set_option maxRecDepth 100000
noncomputable section
noncomputable def Bjr(l m:List Nd):Con:=fun k ds S=>match k with
 |63=>some (pE (β:=Nd×Nd) ds S (fun x=>.bool (Bk (stN x.1) (stN x.2))) (fun x=>wkL ds [.agg x.1.row1,.agg x.2.row1]/\x.1∈l/\x.2∈m))
 |_=>none
noncomputable def EEen(l m:List Nd):Senv:={ EC (Bjr l m) 32 3 [6,7,8,9,14,15,16,17,18,30] (fun _=>([],[])) with
 ann:=fun q _ S=>match q with
  |0=>some { slots:=[17],keep:=[0,1,2,15,16],α:=Nat,st:=fun i=>([.int .i64 i],S),inv:=fun i=>i<=l.length/\∀j,j<i->stN (l.getD j default)=stN (m.getD j default),mu:=fun i=>l.length-i }
  |_=>none }
def QDJ(a b:List Nd):Prop:=RT (false=Bk (List.map stN a) (List.map stN b))
def QqD:Arr:=DA
def Qcy:Nd:=Nd.mk Z0 Z0 Z0 [] Z0 Z0 QqD [] [] Z0 Z0 Z0
def Vj(a:List Nd)(b:Nat):Nd:=List.getD a b Qcy
def QDK(a:List Nd)(b:Nat):Nd:=stN (Vj a b)
def Qtw(a:Nat)(b c:List Nd):Prop:=a<=LN b/\∀(j:Nat),j<a->QDK b j=QDK c j
def X6(a:List Nd)(b:Nat):Nd:=List.getD a (Int.toNat (↑b:Int)) Qcy
def QqE(a:List Nd)(b:Nat):Arr:=Nd.va (X6 a b)
def QHv(a:List Nd)(b:Nat):List Int:=Arr.sh (QqE a b)
def QHw(a:List Nd)(b:Nat):List Int:=Arr.nu (QqE a b)
def QDL(a:List Nd)(b:Nat):List Arr:=Arr.it (QqE a b)
def QDM(a:List Nd)(b:Nat):List Nd:=Nd.ki (X6 a b)
def QDN(a:List Nd)(b:Nat):List Sm:=Nd.bo (X6 a b)
def Qtx:Sm:=Sm.mk Z0 Z0 [] Z0 Qcy Qcy
def QDO(a:List Nd)(b:Nat):D:=D.agg [ZI (Nd.kd (X6 a b)),ZI (Nd.at_ (X6 a b)),ZI (Nd.cl (X6 a b)),D.str (Nd.tx (X6 a b)),ZI (Nd.pr (X6 a b)),ZI (Nd.op (X6 a b)),ZI (Arr.k (QqE a b)),SI (QHv a b),SI (QHw a b),D.sl N4 (LN (QDL a b)) (fun i=>Arr.row (List.getD (QDL a b) i QqD)) Mode.any,D.sl 15 (LN (QDM a b)) (fun i=>Nd.row (List.getD (QDM a b) i Qcy)) Mode.any,D.sl 34 (LN (QDN a b)) (fun i=>Sm.row (List.getD (QDN a b) i Qtx)) Mode.any,ZI (Nd.de (X6 a b)),ZI (Nd.sl (X6 a b)),ZI (Nd.ss (X6 a b))]
def QqF(a:Nd):Arr:=Nd.va a
def QHx(a:Nd):List Int:=Arr.sh (QqF a)
def QHy(a:Nd):List Int:=Arr.nu (QqF a)
def QDP(a:Nd):List Arr:=Arr.it (QqF a)
def QDQ(a:Nd):D:=D.agg [ZI (Nd.kd a),ZI (Nd.at_ a),ZI (Nd.cl a),D.str (Nd.tx a),ZI (Nd.pr a),ZI (Nd.op a),ZI (Arr.k (QqF a)),SI (QHx a),SI (QHy a),D.sl N4 (LN (QDP a)) (fun i=>Arr.row (List.getD (QDP a) i QqD)) Mode.any,D.sl 15 (LN (Nd.ki a)) (fun i=>Nd.row (List.getD (Nd.ki a) i Qcy)) Mode.any,D.sl 34 (LN (Nd.bo a)) (fun i=>Sm.row (List.getD (Nd.bo a) i Qtx)) Mode.any,ZI (Nd.de a),ZI (Nd.sl a),ZI (Nd.ss a)]
def QqG(a:List Nd)(b:Nat):Arr:=Nd.va (Vj a b)
def QHz(a:List Nd)(b:Nat):List Int:=Arr.sh (QqG a b)
def QHA(a:List Nd)(b:Nat):List Int:=Arr.nu (QqG a b)
def QDR(a:List Nd)(b:Nat):List Arr:=Arr.it (QqG a b)
def QDS(a:List Nd)(b:Nat):List Nd:=Nd.ki (Vj a b)
def QDT(a:List Nd)(b:Nat):List Sm:=Nd.bo (Vj a b)
def QHB(a:List Nd):D:=D.sl 15 (LN a) (fun i=>[ZI (Nd.kd (Vj a i)),ZI (Nd.at_ (Vj a i)),ZI (Nd.cl (Vj a i)),D.str (Nd.tx (Vj a i)),ZI (Nd.pr (Vj a i)),ZI (Nd.op (Vj a i)),ZI (Arr.k (QqG a i)),SI (QHz a i),SI (QHA a i),D.sl N4 (LN (QDR a i)) (fun i_1=>Arr.row (List.getD (QDR a i) i_1 QqD)) Mode.any,D.sl 15 (LN (QDS a i)) (fun i_1=>Nd.row (List.getD (QDS a i) i_1 Qcy)) Mode.any,D.sl 34 (LN (QDT a i)) (fun i_1=>Sm.row (List.getD (QDT a i) i_1 Qtx)) Mode.any,ZI (Nd.de (Vj a i)),ZI (Nd.sl (Vj a i)),ZI (Nd.ss (Vj a i))]) Mode.any
def Qty(a:List Nd):Prop:=SM (QHB a)
theorem Een_ok(l m : List Nd)(hl : l.length<=maxLen)(hm : m.length<=maxLen)(h : ∀x∈l, ∀y∈m, CD 63 [.agg x.row1, .agg y.row1] (.bool (Bk (stN x) (stN y)))) :
  CD 83 [gsl 15 Nd.row1 l,gsl 15 Nd.row1 m,.fn (.func 63) [] []] (.bool (Bk (l.map stN) (m.map stN))):=by
 refine Bh (A:=sC _ _) (x:=()) (E:=EEen l m) (eOk ?_ rfl) Tryz.func83 rfl (by kernel_rfl) rfl (by simp[sC,EEen,EC,E0]) ?_
 ·intro k ds S A hh
  unfold Bjr at hh
  split at hh
  ·injection hh with hh;subst hh
   exact B7 fun x ⟨e,h1,h2⟩=>CD.at_ (CD.wk (h _ h1 _ h2) e) _
  ·cases hh
 refine Bl (T :=
  ifB ((LI l) != (LI m)) (QDJ l m) ((∃(x:Nat),Qtw x l m/\(Z0=(↑x:Int)/\True)/\True/\True)/\∀(x:Nat),Qtw x l m->ifB (decide ((↑x:Int)<(LI l))) (Bf (Z0<=(↑x:Int)/\(↑x:Int)<(LI l)) (∀(x_1:Nat),True->SM x_1/\Bf (Z0<=(↑x:Int)/\(↑x:Int)<(LI m)) (∀(x_2:Nat),x_1≠x_2/\True->SM x_2/\SM x_1/\SM x_2/\∃(x_3:Nd×Nd),(wkL [QDO l x,QDO m x] [QDQ x_3.1,QDQ x_3.2]/\x_3.1∈l/\x_3.2∈m)/\∀(y:Unit),True->ifB (!Bk (stN x_3.1) (stN x_3.2)) (QDJ l m) ((Qty l/\Qty m/\SM (D.fn (Fn.func (63:Nat)) [] [])/\Qty l/\SM (ZI (LI l))/\True)/\∃(y:Nat),Qtw y l m/\LN l-y<LN l-x/\(IntKind.wrap IntKind.i64 ((↑x:Int)+Z1)=(↑y:Int)/\True)/\True/\True)))) (RT (true=Bk (List.map stN l) (List.map stN m))))) (by kernel_rfl) ?_
 delta DA GI LI LN N1 N4 SI SM Z0 Z1 ZI QDJ QqD QDL QDM QDN Qtx QDO QqF QHx QHy QDP QDQ Qcy QqG QHz QHA QDR QDS QDT QHB Qty Vj QDK Qtw X6 QqE QHv QHw RT
 try simp only[<- dm]
 try simp only[<- dn]
 simp only[eq_self,ne_eq,implies_true,Bo,Int.toNat_natCast,Bg,Be,decide_eq_true_eq,decide_eq_false_iff_not,true_and,and_true,beq_iff_eq,bne_iff_ne,bne_eq_false_iff_eq,beq_eq_false_iff_ne,Bool.not_eq_true',Bool.not_eq_false',exists_const,forall_const,Prod.exists]
 simp only[maxLen] at hl hm
 have gm:∀ {i:Nat},i<l.length->i<m.length->l.getD i default∈l/\m.getD i default∈m:=fun h1 h2=>⟨by rw[List.getD_eq_getElem?_getD,List.getElem?_eq_getElem h1];exact List.getElem_mem h1,by rw[List.getD_eq_getElem?_getD,List.getElem?_eq_getElem h2];exact List.getElem_mem h2⟩
 have gmap:∀ {l:List Nd} {i:Nat},i<l.length->(l.map stN).getD i (stN default)=stN (l.getD i default):=fun h=>by simp[List.getD_eq_getElem?_getD,h]
 refine⟨fun h=>Bi fun e=>h (by have:=congrArg List.length e;simp only[List.length_map] at this;omega),fun he=>⟨⟨0,⟨Nat.zero_le _,fun j hj=>absurd hj (by omega)⟩,rfl⟩,fun i ⟨i1,hi⟩=>⟨fun hlt=>⟨⟨by omega,hlt⟩,fun _=>⟨⟨by omega,by omega⟩,fun _ _=>⟨l.getD i default,m.getD i default,⟨Bc _,gm (by omega) (by omega)⟩,fun hn=>Bi fun e=>?_,fun hs=>⟨i+1,⟨by omega,fun j hj=>?_⟩,by omega,Bb (by omega) (by omega)⟩⟩⟩⟩,fun hge=>Ee ?_⟩⟩⟩
 ·have e2:stN (l.getD i default)=stN (m.getD i default):=by
   rw[<- gmap (by omega),<- gmap (by omega),e]
  rw[e2,Bq.2 rfl] at hn;cases hn
 ·by_cases q:j=i
  ·rw[q];exact Bq.1 hs
  ·exact hi j (by omega)
 ·refine CJ (stN default) (by simp;omega) fun j hj=>?_
  have hj:j<l.length:=by simpa using hj
  rw[gmap hj,gmap (by omega)]
  exact hi j (by omega)
noncomputable def BjB(l m:List Sm):Con:=fun k ds S=>match k with
 |37=>some (pE (β:=Sm×Sm) ds S (fun x=>.bool (Bk (stM x.1) (stM x.2))) (fun x=>wkL ds [.agg x.1.row1,.agg x.2.row1]/\x.1∈l/\x.2∈m))
 |_=>none
noncomputable def EEes(l m:List Sm):Senv:={ EC (BjB l m) 32 3 [6,7,8,9,14,15,16,17,18,30] (fun _=>([],[])) with
 ann:=fun q _ S=>match q with
  |0=>some { slots:=[17],keep:=[0,1,2,15,16],α:=Nat,st:=fun i=>([.int .i64 i],S),inv:=fun i=>i<=l.length/\∀j,j<i->stM (l.getD j default)=stM (m.getD j default),mu:=fun i=>l.length-i }
  |_=>none }
def QDU(a b:List Sm):Prop:=RT (false=Bk (List.map stM a) (List.map stM b))
def Qcz:Arr:=DA
def Qcb:Nd:=Nd.mk Z0 Z0 Z0 [] Z0 Z0 Qcz [] [] Z0 Z0 Z0
def Qcc:Sm:=Sm.mk Z0 Z0 [] Z0 Qcb Qcb
def QcA(a:List Sm)(b:Nat):Sm:=List.getD a b Qcc
def QDV(a:List Sm)(b:Nat):Sm:=stM (QcA a b)
def Qtz(a:Nat)(b c:List Sm):Prop:=a<=LN b/\∀(j:Nat),j<a->QDV b j=QDV c j
def QlP(a:List Sm)(b:Nat):Sm:=List.getD a (Int.toNat (↑b:Int)) Qcc
def X7(a:List Sm)(b:Nat):Nd:=Sm.te (QlP a b)
def QqH(a:List Sm)(b:Nat):Arr:=Nd.va (X7 a b)
def QHC(a:List Sm)(b:Nat):List Int:=Arr.sh (QqH a b)
def QHD(a:List Sm)(b:Nat):List Int:=Arr.nu (QqH a b)
def QDW(a:List Sm)(b:Nat):List Arr:=Arr.it (QqH a b)
def QDX(a:List Sm)(b:Nat):List Nd:=Nd.ki (X7 a b)
def QDY(a:List Sm)(b:Nat):List Sm:=Nd.bo (X7 a b)
def X8(a:List Sm)(b:Nat):Nd:=Sm.nd (QlP a b)
def QqI(a:List Sm)(b:Nat):Arr:=Nd.va (X8 a b)
def QHE(a:List Sm)(b:Nat):List Int:=Arr.sh (QqI a b)
def QHF(a:List Sm)(b:Nat):List Int:=Arr.nu (QqI a b)
def QDZ(a:List Sm)(b:Nat):List Arr:=Arr.it (QqI a b)
def QD0(a:List Sm)(b:Nat):List Nd:=Nd.ki (X8 a b)
def QD1(a:List Sm)(b:Nat):List Sm:=Nd.bo (X8 a b)
def QD2(a:List Sm)(b:Nat):D:=D.agg [ZI (Sm.kd (QlP a b)),ZI (Sm.at_ (QlP a b)),D.str (Sm.nm (QlP a b)),ZI (Sm.sl (QlP a b)),ZI (Nd.kd (X7 a b)),ZI (Nd.at_ (X7 a b)),ZI (Nd.cl (X7 a b)),D.str (Nd.tx (X7 a b)),ZI (Nd.pr (X7 a b)),ZI (Nd.op (X7 a b)),ZI (Arr.k (QqH a b)),SI (QHC a b),SI (QHD a b),D.sl N4 (LN (QDW a b)) (fun i=>Arr.row (List.getD (QDW a b) i Qcz)) Mode.any,D.sl 15 (LN (QDX a b)) (fun i=>Nd.row (List.getD (QDX a b) i Qcb)) Mode.any,D.sl 34 (LN (QDY a b)) (fun i=>Sm.row (List.getD (QDY a b) i Qcc)) Mode.any,ZI (Nd.de (X7 a b)),ZI (Nd.sl (X7 a b)),ZI (Nd.ss (X7 a b)),ZI (Nd.kd (X8 a b)),ZI (Nd.at_ (X8 a b)),ZI (Nd.cl (X8 a b)),D.str (Nd.tx (X8 a b)),ZI (Nd.pr (X8 a b)),ZI (Nd.op (X8 a b)),ZI (Arr.k (QqI a b)),SI (QHE a b),SI (QHF a b),D.sl N4 (LN (QDZ a b)) (fun i=>Arr.row (List.getD (QDZ a b) i Qcz)) Mode.any,D.sl 15 (LN (QD0 a b)) (fun i=>Nd.row (List.getD (QD0 a b) i Qcb)) Mode.any,D.sl 34 (LN (QD1 a b)) (fun i=>Sm.row (List.getD (QD1 a b) i Qcc)) Mode.any,ZI (Nd.de (X8 a b)),ZI (Nd.sl (X8 a b)),ZI (Nd.ss (X8 a b))]
def X9(a:Sm):Nd:=Sm.te a
def QqJ(a:Sm):Arr:=Nd.va (X9 a)
def QHG(a:Sm):List Int:=Arr.sh (QqJ a)
def QHH(a:Sm):List Int:=Arr.nu (QqJ a)
def QD3(a:Sm):List Arr:=Arr.it (QqJ a)
def QD4(a:Sm):List Nd:=Nd.ki (X9 a)
def QD5(a:Sm):List Sm:=Nd.bo (X9 a)
def Ya(a:Sm):Nd:=Sm.nd a
def QqK(a:Sm):Arr:=Nd.va (Ya a)
def QHI(a:Sm):List Int:=Arr.sh (QqK a)
def QHJ(a:Sm):List Int:=Arr.nu (QqK a)
def QD6(a:Sm):List Arr:=Arr.it (QqK a)
def QD7(a:Sm):List Nd:=Nd.ki (Ya a)
def QD8(a:Sm):List Sm:=Nd.bo (Ya a)
def QD9(a:Sm):D:=D.agg [ZI (Sm.kd a),ZI (Sm.at_ a),D.str (Sm.nm a),ZI (Sm.sl a),ZI (Nd.kd (X9 a)),ZI (Nd.at_ (X9 a)),ZI (Nd.cl (X9 a)),D.str (Nd.tx (X9 a)),ZI (Nd.pr (X9 a)),ZI (Nd.op (X9 a)),ZI (Arr.k (QqJ a)),SI (QHG a),SI (QHH a),D.sl N4 (LN (QD3 a)) (fun i=>Arr.row (List.getD (QD3 a) i Qcz)) Mode.any,D.sl 15 (LN (QD4 a)) (fun i=>Nd.row (List.getD (QD4 a) i Qcb)) Mode.any,D.sl 34 (LN (QD5 a)) (fun i=>Sm.row (List.getD (QD5 a) i Qcc)) Mode.any,ZI (Nd.de (X9 a)),ZI (Nd.sl (X9 a)),ZI (Nd.ss (X9 a)),ZI (Nd.kd (Ya a)),ZI (Nd.at_ (Ya a)),ZI (Nd.cl (Ya a)),D.str (Nd.tx (Ya a)),ZI (Nd.pr (Ya a)),ZI (Nd.op (Ya a)),ZI (Arr.k (QqK a)),SI (QHI a),SI (QHJ a),D.sl N4 (LN (QD6 a)) (fun i=>Arr.row (List.getD (QD6 a) i Qcz)) Mode.any,D.sl 15 (LN (QD7 a)) (fun i=>Nd.row (List.getD (QD7 a) i Qcb)) Mode.any,D.sl 34 (LN (QD8 a)) (fun i=>Sm.row (List.getD (QD8 a) i Qcc)) Mode.any,ZI (Nd.de (Ya a)),ZI (Nd.sl (Ya a)),ZI (Nd.ss (Ya a))]
def Yb(a:List Sm)(b:Nat):Nd:=Sm.te (QcA a b)
def QqL(a:List Sm)(b:Nat):Arr:=Nd.va (Yb a b)
def QHK(a:List Sm)(b:Nat):List Int:=Arr.sh (QqL a b)
def QHL(a:List Sm)(b:Nat):List Int:=Arr.nu (QqL a b)
def QEa(a:List Sm)(b:Nat):List Arr:=Arr.it (QqL a b)
def QEb(a:List Sm)(b:Nat):List Nd:=Nd.ki (Yb a b)
def QEc(a:List Sm)(b:Nat):List Sm:=Nd.bo (Yb a b)
def Yc(a:List Sm)(b:Nat):Nd:=Sm.nd (QcA a b)
def QqM(a:List Sm)(b:Nat):Arr:=Nd.va (Yc a b)
def QHM(a:List Sm)(b:Nat):List Int:=Arr.sh (QqM a b)
def QHN(a:List Sm)(b:Nat):List Int:=Arr.nu (QqM a b)
def QEd(a:List Sm)(b:Nat):List Arr:=Arr.it (QqM a b)
def QEe(a:List Sm)(b:Nat):List Nd:=Nd.ki (Yc a b)
def QEf(a:List Sm)(b:Nat):List Sm:=Nd.bo (Yc a b)
def QHO(a:List Sm):D:=D.sl 34 (LN a) (fun i=>[ZI (Sm.kd (QcA a i)),ZI (Sm.at_ (QcA a i)),D.str (Sm.nm (QcA a i)),ZI (Sm.sl (QcA a i)),ZI (Nd.kd (Yb a i)),ZI (Nd.at_ (Yb a i)),ZI (Nd.cl (Yb a i)),D.str (Nd.tx (Yb a i)),ZI (Nd.pr (Yb a i)),ZI (Nd.op (Yb a i)),ZI (Arr.k (QqL a i)),SI (QHK a i),SI (QHL a i),D.sl N4 (LN (QEa a i)) (fun i_1=>Arr.row (List.getD (QEa a i) i_1 Qcz)) Mode.any,D.sl 15 (LN (QEb a i)) (fun i_1=>Nd.row (List.getD (QEb a i) i_1 Qcb)) Mode.any,D.sl 34 (LN (QEc a i)) (fun i_1=>Sm.row (List.getD (QEc a i) i_1 Qcc)) Mode.any,ZI (Nd.de (Yb a i)),ZI (Nd.sl (Yb a i)),ZI (Nd.ss (Yb a i)),ZI (Nd.kd (Yc a i)),ZI (Nd.at_ (Yc a i)),ZI (Nd.cl (Yc a i)),D.str (Nd.tx (Yc a i)),ZI (Nd.pr (Yc a i)),ZI (Nd.op (Yc a i)),ZI (Arr.k (QqM a i)),SI (QHM a i),SI (QHN a i),D.sl N4 (LN (QEd a i)) (fun i_1=>Arr.row (List.getD (QEd a i) i_1 Qcz)) Mode.any,D.sl 15 (LN (QEe a i)) (fun i_1=>Nd.row (List.getD (QEe a i) i_1 Qcb)) Mode.any,D.sl 34 (LN (QEf a i)) (fun i_1=>Sm.row (List.getD (QEf a i) i_1 Qcc)) Mode.any,ZI (Nd.de (Yc a i)),ZI (Nd.sl (Yc a i)),ZI (Nd.ss (Yc a i))]) Mode.any
def QtA(a:List Sm):Prop:=SM (QHO a)
theorem Ees_ok(l m : List Sm)(hl : l.length<=maxLen)(hm : m.length<=maxLen)(h : ∀x∈l, ∀y∈m, CD 37 [.agg x.row1, .agg y.row1] (.bool (Bk (stM x) (stM y)))) :
  CD 29 [gsl 34 Sm.row1 l,gsl 34 Sm.row1 m,.fn (.func 37) [] []] (.bool (Bk (l.map stM) (m.map stM))):=by
 refine Bh (A:=sC _ _) (x:=()) (E:=EEes l m) (eOk ?_ rfl) Tryz.func29 rfl (by kernel_rfl) rfl (by simp[sC,EEes,EC,E0]) ?_
 ·intro k ds S A hh
  unfold BjB at hh
  split at hh
  ·injection hh with hh;subst hh
   exact B7 fun x ⟨e,h1,h2⟩=>CD.at_ (CD.wk (h _ h1 _ h2) e) _
  ·cases hh
 refine Bl (T :=
  ifB ((LI l) != (LI m)) (QDU l m) ((∃(x:Nat),Qtz x l m/\(Z0=(↑x:Int)/\True)/\True/\True)/\∀(x:Nat),Qtz x l m->ifB (decide ((↑x:Int)<(LI l))) (Bf (Z0<=(↑x:Int)/\(↑x:Int)<(LI l)) (∀(x_1:Nat),True->SM x_1/\Bf (Z0<=(↑x:Int)/\(↑x:Int)<(LI m)) (∀(x_2:Nat),x_1≠x_2/\True->SM x_2/\SM x_1/\SM x_2/\∃(x_3:Sm×Sm),(wkL [QD2 l x,QD2 m x] [QD9 x_3.1,QD9 x_3.2]/\x_3.1∈l/\x_3.2∈m)/\∀(y:Unit),True->ifB (!Bk (stM x_3.1) (stM x_3.2)) (QDU l m) ((QtA l/\QtA m/\SM (D.fn (Fn.func (37:Nat)) [] [])/\QtA l/\SM (ZI (LI l))/\True)/\∃(y:Nat),Qtz y l m/\LN l-y<LN l-x/\(IntKind.wrap IntKind.i64 ((↑x:Int)+Z1)=(↑y:Int)/\True)/\True/\True)))) (RT (true=Bk (List.map stM l) (List.map stM m))))) (by kernel_rfl) ?_
 delta DA GI LI LN N1 N4 SI SM Z0 Z1 ZI QDU Qcz Qcb Qcc QcA QDV Qtz QlP X7 QqH QHC QHD QDW QDX QDY X8 QqI QHE QHF QDZ QD0 QD1 QD2 X9 QqJ QHG QHH QD3 QD4 QD5 Ya QqK QHI QHJ QD6 QD7 QD8 QD9 Yb QqL QHK QHL QEa QEb QEc Yc QqM QHM QHN QEd QEe QEf QHO QtA RT
 try simp only[<- dm]
 try simp only[<- dn]
 simp only[eq_self,ne_eq,implies_true,Bo,Int.toNat_natCast,Bg,Be,decide_eq_true_eq,decide_eq_false_iff_not,true_and,and_true,beq_iff_eq,bne_iff_ne,bne_eq_false_iff_eq,beq_eq_false_iff_ne,Bool.not_eq_true',Bool.not_eq_false',exists_const,forall_const,Prod.exists]
 simp only[maxLen] at hl hm
 have gm:∀ {i:Nat},i<l.length->i<m.length->l.getD i default∈l/\m.getD i default∈m:=fun h1 h2=>⟨by rw[List.getD_eq_getElem?_getD,List.getElem?_eq_getElem h1];exact List.getElem_mem h1,by rw[List.getD_eq_getElem?_getD,List.getElem?_eq_getElem h2];exact List.getElem_mem h2⟩
 have gmap:∀ {l:List Sm} {i:Nat},i<l.length->(l.map stM).getD i (stM default)=stM (l.getD i default):=fun h=>by simp[List.getD_eq_getElem?_getD,h]
 refine⟨fun h=>Bi fun e=>h (by have:=congrArg List.length e;simp only[List.length_map] at this;omega),fun he=>⟨⟨0,⟨Nat.zero_le _,fun j hj=>absurd hj (by omega)⟩,rfl⟩,fun i ⟨i1,hi⟩=>⟨fun hlt=>⟨⟨by omega,hlt⟩,fun _=>⟨⟨by omega,by omega⟩,fun _ _=>⟨l.getD i default,m.getD i default,⟨Bc _,gm (by omega) (by omega)⟩,fun hn=>Bi fun e=>?_,fun hs=>⟨i+1,⟨by omega,fun j hj=>?_⟩,by omega,Bb (by omega) (by omega)⟩⟩⟩⟩,fun hge=>Ee ?_⟩⟩⟩
 ·have e2:stM (l.getD i default)=stM (m.getD i default):=by
   rw[<- gmap (by omega),<- gmap (by omega),e]
  rw[e2,Bq.2 rfl] at hn;cases hn
 ·by_cases q:j=i
  ·rw[q];exact Bq.1 hs
  ·exact hi j (by omega)
 ·refine CJ (stM default) (by simp;omega) fun j hj=>?_
  have hj:j<l.length:=by simpa using hj
  rw[gmap hj,gmap (by omega)]
  exact hi j (by omega)
def RSame(a b:Nd):Prop:=CD 63 [.agg a.row2,.agg b.row2] (.bool (Bk (stN a) (stN b)))
noncomputable def BjQ:Con:=fun k ds S=>match k with
 |63=>some (pE (β:=Nd×Nd) ds S (fun x=>.bool (Bk (stN x.1) (stN x.2))) (fun x=>wkL ds [.agg x.1.row1,.agg x.2.row1]/\RSame x.1 x.2))
 |_=>none
theorem Bix:ConOk Tryz.prog BjQ:=by
 intro k ds S A hh
 unfold BjQ at hh
 split at hh
 ·injection hh with hh;subst hh
  exact B7 fun x ⟨e,h1⟩=>CD.at_ (CD.wk (CD.wk h1 GD) e) _
 ·cases hh
noncomputable def Est:Senv:={ EC BjQ 31 5 [] (fun _=>([],[])) with mg:=fun _=>2 }
def Yd(a:Sm):Nd:=Sm.te a
def QqN(a:Sm):Arr:=Nd.va (Yd a)
def QHP(a:Sm):List Int:=Arr.sh (QqN a)
def QHQ(a:Sm):List Int:=Arr.nu (QqN a)
def QEg(a:Sm):List Arr:=Arr.it (QqN a)
def QqO:Arr:=DA
def QEh(a:Sm):List Nd:=Nd.ki (Yd a)
def Qmn:Nd:=Nd.mk Z0 Z0 Z0 [] Z0 Z0 QqO [] [] Z0 Z0 Z0
def QEi(a:Sm):List Sm:=Nd.bo (Yd a)
def QtB:Sm:=Sm.mk Z0 Z0 [] Z0 Qmn Qmn
def QEj(a:Sm):D:=D.agg [ZI (Nd.kd (Yd a)),ZI (Nd.at_ (Yd a)),ZI (Nd.cl (Yd a)),D.str (Nd.tx (Yd a)),ZI (Nd.pr (Yd a)),ZI (Nd.op (Yd a)),ZI (Arr.k (QqN a)),SI (QHP a),SI (QHQ a),D.sl N4 (LN (QEg a)) (fun i=>Arr.row (List.getD (QEg a) i QqO)) Mode.any,D.sl 15 (LN (QEh a)) (fun i=>Nd.row (List.getD (QEh a) i Qmn)) Mode.any,D.sl 34 (LN (QEi a)) (fun i=>Sm.row (List.getD (QEi a) i QtB)) Mode.any,ZI (Nd.de (Yd a)),ZI (Nd.sl (Yd a)),ZI (Nd.ss (Yd a))]
def QqP(a:Nd):Arr:=Nd.va a
def QHR(a:Nd):List Int:=Arr.sh (QqP a)
def QHS(a:Nd):List Int:=Arr.nu (QqP a)
def QEk(a:Nd):List Arr:=Arr.it (QqP a)
def QEl(a:Nd):D:=D.agg [ZI (Nd.kd a),ZI (Nd.at_ a),ZI (Nd.cl a),D.str (Nd.tx a),ZI (Nd.pr a),ZI (Nd.op a),ZI (Arr.k (QqP a)),SI (QHR a),SI (QHS a),D.sl N4 (LN (QEk a)) (fun i=>Arr.row (List.getD (QEk a) i QqO)) Mode.any,D.sl 15 (LN (Nd.ki a)) (fun i=>Nd.row (List.getD (Nd.ki a) i Qmn)) Mode.any,D.sl 34 (LN (Nd.bo a)) (fun i=>Sm.row (List.getD (Nd.bo a) i QtB)) Mode.any,ZI (Nd.de a),ZI (Nd.sl a),ZI (Nd.ss a)]
def QEm(a b:Nd):List D:=[QEl a,QEl b]
def QEn(a b:Nd):Bool:=Bk (stN a) (stN b)
def Ye(a:Sm):Nd:=Sm.nd a
def QqQ(a:Sm):Arr:=Nd.va (Ye a)
def QHT(a:Sm):List Int:=Arr.sh (QqQ a)
def QHU(a:Sm):List Int:=Arr.nu (QqQ a)
def QEo(a:Sm):List Arr:=Arr.it (QqQ a)
def QEp(a:Sm):List Nd:=Nd.ki (Ye a)
def QEq(a:Sm):List Sm:=Nd.bo (Ye a)
def QEr(a:Sm):D:=D.agg [ZI (Nd.kd (Ye a)),ZI (Nd.at_ (Ye a)),ZI (Nd.cl (Ye a)),D.str (Nd.tx (Ye a)),ZI (Nd.pr (Ye a)),ZI (Nd.op (Ye a)),ZI (Arr.k (QqQ a)),SI (QHT a),SI (QHU a),D.sl N4 (LN (QEo a)) (fun i=>Arr.row (List.getD (QEo a) i QqO)) Mode.any,D.sl 15 (LN (QEp a)) (fun i=>Nd.row (List.getD (QEp a) i Qmn)) Mode.any,D.sl 34 (LN (QEq a)) (fun i=>Sm.row (List.getD (QEq a) i QtB)) Mode.any,ZI (Nd.de (Ye a)),ZI (Nd.sl (Ye a)),ZI (Nd.ss (Ye a))]
def QEs(a b:Sm):Bool:=Bk (stM a) (stM b)
def QtC(a b:Sm):Prop:=RT (false=QEs a b)
theorem Bgk(x y:Sm)(h1:RSame x.te y.te)(h2:RSame x.nd y.nd):CD 37 [.agg x.row1,.agg y.row1] (.bool (Bk (stM x) (stM y))):=by
 refine Bh (A:=sC _ _) (x:=()) (E:=Est) (eOk Bix rfl) Tryz.func37 rfl (by kernel_rfl) rfl (by simp[sC,Est,EC,E0]) ?_
 refine Bl (T :=
  ∀(x_1:Nat),True->∀(x_2:Nat),x_1≠x_2/\True->SM x_1/\SM x_2/\ifB (Sm.kd x==Sm.kd y) (SM x_1/\SM x_2/\ifB (Sm.nm x==Sm.nm y) (SM x_1/\SM x_2/\∃(x_3:Nd×Nd),(wkL [QEj x,QEj y] (QEm x_3.1 x_3.2)/\RSame x_3.1 x_3.2)/\∀(y_1:Unit),True->ifB (QEn x_3.1 x_3.2) (SM x_1/\SM x_2/\∃(x_4:Nd×Nd),(wkL [QEr x,QEr y] (QEm x_4.1 x_4.2)/\RSame x_4.1 x_4.2)/\∀(y_2:Unit),True->True/\∃(y_3:Unit),True/\QEn x_4.1 x_4.2=QEs x y/\True/\True) (QtC x y)) (QtC x y)) (QtC x y)) (by kernel_rfl) ?_
 delta DA GI LN N1 N4 SI SM Z0 ZI Ye QqQ QHT QHU QEo QEp QEq QEr QEs QtC Yd QqN QHP QHQ QEg QqO QEh Qmn QEi QtB QEj QqP QHR QHS QEk QEl QEm QEn RT
 try simp only[<- dm]
 try simp only[<- dn]
 simp only[eq_self,ne_eq,implies_true,Bo,Int.toNat_natCast,Bg,Be,decide_eq_true_eq,decide_eq_false_iff_not,true_and,and_true,beq_iff_eq,bne_iff_ne,bne_eq_false_iff_eq,beq_eq_false_iff_ne,Bool.not_eq_true',Bool.not_eq_false',exists_const,forall_const,Prod.exists]
 have iff:=Wz x y
 have no:∀ {α:Type} {x y:α},Bk x y=false->x≠y:=fun h e=>by rw[Bq.2 e] at h;cases h
 refine fun u v _=>⟨fun a1=>⟨fun a2=>⟨x.te,y.te,⟨Bc _,h1⟩,fun a3=>⟨x.nd,y.nd,⟨Bc _,h2⟩,?_⟩,fun a3=>Bi fun e=>no a3 (iff.1 e).2.2.1⟩,fun a2=>Bi fun e=>a2 (iff.1 e).2.1⟩,fun a1=>Bi fun e=>a1 (iff.1 e).1⟩
 exact Cw ⟨fun e=>iff.2 ⟨a1,a2,Bq.1 a3,e⟩,fun e=>(iff.1 e).2.2.2⟩
noncomputable def BlO(a b:Nd):Con:=fun k ds S=>match k with
 |82=>some (pA ds S (.bool (Bk a.va b.va)) (wkL ds [.agg a.va.row1,.agg b.va.row1]))
 |83=>some (pA ds S (.bool (Bk (a.ki.map stN) (b.ki.map stN))) (wkL ds [gsl 15 Nd.row1 a.ki,gsl 15 Nd.row1 b.ki,.fn (.func 63) [] []]))
 |29=>some (pA ds S (.bool (Bk (a.bo.map stM) (b.bo.map stM))) (wkL ds [gsl 34 Sm.row1 a.bo,gsl 34 Sm.row1 b.bo,.fn (.func 37) [] []]))
 |_=>none
noncomputable def Esa(a b:Nd):Senv:={ EC (BlO a b) 59 5 [] (fun _=>([],[])) with mg:=fun _=>2 }
def QlQ(a:Nd):Arr:=Nd.va a
def QHV(a:Nd):List Int:=Arr.sh (QlQ a)
def QHW(a:Nd):List Int:=Arr.nu (QlQ a)
def QEt(a:Nd):List Arr:=Arr.it (QlQ a)
def QEu:Arr:=DA
def QEv(a:Nd):D:=D.agg [ZI (Arr.k (QlQ a)),SI (QHV a),SI (QHW a),D.sl N4 (LN (QEt a)) (fun i=>Arr.row (List.getD (QEt a) i QEu)) Mode.any]
def QEw(a b:Nd):List D:=[QEv a,QEv b]
def QtD:Nd:=Nd.mk Z0 Z0 Z0 [] Z0 Z0 QEu [] [] Z0 Z0 Z0
def QEx(a:Nd):D:=D.sl 15 (LN (Nd.ki a)) (fun i=>Nd.row1 (List.getD (Nd.ki a) i QtD)) Mode.any
def QEy(a b:Nd):List D:=[QEx a,QEx b,D.fn (Fn.func (63:Nat)) [] []]
def QEz(a:Nd):D:=D.sl 34 (LN (Nd.bo a)) (fun i=>Sm.row1 (List.getD (Nd.bo a) i (Sm.mk Z0 Z0 [] Z0 QtD QtD))) Mode.any
def QEA(a b:Nd):List D:=[QEz a,QEz b,D.fn (Fn.func (37:Nat)) [] []]
def QEB(a b:Nd):Bool:=Bk (stN a) (stN b)
def QcB(a b:Nd):Prop:=RT (false=QEB a b)
theorem Bkm(a b:Nd)(ha:a.sm/\a.va.ok)(hb:b.sm/\b.va.ok)(h1:∀x∈a.ki,∀y∈b.ki,RSame x y)(h2:∀x∈a.bo,∀y∈b.bo,RSame x.te y.te/\RSame x.nd y.nd):RSame a b:=by
 refine Bh (A:=sC _ _) (x:=()) (E:=Esa a b) (eOk ?_ rfl) Tryz.func63 rfl (by kernel_rfl) rfl (by simp[sC,Esa,EC,E0]) ?_
 ·intro k ds S A hh
  unfold BlO at hh
  have a1:=BZ ha.1
  have b1:=BZ hb.1
  split at hh
  ·injection hh with hh;subst hh
   exact Bm fun e=>CD.at_ (CD.wk (Ben (Bfe a.va b.va ha.2 hb.2)) e) _
  ·injection hh with hh;subst hh
   exact Bm fun e=>CD.at_ (CD.wk (Een_ok a.ki b.ki (BD a1.2.1) (BD b1.2.1) fun x hx y hy=>CD.wk (h1 x hx y hy) GD) e) _
  ·injection hh with hh;subst hh
   exact Bm fun e=>CD.at_ (CD.wk (Ees_ok a.bo b.bo (BD a1.2.2) (BD b1.2.2) fun x hx y hy=>Bgk x y (h2 x hx y hy).1 (h2 x hx y hy).2) e) _
  ·cases hh
 refine Bl (T :=
  ∀(x:Nat),True->∀(x_1:Nat),x≠x_1/\True->SM x/\SM x_1/\ifB (Nd.kd a==Nd.kd b) (SM x/\SM x_1/\ifB (Nd.cl a==Nd.cl b) (SM x/\SM x_1/\ifB (Nd.tx a==Nd.tx b) (SM x/\SM x_1/\ifB (Nd.pr a==Nd.pr b) (SM x/\SM x_1/\ifB (Nd.op a==Nd.op b) (SM x/\SM x_1/\∃(x_2:Unit),wkL (QEw a b) (QEw a b)/\∀(y:Unit),True->ifB (Bk (QlQ a) (QlQ b)) (SM x/\SM x_1/\∃(x_3:Unit),wkL (QEy a b) (QEy a b)/\∀(y:Unit),True->ifB (Bk (List.map stN (Nd.ki a)) (List.map stN (Nd.ki b))) (SM x/\SM x_1/\∃(x:Unit),wkL (QEA a b) (QEA a b)/\∀(y:Unit),True->RT (Bk (List.map stM (Nd.bo a)) (List.map stM (Nd.bo b))=QEB a b)) (QcB a b)) (QcB a b)) (QcB a b)) (QcB a b)) (QcB a b)) (QcB a b)) (QcB a b)) (by kernel_rfl) ?_
 delta DA GI LN N1 N4 SI SM Z0 ZI QlQ QHV QHW QEt QEu QEv QEw QtD QEx QEy QEz QEA QEB QcB RT
 try simp only[<- dm]
 try simp only[<- dn]
 simp only[eq_self,ne_eq,implies_true,Bo,Int.toNat_natCast,Bg,Be,decide_eq_true_eq,decide_eq_false_iff_not,true_and,and_true,beq_iff_eq,bne_iff_ne,bne_eq_false_iff_eq,beq_eq_false_iff_ne,Bool.not_eq_true',Bool.not_eq_false',exists_const,forall_const,Prod.exists]
 have iff:=IN a b
 have no:∀ {α:Type} {x y:α},Bk x y=false->x≠y:=fun h e=>by rw[Bq.2 e] at h;cases h
 refine fun u v _=>⟨fun a1=>⟨fun a2=>⟨fun a3=>⟨fun a4=>⟨fun a5=>⟨Bc _,fun a6=>⟨Bc _,fun a7=>⟨Bc _,?_⟩,fun a7=>Bi fun e=>no a7 (iff.1 e).2.2.2.2.2.2.1⟩,fun a6=>Bi fun e=>no a6 (iff.1 e).2.2.2.2.2.1⟩,fun a5=>Bi fun e=>a5 (iff.1 e).2.2.2.2.1⟩,fun a4=>Bi fun e=>a4 (iff.1 e).2.2.2.1⟩,fun a3=>Bi fun e=>a3 (iff.1 e).2.2.1⟩,fun a2=>Bi fun e=>a2 (iff.1 e).2.1⟩,fun a1=>Bi fun e=>a1 (iff.1 e).1⟩
 exact Cw ⟨fun e=>iff.2 ⟨a1,a2,a3,a4,a5,Bq.1 a6,Bq.1 a7,e⟩,fun e=>(iff.1 e).2.2.2.2.2.2.2⟩
theorem BcY(a b:Nd)(ha:a.ok/\a.sm)(hb:b.ok/\b.sm):RSame a b :=
  Bkm a b ⟨ha.2,Ih ha.1⟩ ⟨hb.2,Ih hb.1⟩ (fun x hx y hy => BcY x y ⟨Ip ha.1 x hx,Cv ha.2 (BQ hx)⟩ ⟨Ip hb.1 y hy,Cv hb.2 (BQ hy)⟩) fun x hx y hy =>
    ⟨BcY x.te y.te ⟨(BM (Co ha.1 x hx)).1,(By (Cu ha.2 x hx)).1⟩ ⟨(BM (Co hb.1 y hy)).1,(By (Cu hb.2 y hy)).1⟩,
     BcY x.nd y.nd ⟨(BM (Co ha.1 x hx)).2,(By (Cu ha.2 x hx)).2⟩ ⟨(BM (Co hb.1 y hy)).2,(By (Cu hb.2 y hy)).2⟩⟩
termination_by SizeOf.sizeOf a
decreasing_by
  · exact Nd.size_kid hx
  · have := Nd.size_stmt hx
    have := Sm.size_te x
    omega
  · have := Nd.size_stmt hx
    have := Sm.size_nd x
    omega
theorem Bnh(x y:Sm)(hx:x.ok/\x.sm)(hy:y.ok/\y.sm):CD 37 [.agg x.row1,.agg y.row1] (.bool (Bk (stM x) (stM y))) :=
 Bgk x y (BcY _ _ ⟨(BM hx.1).1,(By hx.2).1⟩ ⟨(BM hy.1).1,(By hy.2).1⟩) (BcY _ _ ⟨(BM hx.1).2,(By hx.2).2⟩ ⟨(BM hy.1).2,(By hy.2).2⟩)
noncomputable def BlL(a b:List Sm):Con:=fun k ds S=>match k with
 |29=>some (pA ds S (.bool (Bk (a.map stM) (b.map stM))) (wkL ds [gsl 34 Sm.row1 a,gsl 34 Sm.row1 b,.fn (.func 37) [] []]))
 |_=>none
noncomputable def Esp(a b:List Sm):Senv:=EC (BlL a b) 10 5 [] (fun _=>([],[]))
def QEC:Nd:=Nd.mk Z0 Z0 Z0 [] Z0 Z0 DA [] [] Z0 Z0 Z0
def QED(a:List Sm):D:=D.sl 34 (LN a) (fun i=>Sm.row1 (List.getD a i (Sm.mk Z0 Z0 [] Z0 QEC QEC))) Mode.any
def QEE(a b:List Sm):List D:=[QED a,QED b,D.fn (Fn.func (37:Nat)) [] []]
theorem BmY(a b:List Sm)(ha:okS a)(hb:okS b):CD 19 [.agg [gsl 34 Sm.row1 a],.agg [gsl 34 Sm.row1 b]] (.bool (Bk (a.map stM) (b.map stM))):=by
 refine Bh (A:=sC _ _) (x:=()) (E:=Esp a b) (eOk ?_ rfl) Tryz.func19 rfl (by kernel_rfl) rfl (by simp[sC,Esp,EC,E0]) ?_
 ·intro k ds S A hh
  try unfold BlL at hh
  try dsimp only at hh
  split at hh
  ·injection hh with hh;subst hh
   exact Bm fun e=>CD.at_ (CD.wk (Ees_ok a b (BD ha.1) (BD hb.1) fun x hx y hy=>Bnh x y ⟨ha.2.1 x hx,ha.2.2 x hx⟩ ⟨hb.2.1 y hy,hb.2.2 y hy⟩) e) _
  ·cases hh
 refine Bl (T :=
  ∀(x:Nat),True->∀(x_1:Nat),x≠x_1/\True->SM x/\SM x_1/\∃(x:Unit),wkL (QEE a b) (QEE a b)/\∀(y:Unit),True->RT (SM (Bk (List.map stM a) (List.map stM b)))) (by kernel_rfl) ?_
 delta DA LN SM Z0 QEC QED QEE RT
 try simp only[<- dm]
 try simp only[<- dn]
 simp only[eq_self,ne_eq,implies_true,Bo,Int.toNat_natCast,Bg,Be,decide_eq_true_eq,decide_eq_false_iff_not,true_and,and_true,beq_iff_eq,bne_iff_ne,bne_eq_false_iff_eq,beq_eq_false_iff_ne,Bool.not_eq_true',Bool.not_eq_false',exists_const,forall_const,Prod.exists]
 first
  |exact fun _ _ _=>Bc _
  |exact fun _ _=>Bc _
  |exact Bc _
open Go Go.Ab Go.Proofs Go.RowKit Go.Shelf
attribute [local go_sem] Oper.semAt_some
noncomputable def BeC(l:List Sm):Con:=fun k ds S=>match k with
 |8=>some (pE (β:=List Sm) ds S (fun x=>pgD x) (fun x=>ds=[.agg [gsl 34 Sm.row1 x]]/\okS x))
 |19=>some (pA ds S (.bool true) (ds=[.agg [gsl 34 Sm.row1 l],.agg [gsl 34 Sm.row1 (pgB l)]]/\(pgF l).1=0))
 |13=>some (pA ds S (.int .i64 0) (ds=[unD (pgB l) (pgN l)]/\(pgF l).1=0))
 |15=>some (pA ds S (.bool true) (ds=[unD (pgB l) (pgN l),unD (pgB (pgB l)) (pgN (pgB l))]/\(pgF l).1=0))
 |12=>some (pA ds S (.bool true) (ds=[]))
 |_=>none
theorem Bhq(hk:CD 12 [] (.bool true)){l:List Sm}(hl:okS l):ConOk Tryz.prog (BeC l):=by
 intro k ds S A hh
 unfold BeC at hh
 have hb:=(Ur hl).1
 split at hh
 ·injection hh with hh;subst hh
  exact B7 fun x ⟨e,hx⟩=>by rw[e];exact CD.at_ (Bdz x hx.1 hx.2.1 hx.2.2) _
 ·injection hh with hh;subst hh
  refine Bm fun ⟨e,h0⟩=>?_
  have:=BmY l (pgB l) hl hb
  rw[(MS h0).2.2.2.2,Bq.2 rfl] at this
  rw[e];exact CD.at_ this _
 ·injection hh with hh;subst hh
  refine Bm fun ⟨e,h0⟩=>?_
  have:=Bf8 (pgB l) (pgN l) hb
  obtain ⟨h1,h2,h3,h4,_⟩:=MS h0
  have e2:rtU (pgB l) (pgN l)=0:=by
   unfold rtU OL
   rw[if_neg (by simp[h1]),h4,if_neg (by simp),h2,h3,I7,if_pos rfl]
  rw[e2] at this
  rw[e];exact CD.at_ this _
 ·injection hh with hh;subst hh
  refine Bm fun ⟨e,h0⟩=>?_
  obtain ⟨h1,h2,h3,h4,_⟩:=MS h0
  have:=Bb4 (pgB l) (pgB l) (pgN l) (pgN l) hb hb
  rw[I7] at this
  rw[e,h2,h3];exact CD.at_ this _
 ·injection hh with hh;subst hh
  exact Bm fun e=>by rw[e];exact CD.at_ hk _
 ·cases hh
noncomputable def Eral(l:List Sm):Senv:={ EC (BeC l) 46 8 [15] (fun _=>([],[])) with mg:=fun _=>2 }
def QEF:Nd:=Nd.mk Z0 Z0 Z0 [] Z0 Z0 DA [] [] Z0 Z0 Z0
def QtE:Sm:=Sm.mk Z0 Z0 [] Z0 QEF QEF
def QtF(a:List Sm):D:=D.agg [D.sl 34 (LN a) (fun i=>Sm.row1 (List.getD a i QtE)) Mode.any]
def QtG(a:List Sm):List D:=[QtF a]
def QEG:Prop:=∃(_x:Unit),BV (List D) [] []/\∀(_y:Unit),True->True/\∃(_y:Unit),True/\SM true/\True/\True
def QqR(a:List Sm):List Sm:=pgB a
def QEH(a:List Sm):D:=D.sl 34 (LN (QqR a)) (fun i=>Sm.row1 (List.getD (QqR a) i QtE)) Mode.any
def QtH(a:List Sm):List D:=[D.agg [QEH a]]
def QtI(a:List Sm):Prop:=Prod.fst (pgF a)=Z0
def QtJ(a:List Sm):D:=D.agg [QEH a,ZI (pgN a)]
def QtK(a:List Sm):List D:=[QtJ a]
def QEI(a:List Sm):List Sm:=pgB (QqR a)
theorem Bft(hk:CD 12 [] (.bool true))(l:List Sm)(hl:okS l):CD 7 [.agg [gsl 34 Sm.row1 l]] (.bool true):=by
 refine Bh (A:=sC _ _) (x:=()) (E:=Eral l) (eOk (Bhq hk hl) rfl) Tryz.func7 rfl (by kernel_rfl) rfl (by simp[sC,Eral,EC,E0]) ?_
 refine Bl (T :=
  ∀(x:Nat),True->SM x/\∃(x_1:List Sm),(QtG l=QtG x_1/\okS x_1)/\∀(y:Unit),True->∀(x_2:Nat),x≠x_2/\True->∀(x_3:Nat),x_2≠x_3/\x≠x_3/\True->SM x_2/\SM x_3/\SM x_3/\ifB (Prod.fst (pgF x_1) != Z0) QEG (SM x_2/\∀(x_4:Nat),x_3≠x_4/\x_2≠x_4/\x≠x_4/\True->SM x_4/\SM x_4/\∃(x_5:List Sm),(QtH x_1=QtG x_5/\okS x_5)/\∀(y:Unit),True->∀(x_6:Nat),x_4≠x_6/\x_3≠x_6/\x_2≠x_6/\x≠x_6/\True->∀(x_7:Nat),x_6≠x_7/\x_4≠x_7/\x_3≠x_7/\x_2≠x_7/\x≠x_7/\True->SM x_6/\SM x_7/\SM x_7/\ifB (Prod.fst (pgF x_5)==Z0) (SM x/\SM x_4/\∃(x:Unit),(QtF l::QtH x_1=QtF l::QtH l/\QtI l)/\∀(y:Unit),True->SM x_2/\∃(x:Unit),(QtK x_1=QtK l/\QtI l)/\∀(y:Unit),True->SM x_2/\SM x_6/\∃(x:Unit),(QtJ x_1::QtK x_5=[QtJ l,D.agg [D.sl 34 (LN (QEI l)) (fun i=>Sm.row1 (List.getD (QEI l) i QtE)) Mode.any,ZI (pgN (QqR l))]]/\QtI l)/\∀(y:Unit),True->QEG) (RT (false=true)))) (by kernel_rfl) ?_
 delta DA LN SM Z0 ZI QEF QtE QtF QtG QEG QqR QEH QtH QtI QtJ QtK QEI RT
 try simp only[<- dm]
 try simp only[<- dn]
 simp only[ne_eq,implies_true,Bg,true_and,and_true,beq_iff_eq,bne_iff_ne,bne_eq_false_iff_eq,beq_eq_false_iff_ne,exists_const,forall_const]
 refine fun _=>⟨l,⟨rfl,hl⟩,?_⟩
 repeat' first | refine⟨pgB l,⟨rfl,(Ur hl).1⟩,?_⟩ | exact trivial | exact absurd trivial ‹¬True› | exact ‹(pgF l).1=0› | rfl | apply And.intro | intro _
 exact absurd (by rw[(MS ‹(pgF l).1=0›).2.2.2.1]) ‹¬(pgF (pgB l)).1=0›
open Go Go.Ab Go.RowKit
def RPg:List D->Prop:=fun ds=>∃l:List Sm,okS l/\ds=[lsl 34 (CV l)]
theorem Bb6(W:World)(n:Nat):ReadAt Tryz.prog W n 24 RPg:=by
 cases n with
 |zero=>exact .zero _ _
 |succ m =>
  have hb:ReadAt Tryz.prog W m 22 (RSliceA 34 RSm):=by
   cases m with
   |zero=>exact .zero _ _
   |succ k=>exact Eq (w:=34) Tryz.underlying22 (by kernel_rfl) (by decide) (by decide +kernel) (Wq W k fun j _=>BcH W j)
  refine (EV Tryz.underlying24 (by kernel_rfl) (Rs:=[RSliceA 34 RSm]) ⟨hb,trivial⟩).mono ?_
  rintro ds ⟨_,_,⟨l,h1,h2,rfl⟩,h3,rfl⟩
  obtain rfl:_=[]:=h3
  obtain ⟨bo,qb,rfl⟩:=IL (g:=Sm.row) (Q:=fun a=>a.ok/\a.sm) (fun x hx=>hx) l h1
  refine⟨bo,⟨by simpa using h2,fun s hs=>(qb s hs).1,fun s hs=>(qb s hs).2⟩,?_⟩
  simp only[CA,lsl,List.append_nil]
noncomputable def BkL:Array Value:=#[.agg #[.slice none 0 0]]
theorem BgR(os:Os):laidMet Tryz.prog ON ((EA os).forCall (fun _ _=>0) ⟨#[],BkL,[]⟩).memory :=
 ⟨[],(by first | exact .nil | constructor | simp[DataW.LaidVars,ON]),List.nodup_nil,fun _ _ h=>(by cases h)⟩
theorem BmJ(os:Os){H:Type}(enc:TypeId×Value->H):∃x,DataW.whole enc Tryz.prog ((EA os).forCall (fun _ _=>0) ⟨#[],BkL,[]⟩).memory [24] [] false (BkL).toList 8=some x/\Rows.uptoSmall H (x.1++x.2.1)=true :=
 UM (by kernel_rfl)
theorem BhG{H : Type}{enc : TypeId×Value -> H}
  (W:World) (base:Nat) (args:Array Value) (ds gs:List (DataW H)) (before:List MemPlace)
  (hval:∀(j:Nat) t v,Tryz.f7.params[j]? =some t->args[j]? =some v->Value.okWide Tryz.prog W .any base t v)
  (hW:DataW.Whole enc Tryz.prog Tryz.f7.params.toList Rows.resolveAgainSpec.vars false W args.toList ds gs before)
  (hsz:(DataW.weightsEach Tryz.prog (Tryz.f7.params.toList++Rows.resolveAgainSpec.plain.varTypes Tryz.prog) (ds++gs)).all (·<=BX)=true) (hL:laidMetH Tryz.prog ON W) :
  Calls Tryz.prog 7 args W fun e W'=>∃v,e=.returned v/\Rows.resolveAgainSpec.post enc Tryz.prog Tryz.f7 false true false false W args v W':=by
 refine Mg (rs:=[(24,RPg)]) laid (by rw[Tryz.params7];kernel_rfl) rfl (fun ds hd=>?_) (rt:=4) rfl Tryz.underlying4 (by rw[Tryz.params7];rfl) ?_ W (Bcs hL) base args ds gs before hval hW hsz ?_
 ·rw[Tryz.params7] at hd
  match ds,hd with
  | [_],_=>exact⟨rfl,rfl,rfl⟩
 ·intro r hr
  simp only[List.mem_cons,List.not_mem_nil,or_false] at hr
  subst hr
  exact Bb6
 ·intro Ds h
  obtain ⟨dx,_,rfl,hx,h⟩:=h.agg (by kernel_rfl)
  obtain rfl:=h.nil
  obtain ⟨x,hokx,rfl⟩:=hx
  exact (CD.isP (Bft BjD x hokx) (Bc _)).mono fun r S' ⟨_,_,hr,_⟩=>hr
theorem Blj(os : Os)(started : os.Started)(H : Type)(enc : TypeId×Value -> H)(F : Stop.Interp) :
  ReturnsInHanded {} Tryz.checked os 7 .any ((Rows.OpenSpec.upto Rows.resolveAgainSpec).preRow enc Tryz.prog Tryz.f7 Rows.resolveAgainUptoRow.domain false Rows.resolveAgainUptoRow.laid) (((Rows.OpenSpec.upto Rows.resolveAgainSpec).at F).post enc Tryz.prog Tryz.f7 false true false false):=by
 obtain ⟨x,hx,hxk⟩:=BmJ os enc
 refine returnsInHanded_of_row (C:=Tryz.checked) (s:=Rows.OpenSpec.upto Rows.resolveAgainSpec) own started (by kernel_rfl) Tryz.func7
  (witness_row_at (enc:=enc) (C:=Tryz.checked) false (EA os) BkL rfl (by kernel_rfl) (by kernel_rfl) (by kernel_rfl)
   (OpenSpec.preRow_of_cond 8 hx rfl (fun k hk=>by cases hk;exact hxk) (by kernel_rfl) (BgR os))) ?_
 intro W base args ds gs before hval hW _ hk _ hL _ _
 refine BhG W base args ds gs before hval hW ?_ hL
 have e:Tryz.f7.params.toList++Rows.resolveAgainSpec.plain.varTypes Tryz.prog=[24]:=by rw[Tryz.params7];kernel_rfl
 rw[e]
 exact BbM BjX (by decide +kernel) (hk _ rfl)
theorem Bnf:Rows.ResolveAgainUptoSaid :=
 OpenClaim.holds_of_cond 7 Tryz.f7 rfl rfl rfl rfl rfl rfl rfl ⟨rfl,rfl,rfl,rfl,rfl⟩ rfl rfl rfl rfl rfl (by kernel_rfl) Tryz.func7 (by kernel_rfl)
  (of_decide_eq_true (by kernel_rfl)) (by unfold Func.isWrapper;first | (rw[if_pos (by decide +kernel)];kernel_rfl) | (rw[if_neg (by decide +kernel)];exact⟨rfl,rfl⟩))
  (fun os started H enc _ F=>by rw[OpenClaim.pre_eq_preRow];exact Blj os started H enc F)
theorem provedResolveAgain:Rows.ResolveAgainUptoSaid:=Bnf
end
end Go.Proofs.YtfbfnhbafjmnaaaGreat
