/- Functions of the given program and what each of them computes: lemmas towards the statement, their conditions stated with each of them. -/
import Derived.Test.YtfbfnhbafjmnaaaGreatS2
namespace Go.Proofs.YtfbfnhbafjmnaaaGreat
open Go Go.Ab
set_option maxRecDepth 100000
noncomputable section
noncomputable def Biv(l m:List Nd):Con:=fun k ds S=>match k with
 |53=>some (pE (β:=Nd×Nd) ds S (fun x=>.bool (Bk (exN x.1) (exN x.2))) (fun x=>wkL ds [.agg x.1.row1,.agg x.2.row1]/\x.1∈l/\x.2∈m))
 |_=>none
noncomputable def FFen(l m:List Nd):Senv:={ EC (Biv l m) 32 3 [6,7,8,9,14,15,16,17,18,30] (fun _=>([],[])) with
 ann:=fun q _ S=>match q with
  |0=>some { slots:=[17],keep:=[0,1,2,15,16],α:=Nat,st:=fun i=>([.int .i64 i],S),inv:=fun i=>i<=l.length/\∀j,j<i->exN (l.getD j default)=exN (m.getD j default),mu:=fun i=>l.length-i }
  |_=>none }
def QzF(a b:List Nd):Prop:=RT (false=Bk (List.map exN a) (List.map exN b))
def QnF:Arr:=DA
def Qcn:Nd:=Nd.mk Z0 Z0 Z0 [] Z0 Z0 QnF [] [] Z0 Z0 Z0
def Vg(a:List Nd)(b:Nat):Nd:=List.getD a b Qcn
def QzG(a:List Nd)(b:Nat):Nd:=exN (Vg a b)
def Qsy(a:Nat)(b c:List Nd):Prop:=a<=LN b/\∀(j:Nat),j<a->QzG b j=QzG c j
def VM(a:List Nd)(b:Nat):Nd:=List.getD a (Int.toNat (↑b:Int)) Qcn
def QnG(a:List Nd)(b:Nat):Arr:=Nd.va (VM a b)
def QGq(a:List Nd)(b:Nat):List Int:=Arr.sh (QnG a b)
def QGr(a:List Nd)(b:Nat):List Int:=Arr.nu (QnG a b)
def QzH(a:List Nd)(b:Nat):List Arr:=Arr.it (QnG a b)
def QzI(a:List Nd)(b:Nat):List Nd:=Nd.ki (VM a b)
def QzJ(a:List Nd)(b:Nat):List Sm:=Nd.bo (VM a b)
def Qsz:Sm:=Sm.mk Z0 Z0 [] Z0 Qcn Qcn
def QzK(a:List Nd)(b:Nat):D:=D.agg [ZI (Nd.kd (VM a b)),ZI (Nd.at_ (VM a b)),ZI (Nd.cl (VM a b)),D.str (Nd.tx (VM a b)),ZI (Nd.pr (VM a b)),ZI (Nd.op (VM a b)),ZI (Arr.k (QnG a b)),SI (QGq a b),SI (QGr a b),D.sl N4 (LN (QzH a b)) (fun i=>Arr.row (List.getD (QzH a b) i QnF)) Mode.any,D.sl 15 (LN (QzI a b)) (fun i=>Nd.row (List.getD (QzI a b) i Qcn)) Mode.any,D.sl 34 (LN (QzJ a b)) (fun i=>Sm.row (List.getD (QzJ a b) i Qsz)) Mode.any,ZI (Nd.de (VM a b)),ZI (Nd.sl (VM a b)),ZI (Nd.ss (VM a b))]
def QnH(a:Nd):Arr:=Nd.va a
def QGs(a:Nd):List Int:=Arr.sh (QnH a)
def QGt(a:Nd):List Int:=Arr.nu (QnH a)
def QzL(a:Nd):List Arr:=Arr.it (QnH a)
def QzM(a:Nd):D:=D.agg [ZI (Nd.kd a),ZI (Nd.at_ a),ZI (Nd.cl a),D.str (Nd.tx a),ZI (Nd.pr a),ZI (Nd.op a),ZI (Arr.k (QnH a)),SI (QGs a),SI (QGt a),D.sl N4 (LN (QzL a)) (fun i=>Arr.row (List.getD (QzL a) i QnF)) Mode.any,D.sl 15 (LN (Nd.ki a)) (fun i=>Nd.row (List.getD (Nd.ki a) i Qcn)) Mode.any,D.sl 34 (LN (Nd.bo a)) (fun i=>Sm.row (List.getD (Nd.bo a) i Qsz)) Mode.any,ZI (Nd.de a),ZI (Nd.sl a),ZI (Nd.ss a)]
def QnI(a:List Nd)(b:Nat):Arr:=Nd.va (Vg a b)
def QGu(a:List Nd)(b:Nat):List Int:=Arr.sh (QnI a b)
def QGv(a:List Nd)(b:Nat):List Int:=Arr.nu (QnI a b)
def QzN(a:List Nd)(b:Nat):List Arr:=Arr.it (QnI a b)
def QzO(a:List Nd)(b:Nat):List Nd:=Nd.ki (Vg a b)
def QzP(a:List Nd)(b:Nat):List Sm:=Nd.bo (Vg a b)
def QGw(a:List Nd):D:=D.sl 15 (LN a) (fun i=>[ZI (Nd.kd (Vg a i)),ZI (Nd.at_ (Vg a i)),ZI (Nd.cl (Vg a i)),D.str (Nd.tx (Vg a i)),ZI (Nd.pr (Vg a i)),ZI (Nd.op (Vg a i)),ZI (Arr.k (QnI a i)),SI (QGu a i),SI (QGv a i),D.sl N4 (LN (QzN a i)) (fun i_1=>Arr.row (List.getD (QzN a i) i_1 QnF)) Mode.any,D.sl 15 (LN (QzO a i)) (fun i_1=>Nd.row (List.getD (QzO a i) i_1 Qcn)) Mode.any,D.sl 34 (LN (QzP a i)) (fun i_1=>Sm.row (List.getD (QzP a i) i_1 Qsz)) Mode.any,ZI (Nd.de (Vg a i)),ZI (Nd.sl (Vg a i)),ZI (Nd.ss (Vg a i))]) Mode.any
def QsA(a:List Nd):Prop:=SM (QGw a)
theorem Fen_ok(l m : List Nd)(hl : l.length<=maxLen)(hm : m.length<=maxLen)(h : ∀x∈l, ∀y∈m, CD 53 [.agg x.row1, .agg y.row1] (.bool (Bk (exN x) (exN y)))) :
  CD 83 [gsl 15 Nd.row1 l,gsl 15 Nd.row1 m,.fn (.func 53) [] []] (.bool (Bk (l.map exN) (m.map exN))):=by
 refine Bh (A:=sC _ _) (x:=()) (E:=FFen l m) (eOk ?_ rfl) Tryz.func83 rfl (by kernel_rfl) rfl (by simp[sC,FFen,EC,E0]) ?_
 ·intro k ds S A hh
  unfold Biv at hh
  split at hh
  ·injection hh with hh;subst hh
   exact B7 fun x ⟨e,h1,h2⟩=>CD.at_ (CD.wk (h _ h1 _ h2) e) _
  ·cases hh
 refine Bl (T :=
  ifB ((LI l) != (LI m)) (QzF l m) ((∃(x:Nat),Qsy x l m/\(Z0=(↑x:Int)/\True)/\True/\True)/\∀(x:Nat),Qsy x l m->ifB (decide ((↑x:Int)<(LI l))) (Bf (Z0<=(↑x:Int)/\(↑x:Int)<(LI l)) (∀(x_1:Nat),True->SM x_1/\Bf (Z0<=(↑x:Int)/\(↑x:Int)<(LI m)) (∀(x_2:Nat),x_1≠x_2/\True->SM x_2/\SM x_1/\SM x_2/\∃(x_3:Nd×Nd),(wkL [QzK l x,QzK m x] [QzM x_3.1,QzM x_3.2]/\x_3.1∈l/\x_3.2∈m)/\∀(y:Unit),True->ifB (!Bk (exN x_3.1) (exN x_3.2)) (QzF l m) ((QsA l/\QsA m/\SM (D.fn (Fn.func (53:Nat)) [] [])/\QsA l/\SM (ZI (LI l))/\True)/\∃(y:Nat),Qsy y l m/\LN l-y<LN l-x/\(IntKind.wrap IntKind.i64 ((↑x:Int)+Z1)=(↑y:Int)/\True)/\True/\True)))) (RT (true=Bk (List.map exN l) (List.map exN m))))) (by kernel_rfl) ?_
 delta DA GI LI LN N1 N4 SI SM Z0 Z1 ZI QzF QnF QzH QzI QzJ Qsz QzK QnH QGs QGt QzL QzM Qcn QnI QGu QGv QzN QzO QzP QGw QsA Vg QzG Qsy VM QnG QGq QGr RT
 try simp only[<- dm]
 try simp only[<- dn]
 simp only[eq_self,ne_eq,implies_true,Bo,Int.toNat_natCast,Bg,Be,decide_eq_true_eq,decide_eq_false_iff_not,true_and,and_true,beq_iff_eq,bne_iff_ne,bne_eq_false_iff_eq,beq_eq_false_iff_ne,Bool.not_eq_true',Bool.not_eq_false',exists_const,forall_const,Prod.exists]
 simp only[maxLen] at hl hm
 have gm:∀ {i:Nat},i<l.length->i<m.length->l.getD i default∈l/\m.getD i default∈m:=fun h1 h2=>⟨by rw[List.getD_eq_getElem?_getD,List.getElem?_eq_getElem h1];exact List.getElem_mem h1,by rw[List.getD_eq_getElem?_getD,List.getElem?_eq_getElem h2];exact List.getElem_mem h2⟩
 have gmap:∀ {l:List Nd} {i:Nat},i<l.length->(l.map exN).getD i (exN default)=exN (l.getD i default):=fun h=>by simp[List.getD_eq_getElem?_getD,h]
 refine⟨fun h=>Bi fun e=>h (by have:=congrArg List.length e;simp only[List.length_map] at this;omega),fun he=>⟨⟨0,⟨Nat.zero_le _,fun j hj=>absurd hj (by omega)⟩,rfl⟩,fun i ⟨i1,hi⟩=>⟨fun hlt=>⟨⟨by omega,hlt⟩,fun _=>⟨⟨by omega,by omega⟩,fun _ _=>⟨l.getD i default,m.getD i default,⟨Bc _,gm (by omega) (by omega)⟩,fun hn=>Bi fun e=>?_,fun hs=>⟨i+1,⟨by omega,fun j hj=>?_⟩,by omega,Bb (by omega) (by omega)⟩⟩⟩⟩,fun hge=>Ee ?_⟩⟩⟩
 ·have e2:exN (l.getD i default)=exN (m.getD i default):=by
   rw[<- gmap (by omega),<- gmap (by omega),e]
  rw[e2,Bq.2 rfl] at hn;cases hn
 ·by_cases q:j=i
  ·rw[q];exact Bq.1 hs
  ·exact hi j (by omega)
 ·refine CJ (exN default) (by simp;omega) fun j hj=>?_
  have hj:j<l.length:=by simpa using hj
  rw[gmap hj,gmap (by omega)]
  exact hi j (by omega)
noncomputable def Bjg(l m:List Sm):Con:=fun k ds S=>match k with
 |30=>some (pE (β:=Sm×Sm) ds S (fun x=>.bool (Bk (exM x.1) (exM x.2))) (fun x=>wkL ds [.agg x.1.row1,.agg x.2.row1]/\x.1∈l/\x.2∈m))
 |_=>none
noncomputable def FFes(l m:List Sm):Senv:={ EC (Bjg l m) 32 3 [6,7,8,9,14,15,16,17,18,30] (fun _=>([],[])) with
 ann:=fun q _ S=>match q with
  |0=>some { slots:=[17],keep:=[0,1,2,15,16],α:=Nat,st:=fun i=>([.int .i64 i],S),inv:=fun i=>i<=l.length/\∀j,j<i->exM (l.getD j default)=exM (m.getD j default),mu:=fun i=>l.length-i }
  |_=>none }
def QzQ(a b:List Sm):Prop:=RT (false=Bk (List.map exM a) (List.map exM b))
def Qco:Arr:=DA
def HT:Nd:=Nd.mk Z0 Z0 Z0 [] Z0 Z0 Qco [] [] Z0 Z0 Z0
def HU:Sm:=Sm.mk Z0 Z0 [] Z0 HT HT
def Qcp(a:List Sm)(b:Nat):Sm:=List.getD a b HU
def QzR(a:List Sm)(b:Nat):Sm:=exM (Qcp a b)
def QsB(a:Nat)(b c:List Sm):Prop:=a<=LN b/\∀(j:Nat),j<a->QzR b j=QzR c j
def Qc1(a:List Sm)(b:Nat):Sm:=List.getD a (Int.toNat (↑b:Int)) HU
def VN(a:List Sm)(b:Nat):Nd:=Sm.te (Qc1 a b)
def QnJ(a:List Sm)(b:Nat):Arr:=Nd.va (VN a b)
def QGx(a:List Sm)(b:Nat):List Int:=Arr.sh (QnJ a b)
def QGy(a:List Sm)(b:Nat):List Int:=Arr.nu (QnJ a b)
def QzS(a:List Sm)(b:Nat):List Arr:=Arr.it (QnJ a b)
def QzT(a:List Sm)(b:Nat):List Nd:=Nd.ki (VN a b)
def QzU(a:List Sm)(b:Nat):List Sm:=Nd.bo (VN a b)
def VO(a:List Sm)(b:Nat):Nd:=Sm.nd (Qc1 a b)
def QnK(a:List Sm)(b:Nat):Arr:=Nd.va (VO a b)
def QGz(a:List Sm)(b:Nat):List Int:=Arr.sh (QnK a b)
def QGA(a:List Sm)(b:Nat):List Int:=Arr.nu (QnK a b)
def QzV(a:List Sm)(b:Nat):List Arr:=Arr.it (QnK a b)
def QzW(a:List Sm)(b:Nat):List Nd:=Nd.ki (VO a b)
def QzX(a:List Sm)(b:Nat):List Sm:=Nd.bo (VO a b)
def QzY(a:List Sm)(b:Nat):D:=D.agg [ZI (Sm.kd (Qc1 a b)),ZI (Sm.at_ (Qc1 a b)),D.str (Sm.nm (Qc1 a b)),ZI (Sm.sl (Qc1 a b)),ZI (Nd.kd (VN a b)),ZI (Nd.at_ (VN a b)),ZI (Nd.cl (VN a b)),D.str (Nd.tx (VN a b)),ZI (Nd.pr (VN a b)),ZI (Nd.op (VN a b)),ZI (Arr.k (QnJ a b)),SI (QGx a b),SI (QGy a b),D.sl N4 (LN (QzS a b)) (fun i=>Arr.row (List.getD (QzS a b) i Qco)) Mode.any,D.sl 15 (LN (QzT a b)) (fun i=>Nd.row (List.getD (QzT a b) i HT)) Mode.any,D.sl 34 (LN (QzU a b)) (fun i=>Sm.row (List.getD (QzU a b) i HU)) Mode.any,ZI (Nd.de (VN a b)),ZI (Nd.sl (VN a b)),ZI (Nd.ss (VN a b)),ZI (Nd.kd (VO a b)),ZI (Nd.at_ (VO a b)),ZI (Nd.cl (VO a b)),D.str (Nd.tx (VO a b)),ZI (Nd.pr (VO a b)),ZI (Nd.op (VO a b)),ZI (Arr.k (QnK a b)),SI (QGz a b),SI (QGA a b),D.sl N4 (LN (QzV a b)) (fun i=>Arr.row (List.getD (QzV a b) i Qco)) Mode.any,D.sl 15 (LN (QzW a b)) (fun i=>Nd.row (List.getD (QzW a b) i HT)) Mode.any,D.sl 34 (LN (QzX a b)) (fun i=>Sm.row (List.getD (QzX a b) i HU)) Mode.any,ZI (Nd.de (VO a b)),ZI (Nd.sl (VO a b)),ZI (Nd.ss (VO a b))]
def VP(a:Sm):Nd:=Sm.te a
def QnL(a:Sm):Arr:=Nd.va (VP a)
def QGB(a:Sm):List Int:=Arr.sh (QnL a)
def QGC(a:Sm):List Int:=Arr.nu (QnL a)
def QzZ(a:Sm):List Arr:=Arr.it (QnL a)
def Qz0(a:Sm):List Nd:=Nd.ki (VP a)
def Qz1(a:Sm):List Sm:=Nd.bo (VP a)
def VQ(a:Sm):Nd:=Sm.nd a
def QnM(a:Sm):Arr:=Nd.va (VQ a)
def QGD(a:Sm):List Int:=Arr.sh (QnM a)
def QGE(a:Sm):List Int:=Arr.nu (QnM a)
def Qz2(a:Sm):List Arr:=Arr.it (QnM a)
def Qz3(a:Sm):List Nd:=Nd.ki (VQ a)
def Qz4(a:Sm):List Sm:=Nd.bo (VQ a)
def Qz5(a:Sm):D:=D.agg [ZI (Sm.kd a),ZI (Sm.at_ a),D.str (Sm.nm a),ZI (Sm.sl a),ZI (Nd.kd (VP a)),ZI (Nd.at_ (VP a)),ZI (Nd.cl (VP a)),D.str (Nd.tx (VP a)),ZI (Nd.pr (VP a)),ZI (Nd.op (VP a)),ZI (Arr.k (QnL a)),SI (QGB a),SI (QGC a),D.sl N4 (LN (QzZ a)) (fun i=>Arr.row (List.getD (QzZ a) i Qco)) Mode.any,D.sl 15 (LN (Qz0 a)) (fun i=>Nd.row (List.getD (Qz0 a) i HT)) Mode.any,D.sl 34 (LN (Qz1 a)) (fun i=>Sm.row (List.getD (Qz1 a) i HU)) Mode.any,ZI (Nd.de (VP a)),ZI (Nd.sl (VP a)),ZI (Nd.ss (VP a)),ZI (Nd.kd (VQ a)),ZI (Nd.at_ (VQ a)),ZI (Nd.cl (VQ a)),D.str (Nd.tx (VQ a)),ZI (Nd.pr (VQ a)),ZI (Nd.op (VQ a)),ZI (Arr.k (QnM a)),SI (QGD a),SI (QGE a),D.sl N4 (LN (Qz2 a)) (fun i=>Arr.row (List.getD (Qz2 a) i Qco)) Mode.any,D.sl 15 (LN (Qz3 a)) (fun i=>Nd.row (List.getD (Qz3 a) i HT)) Mode.any,D.sl 34 (LN (Qz4 a)) (fun i=>Sm.row (List.getD (Qz4 a) i HU)) Mode.any,ZI (Nd.de (VQ a)),ZI (Nd.sl (VQ a)),ZI (Nd.ss (VQ a))]
def VR(a:List Sm)(b:Nat):Nd:=Sm.te (Qcp a b)
def QnN(a:List Sm)(b:Nat):Arr:=Nd.va (VR a b)
def QGF(a:List Sm)(b:Nat):List Int:=Arr.sh (QnN a b)
def QGG(a:List Sm)(b:Nat):List Int:=Arr.nu (QnN a b)
def Qz6(a:List Sm)(b:Nat):List Arr:=Arr.it (QnN a b)
def Qz7(a:List Sm)(b:Nat):List Nd:=Nd.ki (VR a b)
def Qz8(a:List Sm)(b:Nat):List Sm:=Nd.bo (VR a b)
def VS(a:List Sm)(b:Nat):Nd:=Sm.nd (Qcp a b)
def QnO(a:List Sm)(b:Nat):Arr:=Nd.va (VS a b)
def QGH(a:List Sm)(b:Nat):List Int:=Arr.sh (QnO a b)
def QGI(a:List Sm)(b:Nat):List Int:=Arr.nu (QnO a b)
def Qz9(a:List Sm)(b:Nat):List Arr:=Arr.it (QnO a b)
def QAa(a:List Sm)(b:Nat):List Nd:=Nd.ki (VS a b)
def QAb(a:List Sm)(b:Nat):List Sm:=Nd.bo (VS a b)
def QGJ(a:List Sm):D:=D.sl 34 (LN a) (fun i=>[ZI (Sm.kd (Qcp a i)),ZI (Sm.at_ (Qcp a i)),D.str (Sm.nm (Qcp a i)),ZI (Sm.sl (Qcp a i)),ZI (Nd.kd (VR a i)),ZI (Nd.at_ (VR a i)),ZI (Nd.cl (VR a i)),D.str (Nd.tx (VR a i)),ZI (Nd.pr (VR a i)),ZI (Nd.op (VR a i)),ZI (Arr.k (QnN a i)),SI (QGF a i),SI (QGG a i),D.sl N4 (LN (Qz6 a i)) (fun i_1=>Arr.row (List.getD (Qz6 a i) i_1 Qco)) Mode.any,D.sl 15 (LN (Qz7 a i)) (fun i_1=>Nd.row (List.getD (Qz7 a i) i_1 HT)) Mode.any,D.sl 34 (LN (Qz8 a i)) (fun i_1=>Sm.row (List.getD (Qz8 a i) i_1 HU)) Mode.any,ZI (Nd.de (VR a i)),ZI (Nd.sl (VR a i)),ZI (Nd.ss (VR a i)),ZI (Nd.kd (VS a i)),ZI (Nd.at_ (VS a i)),ZI (Nd.cl (VS a i)),D.str (Nd.tx (VS a i)),ZI (Nd.pr (VS a i)),ZI (Nd.op (VS a i)),ZI (Arr.k (QnO a i)),SI (QGH a i),SI (QGI a i),D.sl N4 (LN (Qz9 a i)) (fun i_1=>Arr.row (List.getD (Qz9 a i) i_1 Qco)) Mode.any,D.sl 15 (LN (QAa a i)) (fun i_1=>Nd.row (List.getD (QAa a i) i_1 HT)) Mode.any,D.sl 34 (LN (QAb a i)) (fun i_1=>Sm.row (List.getD (QAb a i) i_1 HU)) Mode.any,ZI (Nd.de (VS a i)),ZI (Nd.sl (VS a i)),ZI (Nd.ss (VS a i))]) Mode.any
def QsC(a:List Sm):Prop:=SM (QGJ a)
theorem Fes_ok(l m : List Sm)(hl : l.length<=maxLen)(hm : m.length<=maxLen)(h : ∀x∈l, ∀y∈m, CD 30 [.agg x.row1, .agg y.row1] (.bool (Bk (exM x) (exM y)))) :
  CD 29 [gsl 34 Sm.row1 l,gsl 34 Sm.row1 m,.fn (.func 30) [] []] (.bool (Bk (l.map exM) (m.map exM))):=by
 refine Bh (A:=sC _ _) (x:=()) (E:=FFes l m) (eOk ?_ rfl) Tryz.func29 rfl (by kernel_rfl) rfl (by simp[sC,FFes,EC,E0]) ?_
 ·intro k ds S A hh
  unfold Bjg at hh
  split at hh
  ·injection hh with hh;subst hh
   exact B7 fun x ⟨e,h1,h2⟩=>CD.at_ (CD.wk (h _ h1 _ h2) e) _
  ·cases hh
 refine Bl (T :=
  ifB ((LI l) != (LI m)) (QzQ l m) ((∃(x:Nat),QsB x l m/\(Z0=(↑x:Int)/\True)/\True/\True)/\∀(x:Nat),QsB x l m->ifB (decide ((↑x:Int)<(LI l))) (Bf (Z0<=(↑x:Int)/\(↑x:Int)<(LI l)) (∀(x_1:Nat),True->SM x_1/\Bf (Z0<=(↑x:Int)/\(↑x:Int)<(LI m)) (∀(x_2:Nat),x_1≠x_2/\True->SM x_2/\SM x_1/\SM x_2/\∃(x_3:Sm×Sm),(wkL [QzY l x,QzY m x] [Qz5 x_3.1,Qz5 x_3.2]/\x_3.1∈l/\x_3.2∈m)/\∀(y:Unit),True->ifB (!Bk (exM x_3.1) (exM x_3.2)) (QzQ l m) ((QsC l/\QsC m/\SM (D.fn (Fn.func (30:Nat)) [] [])/\QsC l/\SM (ZI (LI l))/\True)/\∃(y:Nat),QsB y l m/\LN l-y<LN l-x/\(IntKind.wrap IntKind.i64 ((↑x:Int)+Z1)=(↑y:Int)/\True)/\True/\True)))) (RT (true=Bk (List.map exM l) (List.map exM m))))) (by kernel_rfl) ?_
 delta DA GI LI LN N1 N4 SI SM Z0 Z1 ZI QzQ Qco HT HU Qcp QzR QsB Qc1 VN QnJ QGx QGy QzS QzT QzU VO QnK QGz QGA QzV QzW QzX QzY VP QnL QGB QGC QzZ Qz0 Qz1 VQ QnM QGD QGE Qz2 Qz3 Qz4 Qz5 VR QnN QGF QGG Qz6 Qz7 Qz8 VS QnO QGH QGI Qz9 QAa QAb QGJ QsC RT
 try simp only[<- dm]
 try simp only[<- dn]
 simp only[eq_self,ne_eq,implies_true,Bo,Int.toNat_natCast,Bg,Be,decide_eq_true_eq,decide_eq_false_iff_not,true_and,and_true,beq_iff_eq,bne_iff_ne,bne_eq_false_iff_eq,beq_eq_false_iff_ne,Bool.not_eq_true',Bool.not_eq_false',exists_const,forall_const,Prod.exists]
 simp only[maxLen] at hl hm
 have gm:∀ {i:Nat},i<l.length->i<m.length->l.getD i default∈l/\m.getD i default∈m:=fun h1 h2=>⟨by rw[List.getD_eq_getElem?_getD,List.getElem?_eq_getElem h1];exact List.getElem_mem h1,by rw[List.getD_eq_getElem?_getD,List.getElem?_eq_getElem h2];exact List.getElem_mem h2⟩
 have gmap:∀ {l:List Sm} {i:Nat},i<l.length->(l.map exM).getD i (exM default)=exM (l.getD i default):=fun h=>by simp[List.getD_eq_getElem?_getD,h]
 refine⟨fun h=>Bi fun e=>h (by have:=congrArg List.length e;simp only[List.length_map] at this;omega),fun he=>⟨⟨0,⟨Nat.zero_le _,fun j hj=>absurd hj (by omega)⟩,rfl⟩,fun i ⟨i1,hi⟩=>⟨fun hlt=>⟨⟨by omega,hlt⟩,fun _=>⟨⟨by omega,by omega⟩,fun _ _=>⟨l.getD i default,m.getD i default,⟨Bc _,gm (by omega) (by omega)⟩,fun hn=>Bi fun e=>?_,fun hs=>⟨i+1,⟨by omega,fun j hj=>?_⟩,by omega,Bb (by omega) (by omega)⟩⟩⟩⟩,fun hge=>Ee ?_⟩⟩⟩
 ·have e2:exM (l.getD i default)=exM (m.getD i default):=by
   rw[<- gmap (by omega),<- gmap (by omega),e]
  rw[e2,Bq.2 rfl] at hn;cases hn
 ·by_cases q:j=i
  ·rw[q];exact Bq.1 hs
  ·exact hi j (by omega)
 ·refine CJ (exM default) (by simp;omega) fun j hj=>?_
  have hj:j<l.length:=by simpa using hj
  rw[gmap hj,gmap (by omega)]
  exact hi j (by omega)
def VSame(a b:Nd):Prop:=CD 53 [.agg a.row2,.agg b.row2] (.bool (Bk (exN a) (exN b)))
noncomputable def Be0:Con:=fun k ds S=>match k with
 |53=>some (pE (β:=Nd×Nd) ds S (fun x=>.bool (Bk (exN x.1) (exN x.2))) (fun x=>wkL ds [.agg x.1.row1,.agg x.2.row1]/\VSame x.1 x.2))
 |_=>none
theorem BhD:ConOk Tryz.prog Be0:=by
 intro k ds S A hh
 unfold Be0 at hh
 split at hh
 ·injection hh with hh;subst hh
  exact B7 fun x ⟨e,h1⟩=>CD.at_ (CD.wk (CD.wk h1 GD) e) _
 ·cases hh
noncomputable def Fst:Senv:={ EC Be0 38 5 [] (fun _=>([],[])) with mg:=fun _=>2 }
def VT(a:Sm):Nd:=Sm.te a
def QnP(a:Sm):Arr:=Nd.va (VT a)
def QGK(a:Sm):List Int:=Arr.sh (QnP a)
def QGL(a:Sm):List Int:=Arr.nu (QnP a)
def QAc(a:Sm):List Arr:=Arr.it (QnP a)
def QnQ:Arr:=DA
def QAd(a:Sm):List Nd:=Nd.ki (VT a)
def Qmf:Nd:=Nd.mk Z0 Z0 Z0 [] Z0 Z0 QnQ [] [] Z0 Z0 Z0
def QAe(a:Sm):List Sm:=Nd.bo (VT a)
def QsD:Sm:=Sm.mk Z0 Z0 [] Z0 Qmf Qmf
def QAf(a:Sm):D:=D.agg [ZI (Nd.kd (VT a)),ZI (Nd.at_ (VT a)),ZI (Nd.cl (VT a)),D.str (Nd.tx (VT a)),ZI (Nd.pr (VT a)),ZI (Nd.op (VT a)),ZI (Arr.k (QnP a)),SI (QGK a),SI (QGL a),D.sl N4 (LN (QAc a)) (fun i=>Arr.row (List.getD (QAc a) i QnQ)) Mode.any,D.sl 15 (LN (QAd a)) (fun i=>Nd.row (List.getD (QAd a) i Qmf)) Mode.any,D.sl 34 (LN (QAe a)) (fun i=>Sm.row (List.getD (QAe a) i QsD)) Mode.any,ZI (Nd.de (VT a)),ZI (Nd.sl (VT a)),ZI (Nd.ss (VT a))]
def QnR(a:Nd):Arr:=Nd.va a
def QGM(a:Nd):List Int:=Arr.sh (QnR a)
def QGN(a:Nd):List Int:=Arr.nu (QnR a)
def QAg(a:Nd):List Arr:=Arr.it (QnR a)
def QAh(a:Nd):D:=D.agg [ZI (Nd.kd a),ZI (Nd.at_ a),ZI (Nd.cl a),D.str (Nd.tx a),ZI (Nd.pr a),ZI (Nd.op a),ZI (Arr.k (QnR a)),SI (QGM a),SI (QGN a),D.sl N4 (LN (QAg a)) (fun i=>Arr.row (List.getD (QAg a) i QnQ)) Mode.any,D.sl 15 (LN (Nd.ki a)) (fun i=>Nd.row (List.getD (Nd.ki a) i Qmf)) Mode.any,D.sl 34 (LN (Nd.bo a)) (fun i=>Sm.row (List.getD (Nd.bo a) i QsD)) Mode.any,ZI (Nd.de a),ZI (Nd.sl a),ZI (Nd.ss a)]
def QAi(a b:Nd):List D:=[QAh a,QAh b]
def QAj(a b:Nd):Bool:=Bk (exN a) (exN b)
def VU(a:Sm):Nd:=Sm.nd a
def QnS(a:Sm):Arr:=Nd.va (VU a)
def QGO(a:Sm):List Int:=Arr.sh (QnS a)
def QGP(a:Sm):List Int:=Arr.nu (QnS a)
def QAk(a:Sm):List Arr:=Arr.it (QnS a)
def QAl(a:Sm):List Nd:=Nd.ki (VU a)
def QAm(a:Sm):List Sm:=Nd.bo (VU a)
def QAn(a:Sm):D:=D.agg [ZI (Nd.kd (VU a)),ZI (Nd.at_ (VU a)),ZI (Nd.cl (VU a)),D.str (Nd.tx (VU a)),ZI (Nd.pr (VU a)),ZI (Nd.op (VU a)),ZI (Arr.k (QnS a)),SI (QGO a),SI (QGP a),D.sl N4 (LN (QAk a)) (fun i=>Arr.row (List.getD (QAk a) i QnQ)) Mode.any,D.sl 15 (LN (QAl a)) (fun i=>Nd.row (List.getD (QAl a) i Qmf)) Mode.any,D.sl 34 (LN (QAm a)) (fun i=>Sm.row (List.getD (QAm a) i QsD)) Mode.any,ZI (Nd.de (VU a)),ZI (Nd.sl (VU a)),ZI (Nd.ss (VU a))]
def QAo(a b:Sm):Bool:=Bk (exM a) (exM b)
def QnT(a b:Sm):Prop:=RT (false=QAo a b)
theorem Bdo(x y:Sm)(h1:VSame x.te y.te)(h2:VSame x.nd y.nd):CD 30 [.agg x.row1,.agg y.row1] (.bool (Bk (exM x) (exM y))):=by
 refine Bh (A:=sC _ _) (x:=()) (E:=Fst) (eOk BhD rfl) Tryz.func30 rfl (by kernel_rfl) rfl (by simp[sC,Fst,EC,E0]) ?_
 refine Bl (T :=
  ∀(x_1:Nat),True->∀(x_2:Nat),x_1≠x_2/\True->SM x_1/\SM x_2/\ifB (Sm.kd x==Sm.kd y) (SM x_1/\SM x_2/\ifB (Sm.nm x==Sm.nm y) (SM x_1/\SM x_2/\ifB (Sm.sl x==Sm.sl y) (SM x_1/\SM x_2/\∃(x_3:Nd×Nd),(wkL [QAf x,QAf y] (QAi x_3.1 x_3.2)/\VSame x_3.1 x_3.2)/\∀(y_1:Unit),True->ifB (QAj x_3.1 x_3.2) (SM x_1/\SM x_2/\∃(x_4:Nd×Nd),(wkL [QAn x,QAn y] (QAi x_4.1 x_4.2)/\VSame x_4.1 x_4.2)/\∀(y_2:Unit),True->True/\∃(y_3:Unit),True/\QAj x_4.1 x_4.2=QAo x y/\True/\True) (QnT x y)) (QnT x y)) (QnT x y)) (QnT x y)) (by kernel_rfl) ?_
 delta DA GI LN N1 N4 SI SM Z0 ZI VU QnS QGO QGP QAk QAl QAm QAn QAo QnT VT QnP QGK QGL QAc QnQ QAd Qmf QAe QsD QAf QnR QGM QGN QAg QAh QAi QAj RT
 try simp only[<- dm]
 try simp only[<- dn]
 simp only[eq_self,ne_eq,implies_true,Bo,Int.toNat_natCast,Bg,Be,decide_eq_true_eq,decide_eq_false_iff_not,true_and,and_true,beq_iff_eq,bne_iff_ne,bne_eq_false_iff_eq,beq_eq_false_iff_ne,Bool.not_eq_true',Bool.not_eq_false',exists_const,forall_const,Prod.exists]
 have iff:=BbZ x y
 have no:∀ {α:Type} {x y:α},Bk x y=false->x≠y:=fun h e=>by rw[Bq.2 e] at h;cases h
 refine fun u v _=>⟨fun a1=>⟨fun a2=>⟨fun a3=>⟨x.te,y.te,⟨Bc _,h1⟩,fun a4=>⟨x.nd,y.nd,⟨Bc _,h2⟩,?_⟩,fun a4=>Bi fun e=>no a4 (iff.1 e).2.2.2.1⟩,fun a3=>Bi fun e=>a3 (iff.1 e).2.2.1⟩,fun a2=>Bi fun e=>a2 (iff.1 e).2.1⟩,fun a1=>Bi fun e=>a1 (iff.1 e).1⟩
 exact Cw ⟨fun e=>iff.2 ⟨a1,a2,a3,Bq.1 a4,e⟩,fun e=>(iff.1 e).2.2.2.2⟩
noncomputable def Bkg(a b:Nd):Con:=fun k ds S=>match k with
 |82=>some (pA ds S (.bool (Bk a.va b.va)) (wkL ds [.agg a.va.row1,.agg b.va.row1]))
 |83=>some (pA ds S (.bool (Bk (a.ki.map exN) (b.ki.map exN))) (wkL ds [gsl 15 Nd.row1 a.ki,gsl 15 Nd.row1 b.ki,.fn (.func 53) [] []]))
 |29=>some (pA ds S (.bool (Bk (a.bo.map exM) (b.bo.map exM))) (wkL ds [gsl 34 Sm.row1 a.bo,gsl 34 Sm.row1 b.bo,.fn (.func 30) [] []]))
 |_=>none
noncomputable def Fsa(a b:Nd):Senv:={ EC (Bkg a b) 80 5 [] (fun _=>([],[])) with mg:=fun _=>2 }
def Qc2(a:Nd):Arr:=Nd.va a
def QGQ(a:Nd):List Int:=Arr.sh (Qc2 a)
def QGR(a:Nd):List Int:=Arr.nu (Qc2 a)
def QAp(a:Nd):List Arr:=Arr.it (Qc2 a)
def QAq:Arr:=DA
def QAr(a:Nd):D:=D.agg [ZI (Arr.k (Qc2 a)),SI (QGQ a),SI (QGR a),D.sl N4 (LN (QAp a)) (fun i=>Arr.row (List.getD (QAp a) i QAq)) Mode.any]
def QAs(a b:Nd):List D:=[QAr a,QAr b]
def QsE:Nd:=Nd.mk Z0 Z0 Z0 [] Z0 Z0 QAq [] [] Z0 Z0 Z0
def QAt(a:Nd):D:=D.sl 15 (LN (Nd.ki a)) (fun i=>Nd.row1 (List.getD (Nd.ki a) i QsE)) Mode.any
def QAu(a b:Nd):List D:=[QAt a,QAt b,D.fn (Fn.func (53:Nat)) [] []]
def QAv(a:Nd):D:=D.sl 34 (LN (Nd.bo a)) (fun i=>Sm.row1 (List.getD (Nd.bo a) i (Sm.mk Z0 Z0 [] Z0 QsE QsE))) Mode.any
def QAw(a b:Nd):List D:=[QAv a,QAv b,D.fn (Fn.func (30:Nat)) [] []]
def QAx(a b:Nd):Bool:=Bk (exN a) (exN b)
def Yn(a b:Nd):Prop:=RT (false=QAx a b)
theorem Bjk(a b:Nd)(ha:a.sm/\a.va.ok)(hb:b.sm/\b.va.ok)(h1:∀x∈a.ki,∀y∈b.ki,VSame x y)(h2:∀x∈a.bo,∀y∈b.bo,VSame x.te y.te/\VSame x.nd y.nd):VSame a b:=by
 refine Bh (A:=sC _ _) (x:=()) (E:=Fsa a b) (eOk ?_ rfl) Tryz.func53 rfl (by kernel_rfl) rfl (by simp[sC,Fsa,EC,E0]) ?_
 ·intro k ds S A hh
  unfold Bkg at hh
  have a1:=BZ ha.1
  have b1:=BZ hb.1
  split at hh
  ·injection hh with hh;subst hh
   exact Bm fun e=>CD.at_ (CD.wk (Ben (Bfe a.va b.va ha.2 hb.2)) e) _
  ·injection hh with hh;subst hh
   exact Bm fun e=>CD.at_ (CD.wk (Fen_ok a.ki b.ki (BD a1.2.1) (BD b1.2.1) fun x hx y hy=>CD.wk (h1 x hx y hy) GD) e) _
  ·injection hh with hh;subst hh
   exact Bm fun e=>CD.at_ (CD.wk (Fes_ok a.bo b.bo (BD a1.2.2) (BD b1.2.2) fun x hx y hy=>Bdo x y (h2 x hx y hy).1 (h2 x hx y hy).2) e) _
  ·cases hh
 refine Bl (T :=
  ∀(x:Nat),True->∀(x_1:Nat),x≠x_1/\True->SM x/\SM x_1/\ifB (Nd.kd a==Nd.kd b) (SM x/\SM x_1/\ifB (Nd.cl a==Nd.cl b) (SM x/\SM x_1/\ifB (Nd.tx a==Nd.tx b) (SM x/\SM x_1/\ifB (Nd.pr a==Nd.pr b) (SM x/\SM x_1/\ifB (Nd.op a==Nd.op b) (SM x/\SM x_1/\ifB (Nd.de a==Nd.de b) (SM x/\SM x_1/\ifB (Nd.sl a==Nd.sl b) (SM x/\SM x_1/\ifB (Nd.ss a==Nd.ss b) (SM x/\SM x_1/\∃(x_2:Unit),wkL (QAs a b) (QAs a b)/\∀(y:Unit),True->ifB (Bk (Qc2 a) (Qc2 b)) (SM x/\SM x_1/\∃(x_3:Unit),wkL (QAu a b) (QAu a b)/\∀(y:Unit),True->ifB (Bk (List.map exN (Nd.ki a)) (List.map exN (Nd.ki b))) (SM x/\SM x_1/\∃(x:Unit),wkL (QAw a b) (QAw a b)/\∀(y:Unit),True->RT (Bk (List.map exM (Nd.bo a)) (List.map exM (Nd.bo b))=QAx a b)) (Yn a b)) (Yn a b)) (Yn a b)) (Yn a b)) (Yn a b)) (Yn a b)) (Yn a b)) (Yn a b)) (Yn a b)) (Yn a b)) (by kernel_rfl) ?_
 delta DA GI LN N1 N4 SI SM Z0 ZI Qc2 QGQ QGR QAp QAq QAr QAs QsE QAt QAu QAv QAw QAx Yn RT
 try simp only[<- dm]
 try simp only[<- dn]
 simp only[eq_self,ne_eq,implies_true,Bo,Int.toNat_natCast,Bg,Be,decide_eq_true_eq,decide_eq_false_iff_not,true_and,and_true,beq_iff_eq,bne_iff_ne,bne_eq_false_iff_eq,beq_eq_false_iff_ne,Bool.not_eq_true',Bool.not_eq_false',exists_const,forall_const,Prod.exists]
 have iff:=BcD a b
 have no:∀ {α:Type} {x y:α},Bk x y=false->x≠y:=fun h e=>by rw[Bq.2 e] at h;cases h
 refine fun u v _=>⟨fun a1=>⟨fun a2=>⟨fun a3=>⟨fun a4=>⟨fun a5=>⟨fun a6=>⟨fun a7=>⟨fun a8=>⟨Bc _,fun a9=>⟨Bc _,fun a10=>⟨Bc _,?_⟩,fun a10=>Bi fun e=>no a10 (iff.1 e).2.2.2.2.2.2.2.2.2.1⟩,fun a9=>Bi fun e=>no a9 (iff.1 e).2.2.2.2.2.2.2.2.1⟩,fun a8=>Bi fun e=>a8 (iff.1 e).2.2.2.2.2.2.2.1⟩,fun a7=>Bi fun e=>a7 (iff.1 e).2.2.2.2.2.2.1⟩,fun a6=>Bi fun e=>a6 (iff.1 e).2.2.2.2.2.1⟩,fun a5=>Bi fun e=>a5 (iff.1 e).2.2.2.2.1⟩,fun a4=>Bi fun e=>a4 (iff.1 e).2.2.2.1⟩,fun a3=>Bi fun e=>a3 (iff.1 e).2.2.1⟩,fun a2=>Bi fun e=>a2 (iff.1 e).2.1⟩,fun a1=>Bi fun e=>a1 (iff.1 e).1⟩
 exact Cw ⟨fun e=>iff.2 ⟨a1,a2,a3,a4,a5,a6,a7,a8,Bq.1 a9,Bq.1 a10,e⟩,fun e=>(iff.1 e).2.2.2.2.2.2.2.2.2.2⟩
theorem Bag(a b:Nd)(ha:a.ok/\a.sm)(hb:b.ok/\b.sm):VSame a b :=
  Bjk a b ⟨ha.2,Ih ha.1⟩ ⟨hb.2,Ih hb.1⟩ (fun x hx y hy => Bag x y ⟨Ip ha.1 x hx,Cv ha.2 (BQ hx)⟩ ⟨Ip hb.1 y hy,Cv hb.2 (BQ hy)⟩) fun x hx y hy =>
    ⟨Bag x.te y.te ⟨(BM (Co ha.1 x hx)).1,(By (Cu ha.2 x hx)).1⟩ ⟨(BM (Co hb.1 y hy)).1,(By (Cu hb.2 y hy)).1⟩,
     Bag x.nd y.nd ⟨(BM (Co ha.1 x hx)).2,(By (Cu ha.2 x hx)).2⟩ ⟨(BM (Co hb.1 y hy)).2,(By (Cu hb.2 y hy)).2⟩⟩
termination_by SizeOf.sizeOf a
decreasing_by
  · exact Nd.size_kid hx
  · have := Nd.size_stmt hx
    have := Sm.size_te x
    omega
  · have := Nd.size_stmt hx
    have := Sm.size_nd x
    omega
theorem Bmz(x y:Sm)(hx:x.ok/\x.sm)(hy:y.ok/\y.sm):CD 30 [.agg x.row1,.agg y.row1] (.bool (Bk (exM x) (exM y))) :=
 Bdo x y (Bag _ _ ⟨(BM hx.1).1,(By hx.2).1⟩ ⟨(BM hy.1).1,(By hy.2).1⟩) (Bag _ _ ⟨(BM hx.1).2,(By hx.2).2⟩ ⟨(BM hy.1).2,(By hy.2).2⟩)
noncomputable def Bi7(a b:List Sm):Con:=fun k ds S=>match k with
 |29=>some (pA ds S (.bool (Bk (a.map exM) (b.map exM))) (wkL ds [gsl 34 Sm.row1 a,gsl 34 Sm.row1 b,.fn (.func 30) [] []]))
 |_=>none
noncomputable def Fsp(a b:List Sm):Senv:=EC (Bi7 a b) 17 5 [] (fun _=>([],[]))
def QAy:Nd:=Nd.mk Z0 Z0 Z0 [] Z0 Z0 DA [] [] Z0 Z0 Z0
def QAz(a:List Sm):D:=D.sl 34 (LN a) (fun i=>Sm.row1 (List.getD a i (Sm.mk Z0 Z0 [] Z0 QAy QAy))) Mode.any
def QAA(a b:List Sm):List D:=[QAz a,QAz b,D.fn (Fn.func (30:Nat)) [] []]
theorem Bb4(a b:List Sm)(na nb:Int)(ha:okS a)(hb:okS b):CD 15 [.agg [gsl 34 Sm.row1 a,.int .i64 na],.agg [gsl 34 Sm.row1 b,.int .i64 nb]] (.bool (decide (na=nb)&&Bk (a.map exM) (b.map exM))):=by
 refine Bh (A:=sC _ _) (x:=()) (E:=Fsp a b) (eOk ?_ rfl) Tryz.func15 rfl (by kernel_rfl) rfl (by simp[sC,Fsp,EC,E0]) ?_
 ·intro k ds S A hh
  try unfold Bi7 at hh
  try dsimp only at hh
  split at hh
  ·injection hh with hh;subst hh
   exact Bm fun e=>CD.at_ (CD.wk (Fes_ok a b (BD ha.1) (BD hb.1) fun x hx y hy=>Bmz x y ⟨ha.2.1 x hx,ha.2.2 x hx⟩ ⟨hb.2.1 y hy,hb.2.2 y hy⟩) e) _
  ·cases hh
 refine Bl (T :=
  ∀(x:Nat),True->∀(x_1:Nat),x≠x_1/\True->SM x/\SM x_1/\ifB (na==nb) (SM x/\SM x_1/\∃(x:Unit),wkL (QAA a b) (QAA a b)/\∀(y:Unit),True->RT (Bk (List.map exM a) (List.map exM b)=(decide (na=nb)&&Bk (List.map exM a) (List.map exM b)))) (RT (false=(decide (na=nb)&&Bk (List.map exM a) (List.map exM b))))) (by kernel_rfl) ?_
 delta DA LN SM Z0 QAy QAz QAA RT
 try simp only[<- dm]
 try simp only[<- dn]
 simp only[eq_self,ne_eq,implies_true,Bo,Int.toNat_natCast,Bg,Be,decide_eq_true_eq,decide_eq_false_iff_not,true_and,and_true,beq_iff_eq,bne_iff_ne,bne_eq_false_iff_eq,beq_eq_false_iff_ne,Bool.not_eq_true',Bool.not_eq_false',exists_const,forall_const,Prod.exists]
 exact fun _ _ _=>⟨fun h=>⟨Bc _,by rw[decide_eq_true h,Bool.true_and]⟩,fun h=>by rw[decide_eq_false h,Bool.false_and]⟩
open Go Go.Ab Go.Proofs Go.RowKit Go.Shelf
attribute [local go_sem] Oper.semAt_some
abbrev OT (s:List UInt8):Value:=.string ⟨s.toArray⟩
def bkL(l:List (List UInt8)):Nat->List (Nat×List UInt8)
 |0=>[]
 |n+1=>(n,l.getD n [])::bkL l n
theorem Bbx(l:List (List UInt8)):∀n,(bkL l n).length=n
 |0=>rfl
 |n+1=>by simp only[bkL,List.length_cons,Bbx l n]
def TV(nm:List UInt8):List (Nat×List UInt8)->Int
 | []=>-1
 |x::r=>if x.2=nm then x.1 else TV nm r
def Blo(x:Nat×List UInt8):Array Value:=#[.int .i64 x.1,OT x.2]
def NamesAt(n₀:Nat)(w:World)(a:Option Addr)(l:List (List UInt8)):Prop:=∀i,i<l.length->∃b o,a=some ⟨b,o,none⟩/\b<n₀/\w.cell? ⟨b,o+i,none⟩=some (OT (l.getD i []))
theorem NamesAt.below{n₀:Nat}{w w':World}{a:Option Addr}{l:List (List UInt8)}(h:NamesAt n₀ w a l)(hb:Below n₀ w w'):NamesAt n₀ w' a l:=fun i hi=>by
 obtain ⟨b,o,h1,h2,h3⟩:=h i hi
 exact⟨b,o,h1,h2,(hb.cell (p:=⟨b,o+i,none⟩) h2).trans h3⟩
def BlM:Value->Nat
 |.int _ z=>(z+1).toNat
 |_=>0
set_option maxHeartbeats 1000000 in
theorem BiH(F : Fence)(n : Nat)(h6 : F.fn 127)(hro : F.round=none)(hn : 1<=n)(l Bn n₀ : Nat)(a : Option Addr)(cap : Nat)(xs : List (List UInt8))(hx : xs.length<=1000000)(J Jx : List (Nat×List UInt8) -> World -> Prop)
  (hY:∀pre x W,J pre W->pre.length<xs.length->YieldAt F (n-1) Tryz.prog l (Blo x) W fun e W' =>
   (e=.returned (.bool true)/\J (pre++[x]) W'/\Below n₀ W W')\/(e=.returned (.bool false)/\Jx (pre++[x]) W'))
  (W:World) (hBn:W.cell? ⟨Bn,0,none⟩=some (.slice a xs.length cap)) (hBl:Bn<n₀) (hL:NamesAt n₀ W a xs) (h0:J [] W) :
  CallsIn F n Tryz.prog 127 #[.func (.yield l) #[] #[],.pointer (some ⟨Bn,0,none⟩)] W fun e W'=>(∃v,e=.returned v) /\
   ((∃ys,ys=bkL xs xs.length/\J ys W')\/(∃pre,pre <+: bkL xs xs.length/\Jx pre W')):=by
 refine callsIn_of_wp Tryz.func127 rfl h6 ?_ hro
 simp only[Tryz.ntmps127,List.size_toArray,List.length_cons,List.length_nil,Nat.reduceAdd,Nat.reduceSub,Array.replicate_succ,Array.replicate_zero,List.push_toArray,List.append_toArray,List.nil_append,List.cons_append]
 gi_wp2
 gi_loopw [3] (fun p wr=>∃(m:Nat) (pre:List (Nat×List UInt8)),p=.int .i64 ((m:Int)-1)/\m<=xs.length/\bkL xs xs.length=pre++bkL xs m/\NamesAt n₀ wr a xs/\wr.cell? ⟨Bn,0,none⟩=some (.slice a xs.length cap)/\J pre wr)
  (fun p _=>BlM p)
 case atStart =>
  exact⟨xs.length,[],rfl,Nat.le_refl _,rfl,hL,hBn,h0⟩
 case round =>
  obtain ⟨m,pre,rfl,hm,hx2,hl,hB,hJs⟩:=hrel
  cases m with
  |zero =>
   gi_wp2
   go_end0
   exact⟨⟨_,rfl⟩,.inl ⟨pre,by rw[hx2];simp[bkL],hJs⟩⟩
  |succ m =>
   obtain ⟨b,o,rfl,hb,hv⟩:=hl m (by omega)
   have hpl:pre.length<xs.length:=by
    have:=congrArg List.length hx2
    rw[List.length_append,Bbx,Bbx] at this
    omega
   obtain ⟨fn,tmps,assign,body,hy,hR⟩:=hY pre (m,xs.getD m []) wr hJs hpl
   have hx3:bkL xs (m+1)=(m,xs.getD m [])::bkL xs m:=rfl
   rw[hx3] at hx2
   generalize xs.getD m []=x at hv hy hR hx2
   simp only[Blo] at hy
   gi_wp2
   refine hR.mono ?_
   rintro e W3 (⟨rfl,hJ3,hk3⟩ | ⟨rfl,hJx3⟩)
   ·have hB3:W3.cell? ⟨Bn,0,none⟩=some (.slice (some ⟨b,o,none⟩) xs.length cap):=(hk3.cell (p:=⟨Bn,0,none⟩) hBl).trans hB
    gi_wp2
    go_roundw
    case rel=>exact⟨m,pre++[(m,x)],by simp,by omega,by rw[hx2];simp,hl.below hk3,hB3,hJ3⟩
    case measure=>simp[BlM]
   ·gi_wp2
    refine bodyPost_ret (results_none rfl _ _ _) rfl ?_
    exact⟨⟨_,rfl⟩,.inr ⟨pre++[(m,x)],⟨bkL xs m,by rw[hx2];simp⟩,hJx3⟩⟩
set_option maxHeartbeats 1000000 in
theorem BkU(F : Fence)(n : Nat)(h5 : F.fn 107)(hro : F.round=none)(v : Value)(hv : ∃a l c, v=.slice a l c)(w : World) :
  CallsIn F n Tryz.prog 107 #[v] w fun e w'=>e=.returned (.func (.func 127) #[] #[.pointer (some ⟨w.heap.size,0,none⟩)])/\w'=w.alloc (.cells #[v] 49):=by
 obtain ⟨a,l,c,rfl⟩:=hv
 refine callsIn_of_wp Tryz.func107 rfl h5 ?_ hro
 simp only[Tryz.ntmps107,List.size_toArray,List.length_cons,List.length_nil,Nat.reduceAdd,Nat.reduceSub,Array.replicate_succ,Array.replicate_zero,List.push_toArray,List.append_toArray,List.nil_append,List.cons_append]
 gi_wp2
 go_ret
 exact⟨rfl,rfl⟩
theorem BeH(F : Fence)(n : Nat)(h6 : F.fn 127)(hro : F.round=none)(hn : 1<=n)(Bn n₀ : Nat)(a : Option Addr)(cap : Nat)(xs : List (List UInt8))(hx : xs.length<=1000000)(w : World)(hBn : Bn<w.heap.size)(hB0 : Bn<n₀)(hn₀ : n₀<=w.heap.size)
  (hc:w.cell? ⟨Bn,0,none⟩=some (.slice a xs.length cap)) (hL:NamesAt n₀ w a xs) :
  SeqStopsK F n Tryz.prog 127 #[.pointer (some ⟨Bn,0,none⟩)] Blo (Below n₀) (fun ys=>ys=bkL xs xs.length) (fun pre=>pre <+: bkL xs xs.length) xs.length w:=fun l J Jx W hW _ _ hY h0 =>
 BiH F n h6 hro hn l Bn n₀ a cap xs hx J Jx hY W ((hW.cell (p:=⟨Bn,0,none⟩) hBn).trans hc) hB0 (hL.below (hW.mono hn₀)) h0
theorem BiU{W:World}{B:Nat}{v:Value}{t:TypeId}(h:W.heap[B]? =some (.cells #[v] t (0,0))):W.cell? ⟨B,0,none⟩=some v/\W.frozen? ⟨B,0,none⟩=false:=by
 constructor<;>simp[World.cell?,World.frozen?,h]
theorem Tj(W:World)(v:Value)(t:TypeId):(W.alloc (.cells #[v] t)).cell? ⟨W.heap.size,0,none⟩=some v/\(W.alloc (.cells #[v] t)).frozen? ⟨W.heap.size,0,none⟩=false :=
 BiU (World.alloc_heap_new W _)
theorem TL{W:World}{a:Addr}{v:Value}(o:Obj)(h:W.cell? a=some v):(W.alloc o).cell? a=some v:=cell_kept h (World.grownBy_alloc W o none) (fun r e=>by cases e)
theorem Bhz{W:World}{a:Addr}{v:Value}(o:Obj)(h:W.cell? a=some v)(hf:W.frozen? a=false):(W.alloc o).frozen? a=false:=(frozen_kept h (World.grownBy_alloc W o none) (fun r e=>by cases e)).trans hf
theorem Bc5{nm:List UInt8}:∀ {l:List (Nat×List UInt8)},(∀y∈l,y.2≠nm)->TV nm l = -1
 | [],_=>rfl
 |x::r,h=>by rw[TV,if_neg (h x (by simp)),Bc5 fun y hy=>h y (by simp[hy])]
theorem BjY{nm:List UInt8}:∀ {p:List (Nat×List UInt8)} (_:∀y∈p,y.2≠nm) {x:Nat×List UInt8} (_:x.2=nm) {r:List (Nat×List UInt8)},TV nm (p++x::r)=x.1
 | [],_,x,hx,r=>by rw[List.nil_append,TV,if_pos hx]
 |y::p,h,x,hx,r=>by rw[List.cons_append,TV,if_neg (h y (by simp)),BjY (fun z hz=>h z (by simp[hz])) hx]
set_option maxHeartbeats 2000000 in
theorem BkI(F : Fence)(n : Nat)(h4 : F.fn 75)(h5 : F.fn 107)(h6 : F.fn 127)(hro : F.round=none)(hn : 3<=n)(bd od : Nat)(a : Option Addr)(cap : Nat)(xs : List (List UInt8))(nm : List UInt8)(hx : xs.length<=1000000)(w : World)
  (_hbd:bd<w.heap.size) (hd:w.cell? ⟨bd,od,none⟩=some (.slice a xs.length cap)) (hL:NamesAt w.heap.size w a xs) :
  CallsIn F n Tryz.prog 75 #[.pointer (some ⟨bd,od,none⟩),OT nm] w fun e W'=>e=.returned (.int .i64 (TV nm (bkL xs xs.length)))/\Below w.heap.size w W':=by
 have h1:1<=n:=by omega
 refine callsIn_of_wp_marks Tryz.func75 rfl h4 ?_ hro
 simp only[Tryz.ntmps75,List.size_toArray,List.length_cons,List.length_nil,Nat.reduceAdd,Nat.reduceSub,Array.replicate_succ,Array.replicate_zero,List.push_toArray,List.append_toArray,List.nil_append,List.cons_append]
 have d1:=TL (.cells #[OT nm] 9) hd
 have d2:=TL (.cells #[.int .i64 0] 3) d1
 gi_wp2_with (gi_at_call 107;refine (BkU F (n-1) h5 hro _ ⟨_,_,_,rfl⟩ _).mono ?_;rintro e w' ⟨rfl,rfl⟩)
 have c0:=Tj w (OT nm) 9
 have c1:=Tj (w.alloc (.cells #[OT nm] 9)) (.int .i64 0) 3
 have c2:=Tj ((w.alloc (.cells #[OT nm] 9)).alloc (.cells #[.int .i64 0] 3)) (.slice a xs.length cap) 49
 simp only[World.size_alloc] at c1 c2
 have hB0:Below w.heap.size w (((w.alloc (.cells #[OT nm] 9)).alloc (.cells #[.int .i64 0] 3)).alloc (.cells #[.slice a xs.length cap] 49)):=(((Below.refl _ w).alloc (Nat.le_refl _) _).alloc (by simp) _).alloc (by simp;omega) _
 have hL0:NamesAt (w.heap.size+3) (((w.alloc (.cells #[OT nm] 9)).alloc (.cells #[.int .i64 0] 3)).alloc (.cells #[.slice a xs.length cap] 49)) a xs:=fun i hi=>by
  obtain ⟨b,o,e1,e2,e3⟩:=hL.below hB0 i hi
  exact⟨b,o,e1,by omega,e3⟩
 refine wpIn_rangeFunc_ownF hro h1 (gf:=127) (lb:=#[.pointer (some ⟨w.heap.size+1+1,0,none⟩)]) rfl h6 (enters_of Tryz.func127 (by kernel_rfl) rfl)
  (BeH F (n-1) h6 hro (by omega) (w.heap.size+1+1) (w.heap.size+3) a cap xs hx _ (by simp) (by omega) (by simp) c2.1 hL0) belowK_t (belowK_b (by simp)) (Below.refl _ _) (fun _=>rfl)
  (fun pre W=>((∀y∈pre,y.2≠nm)/\W.cell? ⟨w.heap.size,0,none⟩=some (OT nm)/\W.cell? ⟨w.heap.size+1,0,none⟩=some (.int .i64 0)/\W.frozen? ⟨w.heap.size+1,0,none⟩=false)/\Below w.heap.size w W)
  (fun c pre W=>(c=.ret/\(∃p x,pre=p++[x]/\(∀y∈p,y.2≠nm)/\x.2=nm/\W.cell? ⟨w.heap.size+1,0,none⟩=some (.int .i64 (x.1:Nat))))/\Below w.heap.size w W)
  (OwnFrom.and (Own.from (fun s A B row hs hg hr=>⟨hs.1,cell_kept hs.2.1 hg hr,cell_kept hs.2.2.1 hg hr,(frozen_kept hs.2.2.1 hg hr).trans hs.2.2.2⟩) _) (ownFrom_below (Nat.le_refl _) (by simp;omega)))
  (fun c=>OwnFrom.and (Own.from (fun s A B row hs hg hr=>⟨hs.1,by obtain ⟨p,x,q1,q2,q3,q4⟩:=hs.2;exact⟨p,x,q1,q2,q3,cell_kept q4 hg hr⟩⟩) _) (ownFrom_below (Nat.le_refl _) (by simp;omega)))
  ⟨⟨by simp,TL _ (TL _ c0.1),TL _ c1.1,Bhz _ c1.1 c1.2⟩,hB0⟩
  (fun x=>{ tmps:=#[.pointer (some ⟨bd,od,none⟩),OT nm,undef,.pointer (some ⟨w.heap.size,0,none⟩),.pointer (some ⟨w.heap.size+1,0,none⟩),.int .i64 (x.1:Nat),OT x.2,.pointer (some ⟨bd,od,none⟩),.pointer (some ⟨bd,od,none⟩),.pointer (some ⟨bd,od,none⟩),.slice a xs.length cap,.func (.func 127) #[] #[.pointer (some ⟨w.heap.size+1+1,0,none⟩)],.int .i64 (x.1:Nat),OT x.2,undef,undef,undef,undef],defers:=[] }) ?assign ?body ?done ?stop
 case assign =>
  intro l x W K hK
  rw[show Blo x=#[.int .i64 x.1,OT x.2] from rfl]
  gi_wp2
  exact hK
 case body =>
  rintro l pre x W ⟨⟨hp,hcw,hcr,hfr⟩,hB⟩ _
  gi_wp2
  ·rename_i hx2
   have hx3:x.2=nm:=by
    have:=eq_of_beq hx2
    simpa using this
   exact⟨KeepsOthers.setCell _ _ _,⟨rfl,pre,x,rfl,hp,hx3,World.cell?_setCell_same' _ _ _ (by rw[hcr];rfl)⟩,hB.setCell (p:=⟨w.heap.size+1,0,none⟩) (by simp) _⟩
  ·rename_i hx2
   have hx3:x.2≠nm:=fun e=>by subst e;simp at hx2
   exact⟨KeepsOthers.refl _,Below.refl _ _,⟨fun y hy=>(List.mem_append.1 hy).elim (hp y) (fun e e'=>by simp at e;subst e;exact hx3 e'),hcw,hcr,hfr⟩,hB⟩
 case done =>
  rintro D ys W hD rfl ⟨⟨hne,_,hcr,hfr⟩,hB⟩ hK
  gi_wp2
  have hK':=(KeepsOthers.setCell W ⟨w.heap.size+1,0,none⟩ (.int .i64 (-1))).same D _ hK rfl
  refine⟨by simp,.inl ⟨_,_,rfl,run_takeDeferred hK',?_⟩⟩
  have hc5:=cell_kept (World.cell?_setCell_same' W ⟨w.heap.size+1,0,none⟩ (.int .i64 (-1)) (by rw[hcr];rfl)) (grownBy_putObj' _ D (.deferred none)) (fun r e=>by cases e;exact⟨_,hK',rfl⟩)
  refine⟨.int .i64 (-1),?_,by rw[Bc5 hne],(hB.setCell (p:=⟨w.heap.size+1,0,none⟩) (by simp) _).trans (belowK_b (w:=w) (Nat.le_refl _) _ D _ _ (by simp at hD;omega) hK' rfl rfl)⟩
  simp[results,Tryz.f75,go_sem,hc5]
 case stop =>
  rintro D c pre W hD hpre ⟨⟨rfl,p,x,rfl,hp,hx3,hcr⟩,hB⟩ hK
  gi_wp2
  refine⟨by simp,.inl ⟨_,_,rfl,run_takeDeferred hK,?_⟩⟩
  have hc5:=cell_kept hcr (grownBy_putObj' _ D (.deferred none)) (fun r e=>by cases e;exact⟨_,hK,rfl⟩)
  obtain ⟨r,hr⟩:=hpre
  refine⟨.int .i64 (x.1:Nat),?_,by rw[<- hr,List.append_assoc,List.singleton_append,BjY hp hx3],hB.trans (belowK_b (w:=w) (Nat.le_refl _) W D _ _ (by simp at hD;omega) hK rfl rfl)⟩
  simp[results,Tryz.f75,go_sem,hc5]
theorem BfJ(bd od : Nat)(a : Option Addr)(cap : Nat)(xs : List (List UInt8))(nm : List UInt8)(hx : xs.length<=1000000)(w : World)
  (hbd:bd<w.heap.size) (hd:w.cell? ⟨bd,od,none⟩=some (.slice a xs.length cap)) (hL:NamesAt w.heap.size w a xs) :
  Calls Tryz.prog 75 #[.pointer (some ⟨bd,od,none⟩),OT nm] w fun e W'=>e=.returned (.int .i64 (TV nm (bkL xs xs.length)))/\Below w.heap.size w W' :=
 callsIn_wide.1 (BkI Fence.wide 3 trivial trivial trivial rfl (by omega) bd od a cap xs nm hx w hbd hd hL)
def CZ(k:Nat)(ds:List D)(Z:AEnd->Prop):Prop:=ACalls Tryz.prog k ds ⟨[],[]⟩ (fun r _=>Z r)
theorem CZ.any{k:Nat}{ds:List D}{Z:AEnd->Prop}(h:CZ k ds Z){S:St}{R:AEnd->St->Prop}(hr:∀r,Z r->R r S):ACalls Tryz.prog k ds S R:=by
 refine ((ACalls.frame h S).from fun C F w H=>?_).to ?_
 ·simpa[St.add] using H
 ·rintro r S' ⟨S0,h1,rfl⟩
  refine⟨S,fun C F w H=>?_,hr r h1⟩
  exact H.le ⟨List.sublist_append_right _ _,List.sublist_append_right _ _⟩
theorem CZ.mono{k:Nat}{ds:List D}{Z Z':AEnd->Prop}(h:CZ k ds Z)(hz:∀r,Z r->Z' r):CZ k ds Z':=ACalls.mono h fun r _ hr=>hz r hr
theorem CZ.wk{k:Nat}{ds us:List D}{Z:AEnd->Prop}(h:CZ k us Z)(hw:wkL ds us):CZ k ds Z:=ACalls.wkArgs h hw
def nmF(f:Frm1):List (List UInt8):=f.map Prod.fst
def clF(f:Frm1):List Int:=f.map Prod.snd
def frD:Scp->D
 | []=>.nilp
 |f::r=>.pt [ssl (nmF f) .any,isl (clF f) .any,frD r]
def frR(f:Frm1)(r:Scp):List D:=[ssl (nmF f) .any,isl (clF f) .any,frD r]
theorem Bc6(f:Frm1)(r:Scp):frD (f::r)=.pt (frR f r):=rfl
def OO(nm:List UInt8)(f:Frm1):Int:=TV nm (bkL (nmF f) f.length)
theorem BgG{l:List (List UInt8)}:∀ {n:Nat} {y:Nat×List UInt8},y∈bkL l n->y.1<n/\y.2=l.getD y.1 []
 |0,y,h=>by cases h
 |n+1,y,h=>by
  rcases List.mem_cons.1 h with rfl | h
  ·exact⟨by simp,rfl⟩
  ·have:=BgG h
   exact⟨by omega,this.2⟩
theorem Tl{nm:List UInt8}:∀ {l:List (Nat×List UInt8)},TV nm l<0↔∀y∈l,y.2≠nm
 | []=>by simp[TV]
 |x::r=>by
  rw[TV]
  split
  ·rename_i e
   constructor
   ·intro h;omega
   ·intro h;exact (h x (by simp) e).elim
  ·rename_i e
   rw[Tl]
   simp[e]
theorem BfY{l:List (List UInt8)}:∀ {n i:Nat},i<n->(i,l.getD i [])∈bkL l n
 |n+1,i,h=>by
  by_cases e:i=n
  ·subst e;exact List.mem_cons_self
  ·exact List.mem_cons_of_mem _ (BfY (by omega))
theorem Gb(f:Frm1)(i:Nat):(f.map Prod.fst).getD i []=(f.getD i ([],0)).1:=by
 simp only[List.getD_eq_getElem?_getD,List.getElem?_map]
 cases f[i]? <;>rfl
theorem Mb(f:Frm1)(i:Nat):(f.map Prod.snd).getD i 0=(f.getD i ([],0)).2:=by
 simp only[List.getD_eq_getElem?_getD,List.getElem?_map]
 cases f[i]? <;>rfl
theorem Bdu(nm:List UInt8)(f:Frm1):OO nm f<0↔Cx nm f=none:=by
 unfold OO nmF
 rw[Tl,W8]
 constructor
 ·intro h d hd
  obtain ⟨i,hi,e⟩:=List.getElem_of_mem hd
  have:=h _ (BfY (l:=f.map Prod.fst) hi)
  rw[Gb,List.getD_eq_getElem?_getD,List.getElem?_eq_getElem hi] at this
  simpa[e] using this
 ·intro h y hy
  obtain ⟨h1,h2⟩:=BgG hy
  rw[h2,Gb,List.getD_eq_getElem?_getD,List.getElem?_eq_getElem h1]
  exact h _ (List.getElem_mem h1)
theorem Ba8{nm:List UInt8}{l:List (List UInt8)}(hn:l.Nodup){i:Nat}(hi:i<l.length)(e:l.getD i []=nm):∀n,i<n->n<=l.length->TV nm (bkL l n)=i
 |n+1,h,hl=>by
  rw[bkL,TV]
  by_cases q:i=n
  ·subst q
   rw[if_pos e]
  ·have:l.getD n []≠nm:=by
    intro e2
    rw[List.getD_eq_getElem?_getD,List.getElem?_eq_getElem hi] at e
    rw[List.getD_eq_getElem?_getD,List.getElem?_eq_getElem (by omega)] at e2
    simp only[Option.getD_some] at e e2
    exact q ((List.getElem_inj hn).1 (e.trans e2.symm))
   rw[if_neg this]
   exact Ba8 hn hi e n (by omega) (by omega)
theorem BhS{nm:List UInt8}{f:Frm1}{i:Nat}{c:Int}(hn:(nmF f).Nodup)(h:Cx nm f=some (i,c)):OO nm f=i/\i<f.length/\(clF f).getD i 0=c:=by
 obtain ⟨h1,h2⟩:=WF h
 refine⟨?_,h1,by unfold clF;rw[Mb,h2]⟩
 unfold nmF at hn
 exact Ba8 hn (by simpa using h1) (by rw[Gb,h2]) _ h1 (by simp)
theorem Bgw(nm:List UInt8)(f:Frm1)(r:List D)(hl:f.length<=1000000):CD 75 [.pt (ssl (nmF f) .any::r),.str nm] (.int .i64 (OO nm f)):=by
 refine⟨⟨_,Tryz.func75,by kernel_rfl,by kernel_rfl⟩,fun C F args w ha hs=>?_⟩
 obtain ⟨u,v,e,hu,hv⟩:=Ol ha
 have e2:args=[u,v].toArray:=by rw[<- e]
 subst e2
 simp only[Rep] at hv;subst hv
 simp only[Rep,RepCells] at hu
 obtain ⟨b,o,rfl,⟨v1,i1,i2⟩,_⟩:=hu
 simp only[ssl,Rep] at i2
 obtain ⟨a,len,cap,rfl,hh,hr⟩:=i2
 have hlen:len=(nmF f).length:=hh.1
 subst hlen
 have hlt:=hs.imm_lt i1
 have key:=BfJ b o a cap (nmF f) nm (by simpa[nmF] using hl) w hlt (hs.imm _ _ _ i1) (fun i hi=>by
  have hc:0<cap:=by have:=hh.2.1;omega
  have hx:∃x,a=some x:=by
   cases a with
   |none=>have:=hh.2.2.2.1 rfl;omega
   |some x=>exact⟨x,rfl⟩
  obtain ⟨⟨bk,o2,sp⟩,rfl⟩:=hx
  have hsp:sp=none:=hh.2.2.2.2.1 _ rfl hc
  subst hsp
  have hrow:=(hr _ rfl i hi).2
  simp only[RepCells] at hrow
  obtain ⟨⟨v,q1,q2⟩,_⟩:=hrow
  simp only[Rep] at q2
  subst q2
  have:=hs.imm _ _ _ q1
  exact⟨bk,o2,rfl,hs.imm_lt q1,by simpa using this⟩)
 refine key.mono ?_
 rintro e w' ⟨rfl,hb⟩
 refine⟨C,.ret (.int .i64 (OO nm f)),⟨[],[]⟩,.refl C,by simpa[St.add] using hs.kept hb,?_,(),trivial,rfl,rfl⟩
 simp[RepEnd,Rep,OO,nmF]
def GF(d:Nat)(x:Option (Nat×Nat×Int)):Option (Nat×Nat×Int):=x.map fun x=>(x.1+d,x.2.1,x.2.2)
theorem Tk(x:Option (Nat×Nat×Int)):GF 0 x=x:=by
 cases x<;>rfl
theorem M8(d e:Nat)(x:Option (Nat×Nat×Int)):GF d (GF e x)=GF (d+e) x:=by
 cases x with
 |none=>rfl
 |some y=>simp[GF];omega
def zFi(sc:Scp)(nm:List UInt8)(e:AEnd):Prop :=
 (Bv nm sc=none/\e=.ret (.tup [.nilp,.int .i64 (sc.length:Nat)]))\/∃(d i:Nat) (c:Int) (f:Frm1) (r:Scp),Bv nm sc=some (d,i,c)/\sc.drop d=f::r/\Cx nm f=some (i,c)/\e=.ret (.tup [.pt (frR f r),.int .i64 (d:Nat)])
def _root_.Go.Ab.endFi(sc:Scp)(nm:List UInt8)(e:AEnd)(_:St):Prop:=match e with
 |.ret (.tup [.nilp,.int .i64 z])=>Bv nm sc=none/\z=(sc.length:Int)
 |.ret (.tup [.pt row,.int .i64 z])=>∃(d i:Nat) (c:Int) (f:Frm1) (r:Scp),Bv nm sc=some (d,i,c)/\sc.drop d=f::r/\Cx nm f=some (i,c)/\row=frR f r/\z=d
 |_=>False
theorem Blm{sc:Scp}{nm:List UInt8}{e:AEnd}{S:St}(h:Go.Ab.endFi sc nm e S):zFi sc nm e:=by
 unfold Go.Ab.endFi at h
 split at h
 ·obtain ⟨h1,rfl⟩:=h;exact .inl ⟨h1,rfl⟩
 ·obtain ⟨d,i,c,f,r,h1,h2,h3,rfl,rfl⟩:=h;exact .inr ⟨d,i,c,f,r,h1,h2,h3,rfl⟩
 ·exact h.elim
def BjN(nm:List UInt8):Con:=fun k ds S=>match k with
 |75=>some (pE (β:=Frm1×Scp) ds S (fun x=>.int .i64 (OO nm x.1)) (fun x=>ds=[.pt (frR x.1 x.2),.str nm]/\x.1.length<=1000000))
 |_=>none
theorem BiS(nm:List UInt8):ConOk Tryz.prog (BjN nm):=by
 intro k ds S A hh
 unfold BjN at hh
 split at hh
 ·injection hh with hh;subst hh
  refine B7 fun x ⟨e,h⟩=>?_
  subst e
  exact CD.at_ (Bgw nm x.1 _ h) _
 ·cases hh
noncomputable def Efi(sc:Scp)(nm:List UInt8):Senv:={ EC (BjN nm) 25 2 [4,5,6,16] (fun _=>([],[])) with
 mg:=fun _=>2
 ann2:=fun b _ S=>match b with
  |0=>some ({ slots:=[0,6],keep:=[1],α:=Unit,st:=fun _=>([.nilp,.int .i64 (sc.length:Nat)],S),inv:=fun _=>Bv nm sc=none,mu:=fun _=>0 },
   { slots:=[0,6],keep:=[1],α:=Frm1×Scp×Nat,st:=fun y=>([.pt (frR y.1 y.2.1),.int .i64 (y.2.2:Nat)],S),inv:=fun y=>sc.drop y.2.2=y.1::y.2.1/\Bv nm sc=GF y.2.2 (Bv nm (y.1::y.2.1)),mu:=fun y=>y.2.1.length+1 })
  |_=>none }
def QnU(a:List UInt8)(b:Frm1)(c:Scp):Option (Nat×Nat×Int):=Bv a (b::c)
def QnV(a:List UInt8)(b:Frm1)(c:Scp):Prop:=QnU a b c=none
def QsF(a:Frm1)(b:Scp):List D:=[D.sl N1 (LN (nmF a)) (fun i=>[D.str (List.getD (nmF a) i [])]) Mode.any,SI (clF a),frD b]
def Qc3(a:Frm1)(b:Scp):D:=D.pt (QsF a b)
def QnW:St:=St.mk [] []
def QnX:Prop:=StTo QnW QnW
def QnY(a:Nat)(b:Frm1)(c:Scp)(d:Frm1)(e:Scp)(f:List UInt8):Prop:=List.drop a (b::c)=d::e/\QnU f b c=GF a (QnU f d e)
def QAB(a:Frm1)(b:Scp)(c:List UInt8):List D:=[Qc3 a b,D.str c]
def QsG(a:Frm1)(b:Scp)(c:List UInt8)(d:Frm1×Scp×Nat):Nat:=LoopAnn.mu (LoopAnn.mk [N0,N6] [N1] (Frm1×Scp×Nat) (fun (y:Frm1×Scp×Nat)=>([Qc3 y.1 y.2.1,ZI (NI y.2.2)],QnW)) (fun (y:Frm1×Scp×Nat)=>QnY y.2.2 a b y.1 y.2.1 c) (fun (y:Frm1×Scp×Nat)=>LN y.2.1+N1) false fun (_x:Frm1×Scp×Nat)=>QnW) d
theorem Bnb(f0:Frm1)(r0:Scp)(nm:List UInt8)(h1:∀f∈f0::r0,f.length<=1000000)(h2:(f0::r0).length<=1000000):CZ 58 [.pt (frR f0 r0),.str nm] (zFi (f0::r0) nm):=by
 refine ACalls.mono (R:=Go.Ab.endFi (f0::r0) nm) ?_ fun _ _ h=>Blm h
 refine Ct (E:=Efi (f0::r0) nm) (eOk (BiS nm) rfl) Tryz.func58 rfl (by kernel_rfl) rfl (by simp[Efi,EC,E0]) ?_
 refine Bl (T :=
  ((∃(x:Unit),QnV nm f0 r0/\True/\(Qc3 f0 r0=D.nilp/\Z0=(LI (f0::r0))/\True)/\QnX)\/∃(x:Frm1×Scp×Nat),QnY x.2.2 f0 r0 x.1 x.2.1 nm/\True/\(Qc3 f0 r0=Qc3 x.1 x.2.1/\Z0=(NI x.2.2)/\True)/\QnX)/\(∀(x:Unit),QnV nm f0 r0->True/\QnV nm f0 r0/\SM (LI (f0::r0)))/\∀(x:Frm1×Scp×Nat),QnY x.2.2 f0 r0 x.1 x.2.1 nm->∃(x_1:Frm1×Scp),(QAB x.1 x.2.1 nm=QAB x_1.1 x_1.2 nm/\LN x_1.1<=1000000)/\∀(y:Unit),True->ifB (decide (OO nm x_1.1<Z0)) ((SM (D.str nm)/\True)/\((∃(x_2:Unit),QnV nm f0 r0/\N0<QsG f0 r0 nm x/\(Br (List.getD [frD x.2.1] N0 D.unk) D.nilp/\IntKind.wrap IntKind.i64 ((NI x.2.2)+Z1)=(LI (f0::r0))/\True)/\QnX)\/∃(x_2:Frm1×Scp×Nat),QnY x_2.2.2 f0 r0 x_2.1 x_2.2.1 nm/\QsG f0 r0 nm x_2<QsG f0 r0 nm x/\(Br (List.getD [frD x.2.1] N0 D.unk) (Qc3 x_2.1 x_2.2.1)/\IntKind.wrap IntKind.i64 ((NI x.2.2)+Z1)=(NI x_2.2.2)/\True)/\QnX)) (True/\∃(d:Nat),∃(i:Nat),∃(c:Int),∃(f:Frm1),∃(r:Scp),QnU nm f0 r0=some (d,i,c)/\List.drop d (f0::r0)=f::r/\Cx nm f=some (i,c)/\QsF x.1 x.2.1=QsF f r/\(NI x.2.2)=(↑d:Int))) (by kernel_rfl) ?_
 delta GI LI LN N0 N1 N6 NI SI SM Z0 Z1 ZI QnU QnV QsF Qc3 QnW QnX QnY QAB QsG
 refine⟨.inr ⟨(f0,r0,0),⟨rfl,(Tk _).symm⟩,trivial,⟨rfl,rfl,trivial⟩,StTo.refl _⟩,fun _ h=>⟨trivial,h,rfl⟩,?_⟩
 rintro ⟨f,r,d⟩ ⟨hd,hl⟩
 simp only at hd hl ⊢
 have hm:f∈f0::r0:=List.mem_of_mem_drop (i:=d) (by rw[hd];simp)
 have hlen:(f0::r0).length=d+1+r.length:=by
  have:=congrArg List.length hd
  simp only[List.length_drop,List.length_cons] at this ⊢
  omega
 refine⟨(f,r),⟨rfl,h1 f hm⟩,fun _ _=>Bg.2 ⟨fun hneg=>?_,fun hpos=>?_⟩⟩
 ·have hs:Cx nm f=none:=(Bdu nm f).1 (by simpa using hneg)
  have hL:Bv nm (f::r)=GF 1 (Bv nm r):=by rw[Bv,hs];rfl
  rw[hL,M8] at hl
  have hw:IntKind.i64.wrap ((d:Int)+1)=((d+1:Nat):Int):=by rw[Bb (by omega) (by omega)];rfl
  refine⟨⟨trivial,trivial⟩,?_⟩
  cases r with
  |nil =>
   refine .inl ⟨(),by rw[hl];rfl,Nat.succ_pos _,⟨trivial,?_,trivial⟩,StTo.refl _⟩
   rw[hw,hlen];rfl
  |cons f2 r2 =>
   refine .inr ⟨(f2,r2,d+1),⟨?_,hl⟩,Nat.lt_succ_self _,⟨rfl,hw,trivial⟩,StTo.refl _⟩
   have:=congrArg (List.drop 1) hd
   rwa [List.drop_drop] at this
 ·refine⟨trivial,?_⟩
  cases hs:Cx nm f with
  |none=>rw[(Bdu nm f).2 hs |> fun h=>decide_eq_true h] at hpos;cases hpos
  |some x =>
   obtain ⟨i,c⟩:=x
   refine⟨d,i,c,f,r,?_,hd,hs,rfl,rfl⟩
   rw[hl,Bv,hs]
   simp[GF]
def _root_.Go.Ab.cellsO(os:List (Nat×Nat×AObj))(k:Nat):List D:=match B6 os k with
 |some (_,.cells ds)=>ds
 |_=>[]
theorem ACalls.wkEnd{P:Program}{k:FuncId}{ds:List D}{S:St}{R R':AEnd->St->Prop}(h:ACalls P k ds S R)(hr:∀r S',R r S'->∃r',(∀C e,RepEnd C r e->RepEnd C r' e)/\R' r' S'):ACalls P k ds S R' :=
 ⟨h.1,fun C F args w ha hs=>(h.2 C F args w ha hs).mono fun _ _ ⟨C',_r,S',h1,h2,h3,h4⟩=>let ⟨r',q0,q2⟩:=hr _ _ h4;⟨C',r',S',h1,h2,q0 _ _ h3,q2⟩⟩
theorem Bj5(a:Arr):wkL a.row1 a.row:=by
 cases a with
 |mk k s n is =>
  simp only[Arr.row,Arr.row1,Arr.k,Arr.sh,Arr.nu,Arr.it,gsl,isl,wkL,wkD,Br,Ba]
  refine⟨⟨by simp[kEq],trivial⟩,⟨by simp,trivial,fun i _=>by simp[kEq],by simp[BG]⟩,⟨by simp,trivial,fun i _=>by simp[kEq],by simp[BG]⟩,⟨by simp,by simp[GZ],fun i hi=>?_,by simp[BG]⟩,trivial⟩
  have:(M0 is).getD i []=(is.getD i default).row:=by
   rw[GZ];simp[List.getD_eq_getElem?_getD,hi]
  rw[this]
  exact Bc _
theorem BjT{k:Int}{s:List Int}{nn ni:Nat}(h:Cg k s nn ni=0):s.length<=8:=by
 unfold Cg at h
 by_cases hk:k=1\/k=2\/k=3
 ·rw[if_pos hk] at h
  by_cases hd:Eb s≠0
  ·rw[if_pos hd] at h;exact (hd h).elim
  ·have hd:Eb s=0:=by simpa using hd
   unfold Eb at hd
   by_cases h8:8<s.length
   ·rw[if_pos h8] at hd;omega
   ·omega
 ·rw[if_neg hk] at h;omega
def _root_.Go.Ab.refKey:D->Nat
 |.ref k _ _=>k
 |_=>0
def _root_.Go.Ab.vkey(os:List (Nat×Nat×AObj))(k:Nat):Nat:=match cellsO os k with
 | [_,_,_,.vs kv _ _ _ _]=>kv
 |_=>0
def zrow:List D:=[.int .i64 0,.sl 1 0 (fun _=>[]) .nil,.sl 1 0 (fun _=>[]) .nil,.sl 1 0 (fun _=>[]) .nil]
def clR(its:List Arr)(i j:Nat):List D:=match Nat.blt j i with
 |true=>(its.getD j default).row1
 |false=>zrow
def sCl(row row':Arr->List D)(q:Arr->Prop):FnSpec where
 β:=Arr
 α:=Unit
 args:=fun a=>[.agg (row a)]
 st:=fun _=>⟨[],[]⟩
 pre:=q
 post:=fun _ _=>True
 res:=fun a _=>.ret (.agg (row' a))
 out:=fun _ _=>⟨[],[]⟩
def Bbf(its:List Arr):Con:=fun k _ _=>match k with
 |73=>some (sCl Arr.row1 Arr.row1 (fun b=>b∈its))
 |_=>none
theorem Rc{its:List Arr}{i j:Nat}(h:j<i):clR its i j=(its.getD j default).row1:=by
 unfold clR
 have:Nat.blt j i=true:=by simpa using h
 rw[this]
theorem Bjz{its:List Arr}{i j:Nat}(h:¬j<i):clR its i j=zrow:=by
 unfold clR
 cases hb:Nat.blt j i with
 |false=>rfl
 |true=>exact (h (by simpa using hb)).elim
noncomputable def Ecl(a:Arr):Senv:={ EC (Bbf a.it) 47 6 [32,33,34,35] (fun id=>match id with | 1=>([0,1,2,3,4,6,7,8,10,11,12,5,9,13,14,15,16],[5,9,13,15,16]) | 7=>([0,1,2,3,4,5,6],[4,6]) | _=>([],[])) with
 gz:=fun r=>match r with
  |9=>[.cell 17 1,.cell 17 2,.cell 17 3]
  |_=>[]
 cut:=fun id _ S=>match id with
  |1=>some { slots:=[3],keep:=[],α:=(Nat×Nat)×Nat×Nat,st:=fun y=>([.ref 17 y.2.2 0],⟨[(17,y.2.2,.cells [.int .i64 a.k,.vs 7 y.1.1 a.sh.length a.sh.length 1,.vs 11 y.1.2 a.nu.length a.nu.length 1,.vs 15 y.2.1 a.it.length a.it.length 4]),(15,y.2.1,.vec 4 a.it.length a.it.length (clR a.it 0)),(11,y.1.2,.vec 1 a.nu.length a.nu.length (fun _=>[.int .i64 0])),(7,y.1.1,.vec 1 a.sh.length a.sh.length (fun _=>[.int .i64 0]))]++S.objs,[]⟩),inv:=fun _=>True,mu:=fun _=>0 }
  |_=>none
 ann:=fun b env S=>match b with
  |0=>some { slots:=[34],keep:=[1,2,3,32,33],α:=Nat,st:=fun i=>([.int .i64 i],⟨Gv S.objs (vkey S.objs (refKey (Ab.look env 3))) (.vec 4 a.it.length a.it.length (clR a.it i)),S.toks⟩),inv:=fun i=>i<=a.it.length,mu:=fun i=>a.it.length-i }
  |_=>none }
def HJ(a:Arr):Nat:=LN (Arr.sh a)
def Qe(a:Arr):Int:=(NI (HJ a))
def K6(a:Arr):Int:=(8:Int)*Qe a
def HV(a:Arr):List Arr:=Arr.it a
def Jt(a:Arr):Nat:=LN (HV a)
def QnZ:Arr:=DA
def Qmg(a:Arr)(b:Nat):Arr:=List.getD (HV a) b QnZ
def QGS(a:Arr)(b:Nat):List Int:=Arr.sh (Qmg a b)
def QGT(a:Arr)(b:Nat):List Int:=Arr.nu (Qmg a b)
def QAC(a:Arr)(b:Nat):List Arr:=Arr.it (Qmg a b)
def QsH(a:Arr)(b:Nat):List D:=[ZI (Arr.k (Qmg a b)),SI (QGS a b),SI (QGT a b),D.sl N4 (LN (QAC a b)) (fun i=>Arr.row (List.getD (QAC a b) i QnZ)) Mode.any]
def QGU(a:Arr):D:=D.sl N4 (Jt a) (fun i=>QsH a i) Mode.any
def QAD(a:Arr):Prop:=SM (QGU a)
def Ju(a:Nat)(b:Arr):Prop:=SM a/\QAD b
def HK(a:Arr):Nat:=LN (Arr.nu a)
def Qn0(a:Arr)(b:Nat):List D:=[ZI (GI (Arr.nu a) b)]
def QAE(a:Arr):D:=D.sl N1 (HK a) (fun i=>Qn0 a i) Mode.any
def Jv(a:Nat)(b:Arr):Prop:=SM a/\SM (QAE b)
def QsI(a:Arr):Int:=Arr.k a
def QAF(a:Arr):D:=ZI (QsI a)
def Qm(a:Nat)(b:Arr):Prop:=SM a/\SM (QAF b)
def Qf(a:Arr):Int:=(NI (HK a))
def K7(a:Arr):Int:=(8:Int)*Qf a
def Vh(a b c d:Nat):Prop:=a≠b/\c≠b/\d≠b/\True
def Qd(a:Arr):Int:=(NI (Jt a))
def K8(a:Arr):Int:=(80:Int)*Qd a
def Kv(a b c d e:Nat):Prop:=a≠b/\Vh c b d e
def Kw(a b c d e f:Nat):Prop:=a≠b/\Kv c b d e f
def Qn1(a:Arr):Prop:=SM (QsI a)
def Qn2(a:Arr):Prop:=Int.toNat (Qe a)=HJ a
def Qn3(a:Arr):Prop:=Int.toNat (Qf a)=HK a
def Qn4(a:Arr):Prop:=Int.toNat (Qd a)=Jt a
def QsJ:D:=D.sl N1 N0 (fun _x=>[]) Mode.nil
def QAG:Prop:=SM [ZI Z0]
def QsK:Prop:=SM N0/\(∀(i:Nat),i<N0->BV (List D) [] [])/\True
def HW(a:Arr):Prop:=SM (HJ a)
def Qn5(a:Arr)(b:Nat):List D:=[ZI (GI (Arr.sh a) b)]
def QAH(a:Arr):Prop:=∀(i:Nat),i<HJ a->SM (Qn5 a i)
def QAI(a:Arr):Prop:=HW a/\QAH a/\True
def HX(a:Arr):Prop:=SM (HK a)
def QAJ(a:Arr):Prop:=∀(i:Nat),i<HK a->SM (Qn0 a i)
def QAK(a:Arr):Prop:=HX a/\QAJ a/\True
def HL(a:Arr):Prop:=SM (Jt a)
def Qmh(a:Nat)(b:Arr):Prop:=a<Jt b
def QAL(a b:Nat)(c:Arr):Prop:=SM a/\(SM Z0/\QsK/\QsK/\QsK/\True)/\SM b/\(Qn1 c/\QAI c/\QAK c/\(HL c/\(∀(i:Nat),Qmh i c->SM (QsH c i))/\True)/\True)/\True
def Kx(a:Nat)(b:Arr)(c d e f g:Nat):Prop:=Qm a b/\SM c/\∃(x:(Nat×Nat)×Nat×Nat),True/\(c=x.2.2/\True)/\(c=x.2.2/\(Qn1 b/\(d=x.1.1/\Qn2 b/\Qn2 b)/\(e=x.1.2/\Qn3 b/\Qn3 b)/\(f=x.2.1/\Qn4 b/\Qn4 b)/\True)/\f=x.2.1/\(Qn4 b/\Qn4 b/\∀(i:Nat),i<Int.toNat (Qd b)->[ZI Z0,QsJ,QsJ,QsJ]=clR (HV b) N0 i)/\e=x.1.2/\(Qn3 b/\Qn3 b/\∀(i:Nat),i<Int.toNat (Qf b)->QAG)/\d=x.1.1/\(Qn2 b/\Qn2 b/\∀(i:Nat),i<Int.toNat (Qe b)->QAG)/\QAL g a b)/\True
def QAM(a:Arr):D:=D.sl N1 (HJ a) (fun i=>Qn5 a i) Mode.any
def Jw(a:Nat)(b:Arr):Prop:=SM a/\SM (QAM b)
def QsL(a:Nat)(b:Arr):Prop:=a<=Jt b
def QAN(a:Arr)(b c d:Nat):Prop:=Qn1 a/\(SM b/\HW a/\HW a)/\(SM c/\HX a/\HX a)/\(SM d/\HL a/\HL a)/\True
def Qn6(a:Arr)(b c:Nat):List D:=clR (HV a) b c
def QAO(a:Nat)(b:Arr)(c d e:Nat):Prop:=SM a/\(HX b/\HX b/\QAJ b)/\SM c/\(HW b/\HW b/\QAH b)/\QAL d e b
def Qn7(a:Arr)(b:Nat):Arr:=List.getD (HV a) (Int.toNat (↑b:Int)) QnZ
def QAP(a:Arr)(b:Nat):List Int:=Arr.sh (Qn7 a b)
def QAQ(a:Arr)(b:Nat):Nat:=LN (QAP a b)
def QAR(a:Arr)(b:Nat):List Int:=Arr.nu (Qn7 a b)
def QAS(a:Arr)(b:Nat):Nat:=LN (QAR a b)
def QAT(a:Arr)(b:Nat):List Arr:=Arr.it (Qn7 a b)
def QAU(a:Arr)(b:Nat):Nat:=LN (QAT a b)
def QAV(a:Arr)(b:Nat):List D:=Arr.row (Qmg a b)
def QGV(a:Nat)(b:Arr):D:=D.vs (15:Nat) a (Jt b) (Jt b) N4
def QsM(a:D):Bool:=match a with | D.unk=>false | D.agg _cs=>false | D.tup _ds=>false | _x=>true
theorem BgA(a : Arr)(ha : a.nu.length<=1000000 /\ a.it.length<=1000000 /\ a.sh.length<=1000000)(hc : ConOk Tryz.prog (Bbf a.it)) :
  ACalls Tryz.prog 73 ((sCl Arr.row2 Arr.row2 (fun _=>True)).args a) ⟨[],[]⟩ (SpecR (sCl Arr.row2 Arr.row2 (fun _=>True)) a):=by
 refine Bh (A:=sCl Arr.row2 Arr.row2 (fun _=>True)) (x:=a) (E:=Ecl a) (eOk hc rfl) Tryz.func73 rfl (by kernel_rfl) rfl (by simp[sCl,Ecl,EC,E0]) ?_
 refine Bl (T :=
  ∀(x:Nat),True->∀(x_1:Nat),x≠x_1/\True->(SM x/\SM x/\SM x/\SM x/\Bf (Z0<=Qe a/\Qe a<=Qe a/\K6 a<=281474976710656/\Qe a<=9223372036854775807) (∀(x_2:Nat),x_1≠x_2/\x≠x_2/\True->Ju x a/\Jv x a/\Qm x a/\Bf (Z0<=Qf a/\Qf a<=Qf a/\K7 a<=281474976710656/\Qf a<=9223372036854775807) (∀(x_3:Nat),Vh x_2 x_3 x_1 x->Ju x a/\Qm x a/\Bf (Z0<=Qd a/\Qd a<=Qd a/\K8 a<=281474976710656/\Qd a<=9223372036854775807) (∀(x_4:Nat),Kv x_3 x_4 x_2 x_1 x->Qm x a/\∀(x_5:Nat),Kw x_4 x_5 x_3 x_2 x_1 x->Kx x a x_5 x_2 x_3 x_4 x_1)/\∀(x_4:Nat),Kv x_3 x_4 x_2 x_1 x->Ju x a/\Qm x a/\Bf (Z0<=Qd a/\Qd a<=Qd a/\K8 a<=281474976710656/\Qd a<=9223372036854775807) (∀(x_5:Nat),Kw x_4 x_5 x_3 x_2 x_1 x->Kx x a x_4 x_2 x_3 x_5 x_1))/\Bf (Z0<=Qd a/\Qd a<=Qd a/\K8 a<=281474976710656/\Qd a<=9223372036854775807) (∀(x_3:Nat),Vh x_2 x_3 x_1 x->Jv x a/\Qm x a/\Bf (Z0<=Qf a/\Qf a<=Qf a/\K7 a<=281474976710656/\Qf a<=9223372036854775807) (∀(x_4:Nat),Kv x_3 x_4 x_2 x_1 x->Qm x a/\∀(x_5:Nat),Kw x_4 x_5 x_3 x_2 x_1 x->Kx x a x_5 x_2 x_4 x_3 x_1)/\∀(x_4:Nat),Kv x_3 x_4 x_2 x_1 x->Jv x a/\Qm x a/\Bf (Z0<=Qf a/\Qf a<=Qf a/\K7 a<=281474976710656/\Qf a<=9223372036854775807) (∀(x_5:Nat),Kw x_4 x_5 x_3 x_2 x_1 x->Kx x a x_4 x_2 x_5 x_3 x_1))/\∀(x_3:Nat),Vh x_2 x_3 x_1 x->Ju x a/\Jv x a/\Qm x a/\Bf (Z0<=Qf a/\Qf a<=Qf a/\K7 a<=281474976710656/\Qf a<=9223372036854775807) (∀(x_4:Nat),Kv x_3 x_4 x_2 x_1 x->Ju x a/\Qm x a/\Bf (Z0<=Qd a/\Qd a<=Qd a/\K8 a<=281474976710656/\Qd a<=9223372036854775807) (∀(x_5:Nat),Kw x_4 x_5 x_3 x_2 x_1 x->Kx x a x_3 x_2 x_4 x_5 x_1))/\Bf (Z0<=Qd a/\Qd a<=Qd a/\K8 a<=281474976710656/\Qd a<=9223372036854775807) (∀(x_4:Nat),Kv x_3 x_4 x_2 x_1 x->Jv x a/\Qm x a/\Bf (Z0<=Qf a/\Qf a<=Qf a/\K7 a<=281474976710656/\Qf a<=9223372036854775807) (∀(x_5:Nat),Kw x_4 x_5 x_3 x_2 x_1 x->Kx x a x_3 x_2 x_5 x_4 x_1)))/\Bf (Z0<=Qf a/\Qf a<=Qf a/\K7 a<=281474976710656/\Qf a<=9223372036854775807) (∀(x_2:Nat),x_1≠x_2/\x≠x_2/\True->Ju x a/\Jw x a/\Qm x a/\Bf (Z0<=Qe a/\Qe a<=Qe a/\K6 a<=281474976710656/\Qe a<=9223372036854775807) (∀(x_3:Nat),Vh x_2 x_3 x_1 x->Ju x a/\Qm x a/\Bf (Z0<=Qd a/\Qd a<=Qd a/\K8 a<=281474976710656/\Qd a<=9223372036854775807) (∀(x_4:Nat),Kv x_3 x_4 x_2 x_1 x->Qm x a/\∀(x_5:Nat),Kw x_4 x_5 x_3 x_2 x_1 x->Kx x a x_5 x_3 x_2 x_4 x_1)/\∀(x_4:Nat),Kv x_3 x_4 x_2 x_1 x->Ju x a/\Qm x a/\Bf (Z0<=Qd a/\Qd a<=Qd a/\K8 a<=281474976710656/\Qd a<=9223372036854775807) (∀(x_5:Nat),Kw x_4 x_5 x_3 x_2 x_1 x->Kx x a x_4 x_3 x_2 x_5 x_1))/\Bf (Z0<=Qd a/\Qd a<=Qd a/\K8 a<=281474976710656/\Qd a<=9223372036854775807) (∀(x_3:Nat),Vh x_2 x_3 x_1 x->Jw x a/\Qm x a/\Bf (Z0<=Qe a/\Qe a<=Qe a/\K6 a<=281474976710656/\Qe a<=9223372036854775807) (∀(x_4:Nat),Kv x_3 x_4 x_2 x_1 x->Qm x a/\∀(x_5:Nat),Kw x_4 x_5 x_3 x_2 x_1 x->Kx x a x_5 x_4 x_2 x_3 x_1)/\∀(x_4:Nat),Kv x_3 x_4 x_2 x_1 x->Jw x a/\Qm x a/\Bf (Z0<=Qe a/\Qe a<=Qe a/\K6 a<=281474976710656/\Qe a<=9223372036854775807) (∀(x_5:Nat),Kw x_4 x_5 x_3 x_2 x_1 x->Kx x a x_4 x_5 x_2 x_3 x_1))/\∀(x_3:Nat),Vh x_2 x_3 x_1 x->Ju x a/\Jw x a/\Qm x a/\Bf (Z0<=Qe a/\Qe a<=Qe a/\K6 a<=281474976710656/\Qe a<=9223372036854775807) (∀(x_4:Nat),Kv x_3 x_4 x_2 x_1 x->Ju x a/\Qm x a/\Bf (Z0<=Qd a/\Qd a<=Qd a/\K8 a<=281474976710656/\Qd a<=9223372036854775807) (∀(x_5:Nat),Kw x_4 x_5 x_3 x_2 x_1 x->Kx x a x_3 x_4 x_2 x_5 x_1))/\Bf (Z0<=Qd a/\Qd a<=Qd a/\K8 a<=281474976710656/\Qd a<=9223372036854775807) (∀(x_4:Nat),Kv x_3 x_4 x_2 x_1 x->Jw x a/\Qm x a/\Bf (Z0<=Qe a/\Qe a<=Qe a/\K6 a<=281474976710656/\Qe a<=9223372036854775807) (∀(x_5:Nat),Kw x_4 x_5 x_3 x_2 x_1 x->Kx x a x_3 x_5 x_2 x_4 x_1)))/\Bf (Z0<=Qd a/\Qd a<=Qd a/\K8 a<=281474976710656/\Qd a<=9223372036854775807) (∀(x_2:Nat),x_1≠x_2/\x≠x_2/\True->Jv x a/\Jw x a/\Qm x a/\Bf (Z0<=Qe a/\Qe a<=Qe a/\K6 a<=281474976710656/\Qe a<=9223372036854775807) (∀(x_3:Nat),Vh x_2 x_3 x_1 x->Jv x a/\Qm x a/\Bf (Z0<=Qf a/\Qf a<=Qf a/\K7 a<=281474976710656/\Qf a<=9223372036854775807) (∀(x_4:Nat),Kv x_3 x_4 x_2 x_1 x->Qm x a/\∀(x_5:Nat),Kw x_4 x_5 x_3 x_2 x_1 x->Kx x a x_5 x_3 x_4 x_2 x_1)/\∀(x_4:Nat),Kv x_3 x_4 x_2 x_1 x->Jv x a/\Qm x a/\Bf (Z0<=Qf a/\Qf a<=Qf a/\K7 a<=281474976710656/\Qf a<=9223372036854775807) (∀(x_5:Nat),Kw x_4 x_5 x_3 x_2 x_1 x->Kx x a x_4 x_3 x_5 x_2 x_1))/\Bf (Z0<=Qf a/\Qf a<=Qf a/\K7 a<=281474976710656/\Qf a<=9223372036854775807) (∀(x_3:Nat),Vh x_2 x_3 x_1 x->Jw x a/\Qm x a/\Bf (Z0<=Qe a/\Qe a<=Qe a/\K6 a<=281474976710656/\Qe a<=9223372036854775807) (∀(x_4:Nat),Kv x_3 x_4 x_2 x_1 x->Qm x a/\∀(x_5:Nat),Kw x_4 x_5 x_3 x_2 x_1 x->Kx x a x_5 x_4 x_3 x_2 x_1)/\∀(x_4:Nat),Kv x_3 x_4 x_2 x_1 x->Jw x a/\Qm x a/\Bf (Z0<=Qe a/\Qe a<=Qe a/\K6 a<=281474976710656/\Qe a<=9223372036854775807) (∀(x_5:Nat),Kw x_4 x_5 x_3 x_2 x_1 x->Kx x a x_4 x_5 x_3 x_2 x_1))/\∀(x_3:Nat),Vh x_2 x_3 x_1 x->Jv x a/\Jw x a/\Qm x a/\Bf (Z0<=Qe a/\Qe a<=Qe a/\K6 a<=281474976710656/\Qe a<=9223372036854775807) (∀(x_4:Nat),Kv x_3 x_4 x_2 x_1 x->Jv x a/\Qm x a/\Bf (Z0<=Qf a/\Qf a<=Qf a/\K7 a<=281474976710656/\Qf a<=9223372036854775807) (∀(x_5:Nat),Kw x_4 x_5 x_3 x_2 x_1 x->Kx x a x_3 x_4 x_5 x_2 x_1))/\Bf (Z0<=Qf a/\Qf a<=Qf a/\K7 a<=281474976710656/\Qf a<=9223372036854775807) (∀(x_4:Nat),Kv x_3 x_4 x_2 x_1 x->Jw x a/\Qm x a/\Bf (Z0<=Qe a/\Qe a<=Qe a/\K6 a<=281474976710656/\Qe a<=9223372036854775807) (∀(x_5:Nat),Kw x_4 x_5 x_3 x_2 x_1 x->Kx x a x_3 x_5 x_4 x_2 x_1)))/\∀(x_2:Nat),x_1≠x_2/\x≠x_2/\True->Ju x a/\Jv x a/\Jw x a/\Qm x a/\Bf (Z0<=Qe a/\Qe a<=Qe a/\K6 a<=281474976710656/\Qe a<=9223372036854775807) (∀(x_3:Nat),Vh x_2 x_3 x_1 x->Ju x a/\Jv x a/\Qm x a/\Bf (Z0<=Qf a/\Qf a<=Qf a/\K7 a<=281474976710656/\Qf a<=9223372036854775807) (∀(x_4:Nat),Kv x_3 x_4 x_2 x_1 x->Ju x a/\Qm x a/\Bf (Z0<=Qd a/\Qd a<=Qd a/\K8 a<=281474976710656/\Qd a<=9223372036854775807) (∀(x_5:Nat),Kw x_4 x_5 x_3 x_2 x_1 x->Kx x a x_2 x_3 x_4 x_5 x_1))/\Bf (Z0<=Qd a/\Qd a<=Qd a/\K8 a<=281474976710656/\Qd a<=9223372036854775807) (∀(x_4:Nat),Kv x_3 x_4 x_2 x_1 x->Jv x a/\Qm x a/\Bf (Z0<=Qf a/\Qf a<=Qf a/\K7 a<=281474976710656/\Qf a<=9223372036854775807) (∀(x_5:Nat),Kw x_4 x_5 x_3 x_2 x_1 x->Kx x a x_2 x_3 x_5 x_4 x_1)))/\Bf (Z0<=Qf a/\Qf a<=Qf a/\K7 a<=281474976710656/\Qf a<=9223372036854775807) (∀(x_3:Nat),Vh x_2 x_3 x_1 x->Ju x a/\Jw x a/\Qm x a/\Bf (Z0<=Qe a/\Qe a<=Qe a/\K6 a<=281474976710656/\Qe a<=9223372036854775807) (∀(x_4:Nat),Kv x_3 x_4 x_2 x_1 x->Ju x a/\Qm x a/\Bf (Z0<=Qd a/\Qd a<=Qd a/\K8 a<=281474976710656/\Qd a<=9223372036854775807) (∀(x_5:Nat),Kw x_4 x_5 x_3 x_2 x_1 x->Kx x a x_2 x_4 x_3 x_5 x_1))/\Bf (Z0<=Qd a/\Qd a<=Qd a/\K8 a<=281474976710656/\Qd a<=9223372036854775807) (∀(x_4:Nat),Kv x_3 x_4 x_2 x_1 x->Jw x a/\Qm x a/\Bf (Z0<=Qe a/\Qe a<=Qe a/\K6 a<=281474976710656/\Qe a<=9223372036854775807) (∀(x_5:Nat),Kw x_4 x_5 x_3 x_2 x_1 x->Kx x a x_2 x_5 x_3 x_4 x_1)))/\Bf (Z0<=Qd a/\Qd a<=Qd a/\K8 a<=281474976710656/\Qd a<=9223372036854775807) (∀(x_3:Nat),Vh x_2 x_3 x_1 x->Jv x a/\Jw x a/\Qm x a/\Bf (Z0<=Qe a/\Qe a<=Qe a/\K6 a<=281474976710656/\Qe a<=9223372036854775807) (∀(x_4:Nat),Kv x_3 x_4 x_2 x_1 x->Jv x a/\Qm x a/\Bf (Z0<=Qf a/\Qf a<=Qf a/\K7 a<=281474976710656/\Qf a<=9223372036854775807) (∀(x_5:Nat),Kw x_4 x_5 x_3 x_2 x_1 x->Kx x a x_2 x_4 x_5 x_3 x_1))/\Bf (Z0<=Qf a/\Qf a<=Qf a/\K7 a<=281474976710656/\Qf a<=9223372036854775807) (∀(x_4:Nat),Kv x_3 x_4 x_2 x_1 x->Jw x a/\Qm x a/\Bf (Z0<=Qe a/\Qe a<=Qe a/\K6 a<=281474976710656/\Qe a<=9223372036854775807) (∀(x_5:Nat),Kw x_4 x_5 x_3 x_2 x_1 x->Kx x a x_2 x_5 x_4 x_3 x_1))))/\∀(x_2:(Nat×Nat)×Nat×Nat),True->SM x_2.2.2/\SM x/\SM x_2.1.1/\HW a/\HW a/\SM x_2.2.2/\SM x/\SM x_2.1.2/\HX a/\HX a/\SM x/\(∃(x_3:Nat),QsL x_3 a/\(Z0=(↑x_3:Int)/\True)/\(SM x_2.2.2/\QAN a x_2.1.1 x_2.1.2 x_2.2.1/\SM x_2.2.1/\(HL a/\HL a/\∀(i:Nat),Qmh i a->clR (HV a) N0 i=Qn6 a x_3 i)/\QAO x_2.1.2 a x_2.1.1 x_1 x)/\True)/\∀(x_3:Nat),QsL x_3 a->ifB (decide ((↑x_3:Int)<Qd a)) (Bf (Z0<=(↑x_3:Int)/\(↑x_3:Int)<Qd a) (∀(x_4:Nat),x_2.2.2≠x_4/\Kw x_2.2.1 x_4 x_2.1.2 x_2.1.1 x_1 x->SM x_4/\SM x_2.2.2/\SM x_4/\∃(x_5:Arr),((Arr.k (Qn7 a x_3)=QsI x_5/\(QAQ a x_3=HJ x_5/\(∀(i:Nat),i<QAQ a x_3->[ZI (GI (QAP a x_3) i)]=Qn5 x_5 i)/\True)/\(QAS a x_3=HK x_5/\(∀(i:Nat),i<QAS a x_3->[ZI (GI (QAR a x_3) i)]=Qn0 x_5 i)/\True)/\(QAU a x_3=Jt x_5/\(∀(i:Nat),i<QAU a x_3->Arr.row (List.getD (QAT a x_3) i QnZ)=QAV x_5 i)/\True)/\True)/\True)/\(True/\True)/\x_5∈HV a/\∀(y:Unit),True->(SM x_2.2.2/\SM (QGV x_2.2.1 a))/\Bf (Z0<=(↑x_3:Int)/\(↑x_3:Int)<Qd a) (SM x_2.2.1/\Bf (Int.toNat (↑x_3:Int)<Jt a) ((SM (D.ref N0 x N0)/\SM (D.ref (max (N0+N1) N0) x_1 N0)/\SM (D.ref (17:Nat) x_2.2.2 N0)/\QAD a/\SM (ZI (Qd a))/\True)/\∃(y:Nat),QsL y a/\Jt a-y<Jt a-x_3/\(IntKind.wrap IntKind.i64 ((↑x_3:Int)+Z1)=(↑y:Int)/\True)/\(SM x_2.2.2/\QAN a x_2.1.1 x_2.1.2 x_2.2.1/\SM x_2.2.1/\(HL a/\HL a/\∀(i:Nat),Qmh i a->GJ (clR (HV a) x_3) (Int.toNat (↑x_3:Int)) [QAF x_5,QAM x_5,QAE x_5,D.sl N4 (Jt x_5) (fun i=>QAV x_5 i) Mode.any] i=Qn6 a y i)/\QAO x_2.1.2 a x_2.1.1 x_1 x)/\True)))) (SM x_2.1.1/\HW a/\Bf (HJ a<=HJ a) ((∀(i:Nat),i<HJ a->(List.all (Qn5 a i) fun (x:D)=>QsM x)=true)/\∀(t:Nat),SM x_2.1.2/\HX a/\Bf (HK a<=HK a) ((∀(i:Nat),i<HK a->(List.all (Qn0 a i) fun (x:D)=>QsM x)=true)/\∀(t:Nat),SM x_2.2.1/\HL a/\Bf (Jt a<=Jt a) ((∀(i:Nat),Qmh i a->(List.all (Qn6 a x_3 i) fun (x:D)=>QsM x)=true)/\∀(t:Nat),SM x_2.2.2/\SM x_1/\(SM x_1/\True)/\∃(y:Unit),True/\(Qn1 a/\QAI a/\QAK a/\(HL a/\(∀(i:Nat),Qmh i a->Qn6 a x_3 i=QsH a i)/\True)/\True)/\True/\True))))) (by kernel_rfl) ?_
 delta DA GI LN N0 N1 N4 NI SI SM Z0 Z1 ZI HJ Qe QsH QGU QAD Ju HK Qn0 QAE Jv QsI QAF K6 Qm Qf K7 Vh Qd K8 Kv Kw Qn1 Qn2 HV Qn3 Qn4 QsJ QAG QsK HW Qn5 QAH QAI HX Jt QAJ QAK HL Qmh QAL Kx QAM Jw QsL QAN QnZ Qn6 QAO Qn7 QAP QAQ QAR QAS QAT QAU QAV Qmg QGV QsM QGS QGT QAC
 have da:(default:Arr)=Arr.mk 0 [] [] []:=rfl
 simp only[<- da,eq_self,implies_true,Int.toNat_natCast,Bg,Be,decide_eq_true_eq,decide_eq_false_iff_not,true_and,and_true,exists_const,forall_const]
 obtain ⟨l1,l2,l3⟩:=ha
 refine fun x x1 hx=>⟨?_,?_⟩
 ·repeat' (first | (refine⟨((_,_),_,_),rfl,rfl,⟨rfl,rfl,rfl⟩,rfl,fun _ _=>rfl,rfl,rfl⟩) | (refine And.intro ?_ ?_) | intro _ | omega)
 refine fun y=>⟨⟨0,Nat.zero_le _,rfl,fun _ _=>rfl⟩,fun i hi=>⟨fun hlt=>⟨⟨by omega,hlt⟩,fun x4 _=>⟨a.it.getD i default,⟨rfl,⟨rfl,fun _ _=>rfl⟩,⟨rfl,fun _ _=>rfl⟩,rfl,fun _ _=>rfl⟩,EM (by omega),⟨by omega,hlt⟩,by omega,i+1,by omega,by omega,Bb (by omega) (by omega),fun j hj=>?_⟩⟩,fun hge=>⟨Nat.le_refl _,fun _ _=>rfl,Nat.le_refl _,fun _ _=>rfl,Nat.le_refl _,fun j hj=>?_,fun j hj=>?_⟩⟩⟩
 ·by_cases e:j=i
  ·subst e
   rw[Rc (by omega)]
   simp only[GJ,if_true]
   rfl
  ·simp only[GJ,e,if_false]
   by_cases e2:j<i
   ·rw[Rc e2,Rc (by omega)]
   ·rw[Bjz e2,Bjz (by omega)]
 ·rw[Rc (by omega)];rfl
 ·rw[Rc (by omega)];rfl
theorem Bba(a:Arr):wkL a.row2 a.row1:=by
 simp only[Arr.row1,Arr.row2,gsl,isl,wkL,wkD,Br,Ba]
 exact⟨⟨by simp[kEq],trivial⟩,⟨by simp,trivial,fun i _=>by simp[kEq],by simp[BG]⟩,⟨by simp,trivial,fun i _=>by simp[kEq],by simp[BG]⟩,⟨by simp,trivial,fun i _=>Bj5 _,by simp[BG]⟩,trivial⟩
theorem Bbt:∀(l:List Arr) (d w:Int) (r:Int×Int),CP l d w=some r->∀x∈l,(BB x).1=0
 | [],_,_,_,_,x,hx=>by cases hx
 |y::l,d,w,r,h,x,hx=>by
  rw[CP] at h
  split at h
  ·cases h
  ·rename_i hy
   rcases List.mem_cons.1 hx with rfl | hx
   ·simpa using hy
   ·exact Bbt l _ _ r h x hx
theorem Bhx{k:Int}{s n:List Int}{is:List Arr}(h:(BB (.mk k s n is)).1=0):s.length<=8/\n.length<=65536/\is.length<=65536/\∀x∈is,(BB x).1=0:=by
 rw[BB] at h
 by_cases h0:Cg k s n.length is.length≠0
 ·rw[if_pos h0] at h;exact (h0 h).elim
 ·rw[if_neg h0] at h
  have h0:Cg k s n.length is.length=0:=by simpa using h0
  have hs:=ES h0
  refine⟨BjT h0,hs.1,hs.2,?_⟩
  by_cases hb:n.any (Ek k)=true
  ·rw[if_pos hb] at h;simp at h
  ·rw[if_neg hb] at h
   cases hr:CP is 0 ((n.length:Int)+is.length) with
   |none=>rw[hr] at h;simp at h
   |some r=>exact Bbt _ _ _ r hr
theorem Bh0:∀(a:Arr),(BB a).1=0->ACalls Tryz.prog 73 [.agg a.row1] ⟨[],[]⟩ (SpecR (sCl Arr.row1 Arr.row1 (fun _=>True)) a)
 |.mk k s n is,h=>by
  obtain ⟨h1,h2,h3,h4⟩:=Bhx h
  have hc:ConOk Tryz.prog (Bbf (Arr.mk k s n is).it):=by
   intro k' ds S A hk
   unfold Bbf at hk
   split at hk
   ·injection hk with hk;subst hk
    refine ConOk.plain (fun (b:Arr) hb=>?_) rfl rfl
    have hb':b∈is:=hb
    exact (Bh0 b (h4 b hb')).mono fun _ _ ⟨y,q1,q2,q3⟩=>⟨y,q1,q2,q3⟩
   ·cases hk
  have hm:=BgA (.mk k s n is) ⟨by show n.length<=_;omega,by show is.length<=_;omega,by show s.length<=_;omega⟩ hc
  have hm2:ACalls Tryz.prog 73 [.agg (Arr.mk k s n is).row1] ⟨[],[]⟩ (SpecR (sCl Arr.row2 Arr.row2 (fun _=>True)) (.mk k s n is)):=by
   refine ACalls.wkArgs hm ?_
   simp only[sCl,wkL,wkD]
   exact⟨Eh _,trivial⟩
  refine ACalls.wkEnd hm2 fun r S' ⟨y,q1,q2,q3⟩=>?_
  subst q2 q3
  refine⟨.ret (.agg (Arr.mk k s n is).row1),fun C e he=>?_,⟨(),trivial,rfl,rfl⟩⟩
  cases e with
  |returned v =>
   refine CB (.agg (Arr.mk k s n is).row2) _ ?_ C v he
   simp only[wkD]
   exact Bba _
  |panicked _=>exact he.elim
  |outgrown=>exact he.elim
termination_by a=>SizeOf.sizeOf a
decreasing_by
 have:=List.sizeOf_lt_of_mem hb'
 simp;omega
def Iy{α:Type}[Inhabited α](w:Nat)(row:α->List D)(k:Nat)(l:List α):FnSpec where
 β:=Unit
 α:=Nat×Nat
 args:=fun _=>[gsl w row l]
 st:=fun _=>⟨[],[]⟩
 pre:=fun _=>l≠[]/\l.length<=1000000
 post:=fun _ y=>l.length<=y.2
 res:=fun _ y=>.ret (.vs k y.1 l.length y.2 w)
 out:=fun _ y=>⟨[(k,y.1,.vec w l.length y.2 (fun i=>row (l.getD i default)))],[]⟩
noncomputable def Ecn:Senv:={ EC CK 8 1 [2,4] (fun _=>([],[])) with own:=fun t=>Nat.beq t 46 }
def QGW(a:List Nd)(b:Nat):List D:=Nd.row1 (List.getD a b (Nd.mk Z0 Z0 Z0 [] Z0 Z0 DA [] [] Z0 Z0 Z0))
theorem BmK(l:List Nd)(h:l≠[]/\l.length<=1000000):ACalls Tryz.prog 74 ((Iy 15 Nd.row1 0 l).args ()) ((Iy 15 Nd.row1 0 l).st ()) (SpecR (Iy 15 Nd.row1 0 l) ()):=by
 refine Bh (A:=Iy 15 Nd.row1 0 l) (x:=()) (E:=Ecn) (eOk BE rfl) Tryz.func74 rfl (by kernel_rfl) rfl (by simp[Iy,Ecn,EC,E0]) ?_
 refine Bl (T :=
  ∀(r:Bool),(r=true->LN l=N0)->ifB r (True/\∃(y:Nat×Nat),LN l<=y.2/\D.sl N1 N0 (fun x=>[]) Mode.nil=D.vs N0 y.1 (LN l) y.2 (15:Nat)/\False/\True) (Bf (N0<LN l/\LN l*208<=140737488355328/\LN l<=9223372036854775807) (∀(y cap':Nat),True->LN l<=cap'->True/\∃(y_1:Nat×Nat),LN l<=y_1.2/\(y=y_1.1/\SM (LN l)/\cap'=y_1.2)/\(y=y_1.1/\(SM (LN l)/\cap'=y_1.2/\∀(i:Nat),i<LN l->SM (QGW l i))/\True)/\True))) (by kernel_rfl) ?_
 delta DA LN N0 N1 SM Z0 QGW
 have hl:0<l.length:=List.length_pos_iff.2 h.1
 intro r hr
 rw[Bg,Be]
 refine⟨fun e=>absurd (hr e) (by omega),fun _=>⟨⟨hl,by omega,by omega⟩,fun y c _ hc=>⟨trivial,(y,c),hc,⟨rfl,rfl,rfl⟩,⟨rfl,⟨rfl,rfl,fun _ _=>rfl⟩,trivial⟩,trivial⟩⟩⟩
noncomputable def Ecs:Senv:={ EC CK 8 1 [2,4] (fun _=>([],[])) with own:=fun t=>Nat.beq t 22 }
def QAW:Nd:=Nd.mk Z0 Z0 Z0 [] Z0 Z0 DA [] [] Z0 Z0 Z0
def QGX(a:List Sm)(b:Nat):List D:=Sm.row1 (List.getD a b (Sm.mk Z0 Z0 [] Z0 QAW QAW))
theorem Bmm(l:List Sm)(h:l≠[]/\l.length<=1000000):ACalls Tryz.prog 43 ((Iy 34 Sm.row1 0 l).args ()) ((Iy 34 Sm.row1 0 l).st ()) (SpecR (Iy 34 Sm.row1 0 l) ()):=by
 refine Bh (A:=Iy 34 Sm.row1 0 l) (x:=()) (E:=Ecs) (eOk BE rfl) Tryz.func43 rfl (by kernel_rfl) rfl (by simp[Iy,Ecs,EC,E0]) ?_
 refine Bl (T :=
  ∀(r:Bool),(r=true->LN l=N0)->ifB r (True/\∃(y:Nat×Nat),LN l<=y.2/\D.sl N1 N0 (fun x=>[]) Mode.nil=D.vs N0 y.1 (LN l) y.2 (34:Nat)/\False/\True) (Bf (N0<LN l/\LN l*456<=140737488355328/\LN l<=9223372036854775807) (∀(y cap':Nat),True->LN l<=cap'->True/\∃(y_1:Nat×Nat),LN l<=y_1.2/\(y=y_1.1/\SM (LN l)/\cap'=y_1.2)/\(y=y_1.1/\(SM (LN l)/\cap'=y_1.2/\∀(i:Nat),i<LN l->SM (QGX l i))/\True)/\True))) (by kernel_rfl) ?_
 delta DA LN N0 N1 SM Z0 QAW QGX
 have hl:0<l.length:=List.length_pos_iff.2 h.1
 intro r hr
 rw[Bg,Be]
 refine⟨fun e=>absurd (hr e) (by omega),fun _=>⟨⟨hl,by omega,by omega⟩,fun y c _ hc=>⟨trivial,(y,c),hc,⟨rfl,rfl,rfl⟩,⟨rfl,⟨rfl,rfl,fun _ _=>rfl⟩,trivial⟩,trivial⟩⟩⟩
theorem Bf1{α : Type}[Inhabited α]{f w : Nat}{row : α -> List D}{l : List α}(k : Nat)(h : ACalls Tryz.prog f ((Iy w row 0 l).args ()) ((Iy w row 0 l).st ()) (SpecR (Iy w row 0 l) ())) :
  ACalls Tryz.prog f ((Iy w row k l).args ()) ((Iy w row k l).st ()) (SpecR (Iy w row k l) ()) :=
 h.respec (by simp[Iy,Bo]) (by simp[Iy,Bjb,BhF,BjW]) fun y hy=>⟨y,hy,by simp[Iy,To,Br,Ba],by simp[Iy,Bjb,BhF,BjW,MY,Ba]⟩
def Bk3(w:Nat):D:=.sl w 0 (fun _=>[]) .any
def _root_.Go.Ab.endW(d:D)(e:AEnd)(_:St):Prop:=match e with
 |.ret d'=>wkD d' d
 |_=>False
theorem CD.ofW{k:Nat}{ds:List D}{d:D}(h:ACalls Tryz.prog k ds ⟨[],[]⟩ (Go.Ab.endW d)):CD k ds d:=by
 refine (ACalls.wkEnd h (R':=fun r _=>r=.ret d) fun r S' hr=>?_).to ?_
 ·refine⟨.ret d,fun C e he=>?_,rfl⟩
  unfold Go.Ab.endW at hr
  split at hr
  ·cases e with
   |returned v=>exact CB _ d hr C v he
   |panicked _=>exact he.elim
   |outgrown=>exact he.elim
  ·exact hr.elim
 ·rintro r S' rfl
  exact⟨⟨[],[]⟩,fun C F w H=>H.le ⟨List.nil_sublist _,List.nil_sublist _⟩,(),trivial,rfl,rfl⟩
noncomputable def Ecn0:Senv:=EC CK 8 1 [2,4] (fun _=>([],[]))
theorem Bl9:CD 74 [gsl 15 Nd.row1 []] (Bk3 15):=by
 refine CD.ofW (Ct (E:=Ecn0) (eOk BE rfl) Tryz.func74 rfl (by kernel_rfl) rfl (by simp[Ecn0,EC,E0]) ?_)
 refine Bl (T :=
  ∀(r:Bool),(r=true->SM N0)->ifB r (True/\SM N0/\(∀(i:Nat),i<N0->True)/\True) (∀(t:Nat),True/\SM N0/\(∀(i:Nat),i<N0->False)/\True)) (by kernel_rfl) ?_
 delta N0 SM
 exact fun r _=>Bg.2 ⟨fun _=>⟨trivial,rfl,fun _ _=>trivial,trivial⟩,fun _ _=>⟨trivial,rfl,fun _ h=>absurd h (Nat.not_lt_zero _),trivial⟩⟩
noncomputable def Ecs0:Senv:=EC CK 8 1 [2,4] (fun _=>([],[]))
theorem BlT:CD 43 [gsl 34 Sm.row1 []] (Bk3 34):=by
 refine CD.ofW (Ct (E:=Ecs0) (eOk BE rfl) Tryz.func43 rfl (by kernel_rfl) rfl (by simp[Ecs0,EC,E0]) ?_)
 refine Bl (T :=
  ∀(r:Bool),(r=true->SM N0)->ifB r (True/\SM N0/\(∀(i:Nat),i<N0->True)/\True) (∀(t:Nat),True/\SM N0/\(∀(i:Nat),i<N0->False)/\True)) (by kernel_rfl) ?_
 delta N0 SM
 exact fun r _=>Bg.2 ⟨fun _=>⟨trivial,rfl,fun _ _=>trivial,trivial⟩,fun _ _=>⟨trivial,rfl,fun _ h=>absurd h (Nat.not_lt_zero _),trivial⟩⟩
theorem OK(l:List Int):Cr (isl l .any):=by
 simp only[isl,Cr,MZ,Bdj,CG]
 exact fun _ _=>⟨trivial,trivial,trivial⟩
theorem ML(l:List Int):CW (isl l .any):=by
 simp only[isl,CW,Cy]
 exact⟨trivial,fun _ _=>⟨trivial,trivial⟩⟩
theorem Bbg:∀ {a b:List D},CG a->CG b->CG (a++b)
 | [],_,_,h=>h
 |x::a,b,h,k=>by
  simp only[CG,List.cons_append] at h ⊢
  exact⟨h.1,Bbg h.2 k⟩
theorem Bd6:∀ {a b:List D},Cy a->Cy b->Cy (a++b)
 | [],_,_,h=>h
 |x::a,b,h,k=>by
  simp only[Cy,List.cons_append] at h ⊢
  exact⟨h.1,Bd6 h.2 k⟩
def Gm(r:List D):Prop:=MZ r/\Cy r
theorem Od{r:List D}(h:Gm r):CG r:=by
 cases r with
 |nil=>simp[CG]
 |cons d r =>
  have:=h.1
  simp only[MZ,CG] at this ⊢
  exact this.2
theorem BbJ{α:Type}[Inhabited α]{w:Nat}{row:α->List D}{l:List α}(h:∀x∈l,Gm (row x)):Cr (gsl w row l)/\CW (gsl w row l):=by
 have hm:∀i,i<l.length->Gm (row (l.getD i default)):=fun i hi=>h _ (by rw[List.getD_eq_getElem?_getD,List.getElem?_eq_getElem hi];exact List.getElem_mem hi)
 simp only[gsl,Cr,CW]
 exact⟨fun i hi=>(hm i hi).1,trivial,fun i hi=>(hm i hi).2⟩
theorem Bce{w:Nat}{l:List (List D)}(h:∀x∈l,Gm x):Cr (lsl w l)/\CW (lsl w l):=by
 have hm:∀i,i<l.length->Gm (l.getD i []):=fun i hi=>h _ (by rw[List.getD_eq_getElem?_getD,List.getElem?_eq_getElem hi];exact List.getElem_mem hi)
 simp only[lsl,Cr,CW]
 exact⟨fun i hi=>(hm i hi).1,trivial,fun i hi=>(hm i hi).2⟩
theorem Bfb{k:IntKind}{z:Int}{r:List D}(h:CG r/\Cy r):Gm (.int k z::r):=by
 unfold Gm
 simp only[MZ,Cy,Bdj,Cr,CW]
 exact⟨⟨trivial,trivial,h.1⟩,trivial,h.2⟩
mutual
theorem UH:∀a:Arr,Gm a.row
 |.mk k s n is=>by
  have:=Baj is
  simp only[Arr.row]
  refine Bfb ?_
  simp only[CG,Cy]
  exact⟨⟨OK _,OK _,(Bce this).1,trivial⟩,ML _,ML _,(Bce this).2,trivial⟩
theorem Baj:∀l:List Arr,∀x∈M0 l,Gm x
 | [],x,h=>by simp[M0] at h
 |a::l,x,h=>by
  simp only[M0,List.mem_cons] at h
  rcases h with rfl | h
  ·exact UH a
  ·exact Baj l x h
end
theorem Bh8{k : Int}{at_ cl pr op de sl ss vk : Int}{tx : List UInt8}{sh nu : List Int}{A B C : D}(ha : Cr A /\ CW A)(hb : Cr B /\ CW B)(hc : Cr C /\ CW C) :
  Gm [.int .i64 k,.int .i64 at_,.int .i64 cl,.str tx,.int .i64 pr,.int .i64 op,.int .i64 vk,isl sh .any,isl nu .any,A,B,C,.int .i64 de,.int .i64 sl,.int .i64 ss]:=by
 refine Bfb ?_
 simp only[CG,Cy,Cr,CW]
 exact⟨⟨trivial,trivial,trivial,trivial,trivial,trivial,OK _,OK _,ha.1,hb.1,hc.1,trivial,trivial,trivial,trivial⟩,trivial,trivial,trivial,trivial,trivial,trivial,ML _,ML _,ha.2,hb.2,hc.2,trivial,trivial,trivial,trivial⟩
theorem BlU{kd at_ sl:Int}{nm:List UInt8}{a b:List D}(ha:Gm a)(hb:Gm b):Gm (.int .i64 kd::.int .i64 at_::.str nm::.int .i64 sl::(a++b)):=by
 refine Bfb ?_
 have h1:=Bbg (Od ha) (Od hb)
 have h2:=Bd6 ha.2 hb.2
 simp only[CG,Cy,Cr,CW]
 exact⟨⟨trivial,trivial,trivial,h1⟩,trivial,trivial,trivial,h2⟩
mutual
theorem TR:∀n:Nd,Gm n.row
 |.mk kd at_ cl tx pr op va ki bo de sl ss=>by
  have h1:=Ba4 ki
  have h2:=Ba2 bo
  rw[Nd.row]
  exact Bh8 (BbJ fun x _=>UH x) (Bce h1) (Bce h2)
theorem Bdm:∀s:Sm,Gm s.row
 |.mk kd at_ nm sl te nd=>by
  have h1:=TR te
  have h2:=TR nd
  rw[Sm.row]
  exact BlU h1 h2
theorem Ba4:∀l:List Nd,∀x∈Ii l,Gm x
 | [],x,h=>by simp[Ii] at h
 |a::l,x,h=>by
  simp only[Ii,List.mem_cons] at h
  rcases h with rfl | h
  ·exact TR a
  ·exact Ba4 l x h
theorem Ba2:∀l:List Sm,∀x∈CV l,Gm x
 | [],x,h=>by simp[CV] at h
 |a::l,x,h=>by
  simp only[CV,List.mem_cons] at h
  rcases h with rfl | h
  ·exact Bdm a
  ·exact Ba2 l x h
end
theorem Bbi(n:Nd):Gm n.row1:=by
 unfold Nd.row1 Nd.rowE
 exact Bh8 (BbJ fun x _=>UH x) (BbJ fun x _=>TR x) (BbJ fun x _=>Bdm x)
theorem Bdq:∀sc:Scp,CW (frD sc)
 | []=>by simp[frD,CW]
 |f::r=>by
  have:=Bdq r
  simp only[frD,CW,Cy]
  refine⟨?_,ML _,this,trivial⟩
  simp only[ssl,CW,Cy]
  exact⟨trivial,fun _ _=>⟨trivial,trivial⟩⟩
theorem Bic(f:Frm1)(sc:Scp):Cy (frR f sc):=by
 have:=Bdq (f::sc)
 rw[Bc6] at this
 simpa[CW] using this
theorem BdE{α:Type}[Inhabited α]{w:Nat}{g g':α->List D}{l:List α}(h:∀x,wkL (g x) (g' x)):wkD (gsl w g l) (lsl w (l.map g')):=by
 simp only[lsl,gsl,wkD,Ba]
 refine⟨by simp,by simp,fun i hi=>?_,by simp[BG]⟩
 have:(l.map g').getD i []=g' (l.getD i default):=by simp[List.getD_eq_getElem?_getD,hi]
 rw[this]
 exact h _
theorem BbW(n:Nd):wkL n.row1 n.row:=by
 cases n with
 |mk kd at_ cl tx pr op va ki bo de sl ss =>
  simp only[Nd.row,Nd.row1,Nd.rowE,Nd.kd,Nd.at_,Nd.cl,Nd.tx,Nd.pr,Nd.op,Nd.va,Nd.ki,Nd.bo,Nd.de,Nd.sl,Nd.ss,wkL,G8,CA]
  exact⟨Bd _,Bd _,Bd _,Bd _,Bd _,Bd _,Bd _,Bd _,Bd _,Bd _,BdE fun _=>Bc _,BdE fun _=>Bc _,Bd _,Bd _,Bd _,trivial⟩
theorem Bkk(s:Sm):wkL s.row1 s.row:=by
 cases s with
 |mk kd at_ nm sl te nd =>
  simp only[Sm.row,Sm.row1,Sm.kd,Sm.at_,Sm.nm,Sm.sl,Sm.te,Sm.nd,wkL]
  exact⟨Bd _,Bd _,Bd _,Bd _,Tu (BbW _) (BbW _)⟩
theorem TG(n:Nd):wkL n.row2 n.row1:=by
 simp only[Nd.row1,Nd.rowE,Nd.row2,wkL]
 exact⟨Bd _,Bd _,Bd _,Bd _,Bd _,Bd _,Bd _,Bd _,Bd _,Bd _,O8 BbW,O8 Bkk,Bd _,Bd _,Bd _,trivial⟩
theorem O5{con:Con}(hc:ConOk Tryz.prog con){inl:Nat->List D->St->(AEnd->St->Prop)->Prop}(hi:∀k ds S R,inl k ds S R->ACalls Tryz.prog k ds S R){E:Senv}(h:E={ EC con E.n E.V E.cross E.ord with gh:=E.gh,gr:=E.gr,unr:=E.unr,cut:=E.cut,ann:=E.ann,cut2:=E.cut2,ann2:=E.ann2,own:=E.own,gz:=E.gz,mg:=E.mg,pvt:=E.pvt,bcut:=E.bcut,inl:=inl }):EnvOk E:=by
 rw[h]
 exact⟨It,hc,mix,hi,Ic⟩
def CM:D:=.sl 1 0 (fun _=>[]) .nil
def Ri(e:Flt):D:=.iface 30 (.agg [.int .i64 e.1,.int .i64 e.2.1,CM,CM,.str e.2.2])
def zR{α:Type}(d:α->D)(x:Except Flt α)(r:AEnd):Prop:=match x with
 |.ok m=>r=.ret (d m)
 |.error e=>r=.pan (Ri e)
def VNd(sc:Scp)(n:Nd):Prop:=CZ 44 [frD sc,.agg n.row2] (zR (fun m=>.agg (Nd.row1 m)) (rvN sc n))
def BaD(sc:Scp):Prop:=(∀f∈sc,f.length<=1000000/\(nmF f).Nodup)/\sc.length<=1000000/\sc≠[]
def VBd(sc:Scp)(l:List Sm):Prop:=∀x:Nat,ACalls Tryz.prog 22 [.ref 0 x 0,gsl 34 Sm.row1 l] ⟨[(0,x,.cells [CM,CM,frD sc])],[]⟩
 (fun r S'=>∃o,(match rvB sc [] l with | .ok z=>r=.ret (gsl 34 Sm.row1 z.1)/\o=.cells (frR z.2 sc) | .error e=>r=.pan (Ri e))/\S'=⟨[(0,x,o)],[]⟩)
def _root_.Go.Ab.twoX{α:Type}(x:Except Flt α)(d:α->D)(S:St)(R:AEnd->St->Prop):Prop:=(∀m,x=.ok m->R (.ret (d m)) S)/\∀e,x=.error e->R (.pan (Ri e)) S
noncomputable def _root_.Go.Ab.inlV(con:Con)(own:Bool)(sc:Scp)(k:Nat)(ds:List D)(S:St)(R:AEnd->St->Prop):Prop :=
 match Nat.beq k 44 with
 |true=>match own with
  |true=>match ds with
   | [.ref kx x 0,a]=>match B6 S.objs kx with
    |some (y,.cells cs)=>(cs.all BdT&&cs.all Ea)=true/\∃z:Frm1×Nd,(y=x/\wkL cs (frR z.1 sc)/\a=.agg z.2.row1/\VNd (z.1::sc) z.2)/\twoX (rvN (z.1::sc) z.2) (fun m=>.agg (Nd.row1 m)) S R
    |_=>False
   |_=>False
  |false=>match ds with
   | [f,a]=>∃b:Nd,(f=frD sc/\a=.agg b.row1/\VNd sc b)/\twoX (rvN sc b) (fun m=>.agg (Nd.row1 m)) S R
   |_=>False
 |false=>match Nat.beq k 58 with
  |true=>match ds with
   | [f,.str nm]=>(f=frD sc/\BaD sc)/\(Bv nm sc=none->R (.ret (.tup [.nilp,.int .i64 (sc.length:Nat)])) S)/\∀(d i:Nat) (c:Int) (f:Frm1) (r:Scp),(Bv nm sc=some (d,i,c)/\sc.drop d=f::r/\Cx nm f=some (i,c))->R (.ret (.tup [.pt (frR f r),.int .i64 (d:Nat)])) S
   |_=>False
  |false=>match Nat.beq k 22 with
   |true=>match ds with
    | [.ref kx x 0,l]=>match B6 S.objs kx with
     |some (y,.cells [.sl 1 0 _ .nil,.sl 1 0 _ .nil,out])=>∃bo:List Sm,(y=x/\out=frD sc/\l=gsl 34 Sm.row1 bo/\VBd sc bo)/\(∀z,rvB sc [] bo=.ok z->R (.ret (gsl 34 Sm.row1 z.1)) ⟨Gv S.objs kx (.cells (frR z.2 sc)),S.toks⟩)/\(∀e,rvB sc [] bo=.error e->∀o,R (.pan (Ri e)) ⟨Gv S.objs kx o,S.toks⟩)
     |_=>False
    |_=>False
   |false=>Tg { E0 con 0 0 [] (fun _=>([],[])) with auto:=true } (EP IO) 9 k ds S R
theorem BkR{α:Type}{k:Nat}{ds:List D}{x:Except Flt α}{d:α->D}(h:CZ k ds (zR d x)){S:St}{R:AEnd->St->Prop}(hx:Go.Ab.twoX x d S R):ACalls Tryz.prog k ds S R:=by
 refine h.any fun r hr=>?_
 unfold zR at hr
 cases x with
 |ok m=>rw[hr];exact hx.1 m rfl
 |error e=>rw[hr];exact hx.2 e rfl
theorem VNd.down{sc:Scp}{n:Nd}(h:VNd sc n):CZ 44 [frD sc,.agg n.row1] (zR (fun m=>.agg (Nd.row1 m)) (rvN sc n)):=by
 refine CZ.wk h ?_
 simp only[wkL,wkD]
 exact⟨Bd _,Mk n,trivial⟩
theorem retag(k k' x:Nat)(o:AObj):StTo ⟨[(k,x,o)],[]⟩ ⟨[(k',x,o)],[]⟩:=fun C F w H=>by
 refine⟨H.below,H.imm,H.one,fun p hp=>?_,H.nodup,fun t ht=>?_,H.tnodup,H.tfin,H.tdist⟩
 ·rcases List.mem_cons.1 hp with rfl | hp
  ·exact H.objs (k,x,o) List.mem_cons_self
  ·exact H.objs p (List.mem_cons_of_mem _ hp)
 ·obtain ⟨y,a,b,c⟩:=H.toks t ht
  refine⟨y,a,b,fun p hp=>?_⟩
  rcases List.mem_cons.1 hp with rfl | hp
  ·exact c (k,x,o) List.mem_cons_self
  ·exact c p (List.mem_cons_of_mem _ hp)
theorem Bip:G0Keeps:=fun _ _ _ _=>trivial
theorem BjS{sc:Scp}{n:Nd}{r:AEnd}(h:zR (fun m=>.agg (Nd.row1 m)) (rvN sc n) r):IU r:=by
 unfold zR at h
 split at h
 ·rename_i m _
  subst h
  simp only[IU,Cr]
  exact Od (Bbi m)
 ·subst h
  simp only[IU,Ri,CM,Cr,CG]
  exact⟨trivial,trivial,fun i hi=>absurd hi (Nat.not_lt_zero _),fun i hi=>absurd hi (Nat.not_lt_zero _),trivial,trivial⟩
theorem Ws{con:Con}(hc:ConOk Tryz.prog con)(own:Bool)(sc:Scp)(k:Nat)(ds:List D)(S:St)(R:AEnd->St->Prop)(h:Go.Ab.inlV con own sc k ds S R):ACalls Tryz.prog k ds S R:=by
 unfold Go.Ab.inlV at h
 split at h
 ·rename_i hk
  have hk:=Nat.eq_of_beq_eq_true hk
  subst hk
  split at h
  ·split at h
   ·rename_i kx x a
    split at h
    ·rename_i y cs hg
     obtain ⟨h0,⟨f,b⟩,⟨rfl,h1,rfl,h3⟩,h4⟩:=h
     simp only[Bool.and_eq_true] at h0
     simp only at h1 h3 h4
     have hrow:Cy [.agg b.row1]:=by
      simp only[Cy,CW]
      exact⟨(Bbi b).2,trivial⟩
     have h5:=ACalls.lend_at (P:=Tryz.prog) (k:=kx) (x:=y) (cs:=cs) (cs':=frR f sc) (rest:=[.agg b.row1]) (S:=S) Bip hg h0.1 h0.2 h1 (Bic f sc) hrow (by have:=VNd.down h3;rw[Bc6] at this;exact this) fun r=>BjS
     refine h5.mono ?_
     rintro r S' ⟨hr,rfl⟩
     unfold zR at hr
     cases hx:rvN (f::sc) b with
     |ok m=>rw[hx] at hr;rw[hr];exact h4.1 m hx
     |error e=>rw[hx] at hr;rw[hr];exact h4.2 e hx
    ·exact h.elim
   ·exact h.elim
  ·split at h
   ·obtain ⟨b,⟨rfl,rfl,h3⟩,h4⟩:=h
    exact BkR (VNd.down h3) h4
   ·exact h.elim
 ·split at h
  ·rename_i hk
   have hk:=Nat.eq_of_beq_eq_true hk
   subst hk
   split at h
   ·rename_i f nm
    obtain ⟨⟨rfl,h1⟩,h2,h3⟩:=h
    cases sc with
    |nil=>exact (h1.2.2 rfl).elim
    |cons f0 r0 =>
     refine CZ.any (Bnb f0 r0 nm (fun f hf=>(h1.1 f hf).1) h1.2.1) fun r hr=>?_
     rcases hr with ⟨q1,rfl⟩ | ⟨d,i,c,f,r,q1,q2,q3,rfl⟩
     ·exact h2 q1
     ·exact h3 d i c f r ⟨q1,q2,q3⟩
   ·exact h.elim
  ·split at h
   ·rename_i hk
    have hk:=Nat.eq_of_beq_eq_true hk
    subst hk
    split at h
    ·rename_i kx x l
     split at h
     ·rename_i y f1 f2 out hg
      obtain ⟨bo,⟨rfl,rfl,rfl,h3⟩,h4,h5⟩:=h
      have hb : ACalls Tryz.prog 22 [.ref kx y 0, gsl 34 Sm.row1 bo] ⟨[(kx, y, .cells [.sl 1 0 f1 .nil, .sl 1 0 f2 .nil, frD sc])], []⟩
        (fun r S'=>∃o,(match rvB sc [] bo with | .ok z=>r=.ret (gsl 34 Sm.row1 z.1)/\o=.cells (frR z.2 sc) | .error e=>r=.pan (Ri e))/\S'=⟨[(kx,y,o)],[]⟩):=by
       have e1:=ACalls.wkArgs (ds:=[.ref kx y 0,gsl 34 Sm.row1 bo]) (h3 y) (by
        simp only[wkL]
        exact⟨by simp[wkD,Br,Ba],Bd _,trivial⟩)
       refine (e1.from (S:=⟨[(kx,y,.cells [.sl 1 0 f1 .nil,.sl 1 0 f2 .nil,frD sc])],[]⟩) ?_).to ?_
       ·exact fun C F w H=>H.pos ⟨⟨rfl,by simp[MY,BS,Br,Ba,BG,CM,BY],trivial⟩,trivial⟩
       ·rintro r S' ⟨o,hr,rfl⟩
        exact⟨⟨[(kx,y,o)],[]⟩,retag 0 kx y o,o,hr,rfl⟩
      refine (ACalls.at_obj hg hb).mono ?_
      rintro r S' ⟨o,hr,rfl⟩
      cases hx:rvB sc [] bo with
      |ok z=>rw[hx] at hr;obtain ⟨rfl,rfl⟩:=hr;exact h4 z hx
      |error e=>rw[hx] at hr;rw[hr];exact h5 e hx o
     ·exact h.elim
    ·exact h.elim
   ·exact GT (E:={ E0 con 0 0 [] (fun _=>([],[])) with auto:=true }) It hc mix Ew Ic 9 k ds S R h
def _root_.Go.Ab.endV{α:Type}(d:α->D)(x:Except Flt α)(e:AEnd)(_:St):Prop:=match e with
 |.ret d'=>∃m,x=.ok m/\Br d' (d m)
 |.pan d'=>∃e',x=.error e'/\Br d' (Ri e')
theorem BjK{α:Type}{d d2:α->D}(hd:∀m,wkD (d m) (d2 m)){x:Except Flt α}{k:Nat}{ds:List D}(h:ACalls Tryz.prog k ds ⟨[],[]⟩ (Go.Ab.endV d x)):CZ k ds (zR d2 x):=by
 refine ACalls.wkEnd h fun r S' hr=>?_
 unfold Go.Ab.endV at hr
 cases r with
 |ret d' =>
  obtain ⟨m,rfl,hw⟩:=hr
  refine⟨.ret (d2 m),fun C e he=>?_,rfl⟩
  cases e with
  |returned v=>exact CB _ _ (hd m) C v (Bp _ _ hw C v he)
  |panicked _=>exact he.elim
  |outgrown=>exact he.elim
 |pan d' =>
  obtain ⟨e',rfl,hw⟩:=hr
  refine⟨.pan (Ri e'),fun C e he=>?_,rfl⟩
  cases e with
  |returned v=>exact he.elim
  |panicked ch =>
   obtain ⟨v,h1,h2⟩:=he
   exact⟨v,h1,Bp _ _ hw C v h2⟩
  |outgrown=>exact he.elim
def clV(a:Arr):Prop:=(BB a).1=0\/a=.mk 0 [] [] []
theorem Bna{k:Nat}{ds:List D}{x:Arr}{r r':Arr->List D}(hw:wkL (r x) (r' x))(h:ACalls Tryz.prog k ds ⟨[],[]⟩ (SpecR (sCl r r (fun _=>True)) x)):CD k ds (.agg (r' x)):=by
 refine CD.ofW (h.mono ?_)
 rintro r0 S' ⟨y,q1,rfl,q3⟩
 show wkD (.agg (r x)) (.agg (r' x))
 simp only[wkD]
 exact hw
theorem BlB(a:Arr)(h:clV a):CD 73 [.agg a.row1] (.agg a.row1):=by
 rcases h with h | h
 ·exact (Bh0 a h).mono fun _ _ ⟨y,q1,q2,q3⟩=>⟨y,q1,q2,q3⟩
 ·subst h
  have hc:ConOk Tryz.prog (Bbf (Arr.mk 0 [] [] []).it):=by
   intro k' ds S A hk
   unfold Bbf at hk
   split at hk
   ·injection hk with hk;subst hk
    exact ConOk.plain (fun (b:Arr) hb=>nomatch hb) rfl rfl
   ·cases hk
  have hm:ACalls Tryz.prog 73 [.agg (Arr.mk 0 [] [] []).row2] ⟨[],[]⟩ (SpecR (sCl Arr.row2 Arr.row2 (fun _=>True)) (.mk 0 [] [] [])):=BgA (.mk 0 [] [] []) (by simp[Arr.nu,Arr.it,Arr.sh]) hc
  exact Bna (Bba _) (ACalls.wkArgs hm (by simp only[wkL,wkD];exact⟨Eh _,trivial⟩))
def BgB(va:Arr)(nm:List UInt8):Con:=fun k ds S=>match k with
 |73=>some (pA ds S (.agg va.row1) (ds=[.agg va.row1]))
 |74=>some (pA ds S (Bk3 15) (ds=[gsl 15 Nd.row1 []]))
 |75=>some (pE (β:=Frm1×Scp) ds S (fun x=>.int .i64 (OO nm x.1)) (fun x=>ds=[.pt (frR x.1 x.2),.str nm]/\x.1.length<=1000000))
 |_=>none
theorem Bea{va:Arr}(hv:clV va)(nm:List UInt8):ConOk Tryz.prog (BgB va nm):=by
 intro k ds S A hh
 unfold BgB at hh
 split at hh
 ·injection hh with hh;subst hh
  exact Bm fun e=>by subst e;exact CD.at_ (BlB va hv) _
 ·injection hh with hh;subst hh
  exact Bm fun e=>by subst e;exact CD.at_ Bl9 _
 ·injection hh with hh;subst hh
  refine B7 fun x ⟨e,h⟩=>?_
  subst e
  exact CD.at_ (Bgw nm x.1 _ h) _
 ·cases hh
noncomputable def Ena(sc:Scp)(va:Arr)(nm:List UInt8):Senv:={ EC (BgB va nm) 101 2 [3,4,5,6,7,8,9,22,23,24,25,38,39,49,76,83] (fun id=>match id with | 7=>([0,1,2,3,4,5,6,7],[5,7]) | 14=>([0,1,2,3,4,5,7,6,8,9,10],[6,8,10]) | 15=>([0,1,2,3,4,5,6,7,8,9,10,11],[]) | _=>([],[])) with
 unr:=fun _=>2
 inl:=inlV (BgB va nm) false sc }
def BiO(kd at_ cl:Int)(tx:List UInt8)(pr op:Int)(va:Arr)(bo:List Sm)(de sl ss:Int):List D:=[.int .i64 kd,.int .i64 at_,.int .i64 cl,.str tx,.int .i64 pr,.int .i64 op,.int .i64 va.k,isl va.sh .any,isl va.nu .any,gsl 4 Arr.row va.it,gsl 15 Nd.row1 [],gsl 34 Sm.row1 bo,.int .i64 de,.int .i64 sl,.int .i64 ss]
def QsN(a:Arr):Nat:=LN (Arr.sh a)
def QsO(a:Arr):Nat:=LN (Arr.nu a)
def QsP(a:Arr):Nat:=LN (Arr.it a)
def QsQ:Arr:=DA
def QAX(a:Arr)(b:Nat):List D:=Arr.row (List.getD (Arr.it a) b QsQ)
def QGY(a:Arr):List D:=[D.agg [ZI (Arr.k a),D.sl N1 (QsN a) (fun i=>[ZI (GI (Arr.sh a) i)]) Mode.any,D.sl N1 (QsO a) (fun i=>[ZI (GI (Arr.nu a) i)]) Mode.any,D.sl N4 (QsP a) (fun i=>QAX a i) Mode.any]]
def Qn8:Nd:=Nd.mk Z0 Z0 Z0 [] Z0 Z0 QsQ [] [] Z0 Z0 Z0
def QGZ:List D:=[D.sl 15 N0 (fun _i=>Nd.row1 Qn8) Mode.any]
def QAY(a:Frm1)(b:Scp):D:=D.pt [D.sl N1 (LN (nmF a)) (fun i=>[D.str (List.getD (nmF a) i [])]) Mode.any,SI (clF a),frD b]
def QAZ(a:Frm1)(b:Scp):Prop:=QAY a b=frD (a::b)
def QA0:Prop:=SM N0/\(∀(i:Nat),i<N0->BV (List D) [] [])/\True
def QsR(a b:Int)(c d:List UInt8):Prop:=a=b/\QA0/\QA0/\c=d/\True
def QA1(a:Frm1)(b:Scp)(c:List UInt8):List D:=[QAY a b,D.str c]
def Qn9(a:List UInt8)(b:Frm1):Int:=OO a b
def Qoa(a:Nd):Arr:=Nd.va a
def QsS(a:Arr)(b:Nd):Prop:=Arr.k a=Arr.k (Qoa b)
def QA2(a:Nd):List Int:=Arr.sh (Qoa a)
def QsT(a:Arr)(b:Nd):Prop:=QsN a=LN (QA2 b)/\(∀(i:Nat),i<QsN a->[ZI (GI (Arr.sh a) i)]=[ZI (GI (QA2 b) i)])/\True
def QA3(a:Nd):List Int:=Arr.nu (Qoa a)
def QsU(a:Arr)(b:Nd):Prop:=QsO a=LN (QA3 b)/\(∀(i:Nat),i<QsO a->[ZI (GI (Arr.nu a) i)]=[ZI (GI (QA3 b) i)])/\True
def QA4(a:Nd):List Arr:=Arr.it (Qoa a)
def QsV(a:Arr)(b:Nd):Prop:=QsP a=LN (QA4 b)/\(∀(i:Nat),i<QsP a->QAX a i=Arr.row (List.getD (QA4 b) i QsQ))/\True
def QsW(a:Nd):Prop:=N0=LN (Nd.ki a)/\(∀(i:Nat),i<N0->BV (List D) [] (Nd.row1 (List.getD (Nd.ki a) i Qn8)))/\True
def QA5:Sm:=Sm.mk Z0 Z0 [] Z0 Qn8 Qn8
def QA6(a:List Sm)(b:Nat):List D:=Sm.row1 (List.getD a b QA5)
def QsX(a:List Sm)(b:Nd):Prop:=LN a=LN (Nd.bo b)/\(∀(i:Nat),i<LN a->QA6 a i=Sm.row1 (List.getD (Nd.bo b) i QA5))/\True
def QA7(a:List Sm):D:=D.sl 34 (LN a) (fun i=>QA6 a i) Mode.any
theorem Bkz(f0 : Frm1)(r0 : Scp)(kd at_ cl : Int)(tx : List UInt8)(pr op : Int)(va : Arr)(bo : List Sm)(de sl ss : Int)(hv : clV va)(hs : BaD (f0::r0))(hb : kd=10 -> VBd (f0::r0) bo)(X : Except Flt Nd)(hX : X=rvN (f0::r0) (.mk kd at_ cl tx pr op va [] bo de sl ss)) :
  ACalls Tryz.prog 44 [.pt (frR f0 r0),.agg (BiO kd at_ cl tx pr op va bo de sl ss)] ⟨[],[]⟩ (Go.Ab.endV (fun m=>.agg (Nd.row2 m)) X):=by
 refine Ct (E:=Ena (f0::r0) va tx) (O5 (Bea hv tx) (Ws (Bea hv tx) false _) rfl) Tryz.func44 rfl (by kernel_rfl) rfl (by simp[Ena,EC,E0]) ?_
 refine Bl (T :=
  ∀(x:Nat),True->∀(x_1:Nat),x≠x_1/\True->SM x/\SM x/\SM x/\SM x/\∃(x_2:Unit),SM (QGY va)/\∀(y:Unit),True->SM x/\SM x/\∃(x_3:Unit),SM QGZ/\∀(y:Unit),True->SM x/\SM x/\SM x/\ifB (kd==2) (SM x/\(QAZ f0 r0/\BaD (f0::r0))/\(Bv tx (f0::r0)=none->SM x/\SM x/\∃(e':Flt),X=Except.error e'/\SM (30:Nat)/\(28:Int)=Prod.fst e'/\QsR at_ (Prod.fst (Prod.snd e')) tx (Prod.snd (Prod.snd e')))/\∀(d i:Nat) (c:Int) (f:Frm1) (r:Scp),Bv tx (f0::r0)=some (d,i,c)/\List.drop d (f0::r0)=f::r/\Cx tx f=some (i,c)->SM x/\∃(x_4:Frm1×Scp),(QA1 f r tx=QA1 x_4.1 x_4.2 tx/\LN x_4.1<=1000000)/\∀(y:Unit),True->SM x/\SM x/\SM x/\Bf (Z0<=Qn9 tx x_4.1/\Qn9 tx x_4.1<(LI (clF f))) (SM x/\ifB (GI (clF f) (Int.toNat (Qn9 tx x_4.1)) != cl) (SM x/\SM x/\∃(e':Flt),X=Except.error e'/\SM (30:Nat)/\(11:Int)=Prod.fst e'/\QsR at_ (Prod.fst (Prod.snd e')) tx (Prod.snd (Prod.snd e'))) (SM x/\SM x_1/\(SM x_1/\True)/\∃(m:Nd),X=Except.ok m/\kd=Nd.kd m/\at_=Nd.at_ m/\cl=Nd.cl m/\tx=Nd.tx m/\pr=Nd.pr m/\op=Nd.op m/\QsS va m/\QsT va m/\QsU va m/\QsV va m/\QsW m/\QsX bo m/\(↑d:Int)=Nd.de m/\Qn9 tx x_4.1=Nd.sl m/\Z0=Nd.ss m/\True))) (ifB (kd==10) (∀(x_4:Nat),x_1≠x_4/\x≠x_4/\True->SM x/\∃(bo_1:List Sm),(SM x_4/\QAZ f0 r0/\QA7 bo=QA7 bo_1/\VBd (f0::r0) bo_1)/\(∀(z:List Sm×Frm1),rvB (f0::r0) [] bo_1=Except.ok z->SM x/\SM x_4/\SM x/\SM x/\SM x_1/\(SM x_1/\True)/\∃(m:Nd),X=Except.ok m/\kd=Nd.kd m/\at_=Nd.at_ m/\cl=Nd.cl m/\tx=Nd.tx m/\pr=Nd.pr m/\op=Nd.op m/\QsS va m/\QsT va m/\QsU va m/\QsV va m/\QsW m/\QsX z.1 m/\Z0=Nd.de m/\Z0=Nd.sl m/\(LI (nmF z.2))=Nd.ss m/\True)/\∀(e:Flt),rvB (f0::r0) [] bo_1=Except.error e->∀(o:AObj),∃(e':Flt),X=Except.error e'/\SM (30:Nat)/\e.1=Prod.fst e'/\QsR e.2.1 (Prod.fst (Prod.snd e')) e.2.2 (Prod.snd (Prod.snd e'))) (SM x/\SM x_1/\(SM x_1/\True)/\∃(m:Nd),X=Except.ok m/\kd=Nd.kd m/\at_=Nd.at_ m/\cl=Nd.cl m/\tx=Nd.tx m/\pr=Nd.pr m/\op=Nd.op m/\QsS va m/\QsT va m/\QsU va m/\QsV va m/\QsW m/\QsX bo m/\Z0=Nd.de m/\Z0=Nd.sl m/\Z0=Nd.ss m/\True))) (by kernel_rfl) ?_
 delta DA GI LI LN N0 N1 N4 SI SM Z0 ZI QsN QsO QA0 QsR QA1 Qn9 Qoa QsS QA2 QsT QA3 QsU QsP QA4 QsV QsW QA5 QA6 QsX QA7 QsQ QAX QGY Qn8 QGZ QAY QAZ
 simp only[eq_self,implies_true,Bg,Be,true_and,and_true,beq_iff_eq,bne_iff_ne,bne_eq_false_iff_eq,beq_eq_false_iff_ne,ne_eq,exists_const,forall_const]
 rw[rvN] at hX
 simp only[rvL] at hX
 intro _ _ _
 refine⟨fun h2=>⟨⟨rfl,hs⟩,fun hn=>?_,fun d i c f r ⟨q1,q2,q3⟩=>?_⟩,fun h2=>⟨fun h10 _ _=>?_,fun h10=>?_⟩⟩
 ·rw[if_pos h2,hn] at hX
  exact⟨_,hX,rfl,rfl,rfl⟩
 ·have hm:f∈f0::r0:=List.mem_of_mem_drop (i:=d) (by rw[q2];simp)
  obtain ⟨l1,l2,l3⟩:=BhS (hs.1 f hm).2 q3
  have lc:(clF f).length=f.length:=by simp[clF]
  rw[if_pos h2,q1] at hX
  refine⟨(f,r),⟨rfl,(hs.1 f hm).1⟩,⟨by simp only[l1];omega,by simp only[l1];omega⟩,?_⟩
  simp only[l1,Int.toNat_natCast,l3]
  refine⟨fun hc=>?_,fun hc=>?_⟩
  ·simp only[if_neg hc] at hX
   exact⟨_,hX,rfl,rfl,rfl⟩
  ·simp only[if_pos hc] at hX
   exact⟨_,hX,rfl,rfl,rfl,rfl,rfl,rfl,rfl,⟨rfl,fun _ _=>rfl⟩,⟨rfl,fun _ _=>rfl⟩,⟨rfl,fun _ _=>rfl⟩,⟨rfl,fun _ h=>absurd h (Nat.not_lt_zero _)⟩,⟨rfl,fun _ _=>rfl⟩,rfl,rfl,rfl⟩
 ·rw[if_neg h2,if_pos h10] at hX
  refine⟨bo,⟨rfl,rfl,hb h10⟩,fun z hz=>?_,fun e he _=>?_⟩
  ·rw[hz] at hX
   exact⟨_,hX,rfl,rfl,rfl,rfl,rfl,rfl,rfl,⟨rfl,fun _ _=>rfl⟩,⟨rfl,fun _ _=>rfl⟩,⟨rfl,fun _ _=>rfl⟩,⟨rfl,fun _ h=>absurd h (Nat.not_lt_zero _)⟩,⟨rfl,fun _ _=>rfl⟩,rfl,rfl,by simp[nmF,Nd.ss]⟩
  ·rw[he] at hX
   exact⟨_,hX,rfl,rfl,rfl⟩
 ·rw[if_neg h2,if_neg h10] at hX
  exact⟨_,hX,rfl,rfl,rfl,rfl,rfl,rfl,rfl,⟨rfl,fun _ _=>rfl⟩,⟨rfl,fun _ _=>rfl⟩,⟨rfl,fun _ _=>rfl⟩,⟨rfl,fun _ h=>absurd h (Nat.not_lt_zero _)⟩,⟨rfl,fun _ _=>rfl⟩,rfl,rfl,rfl⟩
theorem BmR(f0:Frm1)(r0:Scp)(n:Nd)(hk:n.ki=[])(hv:clV n.va)(hs:BaD (f0::r0))(hb:n.kd=10->VBd (f0::r0) n.bo):VNd (f0::r0) n:=by
 cases n with
 |mk kd at_ cl tx pr op va ki bo de sl ss =>
  obtain rfl:ki=[]:=hk
  exact BjK (d:=fun m=>.agg (Nd.row2 m)) (fun m=>by simp only[wkD];exact TG m) (Bkz f0 r0 kd at_ cl tx pr op va bo de sl ss hv hs hb _ rfl)
def Bg4{α:Type}(p:List α)(x:Except Flt (List α)):Except Flt (List α):=match x with
 |.ok l=>.ok (p++l)
 |.error e=>.error e
structure KI (sc:Scp) (ki cur:List Nd) (i:Nat):Prop where
 len:cur.length=ki.length
 le:i<=ki.length
 rest:cur.drop i=ki.drop i
 tot:rvL sc ki=Bg4 (cur.take i) (rvL sc (ki.drop i))
theorem KI.zero(sc:Scp)(ki:List Nd):KI sc ki ki 0:=⟨rfl,Nat.zero_le _,rfl,by
 rw[List.drop_zero,List.take_zero]
 cases rvL sc ki<;>rfl⟩
theorem KI.at_{sc:Scp}{ki cur:List Nd}{i:Nat}(h:KI sc ki cur i)(hi:i<ki.length):cur.getD i default=ki.getD i default:=by
 have:=h.rest
 rw[BN hi,BN (by rw[h.len];exact hi)] at this
 exact (List.cons.inj this).1
theorem KI.err{sc:Scp}{ki cur:List Nd}{i:Nat}(h:KI sc ki cur i)(hi:i<ki.length){e:Flt}(he:rvN sc (cur.getD i default)=.error e):rvL sc ki=.error e:=by
 rw[h.tot,BN hi,rvL,<- h.at_ hi,he]
 rfl
theorem take_set{α:Type}[Inhabited α]{l:List α}{i:Nat}(hi:i<l.length)(m:α):(l.set i m).take (i+1)=l.take i++[m]:=by
 rw[Cf (by simpa using hi),List.take_set]
 have h1:(l.take i).set i m=l.take i:=List.set_eq_of_length_le (by rw[List.length_take];omega)
 rw[h1]
 simp[List.getD_eq_getElem?_getD,hi]
theorem KI.ok{sc:Scp}{ki cur:List Nd}{i:Nat}(h:KI sc ki cur i)(hi:i<ki.length){m:Nd}(he:rvN sc (cur.getD i default)=.ok m):KI sc ki (cur.set i m) (i+1):=by
 have hc:i<cur.length:=by rw[h.len];exact hi
 refine⟨by rw[List.length_set];exact h.len,hi,?_,?_⟩
 ·rw[List.drop_set_of_lt (Nat.lt_succ_self i)]
  have:=h.rest
  rw[BN hi,BN hc] at this
  exact (List.cons.inj this).2
 ·rw[h.tot,BN hi,rvL,<- h.at_ hi,he,take_set hc]
  cases rvL sc (ki.drop (i+1)) with
  |ok l=>simp[Bg4]
  |error e=>rfl
theorem KI.done{sc:Scp}{ki cur:List Nd}{i:Nat}(h:KI sc ki cur i)(hi:¬i<ki.length):rvL sc ki=.ok cur:=by
 have:i=ki.length:=by have:=h.le;omega
 rw[h.tot,this,List.drop_length,rvL,<- h.len,List.take_length]
 simp[Bg4]
def _root_.Go.Ab.vcap(os:List (Nat×Nat×AObj))(k:Nat):Nat:=match B6 os k with
 |some (_,.vec _ _ c _)=>c
 |_=>0
def Bf9(va:Arr)(ki:List Nd):Con:=fun k ds S=>match k with
 |73=>some (pA ds S (.agg va.row1) (ds=[.agg va.row1]))
 |74=>some ((Iy 15 Nd.row1 (Cp S.objs) ki).fits () (ds=[gsl 15 Nd.row1 ki]))
 |_=>none
theorem BdR{va:Arr}(hv:clV va)(ki:List Nd):ConOk Tryz.prog (Bf9 va ki):=by
 intro k ds S A hh
 unfold Bf9 at hh
 split at hh
 ·injection hh with hh;subst hh
  exact Bm fun e=>by subst e;exact CD.at_ (BlB va hv) _
 ·injection hh with hh;subst hh
  exact FnSpec.fits_ok (fun _ hy=>Bf1 _ (BmK ki hy)) fun e=>by subst e;exact⟨Bo _,BcA S⟩
 ·cases hh
noncomputable def Enb(sc:Scp)(va:Arr)(ki:List Nd):Senv:={ EC (Bf9 va ki) 101 2 [3,4,5,6,7,8,9,22,23,24,25,38,39,49,76,83] (fun id=>match id with | 7=>([0,1,2,3,4,5,6,7],[5,7]) | 14=>([0,1,2,3,4,5,7,6,8,9,10],[6,8,10]) | 15=>([0,1,2,3,4,5,6,7,8,9,10,11],[]) | _=>([],[])) with
 inl:=inlV (Bf9 va ki) false sc
 gz:=fun r=>match r with
  |9=>[.cell 0 10]
  |_=>[]
 ann:=fun b _env S=>match b with
  |0=>some { slots:=[24],keep:=[0,3,4,22,23],α:=Nat×List Nd,st:=fun y=>([.int .i64 (y.1:Nat)],⟨Gv S.objs 2 (.vec 15 ki.length (vcap S.objs 2) (fun j=>(y.2.getD j default).row1)),S.toks⟩),inv:=fun y=>KI sc ki y.2 y.1,mu:=fun y=>ki.length-y.1 }
  |_=>none }
def Qob(a:Arr):Int:=Arr.k a
def Qcq(a:Arr):Nat:=LN (Arr.sh a)
def Qoc(a:Arr)(b:Nat):List D:=[ZI (GI (Arr.sh a) b)]
def Qcr(a:Arr):Nat:=LN (Arr.nu a)
def Qod(a:Arr)(b:Nat):List D:=[ZI (GI (Arr.nu a) b)]
def Qcs(a:Arr):Nat:=LN (Arr.it a)
def Qc4:Arr:=DA
def Qoe(a:Arr)(b:Nat):List D:=Arr.row (List.getD (Arr.it a) b Qc4)
def QG0(a:Arr):List D:=[D.agg [ZI (Qob a),D.sl N1 (Qcq a) (fun i=>Qoc a i) Mode.any,D.sl N1 (Qcr a) (fun i=>Qod a i) Mode.any,D.sl N4 (Qcs a) (fun i=>Qoe a i) Mode.any]]
def HY:Nd:=Nd.mk Z0 Z0 Z0 [] Z0 Z0 Qc4 [] [] Z0 Z0 Z0
def VV(a:List Nd)(b:Nat):Nd:=List.getD a b HY
def Qof(a:List Nd)(b:Nat):Arr:=Nd.va (VV a b)
def QG1(a:List Nd)(b:Nat):List Int:=Arr.sh (Qof a b)
def QG2(a:List Nd)(b:Nat):List Int:=Arr.nu (Qof a b)
def QA8(a:List Nd)(b:Nat):List Arr:=Arr.it (Qof a b)
def QA9(a:List Nd)(b:Nat):List Nd:=Nd.ki (VV a b)
def QBa(a:List Nd)(b:Nat):List Sm:=Nd.bo (VV a b)
def Qmi:Sm:=Sm.mk Z0 Z0 [] Z0 HY HY
def Qct(a:List Nd)(b:Nat):List D:=[ZI (Nd.kd (VV a b)),ZI (Nd.at_ (VV a b)),ZI (Nd.cl (VV a b)),D.str (Nd.tx (VV a b)),ZI (Nd.pr (VV a b)),ZI (Nd.op (VV a b)),ZI (Arr.k (Qof a b)),SI (QG1 a b),SI (QG2 a b),D.sl N4 (LN (QA8 a b)) (fun i=>Arr.row (List.getD (QA8 a b) i Qc4)) Mode.any,D.sl 15 (LN (QA9 a b)) (fun i=>Nd.row (List.getD (QA9 a b) i HY)) Mode.any,D.sl 34 (LN (QBa a b)) (fun i=>Sm.row (List.getD (QBa a b) i Qmi)) Mode.any,ZI (Nd.de (VV a b)),ZI (Nd.sl (VV a b)),ZI (Nd.ss (VV a b))]
def QG3(a:List Nd):List D:=[D.sl 15 (LN a) (fun i=>Qct a i) Mode.any]
def VW:Prop:=SM N0/\(∀(i:Nat),i<N0->BV (List D) [] [])/\True
def Qog:Prop:=SM Z0/\SM Z0/\SM Z0/\True
def Qoh(a:List Sm)(b:Nat):List D:=Sm.row1 (List.getD a b Qmi)
def QBb(a:Frm1)(b:Scp):D:=D.pt [D.sl N1 (LN (nmF a)) (fun i=>[D.str (List.getD (nmF a) i [])]) Mode.any,SI (clF a),frD b]
def QsY(a:Frm1)(b:Scp):Prop:=QBb a b=frD (a::b)
def VX(a:List Nd)(b:Nat):Nd:=List.getD a (Int.toNat (↑b:Int)) HY
def Qoi(a:List Nd)(b:Nat):Arr:=Nd.va (VX a b)
def QG4(a:List Nd)(b:Nat):List Int:=Arr.sh (Qoi a b)
def QG5(a:List Nd)(b:Nat):List Int:=Arr.nu (Qoi a b)
def QBc(a:List Nd)(b:Nat):List Arr:=Arr.it (Qoi a b)
def QBd(a:List Nd)(b:Nat):List Nd:=Nd.ki (VX a b)
def QBe(a:List Nd)(b:Nat):List Sm:=Nd.bo (VX a b)
def Qoj(a:Nd):Arr:=Nd.va a
def QBf(a:Nd):Int:=Arr.k (Qoj a)
def QBg(a:Nd):List Int:=Arr.sh (Qoj a)
def QBh(a:Nd):Nat:=LN (QBg a)
def QBi(a:Nd)(b:Nat):List D:=[ZI (GI (QBg a) b)]
def QBj(a:Nd):List Int:=Arr.nu (Qoj a)
def QBk(a:Nd):Nat:=LN (QBj a)
def QBl(a:Nd)(b:Nat):List D:=[ZI (GI (QBj a) b)]
def QBm(a:Nd):List Arr:=Arr.it (Qoj a)
def QBn(a:Nd):Nat:=LN (QBm a)
def QBo(a:Nd)(b:Nat):List D:=Arr.row (List.getD (QBm a) b Qc4)
def Vi(a:Nd)(b:Nat):Nd:=List.getD (Nd.ki a) b HY
def QBp(a:Nd)(b:Nat):Sm:=List.getD (Nd.bo a) b Qmi
def QBq(a:Nd):List D:=[ZI (Nd.kd a),ZI (Nd.at_ a),ZI (Nd.cl a),D.str (Nd.tx a),ZI (Nd.pr a),ZI (Nd.op a),ZI (QBf a),D.sl N1 (QBh a) (fun i=>QBi a i) Mode.any,D.sl N1 (QBk a) (fun i=>QBl a i) Mode.any,D.sl N4 (QBn a) (fun i=>QBo a i) Mode.any,D.sl 15 (LN (Nd.ki a)) (fun i=>Nd.row (Vi a i)) Mode.any,D.sl 34 (LN (Nd.bo a)) (fun i=>Sm.row (QBp a i)) Mode.any,ZI (Nd.de a),ZI (Nd.sl a),ZI (Nd.ss a)]
def QBr(a:Nat)(b:List Nd)(c:Nat):Prop:=SM (D.vs (max N2 (max (N0+N1) N0)) a (LN b) c (15:Nat))
def QBs(a b:Int)(c d:List UInt8):Prop:=a=b/\VW/\VW/\c=d/\True
def QBt(a:Except Flt Nd)(b c:Int)(d:List UInt8):Prop:=∃(e':Flt),a=Except.error e'/\SM (30:Nat)/\b=Prod.fst e'/\QBs c (Prod.fst (Prod.snd e')) d (Prod.snd (Prod.snd e'))
def QBu(a:List Sm):D:=D.sl 34 (LN a) (fun i=>Qoh a i) Mode.any
def QBv(a:Arr)(b:Nd):Prop:=Qob a=QBf b
def QBw(a:Arr)(b:Nd):Prop:=Qcq a=QBh b/\(∀(i:Nat),i<Qcq a->Qoc a i=QBi b i)/\True
def QBx(a:Arr)(b:Nd):Prop:=Qcr a=QBk b/\(∀(i:Nat),i<Qcr a->Qod a i=QBl b i)/\True
def QBy(a:Arr)(b:Nd):Prop:=Qcs a=QBn b/\(∀(i:Nat),i<Qcs a->Qoe a i=QBo b i)/\True
def Qok(a:Nd)(b:Nat):Arr:=Nd.va (Vi a b)
def QG6(a:Nd)(b:Nat):List Int:=Arr.sh (Qok a b)
def QG7(a:Nd)(b:Nat):List Int:=Arr.nu (Qok a b)
def QBz(a:Nd)(b:Nat):List Arr:=Arr.it (Qok a b)
def QBA(a:Nd)(b:Nat):List Nd:=Nd.ki (Vi a b)
def QBB(a:Nd)(b:Nat):List Sm:=Nd.bo (Vi a b)
def QBC(a:List Nd)(b:Nd)(c:List Nd):Prop:=LN a=LN (Nd.ki b)/\(∀(i:Nat),i<LN a->Qct c i=[ZI (Nd.kd (Vi b i)),ZI (Nd.at_ (Vi b i)),ZI (Nd.cl (Vi b i)),D.str (Nd.tx (Vi b i)),ZI (Nd.pr (Vi b i)),ZI (Nd.op (Vi b i)),ZI (Arr.k (Qok b i)),SI (QG6 b i),SI (QG7 b i),D.sl N4 (LN (QBz b i)) (fun i_1=>Arr.row (List.getD (QBz b i) i_1 Qc4)) Mode.any,D.sl 15 (LN (QBA b i)) (fun i_1=>Nd.row (List.getD (QBA b i) i_1 HY)) Mode.any,D.sl 34 (LN (QBB b i)) (fun i_1=>Sm.row (List.getD (QBB b i) i_1 Qmi)) Mode.any,ZI (Nd.de (Vi b i)),ZI (Nd.sl (Vi b i)),ZI (Nd.ss (Vi b i))])/\True
def QBD(a:List Sm)(b:Nd):Prop:=LN a=LN (Nd.bo b)/\(∀(i:Nat),i<LN a->Qoh a i=Sm.row1 (QBp b i))/\True
theorem Bkq(f0 : Frm1)(r0 : Scp)(kd at_ cl : Int)(tx : List UInt8)(pr op : Int)(va : Arr)(ki : List Nd)(bo : List Sm)(de sl ss : Int)(hv : clV va)(hki : ki≠[] /\ ki.length<=1000000)(h2 : kd≠2)(h10 : kd≠10)(hn : ∀b∈ki, VNd (f0::r0) b)(X : Except Flt Nd)(hX : X=rvN (f0::r0) (.mk kd at_ cl tx pr op va ki bo de sl ss)) :
  ACalls Tryz.prog 44 [.pt (frR f0 r0),.agg [.int .i64 kd,.int .i64 at_,.int .i64 cl,.str tx,.int .i64 pr,.int .i64 op,.int .i64 va.k,isl va.sh .any,isl va.nu .any,gsl 4 Arr.row va.it,gsl 15 Nd.row1 ki,gsl 34 Sm.row1 bo,.int .i64 de,.int .i64 sl,.int .i64 ss]] ⟨[],[]⟩ (Go.Ab.endV (fun m=>.agg (Nd.row2 m)) X):=by
 refine Ct (E:=Enb (f0::r0) va ki) (O5 (BdR hv ki) (Ws (BdR hv ki) false _) rfl) Tryz.func44 rfl (by kernel_rfl) rfl (by simp[Enb,EC,E0]) ?_
 refine Bl (T :=
  ∀(x:Nat),True->∀(x_1:Nat),x≠x_1/\True->SM x/\SM x/\SM x/\SM x/\∃(x_2:Unit),SM (QG0 va)/\∀(y:Unit),True->SM x/\SM x/\(SM (QG3 ki)/\ki≠[]/\LN ki<=1000000)/\∀(y:Nat×Nat),LN ki<=y.2->SM x/\SM x/\(∃(x_3:Nat×List Nd),KI (f0::r0) ki x_3.2 x_3.1/\(Z0=(NI x_3.1)/\True)/\(SM y.1/\(SM (LN ki)/\SM y.2/\∀(i:Nat),i<LN ki->Qct ki i=Qct x_3.2 i)/\SM x_1/\(SM Z0/\SM Z0/\SM Z0/\BV (List UInt8) [] []/\SM Z0/\SM Z0/\SM Z0/\VW/\VW/\VW/\VW/\VW/\Qog)/\SM x/\(SM kd/\SM at_/\SM cl/\SM tx/\SM pr/\SM op/\SM (Qob va)/\(SM (Qcq va)/\(∀(i:Nat),i<Qcq va->SM (Qoc va i))/\True)/\(SM (Qcr va)/\(∀(i:Nat),i<Qcr va->SM (Qod va i))/\True)/\(SM (Qcs va)/\(∀(i:Nat),i<Qcs va->SM (Qoe va i))/\True)/\(SM y.1/\SM (LN ki)/\SM y.2)/\(SM (LN bo)/\(∀(i:Nat),i<LN bo->SM (Qoh bo i))/\True)/\Qog)/\True)/\True)/\∀(x_3:Nat×List Nd),KI (f0::r0) ki x_3.2 x_3.1->ifB (decide ((NI x_3.1)<(LI ki))) (Bf (Z0<=(NI x_3.1)/\(NI x_3.1)<(LI ki)) (SM y.1/\Bf (TN x_3.1<LN ki) (∀(x_4:Nat),y.1≠x_4/\x_1≠x_4/\x≠x_4/\True->SM x_4/\SM x/\SM x_4/\∃(b:Nd),(QsY f0 r0/\D.agg [ZI (Nd.kd (VX x_3.2 x_3.1)),ZI (Nd.at_ (VX x_3.2 x_3.1)),ZI (Nd.cl (VX x_3.2 x_3.1)),D.str (Nd.tx (VX x_3.2 x_3.1)),ZI (Nd.pr (VX x_3.2 x_3.1)),ZI (Nd.op (VX x_3.2 x_3.1)),ZI (Arr.k (Qoi x_3.2 x_3.1)),SI (QG4 x_3.2 x_3.1),SI (QG5 x_3.2 x_3.1),D.sl N4 (LN (QBc x_3.2 x_3.1)) (fun i=>Arr.row (List.getD (QBc x_3.2 x_3.1) i Qc4)) Mode.any,D.sl 15 (LN (QBd x_3.2 x_3.1)) (fun i=>Nd.row (List.getD (QBd x_3.2 x_3.1) i HY)) Mode.any,D.sl 34 (LN (QBe x_3.2 x_3.1)) (fun i=>Sm.row (List.getD (QBe x_3.2 x_3.1) i Qmi)) Mode.any,ZI (Nd.de (VX x_3.2 x_3.1)),ZI (Nd.sl (VX x_3.2 x_3.1)),ZI (Nd.ss (VX x_3.2 x_3.1))]=D.agg (QBq b)/\VNd (f0::r0) b)/\(∀(m:Nd),rvN (f0::r0) b=Except.ok m->(SM x/\QBr y.1 ki y.2)/\Bf (Z0<=(NI x_3.1)/\(NI x_3.1)<(LI ki)) (SM y.1/\Bf (TN x_3.1<LN ki) ((SM (QBb f0 r0)/\SM (D.ref N0 x N0)/\SM (D.ref (max (N0+N1) N0) x_1 N0)/\QBr y.1 ki y.2/\SM (ZI (LI ki))/\True)/\∃(y_1:Nat×List Nd),KI (f0::r0) ki y_1.2 y_1.1/\LN ki-y_1.1<LN ki-x_3.1/\(IntKind.wrap IntKind.i64 ((NI x_3.1)+Z1)=(NI y_1.1)/\True)/\(SM y.1/\(SM (LN ki)/\SM y.2/\∀(i:Nat),i<LN ki->GJ (fun j=>Qct x_3.2 j) (TN x_3.1) (QBq m) i=Qct y_1.2 i)/\SM x_1/\(SM Z0/\SM Z0/\SM Z0/\BV (List UInt8) [] []/\SM Z0/\SM Z0/\SM Z0/\VW/\VW/\VW/\VW/\VW/\Qog)/\SM x/\(SM kd/\SM at_/\SM cl/\SM tx/\SM pr/\SM op/\SM (Qob va)/\(SM (Qcq va)/\(∀(i:Nat),i<Qcq va->SM (Qoc va i))/\True)/\(SM (Qcr va)/\(∀(i:Nat),i<Qcr va->SM (Qod va i))/\True)/\(SM (Qcs va)/\(∀(i:Nat),i<Qcs va->SM (Qoe va i))/\True)/\(SM y.1/\SM (LN ki)/\SM y.2)/\(SM (LN bo)/\(∀(i:Nat),i<LN bo->SM (Qoh bo i))/\True)/\Qog)/\True)/\True)))/\∀(e:Flt),rvN (f0::r0) b=Except.error e->QBt X e.1 e.2.1 e.2.2))) (SM y.1/\SM y.2/\Bf (LN ki<=LN ki) ((∀(i:Nat),i<LN ki->List.all (Qct x_3.2 i) Ea=true)/\∀(t:Nat),SM x/\ifB (kd==2) (SM x/\(QsY f0 r0/\BaD (f0::r0))/\(Bv tx (f0::r0)=none->SM x/\SM x/\∃(e':Flt),X=Except.error e'/\SM (30:Nat)/\(28:Int)=Prod.fst e'/\QBs at_ (Prod.fst (Prod.snd e')) tx (Prod.snd (Prod.snd e')))/\∀(d i:Nat) (c:Int) (f:Frm1) (r:Scp),Bv tx (f0::r0)=some (d,i,c)/\List.drop d (f0::r0)=f::r/\Cx tx f=some (i,c)->SM x/\∀(x_4:Nat),x_1≠x_4/\x≠x_4/\True->∀(x_5:Nat),x_4≠x_5/\x_1≠x_5/\x≠x_5/\True->∀(x_6:Nat),x_5≠x_6/\x_4≠x_6/\x_1≠x_6/\x≠x_6/\True->True/\False) (ifB (kd==10) (∀(x_4:Nat),x_1≠x_4/\x≠x_4/\True->SM x/\∃(bo_1:List Sm),(SM x_4/\QsY f0 r0/\QBu bo=QBu bo_1/\VBd (f0::r0) bo_1)/\(∀(z:List Sm×Frm1),rvB (f0::r0) [] bo_1=Except.ok z->SM x/\SM x_4/\SM x/\SM x/\SM x_1/\(SM x_1/\True)/\∃(m:Nd),X=Except.ok m/\kd=Nd.kd m/\at_=Nd.at_ m/\cl=Nd.cl m/\tx=Nd.tx m/\pr=Nd.pr m/\op=Nd.op m/\QBv va m/\QBw va m/\QBx va m/\QBy va m/\QBC ki m x_3.2/\QBD z.1 m/\Z0=Nd.de m/\Z0=Nd.sl m/\(LI (nmF z.2))=Nd.ss m/\True)/\∀(e:Flt),rvB (f0::r0) [] bo_1=Except.error e->∀(o:AObj),QBt X e.1 e.2.1 e.2.2) (SM x/\SM x_1/\(SM x_1/\True)/\∃(m:Nd),X=Except.ok m/\kd=Nd.kd m/\at_=Nd.at_ m/\cl=Nd.cl m/\tx=Nd.tx m/\pr=Nd.pr m/\op=Nd.op m/\QBv va m/\QBw va m/\QBx va m/\QBy va m/\QBC ki m x_3.2/\QBD bo m/\Z0=Nd.de m/\Z0=Nd.sl m/\Z0=Nd.ss m/\True))))) (by kernel_rfl) ?_
 delta DA GI LI LN N0 N1 N2 N4 NI SI SM TN Z0 Z1 ZI Qob Qcq VV Qof QG1 QG2 QA8 QA9 QBa Qmi Qct QG3 Qoc VW Qog Qoh QBb QsY VX Qoi QG4 QG5 QBc Qcr QBd QBe Qoj QBf QBg QBh QBi QBj QBk QBl Qod QBm QBn QBo Vi QBp QBq QBr QBs QBt QBu Qcs QBv QBw QBx QBy Qok QG6 QG7 QBz QBA QBB Qc4 QBC QBD Qoe QG0 HY
 try simp only[<- dm]
 try simp only[<- dn]
 simp only[ne_eq,implies_true,Int.toNat_natCast,Bg,Be,decide_eq_true_eq,decide_eq_false_iff_not,true_and,and_true,beq_iff_eq,beq_eq_false_iff_ne,exists_const,forall_const,Prod.exists]
 rw[rvN] at hX
 intro _ _ _
 refine⟨hki,fun y hy=>⟨⟨0,ki,KI.zero _ _,rfl,fun _ _=>rfl⟩,?_⟩⟩
 rintro ⟨i,cur⟩ hI
 simp only at hI
 refine⟨fun hlt=>?_,fun hge=>?_⟩
 ·have hlt':i<ki.length:=by simpa using hlt
  refine⟨⟨Int.natCast_nonneg _,hlt⟩,hlt',fun _ _=>⟨cur.getD i default,⟨rfl,rfl,by rw[hI.at_ hlt'];exact hn _ (Ci hlt')⟩,fun m hm=>⟨⟨Int.natCast_nonneg _,hlt⟩,hlt',i+1,cur.set i m,hI.ok hlt' hm,by omega,by simp only;rw[Bb (by omega) (by omega)];rfl,fun j hj=>?_⟩,fun e he=>?_⟩⟩
  ·show GJ (fun j=>Nd.row1 (cur.getD j default)) i (Nd.row1 m) j=Nd.row1 ((cur.set i m).getD j default)
   have hc:i<cur.length:=by rw[hI.len];exact hlt'
   simp only[GJ]
   by_cases e:j=i
   ·rw[if_pos e,e]
    simp[List.getD_eq_getElem?_getD,hc]
   ·rw[if_neg e]
    simp[List.getD_eq_getElem?_getD,List.getElem?_set_ne (Ne.symm e)]
  ·rw[hI.err hlt' he] at hX
   exact⟨_,_,_,hX,rfl,rfl,rfl⟩
 ·have hd:=hI.done (i:=i) (by simpa using hge)
  rw[hd] at hX
  simp only[if_neg h2,if_neg h10] at hX
  refine⟨Nat.le_refl _,fun j hj=>rfl,⟨fun e=>absurd e h2,fun _=>⟨fun e=>absurd e h10,fun _=>⟨_,hX,rfl,rfl,rfl,rfl,rfl,rfl,rfl,⟨rfl,fun _ _=>rfl⟩,⟨rfl,fun _ _=>rfl⟩,⟨rfl,fun _ _=>rfl⟩,⟨hI.len.symm,fun _ _=>rfl⟩,⟨rfl,fun _ _=>rfl⟩,rfl,rfl,rfl⟩⟩⟩⟩
theorem Bm1(f0:Frm1)(r0:Scp)(n:Nd)(hk:n.ki≠[]/\n.ki.length<=1000000)(hv:clV n.va)(h2:n.kd≠2)(h10:n.kd≠10)(hn:∀b∈n.ki,VNd (f0::r0) b):VNd (f0::r0) n:=by
 cases n with
 |mk kd at_ cl tx pr op va ki bo de sl ss =>
  exact BjK (d:=fun m=>.agg (Nd.row2 m)) (fun m=>by simp only[wkD];exact TG m) (Bkq f0 r0 kd at_ cl tx pr op va ki bo de sl ss hv hk h2 h10 hn _ rfl)
def BhN(p:List Sm)(x:Except Flt (List Sm×Frm1)):Except Flt (List Sm×Frm1):=match x with
 |.ok z=>.ok (p++z.1,z.2)
 |.error e=>.error e
structure BW (sc:Scp) (l cur:List Sm) (f:Frm1) (i:Nat):Prop where
 len:cur.length=l.length
 le:i<=l.length
 rest:cur.drop i=l.drop i
 fr:nmF f=BK (l.take i)
 tot:rvB sc [] l=BhN (cur.take i) (rvB sc f (l.drop i))
theorem BW.zero(sc:Scp)(l:List Sm):BW sc l l [] 0:=⟨rfl,Nat.zero_le _,rfl,rfl,by
 rw[List.drop_zero,List.take_zero]
 cases rvB sc [] l<;>rfl⟩
theorem BW.at_{sc:Scp}{l cur:List Sm}{f:Frm1}{i:Nat}(h:BW sc l cur f i)(hi:i<l.length):cur.getD i default=l.getD i default:=by
 have:=h.rest
 rw[BN hi,BN (by rw[h.len];exact hi)] at this
 exact (List.cons.inj this).1
theorem BW.fl{sc:Scp}{l cur:List Sm}{f:Frm1}{i:Nat}(h:BW sc l cur f i):f.length<=l.length:=by
 have h1:=congrArg List.length h.fr
 have h2:(BK (l.take i)).length<=(l.take i).length:=by
  unfold BK
  rw[List.length_map]
  exact List.length_filter_le _ _
 rw[List.length_take] at h2
 simp only[nmF,List.length_map] at h1
 omega
theorem BW.err{sc:Scp}{l cur:List Sm}{f:Frm1}{i:Nat}(h:BW sc l cur f i)(hi:i<l.length){e:Flt}(he:rvM sc f (cur.getD i default)=.error e):rvB sc [] l=.error e:=by
 rw[h.tot,BN hi,rvB,<- h.at_ hi,he]
 rfl
theorem Bg6{sc:Scp}{f:Frm1}{s t:Sm}(h:rvM sc f s=.ok t):t.kd=s.kd/\t.nm=s.nm:=by
 rw[BbT] at h
 split at h
 ·split at h
  ·cases h
  ·split at h
   ·cases h
   ·injection h with h;subst h;exact⟨rfl,rfl⟩
 ·split at h
  ·cases h
  ·injection h with h;subst h;exact⟨rfl,rfl⟩
theorem BW.ok{sc:Scp}{l cur:List Sm}{f:Frm1}{i:Nat}(h:BW sc l cur f i)(hi:i<l.length){t:Sm}(he:rvM sc f (cur.getD i default)=.ok t):BW sc l (cur.set i t) (Iz f t) (i+1):=by
 have hc:i<cur.length:=by rw[h.len];exact hi
 have hk:=Bg6 he
 rw[h.at_ hi] at hk
 refine⟨by rw[List.length_set];exact h.len,hi,?_,?_,?_⟩
 ·rw[List.drop_set_of_lt (Nat.lt_succ_self i)]
  have:=h.rest
  rw[BN hi,BN hc] at this
  exact (List.cons.inj this).2
 ·rw[MV hi,<- h.fr]
  unfold Iz
  rw[hk.1]
  split
  ·rw[nmF,List.map_append,hk.2];rfl
  ·rfl
 ·rw[h.tot,BN hi,rvB,<- h.at_ hi,he,take_set hc]
  simp only
  cases rvB sc (Iz f t) (l.drop (i+1)) with
  |ok z=>simp[BhN]
  |error e=>rfl
theorem BW.done{sc:Scp}{l cur:List Sm}{f:Frm1}{i:Nat}(h:BW sc l cur f i)(hi:¬i<l.length):rvB sc [] l=.ok (cur,f):=by
 have:i=l.length:=by have:=h.le;omega
 rw[h.tot,this,List.drop_length,rvB,<- h.len,List.take_length]
 simp[BhN]
theorem Bhj(d:D):Br d .unk:=by cases d<;>simp[Br]
theorem BlR(f:Frm1)(sc:Scp)(k1 k2:Nat):(([.sl 1 f.length (fun j=>[.str ((nmF f).getD j [])]) (.tok 0 k1),.sl 1 f.length (fun j=>[.int .i64 ((clF f).getD j 0)]) (.tok 1 k2),frD sc]:List D).all BdT&&([.sl 1 f.length (fun j=>[.str ((nmF f).getD j [])]) (.tok 0 k1),.sl 1 f.length (fun j=>[.int .i64 ((clF f).getD j 0)]) (.tok 1 k2),frD sc]:List D).all Ea)=true:=by
 cases sc<;>rfl
theorem BmV(f:Frm1)(sc:Scp)(k1 k2:Nat):wkL [.sl 1 f.length (fun j=>[.str ((nmF f).getD j [])]) (.tok 0 k1),.sl 1 f.length (fun j=>[.int .i64 ((clF f).getD j 0)]) (.tok 1 k2),frD sc] (frR f sc):=by
 simp only[frR,ssl,isl,wkL,wkD,Ba]
 refine⟨⟨by simp,by simp[nmF],fun _ _=>?_,by simp[BG]⟩,⟨by simp,by simp[clF],fun _ _=>?_,by simp[BG]⟩,Bd _,trivial⟩
 ·exact⟨BY _,trivial⟩
 ·exact⟨BY _,trivial⟩
theorem Bfm(f:Frm1)(nm:List UInt8)(c:Int)(j:Nat)(hj:j<f.length+1):Bt f.length (fun j=>[D.str ((nmF f).getD j [])]) (fun i=>[D.str ([nm].getD i [])]) j=[D.str ((nmF (f++[(nm,c)])).getD j [])]:=by
 simp only[Bt]
 split
 ·rename_i h
  simp only[nmF,List.map_append,List.getD_eq_getElem?_getD]
  rw[List.getElem?_append_left (by simpa using h)]
 ·rename_i h
  have:j=f.length:=by omega
  subst this
  simp[nmF]
theorem Bfl(f:Frm1)(nm:List UInt8)(c:Int)(j:Nat)(hj:j<f.length+1):Bt f.length (fun j=>[D.int .i64 ((clF f).getD j 0)]) (fun i=>[[D.int .i64 c]].getD i []) j=[D.int .i64 ((clF (f++[(nm,c)])).getD j 0)]:=by
 simp only[Bt]
 split
 ·rename_i h
  simp only[clF,List.map_append,List.getD_eq_getElem?_getD]
  rw[List.getElem?_append_left (by simpa using h)]
 ·rename_i h
  have:j=f.length:=by omega
  subst this
  simp[clF]
def _root_.Go.Ab.endVB(x:Nat)(sc:Scp)(X:Except Flt (List Sm×Frm1))(e:AEnd)(S:St):Prop:=match e with
 |.ret d'=>∃z,X=.ok z/\Br d' (gsl 34 Sm.row1 z.1)/\leS ⟨[(0,x,.cells (frR z.2 sc))],[]⟩ S
 |.pan d'=>∃e',X=.error e'/\Br d' (Ri e')/\leS ⟨[(0,x,.cells [.unk,.unk,.unk])],[]⟩ S
theorem Bkr{x : Nat}{sc : Scp}{l : List Sm}(h : ACalls Tryz.prog 22 [.ref 0 x 0, gsl 34 Sm.row1 l] ⟨[(0, x, .cells [CM, CM, frD sc])], []⟩ (Go.Ab.endVB x sc (rvB sc [] l))) :
  ACalls Tryz.prog 22 [.ref 0 x 0,gsl 34 Sm.row1 l] ⟨[(0,x,.cells [CM,CM,frD sc])],[]⟩
   (fun r S'=>∃o,(match rvB sc [] l with | .ok z=>r=.ret (gsl 34 Sm.row1 z.1)/\o=.cells (frR z.2 sc) | .error e=>r=.pan (Ri e))/\S'=⟨[(0,x,o)],[]⟩):=by
 refine h.weaken fun r S' hr=>?_
 unfold Go.Ab.endVB at hr
 cases r with
 |ret d' =>
  obtain ⟨z,hz,hw,hl⟩:=hr
  exact⟨.ret (gsl 34 Sm.row1 z.1),_,hw,BbI hl,.cells (frR z.2 sc),by rw[hz];exact⟨rfl,rfl⟩,rfl⟩
 |pan d' =>
  obtain ⟨e,he,hw,hl⟩:=hr
  exact⟨.pan (Ri e),_,hw,BbI hl,.cells [.unk,.unk,.unk],by rw[he],rfl⟩
def Bgt(l:List Sm):Con:=fun k ds S=>match k with
 |43=>some ((Iy 34 Sm.row1 (Cp S.objs) l).fits () (ds=[gsl 34 Sm.row1 l]))
 |_=>none
theorem Bdp(l:List Sm):ConOk Tryz.prog (Bgt l):=by
 intro k ds S A hh
 unfold Bgt at hh
 split at hh
 ·injection hh with hh;subst hh
  exact FnSpec.fits_ok (fun _ hy=>Bf1 _ (Bmm l hy)) fun e=>by subst e;exact⟨Bo _,BcA S⟩
 ·cases hh
noncomputable def Ebb(sc:Scp)(l:List Sm):Senv:={ EC (Bgt l) 50 2 [4,5,6,7,10,11,12,13,20,33] (fun id=>match id with | 10=>([0,1,2,3,4,5,6,7,8,9,10],[8,10]) | _=>([],[])) with
 inl:=inlV (Bgt l) true sc
 gh:=fun b=>match b with
  |0=>[.cell 0 100,.cell 0 101]
  |_=>[]
 gz:=fun r=>match r with
  |13=>[.slot 5]
  |_=>[]
 ann:=fun b _env S=>match b with
  |0=>some { slots:=[12],keep:=[0,5,10,11],α:=(Nat×List Sm)×Frm1×Nat×Nat,st:=fun y=>([.int .i64 (y.1.1:Nat)],⟨Gv (Gv S.objs 1 (.vec 34 l.length (vcap S.objs 1) (fun j=>(y.1.2.getD j default).row1))) 0 (.cells [.sl 1 y.2.1.length (fun j=>[.str ((nmF y.2.1).getD j [])]) (.tok 0 y.2.2.1),.sl 1 y.2.1.length (fun j=>[.int .i64 ((clF y.2.1).getD j 0)]) (.tok 1 y.2.2.2),frD sc]),[(0,y.2.2.1),(1,y.2.2.2)]⟩),inv:=fun y=>BW sc l y.1.2 y.2.1 y.1.1,mu:=fun y=>l.length-y.1.1 }
  |_=>none }
def Qc5:Arr:=DA
def Qcu:Nd:=Nd.mk Z0 Z0 Z0 [] Z0 Z0 Qc5 [] [] Z0 Z0 Z0
def Qcv:Sm:=Sm.mk Z0 Z0 [] Z0 Qcu Qcu
def Qc6(a:List Sm)(b:Nat):Sm:=List.getD a b Qcv
def VY(a:List Sm)(b:Nat):Nd:=Sm.te (Qc6 a b)
def Qol(a:List Sm)(b:Nat):Arr:=Nd.va (VY a b)
def QG8(a:List Sm)(b:Nat):List Int:=Arr.sh (Qol a b)
def QG9(a:List Sm)(b:Nat):List Int:=Arr.nu (Qol a b)
def QBE(a:List Sm)(b:Nat):List Arr:=Arr.it (Qol a b)
def QBF(a:List Sm)(b:Nat):List Nd:=Nd.ki (VY a b)
def QBG(a:List Sm)(b:Nat):List Sm:=Nd.bo (VY a b)
def VZ(a:List Sm)(b:Nat):Nd:=Sm.nd (Qc6 a b)
def Qom(a:List Sm)(b:Nat):Arr:=Nd.va (VZ a b)
def QHa(a:List Sm)(b:Nat):List Int:=Arr.sh (Qom a b)
def QHb(a:List Sm)(b:Nat):List Int:=Arr.nu (Qom a b)
def QBH(a:List Sm)(b:Nat):List Arr:=Arr.it (Qom a b)
def QBI(a:List Sm)(b:Nat):List Nd:=Nd.ki (VZ a b)
def QBJ(a:List Sm)(b:Nat):List Sm:=Nd.bo (VZ a b)
def V0(a:List Sm)(b:Nat):List D:=[ZI (Sm.kd (Qc6 a b)),ZI (Sm.at_ (Qc6 a b)),D.str (Sm.nm (Qc6 a b)),ZI (Sm.sl (Qc6 a b)),ZI (Nd.kd (VY a b)),ZI (Nd.at_ (VY a b)),ZI (Nd.cl (VY a b)),D.str (Nd.tx (VY a b)),ZI (Nd.pr (VY a b)),ZI (Nd.op (VY a b)),ZI (Arr.k (Qol a b)),SI (QG8 a b),SI (QG9 a b),D.sl N4 (LN (QBE a b)) (fun i=>Arr.row (List.getD (QBE a b) i Qc5)) Mode.any,D.sl 15 (LN (QBF a b)) (fun i=>Nd.row (List.getD (QBF a b) i Qcu)) Mode.any,D.sl 34 (LN (QBG a b)) (fun i=>Sm.row (List.getD (QBG a b) i Qcv)) Mode.any,ZI (Nd.de (VY a b)),ZI (Nd.sl (VY a b)),ZI (Nd.ss (VY a b)),ZI (Nd.kd (VZ a b)),ZI (Nd.at_ (VZ a b)),ZI (Nd.cl (VZ a b)),D.str (Nd.tx (VZ a b)),ZI (Nd.pr (VZ a b)),ZI (Nd.op (VZ a b)),ZI (Arr.k (Qom a b)),SI (QHa a b),SI (QHb a b),D.sl N4 (LN (QBH a b)) (fun i=>Arr.row (List.getD (QBH a b) i Qc5)) Mode.any,D.sl 15 (LN (QBI a b)) (fun i=>Nd.row (List.getD (QBI a b) i Qcu)) Mode.any,D.sl 34 (LN (QBJ a b)) (fun i=>Sm.row (List.getD (QBJ a b) i Qcv)) Mode.any,ZI (Nd.de (VZ a b)),ZI (Nd.sl (VZ a b)),ZI (Nd.ss (VZ a b))]
def QHc(a:List Sm):List D:=[D.sl 34 (LN a) (fun i=>V0 a i) Mode.any]
def Qc7(a:Scp)(b c:List Sm)(d:Frm1)(e:Nat):Prop:=BW a b c d e
def QBK(a:List Sm)(b:Nat)(c:List Sm):Prop:=V0 a b=V0 c b
def Qcw(a:Frm1)(b:Nat):List D:=[D.str (List.getD (nmF a) b [])]
def Qcx(a:Frm1)(b:Nat):List D:=[ZI (GI (clF a) b)]
def Qmj(a:Scp):D:=frD a
def Qon(a:Scp):Prop:=Br (Qmj a) (Qmj a)/\True
def Yo(a:Nat):Nat:=Int.toNat (↑a:Int)
def Qmk(a:List Sm)(b:Nat):Sm:=List.getD a (Yo b) Qcv
def QsZ(a:List Sm)(b:Nat):Int:=Sm.kd (Qmk a b)
def Qs0(a:Frm1)(b c:Nat)(d:Scp):List D:=[D.sl N1 (LN a) (fun j=>Qcw a j) (Mode.tok N0 b),D.sl N1 (LN a) (fun j=>Qcx a j) (Mode.tok N1 c),Qmj d]
def Qs1(a:Frm1)(b c:Nat)(d:Scp):Prop:=(List.all (Qs0 a b c d) BdT&&List.all (Qs0 a b c d) Ea)=true
def QBL(a:Frm1)(b c:Nat)(d:Scp)(e:Frm1):Prop:=wkL (Qs0 a b c d) [D.sl N1 (LN (nmF e)) (fun i=>Qcw e i) Mode.any,D.sl N1 (LN (clF e)) (fun i=>Qcx e i) Mode.any,Qmj d]
def V1(a:List Sm)(b:Nat):Nd:=Sm.te (Qmk a b)
def QBM(a:List Sm)(b:Nat):D:=ZI (Nd.kd (V1 a b))
def QBN(a:List Sm)(b:Nat):D:=ZI (Nd.at_ (V1 a b))
def QBO(a:List Sm)(b:Nat):D:=ZI (Nd.cl (V1 a b))
def QBP(a:List Sm)(b:Nat):D:=D.str (Nd.tx (V1 a b))
def QBQ(a:List Sm)(b:Nat):D:=ZI (Nd.pr (V1 a b))
def QBR(a:List Sm)(b:Nat):D:=ZI (Nd.op (V1 a b))
def Qoo(a:List Sm)(b:Nat):Arr:=Nd.va (V1 a b)
def QBS(a:List Sm)(b:Nat):D:=ZI (Arr.k (Qoo a b))
def QHd(a:List Sm)(b:Nat):List Int:=Arr.sh (Qoo a b)
def QBT(a:List Sm)(b:Nat):D:=SI (QHd a b)
def QHe(a:List Sm)(b:Nat):List Int:=Arr.nu (Qoo a b)
def QBU(a:List Sm)(b:Nat):D:=SI (QHe a b)
def QBV(a:List Sm)(b:Nat):List Arr:=Arr.it (Qoo a b)
def QBW(a:List Sm)(b:Nat):D:=D.sl N4 (LN (QBV a b)) (fun i=>Arr.row (List.getD (QBV a b) i Qc5)) Mode.any
def QBX(a:List Sm)(b:Nat):List Nd:=Nd.ki (V1 a b)
def QBY(a:List Sm)(b:Nat):D:=D.sl 15 (LN (QBX a b)) (fun i=>Nd.row (List.getD (QBX a b) i Qcu)) Mode.any
def QBZ(a:List Sm)(b:Nat):List Sm:=Nd.bo (V1 a b)
def QB0(a:List Sm)(b:Nat):D:=D.sl 34 (LN (QBZ a b)) (fun i=>Sm.row (List.getD (QBZ a b) i Qcv)) Mode.any
def QB1(a:List Sm)(b:Nat):D:=ZI (Nd.de (V1 a b))
def QB2(a:List Sm)(b:Nat):D:=ZI (Nd.sl (V1 a b))
def QB3(a:List Sm)(b:Nat):D:=ZI (Nd.ss (V1 a b))
def Qs2(a:Nd):D:=ZI (Nd.cl a)
def Qop(a:Nd):Arr:=Nd.va a
def QB4(a:Nd):D:=ZI (Arr.k (Qop a))
def QHf(a:Nd):List Int:=Arr.sh (Qop a)
def QB5(a:Nd):D:=SI (QHf a)
def QHg(a:Nd):List Int:=Arr.nu (Qop a)
def QB6(a:Nd):D:=SI (QHg a)
def QB7(a:Nd):List Arr:=Arr.it (Qop a)
def QB8(a:Nd):D:=D.sl N4 (LN (QB7 a)) (fun i=>Arr.row (List.getD (QB7 a) i Qc5)) Mode.any
def QB9(a:Nd):D:=D.sl 15 (LN (Nd.ki a)) (fun i=>Nd.row (List.getD (Nd.ki a) i Qcu)) Mode.any
def QCa(a:Nd):D:=D.sl 34 (LN (Nd.bo a)) (fun i=>Sm.row (List.getD (Nd.bo a) i Qcv)) Mode.any
def Qs3(a:Nd):List D:=[ZI (Nd.kd a),ZI (Nd.at_ a),Qs2 a,D.str (Nd.tx a),ZI (Nd.pr a),ZI (Nd.op a),QB4 a,QB5 a,QB6 a,QB8 a,QB9 a,QCa a,ZI (Nd.de a),ZI (Nd.sl a),ZI (Nd.ss a)]
def QCb(a:Nd):D:=D.agg (Qs3 a)
def V2(a:List Sm)(b:Nat):Nd:=Sm.nd (Qmk a b)
def Qoq(a:List Sm)(b:Nat):Arr:=Nd.va (V2 a b)
def QHh(a:List Sm)(b:Nat):List Int:=Arr.sh (Qoq a b)
def QHi(a:List Sm)(b:Nat):List Int:=Arr.nu (Qoq a b)
def QCc(a:List Sm)(b:Nat):List Arr:=Arr.it (Qoq a b)
def QCd(a:List Sm)(b:Nat):List Nd:=Nd.ki (V2 a b)
def QCe(a:List Sm)(b:Nat):List Sm:=Nd.bo (V2 a b)
def QCf(a:Nat)(b:Frm1)(c d:Nat)(e:Scp)(f:Frm1)(g:List Sm)(h:Nat)(l:Nd):Prop:=SM a/\QBL b c d e f/\D.agg [ZI (Nd.kd (V2 g h)),ZI (Nd.at_ (V2 g h)),ZI (Nd.cl (V2 g h)),D.str (Nd.tx (V2 g h)),ZI (Nd.pr (V2 g h)),ZI (Nd.op (V2 g h)),ZI (Arr.k (Qoq g h)),SI (QHh g h),SI (QHi g h),D.sl N4 (LN (QCc g h)) (fun i=>Arr.row (List.getD (QCc g h) i Qc5)) Mode.any,D.sl 15 (LN (QCd g h)) (fun i=>Nd.row (List.getD (QCd g h) i Qcu)) Mode.any,D.sl 34 (LN (QCe g h)) (fun i=>Sm.row (List.getD (QCe g h) i Qcv)) Mode.any,ZI (Nd.de (V2 g h)),ZI (Nd.sl (V2 g h)),ZI (Nd.ss (V2 g h))]=QCb l/\VNd (f::e) l
def QCg(a:List Sm)(b:Nat):Bool:=QsZ a b==2
def QCh(a:Nat)(b:List Sm)(c:Nat):Prop:=SM (D.vs (max (N0+N1) N0) a (LN b) c (34:Nat))
def Qor(a b:Nat)(c:List Sm)(d:Nat):Prop:=SM (D.ref N0 a N0)/\QCh b c d/\QCh b c d/\SM (ZI (LI c))/\True
def Qos(a b:Nat):Prop:=IntKind.wrap IntKind.i64 ((↑a:Int)+Z1)=(↑b:Int)/\True
def Qot(a:List Sm)(b:Nat):D:=ZI (QsZ a b)
def Qou(a:List Sm)(b:Nat):D:=ZI (Sm.at_ (Qmk a b))
def QCi(a:List Sm)(b:Nat):List UInt8:=Sm.nm (Qmk a b)
def Qov(a:List Sm)(b:Nat):D:=D.str (QCi a b)
def QCj(a b:Nd):List D:=ZI (Nd.kd a)::ZI (Nd.at_ a)::Qs2 a::D.str (Nd.tx a)::ZI (Nd.pr a)::ZI (Nd.op a)::QB4 a::QB5 a::QB6 a::QB8 a::QB9 a::QCa a::ZI (Nd.de a)::ZI (Nd.sl a)::ZI (Nd.ss a)::Qs3 b
def QCk(a:Nat)(b c:Frm1)(d:List Sm)(e f g:Nat)(h:Nd)(k l:Nat)(m:Scp):Prop:=SM a/\((LN b+N1=LN c/\(∀(i:Nat),i<LN b+N1->Bt (LN b) (fun j=>Qcw b j) (fun i=>[D.str (List.getD [QCi d e] i [])]) i=Qcw c i)/\f=g)/\(LN b+N1=LN c/\(∀(i:Nat),i<LN b+N1->Bt (LN b) (fun j=>Qcx b j) (fun i=>List.getD [[Qs2 h]] i []) i=Qcx c i)/\k=l)/\Qon m)/\True
def QCl(a b:Frm1):Prop:=∀(i:Nat),i<LN a->Qcw a i=Qcw b i
def QCm(a b:Frm1):Prop:=∀(i:Nat),i<LN a->Qcx a i=Qcx b i
def QCn(a:Nat)(b c:Frm1)(d e f g:Nat)(h:Scp):Prop:=SM a/\((LN b=LN c/\QCl b c/\d=e)/\(LN b=LN c/\QCm b c/\f=g)/\Qon h)/\True
def QCo:Prop:=SM N0/\(∀(i:Nat),i<N0->BV (List D) [] [])/\True
def Qs4(a:Frm1)(b:Scp)(c:Nd)(d:Except Flt (List Sm×Frm1))(f:Nat):Prop:=∀(e:Flt),rvN (a::b) c=Except.error e->∃(e':Flt),d=Except.error e'/\(SM (30:Nat)/\e.1=Prod.fst e'/\e.2.1=Prod.fst (Prod.snd e')/\QCo/\QCo/\e.2.2=Prod.snd (Prod.snd e')/\True)/\(SM f/\(True/\True/\Br (Qmj b) D.unk/\True)/\True)/\True
def QCp(a:List Sm)(b:Nat)(c:Nd):List D:=QBM a b::QBN a b::QBO a b::QBP a b::QBQ a b::QBR a b::QBS a b::QBT a b::QBU a b::QBW a b::QBY a b::QB0 a b::QB1 a b::QB2 a b::QB3 a b::Qs3 c
theorem BkC(sc : Scp)(x : Nat)(l : List Sm)(hl : l≠[] /\ l.length<=1000)(hn : ∀f, BaD (f::sc) -> ∀s∈l, (s.kd=3 -> VNd (f::sc) s.te) /\ VNd (f::sc) s.nd)(hs : ∀i, i<=l.length -> ∀f, nmF f=BK (l.take i) -> BaD (f::sc))(X : Except Flt (List Sm×Frm1))(hX : X=rvB sc [] l) :
  ACalls Tryz.prog 22 [.ref 0 x 0,gsl 34 Sm.row1 l] ⟨[(0,x,.cells [CM,CM,frD sc])],[]⟩ (Go.Ab.endVB x sc X):=by
 refine Ct (E:=Ebb sc l) (O5 (Bdp l) (Ws (Bdp l) true _) rfl) Tryz.func22 rfl (by kernel_rfl) rfl (by simp[Ebb,EC,E0]) ?_
 refine Bl (T :=
  (SM (QHc l)/\l≠[]/\LN l<=1000000)/\∀(y:Nat×Nat),LN l<=y.2->∀(t t_1:Nat),(∃(x_1:(Nat×List Sm)×Frm1×Nat×Nat),Qc7 sc l x_1.1.2 x_1.2.1 x_1.1.1/\(Z0=(NI x_1.1.1)/\True)/\(SM y.1/\(SM (LN l)/\SM y.2/\∀(i:Nat),i<LN l->QBK l i x_1.1.2)/\SM x/\((N0=LN x_1.2.1/\(∀(i:Nat),i<N0->BV (List D) [] (Qcw x_1.2.1 i))/\t=x_1.2.2.1)/\(N0=LN x_1.2.1/\(∀(i:Nat),i<N0->BV (List D) [] (Qcx x_1.2.1 i))/\t_1=x_1.2.2.2)/\Qon sc)/\True)/\t=x_1.2.2.1/\t_1=x_1.2.2.2/\True)/\∀(x_1:(Nat×List Sm)×Frm1×Nat×Nat),Qc7 sc l x_1.1.2 x_1.2.1 x_1.1.1->ifB (decide ((NI x_1.1.1)<(LI l))) (Bf (Z0<=(NI x_1.1.1)/\(NI x_1.1.1)<(LI l)) (SM y.1/\Bf (Yo x_1.1.1<LN l) (∀(x_2:Nat),y.1≠x_2/\x≠x_2/\True->SM x_2/\SM x_2/\SM x_2/\ifB (QsZ x_1.1.2 x_1.1.1==3) (SM x_2/\Qs1 x_1.2.1 x_1.2.2.1 x_1.2.2.2 sc/\∃(z:Frm1×Nd),(SM x/\QBL x_1.2.1 x_1.2.2.1 x_1.2.2.2 sc z.1/\D.agg [QBM x_1.1.2 x_1.1.1,QBN x_1.1.2 x_1.1.1,QBO x_1.1.2 x_1.1.1,QBP x_1.1.2 x_1.1.1,QBQ x_1.1.2 x_1.1.1,QBR x_1.1.2 x_1.1.1,QBS x_1.1.2 x_1.1.1,QBT x_1.1.2 x_1.1.1,QBU x_1.1.2 x_1.1.1,QBW x_1.1.2 x_1.1.1,QBY x_1.1.2 x_1.1.1,QB0 x_1.1.2 x_1.1.1,QB1 x_1.1.2 x_1.1.1,QB2 x_1.1.2 x_1.1.1,QB3 x_1.1.2 x_1.1.1]=QCb z.2/\VNd (z.1::sc) z.2)/\(∀(m:Nd),rvN (z.1::sc) z.2=Except.ok m->SM x_2/\SM x_2/\Qs1 x_1.2.1 x_1.2.2.1 x_1.2.2.2 sc/\∃(z:Frm1×Nd),QCf x x_1.2.1 x_1.2.2.1 x_1.2.2.2 sc z.1 x_1.1.2 x_1.1.1 z.2/\(∀(m_1:Nd),rvN (z.1::sc) z.2=Except.ok m_1->SM x_2/\SM x_2/\ifB (QCg x_1.1.2 x_1.1.1) (SM x_2/\SM x_2/\SM x/\SM x_1.2.2.1/\Bf ((LN x_1.2.1+N1)*16<=140737488355328/\LN x_1.2.1+N1<=9223372036854775807) (∀(t:Nat),SM x/\SM x/\SM x_1.2.2.2/\Bf ((LN x_1.2.1+N1)*8<=140737488355328/\LN x_1.2.1+N1<=9223372036854775807) (∀(t_2:Nat),SM x/\SM x/\True/\SM x_2/\SM x_2/\Bf (Z0<=(NI x_1.1.1)/\(NI x_1.1.1)<(LI l)) (SM y.1/\Bf (Yo x_1.1.1<LN l) (Qor x y.1 l y.2/\∃(y_1:(Nat×List Sm)×Frm1×Nat×Nat),Qc7 sc l y_1.1.2 y_1.2.1 y_1.1.1/\LN l-y_1.1.1<LN l-x_1.1.1/\Qos x_1.1.1 y_1.1.1/\(SM y.1/\(SM (LN l)/\SM y.2/\∀(i:Nat),i<LN l->GJ (fun j=>V0 x_1.1.2 j) (Yo x_1.1.1) (Qot x_1.1.2 x_1.1.1::Qou x_1.1.2 x_1.1.1::Qov x_1.1.2 x_1.1.1::ZI (IntKind.wrap IntKind.i64 ((NI (LN x_1.2.1+N1))-Z1))::QCj m m_1) i=V0 y_1.1.2 i)/\QCk x x_1.2.1 y_1.2.1 x_1.1.2 x_1.1.1 t y_1.2.2.1 m_1 t_2 y_1.2.2.2 sc)/\t=y_1.2.2.1/\t_2=y_1.2.2.2/\True))))) (SM x_2/\Bf (Z0<=(NI x_1.1.1)/\(NI x_1.1.1)<(LI l)) (SM y.1/\Bf (Yo x_1.1.1<LN l) (Qor x y.1 l y.2/\∃(y_1:(Nat×List Sm)×Frm1×Nat×Nat),Qc7 sc l y_1.1.2 y_1.2.1 y_1.1.1/\LN l-y_1.1.1<LN l-x_1.1.1/\Qos x_1.1.1 y_1.1.1/\(SM y.1/\(SM (LN l)/\SM y.2/\∀(i:Nat),i<LN l->GJ (fun j=>V0 x_1.1.2 j) (Yo x_1.1.1) (Qot x_1.1.2 x_1.1.1::Qou x_1.1.2 x_1.1.1::Qov x_1.1.2 x_1.1.1::ZI Z0::QCj m m_1) i=V0 y_1.1.2 i)/\QCn x x_1.2.1 y_1.2.1 x_1.2.2.1 y_1.2.2.1 x_1.2.2.2 y_1.2.2.2 sc)/\x_1.2.2.1=y_1.2.2.1/\x_1.2.2.2=y_1.2.2.2/\True))))/\Qs4 z.1 sc z.2 X x)/\Qs4 z.1 sc z.2 X x) (SM x_2/\Qs1 x_1.2.1 x_1.2.2.1 x_1.2.2.2 sc/\∃(z:Frm1×Nd),QCf x x_1.2.1 x_1.2.2.1 x_1.2.2.2 sc z.1 x_1.1.2 x_1.1.1 z.2/\(∀(m:Nd),rvN (z.1::sc) z.2=Except.ok m->SM x_2/\SM x_2/\ifB (QCg x_1.1.2 x_1.1.1) (SM x_2/\SM x_2/\SM x/\SM x_1.2.2.1/\Bf ((LN x_1.2.1+N1)*16<=140737488355328/\LN x_1.2.1+N1<=9223372036854775807) (∀(t:Nat),SM x/\SM x/\SM x_1.2.2.2/\Bf ((LN x_1.2.1+N1)*8<=140737488355328/\LN x_1.2.1+N1<=9223372036854775807) (∀(t_2:Nat),SM x/\SM x/\True/\SM x_2/\SM x_2/\Bf (Z0<=(NI x_1.1.1)/\(NI x_1.1.1)<(LI l)) (SM y.1/\Bf (Yo x_1.1.1<LN l) (Qor x y.1 l y.2/\∃(y_1:(Nat×List Sm)×Frm1×Nat×Nat),Qc7 sc l y_1.1.2 y_1.2.1 y_1.1.1/\LN l-y_1.1.1<LN l-x_1.1.1/\Qos x_1.1.1 y_1.1.1/\(SM y.1/\(SM (LN l)/\SM y.2/\∀(i:Nat),i<LN l->GJ (fun j=>V0 x_1.1.2 j) (Yo x_1.1.1) (Qot x_1.1.2 x_1.1.1::Qou x_1.1.2 x_1.1.1::Qov x_1.1.2 x_1.1.1::ZI (IntKind.wrap IntKind.i64 ((NI (LN x_1.2.1+N1))-Z1))::QCp x_1.1.2 x_1.1.1 m) i=V0 y_1.1.2 i)/\QCk x x_1.2.1 y_1.2.1 x_1.1.2 x_1.1.1 t y_1.2.2.1 m t_2 y_1.2.2.2 sc)/\t=y_1.2.2.1/\t_2=y_1.2.2.2/\True))))) (SM x_2/\Bf (Z0<=(NI x_1.1.1)/\(NI x_1.1.1)<(LI l)) (SM y.1/\Bf (Yo x_1.1.1<LN l) (Qor x y.1 l y.2/\∃(y_1:(Nat×List Sm)×Frm1×Nat×Nat),Qc7 sc l y_1.1.2 y_1.2.1 y_1.1.1/\LN l-y_1.1.1<LN l-x_1.1.1/\Qos x_1.1.1 y_1.1.1/\(SM y.1/\(SM (LN l)/\SM y.2/\∀(i:Nat),i<LN l->GJ (fun j=>V0 x_1.1.2 j) (Yo x_1.1.1) (Qot x_1.1.2 x_1.1.1::Qou x_1.1.2 x_1.1.1::Qov x_1.1.2 x_1.1.1::ZI Z0::QCp x_1.1.2 x_1.1.1 m) i=V0 y_1.1.2 i)/\QCn x x_1.2.1 y_1.2.1 x_1.2.2.1 y_1.2.2.1 x_1.2.2.2 y_1.2.2.2 sc)/\x_1.2.2.1=y_1.2.2.1/\x_1.2.2.2=y_1.2.2.2/\True))))/\Qs4 z.1 sc z.2 X x)))) (SM y.1/\SM y.2/\Bf (LN l<=LN l) ((∀(i:Nat),i<LN l->List.all (V0 x_1.1.2 i) Ea=true)/\∀(t:Nat),True/\∃(z:List Sm×Frm1),X=Except.ok z/\(LN l=LN z.1/\(∀(i:Nat),i<LN l->QBK x_1.1.2 i z.1)/\True)/\(SM x/\((LN x_1.2.1=LN (nmF z.2)/\QCl x_1.2.1 z.2/\True)/\(LN x_1.2.1=LN (clF z.2)/\QCm x_1.2.1 z.2/\True)/\Qon sc)/\True)/\True))) (by kernel_rfl) ?_
 delta DA GI LI LN N0 N1 N4 NI SI SM Z0 Z1 ZI Qc5 Qcu QBG VZ Qom QHa QHb QBH QBI QBJ V0 QHc Qcv Qc7 QBK Qcw Qcx Qmj Qon Yo Qmk QsZ Qs0 Qc6 Qs1 QBL V1 QBM QBN QBO QBP QBQ QBR Qoo VY QBS QHd QBT QHe QBU QBV QBW QBX QBY QBZ Qol QB0 QB1 QB2 QB3 Qs2 Qop QB4 QHf QB5 QHg QG8 QB6 QB7 QB8 QB9 QCa Qs3 QCb V2 Qoq QHh QG9 QHi QCc QCd QCe QCf QCg QCh Qor Qos Qot QBE Qou QCi Qov QCj QCk QCl QCm QCn QCo Qs4 QBF QCp
 try simp only[<- dm]
 try simp only[<- dn]
 simp only[ne_eq,implies_true,Int.toNat_natCast,Bg,Be,decide_eq_true_eq,decide_eq_false_iff_not,true_and,and_true,beq_iff_eq,beq_eq_false_iff_ne,forall_const,Prod.exists]
 refine⟨⟨hl.1,by omega⟩,fun y hy t1 t2=>⟨⟨0,l,[],t1,t2,BW.zero sc l,rfl,⟨fun _ _=>rfl,⟨rfl,fun _ h=>absurd h (Nat.not_lt_zero _),rfl⟩,⟨rfl,fun _ h=>absurd h (Nat.not_lt_zero _),rfl⟩,BY _⟩,rfl,rfl⟩,?_⟩⟩
 rintro ⟨⟨i,cur⟩,f,k1,k2⟩ hI
 simp only at hI
 have hfl:=hI.fl
 have hsc:BaD (f::sc):=hs i hI.le f hI.fr
 refine⟨fun hlt=>?_,fun hge=>?_⟩
 ·have hlt':i<l.length:=by simpa using hlt
  have hc:i<cur.length:=by rw[hI.len];exact hlt'
  have b1:(0:Int)<=(i:Int)/\(i:Int)<(l.length:Int):=⟨Int.natCast_nonneg i,hlt⟩
  have hvn:=hn f hsc _ (CT hlt')
  rw[<- hI.at_ hlt'] at hvn
  have hw:IntKind.i64.wrap ((i:Int)+1)=((i+1:Nat):Int):=by rw[Bb (by omega) (by omega)];rfl
  have hw2:IntKind.i64.wrap (((f.length+1:Nat):Int)-1)=(f.length:Int):=by rw[Bb (by omega) (by omega)];omega
  have wk:=BmV f sc k1 k2
  have rf:=BlR f sc k1 k2
  have err:∀e:Flt,rvM sc f (cur.getD i default)=.error e->∃a a_1 b,X=.error (a,a_1,b)/\(e.1=a/\e.2.1=a_1/\e.2.2=b)/\Br (frD sc) D.unk:=fun e he=>⟨_,_,_,hX.trans (hI.err hlt' he),⟨rfl,rfl,rfl⟩,Bhj _⟩
  have rows:∀(t:Sm) (j:Nat),GJ (fun j=>Sm.row1 (cur.getD j default)) i (Sm.row1 t) j=Sm.row1 ((cur.set i t).getD j default):=fun t j=>by
   simp only[GJ]
   by_cases e:j=i
   ·rw[if_pos e,e]
    simp[List.getD_eq_getElem?_getD,hc]
   ·rw[if_neg e]
    simp[List.getD_eq_getElem?_getD,List.getElem?_set_ne (Ne.symm e)]
  have same:∀t:Sm,rvM sc f (cur.getD i default)=.ok t->t.kd≠2->BW sc l (cur.set i t) f (i+1):=fun t ht h2=>by
   have:=hI.ok hlt' ht
   unfold Iz at this
   rwa [if_neg h2] at this
  have more:∀t:Sm,rvM sc f (cur.getD i default)=.ok t->t.kd=2->BW sc l (cur.set i t) (f++[(t.nm,t.nd.cl)]) (i+1):=fun t ht h2=>by
   have:=hI.ok hlt' ht
   unfold Iz at this
   rwa [if_pos h2] at this
  have hM:=BbT sc f (cur.getD i default)
  refine⟨b1,hlt',fun _ _=>⟨fun h3=>⟨rf,f,(cur.getD i default).te,⟨wk,rfl,hvn.1 h3⟩,fun m hm=>⟨rf,f,(cur.getD i default).nd,⟨wk,rfl,hvn.2⟩,fun m2 hm2=>⟨fun h2=>absurd (h3.symm.trans h2) (by decide),fun h2=>?_⟩,fun e he=>err e ?_⟩,fun e he=>err e ?_⟩,fun h3=>⟨rf,f,(cur.getD i default).nd,⟨wk,rfl,hvn.2⟩,fun m hm=>⟨fun h2=>⟨by simp only;omega,fun t=>⟨by simp only;omega,fun t3=>⟨b1,hlt',?_⟩⟩⟩,fun h2=>⟨b1,hlt',?_⟩⟩,fun e he=>err e ?_⟩⟩⟩
  ·rw[if_pos h3,hm] at hM
   simp only[hm2] at hM
   exact⟨b1,hlt',i+1,cur.set i _,f,k1,k2,same _ hM h2,by simp only;omega,hw,⟨fun j _=>rows (.mk (cur.getD i default).kd (cur.getD i default).at_ (cur.getD i default).nm 0 m m2) j,⟨rfl,fun _ _=>rfl,rfl⟩,⟨rfl,fun _ _=>rfl,rfl⟩,BY _⟩,rfl,rfl⟩
  ·rw[if_pos h3,hm] at hM
   simp only[he] at hM
   exact hM
  ·rw[if_pos h3,he] at hM
   exact hM
  ·rw[if_neg h3,hm] at hM
   simp only[if_pos h2] at hM
   refine⟨i+1,cur.set i _,f++[_],t,t3,more _ hM h2,by simp only;omega,hw,⟨fun j _=>by simp only[hw2];exact rows (.mk (cur.getD i default).kd (cur.getD i default).at_ (cur.getD i default).nm f.length (cur.getD i default).te m) j,⟨by simp,fun j hj=>Bfm f _ _ j hj,rfl⟩,⟨by simp,fun j hj=>Bfl f _ _ j hj,rfl⟩,BY _⟩,rfl,rfl⟩
  ·rw[if_neg h3,hm] at hM
   simp only[if_neg h2] at hM
   exact⟨i+1,cur.set i _,f,k1,k2,same _ hM h2,by simp only;omega,hw,⟨fun j _=>rows (.mk (cur.getD i default).kd (cur.getD i default).at_ (cur.getD i default).nm 0 (cur.getD i default).te m) j,⟨rfl,fun _ _=>rfl,rfl⟩,⟨rfl,fun _ _=>rfl,rfl⟩,BY _⟩,rfl,rfl⟩
  ·rw[if_neg h3,he] at hM
   exact hM
 ·have hd:=hI.done (i:=i) (by simpa using hge)
  refine⟨Nat.le_refl _,fun j _=>rfl,cur,f,hX.trans hd,⟨hI.len.symm,fun _ _=>rfl⟩,⟨by simp[nmF],fun _ _=>rfl⟩,⟨by simp[clF],fun _ _=>rfl⟩,BY _⟩
def BjO:Con:=fun k ds S=>match k with
 |43=>some (pA ds S (Bk3 34) (ds=[gsl 34 Sm.row1 []]))
 |_=>none
theorem Bij:ConOk Tryz.prog BjO:=by
 intro k ds S A hh
 unfold BjO at hh
 split at hh
 ·injection hh with hh;subst hh
  exact Bm fun e=>by subst e;exact CD.at_ BlT _
 ·cases hh
noncomputable def Ebe:Senv:={ EC BjO 50 2 [4,5,6,7,10,11,12,13,20,33] (fun id=>match id with | 10=>([0,1,2,3,4,5,6,7,8,9,10],[8,10]) | _=>([],[])) with unr:=fun _=>2 }
def QCq:Nd:=Nd.mk Z0 Z0 Z0 [] Z0 Z0 DA [] [] Z0 Z0 Z0
def QCr:Sm:=Sm.mk Z0 Z0 [] Z0 QCq QCq
def QHj:List D:=[D.sl 34 N0 (fun _i=>Sm.row1 QCr) Mode.any]
theorem BkS(sc : Scp)(x : Nat)(X : Except Flt (List Sm×Frm1))(hX : X=.ok ([], [])) :
  ACalls Tryz.prog 22 [.ref 0 x 0,gsl 34 Sm.row1 []] ⟨[(0,x,.cells [CM,CM,frD sc])],[]⟩ (Go.Ab.endVB x sc X):=by
 refine Ct (E:=Ebe) (eOk Bij rfl) Tryz.func22 rfl (by kernel_rfl) rfl (by simp[Ebe,EC,E0]) ?_
 refine Bl (T :=
  ∃(x_1:Unit),SM QHj/\∀(y:Unit),True->True/\∃(z:List Sm×Frm1),X=Except.ok z/\(N0=LN z.1/\(∀(i:Nat),i<N0->BV (List D) [] (Sm.row1 (List.getD z.1 i QCr)))/\True)/\(SM x/\((N0=LN (nmF z.2)/\(∀(i:Nat),i<N0->BV (List D) [] [D.str (List.getD (nmF z.2) i [])])/\True)/\(N0=LN (clF z.2)/\(∀(i:Nat),i<N0->BV (List D) [] [ZI (GI (clF z.2) i)])/\True)/\Br (frD sc) (frD sc)/\True)/\True)/\True) (by kernel_rfl) ?_
 delta DA GI LN N0 SM Z0 ZI QCq QCr QHj
 exact⟨(),rfl,fun _ _=>⟨trivial,([],[]),hX,⟨rfl,fun _ h=>absurd h (Nat.not_lt_zero _),trivial⟩,⟨rfl,⟨⟨rfl,fun _ h=>absurd h (Nat.not_lt_zero _),trivial⟩,⟨rfl,fun _ h=>absurd h (Nat.not_lt_zero _),trivial⟩,BY _,trivial⟩,trivial⟩,trivial⟩⟩
theorem Bh6{a:Arr}(h:Gn a=true):a=.mk 0 [] [] []:=by
 cases a with
 |mk k s n i =>
  simp only[Gn,Bool.and_eq_true,beq_iff_eq,Arr.k,Arr.sh,Arr.nu,Arr.it,List.isEmpty_iff] at h
  obtain ⟨⟨⟨rfl,rfl⟩,rfl⟩,rfl⟩:=h
  rfl
theorem T9{n:Nd}(h:BC n=true):clV n.va/\(n.ki≠[]->n.kd≠2/\n.kd≠10/\n.ki.length<=1000)/\(n.kd=10->BF true n.bo=true):=by
 have hk:=ER h
 rw[Io,Bool.and_eq_true] at h
 obtain ⟨h1,h2⟩:=h
 refine⟨?_,fun hne=>?_,fun h10=>?_⟩
 ·unfold ED at h1
  simp only[Bool.and_eq_true,Bool.or_eq_true,beq_iff_eq] at h1
  rcases h1.1.2 with hz | he
  ·exact .inr (Bh6 hz)
  ·rw[if_neg (by omega)] at h2
   rw[Bool.or_eq_true,Bool.and_eq_true] at h2
   rcases h2 with h2 | ⟨h2,_⟩
   ·unfold EN at h2
    rw[if_pos he] at h2
    simp only[Bool.and_eq_true,beq_iff_eq] at h2
    exact .inl h2.2.1.2
   ·unfold Ej at h2
    simp[he] at h2
 ·have h10:n.kd≠10:=fun e=>hne (hk.2 e)
  rw[if_neg h10,Bool.or_eq_true,Bool.and_eq_true] at h2
  rcases h2 with h2 | ⟨h2,_⟩
  ·unfold EN at h2
   rw[Bool.and_eq_true,List.isEmpty_iff] at h2
   exact (hne h2.1).elim
  ·have hl:∀l:List Int,Bj n l=true->n.ki.length=l.length:=fun l hc=>by
    unfold Bj at hc
    have:=congrArg List.length (eq_of_beq hc)
    simpa using this
   unfold Ej at h2
   split at h2
   ·simp only[Bool.and_eq_true,decide_eq_true_eq] at h2
    exact⟨by omega,h10,h2.1.2⟩
   ·split at h2
    ·simp only[Bool.and_eq_true] at h2
     have:=hl _ h2.2
     exact⟨by omega,h10,by rw[this];decide⟩
    ·split at h2
     ·simp only[Bool.and_eq_true] at h2
      have:=hl _ h2.2
      exact⟨by omega,h10,by rw[this];decide⟩
     ·split at h2
      ·simp only[Bool.and_eq_true] at h2
       have:=hl _ h2.2
       exact⟨by omega,h10,by rw[this];decide⟩
      ·split at h2
       ·simp only[Bool.and_eq_true] at h2
        have:=hl _ h2.2
        exact⟨by omega,h10,by rw[this];simp⟩
       ·split at h2
        ·simp only[Bool.and_eq_true,Bool.or_eq_true] at h2
         rcases h2.2 with (q | q) | q
         all_goals (have:=hl _ q;exact⟨by omega,h10,by rw[this];decide⟩)
        ·cases h2
 ·rw[if_pos h10,Bool.and_eq_true] at h2
  exact h2.2
theorem M2{g:Bool}:∀ {l:List Sm} {names:List (List UInt8)},BR g names l=true->names.Nodup->(names++BK l).Nodup
 | [],names,_,hn=>by simpa[BK] using hn
 |s::l,names,h,hn=>by
  rw[BR,Bool.and_eq_true] at h
  have e:BK (s::l)=(if s.kd=2 then [s.nm] else [])++BK l:=by
   unfold BK
   by_cases q:s.kd=2
   ·simp[q]
   ·simp[q]
  rw[e]
  by_cases q:s.kd=2
  ·rw[if_pos q] at h ⊢
   rw[<- List.append_assoc]
   refine M2 h.2 ?_
   have h1:=h.1
   rw[Et] at h1
   rw[if_neg (by omega),if_pos q] at h1
   simp only[Bool.and_eq_true,Bool.not_eq_true'] at h1
   have:s.nm ∉ names:=by
    have:=h1.2.1.1.1.2
    simpa using this
   rw[List.nodup_append]
   refine⟨hn,by simp,fun a ha b hb=>?_⟩
   rw[List.mem_singleton.1 hb]
   rintro rfl
   exact this ha
  ·rw[if_neg q] at h ⊢
   rw[List.nil_append]
   exact M2 h.2 hn
theorem Be8(l:List Sm)(i:Nat):∃r,BK l=BK (l.take i)++r:=by
 refine⟨BK (l.drop i),?_⟩
 unfold BK
 rw[<- List.map_append,<- List.filter_append,List.take_append_drop]
def scIn(sc:Scp):Prop:=(∀f∈sc,f.length<=1000000/\(nmF f).Nodup)/\sc.length<=900000
theorem Bly(sc:Scp)(l:List Sm)(g:Bool)(hs:scIn sc)(hb:BF g l=true)(hn:∀f,BaD (f::sc)->∀s∈l,(s.kd=3->VNd (f::sc) s.te)/\VNd (f::sc) s.nd):VBd sc l:=by
 intro x
 refine Bkr ?_
 by_cases he:l=[]
 ·subst he
  exact BkS sc x _ rfl
 ·unfold BF at hb
  rw[Bool.and_eq_true,decide_eq_true_eq] at hb
  refine BkC sc x l ⟨he,hb.1⟩ hn (fun i hi f hf=>?_) _ rfl
  have hnd:=M2 hb.2 (by simp)
  rw[List.nil_append] at hnd
  obtain ⟨r,hr⟩:=Be8 l i
  rw[hr] at hnd
  have hlen:f.length<=1000:=by
   have h1:=congrArg List.length hf
   have h2:(BK (l.take i)).length<=(l.take i).length:=by
    unfold BK
    rw[List.length_map]
    exact List.length_filter_le _ _
   rw[List.length_take] at h2
   simp only[nmF,List.length_map] at h1
   omega
  refine⟨fun f' hf'=>?_,by have:=hs.2;simp only[List.length_cons];omega,by simp⟩
  rcases List.mem_cons.1 hf' with rfl | hf'
  ·exact⟨by omega,by rw[hf];exact (List.nodup_append.1 hnd).1⟩
  ·exact hs.1 f' hf'
theorem Ez{g:Bool}:∀ {l:List Sm} {names:List (List UInt8)},BR g names l=true->∀s∈l,BC s.nd=true/\(s.kd=3->BC s.te=true)
 |s::l,names,h,t,ht=>by
  rw[BR,Bool.and_eq_true] at h
  rcases List.mem_cons.1 ht with rfl | ht
  ·have h1:=h.1
   rw[Et] at h1
   simp only[Bool.and_eq_true] at h1
   refine⟨h1.1.2,fun q=>?_⟩
   have h2:=h1.2
   rw[if_neg (by omega),if_neg (by omega),if_pos q] at h2
   simp only[Bool.and_eq_true] at h2
   exact h2.1.1.1.1.2
  ·exact Ez h.2 t ht
theorem BdU(n:Nd)(hv:BC n=true)(f0:Frm1)(r0:Scp)(hs:BaD (f0::r0))(hd:(f0::r0).length+dpN n<=900000):VNd (f0::r0) n:=by
 obtain ⟨h1,h2,h3⟩:=T9 hv
 by_cases hk:n.ki=[]
 ·refine BmR f0 r0 n hk h1 hs fun h10=>?_
  have hb:=h3 h10
  have hb2:=hb
  unfold BF at hb2
  rw[Bool.and_eq_true] at hb2
  refine Bly (f0::r0) n.bo true ⟨hs.1,by have:=BcK n;omega⟩ hb fun f hf s hsm=>?_
  have hmem:=Ez hb2.2 s hsm
  have hdp:∀x∈Bs s,dpN x<dpN n:=fun x hx=>by
   rw[EW n]
   have:x∈B0 n:=List.mem_append_right _ (List.mem_flatMap.2 ⟨s,hsm,hx⟩)
   have:=E4 this
   omega
  refine⟨fun q=>BdU s.te (hmem.2 q) f (f0::r0) hf ?_,BdU s.nd hmem.1 f (f0::r0) hf ?_⟩
  ·have:=hdp s.te (by unfold Bs;rw[if_pos q];simp)
   simp only[List.length_cons] at hd ⊢
   omega
  ·have:=hdp s.nd (by unfold Bs;split<;>simp)
   simp only[List.length_cons] at hd ⊢
   omega
 ·obtain ⟨q1,q2,q3⟩:=h2 hk
  refine Bm1 f0 r0 n ⟨hk,by omega⟩ h1 q1 q2 fun b hb=>BdU b ((ER hv).1 b hb) f0 r0 hs ?_
  have:b∈B0 n:=List.mem_append_left _ hb
  have:=E4 this
  rw[EW n] at hd
  omega
termination_by SizeOf.sizeOf n
decreasing_by
 ·have:=Nd.size_stmt hsm
  have:=Sm.size_te s
  omega
 ·have:=Nd.size_stmt hsm
  have:=Sm.size_nd s
  omega
 ·exact Nd.size_kid hb
theorem Bng(l:List Sm)(hr:Bw l=0):VBd [] l:=by
 unfold Bw at hr
 split at hr
 ·omega
 ·split at hr
  ·omega
  ·rename_i hdp
   split at hr
   ·omega
   ·split at hr
    ·rename_i hv
     rw[Bool.and_eq_true] at hv
     have hb:=hv.1
     have hb2:=hb
     unfold BF at hb2
     rw[Bool.and_eq_true] at hb2
     refine Bly [] l false ⟨fun f hf=>(by cases hf),by simp⟩ hb fun f hf s hsm=>?_
     have hmem:=Ez hb2.2 s hsm
     have hdp2:∀x∈Bs s,dpN x<=60:=fun x hx=>by
      have h1:=E4 (List.mem_flatMap.2 ⟨s,hsm,hx⟩)
      rw[<- GY] at h1
      omega
     refine⟨fun q=>BdU s.te (hmem.2 q) f [] hf ?_,BdU s.nd hmem.1 f [] hf ?_⟩
     ·have:=hdp2 s.te (by unfold Bs;rw[if_pos q];simp)
      simp only[List.length_cons,List.length_nil]
      omega
     ·have:=hdp2 s.nd (by unfold Bs;split<;>simp)
      simp only[List.length_cons,List.length_nil]
      omega
    ·omega
def pgB(l:List Sm):List Sm:=match rvP l with
 |.ok z=>z.1
 |.error _=>[]
def pgN(l:List Sm):Int:=match rvP l with
 |.ok z=>z.2.length
 |.error _=>0
def pgF(l:List Sm):Flt:=match rvP l with
 |.ok _=>(0,0,[])
 |.error e=>e
def CY(e:Flt):D:=.agg [.int .i64 e.1,.int .i64 e.2.1,CM,CM,.str e.2.2]
def pgD(l:List Sm):D:=.tup [.agg [gsl 34 Sm.row1 (pgB l),.int .i64 (pgN l)],CY (pgF l)]
def _root_.Go.Ab.endPg(_l:List Sm)(X:Except Flt (List Sm×Frm1))(e:AEnd)(_:St):Prop:=match e with
 |.ret (.tup [u,d])=>(∃z,X=.ok z/\Br u (.agg [gsl 34 Sm.row1 z.1,.int .i64 (z.2.length:Nat)])/\Br d (CY (0,0,[])))\/∃e,X=.error e/\Br u (.agg [CM,.int .i64 0])/\Br d (CY e)
 |_=>False
def Bgx(l:List Sm):Con:=fun k ds S=>match k with
 |20=>some (pA ds S (.int .i64 (Bw l)) (ds=[.agg [gsl 34 Sm.row1 l]]))
 |_=>none
theorem Bd2{l:List Sm}(hl:l.length<=BX)(ho:∀s∈l,s.ok)(hs:∀s∈l,s.sm):ConOk Tryz.prog (Bgx l):=by
 intro k ds S A hh
 unfold Bgx at hh
 split at hh
 ·injection hh with hh;subst hh
  exact Bm fun e=>by subst e;exact CD.at_ (Blw l hl ho hs) _
 ·cases hh
theorem BkO{E : Senv}{f : Nat}{A : Frm}{c : Code}{ds : List D}{S : St}{R : AEnd -> St -> Prop}{fr : Nat -> Option Frm}(hE : EnvOk E)(hF : FrmOk E.P fr)(hA : fr f=some A)(hc : A.fn.body=some c)(hl : Nat.ble ds.length A.n=true)
  (h:vcD (E.fit A E.inl) c 0 (Bdy R E.tt A.fn.results.toList) (BgN (Bko E fr E.inl) R E.tt A.fn.results.toList) (Ce 0 ds) S):ACalls E.P f ds S R:=by
 obtain ⟨hT,hC,hm,hi,hQ⟩:=hE
 obtain ⟨q1,q2,q3⟩:=hF f A hA
 exact Wh hT q1 hc q3 q2 (Nat.le_of_ble_eq_true hl) (Bf2 hT hC hm hF hQ hi) (OE (E:=E.fit A E.inl) (BbL hT hC hm hQ hi) c 0 _ _ _ _ h)
noncomputable def Epg(l:List Sm):Senv:={ E0 (Bgx l) 0 0 [] (fun _=>([],[])) with auto:=true,inl:=inlV (Bgx l) true [] }
def QCs:Nd:=Nd.mk Z0 Z0 Z0 [] Z0 Z0 DA [] [] Z0 Z0 Z0
def Qs5(a:List Sm)(b:Nat):List D:=Sm.row1 (List.getD a b (Sm.mk Z0 Z0 [] Z0 QCs QCs))
def Qs6(a:List Sm):D:=D.sl 34 (LN a) (fun i=>Qs5 a i) Mode.any
def QHk(a:List Sm):List D:=[D.agg [Qs6 a]]
def HM:Prop:=SM N0/\(∀(i:Nat),i<N0->BV (List D) [] [])/\True
def QCt:Prop:=SM Z0/\HM/\HM/\BV (List UInt8) [] []/\True
def QCu:Prop:=HM/\SM Z0/\True
def QCv(a:Int)(b:List UInt8):Prop:=Z0=a/\HM/\HM/\BV (List UInt8) [] b/\True
def QHl(a b:Int)(c:List UInt8):D:=D.agg [ZI a,ZI b,D.sl N1 N0 (fun _x=>[]) Mode.nil,D.sl N1 N0 (fun _x=>[]) Mode.nil,D.str c]
theorem Bk7(l : List Sm)(hl : l.length<=BX)(ho : ∀s∈l, s.ok)(hs : ∀s∈l, s.sm)(X : Except Flt (List Sm×Frm1))(hX : X=rvP l) :
  ACalls Tryz.prog 8 [.agg [gsl 34 Sm.row1 l]] ⟨[],[]⟩ (Go.Ab.endPg l X):=by
 refine BkO (E:=Epg l) (fr:=EP IO) ⟨It,Bd2 hl ho hs,mix,Ws (Bd2 hl ho hs) true [],Ic⟩ Ew rfl rfl (by kernel_rfl) ?_
 refine Bl (T :=
  ∀(x:Nat),True->∀(x_1:Nat),x≠x_1/\True->∀(x_2:Nat),x_1≠x_2/\x≠x_2/\True->SM x/\∃(x_3:Unit),SM (QHk l)/\∀(y:Unit),True->ifB (Bw l != Z0) (SM x_1/\SM x_2/\(SM x_1/\SM x_2/\True)/\((∃(z:List Sm×Frm1),X=Except.ok z/\(False/\Z0=(LI z.2)/\True)/\Bw l=Z0/\QCt)\/∃(e:Flt),X=Except.error e/\QCu/\Bw l=e.1/\QCv e.2.1 e.2.2)) (∀(x_4:Nat),x_2≠x_4/\x_1≠x_4/\x≠x_4/\True->SM x/\∃(bo:List Sm),(SM x_4/\SM D.nilp/\Qs6 l=Qs6 bo/\VBd [] bo)/\(∀(z:List Sm×Frm1),rvB [] [] bo=Except.ok z->SM x_1/\SM x_4/\SM x_1/\SM x_1/\SM x_1/\SM x_2/\(SM x_1/\SM x_2/\True)/\((∃(z_1:List Sm×Frm1),X=Except.ok z_1/\((LN z.1=LN z_1.1/\(∀(i:Nat),i<LN z.1->Qs5 z.1 i=Qs5 z_1.1 i)/\True)/\(LI (nmF z.2))=(LI z_1.2)/\True)/\SM Z0/\QCt)\/∃(e:Flt),X=Except.error e/\(False/\(LI (nmF z.2))=Z0/\True)/\Z0=e.1/\QCv e.2.1 e.2.2))/\∀(e:Flt),rvB [] [] bo=Except.error e->∀(o:AObj) (x_5:Nat),x_4≠x_5/\x_2≠x_5/\x_1≠x_5/\x≠x_5/\True->SM x_5/\SM x_5/\SM x_1/\(SM x_5/\SM (QHl e.1 e.2.1 e.2.2))/\SM x_2/\(SM x_1/\SM x_2/\True)/\((∃(z:List Sm×Frm1),X=Except.ok z/\(False/\Z0=(LI z.2)/\True)/\e.1=Z0/\e.2.1=Z0/\HM/\HM/\BV (List UInt8) e.2.2 []/\True)\/∃(e_1:Flt),X=Except.error e_1/\QCu/\e.1=e_1.1/\e.2.1=e_1.2.1/\HM/\HM/\e.2.2=e_1.2.2/\True))) (by kernel_rfl) ?_
 delta DA LI LN N0 N1 SM Z0 ZI QCs Qs5 Qs6 QHk HM QCt QCu QCv QHl
 try simp only[<- dm]
 try simp only[<- dn]
 simp only[ne_eq,implies_true,Bg,true_and,and_true,bne_iff_ne,bne_eq_false_iff_eq,exists_const,forall_const,Prod.exists]
 intro _ _ _ _ _
 refine⟨fun h=>.inr ⟨Bw l,0,[],hX.trans (by unfold rvP;rw[if_pos h]),rfl,rfl,rfl⟩,fun h=>fun _ _=>⟨l,⟨rfl,Bng l h⟩,fun z hz=>.inl ⟨z.1,z.2,hX.trans (by unfold rvP;rw[if_neg (by simp[h])];exact hz),⟨rfl,fun _ _=>rfl⟩,by simp[nmF]⟩,fun e he _ _ _=>.inr ⟨e.1,e.2.1,e.2.2,hX.trans (by unfold rvP;rw[if_neg (by simp[h])];exact he),rfl,rfl,rfl⟩⟩⟩
theorem M1{C:Ctx}{u u' d d':D}(hu:∀v,Rep C u v->Rep C u' v)(hd:∀v,Rep C d v->Rep C d' v)(v:Value)(h:Rep C (.tup [u,d]) v):Rep C (.tup [u',d']) v:=by
 simp only[Rep,RepL] at h ⊢
 obtain ⟨vs,e,x,xs,e1,r1,y,ys,e2,r2,e3⟩:=h
 exact⟨vs,e,x,xs,e1,hu x r1,y,ys,e2,hd y r2,e3⟩
theorem Bmk:wkD CM (gsl 34 Sm.row1 []):=by
 simp[CM,gsl,wkD,Ba,EI,BG]
theorem R3{k:Nat}{ds:List D}{l:List Sm}(hh:ACalls Tryz.prog k ds ⟨[],[]⟩ (Go.Ab.endPg l (rvP l))):CD k ds (pgD l):=by
 refine (ACalls.wkEnd hh (R':=fun r _=>r=.ret (pgD l)) fun r S' hr=>?_).to ?_
 ·refine⟨.ret (pgD l),fun C e he=>?_,rfl⟩
  unfold Go.Ab.endPg at hr
  split at hr
  ·rename_i u d
   cases e with
   |returned v =>
    refine M1 ?_ ?_ v he
    ·rcases hr with ⟨z,hz,h1,h2⟩ | ⟨e,he2,h1,h2⟩
     ·unfold pgB pgN
      rw[hz]
      exact fun v=>Bp _ _ h1 C v
     ·unfold pgB pgN
      rw[he2]
      intro v hv
      refine CB (.agg [CM,.int .i64 0]) _ ?_ C v (Bp _ _ h1 C v hv)
      simp only[wkD,wkL]
      exact⟨Bmk,BY _,trivial⟩
    ·rcases hr with ⟨z,hz,h1,h2⟩ | ⟨e,he2,h1,h2⟩
     ·unfold pgF
      rw[hz]
      exact fun v=>Bp _ _ h2 C v
     ·unfold pgF
      rw[he2]
      exact fun v=>Bp _ _ h2 C v
   |panicked _=>exact he.elim
   |outgrown=>exact he.elim
  ·exact hr.elim
 ·rintro r S' rfl
  exact⟨⟨[],[]⟩,fun C F w H=>H.le ⟨List.nil_sublist _,List.nil_sublist _⟩,(),trivial,rfl,rfl⟩
theorem Bdz(l:List Sm)(hl:l.length<=BX)(ho:∀s∈l,s.ok)(hs:∀s∈l,s.sm):CD 8 [.agg [gsl 34 Sm.row1 l]] (pgD l) :=
 R3 (Bk7 l hl ho hs _ rfl)
theorem Bdd{nm:List UInt8}:∀ {sc:Scp} {d i:Nat} {c:Int},Bv nm sc=some (d,i,c)->d<sc.length/\∃f∈sc,i<f.length
 | [],d,i,c,h=>by simp[Bv] at h
 |f::r,d,i,c,h=>by
  rw[Bv] at h
  cases hs:Cx nm f with
  |some x =>
   obtain ⟨j,c2⟩:=x
   rw[hs] at h
   simp only[Option.some.injEq,Prod.mk.injEq] at h
   obtain ⟨rfl,rfl,rfl⟩:=h
   exact⟨by simp,f,by simp,(WF hs).1⟩
  |none =>
   rw[hs] at h
   simp only[Option.map_eq_some_iff,Prod.mk.injEq] at h
   obtain ⟨⟨d2,i2,c2⟩,h1,rfl,rfl,rfl⟩:=h
   obtain ⟨q1,f2,q2,q3⟩:=Bdd h1
   exact⟨by simp only[List.length_cons];omega,f2,by simp[q2],q3⟩
theorem Ei{n:Nat}(h:n<=1000000):Cs (n:Int):=by unfold Cs;omega
theorem Bi3(f:Frm1)(s:Sm):(Iz f s).length<=f.length+1:=by unfold Iz;split<;>simp
mutual
theorem Bb7:∀(n:Nd) (sc:Scp) (m:Nd),rvN sc n=.ok m->BC n=true->(∀f∈sc,f.length<=1000000)->sc.length+dpN n<=1000000->n.ok->n.sm->m.ok/\m.sm
 |.mk kd at_ cl tx pr op va ki bo de sl ss,sc,m,h,hv,hf,hd,ho,hs=>by
  obtain ⟨ki',bo',de',sl',ss',rfl,hk,_,_,_,hc⟩:=UN h
  have hkids:=ER hv
  have hst:=(Ex _ _ _ h).2
  have hl:bo'.length=bo.length:=by
   have:=congrArg List.length (congrArg Nd.bo hst)
   simpa only[stN,Nd.bo,Wn] using this
  have hl2:ki'.length=ki.length:=by
   have:=congrArg List.length (congrArg Nd.ki hst)
   simpa only[stN,Nd.ki,OG,List.length_map] using this
  have hd0:=hd
  rw[dpN] at hd
  have hd1:sc.length+dpL ki<=1000000:=Nat.le_trans (Nat.add_le_add_left (Nat.le_trans (Nat.le_max_left _ _) (Nat.le_add_left _ _)) _) hd
  have hd2:sc.length+1+dpB bo<=1000000:=Nat.le_trans (by rw[Nat.add_assoc];exact Nat.add_le_add_left (Nat.add_le_add_left (Nat.le_max_right _ _) _) _) hd
  have hd3:sc.length<=1000000:=Nat.le_trans (Nat.le_add_right _ _) hd
  clear hd hd0 hst
  simp only[Nd.ok] at ho
  simp only[Nd.sm] at hs
  obtain ⟨⟨o1,o2,o3,o4,o5,o6,o7,o8⟩,o9,o10,o11⟩:=ho
  obtain ⟨⟨s1,s2,s3⟩,s4,s5,s6⟩:=hs
  obtain ⟨k1,k2⟩:=BiG ki sc ki' hk hkids.1 hf hd1 o10 s5
  have hbo:GM bo'/\GL bo'/\Cs ss':=by
   rcases hc with ⟨_,rfl,rfl,_⟩ | ⟨h10,_,_,f,hb,rfl⟩ | ⟨_,_,rfl,_,_,rfl⟩
   ·exact⟨o11,s6,Ei (n:=0) (by omega)⟩
   ·have hbv:=(T9 hv).2.2 h10
    unfold BF at hbv
    rw[Bool.and_eq_true,decide_eq_true_eq] at hbv
    obtain ⟨q1,q2,q3⟩:=BeM bo sc [] bo' f hb (fun s hsm=>Ez hbv.2 s hsm) hf (by have:=hbv.1;simp only[Nd.bo] at this;simp only[List.length_nil];omega) hd2 o11 s6
    exact⟨q1,q2,Ei q3⟩
   ·exact⟨o11,s6,Ei (n:=0) (by omega)⟩
  have hdl:Cs de'/\Cs sl':=by
   rcases hc with ⟨_,_,_,d,i,hlk,rfl,rfl⟩ | ⟨_,rfl,rfl,_⟩ | ⟨_,_,_,rfl,rfl,_⟩
   ·obtain ⟨q1,f,q2,q3⟩:=Bdd hlk
    have:=hf f q2
    exact⟨Ei (by omega),Ei (by omega)⟩
   ·exact⟨Ei (n:=0) (by omega),Ei (n:=0) (by omega)⟩
   ·exact⟨Ei (n:=0) (by omega),Ei (n:=0) (by omega)⟩
  simp only[Nd.ok,Nd.sm]
  exact⟨⟨⟨o1,o2,o3,o4,o5,hdl.1,hdl.2,hbo.2.2⟩,o9,k1,hbo.1⟩,⟨s1,by rw[hl2];exact s2,by rw[hl];exact s3⟩,s4,k2,hbo.2.1⟩
theorem BiG:∀(l:List Nd) (sc:Scp) (m:List Nd),rvL sc l=.ok m->(∀x∈l,BC x=true)->(∀f∈sc,f.length<=1000000)->sc.length+dpL l<=1000000->IE l->IF l->IE m/\IF m
 | [],sc,m,h,_,_,_,ho,hs=>by
  rw[rvL] at h;injection h with h;subst h;exact⟨ho,hs⟩
 |x::r,sc,m,h,hv,hf,hd,ho,hs=>by
  rw[rvL] at h
  cases hx:rvN sc x with
  |error e=>rw[hx] at h;cases h
  |ok y =>
   rw[hx] at h
   simp only at h
   cases hr:rvL sc r with
   |error e=>rw[hr] at h;cases h
   |ok s =>
    rw[hr] at h
    injection h with h;subst h
    simp only[dpL] at hd
    simp only[IE] at ho
    simp only[IF] at hs
    obtain ⟨a1,a2⟩:=Bb7 x sc y hx (hv x (by simp)) hf (by omega) ho.1 hs.1
    obtain ⟨b1,b2⟩:=BiG r sc s hr (fun z hz=>hv z (by simp[hz])) hf (by omega) ho.2 hs.2
    simp only[IE,IF]
    exact⟨⟨a1,b1⟩,a2,b2⟩
theorem BeM:∀(l:List Sm) (sc:Scp) (f:Frm1) (m:List Sm) (g:Frm1),rvB sc f l=.ok (m,g)->(∀s∈l,BC s.nd=true/\(s.kd=3->BC s.te=true))->(∀f∈sc,f.length<=1000000)->f.length+l.length<=1000000->sc.length+1+dpB l<=1000000->GM l->GL l->GM m/\GL m/\g.length<=1000000
 | [],sc,f,m,g,h,_,_,hl,_,ho,hs=>by
  rw[rvB] at h;injection h with h;injection h with h1 h2;subst h1 h2
  simp only[List.length_nil] at hl
  exact⟨ho,hs,by omega⟩
 |x::r,sc,f,m,g,h,hv,hf,hl,hd,ho,hs=>by
  rw[rvB] at h
  cases hx:rvM sc f x with
  |error e=>rw[hx] at h;cases h
  |ok y =>
   rw[hx] at h
   simp only at h
   cases hr:rvB sc (Iz f y) r with
   |error e=>rw[hr] at h;cases h
   |ok z =>
    obtain ⟨s,g'⟩:=z
    rw[hr] at h
    injection h with h;injection h with h1 h2;subst h1 h2
    simp only[List.length_cons] at hl
    simp only[dpB] at hd
    simp only[GM] at ho
    simp only[GL] at hs
    have hfl:=Bi3 f y
    obtain ⟨a1,a2⟩:=Bl0 x sc f y hx (hv x (by simp)) hf (by omega) (by omega) ho.1 hs.1
    obtain ⟨b1,b2,b3⟩:=BeM r sc (Iz f y) s g' hr (fun z hz=>hv z (by simp[hz])) hf (by omega) (by omega) ho.2 hs.2
    simp only[GM,GL]
    exact⟨⟨a1,b1⟩,⟨a2,b2⟩,b3⟩
theorem Bl0:∀(s:Sm) (sc:Scp) (f:Frm1) (m:Sm),rvM sc f s=.ok m->(BC s.nd=true/\(s.kd=3->BC s.te=true))->(∀f∈sc,f.length<=1000000)->f.length<=1000000->sc.length+1+dpM s<=1000000->s.ok->s.sm->m.ok/\m.sm
 |.mk kd at_ nm sl te nd,sc,f,m,h,hv,hf,hl,hd,ho,hs=>by
  rw[rvM] at h
  simp only[Sm.ok] at ho
  simp only[Sm.sm] at hs
  simp only[Sm.nd,Sm.te,Sm.kd] at hv
  have hf2:∀f'∈f::sc,f'.length<=1000000:=fun f' hf'=>by
   rcases List.mem_cons.1 hf' with rfl | hf'
   ·exact hl
   ·exact hf f' hf'
  rw[dpM] at hd
  by_cases h3:kd=3
  ·rw[if_pos h3] at h hd
   cases ht:rvN (f::sc) te with
   |error e=>rw[ht] at h;cases h
   |ok te' =>
    rw[ht] at h
    simp only at h
    cases hn:rvN (f::sc) nd with
    |error e=>rw[hn] at h;cases h
    |ok nd' =>
     rw[hn] at h
     injection h with h;subst h
     obtain ⟨a1,a2⟩:=Bb7 te (f::sc) te' ht (hv.2 h3) hf2 (by simp only[List.length_cons];omega) ho.2.1 hs.2.1
     obtain ⟨b1,b2⟩:=Bb7 nd (f::sc) nd' hn hv.1 hf2 (by simp only[List.length_cons];omega) ho.2.2 hs.2.2
     simp only[Sm.ok,Sm.sm]
     exact⟨⟨⟨ho.1.1,ho.1.2.1,Ei (n:=0) (by omega)⟩,a1,b1⟩,hs.1,a2,b2⟩
  ·rw[if_neg h3] at h hd
   cases hn:rvN (f::sc) nd with
   |error e=>rw[hn] at h;cases h
   |ok nd' =>
    rw[hn] at h
    injection h with h;subst h
    obtain ⟨b1,b2⟩:=Bb7 nd (f::sc) nd' hn hv.1 hf2 (by simp only[List.length_cons];omega) ho.2.2 hs.2.2
    simp only[Sm.ok,Sm.sm]
    refine⟨⟨⟨ho.1.1,ho.1.2.1,?_⟩,ho.2.1,b1⟩,hs.1,hs.2.1,b2⟩
    by_cases h2:kd=2
    ·rw[if_pos h2];exact Ei hl
    ·rw[if_neg h2];exact Ei (n:=0) (by omega)
end
theorem Bf7(l:List Sm):okS l↔l.length<=BX/\GM l/\GL l:=by
 unfold okS
 rw[Oy,IS]
theorem Ur{l:List Sm}(h:okS l):okS (pgB l)/\Cs (pgN l):=by
 unfold pgB pgN
 cases hp:rvP l with
 |error e =>
  exact⟨⟨Nat.zero_le _,fun s hs=>(by cases hs),fun s hs=>(by cases hs)⟩,Ei (n:=0) (by omega)⟩
 |ok z =>
  obtain ⟨b,f⟩:=z
  have hag:=Bbb hp
  have hlen:b.length=l.length:=by have:=congrArg List.length hag.2.2;simpa using this
  unfold rvP at hp
  split at hp
  ·cases hp
  ·rename_i hr
   have hr:Bw l=0:=by simpa using hr
   unfold Bw at hr
   split at hr
   ·omega
   ·split at hr
    ·omega
    ·rename_i q1 q2
     split at hr
     ·omega
     ·split at hr
      ·rename_i hv
       rw[Bool.and_eq_true] at hv
       have hb:=hv.1
       unfold BF at hb
       rw[Bool.and_eq_true] at hb
       obtain ⟨o1,o2,o3⟩:=(Bf7 l).1 h
       obtain ⟨a1,a2,a3⟩:=BeM l [] [] b f hp (fun s hs=>Ez hb.2 s hs) (fun f hf=>(by cases hf)) (by simp only[List.length_nil];omega) (by simp only[List.length_nil];omega) o2 o3
       exact⟨(Bf7 b).2 ⟨by rw[hlen];exact o1,a1,a2⟩,Ei a3⟩
      ·omega
noncomputable def OL(b:List Sm)(n:Int):Bool:=decide (n=pgN b)&&Bk (b.map exM) ((pgB b).map exM)
noncomputable def rtU(b:List Sm)(n:Int):Int:=if Bw b≠0 then Bw b else if (pgF b).1≠0 then 11 else if OL b n=true then 0 else 11
def unD(b:List Sm)(n:Int):D:=.agg [gsl 34 Sm.row1 b,.int .i64 n]
noncomputable def Bi8(b:List Sm)(n:Int):Con:=fun k ds S=>match k with
 |20=>some (pA ds S (.int .i64 (Bw b)) (ds=[.agg [gsl 34 Sm.row1 b]]))
 |8=>some (pA ds S (pgD b) (ds=[.agg [gsl 34 Sm.row1 b]]))
 |15=>some (pA ds S (.bool (OL b n)) (ds=[unD b n,unD (pgB b) (pgN b)]))
 |_=>none
theorem Bi6{b:List Sm}(hb:okS b)(n:Int):ConOk Tryz.prog (Bi8 b n):=by
 intro k ds S A hh
 unfold Bi8 at hh
 split at hh
 ·injection hh with hh;subst hh
  exact Bm fun e=>by subst e;exact CD.at_ (Blw b hb.1 hb.2.1 hb.2.2) _
 ·injection hh with hh;subst hh
  exact Bm fun e=>by subst e;exact CD.at_ (Bdz b hb.1 hb.2.1 hb.2.2) _
 ·injection hh with hh;subst hh
  exact Bm fun e=>by subst e;exact CD.at_ (Bb4 b (pgB b) n (pgN b) hb (Ur hb).1) _
 ·cases hh
noncomputable def Eru(b:List Sm)(n:Int):Senv:={ EC (Bi8 b n) 29 7 [13,28] (fun _=>([],[])) with mg:=fun _=>2 }
def QCw:Nd:=Nd.mk Z0 Z0 Z0 [] Z0 Z0 DA [] [] Z0 Z0 Z0
def QCx:Sm:=Sm.mk Z0 Z0 [] Z0 QCw QCw
def QCy(a:List Sm):D:=D.sl 34 (LN a) (fun i=>Sm.row1 (List.getD a i QCx)) Mode.any
def QHm(a:List Sm):List D:=[D.agg [QCy a]]
def QCz(a:List Sm):Prop:=SM (QHm a)
def QCA(a:List Sm)(b:Int):Prop:=True/\∃(_y:Unit),True/\(11:Int)=rtU a b/\True/\True
def QHn(a:List Sm)(b:Int):List D:=[D.agg [QCy a,ZI b],D.agg [D.sl 34 (LN (pgB a)) (fun i=>Sm.row1 (List.getD (pgB a) i QCx)) Mode.any,ZI (pgN a)]]
theorem Bf8(b:List Sm)(n:Int)(hb:okS b):CD 13 [unD b n] (.int .i64 (rtU b n)):=by
 refine Bh (A:=sC _ _) (x:=()) (E:=Eru b n) (eOk (Bi6 hb n) rfl) Tryz.func13 rfl (by kernel_rfl) rfl (by simp[sC,Eru,EC,E0]) ?_
 refine Bl (T :=
  ∀(x:Nat),True->SM x/\∀(x_1:Nat),x≠x_1/\True->SM x_1/\SM x_1/\∃(x_2:Unit),QCz b/\∀(y:Unit),True->ifB (Bw b != Z0) (RT (Bw b=rtU b n)) (SM x_1/\∃(x_3:Unit),QCz b/\∀(y:Unit),True->∀(x_4:Nat),x_1≠x_4/\x≠x_4/\True->∀(x_5:Nat),x_4≠x_5/\x_1≠x_5/\x≠x_5/\True->SM x_4/\SM x_5/\SM x_5/\ifB (Prod.fst (pgF b) != Z0) (QCA b n) (SM x/\SM x_4/\∃(x:Unit),SM (QHn b n)/\∀(y:Unit),True->ifB (!OL b n) (QCA b n) (RT (Z0=rtU b n))))) (by kernel_rfl) ?_
 delta DA LN SM Z0 ZI QCw QCx QCy QHm QCz QCA QHn RT
 try simp only[<- dm]
 try simp only[<- dn]
 simp only[ne_eq,Bg,true_and,and_true,bne_iff_ne,bne_eq_false_iff_eq,Bool.not_eq_true',Bool.not_eq_false',exists_const,forall_const]
 exact fun _ _ _=>⟨fun h=>by rw[rtU,if_pos h],fun h _ _ _ _=>⟨fun h2=>by rw[rtU,if_neg (by simp[h]),if_pos h2],fun h2=>⟨fun h3=>by rw[rtU,if_neg (by simp[h]),if_neg (by simp[h2]),if_neg (by simp[h3])],fun h3=>by rw[rtU,if_neg (by simp[h]),if_neg (by simp[h2]),if_pos h3]⟩⟩⟩
def B2(sc:Scp)(i:Nat):List D:=[ssl (nmF (sc.reverse.getD i [])) .any]
def B1(sc:Scp)(i:Nat):List D:=[isl (clF (sc.reverse.getD i [])) .any]
def scC(sc:Scp):List D:=[.sl 1 sc.length (B2 sc) .any,.sl 1 sc.length (B1 sc) .any]
def Gy(i:Nat)(x:Option (Nat×Int)):Option (Nat×Int):=x.map fun x=>(x.1+i,x.2)
structure LkO (nm:List UInt8) (sc:Scp) (d:Nat):Prop where
 le:d<=sc.length
 eq:Bv nm sc=GF d (Bv nm (sc.drop d))
structure LkI (nm:List UInt8) (f:Frm1) (i:Nat):Prop where
 le:i<=f.length
 eq:Cx nm f=Gy i (Cx nm (f.drop i))
mutual
theorem Oz:∀(n:Nd) (sc:Scp) (e:Flt),rvN sc n=.error e->e.1≠0
 |.mk kd at_ cl tx pr op va ki bo de sl ss,sc,e,h=>by
  rw[rvN] at h
  cases hk:rvL sc ki with
  |error e' =>
   rw[hk] at h
   injection h with h
   subst h
   exact BfS ki sc _ hk
  |ok ki' =>
   rw[hk] at h
   simp only at h
   split at h
   ·split at h
    ·injection h with h
     subst h
     show (28:Int)≠0
     decide
    ·split at h
     ·cases h
     ·injection h with h
      subst h
      show (11:Int)≠0
      decide
   ·split at h
    ·cases hb:rvB sc [] bo with
     |error e' =>
      rw[hb] at h
      injection h with h
      subst h
      exact Tz bo sc [] _ hb
     |ok z=>rw[hb] at h;cases h
    ·cases h
theorem BfS:∀(l:List Nd) (sc:Scp) (e:Flt),rvL sc l=.error e->e.1≠0
 | [],sc,e,h=>by rw[rvL] at h;cases h
 |x::r,sc,e,h=>by
  rw[rvL] at h
  cases hx:rvN sc x with
  |error e' =>
   rw[hx] at h
   injection h with h
   subst h
   exact Oz x sc _ hx
  |ok y =>
   rw[hx] at h
   simp only at h
   cases hr:rvL sc r with
   |error e' =>
    rw[hr] at h
    injection h with h
    subst h
    exact BfS r sc _ hr
   |ok s=>rw[hr] at h;cases h
theorem Tz:∀(l:List Sm) (sc:Scp) (f:Frm1) (e:Flt),rvB sc f l=.error e->e.1≠0
 | [],sc,f,e,h=>by rw[rvB] at h;cases h
 |x::r,sc,f,e,h=>by
  rw[rvB] at h
  cases hx:rvM sc f x with
  |error e' =>
   rw[hx] at h
   injection h with h
   subst h
   exact BkT x sc f _ hx
  |ok y =>
   rw[hx] at h
   simp only at h
   cases hr:rvB sc (Iz f y) r with
   |error e' =>
    rw[hr] at h
    injection h with h
    subst h
    exact Tz r sc _ _ hr
   |ok s=>rw[hr] at h;cases h
theorem BkT:∀(s:Sm) (sc:Scp) (f:Frm1) (e:Flt),rvM sc f s=.error e->e.1≠0
 |.mk kd at_ nm sl te nd,sc,f,e,h=>by
  rw[rvM] at h
  split at h
  ·cases hx:rvN (f::sc) te with
   |error e' =>
    rw[hx] at h
    injection h with h
    subst h
    exact Oz te (f::sc) _ hx
   |ok y =>
    rw[hx] at h
    simp only at h
    cases hr:rvN (f::sc) nd with
    |error e' =>
     rw[hr] at h
     injection h with h
     subst h
     exact Oz nd (f::sc) _ hr
    |ok s=>rw[hr] at h;cases h
  ·cases hr:rvN (f::sc) nd with
   |error e' =>
    rw[hr] at h
    injection h with h
    subst h
    exact Oz nd (f::sc) _ hr
   |ok s=>rw[hr] at h;cases h
end
def Bg1(x:Except Flt Nd)(r:AEnd):Prop:=match x with
 |.ok m=>r=.ret (.tup [.agg m.row1,CY (0,0,[])])
 |.error e=>∃m:Nd,r=.ret (.tup [.agg m.row1,CY e])
def VRn(sc:Scp)(n:Nd):Prop:=CZ 49 [.agg (scC sc),.agg n.row2] (Bg1 (rvN sc n))
theorem VRn.down{sc:Scp}{n:Nd}(h:VRn sc n):CZ 49 [.agg (scC sc),.agg n.row1] (Bg1 (rvN sc n)):=by
 refine CZ.wk h ?_
 simp only[wkL]
 exact⟨Bd _,by simp only[wkD];exact Mk n,trivial⟩
structure KJ (sc:Scp) (ki cur:List Nd) (i:Nat):Prop where
 len:cur.length=i
 le:i<=ki.length
 tot:rvL sc ki=Bg4 cur (rvL sc (ki.drop i))
theorem KJ.zero(sc:Scp)(ki:List Nd):KJ sc ki [] 0:=⟨rfl,Nat.zero_le _,by
 rw[List.drop_zero]
 cases rvL sc ki<;>rfl⟩
theorem KJ.err{sc:Scp}{ki cur:List Nd}{i:Nat}(h:KJ sc ki cur i)(hi:i<ki.length){e:Flt}(he:rvN sc (ki.getD i default)=.error e):rvL sc ki=.error e:=by
 rw[h.tot,BN hi,rvL,he]
 rfl
theorem KJ.ok{sc:Scp}{ki cur:List Nd}{i:Nat}(h:KJ sc ki cur i)(hi:i<ki.length){m:Nd}(he:rvN sc (ki.getD i default)=.ok m):KJ sc ki (cur++[m]) (i+1):=by
 refine⟨by rw[List.length_append,h.len];rfl,hi,?_⟩
 rw[h.tot,BN hi,rvL,he]
 cases rvL sc (ki.drop (i+1)) with
 |ok l=>simp[Bg4]
 |error e=>rfl
theorem KJ.done{sc:Scp}{ki cur:List Nd}{i:Nat}(h:KJ sc ki cur i)(hi:¬i<ki.length):rvL sc ki=.ok cur:=by
 have:i=ki.length:=by have:=h.le;omega
 rw[h.tot,this,List.drop_length,rvL]
 simp[Bg4]
structure BJ (sc:Scp) (l out:List Sm) (f:Frm1) (i:Nat):Prop where
 len:out.length=i
 le:i<=l.length
 fl:f.length<=i
 tot:rvB sc [] l=BhN out (rvB sc f (l.drop i))
theorem BJ.zero(sc:Scp)(l:List Sm):BJ sc l [] [] 0:=⟨rfl,Nat.zero_le _,Nat.le_refl _,by
 rw[List.drop_zero]
 cases rvB sc [] l<;>rfl⟩
theorem BJ.err{sc:Scp}{l out:List Sm}{f:Frm1}{i:Nat}(h:BJ sc l out f i)(hi:i<l.length){e:Flt}(he:rvM sc f (l.getD i default)=.error e):rvB sc [] l=.error e:=by
 rw[h.tot,BN hi,rvB,he]
 rfl
theorem BJ.ok{sc:Scp}{l out:List Sm}{f:Frm1}{i:Nat}(h:BJ sc l out f i)(hi:i<l.length){t:Sm}(he:rvM sc f (l.getD i default)=.ok t):BJ sc l (out++[t]) (Iz f t) (i+1):=by
 refine⟨by rw[List.length_append,h.len];rfl,hi,?_,?_⟩
 ·have:=h.fl
  unfold Iz
  split
  ·rw[List.length_append];simpa using this
  ·omega
 ·rw[h.tot,BN hi,rvB,he]
  simp only
  cases rvB sc (Iz f t) (l.drop (i+1)) with
  |ok z=>simp[BhN]
  |error e=>rfl
theorem BJ.done{sc:Scp}{l out:List Sm}{f:Frm1}{i:Nat}(h:BJ sc l out f i)(hi:¬i<l.length):rvB sc [] l=.ok (out,f):=by
 have:i=l.length:=by have:=h.le;omega
 rw[h.tot,this,List.drop_length,rvB]
 simp[BhN]
theorem I7(b:List Sm)(n:Int):(decide (n=n)&&Bk (b.map exM) (b.map exM))=true:=by
 rw[decide_eq_true rfl,Bq.2 rfl]
 rfl
theorem Bmw{l:List Sm}(h:(pgF l).1=0):rvP l=.ok (pgB l,(match rvP l with | .ok z=>z.2 | .error _=>[])):=by
 unfold pgF at h
 unfold pgB
 cases hx:rvP l with
 |ok z=>rfl
 |error e =>
  rw[hx] at h
  simp only at h
  unfold rvP at hx
  split at hx
  ·rename_i q
   injection hx with hx
   subst hx
   exact absurd h q
  ·exact absurd h (Tz _ _ _ _ hx)
theorem MS{l:List Sm}(h:(pgF l).1=0):Bw (pgB l)=0/\pgB (pgB l)=pgB l/\pgN (pgB l)=pgN l/\pgF (pgB l)=(0,0,[])/\(pgB l).map stM=l.map stM:=by
 have h0:=Bmw h
 obtain ⟨h1,h2,h3⟩:=Bbb h0
 refine⟨h1,?_,?_,?_,h3⟩
 ·rw[pgB,h2]
 ·rw[pgN,h2,pgN,h0]
 ·rw[pgF,h2]
end
end Go.Proofs.YtfbfnhbafjmnaaaGreat
