/- Functions of the given program and what each of them computes: lemmas towards the statement, their conditions stated with each of them. -/
import Derived.Test.YtfbfnhbafjmnaaaGreatS2
namespace Go.Proofs.YtfbfnhbafjmnaaaGreat
open Go Go.Ab
set_option maxRecDepth 100000
noncomputable section
noncomputable def Bhd(l m:List Nd):Con:=fun k ds S=>match k with
 |53=>some (pE (β:=Nd×Nd) ds S (fun x=>.bool (Bw (exN x.1) (exN x.2))) (fun x=>wkL ds [.agg x.1.row1,.agg x.2.row1]/\x.1∈l/\x.2∈m))
 |_=>none
noncomputable def FFen(l m:List Nd):Senv:={ EC (Bhd l m) 32 3 [6,7,8,9,14,15,16,17,18,30] (fun _=>([],[])) with
 ann:=fun q _ S=>match q with
  |0=>some { slots:=[17],keep:=[0,1,2,15,16],α:=Nat,st:=fun i=>([.int .i64 i],S),inv:=fun i=>i<=l.length/\∀j,j<i->exN (l.getD j default)=exN (m.getD j default),mu:=fun i=>l.length-i }
  |_=>none }
def Qj7(a b:List Nd):Prop:=RT (false=Bw (List.map exN a) (List.map exN b))
def Z3:Arr:=DA
def Vx:Nd:=Nd.mk Z0 Z0 Z0 [] Z0 Z0 Z3 [] [] Z0 Z0 Z0
def Q5(a:List Nd)(b:Nat):Nd:=List.getD a b Vx
def Qj8(a:List Nd)(b:Nat):Nd:=exN (Q5 a b)
def Qcu(a:Nat)(b c:List Nd):Prop:=a<=LN b/\∀(j:Nat),j<a->Qj8 b j=Qj8 c j
def KG(a:List Nd)(b:Nat):Nd:=List.getD a (Int.toNat (↑b:Int)) Vx
def Z4(a:List Nd)(b:Nat):Arr:=Nd.va (KG a b)
def Qsg(a:List Nd)(b:Nat):List Int:=Arr.sh (Z4 a b)
def Qsh(a:List Nd)(b:Nat):List Int:=Arr.nu (Z4 a b)
def Qj9(a:List Nd)(b:Nat):List Arr:=Arr.it (Z4 a b)
def Qka(a:List Nd)(b:Nat):List Nd:=Nd.ki (KG a b)
def Qkb(a:List Nd)(b:Nat):List Sm:=Nd.bo (KG a b)
def Qcv:Sm:=Sm.mk Z0 Z0 [] Z0 Vx Vx
def Qkc(a:List Nd)(b:Nat):D:=D.agg [ZI (Nd.kd (KG a b)),ZI (Nd.at_ (KG a b)),ZI (Nd.cl (KG a b)),D.str (Nd.tx (KG a b)),ZI (Nd.pr (KG a b)),ZI (Nd.op (KG a b)),ZI (Arr.k (Z4 a b)),SI (Qsg a b),SI (Qsh a b),D.sl N4 (LN (Qj9 a b)) (fun i=>Arr.row (List.getD (Qj9 a b) i Z3)) Mode.any,D.sl 15 (LN (Qka a b)) (fun i=>Nd.row (List.getD (Qka a b) i Vx)) Mode.any,D.sl 34 (LN (Qkb a b)) (fun i=>Sm.row (List.getD (Qkb a b) i Qcv)) Mode.any,ZI (Nd.de (KG a b)),ZI (Nd.sl (KG a b)),ZI (Nd.ss (KG a b))]
def Z5(a:Nd):Arr:=Nd.va a
def Qsi(a:Nd):List Int:=Arr.sh (Z5 a)
def Qsj(a:Nd):List Int:=Arr.nu (Z5 a)
def Qkd(a:Nd):List Arr:=Arr.it (Z5 a)
def Qke(a:Nd):D:=D.agg [ZI (Nd.kd a),ZI (Nd.at_ a),ZI (Nd.cl a),D.str (Nd.tx a),ZI (Nd.pr a),ZI (Nd.op a),ZI (Arr.k (Z5 a)),SI (Qsi a),SI (Qsj a),D.sl N4 (LN (Qkd a)) (fun i=>Arr.row (List.getD (Qkd a) i Z3)) Mode.any,D.sl 15 (LN (Nd.ki a)) (fun i=>Nd.row (List.getD (Nd.ki a) i Vx)) Mode.any,D.sl 34 (LN (Nd.bo a)) (fun i=>Sm.row (List.getD (Nd.bo a) i Qcv)) Mode.any,ZI (Nd.de a),ZI (Nd.sl a),ZI (Nd.ss a)]
def Z6(a:List Nd)(b:Nat):Arr:=Nd.va (Q5 a b)
def Qsk(a:List Nd)(b:Nat):List Int:=Arr.sh (Z6 a b)
def Qsl(a:List Nd)(b:Nat):List Int:=Arr.nu (Z6 a b)
def Qkf(a:List Nd)(b:Nat):List Arr:=Arr.it (Z6 a b)
def Qkg(a:List Nd)(b:Nat):List Nd:=Nd.ki (Q5 a b)
def Qkh(a:List Nd)(b:Nat):List Sm:=Nd.bo (Q5 a b)
def Qsm(a:List Nd):D:=D.sl 15 (LN a) (fun i=>[ZI (Nd.kd (Q5 a i)),ZI (Nd.at_ (Q5 a i)),ZI (Nd.cl (Q5 a i)),D.str (Nd.tx (Q5 a i)),ZI (Nd.pr (Q5 a i)),ZI (Nd.op (Q5 a i)),ZI (Arr.k (Z6 a i)),SI (Qsk a i),SI (Qsl a i),D.sl N4 (LN (Qkf a i)) (fun i_1=>Arr.row (List.getD (Qkf a i) i_1 Z3)) Mode.any,D.sl 15 (LN (Qkg a i)) (fun i_1=>Nd.row (List.getD (Qkg a i) i_1 Vx)) Mode.any,D.sl 34 (LN (Qkh a i)) (fun i_1=>Sm.row (List.getD (Qkh a i) i_1 Qcv)) Mode.any,ZI (Nd.de (Q5 a i)),ZI (Nd.sl (Q5 a i)),ZI (Nd.ss (Q5 a i))]) Mode.any
def Qcw(a:List Nd):Prop:=SM (Qsm a)
theorem Fen_ok(l m : List Nd)(hl : l.length<=maxLen)(hm : m.length<=maxLen)(h : ∀x∈l, ∀y∈m, CD 53 [.agg x.row1, .agg y.row1] (.bool (Bw (exN x) (exN y)))) :
  CD 83 [gsl 15 Nd.row1 l,gsl 15 Nd.row1 m,.fn (.func 53) [] []] (.bool (Bw (l.map exN) (m.map exN))):=by
 refine Bi (A:=sC _ _) (x:=()) (E:=FFen l m) (eOk ?_ rfl) Tryz.func83 rfl (by kernel_rfl) rfl (by simp[sC,FFen,EC,E0]) ?_
 ·intro k ds S A hh
  unfold Bhd at hh
  split at hh
  ·injection hh with hh;subst hh
   exact Cl fun x ⟨e,h1,h2⟩=>CD.at_ (CD.wk (h _ h1 _ h2) e) _
  ·cases hh
 refine Bj (T :=
  ifB ((LI l) != (LI m)) (Qj7 l m) ((∃(x:Nat),Qcu x l m/\(Z0=(↑x:Int)/\True)/\True/\True)/\∀(x:Nat),Qcu x l m->ifB (decide ((↑x:Int)<(LI l))) (Bd (Z0<=(↑x:Int)/\(↑x:Int)<(LI l)) (∀(x_1:Nat),True->SM x_1/\Bd (Z0<=(↑x:Int)/\(↑x:Int)<(LI m)) (∀(x_2:Nat),x_1≠x_2/\True->SM x_2/\SM x_1/\SM x_2/\∃(x_3:Nd×Nd),(wkL [Qkc l x,Qkc m x] [Qke x_3.1,Qke x_3.2]/\x_3.1∈l/\x_3.2∈m)/\∀(y:Unit),True->ifB (!Bw (exN x_3.1) (exN x_3.2)) (Qj7 l m) ((Qcw l/\Qcw m/\SM (D.fn (Fn.func (53:Nat)) [] [])/\Qcw l/\SM (ZI (LI l))/\True)/\∃(y:Nat),Qcu y l m/\LN l-y<LN l-x/\(IntKind.wrap IntKind.i64 ((↑x:Int)+Z1)=(↑y:Int)/\True)/\True/\True)))) (RT (true=Bw (List.map exN l) (List.map exN m))))) (by kernel_rfl) ?_
 delta DA GI LI LN N1 N4 SI SM Z0 Z1 ZI Qj7 Z3 Qj9 Qka Qkb Qcv Qkc Z5 Qsi Qsj Qkd Qke Vx Z6 Qsk Qsl Qkf Qkg Qkh Qsm Qcw Q5 Qj8 Qcu KG Z4 Qsg Qsh RT
 try simp only[<- dm]
 try simp only[<- dn]
 simp only[eq_self,ne_eq,implies_true,Bm,Int.toNat_natCast,Bh,Bf,decide_eq_true_eq,decide_eq_false_iff_not,true_and,and_true,beq_iff_eq,bne_iff_ne,bne_eq_false_iff_eq,beq_eq_false_iff_ne,Bool.not_eq_true',Bool.not_eq_false',exists_const,forall_const,Prod.exists]
 simp only[maxLen] at hl hm
 have gm:∀ {i:Nat},i<l.length->i<m.length->l.getD i default∈l/\m.getD i default∈m:=fun h1 h2=>⟨by rw[List.getD_eq_getElem?_getD,List.getElem?_eq_getElem h1];exact List.getElem_mem h1,by rw[List.getD_eq_getElem?_getD,List.getElem?_eq_getElem h2];exact List.getElem_mem h2⟩
 have gmap:∀ {l:List Nd} {i:Nat},i<l.length->(l.map exN).getD i (exN default)=exN (l.getD i default):=fun h=>by simp[List.getD_eq_getElem?_getD,h]
 refine⟨fun h=>BL fun e=>h (by have:=congrArg List.length e;simp only[List.length_map] at this;omega),fun he=>⟨⟨0,⟨Nat.zero_le _,fun j hj=>absurd hj (by omega)⟩,rfl⟩,fun i ⟨i1,hi⟩=>⟨fun hlt=>⟨⟨by omega,hlt⟩,fun _=>⟨⟨by omega,by omega⟩,fun _ _=>⟨l.getD i default,m.getD i default,⟨Bc _,gm (by omega) (by omega)⟩,fun hn=>BL fun e=>?_,fun hs=>⟨i+1,⟨by omega,fun j hj=>?_⟩,by omega,Be (by omega) (by omega)⟩⟩⟩⟩,fun hge=>Ml ?_⟩⟩⟩
 ·have e2:exN (l.getD i default)=exN (m.getD i default):=by
   rw[<- gmap (by omega),<- gmap (by omega),e]
  rw[e2,BN.2 rfl] at hn;cases hn
 ·by_cases q:j=i
  ·rw[q];exact BN.1 hs
  ·exact hi j (by omega)
 ·refine T9 (exN default) (by simp;omega) fun j hj=>?_
  have hj:j<l.length:=by simpa using hj
  rw[gmap hj,gmap (by omega)]
  exact hi j (by omega)
noncomputable def BhR(l m:List Sm):Con:=fun k ds S=>match k with
 |30=>some (pE (β:=Sm×Sm) ds S (fun x=>.bool (Bw (exM x.1) (exM x.2))) (fun x=>wkL ds [.agg x.1.row1,.agg x.2.row1]/\x.1∈l/\x.2∈m))
 |_=>none
noncomputable def FFes(l m:List Sm):Senv:={ EC (BhR l m) 32 3 [6,7,8,9,14,15,16,17,18,30] (fun _=>([],[])) with
 ann:=fun q _ S=>match q with
  |0=>some { slots:=[17],keep:=[0,1,2,15,16],α:=Nat,st:=fun i=>([.int .i64 i],S),inv:=fun i=>i<=l.length/\∀j,j<i->exM (l.getD j default)=exM (m.getD j default),mu:=fun i=>l.length-i }
  |_=>none }
def Qki(a b:List Sm):Prop:=RT (false=Bw (List.map exM a) (List.map exM b))
def Vy:Arr:=DA
def Vd:Nd:=Nd.mk Z0 Z0 Z0 [] Z0 Z0 Vy [] [] Z0 Z0 Z0
def Ve:Sm:=Sm.mk Z0 Z0 [] Z0 Vd Vd
def Vz(a:List Sm)(b:Nat):Sm:=List.getD a b Ve
def Qkj(a:List Sm)(b:Nat):Sm:=exM (Vz a b)
def Qcx(a:Nat)(b c:List Sm):Prop:=a<=LN b/\∀(j:Nat),j<a->Qkj b j=Qkj c j
def Xf(a:List Sm)(b:Nat):Sm:=List.getD a (Int.toNat (↑b:Int)) Ve
def KH(a:List Sm)(b:Nat):Nd:=Sm.te (Xf a b)
def Z7(a:List Sm)(b:Nat):Arr:=Nd.va (KH a b)
def Qsn(a:List Sm)(b:Nat):List Int:=Arr.sh (Z7 a b)
def Qso(a:List Sm)(b:Nat):List Int:=Arr.nu (Z7 a b)
def Qkk(a:List Sm)(b:Nat):List Arr:=Arr.it (Z7 a b)
def Qkl(a:List Sm)(b:Nat):List Nd:=Nd.ki (KH a b)
def Qkm(a:List Sm)(b:Nat):List Sm:=Nd.bo (KH a b)
def KK(a:List Sm)(b:Nat):Nd:=Sm.nd (Xf a b)
def Z8(a:List Sm)(b:Nat):Arr:=Nd.va (KK a b)
def Qsp(a:List Sm)(b:Nat):List Int:=Arr.sh (Z8 a b)
def Qsq(a:List Sm)(b:Nat):List Int:=Arr.nu (Z8 a b)
def Qkn(a:List Sm)(b:Nat):List Arr:=Arr.it (Z8 a b)
def Qko(a:List Sm)(b:Nat):List Nd:=Nd.ki (KK a b)
def Qkp(a:List Sm)(b:Nat):List Sm:=Nd.bo (KK a b)
def Qkq(a:List Sm)(b:Nat):D:=D.agg [ZI (Sm.kd (Xf a b)),ZI (Sm.at_ (Xf a b)),D.str (Sm.nm (Xf a b)),ZI (Sm.sl (Xf a b)),ZI (Nd.kd (KH a b)),ZI (Nd.at_ (KH a b)),ZI (Nd.cl (KH a b)),D.str (Nd.tx (KH a b)),ZI (Nd.pr (KH a b)),ZI (Nd.op (KH a b)),ZI (Arr.k (Z7 a b)),SI (Qsn a b),SI (Qso a b),D.sl N4 (LN (Qkk a b)) (fun i=>Arr.row (List.getD (Qkk a b) i Vy)) Mode.any,D.sl 15 (LN (Qkl a b)) (fun i=>Nd.row (List.getD (Qkl a b) i Vd)) Mode.any,D.sl 34 (LN (Qkm a b)) (fun i=>Sm.row (List.getD (Qkm a b) i Ve)) Mode.any,ZI (Nd.de (KH a b)),ZI (Nd.sl (KH a b)),ZI (Nd.ss (KH a b)),ZI (Nd.kd (KK a b)),ZI (Nd.at_ (KK a b)),ZI (Nd.cl (KK a b)),D.str (Nd.tx (KK a b)),ZI (Nd.pr (KK a b)),ZI (Nd.op (KK a b)),ZI (Arr.k (Z8 a b)),SI (Qsp a b),SI (Qsq a b),D.sl N4 (LN (Qkn a b)) (fun i=>Arr.row (List.getD (Qkn a b) i Vy)) Mode.any,D.sl 15 (LN (Qko a b)) (fun i=>Nd.row (List.getD (Qko a b) i Vd)) Mode.any,D.sl 34 (LN (Qkp a b)) (fun i=>Sm.row (List.getD (Qkp a b) i Ve)) Mode.any,ZI (Nd.de (KK a b)),ZI (Nd.sl (KK a b)),ZI (Nd.ss (KK a b))]
def KL(a:Sm):Nd:=Sm.te a
def Z9(a:Sm):Arr:=Nd.va (KL a)
def Qsr(a:Sm):List Int:=Arr.sh (Z9 a)
def Qss(a:Sm):List Int:=Arr.nu (Z9 a)
def Qkr(a:Sm):List Arr:=Arr.it (Z9 a)
def Qks(a:Sm):List Nd:=Nd.ki (KL a)
def Qkt(a:Sm):List Sm:=Nd.bo (KL a)
def KM(a:Sm):Nd:=Sm.nd a
def Ha(a:Sm):Arr:=Nd.va (KM a)
def Qst(a:Sm):List Int:=Arr.sh (Ha a)
def Qsu(a:Sm):List Int:=Arr.nu (Ha a)
def Qku(a:Sm):List Arr:=Arr.it (Ha a)
def Qkv(a:Sm):List Nd:=Nd.ki (KM a)
def Qkw(a:Sm):List Sm:=Nd.bo (KM a)
def Qkx(a:Sm):D:=D.agg [ZI (Sm.kd a),ZI (Sm.at_ a),D.str (Sm.nm a),ZI (Sm.sl a),ZI (Nd.kd (KL a)),ZI (Nd.at_ (KL a)),ZI (Nd.cl (KL a)),D.str (Nd.tx (KL a)),ZI (Nd.pr (KL a)),ZI (Nd.op (KL a)),ZI (Arr.k (Z9 a)),SI (Qsr a),SI (Qss a),D.sl N4 (LN (Qkr a)) (fun i=>Arr.row (List.getD (Qkr a) i Vy)) Mode.any,D.sl 15 (LN (Qks a)) (fun i=>Nd.row (List.getD (Qks a) i Vd)) Mode.any,D.sl 34 (LN (Qkt a)) (fun i=>Sm.row (List.getD (Qkt a) i Ve)) Mode.any,ZI (Nd.de (KL a)),ZI (Nd.sl (KL a)),ZI (Nd.ss (KL a)),ZI (Nd.kd (KM a)),ZI (Nd.at_ (KM a)),ZI (Nd.cl (KM a)),D.str (Nd.tx (KM a)),ZI (Nd.pr (KM a)),ZI (Nd.op (KM a)),ZI (Arr.k (Ha a)),SI (Qst a),SI (Qsu a),D.sl N4 (LN (Qku a)) (fun i=>Arr.row (List.getD (Qku a) i Vy)) Mode.any,D.sl 15 (LN (Qkv a)) (fun i=>Nd.row (List.getD (Qkv a) i Vd)) Mode.any,D.sl 34 (LN (Qkw a)) (fun i=>Sm.row (List.getD (Qkw a) i Ve)) Mode.any,ZI (Nd.de (KM a)),ZI (Nd.sl (KM a)),ZI (Nd.ss (KM a))]
def KN(a:List Sm)(b:Nat):Nd:=Sm.te (Vz a b)
def Hb(a:List Sm)(b:Nat):Arr:=Nd.va (KN a b)
def Qsv(a:List Sm)(b:Nat):List Int:=Arr.sh (Hb a b)
def Qsw(a:List Sm)(b:Nat):List Int:=Arr.nu (Hb a b)
def Qky(a:List Sm)(b:Nat):List Arr:=Arr.it (Hb a b)
def Qkz(a:List Sm)(b:Nat):List Nd:=Nd.ki (KN a b)
def QkA(a:List Sm)(b:Nat):List Sm:=Nd.bo (KN a b)
def KO(a:List Sm)(b:Nat):Nd:=Sm.nd (Vz a b)
def Hc(a:List Sm)(b:Nat):Arr:=Nd.va (KO a b)
def Qsx(a:List Sm)(b:Nat):List Int:=Arr.sh (Hc a b)
def Qsy(a:List Sm)(b:Nat):List Int:=Arr.nu (Hc a b)
def QkB(a:List Sm)(b:Nat):List Arr:=Arr.it (Hc a b)
def QkC(a:List Sm)(b:Nat):List Nd:=Nd.ki (KO a b)
def QkD(a:List Sm)(b:Nat):List Sm:=Nd.bo (KO a b)
def Qsz(a:List Sm):D:=D.sl 34 (LN a) (fun i=>[ZI (Sm.kd (Vz a i)),ZI (Sm.at_ (Vz a i)),D.str (Sm.nm (Vz a i)),ZI (Sm.sl (Vz a i)),ZI (Nd.kd (KN a i)),ZI (Nd.at_ (KN a i)),ZI (Nd.cl (KN a i)),D.str (Nd.tx (KN a i)),ZI (Nd.pr (KN a i)),ZI (Nd.op (KN a i)),ZI (Arr.k (Hb a i)),SI (Qsv a i),SI (Qsw a i),D.sl N4 (LN (Qky a i)) (fun i_1=>Arr.row (List.getD (Qky a i) i_1 Vy)) Mode.any,D.sl 15 (LN (Qkz a i)) (fun i_1=>Nd.row (List.getD (Qkz a i) i_1 Vd)) Mode.any,D.sl 34 (LN (QkA a i)) (fun i_1=>Sm.row (List.getD (QkA a i) i_1 Ve)) Mode.any,ZI (Nd.de (KN a i)),ZI (Nd.sl (KN a i)),ZI (Nd.ss (KN a i)),ZI (Nd.kd (KO a i)),ZI (Nd.at_ (KO a i)),ZI (Nd.cl (KO a i)),D.str (Nd.tx (KO a i)),ZI (Nd.pr (KO a i)),ZI (Nd.op (KO a i)),ZI (Arr.k (Hc a i)),SI (Qsx a i),SI (Qsy a i),D.sl N4 (LN (QkB a i)) (fun i_1=>Arr.row (List.getD (QkB a i) i_1 Vy)) Mode.any,D.sl 15 (LN (QkC a i)) (fun i_1=>Nd.row (List.getD (QkC a i) i_1 Vd)) Mode.any,D.sl 34 (LN (QkD a i)) (fun i_1=>Sm.row (List.getD (QkD a i) i_1 Ve)) Mode.any,ZI (Nd.de (KO a i)),ZI (Nd.sl (KO a i)),ZI (Nd.ss (KO a i))]) Mode.any
def Qcy(a:List Sm):Prop:=SM (Qsz a)
theorem Fes_ok(l m : List Sm)(hl : l.length<=maxLen)(hm : m.length<=maxLen)(h : ∀x∈l, ∀y∈m, CD 30 [.agg x.row1, .agg y.row1] (.bool (Bw (exM x) (exM y)))) :
  CD 29 [gsl 34 Sm.row1 l,gsl 34 Sm.row1 m,.fn (.func 30) [] []] (.bool (Bw (l.map exM) (m.map exM))):=by
 refine Bi (A:=sC _ _) (x:=()) (E:=FFes l m) (eOk ?_ rfl) Tryz.func29 rfl (by kernel_rfl) rfl (by simp[sC,FFes,EC,E0]) ?_
 ·intro k ds S A hh
  unfold BhR at hh
  split at hh
  ·injection hh with hh;subst hh
   exact Cl fun x ⟨e,h1,h2⟩=>CD.at_ (CD.wk (h _ h1 _ h2) e) _
  ·cases hh
 refine Bj (T :=
  ifB ((LI l) != (LI m)) (Qki l m) ((∃(x:Nat),Qcx x l m/\(Z0=(↑x:Int)/\True)/\True/\True)/\∀(x:Nat),Qcx x l m->ifB (decide ((↑x:Int)<(LI l))) (Bd (Z0<=(↑x:Int)/\(↑x:Int)<(LI l)) (∀(x_1:Nat),True->SM x_1/\Bd (Z0<=(↑x:Int)/\(↑x:Int)<(LI m)) (∀(x_2:Nat),x_1≠x_2/\True->SM x_2/\SM x_1/\SM x_2/\∃(x_3:Sm×Sm),(wkL [Qkq l x,Qkq m x] [Qkx x_3.1,Qkx x_3.2]/\x_3.1∈l/\x_3.2∈m)/\∀(y:Unit),True->ifB (!Bw (exM x_3.1) (exM x_3.2)) (Qki l m) ((Qcy l/\Qcy m/\SM (D.fn (Fn.func (30:Nat)) [] [])/\Qcy l/\SM (ZI (LI l))/\True)/\∃(y:Nat),Qcx y l m/\LN l-y<LN l-x/\(IntKind.wrap IntKind.i64 ((↑x:Int)+Z1)=(↑y:Int)/\True)/\True/\True)))) (RT (true=Bw (List.map exM l) (List.map exM m))))) (by kernel_rfl) ?_
 delta DA GI LI LN N1 N4 SI SM Z0 Z1 ZI Qki Vy Vd Ve Vz Qkj Qcx Xf KH Z7 Qsn Qso Qkk Qkl Qkm KK Z8 Qsp Qsq Qkn Qko Qkp Qkq KL Z9 Qsr Qss Qkr Qks Qkt KM Ha Qst Qsu Qku Qkv Qkw Qkx KN Hb Qsv Qsw Qky Qkz QkA KO Hc Qsx Qsy QkB QkC QkD Qsz Qcy RT
 try simp only[<- dm]
 try simp only[<- dn]
 simp only[eq_self,ne_eq,implies_true,Bm,Int.toNat_natCast,Bh,Bf,decide_eq_true_eq,decide_eq_false_iff_not,true_and,and_true,beq_iff_eq,bne_iff_ne,bne_eq_false_iff_eq,beq_eq_false_iff_ne,Bool.not_eq_true',Bool.not_eq_false',exists_const,forall_const,Prod.exists]
 simp only[maxLen] at hl hm
 have gm:∀ {i:Nat},i<l.length->i<m.length->l.getD i default∈l/\m.getD i default∈m:=fun h1 h2=>⟨by rw[List.getD_eq_getElem?_getD,List.getElem?_eq_getElem h1];exact List.getElem_mem h1,by rw[List.getD_eq_getElem?_getD,List.getElem?_eq_getElem h2];exact List.getElem_mem h2⟩
 have gmap:∀ {l:List Sm} {i:Nat},i<l.length->(l.map exM).getD i (exM default)=exM (l.getD i default):=fun h=>by simp[List.getD_eq_getElem?_getD,h]
 refine⟨fun h=>BL fun e=>h (by have:=congrArg List.length e;simp only[List.length_map] at this;omega),fun he=>⟨⟨0,⟨Nat.zero_le _,fun j hj=>absurd hj (by omega)⟩,rfl⟩,fun i ⟨i1,hi⟩=>⟨fun hlt=>⟨⟨by omega,hlt⟩,fun _=>⟨⟨by omega,by omega⟩,fun _ _=>⟨l.getD i default,m.getD i default,⟨Bc _,gm (by omega) (by omega)⟩,fun hn=>BL fun e=>?_,fun hs=>⟨i+1,⟨by omega,fun j hj=>?_⟩,by omega,Be (by omega) (by omega)⟩⟩⟩⟩,fun hge=>Ml ?_⟩⟩⟩
 ·have e2:exM (l.getD i default)=exM (m.getD i default):=by
   rw[<- gmap (by omega),<- gmap (by omega),e]
  rw[e2,BN.2 rfl] at hn;cases hn
 ·by_cases q:j=i
  ·rw[q];exact BN.1 hs
  ·exact hi j (by omega)
 ·refine T9 (exM default) (by simp;omega) fun j hj=>?_
  have hj:j<l.length:=by simpa using hj
  rw[gmap hj,gmap (by omega)]
  exact hi j (by omega)
def VSame(a b:Nd):Prop:=CD 53 [.agg a.row2,.agg b.row2] (.bool (Bw (exN a) (exN b)))
noncomputable def Bc3:Con:=fun k ds S=>match k with
 |53=>some (pE (β:=Nd×Nd) ds S (fun x=>.bool (Bw (exN x.1) (exN x.2))) (fun x=>wkL ds [.agg x.1.row1,.agg x.2.row1]/\VSame x.1 x.2))
 |_=>none
theorem BfM:ConOk Tryz.prog Bc3:=by
 intro k ds S A hh
 unfold Bc3 at hh
 split at hh
 ·injection hh with hh;subst hh
  exact Cl fun x ⟨e,h1⟩=>CD.at_ (CD.wk (CD.wk h1 Bf5) e) _
 ·cases hh
noncomputable def Fst:Senv:={ EC Bc3 38 5 [] (fun _=>([],[])) with mg:=fun _=>2 }
def KP(a:Sm):Nd:=Sm.te a
def Hd(a:Sm):Arr:=Nd.va (KP a)
def QsA(a:Sm):List Int:=Arr.sh (Hd a)
def QsB(a:Sm):List Int:=Arr.nu (Hd a)
def QkE(a:Sm):List Arr:=Arr.it (Hd a)
def He:Arr:=DA
def QkF(a:Sm):List Nd:=Nd.ki (KP a)
def Yn:Nd:=Nd.mk Z0 Z0 Z0 [] Z0 Z0 He [] [] Z0 Z0 Z0
def QkG(a:Sm):List Sm:=Nd.bo (KP a)
def Qcz:Sm:=Sm.mk Z0 Z0 [] Z0 Yn Yn
def QkH(a:Sm):D:=D.agg [ZI (Nd.kd (KP a)),ZI (Nd.at_ (KP a)),ZI (Nd.cl (KP a)),D.str (Nd.tx (KP a)),ZI (Nd.pr (KP a)),ZI (Nd.op (KP a)),ZI (Arr.k (Hd a)),SI (QsA a),SI (QsB a),D.sl N4 (LN (QkE a)) (fun i=>Arr.row (List.getD (QkE a) i He)) Mode.any,D.sl 15 (LN (QkF a)) (fun i=>Nd.row (List.getD (QkF a) i Yn)) Mode.any,D.sl 34 (LN (QkG a)) (fun i=>Sm.row (List.getD (QkG a) i Qcz)) Mode.any,ZI (Nd.de (KP a)),ZI (Nd.sl (KP a)),ZI (Nd.ss (KP a))]
def Hf(a:Nd):Arr:=Nd.va a
def QsC(a:Nd):List Int:=Arr.sh (Hf a)
def QsD(a:Nd):List Int:=Arr.nu (Hf a)
def QkI(a:Nd):List Arr:=Arr.it (Hf a)
def QkJ(a:Nd):D:=D.agg [ZI (Nd.kd a),ZI (Nd.at_ a),ZI (Nd.cl a),D.str (Nd.tx a),ZI (Nd.pr a),ZI (Nd.op a),ZI (Arr.k (Hf a)),SI (QsC a),SI (QsD a),D.sl N4 (LN (QkI a)) (fun i=>Arr.row (List.getD (QkI a) i He)) Mode.any,D.sl 15 (LN (Nd.ki a)) (fun i=>Nd.row (List.getD (Nd.ki a) i Yn)) Mode.any,D.sl 34 (LN (Nd.bo a)) (fun i=>Sm.row (List.getD (Nd.bo a) i Qcz)) Mode.any,ZI (Nd.de a),ZI (Nd.sl a),ZI (Nd.ss a)]
def QkK(a b:Nd):List D:=[QkJ a,QkJ b]
def QkL(a b:Nd):Bool:=Bw (exN a) (exN b)
def KR(a:Sm):Nd:=Sm.nd a
def Hg(a:Sm):Arr:=Nd.va (KR a)
def QsE(a:Sm):List Int:=Arr.sh (Hg a)
def QsF(a:Sm):List Int:=Arr.nu (Hg a)
def QkM(a:Sm):List Arr:=Arr.it (Hg a)
def QkN(a:Sm):List Nd:=Nd.ki (KR a)
def QkO(a:Sm):List Sm:=Nd.bo (KR a)
def QkP(a:Sm):D:=D.agg [ZI (Nd.kd (KR a)),ZI (Nd.at_ (KR a)),ZI (Nd.cl (KR a)),D.str (Nd.tx (KR a)),ZI (Nd.pr (KR a)),ZI (Nd.op (KR a)),ZI (Arr.k (Hg a)),SI (QsE a),SI (QsF a),D.sl N4 (LN (QkM a)) (fun i=>Arr.row (List.getD (QkM a) i He)) Mode.any,D.sl 15 (LN (QkN a)) (fun i=>Nd.row (List.getD (QkN a) i Yn)) Mode.any,D.sl 34 (LN (QkO a)) (fun i=>Sm.row (List.getD (QkO a) i Qcz)) Mode.any,ZI (Nd.de (KR a)),ZI (Nd.sl (KR a)),ZI (Nd.ss (KR a))]
def QkQ(a b:Sm):Bool:=Bw (exM a) (exM b)
def Hh(a b:Sm):Prop:=RT (false=QkQ a b)
theorem Ba5(x y:Sm)(h1:VSame x.te y.te)(h2:VSame x.nd y.nd):CD 30 [.agg x.row1,.agg y.row1] (.bool (Bw (exM x) (exM y))):=by
 refine Bi (A:=sC _ _) (x:=()) (E:=Fst) (eOk BfM rfl) Tryz.func30 rfl (by kernel_rfl) rfl (by simp[sC,Fst,EC,E0]) ?_
 refine Bj (T :=
  ∀(x_1:Nat),True->∀(x_2:Nat),x_1≠x_2/\True->SM x_1/\SM x_2/\ifB (Sm.kd x==Sm.kd y) (SM x_1/\SM x_2/\ifB (Sm.nm x==Sm.nm y) (SM x_1/\SM x_2/\ifB (Sm.sl x==Sm.sl y) (SM x_1/\SM x_2/\∃(x_3:Nd×Nd),(wkL [QkH x,QkH y] (QkK x_3.1 x_3.2)/\VSame x_3.1 x_3.2)/\∀(y_1:Unit),True->ifB (QkL x_3.1 x_3.2) (SM x_1/\SM x_2/\∃(x_4:Nd×Nd),(wkL [QkP x,QkP y] (QkK x_4.1 x_4.2)/\VSame x_4.1 x_4.2)/\∀(y_2:Unit),True->True/\∃(y_3:Unit),True/\QkL x_4.1 x_4.2=QkQ x y/\True/\True) (Hh x y)) (Hh x y)) (Hh x y)) (Hh x y)) (by kernel_rfl) ?_
 delta DA GI LN N1 N4 SI SM Z0 ZI KR Hg QsE QsF QkM QkN QkO QkP QkQ Hh KP Hd QsA QsB QkE He QkF Yn QkG Qcz QkH Hf QsC QsD QkI QkJ QkK QkL RT
 try simp only[<- dm]
 try simp only[<- dn]
 simp only[eq_self,ne_eq,implies_true,Bm,Int.toNat_natCast,Bh,Bf,decide_eq_true_eq,decide_eq_false_iff_not,true_and,and_true,beq_iff_eq,bne_iff_ne,bne_eq_false_iff_eq,beq_eq_false_iff_ne,Bool.not_eq_true',Bool.not_eq_false',exists_const,forall_const,Prod.exists]
 have iff:=BiH x y
 have no:∀ {α:Type} {x y:α},Bw x y=false->x≠y:=fun h e=>by rw[BN.2 e] at h;cases h
 refine fun u v _=>⟨fun a1=>⟨fun a2=>⟨fun a3=>⟨x.te,y.te,⟨Bc _,h1⟩,fun a4=>⟨x.nd,y.nd,⟨Bc _,h2⟩,?_⟩,fun a4=>BL fun e=>no a4 (iff.1 e).2.2.2.1⟩,fun a3=>BL fun e=>a3 (iff.1 e).2.2.1⟩,fun a2=>BL fun e=>a2 (iff.1 e).2.1⟩,fun a1=>BL fun e=>a1 (iff.1 e).1⟩
 exact IJ ⟨fun e=>iff.2 ⟨a1,a2,a3,BN.1 a4,e⟩,fun e=>(iff.1 e).2.2.2.2⟩
noncomputable def Bh7(a b:Nd):Con:=fun k ds S=>match k with
 |82=>some (pA ds S (.bool (Bw a.va b.va)) (wkL ds [.agg a.va.row1,.agg b.va.row1]))
 |83=>some (pA ds S (.bool (Bw (a.ki.map exN) (b.ki.map exN))) (wkL ds [gsl 15 Nd.row1 a.ki,gsl 15 Nd.row1 b.ki,.fn (.func 53) [] []]))
 |29=>some (pA ds S (.bool (Bw (a.bo.map exM) (b.bo.map exM))) (wkL ds [gsl 34 Sm.row1 a.bo,gsl 34 Sm.row1 b.bo,.fn (.func 30) [] []]))
 |_=>none
noncomputable def Fsa(a b:Nd):Senv:={ EC (Bh7 a b) 80 5 [] (fun _=>([],[])) with mg:=fun _=>2 }
def Xg(a:Nd):Arr:=Nd.va a
def QsG(a:Nd):List Int:=Arr.sh (Xg a)
def QsH(a:Nd):List Int:=Arr.nu (Xg a)
def QkR(a:Nd):List Arr:=Arr.it (Xg a)
def QkS:Arr:=DA
def QkT(a:Nd):D:=D.agg [ZI (Arr.k (Xg a)),SI (QsG a),SI (QsH a),D.sl N4 (LN (QkR a)) (fun i=>Arr.row (List.getD (QkR a) i QkS)) Mode.any]
def QkU(a b:Nd):List D:=[QkT a,QkT b]
def QcA:Nd:=Nd.mk Z0 Z0 Z0 [] Z0 Z0 QkS [] [] Z0 Z0 Z0
def QkV(a:Nd):D:=D.sl 15 (LN (Nd.ki a)) (fun i=>Nd.row1 (List.getD (Nd.ki a) i QcA)) Mode.any
def QkW(a b:Nd):List D:=[QkV a,QkV b,D.fn (Fn.func (53:Nat)) [] []]
def QkX(a:Nd):D:=D.sl 34 (LN (Nd.bo a)) (fun i=>Sm.row1 (List.getD (Nd.bo a) i (Sm.mk Z0 Z0 [] Z0 QcA QcA))) Mode.any
def QkY(a b:Nd):List D:=[QkX a,QkX b,D.fn (Fn.func (30:Nat)) [] []]
def QkZ(a b:Nd):Bool:=Bw (exN a) (exN b)
def JE(a b:Nd):Prop:=RT (false=QkZ a b)
theorem Bic(a b:Nd)(ha:a.sm/\a.va.ok)(hb:b.sm/\b.va.ok)(h1:∀x∈a.ki,∀y∈b.ki,VSame x y)(h2:∀x∈a.bo,∀y∈b.bo,VSame x.te y.te/\VSame x.nd y.nd):VSame a b:=by
 refine Bi (A:=sC _ _) (x:=()) (E:=Fsa a b) (eOk ?_ rfl) Tryz.func53 rfl (by kernel_rfl) rfl (by simp[sC,Fsa,EC,E0]) ?_
 ·intro k ds S A hh
  unfold Bh7 at hh
  have a1:=EM ha.1
  have b1:=EM hb.1
  split at hh
  ·injection hh with hh;subst hh
   exact Bs fun e=>CD.at_ (CD.wk (Bhv (Bf9 a.va b.va ha.2 hb.2)) e) _
  ·injection hh with hh;subst hh
   exact Bs fun e=>CD.at_ (CD.wk (Fen_ok a.ki b.ki (Ci a1.2.1) (Ci b1.2.1) fun x hx y hy=>CD.wk (h1 x hx y hy) Bf5) e) _
  ·injection hh with hh;subst hh
   exact Bs fun e=>CD.at_ (CD.wk (Fes_ok a.bo b.bo (Ci a1.2.2) (Ci b1.2.2) fun x hx y hy=>Ba5 x y (h2 x hx y hy).1 (h2 x hx y hy).2) e) _
  ·cases hh
 refine Bj (T :=
  ∀(x:Nat),True->∀(x_1:Nat),x≠x_1/\True->SM x/\SM x_1/\ifB (Nd.kd a==Nd.kd b) (SM x/\SM x_1/\ifB (Nd.cl a==Nd.cl b) (SM x/\SM x_1/\ifB (Nd.tx a==Nd.tx b) (SM x/\SM x_1/\ifB (Nd.pr a==Nd.pr b) (SM x/\SM x_1/\ifB (Nd.op a==Nd.op b) (SM x/\SM x_1/\ifB (Nd.de a==Nd.de b) (SM x/\SM x_1/\ifB (Nd.sl a==Nd.sl b) (SM x/\SM x_1/\ifB (Nd.ss a==Nd.ss b) (SM x/\SM x_1/\∃(x_2:Unit),wkL (QkU a b) (QkU a b)/\∀(y:Unit),True->ifB (Bw (Xg a) (Xg b)) (SM x/\SM x_1/\∃(x_3:Unit),wkL (QkW a b) (QkW a b)/\∀(y:Unit),True->ifB (Bw (List.map exN (Nd.ki a)) (List.map exN (Nd.ki b))) (SM x/\SM x_1/\∃(x:Unit),wkL (QkY a b) (QkY a b)/\∀(y:Unit),True->RT (Bw (List.map exM (Nd.bo a)) (List.map exM (Nd.bo b))=QkZ a b)) (JE a b)) (JE a b)) (JE a b)) (JE a b)) (JE a b)) (JE a b)) (JE a b)) (JE a b)) (JE a b)) (JE a b)) (by kernel_rfl) ?_
 delta DA GI LN N1 N4 SI SM Z0 ZI Xg QsG QsH QkR QkS QkT QkU QcA QkV QkW QkX QkY QkZ JE RT
 try simp only[<- dm]
 try simp only[<- dn]
 simp only[eq_self,ne_eq,implies_true,Bm,Int.toNat_natCast,Bh,Bf,decide_eq_true_eq,decide_eq_false_iff_not,true_and,and_true,beq_iff_eq,bne_iff_ne,bne_eq_false_iff_eq,beq_eq_false_iff_ne,Bool.not_eq_true',Bool.not_eq_false',exists_const,forall_const,Prod.exists]
 have iff:=Bjd a b
 have no:∀ {α:Type} {x y:α},Bw x y=false->x≠y:=fun h e=>by rw[BN.2 e] at h;cases h
 refine fun u v _=>⟨fun a1=>⟨fun a2=>⟨fun a3=>⟨fun a4=>⟨fun a5=>⟨fun a6=>⟨fun a7=>⟨fun a8=>⟨Bc _,fun a9=>⟨Bc _,fun a10=>⟨Bc _,?_⟩,fun a10=>BL fun e=>no a10 (iff.1 e).2.2.2.2.2.2.2.2.2.1⟩,fun a9=>BL fun e=>no a9 (iff.1 e).2.2.2.2.2.2.2.2.1⟩,fun a8=>BL fun e=>a8 (iff.1 e).2.2.2.2.2.2.2.1⟩,fun a7=>BL fun e=>a7 (iff.1 e).2.2.2.2.2.2.1⟩,fun a6=>BL fun e=>a6 (iff.1 e).2.2.2.2.2.1⟩,fun a5=>BL fun e=>a5 (iff.1 e).2.2.2.2.1⟩,fun a4=>BL fun e=>a4 (iff.1 e).2.2.2.1⟩,fun a3=>BL fun e=>a3 (iff.1 e).2.2.1⟩,fun a2=>BL fun e=>a2 (iff.1 e).2.1⟩,fun a1=>BL fun e=>a1 (iff.1 e).1⟩
 exact IJ ⟨fun e=>iff.2 ⟨a1,a2,a3,a4,a5,a6,a7,a8,BN.1 a9,BN.1 a10,e⟩,fun e=>(iff.1 e).2.2.2.2.2.2.2.2.2.2⟩
theorem UI(a b:Nd)(ha:a.ok/\a.sm)(hb:b.ok/\b.sm):VSame a b :=
  Bic a b ⟨ha.2,Bii ha.1⟩ ⟨hb.2,Bii hb.1⟩ (fun x hx y hy => UI x y ⟨Bir ha.1 x hx,IP ha.2 (Co hx)⟩ ⟨Bir hb.1 y hy,IP hb.2 (Co hy)⟩) fun x hx y hy =>
    ⟨UI x.te y.te ⟨(Gp (UX ha.1 x hx)).1,(EW (U7 ha.2 x hx)).1⟩ ⟨(Gp (UX hb.1 y hy)).1,(EW (U7 hb.2 y hy)).1⟩,
     UI x.nd y.nd ⟨(Gp (UX ha.1 x hx)).2,(EW (U7 ha.2 x hx)).2⟩ ⟨(Gp (UX hb.1 y hy)).2,(EW (U7 hb.2 y hy)).2⟩⟩
termination_by SizeOf.sizeOf a
decreasing_by
  · exact Nd.size_kid hx
  · have := Nd.size_stmt hx
    have := Sm.size_te x
    omega
  · have := Nd.size_stmt hx
    have := Sm.size_nd x
    omega
theorem Blp(x y:Sm)(hx:x.ok/\x.sm)(hy:y.ok/\y.sm):CD 30 [.agg x.row1,.agg y.row1] (.bool (Bw (exM x) (exM y))) :=
 Ba5 x y (UI _ _ ⟨(Gp hx.1).1,(EW hx.2).1⟩ ⟨(Gp hy.1).1,(EW hy.2).1⟩) (UI _ _ ⟨(Gp hx.1).2,(EW hx.2).2⟩ ⟨(Gp hy.1).2,(EW hy.2).2⟩)
noncomputable def Bhh(a b:List Sm):Con:=fun k ds S=>match k with
 |29=>some (pA ds S (.bool (Bw (a.map exM) (b.map exM))) (wkL ds [gsl 34 Sm.row1 a,gsl 34 Sm.row1 b,.fn (.func 30) [] []]))
 |_=>none
noncomputable def Fsp(a b:List Sm):Senv:=EC (Bhh a b) 17 5 [] (fun _=>([],[]))
def Qk0:Nd:=Nd.mk Z0 Z0 Z0 [] Z0 Z0 DA [] [] Z0 Z0 Z0
def Qk1(a:List Sm):D:=D.sl 34 (LN a) (fun i=>Sm.row1 (List.getD a i (Sm.mk Z0 Z0 [] Z0 Qk0 Qk0))) Mode.any
def Qk2(a b:List Sm):List D:=[Qk1 a,Qk1 b,D.fn (Fn.func (30:Nat)) [] []]
theorem BkT(a b:List Sm)(na nb:Int)(ha:okS a)(hb:okS b):CD 15 [.agg [gsl 34 Sm.row1 a,.int .i64 na],.agg [gsl 34 Sm.row1 b,.int .i64 nb]] (.bool (decide (na=nb)&&Bw (a.map exM) (b.map exM))):=by
 refine Bi (A:=sC _ _) (x:=()) (E:=Fsp a b) (eOk ?_ rfl) Tryz.func15 rfl (by kernel_rfl) rfl (by simp[sC,Fsp,EC,E0]) ?_
 ·intro k ds S A hh
  try unfold Bhh at hh
  try dsimp only at hh
  split at hh
  ·injection hh with hh;subst hh
   exact Bs fun e=>CD.at_ (CD.wk (Fes_ok a b (Ci ha.1) (Ci hb.1) fun x hx y hy=>Blp x y ⟨ha.2.1 x hx,ha.2.2 x hx⟩ ⟨hb.2.1 y hy,hb.2.2 y hy⟩) e) _
  ·cases hh
 refine Bj (T :=
  ∀(x:Nat),True->∀(x_1:Nat),x≠x_1/\True->SM x/\SM x_1/\ifB (na==nb) (SM x/\SM x_1/\∃(x:Unit),wkL (Qk2 a b) (Qk2 a b)/\∀(y:Unit),True->RT (Bw (List.map exM a) (List.map exM b)=(decide (na=nb)&&Bw (List.map exM a) (List.map exM b)))) (RT (false=(decide (na=nb)&&Bw (List.map exM a) (List.map exM b))))) (by kernel_rfl) ?_
 delta DA LN SM Z0 Qk0 Qk1 Qk2 RT
 try simp only[<- dm]
 try simp only[<- dn]
 simp only[eq_self,ne_eq,implies_true,Bm,Int.toNat_natCast,Bh,Bf,decide_eq_true_eq,decide_eq_false_iff_not,true_and,and_true,beq_iff_eq,bne_iff_ne,bne_eq_false_iff_eq,beq_eq_false_iff_ne,Bool.not_eq_true',Bool.not_eq_false',exists_const,forall_const,Prod.exists]
 exact fun _ _ _=>⟨fun h=>⟨Bc _,by rw[decide_eq_true h,Bool.true_and]⟩,fun h=>by rw[decide_eq_false h,Bool.false_and]⟩
open Go Go.Ab Go.Proofs Go.RowKit Go.Shelf
attribute [local go_sem] Oper.semAt_some
abbrev MP (s:List UInt8):Value:=.string ⟨s.toArray⟩
def bkL(l:List (List UInt8)):Nat->List (Nat×List UInt8)
 |0=>[]
 |n+1=>(n,l.getD n [])::bkL l n
theorem Baa(l:List (List UInt8)):∀n,(bkL l n).length=n
 |0=>rfl
 |n+1=>by simp only[bkL,List.length_cons,Baa l n]
def Oi(nm:List UInt8):List (Nat×List UInt8)->Int
 | []=>-1
 |x::r=>if x.2=nm then x.1 else Oi nm r
def Bjf(x:Nat×List UInt8):Array Value:=#[.int .i64 x.1,MP x.2]
def NamesAt(n₀:Nat)(w:World)(a:Option Addr)(l:List (List UInt8)):Prop:=∀i,i<l.length->∃b o,a=some ⟨b,o,none⟩/\b<n₀/\w.cell? ⟨b,o+i,none⟩=some (MP (l.getD i []))
theorem NamesAt.below{n₀:Nat}{w w':World}{a:Option Addr}{l:List (List UInt8)}(h:NamesAt n₀ w a l)(hb:Below n₀ w w'):NamesAt n₀ w' a l:=fun i hi=>by
 obtain ⟨b,o,h1,h2,h3⟩:=h i hi
 exact⟨b,o,h1,h2,(hb.cell (p:=⟨b,o+i,none⟩) h2).trans h3⟩
def Bkw:Value->Nat
 |.int _ z=>(z+1).toNat
 |_=>0
set_option maxHeartbeats 1000000 in
theorem Bhi(F : Fence)(n : Nat)(h6 : F.fn 127)(hro : F.round=none)(hn : 1<=n)(l Bn n₀ : Nat)(a : Option Addr)(cap : Nat)(xs : List (List UInt8))(hx : xs.length<=1000000)(J Jx : List (Nat×List UInt8) -> World -> Prop)
  (hY:∀pre x W,J pre W->pre.length<xs.length->YieldAt F (n-1) Tryz.prog l (Bjf x) W fun e W' =>
   (e=.returned (.bool true)/\J (pre++[x]) W'/\Below n₀ W W')\/(e=.returned (.bool false)/\Jx (pre++[x]) W'))
  (W:World) (hBn:W.cell? ⟨Bn,0,none⟩=some (.slice a xs.length cap)) (hBl:Bn<n₀) (hL:NamesAt n₀ W a xs) (h0:J [] W) :
  CallsIn F n Tryz.prog 127 #[.func (.yield l) #[] #[],.pointer (some ⟨Bn,0,none⟩)] W fun e W'=>(∃v,e=.returned v) /\
   ((∃ys,ys=bkL xs xs.length/\J ys W')\/(∃pre,pre <+: bkL xs xs.length/\Jx pre W')):=by
 refine callsIn_of_wp Tryz.func127 rfl h6 ?_ hro
 simp only[Tryz.ntmps127,List.size_toArray,List.length_cons,List.length_nil,Nat.reduceAdd,Nat.reduceSub,Array.replicate_succ,Array.replicate_zero,List.push_toArray,List.append_toArray,List.nil_append,List.cons_append]
 gi_wp2
 gi_loopw [3] (fun p wr=>∃(m:Nat) (pre:List (Nat×List UInt8)),p=.int .i64 ((m:Int)-1)/\m<=xs.length/\bkL xs xs.length=pre++bkL xs m/\NamesAt n₀ wr a xs/\wr.cell? ⟨Bn,0,none⟩=some (.slice a xs.length cap)/\J pre wr)
  (fun p _=>Bkw p)
 case atStart =>
  exact⟨xs.length,[],rfl,Nat.le_refl _,rfl,hL,hBn,h0⟩
 case round =>
  obtain ⟨m,pre,rfl,hm,hx2,hl,hB,hJs⟩:=hrel
  cases m with
  |zero =>
   gi_wp2
   go_end0
   exact⟨⟨_,rfl⟩,.inl ⟨pre,by rw[hx2];simp[bkL],hJs⟩⟩
  |succ m =>
   obtain ⟨b,o,rfl,hb,hv⟩:=hl m (by omega)
   have hpl:pre.length<xs.length:=by
    have:=congrArg List.length hx2
    rw[List.length_append,Baa,Baa] at this
    omega
   obtain ⟨fn,tmps,assign,body,hy,hR⟩:=hY pre (m,xs.getD m []) wr hJs hpl
   have hx3:bkL xs (m+1)=(m,xs.getD m [])::bkL xs m:=rfl
   rw[hx3] at hx2
   generalize xs.getD m []=x at hv hy hR hx2
   simp only[Bjf] at hy
   gi_wp2
   refine hR.mono ?_
   rintro e W3 (⟨rfl,hJ3,hk3⟩ | ⟨rfl,hJx3⟩)
   ·have hB3:W3.cell? ⟨Bn,0,none⟩=some (.slice (some ⟨b,o,none⟩) xs.length cap):=(hk3.cell (p:=⟨Bn,0,none⟩) hBl).trans hB
    gi_wp2
    go_roundw
    case rel=>exact⟨m,pre++[(m,x)],by simp,by omega,by rw[hx2];simp,hl.below hk3,hB3,hJ3⟩
    case measure=>simp[Bkw]
   ·gi_wp2
    refine bodyPost_ret (results_none rfl _ _ _) rfl ?_
    exact⟨⟨_,rfl⟩,.inr ⟨pre++[(m,x)],⟨bkL xs m,by rw[hx2];simp⟩,hJx3⟩⟩
set_option maxHeartbeats 1000000 in
theorem BiO(F : Fence)(n : Nat)(h5 : F.fn 107)(hro : F.round=none)(v : Value)(hv : ∃a l c, v=.slice a l c)(w : World) :
  CallsIn F n Tryz.prog 107 #[v] w fun e w'=>e=.returned (.func (.func 127) #[] #[.pointer (some ⟨w.heap.size,0,none⟩)])/\w'=w.alloc (.cells #[v] 49):=by
 obtain ⟨a,l,c,rfl⟩:=hv
 refine callsIn_of_wp Tryz.func107 rfl h5 ?_ hro
 simp only[Tryz.ntmps107,List.size_toArray,List.length_cons,List.length_nil,Nat.reduceAdd,Nat.reduceSub,Array.replicate_succ,Array.replicate_zero,List.push_toArray,List.append_toArray,List.nil_append,List.cons_append]
 gi_wp2
 go_ret
 exact⟨rfl,rfl⟩
theorem Bc1(F : Fence)(n : Nat)(h6 : F.fn 127)(hro : F.round=none)(hn : 1<=n)(Bn n₀ : Nat)(a : Option Addr)(cap : Nat)(xs : List (List UInt8))(hx : xs.length<=1000000)(w : World)(hBn : Bn<w.heap.size)(hB0 : Bn<n₀)(hn₀ : n₀<=w.heap.size)
  (hc:w.cell? ⟨Bn,0,none⟩=some (.slice a xs.length cap)) (hL:NamesAt n₀ w a xs) :
  SeqStopsK F n Tryz.prog 127 #[.pointer (some ⟨Bn,0,none⟩)] Bjf (Below n₀) (fun ys=>ys=bkL xs xs.length) (fun pre=>pre <+: bkL xs xs.length) xs.length w:=fun l J Jx W hW _ _ hY h0 =>
 Bhi F n h6 hro hn l Bn n₀ a cap xs hx J Jx hY W ((hW.cell (p:=⟨Bn,0,none⟩) hBn).trans hc) hB0 (hL.below (hW.mono hn₀)) h0
theorem BgY{W:World}{B:Nat}{v:Value}{t:TypeId}(h:W.heap[B]? =some (.cells #[v] t (0,0))):W.cell? ⟨B,0,none⟩=some v/\W.frozen? ⟨B,0,none⟩=false:=by
 constructor<;>simp[World.cell?,World.frozen?,h]
theorem MY(W:World)(v:Value)(t:TypeId):(W.alloc (.cells #[v] t)).cell? ⟨W.heap.size,0,none⟩=some v/\(W.alloc (.cells #[v] t)).frozen? ⟨W.heap.size,0,none⟩=false :=
 BgY (World.alloc_heap_new W _)
theorem OK{W:World}{a:Addr}{v:Value}(o:Obj)(h:W.cell? a=some v):(W.alloc o).cell? a=some v:=cell_kept h (World.grownBy_alloc W o none) (fun r e=>by cases e)
theorem Bft{W:World}{a:Addr}{v:Value}(o:Obj)(h:W.cell? a=some v)(hf:W.frozen? a=false):(W.alloc o).frozen? a=false:=(frozen_kept h (World.grownBy_alloc W o none) (fun r e=>by cases e)).trans hf
theorem BaR{nm:List UInt8}:∀ {l:List (Nat×List UInt8)},(∀y∈l,y.2≠nm)->Oi nm l = -1
 | [],_=>rfl
 |x::r,h=>by rw[Oi,if_neg (h x (by simp)),BaR fun y hy=>h y (by simp[hy])]
theorem Bgz{nm:List UInt8}:∀ {p:List (Nat×List UInt8)} (_:∀y∈p,y.2≠nm) {x:Nat×List UInt8} (_:x.2=nm) {r:List (Nat×List UInt8)},Oi nm (p++x::r)=x.1
 | [],_,x,hx,r=>by rw[List.nil_append,Oi,if_pos hx]
 |y::p,h,x,hx,r=>by rw[List.cons_append,Oi,if_neg (h y (by simp)),Bgz (fun z hz=>h z (by simp[hz])) hx]
set_option maxHeartbeats 2000000 in
theorem Bjh(F : Fence)(n : Nat)(h4 : F.fn 75)(h5 : F.fn 107)(h6 : F.fn 127)(hro : F.round=none)(hn : 3<=n)(bd od : Nat)(a : Option Addr)(cap : Nat)(xs : List (List UInt8))(nm : List UInt8)(hx : xs.length<=1000000)(w : World)
  (_hbd:bd<w.heap.size) (hd:w.cell? ⟨bd,od,none⟩=some (.slice a xs.length cap)) (hL:NamesAt w.heap.size w a xs) :
  CallsIn F n Tryz.prog 75 #[.pointer (some ⟨bd,od,none⟩),MP nm] w fun e W'=>e=.returned (.int .i64 (Oi nm (bkL xs xs.length)))/\Below w.heap.size w W':=by
 have h1:1<=n:=by omega
 refine callsIn_of_wp_marks Tryz.func75 rfl h4 ?_ hro
 simp only[Tryz.ntmps75,List.size_toArray,List.length_cons,List.length_nil,Nat.reduceAdd,Nat.reduceSub,Array.replicate_succ,Array.replicate_zero,List.push_toArray,List.append_toArray,List.nil_append,List.cons_append]
 have d1:=OK (.cells #[MP nm] 9) hd
 have d2:=OK (.cells #[.int .i64 0] 3) d1
 gi_wp2_with (gi_at_call 107;refine (BiO F (n-1) h5 hro _ ⟨_,_,_,rfl⟩ _).mono ?_;rintro e w' ⟨rfl,rfl⟩)
 have c0:=MY w (MP nm) 9
 have c1:=MY (w.alloc (.cells #[MP nm] 9)) (.int .i64 0) 3
 have c2:=MY ((w.alloc (.cells #[MP nm] 9)).alloc (.cells #[.int .i64 0] 3)) (.slice a xs.length cap) 49
 simp only[World.size_alloc] at c1 c2
 have hB0:Below w.heap.size w (((w.alloc (.cells #[MP nm] 9)).alloc (.cells #[.int .i64 0] 3)).alloc (.cells #[.slice a xs.length cap] 49)):=(((Below.refl _ w).alloc (Nat.le_refl _) _).alloc (by simp) _).alloc (by simp;omega) _
 have hL0:NamesAt (w.heap.size+3) (((w.alloc (.cells #[MP nm] 9)).alloc (.cells #[.int .i64 0] 3)).alloc (.cells #[.slice a xs.length cap] 49)) a xs:=fun i hi=>by
  obtain ⟨b,o,e1,e2,e3⟩:=hL.below hB0 i hi
  exact⟨b,o,e1,by omega,e3⟩
 refine wpIn_rangeFunc_ownF hro h1 (gf:=127) (lb:=#[.pointer (some ⟨w.heap.size+1+1,0,none⟩)]) rfl h6 (enters_of Tryz.func127 (by kernel_rfl) rfl)
  (Bc1 F (n-1) h6 hro (by omega) (w.heap.size+1+1) (w.heap.size+3) a cap xs hx _ (by simp) (by omega) (by simp) c2.1 hL0) belowK_t (belowK_b (by simp)) (Below.refl _ _) (fun _=>rfl)
  (fun pre W=>((∀y∈pre,y.2≠nm)/\W.cell? ⟨w.heap.size,0,none⟩=some (MP nm)/\W.cell? ⟨w.heap.size+1,0,none⟩=some (.int .i64 0)/\W.frozen? ⟨w.heap.size+1,0,none⟩=false)/\Below w.heap.size w W)
  (fun c pre W=>(c=.ret/\(∃p x,pre=p++[x]/\(∀y∈p,y.2≠nm)/\x.2=nm/\W.cell? ⟨w.heap.size+1,0,none⟩=some (.int .i64 (x.1:Nat))))/\Below w.heap.size w W)
  (OwnFrom.and (Own.from (fun s A B row hs hg hr=>⟨hs.1,cell_kept hs.2.1 hg hr,cell_kept hs.2.2.1 hg hr,(frozen_kept hs.2.2.1 hg hr).trans hs.2.2.2⟩) _) (ownFrom_below (Nat.le_refl _) (by simp;omega)))
  (fun c=>OwnFrom.and (Own.from (fun s A B row hs hg hr=>⟨hs.1,by obtain ⟨p,x,q1,q2,q3,q4⟩:=hs.2;exact⟨p,x,q1,q2,q3,cell_kept q4 hg hr⟩⟩) _) (ownFrom_below (Nat.le_refl _) (by simp;omega)))
  ⟨⟨by simp,OK _ (OK _ c0.1),OK _ c1.1,Bft _ c1.1 c1.2⟩,hB0⟩
  (fun x=>{ tmps:=#[.pointer (some ⟨bd,od,none⟩),MP nm,undef,.pointer (some ⟨w.heap.size,0,none⟩),.pointer (some ⟨w.heap.size+1,0,none⟩),.int .i64 (x.1:Nat),MP x.2,.pointer (some ⟨bd,od,none⟩),.pointer (some ⟨bd,od,none⟩),.pointer (some ⟨bd,od,none⟩),.slice a xs.length cap,.func (.func 127) #[] #[.pointer (some ⟨w.heap.size+1+1,0,none⟩)],.int .i64 (x.1:Nat),MP x.2,undef,undef,undef,undef],defers:=[] }) ?assign ?body ?done ?stop
 case assign =>
  intro l x W K hK
  rw[show Bjf x=#[.int .i64 x.1,MP x.2] from rfl]
  gi_wp2
  exact hK
 case body =>
  rintro l pre x W ⟨⟨hp,hcw,hcr,hfr⟩,hB⟩ _
  gi_wp2
  ·rename_i hx2
   have hx3:x.2=nm:=by
    have:=eq_of_beq hx2
    simpa using this
   exact⟨KeepsOthers.setCell _ _ _,⟨rfl,pre,x,rfl,hp,hx3,World.cell?_setCell_same' _ _ _ (by rw[hcr];rfl)⟩,hB.setCell (p:=⟨w.heap.size+1,0,none⟩) (by simp) _⟩
  ·rename_i hx2
   have hx3:x.2≠nm:=fun e=>by subst e;simp at hx2
   exact⟨KeepsOthers.refl _,Below.refl _ _,⟨fun y hy=>(List.mem_append.1 hy).elim (hp y) (fun e e'=>by simp at e;subst e;exact hx3 e'),hcw,hcr,hfr⟩,hB⟩
 case done =>
  rintro D ys W hD rfl ⟨⟨hne,_,hcr,hfr⟩,hB⟩ hK
  gi_wp2
  have hK':=(KeepsOthers.setCell W ⟨w.heap.size+1,0,none⟩ (.int .i64 (-1))).same D _ hK rfl
  refine⟨by simp,.inl ⟨_,_,rfl,run_takeDeferred hK',?_⟩⟩
  have hc5:=cell_kept (World.cell?_setCell_same' W ⟨w.heap.size+1,0,none⟩ (.int .i64 (-1)) (by rw[hcr];rfl)) (grownBy_putObj' _ D (.deferred none)) (fun r e=>by cases e;exact⟨_,hK',rfl⟩)
  refine⟨.int .i64 (-1),?_,by rw[BaR hne],(hB.setCell (p:=⟨w.heap.size+1,0,none⟩) (by simp) _).trans (belowK_b (w:=w) (Nat.le_refl _) _ D _ _ (by simp at hD;omega) hK' rfl rfl)⟩
  simp[results,Tryz.f75,go_sem,hc5]
 case stop =>
  rintro D c pre W hD hpre ⟨⟨rfl,p,x,rfl,hp,hx3,hcr⟩,hB⟩ hK
  gi_wp2
  refine⟨by simp,.inl ⟨_,_,rfl,run_takeDeferred hK,?_⟩⟩
  have hc5:=cell_kept hcr (grownBy_putObj' _ D (.deferred none)) (fun r e=>by cases e;exact⟨_,hK,rfl⟩)
  obtain ⟨r,hr⟩:=hpre
  refine⟨.int .i64 (x.1:Nat),?_,by rw[<- hr,List.append_assoc,List.singleton_append,Bgz hp hx3],hB.trans (belowK_b (w:=w) (Nat.le_refl _) W D _ _ (by simp at hD;omega) hK rfl rfl)⟩
  simp[results,Tryz.f75,go_sem,hc5]
theorem Bdl(bd od : Nat)(a : Option Addr)(cap : Nat)(xs : List (List UInt8))(nm : List UInt8)(hx : xs.length<=1000000)(w : World)
  (hbd:bd<w.heap.size) (hd:w.cell? ⟨bd,od,none⟩=some (.slice a xs.length cap)) (hL:NamesAt w.heap.size w a xs) :
  Calls Tryz.prog 75 #[.pointer (some ⟨bd,od,none⟩),MP nm] w fun e W'=>e=.returned (.int .i64 (Oi nm (bkL xs xs.length)))/\Below w.heap.size w W' :=
 callsIn_wide.1 (Bjh Fence.wide 3 trivial trivial trivial rfl (by omega) bd od a cap xs nm hx w hbd hd hL)
def CZ(k:Nat)(ds:List D)(Z:AEnd->Prop):Prop:=ACalls Tryz.prog k ds ⟨[],[]⟩ (fun r _=>Z r)
theorem CZ.any{k:Nat}{ds:List D}{Z:AEnd->Prop}(h:CZ k ds Z){S:St}{R:AEnd->St->Prop}(hr:∀r,Z r->R r S):ACalls Tryz.prog k ds S R:=by
 refine ((ACalls.frame h S).from fun C F w H=>?_).to ?_
 ·simpa[St.add] using H
 ·rintro r S' ⟨S0,h1,rfl⟩
  refine⟨S,fun C F w H=>?_,hr r h1⟩
  exact H.le ⟨List.sublist_append_right _ _,List.sublist_append_right _ _⟩
theorem CZ.mono{k:Nat}{ds:List D}{Z Z':AEnd->Prop}(h:CZ k ds Z)(hz:∀r,Z r->Z' r):CZ k ds Z':=ACalls.mono h fun r _ hr=>hz r hr
theorem CZ.wk{k:Nat}{ds us:List D}{Z:AEnd->Prop}(h:CZ k us Z)(hw:wkL ds us):CZ k ds Z:=ACalls.wkArgs h hw
def nmF(f:Frm1):List (List UInt8):=f.map Prod.fst
def clF(f:Frm1):List Int:=f.map Prod.snd
def frD:Scp->D
 | []=>.nilp
 |f::r=>.pt [ssl (nmF f) .any,isl (clF f) .any,frD r]
def frR(f:Frm1)(r:Scp):List D:=[ssl (nmF f) .any,isl (clF f) .any,frD r]
theorem Ws(f:Frm1)(r:Scp):frD (f::r)=.pt (frR f r):=rfl
def ME(nm:List UInt8)(f:Frm1):Int:=Oi nm (bkL (nmF f) f.length)
theorem BdI{l:List (List UInt8)}:∀ {n:Nat} {y:Nat×List UInt8},y∈bkL l n->y.1<n/\y.2=l.getD y.1 []
 |0,y,h=>by cases h
 |n+1,y,h=>by
  rcases List.mem_cons.1 h with rfl | h
  ·exact⟨by simp,rfl⟩
  ·have:=BdI h
   exact⟨by omega,this.2⟩
theorem Ov{nm:List UInt8}:∀ {l:List (Nat×List UInt8)},Oi nm l<0↔∀y∈l,y.2≠nm
 | []=>by simp[Oi]
 |x::r=>by
  rw[Oi]
  split
  ·rename_i e
   constructor
   ·intro h;omega
   ·intro h;exact (h x (by simp) e).elim
  ·rename_i e
   rw[Ov]
   simp[e]
theorem Beu{l:List (List UInt8)}:∀ {n i:Nat},i<n->(i,l.getD i [])∈bkL l n
 |n+1,i,h=>by
  by_cases e:i=n
  ·subst e;exact List.mem_cons_self
  ·exact List.mem_cons_of_mem _ (Beu (by omega))
theorem E4(f:Frm1)(i:Nat):(f.map Prod.fst).getD i []=(f.getD i ([],0)).1:=by
 simp only[List.getD_eq_getElem?_getD,List.getElem?_map]
 cases f[i]? <;>rfl
theorem Ot(f:Frm1)(i:Nat):(f.map Prod.snd).getD i 0=(f.getD i ([],0)).2:=by
 simp only[List.getD_eq_getElem?_getD,List.getElem?_map]
 cases f[i]? <;>rfl
theorem Bb2(nm:List UInt8)(f:Frm1):ME nm f<0↔B3 nm f=none:=by
 unfold ME nmF
 rw[Ov,MX]
 constructor
 ·intro h d hd
  obtain ⟨i,hi,e⟩:=List.getElem_of_mem hd
  have:=h _ (Beu (l:=f.map Prod.fst) hi)
  rw[E4,List.getD_eq_getElem?_getD,List.getElem?_eq_getElem hi] at this
  simpa[e] using this
 ·intro h y hy
  obtain ⟨h1,h2⟩:=BdI hy
  rw[h2,E4,List.getD_eq_getElem?_getD,List.getElem?_eq_getElem h1]
  exact h _ (List.getElem_mem h1)
theorem WY{nm:List UInt8}{l:List (List UInt8)}(hn:l.Nodup){i:Nat}(hi:i<l.length)(e:l.getD i []=nm):∀n,i<n->n<=l.length->Oi nm (bkL l n)=i
 |n+1,h,hl=>by
  rw[bkL,Oi]
  by_cases q:i=n
  ·subst q
   rw[if_pos e]
  ·have:l.getD n []≠nm:=by
    intro e2
    rw[List.getD_eq_getElem?_getD,List.getElem?_eq_getElem hi] at e
    rw[List.getD_eq_getElem?_getD,List.getElem?_eq_getElem (by omega)] at e2
    simp only[Option.getD_some] at e e2
    exact q ((List.getElem_inj hn).1 (e.trans e2.symm))
   rw[if_neg this]
   exact WY hn hi e n (by omega) (by omega)
theorem Bfl{nm:List UInt8}{f:Frm1}{i:Nat}{c:Int}(hn:(nmF f).Nodup)(h:B3 nm f=some (i,c)):ME nm f=i/\i<f.length/\(clF f).getD i 0=c:=by
 obtain ⟨h1,h2⟩:=Oz h
 refine⟨?_,h1,by unfold clF;rw[Ot,h2]⟩
 unfold nmF at hn
 exact WY hn (by simpa using h1) (by rw[E4,h2]) _ h1 (by simp)
theorem BeG(nm:List UInt8)(f:Frm1)(r:List D)(hl:f.length<=1000000):CD 75 [.pt (ssl (nmF f) .any::r),.str nm] (.int .i64 (ME nm f)):=by
 refine⟨⟨_,Tryz.func75,by kernel_rfl,by kernel_rfl⟩,fun C F args w ha hs=>?_⟩
 obtain ⟨u,v,e,hu,hv⟩:=MB ha
 have e2:args=[u,v].toArray:=by rw[<- e]
 subst e2
 simp only[Rep] at hv;subst hv
 simp only[Rep,RepCells] at hu
 obtain ⟨b,o,rfl,⟨v1,i1,i2⟩,_⟩:=hu
 simp only[ssl,Rep] at i2
 obtain ⟨a,len,cap,rfl,hh,hr⟩:=i2
 have hlen:len=(nmF f).length:=hh.1
 subst hlen
 have hlt:=hs.imm_lt i1
 have key:=Bdl b o a cap (nmF f) nm (by simpa[nmF] using hl) w hlt (hs.imm _ _ _ i1) (fun i hi=>by
  have hc:0<cap:=by have:=hh.2.1;omega
  have hx:∃x,a=some x:=by
   cases a with
   |none=>have:=hh.2.2.2.1 rfl;omega
   |some x=>exact⟨x,rfl⟩
  obtain ⟨⟨bk,o2,sp⟩,rfl⟩:=hx
  have hsp:sp=none:=hh.2.2.2.2.1 _ rfl hc
  subst hsp
  have hrow:=(hr _ rfl i hi).2
  simp only[RepCells] at hrow
  obtain ⟨⟨v,q1,q2⟩,_⟩:=hrow
  simp only[Rep] at q2
  subst q2
  have:=hs.imm _ _ _ q1
  exact⟨bk,o2,rfl,hs.imm_lt q1,by simpa using this⟩)
 refine key.mono ?_
 rintro e w' ⟨rfl,hb⟩
 refine⟨C,.ret (.int .i64 (ME nm f)),⟨[],[]⟩,.refl C,by simpa[St.add] using hs.kept hb,?_,(),trivial,rfl,rfl⟩
 simp[RepEnd,Rep,ME,nmF]
def Gz(d:Nat)(x:Option (Nat×Nat×Int)):Option (Nat×Nat×Int):=x.map fun x=>(x.1+d,x.2.1,x.2.2)
theorem Wp(x:Option (Nat×Nat×Int)):Gz 0 x=x:=by
 cases x<;>rfl
theorem Tu(d e:Nat)(x:Option (Nat×Nat×Int)):Gz d (Gz e x)=Gz (d+e) x:=by
 cases x with
 |none=>rfl
 |some y=>simp[Gz];omega
def zFi(sc:Scp)(nm:List UInt8)(e:AEnd):Prop :=
 (Bp nm sc=none/\e=.ret (.tup [.nilp,.int .i64 (sc.length:Nat)]))\/∃(d i:Nat) (c:Int) (f:Frm1) (r:Scp),Bp nm sc=some (d,i,c)/\sc.drop d=f::r/\B3 nm f=some (i,c)/\e=.ret (.tup [.pt (frR f r),.int .i64 (d:Nat)])
def _root_.Go.Ab.endFi(sc:Scp)(nm:List UInt8)(e:AEnd)(_:St):Prop:=match e with
 |.ret (.tup [.nilp,.int .i64 z])=>Bp nm sc=none/\z=(sc.length:Int)
 |.ret (.tup [.pt row,.int .i64 z])=>∃(d i:Nat) (c:Int) (f:Frm1) (r:Scp),Bp nm sc=some (d,i,c)/\sc.drop d=f::r/\B3 nm f=some (i,c)/\row=frR f r/\z=d
 |_=>False
theorem BiQ{sc:Scp}{nm:List UInt8}{e:AEnd}{S:St}(h:Go.Ab.endFi sc nm e S):zFi sc nm e:=by
 unfold Go.Ab.endFi at h
 split at h
 ·obtain ⟨h1,rfl⟩:=h;exact .inl ⟨h1,rfl⟩
 ·obtain ⟨d,i,c,f,r,h1,h2,h3,rfl,rfl⟩:=h;exact .inr ⟨d,i,c,f,r,h1,h2,h3,rfl⟩
 ·exact h.elim
def Bhg(nm:List UInt8):Con:=fun k ds S=>match k with
 |75=>some (pE (β:=Frm1×Scp) ds S (fun x=>.int .i64 (ME nm x.1)) (fun x=>ds=[.pt (frR x.1 x.2),.str nm]/\x.1.length<=1000000))
 |_=>none
theorem Bif(nm:List UInt8):ConOk Tryz.prog (Bhg nm):=by
 intro k ds S A hh
 unfold Bhg at hh
 split at hh
 ·injection hh with hh;subst hh
  refine Cl fun x ⟨e,h⟩=>?_
  subst e
  exact CD.at_ (BeG nm x.1 _ h) _
 ·cases hh
noncomputable def Efi(sc:Scp)(nm:List UInt8):Senv:={ EC (Bhg nm) 25 2 [4,5,6,16] (fun _=>([],[])) with
 mg:=fun _=>2
 ann2:=fun b _ S=>match b with
  |0=>some ({ slots:=[0,6],keep:=[1],α:=Unit,st:=fun _=>([.nilp,.int .i64 (sc.length:Nat)],S),inv:=fun _=>Bp nm sc=none,mu:=fun _=>0 },
   { slots:=[0,6],keep:=[1],α:=Frm1×Scp×Nat,st:=fun y=>([.pt (frR y.1 y.2.1),.int .i64 (y.2.2:Nat)],S),inv:=fun y=>sc.drop y.2.2=y.1::y.2.1/\Bp nm sc=Gz y.2.2 (Bp nm (y.1::y.2.1)),mu:=fun y=>y.2.1.length+1 })
  |_=>none }
def Hi(a:List UInt8)(b:Frm1)(c:Scp):Option (Nat×Nat×Int):=Bp a (b::c)
def Hj(a:List UInt8)(b:Frm1)(c:Scp):Prop:=Hi a b c=none
def QcB(a:Frm1)(b:Scp):List D:=[D.sl N1 (LN (nmF a)) (fun i=>[D.str (List.getD (nmF a) i [])]) Mode.any,SI (clF a),frD b]
def Xh(a:Frm1)(b:Scp):D:=D.pt (QcB a b)
def Hk:St:=St.mk [] []
def Hl:Prop:=StTo Hk Hk
def Hm(a:Nat)(b:Frm1)(c:Scp)(d:Frm1)(e:Scp)(f:List UInt8):Prop:=List.drop a (b::c)=d::e/\Hi f b c=Gz a (Hi f d e)
def Qk3(a:Frm1)(b:Scp)(c:List UInt8):List D:=[Xh a b,D.str c]
def QcC(a:Frm1)(b:Scp)(c:List UInt8)(d:Frm1×Scp×Nat):Nat:=LoopAnn.mu (LoopAnn.mk [N0,N6] [N1] (Frm1×Scp×Nat) (fun (y:Frm1×Scp×Nat)=>([Xh y.1 y.2.1,ZI (NI y.2.2)],Hk)) (fun (y:Frm1×Scp×Nat)=>Hm y.2.2 a b y.1 y.2.1 c) (fun (y:Frm1×Scp×Nat)=>LN y.2.1+N1) false fun (_x:Frm1×Scp×Nat)=>Hk) d
theorem Bkk(f0:Frm1)(r0:Scp)(nm:List UInt8)(h1:∀f∈f0::r0,f.length<=1000000)(h2:(f0::r0).length<=1000000):CZ 58 [.pt (frR f0 r0),.str nm] (zFi (f0::r0) nm):=by
 refine ACalls.mono (R:=Go.Ab.endFi (f0::r0) nm) ?_ fun _ _ h=>BiQ h
 refine CK (E:=Efi (f0::r0) nm) (eOk (Bif nm) rfl) Tryz.func58 rfl (by kernel_rfl) rfl (by simp[Efi,EC,E0]) ?_
 refine Bj (T :=
  ((∃(x:Unit),Hj nm f0 r0/\True/\(Xh f0 r0=D.nilp/\Z0=(LI (f0::r0))/\True)/\Hl)\/∃(x:Frm1×Scp×Nat),Hm x.2.2 f0 r0 x.1 x.2.1 nm/\True/\(Xh f0 r0=Xh x.1 x.2.1/\Z0=(NI x.2.2)/\True)/\Hl)/\(∀(x:Unit),Hj nm f0 r0->True/\Hj nm f0 r0/\SM (LI (f0::r0)))/\∀(x:Frm1×Scp×Nat),Hm x.2.2 f0 r0 x.1 x.2.1 nm->∃(x_1:Frm1×Scp),(Qk3 x.1 x.2.1 nm=Qk3 x_1.1 x_1.2 nm/\LN x_1.1<=1000000)/\∀(y:Unit),True->ifB (decide (ME nm x_1.1<Z0)) ((SM (D.str nm)/\True)/\((∃(x_2:Unit),Hj nm f0 r0/\N0<QcC f0 r0 nm x/\(Bk (List.getD [frD x.2.1] N0 D.unk) D.nilp/\IntKind.wrap IntKind.i64 ((NI x.2.2)+Z1)=(LI (f0::r0))/\True)/\Hl)\/∃(x_2:Frm1×Scp×Nat),Hm x_2.2.2 f0 r0 x_2.1 x_2.2.1 nm/\QcC f0 r0 nm x_2<QcC f0 r0 nm x/\(Bk (List.getD [frD x.2.1] N0 D.unk) (Xh x_2.1 x_2.2.1)/\IntKind.wrap IntKind.i64 ((NI x.2.2)+Z1)=(NI x_2.2.2)/\True)/\Hl)) (True/\∃(d:Nat),∃(i:Nat),∃(c:Int),∃(f:Frm1),∃(r:Scp),Hi nm f0 r0=some (d,i,c)/\List.drop d (f0::r0)=f::r/\B3 nm f=some (i,c)/\QcB x.1 x.2.1=QcB f r/\(NI x.2.2)=(↑d:Int))) (by kernel_rfl) ?_
 delta GI LI LN N0 N1 N6 NI SI SM Z0 Z1 ZI Hi Hj QcB Xh Hk Hl Hm Qk3 QcC
 refine⟨.inr ⟨(f0,r0,0),⟨rfl,(Wp _).symm⟩,trivial,⟨rfl,rfl,trivial⟩,StTo.refl _⟩,fun _ h=>⟨trivial,h,rfl⟩,?_⟩
 rintro ⟨f,r,d⟩ ⟨hd,hl⟩
 simp only at hd hl ⊢
 have hm:f∈f0::r0:=List.mem_of_mem_drop (i:=d) (by rw[hd];simp)
 have hlen:(f0::r0).length=d+1+r.length:=by
  have:=congrArg List.length hd
  simp only[List.length_drop,List.length_cons] at this ⊢
  omega
 refine⟨(f,r),⟨rfl,h1 f hm⟩,fun _ _=>Bh.2 ⟨fun hneg=>?_,fun hpos=>?_⟩⟩
 ·have hs:B3 nm f=none:=(Bb2 nm f).1 (by simpa using hneg)
  have hL:Bp nm (f::r)=Gz 1 (Bp nm r):=by rw[Bp,hs];rfl
  rw[hL,Tu] at hl
  have hw:IntKind.i64.wrap ((d:Int)+1)=((d+1:Nat):Int):=by rw[Be (by omega) (by omega)];rfl
  refine⟨⟨trivial,trivial⟩,?_⟩
  cases r with
  |nil =>
   refine .inl ⟨(),by rw[hl];rfl,Nat.succ_pos _,⟨trivial,?_,trivial⟩,StTo.refl _⟩
   rw[hw,hlen];rfl
  |cons f2 r2 =>
   refine .inr ⟨(f2,r2,d+1),⟨?_,hl⟩,Nat.lt_succ_self _,⟨rfl,hw,trivial⟩,StTo.refl _⟩
   have:=congrArg (List.drop 1) hd
   rwa [List.drop_drop] at this
 ·refine⟨trivial,?_⟩
  cases hs:B3 nm f with
  |none=>rw[(Bb2 nm f).2 hs |> fun h=>decide_eq_true h] at hpos;cases hpos
  |some x =>
   obtain ⟨i,c⟩:=x
   refine⟨d,i,c,f,r,?_,hd,hs,rfl,rfl⟩
   rw[hl,Bp,hs]
   simp[Gz]
def _root_.Go.Ab.cellsO(os:List (Nat×Nat×AObj))(k:Nat):List D:=match BG os k with
 |some (_,.cells ds)=>ds
 |_=>[]
theorem ACalls.wkEnd{P:Program}{k:FuncId}{ds:List D}{S:St}{R R':AEnd->St->Prop}(h:ACalls P k ds S R)(hr:∀r S',R r S'->∃r',(∀C e,RepEnd C r e->RepEnd C r' e)/\R' r' S'):ACalls P k ds S R' :=
 ⟨h.1,fun C F args w ha hs=>(h.2 C F args w ha hs).mono fun _ _ ⟨C',_r,S',h1,h2,h3,h4⟩=>let ⟨r',q0,q2⟩:=hr _ _ h4;⟨C',r',S',h1,h2,q0 _ _ h3,q2⟩⟩
theorem Bgj(a:Arr):wkL a.row1 a.row:=by
 cases a with
 |mk k s n is =>
  simp only[Arr.row,Arr.row1,Arr.k,Arr.sh,Arr.nu,Arr.it,gsl,isl,wkL,wkD,Bk,Ba]
  refine⟨⟨by simp[kEq],trivial⟩,⟨by simp,trivial,fun i _=>by simp[kEq],by simp[BB]⟩,⟨by simp,trivial,fun i _=>by simp[kEq],by simp[BB]⟩,⟨by simp,by simp[Gh],fun i hi=>?_,by simp[BB]⟩,trivial⟩
  have:(IU is).getD i []=(is.getD i default).row:=by
   rw[Gh];simp[List.getD_eq_getElem?_getD,hi]
  rw[this]
  exact Bc _
theorem Bh3{k:Int}{s:List Int}{nn ni:Nat}(h:EE k s nn ni=0):s.length<=8:=by
 unfold EE at h
 by_cases hk:k=1\/k=2\/k=3
 ·rw[if_pos hk] at h
  by_cases hd:Et s≠0
  ·rw[if_pos hd] at h;exact (hd h).elim
  ·have hd:Et s=0:=by simpa using hd
   unfold Et at hd
   by_cases h8:8<s.length
   ·rw[if_pos h8] at hd;omega
   ·omega
 ·rw[if_neg hk] at h;omega
def _root_.Go.Ab.refKey:D->Nat
 |.ref k _ _=>k
 |_=>0
def _root_.Go.Ab.vkey(os:List (Nat×Nat×AObj))(k:Nat):Nat:=match cellsO os k with
 | [_,_,_,.vs kv _ _ _ _]=>kv
 |_=>0
def zrow:List D:=[.int .i64 0,.sl 1 0 (fun _=>[]) .nil,.sl 1 0 (fun _=>[]) .nil,.sl 1 0 (fun _=>[]) .nil]
def clR(its:List Arr)(i j:Nat):List D:=match Nat.blt j i with
 |true=>(its.getD j default).row1
 |false=>zrow
def sCl(row row':Arr->List D)(q:Arr->Prop):FnSpec where
 β:=Arr
 α:=Unit
 args:=fun a=>[.agg (row a)]
 st:=fun _=>⟨[],[]⟩
 pre:=q
 post:=fun _ _=>True
 res:=fun a _=>.ret (.agg (row' a))
 out:=fun _ _=>⟨[],[]⟩
def Rv(its:List Arr):Con:=fun k _ _=>match k with
 |73=>some (sCl Arr.row1 Arr.row1 (fun b=>b∈its))
 |_=>none
theorem UV{its:List Arr}{i j:Nat}(h:j<i):clR its i j=(its.getD j default).row1:=by
 unfold clR
 have:Nat.blt j i=true:=by simpa using h
 rw[this]
theorem Biq{its:List Arr}{i j:Nat}(h:¬j<i):clR its i j=zrow:=by
 unfold clR
 cases hb:Nat.blt j i with
 |false=>rfl
 |true=>exact (h (by simpa using hb)).elim
noncomputable def Ecl(a:Arr):Senv:={ EC (Rv a.it) 47 6 [32,33,34,35] (fun id=>match id with | 1=>([0,1,2,3,4,6,7,8,10,11,12,5,9,13,14,15,16],[5,9,13,15,16]) | 7=>([0,1,2,3,4,5,6],[4,6]) | _=>([],[])) with
 gz:=fun r=>match r with
  |9=>[.cell 17 1,.cell 17 2,.cell 17 3]
  |_=>[]
 cut:=fun id _ S=>match id with
  |1=>some { slots:=[3],keep:=[],α:=(Nat×Nat)×Nat×Nat,st:=fun y=>([.ref 17 y.2.2 0],⟨[(17,y.2.2,.cells [.int .i64 a.k,.vs 7 y.1.1 a.sh.length a.sh.length 1,.vs 11 y.1.2 a.nu.length a.nu.length 1,.vs 15 y.2.1 a.it.length a.it.length 4]),(15,y.2.1,.vec 4 a.it.length a.it.length (clR a.it 0)),(11,y.1.2,.vec 1 a.nu.length a.nu.length (fun _=>[.int .i64 0])),(7,y.1.1,.vec 1 a.sh.length a.sh.length (fun _=>[.int .i64 0]))]++S.objs,[]⟩),inv:=fun _=>True,mu:=fun _=>0 }
  |_=>none
 ann:=fun b env S=>match b with
  |0=>some { slots:=[34],keep:=[1,2,3,32,33],α:=Nat,st:=fun i=>([.int .i64 i],⟨C5 S.objs (vkey S.objs (refKey (Ab.look env 3))) (.vec 4 a.it.length a.it.length (clR a.it i)),S.toks⟩),inv:=fun i=>i<=a.it.length,mu:=fun i=>a.it.length-i }
  |_=>none }
def JQ(a:Arr):Nat:=LN (Arr.sh a)
def Qb(a:Arr):Int:=(NI (JQ a))
def QU(a:Arr):Int:=(8:Int)*Qb a
def Vf(a:Arr):List Arr:=Arr.it a
def QX(a:Arr):Nat:=LN (Vf a)
def Hn:Arr:=DA
def Yo(a:Arr)(b:Nat):Arr:=List.getD (Vf a) b Hn
def QsI(a:Arr)(b:Nat):List Int:=Arr.sh (Yo a b)
def QsJ(a:Arr)(b:Nat):List Int:=Arr.nu (Yo a b)
def Qk4(a:Arr)(b:Nat):List Arr:=Arr.it (Yo a b)
def QcD(a:Arr)(b:Nat):List D:=[ZI (Arr.k (Yo a b)),SI (QsI a b),SI (QsJ a b),D.sl N4 (LN (Qk4 a b)) (fun i=>Arr.row (List.getD (Qk4 a b) i Hn)) Mode.any]
def QsK(a:Arr):D:=D.sl N4 (QX a) (fun i=>QcD a i) Mode.any
def Qk5(a:Arr):Prop:=SM (QsK a)
def QY(a:Nat)(b:Arr):Prop:=SM a/\Qk5 b
def JR(a:Arr):Nat:=LN (Arr.nu a)
def Ho(a:Arr)(b:Nat):List D:=[ZI (GI (Arr.nu a) b)]
def Qk6(a:Arr):D:=D.sl N1 (JR a) (fun i=>Ho a i) Mode.any
def QZ(a:Nat)(b:Arr):Prop:=SM a/\SM (Qk6 b)
def QcE(a:Arr):Int:=Arr.k a
def Qk7(a:Arr):D:=ZI (QcE a)
def Qo(a:Nat)(b:Arr):Prop:=SM a/\SM (Qk7 b)
def Qd(a:Arr):Int:=(NI (JR a))
def QV(a:Arr):Int:=(8:Int)*Qd a
def Q6(a b c d:Nat):Prop:=a≠b/\c≠b/\d≠b/\True
def Qa(a:Arr):Int:=(NI (QX a))
def QW(a:Arr):Int:=(80:Int)*Qa a
def QC(a b c d e:Nat):Prop:=a≠b/\Q6 c b d e
def QE(a b c d e f:Nat):Prop:=a≠b/\QC c b d e f
def Hp(a:Arr):Prop:=SM (QcE a)
def Hq(a:Arr):Prop:=Int.toNat (Qb a)=JQ a
def Hr(a:Arr):Prop:=Int.toNat (Qd a)=JR a
def Hs(a:Arr):Prop:=Int.toNat (Qa a)=QX a
def QcF:D:=D.sl N1 N0 (fun _x=>[]) Mode.nil
def Qk8:Prop:=SM [ZI Z0]
def QcG:Prop:=SM N0/\(∀(i:Nat),i<N0->Cw (List D) [] [])/\True
def Vg(a:Arr):Prop:=SM (JQ a)
def Ht(a:Arr)(b:Nat):List D:=[ZI (GI (Arr.sh a) b)]
def Qk9(a:Arr):Prop:=∀(i:Nat),i<JQ a->SM (Ht a i)
def Qla(a:Arr):Prop:=Vg a/\Qk9 a/\True
def Vh(a:Arr):Prop:=SM (JR a)
def Qlb(a:Arr):Prop:=∀(i:Nat),i<JR a->SM (Ho a i)
def Qlc(a:Arr):Prop:=Vh a/\Qlb a/\True
def JS(a:Arr):Prop:=SM (QX a)
def Yp(a:Nat)(b:Arr):Prop:=a<QX b
def Qld(a b:Nat)(c:Arr):Prop:=SM a/\(SM Z0/\QcG/\QcG/\QcG/\True)/\SM b/\(Hp c/\Qla c/\Qlc c/\(JS c/\(∀(i:Nat),Yp i c->SM (QcD c i))/\True)/\True)/\True
def QF(a:Nat)(b:Arr)(c d e f g:Nat):Prop:=Qo a b/\SM c/\∃(x:(Nat×Nat)×Nat×Nat),True/\(c=x.2.2/\True)/\(c=x.2.2/\(Hp b/\(d=x.1.1/\Hq b/\Hq b)/\(e=x.1.2/\Hr b/\Hr b)/\(f=x.2.1/\Hs b/\Hs b)/\True)/\f=x.2.1/\(Hs b/\Hs b/\∀(i:Nat),i<Int.toNat (Qa b)->[ZI Z0,QcF,QcF,QcF]=clR (Vf b) N0 i)/\e=x.1.2/\(Hr b/\Hr b/\∀(i:Nat),i<Int.toNat (Qd b)->Qk8)/\d=x.1.1/\(Hq b/\Hq b/\∀(i:Nat),i<Int.toNat (Qb b)->Qk8)/\Qld g a b)/\True
def Qle(a:Arr):D:=D.sl N1 (JQ a) (fun i=>Ht a i) Mode.any
def Q0(a:Nat)(b:Arr):Prop:=SM a/\SM (Qle b)
def QcH(a:Nat)(b:Arr):Prop:=a<=QX b
def Qlf(a:Arr)(b c d:Nat):Prop:=Hp a/\(SM b/\Vg a/\Vg a)/\(SM c/\Vh a/\Vh a)/\(SM d/\JS a/\JS a)/\True
def Hu(a:Arr)(b c:Nat):List D:=clR (Vf a) b c
def Qlg(a:Nat)(b:Arr)(c d e:Nat):Prop:=SM a/\(Vh b/\Vh b/\Qlb b)/\SM c/\(Vg b/\Vg b/\Qk9 b)/\Qld d e b
def Hv(a:Arr)(b:Nat):Arr:=List.getD (Vf a) (Int.toNat (↑b:Int)) Hn
def Qlh(a:Arr)(b:Nat):List Int:=Arr.sh (Hv a b)
def Qli(a:Arr)(b:Nat):Nat:=LN (Qlh a b)
def Qlj(a:Arr)(b:Nat):List Int:=Arr.nu (Hv a b)
def Qlk(a:Arr)(b:Nat):Nat:=LN (Qlj a b)
def Qll(a:Arr)(b:Nat):List Arr:=Arr.it (Hv a b)
def Qlm(a:Arr)(b:Nat):Nat:=LN (Qll a b)
def Qln(a:Arr)(b:Nat):List D:=Arr.row (Yo a b)
def QsL(a:Nat)(b:Arr):D:=D.vs (15:Nat) a (QX b) (QX b) N4
def QcI(a:D):Bool:=match a with | D.unk=>false | D.agg _cs=>false | D.tup _ds=>false | _x=>true
theorem BdK(a : Arr)(ha : a.nu.length<=1000000 /\ a.it.length<=1000000 /\ a.sh.length<=1000000)(hc : ConOk Tryz.prog (Rv a.it)) :
  ACalls Tryz.prog 73 ((sCl Arr.row2 Arr.row2 (fun _=>True)).args a) ⟨[],[]⟩ (SpecR (sCl Arr.row2 Arr.row2 (fun _=>True)) a):=by
 refine Bi (A:=sCl Arr.row2 Arr.row2 (fun _=>True)) (x:=a) (E:=Ecl a) (eOk hc rfl) Tryz.func73 rfl (by kernel_rfl) rfl (by simp[sCl,Ecl,EC,E0]) ?_
 refine Bj (T :=
  ∀(x:Nat),True->∀(x_1:Nat),x≠x_1/\True->(SM x/\SM x/\SM x/\SM x/\Bd (Z0<=Qb a/\Qb a<=Qb a/\QU a<=281474976710656/\Qb a<=9223372036854775807) (∀(x_2:Nat),x_1≠x_2/\x≠x_2/\True->QY x a/\QZ x a/\Qo x a/\Bd (Z0<=Qd a/\Qd a<=Qd a/\QV a<=281474976710656/\Qd a<=9223372036854775807) (∀(x_3:Nat),Q6 x_2 x_3 x_1 x->QY x a/\Qo x a/\Bd (Z0<=Qa a/\Qa a<=Qa a/\QW a<=281474976710656/\Qa a<=9223372036854775807) (∀(x_4:Nat),QC x_3 x_4 x_2 x_1 x->Qo x a/\∀(x_5:Nat),QE x_4 x_5 x_3 x_2 x_1 x->QF x a x_5 x_2 x_3 x_4 x_1)/\∀(x_4:Nat),QC x_3 x_4 x_2 x_1 x->QY x a/\Qo x a/\Bd (Z0<=Qa a/\Qa a<=Qa a/\QW a<=281474976710656/\Qa a<=9223372036854775807) (∀(x_5:Nat),QE x_4 x_5 x_3 x_2 x_1 x->QF x a x_4 x_2 x_3 x_5 x_1))/\Bd (Z0<=Qa a/\Qa a<=Qa a/\QW a<=281474976710656/\Qa a<=9223372036854775807) (∀(x_3:Nat),Q6 x_2 x_3 x_1 x->QZ x a/\Qo x a/\Bd (Z0<=Qd a/\Qd a<=Qd a/\QV a<=281474976710656/\Qd a<=9223372036854775807) (∀(x_4:Nat),QC x_3 x_4 x_2 x_1 x->Qo x a/\∀(x_5:Nat),QE x_4 x_5 x_3 x_2 x_1 x->QF x a x_5 x_2 x_4 x_3 x_1)/\∀(x_4:Nat),QC x_3 x_4 x_2 x_1 x->QZ x a/\Qo x a/\Bd (Z0<=Qd a/\Qd a<=Qd a/\QV a<=281474976710656/\Qd a<=9223372036854775807) (∀(x_5:Nat),QE x_4 x_5 x_3 x_2 x_1 x->QF x a x_4 x_2 x_5 x_3 x_1))/\∀(x_3:Nat),Q6 x_2 x_3 x_1 x->QY x a/\QZ x a/\Qo x a/\Bd (Z0<=Qd a/\Qd a<=Qd a/\QV a<=281474976710656/\Qd a<=9223372036854775807) (∀(x_4:Nat),QC x_3 x_4 x_2 x_1 x->QY x a/\Qo x a/\Bd (Z0<=Qa a/\Qa a<=Qa a/\QW a<=281474976710656/\Qa a<=9223372036854775807) (∀(x_5:Nat),QE x_4 x_5 x_3 x_2 x_1 x->QF x a x_3 x_2 x_4 x_5 x_1))/\Bd (Z0<=Qa a/\Qa a<=Qa a/\QW a<=281474976710656/\Qa a<=9223372036854775807) (∀(x_4:Nat),QC x_3 x_4 x_2 x_1 x->QZ x a/\Qo x a/\Bd (Z0<=Qd a/\Qd a<=Qd a/\QV a<=281474976710656/\Qd a<=9223372036854775807) (∀(x_5:Nat),QE x_4 x_5 x_3 x_2 x_1 x->QF x a x_3 x_2 x_5 x_4 x_1)))/\Bd (Z0<=Qd a/\Qd a<=Qd a/\QV a<=281474976710656/\Qd a<=9223372036854775807) (∀(x_2:Nat),x_1≠x_2/\x≠x_2/\True->QY x a/\Q0 x a/\Qo x a/\Bd (Z0<=Qb a/\Qb a<=Qb a/\QU a<=281474976710656/\Qb a<=9223372036854775807) (∀(x_3:Nat),Q6 x_2 x_3 x_1 x->QY x a/\Qo x a/\Bd (Z0<=Qa a/\Qa a<=Qa a/\QW a<=281474976710656/\Qa a<=9223372036854775807) (∀(x_4:Nat),QC x_3 x_4 x_2 x_1 x->Qo x a/\∀(x_5:Nat),QE x_4 x_5 x_3 x_2 x_1 x->QF x a x_5 x_3 x_2 x_4 x_1)/\∀(x_4:Nat),QC x_3 x_4 x_2 x_1 x->QY x a/\Qo x a/\Bd (Z0<=Qa a/\Qa a<=Qa a/\QW a<=281474976710656/\Qa a<=9223372036854775807) (∀(x_5:Nat),QE x_4 x_5 x_3 x_2 x_1 x->QF x a x_4 x_3 x_2 x_5 x_1))/\Bd (Z0<=Qa a/\Qa a<=Qa a/\QW a<=281474976710656/\Qa a<=9223372036854775807) (∀(x_3:Nat),Q6 x_2 x_3 x_1 x->Q0 x a/\Qo x a/\Bd (Z0<=Qb a/\Qb a<=Qb a/\QU a<=281474976710656/\Qb a<=9223372036854775807) (∀(x_4:Nat),QC x_3 x_4 x_2 x_1 x->Qo x a/\∀(x_5:Nat),QE x_4 x_5 x_3 x_2 x_1 x->QF x a x_5 x_4 x_2 x_3 x_1)/\∀(x_4:Nat),QC x_3 x_4 x_2 x_1 x->Q0 x a/\Qo x a/\Bd (Z0<=Qb a/\Qb a<=Qb a/\QU a<=281474976710656/\Qb a<=9223372036854775807) (∀(x_5:Nat),QE x_4 x_5 x_3 x_2 x_1 x->QF x a x_4 x_5 x_2 x_3 x_1))/\∀(x_3:Nat),Q6 x_2 x_3 x_1 x->QY x a/\Q0 x a/\Qo x a/\Bd (Z0<=Qb a/\Qb a<=Qb a/\QU a<=281474976710656/\Qb a<=9223372036854775807) (∀(x_4:Nat),QC x_3 x_4 x_2 x_1 x->QY x a/\Qo x a/\Bd (Z0<=Qa a/\Qa a<=Qa a/\QW a<=281474976710656/\Qa a<=9223372036854775807) (∀(x_5:Nat),QE x_4 x_5 x_3 x_2 x_1 x->QF x a x_3 x_4 x_2 x_5 x_1))/\Bd (Z0<=Qa a/\Qa a<=Qa a/\QW a<=281474976710656/\Qa a<=9223372036854775807) (∀(x_4:Nat),QC x_3 x_4 x_2 x_1 x->Q0 x a/\Qo x a/\Bd (Z0<=Qb a/\Qb a<=Qb a/\QU a<=281474976710656/\Qb a<=9223372036854775807) (∀(x_5:Nat),QE x_4 x_5 x_3 x_2 x_1 x->QF x a x_3 x_5 x_2 x_4 x_1)))/\Bd (Z0<=Qa a/\Qa a<=Qa a/\QW a<=281474976710656/\Qa a<=9223372036854775807) (∀(x_2:Nat),x_1≠x_2/\x≠x_2/\True->QZ x a/\Q0 x a/\Qo x a/\Bd (Z0<=Qb a/\Qb a<=Qb a/\QU a<=281474976710656/\Qb a<=9223372036854775807) (∀(x_3:Nat),Q6 x_2 x_3 x_1 x->QZ x a/\Qo x a/\Bd (Z0<=Qd a/\Qd a<=Qd a/\QV a<=281474976710656/\Qd a<=9223372036854775807) (∀(x_4:Nat),QC x_3 x_4 x_2 x_1 x->Qo x a/\∀(x_5:Nat),QE x_4 x_5 x_3 x_2 x_1 x->QF x a x_5 x_3 x_4 x_2 x_1)/\∀(x_4:Nat),QC x_3 x_4 x_2 x_1 x->QZ x a/\Qo x a/\Bd (Z0<=Qd a/\Qd a<=Qd a/\QV a<=281474976710656/\Qd a<=9223372036854775807) (∀(x_5:Nat),QE x_4 x_5 x_3 x_2 x_1 x->QF x a x_4 x_3 x_5 x_2 x_1))/\Bd (Z0<=Qd a/\Qd a<=Qd a/\QV a<=281474976710656/\Qd a<=9223372036854775807) (∀(x_3:Nat),Q6 x_2 x_3 x_1 x->Q0 x a/\Qo x a/\Bd (Z0<=Qb a/\Qb a<=Qb a/\QU a<=281474976710656/\Qb a<=9223372036854775807) (∀(x_4:Nat),QC x_3 x_4 x_2 x_1 x->Qo x a/\∀(x_5:Nat),QE x_4 x_5 x_3 x_2 x_1 x->QF x a x_5 x_4 x_3 x_2 x_1)/\∀(x_4:Nat),QC x_3 x_4 x_2 x_1 x->Q0 x a/\Qo x a/\Bd (Z0<=Qb a/\Qb a<=Qb a/\QU a<=281474976710656/\Qb a<=9223372036854775807) (∀(x_5:Nat),QE x_4 x_5 x_3 x_2 x_1 x->QF x a x_4 x_5 x_3 x_2 x_1))/\∀(x_3:Nat),Q6 x_2 x_3 x_1 x->QZ x a/\Q0 x a/\Qo x a/\Bd (Z0<=Qb a/\Qb a<=Qb a/\QU a<=281474976710656/\Qb a<=9223372036854775807) (∀(x_4:Nat),QC x_3 x_4 x_2 x_1 x->QZ x a/\Qo x a/\Bd (Z0<=Qd a/\Qd a<=Qd a/\QV a<=281474976710656/\Qd a<=9223372036854775807) (∀(x_5:Nat),QE x_4 x_5 x_3 x_2 x_1 x->QF x a x_3 x_4 x_5 x_2 x_1))/\Bd (Z0<=Qd a/\Qd a<=Qd a/\QV a<=281474976710656/\Qd a<=9223372036854775807) (∀(x_4:Nat),QC x_3 x_4 x_2 x_1 x->Q0 x a/\Qo x a/\Bd (Z0<=Qb a/\Qb a<=Qb a/\QU a<=281474976710656/\Qb a<=9223372036854775807) (∀(x_5:Nat),QE x_4 x_5 x_3 x_2 x_1 x->QF x a x_3 x_5 x_4 x_2 x_1)))/\∀(x_2:Nat),x_1≠x_2/\x≠x_2/\True->QY x a/\QZ x a/\Q0 x a/\Qo x a/\Bd (Z0<=Qb a/\Qb a<=Qb a/\QU a<=281474976710656/\Qb a<=9223372036854775807) (∀(x_3:Nat),Q6 x_2 x_3 x_1 x->QY x a/\QZ x a/\Qo x a/\Bd (Z0<=Qd a/\Qd a<=Qd a/\QV a<=281474976710656/\Qd a<=9223372036854775807) (∀(x_4:Nat),QC x_3 x_4 x_2 x_1 x->QY x a/\Qo x a/\Bd (Z0<=Qa a/\Qa a<=Qa a/\QW a<=281474976710656/\Qa a<=9223372036854775807) (∀(x_5:Nat),QE x_4 x_5 x_3 x_2 x_1 x->QF x a x_2 x_3 x_4 x_5 x_1))/\Bd (Z0<=Qa a/\Qa a<=Qa a/\QW a<=281474976710656/\Qa a<=9223372036854775807) (∀(x_4:Nat),QC x_3 x_4 x_2 x_1 x->QZ x a/\Qo x a/\Bd (Z0<=Qd a/\Qd a<=Qd a/\QV a<=281474976710656/\Qd a<=9223372036854775807) (∀(x_5:Nat),QE x_4 x_5 x_3 x_2 x_1 x->QF x a x_2 x_3 x_5 x_4 x_1)))/\Bd (Z0<=Qd a/\Qd a<=Qd a/\QV a<=281474976710656/\Qd a<=9223372036854775807) (∀(x_3:Nat),Q6 x_2 x_3 x_1 x->QY x a/\Q0 x a/\Qo x a/\Bd (Z0<=Qb a/\Qb a<=Qb a/\QU a<=281474976710656/\Qb a<=9223372036854775807) (∀(x_4:Nat),QC x_3 x_4 x_2 x_1 x->QY x a/\Qo x a/\Bd (Z0<=Qa a/\Qa a<=Qa a/\QW a<=281474976710656/\Qa a<=9223372036854775807) (∀(x_5:Nat),QE x_4 x_5 x_3 x_2 x_1 x->QF x a x_2 x_4 x_3 x_5 x_1))/\Bd (Z0<=Qa a/\Qa a<=Qa a/\QW a<=281474976710656/\Qa a<=9223372036854775807) (∀(x_4:Nat),QC x_3 x_4 x_2 x_1 x->Q0 x a/\Qo x a/\Bd (Z0<=Qb a/\Qb a<=Qb a/\QU a<=281474976710656/\Qb a<=9223372036854775807) (∀(x_5:Nat),QE x_4 x_5 x_3 x_2 x_1 x->QF x a x_2 x_5 x_3 x_4 x_1)))/\Bd (Z0<=Qa a/\Qa a<=Qa a/\QW a<=281474976710656/\Qa a<=9223372036854775807) (∀(x_3:Nat),Q6 x_2 x_3 x_1 x->QZ x a/\Q0 x a/\Qo x a/\Bd (Z0<=Qb a/\Qb a<=Qb a/\QU a<=281474976710656/\Qb a<=9223372036854775807) (∀(x_4:Nat),QC x_3 x_4 x_2 x_1 x->QZ x a/\Qo x a/\Bd (Z0<=Qd a/\Qd a<=Qd a/\QV a<=281474976710656/\Qd a<=9223372036854775807) (∀(x_5:Nat),QE x_4 x_5 x_3 x_2 x_1 x->QF x a x_2 x_4 x_5 x_3 x_1))/\Bd (Z0<=Qd a/\Qd a<=Qd a/\QV a<=281474976710656/\Qd a<=9223372036854775807) (∀(x_4:Nat),QC x_3 x_4 x_2 x_1 x->Q0 x a/\Qo x a/\Bd (Z0<=Qb a/\Qb a<=Qb a/\QU a<=281474976710656/\Qb a<=9223372036854775807) (∀(x_5:Nat),QE x_4 x_5 x_3 x_2 x_1 x->QF x a x_2 x_5 x_4 x_3 x_1))))/\∀(x_2:(Nat×Nat)×Nat×Nat),True->SM x_2.2.2/\SM x/\SM x_2.1.1/\Vg a/\Vg a/\SM x_2.2.2/\SM x/\SM x_2.1.2/\Vh a/\Vh a/\SM x/\(∃(x_3:Nat),QcH x_3 a/\(Z0=(↑x_3:Int)/\True)/\(SM x_2.2.2/\Qlf a x_2.1.1 x_2.1.2 x_2.2.1/\SM x_2.2.1/\(JS a/\JS a/\∀(i:Nat),Yp i a->clR (Vf a) N0 i=Hu a x_3 i)/\Qlg x_2.1.2 a x_2.1.1 x_1 x)/\True)/\∀(x_3:Nat),QcH x_3 a->ifB (decide ((↑x_3:Int)<Qa a)) (Bd (Z0<=(↑x_3:Int)/\(↑x_3:Int)<Qa a) (∀(x_4:Nat),x_2.2.2≠x_4/\QE x_2.2.1 x_4 x_2.1.2 x_2.1.1 x_1 x->SM x_4/\SM x_2.2.2/\SM x_4/\∃(x_5:Arr),((Arr.k (Hv a x_3)=QcE x_5/\(Qli a x_3=JQ x_5/\(∀(i:Nat),i<Qli a x_3->[ZI (GI (Qlh a x_3) i)]=Ht x_5 i)/\True)/\(Qlk a x_3=JR x_5/\(∀(i:Nat),i<Qlk a x_3->[ZI (GI (Qlj a x_3) i)]=Ho x_5 i)/\True)/\(Qlm a x_3=QX x_5/\(∀(i:Nat),i<Qlm a x_3->Arr.row (List.getD (Qll a x_3) i Hn)=Qln x_5 i)/\True)/\True)/\True)/\(True/\True)/\x_5∈Vf a/\∀(y:Unit),True->(SM x_2.2.2/\SM (QsL x_2.2.1 a))/\Bd (Z0<=(↑x_3:Int)/\(↑x_3:Int)<Qa a) (SM x_2.2.1/\Bd (Int.toNat (↑x_3:Int)<QX a) ((SM (D.ref N0 x N0)/\SM (D.ref (max (N0+N1) N0) x_1 N0)/\SM (D.ref (17:Nat) x_2.2.2 N0)/\Qk5 a/\SM (ZI (Qa a))/\True)/\∃(y:Nat),QcH y a/\QX a-y<QX a-x_3/\(IntKind.wrap IntKind.i64 ((↑x_3:Int)+Z1)=(↑y:Int)/\True)/\(SM x_2.2.2/\Qlf a x_2.1.1 x_2.1.2 x_2.2.1/\SM x_2.2.1/\(JS a/\JS a/\∀(i:Nat),Yp i a->ET (clR (Vf a) x_3) (Int.toNat (↑x_3:Int)) [Qk7 x_5,Qle x_5,Qk6 x_5,D.sl N4 (QX x_5) (fun i=>Qln x_5 i) Mode.any] i=Hu a y i)/\Qlg x_2.1.2 a x_2.1.1 x_1 x)/\True)))) (SM x_2.1.1/\Vg a/\Bd (JQ a<=JQ a) ((∀(i:Nat),i<JQ a->(List.all (Ht a i) fun (x:D)=>QcI x)=true)/\∀(t:Nat),SM x_2.1.2/\Vh a/\Bd (JR a<=JR a) ((∀(i:Nat),i<JR a->(List.all (Ho a i) fun (x:D)=>QcI x)=true)/\∀(t:Nat),SM x_2.2.1/\JS a/\Bd (QX a<=QX a) ((∀(i:Nat),Yp i a->(List.all (Hu a x_3 i) fun (x:D)=>QcI x)=true)/\∀(t:Nat),SM x_2.2.2/\SM x_1/\(SM x_1/\True)/\∃(y:Unit),True/\(Hp a/\Qla a/\Qlc a/\(JS a/\(∀(i:Nat),Yp i a->Hu a x_3 i=QcD a i)/\True)/\True)/\True/\True))))) (by kernel_rfl) ?_
 delta DA GI LN N0 N1 N4 NI SI SM Z0 Z1 ZI JQ Qb QcD QsK Qk5 QY JR Ho Qk6 QZ QcE Qk7 QU Qo Qd QV Q6 Qa QW QC QE Hp Hq Vf Hr Hs QcF Qk8 QcG Vg Ht Qk9 Qla Vh QX Qlb Qlc JS Yp Qld QF Qle Q0 QcH Qlf Hn Hu Qlg Hv Qlh Qli Qlj Qlk Qll Qlm Qln Yo QsL QcI QsI QsJ Qk4
 have da:(default:Arr)=Arr.mk 0 [] [] []:=rfl
 simp only[<- da,eq_self,implies_true,Int.toNat_natCast,Bh,Bf,decide_eq_true_eq,decide_eq_false_iff_not,true_and,and_true,exists_const,forall_const]
 obtain ⟨l1,l2,l3⟩:=ha
 refine fun x x1 hx=>⟨?_,?_⟩
 ·repeat' (first | (refine⟨((_,_),_,_),rfl,rfl,⟨rfl,rfl,rfl⟩,rfl,fun _ _=>rfl,rfl,rfl⟩) | (refine And.intro ?_ ?_) | intro _ | omega)
 refine fun y=>⟨⟨0,Nat.zero_le _,rfl,fun _ _=>rfl⟩,fun i hi=>⟨fun hlt=>⟨⟨by omega,hlt⟩,fun x4 _=>⟨a.it.getD i default,⟨rfl,⟨rfl,fun _ _=>rfl⟩,⟨rfl,fun _ _=>rfl⟩,rfl,fun _ _=>rfl⟩,Bbu (by omega),⟨by omega,hlt⟩,by omega,i+1,by omega,by omega,Be (by omega) (by omega),fun j hj=>?_⟩⟩,fun hge=>⟨Nat.le_refl _,fun _ _=>rfl,Nat.le_refl _,fun _ _=>rfl,Nat.le_refl _,fun j hj=>?_,fun j hj=>?_⟩⟩⟩
 ·by_cases e:j=i
  ·subst e
   rw[UV (by omega)]
   simp only[ET,if_true]
   rfl
  ·simp only[ET,e,if_false]
   by_cases e2:j<i
   ·rw[UV e2,UV (by omega)]
   ·rw[Biq e2,Biq (by omega)]
 ·rw[UV (by omega)];rfl
 ·rw[UV (by omega)];rfl
theorem WU(a:Arr):wkL a.row2 a.row1:=by
 simp only[Arr.row1,Arr.row2,gsl,isl,wkL,wkD,Bk,Ba]
 exact⟨⟨by simp[kEq],trivial⟩,⟨by simp,trivial,fun i _=>by simp[kEq],by simp[BB]⟩,⟨by simp,trivial,fun i _=>by simp[kEq],by simp[BB]⟩,⟨by simp,trivial,fun i _=>Bgj _,by simp[BB]⟩,trivial⟩
theorem Rk:∀(l:List Arr) (d w:Int) (r:Int×Int),MO l d w=some r->∀x∈l,(Ck x).1=0
 | [],_,_,_,_,x,hx=>by cases hx
 |y::l,d,w,r,h,x,hx=>by
  rw[MO] at h
  split at h
  ·cases h
  ·rename_i hy
   rcases List.mem_cons.1 hx with rfl | hx
   ·simpa using hy
   ·exact Rk l _ _ r h x hx
theorem Bfg{k:Int}{s n:List Int}{is:List Arr}(h:(Ck (.mk k s n is)).1=0):s.length<=8/\n.length<=65536/\is.length<=65536/\∀x∈is,(Ck x).1=0:=by
 rw[Ck] at h
 by_cases h0:EE k s n.length is.length≠0
 ·rw[if_pos h0] at h;exact (h0 h).elim
 ·rw[if_neg h0] at h
  have h0:EE k s n.length is.length=0:=by simpa using h0
  have hs:=ML h0
  refine⟨Bh3 h0,hs.1,hs.2,?_⟩
  by_cases hb:n.any (OW k)=true
  ·rw[if_pos hb] at h;simp at h
  ·rw[if_neg hb] at h
   cases hr:MO is 0 ((n.length:Int)+is.length) with
   |none=>rw[hr] at h;simp at h
   |some r=>exact Rk _ _ _ r hr
theorem Bgk:∀(a:Arr),(Ck a).1=0->ACalls Tryz.prog 73 [.agg a.row1] ⟨[],[]⟩ (SpecR (sCl Arr.row1 Arr.row1 (fun _=>True)) a)
 |.mk k s n is,h=>by
  obtain ⟨h1,h2,h3,h4⟩:=Bfg h
  have hc:ConOk Tryz.prog (Rv (Arr.mk k s n is).it):=by
   intro k' ds S A hk
   unfold Rv at hk
   split at hk
   ·injection hk with hk;subst hk
    refine ConOk.plain (fun (b:Arr) hb=>?_) rfl rfl
    have hb':b∈is:=hb
    exact (Bgk b (h4 b hb')).mono fun _ _ ⟨y,q1,q2,q3⟩=>⟨y,q1,q2,q3⟩
   ·cases hk
  have hm:=BdK (.mk k s n is) ⟨by show n.length<=_;omega,by show is.length<=_;omega,by show s.length<=_;omega⟩ hc
  have hm2:ACalls Tryz.prog 73 [.agg (Arr.mk k s n is).row1] ⟨[],[]⟩ (SpecR (sCl Arr.row2 Arr.row2 (fun _=>True)) (.mk k s n is)):=by
   refine ACalls.wkArgs hm ?_
   simp only[sCl,wkL,wkD]
   exact⟨Mz _,trivial⟩
  refine ACalls.wkEnd hm2 fun r S' ⟨y,q1,q2,q3⟩=>?_
  subst q2 q3
  refine⟨.ret (.agg (Arr.mk k s n is).row1),fun C e he=>?_,⟨(),trivial,rfl,rfl⟩⟩
  cases e with
  |returned v =>
   refine Gk (.agg (Arr.mk k s n is).row2) _ ?_ C v he
   simp only[wkD]
   exact WU _
  |panicked _=>exact he.elim
  |outgrown=>exact he.elim
termination_by a=>SizeOf.sizeOf a
decreasing_by
 have:=List.sizeOf_lt_of_mem hb'
 simp;omega
def GH{α:Type}[Inhabited α](w:Nat)(row:α->List D)(k:Nat)(l:List α):FnSpec where
 β:=Unit
 α:=Nat×Nat
 args:=fun _=>[gsl w row l]
 st:=fun _=>⟨[],[]⟩
 pre:=fun _=>l≠[]/\l.length<=1000000
 post:=fun _ y=>l.length<=y.2
 res:=fun _ y=>.ret (.vs k y.1 l.length y.2 w)
 out:=fun _ y=>⟨[(k,y.1,.vec w l.length y.2 (fun i=>row (l.getD i default)))],[]⟩
noncomputable def Ecn:Senv:={ EC CM 8 1 [2,4] (fun _=>([],[])) with own:=fun t=>Nat.beq t 46 }
def QsM(a:List Nd)(b:Nat):List D:=Nd.row1 (List.getD a b (Nd.mk Z0 Z0 Z0 [] Z0 Z0 DA [] [] Z0 Z0 Z0))
theorem Blr(l:List Nd)(h:l≠[]/\l.length<=1000000):ACalls Tryz.prog 74 ((GH 15 Nd.row1 0 l).args ()) ((GH 15 Nd.row1 0 l).st ()) (SpecR (GH 15 Nd.row1 0 l) ()):=by
 refine Bi (A:=GH 15 Nd.row1 0 l) (x:=()) (E:=Ecn) (eOk BE rfl) Tryz.func74 rfl (by kernel_rfl) rfl (by simp[GH,Ecn,EC,E0]) ?_
 refine Bj (T :=
  ∀(r:Bool),(r=true->LN l=N0)->ifB r (True/\∃(y:Nat×Nat),LN l<=y.2/\D.sl N1 N0 (fun x=>[]) Mode.nil=D.vs N0 y.1 (LN l) y.2 (15:Nat)/\False/\True) (Bd (N0<LN l/\LN l*208<=140737488355328/\LN l<=9223372036854775807) (∀(y cap':Nat),True->LN l<=cap'->True/\∃(y_1:Nat×Nat),LN l<=y_1.2/\(y=y_1.1/\SM (LN l)/\cap'=y_1.2)/\(y=y_1.1/\(SM (LN l)/\cap'=y_1.2/\∀(i:Nat),i<LN l->SM (QsM l i))/\True)/\True))) (by kernel_rfl) ?_
 delta DA LN N0 N1 SM Z0 QsM
 have hl:0<l.length:=List.length_pos_iff.2 h.1
 intro r hr
 rw[Bh,Bf]
 refine⟨fun e=>absurd (hr e) (by omega),fun _=>⟨⟨hl,by omega,by omega⟩,fun y c _ hc=>⟨trivial,(y,c),hc,⟨rfl,rfl,rfl⟩,⟨rfl,⟨rfl,rfl,fun _ _=>rfl⟩,trivial⟩,trivial⟩⟩⟩
noncomputable def Ecs:Senv:={ EC CM 8 1 [2,4] (fun _=>([],[])) with own:=fun t=>Nat.beq t 22 }
def Qlo:Nd:=Nd.mk Z0 Z0 Z0 [] Z0 Z0 DA [] [] Z0 Z0 Z0
def QsN(a:List Sm)(b:Nat):List D:=Sm.row1 (List.getD a b (Sm.mk Z0 Z0 [] Z0 Qlo Qlo))
theorem BkD(l:List Sm)(h:l≠[]/\l.length<=1000000):ACalls Tryz.prog 43 ((GH 34 Sm.row1 0 l).args ()) ((GH 34 Sm.row1 0 l).st ()) (SpecR (GH 34 Sm.row1 0 l) ()):=by
 refine Bi (A:=GH 34 Sm.row1 0 l) (x:=()) (E:=Ecs) (eOk BE rfl) Tryz.func43 rfl (by kernel_rfl) rfl (by simp[GH,Ecs,EC,E0]) ?_
 refine Bj (T :=
  ∀(r:Bool),(r=true->LN l=N0)->ifB r (True/\∃(y:Nat×Nat),LN l<=y.2/\D.sl N1 N0 (fun x=>[]) Mode.nil=D.vs N0 y.1 (LN l) y.2 (34:Nat)/\False/\True) (Bd (N0<LN l/\LN l*456<=140737488355328/\LN l<=9223372036854775807) (∀(y cap':Nat),True->LN l<=cap'->True/\∃(y_1:Nat×Nat),LN l<=y_1.2/\(y=y_1.1/\SM (LN l)/\cap'=y_1.2)/\(y=y_1.1/\(SM (LN l)/\cap'=y_1.2/\∀(i:Nat),i<LN l->SM (QsN l i))/\True)/\True))) (by kernel_rfl) ?_
 delta DA LN N0 N1 SM Z0 Qlo QsN
 have hl:0<l.length:=List.length_pos_iff.2 h.1
 intro r hr
 rw[Bh,Bf]
 refine⟨fun e=>absurd (hr e) (by omega),fun _=>⟨⟨hl,by omega,by omega⟩,fun y c _ hc=>⟨trivial,(y,c),hc,⟨rfl,rfl,rfl⟩,⟨rfl,⟨rfl,rfl,fun _ _=>rfl⟩,trivial⟩,trivial⟩⟩⟩
theorem BeH{α : Type}[Inhabited α]{f w : Nat}{row : α -> List D}{l : List α}(k : Nat)(h : ACalls Tryz.prog f ((GH w row 0 l).args ()) ((GH w row 0 l).st ()) (SpecR (GH w row 0 l) ())) :
  ACalls Tryz.prog f ((GH w row k l).args ()) ((GH w row k l).st ()) (SpecR (GH w row k l) ()) :=
 h.respec (by simp[GH,Bm]) (by simp[GH,BgJ,BeQ,Bgy]) fun y hy=>⟨y,hy,by simp[GH,Of,Bk,Ba],by simp[GH,BgJ,BeQ,Bgy,IB,Ba]⟩
def Bjs(w:Nat):D:=.sl w 0 (fun _=>[]) .any
def _root_.Go.Ab.endW(d:D)(e:AEnd)(_:St):Prop:=match e with
 |.ret d'=>wkD d' d
 |_=>False
theorem CD.ofW{k:Nat}{ds:List D}{d:D}(h:ACalls Tryz.prog k ds ⟨[],[]⟩ (Go.Ab.endW d)):CD k ds d:=by
 refine (ACalls.wkEnd h (R':=fun r _=>r=.ret d) fun r S' hr=>?_).to ?_
 ·refine⟨.ret d,fun C e he=>?_,rfl⟩
  unfold Go.Ab.endW at hr
  split at hr
  ·cases e with
   |returned v=>exact Gk _ d hr C v he
   |panicked _=>exact he.elim
   |outgrown=>exact he.elim
  ·exact hr.elim
 ·rintro r S' rfl
  exact⟨⟨[],[]⟩,fun C F w H=>H.le ⟨List.nil_sublist _,List.nil_sublist _⟩,(),trivial,rfl,rfl⟩
noncomputable def Ecn0:Senv:=EC CM 8 1 [2,4] (fun _=>([],[]))
theorem Blg:CD 74 [gsl 15 Nd.row1 []] (Bjs 15):=by
 refine CD.ofW (CK (E:=Ecn0) (eOk BE rfl) Tryz.func74 rfl (by kernel_rfl) rfl (by simp[Ecn0,EC,E0]) ?_)
 refine Bj (T :=
  ∀(r:Bool),(r=true->SM N0)->ifB r (True/\SM N0/\(∀(i:Nat),i<N0->True)/\True) (∀(t:Nat),True/\SM N0/\(∀(i:Nat),i<N0->False)/\True)) (by kernel_rfl) ?_
 delta N0 SM
 exact fun r _=>Bh.2 ⟨fun _=>⟨trivial,rfl,fun _ _=>trivial,trivial⟩,fun _ _=>⟨trivial,rfl,fun _ h=>absurd h (Nat.not_lt_zero _),trivial⟩⟩
noncomputable def Ecs0:Senv:=EC CM 8 1 [2,4] (fun _=>([],[]))
theorem Bli:CD 43 [gsl 34 Sm.row1 []] (Bjs 34):=by
 refine CD.ofW (CK (E:=Ecs0) (eOk BE rfl) Tryz.func43 rfl (by kernel_rfl) rfl (by simp[Ecs0,EC,E0]) ?_)
 refine Bj (T :=
  ∀(r:Bool),(r=true->SM N0)->ifB r (True/\SM N0/\(∀(i:Nat),i<N0->True)/\True) (∀(t:Nat),True/\SM N0/\(∀(i:Nat),i<N0->False)/\True)) (by kernel_rfl) ?_
 delta N0 SM
 exact fun r _=>Bh.2 ⟨fun _=>⟨trivial,rfl,fun _ _=>trivial,trivial⟩,fun _ _=>⟨trivial,rfl,fun _ h=>absurd h (Nat.not_lt_zero _),trivial⟩⟩
theorem Mr(l:List Int):BT (isl l .any):=by
 simp only[isl,BT,It,Ru,B6]
 exact fun _ _=>⟨trivial,trivial,trivial⟩
theorem IS(l:List Int):Cn (isl l .any):=by
 simp only[isl,Cn,B4]
 exact⟨trivial,fun _ _=>⟨trivial,trivial⟩⟩
theorem W6:∀ {a b:List D},B6 a->B6 b->B6 (a++b)
 | [],_,_,h=>h
 |x::a,b,h,k=>by
  simp only[B6,List.cons_append] at h ⊢
  exact⟨h.1,W6 h.2 k⟩
theorem Bbc:∀ {a b:List D},B4 a->B4 b->B4 (a++b)
 | [],_,_,h=>h
 |x::a,b,h,k=>by
  simp only[B4,List.cons_append] at h ⊢
  exact⟨h.1,Bbc h.2 k⟩
def ED(r:List D):Prop:=It r/\B4 r
theorem IR{r:List D}(h:ED r):B6 r:=by
 cases r with
 |nil=>simp[B6]
 |cons d r =>
  have:=h.1
  simp only[It,B6] at this ⊢
  exact this.2
theorem RS{α:Type}[Inhabited α]{w:Nat}{row:α->List D}{l:List α}(h:∀x∈l,ED (row x)):BT (gsl w row l)/\Cn (gsl w row l):=by
 have hm:∀i,i<l.length->ED (row (l.getD i default)):=fun i hi=>h _ (by rw[List.getD_eq_getElem?_getD,List.getElem?_eq_getElem hi];exact List.getElem_mem hi)
 simp only[gsl,BT,Cn]
 exact⟨fun i hi=>(hm i hi).1,trivial,fun i hi=>(hm i hi).2⟩
theorem Bag{w:Nat}{l:List (List D)}(h:∀x∈l,ED x):BT (lsl w l)/\Cn (lsl w l):=by
 have hm:∀i,i<l.length->ED (l.getD i []):=fun i hi=>h _ (by rw[List.getD_eq_getElem?_getD,List.getElem?_eq_getElem hi];exact List.getElem_mem hi)
 simp only[lsl,BT,Cn]
 exact⟨fun i hi=>(hm i hi).1,trivial,fun i hi=>(hm i hi).2⟩
theorem Bcv{k:IntKind}{z:Int}{r:List D}(h:B6 r/\B4 r):ED (.int k z::r):=by
 unfold ED
 simp only[It,B4,Ru,BT,Cn]
 exact⟨⟨trivial,trivial,h.1⟩,trivial,h.2⟩
mutual
theorem Tm:∀a:Arr,ED a.row
 |.mk k s n is=>by
  have:=UJ is
  simp only[Arr.row]
  refine Bcv ?_
  simp only[B6,B4]
  exact⟨⟨Mr _,Mr _,(Bag this).1,trivial⟩,IS _,IS _,(Bag this).2,trivial⟩
theorem UJ:∀l:List Arr,∀x∈IU l,ED x
 | [],x,h=>by simp[IU] at h
 |a::l,x,h=>by
  simp only[IU,List.mem_cons] at h
  rcases h with rfl | h
  ·exact Tm a
  ·exact UJ l x h
end
theorem BhN{k : Int}{at_ cl pr op de sl ss vk : Int}{tx : List UInt8}{sh nu : List Int}{A B C : D}(ha : BT A /\ Cn A)(hb : BT B /\ Cn B)(hc : BT C /\ Cn C) :
  ED [.int .i64 k,.int .i64 at_,.int .i64 cl,.str tx,.int .i64 pr,.int .i64 op,.int .i64 vk,isl sh .any,isl nu .any,A,B,C,.int .i64 de,.int .i64 sl,.int .i64 ss]:=by
 refine Bcv ?_
 simp only[B6,B4,BT,Cn]
 exact⟨⟨trivial,trivial,trivial,trivial,trivial,trivial,Mr _,Mr _,ha.1,hb.1,hc.1,trivial,trivial,trivial,trivial⟩,trivial,trivial,trivial,trivial,trivial,trivial,IS _,IS _,ha.2,hb.2,hc.2,trivial,trivial,trivial,trivial⟩
theorem Bk4{kd at_ sl:Int}{nm:List UInt8}{a b:List D}(ha:ED a)(hb:ED b):ED (.int .i64 kd::.int .i64 at_::.str nm::.int .i64 sl::(a++b)):=by
 refine Bcv ?_
 have h1:=W6 (IR ha) (IR hb)
 have h2:=Bbc ha.2 hb.2
 simp only[B6,B4,BT,Cn]
 exact⟨⟨trivial,trivial,trivial,h1⟩,trivial,trivial,trivial,h2⟩
mutual
theorem Oy:∀n:Nd,ED n.row
 |.mk kd at_ cl tx pr op va ki bo de sl ss=>by
  have h1:=Rn ki
  have h2:=RB bo
  rw[Nd.row]
  exact BhN (RS fun x _=>Tm x) (Bag h1) (Bag h2)
theorem Bbs:∀s:Sm,ED s.row
 |.mk kd at_ nm sl te nd=>by
  have h1:=Oy te
  have h2:=Oy nd
  rw[Sm.row]
  exact Bk4 h1 h2
theorem Rn:∀l:List Nd,∀x∈Gu l,ED x
 | [],x,h=>by simp[Gu] at h
 |a::l,x,h=>by
  simp only[Gu,List.mem_cons] at h
  rcases h with rfl | h
  ·exact Oy a
  ·exact Rn l x h
theorem RB:∀l:List Sm,∀x∈CX l,ED x
 | [],x,h=>by simp[CX] at h
 |a::l,x,h=>by
  simp only[CX,List.mem_cons] at h
  rcases h with rfl | h
  ·exact Bbs a
  ·exact RB l x h
end
theorem Th(n:Nd):ED n.row1:=by
 unfold Nd.row1 Nd.rowE
 exact BhN (RS fun x _=>Tm x) (RS fun x _=>Oy x) (RS fun x _=>Bbs x)
theorem BaD:∀sc:Scp,Cn (frD sc)
 | []=>by simp[frD,Cn]
 |f::r=>by
  have:=BaD r
  simp only[frD,Cn,B4]
  refine⟨?_,IS _,this,trivial⟩
  simp only[ssl,Cn,B4]
  exact⟨trivial,fun _ _=>⟨trivial,trivial⟩⟩
theorem Bgx(f:Frm1)(sc:Scp):B4 (frR f sc):=by
 have:=BaD (f::sc)
 rw[Ws] at this
 simpa[Cn] using this
theorem Bbx{α:Type}[Inhabited α]{w:Nat}{g g':α->List D}{l:List α}(h:∀x,wkL (g x) (g' x)):wkD (gsl w g l) (lsl w (l.map g')):=by
 simp only[lsl,gsl,wkD,Ba]
 refine⟨by simp,by simp,fun i hi=>?_,by simp[BB]⟩
 have:(l.map g').getD i []=g' (l.getD i default):=by simp[List.getD_eq_getElem?_getD,hi]
 rw[this]
 exact h _
theorem RL(n:Nd):wkL n.row1 n.row:=by
 cases n with
 |mk kd at_ cl tx pr op va ki bo de sl ss =>
  simp only[Nd.row,Nd.row1,Nd.rowE,Nd.kd,Nd.at_,Nd.cl,Nd.tx,Nd.pr,Nd.op,Nd.va,Nd.ki,Nd.bo,Nd.de,Nd.sl,Nd.ss,wkL,EL,Cc]
  exact⟨Bb _,Bb _,Bb _,Bb _,Bb _,Bb _,Bb _,Bb _,Bb _,Bb _,Bbx fun _=>Bc _,Bbx fun _=>Bc _,Bb _,Bb _,Bb _,trivial⟩
theorem Bja(s:Sm):wkL s.row1 s.row:=by
 cases s with
 |mk kd at_ nm sl te nd =>
  simp only[Sm.row,Sm.row1,Sm.kd,Sm.at_,Sm.nm,Sm.sl,Sm.te,Sm.nd,wkL]
  exact⟨Bb _,Bb _,Bb _,Bb _,Oo (RL _) (RL _)⟩
theorem BaF(n:Nd):wkL n.row2 n.row1:=by
 simp only[Nd.row1,Nd.rowE,Nd.row2,wkL]
 exact⟨Bb _,Bb _,Bb _,Bb _,Bb _,Bb _,Bb _,Bb _,Bb _,Bb _,U5 RL,U5 Bja,Bb _,Bb _,Bb _,trivial⟩
theorem WI{con:Con}(hc:ConOk Tryz.prog con){inl:Nat->List D->St->(AEnd->St->Prop)->Prop}(hi:∀k ds S R,inl k ds S R->ACalls Tryz.prog k ds S R){E:Senv}(h:E={ EC con E.n E.V E.cross E.ord with gh:=E.gh,gr:=E.gr,unr:=E.unr,cut:=E.cut,ann:=E.ann,cut2:=E.cut2,ann2:=E.ann2,own:=E.own,gz:=E.gz,mg:=E.mg,pvt:=E.pvt,bcut:=E.bcut,inl:=inl }):EnvOk E:=by
 rw[h]
 exact⟨Gn,hc,mix,hi,Gx⟩
def Ig:D:=.sl 1 0 (fun _=>[]) .nil
def We(e:Flt):D:=.iface 30 (.agg [.int .i64 e.1,.int .i64 e.2.1,Ig,Ig,.str e.2.2])
def zR{α:Type}(d:α->D)(x:Except Flt α)(r:AEnd):Prop:=match x with
 |.ok m=>r=.ret (d m)
 |.error e=>r=.pan (We e)
def VNd(sc:Scp)(n:Nd):Prop:=CZ 44 [frD sc,.agg n.row2] (zR (fun m=>.agg (Nd.row1 m)) (rvN sc n))
def WD(sc:Scp):Prop:=(∀f∈sc,f.length<=1000000/\(nmF f).Nodup)/\sc.length<=1000000/\sc≠[]
def VBd(sc:Scp)(l:List Sm):Prop:=∀x:Nat,ACalls Tryz.prog 22 [.ref 0 x 0,gsl 34 Sm.row1 l] ⟨[(0,x,.cells [Ig,Ig,frD sc])],[]⟩
 (fun r S'=>∃o,(match rvB sc [] l with | .ok z=>r=.ret (gsl 34 Sm.row1 z.1)/\o=.cells (frR z.2 sc) | .error e=>r=.pan (We e))/\S'=⟨[(0,x,o)],[]⟩)
def _root_.Go.Ab.twoX{α:Type}(x:Except Flt α)(d:α->D)(S:St)(R:AEnd->St->Prop):Prop:=(∀m,x=.ok m->R (.ret (d m)) S)/\∀e,x=.error e->R (.pan (We e)) S
noncomputable def _root_.Go.Ab.inlV(con:Con)(own:Bool)(sc:Scp)(k:Nat)(ds:List D)(S:St)(R:AEnd->St->Prop):Prop :=
 match Nat.beq k 44 with
 |true=>match own with
  |true=>match ds with
   | [.ref kx x 0,a]=>match BG S.objs kx with
    |some (y,.cells cs)=>(cs.all M0&&cs.all B2)=true/\∃z:Frm1×Nd,(y=x/\wkL cs (frR z.1 sc)/\a=.agg z.2.row1/\VNd (z.1::sc) z.2)/\twoX (rvN (z.1::sc) z.2) (fun m=>.agg (Nd.row1 m)) S R
    |_=>False
   |_=>False
  |false=>match ds with
   | [f,a]=>∃b:Nd,(f=frD sc/\a=.agg b.row1/\VNd sc b)/\twoX (rvN sc b) (fun m=>.agg (Nd.row1 m)) S R
   |_=>False
 |false=>match Nat.beq k 58 with
  |true=>match ds with
   | [f,.str nm]=>(f=frD sc/\WD sc)/\(Bp nm sc=none->R (.ret (.tup [.nilp,.int .i64 (sc.length:Nat)])) S)/\∀(d i:Nat) (c:Int) (f:Frm1) (r:Scp),(Bp nm sc=some (d,i,c)/\sc.drop d=f::r/\B3 nm f=some (i,c))->R (.ret (.tup [.pt (frR f r),.int .i64 (d:Nat)])) S
   |_=>False
  |false=>match Nat.beq k 22 with
   |true=>match ds with
    | [.ref kx x 0,l]=>match BG S.objs kx with
     |some (y,.cells [.sl 1 0 _ .nil,.sl 1 0 _ .nil,out])=>∃bo:List Sm,(y=x/\out=frD sc/\l=gsl 34 Sm.row1 bo/\VBd sc bo)/\(∀z,rvB sc [] bo=.ok z->R (.ret (gsl 34 Sm.row1 z.1)) ⟨C5 S.objs kx (.cells (frR z.2 sc)),S.toks⟩)/\(∀e,rvB sc [] bo=.error e->∀o,R (.pan (We e)) ⟨C5 S.objs kx o,S.toks⟩)
     |_=>False
    |_=>False
   |false=>MS { E0 con 0 0 [] (fun _=>([],[])) with auto:=true } (Ee G3) 9 k ds S R
theorem BjB{α:Type}{k:Nat}{ds:List D}{x:Except Flt α}{d:α->D}(h:CZ k ds (zR d x)){S:St}{R:AEnd->St->Prop}(hx:Go.Ab.twoX x d S R):ACalls Tryz.prog k ds S R:=by
 refine h.any fun r hr=>?_
 unfold zR at hr
 cases x with
 |ok m=>rw[hr];exact hx.1 m rfl
 |error e=>rw[hr];exact hx.2 e rfl
theorem VNd.down{sc:Scp}{n:Nd}(h:VNd sc n):CZ 44 [frD sc,.agg n.row1] (zR (fun m=>.agg (Nd.row1 m)) (rvN sc n)):=by
 refine CZ.wk h ?_
 simp only[wkL,wkD]
 exact⟨Bb _,GC n,trivial⟩
theorem retag(k k' x:Nat)(o:AObj):StTo ⟨[(k,x,o)],[]⟩ ⟨[(k',x,o)],[]⟩:=fun C F w H=>by
 refine⟨H.below,H.imm,H.one,fun p hp=>?_,H.nodup,fun t ht=>?_,H.tnodup,H.tfin,H.tdist⟩
 ·rcases List.mem_cons.1 hp with rfl | hp
  ·exact H.objs (k,x,o) List.mem_cons_self
  ·exact H.objs p (List.mem_cons_of_mem _ hp)
 ·obtain ⟨y,a,b,c⟩:=H.toks t ht
  refine⟨y,a,b,fun p hp=>?_⟩
  rcases List.mem_cons.1 hp with rfl | hp
  ·exact c (k,x,o) List.mem_cons_self
  ·exact c p (List.mem_cons_of_mem _ hp)
theorem Bb5:G0Keeps:=fun _ _ _ _=>trivial
theorem BhO{sc:Scp}{n:Nd}{r:AEnd}(h:zR (fun m=>.agg (Nd.row1 m)) (rvN sc n) r):ER r:=by
 unfold zR at h
 split at h
 ·rename_i m _
  subst h
  simp only[ER,BT]
  exact IR (Th m)
 ·subst h
  simp only[ER,We,Ig,BT,B6]
  exact⟨trivial,trivial,fun i hi=>absurd hi (Nat.not_lt_zero _),fun i hi=>absurd hi (Nat.not_lt_zero _),trivial,trivial⟩
theorem T4{con:Con}(hc:ConOk Tryz.prog con)(own:Bool)(sc:Scp)(k:Nat)(ds:List D)(S:St)(R:AEnd->St->Prop)(h:Go.Ab.inlV con own sc k ds S R):ACalls Tryz.prog k ds S R:=by
 unfold Go.Ab.inlV at h
 split at h
 ·rename_i hk
  have hk:=Nat.eq_of_beq_eq_true hk
  subst hk
  split at h
  ·split at h
   ·rename_i kx x a
    split at h
    ·rename_i y cs hg
     obtain ⟨h0,⟨f,b⟩,⟨rfl,h1,rfl,h3⟩,h4⟩:=h
     simp only[Bool.and_eq_true] at h0
     simp only at h1 h3 h4
     have hrow:B4 [.agg b.row1]:=by
      simp only[B4,Cn]
      exact⟨(Th b).2,trivial⟩
     have h5:=ACalls.lend_at (P:=Tryz.prog) (k:=kx) (x:=y) (cs:=cs) (cs':=frR f sc) (rest:=[.agg b.row1]) (S:=S) Bb5 hg h0.1 h0.2 h1 (Bgx f sc) hrow (by have:=VNd.down h3;rw[Ws] at this;exact this) fun r=>BhO
     refine h5.mono ?_
     rintro r S' ⟨hr,rfl⟩
     unfold zR at hr
     cases hx:rvN (f::sc) b with
     |ok m=>rw[hx] at hr;rw[hr];exact h4.1 m hx
     |error e=>rw[hx] at hr;rw[hr];exact h4.2 e hx
    ·exact h.elim
   ·exact h.elim
  ·split at h
   ·obtain ⟨b,⟨rfl,rfl,h3⟩,h4⟩:=h
    exact BjB (VNd.down h3) h4
   ·exact h.elim
 ·split at h
  ·rename_i hk
   have hk:=Nat.eq_of_beq_eq_true hk
   subst hk
   split at h
   ·rename_i f nm
    obtain ⟨⟨rfl,h1⟩,h2,h3⟩:=h
    cases sc with
    |nil=>exact (h1.2.2 rfl).elim
    |cons f0 r0 =>
     refine CZ.any (Bkk f0 r0 nm (fun f hf=>(h1.1 f hf).1) h1.2.1) fun r hr=>?_
     rcases hr with ⟨q1,rfl⟩ | ⟨d,i,c,f,r,q1,q2,q3,rfl⟩
     ·exact h2 q1
     ·exact h3 d i c f r ⟨q1,q2,q3⟩
   ·exact h.elim
  ·split at h
   ·rename_i hk
    have hk:=Nat.eq_of_beq_eq_true hk
    subst hk
    split at h
    ·rename_i kx x l
     split at h
     ·rename_i y f1 f2 out hg
      obtain ⟨bo,⟨rfl,rfl,rfl,h3⟩,h4,h5⟩:=h
      have hb : ACalls Tryz.prog 22 [.ref kx y 0, gsl 34 Sm.row1 bo] ⟨[(kx, y, .cells [.sl 1 0 f1 .nil, .sl 1 0 f2 .nil, frD sc])], []⟩
        (fun r S'=>∃o,(match rvB sc [] bo with | .ok z=>r=.ret (gsl 34 Sm.row1 z.1)/\o=.cells (frR z.2 sc) | .error e=>r=.pan (We e))/\S'=⟨[(kx,y,o)],[]⟩):=by
       have e1:=ACalls.wkArgs (ds:=[.ref kx y 0,gsl 34 Sm.row1 bo]) (h3 y) (by
        simp only[wkL]
        exact⟨by simp[wkD,Bk,Ba],Bb _,trivial⟩)
       refine (e1.from (S:=⟨[(kx,y,.cells [.sl 1 0 f1 .nil,.sl 1 0 f2 .nil,frD sc])],[]⟩) ?_).to ?_
       ·exact fun C F w H=>H.pos ⟨⟨rfl,by simp[IB,Bz,Bk,Ba,BB,Ig,BM],trivial⟩,trivial⟩
       ·rintro r S' ⟨o,hr,rfl⟩
        exact⟨⟨[(kx,y,o)],[]⟩,retag 0 kx y o,o,hr,rfl⟩
      refine (ACalls.at_obj hg hb).mono ?_
      rintro r S' ⟨o,hr,rfl⟩
      cases hx:rvB sc [] bo with
      |ok z=>rw[hx] at hr;obtain ⟨rfl,rfl⟩:=hr;exact h4 z hx
      |error e=>rw[hx] at hr;rw[hr];exact h5 e hx o
     ·exact h.elim
    ·exact h.elim
   ·exact E9 (E:={ E0 con 0 0 [] (fun _=>([],[])) with auto:=true }) Gn hc mix CR Gx 9 k ds S R h
def _root_.Go.Ab.endV{α:Type}(d:α->D)(x:Except Flt α)(e:AEnd)(_:St):Prop:=match e with
 |.ret d'=>∃m,x=.ok m/\Bk d' (d m)
 |.pan d'=>∃e',x=.error e'/\Bk d' (We e')
theorem Bgr{α:Type}{d d2:α->D}(hd:∀m,wkD (d m) (d2 m)){x:Except Flt α}{k:Nat}{ds:List D}(h:ACalls Tryz.prog k ds ⟨[],[]⟩ (Go.Ab.endV d x)):CZ k ds (zR d2 x):=by
 refine ACalls.wkEnd h fun r S' hr=>?_
 unfold Go.Ab.endV at hr
 cases r with
 |ret d' =>
  obtain ⟨m,rfl,hw⟩:=hr
  refine⟨.ret (d2 m),fun C e he=>?_,rfl⟩
  cases e with
  |returned v=>exact Gk _ _ (hd m) C v (Bl _ _ hw C v he)
  |panicked _=>exact he.elim
  |outgrown=>exact he.elim
 |pan d' =>
  obtain ⟨e',rfl,hw⟩:=hr
  refine⟨.pan (We e'),fun C e he=>?_,rfl⟩
  cases e with
  |returned v=>exact he.elim
  |panicked ch =>
   obtain ⟨v,h1,h2⟩:=he
   exact⟨v,h1,Bl _ _ hw C v h2⟩
  |outgrown=>exact he.elim
def clV(a:Arr):Prop:=(Ck a).1=0\/a=.mk 0 [] [] []
theorem BlO{k:Nat}{ds:List D}{x:Arr}{r r':Arr->List D}(hw:wkL (r x) (r' x))(h:ACalls Tryz.prog k ds ⟨[],[]⟩ (SpecR (sCl r r (fun _=>True)) x)):CD k ds (.agg (r' x)):=by
 refine CD.ofW (h.mono ?_)
 rintro r0 S' ⟨y,q1,rfl,q3⟩
 show wkD (.agg (r x)) (.agg (r' x))
 simp only[wkD]
 exact hw
theorem Bkn(a:Arr)(h:clV a):CD 73 [.agg a.row1] (.agg a.row1):=by
 rcases h with h | h
 ·exact (Bgk a h).mono fun _ _ ⟨y,q1,q2,q3⟩=>⟨y,q1,q2,q3⟩
 ·subst h
  have hc:ConOk Tryz.prog (Rv (Arr.mk 0 [] [] []).it):=by
   intro k' ds S A hk
   unfold Rv at hk
   split at hk
   ·injection hk with hk;subst hk
    exact ConOk.plain (fun (b:Arr) hb=>nomatch hb) rfl rfl
   ·cases hk
  have hm:ACalls Tryz.prog 73 [.agg (Arr.mk 0 [] [] []).row2] ⟨[],[]⟩ (SpecR (sCl Arr.row2 Arr.row2 (fun _=>True)) (.mk 0 [] [] [])):=BdK (.mk 0 [] [] []) (by simp[Arr.nu,Arr.it,Arr.sh]) hc
  exact BlO (WU _) (ACalls.wkArgs hm (by simp only[wkL,wkD];exact⟨Mz _,trivial⟩))
def Bev(va:Arr)(nm:List UInt8):Con:=fun k ds S=>match k with
 |73=>some (pA ds S (.agg va.row1) (ds=[.agg va.row1]))
 |74=>some (pA ds S (Bjs 15) (ds=[gsl 15 Nd.row1 []]))
 |75=>some (pE (β:=Frm1×Scp) ds S (fun x=>.int .i64 (ME nm x.1)) (fun x=>ds=[.pt (frR x.1 x.2),.str nm]/\x.1.length<=1000000))
 |_=>none
theorem BaU{va:Arr}(hv:clV va)(nm:List UInt8):ConOk Tryz.prog (Bev va nm):=by
 intro k ds S A hh
 unfold Bev at hh
 split at hh
 ·injection hh with hh;subst hh
  exact Bs fun e=>by subst e;exact CD.at_ (Bkn va hv) _
 ·injection hh with hh;subst hh
  exact Bs fun e=>by subst e;exact CD.at_ Blg _
 ·injection hh with hh;subst hh
  refine Cl fun x ⟨e,h⟩=>?_
  subst e
  exact CD.at_ (BeG nm x.1 _ h) _
 ·cases hh
noncomputable def Ena(sc:Scp)(va:Arr)(nm:List UInt8):Senv:={ EC (Bev va nm) 101 2 [3,4,5,6,7,8,9,22,23,24,25,38,39,49,76,83] (fun id=>match id with | 7=>([0,1,2,3,4,5,6,7],[5,7]) | 14=>([0,1,2,3,4,5,7,6,8,9,10],[6,8,10]) | 15=>([0,1,2,3,4,5,6,7,8,9,10,11],[]) | _=>([],[])) with
 unr:=fun _=>2
 inl:=inlV (Bev va nm) false sc }
def rowA(kd at_ cl:Int)(tx:List UInt8)(pr op:Int)(va:Arr)(bo:List Sm)(de sl ss:Int):List D:=[.int .i64 kd,.int .i64 at_,.int .i64 cl,.str tx,.int .i64 pr,.int .i64 op,.int .i64 va.k,isl va.sh .any,isl va.nu .any,gsl 4 Arr.row va.it,gsl 15 Nd.row1 [],gsl 34 Sm.row1 bo,.int .i64 de,.int .i64 sl,.int .i64 ss]
def QcJ(a:Arr):Nat:=LN (Arr.sh a)
def QcK(a:Arr):Nat:=LN (Arr.nu a)
def QcL(a:Arr):Nat:=LN (Arr.it a)
def QcM:Arr:=DA
def Qlp(a:Arr)(b:Nat):List D:=Arr.row (List.getD (Arr.it a) b QcM)
def QsO(a:Arr):List D:=[D.agg [ZI (Arr.k a),D.sl N1 (QcJ a) (fun i=>[ZI (GI (Arr.sh a) i)]) Mode.any,D.sl N1 (QcK a) (fun i=>[ZI (GI (Arr.nu a) i)]) Mode.any,D.sl N4 (QcL a) (fun i=>Qlp a i) Mode.any]]
def Hw:Nd:=Nd.mk Z0 Z0 Z0 [] Z0 Z0 QcM [] [] Z0 Z0 Z0
def QsP:List D:=[D.sl 15 N0 (fun _i=>Nd.row1 Hw) Mode.any]
def Qlq(a:Frm1)(b:Scp):D:=D.pt [D.sl N1 (LN (nmF a)) (fun i=>[D.str (List.getD (nmF a) i [])]) Mode.any,SI (clF a),frD b]
def Qlr(a:Frm1)(b:Scp):Prop:=Qlq a b=frD (a::b)
def Qls:Prop:=SM N0/\(∀(i:Nat),i<N0->Cw (List D) [] [])/\True
def QcN(a b:Int)(c d:List UInt8):Prop:=a=b/\Qls/\Qls/\c=d/\True
def Qlt(a:Frm1)(b:Scp)(c:List UInt8):List D:=[Qlq a b,D.str c]
def Hx(a:List UInt8)(b:Frm1):Int:=ME a b
def Hy(a:Nd):Arr:=Nd.va a
def QcO(a:Arr)(b:Nd):Prop:=Arr.k a=Arr.k (Hy b)
def Qlu(a:Nd):List Int:=Arr.sh (Hy a)
def QcP(a:Arr)(b:Nd):Prop:=QcJ a=LN (Qlu b)/\(∀(i:Nat),i<QcJ a->[ZI (GI (Arr.sh a) i)]=[ZI (GI (Qlu b) i)])/\True
def Qlv(a:Nd):List Int:=Arr.nu (Hy a)
def QcQ(a:Arr)(b:Nd):Prop:=QcK a=LN (Qlv b)/\(∀(i:Nat),i<QcK a->[ZI (GI (Arr.nu a) i)]=[ZI (GI (Qlv b) i)])/\True
def Qlw(a:Nd):List Arr:=Arr.it (Hy a)
def QcR(a:Arr)(b:Nd):Prop:=QcL a=LN (Qlw b)/\(∀(i:Nat),i<QcL a->Qlp a i=Arr.row (List.getD (Qlw b) i QcM))/\True
def QcS(a:Nd):Prop:=N0=LN (Nd.ki a)/\(∀(i:Nat),i<N0->Cw (List D) [] (Nd.row1 (List.getD (Nd.ki a) i Hw)))/\True
def Qlx:Sm:=Sm.mk Z0 Z0 [] Z0 Hw Hw
def Qly(a:List Sm)(b:Nat):List D:=Sm.row1 (List.getD a b Qlx)
def QcT(a:List Sm)(b:Nd):Prop:=LN a=LN (Nd.bo b)/\(∀(i:Nat),i<LN a->Qly a i=Sm.row1 (List.getD (Nd.bo b) i Qlx))/\True
def Qlz(a:List Sm):D:=D.sl 34 (LN a) (fun i=>Qly a i) Mode.any
theorem Bi7(f0 : Frm1)(r0 : Scp)(kd at_ cl : Int)(tx : List UInt8)(pr op : Int)(va : Arr)(bo : List Sm)(de sl ss : Int)(hv : clV va)(hs : WD (f0::r0))(hb : kd=10 -> VBd (f0::r0) bo)(X : Except Flt Nd)(hX : X=rvN (f0::r0) (.mk kd at_ cl tx pr op va [] bo de sl ss)) :
  ACalls Tryz.prog 44 [.pt (frR f0 r0),.agg (rowA kd at_ cl tx pr op va bo de sl ss)] ⟨[],[]⟩ (Go.Ab.endV (fun m=>.agg (Nd.row2 m)) X):=by
 refine CK (E:=Ena (f0::r0) va tx) (WI (BaU hv tx) (T4 (BaU hv tx) false _) rfl) Tryz.func44 rfl (by kernel_rfl) rfl (by simp[Ena,EC,E0]) ?_
 refine Bj (T :=
  ∀(x:Nat),True->∀(x_1:Nat),x≠x_1/\True->SM x/\SM x/\SM x/\SM x/\∃(x_2:Unit),SM (QsO va)/\∀(y:Unit),True->SM x/\SM x/\∃(x_3:Unit),SM QsP/\∀(y:Unit),True->SM x/\SM x/\SM x/\ifB (kd==2) (SM x/\(Qlr f0 r0/\WD (f0::r0))/\(Bp tx (f0::r0)=none->SM x/\SM x/\∃(e':Flt),X=Except.error e'/\SM (30:Nat)/\(28:Int)=Prod.fst e'/\QcN at_ (Prod.fst (Prod.snd e')) tx (Prod.snd (Prod.snd e')))/\∀(d i:Nat) (c:Int) (f:Frm1) (r:Scp),Bp tx (f0::r0)=some (d,i,c)/\List.drop d (f0::r0)=f::r/\B3 tx f=some (i,c)->SM x/\∃(x_4:Frm1×Scp),(Qlt f r tx=Qlt x_4.1 x_4.2 tx/\LN x_4.1<=1000000)/\∀(y:Unit),True->SM x/\SM x/\SM x/\Bd (Z0<=Hx tx x_4.1/\Hx tx x_4.1<(LI (clF f))) (SM x/\ifB (GI (clF f) (Int.toNat (Hx tx x_4.1)) != cl) (SM x/\SM x/\∃(e':Flt),X=Except.error e'/\SM (30:Nat)/\(11:Int)=Prod.fst e'/\QcN at_ (Prod.fst (Prod.snd e')) tx (Prod.snd (Prod.snd e'))) (SM x/\SM x_1/\(SM x_1/\True)/\∃(m:Nd),X=Except.ok m/\kd=Nd.kd m/\at_=Nd.at_ m/\cl=Nd.cl m/\tx=Nd.tx m/\pr=Nd.pr m/\op=Nd.op m/\QcO va m/\QcP va m/\QcQ va m/\QcR va m/\QcS m/\QcT bo m/\(↑d:Int)=Nd.de m/\Hx tx x_4.1=Nd.sl m/\Z0=Nd.ss m/\True))) (ifB (kd==10) (∀(x_4:Nat),x_1≠x_4/\x≠x_4/\True->SM x/\∃(bo_1:List Sm),(SM x_4/\Qlr f0 r0/\Qlz bo=Qlz bo_1/\VBd (f0::r0) bo_1)/\(∀(z:List Sm×Frm1),rvB (f0::r0) [] bo_1=Except.ok z->SM x/\SM x_4/\SM x/\SM x/\SM x_1/\(SM x_1/\True)/\∃(m:Nd),X=Except.ok m/\kd=Nd.kd m/\at_=Nd.at_ m/\cl=Nd.cl m/\tx=Nd.tx m/\pr=Nd.pr m/\op=Nd.op m/\QcO va m/\QcP va m/\QcQ va m/\QcR va m/\QcS m/\QcT z.1 m/\Z0=Nd.de m/\Z0=Nd.sl m/\(LI (nmF z.2))=Nd.ss m/\True)/\∀(e:Flt),rvB (f0::r0) [] bo_1=Except.error e->∀(o:AObj),∃(e':Flt),X=Except.error e'/\SM (30:Nat)/\e.1=Prod.fst e'/\QcN e.2.1 (Prod.fst (Prod.snd e')) e.2.2 (Prod.snd (Prod.snd e'))) (SM x/\SM x_1/\(SM x_1/\True)/\∃(m:Nd),X=Except.ok m/\kd=Nd.kd m/\at_=Nd.at_ m/\cl=Nd.cl m/\tx=Nd.tx m/\pr=Nd.pr m/\op=Nd.op m/\QcO va m/\QcP va m/\QcQ va m/\QcR va m/\QcS m/\QcT bo m/\Z0=Nd.de m/\Z0=Nd.sl m/\Z0=Nd.ss m/\True))) (by kernel_rfl) ?_
 delta DA GI LI LN N0 N1 N4 SI SM Z0 ZI QcJ QcK Qls QcN Qlt Hx Hy QcO Qlu QcP Qlv QcQ QcL Qlw QcR QcS Qlx Qly QcT Qlz QcM Qlp QsO Hw QsP Qlq Qlr
 simp only[eq_self,implies_true,Bh,Bf,true_and,and_true,beq_iff_eq,bne_iff_ne,bne_eq_false_iff_eq,beq_eq_false_iff_ne,ne_eq,exists_const,forall_const]
 rw[rvN] at hX
 simp only[rvL] at hX
 intro _ _ _
 refine⟨fun h2=>⟨⟨rfl,hs⟩,fun hn=>?_,fun d i c f r ⟨q1,q2,q3⟩=>?_⟩,fun h2=>⟨fun h10 _ _=>?_,fun h10=>?_⟩⟩
 ·rw[if_pos h2,hn] at hX
  exact⟨_,hX,rfl,rfl,rfl⟩
 ·have hm:f∈f0::r0:=List.mem_of_mem_drop (i:=d) (by rw[q2];simp)
  obtain ⟨l1,l2,l3⟩:=Bfl (hs.1 f hm).2 q3
  have lc:(clF f).length=f.length:=by simp[clF]
  rw[if_pos h2,q1] at hX
  refine⟨(f,r),⟨rfl,(hs.1 f hm).1⟩,⟨by simp only[l1];omega,by simp only[l1];omega⟩,?_⟩
  simp only[l1,Int.toNat_natCast,l3]
  refine⟨fun hc=>?_,fun hc=>?_⟩
  ·simp only[if_neg hc] at hX
   exact⟨_,hX,rfl,rfl,rfl⟩
  ·simp only[if_pos hc] at hX
   exact⟨_,hX,rfl,rfl,rfl,rfl,rfl,rfl,rfl,⟨rfl,fun _ _=>rfl⟩,⟨rfl,fun _ _=>rfl⟩,⟨rfl,fun _ _=>rfl⟩,⟨rfl,fun _ h=>absurd h (Nat.not_lt_zero _)⟩,⟨rfl,fun _ _=>rfl⟩,rfl,rfl,rfl⟩
 ·rw[if_neg h2,if_pos h10] at hX
  refine⟨bo,⟨rfl,rfl,hb h10⟩,fun z hz=>?_,fun e he _=>?_⟩
  ·rw[hz] at hX
   exact⟨_,hX,rfl,rfl,rfl,rfl,rfl,rfl,rfl,⟨rfl,fun _ _=>rfl⟩,⟨rfl,fun _ _=>rfl⟩,⟨rfl,fun _ _=>rfl⟩,⟨rfl,fun _ h=>absurd h (Nat.not_lt_zero _)⟩,⟨rfl,fun _ _=>rfl⟩,rfl,rfl,by simp[nmF,Nd.ss]⟩
  ·rw[he] at hX
   exact⟨_,hX,rfl,rfl,rfl⟩
 ·rw[if_neg h2,if_neg h10] at hX
  exact⟨_,hX,rfl,rfl,rfl,rfl,rfl,rfl,rfl,⟨rfl,fun _ _=>rfl⟩,⟨rfl,fun _ _=>rfl⟩,⟨rfl,fun _ _=>rfl⟩,⟨rfl,fun _ h=>absurd h (Nat.not_lt_zero _)⟩,⟨rfl,fun _ _=>rfl⟩,rfl,rfl,rfl⟩
theorem BlI(f0:Frm1)(r0:Scp)(n:Nd)(hk:n.ki=[])(hv:clV n.va)(hs:WD (f0::r0))(hb:n.kd=10->VBd (f0::r0) n.bo):VNd (f0::r0) n:=by
 cases n with
 |mk kd at_ cl tx pr op va ki bo de sl ss =>
  obtain rfl:ki=[]:=hk
  exact Bgr (d:=fun m=>.agg (Nd.row2 m)) (fun m=>by simp only[wkD];exact BaF m) (Bi7 f0 r0 kd at_ cl tx pr op va bo de sl ss hv hs hb _ rfl)
def BeO{α:Type}(p:List α)(x:Except Flt (List α)):Except Flt (List α):=match x with
 |.ok l=>.ok (p++l)
 |.error e=>.error e
structure KI (sc:Scp) (ki cur:List Nd) (i:Nat):Prop where
 len:cur.length=ki.length
 le:i<=ki.length
 rest:cur.drop i=ki.drop i
 tot:rvL sc ki=BeO (cur.take i) (rvL sc (ki.drop i))
theorem KI.zero(sc:Scp)(ki:List Nd):KI sc ki ki 0:=⟨rfl,Nat.zero_le _,rfl,by
 rw[List.drop_zero,List.take_zero]
 cases rvL sc ki<;>rfl⟩
theorem KI.at_{sc:Scp}{ki cur:List Nd}{i:Nat}(h:KI sc ki cur i)(hi:i<ki.length):cur.getD i default=ki.getD i default:=by
 have:=h.rest
 rw[Bt hi,Bt (by rw[h.len];exact hi)] at this
 exact (List.cons.inj this).1
theorem KI.err{sc:Scp}{ki cur:List Nd}{i:Nat}(h:KI sc ki cur i)(hi:i<ki.length){e:Flt}(he:rvN sc (cur.getD i default)=.error e):rvL sc ki=.error e:=by
 rw[h.tot,Bt hi,rvL,<- h.at_ hi,he]
 rfl
theorem take_set{α:Type}[Inhabited α]{l:List α}{i:Nat}(hi:i<l.length)(m:α):(l.set i m).take (i+1)=l.take i++[m]:=by
 rw[CE (by simpa using hi),List.take_set]
 have h1:(l.take i).set i m=l.take i:=List.set_eq_of_length_le (by rw[List.length_take];omega)
 rw[h1]
 simp[List.getD_eq_getElem?_getD,hi]
theorem KI.ok{sc:Scp}{ki cur:List Nd}{i:Nat}(h:KI sc ki cur i)(hi:i<ki.length){m:Nd}(he:rvN sc (cur.getD i default)=.ok m):KI sc ki (cur.set i m) (i+1):=by
 have hc:i<cur.length:=by rw[h.len];exact hi
 refine⟨by rw[List.length_set];exact h.len,hi,?_,?_⟩
 ·rw[List.drop_set_of_lt (Nat.lt_succ_self i)]
  have:=h.rest
  rw[Bt hi,Bt hc] at this
  exact (List.cons.inj this).2
 ·rw[h.tot,Bt hi,rvL,<- h.at_ hi,he,take_set hc]
  cases rvL sc (ki.drop (i+1)) with
  |ok l=>simp[BeO]
  |error e=>rfl
theorem KI.done{sc:Scp}{ki cur:List Nd}{i:Nat}(h:KI sc ki cur i)(hi:¬i<ki.length):rvL sc ki=.ok cur:=by
 have:i=ki.length:=by have:=h.le;omega
 rw[h.tot,this,List.drop_length,rvL,<- h.len,List.take_length]
 simp[BeO]
def _root_.Go.Ab.vcap(os:List (Nat×Nat×AObj))(k:Nat):Nat:=match BG os k with
 |some (_,.vec _ _ c _)=>c
 |_=>0
def BdP(va:Arr)(ki:List Nd):Con:=fun k ds S=>match k with
 |73=>some (pA ds S (.agg va.row1) (ds=[.agg va.row1]))
 |74=>some ((GH 15 Nd.row1 (B0 S.objs) ki).fits () (ds=[gsl 15 Nd.row1 ki]))
 |_=>none
theorem Bbb{va:Arr}(hv:clV va)(ki:List Nd):ConOk Tryz.prog (BdP va ki):=by
 intro k ds S A hh
 unfold BdP at hh
 split at hh
 ·injection hh with hh;subst hh
  exact Bs fun e=>by subst e;exact CD.at_ (Bkn va hv) _
 ·injection hh with hh;subst hh
  exact FnSpec.fits_ok (fun _ hy=>BeH _ (Blr ki hy)) fun e=>by subst e;exact⟨Bm _,Bap S⟩
 ·cases hh
noncomputable def Enb(sc:Scp)(va:Arr)(ki:List Nd):Senv:={ EC (BdP va ki) 101 2 [3,4,5,6,7,8,9,22,23,24,25,38,39,49,76,83] (fun id=>match id with | 7=>([0,1,2,3,4,5,6,7],[5,7]) | 14=>([0,1,2,3,4,5,7,6,8,9,10],[6,8,10]) | 15=>([0,1,2,3,4,5,6,7,8,9,10,11],[]) | _=>([],[])) with
 inl:=inlV (BdP va ki) false sc
 gz:=fun r=>match r with
  |9=>[.cell 0 10]
  |_=>[]
 ann:=fun b _env S=>match b with
  |0=>some { slots:=[24],keep:=[0,3,4,22,23],α:=Nat×List Nd,st:=fun y=>([.int .i64 (y.1:Nat)],⟨C5 S.objs 2 (.vec 15 ki.length (vcap S.objs 2) (fun j=>(y.2.getD j default).row1)),S.toks⟩),inv:=fun y=>KI sc ki y.2 y.1,mu:=fun y=>ki.length-y.1 }
  |_=>none }
def Hz(a:Arr):Int:=Arr.k a
def VA(a:Arr):Nat:=LN (Arr.sh a)
def HA(a:Arr)(b:Nat):List D:=[ZI (GI (Arr.sh a) b)]
def VB(a:Arr):Nat:=LN (Arr.nu a)
def HB(a:Arr)(b:Nat):List D:=[ZI (GI (Arr.nu a) b)]
def VC(a:Arr):Nat:=LN (Arr.it a)
def Xi:Arr:=DA
def HC(a:Arr)(b:Nat):List D:=Arr.row (List.getD (Arr.it a) b Xi)
def QsQ(a:Arr):List D:=[D.agg [ZI (Hz a),D.sl N1 (VA a) (fun i=>HA a i) Mode.any,D.sl N1 (VB a) (fun i=>HB a i) Mode.any,D.sl N4 (VC a) (fun i=>HC a i) Mode.any]]
def Vi:Nd:=Nd.mk Z0 Z0 Z0 [] Z0 Z0 Xi [] [] Z0 Z0 Z0
def KS(a:List Nd)(b:Nat):Nd:=List.getD a b Vi
def HD(a:List Nd)(b:Nat):Arr:=Nd.va (KS a b)
def QsR(a:List Nd)(b:Nat):List Int:=Arr.sh (HD a b)
def QsS(a:List Nd)(b:Nat):List Int:=Arr.nu (HD a b)
def QlA(a:List Nd)(b:Nat):List Arr:=Arr.it (HD a b)
def QlB(a:List Nd)(b:Nat):List Nd:=Nd.ki (KS a b)
def QlC(a:List Nd)(b:Nat):List Sm:=Nd.bo (KS a b)
def Yq:Sm:=Sm.mk Z0 Z0 [] Z0 Vi Vi
def VD(a:List Nd)(b:Nat):List D:=[ZI (Nd.kd (KS a b)),ZI (Nd.at_ (KS a b)),ZI (Nd.cl (KS a b)),D.str (Nd.tx (KS a b)),ZI (Nd.pr (KS a b)),ZI (Nd.op (KS a b)),ZI (Arr.k (HD a b)),SI (QsR a b),SI (QsS a b),D.sl N4 (LN (QlA a b)) (fun i=>Arr.row (List.getD (QlA a b) i Xi)) Mode.any,D.sl 15 (LN (QlB a b)) (fun i=>Nd.row (List.getD (QlB a b) i Vi)) Mode.any,D.sl 34 (LN (QlC a b)) (fun i=>Sm.row (List.getD (QlC a b) i Yq)) Mode.any,ZI (Nd.de (KS a b)),ZI (Nd.sl (KS a b)),ZI (Nd.ss (KS a b))]
def QsT(a:List Nd):List D:=[D.sl 15 (LN a) (fun i=>VD a i) Mode.any]
def KT:Prop:=SM N0/\(∀(i:Nat),i<N0->Cw (List D) [] [])/\True
def HE:Prop:=SM Z0/\SM Z0/\SM Z0/\True
def HF(a:List Sm)(b:Nat):List D:=Sm.row1 (List.getD a b Yq)
def QlD(a:Frm1)(b:Scp):D:=D.pt [D.sl N1 (LN (nmF a)) (fun i=>[D.str (List.getD (nmF a) i [])]) Mode.any,SI (clF a),frD b]
def QcU(a:Frm1)(b:Scp):Prop:=QlD a b=frD (a::b)
def KU(a:List Nd)(b:Nat):Nd:=List.getD a (Int.toNat (↑b:Int)) Vi
def HG(a:List Nd)(b:Nat):Arr:=Nd.va (KU a b)
def QsU(a:List Nd)(b:Nat):List Int:=Arr.sh (HG a b)
def QsV(a:List Nd)(b:Nat):List Int:=Arr.nu (HG a b)
def QlE(a:List Nd)(b:Nat):List Arr:=Arr.it (HG a b)
def QlF(a:List Nd)(b:Nat):List Nd:=Nd.ki (KU a b)
def QlG(a:List Nd)(b:Nat):List Sm:=Nd.bo (KU a b)
def HH(a:Nd):Arr:=Nd.va a
def QlH(a:Nd):Int:=Arr.k (HH a)
def QlI(a:Nd):List Int:=Arr.sh (HH a)
def QlJ(a:Nd):Nat:=LN (QlI a)
def QlK(a:Nd)(b:Nat):List D:=[ZI (GI (QlI a) b)]
def QlL(a:Nd):List Int:=Arr.nu (HH a)
def QlM(a:Nd):Nat:=LN (QlL a)
def QlN(a:Nd)(b:Nat):List D:=[ZI (GI (QlL a) b)]
def QlO(a:Nd):List Arr:=Arr.it (HH a)
def QlP(a:Nd):Nat:=LN (QlO a)
def QlQ(a:Nd)(b:Nat):List D:=Arr.row (List.getD (QlO a) b Xi)
def Q7(a:Nd)(b:Nat):Nd:=List.getD (Nd.ki a) b Vi
def QlR(a:Nd)(b:Nat):Sm:=List.getD (Nd.bo a) b Yq
def QlS(a:Nd):List D:=[ZI (Nd.kd a),ZI (Nd.at_ a),ZI (Nd.cl a),D.str (Nd.tx a),ZI (Nd.pr a),ZI (Nd.op a),ZI (QlH a),D.sl N1 (QlJ a) (fun i=>QlK a i) Mode.any,D.sl N1 (QlM a) (fun i=>QlN a i) Mode.any,D.sl N4 (QlP a) (fun i=>QlQ a i) Mode.any,D.sl 15 (LN (Nd.ki a)) (fun i=>Nd.row (Q7 a i)) Mode.any,D.sl 34 (LN (Nd.bo a)) (fun i=>Sm.row (QlR a i)) Mode.any,ZI (Nd.de a),ZI (Nd.sl a),ZI (Nd.ss a)]
def QlT(a:Nat)(b:List Nd)(c:Nat):Prop:=SM (D.vs (max N2 (max (N0+N1) N0)) a (LN b) c (15:Nat))
def QlU(a b:Int)(c d:List UInt8):Prop:=a=b/\KT/\KT/\c=d/\True
def QlV(a:Except Flt Nd)(b c:Int)(d:List UInt8):Prop:=∃(e':Flt),a=Except.error e'/\SM (30:Nat)/\b=Prod.fst e'/\QlU c (Prod.fst (Prod.snd e')) d (Prod.snd (Prod.snd e'))
def QlW(a:List Sm):D:=D.sl 34 (LN a) (fun i=>HF a i) Mode.any
def QlX(a:Arr)(b:Nd):Prop:=Hz a=QlH b
def QlY(a:Arr)(b:Nd):Prop:=VA a=QlJ b/\(∀(i:Nat),i<VA a->HA a i=QlK b i)/\True
def QlZ(a:Arr)(b:Nd):Prop:=VB a=QlM b/\(∀(i:Nat),i<VB a->HB a i=QlN b i)/\True
def Ql0(a:Arr)(b:Nd):Prop:=VC a=QlP b/\(∀(i:Nat),i<VC a->HC a i=QlQ b i)/\True
def HI(a:Nd)(b:Nat):Arr:=Nd.va (Q7 a b)
def QsW(a:Nd)(b:Nat):List Int:=Arr.sh (HI a b)
def QsX(a:Nd)(b:Nat):List Int:=Arr.nu (HI a b)
def Ql1(a:Nd)(b:Nat):List Arr:=Arr.it (HI a b)
def Ql2(a:Nd)(b:Nat):List Nd:=Nd.ki (Q7 a b)
def Ql3(a:Nd)(b:Nat):List Sm:=Nd.bo (Q7 a b)
def Ql4(a:List Nd)(b:Nd)(c:List Nd):Prop:=LN a=LN (Nd.ki b)/\(∀(i:Nat),i<LN a->VD c i=[ZI (Nd.kd (Q7 b i)),ZI (Nd.at_ (Q7 b i)),ZI (Nd.cl (Q7 b i)),D.str (Nd.tx (Q7 b i)),ZI (Nd.pr (Q7 b i)),ZI (Nd.op (Q7 b i)),ZI (Arr.k (HI b i)),SI (QsW b i),SI (QsX b i),D.sl N4 (LN (Ql1 b i)) (fun i_1=>Arr.row (List.getD (Ql1 b i) i_1 Xi)) Mode.any,D.sl 15 (LN (Ql2 b i)) (fun i_1=>Nd.row (List.getD (Ql2 b i) i_1 Vi)) Mode.any,D.sl 34 (LN (Ql3 b i)) (fun i_1=>Sm.row (List.getD (Ql3 b i) i_1 Yq)) Mode.any,ZI (Nd.de (Q7 b i)),ZI (Nd.sl (Q7 b i)),ZI (Nd.ss (Q7 b i))])/\True
def Ql5(a:List Sm)(b:Nd):Prop:=LN a=LN (Nd.bo b)/\(∀(i:Nat),i<LN a->HF a i=Sm.row1 (QlR b i))/\True
theorem BiU(f0 : Frm1)(r0 : Scp)(kd at_ cl : Int)(tx : List UInt8)(pr op : Int)(va : Arr)(ki : List Nd)(bo : List Sm)(de sl ss : Int)(hv : clV va)(hki : ki≠[] /\ ki.length<=1000000)(h2 : kd≠2)(h10 : kd≠10)(hn : ∀b∈ki, VNd (f0::r0) b)(X : Except Flt Nd)(hX : X=rvN (f0::r0) (.mk kd at_ cl tx pr op va ki bo de sl ss)) :
  ACalls Tryz.prog 44 [.pt (frR f0 r0),.agg [.int .i64 kd,.int .i64 at_,.int .i64 cl,.str tx,.int .i64 pr,.int .i64 op,.int .i64 va.k,isl va.sh .any,isl va.nu .any,gsl 4 Arr.row va.it,gsl 15 Nd.row1 ki,gsl 34 Sm.row1 bo,.int .i64 de,.int .i64 sl,.int .i64 ss]] ⟨[],[]⟩ (Go.Ab.endV (fun m=>.agg (Nd.row2 m)) X):=by
 refine CK (E:=Enb (f0::r0) va ki) (WI (Bbb hv ki) (T4 (Bbb hv ki) false _) rfl) Tryz.func44 rfl (by kernel_rfl) rfl (by simp[Enb,EC,E0]) ?_
 refine Bj (T :=
  ∀(x:Nat),True->∀(x_1:Nat),x≠x_1/\True->SM x/\SM x/\SM x/\SM x/\∃(x_2:Unit),SM (QsQ va)/\∀(y:Unit),True->SM x/\SM x/\(SM (QsT ki)/\ki≠[]/\LN ki<=1000000)/\∀(y:Nat×Nat),LN ki<=y.2->SM x/\SM x/\(∃(x_3:Nat×List Nd),KI (f0::r0) ki x_3.2 x_3.1/\(Z0=(NI x_3.1)/\True)/\(SM y.1/\(SM (LN ki)/\SM y.2/\∀(i:Nat),i<LN ki->VD ki i=VD x_3.2 i)/\SM x_1/\(SM Z0/\SM Z0/\SM Z0/\Cw (List UInt8) [] []/\SM Z0/\SM Z0/\SM Z0/\KT/\KT/\KT/\KT/\KT/\HE)/\SM x/\(SM kd/\SM at_/\SM cl/\SM tx/\SM pr/\SM op/\SM (Hz va)/\(SM (VA va)/\(∀(i:Nat),i<VA va->SM (HA va i))/\True)/\(SM (VB va)/\(∀(i:Nat),i<VB va->SM (HB va i))/\True)/\(SM (VC va)/\(∀(i:Nat),i<VC va->SM (HC va i))/\True)/\(SM y.1/\SM (LN ki)/\SM y.2)/\(SM (LN bo)/\(∀(i:Nat),i<LN bo->SM (HF bo i))/\True)/\HE)/\True)/\True)/\∀(x_3:Nat×List Nd),KI (f0::r0) ki x_3.2 x_3.1->ifB (decide ((NI x_3.1)<(LI ki))) (Bd (Z0<=(NI x_3.1)/\(NI x_3.1)<(LI ki)) (SM y.1/\Bd (TN x_3.1<LN ki) (∀(x_4:Nat),y.1≠x_4/\x_1≠x_4/\x≠x_4/\True->SM x_4/\SM x/\SM x_4/\∃(b:Nd),(QcU f0 r0/\D.agg [ZI (Nd.kd (KU x_3.2 x_3.1)),ZI (Nd.at_ (KU x_3.2 x_3.1)),ZI (Nd.cl (KU x_3.2 x_3.1)),D.str (Nd.tx (KU x_3.2 x_3.1)),ZI (Nd.pr (KU x_3.2 x_3.1)),ZI (Nd.op (KU x_3.2 x_3.1)),ZI (Arr.k (HG x_3.2 x_3.1)),SI (QsU x_3.2 x_3.1),SI (QsV x_3.2 x_3.1),D.sl N4 (LN (QlE x_3.2 x_3.1)) (fun i=>Arr.row (List.getD (QlE x_3.2 x_3.1) i Xi)) Mode.any,D.sl 15 (LN (QlF x_3.2 x_3.1)) (fun i=>Nd.row (List.getD (QlF x_3.2 x_3.1) i Vi)) Mode.any,D.sl 34 (LN (QlG x_3.2 x_3.1)) (fun i=>Sm.row (List.getD (QlG x_3.2 x_3.1) i Yq)) Mode.any,ZI (Nd.de (KU x_3.2 x_3.1)),ZI (Nd.sl (KU x_3.2 x_3.1)),ZI (Nd.ss (KU x_3.2 x_3.1))]=D.agg (QlS b)/\VNd (f0::r0) b)/\(∀(m:Nd),rvN (f0::r0) b=Except.ok m->(SM x/\QlT y.1 ki y.2)/\Bd (Z0<=(NI x_3.1)/\(NI x_3.1)<(LI ki)) (SM y.1/\Bd (TN x_3.1<LN ki) ((SM (QlD f0 r0)/\SM (D.ref N0 x N0)/\SM (D.ref (max (N0+N1) N0) x_1 N0)/\QlT y.1 ki y.2/\SM (ZI (LI ki))/\True)/\∃(y_1:Nat×List Nd),KI (f0::r0) ki y_1.2 y_1.1/\LN ki-y_1.1<LN ki-x_3.1/\(IntKind.wrap IntKind.i64 ((NI x_3.1)+Z1)=(NI y_1.1)/\True)/\(SM y.1/\(SM (LN ki)/\SM y.2/\∀(i:Nat),i<LN ki->ET (fun j=>VD x_3.2 j) (TN x_3.1) (QlS m) i=VD y_1.2 i)/\SM x_1/\(SM Z0/\SM Z0/\SM Z0/\Cw (List UInt8) [] []/\SM Z0/\SM Z0/\SM Z0/\KT/\KT/\KT/\KT/\KT/\HE)/\SM x/\(SM kd/\SM at_/\SM cl/\SM tx/\SM pr/\SM op/\SM (Hz va)/\(SM (VA va)/\(∀(i:Nat),i<VA va->SM (HA va i))/\True)/\(SM (VB va)/\(∀(i:Nat),i<VB va->SM (HB va i))/\True)/\(SM (VC va)/\(∀(i:Nat),i<VC va->SM (HC va i))/\True)/\(SM y.1/\SM (LN ki)/\SM y.2)/\(SM (LN bo)/\(∀(i:Nat),i<LN bo->SM (HF bo i))/\True)/\HE)/\True)/\True)))/\∀(e:Flt),rvN (f0::r0) b=Except.error e->QlV X e.1 e.2.1 e.2.2))) (SM y.1/\SM y.2/\Bd (LN ki<=LN ki) ((∀(i:Nat),i<LN ki->List.all (VD x_3.2 i) B2=true)/\∀(t:Nat),SM x/\ifB (kd==2) (SM x/\(QcU f0 r0/\WD (f0::r0))/\(Bp tx (f0::r0)=none->SM x/\SM x/\∃(e':Flt),X=Except.error e'/\SM (30:Nat)/\(28:Int)=Prod.fst e'/\QlU at_ (Prod.fst (Prod.snd e')) tx (Prod.snd (Prod.snd e')))/\∀(d i:Nat) (c:Int) (f:Frm1) (r:Scp),Bp tx (f0::r0)=some (d,i,c)/\List.drop d (f0::r0)=f::r/\B3 tx f=some (i,c)->SM x/\∀(x_4:Nat),x_1≠x_4/\x≠x_4/\True->∀(x_5:Nat),x_4≠x_5/\x_1≠x_5/\x≠x_5/\True->∀(x_6:Nat),x_5≠x_6/\x_4≠x_6/\x_1≠x_6/\x≠x_6/\True->True/\False) (ifB (kd==10) (∀(x_4:Nat),x_1≠x_4/\x≠x_4/\True->SM x/\∃(bo_1:List Sm),(SM x_4/\QcU f0 r0/\QlW bo=QlW bo_1/\VBd (f0::r0) bo_1)/\(∀(z:List Sm×Frm1),rvB (f0::r0) [] bo_1=Except.ok z->SM x/\SM x_4/\SM x/\SM x/\SM x_1/\(SM x_1/\True)/\∃(m:Nd),X=Except.ok m/\kd=Nd.kd m/\at_=Nd.at_ m/\cl=Nd.cl m/\tx=Nd.tx m/\pr=Nd.pr m/\op=Nd.op m/\QlX va m/\QlY va m/\QlZ va m/\Ql0 va m/\Ql4 ki m x_3.2/\Ql5 z.1 m/\Z0=Nd.de m/\Z0=Nd.sl m/\(LI (nmF z.2))=Nd.ss m/\True)/\∀(e:Flt),rvB (f0::r0) [] bo_1=Except.error e->∀(o:AObj),QlV X e.1 e.2.1 e.2.2) (SM x/\SM x_1/\(SM x_1/\True)/\∃(m:Nd),X=Except.ok m/\kd=Nd.kd m/\at_=Nd.at_ m/\cl=Nd.cl m/\tx=Nd.tx m/\pr=Nd.pr m/\op=Nd.op m/\QlX va m/\QlY va m/\QlZ va m/\Ql0 va m/\Ql4 ki m x_3.2/\Ql5 bo m/\Z0=Nd.de m/\Z0=Nd.sl m/\Z0=Nd.ss m/\True))))) (by kernel_rfl) ?_
 delta DA GI LI LN N0 N1 N2 N4 NI SI SM TN Z0 Z1 ZI Hz VA KS HD QsR QsS QlA QlB QlC Yq VD QsT HA KT HE HF QlD QcU KU HG QsU QsV QlE VB QlF QlG HH QlH QlI QlJ QlK QlL QlM QlN HB QlO QlP QlQ Q7 QlR QlS QlT QlU QlV QlW VC QlX QlY QlZ Ql0 HI QsW QsX Ql1 Ql2 Ql3 Xi Ql4 Ql5 HC QsQ Vi
 try simp only[<- dm]
 try simp only[<- dn]
 simp only[ne_eq,implies_true,Int.toNat_natCast,Bh,Bf,decide_eq_true_eq,decide_eq_false_iff_not,true_and,and_true,beq_iff_eq,beq_eq_false_iff_ne,exists_const,forall_const,Prod.exists]
 rw[rvN] at hX
 intro _ _ _
 refine⟨hki,fun y hy=>⟨⟨0,ki,KI.zero _ _,rfl,fun _ _=>rfl⟩,?_⟩⟩
 rintro ⟨i,cur⟩ hI
 simp only at hI
 refine⟨fun hlt=>?_,fun hge=>?_⟩
 ·have hlt':i<ki.length:=by simpa using hlt
  refine⟨⟨Int.natCast_nonneg _,hlt⟩,hlt',fun _ _=>⟨cur.getD i default,⟨rfl,rfl,by rw[hI.at_ hlt'];exact hn _ (GJ hlt')⟩,fun m hm=>⟨⟨Int.natCast_nonneg _,hlt⟩,hlt',i+1,cur.set i m,hI.ok hlt' hm,by omega,by simp only;rw[Be (by omega) (by omega)];rfl,fun j hj=>?_⟩,fun e he=>?_⟩⟩
  ·show ET (fun j=>Nd.row1 (cur.getD j default)) i (Nd.row1 m) j=Nd.row1 ((cur.set i m).getD j default)
   have hc:i<cur.length:=by rw[hI.len];exact hlt'
   simp only[ET]
   by_cases e:j=i
   ·rw[if_pos e,e]
    simp[List.getD_eq_getElem?_getD,hc]
   ·rw[if_neg e]
    simp[List.getD_eq_getElem?_getD,List.getElem?_set_ne (Ne.symm e)]
  ·rw[hI.err hlt' he] at hX
   exact⟨_,_,_,hX,rfl,rfl,rfl⟩
 ·have hd:=hI.done (i:=i) (by simpa using hge)
  rw[hd] at hX
  simp only[if_neg h2,if_neg h10] at hX
  refine⟨Nat.le_refl _,fun j hj=>rfl,⟨fun e=>absurd e h2,fun _=>⟨fun e=>absurd e h10,fun _=>⟨_,hX,rfl,rfl,rfl,rfl,rfl,rfl,rfl,⟨rfl,fun _ _=>rfl⟩,⟨rfl,fun _ _=>rfl⟩,⟨rfl,fun _ _=>rfl⟩,⟨hI.len.symm,fun _ _=>rfl⟩,⟨rfl,fun _ _=>rfl⟩,rfl,rfl,rfl⟩⟩⟩⟩
theorem BlL(f0:Frm1)(r0:Scp)(n:Nd)(hk:n.ki≠[]/\n.ki.length<=1000000)(hv:clV n.va)(h2:n.kd≠2)(h10:n.kd≠10)(hn:∀b∈n.ki,VNd (f0::r0) b):VNd (f0::r0) n:=by
 cases n with
 |mk kd at_ cl tx pr op va ki bo de sl ss =>
  exact Bgr (d:=fun m=>.agg (Nd.row2 m)) (fun m=>by simp only[wkD];exact BaF m) (BiU f0 r0 kd at_ cl tx pr op va ki bo de sl ss hv hk h2 h10 hn _ rfl)
def BfS(p:List Sm)(x:Except Flt (List Sm×Frm1)):Except Flt (List Sm×Frm1):=match x with
 |.ok z=>.ok (p++z.1,z.2)
 |.error e=>.error e
structure BW (sc:Scp) (l cur:List Sm) (f:Frm1) (i:Nat):Prop where
 len:cur.length=l.length
 le:i<=l.length
 rest:cur.drop i=l.drop i
 fr:nmF f=BO (l.take i)
 tot:rvB sc [] l=BfS (cur.take i) (rvB sc f (l.drop i))
theorem BW.zero(sc:Scp)(l:List Sm):BW sc l l [] 0:=⟨rfl,Nat.zero_le _,rfl,rfl,by
 rw[List.drop_zero,List.take_zero]
 cases rvB sc [] l<;>rfl⟩
theorem BW.at_{sc:Scp}{l cur:List Sm}{f:Frm1}{i:Nat}(h:BW sc l cur f i)(hi:i<l.length):cur.getD i default=l.getD i default:=by
 have:=h.rest
 rw[Bt hi,Bt (by rw[h.len];exact hi)] at this
 exact (List.cons.inj this).1
theorem BW.fl{sc:Scp}{l cur:List Sm}{f:Frm1}{i:Nat}(h:BW sc l cur f i):f.length<=l.length:=by
 have h1:=congrArg List.length h.fr
 have h2:(BO (l.take i)).length<=(l.take i).length:=by
  unfold BO
  rw[List.length_map]
  exact List.length_filter_le _ _
 rw[List.length_take] at h2
 simp only[nmF,List.length_map] at h1
 omega
theorem BW.err{sc:Scp}{l cur:List Sm}{f:Frm1}{i:Nat}(h:BW sc l cur f i)(hi:i<l.length){e:Flt}(he:rvM sc f (cur.getD i default)=.error e):rvB sc [] l=.error e:=by
 rw[h.tot,Bt hi,rvB,<- h.at_ hi,he]
 rfl
theorem Bfn{sc:Scp}{f:Frm1}{s t:Sm}(h:rvM sc f s=.ok t):t.kd=s.kd/\t.nm=s.nm:=by
 rw[Bhj] at h
 split at h
 ·split at h
  ·cases h
  ·split at h
   ·cases h
   ·injection h with h;subst h;exact⟨rfl,rfl⟩
 ·split at h
  ·cases h
  ·injection h with h;subst h;exact⟨rfl,rfl⟩
theorem BW.ok{sc:Scp}{l cur:List Sm}{f:Frm1}{i:Nat}(h:BW sc l cur f i)(hi:i<l.length){t:Sm}(he:rvM sc f (cur.getD i default)=.ok t):BW sc l (cur.set i t) (Ce f t) (i+1):=by
 have hc:i<cur.length:=by rw[h.len];exact hi
 have hk:=Bfn he
 rw[h.at_ hi] at hk
 refine⟨by rw[List.length_set];exact h.len,hi,?_,?_,?_⟩
 ·rw[List.drop_set_of_lt (Nat.lt_succ_self i)]
  have:=h.rest
  rw[Bt hi,Bt hc] at this
  exact (List.cons.inj this).2
 ·rw[IF hi,<- h.fr]
  unfold Ce
  rw[hk.1]
  split
  ·rw[nmF,List.map_append,hk.2];rfl
  ·rfl
 ·rw[h.tot,Bt hi,rvB,<- h.at_ hi,he,take_set hc]
  simp only
  cases rvB sc (Ce f t) (l.drop (i+1)) with
  |ok z=>simp[BfS]
  |error e=>rfl
theorem BW.done{sc:Scp}{l cur:List Sm}{f:Frm1}{i:Nat}(h:BW sc l cur f i)(hi:¬i<l.length):rvB sc [] l=.ok (cur,f):=by
 have:i=l.length:=by have:=h.le;omega
 rw[h.tot,this,List.drop_length,rvB,<- h.len,List.take_length]
 simp[BfS]
theorem Bfx(d:D):Bk d .unk:=by cases d<;>simp[Bk]
theorem BkU(f:Frm1)(sc:Scp)(k1 k2:Nat):(([.sl 1 f.length (fun j=>[.str ((nmF f).getD j [])]) (.tok 0 k1),.sl 1 f.length (fun j=>[.int .i64 ((clF f).getD j 0)]) (.tok 1 k2),frD sc]:List D).all M0&&([.sl 1 f.length (fun j=>[.str ((nmF f).getD j [])]) (.tok 0 k1),.sl 1 f.length (fun j=>[.int .i64 ((clF f).getD j 0)]) (.tok 1 k2),frD sc]:List D).all B2)=true:=by
 cases sc<;>rfl
theorem Bl5(f:Frm1)(sc:Scp)(k1 k2:Nat):wkL [.sl 1 f.length (fun j=>[.str ((nmF f).getD j [])]) (.tok 0 k1),.sl 1 f.length (fun j=>[.int .i64 ((clF f).getD j 0)]) (.tok 1 k2),frD sc] (frR f sc):=by
 simp only[frR,ssl,isl,wkL,wkD,Ba]
 refine⟨⟨by simp,by simp[nmF],fun _ _=>?_,by simp[BB]⟩,⟨by simp,by simp[clF],fun _ _=>?_,by simp[BB]⟩,Bb _,trivial⟩
 ·exact⟨BM _,trivial⟩
 ·exact⟨BM _,trivial⟩
theorem Baz(f:Frm1)(nm:List UInt8)(c:Int)(j:Nat)(hj:j<f.length+1):Br f.length (fun j=>[D.str ((nmF f).getD j [])]) (fun i=>[D.str ([nm].getD i [])]) j=[D.str ((nmF (f++[(nm,c)])).getD j [])]:=by
 simp only[Br]
 split
 ·rename_i h
  simp only[nmF,List.map_append,List.getD_eq_getElem?_getD]
  rw[List.getElem?_append_left (by simpa using h)]
 ·rename_i h
  have:j=f.length:=by omega
  subst this
  simp[nmF]
theorem RP(f:Frm1)(nm:List UInt8)(c:Int)(j:Nat)(hj:j<f.length+1):Br f.length (fun j=>[D.int .i64 ((clF f).getD j 0)]) (fun i=>[[D.int .i64 c]].getD i []) j=[D.int .i64 ((clF (f++[(nm,c)])).getD j 0)]:=by
 simp only[Br]
 split
 ·rename_i h
  simp only[clF,List.map_append,List.getD_eq_getElem?_getD]
  rw[List.getElem?_append_left (by simpa using h)]
 ·rename_i h
  have:j=f.length:=by omega
  subst this
  simp[clF]
def _root_.Go.Ab.endVB(x:Nat)(sc:Scp)(X:Except Flt (List Sm×Frm1))(e:AEnd)(S:St):Prop:=match e with
 |.ret d'=>∃z,X=.ok z/\Bk d' (gsl 34 Sm.row1 z.1)/\leS ⟨[(0,x,.cells (frR z.2 sc))],[]⟩ S
 |.pan d'=>∃e',X=.error e'/\Bk d' (We e')/\leS ⟨[(0,x,.cells [.unk,.unk,.unk])],[]⟩ S
theorem Bjx{x : Nat}{sc : Scp}{l : List Sm}(h : ACalls Tryz.prog 22 [.ref 0 x 0, gsl 34 Sm.row1 l] ⟨[(0, x, .cells [Ig, Ig, frD sc])], []⟩ (Go.Ab.endVB x sc (rvB sc [] l))) :
  ACalls Tryz.prog 22 [.ref 0 x 0,gsl 34 Sm.row1 l] ⟨[(0,x,.cells [Ig,Ig,frD sc])],[]⟩
   (fun r S'=>∃o,(match rvB sc [] l with | .ok z=>r=.ret (gsl 34 Sm.row1 z.1)/\o=.cells (frR z.2 sc) | .error e=>r=.pan (We e))/\S'=⟨[(0,x,o)],[]⟩):=by
 refine h.weaken fun r S' hr=>?_
 unfold Go.Ab.endVB at hr
 cases r with
 |ret d' =>
  obtain ⟨z,hz,hw,hl⟩:=hr
  exact⟨.ret (gsl 34 Sm.row1 z.1),_,hw,UL hl,.cells (frR z.2 sc),by rw[hz];exact⟨rfl,rfl⟩,rfl⟩
 |pan d' =>
  obtain ⟨e,he,hw,hl⟩:=hr
  exact⟨.pan (We e),_,hw,UL hl,.cells [.unk,.unk,.unk],by rw[he],rfl⟩
def BdH(l:List Sm):Con:=fun k ds S=>match k with
 |43=>some ((GH 34 Sm.row1 (B0 S.objs) l).fits () (ds=[gsl 34 Sm.row1 l]))
 |_=>none
theorem BaZ(l:List Sm):ConOk Tryz.prog (BdH l):=by
 intro k ds S A hh
 unfold BdH at hh
 split at hh
 ·injection hh with hh;subst hh
  exact FnSpec.fits_ok (fun _ hy=>BeH _ (BkD l hy)) fun e=>by subst e;exact⟨Bm _,Bap S⟩
 ·cases hh
noncomputable def Ebb(sc:Scp)(l:List Sm):Senv:={ EC (BdH l) 50 2 [4,5,6,7,10,11,12,13,20,33] (fun id=>match id with | 10=>([0,1,2,3,4,5,6,7,8,9,10],[8,10]) | _=>([],[])) with
 inl:=inlV (BdH l) true sc
 gh:=fun b=>match b with
  |0=>[.cell 0 100,.cell 0 101]
  |_=>[]
 gz:=fun r=>match r with
  |13=>[.slot 5]
  |_=>[]
 ann:=fun b _env S=>match b with
  |0=>some { slots:=[12],keep:=[0,5,10,11],α:=(Nat×List Sm)×Frm1×Nat×Nat,st:=fun y=>([.int .i64 (y.1.1:Nat)],⟨C5 (C5 S.objs 1 (.vec 34 l.length (vcap S.objs 1) (fun j=>(y.1.2.getD j default).row1))) 0 (.cells [.sl 1 y.2.1.length (fun j=>[.str ((nmF y.2.1).getD j [])]) (.tok 0 y.2.2.1),.sl 1 y.2.1.length (fun j=>[.int .i64 ((clF y.2.1).getD j 0)]) (.tok 1 y.2.2.2),frD sc]),[(0,y.2.2.1),(1,y.2.2.2)]⟩),inv:=fun y=>BW sc l y.1.2 y.2.1 y.1.1,mu:=fun y=>l.length-y.1.1 }
  |_=>none }
def Xj:Arr:=DA
def VE:Nd:=Nd.mk Z0 Z0 Z0 [] Z0 Z0 Xj [] [] Z0 Z0 Z0
def VF:Sm:=Sm.mk Z0 Z0 [] Z0 VE VE
def Xk(a:List Sm)(b:Nat):Sm:=List.getD a b VF
def KV(a:List Sm)(b:Nat):Nd:=Sm.te (Xk a b)
def HJ(a:List Sm)(b:Nat):Arr:=Nd.va (KV a b)
def QsY(a:List Sm)(b:Nat):List Int:=Arr.sh (HJ a b)
def QsZ(a:List Sm)(b:Nat):List Int:=Arr.nu (HJ a b)
def Ql6(a:List Sm)(b:Nat):List Arr:=Arr.it (HJ a b)
def Ql7(a:List Sm)(b:Nat):List Nd:=Nd.ki (KV a b)
def Ql8(a:List Sm)(b:Nat):List Sm:=Nd.bo (KV a b)
def KW(a:List Sm)(b:Nat):Nd:=Sm.nd (Xk a b)
def HK(a:List Sm)(b:Nat):Arr:=Nd.va (KW a b)
def Qs0(a:List Sm)(b:Nat):List Int:=Arr.sh (HK a b)
def Qs1(a:List Sm)(b:Nat):List Int:=Arr.nu (HK a b)
def Ql9(a:List Sm)(b:Nat):List Arr:=Arr.it (HK a b)
def Qma(a:List Sm)(b:Nat):List Nd:=Nd.ki (KW a b)
def Qmb(a:List Sm)(b:Nat):List Sm:=Nd.bo (KW a b)
def KX(a:List Sm)(b:Nat):List D:=[ZI (Sm.kd (Xk a b)),ZI (Sm.at_ (Xk a b)),D.str (Sm.nm (Xk a b)),ZI (Sm.sl (Xk a b)),ZI (Nd.kd (KV a b)),ZI (Nd.at_ (KV a b)),ZI (Nd.cl (KV a b)),D.str (Nd.tx (KV a b)),ZI (Nd.pr (KV a b)),ZI (Nd.op (KV a b)),ZI (Arr.k (HJ a b)),SI (QsY a b),SI (QsZ a b),D.sl N4 (LN (Ql6 a b)) (fun i=>Arr.row (List.getD (Ql6 a b) i Xj)) Mode.any,D.sl 15 (LN (Ql7 a b)) (fun i=>Nd.row (List.getD (Ql7 a b) i VE)) Mode.any,D.sl 34 (LN (Ql8 a b)) (fun i=>Sm.row (List.getD (Ql8 a b) i VF)) Mode.any,ZI (Nd.de (KV a b)),ZI (Nd.sl (KV a b)),ZI (Nd.ss (KV a b)),ZI (Nd.kd (KW a b)),ZI (Nd.at_ (KW a b)),ZI (Nd.cl (KW a b)),D.str (Nd.tx (KW a b)),ZI (Nd.pr (KW a b)),ZI (Nd.op (KW a b)),ZI (Arr.k (HK a b)),SI (Qs0 a b),SI (Qs1 a b),D.sl N4 (LN (Ql9 a b)) (fun i=>Arr.row (List.getD (Ql9 a b) i Xj)) Mode.any,D.sl 15 (LN (Qma a b)) (fun i=>Nd.row (List.getD (Qma a b) i VE)) Mode.any,D.sl 34 (LN (Qmb a b)) (fun i=>Sm.row (List.getD (Qmb a b) i VF)) Mode.any,ZI (Nd.de (KW a b)),ZI (Nd.sl (KW a b)),ZI (Nd.ss (KW a b))]
def Qs2(a:List Sm):List D:=[D.sl 34 (LN a) (fun i=>KX a i) Mode.any]
def Xl(a:Scp)(b c:List Sm)(d:Frm1)(e:Nat):Prop:=BW a b c d e
def Qmc(a:List Sm)(b:Nat)(c:List Sm):Prop:=KX a b=KX c b
def VG(a:Frm1)(b:Nat):List D:=[D.str (List.getD (nmF a) b [])]
def VH(a:Frm1)(b:Nat):List D:=[ZI (GI (clF a) b)]
def Yr(a:Scp):D:=frD a
def HL(a:Scp):Prop:=Bk (Yr a) (Yr a)/\True
def JF(a:Nat):Nat:=Int.toNat (↑a:Int)
def Ys(a:List Sm)(b:Nat):Sm:=List.getD a (JF b) VF
def QcV(a:List Sm)(b:Nat):Int:=Sm.kd (Ys a b)
def QcW(a:Frm1)(b c:Nat)(d:Scp):List D:=[D.sl N1 (LN a) (fun j=>VG a j) (Mode.tok N0 b),D.sl N1 (LN a) (fun j=>VH a j) (Mode.tok N1 c),Yr d]
def QcX(a:Frm1)(b c:Nat)(d:Scp):Prop:=(List.all (QcW a b c d) M0&&List.all (QcW a b c d) B2)=true
def Qmd(a:Frm1)(b c:Nat)(d:Scp)(e:Frm1):Prop:=wkL (QcW a b c d) [D.sl N1 (LN (nmF e)) (fun i=>VG e i) Mode.any,D.sl N1 (LN (clF e)) (fun i=>VH e i) Mode.any,Yr d]
def KY(a:List Sm)(b:Nat):Nd:=Sm.te (Ys a b)
def Qme(a:List Sm)(b:Nat):D:=ZI (Nd.kd (KY a b))
def Qmf(a:List Sm)(b:Nat):D:=ZI (Nd.at_ (KY a b))
def Qmg(a:List Sm)(b:Nat):D:=ZI (Nd.cl (KY a b))
def Qmh(a:List Sm)(b:Nat):D:=D.str (Nd.tx (KY a b))
def Qmi(a:List Sm)(b:Nat):D:=ZI (Nd.pr (KY a b))
def Qmj(a:List Sm)(b:Nat):D:=ZI (Nd.op (KY a b))
def HM(a:List Sm)(b:Nat):Arr:=Nd.va (KY a b)
def Qmk(a:List Sm)(b:Nat):D:=ZI (Arr.k (HM a b))
def Qs3(a:List Sm)(b:Nat):List Int:=Arr.sh (HM a b)
def Qml(a:List Sm)(b:Nat):D:=SI (Qs3 a b)
def Qs4(a:List Sm)(b:Nat):List Int:=Arr.nu (HM a b)
def Qmm(a:List Sm)(b:Nat):D:=SI (Qs4 a b)
def Qmn(a:List Sm)(b:Nat):List Arr:=Arr.it (HM a b)
def Qmo(a:List Sm)(b:Nat):D:=D.sl N4 (LN (Qmn a b)) (fun i=>Arr.row (List.getD (Qmn a b) i Xj)) Mode.any
def Qmp(a:List Sm)(b:Nat):List Nd:=Nd.ki (KY a b)
def Qmq(a:List Sm)(b:Nat):D:=D.sl 15 (LN (Qmp a b)) (fun i=>Nd.row (List.getD (Qmp a b) i VE)) Mode.any
def Qmr(a:List Sm)(b:Nat):List Sm:=Nd.bo (KY a b)
def Qms(a:List Sm)(b:Nat):D:=D.sl 34 (LN (Qmr a b)) (fun i=>Sm.row (List.getD (Qmr a b) i VF)) Mode.any
def Qmt(a:List Sm)(b:Nat):D:=ZI (Nd.de (KY a b))
def Qmu(a:List Sm)(b:Nat):D:=ZI (Nd.sl (KY a b))
def Qmv(a:List Sm)(b:Nat):D:=ZI (Nd.ss (KY a b))
def QcY(a:Nd):D:=ZI (Nd.cl a)
def HN(a:Nd):Arr:=Nd.va a
def Qmw(a:Nd):D:=ZI (Arr.k (HN a))
def Qs5(a:Nd):List Int:=Arr.sh (HN a)
def Qmx(a:Nd):D:=SI (Qs5 a)
def Qs6(a:Nd):List Int:=Arr.nu (HN a)
def Qmy(a:Nd):D:=SI (Qs6 a)
def Qmz(a:Nd):List Arr:=Arr.it (HN a)
def QmA(a:Nd):D:=D.sl N4 (LN (Qmz a)) (fun i=>Arr.row (List.getD (Qmz a) i Xj)) Mode.any
def QmB(a:Nd):D:=D.sl 15 (LN (Nd.ki a)) (fun i=>Nd.row (List.getD (Nd.ki a) i VE)) Mode.any
def QmC(a:Nd):D:=D.sl 34 (LN (Nd.bo a)) (fun i=>Sm.row (List.getD (Nd.bo a) i VF)) Mode.any
def QcZ(a:Nd):List D:=[ZI (Nd.kd a),ZI (Nd.at_ a),QcY a,D.str (Nd.tx a),ZI (Nd.pr a),ZI (Nd.op a),Qmw a,Qmx a,Qmy a,QmA a,QmB a,QmC a,ZI (Nd.de a),ZI (Nd.sl a),ZI (Nd.ss a)]
def QmD(a:Nd):D:=D.agg (QcZ a)
def KZ(a:List Sm)(b:Nat):Nd:=Sm.nd (Ys a b)
def HO(a:List Sm)(b:Nat):Arr:=Nd.va (KZ a b)
def Qs7(a:List Sm)(b:Nat):List Int:=Arr.sh (HO a b)
def Qs8(a:List Sm)(b:Nat):List Int:=Arr.nu (HO a b)
def QmE(a:List Sm)(b:Nat):List Arr:=Arr.it (HO a b)
def QmF(a:List Sm)(b:Nat):List Nd:=Nd.ki (KZ a b)
def QmG(a:List Sm)(b:Nat):List Sm:=Nd.bo (KZ a b)
def QmH(a:Nat)(b:Frm1)(c d:Nat)(e:Scp)(f:Frm1)(g:List Sm)(h:Nat)(l:Nd):Prop:=SM a/\Qmd b c d e f/\D.agg [ZI (Nd.kd (KZ g h)),ZI (Nd.at_ (KZ g h)),ZI (Nd.cl (KZ g h)),D.str (Nd.tx (KZ g h)),ZI (Nd.pr (KZ g h)),ZI (Nd.op (KZ g h)),ZI (Arr.k (HO g h)),SI (Qs7 g h),SI (Qs8 g h),D.sl N4 (LN (QmE g h)) (fun i=>Arr.row (List.getD (QmE g h) i Xj)) Mode.any,D.sl 15 (LN (QmF g h)) (fun i=>Nd.row (List.getD (QmF g h) i VE)) Mode.any,D.sl 34 (LN (QmG g h)) (fun i=>Sm.row (List.getD (QmG g h) i VF)) Mode.any,ZI (Nd.de (KZ g h)),ZI (Nd.sl (KZ g h)),ZI (Nd.ss (KZ g h))]=QmD l/\VNd (f::e) l
def QmI(a:List Sm)(b:Nat):Bool:=QcV a b==2
def QmJ(a:Nat)(b:List Sm)(c:Nat):Prop:=SM (D.vs (max (N0+N1) N0) a (LN b) c (34:Nat))
def HP(a b:Nat)(c:List Sm)(d:Nat):Prop:=SM (D.ref N0 a N0)/\QmJ b c d/\QmJ b c d/\SM (ZI (LI c))/\True
def HQ(a b:Nat):Prop:=IntKind.wrap IntKind.i64 ((↑a:Int)+Z1)=(↑b:Int)/\True
def HR(a:List Sm)(b:Nat):D:=ZI (QcV a b)
def HS(a:List Sm)(b:Nat):D:=ZI (Sm.at_ (Ys a b))
def QmK(a:List Sm)(b:Nat):List UInt8:=Sm.nm (Ys a b)
def HT(a:List Sm)(b:Nat):D:=D.str (QmK a b)
def QmL(a b:Nd):List D:=ZI (Nd.kd a)::ZI (Nd.at_ a)::QcY a::D.str (Nd.tx a)::ZI (Nd.pr a)::ZI (Nd.op a)::Qmw a::Qmx a::Qmy a::QmA a::QmB a::QmC a::ZI (Nd.de a)::ZI (Nd.sl a)::ZI (Nd.ss a)::QcZ b
def QmM(a:Nat)(b c:Frm1)(d:List Sm)(e f g:Nat)(h:Nd)(k l:Nat)(m:Scp):Prop:=SM a/\((LN b+N1=LN c/\(∀(i:Nat),i<LN b+N1->Br (LN b) (fun j=>VG b j) (fun i=>[D.str (List.getD [QmK d e] i [])]) i=VG c i)/\f=g)/\(LN b+N1=LN c/\(∀(i:Nat),i<LN b+N1->Br (LN b) (fun j=>VH b j) (fun i=>List.getD [[QcY h]] i []) i=VH c i)/\k=l)/\HL m)/\True
def QmN(a b:Frm1):Prop:=∀(i:Nat),i<LN a->VG a i=VG b i
def QmO(a b:Frm1):Prop:=∀(i:Nat),i<LN a->VH a i=VH b i
def QmP(a:Nat)(b c:Frm1)(d e f g:Nat)(h:Scp):Prop:=SM a/\((LN b=LN c/\QmN b c/\d=e)/\(LN b=LN c/\QmO b c/\f=g)/\HL h)/\True
def QmQ:Prop:=SM N0/\(∀(i:Nat),i<N0->Cw (List D) [] [])/\True
def Qc0(a:Frm1)(b:Scp)(c:Nd)(d:Except Flt (List Sm×Frm1))(f:Nat):Prop:=∀(e:Flt),rvN (a::b) c=Except.error e->∃(e':Flt),d=Except.error e'/\(SM (30:Nat)/\e.1=Prod.fst e'/\e.2.1=Prod.fst (Prod.snd e')/\QmQ/\QmQ/\e.2.2=Prod.snd (Prod.snd e')/\True)/\(SM f/\(True/\True/\Bk (Yr b) D.unk/\True)/\True)/\True
def QmR(a:List Sm)(b:Nat)(c:Nd):List D:=Qme a b::Qmf a b::Qmg a b::Qmh a b::Qmi a b::Qmj a b::Qmk a b::Qml a b::Qmm a b::Qmo a b::Qmq a b::Qms a b::Qmt a b::Qmu a b::Qmv a b::QcZ c
theorem BjU(sc : Scp)(x : Nat)(l : List Sm)(hl : l≠[] /\ l.length<=1000)(hn : ∀f, WD (f::sc) -> ∀s∈l, (s.kd=3 -> VNd (f::sc) s.te) /\ VNd (f::sc) s.nd)(hs : ∀i, i<=l.length -> ∀f, nmF f=BO (l.take i) -> WD (f::sc))(X : Except Flt (List Sm×Frm1))(hX : X=rvB sc [] l) :
  ACalls Tryz.prog 22 [.ref 0 x 0,gsl 34 Sm.row1 l] ⟨[(0,x,.cells [Ig,Ig,frD sc])],[]⟩ (Go.Ab.endVB x sc X):=by
 refine CK (E:=Ebb sc l) (WI (BaZ l) (T4 (BaZ l) true _) rfl) Tryz.func22 rfl (by kernel_rfl) rfl (by simp[Ebb,EC,E0]) ?_
 refine Bj (T :=
  (SM (Qs2 l)/\l≠[]/\LN l<=1000000)/\∀(y:Nat×Nat),LN l<=y.2->∀(t t_1:Nat),(∃(x_1:(Nat×List Sm)×Frm1×Nat×Nat),Xl sc l x_1.1.2 x_1.2.1 x_1.1.1/\(Z0=(NI x_1.1.1)/\True)/\(SM y.1/\(SM (LN l)/\SM y.2/\∀(i:Nat),i<LN l->Qmc l i x_1.1.2)/\SM x/\((N0=LN x_1.2.1/\(∀(i:Nat),i<N0->Cw (List D) [] (VG x_1.2.1 i))/\t=x_1.2.2.1)/\(N0=LN x_1.2.1/\(∀(i:Nat),i<N0->Cw (List D) [] (VH x_1.2.1 i))/\t_1=x_1.2.2.2)/\HL sc)/\True)/\t=x_1.2.2.1/\t_1=x_1.2.2.2/\True)/\∀(x_1:(Nat×List Sm)×Frm1×Nat×Nat),Xl sc l x_1.1.2 x_1.2.1 x_1.1.1->ifB (decide ((NI x_1.1.1)<(LI l))) (Bd (Z0<=(NI x_1.1.1)/\(NI x_1.1.1)<(LI l)) (SM y.1/\Bd (JF x_1.1.1<LN l) (∀(x_2:Nat),y.1≠x_2/\x≠x_2/\True->SM x_2/\SM x_2/\SM x_2/\ifB (QcV x_1.1.2 x_1.1.1==3) (SM x_2/\QcX x_1.2.1 x_1.2.2.1 x_1.2.2.2 sc/\∃(z:Frm1×Nd),(SM x/\Qmd x_1.2.1 x_1.2.2.1 x_1.2.2.2 sc z.1/\D.agg [Qme x_1.1.2 x_1.1.1,Qmf x_1.1.2 x_1.1.1,Qmg x_1.1.2 x_1.1.1,Qmh x_1.1.2 x_1.1.1,Qmi x_1.1.2 x_1.1.1,Qmj x_1.1.2 x_1.1.1,Qmk x_1.1.2 x_1.1.1,Qml x_1.1.2 x_1.1.1,Qmm x_1.1.2 x_1.1.1,Qmo x_1.1.2 x_1.1.1,Qmq x_1.1.2 x_1.1.1,Qms x_1.1.2 x_1.1.1,Qmt x_1.1.2 x_1.1.1,Qmu x_1.1.2 x_1.1.1,Qmv x_1.1.2 x_1.1.1]=QmD z.2/\VNd (z.1::sc) z.2)/\(∀(m:Nd),rvN (z.1::sc) z.2=Except.ok m->SM x_2/\SM x_2/\QcX x_1.2.1 x_1.2.2.1 x_1.2.2.2 sc/\∃(z:Frm1×Nd),QmH x x_1.2.1 x_1.2.2.1 x_1.2.2.2 sc z.1 x_1.1.2 x_1.1.1 z.2/\(∀(m_1:Nd),rvN (z.1::sc) z.2=Except.ok m_1->SM x_2/\SM x_2/\ifB (QmI x_1.1.2 x_1.1.1) (SM x_2/\SM x_2/\SM x/\SM x_1.2.2.1/\Bd ((LN x_1.2.1+N1)*16<=140737488355328/\LN x_1.2.1+N1<=9223372036854775807) (∀(t:Nat),SM x/\SM x/\SM x_1.2.2.2/\Bd ((LN x_1.2.1+N1)*8<=140737488355328/\LN x_1.2.1+N1<=9223372036854775807) (∀(t_2:Nat),SM x/\SM x/\True/\SM x_2/\SM x_2/\Bd (Z0<=(NI x_1.1.1)/\(NI x_1.1.1)<(LI l)) (SM y.1/\Bd (JF x_1.1.1<LN l) (HP x y.1 l y.2/\∃(y_1:(Nat×List Sm)×Frm1×Nat×Nat),Xl sc l y_1.1.2 y_1.2.1 y_1.1.1/\LN l-y_1.1.1<LN l-x_1.1.1/\HQ x_1.1.1 y_1.1.1/\(SM y.1/\(SM (LN l)/\SM y.2/\∀(i:Nat),i<LN l->ET (fun j=>KX x_1.1.2 j) (JF x_1.1.1) (HR x_1.1.2 x_1.1.1::HS x_1.1.2 x_1.1.1::HT x_1.1.2 x_1.1.1::ZI (IntKind.wrap IntKind.i64 ((NI (LN x_1.2.1+N1))-Z1))::QmL m m_1) i=KX y_1.1.2 i)/\QmM x x_1.2.1 y_1.2.1 x_1.1.2 x_1.1.1 t y_1.2.2.1 m_1 t_2 y_1.2.2.2 sc)/\t=y_1.2.2.1/\t_2=y_1.2.2.2/\True))))) (SM x_2/\Bd (Z0<=(NI x_1.1.1)/\(NI x_1.1.1)<(LI l)) (SM y.1/\Bd (JF x_1.1.1<LN l) (HP x y.1 l y.2/\∃(y_1:(Nat×List Sm)×Frm1×Nat×Nat),Xl sc l y_1.1.2 y_1.2.1 y_1.1.1/\LN l-y_1.1.1<LN l-x_1.1.1/\HQ x_1.1.1 y_1.1.1/\(SM y.1/\(SM (LN l)/\SM y.2/\∀(i:Nat),i<LN l->ET (fun j=>KX x_1.1.2 j) (JF x_1.1.1) (HR x_1.1.2 x_1.1.1::HS x_1.1.2 x_1.1.1::HT x_1.1.2 x_1.1.1::ZI Z0::QmL m m_1) i=KX y_1.1.2 i)/\QmP x x_1.2.1 y_1.2.1 x_1.2.2.1 y_1.2.2.1 x_1.2.2.2 y_1.2.2.2 sc)/\x_1.2.2.1=y_1.2.2.1/\x_1.2.2.2=y_1.2.2.2/\True))))/\Qc0 z.1 sc z.2 X x)/\Qc0 z.1 sc z.2 X x) (SM x_2/\QcX x_1.2.1 x_1.2.2.1 x_1.2.2.2 sc/\∃(z:Frm1×Nd),QmH x x_1.2.1 x_1.2.2.1 x_1.2.2.2 sc z.1 x_1.1.2 x_1.1.1 z.2/\(∀(m:Nd),rvN (z.1::sc) z.2=Except.ok m->SM x_2/\SM x_2/\ifB (QmI x_1.1.2 x_1.1.1) (SM x_2/\SM x_2/\SM x/\SM x_1.2.2.1/\Bd ((LN x_1.2.1+N1)*16<=140737488355328/\LN x_1.2.1+N1<=9223372036854775807) (∀(t:Nat),SM x/\SM x/\SM x_1.2.2.2/\Bd ((LN x_1.2.1+N1)*8<=140737488355328/\LN x_1.2.1+N1<=9223372036854775807) (∀(t_2:Nat),SM x/\SM x/\True/\SM x_2/\SM x_2/\Bd (Z0<=(NI x_1.1.1)/\(NI x_1.1.1)<(LI l)) (SM y.1/\Bd (JF x_1.1.1<LN l) (HP x y.1 l y.2/\∃(y_1:(Nat×List Sm)×Frm1×Nat×Nat),Xl sc l y_1.1.2 y_1.2.1 y_1.1.1/\LN l-y_1.1.1<LN l-x_1.1.1/\HQ x_1.1.1 y_1.1.1/\(SM y.1/\(SM (LN l)/\SM y.2/\∀(i:Nat),i<LN l->ET (fun j=>KX x_1.1.2 j) (JF x_1.1.1) (HR x_1.1.2 x_1.1.1::HS x_1.1.2 x_1.1.1::HT x_1.1.2 x_1.1.1::ZI (IntKind.wrap IntKind.i64 ((NI (LN x_1.2.1+N1))-Z1))::QmR x_1.1.2 x_1.1.1 m) i=KX y_1.1.2 i)/\QmM x x_1.2.1 y_1.2.1 x_1.1.2 x_1.1.1 t y_1.2.2.1 m t_2 y_1.2.2.2 sc)/\t=y_1.2.2.1/\t_2=y_1.2.2.2/\True))))) (SM x_2/\Bd (Z0<=(NI x_1.1.1)/\(NI x_1.1.1)<(LI l)) (SM y.1/\Bd (JF x_1.1.1<LN l) (HP x y.1 l y.2/\∃(y_1:(Nat×List Sm)×Frm1×Nat×Nat),Xl sc l y_1.1.2 y_1.2.1 y_1.1.1/\LN l-y_1.1.1<LN l-x_1.1.1/\HQ x_1.1.1 y_1.1.1/\(SM y.1/\(SM (LN l)/\SM y.2/\∀(i:Nat),i<LN l->ET (fun j=>KX x_1.1.2 j) (JF x_1.1.1) (HR x_1.1.2 x_1.1.1::HS x_1.1.2 x_1.1.1::HT x_1.1.2 x_1.1.1::ZI Z0::QmR x_1.1.2 x_1.1.1 m) i=KX y_1.1.2 i)/\QmP x x_1.2.1 y_1.2.1 x_1.2.2.1 y_1.2.2.1 x_1.2.2.2 y_1.2.2.2 sc)/\x_1.2.2.1=y_1.2.2.1/\x_1.2.2.2=y_1.2.2.2/\True))))/\Qc0 z.1 sc z.2 X x)))) (SM y.1/\SM y.2/\Bd (LN l<=LN l) ((∀(i:Nat),i<LN l->List.all (KX x_1.1.2 i) B2=true)/\∀(t:Nat),True/\∃(z:List Sm×Frm1),X=Except.ok z/\(LN l=LN z.1/\(∀(i:Nat),i<LN l->Qmc x_1.1.2 i z.1)/\True)/\(SM x/\((LN x_1.2.1=LN (nmF z.2)/\QmN x_1.2.1 z.2/\True)/\(LN x_1.2.1=LN (clF z.2)/\QmO x_1.2.1 z.2/\True)/\HL sc)/\True)/\True))) (by kernel_rfl) ?_
 delta DA GI LI LN N0 N1 N4 NI SI SM Z0 Z1 ZI Xj VE Ql8 KW HK Qs0 Qs1 Ql9 Qma Qmb KX Qs2 VF Xl Qmc VG VH Yr HL JF Ys QcV QcW Xk QcX Qmd KY Qme Qmf Qmg Qmh Qmi Qmj HM KV Qmk Qs3 Qml Qs4 Qmm Qmn Qmo Qmp Qmq Qmr HJ Qms Qmt Qmu Qmv QcY HN Qmw Qs5 Qmx Qs6 QsY Qmy Qmz QmA QmB QmC QcZ QmD KZ HO Qs7 QsZ Qs8 QmE QmF QmG QmH QmI QmJ HP HQ HR Ql6 HS QmK HT QmL QmM QmN QmO QmP QmQ Qc0 Ql7 QmR
 try simp only[<- dm]
 try simp only[<- dn]
 simp only[ne_eq,implies_true,Int.toNat_natCast,Bh,Bf,decide_eq_true_eq,decide_eq_false_iff_not,true_and,and_true,beq_iff_eq,beq_eq_false_iff_ne,forall_const,Prod.exists]
 refine⟨⟨hl.1,by omega⟩,fun y hy t1 t2=>⟨⟨0,l,[],t1,t2,BW.zero sc l,rfl,⟨fun _ _=>rfl,⟨rfl,fun _ h=>absurd h (Nat.not_lt_zero _),rfl⟩,⟨rfl,fun _ h=>absurd h (Nat.not_lt_zero _),rfl⟩,BM _⟩,rfl,rfl⟩,?_⟩⟩
 rintro ⟨⟨i,cur⟩,f,k1,k2⟩ hI
 simp only at hI
 have hfl:=hI.fl
 have hsc:WD (f::sc):=hs i hI.le f hI.fr
 refine⟨fun hlt=>?_,fun hge=>?_⟩
 ·have hlt':i<l.length:=by simpa using hlt
  have hc:i<cur.length:=by rw[hI.len];exact hlt'
  have b1:(0:Int)<=(i:Int)/\(i:Int)<(l.length:Int):=⟨Int.natCast_nonneg i,hlt⟩
  have hvn:=hn f hsc _ (E6 hlt')
  rw[<- hI.at_ hlt'] at hvn
  have hw:IntKind.i64.wrap ((i:Int)+1)=((i+1:Nat):Int):=by rw[Be (by omega) (by omega)];rfl
  have hw2:IntKind.i64.wrap (((f.length+1:Nat):Int)-1)=(f.length:Int):=by rw[Be (by omega) (by omega)];omega
  have wk:=Bl5 f sc k1 k2
  have rf:=BkU f sc k1 k2
  have err:∀e:Flt,rvM sc f (cur.getD i default)=.error e->∃a a_1 b,X=.error (a,a_1,b)/\(e.1=a/\e.2.1=a_1/\e.2.2=b)/\Bk (frD sc) D.unk:=fun e he=>⟨_,_,_,hX.trans (hI.err hlt' he),⟨rfl,rfl,rfl⟩,Bfx _⟩
  have rows:∀(t:Sm) (j:Nat),ET (fun j=>Sm.row1 (cur.getD j default)) i (Sm.row1 t) j=Sm.row1 ((cur.set i t).getD j default):=fun t j=>by
   simp only[ET]
   by_cases e:j=i
   ·rw[if_pos e,e]
    simp[List.getD_eq_getElem?_getD,hc]
   ·rw[if_neg e]
    simp[List.getD_eq_getElem?_getD,List.getElem?_set_ne (Ne.symm e)]
  have same:∀t:Sm,rvM sc f (cur.getD i default)=.ok t->t.kd≠2->BW sc l (cur.set i t) f (i+1):=fun t ht h2=>by
   have:=hI.ok hlt' ht
   unfold Ce at this
   rwa [if_neg h2] at this
  have more:∀t:Sm,rvM sc f (cur.getD i default)=.ok t->t.kd=2->BW sc l (cur.set i t) (f++[(t.nm,t.nd.cl)]) (i+1):=fun t ht h2=>by
   have:=hI.ok hlt' ht
   unfold Ce at this
   rwa [if_pos h2] at this
  have hM:=Bhj sc f (cur.getD i default)
  refine⟨b1,hlt',fun _ _=>⟨fun h3=>⟨rf,f,(cur.getD i default).te,⟨wk,rfl,hvn.1 h3⟩,fun m hm=>⟨rf,f,(cur.getD i default).nd,⟨wk,rfl,hvn.2⟩,fun m2 hm2=>⟨fun h2=>absurd (h3.symm.trans h2) (by decide),fun h2=>?_⟩,fun e he=>err e ?_⟩,fun e he=>err e ?_⟩,fun h3=>⟨rf,f,(cur.getD i default).nd,⟨wk,rfl,hvn.2⟩,fun m hm=>⟨fun h2=>⟨by simp only;omega,fun t=>⟨by simp only;omega,fun t3=>⟨b1,hlt',?_⟩⟩⟩,fun h2=>⟨b1,hlt',?_⟩⟩,fun e he=>err e ?_⟩⟩⟩
  ·rw[if_pos h3,hm] at hM
   simp only[hm2] at hM
   exact⟨b1,hlt',i+1,cur.set i _,f,k1,k2,same _ hM h2,by simp only;omega,hw,⟨fun j _=>rows (.mk (cur.getD i default).kd (cur.getD i default).at_ (cur.getD i default).nm 0 m m2) j,⟨rfl,fun _ _=>rfl,rfl⟩,⟨rfl,fun _ _=>rfl,rfl⟩,BM _⟩,rfl,rfl⟩
  ·rw[if_pos h3,hm] at hM
   simp only[he] at hM
   exact hM
  ·rw[if_pos h3,he] at hM
   exact hM
  ·rw[if_neg h3,hm] at hM
   simp only[if_pos h2] at hM
   refine⟨i+1,cur.set i _,f++[_],t,t3,more _ hM h2,by simp only;omega,hw,⟨fun j _=>by simp only[hw2];exact rows (.mk (cur.getD i default).kd (cur.getD i default).at_ (cur.getD i default).nm f.length (cur.getD i default).te m) j,⟨by simp,fun j hj=>Baz f _ _ j hj,rfl⟩,⟨by simp,fun j hj=>RP f _ _ j hj,rfl⟩,BM _⟩,rfl,rfl⟩
  ·rw[if_neg h3,hm] at hM
   simp only[if_neg h2] at hM
   exact⟨i+1,cur.set i _,f,k1,k2,same _ hM h2,by simp only;omega,hw,⟨fun j _=>rows (.mk (cur.getD i default).kd (cur.getD i default).at_ (cur.getD i default).nm 0 (cur.getD i default).te m) j,⟨rfl,fun _ _=>rfl,rfl⟩,⟨rfl,fun _ _=>rfl,rfl⟩,BM _⟩,rfl,rfl⟩
  ·rw[if_neg h3,he] at hM
   exact hM
 ·have hd:=hI.done (i:=i) (by simpa using hge)
  refine⟨Nat.le_refl _,fun j _=>rfl,cur,f,hX.trans hd,⟨hI.len.symm,fun _ _=>rfl⟩,⟨by simp[nmF],fun _ _=>rfl⟩,⟨by simp[clF],fun _ _=>rfl⟩,BM _⟩
def BhF:Con:=fun k ds S=>match k with
 |43=>some (pA ds S (Bjs 34) (ds=[gsl 34 Sm.row1 []]))
 |_=>none
theorem Bh2:ConOk Tryz.prog BhF:=by
 intro k ds S A hh
 unfold BhF at hh
 split at hh
 ·injection hh with hh;subst hh
  exact Bs fun e=>by subst e;exact CD.at_ Bli _
 ·cases hh
noncomputable def Ebe:Senv:={ EC BhF 50 2 [4,5,6,7,10,11,12,13,20,33] (fun id=>match id with | 10=>([0,1,2,3,4,5,6,7,8,9,10],[8,10]) | _=>([],[])) with unr:=fun _=>2 }
def QmS:Nd:=Nd.mk Z0 Z0 Z0 [] Z0 Z0 DA [] [] Z0 Z0 Z0
def QmT:Sm:=Sm.mk Z0 Z0 [] Z0 QmS QmS
def Qs9:List D:=[D.sl 34 N0 (fun _i=>Sm.row1 QmT) Mode.any]
theorem Bjn(sc : Scp)(x : Nat)(X : Except Flt (List Sm×Frm1))(hX : X=.ok ([], [])) :
  ACalls Tryz.prog 22 [.ref 0 x 0,gsl 34 Sm.row1 []] ⟨[(0,x,.cells [Ig,Ig,frD sc])],[]⟩ (Go.Ab.endVB x sc X):=by
 refine CK (E:=Ebe) (eOk Bh2 rfl) Tryz.func22 rfl (by kernel_rfl) rfl (by simp[Ebe,EC,E0]) ?_
 refine Bj (T :=
  ∃(x_1:Unit),SM Qs9/\∀(y:Unit),True->True/\∃(z:List Sm×Frm1),X=Except.ok z/\(N0=LN z.1/\(∀(i:Nat),i<N0->Cw (List D) [] (Sm.row1 (List.getD z.1 i QmT)))/\True)/\(SM x/\((N0=LN (nmF z.2)/\(∀(i:Nat),i<N0->Cw (List D) [] [D.str (List.getD (nmF z.2) i [])])/\True)/\(N0=LN (clF z.2)/\(∀(i:Nat),i<N0->Cw (List D) [] [ZI (GI (clF z.2) i)])/\True)/\Bk (frD sc) (frD sc)/\True)/\True)/\True) (by kernel_rfl) ?_
 delta DA GI LN N0 SM Z0 ZI QmS QmT Qs9
 exact⟨(),rfl,fun _ _=>⟨trivial,([],[]),hX,⟨rfl,fun _ h=>absurd h (Nat.not_lt_zero _),trivial⟩,⟨rfl,⟨⟨rfl,fun _ h=>absurd h (Nat.not_lt_zero _),trivial⟩,⟨rfl,fun _ h=>absurd h (Nat.not_lt_zero _),trivial⟩,BM _,trivial⟩,trivial⟩,trivial⟩⟩
theorem Bgb{a:Arr}(h:Beq a=true):a=.mk 0 [] [] []:=by
 cases a with
 |mk k s n i =>
  simp only[Beq,Bool.and_eq_true,beq_iff_eq,Arr.k,Arr.sh,Arr.nu,Arr.it,List.isEmpty_iff] at h
  obtain ⟨⟨⟨rfl,rfl⟩,rfl⟩,rfl⟩:=h
  rfl
theorem BbJ{n:Nd}(h:BR n=true):clV n.va/\(n.ki≠[]->n.kd≠2/\n.kd≠10/\n.ki.length<=1000)/\(n.kd=10->CA true n.bo=true):=by
 have hk:=Io h
 rw[OG,Bool.and_eq_true] at h
 obtain ⟨h1,h2⟩:=h
 refine⟨?_,fun hne=>?_,fun h10=>?_⟩
 ·unfold G7 at h1
  simp only[Bool.and_eq_true,Bool.or_eq_true,beq_iff_eq] at h1
  rcases h1.1.2 with hz | he
  ·exact .inr (Bgb hz)
  ·rw[if_neg (by omega)] at h2
   rw[Bool.or_eq_true,Bool.and_eq_true] at h2
   rcases h2 with h2 | ⟨h2,_⟩
   ·unfold GD at h2
    rw[if_pos he] at h2
    simp only[Bool.and_eq_true,beq_iff_eq] at h2
    exact .inl h2.2.1.2
   ·unfold EF at h2
    simp[he] at h2
 ·have h10:n.kd≠10:=fun e=>hne (hk.2 e)
  rw[if_neg h10,Bool.or_eq_true,Bool.and_eq_true] at h2
  rcases h2 with h2 | ⟨h2,_⟩
  ·unfold GD at h2
   rw[Bool.and_eq_true,List.isEmpty_iff] at h2
   exact (hne h2.1).elim
  ·have hl:∀l:List Int,BA n l=true->n.ki.length=l.length:=fun l hc=>by
    unfold BA at hc
    have:=congrArg List.length (eq_of_beq hc)
    simpa using this
   unfold EF at h2
   split at h2
   ·simp only[Bool.and_eq_true,decide_eq_true_eq] at h2
    exact⟨by omega,h10,h2.1.2⟩
   ·split at h2
    ·simp only[Bool.and_eq_true] at h2
     have:=hl _ h2.2
     exact⟨by omega,h10,by rw[this];decide⟩
    ·split at h2
     ·simp only[Bool.and_eq_true] at h2
      have:=hl _ h2.2
      exact⟨by omega,h10,by rw[this];decide⟩
     ·split at h2
      ·simp only[Bool.and_eq_true] at h2
       have:=hl _ h2.2
       exact⟨by omega,h10,by rw[this];decide⟩
      ·split at h2
       ·simp only[Bool.and_eq_true] at h2
        have:=hl _ h2.2
        exact⟨by omega,h10,by rw[this];simp⟩
       ·split at h2
        ·simp only[Bool.and_eq_true,Bool.or_eq_true] at h2
         rcases h2.2 with (q | q) | q
         all_goals (have:=hl _ q;exact⟨by omega,h10,by rw[this];decide⟩)
        ·cases h2
 ·rw[if_pos h10,Bool.and_eq_true] at h2
  exact h2.2
theorem I3{g:Bool}:∀ {l:List Sm} {names:List (List UInt8)},B5 g names l=true->names.Nodup->(names++BO l).Nodup
 | [],names,_,hn=>by simpa[BO] using hn
 |s::l,names,h,hn=>by
  rw[B5,Bool.and_eq_true] at h
  have e:BO (s::l)=(if s.kd=2 then [s.nm] else [])++BO l:=by
   unfold BO
   by_cases q:s.kd=2
   ·simp[q]
   ·simp[q]
  rw[e]
  by_cases q:s.kd=2
  ·rw[if_pos q] at h ⊢
   rw[<- List.append_assoc]
   refine I3 h.2 ?_
   have h1:=h.1
   rw[Om] at h1
   rw[if_neg (by omega),if_pos q] at h1
   simp only[Bool.and_eq_true,Bool.not_eq_true'] at h1
   have:s.nm ∉ names:=by
    have:=h1.2.1.1.1.2
    simpa using this
   rw[List.nodup_append]
   refine⟨hn,by simp,fun a ha b hb=>?_⟩
   rw[List.mem_singleton.1 hb]
   rintro rfl
   exact this ha
  ·rw[if_neg q] at h ⊢
   rw[List.nil_append]
   exact I3 h.2 hn
theorem BcE(l:List Sm)(i:Nat):∃r,BO l=BO (l.take i)++r:=by
 refine⟨BO (l.drop i),?_⟩
 unfold BO
 rw[<- List.map_append,<- List.filter_append,List.take_append_drop]
def scIn(sc:Scp):Prop:=(∀f∈sc,f.length<=1000000/\(nmF f).Nodup)/\sc.length<=900000
theorem Bkv(sc:Scp)(l:List Sm)(g:Bool)(hs:scIn sc)(hb:CA g l=true)(hn:∀f,WD (f::sc)->∀s∈l,(s.kd=3->VNd (f::sc) s.te)/\VNd (f::sc) s.nd):VBd sc l:=by
 intro x
 refine Bjx ?_
 by_cases he:l=[]
 ·subst he
  exact Bjn sc x _ rfl
 ·unfold CA at hb
  rw[Bool.and_eq_true,decide_eq_true_eq] at hb
  refine BjU sc x l ⟨he,hb.1⟩ hn (fun i hi f hf=>?_) _ rfl
  have hnd:=I3 hb.2 (by simp)
  rw[List.nil_append] at hnd
  obtain ⟨r,hr⟩:=BcE l i
  rw[hr] at hnd
  have hlen:f.length<=1000:=by
   have h1:=congrArg List.length hf
   have h2:(BO (l.take i)).length<=(l.take i).length:=by
    unfold BO
    rw[List.length_map]
    exact List.length_filter_le _ _
   rw[List.length_take] at h2
   simp only[nmF,List.length_map] at h1
   omega
  refine⟨fun f' hf'=>?_,by have:=hs.2;simp only[List.length_cons];omega,by simp⟩
  rcases List.mem_cons.1 hf' with rfl | hf'
  ·exact⟨by omega,by rw[hf];exact (List.nodup_append.1 hnd).1⟩
  ·exact hs.1 f' hf'
theorem Ia{g:Bool}:∀ {l:List Sm} {names:List (List UInt8)},B5 g names l=true->∀s∈l,BR s.nd=true/\(s.kd=3->BR s.te=true)
 |s::l,names,h,t,ht=>by
  rw[B5,Bool.and_eq_true] at h
  rcases List.mem_cons.1 ht with rfl | ht
  ·have h1:=h.1
   rw[Om] at h1
   simp only[Bool.and_eq_true] at h1
   refine⟨h1.1.2,fun q=>?_⟩
   have h2:=h1.2
   rw[if_neg (by omega),if_neg (by omega),if_pos q] at h2
   simp only[Bool.and_eq_true] at h2
   exact h2.1.1.1.1.2
  ·exact Ia h.2 t ht
theorem BbO(n:Nd)(hv:BR n=true)(f0:Frm1)(r0:Scp)(hs:WD (f0::r0))(hd:(f0::r0).length+dpN n<=900000):VNd (f0::r0) n:=by
 obtain ⟨h1,h2,h3⟩:=BbJ hv
 by_cases hk:n.ki=[]
 ·refine BlI f0 r0 n hk h1 hs fun h10=>?_
  have hb:=h3 h10
  have hb2:=hb
  unfold CA at hb2
  rw[Bool.and_eq_true] at hb2
  refine Bkv (f0::r0) n.bo true ⟨hs.1,by have:=Bay n;omega⟩ hb fun f hf s hsm=>?_
  have hmem:=Ia hb2.2 s hsm
  have hdp:∀x∈Bg s,dpN x<dpN n:=fun x hx=>by
   rw[Mv n]
   have:x∈BK n:=List.mem_append_right _ (List.mem_flatMap.2 ⟨s,hsm,hx⟩)
   have:=Mf this
   omega
  refine⟨fun q=>BbO s.te (hmem.2 q) f (f0::r0) hf ?_,BbO s.nd hmem.1 f (f0::r0) hf ?_⟩
  ·have:=hdp s.te (by unfold Bg;rw[if_pos q];simp)
   simp only[List.length_cons] at hd ⊢
   omega
  ·have:=hdp s.nd (by unfold Bg;split<;>simp)
   simp only[List.length_cons] at hd ⊢
   omega
 ·obtain ⟨q1,q2,q3⟩:=h2 hk
  refine BlL f0 r0 n ⟨hk,by omega⟩ h1 q1 q2 fun b hb=>BbO b ((Io hv).1 b hb) f0 r0 hs ?_
  have:b∈BK n:=List.mem_append_left _ hb
  have:=Mf this
  rw[Mv n] at hd
  omega
termination_by SizeOf.sizeOf n
decreasing_by
 ·have:=Nd.size_stmt hsm
  have:=Sm.size_te s
  omega
 ·have:=Nd.size_stmt hsm
  have:=Sm.size_nd s
  omega
 ·exact Nd.size_kid hb
theorem BlX(l:List Sm)(hr:BP l=0):VBd [] l:=by
 unfold BP at hr
 split at hr
 ·omega
 ·split at hr
  ·omega
  ·rename_i hdp
   split at hr
   ·omega
   ·split at hr
    ·rename_i hv
     rw[Bool.and_eq_true] at hv
     have hb:=hv.1
     have hb2:=hb
     unfold CA at hb2
     rw[Bool.and_eq_true] at hb2
     refine Bkv [] l false ⟨fun f hf=>(by cases hf),by simp⟩ hb fun f hf s hsm=>?_
     have hmem:=Ia hb2.2 s hsm
     have hdp2:∀x∈Bg s,dpN x<=60:=fun x hx=>by
      have h1:=Mf (List.mem_flatMap.2 ⟨s,hsm,hx⟩)
      rw[<- G4] at h1
      omega
     refine⟨fun q=>BbO s.te (hmem.2 q) f [] hf ?_,BbO s.nd hmem.1 f [] hf ?_⟩
     ·have:=hdp2 s.te (by unfold Bg;rw[if_pos q];simp)
      simp only[List.length_cons,List.length_nil]
      omega
     ·have:=hdp2 s.nd (by unfold Bg;split<;>simp)
      simp only[List.length_cons,List.length_nil]
      omega
    ·omega
def pgB(l:List Sm):List Sm:=match rvP l with
 |.ok z=>z.1
 |.error _=>[]
def pgN(l:List Sm):Int:=match rvP l with
 |.ok z=>z.2.length
 |.error _=>0
def pgF(l:List Sm):Flt:=match rvP l with
 |.ok _=>(0,0,[])
 |.error e=>e
def RK(e:Flt):D:=.agg [.int .i64 e.1,.int .i64 e.2.1,Ig,Ig,.str e.2.2]
def pgD(l:List Sm):D:=.tup [.agg [gsl 34 Sm.row1 (pgB l),.int .i64 (pgN l)],RK (pgF l)]
def _root_.Go.Ab.endPg(_l:List Sm)(X:Except Flt (List Sm×Frm1))(e:AEnd)(_:St):Prop:=match e with
 |.ret (.tup [u,d])=>(∃z,X=.ok z/\Bk u (.agg [gsl 34 Sm.row1 z.1,.int .i64 (z.2.length:Nat)])/\Bk d (RK (0,0,[])))\/∃e,X=.error e/\Bk u (.agg [Ig,.int .i64 0])/\Bk d (RK e)
 |_=>False
def Bd3(l:List Sm):Con:=fun k ds S=>match k with
 |20=>some (pA ds S (.int .i64 (BP l)) (ds=[.agg [gsl 34 Sm.row1 l]]))
 |_=>none
theorem Bce{l:List Sm}(hl:l.length<=BU)(ho:∀s∈l,s.ok)(hs:∀s∈l,s.sm):ConOk Tryz.prog (Bd3 l):=by
 intro k ds S A hh
 unfold Bd3 at hh
 split at hh
 ·injection hh with hh;subst hh
  exact Bs fun e=>by subst e;exact CD.at_ (Bkc l hl ho hs) _
 ·cases hh
theorem Bi8{E : Senv}{f : Nat}{A : Frm}{c : Code}{ds : List D}{S : St}{R : AEnd -> St -> Prop}{fr : Nat -> Option Frm}(hE : EnvOk E)(hF : FrmOk E.P fr)(hA : fr f=some A)(hc : A.fn.body=some c)(hl : Nat.ble ds.length A.n=true)
  (h:vcD (E.fit A E.inl) c 0 (Bb4 R E.tt A.fn.results.toList) (BdQ (Bjr E fr E.inl) R E.tt A.fn.results.toList) (BS 0 ds) S):ACalls E.P f ds S R:=by
 obtain ⟨hT,hC,hm,hi,hQ⟩:=hE
 obtain ⟨q1,q2,q3⟩:=hF f A hA
 exact Tt hT q1 hc q3 q2 (Nat.le_of_ble_eq_true hl) (BdT hT hC hm hF hQ hi) (Mj (E:=E.fit A E.inl) (RC hT hC hm hQ hi) c 0 _ _ _ _ h)
noncomputable def Epg(l:List Sm):Senv:={ E0 (Bd3 l) 0 0 [] (fun _=>([],[])) with auto:=true,inl:=inlV (Bd3 l) true [] }
def QmU:Nd:=Nd.mk Z0 Z0 Z0 [] Z0 Z0 DA [] [] Z0 Z0 Z0
def Qc1(a:List Sm)(b:Nat):List D:=Sm.row1 (List.getD a b (Sm.mk Z0 Z0 [] Z0 QmU QmU))
def Qc2(a:List Sm):D:=D.sl 34 (LN a) (fun i=>Qc1 a i) Mode.any
def Qta(a:List Sm):List D:=[D.agg [Qc2 a]]
def JT:Prop:=SM N0/\(∀(i:Nat),i<N0->Cw (List D) [] [])/\True
def QmV:Prop:=SM Z0/\JT/\JT/\Cw (List UInt8) [] []/\True
def QmW:Prop:=JT/\SM Z0/\True
def QmX(a:Int)(b:List UInt8):Prop:=Z0=a/\JT/\JT/\Cw (List UInt8) [] b/\True
def Qtb(a b:Int)(c:List UInt8):D:=D.agg [ZI a,ZI b,D.sl N1 N0 (fun _x=>[]) Mode.nil,D.sl N1 N0 (fun _x=>[]) Mode.nil,D.str c]
theorem BiG(l : List Sm)(hl : l.length<=BU)(ho : ∀s∈l, s.ok)(hs : ∀s∈l, s.sm)(X : Except Flt (List Sm×Frm1))(hX : X=rvP l) :
  ACalls Tryz.prog 8 [.agg [gsl 34 Sm.row1 l]] ⟨[],[]⟩ (Go.Ab.endPg l X):=by
 refine Bi8 (E:=Epg l) (fr:=Ee G3) ⟨Gn,Bce hl ho hs,mix,T4 (Bce hl ho hs) true [],Gx⟩ CR rfl rfl (by kernel_rfl) ?_
 refine Bj (T :=
  ∀(x:Nat),True->∀(x_1:Nat),x≠x_1/\True->∀(x_2:Nat),x_1≠x_2/\x≠x_2/\True->SM x/\∃(x_3:Unit),SM (Qta l)/\∀(y:Unit),True->ifB (BP l != Z0) (SM x_1/\SM x_2/\(SM x_1/\SM x_2/\True)/\((∃(z:List Sm×Frm1),X=Except.ok z/\(False/\Z0=(LI z.2)/\True)/\BP l=Z0/\QmV)\/∃(e:Flt),X=Except.error e/\QmW/\BP l=e.1/\QmX e.2.1 e.2.2)) (∀(x_4:Nat),x_2≠x_4/\x_1≠x_4/\x≠x_4/\True->SM x/\∃(bo:List Sm),(SM x_4/\SM D.nilp/\Qc2 l=Qc2 bo/\VBd [] bo)/\(∀(z:List Sm×Frm1),rvB [] [] bo=Except.ok z->SM x_1/\SM x_4/\SM x_1/\SM x_1/\SM x_1/\SM x_2/\(SM x_1/\SM x_2/\True)/\((∃(z_1:List Sm×Frm1),X=Except.ok z_1/\((LN z.1=LN z_1.1/\(∀(i:Nat),i<LN z.1->Qc1 z.1 i=Qc1 z_1.1 i)/\True)/\(LI (nmF z.2))=(LI z_1.2)/\True)/\SM Z0/\QmV)\/∃(e:Flt),X=Except.error e/\(False/\(LI (nmF z.2))=Z0/\True)/\Z0=e.1/\QmX e.2.1 e.2.2))/\∀(e:Flt),rvB [] [] bo=Except.error e->∀(o:AObj) (x_5:Nat),x_4≠x_5/\x_2≠x_5/\x_1≠x_5/\x≠x_5/\True->SM x_5/\SM x_5/\SM x_1/\(SM x_5/\SM (Qtb e.1 e.2.1 e.2.2))/\SM x_2/\(SM x_1/\SM x_2/\True)/\((∃(z:List Sm×Frm1),X=Except.ok z/\(False/\Z0=(LI z.2)/\True)/\e.1=Z0/\e.2.1=Z0/\JT/\JT/\Cw (List UInt8) e.2.2 []/\True)\/∃(e_1:Flt),X=Except.error e_1/\QmW/\e.1=e_1.1/\e.2.1=e_1.2.1/\JT/\JT/\e.2.2=e_1.2.2/\True))) (by kernel_rfl) ?_
 delta DA LI LN N0 N1 SM Z0 ZI QmU Qc1 Qc2 Qta JT QmV QmW QmX Qtb
 try simp only[<- dm]
 try simp only[<- dn]
 simp only[ne_eq,implies_true,Bh,true_and,and_true,bne_iff_ne,bne_eq_false_iff_eq,exists_const,forall_const,Prod.exists]
 intro _ _ _ _ _
 refine⟨fun h=>.inr ⟨BP l,0,[],hX.trans (by unfold rvP;rw[if_pos h]),rfl,rfl,rfl⟩,fun h=>fun _ _=>⟨l,⟨rfl,BlX l h⟩,fun z hz=>.inl ⟨z.1,z.2,hX.trans (by unfold rvP;rw[if_neg (by simp[h])];exact hz),⟨rfl,fun _ _=>rfl⟩,by simp[nmF]⟩,fun e he _ _ _=>.inr ⟨e.1,e.2.1,e.2.2,hX.trans (by unfold rvP;rw[if_neg (by simp[h])];exact he),rfl,rfl,rfl⟩⟩⟩
theorem Bhs{C:Ctx}{u u' d d':D}(hu:∀v,Rep C u v->Rep C u' v)(hd:∀v,Rep C d v->Rep C d' v)(v:Value)(h:Rep C (.tup [u,d]) v):Rep C (.tup [u',d']) v:=by
 simp only[Rep,RepL] at h ⊢
 obtain ⟨vs,e,x,xs,e1,r1,y,ys,e2,r2,e3⟩:=h
 exact⟨vs,e,x,xs,e1,hu x r1,y,ys,e2,hd y r2,e3⟩
theorem Bls:wkD Ig (gsl 34 Sm.row1 []):=by
 simp[Ig,gsl,wkD,Ba,M1,BB]
theorem Bim{k:Nat}{ds:List D}{l:List Sm}(hh:ACalls Tryz.prog k ds ⟨[],[]⟩ (Go.Ab.endPg l (rvP l))):CD k ds (pgD l):=by
 refine (ACalls.wkEnd hh (R':=fun r _=>r=.ret (pgD l)) fun r S' hr=>?_).to ?_
 ·refine⟨.ret (pgD l),fun C e he=>?_,rfl⟩
  unfold Go.Ab.endPg at hr
  split at hr
  ·rename_i u d
   cases e with
   |returned v =>
    refine Bhs ?_ ?_ v he
    ·rcases hr with ⟨z,hz,h1,h2⟩ | ⟨e,he2,h1,h2⟩
     ·unfold pgB pgN
      rw[hz]
      exact fun v=>Bl _ _ h1 C v
     ·unfold pgB pgN
      rw[he2]
      intro v hv
      refine Gk (.agg [Ig,.int .i64 0]) _ ?_ C v (Bl _ _ h1 C v hv)
      simp only[wkD,wkL]
      exact⟨Bls,BM _,trivial⟩
    ·rcases hr with ⟨z,hz,h1,h2⟩ | ⟨e,he2,h1,h2⟩
     ·unfold pgF
      rw[hz]
      exact fun v=>Bl _ _ h2 C v
     ·unfold pgF
      rw[he2]
      exact fun v=>Bl _ _ h2 C v
   |panicked _=>exact he.elim
   |outgrown=>exact he.elim
  ·exact hr.elim
 ·rintro r S' rfl
  exact⟨⟨[],[]⟩,fun C F w H=>H.le ⟨List.nil_sublist _,List.nil_sublist _⟩,(),trivial,rfl,rfl⟩
theorem BeC(l:List Sm)(hl:l.length<=BU)(ho:∀s∈l,s.ok)(hs:∀s∈l,s.sm):CD 8 [.agg [gsl 34 Sm.row1 l]] (pgD l) :=
 Bim (BiG l hl ho hs _ rfl)
theorem BaE{nm:List UInt8}:∀ {sc:Scp} {d i:Nat} {c:Int},Bp nm sc=some (d,i,c)->d<sc.length/\∃f∈sc,i<f.length
 | [],d,i,c,h=>by simp[Bp] at h
 |f::r,d,i,c,h=>by
  rw[Bp] at h
  cases hs:B3 nm f with
  |some x =>
   obtain ⟨j,c2⟩:=x
   rw[hs] at h
   simp only[Option.some.injEq,Prod.mk.injEq] at h
   obtain ⟨rfl,rfl,rfl⟩:=h
   exact⟨by simp,f,by simp,(Oz hs).1⟩
  |none =>
   rw[hs] at h
   simp only[Option.map_eq_some_iff,Prod.mk.injEq] at h
   obtain ⟨⟨d2,i2,c2⟩,h1,rfl,rfl,rfl⟩:=h
   obtain ⟨q1,f2,q2,q3⟩:=BaE h1
   exact⟨by simp only[List.length_cons];omega,f2,by simp[q2],q3⟩
theorem CI{n:Nat}(h:n<=1000000):BY (n:Int):=by unfold BY;omega
theorem BfW(f:Frm1)(s:Sm):(Ce f s).length<=f.length+1:=by unfold Ce;split<;>simp
mutual
theorem R7:∀(n:Nd) (sc:Scp) (m:Nd),rvN sc n=.ok m->BR n=true->(∀f∈sc,f.length<=1000000)->sc.length+dpN n<=1000000->n.ok->n.sm->m.ok/\m.sm
 |.mk kd at_ cl tx pr op va ki bo de sl ss,sc,m,h,hv,hf,hd,ho,hs=>by
  obtain ⟨ki',bo',de',sl',ss',rfl,hk,_,_,_,hc⟩:=Mo h
  have hkids:=Io hv
  have hst:=(Ct _ _ _ h).2
  have hl:bo'.length=bo.length:=by
   have:=congrArg List.length (congrArg Nd.bo hst)
   simpa only[stN,Nd.bo,TX] using this
  have hl2:ki'.length=ki.length:=by
   have:=congrArg List.length (congrArg Nd.ki hst)
   simpa only[stN,Nd.ki,Mx,List.length_map] using this
  have hd0:=hd
  rw[dpN] at hd
  have hd1:sc.length+dpL ki<=1000000:=Nat.le_trans (Nat.add_le_add_left (Nat.le_trans (Nat.le_max_left _ _) (Nat.le_add_left _ _)) _) hd
  have hd2:sc.length+1+dpB bo<=1000000:=Nat.le_trans (by rw[Nat.add_assoc];exact Nat.add_le_add_left (Nat.add_le_add_left (Nat.le_max_right _ _) _) _) hd
  have hd3:sc.length<=1000000:=Nat.le_trans (Nat.le_add_right _ _) hd
  clear hd hd0 hst
  simp only[Nd.ok] at ho
  simp only[Nd.sm] at hs
  obtain ⟨⟨o1,o2,o3,o4,o5,o6,o7,o8⟩,o9,o10,o11⟩:=ho
  obtain ⟨⟨s1,s2,s3⟩,s4,s5,s6⟩:=hs
  obtain ⟨k1,k2⟩:=Biv ki sc ki' hk hkids.1 hf hd1 o10 s5
  have hbo:GY bo'/\GM bo'/\BY ss':=by
   rcases hc with ⟨_,rfl,rfl,_⟩ | ⟨h10,_,_,f,hb,rfl⟩ | ⟨_,_,rfl,_,_,rfl⟩
   ·exact⟨o11,s6,CI (n:=0) (by omega)⟩
   ·have hbv:=(BbJ hv).2.2 h10
    unfold CA at hbv
    rw[Bool.and_eq_true,decide_eq_true_eq] at hbv
    obtain ⟨q1,q2,q3⟩:=Bcr bo sc [] bo' f hb (fun s hsm=>Ia hbv.2 s hsm) hf (by have:=hbv.1;simp only[Nd.bo] at this;simp only[List.length_nil];omega) hd2 o11 s6
    exact⟨q1,q2,CI q3⟩
   ·exact⟨o11,s6,CI (n:=0) (by omega)⟩
  have hdl:BY de'/\BY sl':=by
   rcases hc with ⟨_,_,_,d,i,hlk,rfl,rfl⟩ | ⟨_,rfl,rfl,_⟩ | ⟨_,_,_,rfl,rfl,_⟩
   ·obtain ⟨q1,f,q2,q3⟩:=BaE hlk
    have:=hf f q2
    exact⟨CI (by omega),CI (by omega)⟩
   ·exact⟨CI (n:=0) (by omega),CI (n:=0) (by omega)⟩
   ·exact⟨CI (n:=0) (by omega),CI (n:=0) (by omega)⟩
  simp only[Nd.ok,Nd.sm]
  exact⟨⟨⟨o1,o2,o3,o4,o5,hdl.1,hdl.2,hbo.2.2⟩,o9,k1,hbo.1⟩,⟨s1,by rw[hl2];exact s2,by rw[hl];exact s3⟩,s4,k2,hbo.2.1⟩
theorem Biv:∀(l:List Nd) (sc:Scp) (m:List Nd),rvL sc l=.ok m->(∀x∈l,BR x=true)->(∀f∈sc,f.length<=1000000)->sc.length+dpL l<=1000000->IA l->IC l->IA m/\IC m
 | [],sc,m,h,_,_,_,ho,hs=>by
  rw[rvL] at h;injection h with h;subst h;exact⟨ho,hs⟩
 |x::r,sc,m,h,hv,hf,hd,ho,hs=>by
  rw[rvL] at h
  cases hx:rvN sc x with
  |error e=>rw[hx] at h;cases h
  |ok y =>
   rw[hx] at h
   simp only at h
   cases hr:rvL sc r with
   |error e=>rw[hr] at h;cases h
   |ok s =>
    rw[hr] at h
    injection h with h;subst h
    simp only[dpL] at hd
    simp only[IA] at ho
    simp only[IC] at hs
    obtain ⟨a1,a2⟩:=R7 x sc y hx (hv x (by simp)) hf (by omega) ho.1 hs.1
    obtain ⟨b1,b2⟩:=Biv r sc s hr (fun z hz=>hv z (by simp[hz])) hf (by omega) ho.2 hs.2
    simp only[IA,IC]
    exact⟨⟨a1,b1⟩,a2,b2⟩
theorem Bcr:∀(l:List Sm) (sc:Scp) (f:Frm1) (m:List Sm) (g:Frm1),rvB sc f l=.ok (m,g)->(∀s∈l,BR s.nd=true/\(s.kd=3->BR s.te=true))->(∀f∈sc,f.length<=1000000)->f.length+l.length<=1000000->sc.length+1+dpB l<=1000000->GY l->GM l->GY m/\GM m/\g.length<=1000000
 | [],sc,f,m,g,h,_,_,hl,_,ho,hs=>by
  rw[rvB] at h;injection h with h;injection h with h1 h2;subst h1 h2
  simp only[List.length_nil] at hl
  exact⟨ho,hs,by omega⟩
 |x::r,sc,f,m,g,h,hv,hf,hl,hd,ho,hs=>by
  rw[rvB] at h
  cases hx:rvM sc f x with
  |error e=>rw[hx] at h;cases h
  |ok y =>
   rw[hx] at h
   simp only at h
   cases hr:rvB sc (Ce f y) r with
   |error e=>rw[hr] at h;cases h
   |ok z =>
    obtain ⟨s,g'⟩:=z
    rw[hr] at h
    injection h with h;injection h with h1 h2;subst h1 h2
    simp only[List.length_cons] at hl
    simp only[dpB] at hd
    simp only[GY] at ho
    simp only[GM] at hs
    have hfl:=BfW f y
    obtain ⟨a1,a2⟩:=BkH x sc f y hx (hv x (by simp)) hf (by omega) (by omega) ho.1 hs.1
    obtain ⟨b1,b2,b3⟩:=Bcr r sc (Ce f y) s g' hr (fun z hz=>hv z (by simp[hz])) hf (by omega) (by omega) ho.2 hs.2
    simp only[GY,GM]
    exact⟨⟨a1,b1⟩,⟨a2,b2⟩,b3⟩
theorem BkH:∀(s:Sm) (sc:Scp) (f:Frm1) (m:Sm),rvM sc f s=.ok m->(BR s.nd=true/\(s.kd=3->BR s.te=true))->(∀f∈sc,f.length<=1000000)->f.length<=1000000->sc.length+1+dpM s<=1000000->s.ok->s.sm->m.ok/\m.sm
 |.mk kd at_ nm sl te nd,sc,f,m,h,hv,hf,hl,hd,ho,hs=>by
  rw[rvM] at h
  simp only[Sm.ok] at ho
  simp only[Sm.sm] at hs
  simp only[Sm.nd,Sm.te,Sm.kd] at hv
  have hf2:∀f'∈f::sc,f'.length<=1000000:=fun f' hf'=>by
   rcases List.mem_cons.1 hf' with rfl | hf'
   ·exact hl
   ·exact hf f' hf'
  rw[dpM] at hd
  by_cases h3:kd=3
  ·rw[if_pos h3] at h hd
   cases ht:rvN (f::sc) te with
   |error e=>rw[ht] at h;cases h
   |ok te' =>
    rw[ht] at h
    simp only at h
    cases hn:rvN (f::sc) nd with
    |error e=>rw[hn] at h;cases h
    |ok nd' =>
     rw[hn] at h
     injection h with h;subst h
     obtain ⟨a1,a2⟩:=R7 te (f::sc) te' ht (hv.2 h3) hf2 (by simp only[List.length_cons];omega) ho.2.1 hs.2.1
     obtain ⟨b1,b2⟩:=R7 nd (f::sc) nd' hn hv.1 hf2 (by simp only[List.length_cons];omega) ho.2.2 hs.2.2
     simp only[Sm.ok,Sm.sm]
     exact⟨⟨⟨ho.1.1,ho.1.2.1,CI (n:=0) (by omega)⟩,a1,b1⟩,hs.1,a2,b2⟩
  ·rw[if_neg h3] at h hd
   cases hn:rvN (f::sc) nd with
   |error e=>rw[hn] at h;cases h
   |ok nd' =>
    rw[hn] at h
    injection h with h;subst h
    obtain ⟨b1,b2⟩:=R7 nd (f::sc) nd' hn hv.1 hf2 (by simp only[List.length_cons];omega) ho.2.2 hs.2.2
    simp only[Sm.ok,Sm.sm]
    refine⟨⟨⟨ho.1.1,ho.1.2.1,?_⟩,ho.2.1,b1⟩,hs.1,hs.2.1,b2⟩
    by_cases h2:kd=2
    ·rw[if_pos h2];exact CI hl
    ·rw[if_neg h2];exact CI (n:=0) (by omega)
end
theorem BdX(l:List Sm):okS l↔l.length<=BU/\GY l/\GM l:=by
 unfold okS
 rw[Mu,G8]
theorem Bij{l:List Sm}(h:okS l):okS (pgB l)/\BY (pgN l):=by
 unfold pgB pgN
 cases hp:rvP l with
 |error e =>
  exact⟨⟨Nat.zero_le _,fun s hs=>(by cases hs),fun s hs=>(by cases hs)⟩,CI (n:=0) (by omega)⟩
 |ok z =>
  obtain ⟨b,f⟩:=z
  have hag:=W4 hp
  have hlen:b.length=l.length:=by have:=congrArg List.length hag.2.2;simpa using this
  unfold rvP at hp
  split at hp
  ·cases hp
  ·rename_i hr
   have hr:BP l=0:=by simpa using hr
   unfold BP at hr
   split at hr
   ·omega
   ·split at hr
    ·omega
    ·rename_i q1 q2
     split at hr
     ·omega
     ·split at hr
      ·rename_i hv
       rw[Bool.and_eq_true] at hv
       have hb:=hv.1
       unfold CA at hb
       rw[Bool.and_eq_true] at hb
       obtain ⟨o1,o2,o3⟩:=(BdX l).1 h
       obtain ⟨a1,a2,a3⟩:=Bcr l [] [] b f hp (fun s hs=>Ia hb.2 s hs) (fun f hf=>(by cases hf)) (by simp only[List.length_nil];omega) (by simp only[List.length_nil];omega) o2 o3
       exact⟨(BdX b).2 ⟨by rw[hlen];exact o1,a1,a2⟩,CI a3⟩
      ·omega
noncomputable def Bcc(b:List Sm)(n:Int):Bool:=decide (n=pgN b)&&Bw (b.map exM) ((pgB b).map exM)
noncomputable def rtU(b:List Sm)(n:Int):Int:=if BP b≠0 then BP b else if (pgF b).1≠0 then 11 else if Bcc b n=true then 0 else 11
def unD(b:List Sm)(n:Int):D:=.agg [gsl 34 Sm.row1 b,.int .i64 n]
noncomputable def BhG(b:List Sm)(n:Int):Con:=fun k ds S=>match k with
 |20=>some (pA ds S (.int .i64 (BP b)) (ds=[.agg [gsl 34 Sm.row1 b]]))
 |8=>some (pA ds S (pgD b) (ds=[.agg [gsl 34 Sm.row1 b]]))
 |15=>some (pA ds S (.bool (Bcc b n)) (ds=[unD b n,unD (pgB b) (pgN b)]))
 |_=>none
theorem BgP{b:List Sm}(hb:okS b)(n:Int):ConOk Tryz.prog (BhG b n):=by
 intro k ds S A hh
 unfold BhG at hh
 split at hh
 ·injection hh with hh;subst hh
  exact Bs fun e=>by subst e;exact CD.at_ (Bkc b hb.1 hb.2.1 hb.2.2) _
 ·injection hh with hh;subst hh
  exact Bs fun e=>by subst e;exact CD.at_ (BeC b hb.1 hb.2.1 hb.2.2) _
 ·injection hh with hh;subst hh
  exact Bs fun e=>by subst e;exact CD.at_ (BkT b (pgB b) n (pgN b) hb (Bij hb).1) _
 ·cases hh
noncomputable def Eru(b:List Sm)(n:Int):Senv:={ EC (BhG b n) 29 7 [13,28] (fun _=>([],[])) with mg:=fun _=>2 }
def QmY:Nd:=Nd.mk Z0 Z0 Z0 [] Z0 Z0 DA [] [] Z0 Z0 Z0
def QmZ:Sm:=Sm.mk Z0 Z0 [] Z0 QmY QmY
def Qm0(a:List Sm):D:=D.sl 34 (LN a) (fun i=>Sm.row1 (List.getD a i QmZ)) Mode.any
def Qtc(a:List Sm):List D:=[D.agg [Qm0 a]]
def Qm1(a:List Sm):Prop:=SM (Qtc a)
def Qm2(a:List Sm)(b:Int):Prop:=True/\∃(_y:Unit),True/\(11:Int)=rtU a b/\True/\True
def Qtd(a:List Sm)(b:Int):List D:=[D.agg [Qm0 a,ZI b],D.agg [D.sl 34 (LN (pgB a)) (fun i=>Sm.row1 (List.getD (pgB a) i QmZ)) Mode.any,ZI (pgN a)]]
theorem Bku(b:List Sm)(n:Int)(hb:okS b):CD 13 [unD b n] (.int .i64 (rtU b n)):=by
 refine Bi (A:=sC _ _) (x:=()) (E:=Eru b n) (eOk (BgP hb n) rfl) Tryz.func13 rfl (by kernel_rfl) rfl (by simp[sC,Eru,EC,E0]) ?_
 refine Bj (T :=
  ∀(x:Nat),True->SM x/\∀(x_1:Nat),x≠x_1/\True->SM x_1/\SM x_1/\∃(x_2:Unit),Qm1 b/\∀(y:Unit),True->ifB (BP b != Z0) (RT (BP b=rtU b n)) (SM x_1/\∃(x_3:Unit),Qm1 b/\∀(y:Unit),True->∀(x_4:Nat),x_1≠x_4/\x≠x_4/\True->∀(x_5:Nat),x_4≠x_5/\x_1≠x_5/\x≠x_5/\True->SM x_4/\SM x_5/\SM x_5/\ifB (Prod.fst (pgF b) != Z0) (Qm2 b n) (SM x/\SM x_4/\∃(x:Unit),SM (Qtd b n)/\∀(y:Unit),True->ifB (!Bcc b n) (Qm2 b n) (RT (Z0=rtU b n))))) (by kernel_rfl) ?_
 delta DA LN SM Z0 ZI QmY QmZ Qm0 Qtc Qm1 Qm2 Qtd RT
 try simp only[<- dm]
 try simp only[<- dn]
 simp only[ne_eq,Bh,true_and,and_true,bne_iff_ne,bne_eq_false_iff_eq,Bool.not_eq_true',Bool.not_eq_false',exists_const,forall_const]
 exact fun _ _ _=>⟨fun h=>by rw[rtU,if_pos h],fun h _ _ _ _=>⟨fun h2=>by rw[rtU,if_neg (by simp[h]),if_pos h2],fun h2=>⟨fun h3=>by rw[rtU,if_neg (by simp[h]),if_neg (by simp[h2]),if_neg (by simp[h3])],fun h3=>by rw[rtU,if_neg (by simp[h]),if_neg (by simp[h2]),if_pos h3]⟩⟩⟩
def Cb(sc:Scp)(i:Nat):List D:=[ssl (nmF (sc.reverse.getD i [])) .any]
def B8(sc:Scp)(i:Nat):List D:=[isl (clF (sc.reverse.getD i [])) .any]
def scC(sc:Scp):List D:=[.sl 1 sc.length (Cb sc) .any,.sl 1 sc.length (B8 sc) .any]
def MQ(i:Nat)(x:Option (Nat×Int)):Option (Nat×Int):=x.map fun x=>(x.1+i,x.2)
structure LkO (nm:List UInt8) (sc:Scp) (d:Nat):Prop where
 le:d<=sc.length
 eq:Bp nm sc=Gz d (Bp nm (sc.drop d))
structure LkI (nm:List UInt8) (f:Frm1) (i:Nat):Prop where
 le:i<=f.length
 eq:B3 nm f=MQ i (B3 nm (f.drop i))
def Wy:D->Nat
 |.int _ z=>z.toNat
 |_=>0
mutual
theorem TY:∀(n:Nd) (sc:Scp) (e:Flt),rvN sc n=.error e->e.1≠0
 |.mk kd at_ cl tx pr op va ki bo de sl ss,sc,e,h=>by
  rw[rvN] at h
  cases hk:rvL sc ki with
  |error e' =>
   rw[hk] at h
   injection h with h
   subst h
   exact BdR ki sc _ hk
  |ok ki' =>
   rw[hk] at h
   simp only at h
   split at h
   ·split at h
    ·injection h with h
     subst h
     show (28:Int)≠0
     decide
    ·split at h
     ·cases h
     ·injection h with h
      subst h
      show (11:Int)≠0
      decide
   ·split at h
    ·cases hb:rvB sc [] bo with
     |error e' =>
      rw[hb] at h
      injection h with h
      subst h
      exact TV bo sc [] _ hb
     |ok z=>rw[hb] at h;cases h
    ·cases h
theorem BdR:∀(l:List Nd) (sc:Scp) (e:Flt),rvL sc l=.error e->e.1≠0
 | [],sc,e,h=>by rw[rvL] at h;cases h
 |x::r,sc,e,h=>by
  rw[rvL] at h
  cases hx:rvN sc x with
  |error e' =>
   rw[hx] at h
   injection h with h
   subst h
   exact TY x sc _ hx
  |ok y =>
   rw[hx] at h
   simp only at h
   cases hr:rvL sc r with
   |error e' =>
    rw[hr] at h
    injection h with h
    subst h
    exact BdR r sc _ hr
   |ok s=>rw[hr] at h;cases h
theorem TV:∀(l:List Sm) (sc:Scp) (f:Frm1) (e:Flt),rvB sc f l=.error e->e.1≠0
 | [],sc,f,e,h=>by rw[rvB] at h;cases h
 |x::r,sc,f,e,h=>by
  rw[rvB] at h
  cases hx:rvM sc f x with
  |error e' =>
   rw[hx] at h
   injection h with h
   subst h
   exact BjZ x sc f _ hx
  |ok y =>
   rw[hx] at h
   simp only at h
   cases hr:rvB sc (Ce f y) r with
   |error e' =>
    rw[hr] at h
    injection h with h
    subst h
    exact TV r sc _ _ hr
   |ok s=>rw[hr] at h;cases h
theorem BjZ:∀(s:Sm) (sc:Scp) (f:Frm1) (e:Flt),rvM sc f s=.error e->e.1≠0
 |.mk kd at_ nm sl te nd,sc,f,e,h=>by
  rw[rvM] at h
  split at h
  ·cases hx:rvN (f::sc) te with
   |error e' =>
    rw[hx] at h
    injection h with h
    subst h
    exact TY te (f::sc) _ hx
   |ok y =>
    rw[hx] at h
    simp only at h
    cases hr:rvN (f::sc) nd with
    |error e' =>
     rw[hr] at h
     injection h with h
     subst h
     exact TY nd (f::sc) _ hr
    |ok s=>rw[hr] at h;cases h
  ·cases hr:rvN (f::sc) nd with
   |error e' =>
    rw[hr] at h
    injection h with h
    subst h
    exact TY nd (f::sc) _ hr
   |ok s=>rw[hr] at h;cases h
end
def ansN(x:Except Flt Nd)(r:AEnd):Prop:=match x with
 |.ok m=>r=.ret (.tup [.agg m.row1,RK (0,0,[])])
 |.error e=>∃m:Nd,r=.ret (.tup [.agg m.row1,RK e])
def VRn(sc:Scp)(n:Nd):Prop:=CZ 49 [.agg (scC sc),.agg n.row2] (ansN (rvN sc n))
theorem VRn.down{sc:Scp}{n:Nd}(h:VRn sc n):CZ 49 [.agg (scC sc),.agg n.row1] (ansN (rvN sc n)):=by
 refine CZ.wk h ?_
 simp only[wkL]
 exact⟨Bb _,by simp only[wkD];exact GC n,trivial⟩
structure KJ (sc:Scp) (ki cur:List Nd) (i:Nat):Prop where
 len:cur.length=i
 le:i<=ki.length
 tot:rvL sc ki=BeO cur (rvL sc (ki.drop i))
theorem KJ.zero(sc:Scp)(ki:List Nd):KJ sc ki [] 0:=⟨rfl,Nat.zero_le _,by
 rw[List.drop_zero]
 cases rvL sc ki<;>rfl⟩
theorem KJ.err{sc:Scp}{ki cur:List Nd}{i:Nat}(h:KJ sc ki cur i)(hi:i<ki.length){e:Flt}(he:rvN sc (ki.getD i default)=.error e):rvL sc ki=.error e:=by
 rw[h.tot,Bt hi,rvL,he]
 rfl
theorem KJ.ok{sc:Scp}{ki cur:List Nd}{i:Nat}(h:KJ sc ki cur i)(hi:i<ki.length){m:Nd}(he:rvN sc (ki.getD i default)=.ok m):KJ sc ki (cur++[m]) (i+1):=by
 refine⟨by rw[List.length_append,h.len];rfl,hi,?_⟩
 rw[h.tot,Bt hi,rvL,he]
 cases rvL sc (ki.drop (i+1)) with
 |ok l=>simp[BeO]
 |error e=>rfl
theorem KJ.done{sc:Scp}{ki cur:List Nd}{i:Nat}(h:KJ sc ki cur i)(hi:¬i<ki.length):rvL sc ki=.ok cur:=by
 have:i=ki.length:=by have:=h.le;omega
 rw[h.tot,this,List.drop_length,rvL]
 simp[BeO]
structure BJ (sc:Scp) (l out:List Sm) (f:Frm1) (i:Nat):Prop where
 len:out.length=i
 le:i<=l.length
 fl:f.length<=i
 tot:rvB sc [] l=BfS out (rvB sc f (l.drop i))
theorem BJ.zero(sc:Scp)(l:List Sm):BJ sc l [] [] 0:=⟨rfl,Nat.zero_le _,Nat.le_refl _,by
 rw[List.drop_zero]
 cases rvB sc [] l<;>rfl⟩
theorem BJ.err{sc:Scp}{l out:List Sm}{f:Frm1}{i:Nat}(h:BJ sc l out f i)(hi:i<l.length){e:Flt}(he:rvM sc f (l.getD i default)=.error e):rvB sc [] l=.error e:=by
 rw[h.tot,Bt hi,rvB,he]
 rfl
theorem BJ.ok{sc:Scp}{l out:List Sm}{f:Frm1}{i:Nat}(h:BJ sc l out f i)(hi:i<l.length){t:Sm}(he:rvM sc f (l.getD i default)=.ok t):BJ sc l (out++[t]) (Ce f t) (i+1):=by
 refine⟨by rw[List.length_append,h.len];rfl,hi,?_,?_⟩
 ·have:=h.fl
  unfold Ce
  split
  ·rw[List.length_append];simpa using this
  ·omega
 ·rw[h.tot,Bt hi,rvB,he]
  simp only
  cases rvB sc (Ce f t) (l.drop (i+1)) with
  |ok z=>simp[BfS]
  |error e=>rfl
theorem BJ.done{sc:Scp}{l out:List Sm}{f:Frm1}{i:Nat}(h:BJ sc l out f i)(hi:¬i<l.length):rvB sc [] l=.ok (out,f):=by
 have:i=l.length:=by have:=h.le;omega
 rw[h.tot,this,List.drop_length,rvB]
 simp[BfS]
theorem Bda(b:List Sm)(n:Int):(decide (n=n)&&Bw (b.map exM) (b.map exM))=true:=by
 rw[decide_eq_true rfl,BN.2 rfl]
 rfl
theorem Ble{l:List Sm}(h:(pgF l).1=0):rvP l=.ok (pgB l,(match rvP l with | .ok z=>z.2 | .error _=>[])):=by
 unfold pgF at h
 unfold pgB
 cases hx:rvP l with
 |ok z=>rfl
 |error e =>
  rw[hx] at h
  simp only at h
  unfold rvP at hx
  split at hx
  ·rename_i q
   injection hx with hx
   subst hx
   exact absurd h q
  ·exact absurd h (TV _ _ _ _ hx)
theorem BhH{l:List Sm}(h:(pgF l).1=0):BP (pgB l)=0/\pgB (pgB l)=pgB l/\pgN (pgB l)=pgN l/\pgF (pgB l)=(0,0,[])/\(pgB l).map stM=l.map stM:=by
 have h0:=Ble h
 obtain ⟨h1,h2,h3⟩:=W4 h0
 refine⟨h1,?_,?_,?_,h3⟩
 ·rw[pgB,h2]
 ·rw[pgN,h2,pgN,h0]
 ·rw[pgF,h2]
end
end Go.Proofs.YtfbfnhbafjmnaaaGreat
