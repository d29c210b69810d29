/- Functions of the given program and what each of them computes: lemmas towards the statement, their conditions stated with each of them. -/
import Derived.Test.YtnlplccjbojloaaGreatDoorS3
namespace Go.Proofs.YtnlplccjbojloaaGreatDoor
open Go Go.Ab
set_option maxRecDepth 100000
noncomputable section
def sAt(q:Arr->Prop):FnSpec where
 β:=Arr
 α:=Unit
 args:=fun a=>[.agg a.row2,.int .i64 0]
 st:=fun _=>⟨[],[]⟩
 pre:=q
 post:=fun _ _=>True
 res:=fun a _=>.ret (.agg (atA a 0).row1)
 out:=fun _ _=>⟨[],[]⟩
def BgA(a:Arr)(q:Arr->Prop):Con:=fun k ds S=>match k with
 |121=>some (sRc Arr.row1 q (fun b=>.str (By b)))
 |138=>some (sRc Arr.row2 (fun b=>b=a) (fun b=>.str (E8 b.k b.nu (b.it.map By))))
 |139=>some (sRc Arr.row2 (fun b=>b=a) (fun b=>.agg (Er b.k).row1))
 |140=>some (sAt (fun b=>b=a/\a.nu.length+a.it.length=1))
 |141=>match ds with
  | [.sl 1 n f m]=>some (pC [.sl 1 n f m] (.str (CZ (Bj n f))) (IntsP n f/\n<=1099511627776/\∀z∈Bj n f,Bt z))
  |_=>none
 |137=>match ds with
  | [.sl 1 n f m]=>some (pC [.sl 1 n f m] (.str (Lib.join (B5 n f) [32])) (Gx n f=true/\GG (B5 n f) [32]))
  |_=>none
 |k=>OM k ds S
theorem BqN(x y:List UInt8):Lib.join [x,y] [32]=x++32::y:=by rw[B7];simp[jT]
theorem Bqv(x y z:List UInt8):Lib.join [x,y,z] [32]=x++(32::(y++32::z)):=by rw[B7];simp[jT]
theorem Bqt(x y:List UInt8):B5 2 (fun i=>[D.str ([x,y].getD i [])])=[x,y]:=rfl
theorem Bp7(x y z:List UInt8):B5 3 (fun i=>[D.str ([x,y,z].getD i [])])=[x,y,z]:=rfl
theorem BpU(x y:List UInt8):Gx 2 (fun i=>[D.str ([x,y].getD i [])])=true:=rfl
theorem BpW(x y z:List UInt8):Gx 3 (fun i=>[D.str ([x,y,z].getD i [])])=true:=rfl
theorem Bp3(z:Int):Bj 1 (fun i=>[[D.int .i64 z]].getD i [])=[z]:=rfl
theorem Bow(z:Int):IntsP 1 (fun i=>[[D.int .i64 z]].getD i []):=fun i hi=>by
 have:i=0:=by omega
 subst this;rfl
theorem BdB{k:Int}(h:k=1\/k=2\/k=3):By (Er k)=Wi k:=by
 rcases h with rfl | rfl | rfl
 ·rfl
 ·rfl
 ·rfl
theorem Bao(k:Int)(n:List Int)(is:List Arr):By (.mk k [] n is)=CC k n (is.map By):=by
 rw[By,ML,Mx,if_pos List.length_nil]
theorem Bel{a:Arr}(kd:a.k=1\/a.k=2\/a.k=3)(bx:a.k=3->a.nu=[])(h:a.nu.length+a.it.length=1):By (atA a 0)=CC a.k a.nu (a.it.map By):=by
 unfold atA
 by_cases h3:a.k=3
 ·rw[if_pos h3,Bao,h3]
  cases hi:a.it with
  |nil=>rw[bx h3,hi] at h;simp at h
  |cons x l=>rfl
 ·rw[if_neg h3,Bao,CC,CC]
  by_cases h1:a.k=1
  ·rw[if_pos h1,if_pos h1];rfl
  ·rw[if_neg h1,if_neg h1,if_pos (by omega),if_pos (by omega)];rfl
noncomputable def Elf(a:Arr)(q:Arr->Prop):Senv:=EC (BgA a q) 90 5 [12,27,43,55,71,74,79] (fun _=>([],[]))
def JG(a:Arr):Nat:=LN (Arr.sh a)
def ZW(a:Arr):Bool:=(NI (JG a))==Z0
def JQ(a:Arr):Int:=Arr.k a
def Qi4(a:Arr):Bool:=bif ZW a then JQ a==Z1 else false
def Qcr(a:Arr):List Int:=Arr.nu a
def Vv(a:Arr):Nat:=LN (Qcr a)
def Qi5(a:Arr):Int:=(NI (Vv a))
def Qi6(a:Arr):Int:=GI (Qcr a) N0
def Vw(a:Arr):List UInt8:=By a
def Qcs(a:Arr):Bool:=JQ a==2
def Qi7(a:Arr):Bool:=bif ZW a then Qcs a else false
def Qwf(a:Arr)(b:Nat):List D:=List.getD [[ZI (Qi6 a)]] b []
def Qwg(a:Arr):List Int:=Bj N1 fun i=>Qwf a i
def Qct(a:Arr):List Arr:=Arr.it a
def J8(a:Arr):Nat:=LN (Qct a)
def Yb:Arr:=DA
def Qcu(a:Arr):Arr:=List.getD (Qct a) N0 Yb
def Qwh(a:Arr):List Int:=Arr.sh (Qcu a)
def Qwi(a:Arr):Nat:=LN (Qwh a)
def Xb(a:Arr)(b:Nat):List D:=[ZI (GI (Arr.sh a) b)]
def Qwj(a:Arr):List Int:=Arr.nu (Qcu a)
def Qwk(a:Arr):Nat:=LN (Qwj a)
def ZX(a:Arr)(b:Nat):List D:=[ZI (GI (Qcr a) b)]
def Qwl(a:Arr):List Arr:=Arr.it (Qcu a)
def Qwm(a:Arr):Nat:=LN (Qwl a)
def ZY(a:Arr)(b:Nat):Arr:=List.getD (Qct a) b Yb
def Qi8(a:Arr)(b:Nat):List D:=Arr.row (ZY a b)
def Qwn(a:Arr)(b:Nat):List D:=[D.str (List.getD [[(98:UInt8),(111:UInt8),(120:UInt8)],Vw a] b [])]
def Qwo(a:Arr):List (List UInt8):=B5 N2 fun i=>Qwn a i
def Qwp(a:Arr):Bool:=(NI (JG a))==Z1
def Qi9(a:Arr):Int:=IntKind.wrap IntKind.i64 (Qi5 a+(NI (J8 a)))
def Qwq(a:Arr):Bool:=decide (Z1<Qi9 a)
def Qcv(a:Arr):Bool:=bif Qwp a then bif Qcs a then true else Qwq a else false
def QPK(a:Arr)(b:Nat):List Int:=Arr.sh (ZY a b)
def QPL(a:Arr)(b:Nat):List Int:=Arr.nu (ZY a b)
def Qwr(a:Arr)(b:Nat):List Arr:=Arr.it (ZY a b)
def Qws(a:Arr)(b:Nat):List D:=[ZI (Arr.k (ZY a b)),SI (QPK a b),SI (QPL a b),D.sl N4 (LN (Qwr a b)) (fun i=>Arr.row (List.getD (Qwr a b) i Yb)) Mode.any]
def Qwt(a b:Arr):Prop:=JQ a=JQ b/\(JG a=JG b/\(∀(i:Nat),i<JG a->Xb a i=Xb b i)/\True)/\(Vv a=Vv b/\(∀(i:Nat),i<Vv a->ZX a i=ZX b i)/\True)/\(J8 a=J8 b/\(∀(i:Nat),i<J8 a->Qws a i=Qws b i)/\True)/\True
def Qja(a b:Arr):Prop:=Qwt a b/\True
def Qwu(a:Arr):List UInt8:=E8 (JQ a) (Qcr a) (List.map By (Qct a))
def Qcw(a:Arr):Arr:=Er (JQ a)
def Qwv(a:Arr):List Int:=Arr.sh (Qcw a)
def Qww(a:Arr):Nat:=LN (Qwv a)
def Qwx(a:Arr):List Int:=Arr.nu (Qcw a)
def Qwy(a:Arr):Nat:=LN (Qwx a)
def Qwz(a:Arr):List Arr:=Arr.it (Qcw a)
def QwA(a:Arr):Nat:=LN (Qwz a)
def QwB(a:Arr):List Int:=Bj (JG a) fun i=>Xb a i
def QwC(a:Arr):Prop:=(IntsP (JG a) fun i=>Xb a i)/\JG a<=1099511627776/\∀(z:Int),z∈QwB a->Bt z
def QwD(a:Arr):List UInt8:=CZ (QwB a)
def QwE(a b:Arr)(c:Nat):List D:=[D.str (List.getD [QwD a,[(114:UInt8),(101:UInt8),(115:UInt8),(104:UInt8),(97:UInt8),(112:UInt8),(101:UInt8)],Vw b] c [])]
def QwF(a b:Arr):List (List UInt8):=B5 (3:Nat) fun i=>QwE a b i
def QwG(a:Arr->Prop)(b:Arr)(c:Nat)(d:Arr):Prop:=(True/\True)/\a b/\∀(_y:Unit),True->SM c/\QwC d/\∀(_y:Unit),True->((Gx (3:Nat) fun i=>QwE d b i)=true/\GG (QwF d b) [(32:UInt8)])/\∀(_y:Unit),True->True/\∃(_y:Unit),True/\Lib.join (QwF d b) [(32:UInt8)]=Vw d/\True/\True
def Qcx(a:Arr):Arr:=atA a N0
def QwH(a:Arr):List Int:=Arr.sh (Qcx a)
def QwI(a:Arr):Nat:=LN (QwH a)
def QwJ(a:Arr):List Int:=Arr.nu (Qcx a)
def QwK(a:Arr):Nat:=LN (QwJ a)
def QwL(a:Arr):List Arr:=Arr.it (Qcx a)
def QwM(a:Arr):Nat:=LN (QwL a)
def QwN(a b:Arr)(c:Nat):List D:=[D.str (List.getD [QwD a,[(114:UInt8),(101:UInt8),(115:UInt8),(104:UInt8),(97:UInt8),(112:UInt8),(101:UInt8)],Qwu b] c [])]
def QwO(a b:Arr):List (List UInt8):=B5 (3:Nat) fun i=>QwN a b i
theorem Ww(a : Arr)(q : Arr -> Prop)(ho : LOk a)(hi : ∀b∈a.it, q b)(h0 : a.sh.length≠0 -> a.nu.length+a.it.length=0 -> q (Er a.k))(h1 : a.sh.length≠0 -> a.nu.length+a.it.length=1 -> q (atA a 0))(hc : ConOk Tryz.prog (BgA a q)) :
  ACalls Tryz.prog 121 ((sRc Arr.row2 (fun _=>True) (fun b=>.str (By b))).args a) ⟨[],[]⟩ (SpecR (sRc Arr.row2 (fun _=>True) (fun b=>.str (By b))) a):=by
 refine Bg (A:=sRc Arr.row2 (fun _=>True) (fun b=>.str (By b))) (x:=a) (E:=Elf a q) (eOk hc rfl) Tryz.func121 rfl (by kernel_rfl) rfl (by simp[sRc,Elf,EC,E0]) ?_
 refine Bi (T :=
  ∀(x:Nat),True->SM x/\SM x/\(SM x/\ifB (ZW a) (SM x/\(JQ a==Z1)=Qi4 a/\True) (false=Qi4 a/\True))/\ifB (Qi4 a) (SM x/\Bc (Z0<=Z0/\Z0<Qi5 a) (Bt (Qi6 a)/\∀(y:Unit),True->RT (BA (Qi6 a)=Vw a))) ((SM x/\ifB (ZW a) (SM x/\Qcs a=Qi7 a/\True) (false=Qi7 a/\True))/\ifB (Qi7 a) (SM x/\Bc (Z0<=Z0/\Z0<Qi5 a) ((N1<=1099511627776/\(IntsP N1 fun i=>Qwf a i)/\∀(c:Int),c∈Qwg a->Z0<=c/\c<=1114111)/\∀(y:Unit),True->RT (IB (39:Int) (Qwg a)=Vw a))) (SM x/\ifB (ZW a) (SM x/\Bc (Z0<=Z0/\Z0<(NI (J8 a))) (∃(x:Arr),((Arr.k (Qcu a)=JQ x/\(Qwi a=JG x/\(∀(i:Nat),i<Qwi a->[ZI (GI (Qwh a) i)]=Xb x i)/\True)/\(Qwk a=Vv x/\(∀(i:Nat),i<Qwk a->[ZI (GI (Qwj a) i)]=ZX x i)/\True)/\(Qwm a=J8 x/\(∀(i:Nat),i<Qwm a->Arr.row (List.getD (Qwl a) i Yb)=Qi8 x i)/\True)/\True)/\True)/\(True/\True)/\q x/\∀(y:Unit),True->((Gx N2 fun i=>Qwn x i)=true/\GG (Qwo x) [(32:UInt8)])/\∀(y:Unit),True->RT (Lib.join (Qwo x) [(32:UInt8)]=Vw a))) ((SM x/\ifB (Qwp a) (SM x/\ifB (Qcs a) (true=Qcv a/\True) (Qwq a=Qcv a/\True)) (false=Qcv a/\True))/\ifB (Qcv a) (SM x/\∃(x:Arr),Qja a x/\(True/\True)/\x=a/\∀(y:Unit),True->RT (Qwu x=Vw a)) (ifB (Qi9 a==Z0) (SM x/\∃(x_1:Arr),Qja a x_1/\(True/\True)/\x_1=a/\∀(y:Unit),True->∃(x_2:Arr),((Arr.k (Qcw x_1)=JQ x_2/\(Qww x_1=JG x_2/\(∀(i:Nat),i<Qww x_1->[ZI (GI (Qwv x_1) i)]=Xb x_2 i)/\True)/\(Qwy x_1=Vv x_2/\(∀(i:Nat),i<Qwy x_1->[ZI (GI (Qwx x_1) i)]=ZX x_2 i)/\True)/\(QwA x_1=J8 x_2/\(∀(i:Nat),i<QwA x_1->Arr.row (List.getD (Qwz x_1) i Yb)=Qi8 x_2 i)/\True)/\True)/\True)/\QwG q x_2 x a) (ifB (Qi9 a==Z1) (SM x/\∃(x_1:Arr),(Qwt a x_1/\SM Z0/\True)/\(True/\True)/\(x_1=a/\Vv a+J8 a=N1)/\∀(y:Unit),True->∃(x_2:Arr),((Arr.k (Qcx x_1)=JQ x_2/\(QwI x_1=JG x_2/\(∀(i:Nat),i<QwI x_1->[ZI (GI (QwH x_1) i)]=Xb x_2 i)/\True)/\(QwK x_1=Vv x_2/\(∀(i:Nat),i<QwK x_1->[ZI (GI (QwJ x_1) i)]=ZX x_2 i)/\True)/\(QwM x_1=J8 x_2/\(∀(i:Nat),i<QwM x_1->Arr.row (List.getD (QwL x_1) i Yb)=Qi8 x_2 i)/\True)/\True)/\True)/\QwG q x_2 x a) (SM x/\∃(x_1:Arr),Qja a x_1/\(True/\True)/\x_1=a/\∀(y:Unit),True->SM x/\QwC a/\∀(y:Unit),True->((Gx (3:Nat) fun i=>QwN a x_1 i)=true/\GG (QwO a x_1) [(32:UInt8)])/\∀(y:Unit),True->RT (Lib.join (QwO a x_1) [(32:UInt8)]=Vw a)))))))) (by kernel_rfl) ?_
 delta DA GI LN N0 N1 N2 N4 NI SI SM Z0 Z1 ZI JG ZW Qi7 Qwf Qwg Qct J8 Yb Qcu Qwh Qwi Xb JQ Qwj Qwk ZX Qwl Qwm ZY Qi8 Qwn Qwo Qwp Qi4 Qi9 Qwq Qcv QPK QPL Qwr Qws Qwt Qja Qwu Qcr Qcw Qwv Qww Qwx Qwy Qwz QwA QwB QwC QwD Vv QwE QwF QwG Qcx QwH QwI QwJ QwK QwL QwM Qi5 QwN QwO Qi6 Vw Qcs RT
 have da:(default:Arr)=Arr.mk 0 [] [] []:=rfl
 simp only[<- da,Bf,Bd,decide_eq_true_eq,decide_eq_false_iff_not,true_and,and_true,beq_iff_eq,Bool.cond_false_right,Bool.cond_true_left,Bool.and_eq_true,Bool.and_eq_false_iff,Bool.or_eq_true,Bool.or_eq_false_iff,beq_eq_false_iff_ne,ne_eq,exists_const,forall_const,B0]
 obtain ⟨kd,s8,n6,i6,si,ni,hsum,hchr,hno,hbx,hsc⟩:=ho
 have hw:IntKind.i64.wrap ((a.nu.length:Int)+(a.it.length:Int))=(a.nu.length:Int)+(a.it.length:Int):=Ba (by omega) (by omega)
 have tt:(∀i:Nat,i<a.sh.length->True)/\(∀i:Nat,i<a.nu.length->True)/\∀i:Nat,i<a.it.length->True:=⟨fun _ _=>trivial,fun _ _=>trivial,fun _ _=>trivial⟩
 simp only[hw,Mc a]
 simp only[Bqt,Bp7,BpU,BpW,Bp3,GG,BqN,Bqv,true_and]
 have hnu:a.sh.length=0->a.k≠3->a.nu.length=1:=fun h1 h2=>by
  have:=hsc h1
  rw[hno h2] at this
  simpa using this
 have hit:a.sh.length=0->a.k=3->a.it.length=1:=fun h1 h2=>by
  have:=hsc h1
  rw[hbx h2] at this
  simpa using this
 refine⟨⟨fun h=>by rw[h];rfl,fun h=>by rw[beq_eq_false_iff_ne.2 h];rfl⟩,fun ⟨hs,hk⟩=>?_,fun hn1=>⟨⟨fun h=>by rw[h];rfl,fun h=>by rw[beq_eq_false_iff_ne.2 h];rfl⟩,fun ⟨hs,hk⟩=>?_,fun hn2=>⟨fun hs=>?_,fun hs=>?_⟩⟩⟩
 ·have:=hnu (by omega) (by omega)
  exact⟨⟨by omega,by omega⟩,WV ni,by rw[Mx,if_pos (by omega),CC,if_pos hk]⟩
 ·have:=hnu (by omega) (by omega)
  refine⟨⟨by omega,by omega⟩,⟨by omega,Bow _,?_⟩,by rw[Mx,if_pos (by omega),CC,if_neg (by omega),if_pos hk]⟩
  intro c hc
  rw[List.mem_singleton] at hc
  subst hc
  exact hchr hk _ (Bck (by omega))
 ·have hk:a.k=3:=by omega
  have h1:=hit (by omega) hk
  have hm:=Cg (l:=a.it) (i:=0) (by omega)
  have hl:=M2 hm
  refine⟨⟨by omega,by omega⟩,a.it.getD 0 default,⟨rfl,⟨rfl,fun _ _=>rfl⟩,⟨rfl,fun _ _=>rfl⟩,rfl,fun _ _=>rfl⟩,hi _ hm,⟨by simp,?_⟩,?_⟩
  ·simp only[List.length_append,List.length_cons,List.length_nil];omega
  ·rw[Mx,if_pos (by omega),CC,if_neg (by omega),if_neg (by omega)]
   have:(a.it.map By).getD 0 []=By (a.it.getD 0 default):=by
    simp[List.getD_eq_getElem?_getD,List.getElem?_map,List.getElem?_eq_getElem (show 0<a.it.length by omega)]
   rw[this];rfl
 ·have hd:=GX si
  have hfl:=TO a.k
  have hsl:=T6 a.k ni (a.it.map By)
  have hvl:=Mn a.k ni (a.it.map By)
  rw[List.length_map] at hvl
  have len:∀e:List UInt8,e.length<=200000000->[CZ a.sh,[114,101,115,104,97,112,101],e].length<=140737488355328/\(CZ a.sh++32::([114,101,115,104,97,112,101]++32::e)).length<=140737488355328:=fun e he=>by
   refine⟨by simp,?_⟩
   simp only[List.length_append,List.length_cons,List.length_nil];omega
  have eqn:∀e:List UInt8,CZ a.sh++32::([114,101,115,104,97,112,101]++32::e)=CZ a.sh++Wf++e:=fun e=>by simp[Wf]
  refine⟨⟨fun h=>⟨fun h2=>by rw[h,h2];rfl,fun h2=>by rw[h,beq_eq_false_iff_ne.2 h2];rfl⟩,fun h=>by rw[beq_eq_false_iff_ne.2 h];rfl⟩,fun ⟨h2,h3⟩=>⟨a,⟨rfl,⟨rfl,fun _ _=>rfl⟩,⟨rfl,fun _ _=>rfl⟩,rfl,fun _ _=>rfl⟩,rfl,?_⟩,fun hn=>?_⟩
  ·rw[Mx,if_neg (by omega),if_pos ⟨by omega,by rw[List.length_map];omega⟩]
  have hlk:Mx a.k a.sh a.nu (a.it.map By)=CZ a.sh++Wf++(if a.nu.length+a.it.length=0 then Wi a.k else if a.nu.length+a.it.length=1 then CC a.k a.nu (a.it.map By) else E8 a.k a.nu (a.it.map By)):=by
   rw[Mx,if_neg (by omega),if_neg (by rw[List.length_map];omega),List.length_map]
  rw[hlk]
  refine⟨fun hz=>⟨a,⟨rfl,⟨rfl,fun _ _=>rfl⟩,⟨rfl,fun _ _=>rfl⟩,rfl,fun _ _=>rfl⟩,rfl,Er a.k,⟨rfl,⟨rfl,fun _ _=>rfl⟩,⟨rfl,fun _ _=>rfl⟩,rfl,fun _ _=>rfl⟩,h0 (by omega) (by omega),⟨BQ _,by omega,si⟩,?_,?_⟩,fun hz=>⟨fun h2=>⟨a,⟨rfl,⟨rfl,fun _ _=>rfl⟩,⟨rfl,fun _ _=>rfl⟩,rfl,fun _ _=>rfl⟩,⟨rfl,by omega⟩,atA a 0,⟨rfl,⟨rfl,fun _ _=>rfl⟩,⟨rfl,fun _ _=>rfl⟩,rfl,fun _ _=>rfl⟩,h1 (by omega) (by omega),⟨BQ _,by omega,si⟩,?_,?_⟩,fun h2=>⟨a,⟨rfl,⟨rfl,fun _ _=>rfl⟩,⟨rfl,fun _ _=>rfl⟩,rfl,fun _ _=>rfl⟩,rfl,⟨BQ _,by omega,si⟩,?_,?_⟩⟩⟩
  ·rw[BdB kd];exact len _ (by omega)
  ·rw[BdB kd,eqn,if_pos (by omega)]
  ·rw[Bel kd hbx (by omega)];exact len _ (by omega)
  ·rw[Bel kd hbx (by omega),eqn,if_neg (by omega),if_pos (by omega)]
  ·exact len _ (by omega)
  ·rw[eqn,if_neg (by omega),if_neg (by omega)]
def Lit(a:Arr):Prop:=ACalls Tryz.prog 121 ((sRc Arr.row2 (fun _=>True) (fun b=>.str (By b))).args a) ⟨[],[]⟩ (SpecR (sRc Arr.row2 (fun _=>True) (fun b=>.str (By b))) a)
theorem BhZ(a:Arr):ACalls Tryz.prog 139 [.agg a.row2] ⟨[],[]⟩ (SpecR (sC [.agg a.row2] (.agg (Er a.k).row1)) ()):=Bgo (Bni a.k _ _ _ _ _ _) (BgI a.k)
theorem Rv{a:Arr}{q:Arr->Prop}(hq:∀b,q b->Lit b)(hv:∀b∈a.it,Lit b)(ho:LOk a)(hcl:a.nu.length+a.it.length=1->ConOk Tryz.prog (Mj a.it)):ConOk Tryz.prog (BgA a q):=by
 intro k ds S A h
 unfold BgA at h
 split at h
 ·injection h with h;subst h
  exact ConOk.plain (fun b hb=>El (hq b hb)) rfl rfl
 ·injection h with h;subst h
  refine ConOk.plain (fun b hb=>?_) rfl rfl
  have hb:b=a:=hb
  rw[hb]
  exact (BlN a ho (Bi6 hv)).mono fun _ _ ⟨y,q1,q2,q3⟩=>⟨y,q1,q2,q3⟩
 ·injection h with h;subst h
  refine ConOk.plain (fun b hb=>?_) rfl rfl
  have hb:b=a:=hb
  rw[hb]
  exact (BhZ a).mono fun _ _ ⟨y,q1,q2,q3⟩=>⟨y,q1,q2,q3⟩
 ·injection h with h;subst h
  refine ConOk.plain (fun b hb=>?_) rfl rfl
  obtain ⟨hb,h1⟩:b=a/\a.nu.length+a.it.length=1:=hb
  rw[hb]
  have hsz:((0:Nat):Int)<BV a.k a.nu.length a.it.length:=by
   unfold BV
   by_cases h3:a.k=3
   ·rw[if_neg (by omega),if_pos h3]
    have:=ho.bx h3
    rw[this] at h1
    simp at h1
    omega
   ·rw[if_pos (by have:=ho.kd;omega)]
    have:=ho.no h3
    rw[this] at h1
    simp at h1
    omega
  exact (Bgo (Bnr a 0 ho.kd hsz (hcl h1)) (Bon a 0)).mono fun _ _ ⟨y,q1,q2,q3⟩=>⟨y,q1,q2,q3⟩
 ·split at h
  ·injection h with h;subst h
   exact BW fun ⟨h1,h2,h3⟩=>⟨Bk _,B9 (CA h1) (BjY _ (by rw[BL];exact h2) h3)⟩
  ·cases h
 ·split at h
  ·injection h with h;subst h
   exact BW fun ⟨h1,h2⟩=>⟨Bk _,B9 (us:=[ssl (B5 _ _) .any]) ⟨Rc h1,trivial⟩ (Bcf _ h2)⟩
  ·cases h
 ·exact Ib _ _ _ _ h
theorem Bjh{its:List Arr}(h:∀b∈its,(Bw b).1=0):ConOk Tryz.prog (Mj its):=by
 intro k' ds S A hk
 unfold Mj at hk
 split at hk
 ·injection hk with hk;subst hk
  exact ConOk.plain (fun (b:Arr) hb=>(BeS b (h b hb)).mono fun _ _ ⟨y,q1,q2,q3⟩=>⟨y,q1,q2,q3⟩) rfl rfl
 ·cases hk
theorem BbL{a:Arr}(ho:LOk a)(hs:a.sh.length=0)(ih:∀b∈a.it,Lit b)(hv:∀b∈a.it,(Bw b).1=0):Lit a :=
 Ww a (·∈a.it) ho (fun _ hb=>hb) (fun h=>absurd hs h) (fun h=>absurd hs h) (Rv ih ih ho fun _=>Bjh hv)
theorem RS:LOk (.mk 1 [] [0] []):=⟨.inl rfl,by decide,by decide,by decide,by simp[Arr.sh],by simp[Arr.nu,Bt],by simp[Arr.it,Cs],fun h=>absurd h (by decide),fun _=>rfl,fun h=>absurd h (by decide),fun _=>rfl⟩
theorem R9:Lit (.mk 1 [] [0] []):=BbL RS rfl (fun b hb=>by cases hb) (fun b hb=>by cases hb)
theorem RU:LOk (.mk 2 [] [32] []):=⟨.inr (.inl rfl),by decide,by decide,by decide,by simp[Arr.sh],by simp[Arr.nu,Bt],by simp[Arr.it,Cs],by simp[Arr.nu],fun _=>rfl,fun h=>absurd h (by decide),fun _=>rfl⟩
theorem Bio:Lit (.mk 2 [] [32] []):=BbL RU rfl (fun b hb=>by cases hb) (fun b hb=>by cases hb)
theorem Bfx:LOk (.mk 1 [0] [] []):=⟨.inl rfl,by decide,by decide,by decide,by simp[Arr.sh,Bt],by simp[Arr.nu],by simp[Arr.it,Cs],fun h=>absurd h (by decide),fun _=>rfl,fun h=>absurd h (by decide),fun h=>absurd h (by decide)⟩
theorem BqG:Lit (.mk 1 [0] [] []):=by
 refine Ww _ (·=.mk 1 [] [0] []) Bfx (fun b hb=>by cases hb) (fun _ _=>rfl) (fun _ h=>by cases h) ?_
 refine Rv (fun b hb=>?_) (fun b hb=>by cases hb) Bfx (fun h=>by cases h)
 subst hb
 exact R9
theorem Bqo:(Bw (.mk 1 [0] [] [])).1=0:=by decide
theorem Bqd:(By (.mk 1 [0] [] [])).length<=600:=by
 have:=Bcg 1 (s:=[0]) (n:=[]) (by decide) (by simp[Bt]) (by simp) []
 rw[By]
 simp only[Oa,Cs,List.length_nil] at this ⊢
 omega
theorem BaI:LOk (.mk 3 [] [] [.mk 1 [0] [] []]):=⟨.inr (.inr rfl),by decide,by decide,by decide,by simp[Arr.sh],by simp[Arr.nu],by have:=Bqd;simp only[Arr.it,Cs,List.map_cons,List.map_nil,List.length_cons,List.length_nil];omega,fun h=>absurd h (by decide),fun h=>absurd rfl h,fun _=>rfl,fun _=>rfl⟩
theorem Bg8:Lit (.mk 3 [] [] [.mk 1 [0] [] []]):=by
 refine BbL BaI rfl (fun b hb=>?_) (fun b hb=>?_)
 ·have:b=.mk 1 [0] [] []:=List.mem_singleton.1 hb
  subst this;exact BqG
 ·have:b=.mk 1 [0] [] []:=List.mem_singleton.1 hb
  subst this;exact Bqo
theorem BlU{k:Int}(h:k=1\/k=2\/k=3):Lit (Er k):=by
 rcases h with rfl | rfl | rfl
 ·exact R9
 ·exact Bio
 ·exact Bg8
theorem Bd8{k:Int}{s:List Int}{nn ni:Nat}(h:B8 k s nn ni=0):(k≠3->ni=0/\(nn:Int)=CK s)/\(k=3->nn=0/\(ni:Int)=CK s):=by
 have hk:=R0 h
 unfold B8 at h
 rw[if_pos hk] at h
 by_cases hd:Ef s≠0
 ·rw[if_pos hd] at h;exact (hd h).elim
 ·rw[if_neg hd] at h
  by_cases hc:((if k=3 then (ni:Int) else nn)≠CK s)\/((if k=3 then (nn:Int) else ni)≠0)
  ·rw[if_pos hc] at h;simp at h
  ·have h1:(if k=3 then (ni:Int) else nn)=CK s:=Decidable.not_not.1 fun h=>hc (.inl h)
   have h2:(if k=3 then (nn:Int) else ni)=0:=Decidable.not_not.1 fun h=>hc (.inr h)
   refine⟨fun h3=>?_,fun h3=>?_⟩
   ·rw[if_neg h3] at h1 h2
    exact⟨by omega,h1⟩
   ·rw[if_pos h3] at h1 h2
    exact⟨by omega,h1⟩
theorem Bfu{a:Arr}(ho:a.ok)(h:(Bw a).1=0):LOk a:=by
 have hf:=Bkj h
 obtain ⟨p1,p2⟩:=Bd8 hf
 obtain ⟨l1,l2,l3,l4,l5⟩:=Blg ho h
 refine⟨R0 hf,l1,l2,l3,l4,l5,Bhn ho h,BnA h,fun h3=>List.length_eq_zero_iff.1 (p1 h3).1,fun h3=>List.length_eq_zero_iff.1 (p2 h3).1,fun hs=>?_⟩
 have hs:a.sh=[]:=List.length_eq_zero_iff.1 hs
 have h1:CK a.sh=1:=by rw[hs];rfl
 by_cases h3:a.k=3
 ·have:=p2 h3;omega
 ·have:=p1 h3;omega
theorem Bkw{a:Arr}(lo:LOk a)(h1:a.nu.length+a.it.length=1):LOk (atA a 0):=by
 unfold atA
 by_cases h3:a.k=3
 ·rw[if_pos h3]
  have h2:a.it.length=1:=by have:=lo.bx h3;rw[this] at h1;simpa using h1
  have hm:=Cg (l:=a.it) (i:=0) (by omega)
  have hl:=M2 hm
  have hs:=lo.sum
  exact⟨.inr (.inr rfl),by simp[Arr.sh],by simp[Arr.nu],by simp[Arr.it],by simp[Arr.sh],by simp[Arr.nu],by show 7*1+((By (a.it.getD 0 default)).length+0)<=_;omega,fun h=>absurd h (by show ¬(3:Int)=2;decide),fun h=>absurd rfl h,fun _=>rfl,fun _=>rfl⟩
 ·rw[if_neg h3]
  have h2:a.nu.length=1:=by have:=lo.no h3;rw[this] at h1;simpa using h1
  have hm:a.nu.getD 0 0∈a.nu:=Bck (by omega)
  refine⟨lo.kd,by simp[Arr.sh],by simp[Arr.nu],by simp[Arr.it],by simp[Arr.sh],?_,by simp[Arr.it,Cs],?_,fun _=>rfl,fun h=>absurd h h3,fun _=>rfl⟩
  ·intro z hz
   have:z=a.nu.getD 0 0:=List.mem_singleton.1 hz
   rw[this];exact lo.ni _ hm
  ·intro h z hz
   have:z=a.nu.getD 0 0:=List.mem_singleton.1 hz
   rw[this];exact lo.chr h _ hm
theorem Bgk:∀(a:Arr),a.ok->(Bw a).1=0->Lit a
 |.mk k s n is,ho,h=>by
  have lo:=Bfu ho h
  have hv:=(EP h).2.2.2
  have hok:∀b∈is,b.ok:=by
   simp only[Arr.ok] at ho
   exact (EY _).1 ho.2.2.2.2.2.2
  have ih:∀b∈is,Lit b:=fun b hb=>Bgk b (hok b hb) (hv b hb)
  refine Ww (.mk k s n is) (fun b=>b∈is\/b=Er k\/(b=atA (.mk k s n is) 0/\n.length+is.length=1)) lo (fun b hb=>.inl hb) (fun _ _=>.inr (.inl rfl)) (fun _ h1=>.inr (.inr ⟨rfl,h1⟩)) (Rv (fun b hb=>?_) ih lo fun _=>BkU h)
  rcases hb with hb | hb | ⟨hb,h1⟩
  ·exact ih b hb
  ·rw[hb];exact BlU lo.kd
  ·rw[hb]
   have hsub:∀c∈(atA (.mk k s n is) 0).it,c∈is:=by
    intro c hc
    unfold atA at hc
    by_cases h3:(Arr.mk k s n is).k=3
    ·rw[if_pos h3] at hc
     have h2:is.length=1:=by
      have h4:n=[]:=lo.bx h3
      rw[h4] at h1;simpa using h1
     have:c=is.getD 0 default:=List.mem_singleton.1 hc
     rw[this];exact Cg (by omega)
    ·rw[if_neg h3] at hc;cases hc
   refine BbL (Bkw lo h1) ?_ (fun c hc=>ih c (hsub c hc)) (fun c hc=>hv c (hsub c hc))
   unfold atA
   split<;>rfl
termination_by a=>SizeOf.sizeOf a
decreasing_by
 have:=List.sizeOf_lt_of_mem hb
 simp;omega
def GS(a:Arr):List UInt8:=if (Bw a).1=0 then By a else []
def BiX(a:Arr):Con:=fun k _ _=>match k with
 |95=>some (sRc Arr.row1 (fun b=>b=a) (fun b=>.int .i64 (Bw b).1))
 |121=>some (sRc Arr.row1 (fun b=>b=a/\(Bw a).1=0) (fun b=>.str (By b)))
 |_=>none
theorem Bl3{a:Arr}(ho:a.ok):ConOk Tryz.prog (BiX a):=by
 intro k ds S A h
 unfold BiX at h
 split at h
 ·injection h with h;subst h
  refine ConOk.plain (fun b hb=>?_) rfl rfl
  have hb:b=a:=hb
  rw[hb]
  exact (Bi2 a ho).mono fun _ _ ⟨y,q1,q2,q3⟩=>⟨y,q1,q2,q3⟩
 ·injection h with h;subst h
  refine ConOk.plain (fun b hb=>?_) rfl rfl
  obtain ⟨hb,h1⟩:b=a/\(Bw a).1=0:=hb
  rw[hb]
  exact El (Bgk a ho h1)
 ·cases h
noncomputable def Elt(a:Arr):Senv:=EC (BiX a) 8 3 [5] (fun _=>([],[]))
def Qjb(a:Arr):Nat:=LN (Arr.sh a)
def QwP(a:Arr)(b:Nat):List D:=[ZI (GI (Arr.sh a) b)]
def Qjc(a:Arr):Nat:=LN (Arr.nu a)
def QwQ(a:Arr)(b:Nat):List D:=[ZI (GI (Arr.nu a) b)]
def Qjd(a:Arr):Nat:=LN (Arr.it a)
def QwR(a:Arr)(b:Nat):List D:=Arr.row (GA (Arr.it a) b)
def QwS(a b:Arr):Prop:=(Arr.k a=Arr.k b/\(Qjb a=Qjb b/\(∀(i:Nat),i<Qjb a->QwP a i=QwP b i)/\True)/\(Qjc a=Qjc b/\(∀(i:Nat),i<Qjc a->QwQ a i=QwQ b i)/\True)/\(Qjd a=Qjd b/\(∀(i:Nat),i<Qjd a->QwR a i=QwR b i)/\True)/\True)/\True
theorem Bnv(a : Arr)(ho : a.ok) :
  ACalls Tryz.prog 99 ((sRc Arr.row1 (fun _=>True) (fun b=>.str (GS b))).args a) ⟨[],[]⟩ (SpecR (sRc Arr.row1 (fun _=>True) (fun b=>.str (GS b))) a):=by
 refine Bg (A:=sRc Arr.row1 (fun _=>True) (fun b=>.str (GS b))) (x:=a) (E:=Elt a) (eOk (Bl3 ho) rfl) Tryz.func99 rfl (by kernel_rfl) rfl (by simp[sRc,Elt,EC,E0]) ?_
 refine Bi (T :=
  ∀(x:Nat),True->SM x/\∃(x_1:Arr),QwS a x_1/\(True/\True)/\x_1=a/\∀(y:Unit),True->ifB (Prod.fst (Bw x_1) != Z0) (RT (Cw (List UInt8) [] (GS a))) (SM x/\∃(x:Arr),QwS a x/\(True/\True)/\(x=a/\Prod.fst (Bw a)=Z0)/\∀(y:Unit),True->RT (By x=GS a))) (by kernel_rfl) ?_
 delta DA GA GI LN SM Z0 ZI Qjb QwP Qjc QwQ Qjd QwR QwS RT
 have da:(default:Arr)=Arr.mk 0 [] [] []:=rfl
 simp only[<- da,Bf,true_and,and_true,bne_iff_ne,ne_eq,exists_const,forall_const]
 refine⟨a,⟨rfl,⟨rfl,fun _ _=>rfl⟩,⟨rfl,fun _ _=>rfl⟩,rfl,fun _ _=>rfl⟩,rfl,fun h=>by rw[GS,if_neg h],fun h=>?_⟩
 have h:(Bw a).1=0:=by simpa using h
 exact⟨a,⟨rfl,⟨rfl,fun _ _=>rfl⟩,⟨rfl,fun _ _=>rfl⟩,rfl,fun _ _=>rfl⟩,⟨rfl,h⟩,by rw[GS,if_pos h]⟩
def Bgv(x:List UInt8):List UInt8:=[40,32]++x++[32,41]
def Ei(ks:List Int)(k:Int)(x:List UInt8):List UInt8:=if ks.contains k=true then Bgv x else x
def kAt(l:List Nd)(i:Nat):Int:=(l.getD i default).kd
def Bip(ks:List Int):List Nd->List (List UInt8)->List (List UInt8)
 |n::l,x::r=>Ei ks n.kd x::Bip ks l r
 |_,_=>[]
mutual
def Bv:Nd->List UInt8
 |.mk kd _ _ tx pr op va ki bo _ _ _ =>
  if kd=1 then GS va
  else if kd=2 then tx
  else if kd=6 then [88]
  else if kd=7 then [89]
  else if kd=8 then [97,114,103]
  else if kd=11 then [115,101,108,102]
  else if kd=12 then [70]
  else if kd=13 then [71]
  else if kd=9 then Cf pr
  else if kd=17 then opT op
  else if kd=3 then Lib.join (Bip [3,4,5] ki (BZ ki)) [32]
  else if kd=4 then Ei [16] (kAt ki 0) ((BZ ki).getD 0 [])++[32]++(BZ ki).getD 1 []
  else if kd=5 then Ei [4,5] (kAt ki 1) ((BZ ki).getD 1 [])++[32]++Ei [16] (kAt ki 0) ((BZ ki).getD 0 [])++[32]++(BZ ki).getD 2 []
  else if kd=16 then Lib.join (Bip [4,5,16] ki (BZ ki)) [32]
  else if kd=14 then Ei [16] (kAt ki 1) ((BZ ki).getD 1 [])++[32]++(BZ ki).getD 0 []
  else if kd=15 then Ei [16] (kAt ki 1) ((BZ ki).getD 1 [])++[32]++(BZ ki).getD 0 []++[32]++Ei [3,4,5,16,14,15] (kAt ki 2) ((BZ ki).getD 2 [])
  else [123,32]++Lib.join (Bcn bo) [32,59,32]++[32,125]
def BZ:List Nd->List (List UInt8)
 | []=>[]
 |x::r=>Bv x::BZ r
def Bcn:List Sm->List (List UInt8)
 | []=>[]
 |x::r=>B4 x::Bcn r
def B4:Sm->List UInt8
 |.mk kd _ nm _ te nd=>if kd=2 then nm++[32,60,45,32]++Bv nd else if kd=3 then Bv te++[32,58,32]++Bv nd else Bv nd
end
theorem Bab:∀l:List Nd,BZ l=l.map Bv
 | []=>by simp only[BZ,List.map_nil]
 |x::r=>by simp only[BZ,List.map_cons,Bab r]
theorem Bav:∀l:List Sm,Bcn l=l.map B4
 | []=>by simp only[Bcn,List.map_nil]
 |x::r=>by simp only[Bcn,List.map_cons,Bav r]
def BB(ks:List Int)(n:Nd):List UInt8:=Ei ks n.kd (Bv n)
theorem Bdp(ks:List Int):∀l:List Nd,Bip ks l (BZ l)=l.map (BB ks)
 | []=>by simp only[Bip,List.map_nil]
 |x::r=>by simp only[BZ,Bip,List.map_cons,Bdp ks r];rfl
theorem I2{l:List Nd}{i:Nat}(h:i<l.length):(BZ l).getD i []=Bv (l.getD i default):=by
 rw[Bab]
 simp[List.getD_eq_getElem?_getD,h]
theorem O3(s:Sm):B4 s=if s.kd=2 then s.nm++[32,60,45,32]++Bv s.nd else if s.kd=3 then Bv s.te++[32,58,32]++Bv s.nd else Bv s.nd:=by
 cases s
 simp only[B4]
 rfl
def Eu(n:Nd):List UInt8:=if BU n=0 then Bv n else []
mutual
/-- A tree without what comparisons do not see. -/
def stN:Nd->Nd
 |.mk kd _ cl tx pr op va ki bo _ _ _=>.mk kd 0 cl tx pr op va (stL ki) (stB bo) 0 0 0
def stL:List Nd->List Nd
 | []=>[]
 |x::r=>stN x::stL r
def stB:List Sm->List Sm
 | []=>[]
 |x::r=>stM x::stB r
def stM:Sm->Sm
 |.mk kd _ nm _ te nd=>.mk kd 0 nm 0 (stN te) (stN nd)
end
theorem BfB:∀l:List Nd,stL l=l.map stN
 | []=>by simp only[stL,List.map_nil]
 |x::r=>by simp only[stL,List.map_cons,BfB r]
theorem BgG:∀l:List Sm,stB l=l.map stM
 | []=>by simp only[stB,List.map_nil]
 |x::r=>by simp only[stB,List.map_cons,BgG r]
theorem Bf3(a b:Nd):stN a=stN b↔a.kd=b.kd/\a.cl=b.cl/\a.tx=b.tx/\a.pr=b.pr/\a.op=b.op/\a.va=b.va/\a.ki.map stN=b.ki.map stN/\a.bo.map stM=b.bo.map stM:=by
 cases a;cases b
 simp only[stN,BfB,BgG,Nd.mk.injEq,Nd.kd,Nd.cl,Nd.tx,Nd.pr,Nd.op,Nd.va,Nd.ki,Nd.bo,true_and,and_true]
theorem Bnz(a b:Sm):stM a=stM b↔a.kd=b.kd/\a.nm=b.nm/\stN a.te=stN b.te/\stN a.nd=stN b.nd:=by
 cases a;cases b
 simp only[stM,Sm.mk.injEq,Sm.kd,Sm.nm,Sm.te,Sm.nd,true_and]
theorem BlJ{a b:Nd}:wkL [.agg a.row1,.agg b.row1] [.agg a.row2,.agg b.row2]:=by
 simp only[wkL,wkD]
 exact⟨Mq a,Mq b,trivial⟩
def okS(l:List Sm):Prop:=l.length<=BC/\(∀s∈l,s.ok)/\∀s∈l,s.sm
open Go Go.Ab Go.RowKit
theorem own:ownKnob Tryz.prog.godebug=none:=by kernel_rfl
theorem laid:laidOutB Tryz.prog=true:=by kernel_rfl
theorem gN0 : Tryz.prog.globalNamed "internal/strconv.uint64pow10" = some 1 := by kernel_rfl
theorem tN0:(Tryz.prog.globals[1]?).map (·.type)=some 168:=by kernel_rfl
theorem gN1 : Tryz.prog.globalNamed "math/bits.deBruijn64tab" = some 3 := by kernel_rfl
theorem tN1:(Tryz.prog.globals[3]?).map (·.type)=some 173:=by kernel_rfl
theorem gN2 : Tryz.prog.globalNamed "math/bits.deBruijn32tab" = some 2 := by kernel_rfl
theorem tN2:(Tryz.prog.globals[2]?).map (·.type)=some 172:=by kernel_rfl
def Bas : List (String × DataW Unit) := [("math/bits.deBruijn32tab", Rows.laid_math_bits_deBruijn32tab), ("math/bits.deBruijn64tab", Rows.laid_math_bits_deBruijn64tab), ("internal/strconv.uint64pow10", Rows.laid_internal_strconv_uint64pow10)]
theorem BgJ{W:World}(h:laidMetH Tryz.prog Bas W):G0 W:=by
 have h0:laidMet Tryz.prog Bas W:=h
 have h1:=h0.tail
 have h2:=h1.tail
 exact⟨Lib.tabIs_of_head (rest:=[]) gN0 tN0 Tryz.underlying168 Tryz.underlying97 (by kernel_rfl) (by kernel_rfl) h2,
  Lib.tabIs_of_head gN1 tN1 Tryz.underlying173 Tryz.underlying5 (by kernel_rfl) (by kernel_rfl) h1,
  Lib.tabIs_of_head gN2 tN2 Tryz.underlying172 Tryz.underlying5 (by kernel_rfl) (by kernel_rfl) h0⟩
noncomputable def Bps(l:Array Value):Obj->Obj
 |.cells _ t frozen=>.cells l t frozen
 |o=>o
noncomputable def GZ(os:Os):World :=
 { World.holding Tryz.prog os ⟨#[],#[],[]⟩ with heap:=(((World.holding Tryz.prog os ⟨#[],#[],[]⟩).heap.modify 1 (Bps (Lib.pow10Tab.map fun z=>Value.int .u64 z).toArray)).modify 3 (Bps (Lib.deBruijn64tab.map fun z=>Value.int .u8 (Int.ofNat z)).toArray)).modify 2 (Bps (Lib.deBruijn32tab.map fun z=>Value.int .u8 (Int.ofNat z)).toArray) }
def TSl:List Nat:=List.range 186
theorem Bn8:∀t∈TSl,Rl Tryz.prog TSl t=true:=List.all_eq_true.1 (show TSl.all (Rl Tryz.prog TSl)=true by kernel_rfl)
theorem Bap{α:Type}{o:Option α}{p:α->Bool}(h:(match o with | some x=>p x | none=>false)=true):∃x,o=some x/\p x=true:=by
 cases o with
 |none=>cases h
 |some x=>exact⟨x,rfl,h⟩
def RPg:List D->Prop:=fun ds=>∃l:List Sm,okS l/\ds=[lsl 34 (Ee l)]
theorem Bgq(W:World)(n:Nat):ReadAt Tryz.prog W n 24 RPg:=by
 cases n with
 |zero=>exact .zero _ _
 |succ m =>
  have hb:ReadAt Tryz.prog W m 22 (RSliceA 34 RSm):=by
   cases m with
   |zero=>exact .zero _ _
   |succ k=>exact GD (w:=34) Tryz.underlying22 (by kernel_rfl) (by decide) (by decide +kernel) (BfR W k fun j _=>Bnx W j)
  refine (Io Tryz.underlying24 (by kernel_rfl) (Rs:=[RSliceA 34 RSm]) ⟨hb,trivial⟩).mono ?_
  rintro ds ⟨_,_,⟨l,h1,h2,rfl⟩,h3,rfl⟩
  obtain rfl:_=[]:=h3
  obtain ⟨bo,qb,rfl⟩:=C5 (g:=Sm.row) (Q:=fun a=>a.ok/\a.sm) (fun x hx=>hx) l h1
  refine⟨bo,⟨by simpa using h2,fun s hs=>(qb s hs).1,fun s hs=>(qb s hs).2⟩,?_⟩
  simp only[Ec,lsl,List.append_nil]
theorem Ur{n:Nd}{l:List Int}(h:Bm n l=true):n.ki.length=l.length:=by
 unfold Bm at h
 rw[beq_iff_eq] at h
 have:=congrArg List.length h
 simpa using this
theorem Ed{n:Nd}(h:Bz n=true)(hk:n.kd≠10):C6 n=true\/(CQ n=true/\∀x∈n.ki,Bz x=true):=by
 rw[CH,Bool.and_eq_true] at h
 have h:=h.2
 rw[if_neg hk,Bool.or_eq_true,Bool.and_eq_true] at h
 rcases h with h | h
 ·exact .inl h
 ·exact .inr ⟨h.1,fun x hx=>List.all_eq_true.1 h.2 x hx⟩
theorem MZ{g:Bool}:∀ {l:List Sm} {names:List (List UInt8)},Cc g names l=true->∀s∈l,∃names',Th g names' s=true
 | [],_,_,s,hs=>by simp at hs
 |x::r,names,h,s,hs=>by
  simp only[Cc,Bool.and_eq_true] at h
  rcases List.mem_cons.1 hs with rfl | hs
  ·exact⟨names,h.1⟩
  ·exact MZ h.2 s hs
theorem Bhw{g:Bool}{names:List (List UInt8)}{s:Sm}(h:Th g names s=true)(h2:s.kd=2):s.nm.length<=32:=by
 rw[Gy] at h
 simp only[Bool.and_eq_true] at h
 have h:=h.2
 rw[if_neg (by omega),if_pos h2] at h
 simp only[Bool.and_eq_true] at h
 exact (BO h.1.1.1.1).2.1
theorem CU(ks:List Int)(k:Int)(x:List UInt8):(Ei ks k x).length<=x.length+4:=by
 unfold Ei Bgv
 split
 ·simp only[List.length_append,List.length_cons,List.length_nil];omega
 ·omega
theorem WR(ks:List Int):∀l:List Nd,(∀b∈l,(Bv b).length+100<=200000000*szN b)->Cs (l.map (BB ks))+96*l.length<=200000000*szL l
 | [],_=>by simp[Cs,szL]
 |b::r,h=>by
  have h1:=h b (by simp)
  have h2:=WR ks r fun x hx=>h x (by simp[hx])
  have h3:=CU ks b.kd (Bv b)
  simp only[List.map_cons,Cs,szL,List.length_cons,BB]
  omega
theorem RX:∀l:List Sm,(∀s∈l,(B4 s).length+60<=200000000*szM s)->Cs (l.map B4)+60*l.length<=200000000*szB l
 | [],_=>by simp[Cs,szB]
 |s::r,h=>by
  have h1:=h s (by simp)
  have h2:=RX r fun x hx=>h x (by simp[hx])
  simp only[List.map_cons,Cs,szB,List.length_cons]
  omega
theorem Bhx(p:Int):(Cf p).length<=100:=by
 have h:∀n,n<56->(primL.getD n []).length<=100:=by decide +kernel
 unfold Cf
 split
 ·simp
 ·exact h _ (by omega)
theorem BnO(p:Int):(opT p).length<=100:=by
 have h:∀n,n<12->(opL.getD n []).length<=100:=by decide +kernel
 unfold opT
 split
 ·simp
 ·exact h _ (by omega)
theorem Ble{a:Arr}(ho:a.ok):(GS a).length<=157286700:=by
 unfold GS
 split
 ·rename_i h;exact BoB ho h
 ·simp
theorem Uh(s:Sm):szM s=if s.kd=3 then szN s.te+szN s.nd else szN s.nd:=by
 cases s
 simp only[szM]
 rfl
theorem BbP(n:Nd):szN n=1+szL n.ki+szB n.bo:=by
 cases n
 simp only[szN]
 rfl
theorem CR(n : Nd) : Bv n=if n.kd=1 then GS n.va else if n.kd=2 then n.tx else if n.kd=6 then [88] else if n.kd=7 then [89] else if n.kd=8 then [97, 114, 103] else if n.kd=11 then [115, 101, 108, 102]
  else if n.kd=12 then [70] else if n.kd=13 then [71] else if n.kd=9 then Cf n.pr else if n.kd=17 then opT n.op
  else if n.kd=3 then Lib.join (n.ki.map (BB [3,4,5])) [32]
  else if n.kd=4 then Ei [16] (kAt n.ki 0) ((BZ n.ki).getD 0 [])++[32]++(BZ n.ki).getD 1 []
  else if n.kd=5 then Ei [4,5] (kAt n.ki 1) ((BZ n.ki).getD 1 [])++[32]++Ei [16] (kAt n.ki 0) ((BZ n.ki).getD 0 [])++[32]++(BZ n.ki).getD 2 []
  else if n.kd=16 then Lib.join (n.ki.map (BB [4,5,16])) [32]
  else if n.kd=14 then Ei [16] (kAt n.ki 1) ((BZ n.ki).getD 1 [])++[32]++(BZ n.ki).getD 0 []
  else if n.kd=15 then Ei [16] (kAt n.ki 1) ((BZ n.ki).getD 1 [])++[32]++(BZ n.ki).getD 0 []++[32]++Ei [3,4,5,16,14,15] (kAt n.ki 2) ((BZ n.ki).getD 2 [])
  else [123,32]++Lib.join (n.bo.map B4) [32,59,32]++[32,125]:=by
 cases n
 simp only[Bv,Bdp,Bav]
 rfl
theorem II{n:Nd}(h:Bz n=true):((n.kd=4\/n.kd=14)->n.ki.length=2)/\((n.kd=5\/n.kd=15)->n.ki.length=3)/\(n.kd=2->n.tx.length<=32):=by
 refine⟨fun hk=>?_,fun hk=>?_,fun hk=>?_⟩
 ·rcases Ed h (by omega) with hc | ⟨hc,_⟩
  ·unfold C6 at hc
   rcases hk with hk | hk<;>simp[hk] at hc
  ·unfold CQ at hc
   rcases hk with hk | hk<;>simp[hk] at hc<;>exact Ur hc.2
 ·rcases Ed h (by omega) with hc | ⟨hc,_⟩
  ·unfold C6 at hc
   rcases hk with hk | hk<;>simp[hk] at hc
  ·unfold CQ at hc
   rcases hk with hk | hk<;>simp[hk] at hc<;>exact Ur hc.2
 ·rcases Ed h (by omega) with hc | ⟨hc,_⟩
  ·unfold C6 at hc
   simp[hk] at hc
   exact (BO hc.2.2).2.1
  ·unfold CQ at hc
   simp[hk] at hc
theorem Wc(l:List Nd)(i:Nat)(h:∀b∈l,(Bv b).length+100<=200000000*szN b)(hi:i<l.length):((BZ l).getD i []).length+100<=200000000*szN (l.getD i default):=by
 rw[I2 hi]
 exact h _ (BX hi)
theorem BgT{l:List Nd}(h:l.length=2):szL l=szN (l.getD 0 default)+szN (l.getD 1 default):=by
 match l,h with
 | [a,b],_=>simp[szL]
theorem RV{l:List Nd}(h:l.length=3):szL l=szN (l.getD 0 default)+szN (l.getD 1 default)+szN (l.getD 2 default):=by
 match l,h with
 | [a,b,c],_=>simp[szL];omega
theorem Ev(n:Nd)(h:Bz n=true)(ho:n.ok):(Bv n).length+100<=200000000*szN n:=by
 have ih:∀b∈n.ki,(Bv b).length+100<=200000000*szN b:=fun b hb=>Ev b ((EI h).1 b hb) (M8 ho b hb)
 have ihs:n.kd=10->∀s∈n.bo,(B4 s).length+60<=200000000*szM s:=fun hk s hs=>by
  have h1:=h
  rw[CH,Bool.and_eq_true,if_pos hk,Bool.and_eq_true] at h1
  have hb:=h1.2.2
  unfold BP at hb
  rw[Bool.and_eq_true] at hb
  obtain ⟨q1,q2⟩:=Ep hb.2 s hs
  obtain ⟨nm,q3⟩:=MZ hb.2 s hs
  have o:=Cq (GM ho s hs)
  have r1:=Ev s.nd q1 o.2
  rw[O3,Uh]
  by_cases k2:s.kd=2
  ·have:=Bhw q3 k2
   rw[if_pos k2,if_neg (by omega)]
   simp only[List.length_append,List.length_cons,List.length_nil]
   omega
  ·rw[if_neg k2]
   by_cases k3:s.kd=3
   ·rw[if_pos k3,if_pos k3]
    have hv:Bz s.te=true:=by
     rcases q2 with ⟨_,q,_⟩ | ⟨q,_⟩
     ·exact q
     ·exact (q k3).elim
    have r2:=Ev s.te hv o.1
    simp only[List.length_append,List.length_cons,List.length_nil]
    omega
   ·rw[if_neg k3,if_neg k3]
    omega
 obtain ⟨h2,h3,htx⟩:=II h
 rw[CR,BbP]
 have g0:=fun hi=>Wc n.ki 0 ih hi
 have g1:=fun hi=>Wc n.ki 1 ih hi
 have g2:=fun hi=>Wc n.ki 2 ih hi
 by_cases e1:n.kd=1
 ·rw[if_pos e1];have:=Ble (OI ho);omega
 rw[if_neg e1]
 by_cases e2:n.kd=2
 ·rw[if_pos e2];have:=htx e2;omega
 rw[if_neg e2]
 by_cases e6:n.kd=6
 ·rw[if_pos e6];simp only[List.length_cons,List.length_nil];omega
 rw[if_neg e6]
 by_cases e7:n.kd=7
 ·rw[if_pos e7];simp only[List.length_cons,List.length_nil];omega
 rw[if_neg e7]
 by_cases e8:n.kd=8
 ·rw[if_pos e8];simp only[List.length_cons,List.length_nil];omega
 rw[if_neg e8]
 by_cases e11:n.kd=11
 ·rw[if_pos e11];simp only[List.length_cons,List.length_nil];omega
 rw[if_neg e11]
 by_cases e12:n.kd=12
 ·rw[if_pos e12];simp only[List.length_cons,List.length_nil];omega
 rw[if_neg e12]
 by_cases e13:n.kd=13
 ·rw[if_pos e13];simp only[List.length_cons,List.length_nil];omega
 rw[if_neg e13]
 by_cases e9:n.kd=9
 ·rw[if_pos e9];have:=Bhx n.pr;omega
 rw[if_neg e9]
 by_cases e17:n.kd=17
 ·rw[if_pos e17];have:=BnO n.op;omega
 rw[if_neg e17]
 by_cases e3:n.kd=3
 ·rw[if_pos e3]
  have q1:=Ta [32] (n.ki.map (BB [3,4,5]))
  have q2:=WR [3,4,5] n.ki ih
  simp only[List.length_map,List.length_cons,List.length_nil] at q1
  omega
 rw[if_neg e3]
 by_cases e4:n.kd=4
 ·rw[if_pos e4]
  have hl:=h2 (.inl e4)
  have:=BgT hl
  have:=g0 (by omega)
  have:=g1 (by omega)
  have:=CU [16] (kAt n.ki 0) ((BZ n.ki).getD 0 [])
  simp only[List.length_append,List.length_cons,List.length_nil]
  omega
 rw[if_neg e4]
 by_cases e5:n.kd=5
 ·rw[if_pos e5]
  have hl:=h3 (.inl e5)
  have:=RV hl
  have:=g0 (by omega)
  have:=g1 (by omega)
  have:=g2 (by omega)
  have:=CU [16] (kAt n.ki 0) ((BZ n.ki).getD 0 [])
  have:=CU [4,5] (kAt n.ki 1) ((BZ n.ki).getD 1 [])
  simp only[List.length_append,List.length_cons,List.length_nil]
  omega
 rw[if_neg e5]
 by_cases e16:n.kd=16
 ·rw[if_pos e16]
  have q1:=Ta [32] (n.ki.map (BB [4,5,16]))
  have q2:=WR [4,5,16] n.ki ih
  simp only[List.length_map,List.length_cons,List.length_nil] at q1
  omega
 rw[if_neg e16]
 by_cases e14:n.kd=14
 ·rw[if_pos e14]
  have hl:=h2 (.inr e14)
  have:=BgT hl
  have:=g0 (by omega)
  have:=g1 (by omega)
  have:=CU [16] (kAt n.ki 1) ((BZ n.ki).getD 1 [])
  simp only[List.length_append,List.length_cons,List.length_nil]
  omega
 rw[if_neg e14]
 by_cases e15:n.kd=15
 ·rw[if_pos e15]
  have hl:=h3 (.inr e15)
  have:=RV hl
  have:=g0 (by omega)
  have:=g1 (by omega)
  have:=g2 (by omega)
  have:=CU [16] (kAt n.ki 1) ((BZ n.ki).getD 1 [])
  have:=CU [3,4,5,16,14,15] (kAt n.ki 2) ((BZ n.ki).getD 2 [])
  simp only[List.length_append,List.length_cons,List.length_nil]
  omega
 rw[if_neg e15]
 have hk:n.kd=10:=by
  have h:=h
  rw[CH,Bool.and_eq_true] at h
  by_cases hk:n.kd=10
  ·exact hk
  ·rcases Ed (n:=n) (by rw[CH,Bool.and_eq_true];exact h) hk with hc | ⟨hc,_⟩
   ·unfold C6 at hc
    simp[e1,e2,e6,e7,e8,e9,e11,e12,e13,e17] at hc
   ·unfold CQ at hc
    simp[e3,e4,e5,e14,e15,e16] at hc
 have q1:=Ta [32,59,32] (n.bo.map B4)
 have q2:=RX n.bo (ihs hk)
 simp only[List.length_map,List.length_cons,List.length_nil] at q1
 simp only[List.length_append,List.length_cons,List.length_nil]
 omega
termination_by SizeOf.sizeOf n
decreasing_by
 ·exact Nd.size_kid hb
 ·have:=Nd.size_stmt hs
  have:=Sm.size_nd s
  omega
 ·have:=Nd.size_stmt hs
  have:=Sm.size_te s
  omega
def Baj(q:Arr->Prop):Con:=fun k ds S=>match k with
 |159=>some (sRc Arr.row1 q (fun b=>.str (By b)))
 |166=>match ds with
  | [.sl 1 n f m]=>some (pC [.sl 1 n f m] (.str (CZ (Bj n f))) (IntsP n f/\n<=1099511627776/\∀z∈Bj n f,Bt z))
  |_=>none
 |k=>OM k ds S
def RLit(a:Arr):Prop:=ACalls Tryz.prog 159 ((sRc Arr.row2 (fun _=>True) (fun b=>.str (By b))).args a) ⟨[],[]⟩ (SpecR (sRc Arr.row2 (fun _=>True) (fun b=>.str (By b))) a)
theorem Bdj{q:Arr->Prop}(hq:∀b,q b->RLit b):ConOk Tryz.prog (Baj q):=by
 intro k ds S A h
 unfold Baj at h
 split at h
 ·injection h with h;subst h
  exact ConOk.plain (fun b hb=>El (hq b hb)) rfl rfl
 ·split at h
  ·injection h with h;subst h
   exact BW fun ⟨h1,h2,h3⟩=>⟨Bk _,B9 (CA h1) (BdP _ (by rw[BL];exact h2) h3)⟩
  ·cases h
 ·exact Ib _ _ _ _ h
noncomputable def Ersc(q:Arr->Prop):Senv:=EC (Baj q) 27 3 [4,11,18] (fun _=>([],[]))
def Qcy(a:Arr):Int:=Arr.k a
def Yc(a:Arr):List Int:=Arr.nu a
def ZZ(a:Arr):Int:=GI (Yc a) N0
def Z2(a:Arr):List Arr:=Arr.it a
def Qje(a:Arr):List UInt8:=CC (Qcy a) (Yc a) (List.map By (Z2 a))
def QwT(a:Arr):List UInt8:=Ge (ZZ a) (39:Int)
def QwU(a:Arr):List UInt8:=List.append [] (QwT a)
def Qjf:Arr:=DA
def Qcz(a:Arr):Arr:=List.getD (Z2 a) N0 Qjf
def QwV(a:Arr):List Int:=Arr.sh (Qcz a)
def QwW(a:Arr):Nat:=LN (QwV a)
def QwX(a:Arr):List Int:=Arr.nu (Qcz a)
def QwY(a:Arr):Nat:=LN (QwX a)
def QwZ(a:Arr):List Arr:=Arr.it (Qcz a)
def Qw0(a:Arr):Nat:=LN (QwZ a)
theorem Bly(a : Arr)(q : Arr -> Prop)(lo : LOk a)(h1 : a.k≠3 -> 0<a.nu.length)(h3 : a.k=3 -> 0<a.it.length)(hi : ∀b∈a.it, q b)(hc : ConOk Tryz.prog (Baj q)) :
  ACalls Tryz.prog 163 ((sRc Arr.row2 (fun _=>True) (fun a=>.str (CC a.k a.nu (a.it.map By)))).args a) ⟨[],[]⟩ (SpecR (sRc Arr.row2 (fun _=>True) (fun a=>.str (CC a.k a.nu (a.it.map By)))) a):=by
 refine Bg (A:=sRc Arr.row2 (fun _=>True) (fun a=>.str (CC a.k a.nu (a.it.map By)))) (x:=a) (E:=Ersc q) (eOk hc rfl) Tryz.func163 rfl (by kernel_rfl) rfl (by simp[sRc,Ersc,EC,E0]) ?_
 refine Bi (T :=
  ∀(x:Nat),True->SM x/\ifB (Qcy a==Z1) (SM x/\Bc (Z0<=Z0/\Z0<(LI (Yc a))) (Bt (ZZ a)/\∀(y:Unit),True->RT (BA (ZZ a)=Qje a))) (ifB (Qcy a==2) (SM x/\Bc (Z0<=Z0/\Z0<(LI (Yc a))) ((Z0<=ZZ a/\ZZ a<=1114111)/\∀(y:Unit),True->Bc (N1+LN (QwT a)<=9223372036854775807) (Bc (LN ((39:UInt8)::QwU a)+N1<=9223372036854775807) (RT ((39:UInt8)::List.append (QwU a) [(39:UInt8)]=Qje a))))) (SM x/\Bc (Z0<=Z0/\Z0<(LI (Z2 a))) (∃(x:Arr),((Arr.k (Qcz a)=Qcy x/\(QwW a=LN (Arr.sh x)/\(∀(i:Nat),i<QwW a->[ZI (GI (QwV a) i)]=[ZI (GI (Arr.sh x) i)])/\True)/\(QwY a=LN (Yc x)/\(∀(i:Nat),i<QwY a->[ZI (GI (QwX a) i)]=[ZI (GI (Yc x) i)])/\True)/\(Qw0 a=LN (Z2 x)/\(∀(i:Nat),i<Qw0 a->Arr.row (List.getD (QwZ a) i Qjf)=Arr.row (List.getD (Z2 x) i Qjf))/\True)/\True)/\True)/\(True/\True)/\q x/\∀(y:Unit),True->Bc (N4+LN (By x)<=9223372036854775807) (RT ((98:UInt8)::(111:UInt8)::(120:UInt8)::(32:UInt8)::List.append [] (By x)=Qje a)))))) (by kernel_rfl) ?_
 delta DA GI LI LN N0 N1 N4 SM Z0 Z1 ZI Qcy Yc QwW QwX QwY QwZ Qw0 ZZ Z2 Qje QwT QwU Qjf Qcz QwV RT
 have da:(default:Arr)=Arr.mk 0 [] [] []:=rfl
 simp only[<- da,Bf,Bd,true_and,and_true,beq_iff_eq,beq_eq_false_iff_ne,ne_eq,exists_const,forall_const]
 have kd:=lo.kd
 have hsum:=lo.sum
 refine⟨fun hk=>?_,fun hk1=>⟨fun hk=>?_,fun hk2=>?_⟩⟩
 ·have:=h1 (by omega)
  exact⟨⟨by omega,by omega⟩,WV lo.ni,by rw[CC,if_pos hk]⟩
 ·have:=h1 (by omega)
  have he:=Tn (a.nu.getD 0 0) 39
  refine⟨⟨by omega,by omega⟩,lo.chr hk _ (Bck (by omega)),by omega,by simp only[List.length_cons,OH];omega,?_⟩
  rw[CC,if_neg hk1,if_pos hk]
  simp[IB,M6]
  rfl
 ·have:=h3 (by omega)
  have hm:=Cg (l:=a.it) (i:=0) (by omega)
  have hl:=M2 hm
  refine⟨⟨by omega,by omega⟩,a.it.getD 0 default,⟨rfl,⟨rfl,fun _ _=>rfl⟩,⟨rfl,fun _ _=>rfl⟩,rfl,fun _ _=>rfl⟩,hi _ hm,by omega,?_⟩
  rw[CC,if_neg hk1,if_neg hk2]
  have:(a.it.map By).getD 0 []=By (a.it.getD 0 default):=by
   simp[List.getD_eq_getElem?_getD,List.getElem?_map,List.getElem?_eq_getElem (show 0<a.it.length by omega)]
  rw[this];rfl
noncomputable def Erel(a:Arr)(q:Arr->Prop):Senv:={ EC (Baj q) 36 5 [7,16,20] (fun _=>([],[])) with
 gh:=fun b=>match b with
  |0=>[.slot 3]
  |_=>[]
 ann:=fun b _ S=>match b with
  |0=>some { slots:=[4,3],keep:=[0,1],α:=Nat×Nat×List UInt8,st:=fun y=>([.int .i64 y.1,bsl y.2.2 (.tok 0 y.2.1)],⟨S.objs,[(0,y.2.1)]⟩),inv:=fun y=>JHd [32] (a.it.map fun b=>Ga (By b)) y.1 y.2.2,mu:=fun y=>a.it.length-y.1 }
  |_=>none }
def Z3(a:Arr):Int:=Arr.k a
def Qjg(a:Arr):List Int:=Arr.nu a
def Xc(a:Arr):Nat:=LN (Qjg a)
def Z4(a:Arr)(b:Nat):List D:=[ZI (GI (Qjg a) b)]
def Qw1(a:Arr):List Int:=Bj (Xc a) fun i=>Z4 a i
def Z5(a:Arr):List Arr:=Arr.it a
def Qw2(a:Arr):List UInt8:=E8 (Z3 a) (Qjg a) (List.map By (Z5 a))
def Z6(a:Arr):List UInt8:=By a
def QcA(a:Arr)(c:Nat)(d:List UInt8):Prop:=JHd [(32:UInt8)] (List.map (fun (b:Arr)=>Ga (Z6 b)) (Z5 a)) c d
def Xd(a:List UInt8)(b:Nat):List D:=[ZB (BI a b)]
def QcB(a:Arr):Nat:=LN (Arr.sh a)
def Qjh(a:Arr)(b:Nat):List D:=[ZI (GI (Arr.sh a) b)]
def Xe(a:Arr):Nat:=LN (Z5 a)
def QcC:Arr:=DA
def Z7(a:Arr)(b:Nat):Arr:=List.getD (Z5 a) b QcC
def QPM(a:Arr)(b:Nat):List Int:=Arr.sh (Z7 a b)
def QPN(a:Arr)(b:Nat):List Int:=Arr.nu (Z7 a b)
def Qw3(a:Arr)(b:Nat):List Arr:=Arr.it (Z7 a b)
def Qw4(a:Arr)(b:Nat):List D:=[ZI (Arr.k (Z7 a b)),SI (QPM a b),SI (QPN a b),D.sl N4 (LN (Qw3 a b)) (fun i=>Arr.row (List.getD (Qw3 a b) i QcC)) Mode.any]
def Qji(a:Nat)(b:Arr)(c d:Nat):Prop:=(SM a/\(SM (Z3 b)/\(SM (QcB b)/\(∀(i:Nat),i<QcB b->SM (Qjh b i))/\True)/\(SM (Xc b)/\(∀(i:Nat),i<Xc b->SM (Z4 b i))/\True)/\(SM (Xe b)/\(∀(i:Nat),i<Xe b->SM (Qw4 b i))/\True)/\True)/\True)/\c=d/\True
def Qjj(a:Arr):Int:=(NI (Xe a))
def QcD(a:Arr)(b:Nat):Arr:=List.getD (Z5 a) (Int.toNat (↑b:Int)) QcC
def Qw5(a:Arr)(b:Nat):List Int:=Arr.sh (QcD a b)
def Qw6(a:Arr)(b:Nat):Nat:=LN (Qw5 a b)
def Qw7(a:Arr)(b:Nat):List Int:=Arr.nu (QcD a b)
def Qw8(a:Arr)(b:Nat):Nat:=LN (Qw7 a b)
def Qw9(a:Arr)(b:Nat):List Arr:=Arr.it (QcD a b)
def Qxa(a:Arr)(b:Nat):Nat:=LN (Qw9 a b)
def Qxb(a:Arr)(b:Nat)(c:Arr):Prop:=(Arr.k (QcD a b)=Z3 c/\(Qw6 a b=QcB c/\(∀(i:Nat),i<Qw6 a b->[ZI (GI (Qw5 a b) i)]=Qjh c i)/\True)/\(Qw8 a b=Xc c/\(∀(i:Nat),i<Qw8 a b->[ZI (GI (Qw7 a b) i)]=Z4 c i)/\True)/\(Qxa a b=Xe c/\(∀(i:Nat),i<Qxa a b->Arr.row (List.getD (Qw9 a b) i QcC)=Arr.row (Z7 c i))/\True)/\True)/\True
def Qxc(a:Arr):Nat:=LN ((40:UInt8)::(98:UInt8)::(111:UInt8)::(120:UInt8)::(32:UInt8)::List.append [] (Z6 a))+N1
def Qxd(a:Arr):List UInt8:=(40:UInt8)::(98:UInt8)::(111:UInt8)::(120:UInt8)::(32:UInt8)::List.append (List.append [] (Z6 a)) [(41:UInt8)]
def Qxe(a:Arr):Nat:=LN (Qxd a)
def QcE(a:List UInt8)(b:Arr):Nat:=LN a+N1+Qxe b
def QPO(a:Arr):D:=D.agg [ZI (Z3 a),D.sl N1 (QcB a) (fun i=>Qjh a i) Mode.any,D.sl N1 (Xc a) (fun i=>Z4 a i) Mode.any,D.sl N4 (Xe a) (fun i=>Qw4 a i) Mode.any]
def Qxf(a:Arr)(b:Nat):Prop:=SM (QPO a)/\SM (D.ref N0 b N0)/\True
def Qxg(a:Arr)(b c:Nat):Prop:=Xe a-b<Xe a-c
def Qxh(a:Arr)(b:Nat):List D:=[ZB (BI (Qxd a) b)]
def QcF(a:List UInt8)(b:Arr):Nat:=LN a+Qxe b
theorem BkT(a : Arr)(q : Arr -> Prop)(lo : LOk a)(hk : a.k≠2)(hi : ∀b∈a.it, q b)(hc : ConOk Tryz.prog (Baj q)) :
  ACalls Tryz.prog 165 ((sRc Arr.row2 (fun _=>True) (fun a=>.str (E8 a.k a.nu (a.it.map By)))).args a) ⟨[],[]⟩ (SpecR (sRc Arr.row2 (fun _=>True) (fun a=>.str (E8 a.k a.nu (a.it.map By)))) a):=by
 refine Bg (A:=sRc Arr.row2 (fun _=>True) (fun a=>.str (E8 a.k a.nu (a.it.map By)))) (x:=a) (E:=Erel a q) (eOk hc rfl) Tryz.func165 rfl (by kernel_rfl) rfl (by simp[sRc,Erel,EC,E0]) ?_
 refine Bi (T :=
  ∀(x:Nat),True->SM x/\ifB (Z3 a==Z1) (SM x/\((IntsP (Xc a) fun i=>Z4 a i)/\Xc a<=1099511627776/\∀(z:Int),z∈Qw1 a->Bt z)/\∀(y:Unit),True->RT (CZ (Qw1 a)=Qw2 a)) (∀(t:Nat),(∃(x_1:Nat×Nat×List UInt8),QcA a x_1.1 x_1.2.2/\(Z0=(NI x_1.1)/\(N0=LN x_1.2.2/\(∀(i:Nat),i<N0->[D.str []]=Xd x_1.2.2 i)/\t=x_1.2.1)/\True)/\Qji x a t x_1.2.1)/\∀(x_1:Nat×Nat×List UInt8),QcA a x_1.1 x_1.2.2->SM x/\ifB (decide ((NI x_1.1)<Qjj a)) (ifB (decide (Z0<(NI x_1.1))) (SM x_1.2.1/\Bc ((LN x_1.2.2+N1)*N1<=140737488355328/\LN x_1.2.2+N1<=9223372036854775807) (∀(t:Nat),SM x/\Bc (Z0<=(NI x_1.1)/\(NI x_1.1)<Qjj a) (∃(x_2:Arr),Qxb a x_1.1 x_2/\(True/\True)/\q x_2/\∀(y:Unit),True->Bc ((5:Nat)+LN (Z6 x_2)<=9223372036854775807) (Bc (Qxc x_2<=9223372036854775807) (SM t/\Bc (QcE x_1.2.2 x_2*N1<=140737488355328/\QcE x_1.2.2 x_2<=9223372036854775807) (∀(t:Nat),Qxf a x/\∃(y:Nat×Nat×List UInt8),QcA a y.1 y.2.2/\Qxg a y.1 x_1.1/\(IntKind.wrap IntKind.i64 ((NI x_1.1)+Z1)=(NI y.1)/\(QcE x_1.2.2 x_2=LN y.2.2/\(∀(i:Nat),i<QcE x_1.2.2 x_2->BN (LN x_1.2.2+N1) (BN (LN x_1.2.2) (fun i=>Xd x_1.2.2 i) fun i=>List.getD [[ZB (32:Int)]] i []) (fun i=>Qxh x_2 i) i=Xd y.2.2 i)/\t=y.2.1)/\True)/\Qji x a t y.2.1)))))) (SM x/\Bc (Z0<=(NI x_1.1)/\(NI x_1.1)<Qjj a) (∃(x_2:Arr),Qxb a x_1.1 x_2/\(True/\True)/\q x_2/\∀(y:Unit),True->Bc ((5:Nat)+LN (Z6 x_2)<=9223372036854775807) (Bc (Qxc x_2<=9223372036854775807) (SM x_1.2.1/\Bc (QcF x_1.2.2 x_2*N1<=140737488355328/\QcF x_1.2.2 x_2<=9223372036854775807) (∀(t:Nat),Qxf a x/\∃(y:Nat×Nat×List UInt8),QcA a y.1 y.2.2/\Qxg a y.1 x_1.1/\(IntKind.wrap IntKind.i64 ((NI x_1.1)+Z1)=(NI y.1)/\(QcF x_1.2.2 x_2=LN y.2.2/\(∀(i:Nat),i<QcF x_1.2.2 x_2->BN (LN x_1.2.2) (fun i=>Xd x_1.2.2 i) (fun i=>Qxh x_2 i) i=Xd y.2.2 i)/\t=y.2.1)/\True)/\Qji x a t y.2.1)))))) (True/\chk (true&&Iy (LN x_1.2.2) fun i=>Xd x_1.2.2 i) (RT ((bytesOf (LN x_1.2.2) fun i=>Xd x_1.2.2 i)=Qw2 a))))) (by kernel_rfl) ?_
 delta BI DA GI LN N0 N1 N4 NI SI SM U0 Z0 Z1 ZB ZI Z3 Qjg Xc Z4 Qw1 Z5 Qw2 Z6 QcA Xd QcB Qjh Xe QcC Z7 QPM QPN Qw3 Qw4 Qji Qjj QcD Qw5 Qw6 Qw7 Qw8 Qw9 Qxa Qxb Qxc Qxd Qxe QcE QPO Qxf Qxg Qxh QcF RT
 have da:(default:Arr)=Arr.mk 0 [] [] []:=rfl
 simp only[<- da,Bf,Bd,decide_eq_true_eq,decide_eq_false_iff_not,true_and,and_true,beq_iff_eq,beq_eq_false_iff_ne,ne_eq,exists_const,forall_const,Int.toNat_natCast,B0]
 have hib:∀x:Arr,(40::98::111::120::32::(By x).append [41])=Ga (By x):=fun _=>rfl
 simp only[OH,hib]
 have kd:=lo.kd
 have hsum:=lo.sum
 have l2:=lo.n6
 have l3:=lo.i6
 have tt:(∀i:Nat,i<a.sh.length->True)/\(∀i:Nat,i<a.nu.length->True)/\∀i:Nat,i<a.it.length->True:=⟨fun _ _=>trivial,fun _ _=>trivial,fun _ _=>trivial⟩
 refine⟨fun h1=>⟨⟨BQ _,by omega,lo.ni⟩,?_⟩,fun h1 t=>⟨⟨(0,t,[]),JHd.init _ _,⟨rfl,rfl,fun i hi=>absurd hi (by omega),rfl⟩,tt,rfl⟩,?_⟩⟩
 ·rw[E8,if_neg hk,lo.no (by omega)]
  simp[CZ]
 have hnu:=lo.bx (by omega)
 have hv:Lib.join (a.it.map fun b=>Ga (By b)) [32]=E8 a.k a.nu (a.it.map By):=by
  rw[E8,if_neg hk,hnu,List.map_map];rfl
 have hvl:=Mn a.k lo.ni (a.it.map By)
 rw[List.length_map] at hvl
 rintro ⟨i,t1,out⟩ hh
 simp only at hh ⊢
 have hl:=hh.len
 rw[hv] at hl
 refine⟨fun hlt=>?_,fun hge=>?_⟩
 ·have hlt':i<a.it.length:=by omega
  have hm:=Cg hlt'
  have hml:=M2 hm
  have hmi:i<(a.it.map fun b=>Ga (By b)).length:=by simpa using hlt'
  have hg:(a.it.map fun b=>Ga (By b)).getD i []=Ga (By (a.it.getD i default)):=by
   simp[List.getD_eq_getElem?_getD,List.getElem?_map,List.getElem?_eq_getElem hlt']
  have hil:(Ga (By (a.it.getD i default))).length=6+(By (a.it.getD i default)).length:=by
   simp only[Ga,Bea,List.length_append,List.length_cons,List.length_nil];omega
  refine⟨fun h0=>⟨⟨by omega,by omega⟩,⟨by omega,by omega⟩,a.it.getD i default,⟨rfl,⟨rfl,fun _ _=>rfl⟩,⟨rfl,fun _ _=>rfl⟩,rfl,fun _ _=>rfl⟩,hi _ hm,by omega,by simp only[List.length_cons];omega,⟨by omega,by omega⟩,fun t2=>⟨(i+1,t2,out++[32]++Ga (By (a.it.getD i default))),?_,by simp only;omega,⟨Ba (by omega) (by omega),by simp only[List.length_append,List.length_cons,List.length_nil],?_,rfl⟩,tt,rfl⟩⟩,fun h0=>⟨⟨by omega,by omega⟩,a.it.getD i default,⟨rfl,⟨rfl,fun _ _=>rfl⟩,⟨rfl,fun _ _=>rfl⟩,rfl,fun _ _=>rfl⟩,hi _ hm,by omega,by simp only[List.length_cons];omega,⟨by omega,by omega⟩,fun t2=>⟨(i+1,t2,out++Ga (By (a.it.getD i default))),?_,by simp only;omega,⟨Ba (by omega) (by omega),by simp only[List.length_append],?_,rfl⟩,tt,rfl⟩⟩⟩
  ·have:=hh.step (by omega) hmi
   rw[hg] at this
   exact this
  ·exact I8 (l:=out++[32]) (by simp) (MD (b:=32) rfl (fun _ _=>rfl) rfl) (fun _ _=>rfl)
  ·have e:i=0:=by omega
   subst e
   have:=hh.step0 hmi
   rw[hg] at this
   exact this
  ·exact I8 rfl (fun _ _=>rfl) (fun _ _=>rfl)
 ·have hd:=hh.done (by simpa using hge)
  rw[Bb,Bool.true_and]
  refine⟨IU _,?_⟩
  rw[CL,hd,hv]
def sAt1(q:Arr->Prop):FnSpec where
 β:=Arr
 α:=Unit
 args:=fun a=>[.agg a.row1,.int .i64 0]
 st:=fun _=>⟨[],[]⟩
 pre:=q
 post:=fun _ _=>True
 res:=fun a _=>.ret (.agg (atA a 0).row1)
 out:=fun _ _=>⟨[],[]⟩
def Od(a:Arr):Arr:=.mk a.k [BV a.k a.nu.length a.it.length] a.nu a.it
def Bgi(a:Arr):Con:=fun k ds S=>match k with
 |159=>some (sRc Arr.row1 (fun b=>b=Od a/\1<a.nu.length+a.it.length/\a.sh.length≠1) (fun b=>.str (By b)))
 |163=>some (sRc Arr.row1 (fun b=>(b=a/\a.sh.length=0)\/b=Er a.k\/(b=atA a 0/\a.nu.length+a.it.length=1)) (fun b=>.str (CC b.k b.nu (b.it.map By))))
 |164=>some (sRc Arr.row1 (fun b=>b=a/\a.k=2) (fun b=>.str (IB 34 b.nu)))
 |165=>some (sRc Arr.row1 (fun b=>b=a/\a.k≠2) (fun b=>.str (E8 b.k b.nu (b.it.map By))))
 |167=>some (sRc Arr.row1 (fun b=>b=a) (fun b=>.agg (Er b.k).row1))
 |168=>some (sAt1 (fun b=>b=a/\a.nu.length+a.it.length=1))
 |166=>match ds with
  | [.sl 1 n f m]=>some (pC [.sl 1 n f m] (.str (CZ (Bj n f))) (IntsP n f/\n<=1099511627776/\∀z∈Bj n f,Bt z))
  |_=>none
 |k=>R6 k ds S
theorem BfI{k:Int}(h:k=1\/k=2\/k=3):CC (Er k).k (Er k).nu ((Er k).it.map By)=Wi k:=by
 rcases h with rfl | rfl | rfl
 ·rfl
 ·rfl
 ·rfl
theorem BnV{a:Arr}(kd:a.k=1\/a.k=2\/a.k=3)(bx:a.k=3->a.nu=[])(h:a.nu.length+a.it.length=1):CC (atA a 0).k (atA a 0).nu ((atA a 0).it.map By)=CC a.k a.nu (a.it.map By):=by
 have h1:=Bel kd bx h
 have h2:(atA a 0).sh.length=0:=by unfold atA;split<;>rfl
 rw[Mc (atA a 0),Mx,if_pos h2] at h1
 exact h1
theorem BdV{a:Arr}(h:1<a.nu.length+a.it.length):By (Od a)=E8 a.k a.nu (a.it.map By):=by
 rw[Mc,Mx,if_neg (by show ¬1=0;omega),if_pos ⟨rfl,.inr (by rw[List.length_map];exact h)⟩]
 rfl
noncomputable def Erl(a:Arr):Senv:=EC (Bgi a) 64 5 [8,19,31,39,46] (fun _=>([],[]))
def QJ(a:Arr):Nat:=LN (Arr.sh a)
def Kl(a:Arr):Int:=Arr.k a
def Qxi(a b:Arr):Prop:=Kl a=Kl b
def Xf(a:Arr)(b:Nat):List D:=[ZI (GI (Arr.sh a) b)]
def Z8(a:Arr):List Int:=Arr.nu a
def Xg(a:Arr):Nat:=LN (Z8 a)
def QcG(a:Arr)(b:Nat):List D:=[ZI (GI (Z8 a) b)]
def QcH(a:Arr):List Arr:=Arr.it a
def Xh(a:Arr):Nat:=LN (QcH a)
def Qjk:Arr:=DA
def QcI(a:Arr)(b:Nat):List D:=Arr.row (List.getD (QcH a) b Qjk)
def Qxj(a b:Arr):Prop:=(Xg a=Xg b/\(∀(i:Nat),i<Xg a->QcG a i=QcG b i)/\True)/\(Xh a=Xh b/\(∀(i:Nat),i<Xh a->QcI a i=QcI b i)/\True)/\True
def Qxk(a b:Arr):Prop:=Qxi a b/\(QJ a=QJ b/\(∀(i:Nat),i<QJ a->Xf a i=Xf b i)/\True)/\Qxj a b
def QcJ(a b:Arr):Prop:=Qxk a b/\True
def Z9(a:Arr):Arr:=Er (Kl a)
def Ha(a:Arr):Arr:=atA a N0
def Qxl(a:Arr):Nat:=Xg a+Xh a
def Qxm(a:Arr):Prop:=Qxl a=N1
def Qxn(a b:Arr):Prop:=a=b/\QJ b=N0\/a=Z9 b\/a=Ha b/\Qxm b
def Qjl(a:Arr):List UInt8:=CC (Kl a) (Z8 a) (List.map By (QcH a))
def Xi(a:Arr):List UInt8:=By a
def QcK(a:Arr):Bool:=(NI (QJ a))==Z1
def Qjm(a:Arr):Bool:=bif QcK a then Kl a==2 else false
def QcL(a:Arr):Int:=BV (Kl a) (Xg a) (Xh a)
def Qxo(a:Arr):Bool:=decide ((2:Int)<=QcL a)
def Qjn(a:Arr):Bool:=bif QcK a then Qxo a else false
def Qxp(a:Arr):List Int:=Bj (QJ a) fun i=>Xf a i
def Qxq(a:Arr):List UInt8:=CZ (Qxp a)
def Qxr(a:Arr):List Int:=Arr.sh (Z9 a)
def Qxs(a:Arr):Nat:=LN (Qxr a)
def Qxt(a:Arr):List Int:=Arr.nu (Z9 a)
def Qxu(a:Arr):Nat:=LN (Qxt a)
def Qxv(a:Arr):List Arr:=Arr.it (Z9 a)
def Qxw(a:Arr):Nat:=LN (Qxv a)
def Qjo(a:Arr):List UInt8:=Qxq a++[32,114,101,115,104,97,112,101,32]
def Qxx(a:Arr):Nat:=LN (Qjo a)
def Qxy(a b:Arr):Prop:=(True/\True)/\Qxn a b/\∀(_y:Unit),True->Bc (Qxx b+LN (Qjl a)<=9223372036854775807) (True/\∃(_y:Unit),True/\Qjo b++Qjl a=Xi b/\True/\True)
def Qxz(a:Arr):List Int:=Arr.sh (Ha a)
def QxA(a:Arr):Nat:=LN (Qxz a)
def QxB(a:Arr):List Int:=Arr.nu (Ha a)
def QxC(a:Arr):Nat:=LN (QxB a)
def QxD(a:Arr):List Arr:=Arr.it (Ha a)
def QxE(a:Arr):Nat:=LN (QxD a)
theorem TD(a : Arr)(lo : LOk a)(hc : ConOk Tryz.prog (Bgi a)) :
  ACalls Tryz.prog 159 ((sRc Arr.row1 (fun _=>True) (fun b=>.str (By b))).args a) ⟨[],[]⟩ (SpecR (sRc Arr.row1 (fun _=>True) (fun b=>.str (By b))) a):=by
 refine Bg (A:=sRc Arr.row1 (fun _=>True) (fun b=>.str (By b))) (x:=a) (E:=Erl a) (eOk hc rfl) Tryz.func159 rfl (by kernel_rfl) rfl (by simp[sRc,Erl,EC,E0]) ?_
 refine Bi (T :=
  ∀(x:Nat),True->SM x/\ifB ((NI (QJ a))==Z0) (SM x/\∃(x:Arr),QcJ a x/\(True/\True)/\Qxn x a/\∀(y:Unit),True->RT (Qjl x=Xi a)) ((SM x/\ifB (QcK a) (SM x/\(Kl a==2)=Qjm a/\True) (false=Qjm a/\True))/\ifB (Qjm a) (SM x/\∃(x:Arr),QcJ a x/\(True/\True)/\(x=a/\Kl a=2)/\∀(y:Unit),True->RT (IB (34:Int) (Z8 x)=Xi a)) (SM x/\True/\∀(y:Unit),True->(SM x/\ifB (QcK a) (Qxo a=Qjn a/\True) (false=Qjn a/\True))/\ifB (Qjn a) (SM x/\∃(x:Arr),QcJ a x/\(True/\True)/\(x=a/\Kl a≠2)/\∀(y:Unit),True->RT (E8 (Kl x) (Z8 x) (List.map By (QcH x))=Xi a)) (SM x/\((IntsP (QJ a) fun i=>Xf a i)/\QJ a<=1099511627776/\∀(z:Int),z∈Qxp a->Bt z)/\∀(y:Unit),True->Bc (LN (Qxq a)+9<=9223372036854775807) (ifB (QcL a==Z0) (SM x/\∃(x:Arr),QcJ a x/\(True/\True)/\x=a/\∀(y:Unit),True->∃(x_1:Arr),((Arr.k (Z9 x)=Kl x_1/\(Qxs x=QJ x_1/\(∀(i:Nat),i<Qxs x->[ZI (GI (Qxr x) i)]=Xf x_1 i)/\True)/\(Qxu x=Xg x_1/\(∀(i:Nat),i<Qxu x->[ZI (GI (Qxt x) i)]=QcG x_1 i)/\True)/\(Qxw x=Xh x_1/\(∀(i:Nat),i<Qxw x->Arr.row (List.getD (Qxv x) i Qjk)=QcI x_1 i)/\True)/\True)/\True)/\Qxy x_1 a) (ifB (QcL a==Z1) (SM x/\∃(x:Arr),(Qxk a x/\SM Z0/\True)/\(True/\True)/\(x=a/\Qxm a)/\∀(y:Unit),True->∃(x_1:Arr),((Arr.k (Ha x)=Kl x_1/\(QxA x=QJ x_1/\(∀(i:Nat),i<QxA x->[ZI (GI (Qxz x) i)]=Xf x_1 i)/\True)/\(QxC x=Xg x_1/\(∀(i:Nat),i<QxC x->[ZI (GI (QxB x) i)]=QcG x_1 i)/\True)/\(QxE x=Xh x_1/\(∀(i:Nat),i<QxE x->Arr.row (List.getD (QxD x) i Qjk)=QcI x_1 i)/\True)/\True)/\True)/\Qxy x_1 a) (SM x/\SM x/\SM x/\∃(x:Arr),((Qxi a x/\(N1=QJ x/\(∀(i:Nat),i<N1->List.getD [[ZI (QcL a)]] i []=Xf x i)/\True)/\Qxj a x)/\True)/\(True/\True)/\(x=Od a/\N1<Qxl a/\QJ a≠N1)/\∀(y:Unit),True->Bc (Qxx a+LN (Xi x)<=9223372036854775807) (RT (Qjo a++Xi x=Xi a))))))))) (by kernel_rfl) ?_
 delta DA GI LN N0 N1 NI SM Z0 Z1 ZI QJ Kl QcI Qxj Qxk QcJ Z9 Ha Qxl Qxm Qxn Qjl Qxi Xi QcK Qjm QcL Qxo Qjn Qxp Qxq Qxr Qxs Xf Qxt Qxu Qxv Qxw Qjo Qxx Qxy Qxz QxA QxB Z8 QxC QxD QxE Xg QcG QcH Xh Qjk RT
 have da:(default:Arr)=Arr.mk 0 [] [] []:=rfl
 simp only[<- da,Bf,Bd,decide_eq_true_eq,decide_eq_false_iff_not,true_and,and_true,beq_iff_eq,Bool.cond_false_right,Bool.and_eq_true,Bool.and_eq_false_iff,beq_eq_false_iff_ne,ne_eq,exists_const,forall_const,B0]
 obtain ⟨kd,s8,n6,i6,si,ni,hsum,hchr,hno,hbx,hsc⟩:=lo
 have hz:BV a.k a.nu.length a.it.length=((a.nu.length+a.it.length:Nat):Int):=by
  unfold BV
  by_cases h3:a.k=3
  ·rw[if_neg (by omega),if_pos h3,hbx h3];simp
  ·rw[if_pos (by omega),hno h3];simp
 have hd:=GX si
 have hfl:=TO a.k
 have hsl:=T6 a.k ni (a.it.map By)
 have hvl:=Mn a.k ni (a.it.map By)
 rw[List.length_map] at hvl
 have len:∀e:List UInt8,e.length<=200000000->(CZ a.sh++[32,114,101,115,104,97,112,101,32]).length+e.length<=9223372036854775807:=fun e he=>by
  simp only[List.length_append,List.length_cons,List.length_nil];omega
 have hlk:a.sh.length≠0->(¬a.sh.length=1\/¬a.k=2)->(¬a.sh.length=1\/a.nu.length+a.it.length<2)->By a=CZ a.sh++[32,114,101,115,104,97,112,101,32]++(if a.nu.length+a.it.length=0 then Wi a.k else if a.nu.length+a.it.length=1 then CC a.k a.nu (a.it.map By) else E8 a.k a.nu (a.it.map By)):=fun h1 h2 h3=>by
  rw[Mc,Mx,if_neg h1,if_neg (by rw[List.length_map];omega),List.length_map];rfl
 have hvk:a.sh.length=1->(a.k=2\/1<a.nu.length+a.it.length)->By a=E8 a.k a.nu (a.it.map By):=fun h1 h2=>by
  rw[Mc,Mx,if_neg (by omega),if_pos ⟨h1,by rw[List.length_map];exact h2⟩]
 simp only[hz]
 refine⟨fun hs=>⟨a,⟨rfl,⟨rfl,fun _ _=>rfl⟩,⟨rfl,fun _ _=>rfl⟩,rfl,fun _ _=>rfl⟩,.inl ⟨rfl,by omega⟩,by rw[Mc a,Mx,if_pos (by omega)]⟩,fun hs=>⟨⟨fun h=>by rw[h];rfl,fun h=>by rw[beq_eq_false_iff_ne.2 h];rfl⟩,fun ⟨h1,h2⟩=>⟨a,⟨rfl,⟨rfl,fun _ _=>rfl⟩,⟨rfl,fun _ _=>rfl⟩,rfl,fun _ _=>rfl⟩,⟨rfl,h2⟩,by rw[hvk (by omega) (.inl h2),E8,if_pos h2]⟩,fun hn=>⟨⟨fun h=>by rw[h];rfl,fun h=>by rw[beq_eq_false_iff_ne.2 h];rfl⟩,fun ⟨h1,h2⟩=>⟨a,⟨rfl,⟨rfl,fun _ _=>rfl⟩,⟨rfl,fun _ _=>rfl⟩,rfl,fun _ _=>rfl⟩,⟨rfl,by omega⟩,by rw[hvk (by omega) (.inr (by omega))]⟩,fun hn2=>⟨⟨BQ _,by omega,si⟩,by omega,fun h0=>?_,fun h0=>⟨fun h1=>?_,fun h1=>?_⟩⟩⟩⟩⟩
 ·refine⟨a,⟨rfl,⟨rfl,fun _ _=>rfl⟩,⟨rfl,fun _ _=>rfl⟩,rfl,fun _ _=>rfl⟩,rfl,Er a.k,⟨rfl,⟨rfl,fun _ _=>rfl⟩,⟨rfl,fun _ _=>rfl⟩,rfl,fun _ _=>rfl⟩,.inr (.inl rfl),?_,?_⟩
  ·rw[BfI kd];exact len _ (by omega)
  ·rw[BfI kd,hlk (by omega) (by omega) (by omega),if_pos (by omega)]
 ·refine⟨a,⟨rfl,⟨rfl,fun _ _=>rfl⟩,⟨rfl,fun _ _=>rfl⟩,rfl,fun _ _=>rfl⟩,⟨rfl,by omega⟩,atA a 0,⟨rfl,⟨rfl,fun _ _=>rfl⟩,⟨rfl,fun _ _=>rfl⟩,rfl,fun _ _=>rfl⟩,.inr (.inr ⟨rfl,by omega⟩),?_,?_⟩
  ·rw[BnV kd hbx (by omega)];exact len _ (by omega)
  ·rw[BnV kd hbx (by omega),hlk (by omega) (by omega) (by omega),if_neg (by omega),if_pos (by omega)]
 ·refine⟨Od a,⟨rfl,⟨rfl,fun i hi=>?_⟩,⟨rfl,fun _ _=>rfl⟩,rfl,fun _ _=>rfl⟩,⟨rfl,by omega,by omega⟩,?_,?_⟩
  ·have:i=0:=by omega
   subst this
   simp only[Od,Arr.sh,hz];rfl
  ·rw[BdV (by omega)];exact len _ (by omega)
  ·rw[BdV (by omega),hlk (by omega) (by omega) (by omega),if_neg (by omega),if_neg (by omega)]
def BcA(its:List Arr):Con:=fun k ds S=>match k with
 |173=>some (sCl Arr.row1 Arr.row1 (fun b=>b∈its))
 |k=>R6 k ds S
noncomputable def Era(a:Arr):Senv:=EC (BcA a.it) 34 3 [4,12,16] (fun id=>match id with | 5=>([0,1,2,3,4,5,6,7,8,9],[7,9]) | _=>([],[]))
def QcM(a:Arr):Int:=Arr.k a
def Qjp(a:Arr):List Int:=Arr.nu a
def QcN(a:Arr):Nat:=LN (Qjp a)
def QcO(a:Arr):List Arr:=Arr.it a
def QcP(a:Arr):Nat:=LN (QcO a)
def Yd:D:=D.sl N1 N0 (fun _x=>[]) Mode.nil
def QxF:List D:=[Yd]
def Qjq:Arr:=DA
def QcQ(a:Arr)(b:Nat):Arr:=List.getD (QcO a) (Int.toNat (↑b:Int)) Qjq
def QxG(a:Arr)(b:Nat):List Int:=Arr.sh (QcQ a b)
def QxH(a:Arr)(b:Nat):Nat:=LN (QxG a b)
def QxI(a:Arr)(b:Nat):List D:=[ZI (GI (Arr.sh a) b)]
def QxJ(a:Arr)(b:Nat):List Int:=Arr.nu (QcQ a b)
def QxK(a:Arr)(b:Nat):Nat:=LN (QxJ a b)
def QxL(a:Arr)(b:Nat):List D:=[ZI (GI (Qjp a) b)]
def QxM(a:Arr)(b:Nat):List Arr:=Arr.it (QcQ a b)
def QxN(a:Arr)(b:Nat):Nat:=LN (QxM a b)
def QxO(a:Arr)(b:Nat):List D:=Arr.row (List.getD (QcO a) b Qjq)
def Qjr(a:Arr):D:=ZI (QcM a)
theorem Bkq(a : Arr)(i : Nat)(hk : a.k=1 \/ a.k=2 \/ a.k=3)(hi : (i : Int)<BV a.k a.nu.length a.it.length)(hc : ConOk Tryz.prog (BcA a.it)) :
  ACalls Tryz.prog 168 [.agg a.row2,.int .i64 i] ⟨[],[]⟩ (SpecR (sC [.agg a.row2,.int .i64 i] (atD a i)) ()):=by
 refine Bg (A:=sC _ _) (x:=()) (E:=Era a) (eOk hc rfl) Tryz.func168 rfl (by kernel_rfl) rfl (by simp[sC,Era,EC,E0]) ?_
 refine Bi (T :=
  ∀(x:Nat),True->∀(x_1:Nat),x≠x_1/\True->SM x/\True/\∀(y:Unit),True->ifB (decide (BV (QcM a) (QcN a) (QcP a)<=(↑i:Int))) (SM x_1/\(SM x_1/\True)/\∃(y:Unit),True/\Bn (D.agg (ZI Z0::Yd::Yd::QxF)) (atD a i)/\True/\True) (SM x/\ifB (QcM a==3) (SM x/\Bc (Z0<=(↑i:Int)/\(↑i:Int)<(NI (QcP a))) (∃(x:Arr),((Arr.k (QcQ a i)=QcM x/\(QxH a i=LN (Arr.sh x)/\(∀(i_1:Nat),i_1<QxH a i->[ZI (GI (QxG a i) i_1)]=QxI x i_1)/\True)/\(QxK a i=QcN x/\(∀(i_1:Nat),i_1<QxK a i->[ZI (GI (QxJ a i) i_1)]=QxL x i_1)/\True)/\(QxN a i=QcP x/\(∀(i_1:Nat),i_1<QxN a i->Arr.row (List.getD (QxM a i) i_1 Qjq)=QxO x i_1)/\True)/\True)/\True)/\(True/\True)/\x∈QcO a/\∀(y:Unit),True->SM x_1/\(SM x_1/\True)/\∃(y:Unit),True/\Bn (D.agg [ZI 3,Yd,Yd,D.sl N4 N1 (fun i=>List.getD [[Qjr x,D.sl N1 (LN (Arr.sh x)) (fun i=>QxI x i) Mode.any,D.sl N1 (QcN x) (fun i=>QxL x i) Mode.any,D.sl N4 (QcP x) (fun i=>QxO x i) Mode.any]] i []) Mode.full]) (atD a i)/\True/\True)) (SM x/\SM x/\Bc (Z0<=(↑i:Int)/\(↑i:Int)<(NI (QcN a))) ((SM x/\SM (Qjr a))/\SM x_1/\(SM x_1/\True)/\∃(y:Unit),True/\Bn (D.agg (Qjr a::Yd::D.sl N1 N1 (fun i_1=>List.getD [[ZI (GI (Qjp a) (Int.toNat (↑i:Int)))]] i_1 []) Mode.full::QxF)) (atD a i)/\True/\True)))) (by kernel_rfl) ?_
 delta DA GI LN N0 N1 N4 NI SM Z0 ZI QcM Qjp QxH QxI QxJ QxK QxL QxM QxN QxO Qjr QcN QcO QcP Yd QxF Qjq QcQ QxG
 have da:(default:Arr)=Arr.mk 0 [] [] []:=rfl
 simp only[<- da,Bf,Bd,decide_eq_true_eq,decide_eq_false_iff_not,true_and,and_true,beq_iff_eq,beq_eq_false_iff_ne,ne_eq,exists_const,forall_const,Int.toNat_natCast]
 have h12:a.k≠3->i<a.nu.length:=fun h3=>by
  have h:a.k=1\/a.k=2:=by omega
  rw[BV,if_pos h] at hi;omega
 have h3:a.k=3->i<a.it.length:=fun h3=>by
  rw[BV,if_neg (by omega),if_pos h3] at hi;omega
 repeat' (first | intro _ | refine And.intro ?_ ?_)
 all_goals first
  |omega
  |(exfalso;omega)
  |exact⟨a.it.getD i default,⟨rfl,⟨rfl,fun _ _=>rfl⟩,⟨rfl,fun _ _=>rfl⟩,rfl,fun _ _=>rfl⟩,Cg (by omega),by rw[atD,if_pos (by assumption),(by assumption:a.k=3)];exact Bp _⟩
  |(rw[atD,if_neg (by omega)];exact Bp _)
def RSc(a:Arr):Prop:=ACalls Tryz.prog 163 ((sRc Arr.row2 (fun _=>True) (fun a=>.str (CC a.k a.nu (a.it.map By)))).args a) ⟨[],[]⟩ (SpecR (sRc Arr.row2 (fun _=>True) (fun a=>.str (CC a.k a.nu (a.it.map By)))) a)
theorem U7{a:Arr}(lo:LOk a)(hs:a.nu.length+a.it.length=1)(ih:∀b∈a.it,RLit b):RSc a:=by
 refine Bly a (·∈a.it) lo (fun h3=>?_) (fun h3=>?_) (fun _ h=>h) (Bdj ih)
 ·have:=lo.no h3;rw[this] at hs;simp at hs;omega
 ·have:=lo.bx h3;rw[this] at hs;simp at hs;omega
theorem Bnk{a:Arr}(lo:LOk a)(h1:a.nu.length+a.it.length=1):((0:Nat):Int)<BV a.k a.nu.length a.it.length:=by
 unfold BV
 by_cases h3:a.k=3
 ·rw[if_neg (by omega),if_pos h3]
  have:=lo.bx h3
  rw[this] at h1
  simp at h1
  omega
 ·rw[if_pos (by have:=lo.kd;omega)]
  have:=lo.no h3
  rw[this] at h1
  simp at h1
  omega
theorem WT{a:Arr}(lo:LOk a)(ih:∀b∈a.it,RLit b)(hf:RSc (Er a.k))(ha:a.nu.length+a.it.length=1->RSc (atA a 0))(hcl:a.nu.length+a.it.length=1->ConOk Tryz.prog (BcA a.it))(hl:1<a.nu.length+a.it.length->a.sh.length≠1->RLit (Od a)):ConOk Tryz.prog (Bgi a):=by
 intro k ds S A h
 unfold Bgi at h
 split at h
 ·injection h with h;subst h
  refine ConOk.plain (fun b hb=>?_) rfl rfl
  obtain ⟨hb,h1,h2⟩:b=Od a/\1<a.nu.length+a.it.length/\a.sh.length≠1:=hb
  rw[hb]
  exact El (hl h1 h2)
 ·injection h with h;subst h
  refine ConOk.plain (fun b hb=>?_) rfl rfl
  rcases (hb:(b=a/\a.sh.length=0)\/b=Er a.k\/(b=atA a 0/\a.nu.length+a.it.length=1)) with ⟨hb,h1⟩ | hb | ⟨hb,h1⟩
  ·rw[hb];exact El (U7 lo (lo.sc h1) ih)
  ·rw[hb];exact El hf
  ·rw[hb];exact El (ha h1)
 ·injection h with h;subst h
  refine ConOk.plain (fun b hb=>?_) rfl rfl
  obtain ⟨hb,h1⟩:b=a/\a.k=2:=hb
  rw[hb]
  have hn:=lo.n6
  exact (BnM a.k _ _ _ _ a.nu (by omega) (lo.chr h1)).mono fun _ _ ⟨y,q1,q2,q3⟩=>⟨y,q1,q2,q3⟩
 ·injection h with h;subst h
  refine ConOk.plain (fun b hb=>?_) rfl rfl
  obtain ⟨hb,h1⟩:b=a/\a.k≠2:=hb
  rw[hb]
  exact El (BkT a (·∈a.it) lo h1 (fun _ h=>h) (Bdj ih))
 ·injection h with h;subst h
  refine ConOk.plain (fun b hb=>?_) rfl rfl
  have hb:b=a:=hb
  rw[hb]
  exact (Bit a).mono fun _ _ ⟨y,q1,q2,q3⟩=>⟨y,q1,q2,q3⟩
 ·injection h with h;subst h
  refine ConOk.plain (fun b hb=>?_) rfl rfl
  obtain ⟨hb,h1⟩:b=a/\a.nu.length+a.it.length=1:=hb
  rw[hb]
  have:=ACalls.wkArgs (ds:=[.agg a.row1,.int .i64 0]) (Bgo (Bkq a 0 lo.kd (Bnk lo h1) (hcl h1)) (Bon a 0)) (by
   simp only[wkL,wkD]
   exact⟨GP a,Bp _,trivial⟩)
  exact this.mono fun _ _ ⟨y,q1,q2,q3⟩=>⟨y,q1,q2,q3⟩
 ·split at h
  ·injection h with h;subst h
   exact BW fun ⟨h1,h2,h3⟩=>⟨Bk _,B9 (CA h1) (BdP _ (by rw[BL];exact h2) h3)⟩
  ·cases h
 ·exact OL _ _ _ _ h
theorem TB{a:Arr}(h:ACalls Tryz.prog 159 ((sRc Arr.row1 (fun _=>True) (fun b=>.str (By b))).args a) ⟨[],[]⟩ (SpecR (sRc Arr.row1 (fun _=>True) (fun b=>.str (By b))) a)):RLit a:=by
 refine (h.wkArgs ?_).mono fun _ _ ⟨y,h1,h2,h3⟩=>⟨y,h1,h2,h3⟩
 simp only[sRc,wkL,wkD]
 exact⟨Uj a,trivial⟩
theorem BdL{a:Arr}(lo:LOk a)(_h:1<a.nu.length+a.it.length):LOk (Od a):=by
 have h6:=lo.n6
 have h7:=lo.i6
 refine⟨lo.kd,by show 1<=8;omega,lo.n6,lo.i6,?_,lo.ni,lo.sum,lo.chr,lo.no,lo.bx,fun h=>absurd h (by show ¬1=0;omega)⟩
 intro z hz
 have:z=BV a.k a.nu.length a.it.length:=List.mem_singleton.1 hz
 rw[this]
 unfold BV Bt
 split
 ·omega
 split<;>omega
theorem Biu{a:Arr}(lo:LOk a)(ih:∀b∈a.it,RLit b)(hf:RSc (Er a.k))(h:1<a.nu.length+a.it.length):RLit (Od a) :=
 TB (TD (Od a) (BdL lo h) (WT (BdL lo h) ih hf (fun h1=>absurd h1 (by show ¬a.nu.length+a.it.length=1;omega)) (fun h1=>absurd h1 (by show ¬a.nu.length+a.it.length=1;omega)) (fun _ h2=>absurd rfl h2)))
theorem rfs1:RSc (.mk 1 [] [0] []):=U7 RS rfl (fun b hb=>by cases hb)
theorem rfs2:RSc (.mk 2 [] [32] []):=U7 RU rfl (fun b hb=>by cases hb)
theorem BoR:RLit (.mk 1 [0] [] []) :=
 TB (TD _ Bfx (WT Bfx (fun b hb=>by cases hb) rfs1 (fun h=>by cases h) (fun h=>by cases h) (fun h=>absurd h (by show ¬1<0;omega))))
theorem rfs3:RSc (.mk 3 [] [] [.mk 1 [0] [] []]):=U7 BaI rfl (fun b hb=>by
 have:b=.mk 1 [0] [] []:=List.mem_singleton.1 hb
 subst this;exact BoR)
theorem rfs{k:Int}(h:k=1\/k=2\/k=3):RSc (Er k):=by
 rcases h with rfl | rfl | rfl
 ·exact rfs1
 ·exact rfs2
 ·exact rfs3
def Bf7(its:List Arr):Con:=fun k _ _=>match k with
 |173=>some (sCl Arr.row1 Arr.row1 (fun b=>b∈its))
 |_=>none
noncomputable def Ec2(a:Arr):Senv:={ EC (Bf7 a.it) 33 5 [18] (fun id=>match id with | 1=>([0,1,2,3,5,6,4,7,8,9,10],[4,7,9,10]) | 5=>([0,1,2,3,4,5,6,7,8,9,10,11],[7,8,9,11]) | _=>([],[])) with
 gh:=fun b=>match b with
  |0=>[.cell 11 403]
  |_=>[]
 ann:=fun b _env S=>match b with
  |0=>some { slots:=[4],keep:=[1,2,3],α:=Nat×Nat,st:=fun y=>([.int .i64 y.1],⟨Il S.objs 11 (.cells ((cellsO S.objs 11).set 3 (.sl 4 y.1 (fun j=>(a.it.getD j default).row1) (.tok 2 y.2)))),[(2,y.2)]⟩),inv:=fun y=>y.1<=a.it.length,mu:=fun y=>a.it.length-y.1 }
  |_=>none }
theorem BoK{α : Type}{its : List α}{g : α -> List D}(d : α){j : Nat} :
  ∀i,i<j+1->BN j (fun i=>g (its.getD i d)) (fun i=>[g (its.getD j d)].getD i []) i=g (its.getD i d):=by
 intro i hi
 simp only[BN]
 split
 ·rfl
 ·have:i=j:=by omega
  subst this
  simp
def Ye(a:Arr):Nat:=LN (Arr.sh a)
def Xj(a:Arr):Nat:=N0+Ye a
def QxP(a:Arr):Nat:=Xj a*8
def Yf(a:Arr):Nat:=LN (Arr.nu a)
def Hb(a:Arr)(b:Nat):List D:=[ZI (GI (Arr.nu a) b)]
def QxQ(a:Arr):D:=D.sl N1 (Yf a) (fun i=>Hb a i) Mode.any
def Qjs(a:Nat)(b:Arr):Prop:=SM a/\SM (QxQ b)
def Qjt(a:Arr):Int:=Arr.k a
def QxR(a:Arr):D:=ZI (Qjt a)
def Hc(a:Nat)(b:Arr):Prop:=SM a/\SM (QxR b)
def Xk(a:Arr):Nat:=N0+Yf a
def QxS(a:Arr):Nat:=Xk a*8
def QcR(a:Arr):List Arr:=Arr.it a
def JR(a:Arr):Nat:=LN (QcR a)
def Qju(a:Nat)(b:Arr):Prop:=a<=JR b
def QcS(a:Arr):Prop:=SM (Qjt a)
def Hd(a:Arr)(b:Nat):List D:=[ZI (GI (Arr.sh a) b)]
def QxT(a:Arr)(b:Nat):List D:=BN N0 (fun _x=>[]) (fun i=>Hd a i) b
def QxU(a:Arr)(b:Nat):Prop:=SM (Xj a)/\(∀(i:Nat),i<Xj a->SM (QxT a i))/\SM b
def QxV(a:Arr)(b:Nat):List D:=BN N0 (fun _x=>[]) (fun i=>Hb a i) b
def QxW(a:Arr)(b:Nat):Prop:=SM (Xk a)/\(∀(i:Nat),i<Xk a->SM (QxV a i))/\SM b
def QcT:Arr:=DA
def He(a:Arr)(b:Nat):Arr:=List.getD (QcR a) b QcT
def QPP(a:Arr)(b:Nat):List Int:=Arr.sh (He a b)
def QPQ(a:Arr)(b:Nat):List Int:=Arr.nu (He a b)
def QxX(a:Arr)(b:Nat):List Arr:=Arr.it (He a b)
def Hf(a:Arr)(b:Nat):List D:=[ZI (Arr.k (He a b)),SI (QPP a b),SI (QPQ a b),D.sl N4 (LN (QxX a b)) (fun i=>Arr.row (List.getD (QxX a b) i QcT)) Mode.any]
def Qjv:Prop:=SM N0/\(∀(i:Nat),i<N0->Cw (List D) [] [])/\True
def QxY(a:Arr)(b:Nat):Prop:=SM (Hf a b)
def QxZ(a b:Nat)(c:Arr):Prop:=SM a/\(SM Z0/\Qjv/\Qjv/\Qjv/\True)/\SM b/\(QcS c/\(SM (Ye c)/\(∀(i:Nat),i<Ye c->SM (Hd c i))/\True)/\(SM (Yf c)/\(∀(i:Nat),i<Yf c->SM (Hb c i))/\True)/\(SM (JR c)/\(∀(i:Nat),i<JR c->QxY c i)/\True)/\True)/\True
def QcU(a:Arr)(b:Nat):Arr:=List.getD (QcR a) (Int.toNat (↑b:Int)) QcT
def Qx0(a:Arr)(b:Nat):List Int:=Arr.sh (QcU a b)
def Qx1(a:Arr)(b:Nat):Nat:=LN (Qx0 a b)
def Qx2(a:Arr)(b:Nat):List Int:=Arr.nu (QcU a b)
def Qx3(a:Arr)(b:Nat):Nat:=LN (Qx2 a b)
def Qx4(a:Arr)(b:Nat):List Arr:=Arr.it (QcU a b)
def Qx5(a:Arr)(b:Nat):Nat:=LN (Qx4 a b)
def Qx6(a:Arr)(b:Nat):List D:=Arr.row (He a b)
def QPR(a:Nat)(b:Arr)(c:Nat):D:=D.sl N4 a (fun j=>Hf b j) (Mode.tok N2 c)
def Qx7(a b:Nat)(c:Arr)(d:Nat):Prop:=SM a/\SM (QPR b c d)
def Qx8(a:Arr):D:=D.sl N1 (Ye a) (fun i=>Hd a i) Mode.any
def Qx9(a:Nat)(b:Arr)(c d e f:Nat):Prop:=Hc a b/\SM c/\∀(t:Nat),(∃(x:Nat×Nat),Qju x.1 b/\(Z0=(NI x.1)/\True)/\(SM c/\(QcS b/\QxU b d/\QxW b e/\(N0=x.1/\(∀(i:Nat),i<N0->Cw (List D) [] (Hf b i))/\t=x.2)/\True)/\QxZ f a b)/\t=x.2/\True)/\∀(x:Nat×Nat),Qju x.1 b->SM a/\ifB (decide ((NI x.1)<(NI (JR b)))) (SM c/\SM a/\Bc (Z0<=(NI x.1)/\(NI x.1)<(NI (JR b))) (∃(x_1:Arr),((Arr.k (QcU b x.1)=Qjt x_1/\(Qx1 b x.1=Ye x_1/\(∀(i:Nat),i<Qx1 b x.1->[ZI (GI (Qx0 b x.1) i)]=Hd x_1 i)/\True)/\(Qx3 b x.1=Yf x_1/\(∀(i:Nat),i<Qx3 b x.1->[ZI (GI (Qx2 b x.1) i)]=Hb x_1 i)/\True)/\(Qx5 b x.1=JR x_1/\(∀(i:Nat),i<Qx5 b x.1->Arr.row (List.getD (Qx4 b x.1) i QcT)=Qx6 x_1 i)/\True)/\True)/\True)/\(True/\True)/\x_1∈QcR b/\∀(_y:Unit),True->Qx7 c x.1 b x.2/\Qx7 c x.1 b x.2/\SM x.2/\Bc ((x.1+N1)*80<=140737488355328/\x.1+N1<=9223372036854775807) (∀(t:Nat),SM c/\(SM (D.ref N0 a N0)/\SM (D.ref (max (N0+N1) N0) f N0)/\SM (D.ref (max N2 (max (N0+N1) N0)+nat_lit 9) c N0)/\True)/\∃(y:Nat×Nat),Qju y.1 b/\JR b-y.1<JR b-x.1/\(IntKind.wrap IntKind.i64 ((NI x.1)+Z1)=(NI y.1)/\True)/\(SM c/\(QcS b/\QxU b d/\QxW b e/\(x.1+N1=y.1/\(∀(i:Nat),i<x.1+N1->BN x.1 (fun j=>Hf b j) (fun i=>List.getD [[QxR x_1,Qx8 x_1,QxQ x_1,D.sl N4 (JR x_1) (fun i=>Qx6 x_1 i) Mode.any]] i []) i=Hf b i)/\t=y.2)/\True)/\QxZ f a b)/\t=y.2/\True))) (SM c/\SM f/\(SM f/\True)/\∃(_y:Unit),True/\(QcS b/\(Xj b=Ye b/\(∀(i:Nat),i<Xj b->QxT b i=Hd b i)/\True)/\(Xk b=Yf b/\(∀(i:Nat),i<Xk b->QxV b i=Hb b i)/\True)/\(x.1=JR b/\(∀(i:Nat),i<x.1->QxY b i)/\True)/\True)/\True/\True)
def Qya(a:Nat)(b:Arr)(c d e:Nat):Prop:=Qjs a b/\Hc a b/\Bc (QxS b<=140737488355328/\Xk b<=9223372036854775807) (∀(t:Nat),Qx9 a b c d t e)
theorem Bnh(a : Arr)(ha : a.nu.length <= 1000000 /\ a.it.length <= 1000000 /\ a.sh.length <= 1000000)(hc : ConOk Tryz.prog (Bf7 a.it)) :
    ACalls Tryz.prog 173 ((sCl Arr.row2 Arr.row2 (fun _ => True)).args a) ⟨[],[]⟩ (SpecR (sCl Arr.row2 Arr.row2 (fun _ => True)) a) := by
  refine Bg (A := sCl Arr.row2 Arr.row2 (fun _ => True)) (x := a) (E := Ec2 a) (eOk hc rfl) Tryz.func173 rfl (by kernel_rfl) rfl (by simp [sCl,Ec2,EC,E0]) ?_
  refine Bi (T :=
    ∀ (x:Nat),True->∀ (x_1:Nat),x ≠ x_1/\True->SM x/\SM x/\SM x/\Bc (QxP a <= (140737488355328:Nat)/\Xj a <= (9223372036854775807:Nat)) (∀ (t:Nat),Qjs x a/\Hc x a/\Bc (QxS a <= (140737488355328:Nat)/\Xk a <= (9223372036854775807:Nat)) (∀ (t_1:Nat),Hc x a/\∀ (x_2:Nat),x_1 ≠ x_2/\x ≠ x_2/\True->Qx9 x a x_2 t t_1 x_1)/\∀ (x_2:Nat),x_1 ≠ x_2/\x ≠ x_2/\True->Qya x a x_2 t x_1)/\∀ (x_2:Nat),x_1 ≠ x_2/\x ≠ x_2/\True->Qjs x a/\(SM x/\SM (Qx8 a))/\Hc x a/\Bc (QxP a <= (140737488355328:Nat)/\Xj a <= (9223372036854775807:Nat)) (∀ (t:Nat),Qya x a x_2 t x_1)) (by kernel_rfl) ?_
  delta DA GI LN N0 N1 N2 N4 NI SI SM Z0 Z1 ZI Ye Xj Xk QxS QcR JR Qju QcS Hd QxT QxU QxV QxP QxW QcT He QPP QPQ QxX Hf Qjv QxY QxZ Yf QcU Qx0 Qx1 Qx2 Qx3 Qx4 Qx5 Qx6 QPR Qx7 Hb Qx8 Qx9 Qya QxQ Qjs Qjt QxR Hc
  have da:(default:Arr) = Arr.mk 0 [] [] [] := rfl
  simp only [<- da,eq_self,implies_true,Int.toNat_natCast,Bf,Bd,decide_eq_true_eq,decide_eq_false_iff_not,true_and,and_true,exists_const,forall_const]
  obtain ⟨l1,l2,l3⟩ := ha
  repeat' (first | (rintro ⟨j,t⟩ (hj:j <= a.it.length)) | intro _ | refine And.intro ?_ ?_)
  all_goals try simp only at *
  all_goals first
    | omega
    | exact ⟨(0,_),Nat.zero_le _,rfl,⟨rfl,fun i hi => absurd hi (Nat.not_lt_zero _),rfl⟩,rfl⟩
    | exact ⟨a.it.getD j default,⟨rfl,⟨rfl,fun _ _ => rfl⟩,⟨rfl,fun _ _ => rfl⟩,rfl,fun _ _ => rfl⟩,Cg (by omega),⟨by omega,by omega⟩,fun t2 => ⟨(j + 1,t2),by simp only; omega,by simp only; omega,Ba (by omega) (by omega),⟨rfl,BoK (g := Arr.row1) default,rfl⟩,rfl⟩⟩
    | (simp [BN]; done)
    | (have e : j = a.it.length := by omega
       subst e; rfl)
    | trace_state
  done
theorem Blk:∀(a:Arr),(Bw a).1=0->ACalls Tryz.prog 173 [.agg a.row1] ⟨[],[]⟩ (SpecR (sCl Arr.row1 Arr.row1 (fun _=>True)) a)
 |.mk k s n is,h=>by
  obtain ⟨h1,h2,h3,h4⟩:=EP h
  have hc:ConOk Tryz.prog (Bf7 (Arr.mk k s n is).it):=by
   intro k' ds S A hk
   unfold Bf7 at hk
   split at hk
   ·injection hk with hk;subst hk
    refine ConOk.plain (fun (b:Arr) hb=>?_) rfl rfl
    have hb':b∈is:=hb
    exact (Blk b (h4 b hb')).mono fun _ _ ⟨y,q1,q2,q3⟩=>⟨y,q1,q2,q3⟩
   ·cases hk
  have hm:=Bnh (.mk k s n is) ⟨by show n.length<=_;omega,by show is.length<=_;omega,by show s.length<=_;omega⟩ hc
  have hm2:ACalls Tryz.prog 173 [.agg (Arr.mk k s n is).row1] ⟨[],[]⟩ (SpecR (sCl Arr.row2 Arr.row2 (fun _=>True)) (.mk k s n is)):=by
   refine ACalls.wkArgs hm ?_
   simp only[sCl,wkL,wkD]
   exact⟨GP _,trivial⟩
  refine ACalls.wkEnd hm2 fun r S' ⟨y,q1,q2,q3⟩=>?_
  subst q2 q3
  refine⟨.ret (.agg (Arr.mk k s n is).row1),fun C e he=>?_,⟨(),trivial,rfl,rfl⟩⟩
  cases e with
  |returned v =>
   refine IJ (.agg (Arr.mk k s n is).row2) _ ?_ C v he
   simp only[wkD]
   exact Uj _
  |panicked _=>exact he.elim
  |outgrown=>exact he.elim
termination_by a=>SizeOf.sizeOf a
decreasing_by
 have:=List.sizeOf_lt_of_mem hb'
 simp;omega
def RCl(a:Arr):Prop:=ACalls Tryz.prog 173 [.agg a.row1] ⟨[],[]⟩ (SpecR (sCl Arr.row1 Arr.row1 (fun _=>True)) a)
theorem BjC{its:List Arr}(h:∀b∈its,RCl b):ConOk Tryz.prog (BcA its):=by
 intro k' ds S A hk
 unfold BcA at hk
 split at hk
 ·injection hk with hk;subst hk
  exact ConOk.plain (fun (b:Arr) hb=>(h b hb).mono fun _ _ ⟨y,q1,q2,q3⟩=>⟨y,q1,q2,q3⟩) rfl rfl
 ·exact OL _ _ _ _ hk
theorem RQ(hcl:∀b:Arr,(Bw b).1=0->RCl b):∀(a:Arr),a.ok->(Bw a).1=0->RLit a
 |.mk k s n is,ho,h=>by
  have lo:=Bfu ho h
  have hv:=(EP h).2.2.2
  have hok:∀b∈is,b.ok:=by
   simp only[Arr.ok] at ho
   exact (EY _).1 ho.2.2.2.2.2.2
  have ih:∀b∈is,RLit b:=fun b hb=>RQ hcl b (hok b hb) (hv b hb)
  refine TB (TD (.mk k s n is) lo (WT lo ih (rfs lo.kd) (fun h1=>?_) (fun _=>BjC fun b hb=>hcl b (hv b hb)) (fun h1 _=>Biu lo ih (rfs lo.kd) h1)))
  have hsub:∀c∈(atA (.mk k s n is) 0).it,c∈is:=by
   intro c hc
   unfold atA at hc
   by_cases h3:(Arr.mk k s n is).k=3
   ·rw[if_pos h3] at hc
    have h2:is.length=1:=by
     have h4:n=[]:=lo.bx h3
     have h1:n.length+is.length=1:=h1
     rw[h4] at h1;simpa using h1
    have:c=is.getD 0 default:=List.mem_singleton.1 hc
    rw[this];exact Cg (by omega)
   ·rw[if_neg h3] at hc;cases hc
  have lo':=Bkw lo h1
  refine U7 lo' (lo'.sc ?_) (fun c hc=>ih c (hsub c hc))
  unfold atA
  split<;>rfl
termination_by a=>SizeOf.sizeOf a
decreasing_by
 have:=List.sizeOf_lt_of_mem hb
 simp;omega
theorem Bjr(a:Arr)(ho:a.ok)(h:(Bw a).1=0):RLit a:=RQ (fun b hb=>Blk b hb) a ho h
def Bfp(a:Arr):Con:=fun k _ _=>match k with
 |107=>some (sRc Arr.row1 (fun b=>b=a) BjD)
 |159=>some (sRc Arr.row1 (fun b=>b=a/\(Bw a).1=0) (fun b=>.str (By b)))
 |_=>none
theorem Bh4{a:Arr}(ho:a.ok):ConOk Tryz.prog (Bfp a):=by
 intro k ds S A h
 unfold Bfp at h
 split at h
 ·injection h with h;subst h
  refine ConOk.plain (fun b hb=>?_) rfl rfl
  have hb:b=a:=hb
  rw[hb]
  exact El (Bku a ho)
 ·injection h with h;subst h
  refine ConOk.plain (fun b hb=>?_) rfl rfl
  obtain ⟨hb,h1⟩:b=a/\(Bw a).1=0:=hb
  rw[hb]
  exact El (Bjr a ho h1)
 ·cases h
noncomputable def Ertl(a:Arr):Senv:=EC (Bfp a) 8 3 [5] (fun _=>([],[]))
def Qjw(a:Arr):Nat:=LN (Arr.sh a)
def Qyb(a:Arr)(b:Nat):List D:=[ZI (GI (Arr.sh a) b)]
def Qjx(a:Arr):Nat:=LN (Arr.nu a)
def Qyc(a:Arr)(b:Nat):List D:=[ZI (GI (Arr.nu a) b)]
def Qjy(a:Arr):Nat:=LN (Arr.it a)
def Qyd(a:Arr)(b:Nat):List D:=Arr.row (GA (Arr.it a) b)
def Qye(a b:Arr):Prop:=(Arr.k a=Arr.k b/\(Qjw a=Qjw b/\(∀(i:Nat),i<Qjw a->Qyb a i=Qyb b i)/\True)/\(Qjx a=Qjx b/\(∀(i:Nat),i<Qjx a->Qyc a i=Qyc b i)/\True)/\(Qjy a=Qjy b/\(∀(i:Nat),i<Qjy a->Qyd a i=Qyd b i)/\True)/\True)/\True
theorem Blv(a : Arr)(ho : a.ok) :
  ACalls Tryz.prog 149 ((sRc Arr.row1 (fun _=>True) (fun b=>.str (GS b))).args a) ⟨[],[]⟩ (SpecR (sRc Arr.row1 (fun _=>True) (fun b=>.str (GS b))) a):=by
 refine Bg (A:=sRc Arr.row1 (fun _=>True) (fun b=>.str (GS b))) (x:=a) (E:=Ertl a) (eOk (Bh4 ho) rfl) Tryz.func149 rfl (by kernel_rfl) rfl (by simp[sRc,Ertl,EC,E0]) ?_
 refine Bi (T :=
  ∀(x:Nat),True->SM x/\∃(x_1:Arr),Qye a x_1/\(True/\True)/\x_1=a/\∀(y:Unit),True->ifB (Prod.fst (Bw x_1) != Z0) (RT (Cw (List UInt8) [] (GS a))) (SM x/\∃(x:Arr),Qye a x/\(True/\True)/\(x=a/\Prod.fst (Bw a)=Z0)/\∀(y:Unit),True->RT (By x=GS a))) (by kernel_rfl) ?_
 delta DA GA GI LN SM Z0 ZI Qjw Qyb Qjx Qyc Qjy Qyd Qye RT
 have da:(default:Arr)=Arr.mk 0 [] [] []:=rfl
 simp only[<- da,Bf,true_and,and_true,bne_iff_ne,ne_eq,exists_const,forall_const]
 refine⟨a,⟨rfl,⟨rfl,fun _ _=>rfl⟩,⟨rfl,fun _ _=>rfl⟩,rfl,fun _ _=>rfl⟩,rfl,fun h=>by rw[GS,if_neg h],fun h=>?_⟩
 have h:(Bw a).1=0:=by simpa using h
 exact⟨a,⟨rfl,⟨rfl,fun _ _=>rfl⟩,⟨rfl,fun _ _=>rfl⟩,rfl,fun _ _=>rfl⟩,⟨rfl,h⟩,by rw[GS,if_pos h]⟩
noncomputable def Eidk(l:List Int)(v:Int):Senv:={ EC EB 19 2 [4,5,7,8,9,16] (fun _=>([],[])) with
 ann:=fun b _ _=>match b with
  |0=>some (BpE (fun d=>v==d) l [0,1,6,7])
  |_=>none }
def Qjz(a:Int)(b:List Int)(c:Nat):Prop:=IdxHead (fun (d:Int)=>a==d) b c
def QPS(a:List Int):D:=SI a
theorem BoQ(l:List Int)(v:Int)(hl:l.length<=maxLen):CD 142 [isl l .any,.int .i64 v] (.int .i64 (Ii (fun d=>v==d) l 0)):=by
 refine Bg (A:=sC _ _) (x:=()) (E:=Eidk l v) (eOk BM rfl) Tryz.func142 rfl (by kernel_rfl) rfl (by simp[sC,Eidk,EC,E0]) ?_
 refine Bi (T :=
  (∃(x:Nat),Qjz v l x/\(Z0=(↑x:Int)/\True)/\True/\True)/\∀(x:Nat),Qjz v l x->ifB (decide ((↑x:Int)<(LI l))) (Bc (Z0<=(↑x:Int)/\(↑x:Int)<(LI l)) (ifB (v==GI l (Int.toNat (↑x:Int))) (RT ((↑x:Int)=Ii (fun (d:Int)=>v==d) l N0)) ((SM (QPS l)/\SM (ZI v)/\SM D.unk/\SM (ZI (LI l))/\True)/\∃(y:Nat),Qjz v l y/\LN l-y<LN l-x/\(IntKind.wrap IntKind.i64 ((↑x:Int)+Z1)=(↑y:Int)/\True)/\True/\True))) (RT ((-1:Int)=Ii (fun (d:Int)=>v==d) l N0))) (by kernel_rfl) ?_
 delta GI LI LN N0 N1 SI SM Z0 Z1 ZI Qjz QPS RT
 simp only[Int.toNat_natCast,Bf,Bd,decide_eq_true_eq,decide_eq_false_iff_not,true_and,and_true,exists_const]
 simp only[maxLen] at hl
 refine⟨⟨0,⟨Nat.zero_le _,by simp⟩,rfl⟩,fun i hh=>⟨fun hlt=>?_,fun hge=>(hh.done hge).symm⟩⟩
 have hlt':i<l.length:=by omega
 obtain ⟨s1,s2⟩:=hh.step hlt'
 exact⟨by omega,fun h=>(s1 h).symm,fun h=>⟨i+1,s2 h,by omega,Ba (by omega) (by omega)⟩⟩
noncomputable def Bj8(l:List Int)(v:Int):Con:=fun k ds S=>match k with
 |142=>some (pA ds S (.int .i64 (Ii (fun d=>v==d) l 0)) (wkL ds [isl l .any,.int .i64 v]))
 |_=>none
noncomputable def Ectk(l:List Int)(v:Int):Senv:=EC (Bj8 l v) 9 2 [4] (fun _=>([],[]))
def Qyf(a:List Int)(b:Int):List D:=[SI a,ZI b]
theorem Bpr(l:List Int)(v:Int)(hl:l.length<=maxLen):CD 122 [isl l .any,.int .i64 v] (.bool (l.contains v)):=by
 refine Bg (A:=sC _ _) (x:=()) (E:=Ectk l v) (eOk ?_ rfl) Tryz.func122 rfl (by kernel_rfl) rfl (by simp[sC,Ectk,EC,E0]) ?_
 ·intro k ds S A hh
  try unfold Bj8 at hh
  try dsimp only at hh
  split at hh
  ·injection hh with hh;subst hh
   exact Bo fun e=>CD.at_ (CD.wk (BoQ l v hl) e) _
  ·cases hh
 refine Bi (T :=
  ∃(x:Unit),wkL (Qyf l v) (Qyf l v)/\∀(y:Unit),True->RT (decide (Z0<=Ii (fun (d:Int)=>v==d) l N0)=List.contains l v)) (by kernel_rfl) ?_
 delta GI LN N0 N1 SI Z0 ZI Qyf RT
 simp only[true_and,and_true,exists_const,forall_const]
 have e:=Tf (fun d=>v==d) l 0
 have e2:(l.any fun d=>v==d)=l.contains v:=by rw[Bool.eq_iff_iff,List.any_eq_true,List.contains_eq_mem,decide_eq_true_eq];simp
 rw[e2] at e
 first
  |exact⟨Be _,e⟩
  |exact⟨Be _,e,fun _ _=>trivial⟩
def RShow(n:Nd):Prop:=CD 84 [.agg n.row2] (.str (Bv n))/\(Bv n).length<=20000000000000
def Bn1(n:Nd):Con:=fun k ds S=>match k with
 |84=>some (pA ds S (.str (Bv n)) (isN n ds []))
 |122=>match ds with
  | [.sl 1 m f _,.int .i64 v]=>some (pA ds S (.bool ((Bj m f).contains v)) (wkL ds [isl (Bj m f) .any,.int .i64 v]/\m<=maxLen))
  |_=>none
 |_=>none
noncomputable def Ewi(n:Nd):Senv:=EC (Bn1 n) 15 3 [4,8] (fun _=>([],[]))
def Qyg(a:List Int):List Int:=Bj (LN a) fun i=>[ZI (GI a i)]
def Qyj(a:Nd):Prop:=isN a [D.agg (Nd.rowE a)] []
def QcW(a:Nd):List UInt8:=Bv a
theorem BqE(n:Nd)(ks:List Int)(hn:RShow n)(hk:ks.length<=maxLen):CD 101 [.agg n.row1,isl ks .any] (.str (BB ks n)):=by
 refine Bg (A:=sC _ _) (x:=()) (E:=Ewi n) (eOk ?_ rfl) Tryz.func101 rfl (by kernel_rfl) rfl (by simp[sC,Ewi,EC,E0]) ?_
 ·intro k ds S A hh
  try unfold Bn1 at hh
  try dsimp only at hh
  split at hh
  ·injection hh with hh;subst hh
   exact Bo fun e=>CD.at_ (CD.isN hn.1 e) _
  ·split at hh
   ·injection hh with hh;subst hh
    exact Bo fun ⟨e,hm⟩=>CD.at_ (CD.wk (Bpr _ _ (by rw[BL];exact hm)) e) _
   ·cases hh
  ·cases hh
 refine Bi (T :=
  ∀(x:Nat),True->SM x/\∃(x_1:Unit),(wkL [SI ks,ZI (Nd.kd n)] [SI (Qyg ks),ZI (Nd.kd n)]/\LN ks<=9223372036854775807)/\∀(y:Unit),True->ifB (List.contains (Qyg ks) (Nd.kd n)) (SM x/\∃(x:Unit),Qyj n/\∀(y:Unit),True->Bc (N2+LN (QcW n)<=9223372036854775807) (Bc (LN ((40:UInt8)::(32:UInt8)::List.append [] (QcW n))+N2<=9223372036854775807) (RT ((40:UInt8)::(32:UInt8)::List.append (List.append [] (QcW n)) [(32:UInt8),(41:UInt8)]=BB ks n)))) (SM x/\∃(x:Unit),Qyj n/\∀(y:Unit),True->RT (QcW n=BB ks n))) (by kernel_rfl) ?_
 delta DA GI LN N1 N2 N4 SI SM Z0 ZI Qyj QcW Qyg RT
 try simp only[<- dm]
 try simp only[<- dn]
 simp only[Bf,Bd,true_and,and_true,exists_const,forall_const]
 simp only[B0]
 have hl:=hn.2
 unfold maxLen at hk
 refine⟨⟨Be _,hk⟩,fun h=>⟨Bl _ _,by omega,?_,?_⟩,fun h=>⟨Bl _ _,?_⟩⟩
 ·simp only[List.length_cons,List.append_eq,List.nil_append];omega
 ·unfold BB Ei;rw[if_pos h];rfl
 ·unfold BB Ei;rw[if_neg (by rw[h];exact Bool.false_ne_true)]
def Bak(q:Nd->Prop):Con:=fun k ds S=>match k with
 |101=>match ds with
  | [_,.sl 1 m f _]=>some (pE (β:=Nd) ds S (fun b=>.str (BB (Bj m f) b)) (fun b=>wkL ds [.agg b.row1,isl (Bj m f) .any]/\m<=maxLen/\q b))
  |_=>none
 |84=>some (pE (β:=Nd) ds S (fun b=>.str (Bv b)) (fun b=>isN b ds []/\q b))
 |k=>OM k ds S
theorem O9{q:Nd->Prop}(h:∀b,q b->RShow b):ConOk Tryz.prog (Bak q):=by
 intro k ds S A hh
 unfold Bak at hh
 split at hh
 ·split at hh
  ·injection hh with hh;subst hh
   exact Co fun b ⟨e,hm,hb⟩=>CD.at_ (CD.wk (BqE b _ (h b hb) (by rw[BL];exact hm)) e) _
  ·cases hh
 ·injection hh with hh;subst hh
  exact Co fun b ⟨e,hb⟩=>CD.at_ (CD.isN (h b hb).1 e) _
 ·exact Ib _ _ _ _ hh
noncomputable def Ewd(q:Nd->Prop)(l:List Nd)(ks:List Int):Senv:={ EC (Bak q) 23 2 [4,5,7,8,9,10,11] (fun _=>([],[])) with
 gh:=fun b=>match b with
  |0=>[.slot 5]
  |_=>[]
 ann:=fun b _ S=>match b with
  |0=>some { slots:=[10,5],keep:=[0,1,8,9],α:=Nat×Nat×List (List UInt8),st:=fun y=>([.int .i64 y.1,ssl y.2.2 (.tok 0 y.2.1)],⟨S.objs,[(0,y.2.1)]⟩),inv:=fun y=>y.1<=l.length/\y.2.2=(l.take y.1).map (BB ks),mu:=fun y=>l.length-y.1 }
  |_=>none }
def QjB(a:Nat)(b:List Nd)(c:List (List UInt8))(d:List Int):Prop:=a<=LN b/\c=List.map (BB d) (List.take a b)
def Hg(a:List (List UInt8))(b:Nat):List D:=[D.str (List.getD a b [])]
def QcX:Arr:=DA
def Xl:Nd:=Nd.mk Z0 Z0 Z0 [] Z0 Z0 QcX [] [] Z0 Z0 Z0
def Km(a:List Nd)(b:Nat):Nd:=List.getD a (Int.toNat (↑b:Int)) Xl
def Qyn(a:List Int):D:=SI a
def Qyp(a:List Int):List Int:=Bj (LN a) fun i=>[ZI (GI a i)]
def Kn(a:List Nd)(b:Nat):Nd:=List.getD a b Xl
def QP1(a:List Nd):D:=D.sl 15 (LN a) (fun i=>(Nd.rowE (Kn a i))) Mode.any
def Qyt(a:List Nd):Prop:=SM (QP1 a)
def Qyu(a:List (List UInt8)):List (List UInt8):=B5 (LN a) fun i=>Hg a i
theorem BqC(q : Nd -> Prop)(l : List Nd)(ks : List Int)(h : ∀b, q b -> RShow b)(hq : ∀b∈l, q b)(hl : l.length<=1000000)(hk : ks.length<=maxLen)(hj : (Lib.join (l.map (BB ks)) [32]).length<=20000000000000) :
  CD 100 [gsl 15 Nd.row1 l,isl ks .any] (.str (Lib.join (l.map (BB ks)) [32])):=by
 refine Bg (A:=sC _ _) (x:=()) (E:=Ewd q l ks) (eOk (O9 h) rfl) Tryz.func100 rfl (by kernel_rfl) rfl (by simp[sC,Ewd,EC,E0]) ?_
 refine Bi (T :=
  ∀(t:Nat),(∃(x:Nat×Nat×List (List UInt8)),QjB x.1 l x.2.2 ks/\(Z0=(NI x.1)/\(N0=LN x.2.2/\(∀(i:Nat),i<N0->Cw (List D) [] (Hg x.2.2 i))/\t=x.2.1)/\True)/\True/\t=x.2.1/\True)/\∀(x:Nat×Nat×List (List UInt8)),QjB x.1 l x.2.2 ks->ifB (decide ((NI x.1)<(LI l))) (Bc (Z0<=(NI x.1)/\(NI x.1)<(LI l)) (∀(x_1:Nat),True->SM x_1/\SM x_1/\∃(x_2:Nd),(wkL [D.agg (Nd.rowE (Km l x.1)),Qyn ks] [D.agg (Nd.rowE x_2),SI (Qyp ks)]/\LN ks<=9223372036854775807/\q x_2)/\∀(y:Unit),True->SM x.2.1/\Bc ((LN x.2.2+N1)*16<=140737488355328/\LN x.2.2+N1<=9223372036854775807) (∀(t:Nat),(Qyt l/\SM (Qyn ks)/\Qyt l/\SM (ZI (LI l))/\True)/\∃(y:Nat×Nat×List (List UInt8)),QjB y.1 l y.2.2 ks/\LN l-y.1<LN l-x.1/\(IntKind.wrap IntKind.i64 ((NI x.1)+Z1)=(NI y.1)/\(LN x.2.2+N1=LN y.2.2/\(∀(i:Nat),i<LN x.2.2+N1->BN (LN x.2.2) (fun i=>Hg x.2.2 i) (fun i=>[D.str (List.getD [BB (Qyp ks) x_2] i [])]) i=Hg y.2.2 i)/\t=y.2.1)/\True)/\True/\t=y.2.1/\True))) (((Gx (LN x.2.2) fun i=>Hg x.2.2 i)=true/\GG (Qyu x.2.2) [(32:UInt8)])/\∀(y:Unit),True->RT (Lib.join (Qyu x.2.2) [(32:UInt8)]=Lib.join (List.map (BB ks) l) [(32:UInt8)]))) (by kernel_rfl) ?_
 delta DA GI LI LN N0 N1 N4 NI SI SM Z0 Z1 ZI QjB Hg QcX Xl Km Qyn Qyp Kn QP1 Qyt Qyu RT
 try simp only[<- dm]
 try simp only[<- dn]
 simp only[Int.toNat_natCast,Bf,Bd,decide_eq_true_eq,decide_eq_false_iff_not,true_and,and_true,exists_const,forall_const,Prod.exists]
 simp only[B0]
 unfold maxLen at hk
 refine fun t=>⟨⟨0,t,[],⟨Nat.zero_le _,rfl⟩,⟨rfl,rfl,fun i hi=>absurd hi (Nat.not_lt_zero _),rfl⟩,rfl⟩,?_⟩
 rintro ⟨i,tk,out⟩ ⟨hi,ho⟩
 simp only at hi ho ⊢
 have hlen:out.length=i:=by rw[ho,List.length_map,List.length_take];omega
 refine⟨fun hlt=>?_,fun hge=>?_⟩
 ·have hlt':i<l.length:=by omega
  refine⟨⟨by omega,hlt⟩,l.getD i default,⟨Be _,hk,hq _ (BX hlt')⟩,⟨by omega,by omega⟩,fun t2=>⟨i+1,t2,out++[BB ks (l.getD i default)],⟨hlt',?_⟩,by omega,⟨?_,by simp,fun j hj=>O8 j hj,rfl⟩,rfl⟩⟩
  ·rw[B6 hlt',List.map_append,ho];rfl
  ·rw[Ba (by omega) (by omega)];rfl
 ·have e:i=l.length:=by omega
  rw[e,List.take_length] at ho
  have e1:B5 out.length (fun i=>[D.str (out.getD i [])])=out:=MP rfl fun _ _=>rfl
  have e2:Gx out.length (fun i=>[D.str (out.getD i [])])=true:=Oz rfl fun _ _=>rfl
  rw[e1,ho]
  rw[ho] at e2
  refine⟨⟨?_,?_,?_⟩,rfl⟩
  ·exact e2
  ·rw[List.length_map];omega
  ·omega
noncomputable def Estm(q:Nd->Prop):Senv:=EC (Bak q) 27 3 [4,5,14] (fun id=>match id with | 3=>([0,1,2,3,4,5,6,7],[5]) | 5=>([0,1,4,5,2,3,6,7,8],[2,6]) | _=>([],[]))
def QjD(a:Sm):List UInt8:=Sm.nm a
def Ko(a:Sm):Nd:=Sm.nd a
def Qyz(a:Sm):D:=D.agg (Nd.rowE (Ko a))
def QjF(a:Nd)(b:Sm)(c:Nd->Prop):Prop:=isN a [Qyz b] []/\c a
def QyA(a:Sm):List UInt8:=QjD a++[32,60,45,32]
def Hh(a:Nd):List UInt8:=Bv a
def QjG(a:Nd):Nat:=LN (Hh a)
def QjH(a:Sm):List UInt8:=B4 a
def Kp(a:Sm):Nd:=Sm.te a
def QyE(a:Nd):List UInt8:=Hh a++[32,58,32]
theorem Bpl(q:Nd->Prop)(s:Sm)(h:∀b,q b->RShow b)(h1:q s.nd)(h2:s.kd=3->q s.te)(hn:s.nm.length<=BC):CD 103 [.agg s.row1] (.str (B4 s)):=by
 refine Bg (A:=sC _ _) (x:=()) (E:=Estm q) (eOk (O9 h) rfl) Tryz.func103 rfl (by kernel_rfl) rfl (by simp[sC,Estm,EC,E0]) ?_
 refine Bi (T :=
  ∀(x:Nat),True->SM x/\ifB (Sm.kd s==2) (SM x/\Bc (LN (QjD s)+N4<=9223372036854775807) (SM x/\∃(x_1:Nd),QjF x_1 s q/\∀(y:Unit),True->(SM x/\SM (D.str (QjD s)))/\Bc (LN (QyA s)+QjG x_1<=9223372036854775807) (RT (QyA s++Hh x_1=QjH s)))) (ifB (Sm.kd s==3) (SM x/\SM x/\∃(x_1:Nd),(isN x_1 [D.agg (Nd.rowE (Kp s))] []/\q x_1)/\∀(y:Unit),True->(SM x/\SM (Qyz s))/\Bc (QjG x_1+3<=9223372036854775807) (∃(x:Nd),QjF x s q/\∀(y:Unit),True->Bc (LN (QyE x_1)+QjG x<=9223372036854775807) (RT (QyE x_1++Hh x=QjH s)))) (SM x/\∃(x:Nd),QjF x s q/\∀(y:Unit),True->RT (Hh x=QjH s)))) (by kernel_rfl) ?_
 delta DA GI LN N1 N4 SI SM Z0 ZI QjD Ko Qyz QjF QyA Hh QjG QjH Kp QyE RT
 try simp only[<- dm]
 try simp only[<- dn]
 simp only[ne_eq,Bf,Bd,true_and,and_true,beq_iff_eq,beq_eq_false_iff_ne,exists_const,forall_const]
 unfold BC at hn
 have l1:=(h _ h1).2
 rw[O3]
 refine⟨fun a=>⟨by omega,s.nd,⟨Bl _ _,h1⟩,?_,?_⟩,fun a=>⟨fun b=>?_,fun b=>⟨s.nd,⟨Bl _ _,h1⟩,?_⟩⟩⟩
 ·simp only[List.length_append,List.length_cons,List.length_nil];omega
 ·rw[if_pos a]
 ·have l2:=(h _ (h2 b)).2
  refine⟨s.te,⟨Bl _ _,h2 b⟩,by omega,s.nd,⟨Bl _ _,h1⟩,?_,?_⟩
  ·simp only[List.length_append,List.length_cons,List.length_nil];omega
  ·rw[if_neg a,if_pos b]
 ·rw[if_neg a,if_neg b]
def OT(n:Nd):List UInt8 :=
 let x:=BB [16] (n.ki.getD 1 default)++[32]++Bv (n.ki.getD 0 default)
 if n.kd=15 then x++([32]++BB [3,4,5,16,14,15] (n.ki.getD 2 default)) else x
noncomputable def Edv(q:Nd->Prop):Senv:=EC (Bak q) 30 4 [19] (fun id=>match id with | 1=>([0,1,2,3,7,8,9,10,4,5,6,11,12,13],[4,5,11]) | _=>([],[]))
def Yg(a:Nd):List Nd:=Nd.ki a
def QjI(a:Nd):Int:=(LI (Yg a))
def Qc4:Arr:=DA
def J9:Nd:=Nd.mk Z0 Z0 Z0 [] Z0 Z0 Qc4 [] [] Z0 Z0 Z0
def QP6(a:Nd):D:=D.sl 15 (LN (Yg a)) (fun i=>Nd.row1 (List.getD (Yg a) i J9)) Mode.any
def QjJ(a:Nat)(b:Nd):Prop:=SM a/\SM (QP6 b)
def Kq(a:Nd):Nd:=List.getD (Yg a) N1 J9
def QyI:List Int:=Bj N1 fun i=>List.getD [[ZI 16]] i []
def QyJ(a:Nd):List UInt8:=BB QyI a
def Kr(a:Nd):Nd:=List.getD (Yg a) N0 J9
def QyN(a:Nd):List UInt8:=QyJ a++[32]
def Ks(a:Nd):Nd:=List.getD (Yg a) N2 J9
def QyR(a:Nat):List D:=List.getD [[ZI 3],[ZI 4],[ZI 5],[ZI 16],[ZI 14],[ZI 15]] a []
def QyS:List Int:=Bj N6 fun i=>QyR i
def QyT(a:Nd):List UInt8:=BB QyS a
def QjL(a b:Nd):List UInt8:=QyN a++Bv b
def QyU(a:Nd):List UInt8:=(32:UInt8)::List.append [] (QyT a)
theorem Bp5(q:Nd->Prop)(n:Nd)(h:∀b,q b->RShow b)(hq:∀b∈n.ki,q b)(h2:2<=n.ki.length)(h3:n.kd=15->n.ki.length=3):CD 102 [.agg n.row2] (.str (OT n)):=by
 refine Bg (A:=sC _ _) (x:=()) (E:=Edv q) (eOk (O9 h) rfl) Tryz.func102 rfl (by kernel_rfl) rfl (by simp[sC,Edv,EC,E0]) ?_
 refine Bi (T :=
  ∀(x:Nat),True->SM x/\Bc (Z0<=Z1/\Z1<QjI n) (SM x/\Bc (Z0<=Z0/\Z0<QjI n) (QjJ x n/\QjJ x n/\∃(x_1:Nd),(wkL [D.agg (Nd.rowE (Kq n)),D.sl N1 N1 (fun i=>List.getD [[ZI 16]] i []) Mode.full] [D.agg (Nd.row1 x_1),SI QyI]/\N1<=9223372036854775807/\q x_1)/\∀(y:Unit),True->QjJ x n/\Bc (LN (QyJ x_1)+N1<=9223372036854775807) (∃(x_2:Nd),(isN x_2 [D.agg (Nd.rowE (Kr n))] []/\q x_2)/\∀(y:Unit),True->Bc (LN (QyN x_1)+LN (Bv x_2)<=9223372036854775807) (SM x/\ifB (Nd.kd n==15) (SM x/\Bc (Z0<=2/\(2:Int)<QjI n) (∃(x:Nd),(wkL [D.agg (Nd.rowE (Ks n)),D.sl N1 N6 (fun i=>QyR i) Mode.full] [D.agg (Nd.row1 x),SI QyS]/\N6<=9223372036854775807/\q x)/\∀(y:Unit),True->Bc (N1+LN (QyT x)<=9223372036854775807) (Bc (LN (QjL x_1 x_2)+LN (QyU x)<=9223372036854775807) (RT (QjL x_1 x_2++QyU x=OT n))))) (RT (QjL x_1 x_2=OT n))))))) (by kernel_rfl) ?_
 delta DA GI LI LN N0 N1 N2 N4 N6 SI SM Z0 Z1 ZI QyU Yg QjI Qc4 J9 QP6 QjJ Kq QyI QyJ Kr QyN Ks QyR QyS QyT QjL RT
 try simp only[<- dm]
 try simp only[<- dn]
 simp only[ne_eq,Bf,Bd,true_and,and_true,beq_iff_eq,beq_eq_false_iff_ne,exists_const,forall_const]
 have i1:Bj 1 (fun i=>[[D.int IntKind.i64 16]].getD i [])=[16]:=rfl
 have i6:Bj 6 (fun i=>[[D.int IntKind.i64 3],[D.int IntKind.i64 4],[D.int IntKind.i64 5],[D.int IntKind.i64 16],[D.int IntKind.i64 14],[D.int IntKind.i64 15]].getD i [])=[3,4,5,16,14,15]:=rfl
 have p1:IntsP 1 (fun i=>[[D.int IntKind.i64 16]].getD i []):=fun i hi=>by
  match i,hi with
  |0,_=>rfl
 have p6:IntsP 6 (fun i=>[[D.int IntKind.i64 3],[D.int IntKind.i64 4],[D.int IntKind.i64 5],[D.int IntKind.i64 16],[D.int IntKind.i64 14],[D.int IntKind.i64 15]].getD i []):=fun i hi=>by
  match i,hi with
  |0,_=>rfl
  |1,_=>rfl
  |2,_=>rfl
  |3,_=>rfl
  |4,_=>rfl
  |5,_=>rfl
 have q0:=hq _ (BX (l:=n.ki) (i:=0) (by omega))
 have q1:=hq _ (BX (l:=n.ki) (i:=1) (by omega))
 have wl:∀(ks:List Int) (b:Nd),q b->(BB ks b).length<=20000000000004:=fun ks b hb=>by
  have h1:=CU ks b.kd (Bv b)
  have h2:=(h b hb).2
  unfold BB
  omega
 have r0:=(h _ q0).2
 have r1:=wl [16] _ q1
 refine⟨⟨by omega,by omega⟩,⟨by omega,by omega⟩,n.ki.getD 1 default,⟨Cj (r:=(n.ki.getD 1 default).row1) p1,by omega,q1⟩,?_,n.ki.getD 0 default,⟨Bl _ _,q0⟩,?_,fun hk=>?_,fun hk=>?_⟩
 ·rw[i1];omega
 ·rw[i1];simp only[List.length_append,List.length_cons,List.length_nil];omega
 ·have hl:=h3 hk
  have q2:=hq _ (BX (l:=n.ki) (i:=2) (by omega))
  have r2:=wl [3,4,5,16,14,15] _ q2
  refine⟨⟨by omega,by omega⟩,n.ki.getD 2 default,⟨Cj (r:=(n.ki.getD 2 default).row1) p6,by omega,q2⟩,?_,?_,?_⟩
  ·rw[i6];omega
  ·rw[i1,i6];simp only[List.length_append,List.length_cons,List.length_nil,List.append_eq];omega
  ·rw[i1,i6]
   unfold OT
   rw[if_pos hk]
   rfl
 ·rw[i1]
  unfold OT
  rw[if_neg hk]
def Beh(n:Nd)(q:Nd->Prop)(qs:Sm->Prop):Con:=fun k ds S=>match k with
 |99=>some (pA ds S (.str (GS n.va)) (wkL ds [.agg n.va.row1]))
 |77=>some (pA ds S (.str (Cf n.pr)) (wkL ds [.int .i64 n.pr]))
 |78=>some (pA ds S (.str (opT n.op)) (wkL ds [.int .i64 n.op]))
 |100=>match ds with
  | [_,.sl 1 m f _]=>some (pA ds S (.str (Lib.join (n.ki.map (BB (Bj m f))) [32])) (wkL ds [gsl 15 Nd.row1 n.ki,isl (Bj m f) .any]/\m<=maxLen/\n.ki.length<=1000000/\(Lib.join (n.ki.map (BB (Bj m f))) [32]).length<=20000000000000))
  |_=>none
 |102=>some (pA ds S (.str (OT n)) (isN2 n ds []/\2<=n.ki.length/\(n.kd=15->n.ki.length=3)))
 |103=>some (pE (β:=Sm) ds S (fun s=>.str (B4 s)) (fun s=>isS s ds []/\qs s))
 |k=>Bak q k ds S
theorem Bhy{n:Nd}{q:Nd->Prop}{qs:Sm->Prop}(ho:n.ok)(h:∀b,q b->RShow b)(hq:∀b∈n.ki,q b)(hs:∀s,qs s->q s.nd/\(s.kd=3->q s.te)/\s.nm.length<=BC):ConOk Tryz.prog (Beh n q qs):=by
 intro k ds S A hh
 unfold Beh at hh
 split at hh
 ·injection hh with hh;subst hh
  exact Bo fun e=>CD.at_ (CD.wk (show CD _ [.agg n.va.row1] _ from (Bnv n.va (OI ho)).mono fun _ _ ⟨_,h1,h2,h3⟩=>⟨(),trivial,h2,h3⟩) e) _
 ·injection hh with hh;subst hh
  exact Bo fun e=>CD.at_ (CD.wk (BkQ n.pr) e) _
 ·injection hh with hh;subst hh
  exact Bo fun e=>CD.at_ (CD.wk (Bmh n.op) e) _
 ·split at hh
  ·injection hh with hh;subst hh
   exact Bo fun ⟨e,hm,hl,hj⟩=>CD.at_ (CD.wk (BqC q n.ki _ h hq hl (by rw[BL];exact hm) hj) e) _
  ·cases hh
 ·injection hh with hh;subst hh
  exact Bo fun ⟨e,h2,h3⟩=>CD.at_ (CD.wk (Bp5 q n h hq h2 h3) e) _
 ·injection hh with hh;subst hh
  exact Co fun s ⟨e,hb⟩=>CD.at_ (CD.wk (Bpl q s h (hs s hb).1 (hs s hb).2.1 (hs s hb).2.2) e) _
 ·exact O9 h _ _ _ _ hh
theorem Tl{d:D}{m:Nat}{f:Nat->List D}{md:Ab.Mode}(h:IntsP m f):wkL [d,.sl 1 m f md] [d,isl (Bj m f) .any]:=by
 simp only[wkL]
 refine⟨Bh _,?_,trivial⟩
 simp only[isl,wkD,Bb]
 refine⟨by simp,by simp[BL],fun i hi=>?_,by simp[BG]⟩
 have e:(Bj m f).getD i 0=Bg1 (f i):=by simp[Bj,List.getD_eq_getElem?_getD,hi]
 rw[e,h i hi]
 exact Be _
noncomputable def Eshn(n:Nd)(q:Nd->Prop)(qs:Sm->Prop):Senv:={ EC (Beh n q qs) 111 4 [5,7,8,13,17,19,21,23,25,27,29,34,39,45,60,83,89,95,96,97,98] (fun id=>match id with | 25=>([0,1,2,3,7,8,9,10,4,5,6,11,12,13],[4,5,11]) | 27=>([0,1,2,3,7,8,9,10,15,16,17,18,4,5,6,11,12,13,14,19,20,21],[4,5,11,12,19]) | _=>([],[])) with
 mg:=fun _=>2
 gh:=fun b=>match b with
  |1=>[.slot 3]
  |_=>[]
 ann:=fun b _ S=>match b with
  |1=>some { slots:=[97,3],keep:=[0,1,95,96],α:=Nat×Nat×List (List UInt8),st:=fun y=>([.int .i64 y.1,ssl y.2.2 (.tok 0 y.2.1)],⟨S.objs,[(0,y.2.1)]⟩),inv:=fun y=>y.1<=n.bo.length/\y.2.2=(n.bo.take y.1).map B4,mu:=fun y=>n.bo.length-y.1 }
  |_=>none }
def Qm(a:Nd):Int:=Nd.kd a
def Hi(a:Nd):Arr:=Nd.va a
def QyV(a:Nd):Int:=Arr.k (Hi a)
def QyW(a:Nd):D:=ZI (QyV a)
def QyX(a:Nd):List Int:=Arr.sh (Hi a)
def QjM(a:Nd):Nat:=LN (QyX a)
def QyY(a:Nd)(b:Nat):List D:=[ZI (GI (QyX a) b)]
def QyZ(a:Nd):D:=D.sl N1 (QjM a) (fun i=>QyY a i) Mode.any
def Qy0(a:Nd):List Int:=Arr.nu (Hi a)
def QjN(a:Nd):Nat:=LN (Qy0 a)
def Qy1(a:Nd)(b:Nat):List D:=[ZI (GI (Qy0 a) b)]
def Qy2(a:Nd):D:=D.sl N1 (QjN a) (fun i=>Qy1 a i) Mode.any
def Qy3(a:Nd):List Arr:=Arr.it (Hi a)
def QjO(a:Nd):Nat:=LN (Qy3 a)
def Va:Arr:=DA
def Qy4(a:Nd)(b:Nat):List D:=Arr.row (List.getD (Qy3 a) b Va)
def Qy5(a:Nd):D:=D.sl N4 (QjO a) (fun i=>Qy4 a i) Mode.any
def Qy6(a:Nd):List D:=[D.agg [QyW a,QyZ a,Qy2 a,Qy5 a]]
def Qn(a:Nd):List UInt8:=Bv a
def Qv:Prop:=True/\True
def QjP(a:Nd):List UInt8:=Nd.tx a
def Hj(a:Nd):Int:=Nd.pr a
def Hk(a:Nd):Int:=Nd.op a
def Xm(a:Nd):List Nd:=Nd.ki a
def Vx(a:Nd):Nat:=LN (Xm a)
def QK:Nd:=Nd.mk Z0 Z0 Z0 [] Z0 Z0 Va [] [] Z0 Z0 Z0
def Qy7(a:Nd)(b:Nat):List D:=Nd.row1 (List.getD (Xm a) b QK)
def Yh(a:Nd):D:=D.sl 15 (Vx a) (fun i=>Qy7 a i) Mode.any
def Qy8:List (List D):=[[ZI 4],[ZI 5]]
def Qy9(a:Nat):List D:=List.getD ([ZI 3]::Qy8) a []
def Qza:List Int:=Bj (3:Nat) fun i=>Qy9 i
def Qzb(a:Nd):List UInt8:=Lib.join (List.map (BB Qza) (Xm a)) [(32:UInt8)]
def Hl(a:Nd):Int:=(NI (Vx a))
def Qp(a:Nat)(b:Nd):Prop:=SM a/\SM (Yh b)
def Kt(a:Nd):Nd:=List.getD (Xm a) N0 QK
def Vb:Sm:=Sm.mk Z0 Z0 [] Z0 QK QK
def Qzf:List Int:=Bj N1 fun i=>List.getD [[ZI 16]] i []
def Qzg(a b:Nd)(c:Nd->Prop):Prop:=wkL [D.agg (Nd.rowE (Kt a)),D.sl N1 N1 (fun i=>List.getD [[ZI 16]] i []) Mode.full] [D.agg (Nd.row1 b),SI Qzf]/\N1<=9223372036854775807/\c b
def QjQ(a:Nd):List UInt8:=BB Qzf a
def Qzh(a:Nd):Nat:=LN (QjQ a)
def Ku(a:Nd):Nd:=List.getD (Xm a) N1 QK
def Qzl(a:Nd):D:=D.agg (Nd.rowE (Ku a))
def Qzm(a:Nd):List UInt8:=QjQ a++[32]
def Qzn(a:Nat):List D:=List.getD Qy8 a []
def Qzo:List Int:=Bj N2 fun i=>Qzn i
def Qzp(a b:Nd)(c:Nd->Prop):Prop:=wkL [Qzl a,D.sl N1 N2 (fun i=>Qzn i) Mode.full] [D.agg (Nd.row1 b),SI Qzo]/\N2<=9223372036854775807/\c b
def Qzq(a:Nd):List UInt8:=BB Qzo a
def Qzr(a:Nd):Nat:=LN (Qzq a)+N1
def Qzs(a:Nd):List UInt8:=Qzq a++[32]
def Qzt(a b:Nd):List UInt8:=Qzs a++QjQ b
def Kv(a:Nd):Nd:=List.getD (Xm a) N2 QK
def Qzx(a b:Nd):List UInt8:=Qzt a b++[32]
def Qzy(a:Nd)(b:Nd->Prop)(c:Nat)(d:Nd):Prop:=∃(x:Nd),Qzg a x b/\∀(_y:Unit),True->Qp c a/\Bc (LN (Qzs d)+Qzh x<=9223372036854775807) (Bc (LN (Qzt d x)+N1<=9223372036854775807) (∃(x_1:Nd),(isN x_1 [D.agg (Nd.rowE (Kv a))] []/\b x_1)/\∀(_y:Unit),True->Bc (LN (Qzx d x)+LN (Qn x_1)<=9223372036854775807) (True/\∃(_y:Unit),True/\Qzx d x++Qn x_1=Qn a/\Qv)))
def Qzz(a:Nat)(b:Nd)(c:Nd->Prop):Prop:=Qp a b/\Qp a b/\Qp a b/\∃(x:Nd),Qzp b x c/\∀(_y:Unit),True->Qp a b/\Qp a b/\Bc (Qzr x<=9223372036854775807) (Qzy b c a x)
def QzA(a:Nat):List D:=List.getD [[ZI 4],[ZI 5],[ZI 16]] a []
def QzB:List Int:=Bj (3:Nat) fun i=>QzA i
def QzC(a:Nd):List UInt8:=Lib.join (List.map (BB QzB) (Xm a)) [(32:UInt8)]
def QzD(a:Nd):Int:=Nd.at_ a
def QzE(a:Nd):Int:=Nd.cl a
def Qdb(a:Nd):List Sm:=Nd.bo a
def Xn(a:Nd):Nat:=LN (Qdb a)
def Yi(a:Nd)(b:Nat):Sm:=List.getD (Qdb a) b Vb
def QzL(a:Nd)(b:Nat):List D:=(Sm.row1 (Yi a b))
def QzM(a:Nd):D:=D.sl 34 (Xn a) (fun i=>QzL a i) Mode.any
def QzN(a:Nd):Int:=Nd.de a
def QzO(a:Nd):Int:=Nd.sl a
def QzP(a:Nd):Int:=Nd.ss a
def QzQ(a:Nd):D:=D.agg [ZI (Qm a),ZI (QzD a),ZI (QzE a),D.str (QjP a),ZI (Hj a),ZI (Hk a),QyW a,QyZ a,Qy2 a,Qy5 a,Yh a,QzM a,ZI (QzN a),ZI (QzO a),ZI (QzP a)]
def QzR(a:Nat)(b:Nd):Prop:=SM a/\∃(_x:Unit),(isN2 b [QzQ b] []/\N2<=Vx b/\(Qm b=15->Vx b=3))/\∀(_y:Unit),True->True/\∃(_y:Unit),True/\OT b=Qn b/\Qv
def QjR(a:Nat)(b:Nd)(c:List (List UInt8)):Prop:=a<=Xn b/\c=List.map B4 (List.take a (Qdb b))
def Hm(a:List (List UInt8))(b:Nat):List D:=[D.str (List.getD a b [])]
def QzS(a:Nat)(b:Nd)(c d:Nat):Prop:=(SM a/\(SM (Qm b)/\SM (QzD b)/\SM (QzE b)/\SM (QjP b)/\SM (Hj b)/\SM (Hk b)/\SM (QyV b)/\(SM (QjM b)/\(∀(i:Nat),i<QjM b->SM (QyY b i))/\True)/\(SM (QjN b)/\(∀(i:Nat),i<QjN b->SM (Qy1 b i))/\True)/\(SM (QjO b)/\(∀(i:Nat),i<QjO b->SM (Qy4 b i))/\True)/\(SM (Vx b)/\(∀(i:Nat),i<Vx b->SM (Qy7 b i))/\True)/\(SM (Xn b)/\(∀(i:Nat),i<Xn b->SM (QzL b i))/\True)/\SM (QzN b)/\SM (QzO b)/\SM (QzP b)/\True)/\True)/\c=d/\True
def QjS(a:Nd):Int:=(NI (Xn a))
def Yj(a:Nd)(b:Nat):Sm:=List.getD (Qdb a) (Int.toNat (↑b:Int)) Vb
def QzZ(a:List (List UInt8)):List (List UInt8):=B5 (LN a) fun i=>Hm a i
def Qz0(a:List (List UInt8)):List UInt8:=Lib.join (QzZ a) [(32:UInt8),(59:UInt8),(32:UInt8)]
def Qz1(a:List (List UInt8)):List UInt8:=List.append [] (Qz0 a)
def Qz2(a:Nat)(b:Nd)(c:Sm->Prop):Prop:=SM a/\∀(t:Nat),(∃(x:Nat×Nat×List (List UInt8)),QjR x.1 b x.2.2/\(Z0=(NI x.1)/\(N0=LN x.2.2/\(∀(i:Nat),i<N0->Cw (List D) [] (Hm x.2.2 i))/\t=x.2.1)/\True)/\QzS a b t x.2.1)/\∀(x:Nat×Nat×List (List UInt8)),QjR x.1 b x.2.2->ifB (decide ((NI x.1)<QjS b)) (Bc (Z0<=(NI x.1)/\(NI x.1)<QjS b) (∀(x_1:Nat),a≠x_1/\True->SM x_1/\SM x_1/\∃(x_2:Sm),(isS x_2 [D.agg (Sm.row1 (Yj b x.1))] []/\c x_2)/\∀(_y:Unit),True->SM x.2.1/\Bc ((LN x.2.2+N1)*16<=140737488355328/\LN x.2.2+N1<=9223372036854775807) (∀(t:Nat),(SM (QzQ b)/\SM (D.ref N0 a N0)/\SM (QzM b)/\SM (ZI (QjS b))/\True)/\∃(y:Nat×Nat×List (List UInt8)),QjR y.1 b y.2.2/\Xn b-y.1<Xn b-x.1/\(IntKind.wrap IntKind.i64 ((NI x.1)+Z1)=(NI y.1)/\(LN x.2.2+N1=LN y.2.2/\(∀(i:Nat),i<LN x.2.2+N1->BN (LN x.2.2) (fun i=>Hm x.2.2 i) (fun i=>[D.str (List.getD [B4 x_2] i [])]) i=Hm y.2.2 i)/\t=y.2.1)/\True)/\QzS a b t y.2.1))) (((Gx (LN x.2.2) fun i=>Hm x.2.2 i)=true/\GG (QzZ x.2.2) [(32:UInt8),(59:UInt8),(32:UInt8)])/\∀(_y:Unit),True->Bc (N2+LN (Qz0 x.2.2)<=9223372036854775807) (Bc (LN ((123:UInt8)::(32:UInt8)::Qz1 x.2.2)+N2<=9223372036854775807) (True/\∃(_y:Unit),True/\(123:UInt8)::(32:UInt8)::List.append (Qz1 x.2.2) [(32:UInt8),(125:UInt8)]=Qn b/\Qv)))
theorem Bmm(n : Nd)(q : Nd -> Prop)(qs : Sm -> Prop)(hv : Bz n=true)(ho : n.ok)(hz : szN n<=16384)(h : ∀b, q b -> RShow b)(hq : ∀b∈n.ki, q b)(hs : ∀s, qs s -> q s.nd /\ (s.kd=3 -> q s.te) /\ s.nm.length<=BC)(hqs : n.kd=10 -> ∀s∈n.bo, qs s) :
  CD 84 [.agg n.row2] (.str (Bv n)):=by
 refine Bg (A:=sC _ _) (x:=()) (E:=Eshn n q qs) (eOk (Bhy ho h hq hs) rfl) Tryz.func84 rfl (by kernel_rfl) rfl (by simp[sC,Eshn,EC,E0]) ?_
 refine Bi (T :=
  ∀(x:Nat),True->SM x/\ifB (Qm n==Z1) (SM x/\∃(x:Unit),wkL (Qy6 n) (Qy6 n)/\∀(y:Unit),True->True/\∃(y:Unit),True/\GS (Hi n)=Qn n/\Qv) (ifB (Qm n==2) (SM x/\True/\∃(y:Unit),True/\QjP n=Qn n/\Qv) (ifB (Qm n==6) (True/\∃(y:Unit),True/\[(88:UInt8)]=Qn n/\Qv) (ifB (Qm n==7) (True/\∃(y:Unit),True/\[(89:UInt8)]=Qn n/\Qv) (ifB (Qm n==8) (True/\∃(y:Unit),True/\[(97:UInt8),(114:UInt8),(103:UInt8)]=Qn n/\Qv) (ifB (Qm n==11) (True/\∃(y:Unit),True/\[(115:UInt8),(101:UInt8),(108:UInt8),(102:UInt8)]=Qn n/\Qv) (ifB (Qm n==12) (True/\∃(y:Unit),True/\[(70:UInt8)]=Qn n/\Qv) (ifB (Qm n==13) (True/\∃(y:Unit),True/\[(71:UInt8)]=Qn n/\Qv) (ifB (Qm n==9) (SM x/\∃(x:Unit),wkL [ZI (Hj n)] [ZI (Hj n)]/\∀(y:Unit),True->True/\∃(y:Unit),True/\Cf (Hj n)=Qn n/\Qv) (ifB (Qm n==17) (SM x/\∃(x:Unit),wkL [ZI (Hk n)] [ZI (Hk n)]/\∀(y:Unit),True->True/\∃(y:Unit),True/\opT (Hk n)=Qn n/\Qv) (ifB (Qm n==3) (SM x/\∃(x:Unit),(wkL [Yh n,D.sl N1 (3:Nat) (fun i=>Qy9 i) Mode.full] [Yh n,SI Qza]/\(3:Nat)<=9223372036854775807/\Vx n<=1000000/\LN (Qzb n)<=20000000000000)/\∀(y:Unit),True->True/\∃(y:Unit),True/\Qzb n=Qn n/\Qv) (ifB (Qm n==4) (SM x/\Bc (Z0<=Z0/\Z0<Hl n) (SM x/\Bc (Z0<=Z1/\Z1<Hl n) (Qp x n/\Qp x n/\∃(x_1:Nd),Qzg n x_1 q/\∀(y:Unit),True->Qp x n/\Bc (Qzh x_1+N1<=9223372036854775807) (∃(x:Nd),(isN x [Qzl n] []/\q x)/\∀(y:Unit),True->Bc (LN (Qzm x_1)+LN (Qn x)<=9223372036854775807) (True/\∃(y:Unit),True/\Qzm x_1++Qn x=Qn n/\Qv))))) (ifB (Qm n==5) (SM x/\Bc (Z0<=Z1/\Z1<Hl n) (SM x/\Bc (Z0<=Z0/\Z0<Hl n) (SM x/\Bc (Z0<=2/\(2:Int)<Hl n) ((Qp x n/\Qp x n/\Qp x n/\(∃(x_1:Nd),Qzp n x_1 q/\∀(y:Unit),True->Qp x n/\Qp x n/\Bc (Qzr x_1<=9223372036854775807) (Qp x n/\Qp x n/\Qzy n q x x_1))/\Qzz x n q)/\Qp x n/\Qp x n/\Qp x n/\Qzz x n q)))) (ifB (Qm n==16) (SM x/\∃(x:Unit),(wkL [Yh n,D.sl N1 (3:Nat) (fun i=>QzA i) Mode.full] [Yh n,SI QzB]/\(3:Nat)<=9223372036854775807/\Vx n<=1000000/\LN (QzC n)<=20000000000000)/\∀(y:Unit),True->True/\∃(y:Unit),True/\QzC n=Qn n/\Qv) (ifB (Qm n==14) (ifB (Qm n==14) (QzR x n) (Qz2 x n qs)) (ifB (Qm n==15) (QzR x n) (Qz2 x n qs))))))))))))))))) (by kernel_rfl) ?_
 delta DA GI LN N0 N1 N2 N4 NI SI SM Z0 Z1 ZI Qm Hi Qy1 QzR QjR Hm QzS QjS Yj Qy2 Qy3 QzZ Qz0 Qz1 Qz2 QjO Va Qy4 Qy5 Qy6 Qn Qv QyV QjP Hj Hk Xm Vx QK Qy7 Yh Qy8 Qy9 QyW Qza Qzb Hl Qp Kt QyX Vb Qzf Qzg QjQ Qzh Ku QjM Qzl Qzm Qzn Qzo Qzp Qzq Qzr QyY Qzs Qzt Kv Qzx QyZ Qzy Qzz QzA QzB QzC QzD QzE Qdb Xn Yi Qy0 QjN QzL QzM QzN QzO QzP QzQ
 try simp only[<- dm]
 try simp only[<- dn]
 simp only[ne_eq,implies_true,Int.toNat_natCast,Bf,Bd,decide_eq_true_eq,decide_eq_false_iff_not,true_and,and_true,beq_iff_eq,beq_eq_false_iff_ne,exists_const,forall_const,Prod.exists]
 have i1:Bj 1 (fun i=>[[D.int IntKind.i64 16]].getD i [])=[16]:=rfl
 have i2:Bj 2 (fun i=>[[D.int IntKind.i64 4],[D.int IntKind.i64 5]].getD i [])=[4,5]:=rfl
 have i3:∀a b c:Int,Bj 3 (fun i=>[[D.int IntKind.i64 a],[D.int IntKind.i64 b],[D.int IntKind.i64 c]].getD i [])=[a,b,c]:=fun _ _ _=>rfl
 have p1:IntsP 1 (fun i=>[[D.int IntKind.i64 16]].getD i []):=fun i hi=>by
  match i,hi with
  |0,_=>rfl
 have p2:IntsP 2 (fun i=>[[D.int IntKind.i64 4],[D.int IntKind.i64 5]].getD i []):=fun i hi=>by
  match i,hi with
  |0,_=>rfl
  |1,_=>rfl
 have p3:∀a b c:Int,IntsP 3 (fun i=>[[D.int IntKind.i64 a],[D.int IntKind.i64 b],[D.int IntKind.i64 c]].getD i []):=fun _ _ _ i hi=>by
  match i,hi with
  |0,_=>rfl
  |1,_=>rfl
  |2,_=>rfl
 obtain ⟨L2,L3,_⟩:=II hv
 have kq:∀i,i<n.ki.length->q (n.ki.getD i default):=fun i hi=>hq _ (BX hi)
 have wl:∀(ks:List Int) (b:Nd),q b->(BB ks b).length<=20000000000004:=fun ks b hb=>by
  have h1:=CU ks b.kd (Bv b)
  have h2:=(h b hb).2
  unfold BB
  omega
 have sg:∀i,i<n.ki.length->(BZ n.ki).getD i []=Bv (n.ki.getD i default):=fun i hi=>I2 hi
 have hlen:=Ev n hv ho
 have hkl:n.ki.length<=szL n.ki:=by
  have:∀l:List Nd,l.length<=szL l:=fun l=>by
   induction l with
   |nil=>simp[szL]
   |cons a r ih=>have:=BaV a;simp only[List.length_cons,szL];omega
  exact this _
 have hsz:=BbP n
 have hbl:n.bo.length<=szB n.bo:=by
  have:∀l:List Sm,l.length<=szB l:=fun l=>by
   induction l with
   |nil=>simp[szB]
   |cons a r ih =>
    have:=BaV a.nd
    have e:=Uh a
    simp only[List.length_cons,szB]
    split at e<;>omega
  exact this _
 simp only[i1,i2,i3]
 rw[CR] at hlen ⊢
 refine fun x=>⟨fun k=>?_,fun n1=>⟨fun k=>?_,fun n2=>⟨fun k=>?_,fun n6=>⟨fun k=>?_,fun n7=>⟨fun k=>?_,fun n8=>⟨fun k=>?_,fun n11=>⟨fun k=>?_,fun n12=>⟨fun k=>?_,fun n13=>⟨fun k=>?_,fun n9=>⟨fun k=>?_,fun n17=>⟨fun k=>?_,fun n3=>⟨fun k=>?_,fun n4=>⟨fun k=>?_,fun n5=>⟨fun k=>?_,fun n16=>⟨fun k=>⟨fun _=>?_,fun e=>(e k).elim⟩,fun n14=>⟨fun k=>?_,fun n15=>?_⟩⟩⟩⟩⟩⟩⟩⟩⟩⟩⟩⟩⟩⟩⟩⟩
 ·exact⟨Be _,by rw[if_pos k]⟩
 ·rw[if_neg n1,if_pos k]
 ·rw[if_neg n1,if_neg n2,if_pos k]
 ·rw[if_neg n1,if_neg n2,if_neg n6,if_pos k]
 ·rw[if_neg n1,if_neg n2,if_neg n6,if_neg n7,if_pos k]
 ·rw[if_neg n1,if_neg n2,if_neg n6,if_neg n7,if_neg n8,if_pos k]
 ·rw[if_neg n1,if_neg n2,if_neg n6,if_neg n7,if_neg n8,if_neg n11,if_pos k]
 ·rw[if_neg n1,if_neg n2,if_neg n6,if_neg n7,if_neg n8,if_neg n11,if_neg n12,if_pos k]
 ·exact⟨Be _,by rw[if_neg n1,if_neg n2,if_neg n6,if_neg n7,if_neg n8,if_neg n11,if_neg n12,if_neg n13,if_pos k]⟩
 ·exact⟨Be _,by rw[if_neg n1,if_neg n2,if_neg n6,if_neg n7,if_neg n8,if_neg n11,if_neg n12,if_neg n13,if_neg n9,if_pos k]⟩
 ·rw[if_neg n1,if_neg n2,if_neg n6,if_neg n7,if_neg n8,if_neg n11,if_neg n12,if_neg n13,if_neg n9,if_neg n17,if_pos k] at hlen ⊢
  exact⟨⟨Tl (p3 _ _ _),by omega,by omega,by omega⟩,rfl⟩
 ·rw[if_neg n1,if_neg n2,if_neg n6,if_neg n7,if_neg n8,if_neg n11,if_neg n12,if_neg n13,if_neg n9,if_neg n17,if_neg n3,if_pos k]
  have hL:n.ki.length=2:=L2 (.inl k)
  have q0:=kq 0 (by omega)
  have q1:=kq 1 (by omega)
  have r0:=(h _ q0).2
  have r1:=(h _ q1).2
  have w0:=wl [16] _ q0
  have w1:=wl [4,5] _ q1
  rw[sg 0 (by omega),sg 1 (by omega)]
  repeat' (first
   |refine⟨n.ki.getD 0 default,⟨Cj (r:=(n.ki.getD 0 default).row1) p1,by omega,q0⟩,?_⟩
   |refine⟨n.ki.getD 1 default,⟨Cj (r:=(n.ki.getD 1 default).row1) p2,by omega,q1⟩,?_⟩
   |refine⟨n.ki.getD 0 default,⟨Bl _ _,q0⟩,?_⟩
   |refine⟨n.ki.getD 1 default,⟨Bl _ _,q1⟩,?_⟩
   |refine And.intro ?_ ?_)
  all_goals first
   |rfl
   |omega
   |(simp only[List.length_append,List.length_cons,List.length_nil];omega)
 ·rw[if_neg n1,if_neg n2,if_neg n6,if_neg n7,if_neg n8,if_neg n11,if_neg n12,if_neg n13,if_neg n9,if_neg n17,if_neg n3,if_neg n4,if_pos k]
  have hL:n.ki.length=3:=L3 (.inl k)
  have q0:=kq 0 (by omega)
  have q1:=kq 1 (by omega)
  have r0:=(h _ q0).2
  have r1:=(h _ q1).2
  have w0:=wl [16] _ q0
  have w1:=wl [4,5] _ q1
  have q2:=kq 2 (by omega)
  have r2:=(h _ q2).2
  rw[sg 0 (by omega),sg 1 (by omega),sg 2 (by omega)]
  repeat' (first
   |refine⟨n.ki.getD 0 default,⟨Cj (r:=(n.ki.getD 0 default).row1) p1,by omega,q0⟩,?_⟩
   |refine⟨n.ki.getD 1 default,⟨Cj (r:=(n.ki.getD 1 default).row1) p2,by omega,q1⟩,?_⟩
   |refine⟨n.ki.getD 0 default,⟨Bl _ _,q0⟩,?_⟩
   |refine⟨n.ki.getD 1 default,⟨Bl _ _,q1⟩,?_⟩
   |refine⟨n.ki.getD 2 default,⟨Bl _ _,q2⟩,?_⟩
   |refine And.intro ?_ ?_)
  all_goals first
   |rfl
   |omega
   |(simp only[List.length_append,List.length_cons,List.length_nil];omega)
 ·rw[if_neg n1,if_neg n2,if_neg n6,if_neg n7,if_neg n8,if_neg n11,if_neg n12,if_neg n13,if_neg n9,if_neg n17,if_neg n3,if_neg n4,if_neg n5,if_pos k] at hlen ⊢
  exact⟨⟨Tl (p3 _ _ _),by omega,by omega,by omega⟩,rfl⟩
 ·rw[if_neg n1,if_neg n2,if_neg n6,if_neg n7,if_neg n8,if_neg n11,if_neg n12,if_neg n13,if_neg n9,if_neg n17,if_neg n3,if_neg n4,if_neg n5,if_neg n16,if_pos k]
  have hL:=(L2 (.inr k))
  refine⟨⟨CJ n _,by omega,fun e=>L3 (.inr e)⟩,?_⟩
  unfold OT
  rw[sg 0 (by omega),sg 1 (by omega),if_neg (by omega)]
  rfl
 ·rw[if_neg n1,if_neg n2,if_neg n6,if_neg n7,if_neg n8,if_neg n11,if_neg n12,if_neg n13,if_neg n9,if_neg n17,if_neg n3,if_neg n4,if_neg n5,if_neg n16,if_neg n14,if_pos k]
  have hL:=(L3 (.inr k))
  refine⟨⟨CJ n _,by omega,fun e=>L3 (.inr e)⟩,?_⟩
  unfold OT
  rw[sg 0 (by omega),sg 1 (by omega),sg 2 (by omega),if_pos k]
  simp only[List.append_assoc]
  rfl
 ·have k10:n.kd=10:=by
   by_cases hk:n.kd=10
   ·exact hk
   ·rcases Ed hv hk with hc | ⟨hc,_⟩
    ·unfold C6 at hc
     simp[n1,n2,n6,n7,n8,n9,n11,n12,n13,n17] at hc
    ·unfold CQ at hc
     simp[n3,n4,n5,n14,n15,n16] at hc
  rw[if_neg n1,if_neg n2,if_neg n6,if_neg n7,if_neg n8,if_neg n11,if_neg n12,if_neg n13,if_neg n9,if_neg n17,if_neg n3,if_neg n4,if_neg n5,if_neg n16,if_neg n14,if_neg n15] at hlen ⊢
  refine fun t=>⟨⟨0,t,[],⟨Nat.zero_le _,rfl⟩,⟨rfl,rfl,fun i hi=>absurd hi (Nat.not_lt_zero _),rfl⟩,rfl⟩,?_⟩
  rintro ⟨i,tk,out⟩ ⟨hi,hout⟩
  simp only at hi hout ⊢
  have hol:out.length=i:=by rw[hout,List.length_map,List.length_take];omega
  refine⟨fun hlt=>?_,fun hge=>?_⟩
  ·have hlt':i<n.bo.length:=by omega
   refine⟨⟨by omega,hlt⟩,fun _ _=>⟨n.bo.getD i default,⟨Ir _ _,hqs k10 _ (C3 hlt')⟩,⟨by omega,by omega⟩,fun t2=>⟨i+1,t2,out++[B4 (n.bo.getD i default)],⟨hlt',?_⟩,by omega,⟨?_,by simp,fun j hj=>O8 j hj,rfl⟩,rfl⟩⟩⟩
   ·rw[B6 hlt',List.map_append,hout];rfl
   ·rw[Ba (by omega) (by omega)];rfl
  ·have e:i=n.bo.length:=by omega
   rw[e,List.take_length] at hout
   have e1:B5 out.length (fun i=>[D.str (out.getD i [])])=out:=MP rfl fun _ _=>rfl
   have e2:Gx out.length (fun i=>[D.str (out.getD i [])])=true:=Oz rfl fun _ _=>rfl
   rw[e1,hout]
   rw[hout] at e2
   simp only[List.length_append,List.length_cons,List.length_nil] at hlen
   refine⟨⟨e2,?_,by omega⟩,by omega,?_,?_⟩
   ·rw[List.length_map];omega
   ·simp only[List.length_cons,List.append_eq,List.nil_append];omega
   ·rfl
theorem BY{n:Nd}:BU n=0↔dpN n<=60/\szN n<=16384/\Bz n=true:=by
 unfold BU
 by_cases h1:60<dpN n
 ·rw[if_pos h1];exact⟨fun h=>by omega,fun h=>by omega⟩
 rw[if_neg h1]
 by_cases h2:16384<szN n
 ·rw[if_pos h2];exact⟨fun h=>by omega,fun h=>by omega⟩
 rw[if_neg h2]
 by_cases h3:Bz n=true
 ·rw[if_pos h3];exact⟨fun _=>⟨by omega,by omega,h3⟩,fun _=>rfl⟩
 ·rw[if_neg h3];exact⟨fun h=>by omega,fun h=>(h3 h.2.2).elim⟩
theorem Bob{s:Sm}(h:s.sm):s.nm.length<=BC:=by
 cases s with
 |mk kd at_ nm sl te nd =>
  simp only[Sm.sm] at h
  exact h.1
theorem Bge(n:Nd)(hv:Bz n=true)(ho:n.ok)(hn:n.sm)(hz:szN n<=16384):RShow n:=by
 have hl:=Ev n hv ho
 refine⟨Bmm n RShow (fun s=>RShow s.nd/\(s.kd=3->RShow s.te)/\s.nm.length<=BC) hv ho hz (fun _ h=>h) (fun b hb=>?_) (fun _ h=>h) (fun hk s hs=>?_),by omega⟩
 ·have:=ED (BS hb)
  exact Bge b ((EI hv).1 b hb) (M8 ho b hb) (EW hn (BS hb)) (by omega)
 ·have h1:=hv
  rw[CH,Bool.and_eq_true,if_pos hk,Bool.and_eq_true] at h1
  have hb:=h1.2.2
  unfold BP at hb
  rw[Bool.and_eq_true] at hb
  obtain ⟨q1,q2⟩:=Ep hb.2 s hs
  have o:=Cq (GM ho s hs)
  have m:=Cl (GC hn s hs)
  have i1:s.nd∈BK n:=List.mem_append.2 (.inr (List.mem_flatMap.2 ⟨s,hs,by unfold Bq;split<;>simp⟩))
  have z1:=ED i1
  refine⟨Bge s.nd q1 o.2 m.2 (by omega),fun h3=>?_,Bob (GC hn s hs)⟩
  have i2:s.te∈BK n:=List.mem_append.2 (.inr (List.mem_flatMap.2 ⟨s,hs,by unfold Bq;rw[if_pos h3];simp⟩))
  have z2:=ED i2
  have hv2:Bz s.te=true:=by
   rcases q2 with ⟨_,q,_⟩ | ⟨q,_⟩
   ·exact q
   ·exact (q h3).elim
  exact Bge s.te hv2 o.1 m.1 (by omega)
termination_by szN n
decreasing_by all_goals omega
def Bol(n:Nd):Con:=fun k ds S=>match k with
 |83=>some (pA ds S (.int .i64 (BU n)) (isN n ds []))
 |84=>some (pA ds S (.str (Bv n)) (isN n ds []/\BU n=0))
 |_=>none
noncomputable def Esw(n:Nd):Senv:=EC (Bol n) 8 3 [5] (fun _=>([],[]))
def Qz5(a:Nd):Prop:=isN a [D.agg (Nd.rowE a)] []
theorem BpC(n:Nd)(ho:n.ok)(hn:n.sm):CD 58 [.agg n.row1] (.str (Eu n)):=by
 refine Bg (A:=sC _ _) (x:=()) (E:=Esw n) (eOk ?_ rfl) Tryz.func58 rfl (by kernel_rfl) rfl (by simp[sC,Esw,EC,E0]) ?_
 ·intro k ds S A hh
  try unfold Bol at hh
  try dsimp only at hh
  split at hh
  ·injection hh with hh;subst hh
   exact Bo fun e=>CD.at_ (CD.wk (BoD n ho hn) e) _
  ·injection hh with hh;subst hh
   refine Bo fun ⟨e,h0⟩=>?_
   obtain ⟨_,h2,h3⟩:=BY.1 h0
   exact CD.at_ (CD.isN (Bge n h3 ho hn h2).1 e) _
  ·cases hh
 refine Bi (T :=
  ∀(x:Nat),True->SM x/\∃(x_1:Unit),Qz5 n/\∀(y:Unit),True->ifB (BU n != Z0) (RT (Cw (List UInt8) [] (Eu n))) (SM x/\∃(x:Unit),(Qz5 n/\BU n=Z0)/\∀(y:Unit),True->RT (Bv n=Eu n))) (by kernel_rfl) ?_
 delta DA GI LN N1 N4 SI SM Z0 ZI Qz5 RT
 try simp only[<- dm]
 try simp only[<- dn]
 simp only[ne_eq,Bf,true_and,and_true,bne_iff_ne,bne_eq_false_iff_eq,exists_const,forall_const]
 unfold Eu
 refine⟨Bl _ _,fun h=>?_,fun h=>⟨⟨Bl _ _,h⟩,?_⟩⟩
 ·rw[if_neg h]
 ·rw[if_pos h]
theorem Bo0(sep:List UInt8)(a b:List (List UInt8)):jT sep (a++b)=jT sep a++jT sep b:=by
 unfold jT
 rw[List.flatMap_append]
theorem WF(sep:List UInt8)(a b:List (List UInt8))(h:a≠[]):Lib.join (a++b) sep=Lib.join a sep++jT sep b:=by
 cases a with
 |nil=>exact (h rfl).elim
 |cons x r=>rw[List.cons_append,B7,B7,Bo0,List.append_assoc]
theorem Ub{l:List (List UInt8)}(sep:List UInt8){i:Nat}(h:i<l.length):Lib.join (l.take (i+1)) sep=(if 0<i then Lib.join (l.take i) sep++sep else [])++l.getD i []:=by
 have e:l.take (i+1)=l.take i++[l.getD i []]:=by
  rw[List.take_add_one,List.getElem?_eq_getElem h,List.getD_eq_getElem?_getD,List.getElem?_eq_getElem h];rfl
 rw[e]
 cases i with
 |zero=>simp[B7,jT]
 |succ k =>
  rw[WF _ _ _ (by intro e;have:=congrArg List.length e;simp at this;subst this;simp at h),if_pos (by omega)]
  simp[jT]
theorem Bnb(l:List (List UInt8))(sep:List UInt8)(i:Nat):(Lib.join (l.take i) sep).length<=(Lib.join l sep).length:=by
 by_cases h:l.take i=[]
 ·rw[h];simp[Lib.join]
 ·have e:=WF sep (l.take i) (l.drop i) h
  rw[List.take_append_drop] at e
  rw[e,List.length_append]
  omega
theorem Bah{l:List (List UInt8)}(sep:List UInt8){i:Nat}(h:i<l.length):(l.getD i []).length<=(Lib.join l sep).length/\(0<i->(Lib.join (l.take i) sep).length+sep.length+(l.getD i []).length<=(Lib.join l sep).length):=by
 have h1:=Bnb l sep (i+1)
 rw[Ub sep h,List.length_append] at h1
 refine⟨by omega,fun h0=>?_⟩
 rw[if_pos h0,List.length_append] at h1
 omega
def RRShow(n:Nd):Prop:=CD 114 [.agg n.row2] (.str (Bv n))/\(Bv n).length<=20000000000000
noncomputable def Eamo(n:Nd)(ks:List Int):Senv:={ EC EB 19 3 [4,5,9,18] (fun id=>match id with | 4=>([0,1,2,3,4,5,6],[]) | _=>([],[])) with
 mg:=fun _=>2
 ann:=fun b _ S=>match b with
  |0=>some { slots:=[5],keep:=[0,1,2],α:=Nat,st:=fun i=>([.int .i64 i],S),inv:=fun i=>i<=ks.length/\∀j,j<i->n.kd≠ks.getD j 0,mu:=fun i=>ks.length-i }
  |_=>none }
def Yk(a:Nd):Int:=Nd.kd a
def QjU(a:Nat)(b:List Int)(c:Nd):Prop:=a<=LN b/\∀(j:Nat),j<a->Yk c≠GI b j
def Qz6(a:Nd):Int:=Nd.at_ a
def Qz7(a:Nd):Int:=Nd.cl a
def Qz8(a:Nd):List UInt8:=Nd.tx a
def Qz9(a:Nd):Int:=Nd.pr a
def QAa(a:Nd):Int:=Nd.op a
def Qdh(a:Nd):Arr:=Nd.va a
def QAb(a:Nd):Int:=Arr.k (Qdh a)
def QAc(a:Nd):List Int:=Arr.sh (Qdh a)
def QjV(a:Nd):Nat:=LN (QAc a)
def QAd(a:Nd)(b:Nat):List D:=[ZI (GI (QAc a) b)]
def QAe(a:Nd):List Int:=Arr.nu (Qdh a)
def QjW(a:Nd):Nat:=LN (QAe a)
def QAf(a:Nd)(b:Nat):List D:=[ZI (GI (QAe a) b)]
def QAg(a:Nd):List Arr:=Arr.it (Qdh a)
def QjX(a:Nd):Nat:=LN (QAg a)
def QAh:Arr:=DA
def QAi(a:Nd)(b:Nat):List D:=Arr.row (List.getD (QAg a) b QAh)
def QjY(a:Nd):Nat:=LN (Nd.ki a)
def QjZ:Nd:=Nd.mk Z0 Z0 Z0 [] Z0 Z0 QAh [] [] Z0 Z0 Z0
def QAj(a:Nd)(b:Nat):List D:=Nd.row (List.getD (Nd.ki a) b QjZ)
def Qj0(a:Nd):Nat:=LN (Nd.bo a)
def QAk(a:Nd)(b:Nat):List D:=Sm.row (List.getD (Nd.bo a) b (Sm.mk Z0 Z0 [] Z0 QjZ QjZ))
def QAl(a:Nd):Int:=Nd.de a
def QAm(a:Nd):Int:=Nd.sl a
def QAn(a:Nd):Int:=Nd.ss a
def QAo(a:Nat)(b:Nd):Prop:=(SM a/\(SM (Yk b)/\SM (Qz6 b)/\SM (Qz7 b)/\SM (Qz8 b)/\SM (Qz9 b)/\SM (QAa b)/\SM (QAb b)/\(SM (QjV b)/\(∀(i:Nat),i<QjV b->SM (QAd b i))/\True)/\(SM (QjW b)/\(∀(i:Nat),i<QjW b->SM (QAf b i))/\True)/\(SM (QjX b)/\(∀(i:Nat),i<QjX b->SM (QAi b i))/\True)/\(SM (QjY b)/\(∀(i:Nat),i<QjY b->SM (QAj b i))/\True)/\(SM (Qj0 b)/\(∀(i:Nat),i<Qj0 b->SM (QAk b i))/\True)/\SM (QAl b)/\SM (QAm b)/\SM (QAn b)/\True)/\True)/\True
def QQt(a:Nd):D:=D.agg [ZI (Yk a),ZI (Qz6 a),ZI (Qz7 a),D.str (Qz8 a),ZI (Qz9 a),ZI (QAa a),ZI (QAb a),D.sl N1 (QjV a) (fun i=>QAd a i) Mode.any,D.sl N1 (QjW a) (fun i=>QAf a i) Mode.any,D.sl N4 (QjX a) (fun i=>QAi a i) Mode.any,D.sl 15 (QjY a) (fun i=>QAj a i) Mode.any,D.sl 34 (Qj0 a) (fun i=>QAk a i) Mode.any,ZI (QAl a),ZI (QAm a),ZI (QAn a)]
def QQu(a:List Int):D:=SI a
theorem BpP(n:Nd)(ks:List Int)(hk:ks.length<=maxLen):CD 128 [.agg n.row1,isl ks .any] (.bool (ks.contains n.kd)):=by
 refine Bg (A:=sC _ _) (x:=()) (E:=Eamo n ks) (eOk BM rfl) Tryz.func128 rfl (by kernel_rfl) rfl (by simp[sC,Eamo,EC,E0]) ?_
 refine Bi (T :=
  ∀(x:Nat),True->(∃(x_1:Nat),QjU x_1 ks n/\(Z0=(↑x_1:Int)/\True)/\QAo x n)/\∀(x_1:Nat),QjU x_1 ks n->ifB (decide ((↑x_1:Int)<(LI ks))) (SM x/\Bc (Z0<=(↑x_1:Int)/\(↑x_1:Int)<(LI ks)) (ifB (Yk n==GI ks (Int.toNat (↑x_1:Int))) (RT (true=List.contains ks (Yk n))) ((SM (QQt n)/\SM (QQu ks)/\SM (D.ref N0 x N0)/\True)/\∃(y:Nat),QjU y ks n/\LN ks-y<LN ks-x_1/\(IntKind.wrap IntKind.i64 ((↑x_1:Int)+Z1)=(↑y:Int)/\True)/\QAo x n))) (RT (false=List.contains ks (Yk n)))) (by kernel_rfl) ?_
 delta DA GI LI LN N0 N1 N4 SI SM Z0 Z1 ZI Yk QjU QjV QAd QAe QjW QAf QAg QjX QAh QAi QjY Qz6 QjZ QAj Qj0 QAk QAl QAm QAn QAo QQt QQu Qz7 Qz8 Qz9 QAa Qdh QAb QAc RT
 try simp only[<- dm]
 try simp only[<- dn]
 simp only[ne_eq,implies_true,Int.toNat_natCast,Bf,Bd,decide_eq_true_eq,decide_eq_false_iff_not,true_and,and_true,beq_iff_eq,beq_eq_false_iff_ne,exists_const,forall_const]
 unfold maxLen at hk
 refine⟨⟨0,⟨Nat.zero_le _,fun j hj=>absurd hj (by omega)⟩,rfl⟩,fun i hi'=>⟨fun hlt=>?_,fun hge=>?_⟩⟩
 ·obtain ⟨i1,hi⟩:=hi'
  have hi1:i<ks.length:=by omega
  refine⟨⟨by omega,by omega⟩,fun c=>?_,fun c=>⟨i+1,⟨hi1,fun j hj=>?_⟩,by omega,Ba (by omega) (by omega)⟩⟩
  ·symm
   rw[List.contains_eq_mem,decide_eq_true_eq,c,List.getD_eq_getElem?_getD,List.getElem?_eq_getElem hi1]
   exact List.getElem_mem hi1
  ·by_cases e':j=i
   ·rw[e'];exact c
   ·exact hi j (by omega)
 ·obtain ⟨i1,hi⟩:=hi'
  symm
  rw[List.contains_eq_mem,decide_eq_false_iff_not]
  intro hm
  obtain ⟨j,hj,e⟩:=List.getElem_of_mem hm
  refine hi j (by omega) ?_
  rw[List.getD_eq_getElem?_getD,List.getElem?_eq_getElem hj]
  exact e.symm
def Bbg(b:Bool)(x:List UInt8):List UInt8:=bif b then Bgv x else x
theorem Gf(ks:List Int)(n:Nd):Bbg (ks.contains n.kd) (Bv n)=BB ks n:=by
 unfold Bbg BB Ei
 cases ks.contains n.kd<;>rfl
def Rq(q:Nd->Prop):Con:=fun k ds S=>match k with
 |114=>some (pE (β:=Nd) ds S (fun b=>.str (Bv b)) (fun b=>isN b ds []/\q b))
 |_=>none
theorem T7{q:Nd->Prop}(h:∀b,q b->RRShow b):ConOk Tryz.prog (Rq q):=by
 intro k ds S A hh
 unfold Rq at hh
 split at hh
 ·injection hh with hh;subst hh
  exact Co fun b ⟨e,hb⟩=>CD.at_ (CD.isN (h b hb).1 e) _
 ·cases hh
noncomputable def Epar(q:Nd->Prop):Senv:=EC (Rq q) 12 3 [4,5] (fun _=>([],[]))
def QAr(a b:Nd)(c:Nd->Prop):Prop:=isN a [D.agg (Nd.rowE b)] []/\c a
def Hn(a:Nd):List UInt8:=Bv a
def QAs(a:Bool)(b:Nd):List UInt8:=Bbg a (Hn b)
theorem Bo5(q:Nd->Prop)(h:∀b,q b->RRShow b)(n:Nd)(hn:q n)(b:Bool):CD 127 [.agg n.row1,.bool b] (.str (Bbg b (Bv n))):=by
 refine Bg (A:=sC _ _) (x:=()) (E:=Epar q) (eOk (T7 h) rfl) Tryz.func127 rfl (by kernel_rfl) rfl (by simp[sC,Epar,EC,E0]) ?_
 refine Bi (T :=
  ∀(x:Nat),True->ifB b (SM x/\∃(x:Nd),QAr x n q/\∀(y:Unit),True->Bc (N2+LN (Hn x)<=9223372036854775807) (Bc (LN ((40:UInt8)::(32:UInt8)::List.append [] (Hn x))+N2<=9223372036854775807) (RT ((40:UInt8)::(32:UInt8)::List.append (List.append [] (Hn x)) [(32:UInt8),(41:UInt8)]=QAs b n)))) (SM x/\∃(x:Nd),QAr x n q/\∀(y:Unit),True->RT (Hn x=QAs b n))) (by kernel_rfl) ?_
 delta DA GI LN N1 N2 N4 SI SM Z0 ZI QAr Hn QAs RT
 try simp only[<- dm]
 try simp only[<- dn]
 simp only[Bf,Bd,true_and,and_true,exists_const,forall_const]
 have hl:=(h n hn).2
 refine⟨fun c=>⟨n,⟨Bl _ _,hn⟩,by omega,?_,?_⟩,fun c=>⟨n,⟨Bl _ _,hn⟩,?_⟩⟩
 ·simp only[List.length_cons,List.append_eq,List.nil_append];omega
 ·rw[c];rfl
 ·rw[c];rfl
def Bbk(q:Nd->Prop):Con:=fun k ds S=>match k with
 |128=>match ds with
  | [_,.sl 1 m f _]=>some (pE (β:=Nd) ds S (fun b=>.bool ((Bj m f).contains b.kd)) (fun b=>wkL ds [.agg b.row1,isl (Bj m f) .any]/\m<=maxLen))
  |_=>none
 |127=>match ds with
  | [_,.bool t]=>some (pE (β:=Nd) ds S (fun b=>.str (Bbg t (Bv b))) (fun b=>isN b ds [.bool t]/\q b))
  |_=>none
 |k=>Rq q k ds S
theorem Bac{q:Nd->Prop}(h:∀b,q b->RRShow b):ConOk Tryz.prog (Bbk q):=by
 intro k ds S A hh
 unfold Bbk at hh
 split at hh
 ·split at hh
  ·injection hh with hh;subst hh
   exact Co fun b ⟨e,hm⟩=>CD.at_ (CD.wk (BpP b _ (by rw[BL];exact hm)) e) _
  ·cases hh
 ·split at hh
  ·injection hh with hh;subst hh
   exact Co fun b ⟨e,hb⟩=>CD.at_ (CD.wk (Bo5 q h b hb _) e) _
  ·cases hh
 ·exact T7 h _ _ _ _ hh
noncomputable def Erli(q:Nd->Prop)(l:List Nd)(ks:List Int):Senv:={ EC (Bbk q) 31 2 [4,5,6,10,14] (fun id=>match id with | 7=>([0,1,2,3,4,5,6,7,8,9,10,11,12,13],[10,11]) | _=>([],[])) with
 mg:=fun _=>2
 ann:=fun b _ S=>match b with
  |0=>some { slots:=[6,5],keep:=[0,1],α:=Nat×List UInt8,st:=fun y=>([.int .i64 y.1,.str y.2],S),inv:=fun y=>y.1<=l.length/\y.2=Lib.join ((l.map (BB ks)).take y.1) [32],mu:=fun y=>l.length-y.1 }
  |_=>none }
def Qdj(a:Nat)(b:List Nd)(c:List UInt8)(d:List Int):Prop:=a<=LN b/\c=Lib.join (List.take a (List.map (BB d) b)) [(32:UInt8)]
def Qdk:Arr:=DA
def Xo:Nd:=Nd.mk Z0 Z0 Z0 [] Z0 Z0 Qdk [] [] Z0 Z0 Z0
def KA(a:List Nd)(b:Nat):Nd:=List.getD a (Int.toNat (↑b:Int)) Xo
def QAw(a:List Nd)(b:Nat):D:=D.agg (Nd.rowE (KA a b))
def QAx(a:List Int):D:=SI a
def QAz(a:List Int):List Int:=Bj (LN a) fun i=>[ZI (GI a i)]
def QAA(a:List Nd)(b:Nat)(c:List Int)(d:Nd):Prop:=wkL [QAw a b,QAx c] [D.agg (Nd.rowE d),SI (QAz c)]/\LN c<=9223372036854775807
def QAB(a:List Int)(b:Nd):Bool:=List.contains (QAz a) (Nd.kd b)
def QAC(a:List Int)(b:Nd):List D:=[D.bool (QAB a b)]
def QAD(a:Nd)(b:List Nd)(c:Nat)(d:List Int)(e:Nd)(f:Nd->Prop):Prop:=isN a (QAw b c::QAC d e) (QAC d e)/\f a
def Qj3(a:List Int)(b c:Nd):List UInt8:=Bbg (QAB a b) (Bv c)
def QAE(a:List Int)(b c:Nd):Nat:=LN (Qj3 a b c)
def KB(a:List Nd)(b:Nat):Nd:=List.getD a b Xo
def QQD(a:List Nd):D:=D.sl 15 (LN a) (fun i=>(Nd.rowE (KB a i))) Mode.any
def QAI(a:List Nd)(b:List Int):Prop:=SM (QQD a)/\SM (QAx b)/\True
theorem BoV(q : Nd -> Prop)(l : List Nd)(ks : List Int)(h : ∀b, q b -> RRShow b)(hq : ∀b∈l, q b)(hl : l.length<=maxLen)(hk : ks.length<=maxLen)(hj : (Lib.join (l.map (BB ks)) [32]).length<=20000000000000) :
  CD 126 [gsl 15 Nd.row1 l,isl ks .any] (.str (Lib.join (l.map (BB ks)) [32])):=by
 refine Bg (A:=sC _ _) (x:=()) (E:=Erli q l ks) (eOk (Bac h) rfl) Tryz.func126 rfl (by kernel_rfl) rfl (by simp[sC,Erli,EC,E0]) ?_
 refine Bi (T :=
  (∃(x:Nat×List UInt8),Qdj x.1 l x.2 ks/\(Z0=(NI x.1)/\Cw (List UInt8) [] x.2/\True)/\True/\True)/\∀(x:Nat×List UInt8),Qdj x.1 l x.2 ks->ifB (decide ((NI x.1)<(LI l))) (ifB (decide (Z0<(NI x.1))) (Bc (LN x.2+N1<=9223372036854775807) (Bc (Z0<=(NI x.1)/\(NI x.1)<(LI l)) (Bc (Z0<=(NI x.1)/\(NI x.1)<(LI l)) (∃(x_1:Nd),QAA l x.1 ks x_1/\∀(y:Unit),True->∃(x_2:Nd),QAD x_2 l x.1 ks x_1 q/\∀(y:Unit),True->Bc (LN (x.2++[32])+QAE ks x_1 x_2<=9223372036854775807) (QAI l ks/\∃(y:Nat×List UInt8),Qdj y.1 l y.2 ks/\LN l-y.1<LN l-x.1/\(IntKind.wrap IntKind.i64 ((NI x.1)+Z1)=(NI y.1)/\x.2++[32]++Qj3 ks x_1 x_2=y.2/\True)/\True/\True))))) (Bc (Z0<=(NI x.1)/\(NI x.1)<(LI l)) (Bc (Z0<=(NI x.1)/\(NI x.1)<(LI l)) (∃(x_1:Nd),QAA l x.1 ks x_1/\∀(y:Unit),True->∃(x_2:Nd),QAD x_2 l x.1 ks x_1 q/\∀(y:Unit),True->Bc (LN x.2+QAE ks x_1 x_2<=9223372036854775807) (QAI l ks/\∃(y:Nat×List UInt8),Qdj y.1 l y.2 ks/\LN l-y.1<LN l-x.1/\(IntKind.wrap IntKind.i64 ((NI x.1)+Z1)=(NI y.1)/\x.2++Qj3 ks x_1 x_2=y.2/\True)/\True/\True))))) (RT (x.2=Lib.join (List.map (BB ks) l) [(32:UInt8)]))) (by kernel_rfl) ?_
 delta DA GI LI LN N1 N4 NI SI SM Z0 Z1 ZI Qdj Qdk Xo KA QAw QAx QAz QAA QAB QAC QAD Qj3 QAE KB QQD QAI RT
 try simp only[<- dm]
 try simp only[<- dn]
 simp only[Int.toNat_natCast,Bf,Bd,decide_eq_true_eq,decide_eq_false_iff_not,true_and,and_true,exists_const,forall_const,Prod.exists]
 simp only[B0]
 unfold maxLen at hk hl
 refine⟨⟨0,[],⟨Nat.zero_le _,by simp[Lib.join]⟩,rfl,rfl⟩,?_⟩
 rintro ⟨i,s⟩ ⟨i1,hs⟩
 simp only at i1 hs ⊢
 refine⟨fun hlt=>?_,fun hge=>?_⟩
 ·have hlt':i<l.length:=by omega
  have hlm:i<(l.map (BB ks)).length:=by simpa using hlt'
  have jt:=Ub [32] hlm
  obtain ⟨j1,j2⟩:=Bah [32] hlm
  have eg:(l.map (BB ks)).getD i []=BB ks (l.getD i default):=by simp[List.getD_eq_getElem?_getD,hlt']
  have pw:=Gf ks (l.getD i default)
  have w:IntKind.i64.wrap ((i:Int)+1)=((i+1:Nat):Int):=by rw[Ba (by omega) (by omega)];rfl
  rw[eg] at jt j1 j2
  simp only[List.length_cons,List.length_nil] at j2
  refine⟨fun h0=>⟨?_,⟨by omega,hlt⟩,⟨by omega,hlt⟩,l.getD i default,⟨Be _,hk⟩,l.getD i default,⟨Bl _ _,hq _ (BX hlt')⟩,?_,i+1,_,⟨hlt',?_⟩,by omega,w,rfl⟩,
   fun h0=>⟨⟨by omega,hlt⟩,⟨by omega,hlt⟩,l.getD i default,⟨Be _,hk⟩,l.getD i default,⟨Bl _ _,hq _ (BX hlt')⟩,?_,i+1,_,⟨hlt',?_⟩,by omega,w,rfl⟩⟩
  ·have:=j2 (by omega)
   rw[hs];omega
  ·have:=j2 (by omega)
   rw[pw,hs]
   simp only[List.length_append,List.length_cons,List.length_nil]
   omega
  ·rw[jt,if_pos (by omega),pw,hs]
  ·rw[pw,hs]
   have:i=0:=by omega
   subst this
   simp only[List.take_zero]
   have e0:(Lib.join ([]:List (List UInt8)) [32])=[]:=by simp[Lib.join]
   rw[e0]
   simp only[List.length_nil]
   omega
  ·have:i=0:=by omega
   subst this
   rw[jt,pw,hs]
   simp[Lib.join]
 ·have e:i=l.length:=by omega
  rw[hs,e,List.take_of_length_le (by simp)]
inductive Pt where
 |tx (x:List UInt8)
 |op
 |cl
 |sp
def prT:Pt->List UInt8
 |.tx x=>x
 |.op=>[123]
 |.cl=>[125]
 |.sp=>[59]
def ptW(ks:List Int)(k:Int)(l:List Pt):List Pt:=if ks.contains k=true then .tx [40]::(l++[.tx [41]]) else l
def ptZ(ks:List Int):List Nd->List (List Pt)->List Pt
 |n::l,x::r=>ptW ks n.kd x++ptZ ks l r
 |_,_=>[]
def ptJ:List (List Pt)->List Pt
 | []=>[]
 |x::r=>x++r.flatMap fun y=>.sp::y
mutual
def ptN:Nd->List Pt
 |.mk kd at_ cl tx pr op va ki bo de sl ss =>
  if kd=3 then ptZ [3,4,5] ki (ptL ki)
  else if kd=4 then ptW [16] (kAt ki 0) ((ptL ki).getD 0 [])++(ptL ki).getD 1 []
  else if kd=5 then ptW [4,5] (kAt ki 1) ((ptL ki).getD 1 [])++(ptW [16] (kAt ki 0) ((ptL ki).getD 0 [])++(ptL ki).getD 2 [])
  else if kd=16 then ptZ [4,5,16] ki (ptL ki)
  else if kd=14 then ptW [16] (kAt ki 1) ((ptL ki).getD 1 [])++(ptL ki).getD 0 []
  else if kd=15 then ptW [16] (kAt ki 1) ((ptL ki).getD 1 [])++((ptL ki).getD 0 []++ptW [3,4,5,16,14,15] (kAt ki 2) ((ptL ki).getD 2 []))
  else if kd=10 then .op::(ptJ (ptS bo)++[.cl])
  else [.tx (Bv (.mk kd at_ cl tx pr op va ki bo de sl ss))]
def ptL:List Nd->List (List Pt)
 | []=>[]
 |x::r=>ptN x::ptL r
def ptS:List Sm->List (List Pt)
 | []=>[]
 |x::r=>ptM x::ptS r
def ptM:Sm->List Pt
 |.mk kd _ nm _ te nd=>if kd=2 then .tx nm::.tx [60,45]::ptN nd else if kd=3 then ptN te++(.tx [58]::ptN nd) else ptN nd
end
theorem Ba2:∀l:List Nd,ptL l=l.map ptN
 | []=>by simp only[ptL,List.map_nil]
 |x::r=>by simp only[ptL,List.map_cons,Ba2 r]
theorem Bf0:∀l:List Sm,ptS l=l.map ptM
 | []=>by simp only[ptS,List.map_nil]
 |x::r=>by simp only[ptS,List.map_cons,Bf0 r]
def BR(ks:List Int)(n:Nd):List Pt:=ptW ks n.kd (ptN n)
theorem BfZ(ks:List Int):∀l:List Nd,ptZ ks l (ptL l)=l.flatMap (BR ks)
 | []=>by simp only[ptZ,List.flatMap_nil]
 |x::r=>by simp only[ptL,ptZ,List.flatMap_cons,BfZ ks r];rfl
theorem Rw{l:List Nd}{i:Nat}(h:i<l.length):(ptL l).getD i []=ptN (l.getD i default):=by
 rw[Ba2]
 simp[List.getD_eq_getElem?_getD,h]
theorem IF(s:Sm):ptM s=if s.kd=2 then .tx s.nm::.tx [60,45]::ptN s.nd else if s.kd=3 then ptN s.te++(.tx [58]::ptN s.nd) else ptN s.nd:=by
 cases s
 simp only[ptM]
 rfl
theorem Gd(n : Nd) : ptN n=if n.kd=3 then n.ki.flatMap (BR [3, 4, 5])
  else if n.kd=4 then ptW [16] (kAt n.ki 0) ((ptL n.ki).getD 0 [])++(ptL n.ki).getD 1 []
  else if n.kd=5 then ptW [4,5] (kAt n.ki 1) ((ptL n.ki).getD 1 [])++(ptW [16] (kAt n.ki 0) ((ptL n.ki).getD 0 [])++(ptL n.ki).getD 2 [])
  else if n.kd=16 then n.ki.flatMap (BR [4,5,16])
  else if n.kd=14 then ptW [16] (kAt n.ki 1) ((ptL n.ki).getD 1 [])++(ptL n.ki).getD 0 []
  else if n.kd=15 then ptW [16] (kAt n.ki 1) ((ptL n.ki).getD 1 [])++((ptL n.ki).getD 0 []++ptW [3,4,5,16,14,15] (kAt n.ki 2) ((ptL n.ki).getD 2 []))
  else if n.kd=10 then .op::(ptJ (n.bo.map ptM)++[.cl])
  else [.tx (Bv n)]:=by
 cases n
 simp only[ptN,BfZ,Bf0]
 rfl
theorem neA{α:Type}{a b:List α}(h:a≠[]):a++b≠[]:=fun e=>h (List.append_eq_nil_iff.1 e).1
def txP(l:List Pt):List UInt8:=Lib.join (l.map prT) [32]
theorem Bb1(y:List UInt8)(r:List (List UInt8))(sep:List UInt8):jT sep (y::r)=sep++Lib.join (y::r) sep:=by
 rw[B7]
 simp[jT]
theorem Ek{a b:List Pt}(ha:a≠[])(hb:b≠[]):txP (a++b)=txP a++(32::txP b):=by
 unfold txP
 rw[List.map_append,WF _ _ _ (by simpa using ha)]
 cases b with
 |nil=>exact (hb rfl).elim
 |cons y r =>
  rw[List.map_cons,Bb1]
  rfl
theorem UQ(x:Pt):txP [x]=prT x:=by
 unfold txP
 rw[List.map_cons,List.map_nil,B7]
 simp[jT]
theorem E2{x:Pt}{b:List Pt}(hb:b≠[]):txP (x::b)=prT x++(32::txP b):=by
 have:=Ek (a:=[x]) (by simp) hb
 rw[UQ] at this
 exact this
theorem WZ(ks:List Int)(k:Int)(l:List Pt)(h:l≠[]):txP (ptW ks k l)=Ei ks k (txP l)/\ptW ks k l≠[]:=by
 unfold ptW Ei
 split
 ·refine⟨?_,by simp⟩
  rw[E2 (by simp),Ek h (by simp),UQ]
  simp[prT,Bgv]
 ·exact⟨rfl,h⟩
theorem BdA{α:Type}(f:α->List Pt)(g:α->List UInt8):∀l:List α,l≠[]->(∀x∈l,txP (f x)=g x/\f x≠[])->txP (l.flatMap f)=Lib.join (l.map g) [32]/\l.flatMap f≠[]
 | [],h,_=>(h rfl).elim
 | [x],_,hx=>by
  have:=hx x (by simp)
  rw[List.flatMap_cons,List.flatMap_nil,List.append_nil,List.map_cons,List.map_nil,B7]
  exact⟨by rw[this.1];simp[jT],this.2⟩
 |x::y::r,_,hx=>by
  have h1:=hx x (by simp)
  have h2:=BdA f g (y::r) (by simp) fun z hz=>hx z (by simp[List.mem_cons.1 hz])
  rw[List.flatMap_cons]
  refine⟨?_,by simp[h1.2]⟩
  rw[Ek h1.2 h2.2,h1.1,h2.1]
  rw[List.map_cons (a:=x),B7 (g x),List.map_cons,Bb1]
  rfl
theorem BqF{α:Type}(f:α->List Pt)(g:α->List UInt8):∀l:List α,l≠[]->(∀x∈l,txP (f x)=g x/\f x≠[])->txP (ptJ (l.map f))=Lib.join (l.map g) [32,59,32]/\ptJ (l.map f)≠[]
 | [],h,_=>(h rfl).elim
 |x::r,_,hx=>by
  have h1:=hx x (by simp)
  have hr:∀l:List α,(∀x∈l,txP (f x)=g x/\f x≠[])->∀a:List Pt,a≠[]->txP (a++(l.map f).flatMap fun y=>.sp::y)=txP a++jT [32,59,32] (l.map g):=by
   intro l
   induction l with
   |nil=>intro _ a _;simp[jT]
   |cons y l ih =>
    intro hl a ha
    have hy:=hl y (by simp)
    rw[List.map_cons,List.flatMap_cons,<- List.append_assoc,ih (fun z hz=>hl z (by simp[hz])) _ (by simp[ha]),Ek ha (by simp),E2 hy.2,hy.1,List.map_cons]
    simp[jT,prT]
  rw[List.map_cons,ptJ,List.map_cons,B7,hr r (fun z hz=>hx z (by simp[hz])) _ h1.2,h1.1]
  exact⟨rfl,by simp[h1.2]⟩
theorem Rp(n:Nd)(hv:Bz n=true):txP (ptN n)=Bv n/\ptN n≠[]:=by
 obtain ⟨L2,L3,_⟩:=II hv
 have vk:=(EI hv).1
 have kid:∀i,i<n.ki.length->txP (ptN (n.ki.getD i default))=Bv (n.ki.getD i default)/\ptN (n.ki.getD i default)≠[]:=fun i hi =>
  have hm:n.ki.getD i default∈n.ki:=BX hi
  Rp _ (vk _ hm)
 have kids:∀ks:List Int,n.ki≠[]->txP (n.ki.flatMap (BR ks))=Lib.join (n.ki.map (BB ks)) [32]/\n.ki.flatMap (BR ks)≠[]:=fun ks hne =>
  BdA (BR ks) (BB ks) n.ki hne fun x hx=>by
   have h:=Rp x (vk x hx)
   have h2:=WZ ks x.kd (ptN x) h.2
   unfold BR BB
   rw[h2.1,h.1]
   exact⟨rfl,h2.2⟩
 have sg:∀i,i<n.ki.length->(BZ n.ki).getD i []=Bv (n.ki.getD i default):=fun i hi=>I2 hi
 have pg:∀i,i<n.ki.length->(ptL n.ki).getD i []=ptN (n.ki.getD i default):=fun i hi=>Rw hi
 have ne3:(n.kd=3\/n.kd=16)->n.ki≠[]:=fun h e=>by
  rcases Ed hv (by omega) with hc | ⟨hc,_⟩
  ·unfold C6 at hc
   rcases h with h | h<;>simp[h] at hc
  ·unfold CQ at hc
   rcases h with h | h<;>simp[h,e,Bm] at hc
 rw[Gd,CR]
 by_cases k3:n.kd=3
 ·simp only[k3]
  exact kids _ (ne3 (.inl k3))
 by_cases k4:n.kd=4
 ·have hL:n.ki.length=2:=L2 (.inl k4)
  obtain ⟨a1,a2⟩:=kid 0 (by omega)
  obtain ⟨b1,b2⟩:=kid 1 (by omega)
  obtain ⟨w1,w2⟩:=WZ [16] (kAt n.ki 0) _ a2
  simp only[k4,Int.reduceEq,if_false,if_true]
  rw[sg 0 (by omega),sg 1 (by omega),pg 0 (by omega),pg 1 (by omega)]
  refine⟨?_,neA w2⟩
  rw[Ek w2 b2,w1,a1,b1]
  simp only[List.append_assoc,List.cons_append,List.nil_append]
  try rfl
 by_cases k5:n.kd=5
 ·have hL:n.ki.length=3:=L3 (.inl k5)
  obtain ⟨a1,a2⟩:=kid 0 (by omega)
  obtain ⟨b1,b2⟩:=kid 1 (by omega)
  obtain ⟨c1,c2⟩:=kid 2 (by omega)
  obtain ⟨w1,w2⟩:=WZ [16] (kAt n.ki 0) _ a2
  obtain ⟨v1,v2⟩:=WZ [4,5] (kAt n.ki 1) _ b2
  simp only[k5,Int.reduceEq,if_false,if_true]
  rw[sg 0 (by omega),sg 1 (by omega),sg 2 (by omega),pg 0 (by omega),pg 1 (by omega),pg 2 (by omega)]
  refine⟨?_,neA v2⟩
  rw[Ek v2 (neA w2),Ek w2 c2,v1,w1,a1,b1,c1]
  simp only[List.append_assoc,List.cons_append,List.nil_append]
  try rfl
 by_cases k16:n.kd=16
 ·simp only[k16]
  exact kids _ (ne3 (.inr k16))
 by_cases k14:n.kd=14
 ·have hL:n.ki.length=2:=L2 (.inr k14)
  obtain ⟨a1,a2⟩:=kid 0 (by omega)
  obtain ⟨b1,b2⟩:=kid 1 (by omega)
  obtain ⟨v1,v2⟩:=WZ [16] (kAt n.ki 1) _ b2
  simp only[k14,Int.reduceEq,if_false,if_true]
  rw[sg 0 (by omega),sg 1 (by omega),pg 0 (by omega),pg 1 (by omega)]
  refine⟨?_,neA v2⟩
  rw[Ek v2 a2,v1,a1,b1]
  simp only[List.append_assoc,List.cons_append,List.nil_append]
  try rfl
 by_cases k15:n.kd=15
 ·have hL:n.ki.length=3:=L3 (.inr k15)
  obtain ⟨a1,a2⟩:=kid 0 (by omega)
  obtain ⟨b1,b2⟩:=kid 1 (by omega)
  obtain ⟨c1,c2⟩:=kid 2 (by omega)
  obtain ⟨v1,v2⟩:=WZ [16] (kAt n.ki 1) _ b2
  obtain ⟨w1,w2⟩:=WZ [3,4,5,16,14,15] (kAt n.ki 2) _ c2
  simp only[k15,Int.reduceEq,if_false,if_true]
  rw[sg 0 (by omega),sg 1 (by omega),sg 2 (by omega),pg 0 (by omega),pg 1 (by omega),pg 2 (by omega)]
  refine⟨?_,neA v2⟩
  rw[Ek v2 (neA a2),Ek a2 w2,v1,w1,a1,b1,c1]
  simp only[List.append_assoc,List.cons_append,List.nil_append]
  try rfl
 by_cases k10:n.kd=10
 ·have h1:=hv
  rw[CH,Bool.and_eq_true,if_pos k10,Bool.and_eq_true] at h1
  have hb:=h1.2.2
  unfold BP at hb
  rw[Bool.and_eq_true] at hb
  have hbn:n.bo≠[]:=fun e=>by
   have:=h1.2.1
   unfold Ts at this
   simp[e] at this
  have st:∀s∈n.bo,txP (ptM s)=B4 s/\ptM s≠[]:=fun s hs=>by
   obtain ⟨q1,q2⟩:=Ep hb.2 s hs
   have z1:=Nd.size_stmt hs
   have z2:=Sm.size_nd s
   have z3:=Sm.size_te s
   have hn:=Rp s.nd q1
   rw[IF,O3]
   by_cases c2:s.kd=2
   ·rw[if_pos c2,if_pos c2,E2 (by simp),E2 hn.2,hn.1]
    simp[prT]
   ·rw[if_neg c2,if_neg c2]
    by_cases c3:s.kd=3
    ·have hv2:Bz s.te=true:=by
      rcases q2 with ⟨_,q,_⟩ | ⟨q,_⟩
      ·exact q
      ·exact (q c3).elim
     have ht:=Rp s.te hv2
     rw[if_pos c3,if_pos c3,Ek ht.2 (by simp),E2 hn.2,hn.1,ht.1]
     simp[prT]
    ·rw[if_neg c3,if_neg c3]
     exact hn
  obtain ⟨j1,j2⟩:=BqF ptM B4 n.bo hbn st
  simp only[k10]
  refine⟨?_,by simp⟩
  simp only[Int.reduceEq,if_false,if_true]
  rw[E2 (by simp),Ek j2 (by simp),UQ,j1]
  simp[prT]
 ·rw[if_neg k3,if_neg k4,if_neg k5,if_neg k16,if_neg k14,if_neg k15,if_neg k10]
  refine⟨?_,by simp⟩
  rw[UQ,prT]
termination_by SizeOf.sizeOf n
decreasing_by
 ·exact Nd.size_kid hm
 ·exact Nd.size_kid hx
 ·omega
 ·omega
def Bo8(l:List UInt8):Nat:=l.foldl (fun v b=>v*10+(b.toNat-48)) 0
def Bjv(b:UInt8):Bool:=decide (48<=b.toNat)&&decide (b.toNat<=57)
theorem Bbw{k:Nat}(h:k<10):(UInt8.ofNat (48+k)).toNat=48+k:=by
 rw[UInt8.toNat_ofNat'];omega
theorem Ru(u:Nat):(∀b∈Lib.decDigits u,Bjv b=true)/\Bo8 (Lib.decDigits u)=u/\Lib.decDigits u≠[]:=by
 induction u using Nat.strongRecOn with
 |_ u ih =>
  rw[Lib.decDigits]
  by_cases h:u<10
  ·rw[dif_pos h]
   refine⟨fun b hb=>?_,?_,by simp⟩
   ·rw[List.mem_singleton.1 hb,Bjv,Bbw h]
    simp only[Bool.and_eq_true,decide_eq_true_eq];omega
   ·simp only[Bo8,List.foldl_cons,List.foldl_nil,Bbw h];omega
  ·rw[dif_neg h]
   obtain ⟨h1,h2,h3⟩:=ih (u / 10) (by omega)
   have hm:u % 10<10:=by omega
   refine⟨fun b hb=>?_,?_,by simp⟩
   ·rcases List.mem_append.1 hb with hb | hb
    ·exact h1 b hb
    ·rw[List.mem_singleton.1 hb,Bjv,Bbw hm]
     simp only[Bool.and_eq_true,decide_eq_true_eq];omega
   ·unfold Bo8 at h2 ⊢
    rw[List.foldl_append,h2]
    simp only[List.foldl_cons,List.foldl_nil,Bbw hm];omega
def BgB(b:UInt8):Bool:=Bjv b||b==95
theorem Bfd(z:Int):∃b t,BA z=b::t/\BgB b=true:=by
 unfold BA
 split
 ·exact⟨95,_,rfl,rfl⟩
 ·obtain ⟨h1,_,h3⟩:=Ru z.toNat
  cases hd:Lib.decDigits z.toNat with
  |nil=>exact (h3 hd).elim
  |cons b t=>exact⟨b,t,rfl,by rw[BgB,h1 b (by rw[hd];exact List.mem_cons_self)];rfl⟩
def BjU:List UInt8->Nat
 | []=>0
 |b::t=>if b.toNat<128 then b.toNat
  else if b.toNat<224 then (b.toNat-192)*64+((t.getD 0 0).toNat-128)
  else if b.toNat<240 then (b.toNat-224)*4096+((t.getD 0 0).toNat-128)*64+((t.getD 1 0).toNat-128)
  else (b.toNat-240)*262144+((t.getD 0 0).toNat-128)*4096+((t.getD 1 0).toNat-128)*64+((t.getD 2 0).toNat-128)
def Wm(c:Nat):List UInt8 :=
 if c<0x80 then [UInt8.ofNat c]
 else if c<0x800 then [UInt8.ofNat (0xC0+c / 64),UInt8.ofNat (0x80+c % 64)]
 else if c<0x10000 then [UInt8.ofNat (0xE0+c / 4096),UInt8.ofNat (0x80+c / 64 % 64),UInt8.ofNat (0x80+c % 64)]
 else [UInt8.ofNat (0xF0+c / 262144),UInt8.ofNat (0x80+c / 4096 % 64),UInt8.ofNat (0x80+c / 64 % 64),UInt8.ofNat (0x80+c % 64)]
theorem Bm5{n:Nat}(h1:n<=1114111)(h2:n<55296\/57343<n):Mt (n:Int)=Wm n:=by
 have hv:Utf8.valid (n:Int)=true:=by
  simp only[Utf8.valid,Bool.or_eq_true,Bool.and_eq_true,decide_eq_true_eq]
  omega
 have key : ∀c : Nat, ((if c<0x80 then ⟨#[UInt8.ofNat c]⟩
   else if c<0x800 then ⟨#[UInt8.ofNat (0xC0+c / 64),UInt8.ofNat (0x80+c % 64)]⟩
   else if c<0x10000 then ⟨#[UInt8.ofNat (0xE0+c / 4096),UInt8.ofNat (0x80+c / 64 % 64),UInt8.ofNat (0x80+c % 64)]⟩
   else ⟨#[UInt8.ofNat (0xF0+c / 262144),UInt8.ofNat (0x80+c / 4096 % 64),UInt8.ofNat (0x80+c / 64 % 64),UInt8.ofNat (0x80+c % 64)]⟩:ByteArray).data.toList)=Wm c:=fun c=>by
  unfold Wm
  (repeat' split)<;>rfl
 unfold Mt Utf8.encode
 rw[if_pos hv,Int.toNat_natCast]
 exact key n
theorem b8{k:Nat}(h:k<256):(UInt8.ofNat k).toNat=k:=by rw[UInt8.toNat_ofNat'];omega
def Gr(q:UInt8):List UInt8->Nat
 | []=>0
 | [c]=>if c=q then 0 else 1
 |c::d::r=>if c=q then 0 else if c=92 then 2+Gr q r else 1+Gr q (d::r)
def IC(r:List UInt8):Nat:=r.findIdx (·==32)
def T9:List UInt8->Nat
 | []=>0
 |q::t=>if q=34\/q=39 then min (Gr q t+2) (t.length+1) else IC (q::t)
theorem BaD{q c:UInt8}(h1:c≠q)(h2:c≠92)(r:List UInt8):Gr q (c::r)=1+Gr q r:=by
 cases r with
 |nil=>simp[Gr,h1]
 |cons d r=>rw[Gr,if_neg h1,if_neg h2]
theorem Om{q:UInt8}:∀(l r:List UInt8),(∀b∈l,b≠q/\b≠92)->Gr q (l++r)=l.length+Gr q r
 | [],r,_=>by simp
 |c::l,r,h=>by
  rw[List.cons_append,BaD (h c (by simp)).1 (h c (by simp)).2,Om l r fun b hb=>h b (by simp[hb]),List.length_cons]
  omega
theorem IK{q d:UInt8}(h:(92:UInt8)≠q)(r:List UInt8):Gr q (92::d::r)=2+Gr q r:=by
 rw[Gr,if_neg h,if_pos rfl]
theorem Bdd{q:UInt8}(r:List UInt8):Gr q (q::r)=0:=by
 cases r with
 |nil=>simp[Gr]
 |cons d r=>rw[Gr,if_pos rfl]
theorem RZ{m:Nat}(hm:m<=1114111)(h128:128<=m):∀b∈Wm m,128<=b.toNat:=by
 intro b hb
 have big:∀x:Nat,128<=x->x<256->128<=(UInt8.ofNat x).toNat:=fun x h1 h2=>by rw[b8 h2];exact h1
 unfold Wm at hb
 rw[if_neg (by omega)] at hb
 split at hb
 ·simp only[List.mem_cons,List.not_mem_nil,or_false] at hb
  rcases hb with rfl | rfl<;>exact big _ (by omega) (by omega)
 ·split at hb
  ·simp only[List.mem_cons,List.not_mem_nil,or_false] at hb
   rcases hb with rfl | rfl | rfl<;>exact big _ (by omega) (by omega)
  ·simp only[List.mem_cons,List.not_mem_nil,or_false] at hb
   rcases hb with rfl | rfl | rfl | rfl<;>exact big _ (by omega) (by omega)
theorem On{c:Int}(h0:0<=c)(h1:c<=1114111):(c<128->Mt c=[UInt8.ofNat c.toNat])/\(128<=c->∀b∈Mt c,128<=b.toNat):=by
 obtain ⟨n,rfl⟩:∃n:Nat,c=n:=⟨c.toNat,by omega⟩
 by_cases h2:n<55296\/57343<n
 ·rw[Bm5 (by omega) h2]
  refine⟨fun h=>?_,fun h=>RZ (by omega) (by omega)⟩
  unfold Wm
  rw[if_pos (by omega)]
  rfl
 ·refine⟨fun h=>by omega,fun _=>?_⟩
  have hv:¬Utf8.valid (n:Int)=true:=by
   simp only[Utf8.valid,Bool.or_eq_true,Bool.and_eq_true,decide_eq_true_eq]
   omega
  have e:Mt (n:Int)=Wm 65533:=by
   unfold Mt Utf8.encode
   rw[if_neg hv]
   decide +kernel
  rw[e]
  exact RZ (by omega) (by omega)
theorem Bd7{n:Nat}(h:n<128):∀b∈Gw n,b≠34/\b≠39/\b≠92:=by
 have:∀n,n<128->∀b∈Gw n,b≠34/\b≠39/\b≠92:=by decide +kernel
 exact this n h
theorem Bme{q:Nat}(hq:q=34\/q=39){c:Int}(h0:0<=c)(h1:c<=1114111)(r:List UInt8):Gr (UInt8.ofNat q) (Ge c q++r)=(Ge c q).length+Gr (UInt8.ofNat q) r:=by
 have q92:(92:UInt8)≠UInt8.ofNat q:=by rcases hq with rfl | rfl<;>decide
 have hb:=On h0 h1
 unfold Ge
 by_cases c1:c=10
 ·rw[if_pos c1];exact IK q92 r
 rw[if_neg c1]
 by_cases c2:c=9
 ·rw[if_pos c2];exact IK q92 r
 rw[if_neg c2]
 by_cases c3:c=13
 ·rw[if_pos c3];exact IK q92 r
 rw[if_neg c3]
 by_cases c4:c=92\/c=q
 ·rw[if_pos c4,hb.1 (by omega)]
  exact IK q92 r
 rw[if_neg c4]
 by_cases c5:c<32\/c=127
 ·rw[if_pos c5]
  have hx:=Bd7 (n:=c.toNat) (by omega)
  have e:([92,117,123]++Gw c.toNat++[125]++r:List UInt8)=92::117::((123::Gw c.toNat++[125])++r):=by simp
  rw[e,IK q92,Om]
  ·simp;omega
  ·intro b hbm
   simp only[List.cons_append,List.mem_cons,List.mem_append,List.not_mem_nil,or_false] at hbm
   rcases hbm with rfl | hbm | rfl
   ·rcases hq with rfl | rfl<;>decide
   ·obtain ⟨x1,x2,x3⟩:=hx b hbm
    rcases hq with rfl | rfl
    ·exact⟨x1,x3⟩
    ·exact⟨x2,x3⟩
   ·rcases hq with rfl | rfl<;>decide
 ·rw[if_neg c5]
  refine Om _ _ fun b hbm=>?_
  by_cases c6:c<128
  ·rw[hb.1 c6,List.mem_singleton] at hbm
   obtain ⟨n,rfl⟩:∃n:Nat,c=n:=⟨c.toNat,by omega⟩
   have e:b.toNat=n:=by rw[hbm,Int.toNat_natCast];exact b8 (by omega)
   constructor
   ·intro e2
    have:=congrArg UInt8.toNat e2
    rw[e,b8 (by omega)] at this
    omega
   ·intro e2
    rw[e2] at e
    have e:(92:Nat)=n:=e
    omega
  ·have:=hb.2 (by omega) b hbm
   constructor
   ·intro e2
    rw[e2,b8 (by omega)] at this
    omega
   ·intro e2
    rw[e2] at this
    exact absurd this (by decide)
theorem Bc9{q:Nat}(hq:q=34\/q=39):∀(l:List Int) (r:List UInt8),(∀c∈l,0<=c/\c<=1114111)->Gr (UInt8.ofNat q) (M6 q l++r)=(M6 q l).length+Gr (UInt8.ofNat q) r
 | [],r,_=>by simp[M6]
 |c::l,r,h=>by
  rw[RW,List.append_assoc,Bme hq (h c (by simp)).1 (h c (by simp)).2,Bc9 hq l r fun x hx=>h x (by simp[hx]),List.length_append]
  omega
def Bcm(x:List UInt8):Prop:=x≠[]/\∀r:List UInt8,(r=[]\/∃t,r=32::t)->T9 (x++r)=x.length
theorem Wj:∀(x r:List UInt8),(∀b∈x,b≠32)->(r=[]\/∃t,r=32::t)->IC (x++r)=x.length
 | [],r,_,hr=>by
  rcases hr with rfl | ⟨t,rfl⟩
  ·rfl
  ·simp[IC,List.findIdx_cons]
 |b::x,r,h,hr=>by
  have:=Wj x r (fun c hc=>h c (by simp[hc])) hr
  unfold IC at this ⊢
  rw[List.cons_append,List.findIdx_cons,this]
  have hb:(b==32)=false:=by simpa using h b (by simp)
  rw[hb]
  simp
theorem I4{x:List UInt8}(hx:x≠[])(h:∀b∈x,b≠32)(hq:x.getD 0 0≠34/\x.getD 0 0≠39):Bcm x:=by
 refine⟨hx,fun r hr=>?_⟩
 have e:=Wj x r h hr
 cases x with
 |nil=>exact (hx rfl).elim
 |cons b x =>
  have hq:b≠34/\b≠39:=hq
  rw[List.cons_append,T9,if_neg (by rintro (h | h);exact hq.1 h;exact hq.2 h)]
  exact e
theorem Bco{q:Nat}(hq:q=34\/q=39){l:List Int}(h:∀c∈l,0<=c/\c<=1114111):Bcm (IB q l):=by
 have e:IB q l=UInt8.ofNat q::(M6 q l++[UInt8.ofNat q]):=by
  unfold IB
  rw[(On (c:=(q:Int)) (by omega) (by omega)).1 (by omega)]
  rfl
 rw[e]
 refine⟨by simp,fun r hr=>?_⟩
 have hq2:UInt8.ofNat q=34\/UInt8.ofNat q=39:=by rcases hq with rfl | rfl<;>decide
 rw[List.cons_append,T9,if_pos hq2,List.append_assoc,Bc9 hq l _ h,List.cons_append,List.nil_append,Bdd]
 simp only[List.length_append,List.length_cons,List.length_nil]
 omega
def okT(x:List UInt8):Prop:=x.getD 0 0≠10/\x.getD 0 0≠59/\x.getD 0 0≠123/\x.getD 0 0≠125
def Re(x:List UInt8):Prop:=Bcm x/\okT x
def okP:Pt->Prop
 |.tx x=>Re x
 |_=>True
theorem Ex{x:List UInt8}(hx:x≠[])(h:∀b∈x,b≠32)(hq:∀b∈([34,39,10,59,123,125]:List UInt8),x.getD 0 0≠b):Re x :=
 ⟨I4 hx h ⟨hq 34 (by simp),hq 39 (by simp)⟩,hq 10 (by simp),hq 59 (by simp),hq 123 (by simp),hq 125 (by simp)⟩
theorem OA{q:Nat}(hq:q=34\/q=39){l:List Int}(h:∀c∈l,0<=c/\c<=1114111):Re (IB q l):=by
 refine⟨Bco hq h,?_⟩
 have e:(IB q l).getD 0 0=UInt8.ofNat q:=by
  unfold IB
  rw[(On (c:=(q:Int)) (by omega) (by omega)).1 (by omega)]
  rfl
 unfold okT
 rw[e]
 rcases hq with rfl | rfl<;>decide
theorem Bdq(z:Int):∀b∈BA z,Bjv b=true\/b=95:=by
 intro b hb
 unfold BA at hb
 split at hb
 ·rcases List.mem_cons.1 hb with rfl | hb
  ·exact .inr rfl
  ·exact .inl ((Ru _).1 b hb)
 ·exact .inl ((Ru _).1 b hb)
theorem BhN(z:Int):Re (BA z):=by
 obtain ⟨b,t,e,hb⟩:=Bfd z
 have key:∀b:UInt8,BgB b=true->∀c∈([34,39,10,59,123,125]:List UInt8),b≠c:=fun b hb c hc e=>by
  subst e
  have k:∀c∈([34,39,10,59,123,125]:List UInt8),BgB c=false:=by decide +kernel
  rw[k b hc] at hb;cases hb
 refine Ex (by rw[e];simp) (fun c hc e2=>?_) ?_
 ·rcases Bdq z c hc with h | h
  ·rw[e2] at h;exact absurd h (by decide)
  ·rw[e2] at h;exact absurd h (by decide)
 ·rw[e];exact key b hb
theorem Bhi:∀n:Nat,n<56->1<=n->(primL.getD n [])≠[]/\(∀b∈primL.getD n [],b≠32)/\∀c∈([34,39,10,59,123,125]:List UInt8),(primL.getD n []).getD 0 0≠c:=by decide +kernel
theorem BnF:∀n:Nat,n<12->1<=n->(opL.getD n [])≠[]/\(∀b∈opL.getD n [],b≠32)/\∀c∈([34,39,10,59,123,125]:List UInt8),(opL.getD n []).getD 0 0≠c:=by decide +kernel
theorem Ua{s:List UInt8}(h:Cd s=true):Re s:=by
 obtain ⟨h1,_,_,_,h5,h6,_,_⟩:=BO h
 have key:∀b:UInt8,97<=b.toNat/\b.toNat<=122->∀c∈([34,39,10,59,123,125]:List UInt8),b≠c:=fun b hb c hc e=>by
  subst e
  have k:∀c∈([34,39,10,59,123,125]:List UInt8),¬(97<=c.toNat/\c.toNat<=122):=by decide +kernel
  exact k b hc hb
 refine Ex h1 (fun b hb e=>?_) (key _ h5)
 obtain ⟨i,hi,e2⟩:=List.getElem_of_mem hb
 have:=h6 i hi
 rw[List.getD_eq_getElem?_getD,List.getElem?_eq_getElem hi,Option.getD_some,e2,e] at this
 exact absurd this (by decide)
theorem Biz{n:Nd}(hl:C6 n=true)(ho:n.ok):Re (Bv n):=by
 rw[CR]
 unfold C6 at hl
 rw[Bool.and_eq_true] at hl
 have hl:=hl.2
 have lit:∀x:List UInt8,x∈([[88],[89],[97,114,103],[115,101,108,102],[70],[71]]:List (List UInt8))->Re x:=fun x hx=>by
  have key:∀x∈([[88],[89],[97,114,103],[115,101,108,102],[70],[71]]:List (List UInt8)),x≠[]/\(∀b∈x,b≠32)/\∀c∈([34,39,10,59,123,125]:List UInt8),x.getD 0 0≠c:=by decide +kernel
  obtain ⟨k1,k2,k3⟩:=key x hx
  exact Ex k1 k2 k3
 by_cases k1:n.kd=1
 ·rw[if_pos k1] at hl ⊢
  simp only[Bool.and_eq_true,Bool.or_eq_true,beq_iff_eq,bne_iff_ne,ne_eq,List.isEmpty_iff] at hl
  obtain ⟨⟨_,hc⟩,hs⟩:=hl
  have lo:=Bfu (OI ho) hc
  unfold GS
  rw[if_pos hc,Mc]
  unfold Mx
  rcases hs with ⟨hs,hk⟩ | ⟨hs,hk⟩
  ·have hs0:n.va.sh.length=0:=by rw[hs];rfl
   rw[if_pos hs0]
   unfold CC
   have hsc:=lo.sc hs0
   rw[lo.no hk] at hsc
   have hn:n.va.nu.length=1:=by simpa using hsc
   by_cases q1:n.va.k=1
   ·rw[if_pos q1];exact BhN _
   ·rw[if_neg q1]
    have q2:n.va.k=2:=by have:=lo.kd;omega
    rw[if_pos q2]
    refine OA (q:=39) (.inr rfl) fun c hcm=>lo.chr q2 c ?_
    rw[List.mem_singleton.1 hcm,List.getD_eq_getElem?_getD,List.getElem?_eq_getElem (show 0<n.va.nu.length by omega)]
    exact List.getElem_mem _
  ·rw[if_neg (by omega),if_pos ⟨hs,.inl hk⟩]
   unfold E8
   rw[if_pos hk]
   exact OA (q:=34) (.inl rfl) (lo.chr hk)
 rw[if_neg k1] at hl ⊢
 by_cases k2:n.kd=2
 ·rw[if_pos k2] at hl ⊢
  rw[Bool.and_eq_true] at hl
  exact Ua hl.2
 rw[if_neg k2] at hl ⊢
 by_cases k6:n.kd=6
 ·rw[if_pos k6];exact lit _ (by simp)
 rw[if_neg k6]
 by_cases k7:n.kd=7
 ·rw[if_pos k7];exact lit _ (by simp)
 rw[if_neg k7]
 by_cases k8:n.kd=8
 ·rw[if_pos k8];exact lit _ (by simp)
 rw[if_neg k8]
 by_cases k11:n.kd=11
 ·rw[if_pos k11];exact lit _ (by simp)
 rw[if_neg k11]
 by_cases k12:n.kd=12
 ·rw[if_pos k12];exact lit _ (by simp)
 rw[if_neg k12]
 by_cases k13:n.kd=13
 ·rw[if_pos k13];exact lit _ (by simp)
 rw[if_neg k13]
 rw[if_neg (by omega)] at hl
 by_cases k9:n.kd=9
 ·rw[if_pos k9] at hl ⊢
  rw[Bool.and_eq_true,BcE] at hl
  have h2:=hl.2
  simp only[Bool.not_not,Bool.and_eq_true,decide_eq_true_eq] at h2
  unfold Cf
  rw[if_neg (by omega)]
  obtain ⟨p1,p2,p3⟩:=Bhi n.pr.toNat (by omega) (by omega)
  exact Ex p1 p2 p3
 rw[if_neg k9] at hl ⊢
 rw[if_neg (by omega)] at hl
 by_cases k17:n.kd=17
 ·rw[if_pos k17] at hl ⊢
  rw[Bool.and_eq_true,Bjb] at hl
  have h2:=hl.2
  simp only[Bool.not_not,Bool.and_eq_true,decide_eq_true_eq] at h2
  unfold opT
  rw[if_neg (by omega)]
  obtain ⟨p1,p2,p3⟩:=BnF n.op.toNat (by omega) (by omega)
  exact Ex p1 p2 p3
 rw[if_neg k17] at hl
 cases hl
theorem okW{ks:List Int}{k:Int}{l:List Pt}(h:∀p∈l,okP p):∀p∈ptW ks k l,okP p:=by
 unfold ptW
 split
 ·intro p hp
  simp only[List.mem_cons,List.mem_append,List.not_mem_nil,or_false] at hp
  rcases hp with rfl | hp | rfl
  ·exact Ex (by simp) (by decide) (by decide)
  ·exact h p hp
  ·exact Ex (by simp) (by decide) (by decide)
 ·exact h
theorem okJ{l:List (List Pt)}(h:∀x∈l,∀p∈x,okP p):∀p∈ptJ l,okP p:=by
 cases l with
 |nil=>intro p hp;cases hp
 |cons x r =>
  intro p hp
  rw[ptJ] at hp
  rcases List.mem_append.1 hp with hp | hp
  ·exact h x (by simp) p hp
  ·obtain ⟨y,hy,hp⟩:=List.mem_flatMap.1 hp
   rcases List.mem_cons.1 hp with rfl | hp
   ·trivial
   ·exact h y (by simp[hy]) p hp
theorem okN(n:Nd)(hv:Bz n=true)(ho:n.ok):∀p∈ptN n,okP p:=by
 obtain ⟨L2,L3,_⟩:=II hv
 have vk:=(EI hv).1
 have kk:∀x∈n.ki,∀p∈ptN x,okP p:=fun x hx=>okN x (vk x hx) (M8 ho x hx)
 have kid:∀i,i<n.ki.length->∀p∈ptN (n.ki.getD i default),okP p:=fun i hi=>kk _ (BX hi)
 have kids:∀ks:List Int,∀p∈n.ki.flatMap (BR ks),okP p:=fun ks p hp=>by
  obtain ⟨x,hx,hp⟩:=List.mem_flatMap.1 hp
  exact okW (kk x hx) p hp
 have pg:∀i,i<n.ki.length->(ptL n.ki).getD i []=ptN (n.ki.getD i default):=fun i hi=>Rw hi
 have cat:∀ {a b:List Pt},(∀p∈a,okP p)->(∀p∈b,okP p)->∀p∈a++b,okP p:=fun ha hb p hp=>by
  rcases List.mem_append.1 hp with hp | hp
  ·exact ha p hp
  ·exact hb p hp
 rw[Gd]
 by_cases k3:n.kd=3
 ·rw[if_pos k3];exact kids _
 rw[if_neg k3]
 by_cases k4:n.kd=4
 ·have hL:n.ki.length=2:=L2 (.inl k4)
  rw[if_pos k4,pg 0 (by omega),pg 1 (by omega)]
  exact cat (okW (kid 0 (by omega))) (kid 1 (by omega))
 rw[if_neg k4]
 by_cases k5:n.kd=5
 ·have hL:n.ki.length=3:=L3 (.inl k5)
  rw[if_pos k5,pg 0 (by omega),pg 1 (by omega),pg 2 (by omega)]
  exact cat (okW (kid 1 (by omega))) (cat (okW (kid 0 (by omega))) (kid 2 (by omega)))
 rw[if_neg k5]
 by_cases k16:n.kd=16
 ·rw[if_pos k16];exact kids _
 rw[if_neg k16]
 by_cases k14:n.kd=14
 ·have hL:n.ki.length=2:=L2 (.inr k14)
  rw[if_pos k14,pg 0 (by omega),pg 1 (by omega)]
  exact cat (okW (kid 1 (by omega))) (kid 0 (by omega))
 rw[if_neg k14]
 by_cases k15:n.kd=15
 ·have hL:n.ki.length=3:=L3 (.inr k15)
  rw[if_pos k15,pg 0 (by omega),pg 1 (by omega),pg 2 (by omega)]
  exact cat (okW (kid 1 (by omega))) (cat (kid 0 (by omega)) (okW (kid 2 (by omega))))
 rw[if_neg k15]
 by_cases k10:n.kd=10
 ·rw[if_pos k10]
  have h1:=hv
  rw[CH,Bool.and_eq_true,if_pos k10,Bool.and_eq_true] at h1
  have hb:=h1.2.2
  unfold BP at hb
  rw[Bool.and_eq_true] at hb
  have st:∀s∈n.bo,∀p∈ptM s,okP p:=fun s hs=>by
   obtain ⟨q1,q2⟩:=Ep hb.2 s hs
   have z1:=Nd.size_stmt hs
   have z2:=Sm.size_nd s
   have z3:=Sm.size_te s
   have o:=Cq (GM ho s hs)
   have hn:=okN s.nd q1 o.2
   rw[IF]
   by_cases c2:s.kd=2
   ·rw[if_pos c2]
    obtain ⟨names,hst⟩:=MZ hb.2 s hs
    rw[Gy,Bool.and_eq_true,if_neg (by omega),if_pos c2] at hst
    simp only[Bool.and_eq_true] at hst
    intro p hp
    simp only[List.mem_cons] at hp
    rcases hp with rfl | rfl | hp
    ·exact Ua hst.2.1.1.1.1
    ·exact Ex (by simp) (by decide) (by decide)
    ·exact hn p hp
   ·rw[if_neg c2]
    by_cases c3:s.kd=3
    ·rw[if_pos c3]
     have hv2:Bz s.te=true:=by
      rcases q2 with ⟨_,q,_⟩ | ⟨q,_⟩
      ·exact q
      ·exact (q c3).elim
     refine cat (okN s.te hv2 o.1) fun p hp=>?_
     rcases List.mem_cons.1 hp with rfl | hp
     ·exact Ex (by simp) (by decide) (by decide)
     ·exact hn p hp
    ·rw[if_neg c3];exact hn
  intro p hp
  rcases List.mem_cons.1 hp with rfl | hp
  ·trivial
  ·refine cat (okJ fun x hx=>?_) (fun p hp=>?_) p hp
   ·obtain ⟨s,hs,rfl⟩:=List.mem_map.1 hx
    exact st s hs
   ·rw[List.mem_singleton.1 hp];trivial
 ·rw[if_neg k10]
  intro p hp
  rw[List.mem_singleton.1 hp]
  rcases Ed hv k10 with hc | ⟨hc,_⟩
  ·exact Biz hc ho
  ·unfold CQ at hc
   simp[k3,k4,k5,k14,k15,k16] at hc
termination_by SizeOf.sizeOf n
decreasing_by
 ·exact Nd.size_kid hx
 ·omega
 ·omega
def lvP(l:Int):Pt->Int
 |.op=>l+1
 |.cl=>l-1
 |_=>l
def lvL(l:Int)(ps:List Pt):Int:=ps.foldl lvP l
theorem Bnn(a b:Int)(p:Pt):lvP (a+b) p=a+lvP b p:=by
 cases p<;>simp only[lvP]<;>omega
theorem UP(l:Int)(a b:List Pt):lvL l (a++b)=lvL (lvL l a) b:=by
 unfold lvL;rw[List.foldl_append]
theorem US:∀(ps:List Pt) (a b:Int),lvL (a+b) ps=a+lvL b ps
 | [],_,_=>rfl
 |p::ps,a,b=>by
  have:=US ps a (lvP b p)
  unfold lvL at this ⊢
  rw[List.foldl_cons,List.foldl_cons,Bnn,this]
def ID(ps:List Pt):Prop:=lvL 0 ps=0/\∀k,0<=lvL 0 (ps.take k)
theorem Bbd:ID []:=⟨rfl,fun k=>by simp[lvL]⟩
theorem E1{p:Pt}(h:lvP 0 p=0):ID [p]:=by
 refine⟨h,fun k=>?_⟩
 cases k with
 |zero=>simp[lvL]
 |succ k=>simp[lvL,h]
theorem Ck{a b:List Pt}(ha:ID a)(hb:ID b):ID (a++b):=by
 refine⟨by rw[UP,ha.1,hb.1],fun k=>?_⟩
 rw[List.take_append,UP]
 by_cases h:k<=a.length
 ·rw[show k-a.length=0 by omega,List.take_zero]
  exact ha.2 k
 ·rw[List.take_of_length_le (by omega),ha.1]
  exact hb.2 _
theorem Bl9{a:List Pt}(ha:ID a):ID (.op::(a++[.cl])):=by
 have e1:lvL 0 (.op::(a++[.cl]))=0:=by
  show lvL (lvP 0 .op) (a++[.cl])=0
  rw[UP]
  have:=US a 1 0
  rw[ha.1] at this
  have e:lvP 0 .op=1+0:=rfl
  rw[e,this]
  rfl
 refine⟨e1,fun k=>?_⟩
 cases k with
 |zero=>simp[lvL]
 |succ k =>
  show 0<=lvL (lvP 0 .op) ((a++[Pt.cl]).take k)
  have e:lvP 0 .op=1+0:=rfl
  rw[e,US,List.take_append,UP]
  by_cases h:k<=a.length
  ·rw[show k-a.length=0 by omega,List.take_zero]
   have:=ha.2 k
   have e2:lvL (lvL 0 (a.take k)) []=lvL 0 (a.take k):=rfl
   omega
  ·rw[List.take_of_length_le (by omega),ha.1]
   obtain ⟨j,hj⟩:∃j,k-a.length=j+1:=⟨k-a.length-1,by omega⟩
   rw[hj]
   simp[lvL,lvP]
theorem Tv{ks:List Int}{k:Int}{l:List Pt}(h:ID l):ID (ptW ks k l):=by
 unfold ptW
 split
 ·exact Ck (a:=[.tx [40]]) (E1 rfl) (Ck h (E1 rfl))
 ·exact h
theorem Mp{α:Type}{f:α->List Pt}:∀ {l:List α},(∀x∈l,ID (f x))->ID (l.flatMap f)
 | [],_=>Bbd
 |x::r,h=>by
  rw[List.flatMap_cons]
  exact Ck (h x (by simp)) (Mp fun y hy=>h y (by simp[hy]))
theorem Boo{l:List (List Pt)}(h:∀x∈l,ID x):ID (ptJ l):=by
 cases l with
 |nil=>exact Bbd
 |cons x r =>
  rw[ptJ]
  exact Ck (h x (by simp)) (Mp fun y hy=>Ck (a:=[.sp]) (E1 rfl) (h y (by simp[hy])))
theorem BnC{α:Type}{p:List α->Prop}(h0:p []){l:List (List α)}(h:∀x∈l,p x)(i:Nat):p (l.getD i []):=by
 rw[List.getD_eq_getElem?_getD]
 by_cases hi:i<l.length
 ·rw[List.getElem?_eq_getElem hi];exact h _ (List.getElem_mem hi)
 ·rw[List.getElem?_eq_none (by omega)];exact h0
theorem Wr(n:Nd):ID (ptN n):=by
 have kk:∀x∈n.ki,ID (ptN x):=fun x hx=>Wr x
 have kg:∀i,ID ((ptL n.ki).getD i []):=fun i=>BnC Bbd (fun x hx=>by
  rw[Ba2] at hx
  obtain ⟨y,hy,rfl⟩:=List.mem_map.1 hx
  exact kk y hy) i
 rw[Gd]
 split
 ·exact Mp fun x hx=>Tv (kk x hx)
 split
 ·exact Ck (Tv (kg 0)) (kg 1)
 split
 ·exact Ck (Tv (kg 1)) (Ck (Tv (kg 0)) (kg 2))
 split
 ·exact Mp fun x hx=>Tv (kk x hx)
 split
 ·exact Ck (Tv (kg 1)) (kg 0)
 split
 ·exact Ck (Tv (kg 1)) (Ck (kg 0) (Tv (kg 2)))
 split
 ·refine Bl9 (Boo fun x hx=>?_)
  obtain ⟨s,hs,rfl⟩:=List.mem_map.1 hx
  have z1:=Nd.size_stmt hs
  have z2:=Sm.size_nd s
  have z3:=Sm.size_te s
  have h1:=Wr s.nd
  have h2:=Wr s.te
  rw[IF]
  split
  ·exact Ck (a:=[.tx s.nm]) (E1 rfl) (Ck (a:=[.tx [60,45]]) (E1 rfl) h1)
  split
  ·exact Ck h2 (Ck (a:=[.tx [58]]) (E1 rfl) h1)
  ·exact h1
 ·exact E1 rfl
termination_by SizeOf.sizeOf n
decreasing_by
 ·exact Nd.size_kid hx
 ·omega
 ·omega
theorem balM(s:Sm):ID (ptM s):=by
 rw[IF]
 split
 ·exact Ck (a:=[.tx s.nm]) (E1 rfl) (Ck (a:=[.tx [60,45]]) (E1 rfl) (Wr s.nd))
 split
 ·exact Ck (Wr s.te) (Ck (a:=[.tx [58]]) (E1 rfl) (Wr s.nd))
 ·exact Wr s.nd
def Gk(l:Int):List UInt8:=10::List.replicate (2*l.toNat) 32
def rlT(l:Int):Pt->List UInt8
 |.sp=>Gk l
 |p=>prT p
def rlP(l:Int):List Pt->List (List UInt8)
 | []=>[]
 |p::r=>rlT l p::rlP (lvP l p) r
theorem EE:∀(ps:List Pt) (l:Int),(rlP l ps).length=ps.length
 | [],_=>rfl
 |p::r,l=>by rw[rlP,List.length_cons,List.length_cons,EE r]
theorem Bgt:∀(a b:List Pt) (l:Int),rlP l (a++b)=rlP l a++rlP (lvL l a) b
 | [],_,_=>rfl
 |p::a,b,l=>by
  rw[List.cons_append,rlP,rlP,Bgt a b,List.cons_append]
  rfl
theorem EG{a:List Pt}(ha:ID a)(b:List Pt)(l:Int):rlP l (a++b)=rlP l a++rlP l b:=by
 rw[Bgt]
 have:=US a l 0
 rw[ha.1] at this
 simp only[Int.add_zero] at this
 rw[this]
theorem Tg:∀(ps:List Pt) (l:Int) (i:Nat),i<ps.length->(rlP l ps).getD i []=rlT (lvL l (ps.take i)) (ps.getD i .sp)
 |p::r,l,0,_=>rfl
 |p::r,l,i+1,h=>by
  have:=Tg r (lvP l p) i (by simpa using h)
  simpa[rlP,lvL] using this
def Mf(c:UInt8):Bool:=(decide (97<=c.toNat)&&decide (c.toNat<=122))||(decide (65<=c.toNat)&&decide (c.toNat<=90))||(decide (48<=c.toNat)&&decide (c.toNat<=57))||c==95
def Eh(a b:List UInt8):Bool :=
 (Mf (a.getD (a.length-1) 0)&&Mf (b.getD 0 0))||(a.getD (a.length-1) 0==60&&(b.getD 0 0==61||b.getD 0 0==45))||(a.getD (a.length-1) 0==62&&b.getD 0 0==61)
def Bby:Pt->Bool
 |.sp=>true
 |_=>false
def blB(cmp:Bool)(a b:List UInt8):List UInt8:=bif !a.isEmpty&&(!cmp||Eh a b) then [32] else []
def wrS(cmp:Bool)(s:List UInt8×List UInt8×Int)(p:Pt):List UInt8×List UInt8×Int :=
 if Bby p then (s.1++(bif cmp then [59] else Gk s.2.2),[],s.2.2) else (s.1++blB cmp s.2.1 (prT p)++prT p,prT p,lvP s.2.2 p)
def wrF(cmp:Bool)(ps:List Pt):List UInt8×List UInt8×Int:=ps.foldl (wrS cmp) ([],[],0)
theorem IM(cmp:Bool){ps:List Pt}{i:Nat}(h:i<ps.length):wrF cmp (ps.take (i+1))=wrS cmp (wrF cmp (ps.take i)) (ps.getD i .sp):=by
 unfold wrF
 rw[List.take_add_one,List.getElem?_eq_getElem h,List.foldl_append,List.getD_eq_getElem?_getD,List.getElem?_eq_getElem h]
 rfl
theorem BiZ{ps:List Pt}{i:Nat}(h:i<ps.length):lvL 0 (ps.take (i+1))=lvP (lvL 0 (ps.take i)) (ps.getD i .sp):=by
 unfold lvL
 rw[List.take_add_one,List.getElem?_eq_getElem h,List.foldl_append,List.getD_eq_getElem?_getD,List.getElem?_eq_getElem h]
 rfl
theorem G4(cmp:Bool)(ps:List Pt):∀i,i<=ps.length->(wrF cmp (ps.take i)).2.2=lvL 0 (ps.take i)/\(wrF cmp (ps.take i)).2.1=if 0<i/\Bby (ps.getD (i-1) .sp)=false then prT (ps.getD (i-1) .sp) else []
 |0,_=>by simp[wrF,lvL]
 |i+1,h=>by
  have hi:i<ps.length:=by omega
  obtain ⟨h1,h2⟩:=G4 cmp ps i (by omega)
  rw[IM cmp hi,BiZ hi]
  simp only[Nat.add_sub_cancel]
  unfold wrS
  cases hp:ps.getD i .sp<;>simp[Bby,lvP,h1,prT]
def TC(x:List UInt8):Bool:=x.getD 0 0==10
theorem Blc{p:Pt}(hp:okP p)(l:Int):TC (rlT l p)=Bby p:=by
 cases p with
 |tx x =>
  have:=hp.2.1
  simp only[TC,rlT,prT,Bby]
  simpa using this
 |op=>rfl
 |cl=>rfl
 |sp=>rfl
theorem Bks{p:Pt}(hp:okP p):prT p≠[]:=by
 cases p with
 |tx x=>exact hp.1.1
 |op=>simp[prT]
 |cl=>simp[prT]
 |sp=>simp[prT]
theorem OS{ps:List Pt}(h:∀p∈ps,okP p)(i:Nat):okP (ps.getD i .sp):=by
 rw[List.getD_eq_getElem?_getD]
 by_cases hi:i<ps.length
 ·rw[List.getElem?_eq_getElem hi];exact h _ (List.getElem_mem hi)
 ·rw[List.getElem?_eq_none (by omega)];trivial
theorem BbN(cmp : Bool){ps : List Pt}(h : ∀ p ∈ ps, okP p){i : Nat}(hi : i < ps.length) :
    (wrF cmp (ps.take (i + 1))).1 = (wrF cmp (ps.take i)).1 ++
      (if TC ((rlP 0 ps).getD i []) = true then (bif cmp then [59] else (rlP 0 ps).getD i [])
       else (if 0 < i/\TC ((rlP 0 ps).getD (i - 1) []) = false/\(cmp = true->Eh ((rlP 0 ps).getD (i - 1) []) ((rlP 0 ps).getD i []) = true) then [32] else []) ++ (rlP 0 ps).getD i []) := by
  obtain ⟨h1,h2⟩ := G4 cmp ps i (by omega)
  have hp := OS h i
  rw [IM cmp hi,Tg ps 0 i hi,Blc hp]
  unfold wrS
  by_cases hs:Bby (ps.getD i .sp) = true
  · rw [if_pos hs,if_pos hs,h1]
    have e:rlT (lvL 0 (ps.take i)) (ps.getD i .sp) = Gk (lvL 0 (ps.take i)) := by
      cases hq:ps.getD i .sp <;> rw [hq] at hs <;> first | rfl | cases hs
    rw [e]
  · rw [if_neg hs,if_neg hs]
    have e:rlT (lvL 0 (ps.take i)) (ps.getD i .sp) = prT (ps.getD i .sp) := by
      cases hq:ps.getD i .sp <;> rw [hq] at hs <;> first | rfl | exact (hs rfl).elim
    rw [e,List.append_assoc]
    congr 2
    unfold blB
    rw [h2]
    by_cases h0:0 < i
    · have hp1 := OS h (i - 1)
      rw [Tg ps 0 (i - 1) (by omega),Blc hp1]
      by_cases hs1:Bby (ps.getD (i - 1) .sp) = false
      · have e1:rlT (lvL 0 (ps.take (i - 1))) (ps.getD (i - 1) .sp) = prT (ps.getD (i - 1) .sp) := by
          cases hq:ps.getD (i - 1) .sp <;> rw [hq] at hs1 <;> first | rfl | cases hs1
        rw [if_pos ⟨h0,hs1⟩,e1]
        have hne:(prT (ps.getD (i - 1) .sp)).isEmpty = false := by
          rw [List.isEmpty_eq_false_iff]; exact Bks hp1
        rw [hne,hs1]
        generalize Eh (prT (ps.getD (i - 1) .sp)) (prT (ps.getD i .sp)) = nb
        cases cmp <;> cases nb <;> simp [h0]
      · rw [if_neg (by rintro ⟨_,hh⟩; exact hs1 hh)]
        have hs1:Bby (ps.getD (i - 1) .sp) = true := by simpa using hs1
        rw [hs1]
        simp
    · rw [if_neg (by omega),if_neg (by omega)]
      rfl
end
end Go.Proofs.YtnlplccjbojloaaGreatDoor
