/- Functions of the given program and what each of them computes: lemmas towards the statement, their conditions stated with each of them. -/
import Derived.Test.YtnlplccjbojloaaGreatDoorS3
namespace Go.Proofs.YtnlplccjbojloaaGreatDoor
open Go Go.Ab
set_option maxRecDepth 100000
noncomputable section
def sAt(q:Arr->Prop):FnSpec where
 β:=Arr
 α:=Unit
 args:=fun a=>[.agg a.row2,.int .i64 0]
 st:=fun _=>⟨[],[]⟩
 pre:=q
 post:=fun _ _=>True
 res:=fun a _=>.ret (.agg (atA a 0).row1)
 out:=fun _ _=>⟨[],[]⟩
def BfP(a:Arr)(q:Arr->Prop):Con:=fun k ds S=>match k with
 |121=>some (sRc Arr.row1 q (fun b=>.str (Bx b)))
 |138=>some (sRc Arr.row2 (fun b=>b=a) (fun b=>.str (E9 b.k b.nu (b.it.map Bx))))
 |139=>some (sRc Arr.row2 (fun b=>b=a) (fun b=>.agg (Ep b.k).row1))
 |140=>some (sAt (fun b=>b=a/\a.nu.length+a.it.length=1))
 |141=>match ds with
  | [.sl 1 n f m]=>some (pC [.sl 1 n f m] (.str (CZ (Bj n f))) (IntsP n f/\n<=1099511627776/\∀z∈Bj n f,Br z))
  |_=>none
 |137=>match ds with
  | [.sl 1 n f m]=>some (pC [.sl 1 n f m] (.str (Lib.join (B5 n f) [32])) (Gx n f=true/\GJ (B5 n f) [32]))
  |_=>none
 |k=>O4 k ds S
theorem Bqy(x y:List UInt8):Lib.join [x,y] [32]=x++32::y:=by rw[B7];simp[jT]
theorem BqB(x y z:List UInt8):Lib.join [x,y,z] [32]=x++(32::(y++32::z)):=by rw[B7];simp[jT]
theorem Bp7(x y:List UInt8):B5 2 (fun i=>[D.str ([x,y].getD i [])])=[x,y]:=rfl
theorem BqC(x y z:List UInt8):B5 3 (fun i=>[D.str ([x,y,z].getD i [])])=[x,y,z]:=rfl
theorem BoC(x y:List UInt8):Gx 2 (fun i=>[D.str ([x,y].getD i [])])=true:=rfl
theorem Bpv(x y z:List UInt8):Gx 3 (fun i=>[D.str ([x,y,z].getD i [])])=true:=rfl
theorem BqE(z:Int):Bj 1 (fun i=>[[D.int .i64 z]].getD i [])=[z]:=rfl
theorem Boj(z:Int):IntsP 1 (fun i=>[[D.int .i64 z]].getD i []):=fun i hi=>by
 have:i=0:=by omega
 subst this;rfl
theorem Bcw{k:Int}(h:k=1\/k=2\/k=3):Bx (Ep k)=WF k:=by
 rcases h with rfl | rfl | rfl
 ·rfl
 ·rfl
 ·rfl
theorem Bad(k:Int)(n:List Int)(is:List Arr):Bx (.mk k [] n is)=CC k n (is.map Bx):=by
 rw[Bx,MM,Mu,if_pos List.length_nil]
theorem Bd0{a:Arr}(kd:a.k=1\/a.k=2\/a.k=3)(bx:a.k=3->a.nu=[])(h:a.nu.length+a.it.length=1):Bx (atA a 0)=CC a.k a.nu (a.it.map Bx):=by
 unfold atA
 by_cases h3:a.k=3
 ·rw[if_pos h3,Bad,h3]
  cases hi:a.it with
  |nil=>rw[bx h3,hi] at h;simp at h
  |cons x l=>rfl
 ·rw[if_neg h3,Bad,CC,CC]
  by_cases h1:a.k=1
  ·rw[if_pos h1,if_pos h1];rfl
  ·rw[if_neg h1,if_neg h1,if_pos (by omega),if_pos (by omega)];rfl
noncomputable def Elf(a:Arr)(q:Arr->Prop):Senv:=EC (BfP a q) 90 5 [12,27,43,55,71,74,79] (fun _=>([],[]))
def JI(a:Arr):Nat:=LN (Arr.sh a)
def ZY(a:Arr):Bool:=(NI (JI a))==Z0
def JS(a:Arr):Int:=Arr.k a
def Qi6(a:Arr):Bool:=bif ZY a then JS a==Z1 else false
def Qct(a:Arr):List Int:=Arr.nu a
def Vx(a:Arr):Nat:=LN (Qct a)
def Qi7(a:Arr):Int:=(NI (Vx a))
def Qi8(a:Arr):Int:=GI (Qct a) N0
def Vy(a:Arr):List UInt8:=Bx a
def Qcu(a:Arr):Bool:=JS a==2
def Qi9(a:Arr):Bool:=bif ZY a then Qcu a else false
def Qwh(a:Arr)(b:Nat):List D:=List.getD [[ZI (Qi8 a)]] b []
def Qwi(a:Arr):List Int:=Bj N1 fun i=>Qwh a i
def Qcv(a:Arr):List Arr:=Arr.it a
def Va(a:Arr):Nat:=LN (Qcv a)
def Yd:Arr:=DA
def Qcw(a:Arr):Arr:=List.getD (Qcv a) N0 Yd
def Qwj(a:Arr):List Int:=Arr.sh (Qcw a)
def Qwk(a:Arr):Nat:=LN (Qwj a)
def Xd(a:Arr)(b:Nat):List D:=[ZI (GI (Arr.sh a) b)]
def Qwl(a:Arr):List Int:=Arr.nu (Qcw a)
def Qwm(a:Arr):Nat:=LN (Qwl a)
def ZZ(a:Arr)(b:Nat):List D:=[ZI (GI (Qct a) b)]
def Qwn(a:Arr):List Arr:=Arr.it (Qcw a)
def Qwo(a:Arr):Nat:=LN (Qwn a)
def Z2(a:Arr)(b:Nat):Arr:=List.getD (Qcv a) b Yd
def Qja(a:Arr)(b:Nat):List D:=Arr.row (Z2 a b)
def Qwp(a:Arr)(b:Nat):List D:=[D.str (List.getD [[(98:UInt8),(111:UInt8),(120:UInt8)],Vy a] b [])]
def Qwq(a:Arr):List (List UInt8):=B5 N2 fun i=>Qwp a i
def Qwr(a:Arr):Bool:=(NI (JI a))==Z1
def Qjb(a:Arr):Int:=IntKind.wrap IntKind.i64 (Qi7 a+(NI (Va a)))
def Qws(a:Arr):Bool:=decide (Z1<Qjb a)
def Qcx(a:Arr):Bool:=bif Qwr a then bif Qcu a then true else Qws a else false
def QPM(a:Arr)(b:Nat):List Int:=Arr.sh (Z2 a b)
def QPN(a:Arr)(b:Nat):List Int:=Arr.nu (Z2 a b)
def Qwt(a:Arr)(b:Nat):List Arr:=Arr.it (Z2 a b)
def Qwu(a:Arr)(b:Nat):List D:=[ZI (Arr.k (Z2 a b)),SI (QPM a b),SI (QPN a b),D.sl N4 (LN (Qwt a b)) (fun i=>Arr.row (List.getD (Qwt a b) i Yd)) Mode.any]
def Qwv(a b:Arr):Prop:=JS a=JS b/\(JI a=JI b/\(∀(i:Nat),i<JI a->Xd a i=Xd b i)/\True)/\(Vx a=Vx b/\(∀(i:Nat),i<Vx a->ZZ a i=ZZ b i)/\True)/\(Va a=Va b/\(∀(i:Nat),i<Va a->Qwu a i=Qwu b i)/\True)/\True
def Qjc(a b:Arr):Prop:=Qwv a b/\True
def Qww(a:Arr):List UInt8:=E9 (JS a) (Qct a) (List.map Bx (Qcv a))
def Qcy(a:Arr):Arr:=Ep (JS a)
def Qwx(a:Arr):List Int:=Arr.sh (Qcy a)
def Qwy(a:Arr):Nat:=LN (Qwx a)
def Qwz(a:Arr):List Int:=Arr.nu (Qcy a)
def QwA(a:Arr):Nat:=LN (Qwz a)
def QwB(a:Arr):List Arr:=Arr.it (Qcy a)
def QwC(a:Arr):Nat:=LN (QwB a)
def QwD(a:Arr):List Int:=Bj (JI a) fun i=>Xd a i
def QwE(a:Arr):Prop:=(IntsP (JI a) fun i=>Xd a i)/\JI a<=1099511627776/\∀(z:Int),z∈QwD a->Br z
def QwF(a:Arr):List UInt8:=CZ (QwD a)
def QwG(a b:Arr)(c:Nat):List D:=[D.str (List.getD [QwF a,[(114:UInt8),(101:UInt8),(115:UInt8),(104:UInt8),(97:UInt8),(112:UInt8),(101:UInt8)],Vy b] c [])]
def QwH(a b:Arr):List (List UInt8):=B5 (3:Nat) fun i=>QwG a b i
def QwI(a:Arr->Prop)(b:Arr)(c:Nat)(d:Arr):Prop:=(True/\True)/\a b/\∀(_y:Unit),True->SM c/\QwE d/\∀(_y:Unit),True->((Gx (3:Nat) fun i=>QwG d b i)=true/\GJ (QwH d b) [(32:UInt8)])/\∀(_y:Unit),True->True/\∃(_y:Unit),True/\Lib.join (QwH d b) [(32:UInt8)]=Vy d/\True/\True
def Qcz(a:Arr):Arr:=atA a N0
def QwJ(a:Arr):List Int:=Arr.sh (Qcz a)
def QwK(a:Arr):Nat:=LN (QwJ a)
def QwL(a:Arr):List Int:=Arr.nu (Qcz a)
def QwM(a:Arr):Nat:=LN (QwL a)
def QwN(a:Arr):List Arr:=Arr.it (Qcz a)
def QwO(a:Arr):Nat:=LN (QwN a)
def QwP(a b:Arr)(c:Nat):List D:=[D.str (List.getD [QwF a,[(114:UInt8),(101:UInt8),(115:UInt8),(104:UInt8),(97:UInt8),(112:UInt8),(101:UInt8)],Qww b] c [])]
def QwQ(a b:Arr):List (List UInt8):=B5 (3:Nat) fun i=>QwP a b i
theorem U4(a : Arr)(q : Arr -> Prop)(ho : LOk a)(hi : ∀b∈a.it, q b)(h0 : a.sh.length≠0 -> a.nu.length+a.it.length=0 -> q (Ep a.k))(h1 : a.sh.length≠0 -> a.nu.length+a.it.length=1 -> q (atA a 0))(hc : ConOk Tryz.prog (BfP a q)) :
  ACalls Tryz.prog 121 ((sRc Arr.row2 (fun _=>True) (fun b=>.str (Bx b))).args a) ⟨[],[]⟩ (SpecR (sRc Arr.row2 (fun _=>True) (fun b=>.str (Bx b))) a):=by
 refine Bg (A:=sRc Arr.row2 (fun _=>True) (fun b=>.str (Bx b))) (x:=a) (E:=Elf a q) (eOk hc rfl) Tryz.func121 rfl (by kernel_rfl) rfl (by simp[sRc,Elf,EC,E0]) ?_
 refine Bi (T :=
  ∀(x:Nat),True->SM x/\SM x/\(SM x/\ifB (ZY a) (SM x/\(JS a==Z1)=Qi6 a/\True) (false=Qi6 a/\True))/\ifB (Qi6 a) (SM x/\Bc (Z0<=Z0/\Z0<Qi7 a) (Br (Qi8 a)/\∀(y:Unit),True->RT (BA (Qi8 a)=Vy a))) ((SM x/\ifB (ZY a) (SM x/\Qcu a=Qi9 a/\True) (false=Qi9 a/\True))/\ifB (Qi9 a) (SM x/\Bc (Z0<=Z0/\Z0<Qi7 a) ((N1<=1099511627776/\(IntsP N1 fun i=>Qwh a i)/\∀(c:Int),c∈Qwi a->Z0<=c/\c<=1114111)/\∀(y:Unit),True->RT (IF (39:Int) (Qwi a)=Vy a))) (SM x/\ifB (ZY a) (SM x/\Bc (Z0<=Z0/\Z0<(NI (Va a))) (∃(x:Arr),((Arr.k (Qcw a)=JS x/\(Qwk a=JI x/\(∀(i:Nat),i<Qwk a->[ZI (GI (Qwj a) i)]=Xd x i)/\True)/\(Qwm a=Vx x/\(∀(i:Nat),i<Qwm a->[ZI (GI (Qwl a) i)]=ZZ x i)/\True)/\(Qwo a=Va x/\(∀(i:Nat),i<Qwo a->Arr.row (List.getD (Qwn a) i Yd)=Qja x i)/\True)/\True)/\True)/\(True/\True)/\q x/\∀(y:Unit),True->((Gx N2 fun i=>Qwp x i)=true/\GJ (Qwq x) [(32:UInt8)])/\∀(y:Unit),True->RT (Lib.join (Qwq x) [(32:UInt8)]=Vy a))) ((SM x/\ifB (Qwr a) (SM x/\ifB (Qcu a) (true=Qcx a/\True) (Qws a=Qcx a/\True)) (false=Qcx a/\True))/\ifB (Qcx a) (SM x/\∃(x:Arr),Qjc a x/\(True/\True)/\x=a/\∀(y:Unit),True->RT (Qww x=Vy a)) (ifB (Qjb a==Z0) (SM x/\∃(x_1:Arr),Qjc a x_1/\(True/\True)/\x_1=a/\∀(y:Unit),True->∃(x_2:Arr),((Arr.k (Qcy x_1)=JS x_2/\(Qwy x_1=JI x_2/\(∀(i:Nat),i<Qwy x_1->[ZI (GI (Qwx x_1) i)]=Xd x_2 i)/\True)/\(QwA x_1=Vx x_2/\(∀(i:Nat),i<QwA x_1->[ZI (GI (Qwz x_1) i)]=ZZ x_2 i)/\True)/\(QwC x_1=Va x_2/\(∀(i:Nat),i<QwC x_1->Arr.row (List.getD (QwB x_1) i Yd)=Qja x_2 i)/\True)/\True)/\True)/\QwI q x_2 x a) (ifB (Qjb a==Z1) (SM x/\∃(x_1:Arr),(Qwv a x_1/\SM Z0/\True)/\(True/\True)/\(x_1=a/\Vx a+Va a=N1)/\∀(y:Unit),True->∃(x_2:Arr),((Arr.k (Qcz x_1)=JS x_2/\(QwK x_1=JI x_2/\(∀(i:Nat),i<QwK x_1->[ZI (GI (QwJ x_1) i)]=Xd x_2 i)/\True)/\(QwM x_1=Vx x_2/\(∀(i:Nat),i<QwM x_1->[ZI (GI (QwL x_1) i)]=ZZ x_2 i)/\True)/\(QwO x_1=Va x_2/\(∀(i:Nat),i<QwO x_1->Arr.row (List.getD (QwN x_1) i Yd)=Qja x_2 i)/\True)/\True)/\True)/\QwI q x_2 x a) (SM x/\∃(x_1:Arr),Qjc a x_1/\(True/\True)/\x_1=a/\∀(y:Unit),True->SM x/\QwE a/\∀(y:Unit),True->((Gx (3:Nat) fun i=>QwP a x_1 i)=true/\GJ (QwQ a x_1) [(32:UInt8)])/\∀(y:Unit),True->RT (Lib.join (QwQ a x_1) [(32:UInt8)]=Vy a)))))))) (by kernel_rfl) ?_
 delta DA GI LN N0 N1 N2 N4 NI SI SM Z0 Z1 ZI JI ZY Qi9 Qwh Qwi Qcv Va Yd Qcw Qwj Qwk Xd JS Qwl Qwm ZZ Qwn Qwo Z2 Qja Qwp Qwq Qwr Qi6 Qjb Qws Qcx QPM QPN Qwt Qwu Qwv Qjc Qww Qct Qcy Qwx Qwy Qwz QwA QwB QwC QwD QwE QwF Vx QwG QwH QwI Qcz QwJ QwK QwL QwM QwN QwO Qi7 QwP QwQ Qi8 Vy Qcu RT
 have da:(default:Arr)=Arr.mk 0 [] [] []:=rfl
 simp only[<- da,Bf,Bd,decide_eq_true_eq,decide_eq_false_iff_not,true_and,and_true,beq_iff_eq,Bool.cond_false_right,Bool.cond_true_left,Bool.and_eq_true,Bool.and_eq_false_iff,Bool.or_eq_true,Bool.or_eq_false_iff,beq_eq_false_iff_ne,ne_eq,exists_const,forall_const,B0]
 obtain ⟨kd,s8,n6,i6,si,ni,hsum,hchr,hno,hbx,hsc⟩:=ho
 have hw:IntKind.i64.wrap ((a.nu.length:Int)+(a.it.length:Int))=(a.nu.length:Int)+(a.it.length:Int):=Ba (by omega) (by omega)
 have tt:(∀i:Nat,i<a.sh.length->True)/\(∀i:Nat,i<a.nu.length->True)/\∀i:Nat,i<a.it.length->True:=⟨fun _ _=>trivial,fun _ _=>trivial,fun _ _=>trivial⟩
 simp only[hw,I2 a]
 simp only[Bp7,BqC,BoC,Bpv,BqE,GJ,Bqy,BqB,true_and]
 have hnu:a.sh.length=0->a.k≠3->a.nu.length=1:=fun h1 h2=>by
  have:=hsc h1
  rw[hno h2] at this
  simpa using this
 have hit:a.sh.length=0->a.k=3->a.it.length=1:=fun h1 h2=>by
  have:=hsc h1
  rw[hbx h2] at this
  simpa using this
 refine⟨⟨fun h=>by rw[h];rfl,fun h=>by rw[beq_eq_false_iff_ne.2 h];rfl⟩,fun ⟨hs,hk⟩=>?_,fun hn1=>⟨⟨fun h=>by rw[h];rfl,fun h=>by rw[beq_eq_false_iff_ne.2 h];rfl⟩,fun ⟨hs,hk⟩=>?_,fun hn2=>⟨fun hs=>?_,fun hs=>?_⟩⟩⟩
 ·have:=hnu (by omega) (by omega)
  exact⟨⟨by omega,by omega⟩,UX ni,by rw[Mu,if_pos (by omega),CC,if_pos hk]⟩
 ·have:=hnu (by omega) (by omega)
  refine⟨⟨by omega,by omega⟩,⟨by omega,Boj _,?_⟩,by rw[Mu,if_pos (by omega),CC,if_neg (by omega),if_pos hk]⟩
  intro c hc
  rw[List.mem_singleton] at hc
  subst hc
  exact hchr hk _ (BcM (by omega))
 ·have hk:a.k=3:=by omega
  have h1:=hit (by omega) hk
  have hm:=Cg (l:=a.it) (i:=0) (by omega)
  have hl:=M2 hm
  refine⟨⟨by omega,by omega⟩,a.it.getD 0 default,⟨rfl,⟨rfl,fun _ _=>rfl⟩,⟨rfl,fun _ _=>rfl⟩,rfl,fun _ _=>rfl⟩,hi _ hm,⟨by simp,?_⟩,?_⟩
  ·simp only[List.length_append,List.length_cons,List.length_nil];omega
  ·rw[Mu,if_pos (by omega),CC,if_neg (by omega),if_neg (by omega)]
   have:(a.it.map Bx).getD 0 []=Bx (a.it.getD 0 default):=by
    simp[List.getD_eq_getElem?_getD,List.getElem?_map,List.getElem?_eq_getElem (show 0<a.it.length by omega)]
   rw[this];rfl
 ·have hd:=G1 si
  have hfl:=Ug a.k
  have hsl:=TZ a.k ni (a.it.map Bx)
  have hvl:=MC a.k ni (a.it.map Bx)
  rw[List.length_map] at hvl
  have len:∀e:List UInt8,e.length<=200000000->[CZ a.sh,[114,101,115,104,97,112,101],e].length<=140737488355328/\(CZ a.sh++32::([114,101,115,104,97,112,101]++32::e)).length<=140737488355328:=fun e he=>by
   refine⟨by simp,?_⟩
   simp only[List.length_append,List.length_cons,List.length_nil];omega
  have eqn:∀e:List UInt8,CZ a.sh++32::([114,101,115,104,97,112,101]++32::e)=CZ a.sh++W8++e:=fun e=>by simp[W8]
  refine⟨⟨fun h=>⟨fun h2=>by rw[h,h2];rfl,fun h2=>by rw[h,beq_eq_false_iff_ne.2 h2];rfl⟩,fun h=>by rw[beq_eq_false_iff_ne.2 h];rfl⟩,fun ⟨h2,h3⟩=>⟨a,⟨rfl,⟨rfl,fun _ _=>rfl⟩,⟨rfl,fun _ _=>rfl⟩,rfl,fun _ _=>rfl⟩,rfl,?_⟩,fun hn=>?_⟩
  ·rw[Mu,if_neg (by omega),if_pos ⟨by omega,by rw[List.length_map];omega⟩]
  have hlk:Mu a.k a.sh a.nu (a.it.map Bx)=CZ a.sh++W8++(if a.nu.length+a.it.length=0 then WF a.k else if a.nu.length+a.it.length=1 then CC a.k a.nu (a.it.map Bx) else E9 a.k a.nu (a.it.map Bx)):=by
   rw[Mu,if_neg (by omega),if_neg (by rw[List.length_map];omega),List.length_map]
  rw[hlk]
  refine⟨fun hz=>⟨a,⟨rfl,⟨rfl,fun _ _=>rfl⟩,⟨rfl,fun _ _=>rfl⟩,rfl,fun _ _=>rfl⟩,rfl,Ep a.k,⟨rfl,⟨rfl,fun _ _=>rfl⟩,⟨rfl,fun _ _=>rfl⟩,rfl,fun _ _=>rfl⟩,h0 (by omega) (by omega),⟨BQ _,by omega,si⟩,?_,?_⟩,fun hz=>⟨fun h2=>⟨a,⟨rfl,⟨rfl,fun _ _=>rfl⟩,⟨rfl,fun _ _=>rfl⟩,rfl,fun _ _=>rfl⟩,⟨rfl,by omega⟩,atA a 0,⟨rfl,⟨rfl,fun _ _=>rfl⟩,⟨rfl,fun _ _=>rfl⟩,rfl,fun _ _=>rfl⟩,h1 (by omega) (by omega),⟨BQ _,by omega,si⟩,?_,?_⟩,fun h2=>⟨a,⟨rfl,⟨rfl,fun _ _=>rfl⟩,⟨rfl,fun _ _=>rfl⟩,rfl,fun _ _=>rfl⟩,rfl,⟨BQ _,by omega,si⟩,?_,?_⟩⟩⟩
  ·rw[Bcw kd];exact len _ (by omega)
  ·rw[Bcw kd,eqn,if_pos (by omega)]
  ·rw[Bd0 kd hbx (by omega)];exact len _ (by omega)
  ·rw[Bd0 kd hbx (by omega),eqn,if_neg (by omega),if_pos (by omega)]
  ·exact len _ (by omega)
  ·rw[eqn,if_neg (by omega),if_neg (by omega)]
def Lit(a:Arr):Prop:=ACalls Tryz.prog 121 ((sRc Arr.row2 (fun _=>True) (fun b=>.str (Bx b))).args a) ⟨[],[]⟩ (SpecR (sRc Arr.row2 (fun _=>True) (fun b=>.str (Bx b))) a)
theorem BgS(a:Arr):ACalls Tryz.prog 139 [.agg a.row2] ⟨[],[]⟩ (SpecR (sC [.agg a.row2] (.agg (Ep a.k).row1)) ()):=BfW (Bng a.k _ _ _ _ _ _) (Bgb a.k)
theorem WX{a:Arr}{q:Arr->Prop}(hq:∀b,q b->Lit b)(hv:∀b∈a.it,Lit b)(ho:LOk a)(hcl:a.nu.length+a.it.length=1->ConOk Tryz.prog (ME a.it)):ConOk Tryz.prog (BfP a q):=by
 intro k ds S A h
 unfold BfP at h
 split at h
 ·injection h with h;subst h
  exact ConOk.plain (fun b hb=>En (hq b hb)) rfl rfl
 ·injection h with h;subst h
  refine ConOk.plain (fun b hb=>?_) rfl rfl
  have hb:b=a:=hb
  rw[hb]
  exact (BiO a ho (BjJ hv)).mono fun _ _ ⟨y,q1,q2,q3⟩=>⟨y,q1,q2,q3⟩
 ·injection h with h;subst h
  refine ConOk.plain (fun b hb=>?_) rfl rfl
  have hb:b=a:=hb
  rw[hb]
  exact (BgS a).mono fun _ _ ⟨y,q1,q2,q3⟩=>⟨y,q1,q2,q3⟩
 ·injection h with h;subst h
  refine ConOk.plain (fun b hb=>?_) rfl rfl
  obtain ⟨hb,h1⟩:b=a/\a.nu.length+a.it.length=1:=hb
  rw[hb]
  have hsz:((0:Nat):Int)<BY a.k a.nu.length a.it.length:=by
   unfold BY
   by_cases h3:a.k=3
   ·rw[if_neg (by omega),if_pos h3]
    have:=ho.bx h3
    rw[this] at h1
    simp at h1
    omega
   ·rw[if_pos (by have:=ho.kd;omega)]
    have:=ho.no h3
    rw[this] at h1
    simp at h1
    omega
  exact (BfW (BmE a 0 ho.kd hsz (hcl h1)) (BnM a 0)).mono fun _ _ ⟨y,q1,q2,q3⟩=>⟨y,q1,q2,q3⟩
 ·split at h
  ·injection h with h;subst h
   exact BZ fun ⟨h1,h2,h3⟩=>⟨Bk _,Ca (CB h1) (BjF _ (by rw[BJ];exact h2) h3)⟩
  ·cases h
 ·split at h
  ·injection h with h;subst h
   exact BZ fun ⟨h1,h2⟩=>⟨Bk _,Ca (us:=[ssl (B5 _ _) .any]) ⟨WS h1,trivial⟩ (Bc0 _ h2)⟩
  ·cases h
 ·exact Ih _ _ _ _ h
theorem BlF{its:List Arr}(h:∀b∈its,(Bu b).1=0):ConOk Tryz.prog (ME its):=by
 intro k' ds S A hk
 unfold ME at hk
 split at hk
 ·injection hk with hk;subst hk
  exact ConOk.plain (fun (b:Arr) hb=>(BeM b (h b hb)).mono fun _ _ ⟨y,q1,q2,q3⟩=>⟨y,q1,q2,q3⟩) rfl rfl
 ·cases hk
theorem BbL{a:Arr}(ho:LOk a)(hs:a.sh.length=0)(ih:∀b∈a.it,Lit b)(hv:∀b∈a.it,(Bu b).1=0):Lit a :=
 U4 a (·∈a.it) ho (fun _ hb=>hb) (fun h=>absurd hs h) (fun h=>absurd hs h) (WX ih ih ho fun _=>BlF hv)
theorem Bac:LOk (.mk 1 [] [0] []):=⟨.inl rfl,by decide,by decide,by decide,by simp[Arr.sh],by simp[Arr.nu,Br],by simp[Arr.it,Cp],fun h=>absurd h (by decide),fun _=>rfl,fun h=>absurd h (by decide),fun _=>rfl⟩
theorem BaG:Lit (.mk 1 [] [0] []):=BbL Bac rfl (fun b hb=>by cases hb) (fun b hb=>by cases hb)
theorem BaB:LOk (.mk 2 [] [32] []):=⟨.inr (.inl rfl),by decide,by decide,by decide,by simp[Arr.sh],by simp[Arr.nu,Br],by simp[Arr.it,Cp],by simp[Arr.nu],fun _=>rfl,fun h=>absurd h (by decide),fun _=>rfl⟩
theorem BgX:Lit (.mk 2 [] [32] []):=BbL BaB rfl (fun b hb=>by cases hb) (fun b hb=>by cases hb)
theorem BfL:LOk (.mk 1 [0] [] []):=⟨.inl rfl,by decide,by decide,by decide,by simp[Arr.sh,Br],by simp[Arr.nu],by simp[Arr.it,Cp],fun h=>absurd h (by decide),fun _=>rfl,fun h=>absurd h (by decide),fun h=>absurd h (by decide)⟩
theorem Bqh:Lit (.mk 1 [0] [] []):=by
 refine U4 _ (·=.mk 1 [] [0] []) BfL (fun b hb=>by cases hb) (fun _ _=>rfl) (fun _ h=>by cases h) ?_
 refine WX (fun b hb=>?_) (fun b hb=>by cases hb) BfL (fun h=>by cases h)
 subst hb
 exact BaG
theorem Bqz:(Bu (.mk 1 [0] [] [])).1=0:=by decide
theorem BpV:(Bx (.mk 1 [0] [] [])).length<=600:=by
 have:=BcX 1 (s:=[0]) (n:=[]) (by decide) (by simp[Br]) (by simp) []
 rw[Bx]
 simp only[Od,Cp,List.length_nil] at this ⊢
 omega
theorem RN:LOk (.mk 3 [] [] [.mk 1 [0] [] []]):=⟨.inr (.inr rfl),by decide,by decide,by decide,by simp[Arr.sh],by simp[Arr.nu],by have:=BpV;simp only[Arr.it,Cp,List.map_cons,List.map_nil,List.length_cons,List.length_nil];omega,fun h=>absurd h (by decide),fun h=>absurd rfl h,fun _=>rfl,fun _=>rfl⟩
theorem Bh4:Lit (.mk 3 [] [] [.mk 1 [0] [] []]):=by
 refine BbL RN rfl (fun b hb=>?_) (fun b hb=>?_)
 ·have:b=.mk 1 [0] [] []:=List.mem_singleton.1 hb
  subst this;exact Bqh
 ·have:b=.mk 1 [0] [] []:=List.mem_singleton.1 hb
  subst this;exact Bqz
theorem Bl3{k:Int}(h:k=1\/k=2\/k=3):Lit (Ep k):=by
 rcases h with rfl | rfl | rfl
 ·exact BaG
 ·exact BgX
 ·exact Bh4
theorem Be4{k:Int}{s:List Int}{nn ni:Nat}(h:B8 k s nn ni=0):(k≠3->ni=0/\(nn:Int)=CK s)/\(k=3->nn=0/\(ni:Int)=CK s):=by
 have hk:=Bak h
 unfold B8 at h
 rw[if_pos hk] at h
 by_cases hd:Ec s≠0
 ·rw[if_pos hd] at h;exact (hd h).elim
 ·rw[if_neg hd] at h
  by_cases hc:((if k=3 then (ni:Int) else nn)≠CK s)\/((if k=3 then (nn:Int) else ni)≠0)
  ·rw[if_pos hc] at h;simp at h
  ·have h1:(if k=3 then (ni:Int) else nn)=CK s:=Decidable.not_not.1 fun h=>hc (.inl h)
   have h2:(if k=3 then (nn:Int) else ni)=0:=Decidable.not_not.1 fun h=>hc (.inr h)
   refine⟨fun h3=>?_,fun h3=>?_⟩
   ·rw[if_neg h3] at h1 h2
    exact⟨by omega,h1⟩
   ·rw[if_pos h3] at h1 h2
    exact⟨by omega,h1⟩
theorem Ben{a:Arr}(ho:a.ok)(h:(Bu a).1=0):LOk a:=by
 have hf:=BkN h
 obtain ⟨p1,p2⟩:=Be4 hf
 obtain ⟨l1,l2,l3,l4,l5⟩:=BlZ ho h
 refine⟨Bak hf,l1,l2,l3,l4,l5,BhC ho h,Bmd h,fun h3=>List.length_eq_zero_iff.1 (p1 h3).1,fun h3=>List.length_eq_zero_iff.1 (p2 h3).1,fun hs=>?_⟩
 have hs:a.sh=[]:=List.length_eq_zero_iff.1 hs
 have h1:CK a.sh=1:=by rw[hs];rfl
 by_cases h3:a.k=3
 ·have:=p2 h3;omega
 ·have:=p1 h3;omega
theorem Blp{a:Arr}(lo:LOk a)(h1:a.nu.length+a.it.length=1):LOk (atA a 0):=by
 unfold atA
 by_cases h3:a.k=3
 ·rw[if_pos h3]
  have h2:a.it.length=1:=by have:=lo.bx h3;rw[this] at h1;simpa using h1
  have hm:=Cg (l:=a.it) (i:=0) (by omega)
  have hl:=M2 hm
  have hs:=lo.sum
  exact⟨.inr (.inr rfl),by simp[Arr.sh],by simp[Arr.nu],by simp[Arr.it],by simp[Arr.sh],by simp[Arr.nu],by show 7*1+((Bx (a.it.getD 0 default)).length+0)<=_;omega,fun h=>absurd h (by show ¬(3:Int)=2;decide),fun h=>absurd rfl h,fun _=>rfl,fun _=>rfl⟩
 ·rw[if_neg h3]
  have h2:a.nu.length=1:=by have:=lo.no h3;rw[this] at h1;simpa using h1
  have hm:a.nu.getD 0 0∈a.nu:=BcM (by omega)
  refine⟨lo.kd,by simp[Arr.sh],by simp[Arr.nu],by simp[Arr.it],by simp[Arr.sh],?_,by simp[Arr.it,Cp],?_,fun _=>rfl,fun h=>absurd h h3,fun _=>rfl⟩
  ·intro z hz
   have:z=a.nu.getD 0 0:=List.mem_singleton.1 hz
   rw[this];exact lo.ni _ hm
  ·intro h z hz
   have:z=a.nu.getD 0 0:=List.mem_singleton.1 hz
   rw[this];exact lo.chr h _ hm
theorem Bgj:∀(a:Arr),a.ok->(Bu a).1=0->Lit a
 |.mk k s n is,ho,h=>by
  have lo:=Ben ho h
  have hv:=(EN h).2.2.2
  have hok:∀b∈is,b.ok:=by
   simp only[Arr.ok] at ho
   exact (E7 _).1 ho.2.2.2.2.2.2
  have ih:∀b∈is,Lit b:=fun b hb=>Bgj b (hok b hb) (hv b hb)
  refine U4 (.mk k s n is) (fun b=>b∈is\/b=Ep k\/(b=atA (.mk k s n is) 0/\n.length+is.length=1)) lo (fun b hb=>.inl hb) (fun _ _=>.inr (.inl rfl)) (fun _ h1=>.inr (.inr ⟨rfl,h1⟩)) (WX (fun b hb=>?_) ih lo fun _=>Bkr h)
  rcases hb with hb | hb | ⟨hb,h1⟩
  ·exact ih b hb
  ·rw[hb];exact Bl3 lo.kd
  ·rw[hb]
   have hsub:∀c∈(atA (.mk k s n is) 0).it,c∈is:=by
    intro c hc
    unfold atA at hc
    by_cases h3:(Arr.mk k s n is).k=3
    ·rw[if_pos h3] at hc
     have h2:is.length=1:=by
      have h4:n=[]:=lo.bx h3
      rw[h4] at h1;simpa using h1
     have:c=is.getD 0 default:=List.mem_singleton.1 hc
     rw[this];exact Cg (by omega)
    ·rw[if_neg h3] at hc;cases hc
   refine BbL (Blp lo h1) ?_ (fun c hc=>ih c (hsub c hc)) (fun c hc=>hv c (hsub c hc))
   unfold atA
   split<;>rfl
termination_by a=>SizeOf.sizeOf a
decreasing_by
 have:=List.sizeOf_lt_of_mem hb
 simp;omega
def GP(a:Arr):List UInt8:=if (Bu a).1=0 then Bx a else []
def Bj5(a:Arr):Con:=fun k _ _=>match k with
 |95=>some (sRc Arr.row1 (fun b=>b=a) (fun b=>.int .i64 (Bu b).1))
 |121=>some (sRc Arr.row1 (fun b=>b=a/\(Bu a).1=0) (fun b=>.str (Bx b)))
 |_=>none
theorem BkQ{a:Arr}(ho:a.ok):ConOk Tryz.prog (Bj5 a):=by
 intro k ds S A h
 unfold Bj5 at h
 split at h
 ·injection h with h;subst h
  refine ConOk.plain (fun b hb=>?_) rfl rfl
  have hb:b=a:=hb
  rw[hb]
  exact (Bk3 a ho).mono fun _ _ ⟨y,q1,q2,q3⟩=>⟨y,q1,q2,q3⟩
 ·injection h with h;subst h
  refine ConOk.plain (fun b hb=>?_) rfl rfl
  obtain ⟨hb,h1⟩:b=a/\(Bu a).1=0:=hb
  rw[hb]
  exact En (Bgj a ho h1)
 ·cases h
noncomputable def Elt(a:Arr):Senv:=EC (Bj5 a) 8 3 [5] (fun _=>([],[]))
def Qjd(a:Arr):Nat:=LN (Arr.sh a)
def QwR(a:Arr)(b:Nat):List D:=[ZI (GI (Arr.sh a) b)]
def Qje(a:Arr):Nat:=LN (Arr.nu a)
def QwS(a:Arr)(b:Nat):List D:=[ZI (GI (Arr.nu a) b)]
def Qjf(a:Arr):Nat:=LN (Arr.it a)
def QwT(a:Arr)(b:Nat):List D:=Arr.row (GA (Arr.it a) b)
def QwU(a b:Arr):Prop:=(Arr.k a=Arr.k b/\(Qjd a=Qjd b/\(∀(i:Nat),i<Qjd a->QwR a i=QwR b i)/\True)/\(Qje a=Qje b/\(∀(i:Nat),i<Qje a->QwS a i=QwS b i)/\True)/\(Qjf a=Qjf b/\(∀(i:Nat),i<Qjf a->QwT a i=QwT b i)/\True)/\True)/\True
theorem Bnb(a : Arr)(ho : a.ok) :
  ACalls Tryz.prog 99 ((sRc Arr.row1 (fun _=>True) (fun b=>.str (GP b))).args a) ⟨[],[]⟩ (SpecR (sRc Arr.row1 (fun _=>True) (fun b=>.str (GP b))) a):=by
 refine Bg (A:=sRc Arr.row1 (fun _=>True) (fun b=>.str (GP b))) (x:=a) (E:=Elt a) (eOk (BkQ ho) rfl) Tryz.func99 rfl (by kernel_rfl) rfl (by simp[sRc,Elt,EC,E0]) ?_
 refine Bi (T :=
  ∀(x:Nat),True->SM x/\∃(x_1:Arr),QwU a x_1/\(True/\True)/\x_1=a/\∀(y:Unit),True->ifB (Prod.fst (Bu x_1) != Z0) (RT (Cv (List UInt8) [] (GP a))) (SM x/\∃(x:Arr),QwU a x/\(True/\True)/\(x=a/\Prod.fst (Bu a)=Z0)/\∀(y:Unit),True->RT (Bx x=GP a))) (by kernel_rfl) ?_
 delta DA GA GI LN SM Z0 ZI Qjd QwR Qje QwS Qjf QwT QwU RT
 have da:(default:Arr)=Arr.mk 0 [] [] []:=rfl
 simp only[<- da,Bf,true_and,and_true,bne_iff_ne,ne_eq,exists_const,forall_const]
 refine⟨a,⟨rfl,⟨rfl,fun _ _=>rfl⟩,⟨rfl,fun _ _=>rfl⟩,rfl,fun _ _=>rfl⟩,rfl,fun h=>by rw[GP,if_neg h],fun h=>?_⟩
 have h:(Bu a).1=0:=by simpa using h
 exact⟨a,⟨rfl,⟨rfl,fun _ _=>rfl⟩,⟨rfl,fun _ _=>rfl⟩,rfl,fun _ _=>rfl⟩,⟨rfl,h⟩,by rw[GP,if_pos h]⟩
def Bfv(x:List UInt8):List UInt8:=[40,32]++x++[32,41]
def Eb(ks:List Int)(k:Int)(x:List UInt8):List UInt8:=if ks.contains k=true then Bfv x else x
def kAt(l:List Nd)(i:Nat):Int:=(l.getD i default).kd
def Bip(ks:List Int):List Nd->List (List UInt8)->List (List UInt8)
 |n::l,x::r=>Eb ks n.kd x::Bip ks l r
 |_,_=>[]
mutual
def Bt:Nd->List UInt8
 |.mk kd _ _ tx pr op va ki bo _ _ _ =>
  if kd=1 then GP va
  else if kd=2 then tx
  else if kd=6 then [88]
  else if kd=7 then [89]
  else if kd=8 then [97,114,103]
  else if kd=11 then [115,101,108,102]
  else if kd=12 then [70]
  else if kd=13 then [71]
  else if kd=9 then Cf pr
  else if kd=17 then opT op
  else if kd=3 then Lib.join (Bip [3,4,5] ki (BX ki)) [32]
  else if kd=4 then Eb [16] (kAt ki 0) ((BX ki).getD 0 [])++[32]++(BX ki).getD 1 []
  else if kd=5 then Eb [4,5] (kAt ki 1) ((BX ki).getD 1 [])++[32]++Eb [16] (kAt ki 0) ((BX ki).getD 0 [])++[32]++(BX ki).getD 2 []
  else if kd=16 then Lib.join (Bip [4,5,16] ki (BX ki)) [32]
  else if kd=14 then Eb [16] (kAt ki 1) ((BX ki).getD 1 [])++[32]++(BX ki).getD 0 []
  else if kd=15 then Eb [16] (kAt ki 1) ((BX ki).getD 1 [])++[32]++(BX ki).getD 0 []++[32]++Eb [3,4,5,16,14,15] (kAt ki 2) ((BX ki).getD 2 [])
  else [123,32]++Lib.join (BcL bo) [32,59,32]++[32,125]
def BX:List Nd->List (List UInt8)
 | []=>[]
 |x::r=>Bt x::BX r
def BcL:List Sm->List (List UInt8)
 | []=>[]
 |x::r=>B4 x::BcL r
def B4:Sm->List UInt8
 |.mk kd _ nm _ te nd=>if kd=2 then nm++[32,60,45,32]++Bt nd else if kd=3 then Bt te++[32,58,32]++Bt nd else Bt nd
end
theorem RW:∀l:List Nd,BX l=l.map Bt
 | []=>by simp only[BX,List.map_nil]
 |x::r=>by simp only[BX,List.map_cons,RW r]
theorem Bax:∀l:List Sm,BcL l=l.map B4
 | []=>by simp only[BcL,List.map_nil]
 |x::r=>by simp only[BcL,List.map_cons,Bax r]
def BB(ks:List Int)(n:Nd):List UInt8:=Eb ks n.kd (Bt n)
theorem BdH(ks:List Int):∀l:List Nd,Bip ks l (BX l)=l.map (BB ks)
 | []=>by simp only[Bip,List.map_nil]
 |x::r=>by simp only[BX,Bip,List.map_cons,BdH ks r];rfl
theorem I7{l:List Nd}{i:Nat}(h:i<l.length):(BX l).getD i []=Bt (l.getD i default):=by
 rw[RW]
 simp[List.getD_eq_getElem?_getD,h]
theorem O1(s:Sm):B4 s=if s.kd=2 then s.nm++[32,60,45,32]++Bt s.nd else if s.kd=3 then Bt s.te++[32,58,32]++Bt s.nd else Bt s.nd:=by
 cases s
 simp only[B4]
 rfl
def Eq(n:Nd):List UInt8:=if BU n=0 then Bt n else []
mutual
/-- A tree without what comparisons do not see. -/
def stN:Nd->Nd
 |.mk kd _ cl tx pr op va ki bo _ _ _=>.mk kd 0 cl tx pr op va (stL ki) (stB bo) 0 0 0
def stL:List Nd->List Nd
 | []=>[]
 |x::r=>stN x::stL r
def stB:List Sm->List Sm
 | []=>[]
 |x::r=>stM x::stB r
def stM:Sm->Sm
 |.mk kd _ nm _ te nd=>.mk kd 0 nm 0 (stN te) (stN nd)
end
theorem Bgv:∀l:List Nd,stL l=l.map stN
 | []=>by simp only[stL,List.map_nil]
 |x::r=>by simp only[stL,List.map_cons,Bgv r]
theorem BgE:∀l:List Sm,stB l=l.map stM
 | []=>by simp only[stB,List.map_nil]
 |x::r=>by simp only[stB,List.map_cons,BgE r]
theorem Bgk(a b:Nd):stN a=stN b↔a.kd=b.kd/\a.cl=b.cl/\a.tx=b.tx/\a.pr=b.pr/\a.op=b.op/\a.va=b.va/\a.ki.map stN=b.ki.map stN/\a.bo.map stM=b.bo.map stM:=by
 cases a;cases b
 simp only[stN,Bgv,BgE,Nd.mk.injEq,Nd.kd,Nd.cl,Nd.tx,Nd.pr,Nd.op,Nd.va,Nd.ki,Nd.bo,true_and,and_true]
theorem Bnr(a b:Sm):stM a=stM b↔a.kd=b.kd/\a.nm=b.nm/\stN a.te=stN b.te/\stN a.nd=stN b.nd:=by
 cases a;cases b
 simp only[stM,Sm.mk.injEq,Sm.kd,Sm.nm,Sm.te,Sm.nd,true_and]
theorem Blg{a b:Nd}:wkL [.agg a.row1,.agg b.row1] [.agg a.row2,.agg b.row2]:=by
 simp only[wkL,wkD]
 exact⟨Mt a,Mt b,trivial⟩
def okS(l:List Sm):Prop:=l.length<=BC/\(∀s∈l,s.ok)/\∀s∈l,s.sm
open Go Go.Ab Go.RowKit
theorem own:ownKnob Tryz.prog.godebug=none:=by kernel_rfl
theorem laid:laidOutB Tryz.prog=true:=by kernel_rfl
theorem gN0 : Tryz.prog.globalNamed "internal/strconv.uint64pow10" = some 1 := by kernel_rfl
theorem tN0:(Tryz.prog.globals[1]?).map (·.type)=some 168:=by kernel_rfl
theorem gN1 : Tryz.prog.globalNamed "math/bits.deBruijn64tab" = some 3 := by kernel_rfl
theorem tN1:(Tryz.prog.globals[3]?).map (·.type)=some 173:=by kernel_rfl
theorem gN2 : Tryz.prog.globalNamed "math/bits.deBruijn32tab" = some 2 := by kernel_rfl
theorem tN2:(Tryz.prog.globals[2]?).map (·.type)=some 172:=by kernel_rfl
def Bat : List (String × DataW Unit) := [("math/bits.deBruijn32tab", Rows.laid_math_bits_deBruijn32tab), ("math/bits.deBruijn64tab", Rows.laid_math_bits_deBruijn64tab), ("internal/strconv.uint64pow10", Rows.laid_internal_strconv_uint64pow10)]
theorem Bfx{W:World}(h:laidMetH Tryz.prog Bat W):G0 W:=by
 have h0:laidMet Tryz.prog Bat W:=h
 have h1:=h0.tail
 have h2:=h1.tail
 exact⟨Lib.tabIs_of_head (rest:=[]) gN0 tN0 Tryz.underlying168 Tryz.underlying97 (by kernel_rfl) (by kernel_rfl) h2,
  Lib.tabIs_of_head gN1 tN1 Tryz.underlying173 Tryz.underlying5 (by kernel_rfl) (by kernel_rfl) h1,
  Lib.tabIs_of_head gN2 tN2 Tryz.underlying172 Tryz.underlying5 (by kernel_rfl) (by kernel_rfl) h0⟩
noncomputable def Bpq(l:Array Value):Obj->Obj
 |.cells _ t frozen=>.cells l t frozen
 |o=>o
noncomputable def GS(os:Os):World :=
 { World.holding Tryz.prog os ⟨#[],#[],[]⟩ with heap:=(((World.holding Tryz.prog os ⟨#[],#[],[]⟩).heap.modify 1 (Bpq (Lib.pow10Tab.map fun z=>Value.int .u64 z).toArray)).modify 3 (Bpq (Lib.deBruijn64tab.map fun z=>Value.int .u8 (Int.ofNat z)).toArray)).modify 2 (Bpq (Lib.deBruijn32tab.map fun z=>Value.int .u8 (Int.ofNat z)).toArray) }
def TSl:List Nat:=List.range 186
theorem BnJ:∀t∈TSl,Wt Tryz.prog TSl t=true:=List.all_eq_true.1 (show TSl.all (Wt Tryz.prog TSl)=true by kernel_rfl)
theorem Bas{α:Type}{o:Option α}{p:α->Bool}(h:(match o with | some x=>p x | none=>false)=true):∃x,o=some x/\p x=true:=by
 cases o with
 |none=>cases h
 |some x=>exact⟨x,rfl,h⟩
def RPg:List D->Prop:=fun ds=>∃l:List Sm,okS l/\ds=[lsl 34 (C9 l)]
theorem BfI(W:World)(n:Nat):ReadAt Tryz.prog W n 24 RPg:=by
 cases n with
 |zero=>exact .zero _ _
 |succ m =>
  have hb:ReadAt Tryz.prog W m 22 (RSliceA 34 RSm):=by
   cases m with
   |zero=>exact .zero _ _
   |succ k=>exact GD (w:=34) Tryz.underlying22 (by kernel_rfl) (by decide) (by decide +kernel) (BfK W k fun j _=>Bmc W j)
  refine (Iy Tryz.underlying24 (by kernel_rfl) (Rs:=[RSliceA 34 RSm]) ⟨hb,trivial⟩).mono ?_
  rintro ds ⟨_,_,⟨l,h1,h2,rfl⟩,h3,rfl⟩
  obtain rfl:_=[]:=h3
  obtain ⟨bo,qb,rfl⟩:=C5 (g:=Sm.row) (Q:=fun a=>a.ok/\a.sm) (fun x hx=>hx) l h1
  refine⟨bo,⟨by simpa using h2,fun s hs=>(qb s hs).1,fun s hs=>(qb s hs).2⟩,?_⟩
  simp only[Ed,lsl,List.append_nil]
theorem Um{n:Nd}{l:List Int}(h:Bm n l=true):n.ki.length=l.length:=by
 unfold Bm at h
 rw[beq_iff_eq] at h
 have:=congrArg List.length h
 simpa using this
theorem Eg{n:Nd}(h:Bz n=true)(hk:n.kd≠10):C3 n=true\/(CR n=true/\∀x∈n.ki,Bz x=true):=by
 rw[CF,Bool.and_eq_true] at h
 have h:=h.2
 rw[if_neg hk,Bool.or_eq_true,Bool.and_eq_true] at h
 rcases h with h | h
 ·exact .inl h
 ·exact .inr ⟨h.1,fun x hx=>List.all_eq_true.1 h.2 x hx⟩
theorem MW{g:Bool}:∀ {l:List Sm} {names:List (List UInt8)},Cc g names l=true->∀s∈l,∃names',OR g names' s=true
 | [],_,_,s,hs=>by simp at hs
 |x::r,names,h,s,hs=>by
  simp only[Cc,Bool.and_eq_true] at h
  rcases List.mem_cons.1 hs with rfl | hs
  ·exact⟨names,h.1⟩
  ·exact MW h.2 s hs
theorem Bh2{g:Bool}{names:List (List UInt8)}{s:Sm}(h:OR g names s=true)(h2:s.kd=2):s.nm.length<=32:=by
 rw[GE] at h
 simp only[Bool.and_eq_true] at h
 have h:=h.2
 rw[if_neg (by omega),if_pos h2] at h
 simp only[Bool.and_eq_true] at h
 exact (BO h.1.1.1.1).2.1
theorem CU(ks:List Int)(k:Int)(x:List UInt8):(Eb ks k x).length<=x.length+4:=by
 unfold Eb Bfv
 split
 ·simp only[List.length_append,List.length_cons,List.length_nil];omega
 ·omega
theorem Ro(ks:List Int):∀l:List Nd,(∀b∈l,(Bt b).length+100<=200000000*szN b)->Cp (l.map (BB ks))+96*l.length<=200000000*szL l
 | [],_=>by simp[Cp,szL]
 |b::r,h=>by
  have h1:=h b (by simp)
  have h2:=Ro ks r fun x hx=>h x (by simp[hx])
  have h3:=CU ks b.kd (Bt b)
  simp only[List.map_cons,Cp,szL,List.length_cons,BB]
  omega
theorem R2:∀l:List Sm,(∀s∈l,(B4 s).length+60<=200000000*szM s)->Cp (l.map B4)+60*l.length<=200000000*szB l
 | [],_=>by simp[Cp,szB]
 |s::r,h=>by
  have h1:=h s (by simp)
  have h2:=R2 r fun x hx=>h x (by simp[hx])
  simp only[List.map_cons,Cp,szB,List.length_cons]
  omega
theorem BgT(p:Int):(Cf p).length<=100:=by
 have h:∀n,n<56->(primL.getD n []).length<=100:=by decide +kernel
 unfold Cf
 split
 ·simp
 ·exact h _ (by omega)
theorem Bnc(p:Int):(opT p).length<=100:=by
 have h:∀n,n<12->(opL.getD n []).length<=100:=by decide +kernel
 unfold opT
 split
 ·simp
 ·exact h _ (by omega)
theorem BkM{a:Arr}(ho:a.ok):(GP a).length<=157286700:=by
 unfold GP
 split
 ·rename_i h;exact Bpt ho h
 ·simp
theorem TV(s:Sm):szM s=if s.kd=3 then szN s.te+szN s.nd else szN s.nd:=by
 cases s
 simp only[szM]
 rfl
theorem BaW(n:Nd):szN n=1+szL n.ki+szB n.bo:=by
 cases n
 simp only[szN]
 rfl
theorem CT(n : Nd) : Bt n=if n.kd=1 then GP n.va else if n.kd=2 then n.tx else if n.kd=6 then [88] else if n.kd=7 then [89] else if n.kd=8 then [97, 114, 103] else if n.kd=11 then [115, 101, 108, 102]
  else if n.kd=12 then [70] else if n.kd=13 then [71] else if n.kd=9 then Cf n.pr else if n.kd=17 then opT n.op
  else if n.kd=3 then Lib.join (n.ki.map (BB [3,4,5])) [32]
  else if n.kd=4 then Eb [16] (kAt n.ki 0) ((BX n.ki).getD 0 [])++[32]++(BX n.ki).getD 1 []
  else if n.kd=5 then Eb [4,5] (kAt n.ki 1) ((BX n.ki).getD 1 [])++[32]++Eb [16] (kAt n.ki 0) ((BX n.ki).getD 0 [])++[32]++(BX n.ki).getD 2 []
  else if n.kd=16 then Lib.join (n.ki.map (BB [4,5,16])) [32]
  else if n.kd=14 then Eb [16] (kAt n.ki 1) ((BX n.ki).getD 1 [])++[32]++(BX n.ki).getD 0 []
  else if n.kd=15 then Eb [16] (kAt n.ki 1) ((BX n.ki).getD 1 [])++[32]++(BX n.ki).getD 0 []++[32]++Eb [3,4,5,16,14,15] (kAt n.ki 2) ((BX n.ki).getD 2 [])
  else [123,32]++Lib.join (n.bo.map B4) [32,59,32]++[32,125]:=by
 cases n
 simp only[Bt,BdH,Bax]
 rfl
theorem IM{n:Nd}(h:Bz n=true):((n.kd=4\/n.kd=14)->n.ki.length=2)/\((n.kd=5\/n.kd=15)->n.ki.length=3)/\(n.kd=2->n.tx.length<=32):=by
 refine⟨fun hk=>?_,fun hk=>?_,fun hk=>?_⟩
 ·rcases Eg h (by omega) with hc | ⟨hc,_⟩
  ·unfold C3 at hc
   rcases hk with hk | hk<;>simp[hk] at hc
  ·unfold CR at hc
   rcases hk with hk | hk<;>simp[hk] at hc<;>exact Um hc.2
 ·rcases Eg h (by omega) with hc | ⟨hc,_⟩
  ·unfold C3 at hc
   rcases hk with hk | hk<;>simp[hk] at hc
  ·unfold CR at hc
   rcases hk with hk | hk<;>simp[hk] at hc<;>exact Um hc.2
 ·rcases Eg h (by omega) with hc | ⟨hc,_⟩
  ·unfold C3 at hc
   simp[hk] at hc
   exact (BO hc.2.2).2.1
  ·unfold CR at hc
   simp[hk] at hc
theorem U5(l:List Nd)(i:Nat)(h:∀b∈l,(Bt b).length+100<=200000000*szN b)(hi:i<l.length):((BX l).getD i []).length+100<=200000000*szN (l.getD i default):=by
 rw[I7 hi]
 exact h _ (BW hi)
theorem Bfr{l:List Nd}(h:l.length=2):szL l=szN (l.getD 0 default)+szN (l.getD 1 default):=by
 match l,h with
 | [a,b],_=>simp[szL]
theorem Bah{l:List Nd}(h:l.length=3):szL l=szN (l.getD 0 default)+szN (l.getD 1 default)+szN (l.getD 2 default):=by
 match l,h with
 | [a,b,c],_=>simp[szL];omega
theorem Ev(n:Nd)(h:Bz n=true)(ho:n.ok):(Bt n).length+100<=200000000*szN n:=by
 have ih:∀b∈n.ki,(Bt b).length+100<=200000000*szN b:=fun b hb=>Ev b ((EG h).1 b hb) (Oc ho b hb)
 have ihs:n.kd=10->∀s∈n.bo,(B4 s).length+60<=200000000*szM s:=fun hk s hs=>by
  have h1:=h
  rw[CF,Bool.and_eq_true,if_pos hk,Bool.and_eq_true] at h1
  have hb:=h1.2.2
  unfold BP at hb
  rw[Bool.and_eq_true] at hb
  obtain ⟨q1,q2⟩:=Em hb.2 s hs
  obtain ⟨nm,q3⟩:=MW hb.2 s hs
  have o:=Cq (GG ho s hs)
  have r1:=Ev s.nd q1 o.2
  rw[O1,TV]
  by_cases k2:s.kd=2
  ·have:=Bh2 q3 k2
   rw[if_pos k2,if_neg (by omega)]
   simp only[List.length_append,List.length_cons,List.length_nil]
   omega
  ·rw[if_neg k2]
   by_cases k3:s.kd=3
   ·rw[if_pos k3,if_pos k3]
    have hv:Bz s.te=true:=by
     rcases q2 with ⟨_,q,_⟩ | ⟨q,_⟩
     ·exact q
     ·exact (q k3).elim
    have r2:=Ev s.te hv o.1
    simp only[List.length_append,List.length_cons,List.length_nil]
    omega
   ·rw[if_neg k3,if_neg k3]
    omega
 obtain ⟨h2,h3,htx⟩:=IM h
 rw[CT,BaW]
 have g0:=fun hi=>U5 n.ki 0 ih hi
 have g1:=fun hi=>U5 n.ki 1 ih hi
 have g2:=fun hi=>U5 n.ki 2 ih hi
 by_cases e1:n.kd=1
 ·rw[if_pos e1];have:=BkM (OX ho);omega
 rw[if_neg e1]
 by_cases e2:n.kd=2
 ·rw[if_pos e2];have:=htx e2;omega
 rw[if_neg e2]
 by_cases e6:n.kd=6
 ·rw[if_pos e6];simp only[List.length_cons,List.length_nil];omega
 rw[if_neg e6]
 by_cases e7:n.kd=7
 ·rw[if_pos e7];simp only[List.length_cons,List.length_nil];omega
 rw[if_neg e7]
 by_cases e8:n.kd=8
 ·rw[if_pos e8];simp only[List.length_cons,List.length_nil];omega
 rw[if_neg e8]
 by_cases e11:n.kd=11
 ·rw[if_pos e11];simp only[List.length_cons,List.length_nil];omega
 rw[if_neg e11]
 by_cases e12:n.kd=12
 ·rw[if_pos e12];simp only[List.length_cons,List.length_nil];omega
 rw[if_neg e12]
 by_cases e13:n.kd=13
 ·rw[if_pos e13];simp only[List.length_cons,List.length_nil];omega
 rw[if_neg e13]
 by_cases e9:n.kd=9
 ·rw[if_pos e9];have:=BgT n.pr;omega
 rw[if_neg e9]
 by_cases e17:n.kd=17
 ·rw[if_pos e17];have:=Bnc n.op;omega
 rw[if_neg e17]
 by_cases e3:n.kd=3
 ·rw[if_pos e3]
  have q1:=Tk [32] (n.ki.map (BB [3,4,5]))
  have q2:=Ro [3,4,5] n.ki ih
  simp only[List.length_map,List.length_cons,List.length_nil] at q1
  omega
 rw[if_neg e3]
 by_cases e4:n.kd=4
 ·rw[if_pos e4]
  have hl:=h2 (.inl e4)
  have:=Bfr hl
  have:=g0 (by omega)
  have:=g1 (by omega)
  have:=CU [16] (kAt n.ki 0) ((BX n.ki).getD 0 [])
  simp only[List.length_append,List.length_cons,List.length_nil]
  omega
 rw[if_neg e4]
 by_cases e5:n.kd=5
 ·rw[if_pos e5]
  have hl:=h3 (.inl e5)
  have:=Bah hl
  have:=g0 (by omega)
  have:=g1 (by omega)
  have:=g2 (by omega)
  have:=CU [16] (kAt n.ki 0) ((BX n.ki).getD 0 [])
  have:=CU [4,5] (kAt n.ki 1) ((BX n.ki).getD 1 [])
  simp only[List.length_append,List.length_cons,List.length_nil]
  omega
 rw[if_neg e5]
 by_cases e16:n.kd=16
 ·rw[if_pos e16]
  have q1:=Tk [32] (n.ki.map (BB [4,5,16]))
  have q2:=Ro [4,5,16] n.ki ih
  simp only[List.length_map,List.length_cons,List.length_nil] at q1
  omega
 rw[if_neg e16]
 by_cases e14:n.kd=14
 ·rw[if_pos e14]
  have hl:=h2 (.inr e14)
  have:=Bfr hl
  have:=g0 (by omega)
  have:=g1 (by omega)
  have:=CU [16] (kAt n.ki 1) ((BX n.ki).getD 1 [])
  simp only[List.length_append,List.length_cons,List.length_nil]
  omega
 rw[if_neg e14]
 by_cases e15:n.kd=15
 ·rw[if_pos e15]
  have hl:=h3 (.inr e15)
  have:=Bah hl
  have:=g0 (by omega)
  have:=g1 (by omega)
  have:=g2 (by omega)
  have:=CU [16] (kAt n.ki 1) ((BX n.ki).getD 1 [])
  have:=CU [3,4,5,16,14,15] (kAt n.ki 2) ((BX n.ki).getD 2 [])
  simp only[List.length_append,List.length_cons,List.length_nil]
  omega
 rw[if_neg e15]
 have hk:n.kd=10:=by
  have h:=h
  rw[CF,Bool.and_eq_true] at h
  by_cases hk:n.kd=10
  ·exact hk
  ·rcases Eg (n:=n) (by rw[CF,Bool.and_eq_true];exact h) hk with hc | ⟨hc,_⟩
   ·unfold C3 at hc
    simp[e1,e2,e6,e7,e8,e9,e11,e12,e13,e17] at hc
   ·unfold CR at hc
    simp[e3,e4,e5,e14,e15,e16] at hc
 have q1:=Tk [32,59,32] (n.bo.map B4)
 have q2:=R2 n.bo (ihs hk)
 simp only[List.length_map,List.length_cons,List.length_nil] at q1
 simp only[List.length_append,List.length_cons,List.length_nil]
 omega
termination_by SizeOf.sizeOf n
decreasing_by
 ·exact Nd.size_kid hb
 ·have:=Nd.size_stmt hs
  have:=Sm.size_nd s
  omega
 ·have:=Nd.size_stmt hs
  have:=Sm.size_te s
  omega
def RQ(q:Arr->Prop):Con:=fun k ds S=>match k with
 |159=>some (sRc Arr.row1 q (fun b=>.str (Bx b)))
 |166=>match ds with
  | [.sl 1 n f m]=>some (pC [.sl 1 n f m] (.str (CZ (Bj n f))) (IntsP n f/\n<=1099511627776/\∀z∈Bj n f,Br z))
  |_=>none
 |k=>O4 k ds S
def RLit(a:Arr):Prop:=ACalls Tryz.prog 159 ((sRc Arr.row2 (fun _=>True) (fun b=>.str (Bx b))).args a) ⟨[],[]⟩ (SpecR (sRc Arr.row2 (fun _=>True) (fun b=>.str (Bx b))) a)
theorem Bdj{q:Arr->Prop}(hq:∀b,q b->RLit b):ConOk Tryz.prog (RQ q):=by
 intro k ds S A h
 unfold RQ at h
 split at h
 ·injection h with h;subst h
  exact ConOk.plain (fun b hb=>En (hq b hb)) rfl rfl
 ·split at h
  ·injection h with h;subst h
   exact BZ fun ⟨h1,h2,h3⟩=>⟨Bk _,Ca (CB h1) (Bc3 _ (by rw[BJ];exact h2) h3)⟩
  ·cases h
 ·exact Ih _ _ _ _ h
noncomputable def Ersc(q:Arr->Prop):Senv:=EC (RQ q) 27 3 [4,11,18] (fun _=>([],[]))
def QcA(a:Arr):Int:=Arr.k a
def Ye(a:Arr):List Int:=Arr.nu a
def Z3(a:Arr):Int:=GI (Ye a) N0
def Z4(a:Arr):List Arr:=Arr.it a
def Qjg(a:Arr):List UInt8:=CC (QcA a) (Ye a) (List.map Bx (Z4 a))
def QwV(a:Arr):List UInt8:=Gh (Z3 a) (39:Int)
def QwW(a:Arr):List UInt8:=List.append [] (QwV a)
def Qjh:Arr:=DA
def QcB(a:Arr):Arr:=List.getD (Z4 a) N0 Qjh
def QwX(a:Arr):List Int:=Arr.sh (QcB a)
def QwY(a:Arr):Nat:=LN (QwX a)
def QwZ(a:Arr):List Int:=Arr.nu (QcB a)
def Qw0(a:Arr):Nat:=LN (QwZ a)
def Qw1(a:Arr):List Arr:=Arr.it (QcB a)
def Qw2(a:Arr):Nat:=LN (Qw1 a)
theorem BjG(a : Arr)(q : Arr -> Prop)(lo : LOk a)(h1 : a.k≠3 -> 0<a.nu.length)(h3 : a.k=3 -> 0<a.it.length)(hi : ∀b∈a.it, q b)(hc : ConOk Tryz.prog (RQ q)) :
  ACalls Tryz.prog 163 ((sRc Arr.row2 (fun _=>True) (fun a=>.str (CC a.k a.nu (a.it.map Bx)))).args a) ⟨[],[]⟩ (SpecR (sRc Arr.row2 (fun _=>True) (fun a=>.str (CC a.k a.nu (a.it.map Bx)))) a):=by
 refine Bg (A:=sRc Arr.row2 (fun _=>True) (fun a=>.str (CC a.k a.nu (a.it.map Bx)))) (x:=a) (E:=Ersc q) (eOk hc rfl) Tryz.func163 rfl (by kernel_rfl) rfl (by simp[sRc,Ersc,EC,E0]) ?_
 refine Bi (T :=
  ∀(x:Nat),True->SM x/\ifB (QcA a==Z1) (SM x/\Bc (Z0<=Z0/\Z0<(LI (Ye a))) (Br (Z3 a)/\∀(y:Unit),True->RT (BA (Z3 a)=Qjg a))) (ifB (QcA a==2) (SM x/\Bc (Z0<=Z0/\Z0<(LI (Ye a))) ((Z0<=Z3 a/\Z3 a<=1114111)/\∀(y:Unit),True->Bc (N1+LN (QwV a)<=9223372036854775807) (Bc (LN ((39:UInt8)::QwW a)+N1<=9223372036854775807) (RT ((39:UInt8)::List.append (QwW a) [(39:UInt8)]=Qjg a))))) (SM x/\Bc (Z0<=Z0/\Z0<(LI (Z4 a))) (∃(x:Arr),((Arr.k (QcB a)=QcA x/\(QwY a=LN (Arr.sh x)/\(∀(i:Nat),i<QwY a->[ZI (GI (QwX a) i)]=[ZI (GI (Arr.sh x) i)])/\True)/\(Qw0 a=LN (Ye x)/\(∀(i:Nat),i<Qw0 a->[ZI (GI (QwZ a) i)]=[ZI (GI (Ye x) i)])/\True)/\(Qw2 a=LN (Z4 x)/\(∀(i:Nat),i<Qw2 a->Arr.row (List.getD (Qw1 a) i Qjh)=Arr.row (List.getD (Z4 x) i Qjh))/\True)/\True)/\True)/\(True/\True)/\q x/\∀(y:Unit),True->Bc (N4+LN (Bx x)<=9223372036854775807) (RT ((98:UInt8)::(111:UInt8)::(120:UInt8)::(32:UInt8)::List.append [] (Bx x)=Qjg a)))))) (by kernel_rfl) ?_
 delta DA GI LI LN N0 N1 N4 SM Z0 Z1 ZI QcA Ye QwY QwZ Qw0 Qw1 Qw2 Z3 Z4 Qjg QwV QwW Qjh QcB QwX RT
 have da:(default:Arr)=Arr.mk 0 [] [] []:=rfl
 simp only[<- da,Bf,Bd,true_and,and_true,beq_iff_eq,beq_eq_false_iff_ne,ne_eq,exists_const,forall_const]
 have kd:=lo.kd
 have hsum:=lo.sum
 refine⟨fun hk=>?_,fun hk1=>⟨fun hk=>?_,fun hk2=>?_⟩⟩
 ·have:=h1 (by omega)
  exact⟨⟨by omega,by omega⟩,UX lo.ni,by rw[CC,if_pos hk]⟩
 ·have:=h1 (by omega)
  have he:=To (a.nu.getD 0 0) 39
  refine⟨⟨by omega,by omega⟩,lo.chr hk _ (BcM (by omega)),by omega,by simp only[List.length_cons,OY];omega,?_⟩
  rw[CC,if_neg hk1,if_pos hk]
  simp[IF,M9]
  rfl
 ·have:=h3 (by omega)
  have hm:=Cg (l:=a.it) (i:=0) (by omega)
  have hl:=M2 hm
  refine⟨⟨by omega,by omega⟩,a.it.getD 0 default,⟨rfl,⟨rfl,fun _ _=>rfl⟩,⟨rfl,fun _ _=>rfl⟩,rfl,fun _ _=>rfl⟩,hi _ hm,by omega,?_⟩
  rw[CC,if_neg hk1,if_neg hk2]
  have:(a.it.map Bx).getD 0 []=Bx (a.it.getD 0 default):=by
   simp[List.getD_eq_getElem?_getD,List.getElem?_map,List.getElem?_eq_getElem (show 0<a.it.length by omega)]
  rw[this];rfl
noncomputable def Erel(a:Arr)(q:Arr->Prop):Senv:={ EC (RQ q) 36 5 [7,16,20] (fun _=>([],[])) with
 gh:=fun b=>match b with
  |0=>[.slot 3]
  |_=>[]
 ann:=fun b _ S=>match b with
  |0=>some { slots:=[4,3],keep:=[0,1],α:=Nat×Nat×List UInt8,st:=fun y=>([.int .i64 y.1,bsl y.2.2 (.tok 0 y.2.1)],⟨S.objs,[(0,y.2.1)]⟩),inv:=fun y=>JHd [32] (a.it.map fun b=>Gb (Bx b)) y.1 y.2.2,mu:=fun y=>a.it.length-y.1 }
  |_=>none }
def Z5(a:Arr):Int:=Arr.k a
def Qji(a:Arr):List Int:=Arr.nu a
def Xe(a:Arr):Nat:=LN (Qji a)
def Z6(a:Arr)(b:Nat):List D:=[ZI (GI (Qji a) b)]
def Qw3(a:Arr):List Int:=Bj (Xe a) fun i=>Z6 a i
def Z7(a:Arr):List Arr:=Arr.it a
def Qw4(a:Arr):List UInt8:=E9 (Z5 a) (Qji a) (List.map Bx (Z7 a))
def Z8(a:Arr):List UInt8:=Bx a
def QcC(a:Arr)(c:Nat)(d:List UInt8):Prop:=JHd [(32:UInt8)] (List.map (fun (b:Arr)=>Gb (Z8 b)) (Z7 a)) c d
def Xf(a:List UInt8)(b:Nat):List D:=[ZB (BI a b)]
def QcD(a:Arr):Nat:=LN (Arr.sh a)
def Qjj(a:Arr)(b:Nat):List D:=[ZI (GI (Arr.sh a) b)]
def Xg(a:Arr):Nat:=LN (Z7 a)
def QcE:Arr:=DA
def Z9(a:Arr)(b:Nat):Arr:=List.getD (Z7 a) b QcE
def QPO(a:Arr)(b:Nat):List Int:=Arr.sh (Z9 a b)
def QPP(a:Arr)(b:Nat):List Int:=Arr.nu (Z9 a b)
def Qw5(a:Arr)(b:Nat):List Arr:=Arr.it (Z9 a b)
def Qw6(a:Arr)(b:Nat):List D:=[ZI (Arr.k (Z9 a b)),SI (QPO a b),SI (QPP a b),D.sl N4 (LN (Qw5 a b)) (fun i=>Arr.row (List.getD (Qw5 a b) i QcE)) Mode.any]
def Qjk(a:Nat)(b:Arr)(c d:Nat):Prop:=(SM a/\(SM (Z5 b)/\(SM (QcD b)/\(∀(i:Nat),i<QcD b->SM (Qjj b i))/\True)/\(SM (Xe b)/\(∀(i:Nat),i<Xe b->SM (Z6 b i))/\True)/\(SM (Xg b)/\(∀(i:Nat),i<Xg b->SM (Qw6 b i))/\True)/\True)/\True)/\c=d/\True
def Qjl(a:Arr):Int:=(NI (Xg a))
def QcF(a:Arr)(b:Nat):Arr:=List.getD (Z7 a) (Int.toNat (↑b:Int)) QcE
def Qw7(a:Arr)(b:Nat):List Int:=Arr.sh (QcF a b)
def Qw8(a:Arr)(b:Nat):Nat:=LN (Qw7 a b)
def Qw9(a:Arr)(b:Nat):List Int:=Arr.nu (QcF a b)
def Qxa(a:Arr)(b:Nat):Nat:=LN (Qw9 a b)
def Qxb(a:Arr)(b:Nat):List Arr:=Arr.it (QcF a b)
def Qxc(a:Arr)(b:Nat):Nat:=LN (Qxb a b)
def Qxd(a:Arr)(b:Nat)(c:Arr):Prop:=(Arr.k (QcF a b)=Z5 c/\(Qw8 a b=QcD c/\(∀(i:Nat),i<Qw8 a b->[ZI (GI (Qw7 a b) i)]=Qjj c i)/\True)/\(Qxa a b=Xe c/\(∀(i:Nat),i<Qxa a b->[ZI (GI (Qw9 a b) i)]=Z6 c i)/\True)/\(Qxc a b=Xg c/\(∀(i:Nat),i<Qxc a b->Arr.row (List.getD (Qxb a b) i QcE)=Arr.row (Z9 c i))/\True)/\True)/\True
def Qxe(a:Arr):Nat:=LN ((40:UInt8)::(98:UInt8)::(111:UInt8)::(120:UInt8)::(32:UInt8)::List.append [] (Z8 a))+N1
def Qxf(a:Arr):List UInt8:=(40:UInt8)::(98:UInt8)::(111:UInt8)::(120:UInt8)::(32:UInt8)::List.append (List.append [] (Z8 a)) [(41:UInt8)]
def Qxg(a:Arr):Nat:=LN (Qxf a)
def QcG(a:List UInt8)(b:Arr):Nat:=LN a+N1+Qxg b
def QPQ(a:Arr):D:=D.agg [ZI (Z5 a),D.sl N1 (QcD a) (fun i=>Qjj a i) Mode.any,D.sl N1 (Xe a) (fun i=>Z6 a i) Mode.any,D.sl N4 (Xg a) (fun i=>Qw6 a i) Mode.any]
def Qxh(a:Arr)(b:Nat):Prop:=SM (QPQ a)/\SM (D.ref N0 b N0)/\True
def Qxi(a:Arr)(b c:Nat):Prop:=Xg a-b<Xg a-c
def Qxj(a:Arr)(b:Nat):List D:=[ZB (BI (Qxf a) b)]
def QcH(a:List UInt8)(b:Arr):Nat:=LN a+Qxg b
theorem BiT(a : Arr)(q : Arr -> Prop)(lo : LOk a)(hk : a.k≠2)(hi : ∀b∈a.it, q b)(hc : ConOk Tryz.prog (RQ q)) :
  ACalls Tryz.prog 165 ((sRc Arr.row2 (fun _=>True) (fun a=>.str (E9 a.k a.nu (a.it.map Bx)))).args a) ⟨[],[]⟩ (SpecR (sRc Arr.row2 (fun _=>True) (fun a=>.str (E9 a.k a.nu (a.it.map Bx)))) a):=by
 refine Bg (A:=sRc Arr.row2 (fun _=>True) (fun a=>.str (E9 a.k a.nu (a.it.map Bx)))) (x:=a) (E:=Erel a q) (eOk hc rfl) Tryz.func165 rfl (by kernel_rfl) rfl (by simp[sRc,Erel,EC,E0]) ?_
 refine Bi (T :=
  ∀(x:Nat),True->SM x/\ifB (Z5 a==Z1) (SM x/\((IntsP (Xe a) fun i=>Z6 a i)/\Xe a<=1099511627776/\∀(z:Int),z∈Qw3 a->Br z)/\∀(y:Unit),True->RT (CZ (Qw3 a)=Qw4 a)) (∀(t:Nat),(∃(x_1:Nat×Nat×List UInt8),QcC a x_1.1 x_1.2.2/\(Z0=(NI x_1.1)/\(N0=LN x_1.2.2/\(∀(i:Nat),i<N0->[D.str []]=Xf x_1.2.2 i)/\t=x_1.2.1)/\True)/\Qjk x a t x_1.2.1)/\∀(x_1:Nat×Nat×List UInt8),QcC a x_1.1 x_1.2.2->SM x/\ifB (decide ((NI x_1.1)<Qjl a)) (ifB (decide (Z0<(NI x_1.1))) (SM x_1.2.1/\Bc ((LN x_1.2.2+N1)*N1<=140737488355328/\LN x_1.2.2+N1<=9223372036854775807) (∀(t:Nat),SM x/\Bc (Z0<=(NI x_1.1)/\(NI x_1.1)<Qjl a) (∃(x_2:Arr),Qxd a x_1.1 x_2/\(True/\True)/\q x_2/\∀(y:Unit),True->Bc ((5:Nat)+LN (Z8 x_2)<=9223372036854775807) (Bc (Qxe x_2<=9223372036854775807) (SM t/\Bc (QcG x_1.2.2 x_2*N1<=140737488355328/\QcG x_1.2.2 x_2<=9223372036854775807) (∀(t:Nat),Qxh a x/\∃(y:Nat×Nat×List UInt8),QcC a y.1 y.2.2/\Qxi a y.1 x_1.1/\(IntKind.wrap IntKind.i64 ((NI x_1.1)+Z1)=(NI y.1)/\(QcG x_1.2.2 x_2=LN y.2.2/\(∀(i:Nat),i<QcG x_1.2.2 x_2->BM (LN x_1.2.2+N1) (BM (LN x_1.2.2) (fun i=>Xf x_1.2.2 i) fun i=>List.getD [[ZB (32:Int)]] i []) (fun i=>Qxj x_2 i) i=Xf y.2.2 i)/\t=y.2.1)/\True)/\Qjk x a t y.2.1)))))) (SM x/\Bc (Z0<=(NI x_1.1)/\(NI x_1.1)<Qjl a) (∃(x_2:Arr),Qxd a x_1.1 x_2/\(True/\True)/\q x_2/\∀(y:Unit),True->Bc ((5:Nat)+LN (Z8 x_2)<=9223372036854775807) (Bc (Qxe x_2<=9223372036854775807) (SM x_1.2.1/\Bc (QcH x_1.2.2 x_2*N1<=140737488355328/\QcH x_1.2.2 x_2<=9223372036854775807) (∀(t:Nat),Qxh a x/\∃(y:Nat×Nat×List UInt8),QcC a y.1 y.2.2/\Qxi a y.1 x_1.1/\(IntKind.wrap IntKind.i64 ((NI x_1.1)+Z1)=(NI y.1)/\(QcH x_1.2.2 x_2=LN y.2.2/\(∀(i:Nat),i<QcH x_1.2.2 x_2->BM (LN x_1.2.2) (fun i=>Xf x_1.2.2 i) (fun i=>Qxj x_2 i) i=Xf y.2.2 i)/\t=y.2.1)/\True)/\Qjk x a t y.2.1)))))) (True/\chk (true&&Ix (LN x_1.2.2) fun i=>Xf x_1.2.2 i) (RT ((bytesOf (LN x_1.2.2) fun i=>Xf x_1.2.2 i)=Qw4 a))))) (by kernel_rfl) ?_
 delta BI DA GI LN N0 N1 N4 NI SI SM U0 Z0 Z1 ZB ZI Z5 Qji Xe Z6 Qw3 Z7 Qw4 Z8 QcC Xf QcD Qjj Xg QcE Z9 QPO QPP Qw5 Qw6 Qjk Qjl QcF Qw7 Qw8 Qw9 Qxa Qxb Qxc Qxd Qxe Qxf Qxg QcG QPQ Qxh Qxi Qxj QcH RT
 have da:(default:Arr)=Arr.mk 0 [] [] []:=rfl
 simp only[<- da,Bf,Bd,decide_eq_true_eq,decide_eq_false_iff_not,true_and,and_true,beq_iff_eq,beq_eq_false_iff_ne,ne_eq,exists_const,forall_const,Int.toNat_natCast,B0]
 have hib:∀x:Arr,(40::98::111::120::32::(Bx x).append [41])=Gb (Bx x):=fun _=>rfl
 simp only[OY,hib]
 have kd:=lo.kd
 have hsum:=lo.sum
 have l2:=lo.n6
 have l3:=lo.i6
 have tt:(∀i:Nat,i<a.sh.length->True)/\(∀i:Nat,i<a.nu.length->True)/\∀i:Nat,i<a.it.length->True:=⟨fun _ _=>trivial,fun _ _=>trivial,fun _ _=>trivial⟩
 refine⟨fun h1=>⟨⟨BQ _,by omega,lo.ni⟩,?_⟩,fun h1 t=>⟨⟨(0,t,[]),JHd.init _ _,⟨rfl,rfl,fun i hi=>absurd hi (by omega),rfl⟩,tt,rfl⟩,?_⟩⟩
 ·rw[E9,if_neg hk,lo.no (by omega)]
  simp[CZ]
 have hnu:=lo.bx (by omega)
 have hv:Lib.join (a.it.map fun b=>Gb (Bx b)) [32]=E9 a.k a.nu (a.it.map Bx):=by
  rw[E9,if_neg hk,hnu,List.map_map];rfl
 have hvl:=MC a.k lo.ni (a.it.map Bx)
 rw[List.length_map] at hvl
 rintro ⟨i,t1,out⟩ hh
 simp only at hh ⊢
 have hl:=hh.len
 rw[hv] at hl
 refine⟨fun hlt=>?_,fun hge=>?_⟩
 ·have hlt':i<a.it.length:=by omega
  have hm:=Cg hlt'
  have hml:=M2 hm
  have hmi:i<(a.it.map fun b=>Gb (Bx b)).length:=by simpa using hlt'
  have hg:(a.it.map fun b=>Gb (Bx b)).getD i []=Gb (Bx (a.it.getD i default)):=by
   simp[List.getD_eq_getElem?_getD,List.getElem?_map,List.getElem?_eq_getElem hlt']
  have hil:(Gb (Bx (a.it.getD i default))).length=6+(Bx (a.it.getD i default)).length:=by
   simp only[Gb,BeP,List.length_append,List.length_cons,List.length_nil];omega
  refine⟨fun h0=>⟨⟨by omega,by omega⟩,⟨by omega,by omega⟩,a.it.getD i default,⟨rfl,⟨rfl,fun _ _=>rfl⟩,⟨rfl,fun _ _=>rfl⟩,rfl,fun _ _=>rfl⟩,hi _ hm,by omega,by simp only[List.length_cons];omega,⟨by omega,by omega⟩,fun t2=>⟨(i+1,t2,out++[32]++Gb (Bx (a.it.getD i default))),?_,by simp only;omega,⟨Ba (by omega) (by omega),by simp only[List.length_append,List.length_cons,List.length_nil],?_,rfl⟩,tt,rfl⟩⟩,fun h0=>⟨⟨by omega,by omega⟩,a.it.getD i default,⟨rfl,⟨rfl,fun _ _=>rfl⟩,⟨rfl,fun _ _=>rfl⟩,rfl,fun _ _=>rfl⟩,hi _ hm,by omega,by simp only[List.length_cons];omega,⟨by omega,by omega⟩,fun t2=>⟨(i+1,t2,out++Gb (Bx (a.it.getD i default))),?_,by simp only;omega,⟨Ba (by omega) (by omega),by simp only[List.length_append],?_,rfl⟩,tt,rfl⟩⟩⟩
  ·have:=hh.step (by omega) hmi
   rw[hg] at this
   exact this
  ·exact IZ (l:=out++[32]) (by simp) (Mr (b:=32) rfl (fun _ _=>rfl) rfl) (fun _ _=>rfl)
  ·have e:i=0:=by omega
   subst e
   have:=hh.step0 hmi
   rw[hg] at this
   exact this
  ·exact IZ rfl (fun _ _=>rfl) (fun _ _=>rfl)
 ·have hd:=hh.done (by simpa using hge)
  rw[Bb,Bool.true_and]
  refine⟨IV _,?_⟩
  rw[CL,hd,hv]
def sAt1(q:Arr->Prop):FnSpec where
 β:=Arr
 α:=Unit
 args:=fun a=>[.agg a.row1,.int .i64 0]
 st:=fun _=>⟨[],[]⟩
 pre:=q
 post:=fun _ _=>True
 res:=fun a _=>.ret (.agg (atA a 0).row1)
 out:=fun _ _=>⟨[],[]⟩
def Oe(a:Arr):Arr:=.mk a.k [BY a.k a.nu.length a.it.length] a.nu a.it
def Bfz(a:Arr):Con:=fun k ds S=>match k with
 |159=>some (sRc Arr.row1 (fun b=>b=Oe a/\1<a.nu.length+a.it.length/\a.sh.length≠1) (fun b=>.str (Bx b)))
 |163=>some (sRc Arr.row1 (fun b=>(b=a/\a.sh.length=0)\/b=Ep a.k\/(b=atA a 0/\a.nu.length+a.it.length=1)) (fun b=>.str (CC b.k b.nu (b.it.map Bx))))
 |164=>some (sRc Arr.row1 (fun b=>b=a/\a.k=2) (fun b=>.str (IF 34 b.nu)))
 |165=>some (sRc Arr.row1 (fun b=>b=a/\a.k≠2) (fun b=>.str (E9 b.k b.nu (b.it.map Bx))))
 |167=>some (sRc Arr.row1 (fun b=>b=a) (fun b=>.agg (Ep b.k).row1))
 |168=>some (sAt1 (fun b=>b=a/\a.nu.length+a.it.length=1))
 |166=>match ds with
  | [.sl 1 n f m]=>some (pC [.sl 1 n f m] (.str (CZ (Bj n f))) (IntsP n f/\n<=1099511627776/\∀z∈Bj n f,Br z))
  |_=>none
 |k=>RU k ds S
theorem Bf1{k:Int}(h:k=1\/k=2\/k=3):CC (Ep k).k (Ep k).nu ((Ep k).it.map Bx)=WF k:=by
 rcases h with rfl | rfl | rfl
 ·rfl
 ·rfl
 ·rfl
theorem Bn8{a:Arr}(kd:a.k=1\/a.k=2\/a.k=3)(bx:a.k=3->a.nu=[])(h:a.nu.length+a.it.length=1):CC (atA a 0).k (atA a 0).nu ((atA a 0).it.map Bx)=CC a.k a.nu (a.it.map Bx):=by
 have h1:=Bd0 kd bx h
 have h2:(atA a 0).sh.length=0:=by unfold atA;split<;>rfl
 rw[I2 (atA a 0),Mu,if_pos h2] at h1
 exact h1
theorem BdA{a:Arr}(h:1<a.nu.length+a.it.length):Bx (Oe a)=E9 a.k a.nu (a.it.map Bx):=by
 rw[I2,Mu,if_neg (by show ¬1=0;omega),if_pos ⟨rfl,.inr (by rw[List.length_map];exact h)⟩]
 rfl
noncomputable def Erl(a:Arr):Senv:=EC (Bfz a) 64 5 [8,19,31,39,46] (fun _=>([],[]))
def QK(a:Arr):Nat:=LN (Arr.sh a)
def Kn(a:Arr):Int:=Arr.k a
def Qxk(a b:Arr):Prop:=Kn a=Kn b
def Xh(a:Arr)(b:Nat):List D:=[ZI (GI (Arr.sh a) b)]
def Ha(a:Arr):List Int:=Arr.nu a
def Xi(a:Arr):Nat:=LN (Ha a)
def QcI(a:Arr)(b:Nat):List D:=[ZI (GI (Ha a) b)]
def QcJ(a:Arr):List Arr:=Arr.it a
def Xj(a:Arr):Nat:=LN (QcJ a)
def Qjm:Arr:=DA
def QcK(a:Arr)(b:Nat):List D:=Arr.row (List.getD (QcJ a) b Qjm)
def Qxl(a b:Arr):Prop:=(Xi a=Xi b/\(∀(i:Nat),i<Xi a->QcI a i=QcI b i)/\True)/\(Xj a=Xj b/\(∀(i:Nat),i<Xj a->QcK a i=QcK b i)/\True)/\True
def Qxm(a b:Arr):Prop:=Qxk a b/\(QK a=QK b/\(∀(i:Nat),i<QK a->Xh a i=Xh b i)/\True)/\Qxl a b
def QcL(a b:Arr):Prop:=Qxm a b/\True
def Hb(a:Arr):Arr:=Ep (Kn a)
def Hc(a:Arr):Arr:=atA a N0
def Qxn(a:Arr):Nat:=Xi a+Xj a
def Qxo(a:Arr):Prop:=Qxn a=N1
def Qxp(a b:Arr):Prop:=a=b/\QK b=N0\/a=Hb b\/a=Hc b/\Qxo b
def Qjn(a:Arr):List UInt8:=CC (Kn a) (Ha a) (List.map Bx (QcJ a))
def Xk(a:Arr):List UInt8:=Bx a
def QcM(a:Arr):Bool:=(NI (QK a))==Z1
def Qjo(a:Arr):Bool:=bif QcM a then Kn a==2 else false
def QcN(a:Arr):Int:=BY (Kn a) (Xi a) (Xj a)
def Qxq(a:Arr):Bool:=decide ((2:Int)<=QcN a)
def Qjp(a:Arr):Bool:=bif QcM a then Qxq a else false
def Qxr(a:Arr):List Int:=Bj (QK a) fun i=>Xh a i
def Qxs(a:Arr):List UInt8:=CZ (Qxr a)
def Qxt(a:Arr):List Int:=Arr.sh (Hb a)
def Qxu(a:Arr):Nat:=LN (Qxt a)
def Qxv(a:Arr):List Int:=Arr.nu (Hb a)
def Qxw(a:Arr):Nat:=LN (Qxv a)
def Qxx(a:Arr):List Arr:=Arr.it (Hb a)
def Qxy(a:Arr):Nat:=LN (Qxx a)
def Qjq(a:Arr):List UInt8:=Qxs a++[32,114,101,115,104,97,112,101,32]
def Qxz(a:Arr):Nat:=LN (Qjq a)
def QxA(a b:Arr):Prop:=(True/\True)/\Qxp a b/\∀(_y:Unit),True->Bc (Qxz b+LN (Qjn a)<=9223372036854775807) (True/\∃(_y:Unit),True/\Qjq b++Qjn a=Xk b/\True/\True)
def QxB(a:Arr):List Int:=Arr.sh (Hc a)
def QxC(a:Arr):Nat:=LN (QxB a)
def QxD(a:Arr):List Int:=Arr.nu (Hc a)
def QxE(a:Arr):Nat:=LN (QxD a)
def QxF(a:Arr):List Arr:=Arr.it (Hc a)
def QxG(a:Arr):Nat:=LN (QxF a)
theorem TX(a : Arr)(lo : LOk a)(hc : ConOk Tryz.prog (Bfz a)) :
  ACalls Tryz.prog 159 ((sRc Arr.row1 (fun _=>True) (fun b=>.str (Bx b))).args a) ⟨[],[]⟩ (SpecR (sRc Arr.row1 (fun _=>True) (fun b=>.str (Bx b))) a):=by
 refine Bg (A:=sRc Arr.row1 (fun _=>True) (fun b=>.str (Bx b))) (x:=a) (E:=Erl a) (eOk hc rfl) Tryz.func159 rfl (by kernel_rfl) rfl (by simp[sRc,Erl,EC,E0]) ?_
 refine Bi (T :=
  ∀(x:Nat),True->SM x/\ifB ((NI (QK a))==Z0) (SM x/\∃(x:Arr),QcL a x/\(True/\True)/\Qxp x a/\∀(y:Unit),True->RT (Qjn x=Xk a)) ((SM x/\ifB (QcM a) (SM x/\(Kn a==2)=Qjo a/\True) (false=Qjo a/\True))/\ifB (Qjo a) (SM x/\∃(x:Arr),QcL a x/\(True/\True)/\(x=a/\Kn a=2)/\∀(y:Unit),True->RT (IF (34:Int) (Ha x)=Xk a)) (SM x/\True/\∀(y:Unit),True->(SM x/\ifB (QcM a) (Qxq a=Qjp a/\True) (false=Qjp a/\True))/\ifB (Qjp a) (SM x/\∃(x:Arr),QcL a x/\(True/\True)/\(x=a/\Kn a≠2)/\∀(y:Unit),True->RT (E9 (Kn x) (Ha x) (List.map Bx (QcJ x))=Xk a)) (SM x/\((IntsP (QK a) fun i=>Xh a i)/\QK a<=1099511627776/\∀(z:Int),z∈Qxr a->Br z)/\∀(y:Unit),True->Bc (LN (Qxs a)+9<=9223372036854775807) (ifB (QcN a==Z0) (SM x/\∃(x:Arr),QcL a x/\(True/\True)/\x=a/\∀(y:Unit),True->∃(x_1:Arr),((Arr.k (Hb x)=Kn x_1/\(Qxu x=QK x_1/\(∀(i:Nat),i<Qxu x->[ZI (GI (Qxt x) i)]=Xh x_1 i)/\True)/\(Qxw x=Xi x_1/\(∀(i:Nat),i<Qxw x->[ZI (GI (Qxv x) i)]=QcI x_1 i)/\True)/\(Qxy x=Xj x_1/\(∀(i:Nat),i<Qxy x->Arr.row (List.getD (Qxx x) i Qjm)=QcK x_1 i)/\True)/\True)/\True)/\QxA x_1 a) (ifB (QcN a==Z1) (SM x/\∃(x:Arr),(Qxm a x/\SM Z0/\True)/\(True/\True)/\(x=a/\Qxo a)/\∀(y:Unit),True->∃(x_1:Arr),((Arr.k (Hc x)=Kn x_1/\(QxC x=QK x_1/\(∀(i:Nat),i<QxC x->[ZI (GI (QxB x) i)]=Xh x_1 i)/\True)/\(QxE x=Xi x_1/\(∀(i:Nat),i<QxE x->[ZI (GI (QxD x) i)]=QcI x_1 i)/\True)/\(QxG x=Xj x_1/\(∀(i:Nat),i<QxG x->Arr.row (List.getD (QxF x) i Qjm)=QcK x_1 i)/\True)/\True)/\True)/\QxA x_1 a) (SM x/\SM x/\SM x/\∃(x:Arr),((Qxk a x/\(N1=QK x/\(∀(i:Nat),i<N1->List.getD [[ZI (QcN a)]] i []=Xh x i)/\True)/\Qxl a x)/\True)/\(True/\True)/\(x=Oe a/\N1<Qxn a/\QK a≠N1)/\∀(y:Unit),True->Bc (Qxz a+LN (Xk x)<=9223372036854775807) (RT (Qjq a++Xk x=Xk a))))))))) (by kernel_rfl) ?_
 delta DA GI LN N0 N1 NI SM Z0 Z1 ZI QK Kn QcK Qxl Qxm QcL Hb Hc Qxn Qxo Qxp Qjn Qxk Xk QcM Qjo QcN Qxq Qjp Qxr Qxs Qxt Qxu Xh Qxv Qxw Qxx Qxy Qjq Qxz QxA QxB QxC QxD Ha QxE QxF QxG Xi QcI QcJ Xj Qjm RT
 have da:(default:Arr)=Arr.mk 0 [] [] []:=rfl
 simp only[<- da,Bf,Bd,decide_eq_true_eq,decide_eq_false_iff_not,true_and,and_true,beq_iff_eq,Bool.cond_false_right,Bool.and_eq_true,Bool.and_eq_false_iff,beq_eq_false_iff_ne,ne_eq,exists_const,forall_const,B0]
 obtain ⟨kd,s8,n6,i6,si,ni,hsum,hchr,hno,hbx,hsc⟩:=lo
 have hz:BY a.k a.nu.length a.it.length=((a.nu.length+a.it.length:Nat):Int):=by
  unfold BY
  by_cases h3:a.k=3
  ·rw[if_neg (by omega),if_pos h3,hbx h3];simp
  ·rw[if_pos (by omega),hno h3];simp
 have hd:=G1 si
 have hfl:=Ug a.k
 have hsl:=TZ a.k ni (a.it.map Bx)
 have hvl:=MC a.k ni (a.it.map Bx)
 rw[List.length_map] at hvl
 have len:∀e:List UInt8,e.length<=200000000->(CZ a.sh++[32,114,101,115,104,97,112,101,32]).length+e.length<=9223372036854775807:=fun e he=>by
  simp only[List.length_append,List.length_cons,List.length_nil];omega
 have hlk:a.sh.length≠0->(¬a.sh.length=1\/¬a.k=2)->(¬a.sh.length=1\/a.nu.length+a.it.length<2)->Bx a=CZ a.sh++[32,114,101,115,104,97,112,101,32]++(if a.nu.length+a.it.length=0 then WF a.k else if a.nu.length+a.it.length=1 then CC a.k a.nu (a.it.map Bx) else E9 a.k a.nu (a.it.map Bx)):=fun h1 h2 h3=>by
  rw[I2,Mu,if_neg h1,if_neg (by rw[List.length_map];omega),List.length_map];rfl
 have hvk:a.sh.length=1->(a.k=2\/1<a.nu.length+a.it.length)->Bx a=E9 a.k a.nu (a.it.map Bx):=fun h1 h2=>by
  rw[I2,Mu,if_neg (by omega),if_pos ⟨h1,by rw[List.length_map];exact h2⟩]
 simp only[hz]
 refine⟨fun hs=>⟨a,⟨rfl,⟨rfl,fun _ _=>rfl⟩,⟨rfl,fun _ _=>rfl⟩,rfl,fun _ _=>rfl⟩,.inl ⟨rfl,by omega⟩,by rw[I2 a,Mu,if_pos (by omega)]⟩,fun hs=>⟨⟨fun h=>by rw[h];rfl,fun h=>by rw[beq_eq_false_iff_ne.2 h];rfl⟩,fun ⟨h1,h2⟩=>⟨a,⟨rfl,⟨rfl,fun _ _=>rfl⟩,⟨rfl,fun _ _=>rfl⟩,rfl,fun _ _=>rfl⟩,⟨rfl,h2⟩,by rw[hvk (by omega) (.inl h2),E9,if_pos h2]⟩,fun hn=>⟨⟨fun h=>by rw[h];rfl,fun h=>by rw[beq_eq_false_iff_ne.2 h];rfl⟩,fun ⟨h1,h2⟩=>⟨a,⟨rfl,⟨rfl,fun _ _=>rfl⟩,⟨rfl,fun _ _=>rfl⟩,rfl,fun _ _=>rfl⟩,⟨rfl,by omega⟩,by rw[hvk (by omega) (.inr (by omega))]⟩,fun hn2=>⟨⟨BQ _,by omega,si⟩,by omega,fun h0=>?_,fun h0=>⟨fun h1=>?_,fun h1=>?_⟩⟩⟩⟩⟩
 ·refine⟨a,⟨rfl,⟨rfl,fun _ _=>rfl⟩,⟨rfl,fun _ _=>rfl⟩,rfl,fun _ _=>rfl⟩,rfl,Ep a.k,⟨rfl,⟨rfl,fun _ _=>rfl⟩,⟨rfl,fun _ _=>rfl⟩,rfl,fun _ _=>rfl⟩,.inr (.inl rfl),?_,?_⟩
  ·rw[Bf1 kd];exact len _ (by omega)
  ·rw[Bf1 kd,hlk (by omega) (by omega) (by omega),if_pos (by omega)]
 ·refine⟨a,⟨rfl,⟨rfl,fun _ _=>rfl⟩,⟨rfl,fun _ _=>rfl⟩,rfl,fun _ _=>rfl⟩,⟨rfl,by omega⟩,atA a 0,⟨rfl,⟨rfl,fun _ _=>rfl⟩,⟨rfl,fun _ _=>rfl⟩,rfl,fun _ _=>rfl⟩,.inr (.inr ⟨rfl,by omega⟩),?_,?_⟩
  ·rw[Bn8 kd hbx (by omega)];exact len _ (by omega)
  ·rw[Bn8 kd hbx (by omega),hlk (by omega) (by omega) (by omega),if_neg (by omega),if_pos (by omega)]
 ·refine⟨Oe a,⟨rfl,⟨rfl,fun i hi=>?_⟩,⟨rfl,fun _ _=>rfl⟩,rfl,fun _ _=>rfl⟩,⟨rfl,by omega,by omega⟩,?_,?_⟩
  ·have:i=0:=by omega
   subst this
   simp only[Oe,Arr.sh,hz];rfl
  ·rw[BdA (by omega)];exact len _ (by omega)
  ·rw[BdA (by omega),hlk (by omega) (by omega) (by omega),if_neg (by omega),if_neg (by omega)]
def Bcj(its:List Arr):Con:=fun k ds S=>match k with
 |173=>some (sCl Arr.row1 Arr.row1 (fun b=>b∈its))
 |k=>RU k ds S
noncomputable def Era(a:Arr):Senv:=EC (Bcj a.it) 34 3 [4,12,16] (fun id=>match id with | 5=>([0,1,2,3,4,5,6,7,8,9],[7,9]) | _=>([],[]))
def QcO(a:Arr):Int:=Arr.k a
def Qjr(a:Arr):List Int:=Arr.nu a
def QcP(a:Arr):Nat:=LN (Qjr a)
def QcQ(a:Arr):List Arr:=Arr.it a
def QcR(a:Arr):Nat:=LN (QcQ a)
def Yf:D:=D.sl N1 N0 (fun _x=>[]) Mode.nil
def QxH:List D:=[Yf]
def Qjs:Arr:=DA
def QcS(a:Arr)(b:Nat):Arr:=List.getD (QcQ a) (Int.toNat (↑b:Int)) Qjs
def QxI(a:Arr)(b:Nat):List Int:=Arr.sh (QcS a b)
def QxJ(a:Arr)(b:Nat):Nat:=LN (QxI a b)
def QxK(a:Arr)(b:Nat):List D:=[ZI (GI (Arr.sh a) b)]
def QxL(a:Arr)(b:Nat):List Int:=Arr.nu (QcS a b)
def QxM(a:Arr)(b:Nat):Nat:=LN (QxL a b)
def QxN(a:Arr)(b:Nat):List D:=[ZI (GI (Qjr a) b)]
def QxO(a:Arr)(b:Nat):List Arr:=Arr.it (QcS a b)
def QxP(a:Arr)(b:Nat):Nat:=LN (QxO a b)
def QxQ(a:Arr)(b:Nat):List D:=Arr.row (List.getD (QcQ a) b Qjs)
def Qjt(a:Arr):D:=ZI (QcO a)
theorem BlL(a : Arr)(i : Nat)(hk : a.k=1 \/ a.k=2 \/ a.k=3)(hi : (i : Int)<BY a.k a.nu.length a.it.length)(hc : ConOk Tryz.prog (Bcj a.it)) :
  ACalls Tryz.prog 168 [.agg a.row2,.int .i64 i] ⟨[],[]⟩ (SpecR (sC [.agg a.row2,.int .i64 i] (atD a i)) ()):=by
 refine Bg (A:=sC _ _) (x:=()) (E:=Era a) (eOk hc rfl) Tryz.func168 rfl (by kernel_rfl) rfl (by simp[sC,Era,EC,E0]) ?_
 refine Bi (T :=
  ∀(x:Nat),True->∀(x_1:Nat),x≠x_1/\True->SM x/\True/\∀(y:Unit),True->ifB (decide (BY (QcO a) (QcP a) (QcR a)<=(↑i:Int))) (SM x_1/\(SM x_1/\True)/\∃(y:Unit),True/\Bn (D.agg (ZI Z0::Yf::Yf::QxH)) (atD a i)/\True/\True) (SM x/\ifB (QcO a==3) (SM x/\Bc (Z0<=(↑i:Int)/\(↑i:Int)<(NI (QcR a))) (∃(x:Arr),((Arr.k (QcS a i)=QcO x/\(QxJ a i=LN (Arr.sh x)/\(∀(i_1:Nat),i_1<QxJ a i->[ZI (GI (QxI a i) i_1)]=QxK x i_1)/\True)/\(QxM a i=QcP x/\(∀(i_1:Nat),i_1<QxM a i->[ZI (GI (QxL a i) i_1)]=QxN x i_1)/\True)/\(QxP a i=QcR x/\(∀(i_1:Nat),i_1<QxP a i->Arr.row (List.getD (QxO a i) i_1 Qjs)=QxQ x i_1)/\True)/\True)/\True)/\(True/\True)/\x∈QcQ a/\∀(y:Unit),True->SM x_1/\(SM x_1/\True)/\∃(y:Unit),True/\Bn (D.agg [ZI 3,Yf,Yf,D.sl N4 N1 (fun i=>List.getD [[Qjt x,D.sl N1 (LN (Arr.sh x)) (fun i=>QxK x i) Mode.any,D.sl N1 (QcP x) (fun i=>QxN x i) Mode.any,D.sl N4 (QcR x) (fun i=>QxQ x i) Mode.any]] i []) Mode.full]) (atD a i)/\True/\True)) (SM x/\SM x/\Bc (Z0<=(↑i:Int)/\(↑i:Int)<(NI (QcP a))) ((SM x/\SM (Qjt a))/\SM x_1/\(SM x_1/\True)/\∃(y:Unit),True/\Bn (D.agg (Qjt a::Yf::D.sl N1 N1 (fun i_1=>List.getD [[ZI (GI (Qjr a) (Int.toNat (↑i:Int)))]] i_1 []) Mode.full::QxH)) (atD a i)/\True/\True)))) (by kernel_rfl) ?_
 delta DA GI LN N0 N1 N4 NI SM Z0 ZI QcO Qjr QxJ QxK QxL QxM QxN QxO QxP QxQ Qjt QcP QcQ QcR Yf QxH Qjs QcS QxI
 have da:(default:Arr)=Arr.mk 0 [] [] []:=rfl
 simp only[<- da,Bf,Bd,decide_eq_true_eq,decide_eq_false_iff_not,true_and,and_true,beq_iff_eq,beq_eq_false_iff_ne,ne_eq,exists_const,forall_const,Int.toNat_natCast]
 have h12:a.k≠3->i<a.nu.length:=fun h3=>by
  have h:a.k=1\/a.k=2:=by omega
  rw[BY,if_pos h] at hi;omega
 have h3:a.k=3->i<a.it.length:=fun h3=>by
  rw[BY,if_neg (by omega),if_pos h3] at hi;omega
 repeat' (first | intro _ | refine And.intro ?_ ?_)
 all_goals first
  |omega
  |(exfalso;omega)
  |exact⟨a.it.getD i default,⟨rfl,⟨rfl,fun _ _=>rfl⟩,⟨rfl,fun _ _=>rfl⟩,rfl,fun _ _=>rfl⟩,Cg (by omega),by rw[atD,if_pos (by assumption),(by assumption:a.k=3)];exact Bp _⟩
  |(rw[atD,if_neg (by omega)];exact Bp _)
def RSc(a:Arr):Prop:=ACalls Tryz.prog 163 ((sRc Arr.row2 (fun _=>True) (fun a=>.str (CC a.k a.nu (a.it.map Bx)))).args a) ⟨[],[]⟩ (SpecR (sRc Arr.row2 (fun _=>True) (fun a=>.str (CC a.k a.nu (a.it.map Bx)))) a)
theorem W0{a:Arr}(lo:LOk a)(hs:a.nu.length+a.it.length=1)(ih:∀b∈a.it,RLit b):RSc a:=by
 refine BjG a (·∈a.it) lo (fun h3=>?_) (fun h3=>?_) (fun _ h=>h) (Bdj ih)
 ·have:=lo.no h3;rw[this] at hs;simp at hs;omega
 ·have:=lo.bx h3;rw[this] at hs;simp at hs;omega
theorem Bmw{a:Arr}(lo:LOk a)(h1:a.nu.length+a.it.length=1):((0:Nat):Int)<BY a.k a.nu.length a.it.length:=by
 unfold BY
 by_cases h3:a.k=3
 ·rw[if_neg (by omega),if_pos h3]
  have:=lo.bx h3
  rw[this] at h1
  simp at h1
  omega
 ·rw[if_pos (by have:=lo.kd;omega)]
  have:=lo.no h3
  rw[this] at h1
  simp at h1
  omega
theorem WZ{a:Arr}(lo:LOk a)(ih:∀b∈a.it,RLit b)(hf:RSc (Ep a.k))(ha:a.nu.length+a.it.length=1->RSc (atA a 0))(hcl:a.nu.length+a.it.length=1->ConOk Tryz.prog (Bcj a.it))(hl:1<a.nu.length+a.it.length->a.sh.length≠1->RLit (Oe a)):ConOk Tryz.prog (Bfz a):=by
 intro k ds S A h
 unfold Bfz at h
 split at h
 ·injection h with h;subst h
  refine ConOk.plain (fun b hb=>?_) rfl rfl
  obtain ⟨hb,h1,h2⟩:b=Oe a/\1<a.nu.length+a.it.length/\a.sh.length≠1:=hb
  rw[hb]
  exact En (hl h1 h2)
 ·injection h with h;subst h
  refine ConOk.plain (fun b hb=>?_) rfl rfl
  rcases (hb:(b=a/\a.sh.length=0)\/b=Ep a.k\/(b=atA a 0/\a.nu.length+a.it.length=1)) with ⟨hb,h1⟩ | hb | ⟨hb,h1⟩
  ·rw[hb];exact En (W0 lo (lo.sc h1) ih)
  ·rw[hb];exact En hf
  ·rw[hb];exact En (ha h1)
 ·injection h with h;subst h
  refine ConOk.plain (fun b hb=>?_) rfl rfl
  obtain ⟨hb,h1⟩:b=a/\a.k=2:=hb
  rw[hb]
  have hn:=lo.n6
  exact (BmX a.k _ _ _ _ a.nu (by omega) (lo.chr h1)).mono fun _ _ ⟨y,q1,q2,q3⟩=>⟨y,q1,q2,q3⟩
 ·injection h with h;subst h
  refine ConOk.plain (fun b hb=>?_) rfl rfl
  obtain ⟨hb,h1⟩:b=a/\a.k≠2:=hb
  rw[hb]
  exact En (BiT a (·∈a.it) lo h1 (fun _ h=>h) (Bdj ih))
 ·injection h with h;subst h
  refine ConOk.plain (fun b hb=>?_) rfl rfl
  have hb:b=a:=hb
  rw[hb]
  exact (Bhh a).mono fun _ _ ⟨y,q1,q2,q3⟩=>⟨y,q1,q2,q3⟩
 ·injection h with h;subst h
  refine ConOk.plain (fun b hb=>?_) rfl rfl
  obtain ⟨hb,h1⟩:b=a/\a.nu.length+a.it.length=1:=hb
  rw[hb]
  have:=ACalls.wkArgs (ds:=[.agg a.row1,.int .i64 0]) (BfW (BlL a 0 lo.kd (Bmw lo h1) (hcl h1)) (BnM a 0)) (by
   simp only[wkL,wkD]
   exact⟨GN a,Bp _,trivial⟩)
  exact this.mono fun _ _ ⟨y,q1,q2,q3⟩=>⟨y,q1,q2,q3⟩
 ·split at h
  ·injection h with h;subst h
   exact BZ fun ⟨h1,h2,h3⟩=>⟨Bk _,Ca (CB h1) (Bc3 _ (by rw[BJ];exact h2) h3)⟩
  ·cases h
 ·exact O8 _ _ _ _ h
theorem Uf{a:Arr}(h:ACalls Tryz.prog 159 ((sRc Arr.row1 (fun _=>True) (fun b=>.str (Bx b))).args a) ⟨[],[]⟩ (SpecR (sRc Arr.row1 (fun _=>True) (fun b=>.str (Bx b))) a)):RLit a:=by
 refine (h.wkArgs ?_).mono fun _ _ ⟨y,h1,h2,h3⟩=>⟨y,h1,h2,h3⟩
 simp only[sRc,wkL,wkD]
 exact⟨T3 a,trivial⟩
theorem Bcp{a:Arr}(lo:LOk a)(_h:1<a.nu.length+a.it.length):LOk (Oe a):=by
 have h6:=lo.n6
 have h7:=lo.i6
 refine⟨lo.kd,by show 1<=8;omega,lo.n6,lo.i6,?_,lo.ni,lo.sum,lo.chr,lo.no,lo.bx,fun h=>absurd h (by show ¬1=0;omega)⟩
 intro z hz
 have:z=BY a.k a.nu.length a.it.length:=List.mem_singleton.1 hz
 rw[this]
 unfold BY Br
 split
 ·omega
 split<;>omega
theorem Bht{a:Arr}(lo:LOk a)(ih:∀b∈a.it,RLit b)(hf:RSc (Ep a.k))(h:1<a.nu.length+a.it.length):RLit (Oe a) :=
 Uf (TX (Oe a) (Bcp lo h) (WZ (Bcp lo h) ih hf (fun h1=>absurd h1 (by show ¬a.nu.length+a.it.length=1;omega)) (fun h1=>absurd h1 (by show ¬a.nu.length+a.it.length=1;omega)) (fun _ h2=>absurd rfl h2)))
theorem rfs1:RSc (.mk 1 [] [0] []):=W0 Bac rfl (fun b hb=>by cases hb)
theorem rfs2:RSc (.mk 2 [] [32] []):=W0 BaB rfl (fun b hb=>by cases hb)
theorem BoH:RLit (.mk 1 [0] [] []) :=
 Uf (TX _ BfL (WZ BfL (fun b hb=>by cases hb) rfs1 (fun h=>by cases h) (fun h=>by cases h) (fun h=>absurd h (by show ¬1<0;omega))))
theorem rfs3:RSc (.mk 3 [] [] [.mk 1 [0] [] []]):=W0 RN rfl (fun b hb=>by
 have:b=.mk 1 [0] [] []:=List.mem_singleton.1 hb
 subst this;exact BoH)
theorem rfs{k:Int}(h:k=1\/k=2\/k=3):RSc (Ep k):=by
 rcases h with rfl | rfl | rfl
 ·exact rfs1
 ·exact rfs2
 ·exact rfs3
def Bgy(its:List Arr):Con:=fun k _ _=>match k with
 |173=>some (sCl Arr.row1 Arr.row1 (fun b=>b∈its))
 |_=>none
noncomputable def Ec2(a:Arr):Senv:={ EC (Bgy a.it) 33 5 [18] (fun id=>match id with | 1=>([0,1,2,3,5,6,4,7,8,9,10],[4,7,9,10]) | 5=>([0,1,2,3,4,5,6,7,8,9,10,11],[7,8,9,11]) | _=>([],[])) with
 gh:=fun b=>match b with
  |0=>[.cell 11 403]
  |_=>[]
 ann:=fun b _env S=>match b with
  |0=>some { slots:=[4],keep:=[1,2,3],α:=Nat×Nat,st:=fun y=>([.int .i64 y.1],⟨Id S.objs 11 (.cells ((cellsO S.objs 11).set 3 (.sl 4 y.1 (fun j=>(a.it.getD j default).row1) (.tok 2 y.2)))),[(2,y.2)]⟩),inv:=fun y=>y.1<=a.it.length,mu:=fun y=>a.it.length-y.1 }
  |_=>none }
theorem Boz{α : Type}{its : List α}{g : α -> List D}(d : α){j : Nat} :
  ∀i,i<j+1->BM j (fun i=>g (its.getD i d)) (fun i=>[g (its.getD j d)].getD i []) i=g (its.getD i d):=by
 intro i hi
 simp only[BM]
 split
 ·rfl
 ·have:i=j:=by omega
  subst this
  simp
def Yg(a:Arr):Nat:=LN (Arr.sh a)
def Xl(a:Arr):Nat:=N0+Yg a
def QxR(a:Arr):Nat:=Xl a*8
def Yh(a:Arr):Nat:=LN (Arr.nu a)
def Hd(a:Arr)(b:Nat):List D:=[ZI (GI (Arr.nu a) b)]
def QxS(a:Arr):D:=D.sl N1 (Yh a) (fun i=>Hd a i) Mode.any
def Qju(a:Nat)(b:Arr):Prop:=SM a/\SM (QxS b)
def Qjv(a:Arr):Int:=Arr.k a
def QxT(a:Arr):D:=ZI (Qjv a)
def He(a:Nat)(b:Arr):Prop:=SM a/\SM (QxT b)
def Xm(a:Arr):Nat:=N0+Yh a
def QxU(a:Arr):Nat:=Xm a*8
def QcT(a:Arr):List Arr:=Arr.it a
def JT(a:Arr):Nat:=LN (QcT a)
def Qjw(a:Nat)(b:Arr):Prop:=a<=JT b
def QcU(a:Arr):Prop:=SM (Qjv a)
def Hf(a:Arr)(b:Nat):List D:=[ZI (GI (Arr.sh a) b)]
def QxV(a:Arr)(b:Nat):List D:=BM N0 (fun _x=>[]) (fun i=>Hf a i) b
def QxW(a:Arr)(b:Nat):Prop:=SM (Xl a)/\(∀(i:Nat),i<Xl a->SM (QxV a i))/\SM b
def QxX(a:Arr)(b:Nat):List D:=BM N0 (fun _x=>[]) (fun i=>Hd a i) b
def QxY(a:Arr)(b:Nat):Prop:=SM (Xm a)/\(∀(i:Nat),i<Xm a->SM (QxX a i))/\SM b
def QcV:Arr:=DA
def Hg(a:Arr)(b:Nat):Arr:=List.getD (QcT a) b QcV
def QPR(a:Arr)(b:Nat):List Int:=Arr.sh (Hg a b)
def QPS(a:Arr)(b:Nat):List Int:=Arr.nu (Hg a b)
def QxZ(a:Arr)(b:Nat):List Arr:=Arr.it (Hg a b)
def Hh(a:Arr)(b:Nat):List D:=[ZI (Arr.k (Hg a b)),SI (QPR a b),SI (QPS a b),D.sl N4 (LN (QxZ a b)) (fun i=>Arr.row (List.getD (QxZ a b) i QcV)) Mode.any]
def Qjx:Prop:=SM N0/\(∀(i:Nat),i<N0->Cv (List D) [] [])/\True
def Qx0(a:Arr)(b:Nat):Prop:=SM (Hh a b)
def Qx1(a b:Nat)(c:Arr):Prop:=SM a/\(SM Z0/\Qjx/\Qjx/\Qjx/\True)/\SM b/\(QcU c/\(SM (Yg c)/\(∀(i:Nat),i<Yg c->SM (Hf c i))/\True)/\(SM (Yh c)/\(∀(i:Nat),i<Yh c->SM (Hd c i))/\True)/\(SM (JT c)/\(∀(i:Nat),i<JT c->Qx0 c i)/\True)/\True)/\True
def QcW(a:Arr)(b:Nat):Arr:=List.getD (QcT a) (Int.toNat (↑b:Int)) QcV
def Qx2(a:Arr)(b:Nat):List Int:=Arr.sh (QcW a b)
def Qx3(a:Arr)(b:Nat):Nat:=LN (Qx2 a b)
def Qx4(a:Arr)(b:Nat):List Int:=Arr.nu (QcW a b)
def Qx5(a:Arr)(b:Nat):Nat:=LN (Qx4 a b)
def Qx6(a:Arr)(b:Nat):List Arr:=Arr.it (QcW a b)
def Qx7(a:Arr)(b:Nat):Nat:=LN (Qx6 a b)
def Qx8(a:Arr)(b:Nat):List D:=Arr.row (Hg a b)
def QPT(a:Nat)(b:Arr)(c:Nat):D:=D.sl N4 a (fun j=>Hh b j) (Mode.tok N2 c)
def Qx9(a b:Nat)(c:Arr)(d:Nat):Prop:=SM a/\SM (QPT b c d)
def Qya(a:Arr):D:=D.sl N1 (Yg a) (fun i=>Hf a i) Mode.any
def Qyb(a:Nat)(b:Arr)(c d e f:Nat):Prop:=He a b/\SM c/\∀(t:Nat),(∃(x:Nat×Nat),Qjw x.1 b/\(Z0=(NI x.1)/\True)/\(SM c/\(QcU b/\QxW b d/\QxY b e/\(N0=x.1/\(∀(i:Nat),i<N0->Cv (List D) [] (Hh b i))/\t=x.2)/\True)/\Qx1 f a b)/\t=x.2/\True)/\∀(x:Nat×Nat),Qjw x.1 b->SM a/\ifB (decide ((NI x.1)<(NI (JT b)))) (SM c/\SM a/\Bc (Z0<=(NI x.1)/\(NI x.1)<(NI (JT b))) (∃(x_1:Arr),((Arr.k (QcW b x.1)=Qjv x_1/\(Qx3 b x.1=Yg x_1/\(∀(i:Nat),i<Qx3 b x.1->[ZI (GI (Qx2 b x.1) i)]=Hf x_1 i)/\True)/\(Qx5 b x.1=Yh x_1/\(∀(i:Nat),i<Qx5 b x.1->[ZI (GI (Qx4 b x.1) i)]=Hd x_1 i)/\True)/\(Qx7 b x.1=JT x_1/\(∀(i:Nat),i<Qx7 b x.1->Arr.row (List.getD (Qx6 b x.1) i QcV)=Qx8 x_1 i)/\True)/\True)/\True)/\(True/\True)/\x_1∈QcT b/\∀(_y:Unit),True->Qx9 c x.1 b x.2/\Qx9 c x.1 b x.2/\SM x.2/\Bc ((x.1+N1)*80<=140737488355328/\x.1+N1<=9223372036854775807) (∀(t:Nat),SM c/\(SM (D.ref N0 a N0)/\SM (D.ref (max (N0+N1) N0) f N0)/\SM (D.ref (max N2 (max (N0+N1) N0)+nat_lit 9) c N0)/\True)/\∃(y:Nat×Nat),Qjw y.1 b/\JT b-y.1<JT b-x.1/\(IntKind.wrap IntKind.i64 ((NI x.1)+Z1)=(NI y.1)/\True)/\(SM c/\(QcU b/\QxW b d/\QxY b e/\(x.1+N1=y.1/\(∀(i:Nat),i<x.1+N1->BM x.1 (fun j=>Hh b j) (fun i=>List.getD [[QxT x_1,Qya x_1,QxS x_1,D.sl N4 (JT x_1) (fun i=>Qx8 x_1 i) Mode.any]] i []) i=Hh b i)/\t=y.2)/\True)/\Qx1 f a b)/\t=y.2/\True))) (SM c/\SM f/\(SM f/\True)/\∃(_y:Unit),True/\(QcU b/\(Xl b=Yg b/\(∀(i:Nat),i<Xl b->QxV b i=Hf b i)/\True)/\(Xm b=Yh b/\(∀(i:Nat),i<Xm b->QxX b i=Hd b i)/\True)/\(x.1=JT b/\(∀(i:Nat),i<x.1->Qx0 b i)/\True)/\True)/\True/\True)
def Qyc(a:Nat)(b:Arr)(c d e:Nat):Prop:=Qju a b/\He a b/\Bc (QxU b<=140737488355328/\Xm b<=9223372036854775807) (∀(t:Nat),Qyb a b c d t e)
theorem Bm9(a : Arr)(ha : a.nu.length <= 1000000 /\ a.it.length <= 1000000 /\ a.sh.length <= 1000000)(hc : ConOk Tryz.prog (Bgy a.it)) :
    ACalls Tryz.prog 173 ((sCl Arr.row2 Arr.row2 (fun _ => True)).args a) ⟨[],[]⟩ (SpecR (sCl Arr.row2 Arr.row2 (fun _ => True)) a) := by
  refine Bg (A := sCl Arr.row2 Arr.row2 (fun _ => True)) (x := a) (E := Ec2 a) (eOk hc rfl) Tryz.func173 rfl (by kernel_rfl) rfl (by simp [sCl,Ec2,EC,E0]) ?_
  refine Bi (T :=
    ∀ (x:Nat),True->∀ (x_1:Nat),x ≠ x_1/\True->SM x/\SM x/\SM x/\Bc (QxR a <= (140737488355328:Nat)/\Xl a <= (9223372036854775807:Nat)) (∀ (t:Nat),Qju x a/\He x a/\Bc (QxU a <= (140737488355328:Nat)/\Xm a <= (9223372036854775807:Nat)) (∀ (t_1:Nat),He x a/\∀ (x_2:Nat),x_1 ≠ x_2/\x ≠ x_2/\True->Qyb x a x_2 t t_1 x_1)/\∀ (x_2:Nat),x_1 ≠ x_2/\x ≠ x_2/\True->Qyc x a x_2 t x_1)/\∀ (x_2:Nat),x_1 ≠ x_2/\x ≠ x_2/\True->Qju x a/\(SM x/\SM (Qya a))/\He x a/\Bc (QxR a <= (140737488355328:Nat)/\Xl a <= (9223372036854775807:Nat)) (∀ (t:Nat),Qyc x a x_2 t x_1)) (by kernel_rfl) ?_
  delta DA GI LN N0 N1 N2 N4 NI SI SM Z0 Z1 ZI Yg Xl Xm QxU QcT JT Qjw QcU Hf QxV QxW QxX QxR QxY QcV Hg QPR QPS QxZ Hh Qjx Qx0 Qx1 Yh QcW Qx2 Qx3 Qx4 Qx5 Qx6 Qx7 Qx8 QPT Qx9 Hd Qya Qyb Qyc QxS Qju Qjv QxT He
  have da:(default:Arr) = Arr.mk 0 [] [] [] := rfl
  simp only [<- da,eq_self,implies_true,Int.toNat_natCast,Bf,Bd,decide_eq_true_eq,decide_eq_false_iff_not,true_and,and_true,exists_const,forall_const]
  obtain ⟨l1,l2,l3⟩ := ha
  repeat' (first | (rintro ⟨j,t⟩ (hj:j <= a.it.length)) | intro _ | refine And.intro ?_ ?_)
  all_goals try simp only at *
  all_goals first
    | omega
    | exact ⟨(0,_),Nat.zero_le _,rfl,⟨rfl,fun i hi => absurd hi (Nat.not_lt_zero _),rfl⟩,rfl⟩
    | exact ⟨a.it.getD j default,⟨rfl,⟨rfl,fun _ _ => rfl⟩,⟨rfl,fun _ _ => rfl⟩,rfl,fun _ _ => rfl⟩,Cg (by omega),⟨by omega,by omega⟩,fun t2 => ⟨(j + 1,t2),by simp only; omega,by simp only; omega,Ba (by omega) (by omega),⟨rfl,Boz (g := Arr.row1) default,rfl⟩,rfl⟩⟩
    | (simp [BM]; done)
    | (have e : j = a.it.length := by omega
       subst e; rfl)
    | trace_state
  done
theorem Bkc:∀(a:Arr),(Bu a).1=0->ACalls Tryz.prog 173 [.agg a.row1] ⟨[],[]⟩ (SpecR (sCl Arr.row1 Arr.row1 (fun _=>True)) a)
 |.mk k s n is,h=>by
  obtain ⟨h1,h2,h3,h4⟩:=EN h
  have hc:ConOk Tryz.prog (Bgy (Arr.mk k s n is).it):=by
   intro k' ds S A hk
   unfold Bgy at hk
   split at hk
   ·injection hk with hk;subst hk
    refine ConOk.plain (fun (b:Arr) hb=>?_) rfl rfl
    have hb':b∈is:=hb
    exact (Bkc b (h4 b hb')).mono fun _ _ ⟨y,q1,q2,q3⟩=>⟨y,q1,q2,q3⟩
   ·cases hk
  have hm:=Bm9 (.mk k s n is) ⟨by show n.length<=_;omega,by show is.length<=_;omega,by show s.length<=_;omega⟩ hc
  have hm2:ACalls Tryz.prog 173 [.agg (Arr.mk k s n is).row1] ⟨[],[]⟩ (SpecR (sCl Arr.row2 Arr.row2 (fun _=>True)) (.mk k s n is)):=by
   refine ACalls.wkArgs hm ?_
   simp only[sCl,wkL,wkD]
   exact⟨GN _,trivial⟩
  refine ACalls.wkEnd hm2 fun r S' ⟨y,q1,q2,q3⟩=>?_
  subst q2 q3
  refine⟨.ret (.agg (Arr.mk k s n is).row1),fun C e he=>?_,⟨(),trivial,rfl,rfl⟩⟩
  cases e with
  |returned v =>
   refine IY (.agg (Arr.mk k s n is).row2) _ ?_ C v he
   simp only[wkD]
   exact T3 _
  |panicked _=>exact he.elim
  |outgrown=>exact he.elim
termination_by a=>SizeOf.sizeOf a
decreasing_by
 have:=List.sizeOf_lt_of_mem hb'
 simp;omega
def RCl(a:Arr):Prop:=ACalls Tryz.prog 173 [.agg a.row1] ⟨[],[]⟩ (SpecR (sCl Arr.row1 Arr.row1 (fun _=>True)) a)
theorem BjN{its:List Arr}(h:∀b∈its,RCl b):ConOk Tryz.prog (Bcj its):=by
 intro k' ds S A hk
 unfold Bcj at hk
 split at hk
 ·injection hk with hk;subst hk
  exact ConOk.plain (fun (b:Arr) hb=>(h b hb).mono fun _ _ ⟨y,q1,q2,q3⟩=>⟨y,q1,q2,q3⟩) rfl rfl
 ·exact O8 _ _ _ _ hk
theorem Bau(hcl:∀b:Arr,(Bu b).1=0->RCl b):∀(a:Arr),a.ok->(Bu a).1=0->RLit a
 |.mk k s n is,ho,h=>by
  have lo:=Ben ho h
  have hv:=(EN h).2.2.2
  have hok:∀b∈is,b.ok:=by
   simp only[Arr.ok] at ho
   exact (E7 _).1 ho.2.2.2.2.2.2
  have ih:∀b∈is,RLit b:=fun b hb=>Bau hcl b (hok b hb) (hv b hb)
  refine Uf (TX (.mk k s n is) lo (WZ lo ih (rfs lo.kd) (fun h1=>?_) (fun _=>BjN fun b hb=>hcl b (hv b hb)) (fun h1 _=>Bht lo ih (rfs lo.kd) h1)))
  have hsub:∀c∈(atA (.mk k s n is) 0).it,c∈is:=by
   intro c hc
   unfold atA at hc
   by_cases h3:(Arr.mk k s n is).k=3
   ·rw[if_pos h3] at hc
    have h2:is.length=1:=by
     have h4:n=[]:=lo.bx h3
     have h1:n.length+is.length=1:=h1
     rw[h4] at h1;simpa using h1
    have:c=is.getD 0 default:=List.mem_singleton.1 hc
    rw[this];exact Cg (by omega)
   ·rw[if_neg h3] at hc;cases hc
  have lo':=Blp lo h1
  refine W0 lo' (lo'.sc ?_) (fun c hc=>ih c (hsub c hc))
  unfold atA
  split<;>rfl
termination_by a=>SizeOf.sizeOf a
decreasing_by
 have:=List.sizeOf_lt_of_mem hb
 simp;omega
theorem Bir(a:Arr)(ho:a.ok)(h:(Bu a).1=0):RLit a:=Bau (fun b hb=>Bkc b hb) a ho h
def BeA(a:Arr):Con:=fun k _ _=>match k with
 |107=>some (sRc Arr.row1 (fun b=>b=a) BjA)
 |159=>some (sRc Arr.row1 (fun b=>b=a/\(Bu a).1=0) (fun b=>.str (Bx b)))
 |_=>none
theorem Bha{a:Arr}(ho:a.ok):ConOk Tryz.prog (BeA a):=by
 intro k ds S A h
 unfold BeA at h
 split at h
 ·injection h with h;subst h
  refine ConOk.plain (fun b hb=>?_) rfl rfl
  have hb:b=a:=hb
  rw[hb]
  exact En (Bja a ho)
 ·injection h with h;subst h
  refine ConOk.plain (fun b hb=>?_) rfl rfl
  obtain ⟨hb,h1⟩:b=a/\(Bu a).1=0:=hb
  rw[hb]
  exact En (Bir a ho h1)
 ·cases h
noncomputable def Ertl(a:Arr):Senv:=EC (BeA a) 8 3 [5] (fun _=>([],[]))
def Qjy(a:Arr):Nat:=LN (Arr.sh a)
def Qyd(a:Arr)(b:Nat):List D:=[ZI (GI (Arr.sh a) b)]
def Qjz(a:Arr):Nat:=LN (Arr.nu a)
def Qye(a:Arr)(b:Nat):List D:=[ZI (GI (Arr.nu a) b)]
def QjA(a:Arr):Nat:=LN (Arr.it a)
def Qyf(a:Arr)(b:Nat):List D:=Arr.row (GA (Arr.it a) b)
def Qyg(a b:Arr):Prop:=(Arr.k a=Arr.k b/\(Qjy a=Qjy b/\(∀(i:Nat),i<Qjy a->Qyd a i=Qyd b i)/\True)/\(Qjz a=Qjz b/\(∀(i:Nat),i<Qjz a->Qye a i=Qye b i)/\True)/\(QjA a=QjA b/\(∀(i:Nat),i<QjA a->Qyf a i=Qyf b i)/\True)/\True)/\True
theorem Bjz(a : Arr)(ho : a.ok) :
  ACalls Tryz.prog 149 ((sRc Arr.row1 (fun _=>True) (fun b=>.str (GP b))).args a) ⟨[],[]⟩ (SpecR (sRc Arr.row1 (fun _=>True) (fun b=>.str (GP b))) a):=by
 refine Bg (A:=sRc Arr.row1 (fun _=>True) (fun b=>.str (GP b))) (x:=a) (E:=Ertl a) (eOk (Bha ho) rfl) Tryz.func149 rfl (by kernel_rfl) rfl (by simp[sRc,Ertl,EC,E0]) ?_
 refine Bi (T :=
  ∀(x:Nat),True->SM x/\∃(x_1:Arr),Qyg a x_1/\(True/\True)/\x_1=a/\∀(y:Unit),True->ifB (Prod.fst (Bu x_1) != Z0) (RT (Cv (List UInt8) [] (GP a))) (SM x/\∃(x:Arr),Qyg a x/\(True/\True)/\(x=a/\Prod.fst (Bu a)=Z0)/\∀(y:Unit),True->RT (Bx x=GP a))) (by kernel_rfl) ?_
 delta DA GA GI LN SM Z0 ZI Qjy Qyd Qjz Qye QjA Qyf Qyg RT
 have da:(default:Arr)=Arr.mk 0 [] [] []:=rfl
 simp only[<- da,Bf,true_and,and_true,bne_iff_ne,ne_eq,exists_const,forall_const]
 refine⟨a,⟨rfl,⟨rfl,fun _ _=>rfl⟩,⟨rfl,fun _ _=>rfl⟩,rfl,fun _ _=>rfl⟩,rfl,fun h=>by rw[GP,if_neg h],fun h=>?_⟩
 have h:(Bu a).1=0:=by simpa using h
 exact⟨a,⟨rfl,⟨rfl,fun _ _=>rfl⟩,⟨rfl,fun _ _=>rfl⟩,rfl,fun _ _=>rfl⟩,⟨rfl,h⟩,by rw[GP,if_pos h]⟩
noncomputable def Eidk(l:List Int)(v:Int):Senv:={ EC Eu 19 2 [4,5,7,8,9,16] (fun _=>([],[])) with
 ann:=fun b _ _=>match b with
  |0=>some (Bo0 (fun d=>v==d) l [0,1,6,7])
  |_=>none }
def QjB(a:Int)(b:List Int)(c:Nat):Prop:=IdxHead (fun (d:Int)=>a==d) b c
def QPU(a:List Int):D:=SI a
theorem BoD(l:List Int)(v:Int)(hl:l.length<=maxLen):CD 142 [isl l .any,.int .i64 v] (.int .i64 (Ig (fun d=>v==d) l 0)):=by
 refine Bg (A:=sC _ _) (x:=()) (E:=Eidk l v) (eOk BL rfl) Tryz.func142 rfl (by kernel_rfl) rfl (by simp[sC,Eidk,EC,E0]) ?_
 refine Bi (T :=
  (∃(x:Nat),QjB v l x/\(Z0=(↑x:Int)/\True)/\True/\True)/\∀(x:Nat),QjB v l x->ifB (decide ((↑x:Int)<(LI l))) (Bc (Z0<=(↑x:Int)/\(↑x:Int)<(LI l)) (ifB (v==GI l (Int.toNat (↑x:Int))) (RT ((↑x:Int)=Ig (fun (d:Int)=>v==d) l N0)) ((SM (QPU l)/\SM (ZI v)/\SM D.unk/\SM (ZI (LI l))/\True)/\∃(y:Nat),QjB v l y/\LN l-y<LN l-x/\(IntKind.wrap IntKind.i64 ((↑x:Int)+Z1)=(↑y:Int)/\True)/\True/\True))) (RT ((-1:Int)=Ig (fun (d:Int)=>v==d) l N0))) (by kernel_rfl) ?_
 delta GI LI LN N0 N1 SI SM Z0 Z1 ZI QjB QPU RT
 simp only[Int.toNat_natCast,Bf,Bd,decide_eq_true_eq,decide_eq_false_iff_not,true_and,and_true,exists_const]
 simp only[maxLen] at hl
 refine⟨⟨0,⟨Nat.zero_le _,by simp⟩,rfl⟩,fun i hh=>⟨fun hlt=>?_,fun hge=>(hh.done hge).symm⟩⟩
 have hlt':i<l.length:=by omega
 obtain ⟨s1,s2⟩:=hh.step hlt'
 exact⟨by omega,fun h=>(s1 h).symm,fun h=>⟨i+1,s2 h,by omega,Ba (by omega) (by omega)⟩⟩
noncomputable def Biy(l:List Int)(v:Int):Con:=fun k ds S=>match k with
 |142=>some (pA ds S (.int .i64 (Ig (fun d=>v==d) l 0)) (wkL ds [isl l .any,.int .i64 v]))
 |_=>none
noncomputable def Ectk(l:List Int)(v:Int):Senv:=EC (Biy l v) 9 2 [4] (fun _=>([],[]))
def Qyh(a:List Int)(b:Int):List D:=[SI a,ZI b]
theorem Bov(l:List Int)(v:Int)(hl:l.length<=maxLen):CD 122 [isl l .any,.int .i64 v] (.bool (l.contains v)):=by
 refine Bg (A:=sC _ _) (x:=()) (E:=Ectk l v) (eOk ?_ rfl) Tryz.func122 rfl (by kernel_rfl) rfl (by simp[sC,Ectk,EC,E0]) ?_
 ·intro k ds S A hh
  try unfold Biy at hh
  try dsimp only at hh
  split at hh
  ·injection hh with hh;subst hh
   exact Bo fun e=>CD.at_ (CD.wk (BoD l v hl) e) _
  ·cases hh
 refine Bi (T :=
  ∃(x:Unit),wkL (Qyh l v) (Qyh l v)/\∀(y:Unit),True->RT (decide (Z0<=Ig (fun (d:Int)=>v==d) l N0)=List.contains l v)) (by kernel_rfl) ?_
 delta GI LN N0 N1 SI Z0 ZI Qyh RT
 simp only[true_and,and_true,exists_const,forall_const]
 have e:=Tc (fun d=>v==d) l 0
 have e2:(l.any fun d=>v==d)=l.contains v:=by rw[Bool.eq_iff_iff,List.any_eq_true,List.contains_eq_mem,decide_eq_true_eq];simp
 rw[e2] at e
 first
  |exact⟨Be _,e⟩
  |exact⟨Be _,e,fun _ _=>trivial⟩
def RShow(n:Nd):Prop:=CD 84 [.agg n.row2] (.str (Bt n))/\(Bt n).length<=20000000000000
def BnB(n:Nd):Con:=fun k ds S=>match k with
 |84=>some (pA ds S (.str (Bt n)) (isN n ds []))
 |122=>match ds with
  | [.sl 1 m f _,.int .i64 v]=>some (pA ds S (.bool ((Bj m f).contains v)) (wkL ds [isl (Bj m f) .any,.int .i64 v]/\m<=maxLen))
  |_=>none
 |_=>none
noncomputable def Ewi(n:Nd):Senv:=EC (BnB n) 15 3 [4,8] (fun _=>([],[]))
def Qyi(a:List Int):List Int:=Bj (LN a) fun i=>[ZI (GI a i)]
def Qyl(a:Nd):Prop:=isN a [D.agg (Nd.rowE a)] []
def QcY(a:Nd):List UInt8:=Bt a
theorem Bqe(n:Nd)(ks:List Int)(hn:RShow n)(hk:ks.length<=maxLen):CD 101 [.agg n.row1,isl ks .any] (.str (BB ks n)):=by
 refine Bg (A:=sC _ _) (x:=()) (E:=Ewi n) (eOk ?_ rfl) Tryz.func101 rfl (by kernel_rfl) rfl (by simp[sC,Ewi,EC,E0]) ?_
 ·intro k ds S A hh
  try unfold BnB at hh
  try dsimp only at hh
  split at hh
  ·injection hh with hh;subst hh
   exact Bo fun e=>CD.at_ (CD.isN hn.1 e) _
  ·split at hh
   ·injection hh with hh;subst hh
    exact Bo fun ⟨e,hm⟩=>CD.at_ (CD.wk (Bov _ _ (by rw[BJ];exact hm)) e) _
   ·cases hh
  ·cases hh
 refine Bi (T :=
  ∀(x:Nat),True->SM x/\∃(x_1:Unit),(wkL [SI ks,ZI (Nd.kd n)] [SI (Qyi ks),ZI (Nd.kd n)]/\LN ks<=9223372036854775807)/\∀(y:Unit),True->ifB (List.contains (Qyi ks) (Nd.kd n)) (SM x/\∃(x:Unit),Qyl n/\∀(y:Unit),True->Bc (N2+LN (QcY n)<=9223372036854775807) (Bc (LN ((40:UInt8)::(32:UInt8)::List.append [] (QcY n))+N2<=9223372036854775807) (RT ((40:UInt8)::(32:UInt8)::List.append (List.append [] (QcY n)) [(32:UInt8),(41:UInt8)]=BB ks n)))) (SM x/\∃(x:Unit),Qyl n/\∀(y:Unit),True->RT (QcY n=BB ks n))) (by kernel_rfl) ?_
 delta DA GI LN N1 N2 N4 SI SM Z0 ZI Qyl QcY Qyi RT
 try simp only[<- dm]
 try simp only[<- dn]
 simp only[Bf,Bd,true_and,and_true,exists_const,forall_const]
 simp only[B0]
 have hl:=hn.2
 unfold maxLen at hk
 refine⟨⟨Be _,hk⟩,fun h=>⟨Bl _ _,by omega,?_,?_⟩,fun h=>⟨Bl _ _,?_⟩⟩
 ·simp only[List.length_cons,List.append_eq,List.nil_append];omega
 ·unfold BB Eb;rw[if_pos h];rfl
 ·unfold BB Eb;rw[if_neg (by rw[h];exact Bool.false_ne_true)]
def RL(q:Nd->Prop):Con:=fun k ds S=>match k with
 |101=>match ds with
  | [_,.sl 1 m f _]=>some (pE (β:=Nd) ds S (fun b=>.str (BB (Bj m f) b)) (fun b=>wkL ds [.agg b.row1,isl (Bj m f) .any]/\m<=maxLen/\q b))
  |_=>none
 |84=>some (pE (β:=Nd) ds S (fun b=>.str (Bt b)) (fun b=>isN b ds []/\q b))
 |k=>O4 k ds S
theorem O7{q:Nd->Prop}(h:∀b,q b->RShow b):ConOk Tryz.prog (RL q):=by
 intro k ds S A hh
 unfold RL at hh
 split at hh
 ·split at hh
  ·injection hh with hh;subst hh
   exact Co fun b ⟨e,hm,hb⟩=>CD.at_ (CD.wk (Bqe b _ (h b hb) (by rw[BJ];exact hm)) e) _
  ·cases hh
 ·injection hh with hh;subst hh
  exact Co fun b ⟨e,hb⟩=>CD.at_ (CD.isN (h b hb).1 e) _
 ·exact Ih _ _ _ _ hh
noncomputable def Ewd(q:Nd->Prop)(l:List Nd)(ks:List Int):Senv:={ EC (RL q) 23 2 [4,5,7,8,9,10,11] (fun _=>([],[])) with
 gh:=fun b=>match b with
  |0=>[.slot 5]
  |_=>[]
 ann:=fun b _ S=>match b with
  |0=>some { slots:=[10,5],keep:=[0,1,8,9],α:=Nat×Nat×List (List UInt8),st:=fun y=>([.int .i64 y.1,ssl y.2.2 (.tok 0 y.2.1)],⟨S.objs,[(0,y.2.1)]⟩),inv:=fun y=>y.1<=l.length/\y.2.2=(l.take y.1).map (BB ks),mu:=fun y=>l.length-y.1 }
  |_=>none }
def QjD(a:Nat)(b:List Nd)(c:List (List UInt8))(d:List Int):Prop:=a<=LN b/\c=List.map (BB d) (List.take a b)
def Hi(a:List (List UInt8))(b:Nat):List D:=[D.str (List.getD a b [])]
def QcZ:Arr:=DA
def Xn:Nd:=Nd.mk Z0 Z0 Z0 [] Z0 Z0 QcZ [] [] Z0 Z0 Z0
def Ko(a:List Nd)(b:Nat):Nd:=List.getD a (Int.toNat (↑b:Int)) Xn
def Qyp(a:List Int):D:=SI a
def Qyr(a:List Int):List Int:=Bj (LN a) fun i=>[ZI (GI a i)]
def Kp(a:List Nd)(b:Nat):Nd:=List.getD a b Xn
def QP3(a:List Nd):D:=D.sl 15 (LN a) (fun i=>(Nd.rowE (Kp a i))) Mode.any
def Qyv(a:List Nd):Prop:=SM (QP3 a)
def Qyw(a:List (List UInt8)):List (List UInt8):=B5 (LN a) fun i=>Hi a i
theorem Bqo(q : Nd -> Prop)(l : List Nd)(ks : List Int)(h : ∀b, q b -> RShow b)(hq : ∀b∈l, q b)(hl : l.length<=1000000)(hk : ks.length<=maxLen)(hj : (Lib.join (l.map (BB ks)) [32]).length<=20000000000000) :
  CD 100 [gsl 15 Nd.row1 l,isl ks .any] (.str (Lib.join (l.map (BB ks)) [32])):=by
 refine Bg (A:=sC _ _) (x:=()) (E:=Ewd q l ks) (eOk (O7 h) rfl) Tryz.func100 rfl (by kernel_rfl) rfl (by simp[sC,Ewd,EC,E0]) ?_
 refine Bi (T :=
  ∀(t:Nat),(∃(x:Nat×Nat×List (List UInt8)),QjD x.1 l x.2.2 ks/\(Z0=(NI x.1)/\(N0=LN x.2.2/\(∀(i:Nat),i<N0->Cv (List D) [] (Hi x.2.2 i))/\t=x.2.1)/\True)/\True/\t=x.2.1/\True)/\∀(x:Nat×Nat×List (List UInt8)),QjD x.1 l x.2.2 ks->ifB (decide ((NI x.1)<(LI l))) (Bc (Z0<=(NI x.1)/\(NI x.1)<(LI l)) (∀(x_1:Nat),True->SM x_1/\SM x_1/\∃(x_2:Nd),(wkL [D.agg (Nd.rowE (Ko l x.1)),Qyp ks] [D.agg (Nd.rowE x_2),SI (Qyr ks)]/\LN ks<=9223372036854775807/\q x_2)/\∀(y:Unit),True->SM x.2.1/\Bc ((LN x.2.2+N1)*16<=140737488355328/\LN x.2.2+N1<=9223372036854775807) (∀(t:Nat),(Qyv l/\SM (Qyp ks)/\Qyv l/\SM (ZI (LI l))/\True)/\∃(y:Nat×Nat×List (List UInt8)),QjD y.1 l y.2.2 ks/\LN l-y.1<LN l-x.1/\(IntKind.wrap IntKind.i64 ((NI x.1)+Z1)=(NI y.1)/\(LN x.2.2+N1=LN y.2.2/\(∀(i:Nat),i<LN x.2.2+N1->BM (LN x.2.2) (fun i=>Hi x.2.2 i) (fun i=>[D.str (List.getD [BB (Qyr ks) x_2] i [])]) i=Hi y.2.2 i)/\t=y.2.1)/\True)/\True/\t=y.2.1/\True))) (((Gx (LN x.2.2) fun i=>Hi x.2.2 i)=true/\GJ (Qyw x.2.2) [(32:UInt8)])/\∀(y:Unit),True->RT (Lib.join (Qyw x.2.2) [(32:UInt8)]=Lib.join (List.map (BB ks) l) [(32:UInt8)]))) (by kernel_rfl) ?_
 delta DA GI LI LN N0 N1 N4 NI SI SM Z0 Z1 ZI QjD Hi QcZ Xn Ko Qyp Qyr Kp QP3 Qyv Qyw RT
 try simp only[<- dm]
 try simp only[<- dn]
 simp only[Int.toNat_natCast,Bf,Bd,decide_eq_true_eq,decide_eq_false_iff_not,true_and,and_true,exists_const,forall_const,Prod.exists]
 simp only[B0]
 unfold maxLen at hk
 refine fun t=>⟨⟨0,t,[],⟨Nat.zero_le _,rfl⟩,⟨rfl,rfl,fun i hi=>absurd hi (Nat.not_lt_zero _),rfl⟩,rfl⟩,?_⟩
 rintro ⟨i,tk,out⟩ ⟨hi,ho⟩
 simp only at hi ho ⊢
 have hlen:out.length=i:=by rw[ho,List.length_map,List.length_take];omega
 refine⟨fun hlt=>?_,fun hge=>?_⟩
 ·have hlt':i<l.length:=by omega
  refine⟨⟨by omega,hlt⟩,l.getD i default,⟨Be _,hk,hq _ (BW hlt')⟩,⟨by omega,by omega⟩,fun t2=>⟨i+1,t2,out++[BB ks (l.getD i default)],⟨hlt',?_⟩,by omega,⟨?_,by simp,fun j hj=>Tn j hj,rfl⟩,rfl⟩⟩
  ·rw[B6 hlt',List.map_append,ho];rfl
  ·rw[Ba (by omega) (by omega)];rfl
 ·have e:i=l.length:=by omega
  rw[e,List.take_length] at ho
  have e1:B5 out.length (fun i=>[D.str (out.getD i [])])=out:=MS rfl fun _ _=>rfl
  have e2:Gx out.length (fun i=>[D.str (out.getD i [])])=true:=OM rfl fun _ _=>rfl
  rw[e1,ho]
  rw[ho] at e2
  refine⟨⟨?_,?_,?_⟩,rfl⟩
  ·exact e2
  ·rw[List.length_map];omega
  ·omega
noncomputable def Estm(q:Nd->Prop):Senv:=EC (RL q) 27 3 [4,5,14] (fun id=>match id with | 3=>([0,1,2,3,4,5,6,7],[5]) | 5=>([0,1,4,5,2,3,6,7,8],[2,6]) | _=>([],[]))
def QjF(a:Sm):List UInt8:=Sm.nm a
def Kq(a:Sm):Nd:=Sm.nd a
def QyB(a:Sm):D:=D.agg (Nd.rowE (Kq a))
def QjH(a:Nd)(b:Sm)(c:Nd->Prop):Prop:=isN a [QyB b] []/\c a
def QyC(a:Sm):List UInt8:=QjF a++[32,60,45,32]
def Hj(a:Nd):List UInt8:=Bt a
def QjI(a:Nd):Nat:=LN (Hj a)
def QjJ(a:Sm):List UInt8:=B4 a
def Kr(a:Sm):Nd:=Sm.te a
def QyG(a:Nd):List UInt8:=Hj a++[32,58,32]
theorem Bop(q:Nd->Prop)(s:Sm)(h:∀b,q b->RShow b)(h1:q s.nd)(h2:s.kd=3->q s.te)(hn:s.nm.length<=BC):CD 103 [.agg s.row1] (.str (B4 s)):=by
 refine Bg (A:=sC _ _) (x:=()) (E:=Estm q) (eOk (O7 h) rfl) Tryz.func103 rfl (by kernel_rfl) rfl (by simp[sC,Estm,EC,E0]) ?_
 refine Bi (T :=
  ∀(x:Nat),True->SM x/\ifB (Sm.kd s==2) (SM x/\Bc (LN (QjF s)+N4<=9223372036854775807) (SM x/\∃(x_1:Nd),QjH x_1 s q/\∀(y:Unit),True->(SM x/\SM (D.str (QjF s)))/\Bc (LN (QyC s)+QjI x_1<=9223372036854775807) (RT (QyC s++Hj x_1=QjJ s)))) (ifB (Sm.kd s==3) (SM x/\SM x/\∃(x_1:Nd),(isN x_1 [D.agg (Nd.rowE (Kr s))] []/\q x_1)/\∀(y:Unit),True->(SM x/\SM (QyB s))/\Bc (QjI x_1+3<=9223372036854775807) (∃(x:Nd),QjH x s q/\∀(y:Unit),True->Bc (LN (QyG x_1)+QjI x<=9223372036854775807) (RT (QyG x_1++Hj x=QjJ s)))) (SM x/\∃(x:Nd),QjH x s q/\∀(y:Unit),True->RT (Hj x=QjJ s)))) (by kernel_rfl) ?_
 delta DA GI LN N1 N4 SI SM Z0 ZI QjF Kq QyB QjH QyC Hj QjI QjJ Kr QyG RT
 try simp only[<- dm]
 try simp only[<- dn]
 simp only[ne_eq,Bf,Bd,true_and,and_true,beq_iff_eq,beq_eq_false_iff_ne,exists_const,forall_const]
 unfold BC at hn
 have l1:=(h _ h1).2
 rw[O1]
 refine⟨fun a=>⟨by omega,s.nd,⟨Bl _ _,h1⟩,?_,?_⟩,fun a=>⟨fun b=>?_,fun b=>⟨s.nd,⟨Bl _ _,h1⟩,?_⟩⟩⟩
 ·simp only[List.length_append,List.length_cons,List.length_nil];omega
 ·rw[if_pos a]
 ·have l2:=(h _ (h2 b)).2
  refine⟨s.te,⟨Bl _ _,h2 b⟩,by omega,s.nd,⟨Bl _ _,h1⟩,?_,?_⟩
  ·simp only[List.length_append,List.length_cons,List.length_nil];omega
  ·rw[if_neg a,if_pos b]
 ·rw[if_neg a,if_neg b]
def Tg(n:Nd):List UInt8 :=
 let x:=BB [16] (n.ki.getD 1 default)++[32]++Bt (n.ki.getD 0 default)
 if n.kd=15 then x++([32]++BB [3,4,5,16,14,15] (n.ki.getD 2 default)) else x
noncomputable def Edv(q:Nd->Prop):Senv:=EC (RL q) 30 4 [19] (fun id=>match id with | 1=>([0,1,2,3,7,8,9,10,4,5,6,11,12,13],[4,5,11]) | _=>([],[]))
def Yi(a:Nd):List Nd:=Nd.ki a
def QjK(a:Nd):Int:=(LI (Yi a))
def Qc6:Arr:=DA
def Vb:Nd:=Nd.mk Z0 Z0 Z0 [] Z0 Z0 Qc6 [] [] Z0 Z0 Z0
def QP8(a:Nd):D:=D.sl 15 (LN (Yi a)) (fun i=>Nd.row1 (List.getD (Yi a) i Vb)) Mode.any
def QjL(a:Nat)(b:Nd):Prop:=SM a/\SM (QP8 b)
def Ks(a:Nd):Nd:=List.getD (Yi a) N1 Vb
def QyK:List Int:=Bj N1 fun i=>List.getD [[ZI 16]] i []
def QyL(a:Nd):List UInt8:=BB QyK a
def Kt(a:Nd):Nd:=List.getD (Yi a) N0 Vb
def QyP(a:Nd):List UInt8:=QyL a++[32]
def Ku(a:Nd):Nd:=List.getD (Yi a) N2 Vb
def QyT(a:Nat):List D:=List.getD [[ZI 3],[ZI 4],[ZI 5],[ZI 16],[ZI 14],[ZI 15]] a []
def QyU:List Int:=Bj N6 fun i=>QyT i
def QyV(a:Nd):List UInt8:=BB QyU a
def QjN(a b:Nd):List UInt8:=QyP a++Bt b
def QyW(a:Nd):List UInt8:=(32:UInt8)::List.append [] (QyV a)
theorem BpK(q:Nd->Prop)(n:Nd)(h:∀b,q b->RShow b)(hq:∀b∈n.ki,q b)(h2:2<=n.ki.length)(h3:n.kd=15->n.ki.length=3):CD 102 [.agg n.row2] (.str (Tg n)):=by
 refine Bg (A:=sC _ _) (x:=()) (E:=Edv q) (eOk (O7 h) rfl) Tryz.func102 rfl (by kernel_rfl) rfl (by simp[sC,Edv,EC,E0]) ?_
 refine Bi (T :=
  ∀(x:Nat),True->SM x/\Bc (Z0<=Z1/\Z1<QjK n) (SM x/\Bc (Z0<=Z0/\Z0<QjK n) (QjL x n/\QjL x n/\∃(x_1:Nd),(wkL [D.agg (Nd.rowE (Ks n)),D.sl N1 N1 (fun i=>List.getD [[ZI 16]] i []) Mode.full] [D.agg (Nd.row1 x_1),SI QyK]/\N1<=9223372036854775807/\q x_1)/\∀(y:Unit),True->QjL x n/\Bc (LN (QyL x_1)+N1<=9223372036854775807) (∃(x_2:Nd),(isN x_2 [D.agg (Nd.rowE (Kt n))] []/\q x_2)/\∀(y:Unit),True->Bc (LN (QyP x_1)+LN (Bt x_2)<=9223372036854775807) (SM x/\ifB (Nd.kd n==15) (SM x/\Bc (Z0<=2/\(2:Int)<QjK n) (∃(x:Nd),(wkL [D.agg (Nd.rowE (Ku n)),D.sl N1 N6 (fun i=>QyT i) Mode.full] [D.agg (Nd.row1 x),SI QyU]/\N6<=9223372036854775807/\q x)/\∀(y:Unit),True->Bc (N1+LN (QyV x)<=9223372036854775807) (Bc (LN (QjN x_1 x_2)+LN (QyW x)<=9223372036854775807) (RT (QjN x_1 x_2++QyW x=Tg n))))) (RT (QjN x_1 x_2=Tg n))))))) (by kernel_rfl) ?_
 delta DA GI LI LN N0 N1 N2 N4 N6 SI SM Z0 Z1 ZI QyW Yi QjK Qc6 Vb QP8 QjL Ks QyK QyL Kt QyP Ku QyT QyU QyV QjN RT
 try simp only[<- dm]
 try simp only[<- dn]
 simp only[ne_eq,Bf,Bd,true_and,and_true,beq_iff_eq,beq_eq_false_iff_ne,exists_const,forall_const]
 have i1:Bj 1 (fun i=>[[D.int IntKind.i64 16]].getD i [])=[16]:=rfl
 have i6:Bj 6 (fun i=>[[D.int IntKind.i64 3],[D.int IntKind.i64 4],[D.int IntKind.i64 5],[D.int IntKind.i64 16],[D.int IntKind.i64 14],[D.int IntKind.i64 15]].getD i [])=[3,4,5,16,14,15]:=rfl
 have p1:IntsP 1 (fun i=>[[D.int IntKind.i64 16]].getD i []):=fun i hi=>by
  match i,hi with
  |0,_=>rfl
 have p6:IntsP 6 (fun i=>[[D.int IntKind.i64 3],[D.int IntKind.i64 4],[D.int IntKind.i64 5],[D.int IntKind.i64 16],[D.int IntKind.i64 14],[D.int IntKind.i64 15]].getD i []):=fun i hi=>by
  match i,hi with
  |0,_=>rfl
  |1,_=>rfl
  |2,_=>rfl
  |3,_=>rfl
  |4,_=>rfl
  |5,_=>rfl
 have q0:=hq _ (BW (l:=n.ki) (i:=0) (by omega))
 have q1:=hq _ (BW (l:=n.ki) (i:=1) (by omega))
 have wl:∀(ks:List Int) (b:Nd),q b->(BB ks b).length<=20000000000004:=fun ks b hb=>by
  have h1:=CU ks b.kd (Bt b)
  have h2:=(h b hb).2
  unfold BB
  omega
 have r0:=(h _ q0).2
 have r1:=wl [16] _ q1
 refine⟨⟨by omega,by omega⟩,⟨by omega,by omega⟩,n.ki.getD 1 default,⟨Ck (r:=(n.ki.getD 1 default).row1) p1,by omega,q1⟩,?_,n.ki.getD 0 default,⟨Bl _ _,q0⟩,?_,fun hk=>?_,fun hk=>?_⟩
 ·rw[i1];omega
 ·rw[i1];simp only[List.length_append,List.length_cons,List.length_nil];omega
 ·have hl:=h3 hk
  have q2:=hq _ (BW (l:=n.ki) (i:=2) (by omega))
  have r2:=wl [3,4,5,16,14,15] _ q2
  refine⟨⟨by omega,by omega⟩,n.ki.getD 2 default,⟨Ck (r:=(n.ki.getD 2 default).row1) p6,by omega,q2⟩,?_,?_,?_⟩
  ·rw[i6];omega
  ·rw[i1,i6];simp only[List.length_append,List.length_cons,List.length_nil,List.append_eq];omega
  ·rw[i1,i6]
   unfold Tg
   rw[if_pos hk]
   rfl
 ·rw[i1]
  unfold Tg
  rw[if_neg hk]
def Bd3(n:Nd)(q:Nd->Prop)(qs:Sm->Prop):Con:=fun k ds S=>match k with
 |99=>some (pA ds S (.str (GP n.va)) (wkL ds [.agg n.va.row1]))
 |77=>some (pA ds S (.str (Cf n.pr)) (wkL ds [.int .i64 n.pr]))
 |78=>some (pA ds S (.str (opT n.op)) (wkL ds [.int .i64 n.op]))
 |100=>match ds with
  | [_,.sl 1 m f _]=>some (pA ds S (.str (Lib.join (n.ki.map (BB (Bj m f))) [32])) (wkL ds [gsl 15 Nd.row1 n.ki,isl (Bj m f) .any]/\m<=maxLen/\n.ki.length<=1000000/\(Lib.join (n.ki.map (BB (Bj m f))) [32]).length<=20000000000000))
  |_=>none
 |102=>some (pA ds S (.str (Tg n)) (isN2 n ds []/\2<=n.ki.length/\(n.kd=15->n.ki.length=3)))
 |103=>some (pE (β:=Sm) ds S (fun s=>.str (B4 s)) (fun s=>isS s ds []/\qs s))
 |k=>RL q k ds S
theorem Bh3{n:Nd}{q:Nd->Prop}{qs:Sm->Prop}(ho:n.ok)(h:∀b,q b->RShow b)(hq:∀b∈n.ki,q b)(hs:∀s,qs s->q s.nd/\(s.kd=3->q s.te)/\s.nm.length<=BC):ConOk Tryz.prog (Bd3 n q qs):=by
 intro k ds S A hh
 unfold Bd3 at hh
 split at hh
 ·injection hh with hh;subst hh
  exact Bo fun e=>CD.at_ (CD.wk (show CD _ [.agg n.va.row1] _ from (Bnb n.va (OX ho)).mono fun _ _ ⟨_,h1,h2,h3⟩=>⟨(),trivial,h2,h3⟩) e) _
 ·injection hh with hh;subst hh
  exact Bo fun e=>CD.at_ (CD.wk (Bl6 n.pr) e) _
 ·injection hh with hh;subst hh
  exact Bo fun e=>CD.at_ (CD.wk (BkC n.op) e) _
 ·split at hh
  ·injection hh with hh;subst hh
   exact Bo fun ⟨e,hm,hl,hj⟩=>CD.at_ (CD.wk (Bqo q n.ki _ h hq hl (by rw[BJ];exact hm) hj) e) _
  ·cases hh
 ·injection hh with hh;subst hh
  exact Bo fun ⟨e,h2,h3⟩=>CD.at_ (CD.wk (BpK q n h hq h2 h3) e) _
 ·injection hh with hh;subst hh
  exact Co fun s ⟨e,hb⟩=>CD.at_ (CD.wk (Bop q s h (hs s hb).1 (hs s hb).2.1 (hs s hb).2.2) e) _
 ·exact O7 h _ _ _ _ hh
theorem OC{d:D}{m:Nat}{f:Nat->List D}{md:Ab.Mode}(h:IntsP m f):wkL [d,.sl 1 m f md] [d,isl (Bj m f) .any]:=by
 simp only[wkL]
 refine⟨Bh _,?_,trivial⟩
 simp only[isl,wkD,Bb]
 refine⟨by simp,by simp[BJ],fun i hi=>?_,by simp[BG]⟩
 have e:(Bj m f).getD i 0=Bio (f i):=by simp[Bj,List.getD_eq_getElem?_getD,hi]
 rw[e,h i hi]
 exact Be _
noncomputable def Eshn(n:Nd)(q:Nd->Prop)(qs:Sm->Prop):Senv:={ EC (Bd3 n q qs) 111 4 [5,7,8,13,17,19,21,23,25,27,29,34,39,45,60,83,89,95,96,97,98] (fun id=>match id with | 25=>([0,1,2,3,7,8,9,10,4,5,6,11,12,13],[4,5,11]) | 27=>([0,1,2,3,7,8,9,10,15,16,17,18,4,5,6,11,12,13,14,19,20,21],[4,5,11,12,19]) | _=>([],[])) with
 mg:=fun _=>2
 gh:=fun b=>match b with
  |1=>[.slot 3]
  |_=>[]
 ann:=fun b _ S=>match b with
  |1=>some { slots:=[97,3],keep:=[0,1,95,96],α:=Nat×Nat×List (List UInt8),st:=fun y=>([.int .i64 y.1,ssl y.2.2 (.tok 0 y.2.1)],⟨S.objs,[(0,y.2.1)]⟩),inv:=fun y=>y.1<=n.bo.length/\y.2.2=(n.bo.take y.1).map B4,mu:=fun y=>n.bo.length-y.1 }
  |_=>none }
def Qm(a:Nd):Int:=Nd.kd a
def Hk(a:Nd):Arr:=Nd.va a
def QyX(a:Nd):Int:=Arr.k (Hk a)
def QyY(a:Nd):D:=ZI (QyX a)
def QyZ(a:Nd):List Int:=Arr.sh (Hk a)
def QjO(a:Nd):Nat:=LN (QyZ a)
def Qy0(a:Nd)(b:Nat):List D:=[ZI (GI (QyZ a) b)]
def Qy1(a:Nd):D:=D.sl N1 (QjO a) (fun i=>Qy0 a i) Mode.any
def Qy2(a:Nd):List Int:=Arr.nu (Hk a)
def QjP(a:Nd):Nat:=LN (Qy2 a)
def Qy3(a:Nd)(b:Nat):List D:=[ZI (GI (Qy2 a) b)]
def Qy4(a:Nd):D:=D.sl N1 (QjP a) (fun i=>Qy3 a i) Mode.any
def Qy5(a:Nd):List Arr:=Arr.it (Hk a)
def QjQ(a:Nd):Nat:=LN (Qy5 a)
def Vc:Arr:=DA
def Qy6(a:Nd)(b:Nat):List D:=Arr.row (List.getD (Qy5 a) b Vc)
def Qy7(a:Nd):D:=D.sl N4 (QjQ a) (fun i=>Qy6 a i) Mode.any
def Qy8(a:Nd):List D:=[D.agg [QyY a,Qy1 a,Qy4 a,Qy7 a]]
def Qn(a:Nd):List UInt8:=Bt a
def Qv:Prop:=True/\True
def QjR(a:Nd):List UInt8:=Nd.tx a
def Hl(a:Nd):Int:=Nd.pr a
def Hm(a:Nd):Int:=Nd.op a
def Xo(a:Nd):List Nd:=Nd.ki a
def Vz(a:Nd):Nat:=LN (Xo a)
def QL:Nd:=Nd.mk Z0 Z0 Z0 [] Z0 Z0 Vc [] [] Z0 Z0 Z0
def Qy9(a:Nd)(b:Nat):List D:=Nd.row1 (List.getD (Xo a) b QL)
def Yj(a:Nd):D:=D.sl 15 (Vz a) (fun i=>Qy9 a i) Mode.any
def Qza:List (List D):=[[ZI 4],[ZI 5]]
def Qzb(a:Nat):List D:=List.getD ([ZI 3]::Qza) a []
def Qzc:List Int:=Bj (3:Nat) fun i=>Qzb i
def Qzd(a:Nd):List UInt8:=Lib.join (List.map (BB Qzc) (Xo a)) [(32:UInt8)]
def Hn(a:Nd):Int:=(NI (Vz a))
def Qp(a:Nat)(b:Nd):Prop:=SM a/\SM (Yj b)
def Kv(a:Nd):Nd:=List.getD (Xo a) N0 QL
def Vd:Sm:=Sm.mk Z0 Z0 [] Z0 QL QL
def Qzh:List Int:=Bj N1 fun i=>List.getD [[ZI 16]] i []
def Qzi(a b:Nd)(c:Nd->Prop):Prop:=wkL [D.agg (Nd.rowE (Kv a)),D.sl N1 N1 (fun i=>List.getD [[ZI 16]] i []) Mode.full] [D.agg (Nd.row1 b),SI Qzh]/\N1<=9223372036854775807/\c b
def QjS(a:Nd):List UInt8:=BB Qzh a
def Qzj(a:Nd):Nat:=LN (QjS a)
def Kw(a:Nd):Nd:=List.getD (Xo a) N1 QL
def Qzn(a:Nd):D:=D.agg (Nd.rowE (Kw a))
def Qzo(a:Nd):List UInt8:=QjS a++[32]
def Qzp(a:Nat):List D:=List.getD Qza a []
def Qzq:List Int:=Bj N2 fun i=>Qzp i
def Qzr(a b:Nd)(c:Nd->Prop):Prop:=wkL [Qzn a,D.sl N1 N2 (fun i=>Qzp i) Mode.full] [D.agg (Nd.row1 b),SI Qzq]/\N2<=9223372036854775807/\c b
def Qzs(a:Nd):List UInt8:=BB Qzq a
def Qzt(a:Nd):Nat:=LN (Qzs a)+N1
def Qzu(a:Nd):List UInt8:=Qzs a++[32]
def Qzv(a b:Nd):List UInt8:=Qzu a++QjS b
def Kx(a:Nd):Nd:=List.getD (Xo a) N2 QL
def Qzz(a b:Nd):List UInt8:=Qzv a b++[32]
def QzA(a:Nd)(b:Nd->Prop)(c:Nat)(d:Nd):Prop:=∃(x:Nd),Qzi a x b/\∀(_y:Unit),True->Qp c a/\Bc (LN (Qzu d)+Qzj x<=9223372036854775807) (Bc (LN (Qzv d x)+N1<=9223372036854775807) (∃(x_1:Nd),(isN x_1 [D.agg (Nd.rowE (Kx a))] []/\b x_1)/\∀(_y:Unit),True->Bc (LN (Qzz d x)+LN (Qn x_1)<=9223372036854775807) (True/\∃(_y:Unit),True/\Qzz d x++Qn x_1=Qn a/\Qv)))
def QzB(a:Nat)(b:Nd)(c:Nd->Prop):Prop:=Qp a b/\Qp a b/\Qp a b/\∃(x:Nd),Qzr b x c/\∀(_y:Unit),True->Qp a b/\Qp a b/\Bc (Qzt x<=9223372036854775807) (QzA b c a x)
def QzC(a:Nat):List D:=List.getD [[ZI 4],[ZI 5],[ZI 16]] a []
def QzD:List Int:=Bj (3:Nat) fun i=>QzC i
def QzE(a:Nd):List UInt8:=Lib.join (List.map (BB QzD) (Xo a)) [(32:UInt8)]
def QzF(a:Nd):Int:=Nd.at_ a
def QzG(a:Nd):Int:=Nd.cl a
def Qdd(a:Nd):List Sm:=Nd.bo a
def Xp(a:Nd):Nat:=LN (Qdd a)
def Yk(a:Nd)(b:Nat):Sm:=List.getD (Qdd a) b Vd
def QzN(a:Nd)(b:Nat):List D:=(Sm.row1 (Yk a b))
def QzO(a:Nd):D:=D.sl 34 (Xp a) (fun i=>QzN a i) Mode.any
def QzP(a:Nd):Int:=Nd.de a
def QzQ(a:Nd):Int:=Nd.sl a
def QzR(a:Nd):Int:=Nd.ss a
def QzS(a:Nd):D:=D.agg [ZI (Qm a),ZI (QzF a),ZI (QzG a),D.str (QjR a),ZI (Hl a),ZI (Hm a),QyY a,Qy1 a,Qy4 a,Qy7 a,Yj a,QzO a,ZI (QzP a),ZI (QzQ a),ZI (QzR a)]
def QzT(a:Nat)(b:Nd):Prop:=SM a/\∃(_x:Unit),(isN2 b [QzS b] []/\N2<=Vz b/\(Qm b=15->Vz b=3))/\∀(_y:Unit),True->True/\∃(_y:Unit),True/\Tg b=Qn b/\Qv
def QjT(a:Nat)(b:Nd)(c:List (List UInt8)):Prop:=a<=Xp b/\c=List.map B4 (List.take a (Qdd b))
def Ho(a:List (List UInt8))(b:Nat):List D:=[D.str (List.getD a b [])]
def QzU(a:Nat)(b:Nd)(c d:Nat):Prop:=(SM a/\(SM (Qm b)/\SM (QzF b)/\SM (QzG b)/\SM (QjR b)/\SM (Hl b)/\SM (Hm b)/\SM (QyX b)/\(SM (QjO b)/\(∀(i:Nat),i<QjO b->SM (Qy0 b i))/\True)/\(SM (QjP b)/\(∀(i:Nat),i<QjP b->SM (Qy3 b i))/\True)/\(SM (QjQ b)/\(∀(i:Nat),i<QjQ b->SM (Qy6 b i))/\True)/\(SM (Vz b)/\(∀(i:Nat),i<Vz b->SM (Qy9 b i))/\True)/\(SM (Xp b)/\(∀(i:Nat),i<Xp b->SM (QzN b i))/\True)/\SM (QzP b)/\SM (QzQ b)/\SM (QzR b)/\True)/\True)/\c=d/\True
def QjU(a:Nd):Int:=(NI (Xp a))
def Yl(a:Nd)(b:Nat):Sm:=List.getD (Qdd a) (Int.toNat (↑b:Int)) Vd
def Qz1(a:List (List UInt8)):List (List UInt8):=B5 (LN a) fun i=>Ho a i
def Qz2(a:List (List UInt8)):List UInt8:=Lib.join (Qz1 a) [(32:UInt8),(59:UInt8),(32:UInt8)]
def Qz3(a:List (List UInt8)):List UInt8:=List.append [] (Qz2 a)
def Qz4(a:Nat)(b:Nd)(c:Sm->Prop):Prop:=SM a/\∀(t:Nat),(∃(x:Nat×Nat×List (List UInt8)),QjT x.1 b x.2.2/\(Z0=(NI x.1)/\(N0=LN x.2.2/\(∀(i:Nat),i<N0->Cv (List D) [] (Ho x.2.2 i))/\t=x.2.1)/\True)/\QzU a b t x.2.1)/\∀(x:Nat×Nat×List (List UInt8)),QjT x.1 b x.2.2->ifB (decide ((NI x.1)<QjU b)) (Bc (Z0<=(NI x.1)/\(NI x.1)<QjU b) (∀(x_1:Nat),a≠x_1/\True->SM x_1/\SM x_1/\∃(x_2:Sm),(isS x_2 [D.agg (Sm.row1 (Yl b x.1))] []/\c x_2)/\∀(_y:Unit),True->SM x.2.1/\Bc ((LN x.2.2+N1)*16<=140737488355328/\LN x.2.2+N1<=9223372036854775807) (∀(t:Nat),(SM (QzS b)/\SM (D.ref N0 a N0)/\SM (QzO b)/\SM (ZI (QjU b))/\True)/\∃(y:Nat×Nat×List (List UInt8)),QjT y.1 b y.2.2/\Xp b-y.1<Xp b-x.1/\(IntKind.wrap IntKind.i64 ((NI x.1)+Z1)=(NI y.1)/\(LN x.2.2+N1=LN y.2.2/\(∀(i:Nat),i<LN x.2.2+N1->BM (LN x.2.2) (fun i=>Ho x.2.2 i) (fun i=>[D.str (List.getD [B4 x_2] i [])]) i=Ho y.2.2 i)/\t=y.2.1)/\True)/\QzU a b t y.2.1))) (((Gx (LN x.2.2) fun i=>Ho x.2.2 i)=true/\GJ (Qz1 x.2.2) [(32:UInt8),(59:UInt8),(32:UInt8)])/\∀(_y:Unit),True->Bc (N2+LN (Qz2 x.2.2)<=9223372036854775807) (Bc (LN ((123:UInt8)::(32:UInt8)::Qz3 x.2.2)+N2<=9223372036854775807) (True/\∃(_y:Unit),True/\(123:UInt8)::(32:UInt8)::List.append (Qz3 x.2.2) [(32:UInt8),(125:UInt8)]=Qn b/\Qv)))
theorem Bna(n : Nd)(q : Nd -> Prop)(qs : Sm -> Prop)(hv : Bz n=true)(ho : n.ok)(hz : szN n<=16384)(h : ∀b, q b -> RShow b)(hq : ∀b∈n.ki, q b)(hs : ∀s, qs s -> q s.nd /\ (s.kd=3 -> q s.te) /\ s.nm.length<=BC)(hqs : n.kd=10 -> ∀s∈n.bo, qs s) :
  CD 84 [.agg n.row2] (.str (Bt n)):=by
 refine Bg (A:=sC _ _) (x:=()) (E:=Eshn n q qs) (eOk (Bh3 ho h hq hs) rfl) Tryz.func84 rfl (by kernel_rfl) rfl (by simp[sC,Eshn,EC,E0]) ?_
 refine Bi (T :=
  ∀(x:Nat),True->SM x/\ifB (Qm n==Z1) (SM x/\∃(x:Unit),wkL (Qy8 n) (Qy8 n)/\∀(y:Unit),True->True/\∃(y:Unit),True/\GP (Hk n)=Qn n/\Qv) (ifB (Qm n==2) (SM x/\True/\∃(y:Unit),True/\QjR n=Qn n/\Qv) (ifB (Qm n==6) (True/\∃(y:Unit),True/\[(88:UInt8)]=Qn n/\Qv) (ifB (Qm n==7) (True/\∃(y:Unit),True/\[(89:UInt8)]=Qn n/\Qv) (ifB (Qm n==8) (True/\∃(y:Unit),True/\[(97:UInt8),(114:UInt8),(103:UInt8)]=Qn n/\Qv) (ifB (Qm n==11) (True/\∃(y:Unit),True/\[(115:UInt8),(101:UInt8),(108:UInt8),(102:UInt8)]=Qn n/\Qv) (ifB (Qm n==12) (True/\∃(y:Unit),True/\[(70:UInt8)]=Qn n/\Qv) (ifB (Qm n==13) (True/\∃(y:Unit),True/\[(71:UInt8)]=Qn n/\Qv) (ifB (Qm n==9) (SM x/\∃(x:Unit),wkL [ZI (Hl n)] [ZI (Hl n)]/\∀(y:Unit),True->True/\∃(y:Unit),True/\Cf (Hl n)=Qn n/\Qv) (ifB (Qm n==17) (SM x/\∃(x:Unit),wkL [ZI (Hm n)] [ZI (Hm n)]/\∀(y:Unit),True->True/\∃(y:Unit),True/\opT (Hm n)=Qn n/\Qv) (ifB (Qm n==3) (SM x/\∃(x:Unit),(wkL [Yj n,D.sl N1 (3:Nat) (fun i=>Qzb i) Mode.full] [Yj n,SI Qzc]/\(3:Nat)<=9223372036854775807/\Vz n<=1000000/\LN (Qzd n)<=20000000000000)/\∀(y:Unit),True->True/\∃(y:Unit),True/\Qzd n=Qn n/\Qv) (ifB (Qm n==4) (SM x/\Bc (Z0<=Z0/\Z0<Hn n) (SM x/\Bc (Z0<=Z1/\Z1<Hn n) (Qp x n/\Qp x n/\∃(x_1:Nd),Qzi n x_1 q/\∀(y:Unit),True->Qp x n/\Bc (Qzj x_1+N1<=9223372036854775807) (∃(x:Nd),(isN x [Qzn n] []/\q x)/\∀(y:Unit),True->Bc (LN (Qzo x_1)+LN (Qn x)<=9223372036854775807) (True/\∃(y:Unit),True/\Qzo x_1++Qn x=Qn n/\Qv))))) (ifB (Qm n==5) (SM x/\Bc (Z0<=Z1/\Z1<Hn n) (SM x/\Bc (Z0<=Z0/\Z0<Hn n) (SM x/\Bc (Z0<=2/\(2:Int)<Hn n) ((Qp x n/\Qp x n/\Qp x n/\(∃(x_1:Nd),Qzr n x_1 q/\∀(y:Unit),True->Qp x n/\Qp x n/\Bc (Qzt x_1<=9223372036854775807) (Qp x n/\Qp x n/\QzA n q x x_1))/\QzB x n q)/\Qp x n/\Qp x n/\Qp x n/\QzB x n q)))) (ifB (Qm n==16) (SM x/\∃(x:Unit),(wkL [Yj n,D.sl N1 (3:Nat) (fun i=>QzC i) Mode.full] [Yj n,SI QzD]/\(3:Nat)<=9223372036854775807/\Vz n<=1000000/\LN (QzE n)<=20000000000000)/\∀(y:Unit),True->True/\∃(y:Unit),True/\QzE n=Qn n/\Qv) (ifB (Qm n==14) (ifB (Qm n==14) (QzT x n) (Qz4 x n qs)) (ifB (Qm n==15) (QzT x n) (Qz4 x n qs))))))))))))))))) (by kernel_rfl) ?_
 delta DA GI LN N0 N1 N2 N4 NI SI SM Z0 Z1 ZI Qm Hk Qy3 QzT QjT Ho QzU QjU Yl Qy4 Qy5 Qz1 Qz2 Qz3 Qz4 QjQ Vc Qy6 Qy7 Qy8 Qn Qv QyX QjR Hl Hm Xo Vz QL Qy9 Yj Qza Qzb QyY Qzc Qzd Hn Qp Kv QyZ Vd Qzh Qzi QjS Qzj Kw QjO Qzn Qzo Qzp Qzq Qzr Qzs Qzt Qy0 Qzu Qzv Kx Qzz Qy1 QzA QzB QzC QzD QzE QzF QzG Qdd Xp Yk Qy2 QjP QzN QzO QzP QzQ QzR QzS
 try simp only[<- dm]
 try simp only[<- dn]
 simp only[ne_eq,implies_true,Int.toNat_natCast,Bf,Bd,decide_eq_true_eq,decide_eq_false_iff_not,true_and,and_true,beq_iff_eq,beq_eq_false_iff_ne,exists_const,forall_const,Prod.exists]
 have i1:Bj 1 (fun i=>[[D.int IntKind.i64 16]].getD i [])=[16]:=rfl
 have i2:Bj 2 (fun i=>[[D.int IntKind.i64 4],[D.int IntKind.i64 5]].getD i [])=[4,5]:=rfl
 have i3:∀a b c:Int,Bj 3 (fun i=>[[D.int IntKind.i64 a],[D.int IntKind.i64 b],[D.int IntKind.i64 c]].getD i [])=[a,b,c]:=fun _ _ _=>rfl
 have p1:IntsP 1 (fun i=>[[D.int IntKind.i64 16]].getD i []):=fun i hi=>by
  match i,hi with
  |0,_=>rfl
 have p2:IntsP 2 (fun i=>[[D.int IntKind.i64 4],[D.int IntKind.i64 5]].getD i []):=fun i hi=>by
  match i,hi with
  |0,_=>rfl
  |1,_=>rfl
 have p3:∀a b c:Int,IntsP 3 (fun i=>[[D.int IntKind.i64 a],[D.int IntKind.i64 b],[D.int IntKind.i64 c]].getD i []):=fun _ _ _ i hi=>by
  match i,hi with
  |0,_=>rfl
  |1,_=>rfl
  |2,_=>rfl
 obtain ⟨L2,L3,_⟩:=IM hv
 have kq:∀i,i<n.ki.length->q (n.ki.getD i default):=fun i hi=>hq _ (BW hi)
 have wl:∀(ks:List Int) (b:Nd),q b->(BB ks b).length<=20000000000004:=fun ks b hb=>by
  have h1:=CU ks b.kd (Bt b)
  have h2:=(h b hb).2
  unfold BB
  omega
 have sg:∀i,i<n.ki.length->(BX n.ki).getD i []=Bt (n.ki.getD i default):=fun i hi=>I7 hi
 have hlen:=Ev n hv ho
 have hkl:n.ki.length<=szL n.ki:=by
  have:∀l:List Nd,l.length<=szL l:=fun l=>by
   induction l with
   |nil=>simp[szL]
   |cons a r ih=>have:=BaR a;simp only[List.length_cons,szL];omega
  exact this _
 have hsz:=BaW n
 have hbl:n.bo.length<=szB n.bo:=by
  have:∀l:List Sm,l.length<=szB l:=fun l=>by
   induction l with
   |nil=>simp[szB]
   |cons a r ih =>
    have:=BaR a.nd
    have e:=TV a
    simp only[List.length_cons,szB]
    split at e<;>omega
  exact this _
 simp only[i1,i2,i3]
 rw[CT] at hlen ⊢
 refine fun x=>⟨fun k=>?_,fun n1=>⟨fun k=>?_,fun n2=>⟨fun k=>?_,fun n6=>⟨fun k=>?_,fun n7=>⟨fun k=>?_,fun n8=>⟨fun k=>?_,fun n11=>⟨fun k=>?_,fun n12=>⟨fun k=>?_,fun n13=>⟨fun k=>?_,fun n9=>⟨fun k=>?_,fun n17=>⟨fun k=>?_,fun n3=>⟨fun k=>?_,fun n4=>⟨fun k=>?_,fun n5=>⟨fun k=>?_,fun n16=>⟨fun k=>⟨fun _=>?_,fun e=>(e k).elim⟩,fun n14=>⟨fun k=>?_,fun n15=>?_⟩⟩⟩⟩⟩⟩⟩⟩⟩⟩⟩⟩⟩⟩⟩⟩
 ·exact⟨Be _,by rw[if_pos k]⟩
 ·rw[if_neg n1,if_pos k]
 ·rw[if_neg n1,if_neg n2,if_pos k]
 ·rw[if_neg n1,if_neg n2,if_neg n6,if_pos k]
 ·rw[if_neg n1,if_neg n2,if_neg n6,if_neg n7,if_pos k]
 ·rw[if_neg n1,if_neg n2,if_neg n6,if_neg n7,if_neg n8,if_pos k]
 ·rw[if_neg n1,if_neg n2,if_neg n6,if_neg n7,if_neg n8,if_neg n11,if_pos k]
 ·rw[if_neg n1,if_neg n2,if_neg n6,if_neg n7,if_neg n8,if_neg n11,if_neg n12,if_pos k]
 ·exact⟨Be _,by rw[if_neg n1,if_neg n2,if_neg n6,if_neg n7,if_neg n8,if_neg n11,if_neg n12,if_neg n13,if_pos k]⟩
 ·exact⟨Be _,by rw[if_neg n1,if_neg n2,if_neg n6,if_neg n7,if_neg n8,if_neg n11,if_neg n12,if_neg n13,if_neg n9,if_pos k]⟩
 ·rw[if_neg n1,if_neg n2,if_neg n6,if_neg n7,if_neg n8,if_neg n11,if_neg n12,if_neg n13,if_neg n9,if_neg n17,if_pos k] at hlen ⊢
  exact⟨⟨OC (p3 _ _ _),by omega,by omega,by omega⟩,rfl⟩
 ·rw[if_neg n1,if_neg n2,if_neg n6,if_neg n7,if_neg n8,if_neg n11,if_neg n12,if_neg n13,if_neg n9,if_neg n17,if_neg n3,if_pos k]
  have hL:n.ki.length=2:=L2 (.inl k)
  have q0:=kq 0 (by omega)
  have q1:=kq 1 (by omega)
  have r0:=(h _ q0).2
  have r1:=(h _ q1).2
  have w0:=wl [16] _ q0
  have w1:=wl [4,5] _ q1
  rw[sg 0 (by omega),sg 1 (by omega)]
  repeat' (first
   |refine⟨n.ki.getD 0 default,⟨Ck (r:=(n.ki.getD 0 default).row1) p1,by omega,q0⟩,?_⟩
   |refine⟨n.ki.getD 1 default,⟨Ck (r:=(n.ki.getD 1 default).row1) p2,by omega,q1⟩,?_⟩
   |refine⟨n.ki.getD 0 default,⟨Bl _ _,q0⟩,?_⟩
   |refine⟨n.ki.getD 1 default,⟨Bl _ _,q1⟩,?_⟩
   |refine And.intro ?_ ?_)
  all_goals first
   |rfl
   |omega
   |(simp only[List.length_append,List.length_cons,List.length_nil];omega)
 ·rw[if_neg n1,if_neg n2,if_neg n6,if_neg n7,if_neg n8,if_neg n11,if_neg n12,if_neg n13,if_neg n9,if_neg n17,if_neg n3,if_neg n4,if_pos k]
  have hL:n.ki.length=3:=L3 (.inl k)
  have q0:=kq 0 (by omega)
  have q1:=kq 1 (by omega)
  have r0:=(h _ q0).2
  have r1:=(h _ q1).2
  have w0:=wl [16] _ q0
  have w1:=wl [4,5] _ q1
  have q2:=kq 2 (by omega)
  have r2:=(h _ q2).2
  rw[sg 0 (by omega),sg 1 (by omega),sg 2 (by omega)]
  repeat' (first
   |refine⟨n.ki.getD 0 default,⟨Ck (r:=(n.ki.getD 0 default).row1) p1,by omega,q0⟩,?_⟩
   |refine⟨n.ki.getD 1 default,⟨Ck (r:=(n.ki.getD 1 default).row1) p2,by omega,q1⟩,?_⟩
   |refine⟨n.ki.getD 0 default,⟨Bl _ _,q0⟩,?_⟩
   |refine⟨n.ki.getD 1 default,⟨Bl _ _,q1⟩,?_⟩
   |refine⟨n.ki.getD 2 default,⟨Bl _ _,q2⟩,?_⟩
   |refine And.intro ?_ ?_)
  all_goals first
   |rfl
   |omega
   |(simp only[List.length_append,List.length_cons,List.length_nil];omega)
 ·rw[if_neg n1,if_neg n2,if_neg n6,if_neg n7,if_neg n8,if_neg n11,if_neg n12,if_neg n13,if_neg n9,if_neg n17,if_neg n3,if_neg n4,if_neg n5,if_pos k] at hlen ⊢
  exact⟨⟨OC (p3 _ _ _),by omega,by omega,by omega⟩,rfl⟩
 ·rw[if_neg n1,if_neg n2,if_neg n6,if_neg n7,if_neg n8,if_neg n11,if_neg n12,if_neg n13,if_neg n9,if_neg n17,if_neg n3,if_neg n4,if_neg n5,if_neg n16,if_pos k]
  have hL:=(L2 (.inr k))
  refine⟨⟨CJ n _,by omega,fun e=>L3 (.inr e)⟩,?_⟩
  unfold Tg
  rw[sg 0 (by omega),sg 1 (by omega),if_neg (by omega)]
  rfl
 ·rw[if_neg n1,if_neg n2,if_neg n6,if_neg n7,if_neg n8,if_neg n11,if_neg n12,if_neg n13,if_neg n9,if_neg n17,if_neg n3,if_neg n4,if_neg n5,if_neg n16,if_neg n14,if_pos k]
  have hL:=(L3 (.inr k))
  refine⟨⟨CJ n _,by omega,fun e=>L3 (.inr e)⟩,?_⟩
  unfold Tg
  rw[sg 0 (by omega),sg 1 (by omega),sg 2 (by omega),if_pos k]
  simp only[List.append_assoc]
  rfl
 ·have k10:n.kd=10:=by
   by_cases hk:n.kd=10
   ·exact hk
   ·rcases Eg hv hk with hc | ⟨hc,_⟩
    ·unfold C3 at hc
     simp[n1,n2,n6,n7,n8,n9,n11,n12,n13,n17] at hc
    ·unfold CR at hc
     simp[n3,n4,n5,n14,n15,n16] at hc
  rw[if_neg n1,if_neg n2,if_neg n6,if_neg n7,if_neg n8,if_neg n11,if_neg n12,if_neg n13,if_neg n9,if_neg n17,if_neg n3,if_neg n4,if_neg n5,if_neg n16,if_neg n14,if_neg n15] at hlen ⊢
  refine fun t=>⟨⟨0,t,[],⟨Nat.zero_le _,rfl⟩,⟨rfl,rfl,fun i hi=>absurd hi (Nat.not_lt_zero _),rfl⟩,rfl⟩,?_⟩
  rintro ⟨i,tk,out⟩ ⟨hi,hout⟩
  simp only at hi hout ⊢
  have hol:out.length=i:=by rw[hout,List.length_map,List.length_take];omega
  refine⟨fun hlt=>?_,fun hge=>?_⟩
  ·have hlt':i<n.bo.length:=by omega
   refine⟨⟨by omega,hlt⟩,fun _ _=>⟨n.bo.getD i default,⟨Il _ _,hqs k10 _ (C4 hlt')⟩,⟨by omega,by omega⟩,fun t2=>⟨i+1,t2,out++[B4 (n.bo.getD i default)],⟨hlt',?_⟩,by omega,⟨?_,by simp,fun j hj=>Tn j hj,rfl⟩,rfl⟩⟩⟩
   ·rw[B6 hlt',List.map_append,hout];rfl
   ·rw[Ba (by omega) (by omega)];rfl
  ·have e:i=n.bo.length:=by omega
   rw[e,List.take_length] at hout
   have e1:B5 out.length (fun i=>[D.str (out.getD i [])])=out:=MS rfl fun _ _=>rfl
   have e2:Gx out.length (fun i=>[D.str (out.getD i [])])=true:=OM rfl fun _ _=>rfl
   rw[e1,hout]
   rw[hout] at e2
   simp only[List.length_append,List.length_cons,List.length_nil] at hlen
   refine⟨⟨e2,?_,by omega⟩,by omega,?_,?_⟩
   ·rw[List.length_map];omega
   ·simp only[List.length_cons,List.append_eq,List.nil_append];omega
   ·rfl
theorem BV{n:Nd}:BU n=0↔dpN n<=60/\szN n<=16384/\Bz n=true:=by
 unfold BU
 by_cases h1:60<dpN n
 ·rw[if_pos h1];exact⟨fun h=>by omega,fun h=>by omega⟩
 rw[if_neg h1]
 by_cases h2:16384<szN n
 ·rw[if_pos h2];exact⟨fun h=>by omega,fun h=>by omega⟩
 rw[if_neg h2]
 by_cases h3:Bz n=true
 ·rw[if_pos h3];exact⟨fun _=>⟨by omega,by omega,h3⟩,fun _=>rfl⟩
 ·rw[if_neg h3];exact⟨fun h=>by omega,fun h=>(h3 h.2.2).elim⟩
theorem BnT{s:Sm}(h:s.sm):s.nm.length<=BC:=by
 cases s with
 |mk kd at_ nm sl te nd =>
  simp only[Sm.sm] at h
  exact h.1
theorem Bgn(n:Nd)(hv:Bz n=true)(ho:n.ok)(hn:n.sm)(hz:szN n<=16384):RShow n:=by
 have hl:=Ev n hv ho
 refine⟨Bna n RShow (fun s=>RShow s.nd/\(s.kd=3->RShow s.te)/\s.nm.length<=BC) hv ho hz (fun _ h=>h) (fun b hb=>?_) (fun _ h=>h) (fun hk s hs=>?_),by omega⟩
 ·have:=Ey (BS hb)
  exact Bgn b ((EG hv).1 b hb) (Oc ho b hb) (EZ hn (BS hb)) (by omega)
 ·have h1:=hv
  rw[CF,Bool.and_eq_true,if_pos hk,Bool.and_eq_true] at h1
  have hb:=h1.2.2
  unfold BP at hb
  rw[Bool.and_eq_true] at hb
  obtain ⟨q1,q2⟩:=Em hb.2 s hs
  have o:=Cq (GG ho s hs)
  have m:=Cm (GB hn s hs)
  have i1:s.nd∈BH n:=List.mem_append.2 (.inr (List.mem_flatMap.2 ⟨s,hs,by unfold Bq;split<;>simp⟩))
  have z1:=Ey i1
  refine⟨Bgn s.nd q1 o.2 m.2 (by omega),fun h3=>?_,BnT (GB hn s hs)⟩
  have i2:s.te∈BH n:=List.mem_append.2 (.inr (List.mem_flatMap.2 ⟨s,hs,by unfold Bq;rw[if_pos h3];simp⟩))
  have z2:=Ey i2
  have hv2:Bz s.te=true:=by
   rcases q2 with ⟨_,q,_⟩ | ⟨q,_⟩
   ·exact q
   ·exact (q h3).elim
  exact Bgn s.te hv2 o.1 m.1 (by omega)
termination_by szN n
decreasing_by all_goals omega
def Bn0(n:Nd):Con:=fun k ds S=>match k with
 |83=>some (pA ds S (.int .i64 (BU n)) (isN n ds []))
 |84=>some (pA ds S (.str (Bt n)) (isN n ds []/\BU n=0))
 |_=>none
noncomputable def Esw(n:Nd):Senv:=EC (Bn0 n) 8 3 [5] (fun _=>([],[]))
def Qz7(a:Nd):Prop:=isN a [D.agg (Nd.rowE a)] []
theorem BoS(n:Nd)(ho:n.ok)(hn:n.sm):CD 58 [.agg n.row1] (.str (Eq n)):=by
 refine Bg (A:=sC _ _) (x:=()) (E:=Esw n) (eOk ?_ rfl) Tryz.func58 rfl (by kernel_rfl) rfl (by simp[sC,Esw,EC,E0]) ?_
 ·intro k ds S A hh
  try unfold Bn0 at hh
  try dsimp only at hh
  split at hh
  ·injection hh with hh;subst hh
   exact Bo fun e=>CD.at_ (CD.wk (BpF n ho hn) e) _
  ·injection hh with hh;subst hh
   refine Bo fun ⟨e,h0⟩=>?_
   obtain ⟨_,h2,h3⟩:=BV.1 h0
   exact CD.at_ (CD.isN (Bgn n h3 ho hn h2).1 e) _
  ·cases hh
 refine Bi (T :=
  ∀(x:Nat),True->SM x/\∃(x_1:Unit),Qz7 n/\∀(y:Unit),True->ifB (BU n != Z0) (RT (Cv (List UInt8) [] (Eq n))) (SM x/\∃(x:Unit),(Qz7 n/\BU n=Z0)/\∀(y:Unit),True->RT (Bt n=Eq n))) (by kernel_rfl) ?_
 delta DA GI LN N1 N4 SI SM Z0 ZI Qz7 RT
 try simp only[<- dm]
 try simp only[<- dn]
 simp only[ne_eq,Bf,true_and,and_true,bne_iff_ne,bne_eq_false_iff_eq,exists_const,forall_const]
 unfold Eq
 refine⟨Bl _ _,fun h=>?_,fun h=>⟨⟨Bl _ _,h⟩,?_⟩⟩
 ·rw[if_neg h]
 ·rw[if_pos h]
theorem BpC(sep:List UInt8)(a b:List (List UInt8)):jT sep (a++b)=jT sep a++jT sep b:=by
 unfold jT
 rw[List.flatMap_append]
theorem Rj(sep:List UInt8)(a b:List (List UInt8))(h:a≠[]):Lib.join (a++b) sep=Lib.join a sep++jT sep b:=by
 cases a with
 |nil=>exact (h rfl).elim
 |cons x r=>rw[List.cons_append,B7,B7,BpC,List.append_assoc]
theorem Ty{l:List (List UInt8)}(sep:List UInt8){i:Nat}(h:i<l.length):Lib.join (l.take (i+1)) sep=(if 0<i then Lib.join (l.take i) sep++sep else [])++l.getD i []:=by
 have e:l.take (i+1)=l.take i++[l.getD i []]:=by
  rw[List.take_add_one,List.getElem?_eq_getElem h,List.getD_eq_getElem?_getD,List.getElem?_eq_getElem h];rfl
 rw[e]
 cases i with
 |zero=>simp[B7,jT]
 |succ k =>
  rw[Rj _ _ _ (by intro e;have:=congrArg List.length e;simp at this;subst this;simp at h),if_pos (by omega)]
  simp[jT]
theorem Bnq(l:List (List UInt8))(sep:List UInt8)(i:Nat):(Lib.join (l.take i) sep).length<=(Lib.join l sep).length:=by
 by_cases h:l.take i=[]
 ·rw[h];simp[Lib.join]
 ·have e:=Rj sep (l.take i) (l.drop i) h
  rw[List.take_append_drop] at e
  rw[e,List.length_append]
  omega
theorem Baw{l:List (List UInt8)}(sep:List UInt8){i:Nat}(h:i<l.length):(l.getD i []).length<=(Lib.join l sep).length/\(0<i->(Lib.join (l.take i) sep).length+sep.length+(l.getD i []).length<=(Lib.join l sep).length):=by
 have h1:=Bnq l sep (i+1)
 rw[Ty sep h,List.length_append] at h1
 refine⟨by omega,fun h0=>?_⟩
 rw[if_pos h0,List.length_append] at h1
 omega
def RRShow(n:Nd):Prop:=CD 114 [.agg n.row2] (.str (Bt n))/\(Bt n).length<=20000000000000
noncomputable def Eamo(n:Nd)(ks:List Int):Senv:={ EC Eu 19 3 [4,5,9,18] (fun id=>match id with | 4=>([0,1,2,3,4,5,6],[]) | _=>([],[])) with
 mg:=fun _=>2
 ann:=fun b _ S=>match b with
  |0=>some { slots:=[5],keep:=[0,1,2],α:=Nat,st:=fun i=>([.int .i64 i],S),inv:=fun i=>i<=ks.length/\∀j,j<i->n.kd≠ks.getD j 0,mu:=fun i=>ks.length-i }
  |_=>none }
def Ym(a:Nd):Int:=Nd.kd a
def QjW(a:Nat)(b:List Int)(c:Nd):Prop:=a<=LN b/\∀(j:Nat),j<a->Ym c≠GI b j
def Qz8(a:Nd):Int:=Nd.at_ a
def Qz9(a:Nd):Int:=Nd.cl a
def QAa(a:Nd):List UInt8:=Nd.tx a
def QAb(a:Nd):Int:=Nd.pr a
def QAc(a:Nd):Int:=Nd.op a
def Qdj(a:Nd):Arr:=Nd.va a
def QAd(a:Nd):Int:=Arr.k (Qdj a)
def QAe(a:Nd):List Int:=Arr.sh (Qdj a)
def QjX(a:Nd):Nat:=LN (QAe a)
def QAf(a:Nd)(b:Nat):List D:=[ZI (GI (QAe a) b)]
def QAg(a:Nd):List Int:=Arr.nu (Qdj a)
def QjY(a:Nd):Nat:=LN (QAg a)
def QAh(a:Nd)(b:Nat):List D:=[ZI (GI (QAg a) b)]
def QAi(a:Nd):List Arr:=Arr.it (Qdj a)
def QjZ(a:Nd):Nat:=LN (QAi a)
def QAj:Arr:=DA
def QAk(a:Nd)(b:Nat):List D:=Arr.row (List.getD (QAi a) b QAj)
def Qj0(a:Nd):Nat:=LN (Nd.ki a)
def Qj1:Nd:=Nd.mk Z0 Z0 Z0 [] Z0 Z0 QAj [] [] Z0 Z0 Z0
def QAl(a:Nd)(b:Nat):List D:=Nd.row (List.getD (Nd.ki a) b Qj1)
def Qj2(a:Nd):Nat:=LN (Nd.bo a)
def QAm(a:Nd)(b:Nat):List D:=Sm.row (List.getD (Nd.bo a) b (Sm.mk Z0 Z0 [] Z0 Qj1 Qj1))
def QAn(a:Nd):Int:=Nd.de a
def QAo(a:Nd):Int:=Nd.sl a
def QAp(a:Nd):Int:=Nd.ss a
def QAq(a:Nat)(b:Nd):Prop:=(SM a/\(SM (Ym b)/\SM (Qz8 b)/\SM (Qz9 b)/\SM (QAa b)/\SM (QAb b)/\SM (QAc b)/\SM (QAd b)/\(SM (QjX b)/\(∀(i:Nat),i<QjX b->SM (QAf b i))/\True)/\(SM (QjY b)/\(∀(i:Nat),i<QjY b->SM (QAh b i))/\True)/\(SM (QjZ b)/\(∀(i:Nat),i<QjZ b->SM (QAk b i))/\True)/\(SM (Qj0 b)/\(∀(i:Nat),i<Qj0 b->SM (QAl b i))/\True)/\(SM (Qj2 b)/\(∀(i:Nat),i<Qj2 b->SM (QAm b i))/\True)/\SM (QAn b)/\SM (QAo b)/\SM (QAp b)/\True)/\True)/\True
def QQv(a:Nd):D:=D.agg (Nd.rowE a)
def QQw(a:List Int):D:=SI a
theorem BoA(n:Nd)(ks:List Int)(hk:ks.length<=maxLen):CD 128 [.agg n.row1,isl ks .any] (.bool (ks.contains n.kd)):=by
 refine Bg (A:=sC _ _) (x:=()) (E:=Eamo n ks) (eOk BL rfl) Tryz.func128 rfl (by kernel_rfl) rfl (by simp[sC,Eamo,EC,E0]) ?_
 refine Bi (T :=
  ∀(x:Nat),True->(∃(x_1:Nat),QjW x_1 ks n/\(Z0=(↑x_1:Int)/\True)/\QAq x n)/\∀(x_1:Nat),QjW x_1 ks n->ifB (decide ((↑x_1:Int)<(LI ks))) (SM x/\Bc (Z0<=(↑x_1:Int)/\(↑x_1:Int)<(LI ks)) (ifB (Ym n==GI ks (Int.toNat (↑x_1:Int))) (RT (true=List.contains ks (Ym n))) ((SM (QQv n)/\SM (QQw ks)/\SM (D.ref N0 x N0)/\True)/\∃(y:Nat),QjW y ks n/\LN ks-y<LN ks-x_1/\(IntKind.wrap IntKind.i64 ((↑x_1:Int)+Z1)=(↑y:Int)/\True)/\QAq x n))) (RT (false=List.contains ks (Ym n)))) (by kernel_rfl) ?_
 delta DA GI LI LN N0 N1 N4 SI SM Z0 Z1 ZI Ym QjW QjX QAf QAg QjY QAh QAi QjZ QAj QAk Qj0 Qz8 Qj1 QAl Qj2 QAm QAn QAo QAp QAq QQv QQw Qz9 QAa QAb QAc Qdj QAd QAe RT
 try simp only[<- dm]
 try simp only[<- dn]
 simp only[ne_eq,implies_true,Int.toNat_natCast,Bf,Bd,decide_eq_true_eq,decide_eq_false_iff_not,true_and,and_true,beq_iff_eq,beq_eq_false_iff_ne,exists_const,forall_const]
 unfold maxLen at hk
 refine⟨⟨0,⟨Nat.zero_le _,fun j hj=>absurd hj (by omega)⟩,rfl⟩,fun i hi'=>⟨fun hlt=>?_,fun hge=>?_⟩⟩
 ·obtain ⟨i1,hi⟩:=hi'
  have hi1:i<ks.length:=by omega
  refine⟨⟨by omega,by omega⟩,fun c=>?_,fun c=>⟨i+1,⟨hi1,fun j hj=>?_⟩,by omega,Ba (by omega) (by omega)⟩⟩
  ·symm
   rw[List.contains_eq_mem,decide_eq_true_eq,c,List.getD_eq_getElem?_getD,List.getElem?_eq_getElem hi1]
   exact List.getElem_mem hi1
  ·by_cases e':j=i
   ·rw[e'];exact c
   ·exact hi j (by omega)
 ·obtain ⟨i1,hi⟩:=hi'
  symm
  rw[List.contains_eq_mem,decide_eq_false_iff_not]
  intro hm
  obtain ⟨j,hj,e⟩:=List.getElem_of_mem hm
  refine hi j (by omega) ?_
  rw[List.getD_eq_getElem?_getD,List.getElem?_eq_getElem hj]
  exact e.symm
def BbC(b:Bool)(x:List UInt8):List UInt8:=bif b then Bfv x else x
theorem Gq(ks:List Int)(n:Nd):BbC (ks.contains n.kd) (Bt n)=BB ks n:=by
 unfold BbC BB Eb
 cases ks.contains n.kd<;>rfl
def Wu(q:Nd->Prop):Con:=fun k ds S=>match k with
 |114=>some (pE (β:=Nd) ds S (fun b=>.str (Bt b)) (fun b=>isN b ds []/\q b))
 |_=>none
theorem TK{q:Nd->Prop}(h:∀b,q b->RRShow b):ConOk Tryz.prog (Wu q):=by
 intro k ds S A hh
 unfold Wu at hh
 split at hh
 ·injection hh with hh;subst hh
  exact Co fun b ⟨e,hb⟩=>CD.at_ (CD.isN (h b hb).1 e) _
 ·cases hh
noncomputable def Epar(q:Nd->Prop):Senv:=EC (Wu q) 12 3 [4,5] (fun _=>([],[]))
def QAt(a b:Nd)(c:Nd->Prop):Prop:=isN a [D.agg (Nd.rowE b)] []/\c a
def Hp(a:Nd):List UInt8:=Bt a
def QAu(a:Bool)(b:Nd):List UInt8:=BbC a (Hp b)
theorem Box(q:Nd->Prop)(h:∀b,q b->RRShow b)(n:Nd)(hn:q n)(b:Bool):CD 127 [.agg n.row1,.bool b] (.str (BbC b (Bt n))):=by
 refine Bg (A:=sC _ _) (x:=()) (E:=Epar q) (eOk (TK h) rfl) Tryz.func127 rfl (by kernel_rfl) rfl (by simp[sC,Epar,EC,E0]) ?_
 refine Bi (T :=
  ∀(x:Nat),True->ifB b (SM x/\∃(x:Nd),QAt x n q/\∀(y:Unit),True->Bc (N2+LN (Hp x)<=9223372036854775807) (Bc (LN ((40:UInt8)::(32:UInt8)::List.append [] (Hp x))+N2<=9223372036854775807) (RT ((40:UInt8)::(32:UInt8)::List.append (List.append [] (Hp x)) [(32:UInt8),(41:UInt8)]=QAu b n)))) (SM x/\∃(x:Nd),QAt x n q/\∀(y:Unit),True->RT (Hp x=QAu b n))) (by kernel_rfl) ?_
 delta DA GI LN N1 N2 N4 SI SM Z0 ZI QAt Hp QAu RT
 try simp only[<- dm]
 try simp only[<- dn]
 simp only[Bf,Bd,true_and,and_true,exists_const,forall_const]
 have hl:=(h n hn).2
 refine⟨fun c=>⟨n,⟨Bl _ _,hn⟩,by omega,?_,?_⟩,fun c=>⟨n,⟨Bl _ _,hn⟩,?_⟩⟩
 ·simp only[List.length_cons,List.append_eq,List.nil_append];omega
 ·rw[c];rfl
 ·rw[c];rfl
def Bbk(q:Nd->Prop):Con:=fun k ds S=>match k with
 |128=>match ds with
  | [_,.sl 1 m f _]=>some (pE (β:=Nd) ds S (fun b=>.bool ((Bj m f).contains b.kd)) (fun b=>wkL ds [.agg b.row1,isl (Bj m f) .any]/\m<=maxLen))
  |_=>none
 |127=>match ds with
  | [_,.bool t]=>some (pE (β:=Nd) ds S (fun b=>.str (BbC t (Bt b))) (fun b=>isN b ds [.bool t]/\q b))
  |_=>none
 |k=>Wu q k ds S
theorem Baj{q:Nd->Prop}(h:∀b,q b->RRShow b):ConOk Tryz.prog (Bbk q):=by
 intro k ds S A hh
 unfold Bbk at hh
 split at hh
 ·split at hh
  ·injection hh with hh;subst hh
   exact Co fun b ⟨e,hm⟩=>CD.at_ (CD.wk (BoA b _ (by rw[BJ];exact hm)) e) _
  ·cases hh
 ·split at hh
  ·injection hh with hh;subst hh
   exact Co fun b ⟨e,hb⟩=>CD.at_ (CD.wk (Box q h b hb _) e) _
  ·cases hh
 ·exact TK h _ _ _ _ hh
noncomputable def Erli(q:Nd->Prop)(l:List Nd)(ks:List Int):Senv:={ EC (Bbk q) 31 2 [4,5,6,10,14] (fun id=>match id with | 7=>([0,1,2,3,4,5,6,7,8,9,10,11,12,13],[10,11]) | _=>([],[])) with
 mg:=fun _=>2
 ann:=fun b _ S=>match b with
  |0=>some { slots:=[6,5],keep:=[0,1],α:=Nat×List UInt8,st:=fun y=>([.int .i64 y.1,.str y.2],S),inv:=fun y=>y.1<=l.length/\y.2=Lib.join ((l.map (BB ks)).take y.1) [32],mu:=fun y=>l.length-y.1 }
  |_=>none }
def Qdl(a:Nat)(b:List Nd)(c:List UInt8)(d:List Int):Prop:=a<=LN b/\c=Lib.join (List.take a (List.map (BB d) b)) [(32:UInt8)]
def Qdm:Arr:=DA
def Xq:Nd:=Nd.mk Z0 Z0 Z0 [] Z0 Z0 Qdm [] [] Z0 Z0 Z0
def KC(a:List Nd)(b:Nat):Nd:=List.getD a (Int.toNat (↑b:Int)) Xq
def QAy(a:List Nd)(b:Nat):D:=D.agg (Nd.rowE (KC a b))
def QAz(a:List Int):D:=SI a
def QAB(a:List Int):List Int:=Bj (LN a) fun i=>[ZI (GI a i)]
def QAC(a:List Nd)(b:Nat)(c:List Int)(d:Nd):Prop:=wkL [QAy a b,QAz c] [D.agg (Nd.rowE d),SI (QAB c)]/\LN c<=9223372036854775807
def QAD(a:List Int)(b:Nd):Bool:=List.contains (QAB a) (Nd.kd b)
def QAE(a:List Int)(b:Nd):List D:=[D.bool (QAD a b)]
def QAF(a:Nd)(b:List Nd)(c:Nat)(d:List Int)(e:Nd)(f:Nd->Prop):Prop:=isN a (QAy b c::QAE d e) (QAE d e)/\f a
def Qj5(a:List Int)(b c:Nd):List UInt8:=BbC (QAD a b) (Bt c)
def QAG(a:List Int)(b c:Nd):Nat:=LN (Qj5 a b c)
def KD(a:List Nd)(b:Nat):Nd:=List.getD a b Xq
def QQF(a:List Nd):D:=D.sl 15 (LN a) (fun i=>(Nd.rowE (KD a i))) Mode.any
def QAK(a:List Nd)(b:List Int):Prop:=SM (QQF a)/\SM (QAz b)/\True
theorem Bph(q : Nd -> Prop)(l : List Nd)(ks : List Int)(h : ∀b, q b -> RRShow b)(hq : ∀b∈l, q b)(hl : l.length<=maxLen)(hk : ks.length<=maxLen)(hj : (Lib.join (l.map (BB ks)) [32]).length<=20000000000000) :
  CD 126 [gsl 15 Nd.row1 l,isl ks .any] (.str (Lib.join (l.map (BB ks)) [32])):=by
 refine Bg (A:=sC _ _) (x:=()) (E:=Erli q l ks) (eOk (Baj h) rfl) Tryz.func126 rfl (by kernel_rfl) rfl (by simp[sC,Erli,EC,E0]) ?_
 refine Bi (T :=
  (∃(x:Nat×List UInt8),Qdl x.1 l x.2 ks/\(Z0=(NI x.1)/\Cv (List UInt8) [] x.2/\True)/\True/\True)/\∀(x:Nat×List UInt8),Qdl x.1 l x.2 ks->ifB (decide ((NI x.1)<(LI l))) (ifB (decide (Z0<(NI x.1))) (Bc (LN x.2+N1<=9223372036854775807) (Bc (Z0<=(NI x.1)/\(NI x.1)<(LI l)) (Bc (Z0<=(NI x.1)/\(NI x.1)<(LI l)) (∃(x_1:Nd),QAC l x.1 ks x_1/\∀(y:Unit),True->∃(x_2:Nd),QAF x_2 l x.1 ks x_1 q/\∀(y:Unit),True->Bc (LN (x.2++[32])+QAG ks x_1 x_2<=9223372036854775807) (QAK l ks/\∃(y:Nat×List UInt8),Qdl y.1 l y.2 ks/\LN l-y.1<LN l-x.1/\(IntKind.wrap IntKind.i64 ((NI x.1)+Z1)=(NI y.1)/\x.2++[32]++Qj5 ks x_1 x_2=y.2/\True)/\True/\True))))) (Bc (Z0<=(NI x.1)/\(NI x.1)<(LI l)) (Bc (Z0<=(NI x.1)/\(NI x.1)<(LI l)) (∃(x_1:Nd),QAC l x.1 ks x_1/\∀(y:Unit),True->∃(x_2:Nd),QAF x_2 l x.1 ks x_1 q/\∀(y:Unit),True->Bc (LN x.2+QAG ks x_1 x_2<=9223372036854775807) (QAK l ks/\∃(y:Nat×List UInt8),Qdl y.1 l y.2 ks/\LN l-y.1<LN l-x.1/\(IntKind.wrap IntKind.i64 ((NI x.1)+Z1)=(NI y.1)/\x.2++Qj5 ks x_1 x_2=y.2/\True)/\True/\True))))) (RT (x.2=Lib.join (List.map (BB ks) l) [(32:UInt8)]))) (by kernel_rfl) ?_
 delta DA GI LI LN N1 N4 NI SI SM Z0 Z1 ZI Qdl Qdm Xq KC QAy QAz QAB QAC QAD QAE QAF Qj5 QAG KD QQF QAK RT
 try simp only[<- dm]
 try simp only[<- dn]
 simp only[Int.toNat_natCast,Bf,Bd,decide_eq_true_eq,decide_eq_false_iff_not,true_and,and_true,exists_const,forall_const,Prod.exists]
 simp only[B0]
 unfold maxLen at hk hl
 refine⟨⟨0,[],⟨Nat.zero_le _,by simp[Lib.join]⟩,rfl,rfl⟩,?_⟩
 rintro ⟨i,s⟩ ⟨i1,hs⟩
 simp only at i1 hs ⊢
 refine⟨fun hlt=>?_,fun hge=>?_⟩
 ·have hlt':i<l.length:=by omega
  have hlm:i<(l.map (BB ks)).length:=by simpa using hlt'
  have jt:=Ty [32] hlm
  obtain ⟨j1,j2⟩:=Baw [32] hlm
  have eg:(l.map (BB ks)).getD i []=BB ks (l.getD i default):=by simp[List.getD_eq_getElem?_getD,hlt']
  have pw:=Gq ks (l.getD i default)
  have w:IntKind.i64.wrap ((i:Int)+1)=((i+1:Nat):Int):=by rw[Ba (by omega) (by omega)];rfl
  rw[eg] at jt j1 j2
  simp only[List.length_cons,List.length_nil] at j2
  refine⟨fun h0=>⟨?_,⟨by omega,hlt⟩,⟨by omega,hlt⟩,l.getD i default,⟨Be _,hk⟩,l.getD i default,⟨Bl _ _,hq _ (BW hlt')⟩,?_,i+1,_,⟨hlt',?_⟩,by omega,w,rfl⟩,
   fun h0=>⟨⟨by omega,hlt⟩,⟨by omega,hlt⟩,l.getD i default,⟨Be _,hk⟩,l.getD i default,⟨Bl _ _,hq _ (BW hlt')⟩,?_,i+1,_,⟨hlt',?_⟩,by omega,w,rfl⟩⟩
  ·have:=j2 (by omega)
   rw[hs];omega
  ·have:=j2 (by omega)
   rw[pw,hs]
   simp only[List.length_append,List.length_cons,List.length_nil]
   omega
  ·rw[jt,if_pos (by omega),pw,hs]
  ·rw[pw,hs]
   have:i=0:=by omega
   subst this
   simp only[List.take_zero]
   have e0:(Lib.join ([]:List (List UInt8)) [32])=[]:=by simp[Lib.join]
   rw[e0]
   simp only[List.length_nil]
   omega
  ·have:i=0:=by omega
   subst this
   rw[jt,pw,hs]
   simp[Lib.join]
 ·have e:i=l.length:=by omega
  rw[hs,e,List.take_of_length_le (by simp)]
inductive Pt where
 |tx (x:List UInt8)
 |op
 |cl
 |sp
def prT:Pt->List UInt8
 |.tx x=>x
 |.op=>[123]
 |.cl=>[125]
 |.sp=>[59]
def ptW(ks:List Int)(k:Int)(l:List Pt):List Pt:=if ks.contains k=true then .tx [40]::(l++[.tx [41]]) else l
def ptZ(ks:List Int):List Nd->List (List Pt)->List Pt
 |n::l,x::r=>ptW ks n.kd x++ptZ ks l r
 |_,_=>[]
def ptJ:List (List Pt)->List Pt
 | []=>[]
 |x::r=>x++r.flatMap fun y=>.sp::y
mutual
def ptN:Nd->List Pt
 |.mk kd at_ cl tx pr op va ki bo de sl ss =>
  if kd=3 then ptZ [3,4,5] ki (ptL ki)
  else if kd=4 then ptW [16] (kAt ki 0) ((ptL ki).getD 0 [])++(ptL ki).getD 1 []
  else if kd=5 then ptW [4,5] (kAt ki 1) ((ptL ki).getD 1 [])++(ptW [16] (kAt ki 0) ((ptL ki).getD 0 [])++(ptL ki).getD 2 [])
  else if kd=16 then ptZ [4,5,16] ki (ptL ki)
  else if kd=14 then ptW [16] (kAt ki 1) ((ptL ki).getD 1 [])++(ptL ki).getD 0 []
  else if kd=15 then ptW [16] (kAt ki 1) ((ptL ki).getD 1 [])++((ptL ki).getD 0 []++ptW [3,4,5,16,14,15] (kAt ki 2) ((ptL ki).getD 2 []))
  else if kd=10 then .op::(ptJ (ptS bo)++[.cl])
  else [.tx (Bt (.mk kd at_ cl tx pr op va ki bo de sl ss))]
def ptL:List Nd->List (List Pt)
 | []=>[]
 |x::r=>ptN x::ptL r
def ptS:List Sm->List (List Pt)
 | []=>[]
 |x::r=>ptM x::ptS r
def ptM:Sm->List Pt
 |.mk kd _ nm _ te nd=>if kd=2 then .tx nm::.tx [60,45]::ptN nd else if kd=3 then ptN te++(.tx [58]::ptN nd) else ptN nd
end
theorem Ba1:∀l:List Nd,ptL l=l.map ptN
 | []=>by simp only[ptL,List.map_nil]
 |x::r=>by simp only[ptL,List.map_cons,Ba1 r]
theorem Bgm:∀l:List Sm,ptS l=l.map ptM
 | []=>by simp only[ptS,List.map_nil]
 |x::r=>by simp only[ptS,List.map_cons,Bgm r]
def BR(ks:List Int)(n:Nd):List Pt:=ptW ks n.kd (ptN n)
theorem Bgc(ks:List Int):∀l:List Nd,ptZ ks l (ptL l)=l.flatMap (BR ks)
 | []=>by simp only[ptZ,List.flatMap_nil]
 |x::r=>by simp only[ptL,ptZ,List.flatMap_cons,Bgc ks r];rfl
theorem Ra{l:List Nd}{i:Nat}(h:i<l.length):(ptL l).getD i []=ptN (l.getD i default):=by
 rw[Ba1]
 simp[List.getD_eq_getElem?_getD,h]
theorem IE(s:Sm):ptM s=if s.kd=2 then .tx s.nm::.tx [60,45]::ptN s.nd else if s.kd=3 then ptN s.te++(.tx [58]::ptN s.nd) else ptN s.nd:=by
 cases s
 simp only[ptM]
 rfl
theorem Gj(n : Nd) : ptN n=if n.kd=3 then n.ki.flatMap (BR [3, 4, 5])
  else if n.kd=4 then ptW [16] (kAt n.ki 0) ((ptL n.ki).getD 0 [])++(ptL n.ki).getD 1 []
  else if n.kd=5 then ptW [4,5] (kAt n.ki 1) ((ptL n.ki).getD 1 [])++(ptW [16] (kAt n.ki 0) ((ptL n.ki).getD 0 [])++(ptL n.ki).getD 2 [])
  else if n.kd=16 then n.ki.flatMap (BR [4,5,16])
  else if n.kd=14 then ptW [16] (kAt n.ki 1) ((ptL n.ki).getD 1 [])++(ptL n.ki).getD 0 []
  else if n.kd=15 then ptW [16] (kAt n.ki 1) ((ptL n.ki).getD 1 [])++((ptL n.ki).getD 0 []++ptW [3,4,5,16,14,15] (kAt n.ki 2) ((ptL n.ki).getD 2 []))
  else if n.kd=10 then .op::(ptJ (n.bo.map ptM)++[.cl])
  else [.tx (Bt n)]:=by
 cases n
 simp only[ptN,Bgc,Bgm]
 rfl
theorem neA{α:Type}{a b:List α}(h:a≠[]):a++b≠[]:=fun e=>h (List.append_eq_nil_iff.1 e).1
def txP(l:List Pt):List UInt8:=Lib.join (l.map prT) [32]
theorem BbN(y:List UInt8)(r:List (List UInt8))(sep:List UInt8):jT sep (y::r)=sep++Lib.join (y::r) sep:=by
 rw[B7]
 simp[jT]
theorem Ej{a b:List Pt}(ha:a≠[])(hb:b≠[]):txP (a++b)=txP a++(32::txP b):=by
 unfold txP
 rw[List.map_append,Rj _ _ _ (by simpa using ha)]
 cases b with
 |nil=>exact (hb rfl).elim
 |cons y r =>
  rw[List.map_cons,BbN]
  rfl
theorem UJ(x:Pt):txP [x]=prT x:=by
 unfold txP
 rw[List.map_cons,List.map_nil,B7]
 simp[jT]
theorem EX{x:Pt}{b:List Pt}(hb:b≠[]):txP (x::b)=prT x++(32::txP b):=by
 have:=Ej (a:=[x]) (by simp) hb
 rw[UJ] at this
 exact this
theorem WI(ks:List Int)(k:Int)(l:List Pt)(h:l≠[]):txP (ptW ks k l)=Eb ks k (txP l)/\ptW ks k l≠[]:=by
 unfold ptW Eb
 split
 ·refine⟨?_,by simp⟩
  rw[EX (by simp),Ej h (by simp),UJ]
  simp[prT,Bfv]
 ·exact⟨rfl,h⟩
theorem Bdk{α:Type}(f:α->List Pt)(g:α->List UInt8):∀l:List α,l≠[]->(∀x∈l,txP (f x)=g x/\f x≠[])->txP (l.flatMap f)=Lib.join (l.map g) [32]/\l.flatMap f≠[]
 | [],h,_=>(h rfl).elim
 | [x],_,hx=>by
  have:=hx x (by simp)
  rw[List.flatMap_cons,List.flatMap_nil,List.append_nil,List.map_cons,List.map_nil,B7]
  exact⟨by rw[this.1];simp[jT],this.2⟩
 |x::y::r,_,hx=>by
  have h1:=hx x (by simp)
  have h2:=Bdk f g (y::r) (by simp) fun z hz=>hx z (by simp[List.mem_cons.1 hz])
  rw[List.flatMap_cons]
  refine⟨?_,by simp[h1.2]⟩
  rw[Ej h1.2 h2.2,h1.1,h2.1]
  rw[List.map_cons (a:=x),B7 (g x),List.map_cons,BbN]
  rfl
theorem Bqc{α:Type}(f:α->List Pt)(g:α->List UInt8):∀l:List α,l≠[]->(∀x∈l,txP (f x)=g x/\f x≠[])->txP (ptJ (l.map f))=Lib.join (l.map g) [32,59,32]/\ptJ (l.map f)≠[]
 | [],h,_=>(h rfl).elim
 |x::r,_,hx=>by
  have h1:=hx x (by simp)
  have hr:∀l:List α,(∀x∈l,txP (f x)=g x/\f x≠[])->∀a:List Pt,a≠[]->txP (a++(l.map f).flatMap fun y=>.sp::y)=txP a++jT [32,59,32] (l.map g):=by
   intro l
   induction l with
   |nil=>intro _ a _;simp[jT]
   |cons y l ih =>
    intro hl a ha
    have hy:=hl y (by simp)
    rw[List.map_cons,List.flatMap_cons,<- List.append_assoc,ih (fun z hz=>hl z (by simp[hz])) _ (by simp[ha]),Ej ha (by simp),EX hy.2,hy.1,List.map_cons]
    simp[jT,prT]
  rw[List.map_cons,ptJ,List.map_cons,B7,hr r (fun z hz=>hx z (by simp[hz])) _ h1.2,h1.1]
  exact⟨rfl,by simp[h1.2]⟩
theorem Ww(n:Nd)(hv:Bz n=true):txP (ptN n)=Bt n/\ptN n≠[]:=by
 obtain ⟨L2,L3,_⟩:=IM hv
 have vk:=(EG hv).1
 have kid:∀i,i<n.ki.length->txP (ptN (n.ki.getD i default))=Bt (n.ki.getD i default)/\ptN (n.ki.getD i default)≠[]:=fun i hi =>
  have hm:n.ki.getD i default∈n.ki:=BW hi
  Ww _ (vk _ hm)
 have kids:∀ks:List Int,n.ki≠[]->txP (n.ki.flatMap (BR ks))=Lib.join (n.ki.map (BB ks)) [32]/\n.ki.flatMap (BR ks)≠[]:=fun ks hne =>
  Bdk (BR ks) (BB ks) n.ki hne fun x hx=>by
   have h:=Ww x (vk x hx)
   have h2:=WI ks x.kd (ptN x) h.2
   unfold BR BB
   rw[h2.1,h.1]
   exact⟨rfl,h2.2⟩
 have sg:∀i,i<n.ki.length->(BX n.ki).getD i []=Bt (n.ki.getD i default):=fun i hi=>I7 hi
 have pg:∀i,i<n.ki.length->(ptL n.ki).getD i []=ptN (n.ki.getD i default):=fun i hi=>Ra hi
 have ne3:(n.kd=3\/n.kd=16)->n.ki≠[]:=fun h e=>by
  rcases Eg hv (by omega) with hc | ⟨hc,_⟩
  ·unfold C3 at hc
   rcases h with h | h<;>simp[h] at hc
  ·unfold CR at hc
   rcases h with h | h<;>simp[h,e,Bm] at hc
 rw[Gj,CT]
 by_cases k3:n.kd=3
 ·simp only[k3]
  exact kids _ (ne3 (.inl k3))
 by_cases k4:n.kd=4
 ·have hL:n.ki.length=2:=L2 (.inl k4)
  obtain ⟨a1,a2⟩:=kid 0 (by omega)
  obtain ⟨b1,b2⟩:=kid 1 (by omega)
  obtain ⟨w1,w2⟩:=WI [16] (kAt n.ki 0) _ a2
  simp only[k4,Int.reduceEq,if_false,if_true]
  rw[sg 0 (by omega),sg 1 (by omega),pg 0 (by omega),pg 1 (by omega)]
  refine⟨?_,neA w2⟩
  rw[Ej w2 b2,w1,a1,b1]
  simp only[List.append_assoc,List.cons_append,List.nil_append]
  try rfl
 by_cases k5:n.kd=5
 ·have hL:n.ki.length=3:=L3 (.inl k5)
  obtain ⟨a1,a2⟩:=kid 0 (by omega)
  obtain ⟨b1,b2⟩:=kid 1 (by omega)
  obtain ⟨c1,c2⟩:=kid 2 (by omega)
  obtain ⟨w1,w2⟩:=WI [16] (kAt n.ki 0) _ a2
  obtain ⟨v1,v2⟩:=WI [4,5] (kAt n.ki 1) _ b2
  simp only[k5,Int.reduceEq,if_false,if_true]
  rw[sg 0 (by omega),sg 1 (by omega),sg 2 (by omega),pg 0 (by omega),pg 1 (by omega),pg 2 (by omega)]
  refine⟨?_,neA v2⟩
  rw[Ej v2 (neA w2),Ej w2 c2,v1,w1,a1,b1,c1]
  simp only[List.append_assoc,List.cons_append,List.nil_append]
  try rfl
 by_cases k16:n.kd=16
 ·simp only[k16]
  exact kids _ (ne3 (.inr k16))
 by_cases k14:n.kd=14
 ·have hL:n.ki.length=2:=L2 (.inr k14)
  obtain ⟨a1,a2⟩:=kid 0 (by omega)
  obtain ⟨b1,b2⟩:=kid 1 (by omega)
  obtain ⟨v1,v2⟩:=WI [16] (kAt n.ki 1) _ b2
  simp only[k14,Int.reduceEq,if_false,if_true]
  rw[sg 0 (by omega),sg 1 (by omega),pg 0 (by omega),pg 1 (by omega)]
  refine⟨?_,neA v2⟩
  rw[Ej v2 a2,v1,a1,b1]
  simp only[List.append_assoc,List.cons_append,List.nil_append]
  try rfl
 by_cases k15:n.kd=15
 ·have hL:n.ki.length=3:=L3 (.inr k15)
  obtain ⟨a1,a2⟩:=kid 0 (by omega)
  obtain ⟨b1,b2⟩:=kid 1 (by omega)
  obtain ⟨c1,c2⟩:=kid 2 (by omega)
  obtain ⟨v1,v2⟩:=WI [16] (kAt n.ki 1) _ b2
  obtain ⟨w1,w2⟩:=WI [3,4,5,16,14,15] (kAt n.ki 2) _ c2
  simp only[k15,Int.reduceEq,if_false,if_true]
  rw[sg 0 (by omega),sg 1 (by omega),sg 2 (by omega),pg 0 (by omega),pg 1 (by omega),pg 2 (by omega)]
  refine⟨?_,neA v2⟩
  rw[Ej v2 (neA a2),Ej a2 w2,v1,w1,a1,b1,c1]
  simp only[List.append_assoc,List.cons_append,List.nil_append]
  try rfl
 by_cases k10:n.kd=10
 ·have h1:=hv
  rw[CF,Bool.and_eq_true,if_pos k10,Bool.and_eq_true] at h1
  have hb:=h1.2.2
  unfold BP at hb
  rw[Bool.and_eq_true] at hb
  have hbn:n.bo≠[]:=fun e=>by
   have:=h1.2.1
   unfold Te at this
   simp[e] at this
  have st:∀s∈n.bo,txP (ptM s)=B4 s/\ptM s≠[]:=fun s hs=>by
   obtain ⟨q1,q2⟩:=Em hb.2 s hs
   have z1:=Nd.size_stmt hs
   have z2:=Sm.size_nd s
   have z3:=Sm.size_te s
   have hn:=Ww s.nd q1
   rw[IE,O1]
   by_cases c2:s.kd=2
   ·rw[if_pos c2,if_pos c2,EX (by simp),EX hn.2,hn.1]
    simp[prT]
   ·rw[if_neg c2,if_neg c2]
    by_cases c3:s.kd=3
    ·have hv2:Bz s.te=true:=by
      rcases q2 with ⟨_,q,_⟩ | ⟨q,_⟩
      ·exact q
      ·exact (q c3).elim
     have ht:=Ww s.te hv2
     rw[if_pos c3,if_pos c3,Ej ht.2 (by simp),EX hn.2,hn.1,ht.1]
     simp[prT]
    ·rw[if_neg c3,if_neg c3]
     exact hn
  obtain ⟨j1,j2⟩:=Bqc ptM B4 n.bo hbn st
  simp only[k10]
  refine⟨?_,by simp⟩
  simp only[Int.reduceEq,if_false,if_true]
  rw[EX (by simp),Ej j2 (by simp),UJ,j1]
  simp[prT]
 ·rw[if_neg k3,if_neg k4,if_neg k5,if_neg k16,if_neg k14,if_neg k15,if_neg k10]
  refine⟨?_,by simp⟩
  rw[UJ,prT]
termination_by SizeOf.sizeOf n
decreasing_by
 ·exact Nd.size_kid hm
 ·exact Nd.size_kid hx
 ·omega
 ·omega
def Bo6(l:List UInt8):Nat:=l.foldl (fun v b=>v*10+(b.toNat-48)) 0
def BkL(b:UInt8):Bool:=decide (48<=b.toNat)&&decide (b.toNat<=57)
theorem Bbc{k:Nat}(h:k<10):(UInt8.ofNat (48+k)).toNat=48+k:=by
 rw[UInt8.toNat_ofNat'];omega
theorem WD(u:Nat):(∀b∈Lib.decDigits u,BkL b=true)/\Bo6 (Lib.decDigits u)=u/\Lib.decDigits u≠[]:=by
 induction u using Nat.strongRecOn with
 |_ u ih =>
  rw[Lib.decDigits]
  by_cases h:u<10
  ·rw[dif_pos h]
   refine⟨fun b hb=>?_,?_,by simp⟩
   ·rw[List.mem_singleton.1 hb,BkL,Bbc h]
    simp only[Bool.and_eq_true,decide_eq_true_eq];omega
   ·simp only[Bo6,List.foldl_cons,List.foldl_nil,Bbc h];omega
  ·rw[dif_neg h]
   obtain ⟨h1,h2,h3⟩:=ih (u / 10) (by omega)
   have hm:u % 10<10:=by omega
   refine⟨fun b hb=>?_,?_,by simp⟩
   ·rcases List.mem_append.1 hb with hb | hb
    ·exact h1 b hb
    ·rw[List.mem_singleton.1 hb,BkL,Bbc hm]
     simp only[Bool.and_eq_true,decide_eq_true_eq];omega
   ·unfold Bo6 at h2 ⊢
    rw[List.foldl_append,h2]
    simp only[List.foldl_cons,List.foldl_nil,Bbc hm];omega
def BfZ(b:UInt8):Bool:=BkL b||b==95
theorem Bej(z:Int):∃b t,BA z=b::t/\BfZ b=true:=by
 unfold BA
 split
 ·exact⟨95,_,rfl,rfl⟩
 ·obtain ⟨h1,_,h3⟩:=WD z.toNat
  cases hd:Lib.decDigits z.toNat with
  |nil=>exact (h3 hd).elim
  |cons b t=>exact⟨b,t,rfl,by rw[BfZ,h1 b (by rw[hd];exact List.mem_cons_self)];rfl⟩
def Bjb:List UInt8->Nat
 | []=>0
 |b::t=>if b.toNat<128 then b.toNat
  else if b.toNat<224 then (b.toNat-192)*64+((t.getD 0 0).toNat-128)
  else if b.toNat<240 then (b.toNat-224)*4096+((t.getD 0 0).toNat-128)*64+((t.getD 1 0).toNat-128)
  else (b.toNat-240)*262144+((t.getD 0 0).toNat-128)*4096+((t.getD 1 0).toNat-128)*64+((t.getD 2 0).toNat-128)
def WR(c:Nat):List UInt8 :=
 if c<0x80 then [UInt8.ofNat c]
 else if c<0x800 then [UInt8.ofNat (0xC0+c / 64),UInt8.ofNat (0x80+c % 64)]
 else if c<0x10000 then [UInt8.ofNat (0xE0+c / 4096),UInt8.ofNat (0x80+c / 64 % 64),UInt8.ofNat (0x80+c % 64)]
 else [UInt8.ofNat (0xF0+c / 262144),UInt8.ofNat (0x80+c / 4096 % 64),UInt8.ofNat (0x80+c / 64 % 64),UInt8.ofNat (0x80+c % 64)]
theorem Bno{n:Nat}(h1:n<=1114111)(h2:n<55296\/57343<n):Mn (n:Int)=WR n:=by
 have hv:Utf8.valid (n:Int)=true:=by
  simp only[Utf8.valid,Bool.or_eq_true,Bool.and_eq_true,decide_eq_true_eq]
  omega
 have key : ∀c : Nat, ((if c<0x80 then ⟨#[UInt8.ofNat c]⟩
   else if c<0x800 then ⟨#[UInt8.ofNat (0xC0+c / 64),UInt8.ofNat (0x80+c % 64)]⟩
   else if c<0x10000 then ⟨#[UInt8.ofNat (0xE0+c / 4096),UInt8.ofNat (0x80+c / 64 % 64),UInt8.ofNat (0x80+c % 64)]⟩
   else ⟨#[UInt8.ofNat (0xF0+c / 262144),UInt8.ofNat (0x80+c / 4096 % 64),UInt8.ofNat (0x80+c / 64 % 64),UInt8.ofNat (0x80+c % 64)]⟩:ByteArray).data.toList)=WR c:=fun c=>by
  unfold WR
  (repeat' split)<;>rfl
 unfold Mn Utf8.encode
 rw[if_pos hv,Int.toNat_natCast]
 exact key n
theorem b8{k:Nat}(h:k<256):(UInt8.ofNat k).toNat=k:=by rw[UInt8.toNat_ofNat'];omega
def Gf(q:UInt8):List UInt8->Nat
 | []=>0
 | [c]=>if c=q then 0 else 1
 |c::d::r=>if c=q then 0 else if c=92 then 2+Gf q r else 1+Gf q (d::r)
def Iz(r:List UInt8):Nat:=r.findIdx (·==32)
def TT:List UInt8->Nat
 | []=>0
 |q::t=>if q=34\/q=39 then min (Gf q t+2) (t.length+1) else Iz (q::t)
theorem Bav{q c:UInt8}(h1:c≠q)(h2:c≠92)(r:List UInt8):Gf q (c::r)=1+Gf q r:=by
 cases r with
 |nil=>simp[Gf,h1]
 |cons d r=>rw[Gf,if_neg h1,if_neg h2]
theorem Oj{q:UInt8}:∀(l r:List UInt8),(∀b∈l,b≠q/\b≠92)->Gf q (l++r)=l.length+Gf q r
 | [],r,_=>by simp
 |c::l,r,h=>by
  rw[List.cons_append,Bav (h c (by simp)).1 (h c (by simp)).2,Oj l r fun b hb=>h b (by simp[hb]),List.length_cons]
  omega
theorem IK{q d:UInt8}(h:(92:UInt8)≠q)(r:List UInt8):Gf q (92::d::r)=2+Gf q r:=by
 rw[Gf,if_neg h,if_pos rfl]
theorem Bcu{q:UInt8}(r:List UInt8):Gf q (q::r)=0:=by
 cases r with
 |nil=>simp[Gf]
 |cons d r=>rw[Gf,if_pos rfl]
theorem R7{m:Nat}(hm:m<=1114111)(h128:128<=m):∀b∈WR m,128<=b.toNat:=by
 intro b hb
 have big:∀x:Nat,128<=x->x<256->128<=(UInt8.ofNat x).toNat:=fun x h1 h2=>by rw[b8 h2];exact h1
 unfold WR at hb
 rw[if_neg (by omega)] at hb
 split at hb
 ·simp only[List.mem_cons,List.not_mem_nil,or_false] at hb
  rcases hb with rfl | rfl<;>exact big _ (by omega) (by omega)
 ·split at hb
  ·simp only[List.mem_cons,List.not_mem_nil,or_false] at hb
   rcases hb with rfl | rfl | rfl<;>exact big _ (by omega) (by omega)
  ·simp only[List.mem_cons,List.not_mem_nil,or_false] at hb
   rcases hb with rfl | rfl | rfl | rfl<;>exact big _ (by omega) (by omega)
theorem Ov{c:Int}(h0:0<=c)(h1:c<=1114111):(c<128->Mn c=[UInt8.ofNat c.toNat])/\(128<=c->∀b∈Mn c,128<=b.toNat):=by
 obtain ⟨n,rfl⟩:∃n:Nat,c=n:=⟨c.toNat,by omega⟩
 by_cases h2:n<55296\/57343<n
 ·rw[Bno (by omega) h2]
  refine⟨fun h=>?_,fun h=>R7 (by omega) (by omega)⟩
  unfold WR
  rw[if_pos (by omega)]
  rfl
 ·refine⟨fun h=>by omega,fun _=>?_⟩
  have hv:¬Utf8.valid (n:Int)=true:=by
   simp only[Utf8.valid,Bool.or_eq_true,Bool.and_eq_true,decide_eq_true_eq]
   omega
  have e:Mn (n:Int)=WR 65533:=by
   unfold Mn Utf8.encode
   rw[if_neg hv]
   decide +kernel
  rw[e]
  exact R7 (by omega) (by omega)
theorem BeY{n:Nat}(h:n<128):∀b∈GF n,b≠34/\b≠39/\b≠92:=by
 have:∀n,n<128->∀b∈GF n,b≠34/\b≠39/\b≠92:=by decide +kernel
 exact this n h
theorem BjL{q:Nat}(hq:q=34\/q=39){c:Int}(h0:0<=c)(h1:c<=1114111)(r:List UInt8):Gf (UInt8.ofNat q) (Gh c q++r)=(Gh c q).length+Gf (UInt8.ofNat q) r:=by
 have q92:(92:UInt8)≠UInt8.ofNat q:=by rcases hq with rfl | rfl<;>decide
 have hb:=Ov h0 h1
 unfold Gh
 by_cases c1:c=10
 ·rw[if_pos c1];exact IK q92 r
 rw[if_neg c1]
 by_cases c2:c=9
 ·rw[if_pos c2];exact IK q92 r
 rw[if_neg c2]
 by_cases c3:c=13
 ·rw[if_pos c3];exact IK q92 r
 rw[if_neg c3]
 by_cases c4:c=92\/c=q
 ·rw[if_pos c4,hb.1 (by omega)]
  exact IK q92 r
 rw[if_neg c4]
 by_cases c5:c<32\/c=127
 ·rw[if_pos c5]
  have hx:=BeY (n:=c.toNat) (by omega)
  have e:([92,117,123]++GF c.toNat++[125]++r:List UInt8)=92::117::((123::GF c.toNat++[125])++r):=by simp
  rw[e,IK q92,Oj]
  ·simp;omega
  ·intro b hbm
   simp only[List.cons_append,List.mem_cons,List.mem_append,List.not_mem_nil,or_false] at hbm
   rcases hbm with rfl | hbm | rfl
   ·rcases hq with rfl | rfl<;>decide
   ·obtain ⟨x1,x2,x3⟩:=hx b hbm
    rcases hq with rfl | rfl
    ·exact⟨x1,x3⟩
    ·exact⟨x2,x3⟩
   ·rcases hq with rfl | rfl<;>decide
 ·rw[if_neg c5]
  refine Oj _ _ fun b hbm=>?_
  by_cases c6:c<128
  ·rw[hb.1 c6,List.mem_singleton] at hbm
   obtain ⟨n,rfl⟩:∃n:Nat,c=n:=⟨c.toNat,by omega⟩
   have e:b.toNat=n:=by rw[hbm,Int.toNat_natCast];exact b8 (by omega)
   constructor
   ·intro e2
    have:=congrArg UInt8.toNat e2
    rw[e,b8 (by omega)] at this
    omega
   ·intro e2
    rw[e2] at e
    have e:(92:Nat)=n:=e
    omega
  ·have:=hb.2 (by omega) b hbm
   constructor
   ·intro e2
    rw[e2,b8 (by omega)] at this
    omega
   ·intro e2
    rw[e2] at this
    exact absurd this (by decide)
theorem BdG{q:Nat}(hq:q=34\/q=39):∀(l:List Int) (r:List UInt8),(∀c∈l,0<=c/\c<=1114111)->Gf (UInt8.ofNat q) (M9 q l++r)=(M9 q l).length+Gf (UInt8.ofNat q) r
 | [],r,_=>by simp[M9]
 |c::l,r,h=>by
  rw[R8,List.append_assoc,BjL hq (h c (by simp)).1 (h c (by simp)).2,BdG hq l r fun x hx=>h x (by simp[hx]),List.length_append]
  omega
def Bct(x:List UInt8):Prop:=x≠[]/\∀r:List UInt8,(r=[]\/∃t,r=32::t)->TT (x++r)=x.length
theorem Rl:∀(x r:List UInt8),(∀b∈x,b≠32)->(r=[]\/∃t,r=32::t)->Iz (x++r)=x.length
 | [],r,_,hr=>by
  rcases hr with rfl | ⟨t,rfl⟩
  ·rfl
  ·simp[Iz,List.findIdx_cons]
 |b::x,r,h,hr=>by
  have:=Rl x r (fun c hc=>h c (by simp[hc])) hr
  unfold Iz at this ⊢
  rw[List.cons_append,List.findIdx_cons,this]
  have hb:(b==32)=false:=by simpa using h b (by simp)
  rw[hb]
  simp
theorem Mh{x:List UInt8}(hx:x≠[])(h:∀b∈x,b≠32)(hq:x.getD 0 0≠34/\x.getD 0 0≠39):Bct x:=by
 refine⟨hx,fun r hr=>?_⟩
 have e:=Rl x r h hr
 cases x with
 |nil=>exact (hx rfl).elim
 |cons b x =>
  have hq:b≠34/\b≠39:=hq
  rw[List.cons_append,TT,if_neg (by rintro (h | h);exact hq.1 h;exact hq.2 h)]
  exact e
theorem Bds{q:Nat}(hq:q=34\/q=39){l:List Int}(h:∀c∈l,0<=c/\c<=1114111):Bct (IF q l):=by
 have e:IF q l=UInt8.ofNat q::(M9 q l++[UInt8.ofNat q]):=by
  unfold IF
  rw[(Ov (c:=(q:Int)) (by omega) (by omega)).1 (by omega)]
  rfl
 rw[e]
 refine⟨by simp,fun r hr=>?_⟩
 have hq2:UInt8.ofNat q=34\/UInt8.ofNat q=39:=by rcases hq with rfl | rfl<;>decide
 rw[List.cons_append,TT,if_pos hq2,List.append_assoc,BdG hq l _ h,List.cons_append,List.nil_append,Bcu]
 simp only[List.length_append,List.length_cons,List.length_nil]
 omega
def okT(x:List UInt8):Prop:=x.getD 0 0≠10/\x.getD 0 0≠59/\x.getD 0 0≠123/\x.getD 0 0≠125
def Rf(x:List UInt8):Prop:=Bct x/\okT x
def okP:Pt->Prop
 |.tx x=>Rf x
 |_=>True
theorem Ew{x:List UInt8}(hx:x≠[])(h:∀b∈x,b≠32)(hq:∀b∈([34,39,10,59,123,125]:List UInt8),x.getD 0 0≠b):Rf x :=
 ⟨Mh hx h ⟨hq 34 (by simp),hq 39 (by simp)⟩,hq 10 (by simp),hq 59 (by simp),hq 123 (by simp),hq 125 (by simp)⟩
theorem OZ{q:Nat}(hq:q=34\/q=39){l:List Int}(h:∀c∈l,0<=c/\c<=1114111):Rf (IF q l):=by
 refine⟨Bds hq h,?_⟩
 have e:(IF q l).getD 0 0=UInt8.ofNat q:=by
  unfold IF
  rw[(Ov (c:=(q:Int)) (by omega) (by omega)).1 (by omega)]
  rfl
 unfold okT
 rw[e]
 rcases hq with rfl | rfl<;>decide
theorem BcQ(z:Int):∀b∈BA z,BkL b=true\/b=95:=by
 intro b hb
 unfold BA at hb
 split at hb
 ·rcases List.mem_cons.1 hb with rfl | hb
  ·exact .inr rfl
  ·exact .inl ((WD _).1 b hb)
 ·exact .inl ((WD _).1 b hb)
theorem BgP(z:Int):Rf (BA z):=by
 obtain ⟨b,t,e,hb⟩:=Bej z
 have key:∀b:UInt8,BfZ b=true->∀c∈([34,39,10,59,123,125]:List UInt8),b≠c:=fun b hb c hc e=>by
  subst e
  have k:∀c∈([34,39,10,59,123,125]:List UInt8),BfZ c=false:=by decide +kernel
  rw[k b hc] at hb;cases hb
 refine Ew (by rw[e];simp) (fun c hc e2=>?_) ?_
 ·rcases BcQ z c hc with h | h
  ·rw[e2] at h;exact absurd h (by decide)
  ·rw[e2] at h;exact absurd h (by decide)
 ·rw[e];exact key b hb
theorem Bhj:∀n:Nat,n<56->1<=n->(primL.getD n [])≠[]/\(∀b∈primL.getD n [],b≠32)/\∀c∈([34,39,10,59,123,125]:List UInt8),(primL.getD n []).getD 0 0≠c:=by decide +kernel
theorem BmJ:∀n:Nat,n<12->1<=n->(opL.getD n [])≠[]/\(∀b∈opL.getD n [],b≠32)/\∀c∈([34,39,10,59,123,125]:List UInt8),(opL.getD n []).getD 0 0≠c:=by decide +kernel
theorem T2{s:List UInt8}(h:Ce s=true):Rf s:=by
 obtain ⟨h1,_,_,_,h5,h6,_,_⟩:=BO h
 have key:∀b:UInt8,97<=b.toNat/\b.toNat<=122->∀c∈([34,39,10,59,123,125]:List UInt8),b≠c:=fun b hb c hc e=>by
  subst e
  have k:∀c∈([34,39,10,59,123,125]:List UInt8),¬(97<=c.toNat/\c.toNat<=122):=by decide +kernel
  exact k b hc hb
 refine Ew h1 (fun b hb e=>?_) (key _ h5)
 obtain ⟨i,hi,e2⟩:=List.getElem_of_mem hb
 have:=h6 i hi
 rw[List.getD_eq_getElem?_getD,List.getElem?_eq_getElem hi,Option.getD_some,e2,e] at this
 exact absurd this (by decide)
theorem BhG{n:Nd}(hl:C3 n=true)(ho:n.ok):Rf (Bt n):=by
 rw[CT]
 unfold C3 at hl
 rw[Bool.and_eq_true] at hl
 have hl:=hl.2
 have lit:∀x:List UInt8,x∈([[88],[89],[97,114,103],[115,101,108,102],[70],[71]]:List (List UInt8))->Rf x:=fun x hx=>by
  have key:∀x∈([[88],[89],[97,114,103],[115,101,108,102],[70],[71]]:List (List UInt8)),x≠[]/\(∀b∈x,b≠32)/\∀c∈([34,39,10,59,123,125]:List UInt8),x.getD 0 0≠c:=by decide +kernel
  obtain ⟨k1,k2,k3⟩:=key x hx
  exact Ew k1 k2 k3
 by_cases k1:n.kd=1
 ·rw[if_pos k1] at hl ⊢
  simp only[Bool.and_eq_true,Bool.or_eq_true,beq_iff_eq,bne_iff_ne,ne_eq,List.isEmpty_iff] at hl
  obtain ⟨⟨_,hc⟩,hs⟩:=hl
  have lo:=Ben (OX ho) hc
  unfold GP
  rw[if_pos hc,I2]
  unfold Mu
  rcases hs with ⟨hs,hk⟩ | ⟨hs,hk⟩
  ·have hs0:n.va.sh.length=0:=by rw[hs];rfl
   rw[if_pos hs0]
   unfold CC
   have hsc:=lo.sc hs0
   rw[lo.no hk] at hsc
   have hn:n.va.nu.length=1:=by simpa using hsc
   by_cases q1:n.va.k=1
   ·rw[if_pos q1];exact BgP _
   ·rw[if_neg q1]
    have q2:n.va.k=2:=by have:=lo.kd;omega
    rw[if_pos q2]
    refine OZ (q:=39) (.inr rfl) fun c hcm=>lo.chr q2 c ?_
    rw[List.mem_singleton.1 hcm,List.getD_eq_getElem?_getD,List.getElem?_eq_getElem (show 0<n.va.nu.length by omega)]
    exact List.getElem_mem _
  ·rw[if_neg (by omega),if_pos ⟨hs,.inl hk⟩]
   unfold E9
   rw[if_pos hk]
   exact OZ (q:=34) (.inl rfl) (lo.chr hk)
 rw[if_neg k1] at hl ⊢
 by_cases k2:n.kd=2
 ·rw[if_pos k2] at hl ⊢
  rw[Bool.and_eq_true] at hl
  exact T2 hl.2
 rw[if_neg k2] at hl ⊢
 by_cases k6:n.kd=6
 ·rw[if_pos k6];exact lit _ (by simp)
 rw[if_neg k6]
 by_cases k7:n.kd=7
 ·rw[if_pos k7];exact lit _ (by simp)
 rw[if_neg k7]
 by_cases k8:n.kd=8
 ·rw[if_pos k8];exact lit _ (by simp)
 rw[if_neg k8]
 by_cases k11:n.kd=11
 ·rw[if_pos k11];exact lit _ (by simp)
 rw[if_neg k11]
 by_cases k12:n.kd=12
 ·rw[if_pos k12];exact lit _ (by simp)
 rw[if_neg k12]
 by_cases k13:n.kd=13
 ·rw[if_pos k13];exact lit _ (by simp)
 rw[if_neg k13]
 rw[if_neg (by omega)] at hl
 by_cases k9:n.kd=9
 ·rw[if_pos k9] at hl ⊢
  rw[Bool.and_eq_true,Bcc] at hl
  have h2:=hl.2
  simp only[Bool.not_not,Bool.and_eq_true,decide_eq_true_eq] at h2
  unfold Cf
  rw[if_neg (by omega)]
  obtain ⟨p1,p2,p3⟩:=Bhj n.pr.toNat (by omega) (by omega)
  exact Ew p1 p2 p3
 rw[if_neg k9] at hl ⊢
 rw[if_neg (by omega)] at hl
 by_cases k17:n.kd=17
 ·rw[if_pos k17] at hl ⊢
  rw[Bool.and_eq_true,Bkm] at hl
  have h2:=hl.2
  simp only[Bool.not_not,Bool.and_eq_true,decide_eq_true_eq] at h2
  unfold opT
  rw[if_neg (by omega)]
  obtain ⟨p1,p2,p3⟩:=BmJ n.op.toNat (by omega) (by omega)
  exact Ew p1 p2 p3
 rw[if_neg k17] at hl
 cases hl
theorem okW{ks:List Int}{k:Int}{l:List Pt}(h:∀p∈l,okP p):∀p∈ptW ks k l,okP p:=by
 unfold ptW
 split
 ·intro p hp
  simp only[List.mem_cons,List.mem_append,List.not_mem_nil,or_false] at hp
  rcases hp with rfl | hp | rfl
  ·exact Ew (by simp) (by decide) (by decide)
  ·exact h p hp
  ·exact Ew (by simp) (by decide) (by decide)
 ·exact h
theorem okJ{l:List (List Pt)}(h:∀x∈l,∀p∈x,okP p):∀p∈ptJ l,okP p:=by
 cases l with
 |nil=>intro p hp;cases hp
 |cons x r =>
  intro p hp
  rw[ptJ] at hp
  rcases List.mem_append.1 hp with hp | hp
  ·exact h x (by simp) p hp
  ·obtain ⟨y,hy,hp⟩:=List.mem_flatMap.1 hp
   rcases List.mem_cons.1 hp with rfl | hp
   ·trivial
   ·exact h y (by simp[hy]) p hp
theorem okN(n:Nd)(hv:Bz n=true)(ho:n.ok):∀p∈ptN n,okP p:=by
 obtain ⟨L2,L3,_⟩:=IM hv
 have vk:=(EG hv).1
 have kk:∀x∈n.ki,∀p∈ptN x,okP p:=fun x hx=>okN x (vk x hx) (Oc ho x hx)
 have kid:∀i,i<n.ki.length->∀p∈ptN (n.ki.getD i default),okP p:=fun i hi=>kk _ (BW hi)
 have kids:∀ks:List Int,∀p∈n.ki.flatMap (BR ks),okP p:=fun ks p hp=>by
  obtain ⟨x,hx,hp⟩:=List.mem_flatMap.1 hp
  exact okW (kk x hx) p hp
 have pg:∀i,i<n.ki.length->(ptL n.ki).getD i []=ptN (n.ki.getD i default):=fun i hi=>Ra hi
 have cat:∀ {a b:List Pt},(∀p∈a,okP p)->(∀p∈b,okP p)->∀p∈a++b,okP p:=fun ha hb p hp=>by
  rcases List.mem_append.1 hp with hp | hp
  ·exact ha p hp
  ·exact hb p hp
 rw[Gj]
 by_cases k3:n.kd=3
 ·rw[if_pos k3];exact kids _
 rw[if_neg k3]
 by_cases k4:n.kd=4
 ·have hL:n.ki.length=2:=L2 (.inl k4)
  rw[if_pos k4,pg 0 (by omega),pg 1 (by omega)]
  exact cat (okW (kid 0 (by omega))) (kid 1 (by omega))
 rw[if_neg k4]
 by_cases k5:n.kd=5
 ·have hL:n.ki.length=3:=L3 (.inl k5)
  rw[if_pos k5,pg 0 (by omega),pg 1 (by omega),pg 2 (by omega)]
  exact cat (okW (kid 1 (by omega))) (cat (okW (kid 0 (by omega))) (kid 2 (by omega)))
 rw[if_neg k5]
 by_cases k16:n.kd=16
 ·rw[if_pos k16];exact kids _
 rw[if_neg k16]
 by_cases k14:n.kd=14
 ·have hL:n.ki.length=2:=L2 (.inr k14)
  rw[if_pos k14,pg 0 (by omega),pg 1 (by omega)]
  exact cat (okW (kid 1 (by omega))) (kid 0 (by omega))
 rw[if_neg k14]
 by_cases k15:n.kd=15
 ·have hL:n.ki.length=3:=L3 (.inr k15)
  rw[if_pos k15,pg 0 (by omega),pg 1 (by omega),pg 2 (by omega)]
  exact cat (okW (kid 1 (by omega))) (cat (kid 0 (by omega)) (okW (kid 2 (by omega))))
 rw[if_neg k15]
 by_cases k10:n.kd=10
 ·rw[if_pos k10]
  have h1:=hv
  rw[CF,Bool.and_eq_true,if_pos k10,Bool.and_eq_true] at h1
  have hb:=h1.2.2
  unfold BP at hb
  rw[Bool.and_eq_true] at hb
  have st:∀s∈n.bo,∀p∈ptM s,okP p:=fun s hs=>by
   obtain ⟨q1,q2⟩:=Em hb.2 s hs
   have z1:=Nd.size_stmt hs
   have z2:=Sm.size_nd s
   have z3:=Sm.size_te s
   have o:=Cq (GG ho s hs)
   have hn:=okN s.nd q1 o.2
   rw[IE]
   by_cases c2:s.kd=2
   ·rw[if_pos c2]
    obtain ⟨names,hst⟩:=MW hb.2 s hs
    rw[GE,Bool.and_eq_true,if_neg (by omega),if_pos c2] at hst
    simp only[Bool.and_eq_true] at hst
    intro p hp
    simp only[List.mem_cons] at hp
    rcases hp with rfl | rfl | hp
    ·exact T2 hst.2.1.1.1.1
    ·exact Ew (by simp) (by decide) (by decide)
    ·exact hn p hp
   ·rw[if_neg c2]
    by_cases c3:s.kd=3
    ·rw[if_pos c3]
     have hv2:Bz s.te=true:=by
      rcases q2 with ⟨_,q,_⟩ | ⟨q,_⟩
      ·exact q
      ·exact (q c3).elim
     refine cat (okN s.te hv2 o.1) fun p hp=>?_
     rcases List.mem_cons.1 hp with rfl | hp
     ·exact Ew (by simp) (by decide) (by decide)
     ·exact hn p hp
    ·rw[if_neg c3];exact hn
  intro p hp
  rcases List.mem_cons.1 hp with rfl | hp
  ·trivial
  ·refine cat (okJ fun x hx=>?_) (fun p hp=>?_) p hp
   ·obtain ⟨s,hs,rfl⟩:=List.mem_map.1 hx
    exact st s hs
   ·rw[List.mem_singleton.1 hp];trivial
 ·rw[if_neg k10]
  intro p hp
  rw[List.mem_singleton.1 hp]
  rcases Eg hv k10 with hc | ⟨hc,_⟩
  ·exact BhG hc ho
  ·unfold CR at hc
   simp[k3,k4,k5,k14,k15,k16] at hc
termination_by SizeOf.sizeOf n
decreasing_by
 ·exact Nd.size_kid hx
 ·omega
 ·omega
def lvP(l:Int):Pt->Int
 |.op=>l+1
 |.cl=>l-1
 |_=>l
def lvL(l:Int)(ps:List Pt):Int:=ps.foldl lvP l
theorem Bmb(a b:Int)(p:Pt):lvP (a+b) p=a+lvP b p:=by
 cases p<;>simp only[lvP]<;>omega
theorem UH(l:Int)(a b:List Pt):lvL l (a++b)=lvL (lvL l a) b:=by
 unfold lvL;rw[List.foldl_append]
theorem UO:∀(ps:List Pt) (a b:Int),lvL (a+b) ps=a+lvL b ps
 | [],_,_=>rfl
 |p::ps,a,b=>by
  have:=UO ps a (lvP b p)
  unfold lvL at this ⊢
  rw[List.foldl_cons,List.foldl_cons,Bmb,this]
def ID(ps:List Pt):Prop:=lvL 0 ps=0/\∀k,0<=lvL 0 (ps.take k)
theorem Bbj:ID []:=⟨rfl,fun k=>by simp[lvL]⟩
theorem EU{p:Pt}(h:lvP 0 p=0):ID [p]:=by
 refine⟨h,fun k=>?_⟩
 cases k with
 |zero=>simp[lvL]
 |succ k=>simp[lvL,h]
theorem Ci{a b:List Pt}(ha:ID a)(hb:ID b):ID (a++b):=by
 refine⟨by rw[UH,ha.1,hb.1],fun k=>?_⟩
 rw[List.take_append,UH]
 by_cases h:k<=a.length
 ·rw[show k-a.length=0 by omega,List.take_zero]
  exact ha.2 k
 ·rw[List.take_of_length_le (by omega),ha.1]
  exact hb.2 _
theorem BjT{a:List Pt}(ha:ID a):ID (.op::(a++[.cl])):=by
 have e1:lvL 0 (.op::(a++[.cl]))=0:=by
  show lvL (lvP 0 .op) (a++[.cl])=0
  rw[UH]
  have:=UO a 1 0
  rw[ha.1] at this
  have e:lvP 0 .op=1+0:=rfl
  rw[e,this]
  rfl
 refine⟨e1,fun k=>?_⟩
 cases k with
 |zero=>simp[lvL]
 |succ k =>
  show 0<=lvL (lvP 0 .op) ((a++[Pt.cl]).take k)
  have e:lvP 0 .op=1+0:=rfl
  rw[e,UO,List.take_append,UH]
  by_cases h:k<=a.length
  ·rw[show k-a.length=0 by omega,List.take_zero]
   have:=ha.2 k
   have e2:lvL (lvL 0 (a.take k)) []=lvL 0 (a.take k):=rfl
   omega
  ·rw[List.take_of_length_le (by omega),ha.1]
   obtain ⟨j,hj⟩:∃j,k-a.length=j+1:=⟨k-a.length-1,by omega⟩
   rw[hj]
   simp[lvL,lvP]
theorem OI{ks:List Int}{k:Int}{l:List Pt}(h:ID l):ID (ptW ks k l):=by
 unfold ptW
 split
 ·exact Ci (a:=[.tx [40]]) (EU rfl) (Ci h (EU rfl))
 ·exact h
theorem Mq{α:Type}{f:α->List Pt}:∀ {l:List α},(∀x∈l,ID (f x))->ID (l.flatMap f)
 | [],_=>Bbj
 |x::r,h=>by
  rw[List.flatMap_cons]
  exact Ci (h x (by simp)) (Mq fun y hy=>h y (by simp[hy]))
theorem Bn5{l:List (List Pt)}(h:∀x∈l,ID x):ID (ptJ l):=by
 cases l with
 |nil=>exact Bbj
 |cons x r =>
  rw[ptJ]
  exact Ci (h x (by simp)) (Mq fun y hy=>Ci (a:=[.sp]) (EU rfl) (h y (by simp[hy])))
theorem Bm3{α:Type}{p:List α->Prop}(h0:p []){l:List (List α)}(h:∀x∈l,p x)(i:Nat):p (l.getD i []):=by
 rw[List.getD_eq_getElem?_getD]
 by_cases hi:i<l.length
 ·rw[List.getElem?_eq_getElem hi];exact h _ (List.getElem_mem hi)
 ·rw[List.getElem?_eq_none (by omega)];exact h0
theorem Wf(n:Nd):ID (ptN n):=by
 have kk:∀x∈n.ki,ID (ptN x):=fun x hx=>Wf x
 have kg:∀i,ID ((ptL n.ki).getD i []):=fun i=>Bm3 Bbj (fun x hx=>by
  rw[Ba1] at hx
  obtain ⟨y,hy,rfl⟩:=List.mem_map.1 hx
  exact kk y hy) i
 rw[Gj]
 split
 ·exact Mq fun x hx=>OI (kk x hx)
 split
 ·exact Ci (OI (kg 0)) (kg 1)
 split
 ·exact Ci (OI (kg 1)) (Ci (OI (kg 0)) (kg 2))
 split
 ·exact Mq fun x hx=>OI (kk x hx)
 split
 ·exact Ci (OI (kg 1)) (kg 0)
 split
 ·exact Ci (OI (kg 1)) (Ci (kg 0) (OI (kg 2)))
 split
 ·refine BjT (Bn5 fun x hx=>?_)
  obtain ⟨s,hs,rfl⟩:=List.mem_map.1 hx
  have z1:=Nd.size_stmt hs
  have z2:=Sm.size_nd s
  have z3:=Sm.size_te s
  have h1:=Wf s.nd
  have h2:=Wf s.te
  rw[IE]
  split
  ·exact Ci (a:=[.tx s.nm]) (EU rfl) (Ci (a:=[.tx [60,45]]) (EU rfl) h1)
  split
  ·exact Ci h2 (Ci (a:=[.tx [58]]) (EU rfl) h1)
  ·exact h1
 ·exact EU rfl
termination_by SizeOf.sizeOf n
decreasing_by
 ·exact Nd.size_kid hx
 ·omega
 ·omega
theorem balM(s:Sm):ID (ptM s):=by
 rw[IE]
 split
 ·exact Ci (a:=[.tx s.nm]) (EU rfl) (Ci (a:=[.tx [60,45]]) (EU rfl) (Wf s.nd))
 split
 ·exact Ci (Wf s.te) (Ci (a:=[.tx [58]]) (EU rfl) (Wf s.nd))
 ·exact Wf s.nd
def Gi(l:Int):List UInt8:=10::List.replicate (2*l.toNat) 32
def rlT(l:Int):Pt->List UInt8
 |.sp=>Gi l
 |p=>prT p
def rlP(l:Int):List Pt->List (List UInt8)
 | []=>[]
 |p::r=>rlT l p::rlP (lvP l p) r
theorem ED:∀(ps:List Pt) (l:Int),(rlP l ps).length=ps.length
 | [],_=>rfl
 |p::r,l=>by rw[rlP,List.length_cons,List.length_cons,ED r]
theorem BfS:∀(a b:List Pt) (l:Int),rlP l (a++b)=rlP l a++rlP (lvL l a) b
 | [],_,_=>rfl
 |p::a,b,l=>by
  rw[List.cons_append,rlP,rlP,BfS a b,List.cons_append]
  rfl
theorem EB{a:List Pt}(ha:ID a)(b:List Pt)(l:Int):rlP l (a++b)=rlP l a++rlP l b:=by
 rw[BfS]
 have:=UO a l 0
 rw[ha.1] at this
 simp only[Int.add_zero] at this
 rw[this]
theorem OO:∀(ps:List Pt) (l:Int) (i:Nat),i<ps.length->(rlP l ps).getD i []=rlT (lvL l (ps.take i)) (ps.getD i .sp)
 |p::r,l,0,_=>rfl
 |p::r,l,i+1,h=>by
  have:=OO r (lvP l p) i (by simpa using h)
  simpa[rlP,lvL] using this
def Mj(c:UInt8):Bool:=(decide (97<=c.toNat)&&decide (c.toNat<=122))||(decide (65<=c.toNat)&&decide (c.toNat<=90))||(decide (48<=c.toNat)&&decide (c.toNat<=57))||c==95
def Ea(a b:List UInt8):Bool :=
 (Mj (a.getD (a.length-1) 0)&&Mj (b.getD 0 0))||(a.getD (a.length-1) 0==60&&(b.getD 0 0==61||b.getD 0 0==45))||(a.getD (a.length-1) 0==62&&b.getD 0 0==61)
def BaO:Pt->Bool
 |.sp=>true
 |_=>false
def blB(cmp:Bool)(a b:List UInt8):List UInt8:=bif !a.isEmpty&&(!cmp||Ea a b) then [32] else []
def wrS(cmp:Bool)(s:List UInt8×List UInt8×Int)(p:Pt):List UInt8×List UInt8×Int :=
 if BaO p then (s.1++(bif cmp then [59] else Gi s.2.2),[],s.2.2) else (s.1++blB cmp s.2.1 (prT p)++prT p,prT p,lvP s.2.2 p)
def wrF(cmp:Bool)(ps:List Pt):List UInt8×List UInt8×Int:=ps.foldl (wrS cmp) ([],[],0)
theorem IU(cmp:Bool){ps:List Pt}{i:Nat}(h:i<ps.length):wrF cmp (ps.take (i+1))=wrS cmp (wrF cmp (ps.take i)) (ps.getD i .sp):=by
 unfold wrF
 rw[List.take_add_one,List.getElem?_eq_getElem h,List.foldl_append,List.getD_eq_getElem?_getD,List.getElem?_eq_getElem h]
 rfl
theorem Bky{ps:List Pt}{i:Nat}(h:i<ps.length):lvL 0 (ps.take (i+1))=lvP (lvL 0 (ps.take i)) (ps.getD i .sp):=by
 unfold lvL
 rw[List.take_add_one,List.getElem?_eq_getElem h,List.foldl_append,List.getD_eq_getElem?_getD,List.getElem?_eq_getElem h]
 rfl
theorem GX(cmp:Bool)(ps:List Pt):∀i,i<=ps.length->(wrF cmp (ps.take i)).2.2=lvL 0 (ps.take i)/\(wrF cmp (ps.take i)).2.1=if 0<i/\BaO (ps.getD (i-1) .sp)=false then prT (ps.getD (i-1) .sp) else []
 |0,_=>by simp[wrF,lvL]
 |i+1,h=>by
  have hi:i<ps.length:=by omega
  obtain ⟨h1,h2⟩:=GX cmp ps i (by omega)
  rw[IU cmp hi,Bky hi]
  simp only[Nat.add_sub_cancel]
  unfold wrS
  cases hp:ps.getD i .sp<;>simp[BaO,lvP,h1,prT]
def Ub(x:List UInt8):Bool:=x.getD 0 0==10
theorem Bln{p:Pt}(hp:okP p)(l:Int):Ub (rlT l p)=BaO p:=by
 cases p with
 |tx x =>
  have:=hp.2.1
  simp only[Ub,rlT,prT,BaO]
  simpa using this
 |op=>rfl
 |cl=>rfl
 |sp=>rfl
theorem Bj1{p:Pt}(hp:okP p):prT p≠[]:=by
 cases p with
 |tx x=>exact hp.1.1
 |op=>simp[prT]
 |cl=>simp[prT]
 |sp=>simp[prT]
theorem ON{ps:List Pt}(h:∀p∈ps,okP p)(i:Nat):okP (ps.getD i .sp):=by
 rw[List.getD_eq_getElem?_getD]
 by_cases hi:i<ps.length
 ·rw[List.getElem?_eq_getElem hi];exact h _ (List.getElem_mem hi)
 ·rw[List.getElem?_eq_none (by omega)];trivial
theorem BbK(cmp : Bool){ps : List Pt}(h : ∀ p ∈ ps, okP p){i : Nat}(hi : i < ps.length) :
    (wrF cmp (ps.take (i + 1))).1 = (wrF cmp (ps.take i)).1 ++
      (if Ub ((rlP 0 ps).getD i []) = true then (bif cmp then [59] else (rlP 0 ps).getD i [])
       else (if 0 < i/\Ub ((rlP 0 ps).getD (i - 1) []) = false/\(cmp = true->Ea ((rlP 0 ps).getD (i - 1) []) ((rlP 0 ps).getD i []) = true) then [32] else []) ++ (rlP 0 ps).getD i []) := by
  obtain ⟨h1,h2⟩ := GX cmp ps i (by omega)
  have hp := ON h i
  rw [IU cmp hi,OO ps 0 i hi,Bln hp]
  unfold wrS
  by_cases hs:BaO (ps.getD i .sp) = true
  · rw [if_pos hs,if_pos hs,h1]
    have e:rlT (lvL 0 (ps.take i)) (ps.getD i .sp) = Gi (lvL 0 (ps.take i)) := by
      cases hq:ps.getD i .sp <;> rw [hq] at hs <;> first | rfl | cases hs
    rw [e]
  · rw [if_neg hs,if_neg hs]
    have e:rlT (lvL 0 (ps.take i)) (ps.getD i .sp) = prT (ps.getD i .sp) := by
      cases hq:ps.getD i .sp <;> rw [hq] at hs <;> first | rfl | exact (hs rfl).elim
    rw [e,List.append_assoc]
    congr 2
    unfold blB
    rw [h2]
    by_cases h0:0 < i
    · have hp1 := ON h (i - 1)
      rw [OO ps 0 (i - 1) (by omega),Bln hp1]
      by_cases hs1:BaO (ps.getD (i - 1) .sp) = false
      · have e1:rlT (lvL 0 (ps.take (i - 1))) (ps.getD (i - 1) .sp) = prT (ps.getD (i - 1) .sp) := by
          cases hq:ps.getD (i - 1) .sp <;> rw [hq] at hs1 <;> first | rfl | cases hs1
        rw [if_pos ⟨h0,hs1⟩,e1]
        have hne:(prT (ps.getD (i - 1) .sp)).isEmpty = false := by
          rw [List.isEmpty_eq_false_iff]; exact Bj1 hp1
        rw [hne,hs1]
        generalize Ea (prT (ps.getD (i - 1) .sp)) (prT (ps.getD i .sp)) = nb
        cases cmp <;> cases nb <;> simp [h0]
      · rw [if_neg (by rintro ⟨_,hh⟩; exact hs1 hh)]
        have hs1:BaO (ps.getD (i - 1) .sp) = true := by simpa using hs1
        rw [hs1]
        simp
    · rw [if_neg (by omega),if_neg (by omega)]
      rfl
end
end Go.Proofs.YtnlplccjbojloaaGreatDoor
