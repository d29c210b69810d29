/- Functions of the given program and what each of them computes: lemmas towards the statement, their conditions stated with each of them. -/
import Derived.Test.YtnlplccjbojloaaGreatDoorS3
namespace Go.Proofs.YtnlplccjbojloaaGreatDoor
open Go Go.Ab
set_option maxRecDepth 100000
noncomputable section
def Bfw(its:List Arr):Con:=fun k ds S=>match k with
 |121=>some (sRc Arr.row1 (fun b=>b∈its) (fun b=>.str (Bx b)))
 |137=>match ds with
  | [.sl 1 n f m]=>some (pC [.sl 1 n f m] (.str (Lib.join (B6 n f) [32])) (Gz n f=true/\GH (B6 n f) [32]))
  |_=>none
 |k=>OG k ds S
theorem Biz{its:List Arr}(ih:∀b∈its,ACalls Tryz.prog 121 ((sRc Arr.row2 (fun _=>True) (fun b=>.str (Bx b))).args b) ⟨[],[]⟩ (SpecR (sRc Arr.row2 (fun _=>True) (fun b=>.str (Bx b))) b)):ConOk Tryz.prog (Bfw its):=by
 intro k ds S A h
 unfold Bfw at h
 split at h
 ·injection h with h;subst h
  exact ConOk.plain (fun b hb=>Em (ih b hb)) rfl rfl
 ·split at h
  ·injection h with h;subst h
   exact BY fun ⟨h1,h2⟩=>⟨Ba _,Ca (us:=[ssl (B6 _ _) .any]) ⟨WZ h1,trivial⟩ (BcJ _ h2)⟩
  ·cases h
 ·exact Ii _ _ _ _ h
noncomputable def Evc(a:Arr):Senv:={ EC (Bfw a.it) 44 4 [5,7,10,15,16,17,18,28,29,30,31] (fun _=>([],[])) with
 gh:=fun b=>match b with
  |0=>[.slot 3]
  |_=>[]
 ann:=fun b _ S=>match b with
  |0=>some { slots:=[17,3],keep:=[1,15,16],α:=Nat×Nat×List (List UInt8),st:=fun y=>([.int .i64 y.1,ssl y.2.2 (.tok 0 y.2.1)],⟨S.objs,[(0,y.2.1)]⟩),inv:=fun y=>y.1<=a.nu.length/\y.2.2=(a.nu.take y.1).map BA,mu:=fun y=>a.nu.length-y.1 }
  |2=>some { slots:=[30,3],keep:=[1,28,29],α:=Nat×Nat×List (List UInt8),st:=fun y=>([.int .i64 y.1,ssl y.2.2 (.tok 0 y.2.1)],⟨S.objs,[(0,y.2.1)]⟩),inv:=fun y=>y.1<=a.it.length/\y.2.2=a.nu.map BA++(a.it.take y.1).map (fun b=>Gc (Bx b)),mu:=fun y=>a.it.length-y.1 }
  |_=>none }
theorem Tk{l : List (List UInt8)}{s : List UInt8} :
  ∀i,i<l.length+1->BM l.length (fun i=>[D.str (l.getD i [])]) (fun i=>[D.str ([s].getD i [])]) i=[D.str ((l++[s]).getD i [])]:=by
 intro i hi
 simp only[BM]
 split
 ·rename_i hlt
  simp[List.getD_eq_getElem?_getD,List.getElem?_append_left hlt]
 ·have:i=l.length:=by omega
  subst this
  simp[List.getD_eq_getElem?_getD]
theorem Bfo{α:Type}{l:List α}{i:Nat}(d:α)(h:i<l.length):l.take (i+1)=l.take i++[l.getD i d]:=by
 rw[List.take_add_one,List.getElem?_eq_getElem h,List.getD_eq_getElem?_getD,List.getElem?_eq_getElem h];rfl
theorem Bny{a:Arr}(h:(Bu a).1=0)(h2:a.k=2):∀c∈a.nu,0<=c/\c<=1114111:=by
 cases a with
 |mk k s n is =>
  have h2:k=2:=h2
  subst h2
  rw[Bu] at h
  by_cases h0:B8 2 s n.length is.length≠0
  ·rw[if_pos h0] at h;exact (h0 h).elim
  ·rw[if_neg h0] at h
   by_cases hb:n.any (E9 2)=true
   ·rw[if_pos hb] at h;simp at h
   ·intro c hc
    have hb:¬E9 2 c=true:=fun h=>hb (List.any_eq_true.2 ⟨c,hc,h⟩)
    have:WK c=true:=by simpa[E9] using hb
    simp only[WK,Bool.and_eq_true,decide_eq_true_eq] at this
    omega
theorem Bg3{a:Arr}(ho:a.ok)(h:(Bu a).1=0):7*a.it.length+Co (a.it.map Bx)<=157286400:=by
 have ht:=Bl3 h
 cases a with
 |mk k s n is =>
  obtain ⟨_,_,_,h4⟩:=EN h
  simp only[Arr.ok] at ho
  have hi:=(E2 _).1 ho.2.2.2.2.2.2
  have key:∀l:List Arr,(∀x∈l,x∈is)->7*l.length+Co (l.map Bx)<=600*Wx l:=fun l=>by
   induction l with
   |nil=>simp[Co,Wx]
   |cons x l ih =>
    intro hl
    have h5:=ih fun y hy=>hl y (List.mem_cons_of_mem _ hy)
    have hx:x∈is:=hl x List.mem_cons_self
    have h6:=Rd x (hi x hx) (h4 x hx)
    simp only[List.map_cons,Co,Wx,List.length_cons];omega
  have hk:=key is fun x hx=>hx
  simp only[BbS] at ht
  show 7*is.length+Co (is.map Bx)<=_
  omega
theorem ML:∀ {l:List Arr} {x:Arr},x∈l->(Bx x).length<=Co (l.map Bx)
 |y::l,x,h=>by
  simp only[List.map_cons,Co]
  rcases List.mem_cons.1 h with rfl | h
  ·omega
  ·have:=ML h;omega
theorem BjR{a:Arr}(ho:a.ok)(h:(Bu a).1=0):a.sh.length<=8/\a.nu.length<=65536/\a.it.length<=65536/\(∀z∈a.sh,Br z)/\∀z∈a.nu,Br z:=by
 cases a with
 |mk k s n is =>
  obtain ⟨h1,h2,h3,_⟩:=EN h
  simp only[Arr.ok] at ho
  exact⟨h1,h2,h3,ho.2.1,ho.2.2.1⟩
structure LOk (a:Arr):Prop where
 kd:a.k=1\/a.k=2\/a.k=3
 s8:a.sh.length<=8
 n6:a.nu.length<=65536
 i6:a.it.length<=65536
 si:∀z∈a.sh,Br z
 ni:∀z∈a.nu,Br z
 sum:7*a.it.length+Co (a.it.map Bx)<=157286400
 chr:a.k=2->∀c∈a.nu,0<=c/\c<=1114111
 no:a.k≠3->a.it=[]
 bx:a.k=3->a.nu=[]
 sc:a.sh.length=0->a.nu.length+a.it.length=1
def Qco(a:Arr):Int:=Arr.k a
def Xc(a:Arr):List Int:=Arr.nu a
def JH(a:Arr):Nat:=LN (Xc a)
def ZW(a:Arr)(b:Nat):List D:=[ZI (GI (Xc a) b)]
def Qv5(a:Arr):List Int:=Bk (JH a) fun i=>ZW a i
def Yc(a:Arr):List Arr:=Arr.it a
def Qv6(a:Arr):List UInt8:=Ga (Qco a) (Xc a) (List.map Bx (Yc a))
def Qi1(a:Nat)(b:Arr)(c:List (List UInt8)):Prop:=a<=JH b/\c=List.map BA (List.take a (Xc b))
def J9(a:List (List UInt8))(b:Nat):List D:=[D.str (List.getD a b [])]
def Qi2(a:Arr):Nat:=LN (Arr.sh a)
def Qv7(a:Arr)(b:Nat):List D:=[ZI (GI (Arr.sh a) b)]
def Vw(a:Arr):Nat:=LN (Yc a)
def Qcp:Arr:=DA
def ZX(a:Arr)(b:Nat):Arr:=List.getD (Yc a) b Qcp
def QPI(a:Arr)(b:Nat):List Int:=Arr.sh (ZX a b)
def QPJ(a:Arr)(b:Nat):List Int:=Arr.nu (ZX a b)
def Qv8(a:Arr)(b:Nat):List Arr:=Arr.it (ZX a b)
def Qv9(a:Arr)(b:Nat):List D:=[ZI (Arr.k (ZX a b)),SI (QPI a b),SI (QPJ a b),D.sl N4 (LN (Qv8 a b)) (fun i=>Arr.row (List.getD (Qv8 a b) i Qcp)) Mode.any]
def Qcq(a:Nat)(b:Arr)(c d:Nat):Prop:=(SM a/\(SM (Qco b)/\(SM (Qi2 b)/\(∀(i:Nat),i<Qi2 b->SM (Qv7 b i))/\True)/\(SM (JH b)/\(∀(i:Nat),i<JH b->SM (ZW b i))/\True)/\(SM (Vw b)/\(∀(i:Nat),i<Vw b->SM (Qv9 b i))/\True)/\True)/\True)/\c=d/\True
def Qi3(a:Arr):Int:=(NI (JH a))
def QPK(a:Arr):D:=D.sl N1 (JH a) (fun i=>ZW a i) Mode.any
def Qcr(a:Arr):List UInt8:=Bx a
def Qi4(a:Nat)(c:Arr)(d:List (List UInt8)):Prop:=a<=Vw c/\d=List.map BA (Xc c)++List.map (fun (b:Arr)=>Gc (Qcr b)) (List.take a (Yc c))
def Qi5(a:Arr):Int:=(NI (Vw a))
def Qcs(a:Arr)(b:Nat):Arr:=List.getD (Yc a) (Int.toNat (↑b:Int)) Qcp
def Qwa(a:Arr)(b:Nat):List Int:=Arr.sh (Qcs a b)
def Qwb(a:Arr)(b:Nat):Nat:=LN (Qwa a b)
def Qwc(a:Arr)(b:Nat):List Int:=Arr.nu (Qcs a b)
def Qwd(a:Arr)(b:Nat):Nat:=LN (Qwc a b)
def Qwe(a:Arr)(b:Nat):List Arr:=Arr.it (Qcs a b)
def Qwf(a:Arr)(b:Nat):Nat:=LN (Qwe a b)
def QPL(a:Arr):D:=D.sl N4 (Vw a) (fun i=>Qv9 a i) Mode.any
def Qwg(a:List (List UInt8)):List (List UInt8):=B6 (LN a) fun i=>J9 a i
theorem BkB(a : Arr)(ho : LOk a)(hc : ConOk Tryz.prog (Bfw a.it)) :
  ACalls Tryz.prog 138 ((sRc Arr.row2 (fun _=>True) (fun a=>.str (Ga a.k a.nu (a.it.map Bx)))).args a) ⟨[],[]⟩ (SpecR (sRc Arr.row2 (fun _=>True) (fun a=>.str (Ga a.k a.nu (a.it.map Bx)))) a):=by
 refine Bh (A:=sRc Arr.row2 (fun _=>True) (fun a=>.str (Ga a.k a.nu (a.it.map Bx)))) (x:=a) (E:=Evc a) (eOk hc rfl) Tryz.func138 rfl (by kernel_rfl) rfl (by simp[sRc,Evc,EC,E0]) ?_
 refine Bj (T :=
  ∀(x:Nat),True->SM x/\ifB (Qco a==2) (SM x/\(JH a<=1099511627776/\(IntsP (JH a) fun i=>ZW a i)/\∀(c:Int),c∈Qv5 a->Z0<=c/\c<=1114111)/\∀(y:Unit),True->RT (IG (34:Int) (Qv5 a)=Qv6 a)) (SM x/\∀(t:Nat),(∃(x_1:Nat×Nat×List (List UInt8)),Qi1 x_1.1 a x_1.2.2/\(Z0=(NI x_1.1)/\(N0=LN x_1.2.2/\(∀(i:Nat),i<N0->Cw (List D) [] (J9 x_1.2.2 i))/\t=x_1.2.1)/\True)/\Qcq x a t x_1.2.1)/\∀(x_1:Nat×Nat×List (List UInt8)),Qi1 x_1.1 a x_1.2.2->ifB (decide ((NI x_1.1)<Qi3 a)) (Be (Z0<=(NI x_1.1)/\(NI x_1.1)<Qi3 a) (Br (GI (Xc a) (TN x_1.1))/\∀(y:Unit),True->SM x_1.2.1/\Be ((LN x_1.2.2+N1)*16<=140737488355328/\LN x_1.2.2+N1<=9223372036854775807) (∀(t:Nat),(SM (D.ref N0 x N0)/\SM (QPK a)/\SM (ZI (Qi3 a))/\True)/\∃(y:Nat×Nat×List (List UInt8)),Qi1 y.1 a y.2.2/\JH a-y.1<JH a-x_1.1/\(IntKind.wrap IntKind.i64 ((NI x_1.1)+Z1)=(NI y.1)/\(LN x_1.2.2+N1=LN y.2.2/\(∀(i:Nat),i<LN x_1.2.2+N1->BM (LN x_1.2.2) (fun i=>J9 x_1.2.2 i) (fun i=>[D.str (List.getD [BA (GI (Xc a) (TN x_1.1))] i [])]) i=J9 y.2.2 i)/\t=y.2.1)/\True)/\Qcq x a t y.2.1))) (SM x/\(∃(x_2:Nat×Nat×List (List UInt8)),Qi4 x_2.1 a x_2.2.2/\(Z0=(NI x_2.1)/\(LN x_1.2.2=LN x_2.2.2/\(∀(i:Nat),i<LN x_1.2.2->J9 x_1.2.2 i=J9 x_2.2.2 i)/\x_1.2.1=x_2.2.1)/\True)/\Qcq x a x_1.2.1 x_2.2.1)/\∀(x_2:Nat×Nat×List (List UInt8)),Qi4 x_2.1 a x_2.2.2->ifB (decide ((NI x_2.1)<Qi5 a)) (Be (Z0<=(NI x_2.1)/\(NI x_2.1)<Qi5 a) (∀(x_3:Nat),x≠x_3/\True->SM x_3/\SM x_3/\∃(x_4:Arr),((Arr.k (Qcs a x_2.1)=Qco x_4/\(Qwb a x_2.1=Qi2 x_4/\(∀(i:Nat),i<Qwb a x_2.1->[ZI (GI (Qwa a x_2.1) i)]=Qv7 x_4 i)/\True)/\(Qwd a x_2.1=JH x_4/\(∀(i:Nat),i<Qwd a x_2.1->[ZI (GI (Qwc a x_2.1) i)]=ZW x_4 i)/\True)/\(Qwf a x_2.1=Vw x_4/\(∀(i:Nat),i<Qwf a x_2.1->Arr.row (List.getD (Qwe a x_2.1) i Qcp)=Arr.row (ZX x_4 i))/\True)/\True)/\True)/\(True/\True)/\x_4∈Yc a/\∀(y:Unit),True->Be ((5:Nat)+LN (Qcr x_4)<=9223372036854775807) (Be (LN ((40:UInt8)::(98:UInt8)::(111:UInt8)::(120:UInt8)::(32:UInt8)::List.append [] (Qcr x_4))+N1<=9223372036854775807) (SM x_2.2.1/\Be ((LN x_2.2.2+N1)*16<=140737488355328/\LN x_2.2.2+N1<=9223372036854775807) (∀(t:Nat),(SM (D.ref N0 x N0)/\SM (QPL a)/\SM (ZI (Qi5 a))/\True)/\∃(y:Nat×Nat×List (List UInt8)),Qi4 y.1 a y.2.2/\Vw a-y.1<Vw a-x_2.1/\(IntKind.wrap IntKind.i64 ((NI x_2.1)+Z1)=(NI y.1)/\(LN x_2.2.2+N1=LN y.2.2/\(∀(i:Nat),i<LN x_2.2.2+N1->BM (LN x_2.2.2) (fun i=>J9 x_2.2.2 i) (fun i=>[D.str (List.getD [(40:UInt8)::(98:UInt8)::(111:UInt8)::(120:UInt8)::(32:UInt8)::List.append (List.append [] (Qcr x_4)) [(41:UInt8)]] i [])]) i=J9 y.2.2 i)/\t=y.2.1)/\True)/\Qcq x a t y.2.1))))) (((Gz (LN x_2.2.2) fun i=>J9 x_2.2.2 i)=true/\GH (Qwg x_2.2.2) [(32:UInt8)])/\∀(y:Unit),True->RT (Lib.join (Qwg x_2.2.2) [(32:UInt8)]=Qv6 a))))) (by kernel_rfl) ?_
 delta DA GI LN N0 N1 N4 NI SI SM TN Z0 Z1 ZI Qco Xc Qv7 Vw Qcp ZX QPI QPJ Qv8 Qv9 Qcq Qi3 JH QPK Qcr Qi4 Qi5 Qcs Qwa Qwb Qwc Qwd Qwe ZW Qwf QPL Qwg Qv5 Yc Qv6 Qi1 J9 Qi2 RT
 have da:(default:Arr)=Arr.mk 0 [] [] []:=rfl
 simp only[<- da,Bf,Bc,decide_eq_true_eq,decide_eq_false_iff_not,true_and,and_true,beq_iff_eq,bne_iff_ne,Bool.cond_false_right,Bool.cond_true_left,beq_eq_false_iff_ne,ne_eq,exists_const,forall_const,Int.toNat_natCast]
 simp only[BR]
 obtain ⟨_,l1,l2,l3,l4,l5,hsum,hchr,_,_,_⟩:=ho
 have tt:(∀i:Nat,i<a.sh.length->True)/\(∀i:Nat,i<a.nu.length->True)/\∀i:Nat,i<a.it.length->True:=⟨fun _ _=>trivial,fun _ _=>trivial,fun _ _=>trivial⟩
 intro x
 refine⟨fun h2=>⟨⟨by omega,BQ _,hchr h2⟩,by rw[Ga,if_pos h2]⟩,fun h2 t=>⟨⟨(0,t,[]),⟨Nat.zero_le _,rfl⟩,⟨rfl,rfl,fun i hi=>absurd hi (by omega),rfl⟩,tt,rfl⟩,?_⟩⟩
 rintro ⟨i,t1,out⟩ ⟨hi,he⟩
 simp only at hi he ⊢
 have ho1:out.length=i:=by rw[he,List.length_map,List.length_take];omega
 refine⟨fun hlt=>?_,fun hge=>⟨⟨(0,t1,out),⟨Nat.zero_le _,?_⟩,⟨rfl,rfl,fun _ _=>rfl,rfl⟩,tt,rfl⟩,?_⟩⟩
 ·have hlt':i<a.nu.length:=by omega
  refine⟨⟨by omega,by omega⟩,l5 _ (BdJ hlt'),⟨by omega,by omega⟩,fun t2=>⟨(i+1,t2,out++[BA (a.nu.getD i 0)]),⟨by simp only;omega,?_⟩,by simp only;omega,⟨Bb (by omega) (by omega),by simp,Tk,rfl⟩,tt,rfl⟩⟩
  simp only
  rw[Bfo 0 hlt',List.map_append,he];rfl
 ·have:i=a.nu.length:=by omega
  subst this
  rw[he];simp
 rintro ⟨j,t3,o2⟩ ⟨hj,he2⟩
 simp only at hj he2 ⊢
 have ho2:o2.length=a.nu.length+j:=by rw[he2,List.length_append,List.length_map,List.length_map,List.length_take];omega
 refine⟨fun hlt=>⟨⟨by omega,by omega⟩,fun x3 _=>?_⟩,fun hge=>?_⟩
 ·have hlt':j<a.it.length:=by omega
  have hm:=Cf hlt'
  have hl:=ML hm
  refine⟨a.it.getD j default,⟨rfl,⟨rfl,fun _ _=>rfl⟩,⟨rfl,fun _ _=>rfl⟩,rfl,fun _ _=>rfl⟩,hm,by omega,?_,⟨by omega,by omega⟩,fun t4=>⟨(j+1,t4,o2++[Gc (Bx (a.it.getD j default))]),⟨by simp only;omega,?_⟩,by simp only;omega,⟨Bb (by omega) (by omega),by simp,Tk,rfl⟩,tt,rfl⟩⟩
  ·simp only[List.length_cons,MF];omega
  ·simp only
   rw[Bfo default hlt',List.map_append,he2,List.append_assoc];rfl
 ·have hj':j=a.it.length:=by omega
  subst hj'
  rw[List.take_length] at he2
  have hv:Lib.join o2 [32]=Ga a.k a.nu (a.it.map Bx):=by
   rw[Ga,if_neg h2,he2,List.map_map];rfl
  have hvl:=Mq a.k l5 (a.it.map Bx)
  rw[List.length_map] at hvl
  rw[M1 (l:=o2) rfl (fun _ _=>rfl)]
  exact⟨⟨O5 (l:=o2) rfl (fun _ _=>rfl),by omega,by rw[hv];omega⟩,hv⟩
def sAt(q:Arr->Prop):FnSpec where
 β:=Arr
 α:=Unit
 args:=fun a=>[.agg a.row2,.int .i64 0]
 st:=fun _=>⟨[],[]⟩
 pre:=q
 post:=fun _ _=>True
 res:=fun a _=>.ret (.agg (atA a 0).row1)
 out:=fun _ _=>⟨[],[]⟩
def Bfm(a:Arr)(q:Arr->Prop):Con:=fun k ds S=>match k with
 |121=>some (sRc Arr.row1 q (fun b=>.str (Bx b)))
 |138=>some (sRc Arr.row2 (fun b=>b=a) (fun b=>.str (Ga b.k b.nu (b.it.map Bx))))
 |139=>some (sRc Arr.row2 (fun b=>b=a) (fun b=>.agg (Eo b.k).row1))
 |140=>some (sAt (fun b=>b=a/\a.nu.length+a.it.length=1))
 |141=>match ds with
  | [.sl 1 n f m]=>some (pC [.sl 1 n f m] (.str (C3 (Bk n f))) (IntsP n f/\n<=1099511627776/\∀z∈Bk n f,Br z))
  |_=>none
 |137=>match ds with
  | [.sl 1 n f m]=>some (pC [.sl 1 n f m] (.str (Lib.join (B6 n f) [32])) (Gz n f=true/\GH (B6 n f) [32]))
  |_=>none
 |k=>OG k ds S
theorem Bqq(x y:List UInt8):Lib.join [x,y] [32]=x++32::y:=by rw[B7];simp[jT]
theorem Bqz(x y z:List UInt8):Lib.join [x,y,z] [32]=x++(32::(y++32::z)):=by rw[B7];simp[jT]
theorem Bqm(x y:List UInt8):B6 2 (fun i=>[D.str ([x,y].getD i [])])=[x,y]:=rfl
theorem BqB(x y z:List UInt8):B6 3 (fun i=>[D.str ([x,y,z].getD i [])])=[x,y,z]:=rfl
theorem BoY(x y:List UInt8):Gz 2 (fun i=>[D.str ([x,y].getD i [])])=true:=rfl
theorem BoB(x y z:List UInt8):Gz 3 (fun i=>[D.str ([x,y,z].getD i [])])=true:=rfl
theorem Bqy(z:Int):Bk 1 (fun i=>[[D.int .i64 z]].getD i [])=[z]:=rfl
theorem Bo1(z:Int):IntsP 1 (fun i=>[[D.int .i64 z]].getD i []):=fun i hi=>by
 have:i=0:=by omega
 subst this;rfl
theorem Bcd{k:Int}(h:k=1\/k=2\/k=3):Bx (Eo k)=WI k:=by
 rcases h with rfl | rfl | rfl
 ·rfl
 ·rfl
 ·rfl
theorem RR(k:Int)(n:List Int)(is:List Arr):Bx (.mk k [] n is)=CE k n (is.map Bx):=by
 rw[Bx,M6,MH,if_pos List.length_nil]
theorem Be9{a:Arr}(kd:a.k=1\/a.k=2\/a.k=3)(bx:a.k=3->a.nu=[])(h:a.nu.length+a.it.length=1):Bx (atA a 0)=CE a.k a.nu (a.it.map Bx):=by
 unfold atA
 by_cases h3:a.k=3
 ·rw[if_pos h3,RR,h3]
  cases hi:a.it with
  |nil=>rw[bx h3,hi] at h;simp at h
  |cons x l=>rfl
 ·rw[if_neg h3,RR,CE,CE]
  by_cases h1:a.k=1
  ·rw[if_pos h1,if_pos h1];rfl
  ·rw[if_neg h1,if_neg h1,if_pos (by omega),if_pos (by omega)];rfl
noncomputable def Elf(a:Arr)(q:Arr->Prop):Senv:=EC (Bfm a q) 90 5 [12,27,43,55,71,74,79] (fun _=>([],[]))
def JI(a:Arr):Nat:=LN (Arr.sh a)
def ZY(a:Arr):Bool:=(NI (JI a))==Z0
def JS(a:Arr):Int:=Arr.k a
def Qi6(a:Arr):Bool:=bif ZY a then JS a==Z1 else false
def Qct(a:Arr):List Int:=Arr.nu a
def Vx(a:Arr):Nat:=LN (Qct a)
def Qi7(a:Arr):Int:=(NI (Vx a))
def Qi8(a:Arr):Int:=GI (Qct a) N0
def Vy(a:Arr):List UInt8:=Bx a
def Qcu(a:Arr):Bool:=JS a==2
def Qi9(a:Arr):Bool:=bif ZY a then Qcu a else false
def Qwh(a:Arr)(b:Nat):List D:=List.getD [[ZI (Qi8 a)]] b []
def Qwi(a:Arr):List Int:=Bk N1 fun i=>Qwh a i
def Qcv(a:Arr):List Arr:=Arr.it a
def Va(a:Arr):Nat:=LN (Qcv a)
def Yd:Arr:=DA
def Qcw(a:Arr):Arr:=List.getD (Qcv a) N0 Yd
def Qwj(a:Arr):List Int:=Arr.sh (Qcw a)
def Qwk(a:Arr):Nat:=LN (Qwj a)
def Xd(a:Arr)(b:Nat):List D:=[ZI (GI (Arr.sh a) b)]
def Qwl(a:Arr):List Int:=Arr.nu (Qcw a)
def Qwm(a:Arr):Nat:=LN (Qwl a)
def ZZ(a:Arr)(b:Nat):List D:=[ZI (GI (Qct a) b)]
def Qwn(a:Arr):List Arr:=Arr.it (Qcw a)
def Qwo(a:Arr):Nat:=LN (Qwn a)
def Z2(a:Arr)(b:Nat):Arr:=List.getD (Qcv a) b Yd
def Qja(a:Arr)(b:Nat):List D:=Arr.row (Z2 a b)
def Qwp(a:Arr)(b:Nat):List D:=[D.str (List.getD [[(98:UInt8),(111:UInt8),(120:UInt8)],Vy a] b [])]
def Qwq(a:Arr):List (List UInt8):=B6 N2 fun i=>Qwp a i
def Qwr(a:Arr):Bool:=(NI (JI a))==Z1
def Qjb(a:Arr):Int:=IntKind.wrap IntKind.i64 (Qi7 a+(NI (Va a)))
def Qws(a:Arr):Bool:=decide (Z1<Qjb a)
def Qcx(a:Arr):Bool:=bif Qwr a then bif Qcu a then true else Qws a else false
def QPM(a:Arr)(b:Nat):List Int:=Arr.sh (Z2 a b)
def QPN(a:Arr)(b:Nat):List Int:=Arr.nu (Z2 a b)
def Qwt(a:Arr)(b:Nat):List Arr:=Arr.it (Z2 a b)
def Qwu(a:Arr)(b:Nat):List D:=[ZI (Arr.k (Z2 a b)),SI (QPM a b),SI (QPN a b),D.sl N4 (LN (Qwt a b)) (fun i=>Arr.row (List.getD (Qwt a b) i Yd)) Mode.any]
def Qwv(a b:Arr):Prop:=JS a=JS b/\(JI a=JI b/\(∀(i:Nat),i<JI a->Xd a i=Xd b i)/\True)/\(Vx a=Vx b/\(∀(i:Nat),i<Vx a->ZZ a i=ZZ b i)/\True)/\(Va a=Va b/\(∀(i:Nat),i<Va a->Qwu a i=Qwu b i)/\True)/\True
def Qjc(a b:Arr):Prop:=Qwv a b/\True
def Qww(a:Arr):List UInt8:=Ga (JS a) (Qct a) (List.map Bx (Qcv a))
def Qcy(a:Arr):Arr:=Eo (JS a)
def Qwx(a:Arr):List Int:=Arr.sh (Qcy a)
def Qwy(a:Arr):Nat:=LN (Qwx a)
def Qwz(a:Arr):List Int:=Arr.nu (Qcy a)
def QwA(a:Arr):Nat:=LN (Qwz a)
def QwB(a:Arr):List Arr:=Arr.it (Qcy a)
def QwC(a:Arr):Nat:=LN (QwB a)
def QwD(a:Arr):List Int:=Bk (JI a) fun i=>Xd a i
def QwE(a:Arr):Prop:=(IntsP (JI a) fun i=>Xd a i)/\JI a<=1099511627776/\∀(z:Int),z∈QwD a->Br z
def QwF(a:Arr):List UInt8:=C3 (QwD a)
def QwG(a b:Arr)(c:Nat):List D:=[D.str (List.getD [QwF a,[(114:UInt8),(101:UInt8),(115:UInt8),(104:UInt8),(97:UInt8),(112:UInt8),(101:UInt8)],Vy b] c [])]
def QwH(a b:Arr):List (List UInt8):=B6 (3:Nat) fun i=>QwG a b i
def QwI(a:Arr->Prop)(b:Arr)(c:Nat)(d:Arr):Prop:=(True/\True)/\a b/\∀(y:Unit),True->SM c/\QwE d/\∀(y:Unit),True->((Gz (3:Nat) fun i=>QwG d b i)=true/\GH (QwH d b) [(32:UInt8)])/\∀(y:Unit),True->RT (Lib.join (QwH d b) [(32:UInt8)]=Vy d)
def Qcz(a:Arr):Arr:=atA a N0
def QwJ(a:Arr):List Int:=Arr.sh (Qcz a)
def QwK(a:Arr):Nat:=LN (QwJ a)
def QwL(a:Arr):List Int:=Arr.nu (Qcz a)
def QwM(a:Arr):Nat:=LN (QwL a)
def QwN(a:Arr):List Arr:=Arr.it (Qcz a)
def QwO(a:Arr):Nat:=LN (QwN a)
def QwP(a b:Arr)(c:Nat):List D:=[D.str (List.getD [QwF a,[(114:UInt8),(101:UInt8),(115:UInt8),(104:UInt8),(97:UInt8),(112:UInt8),(101:UInt8)],Qww b] c [])]
def QwQ(a b:Arr):List (List UInt8):=B6 (3:Nat) fun i=>QwP a b i
theorem WS(a : Arr)(q : Arr -> Prop)(ho : LOk a)(hi : ∀b∈a.it, q b)(h0 : a.sh.length≠0 -> a.nu.length+a.it.length=0 -> q (Eo a.k))(h1 : a.sh.length≠0 -> a.nu.length+a.it.length=1 -> q (atA a 0))(hc : ConOk Tryz.prog (Bfm a q)) :
  ACalls Tryz.prog 121 ((sRc Arr.row2 (fun _=>True) (fun b=>.str (Bx b))).args a) ⟨[],[]⟩ (SpecR (sRc Arr.row2 (fun _=>True) (fun b=>.str (Bx b))) a):=by
 refine Bh (A:=sRc Arr.row2 (fun _=>True) (fun b=>.str (Bx b))) (x:=a) (E:=Elf a q) (eOk hc rfl) Tryz.func121 rfl (by kernel_rfl) rfl (by simp[sRc,Elf,EC,E0]) ?_
 refine Bj (T :=
  ∀(x:Nat),True->SM x/\SM x/\(SM x/\ifB (ZY a) (SM x/\(JS a==Z1)=Qi6 a/\True) (false=Qi6 a/\True))/\ifB (Qi6 a) (SM x/\Be (Z0<=Z0/\Z0<Qi7 a) (Br (Qi8 a)/\∀(y:Unit),True->RT (BA (Qi8 a)=Vy a))) ((SM x/\ifB (ZY a) (SM x/\Qcu a=Qi9 a/\True) (false=Qi9 a/\True))/\ifB (Qi9 a) (SM x/\Be (Z0<=Z0/\Z0<Qi7 a) ((N1<=1099511627776/\(IntsP N1 fun i=>Qwh a i)/\∀(c:Int),c∈Qwi a->Z0<=c/\c<=1114111)/\∀(y:Unit),True->RT (IG (39:Int) (Qwi a)=Vy a))) (SM x/\ifB (ZY a) (SM x/\Be (Z0<=Z0/\Z0<(NI (Va a))) (∃(x:Arr),((Arr.k (Qcw a)=JS x/\(Qwk a=JI x/\(∀(i:Nat),i<Qwk a->[ZI (GI (Qwj a) i)]=Xd x i)/\True)/\(Qwm a=Vx x/\(∀(i:Nat),i<Qwm a->[ZI (GI (Qwl a) i)]=ZZ x i)/\True)/\(Qwo a=Va x/\(∀(i:Nat),i<Qwo a->Arr.row (List.getD (Qwn a) i Yd)=Qja x i)/\True)/\True)/\True)/\(True/\True)/\q x/\∀(y:Unit),True->((Gz N2 fun i=>Qwp x i)=true/\GH (Qwq x) [(32:UInt8)])/\∀(y:Unit),True->RT (Lib.join (Qwq x) [(32:UInt8)]=Vy a))) ((SM x/\ifB (Qwr a) (SM x/\ifB (Qcu a) (true=Qcx a/\True) (Qws a=Qcx a/\True)) (false=Qcx a/\True))/\ifB (Qcx a) (SM x/\∃(x:Arr),Qjc a x/\(True/\True)/\x=a/\∀(y:Unit),True->RT (Qww x=Vy a)) (ifB (Qjb a==Z0) (SM x/\∃(x_1:Arr),Qjc a x_1/\(True/\True)/\x_1=a/\∀(y:Unit),True->∃(x_2:Arr),((Arr.k (Qcy x_1)=JS x_2/\(Qwy x_1=JI x_2/\(∀(i:Nat),i<Qwy x_1->[ZI (GI (Qwx x_1) i)]=Xd x_2 i)/\True)/\(QwA x_1=Vx x_2/\(∀(i:Nat),i<QwA x_1->[ZI (GI (Qwz x_1) i)]=ZZ x_2 i)/\True)/\(QwC x_1=Va x_2/\(∀(i:Nat),i<QwC x_1->Arr.row (List.getD (QwB x_1) i Yd)=Qja x_2 i)/\True)/\True)/\True)/\QwI q x_2 x a) (ifB (Qjb a==Z1) (SM x/\∃(x_1:Arr),(Qwv a x_1/\SM Z0/\True)/\(True/\True)/\(x_1=a/\Vx a+Va a=N1)/\∀(y:Unit),True->∃(x_2:Arr),((Arr.k (Qcz x_1)=JS x_2/\(QwK x_1=JI x_2/\(∀(i:Nat),i<QwK x_1->[ZI (GI (QwJ x_1) i)]=Xd x_2 i)/\True)/\(QwM x_1=Vx x_2/\(∀(i:Nat),i<QwM x_1->[ZI (GI (QwL x_1) i)]=ZZ x_2 i)/\True)/\(QwO x_1=Va x_2/\(∀(i:Nat),i<QwO x_1->Arr.row (List.getD (QwN x_1) i Yd)=Qja x_2 i)/\True)/\True)/\True)/\QwI q x_2 x a) (SM x/\∃(x_1:Arr),Qjc a x_1/\(True/\True)/\x_1=a/\∀(y:Unit),True->SM x/\QwE a/\∀(y:Unit),True->((Gz (3:Nat) fun i=>QwP a x_1 i)=true/\GH (QwQ a x_1) [(32:UInt8)])/\∀(y:Unit),True->RT (Lib.join (QwQ a x_1) [(32:UInt8)]=Vy a)))))))) (by kernel_rfl) ?_
 delta DA GI LN N0 N1 N2 N4 NI SI SM Z0 Z1 ZI JI ZY Qi9 Qwh Qwi Qcv Va Yd Qcw Qwj Qwk Xd JS Qwl Qwm ZZ Qwn Qwo Z2 Qja Qwp Qwq Qwr Qi6 Qjb Qws Qcx QPM QPN Qwt Qwu Qwv Qjc Qww Qct Qcy Qwx Qwy Qwz QwA QwB QwC QwD QwE QwF Vx QwG QwH QwI Qcz QwJ QwK QwL QwM QwN QwO Qi7 QwP QwQ Qi8 Vy Qcu RT
 have da:(default:Arr)=Arr.mk 0 [] [] []:=rfl
 simp only[<- da,Bf,Bc,decide_eq_true_eq,decide_eq_false_iff_not,true_and,and_true,beq_iff_eq,bne_iff_ne,Bool.cond_false_right,Bool.cond_true_left,Bool.and_eq_true,Bool.and_eq_false_iff,Bool.or_eq_true,Bool.or_eq_false_iff,beq_eq_false_iff_ne,ne_eq,exists_const,forall_const,Int.toNat_natCast,BR]
 obtain ⟨kd,s8,n6,i6,si,ni,hsum,hchr,hno,hbx,hsc⟩:=ho
 have hw:IntKind.i64.wrap ((a.nu.length:Int)+(a.it.length:Int))=(a.nu.length:Int)+(a.it.length:Int):=Bb (by omega) (by omega)
 have tt:(∀i:Nat,i<a.sh.length->True)/\(∀i:Nat,i<a.nu.length->True)/\∀i:Nat,i<a.it.length->True:=⟨fun _ _=>trivial,fun _ _=>trivial,fun _ _=>trivial⟩
 simp only[hw,Mg a]
 simp only[Bqm,BqB,BoY,BoB,Bqy,GH,Bqq,Bqz,true_and]
 have hnu:a.sh.length=0->a.k≠3->a.nu.length=1:=fun h1 h2=>by
  have:=hsc h1
  rw[hno h2] at this
  simpa using this
 have hit:a.sh.length=0->a.k=3->a.it.length=1:=fun h1 h2=>by
  have:=hsc h1
  rw[hbx h2] at this
  simpa using this
 refine⟨⟨fun h=>by rw[h];rfl,fun h=>by rw[beq_eq_false_iff_ne.2 h];rfl⟩,fun ⟨hs,hk⟩=>?_,fun hn1=>⟨⟨fun h=>by rw[h];rfl,fun h=>by rw[beq_eq_false_iff_ne.2 h];rfl⟩,fun ⟨hs,hk⟩=>?_,fun hn2=>⟨fun hs=>?_,fun hs=>?_⟩⟩⟩
 ·have:=hnu (by omega) (by omega)
  exact⟨⟨by omega,by omega⟩,Wa ni,by rw[MH,if_pos (by omega),CE,if_pos hk]⟩
 ·have:=hnu (by omega) (by omega)
  refine⟨⟨by omega,by omega⟩,⟨by omega,Bo1 _,?_⟩,by rw[MH,if_pos (by omega),CE,if_neg (by omega),if_pos hk]⟩
  intro c hc
  rw[List.mem_singleton] at hc
  subst hc
  exact hchr hk _ (BdJ (by omega))
 ·have hk:a.k=3:=by omega
  have h1:=hit (by omega) hk
  have hm:=Cf (l:=a.it) (i:=0) (by omega)
  have hl:=ML hm
  refine⟨⟨by omega,by omega⟩,a.it.getD 0 default,⟨rfl,⟨rfl,fun _ _=>rfl⟩,⟨rfl,fun _ _=>rfl⟩,rfl,fun _ _=>rfl⟩,hi _ hm,⟨by simp,?_⟩,?_⟩
  ·simp only[List.length_append,List.length_cons,List.length_nil];omega
  ·rw[MH,if_pos (by omega),CE,if_neg (by omega),if_neg (by omega)]
   have:(a.it.map Bx).getD 0 []=Bx (a.it.getD 0 default):=by
    simp[List.getD_eq_getElem?_getD,List.getElem?_map,List.getElem?_eq_getElem (show 0<a.it.length by omega)]
   rw[this];rfl
 ·have hd:=GT si
  have hfl:=Ty a.k
  have hsl:=Ug a.k ni (a.it.map Bx)
  have hvl:=Mq a.k ni (a.it.map Bx)
  rw[List.length_map] at hvl
  have len:∀e:List UInt8,e.length<=200000000->[C3 a.sh,[114,101,115,104,97,112,101],e].length<=140737488355328/\(C3 a.sh++32::([114,101,115,104,97,112,101]++32::e)).length<=140737488355328:=fun e he=>by
   refine⟨by simp,?_⟩
   simp only[List.length_append,List.length_cons,List.length_nil];omega
  have eqn:∀e:List UInt8,C3 a.sh++32::([114,101,115,104,97,112,101]++32::e)=C3 a.sh++Rq++e:=fun e=>by simp[Rq]
  refine⟨⟨fun h=>⟨fun h2=>by rw[h,h2];rfl,fun h2=>by rw[h,beq_eq_false_iff_ne.2 h2];rfl⟩,fun h=>by rw[beq_eq_false_iff_ne.2 h];rfl⟩,fun ⟨h2,h3⟩=>⟨a,⟨rfl,⟨rfl,fun _ _=>rfl⟩,⟨rfl,fun _ _=>rfl⟩,rfl,fun _ _=>rfl⟩,rfl,?_⟩,fun hn=>?_⟩
  ·rw[MH,if_neg (by omega),if_pos ⟨by omega,by rw[List.length_map];omega⟩]
  have hlk:MH a.k a.sh a.nu (a.it.map Bx)=C3 a.sh++Rq++(if a.nu.length+a.it.length=0 then WI a.k else if a.nu.length+a.it.length=1 then CE a.k a.nu (a.it.map Bx) else Ga a.k a.nu (a.it.map Bx)):=by
   rw[MH,if_neg (by omega),if_neg (by rw[List.length_map];omega),List.length_map]
  rw[hlk]
  refine⟨fun hz=>⟨a,⟨rfl,⟨rfl,fun _ _=>rfl⟩,⟨rfl,fun _ _=>rfl⟩,rfl,fun _ _=>rfl⟩,rfl,Eo a.k,⟨rfl,⟨rfl,fun _ _=>rfl⟩,⟨rfl,fun _ _=>rfl⟩,rfl,fun _ _=>rfl⟩,h0 (by omega) (by omega),⟨BQ _,by omega,si⟩,?_,?_⟩,fun hz=>⟨fun h2=>⟨a,⟨rfl,⟨rfl,fun _ _=>rfl⟩,⟨rfl,fun _ _=>rfl⟩,rfl,fun _ _=>rfl⟩,⟨rfl,by omega⟩,atA a 0,⟨rfl,⟨rfl,fun _ _=>rfl⟩,⟨rfl,fun _ _=>rfl⟩,rfl,fun _ _=>rfl⟩,h1 (by omega) (by omega),⟨BQ _,by omega,si⟩,?_,?_⟩,fun h2=>⟨a,⟨rfl,⟨rfl,fun _ _=>rfl⟩,⟨rfl,fun _ _=>rfl⟩,rfl,fun _ _=>rfl⟩,rfl,⟨BQ _,by omega,si⟩,?_,?_⟩⟩⟩
  ·rw[Bcd kd];exact len _ (by omega)
  ·rw[Bcd kd,eqn,if_pos (by omega)]
  ·rw[Be9 kd hbx (by omega)];exact len _ (by omega)
  ·rw[Be9 kd hbx (by omega),eqn,if_neg (by omega),if_pos (by omega)]
  ·exact len _ (by omega)
  ·rw[eqn,if_neg (by omega),if_neg (by omega)]
def Lit(a:Arr):Prop:=ACalls Tryz.prog 121 ((sRc Arr.row2 (fun _=>True) (fun b=>.str (Bx b))).args a) ⟨[],[]⟩ (SpecR (sRc Arr.row2 (fun _=>True) (fun b=>.str (Bx b))) a)
theorem Bhv(a:Arr):ACalls Tryz.prog 139 [.agg a.row2] ⟨[],[]⟩ (SpecR (sC [.agg a.row2] (.agg (Eo a.k).row1)) ()):=Bfr (Bmu a.k _ _ _ _ _ _) (Bf8 a.k)
theorem WC{a:Arr}{q:Arr->Prop}(hq:∀b,q b->Lit b)(hv:∀b∈a.it,Lit b)(ho:LOk a)(hcl:a.nu.length+a.it.length=1->ConOk Tryz.prog (MI a.it)):ConOk Tryz.prog (Bfm a q):=by
 intro k ds S A h
 unfold Bfm at h
 split at h
 ·injection h with h;subst h
  exact ConOk.plain (fun b hb=>Em (hq b hb)) rfl rfl
 ·injection h with h;subst h
  refine ConOk.plain (fun b hb=>?_) rfl rfl
  have hb:b=a:=hb
  rw[hb]
  exact (BkB a ho (Biz hv)).mono fun _ _ ⟨y,q1,q2,q3⟩=>⟨y,q1,q2,q3⟩
 ·injection h with h;subst h
  refine ConOk.plain (fun b hb=>?_) rfl rfl
  have hb:b=a:=hb
  rw[hb]
  exact (Bhv a).mono fun _ _ ⟨y,q1,q2,q3⟩=>⟨y,q1,q2,q3⟩
 ·injection h with h;subst h
  refine ConOk.plain (fun b hb=>?_) rfl rfl
  obtain ⟨hb,h1⟩:b=a/\a.nu.length+a.it.length=1:=hb
  rw[hb]
  have hsz:((0:Nat):Int)<BX a.k a.nu.length a.it.length:=by
   unfold BX
   by_cases h3:a.k=3
   ·rw[if_neg (by omega),if_pos h3]
    have:=ho.bx h3
    rw[this] at h1
    simp at h1
    omega
   ·rw[if_pos (by have:=ho.kd;omega)]
    have:=ho.no h3
    rw[this] at h1
    simp at h1
    omega
  exact (Bfr (Bmh a 0 ho.kd hsz (hcl h1)) (BnZ a 0)).mono fun _ _ ⟨y,q1,q2,q3⟩=>⟨y,q1,q2,q3⟩
 ·split at h
  ·injection h with h;subst h
   exact BY fun ⟨h1,h2,h3⟩=>⟨Ba _,Ca (CB h1) (BkF _ (by rw[BJ];exact h2) h3)⟩
  ·cases h
 ·split at h
  ·injection h with h;subst h
   exact BY fun ⟨h1,h2⟩=>⟨Ba _,Ca (us:=[ssl (B6 _ _) .any]) ⟨WZ h1,trivial⟩ (BcJ _ h2)⟩
  ·cases h
 ·exact Ii _ _ _ _ h
theorem BkL{its:List Arr}(h:∀b∈its,(Bu b).1=0):ConOk Tryz.prog (MI its):=by
 intro k' ds S A hk
 unfold MI at hk
 split at hk
 ·injection hk with hk;subst hk
  exact ConOk.plain (fun (b:Arr) hb=>(BdM b (h b hb)).mono fun _ _ ⟨y,q1,q2,q3⟩=>⟨y,q1,q2,q3⟩) rfl rfl
 ·cases hk
theorem BbH{a:Arr}(ho:LOk a)(hs:a.sh.length=0)(ih:∀b∈a.it,Lit b)(hv:∀b∈a.it,(Bu b).1=0):Lit a :=
 WS a (·∈a.it) ho (fun _ hb=>hb) (fun h=>absurd hs h) (fun h=>absurd hs h) (WC ih ih ho fun _=>BkL hv)
theorem Bal:LOk (.mk 1 [] [0] []):=⟨.inl rfl,by decide,by decide,by decide,by simp[Arr.sh],by simp[Arr.nu,Br],by simp[Arr.it,Co],fun h=>absurd h (by decide),fun _=>rfl,fun h=>absurd h (by decide),fun _=>rfl⟩
theorem RV:Lit (.mk 1 [] [0] []):=BbH Bal rfl (fun b hb=>by cases hb) (fun b hb=>by cases hb)
theorem Bak:LOk (.mk 2 [] [32] []):=⟨.inr (.inl rfl),by decide,by decide,by decide,by simp[Arr.sh],by simp[Arr.nu,Br],by simp[Arr.it,Co],by simp[Arr.nu],fun _=>rfl,fun h=>absurd h (by decide),fun _=>rfl⟩
theorem Bh6:Lit (.mk 2 [] [32] []):=BbH Bak rfl (fun b hb=>by cases hb) (fun b hb=>by cases hb)
theorem BfA:LOk (.mk 1 [0] [] []):=⟨.inl rfl,by decide,by decide,by decide,by simp[Arr.sh,Br],by simp[Arr.nu],by simp[Arr.it,Co],fun h=>absurd h (by decide),fun _=>rfl,fun h=>absurd h (by decide),fun h=>absurd h (by decide)⟩
theorem BpI:Lit (.mk 1 [0] [] []):=by
 refine WS _ (·=.mk 1 [] [0] []) BfA (fun b hb=>by cases hb) (fun _ _=>rfl) (fun _ h=>by cases h) ?_
 refine WC (fun b hb=>?_) (fun b hb=>by cases hb) BfA (fun h=>by cases h)
 subst hb
 exact RV
theorem BpO:(Bu (.mk 1 [0] [] [])).1=0:=by decide
theorem BpV:(Bx (.mk 1 [0] [] [])).length<=600:=by
 have:=Bcs 1 (s:=[0]) (n:=[]) (by decide) (by simp[Br]) (by simp) []
 rw[Bx]
 simp only[Of,Co,List.length_nil] at this ⊢
 omega
theorem RO:LOk (.mk 3 [] [] [.mk 1 [0] [] []]):=⟨.inr (.inr rfl),by decide,by decide,by decide,by simp[Arr.sh],by simp[Arr.nu],by have:=BpV;simp only[Arr.it,Co,List.map_cons,List.map_nil,List.length_cons,List.length_nil];omega,fun h=>absurd h (by decide),fun h=>absurd rfl h,fun _=>rfl,fun _=>rfl⟩
theorem Bih:Lit (.mk 3 [] [] [.mk 1 [0] [] []]):=by
 refine BbH RO rfl (fun b hb=>?_) (fun b hb=>?_)
 ·have:b=.mk 1 [0] [] []:=List.mem_singleton.1 hb
  subst this;exact BpI
 ·have:b=.mk 1 [0] [] []:=List.mem_singleton.1 hb
  subst this;exact BpO
theorem BjK{k:Int}(h:k=1\/k=2\/k=3):Lit (Eo k):=by
 rcases h with rfl | rfl | rfl
 ·exact RV
 ·exact Bh6
 ·exact Bih
theorem BdQ{k:Int}{s:List Int}{nn ni:Nat}(h:B8 k s nn ni=0):(k≠3->ni=0/\(nn:Int)=CL s)/\(k=3->nn=0/\(ni:Int)=CL s):=by
 have hk:=RP h
 unfold B8 at h
 rw[if_pos hk] at h
 by_cases hd:Eg s≠0
 ·rw[if_pos hd] at h;exact (hd h).elim
 ·rw[if_neg hd] at h
  by_cases hc:((if k=3 then (ni:Int) else nn)≠CL s)\/((if k=3 then (nn:Int) else ni)≠0)
  ·rw[if_pos hc] at h;simp at h
  ·have h1:(if k=3 then (ni:Int) else nn)=CL s:=Decidable.not_not.1 fun h=>hc (.inl h)
   have h2:(if k=3 then (nn:Int) else ni)=0:=Decidable.not_not.1 fun h=>hc (.inr h)
   refine⟨fun h3=>?_,fun h3=>?_⟩
   ·rw[if_neg h3] at h1 h2
    exact⟨by omega,h1⟩
   ·rw[if_pos h3] at h1 h2
    exact⟨by omega,h1⟩
theorem BeH{a:Arr}(ho:a.ok)(h:(Bu a).1=0):LOk a:=by
 have hf:=BiP h
 obtain ⟨p1,p2⟩:=BdQ hf
 obtain ⟨l1,l2,l3,l4,l5⟩:=BjR ho h
 refine⟨RP hf,l1,l2,l3,l4,l5,Bg3 ho h,Bny h,fun h3=>List.length_eq_zero_iff.1 (p1 h3).1,fun h3=>List.length_eq_zero_iff.1 (p2 h3).1,fun hs=>?_⟩
 have hs:a.sh=[]:=List.length_eq_zero_iff.1 hs
 have h1:CL a.sh=1:=by rw[hs];rfl
 by_cases h3:a.k=3
 ·have:=p2 h3;omega
 ·have:=p1 h3;omega
theorem BiL{a:Arr}(lo:LOk a)(h1:a.nu.length+a.it.length=1):LOk (atA a 0):=by
 unfold atA
 by_cases h3:a.k=3
 ·rw[if_pos h3]
  have h2:a.it.length=1:=by have:=lo.bx h3;rw[this] at h1;simpa using h1
  have hm:=Cf (l:=a.it) (i:=0) (by omega)
  have hl:=ML hm
  have hs:=lo.sum
  exact⟨.inr (.inr rfl),by simp[Arr.sh],by simp[Arr.nu],by simp[Arr.it],by simp[Arr.sh],by simp[Arr.nu],by show 7*1+((Bx (a.it.getD 0 default)).length+0)<=_;omega,fun h=>absurd h (by show ¬(3:Int)=2;decide),fun h=>absurd rfl h,fun _=>rfl,fun _=>rfl⟩
 ·rw[if_neg h3]
  have h2:a.nu.length=1:=by have:=lo.no h3;rw[this] at h1;simpa using h1
  have hm:a.nu.getD 0 0∈a.nu:=BdJ (by omega)
  refine⟨lo.kd,by simp[Arr.sh],by simp[Arr.nu],by simp[Arr.it],by simp[Arr.sh],?_,by simp[Arr.it,Co],?_,fun _=>rfl,fun h=>absurd h h3,fun _=>rfl⟩
  ·intro z hz
   have:z=a.nu.getD 0 0:=List.mem_singleton.1 hz
   rw[this];exact lo.ni _ hm
  ·intro h z hz
   have:z=a.nu.getD 0 0:=List.mem_singleton.1 hz
   rw[this];exact lo.chr h _ hm
theorem Bf9:∀(a:Arr),a.ok->(Bu a).1=0->Lit a
 |.mk k s n is,ho,h=>by
  have lo:=BeH ho h
  have hv:=(EN h).2.2.2
  have hok:∀b∈is,b.ok:=by
   simp only[Arr.ok] at ho
   exact (E2 _).1 ho.2.2.2.2.2.2
  have ih:∀b∈is,Lit b:=fun b hb=>Bf9 b (hok b hb) (hv b hb)
  refine WS (.mk k s n is) (fun b=>b∈is\/b=Eo k\/(b=atA (.mk k s n is) 0/\n.length+is.length=1)) lo (fun b hb=>.inl hb) (fun _ _=>.inr (.inl rfl)) (fun _ h1=>.inr (.inr ⟨rfl,h1⟩)) (WC (fun b hb=>?_) ih lo fun _=>BkI h)
  rcases hb with hb | hb | ⟨hb,h1⟩
  ·exact ih b hb
  ·rw[hb];exact BjK lo.kd
  ·rw[hb]
   have hsub:∀c∈(atA (.mk k s n is) 0).it,c∈is:=by
    intro c hc
    unfold atA at hc
    by_cases h3:(Arr.mk k s n is).k=3
    ·rw[if_pos h3] at hc
     have h2:is.length=1:=by
      have h4:n=[]:=lo.bx h3
      rw[h4] at h1;simpa using h1
     have:c=is.getD 0 default:=List.mem_singleton.1 hc
     rw[this];exact Cf (by omega)
    ·rw[if_neg h3] at hc;cases hc
   refine BbH (BiL lo h1) ?_ (fun c hc=>ih c (hsub c hc)) (fun c hc=>hv c (hsub c hc))
   unfold atA
   split<;>rfl
termination_by a=>SizeOf.sizeOf a
decreasing_by
 have:=List.sizeOf_lt_of_mem hb
 simp;omega
def GN(a:Arr):List UInt8:=if (Bu a).1=0 then Bx a else []
def Bkv(a:Arr):Con:=fun k _ _=>match k with
 |95=>some (sRc Arr.row1 (fun b=>b=a) (fun b=>.int .i64 (Bu b).1))
 |121=>some (sRc Arr.row1 (fun b=>b=a/\(Bu a).1=0) (fun b=>.str (Bx b)))
 |_=>none
theorem BkT{a:Arr}(ho:a.ok):ConOk Tryz.prog (Bkv a):=by
 intro k ds S A h
 unfold Bkv at h
 split at h
 ·injection h with h;subst h
  refine ConOk.plain (fun b hb=>?_) rfl rfl
  have hb:b=a:=hb
  rw[hb]
  exact (Blh a ho).mono fun _ _ ⟨y,q1,q2,q3⟩=>⟨y,q1,q2,q3⟩
 ·injection h with h;subst h
  refine ConOk.plain (fun b hb=>?_) rfl rfl
  obtain ⟨hb,h1⟩:b=a/\(Bu a).1=0:=hb
  rw[hb]
  exact Em (Bf9 a ho h1)
 ·cases h
noncomputable def Elt(a:Arr):Senv:=EC (Bkv a) 8 3 [5] (fun _=>([],[]))
def Qjd(a:Arr):Nat:=LN (Arr.sh a)
def QwR(a:Arr)(b:Nat):List D:=[ZI (GI (Arr.sh a) b)]
def Qje(a:Arr):Nat:=LN (Arr.nu a)
def QwS(a:Arr)(b:Nat):List D:=[ZI (GI (Arr.nu a) b)]
def Qjf(a:Arr):Nat:=LN (Arr.it a)
def QwT(a:Arr)(b:Nat):List D:=Arr.row (GA (Arr.it a) b)
def QwU(a b:Arr):Prop:=(Arr.k a=Arr.k b/\(Qjd a=Qjd b/\(∀(i:Nat),i<Qjd a->QwR a i=QwR b i)/\True)/\(Qje a=Qje b/\(∀(i:Nat),i<Qje a->QwS a i=QwS b i)/\True)/\(Qjf a=Qjf b/\(∀(i:Nat),i<Qjf a->QwT a i=QwT b i)/\True)/\True)/\True
theorem BmH(a : Arr)(ho : a.ok) :
  ACalls Tryz.prog 99 ((sRc Arr.row1 (fun _=>True) (fun b=>.str (GN b))).args a) ⟨[],[]⟩ (SpecR (sRc Arr.row1 (fun _=>True) (fun b=>.str (GN b))) a):=by
 refine Bh (A:=sRc Arr.row1 (fun _=>True) (fun b=>.str (GN b))) (x:=a) (E:=Elt a) (eOk (BkT ho) rfl) Tryz.func99 rfl (by kernel_rfl) rfl (by simp[sRc,Elt,EC,E0]) ?_
 refine Bj (T :=
  ∀(x:Nat),True->SM x/\∃(x_1:Arr),QwU a x_1/\(True/\True)/\x_1=a/\∀(y:Unit),True->ifB (Prod.fst (Bu x_1) != Z0) (RT (Cw (List UInt8) [] (GN a))) (SM x/\∃(x:Arr),QwU a x/\(True/\True)/\(x=a/\Prod.fst (Bu a)=Z0)/\∀(y:Unit),True->RT (Bx x=GN a))) (by kernel_rfl) ?_
 delta DA GA GI LN SM Z0 ZI Qjd QwR Qje QwS Qjf QwT QwU RT
 have da:(default:Arr)=Arr.mk 0 [] [] []:=rfl
 simp only[<- da,Bf,Bc,decide_eq_true_eq,decide_eq_false_iff_not,true_and,and_true,beq_iff_eq,bne_iff_ne,Bool.cond_false_right,Bool.cond_true_left,Bool.and_eq_true,Bool.and_eq_false_iff,Bool.or_eq_true,Bool.or_eq_false_iff,beq_eq_false_iff_ne,ne_eq,exists_const,forall_const,Int.toNat_natCast,BR]
 refine⟨a,⟨rfl,⟨rfl,fun _ _=>rfl⟩,⟨rfl,fun _ _=>rfl⟩,rfl,fun _ _=>rfl⟩,rfl,fun h=>by rw[GN,if_neg h],fun h=>?_⟩
 have h:(Bu a).1=0:=by simpa using h
 exact⟨a,⟨rfl,⟨rfl,fun _ _=>rfl⟩,⟨rfl,fun _ _=>rfl⟩,rfl,fun _ _=>rfl⟩,⟨rfl,h⟩,by rw[GN,if_pos h]⟩
def BfL(x:List UInt8):List UInt8:=[40,32]++x++[32,41]
def Ee(ks:List Int)(k:Int)(x:List UInt8):List UInt8:=if ks.contains k=true then BfL x else x
def kAt(l:List Nd)(i:Nat):Int:=(l.getD i default).kd
def BhL(ks:List Int):List Nd->List (List UInt8)->List (List UInt8)
 |n::l,x::r=>Ee ks n.kd x::BhL ks l r
 |_,_=>[]
mutual
def Bt:Nd->List UInt8
 |.mk kd _ _ tx pr op va ki bo _ _ _ =>
  if kd=1 then GN va
  else if kd=2 then tx
  else if kd=6 then [88]
  else if kd=7 then [89]
  else if kd=8 then [97,114,103]
  else if kd=11 then [115,101,108,102]
  else if kd=12 then [70]
  else if kd=13 then [71]
  else if kd=9 then Cg pr
  else if kd=17 then opT op
  else if kd=3 then Lib.join (BhL [3,4,5] ki (BW ki)) [32]
  else if kd=4 then Ee [16] (kAt ki 0) ((BW ki).getD 0 [])++[32]++(BW ki).getD 1 []
  else if kd=5 then Ee [4,5] (kAt ki 1) ((BW ki).getD 1 [])++[32]++Ee [16] (kAt ki 0) ((BW ki).getD 0 [])++[32]++(BW ki).getD 2 []
  else if kd=16 then Lib.join (BhL [4,5,16] ki (BW ki)) [32]
  else if kd=14 then Ee [16] (kAt ki 1) ((BW ki).getD 1 [])++[32]++(BW ki).getD 0 []
  else if kd=15 then Ee [16] (kAt ki 1) ((BW ki).getD 1 [])++[32]++(BW ki).getD 0 []++[32]++Ee [3,4,5,16,14,15] (kAt ki 2) ((BW ki).getD 2 [])
  else [123,32]++Lib.join (Bdo bo) [32,59,32]++[32,125]
def BW:List Nd->List (List UInt8)
 | []=>[]
 |x::r=>Bt x::BW r
def Bdo:List Sm->List (List UInt8)
 | []=>[]
 |x::r=>B3 x::Bdo r
def B3:Sm->List UInt8
 |.mk kd _ nm _ te nd=>if kd=2 then nm++[32,60,45,32]++Bt nd else if kd=3 then Bt te++[32,58,32]++Bt nd else Bt nd
end
theorem Bag:∀l:List Nd,BW l=l.map Bt
 | []=>by simp only[BW,List.map_nil]
 |x::r=>by simp only[BW,List.map_cons,Bag r]
theorem RX:∀l:List Sm,Bdo l=l.map B3
 | []=>by simp only[Bdo,List.map_nil]
 |x::r=>by simp only[Bdo,List.map_cons,RX r]
def BB(ks:List Int)(n:Nd):List UInt8:=Ee ks n.kd (Bt n)
theorem Bcb(ks:List Int):∀l:List Nd,BhL ks l (BW l)=l.map (BB ks)
 | []=>by simp only[BW,BhL,List.map_nil]
 |x::r=>by simp only[BW,BhL,List.map_cons,Bcb ks r];rfl
theorem Mc{l:List Nd}{i:Nat}(h:i<l.length):(BW l).getD i []=Bt (l.getD i default):=by
 rw[Bag]
 simp[List.getD_eq_getElem?_getD,h]
theorem OJ(s:Sm):B3 s=if s.kd=2 then s.nm++[32,60,45,32]++Bt s.nd else if s.kd=3 then Bt s.te++[32,58,32]++Bt s.nd else Bt s.nd:=by
 cases s
 simp only[B3]
 rfl
def Er(n:Nd):List UInt8:=if BV n=0 then Bt n else []
mutual
/-- A tree without what comparisons do not see. -/
def stN:Nd->Nd
 |.mk kd _ cl tx pr op va ki bo _ _ _=>.mk kd 0 cl tx pr op va (stL ki) (stB bo) 0 0 0
def stL:List Nd->List Nd
 | []=>[]
 |x::r=>stN x::stL r
def stB:List Sm->List Sm
 | []=>[]
 |x::r=>stM x::stB r
def stM:Sm->Sm
 |.mk kd _ nm _ te nd=>.mk kd 0 nm 0 (stN te) (stN nd)
end
theorem Bgc:∀l:List Nd,stL l=l.map stN
 | []=>by simp only[stL,List.map_nil]
 |x::r=>by simp only[stL,List.map_cons,Bgc r]
theorem Bgm:∀l:List Sm,stB l=l.map stM
 | []=>by simp only[stB,List.map_nil]
 |x::r=>by simp only[stB,List.map_cons,Bgm r]
theorem Bgt(a b:Nd):stN a=stN b↔a.kd=b.kd/\a.cl=b.cl/\a.tx=b.tx/\a.pr=b.pr/\a.op=b.op/\a.va=b.va/\a.ki.map stN=b.ki.map stN/\a.bo.map stM=b.bo.map stM:=by
 cases a;cases b
 simp only[stN,Bgc,Bgm,Nd.mk.injEq,Nd.kd,Nd.cl,Nd.tx,Nd.pr,Nd.op,Nd.va,Nd.ki,Nd.bo,true_and,and_true]
theorem BmA(a b:Sm):stM a=stM b↔a.kd=b.kd/\a.nm=b.nm/\stN a.te=stN b.te/\stN a.nd=stN b.nd:=by
 cases a;cases b
 simp only[stM,Sm.mk.injEq,Sm.kd,Sm.nm,Sm.te,Sm.nd,true_and]
theorem Bjb{a b:Nd}:wkL [.agg a.row1,.agg b.row1] [.agg a.row2,.agg b.row2]:=by
 simp only[wkL,wkD]
 exact⟨MA a,MA b,trivial⟩
def okS(l:List Sm):Prop:=l.length<=BC/\(∀s∈l,s.ok)/\∀s∈l,s.sm
open Go Go.Ab Go.RowKit
theorem own:ownKnob Tryz.prog.godebug=none:=by kernel_rfl
theorem laid:laidOutB Tryz.prog=true:=by kernel_rfl
theorem gN0 : Tryz.prog.globalNamed "internal/strconv.uint64pow10" = some 1 := by kernel_rfl
theorem tN0:(Tryz.prog.globals[1]?).map (·.type)=some 168:=by kernel_rfl
theorem gN1 : Tryz.prog.globalNamed "math/bits.deBruijn64tab" = some 3 := by kernel_rfl
theorem tN1:(Tryz.prog.globals[3]?).map (·.type)=some 173:=by kernel_rfl
theorem gN2 : Tryz.prog.globalNamed "math/bits.deBruijn32tab" = some 2 := by kernel_rfl
theorem tN2:(Tryz.prog.globals[2]?).map (·.type)=some 172:=by kernel_rfl
def Bav : List (String × DataW Unit) := [("math/bits.deBruijn32tab", Rows.laid_math_bits_deBruijn32tab), ("math/bits.deBruijn64tab", Rows.laid_math_bits_deBruijn64tab), ("internal/strconv.uint64pow10", Rows.laid_internal_strconv_uint64pow10)]
theorem BgK{W:World}(h:laidMetH Tryz.prog Bav W):G0 W:=by
 have h0:laidMet Tryz.prog Bav W:=h
 have h1:=h0.tail
 have h2:=h1.tail
 exact⟨Lib.tabIs_of_head (rest:=[]) gN0 tN0 Tryz.underlying168 Tryz.underlying97 (by kernel_rfl) (by kernel_rfl) h2,
  Lib.tabIs_of_head gN1 tN1 Tryz.underlying173 Tryz.underlying5 (by kernel_rfl) (by kernel_rfl) h1,
  Lib.tabIs_of_head gN2 tN2 Tryz.underlying172 Tryz.underlying5 (by kernel_rfl) (by kernel_rfl) h0⟩
noncomputable def BpH(l:Array Value):Obj->Obj
 |.cells _ t frozen=>.cells l t frozen
 |o=>o
noncomputable def G4(os:Os):World :=
 { World.holding Tryz.prog os ⟨#[],#[],[]⟩ with heap:=(((World.holding Tryz.prog os ⟨#[],#[],[]⟩).heap.modify 1 (BpH (Lib.pow10Tab.map fun z=>Value.int .u64 z).toArray)).modify 3 (BpH (Lib.deBruijn64tab.map fun z=>Value.int .u8 (Int.ofNat z)).toArray)).modify 2 (BpH (Lib.deBruijn32tab.map fun z=>Value.int .u8 (Int.ofNat z)).toArray) }
def TSl:List Nat:=List.range 186
theorem BnV:∀t∈TSl,Rh Tryz.prog TSl t=true:=List.all_eq_true.1 (show TSl.all (Rh Tryz.prog TSl)=true by kernel_rfl)
theorem R9{α:Type}{o:Option α}{p:α->Bool}(h:(match o with | some x=>p x | none=>false)=true):∃x,o=some x/\p x=true:=by
 cases o with
 |none=>cases h
 |some x=>exact⟨x,rfl,h⟩
def RPg:List D->Prop:=fun ds=>∃l:List Sm,okS l/\ds=[lsl 34 (Ed l)]
theorem Bgg(W:World)(n:Nat):ReadAt Tryz.prog W n 24 RPg:=by
 cases n with
 |zero=>exact .zero _ _
 |succ m =>
  have hb:ReadAt Tryz.prog W m 22 (RSliceA 34 RSm):=by
   cases m with
   |zero=>exact .zero _ _
   |succ k=>exact GC (w:=34) Tryz.underlying22 (by kernel_rfl) (by decide) (by decide +kernel) (Bfz W k fun j _=>Bm5 W j)
  refine (Is Tryz.underlying24 (by kernel_rfl) (Rs:=[RSliceA 34 RSm]) ⟨hb,trivial⟩).mono ?_
  rintro ds ⟨_,_,⟨l,h1,h2,rfl⟩,h3,rfl⟩
  obtain rfl:_=[]:=h3
  obtain ⟨bo,qb,rfl⟩:=CY (g:=Sm.row) (Q:=fun a=>a.ok/\a.sm) (fun x hx=>hx) l h1
  refine⟨bo,⟨by simpa using h2,fun s hs=>(qb s hs).1,fun s hs=>(qb s hs).2⟩,?_⟩
  simp only[Eh,lsl,List.append_nil,List.cons_append,List.nil_append]
theorem Uh{n:Nd}{l:List Int}(h:Bm n l=true):n.ki.length=l.length:=by
 unfold Bm at h
 rw[beq_iff_eq] at h
 have:=congrArg List.length h
 simpa using this
theorem Ea{n:Nd}(h:Bz n=true)(hk:n.kd≠10):C5 n=true\/(CP n=true/\∀x∈n.ki,Bz x=true):=by
 rw[CI,Bool.and_eq_true] at h
 have h:=h.2
 rw[if_neg hk,Bool.or_eq_true,Bool.and_eq_true] at h
 rcases h with h | h
 ·exact .inl h
 ·exact .inr ⟨h.1,fun x hx=>List.all_eq_true.1 h.2 x hx⟩
theorem M3{g:Bool}:∀ {l:List Sm} {names:List (List UInt8)},Cb g names l=true->∀s∈l,∃names',OO g names' s=true
 | [],_,_,s,hs=>by simp at hs
 |x::r,names,h,s,hs=>by
  simp only[Cb,Bool.and_eq_true] at h
  rcases List.mem_cons.1 hs with rfl | hs
  ·exact⟨names,h.1⟩
  ·exact M3 h.2 s hs
theorem Bhc{g:Bool}{names:List (List UInt8)}{s:Sm}(h:OO g names s=true)(h2:s.kd=2):s.nm.length<=32:=by
 rw[GB] at h
 simp only[Bool.and_eq_true] at h
 have h:=h.2
 rw[if_neg (by omega),if_pos h2] at h
 simp only[Bool.and_eq_true] at h
 exact (BO h.1.1.1.1).2.1
theorem CU(ks:List Int)(k:Int)(x:List UInt8):(Ee ks k x).length<=x.length+4:=by
 unfold Ee BfL
 split
 ·simp only[List.length_append,List.length_cons,List.length_nil];omega
 ·omega
theorem WE(ks:List Int):∀l:List Nd,(∀b∈l,(Bt b).length+100<=200000000*szN b)->Co (l.map (BB ks))+96*l.length<=200000000*szL l
 | [],_=>by simp[Co,szL]
 |b::r,h=>by
  have h1:=h b (by simp)
  have h2:=WE ks r fun x hx=>h x (by simp[hx])
  have h3:=CU ks b.kd (Bt b)
  simp only[List.map_cons,Co,szL,List.length_cons,BB]
  omega
theorem Bac:∀l:List Sm,(∀s∈l,(B3 s).length+60<=200000000*szM s)->Co (l.map B3)+60*l.length<=200000000*szB l
 | [],_=>by simp[Co,szB]
 |s::r,h=>by
  have h1:=h s (by simp)
  have h2:=Bac r fun x hx=>h x (by simp[hx])
  simp only[List.map_cons,Co,szB,List.length_cons]
  omega
theorem BhD(p:Int):(Cg p).length<=100:=by
 have h:∀n,n<56->(primL.getD n []).length<=100:=by decide +kernel
 unfold Cg
 split
 ·simp
 ·exact h _ (by omega)
theorem Bmc(p:Int):(opT p).length<=100:=by
 have h:∀n,n<12->(opL.getD n []).length<=100:=by decide +kernel
 unfold opT
 split
 ·simp
 ·exact h _ (by omega)
theorem BlE{a:Arr}(ho:a.ok):(GN a).length<=157286700:=by
 unfold GN
 split
 ·rename_i h;exact Bpq ho h
 ·simp
theorem TW(s:Sm):szM s=if s.kd=3 then szN s.te+szN s.nd else szN s.nd:=by
 cases s
 simp only[szM]
 rfl
theorem Ba7(n:Nd):szN n=1+szL n.ki+szB n.bo:=by
 cases n
 simp only[szN]
 rfl
theorem CT(n : Nd) : Bt n=if n.kd=1 then GN n.va else if n.kd=2 then n.tx else if n.kd=6 then [88] else if n.kd=7 then [89] else if n.kd=8 then [97, 114, 103] else if n.kd=11 then [115, 101, 108, 102]
  else if n.kd=12 then [70] else if n.kd=13 then [71] else if n.kd=9 then Cg n.pr else if n.kd=17 then opT n.op
  else if n.kd=3 then Lib.join (n.ki.map (BB [3,4,5])) [32]
  else if n.kd=4 then Ee [16] (kAt n.ki 0) ((BW n.ki).getD 0 [])++[32]++(BW n.ki).getD 1 []
  else if n.kd=5 then Ee [4,5] (kAt n.ki 1) ((BW n.ki).getD 1 [])++[32]++Ee [16] (kAt n.ki 0) ((BW n.ki).getD 0 [])++[32]++(BW n.ki).getD 2 []
  else if n.kd=16 then Lib.join (n.ki.map (BB [4,5,16])) [32]
  else if n.kd=14 then Ee [16] (kAt n.ki 1) ((BW n.ki).getD 1 [])++[32]++(BW n.ki).getD 0 []
  else if n.kd=15 then Ee [16] (kAt n.ki 1) ((BW n.ki).getD 1 [])++[32]++(BW n.ki).getD 0 []++[32]++Ee [3,4,5,16,14,15] (kAt n.ki 2) ((BW n.ki).getD 2 [])
  else [123,32]++Lib.join (n.bo.map B3) [32,59,32]++[32,125]:=by
 cases n
 simp only[Bt,Bcb,RX]
 rfl
theorem IK{n:Nd}(h:Bz n=true):((n.kd=4\/n.kd=14)->n.ki.length=2)/\((n.kd=5\/n.kd=15)->n.ki.length=3)/\(n.kd=2->n.tx.length<=32):=by
 refine⟨fun hk=>?_,fun hk=>?_,fun hk=>?_⟩
 ·rcases Ea h (by omega) with hc | ⟨hc,_⟩
  ·unfold C5 at hc
   rcases hk with hk | hk<;>simp[hk] at hc
  ·unfold CP at hc
   rcases hk with hk | hk<;>simp[hk] at hc<;>exact Uh hc.2
 ·rcases Ea h (by omega) with hc | ⟨hc,_⟩
  ·unfold C5 at hc
   rcases hk with hk | hk<;>simp[hk] at hc
  ·unfold CP at hc
   rcases hk with hk | hk<;>simp[hk] at hc<;>exact Uh hc.2
 ·rcases Ea h (by omega) with hc | ⟨hc,_⟩
  ·unfold C5 at hc
   simp[hk] at hc
   exact (BO hc.2.2).2.1
  ·unfold CP at hc
   simp[hk] at hc
theorem WG(l:List Nd)(i:Nat)(h:∀b∈l,(Bt b).length+100<=200000000*szN b)(hi:i<l.length):((BW l).getD i []).length+100<=200000000*szN (l.getD i default):=by
 rw[Mc hi]
 exact h _ (B0 hi)
theorem Bfp{l:List Nd}(h:l.length=2):szL l=szN (l.getD 0 default)+szN (l.getD 1 default):=by
 match l,h with
 | [a,b],_=>simp[szL]
theorem R4{l:List Nd}(h:l.length=3):szL l=szN (l.getD 0 default)+szN (l.getD 1 default)+szN (l.getD 2 default):=by
 match l,h with
 | [a,b,c],_=>simp[szL];omega
theorem Et(n:Nd)(h:Bz n=true)(ho:n.ok):(Bt n).length+100<=200000000*szN n:=by
 have ih:∀b∈n.ki,(Bt b).length+100<=200000000*szN b:=fun b hb=>Et b ((EK h).1 b hb) (Oc ho b hb)
 have ihs:n.kd=10->∀s∈n.bo,(B3 s).length+60<=200000000*szM s:=fun hk s hs=>by
  have h1:=h
  rw[CI,Bool.and_eq_true,if_pos hk,Bool.and_eq_true] at h1
  have hb:=h1.2.2
  unfold BP at hb
  rw[Bool.and_eq_true] at hb
  obtain ⟨q1,q2⟩:=Ej hb.2 s hs
  obtain ⟨nm,q3⟩:=M3 hb.2 s hs
  have o:=Cq (GK ho s hs)
  have r1:=Et s.nd q1 o.2
  rw[OJ,TW]
  by_cases k2:s.kd=2
  ·have:=Bhc q3 k2
   rw[if_pos k2,if_neg (by omega)]
   simp only[List.length_append,List.length_cons,List.length_nil]
   omega
  ·rw[if_neg k2]
   by_cases k3:s.kd=3
   ·rw[if_pos k3,if_pos k3]
    have hv:Bz s.te=true:=by
     rcases q2 with ⟨_,q,_⟩ | ⟨q,_⟩
     ·exact q
     ·exact (q k3).elim
    have r2:=Et s.te hv o.1
    simp only[List.length_append,List.length_cons,List.length_nil]
    omega
   ·rw[if_neg k3,if_neg k3]
    omega
 obtain ⟨h2,h3,htx⟩:=IK h
 rw[CT,Ba7]
 have g0:=fun hi=>WG n.ki 0 ih hi
 have g1:=fun hi=>WG n.ki 1 ih hi
 have g2:=fun hi=>WG n.ki 2 ih hi
 by_cases e1:n.kd=1
 ·rw[if_pos e1];have:=BlE (Ti ho);omega
 rw[if_neg e1]
 by_cases e2:n.kd=2
 ·rw[if_pos e2];have:=htx e2;omega
 rw[if_neg e2]
 by_cases e6:n.kd=6
 ·rw[if_pos e6];simp only[List.length_cons,List.length_nil];omega
 rw[if_neg e6]
 by_cases e7:n.kd=7
 ·rw[if_pos e7];simp only[List.length_cons,List.length_nil];omega
 rw[if_neg e7]
 by_cases e8:n.kd=8
 ·rw[if_pos e8];simp only[List.length_cons,List.length_nil];omega
 rw[if_neg e8]
 by_cases e11:n.kd=11
 ·rw[if_pos e11];simp only[List.length_cons,List.length_nil];omega
 rw[if_neg e11]
 by_cases e12:n.kd=12
 ·rw[if_pos e12];simp only[List.length_cons,List.length_nil];omega
 rw[if_neg e12]
 by_cases e13:n.kd=13
 ·rw[if_pos e13];simp only[List.length_cons,List.length_nil];omega
 rw[if_neg e13]
 by_cases e9:n.kd=9
 ·rw[if_pos e9];have:=BhD n.pr;omega
 rw[if_neg e9]
 by_cases e17:n.kd=17
 ·rw[if_pos e17];have:=Bmc n.op;omega
 rw[if_neg e17]
 by_cases e3:n.kd=3
 ·rw[if_pos e3]
  have q1:=OV [32] (n.ki.map (BB [3,4,5]))
  have q2:=WE [3,4,5] n.ki ih
  simp only[List.length_map,List.length_cons,List.length_nil] at q1
  omega
 rw[if_neg e3]
 by_cases e4:n.kd=4
 ·rw[if_pos e4]
  have hl:=h2 (.inl e4)
  have:=Bfp hl
  have:=g0 (by omega)
  have:=g1 (by omega)
  have:=CU [16] (kAt n.ki 0) ((BW n.ki).getD 0 [])
  simp only[List.length_append,List.length_cons,List.length_nil]
  omega
 rw[if_neg e4]
 by_cases e5:n.kd=5
 ·rw[if_pos e5]
  have hl:=h3 (.inl e5)
  have:=R4 hl
  have:=g0 (by omega)
  have:=g1 (by omega)
  have:=g2 (by omega)
  have:=CU [16] (kAt n.ki 0) ((BW n.ki).getD 0 [])
  have:=CU [4,5] (kAt n.ki 1) ((BW n.ki).getD 1 [])
  simp only[List.length_append,List.length_cons,List.length_nil]
  omega
 rw[if_neg e5]
 by_cases e16:n.kd=16
 ·rw[if_pos e16]
  have q1:=OV [32] (n.ki.map (BB [4,5,16]))
  have q2:=WE [4,5,16] n.ki ih
  simp only[List.length_map,List.length_cons,List.length_nil] at q1
  omega
 rw[if_neg e16]
 by_cases e14:n.kd=14
 ·rw[if_pos e14]
  have hl:=h2 (.inr e14)
  have:=Bfp hl
  have:=g0 (by omega)
  have:=g1 (by omega)
  have:=CU [16] (kAt n.ki 1) ((BW n.ki).getD 1 [])
  simp only[List.length_append,List.length_cons,List.length_nil]
  omega
 rw[if_neg e14]
 by_cases e15:n.kd=15
 ·rw[if_pos e15]
  have hl:=h3 (.inr e15)
  have:=R4 hl
  have:=g0 (by omega)
  have:=g1 (by omega)
  have:=g2 (by omega)
  have:=CU [16] (kAt n.ki 1) ((BW n.ki).getD 1 [])
  have:=CU [3,4,5,16,14,15] (kAt n.ki 2) ((BW n.ki).getD 2 [])
  simp only[List.length_append,List.length_cons,List.length_nil]
  omega
 rw[if_neg e15]
 have hk:n.kd=10:=by
  have h:=h
  rw[CI,Bool.and_eq_true] at h
  by_cases hk:n.kd=10
  ·exact hk
  ·rcases Ea (n:=n) (by rw[CI,Bool.and_eq_true];exact h) hk with hc | ⟨hc,_⟩
   ·unfold C5 at hc
    simp[e1,e2,e6,e7,e8,e9,e11,e12,e13,e17] at hc
   ·unfold CP at hc
    simp[e3,e4,e5,e14,e15,e16] at hc
 have q1:=OV [32,59,32] (n.bo.map B3)
 have q2:=Bac n.bo (ihs hk)
 simp only[List.length_map,List.length_cons,List.length_nil] at q1
 simp only[List.length_append,List.length_cons,List.length_nil]
 omega
termination_by SizeOf.sizeOf n
decreasing_by
 ·exact Nd.size_kid hb
 ·have:=Nd.size_stmt hs
  have:=Sm.size_nd s
  omega
 ·have:=Nd.size_stmt hs
  have:=Sm.size_te s
  omega
def Bae(q:Arr->Prop):Con:=fun k ds S=>match k with
 |159=>some (sRc Arr.row1 q (fun b=>.str (Bx b)))
 |166=>match ds with
  | [.sl 1 n f m]=>some (pC [.sl 1 n f m] (.str (C3 (Bk n f))) (IntsP n f/\n<=1099511627776/\∀z∈Bk n f,Br z))
  |_=>none
 |k=>OG k ds S
def RLit(a:Arr):Prop:=ACalls Tryz.prog 159 ((sRc Arr.row2 (fun _=>True) (fun b=>.str (Bx b))).args a) ⟨[],[]⟩ (SpecR (sRc Arr.row2 (fun _=>True) (fun b=>.str (Bx b))) a)
theorem BdD{q:Arr->Prop}(hq:∀b,q b->RLit b):ConOk Tryz.prog (Bae q):=by
 intro k ds S A h
 unfold Bae at h
 split at h
 ·injection h with h;subst h
  exact ConOk.plain (fun b hb=>Em (hq b hb)) rfl rfl
 ·split at h
  ·injection h with h;subst h
   exact BY fun ⟨h1,h2,h3⟩=>⟨Ba _,Ca (CB h1) (BdA _ (by rw[BJ];exact h2) h3)⟩
  ·cases h
 ·exact Ii _ _ _ _ h
noncomputable def Ersc(q:Arr->Prop):Senv:=EC (Bae q) 27 3 [4,11,18] (fun _=>([],[]))
def QcA(a:Arr):Int:=Arr.k a
def Ye(a:Arr):List Int:=Arr.nu a
def Z3(a:Arr):Int:=GI (Ye a) N0
def Z4(a:Arr):List Arr:=Arr.it a
def Qjg(a:Arr):List UInt8:=CE (QcA a) (Ye a) (List.map Bx (Z4 a))
def QwV(a:Arr):List UInt8:=Gl (Z3 a) (39:Int)
def QwW(a:Arr):List UInt8:=List.append [] (QwV a)
def Qjh:Arr:=DA
def QcB(a:Arr):Arr:=List.getD (Z4 a) N0 Qjh
def QwX(a:Arr):List Int:=Arr.sh (QcB a)
def QwY(a:Arr):Nat:=LN (QwX a)
def QwZ(a:Arr):List Int:=Arr.nu (QcB a)
def Qw0(a:Arr):Nat:=LN (QwZ a)
def Qw1(a:Arr):List Arr:=Arr.it (QcB a)
def Qw2(a:Arr):Nat:=LN (Qw1 a)
theorem Bje(a : Arr)(q : Arr -> Prop)(lo : LOk a)(h1 : a.k≠3 -> 0<a.nu.length)(h3 : a.k=3 -> 0<a.it.length)(hi : ∀b∈a.it, q b)(hc : ConOk Tryz.prog (Bae q)) :
  ACalls Tryz.prog 163 ((sRc Arr.row2 (fun _=>True) (fun a=>.str (CE a.k a.nu (a.it.map Bx)))).args a) ⟨[],[]⟩ (SpecR (sRc Arr.row2 (fun _=>True) (fun a=>.str (CE a.k a.nu (a.it.map Bx)))) a):=by
 refine Bh (A:=sRc Arr.row2 (fun _=>True) (fun a=>.str (CE a.k a.nu (a.it.map Bx)))) (x:=a) (E:=Ersc q) (eOk hc rfl) Tryz.func163 rfl (by kernel_rfl) rfl (by simp[sRc,Ersc,EC,E0]) ?_
 refine Bj (T :=
  ∀(x:Nat),True->SM x/\ifB (QcA a==Z1) (SM x/\Be (Z0<=Z0/\Z0<(LI (Ye a))) (Br (Z3 a)/\∀(y:Unit),True->RT (BA (Z3 a)=Qjg a))) (ifB (QcA a==2) (SM x/\Be (Z0<=Z0/\Z0<(LI (Ye a))) ((Z0<=Z3 a/\Z3 a<=1114111)/\∀(y:Unit),True->Be (N1+LN (QwV a)<=9223372036854775807) (Be (LN ((39:UInt8)::QwW a)+N1<=9223372036854775807) (RT ((39:UInt8)::List.append (QwW a) [(39:UInt8)]=Qjg a))))) (SM x/\Be (Z0<=Z0/\Z0<(LI (Z4 a))) (∃(x:Arr),((Arr.k (QcB a)=QcA x/\(QwY a=LN (Arr.sh x)/\(∀(i:Nat),i<QwY a->[ZI (GI (QwX a) i)]=[ZI (GI (Arr.sh x) i)])/\True)/\(Qw0 a=LN (Ye x)/\(∀(i:Nat),i<Qw0 a->[ZI (GI (QwZ a) i)]=[ZI (GI (Ye x) i)])/\True)/\(Qw2 a=LN (Z4 x)/\(∀(i:Nat),i<Qw2 a->Arr.row (List.getD (Qw1 a) i Qjh)=Arr.row (List.getD (Z4 x) i Qjh))/\True)/\True)/\True)/\(True/\True)/\q x/\∀(y:Unit),True->Be (N4+LN (Bx x)<=9223372036854775807) (RT ((98:UInt8)::(111:UInt8)::(120:UInt8)::(32:UInt8)::List.append [] (Bx x)=Qjg a)))))) (by kernel_rfl) ?_
 delta DA GI LI LN N0 N1 N4 SM Z0 Z1 ZI QcA Ye QwY QwZ Qw0 Qw1 Qw2 Z3 Z4 Qjg QwV QwW Qjh QcB QwX RT
 have da:(default:Arr)=Arr.mk 0 [] [] []:=rfl
 simp only[<- da,Bf,Bc,decide_eq_true_eq,decide_eq_false_iff_not,true_and,and_true,beq_iff_eq,bne_iff_ne,Bool.cond_false_right,Bool.cond_true_left,Bool.and_eq_true,Bool.and_eq_false_iff,Bool.or_eq_true,Bool.or_eq_false_iff,beq_eq_false_iff_ne,ne_eq,exists_const,forall_const,Int.toNat_natCast,BR]
 have kd:=lo.kd
 have hsum:=lo.sum
 refine⟨fun hk=>?_,fun hk1=>⟨fun hk=>?_,fun hk2=>?_⟩⟩
 ·have:=h1 (by omega)
  exact⟨⟨by omega,by omega⟩,Wa lo.ni,by rw[CE,if_pos hk]⟩
 ·have:=h1 (by omega)
  have he:=Ta (a.nu.getD 0 0) 39
  refine⟨⟨by omega,by omega⟩,lo.chr hk _ (BdJ (by omega)),by omega,by simp only[List.length_cons,MF];omega,?_⟩
  rw[CE,if_neg hk1,if_pos hk]
  simp[MF,IG,Ob]
  rfl
 ·have:=h3 (by omega)
  have hm:=Cf (l:=a.it) (i:=0) (by omega)
  have hl:=ML hm
  refine⟨⟨by omega,by omega⟩,a.it.getD 0 default,⟨rfl,⟨rfl,fun _ _=>rfl⟩,⟨rfl,fun _ _=>rfl⟩,rfl,fun _ _=>rfl⟩,hi _ hm,by omega,?_⟩
  rw[CE,if_neg hk1,if_neg hk2]
  have:(a.it.map Bx).getD 0 []=Bx (a.it.getD 0 default):=by
   simp[List.getD_eq_getElem?_getD,List.getElem?_map,List.getElem?_eq_getElem (show 0<a.it.length by omega)]
  rw[this];rfl
noncomputable def Erel(a:Arr)(q:Arr->Prop):Senv:={ EC (Bae q) 36 5 [7,16,20] (fun _=>([],[])) with
 gh:=fun b=>match b with
  |0=>[.slot 3]
  |_=>[]
 ann:=fun b _ S=>match b with
  |0=>some { slots:=[4,3],keep:=[0,1],α:=Nat×Nat×List UInt8,st:=fun y=>([.int .i64 y.1,bsl y.2.2 (.tok 0 y.2.1)],⟨S.objs,[(0,y.2.1)]⟩),inv:=fun y=>JHd [32] (a.it.map fun b=>Gc (Bx b)) y.1 y.2.2,mu:=fun y=>a.it.length-y.1 }
  |_=>none }
def Z5(a:Arr):Int:=Arr.k a
def Qji(a:Arr):List Int:=Arr.nu a
def Xe(a:Arr):Nat:=LN (Qji a)
def Z6(a:Arr)(b:Nat):List D:=[ZI (GI (Qji a) b)]
def Qw3(a:Arr):List Int:=Bk (Xe a) fun i=>Z6 a i
def Z7(a:Arr):List Arr:=Arr.it a
def Qw4(a:Arr):List UInt8:=Ga (Z5 a) (Qji a) (List.map Bx (Z7 a))
def Z8(a:Arr):List UInt8:=Bx a
def QcC(a:Arr)(c:Nat)(d:List UInt8):Prop:=JHd [(32:UInt8)] (List.map (fun (b:Arr)=>Gc (Z8 b)) (Z7 a)) c d
def Xf(a:List UInt8)(b:Nat):List D:=[ZB (BI a b)]
def QcD(a:Arr):Nat:=LN (Arr.sh a)
def Qjj(a:Arr)(b:Nat):List D:=[ZI (GI (Arr.sh a) b)]
def Xg(a:Arr):Nat:=LN (Z7 a)
def QcE:Arr:=DA
def Z9(a:Arr)(b:Nat):Arr:=List.getD (Z7 a) b QcE
def QPO(a:Arr)(b:Nat):List Int:=Arr.sh (Z9 a b)
def QPP(a:Arr)(b:Nat):List Int:=Arr.nu (Z9 a b)
def Qw5(a:Arr)(b:Nat):List Arr:=Arr.it (Z9 a b)
def Qw6(a:Arr)(b:Nat):List D:=[ZI (Arr.k (Z9 a b)),SI (QPO a b),SI (QPP a b),D.sl N4 (LN (Qw5 a b)) (fun i=>Arr.row (List.getD (Qw5 a b) i QcE)) Mode.any]
def Qjk(a:Nat)(b:Arr)(c d:Nat):Prop:=(SM a/\(SM (Z5 b)/\(SM (QcD b)/\(∀(i:Nat),i<QcD b->SM (Qjj b i))/\True)/\(SM (Xe b)/\(∀(i:Nat),i<Xe b->SM (Z6 b i))/\True)/\(SM (Xg b)/\(∀(i:Nat),i<Xg b->SM (Qw6 b i))/\True)/\True)/\True)/\c=d/\True
def Qjl(a:Arr):Int:=(NI (Xg a))
def QcF(a:Arr)(b:Nat):Arr:=List.getD (Z7 a) (Int.toNat (↑b:Int)) QcE
def Qw7(a:Arr)(b:Nat):List Int:=Arr.sh (QcF a b)
def Qw8(a:Arr)(b:Nat):Nat:=LN (Qw7 a b)
def Qw9(a:Arr)(b:Nat):List Int:=Arr.nu (QcF a b)
def Qxa(a:Arr)(b:Nat):Nat:=LN (Qw9 a b)
def Qxb(a:Arr)(b:Nat):List Arr:=Arr.it (QcF a b)
def Qxc(a:Arr)(b:Nat):Nat:=LN (Qxb a b)
def Qxd(a:Arr)(b:Nat)(c:Arr):Prop:=(Arr.k (QcF a b)=Z5 c/\(Qw8 a b=QcD c/\(∀(i:Nat),i<Qw8 a b->[ZI (GI (Qw7 a b) i)]=Qjj c i)/\True)/\(Qxa a b=Xe c/\(∀(i:Nat),i<Qxa a b->[ZI (GI (Qw9 a b) i)]=Z6 c i)/\True)/\(Qxc a b=Xg c/\(∀(i:Nat),i<Qxc a b->Arr.row (List.getD (Qxb a b) i QcE)=Arr.row (Z9 c i))/\True)/\True)/\True
def Qxe(a:Arr):Nat:=LN ((40:UInt8)::(98:UInt8)::(111:UInt8)::(120:UInt8)::(32:UInt8)::List.append [] (Z8 a))+N1
def Qxf(a:Arr):List UInt8:=(40:UInt8)::(98:UInt8)::(111:UInt8)::(120:UInt8)::(32:UInt8)::List.append (List.append [] (Z8 a)) [(41:UInt8)]
def Qxg(a:Arr):Nat:=LN (Qxf a)
def QcG(a:List UInt8)(b:Arr):Nat:=LN a+N1+Qxg b
def QPQ(a:Arr):D:=D.agg [ZI (Z5 a),D.sl N1 (QcD a) (fun i=>Qjj a i) Mode.any,D.sl N1 (Xe a) (fun i=>Z6 a i) Mode.any,D.sl N4 (Xg a) (fun i=>Qw6 a i) Mode.any]
def Qxh(a:Arr)(b:Nat):Prop:=SM (QPQ a)/\SM (D.ref N0 b N0)/\True
def Qxi(a:Arr)(b c:Nat):Prop:=Xg a-b<Xg a-c
def Qxj(a:Arr)(b:Nat):List D:=[ZB (BI (Qxf a) b)]
def QcH(a:List UInt8)(b:Arr):Nat:=LN a+Qxg b
theorem Bkj(a : Arr)(q : Arr -> Prop)(lo : LOk a)(hk : a.k≠2)(hi : ∀b∈a.it, q b)(hc : ConOk Tryz.prog (Bae q)) :
  ACalls Tryz.prog 165 ((sRc Arr.row2 (fun _=>True) (fun a=>.str (Ga a.k a.nu (a.it.map Bx)))).args a) ⟨[],[]⟩ (SpecR (sRc Arr.row2 (fun _=>True) (fun a=>.str (Ga a.k a.nu (a.it.map Bx)))) a):=by
 refine Bh (A:=sRc Arr.row2 (fun _=>True) (fun a=>.str (Ga a.k a.nu (a.it.map Bx)))) (x:=a) (E:=Erel a q) (eOk hc rfl) Tryz.func165 rfl (by kernel_rfl) rfl (by simp[sRc,Erel,EC,E0]) ?_
 refine Bj (T :=
  ∀(x:Nat),True->SM x/\ifB (Z5 a==Z1) (SM x/\((IntsP (Xe a) fun i=>Z6 a i)/\Xe a<=1099511627776/\∀(z:Int),z∈Qw3 a->Br z)/\∀(y:Unit),True->RT (C3 (Qw3 a)=Qw4 a)) (∀(t:Nat),(∃(x_1:Nat×Nat×List UInt8),QcC a x_1.1 x_1.2.2/\(Z0=(NI x_1.1)/\(N0=LN x_1.2.2/\(∀(i:Nat),i<N0->[D.str []]=Xf x_1.2.2 i)/\t=x_1.2.1)/\True)/\Qjk x a t x_1.2.1)/\∀(x_1:Nat×Nat×List UInt8),QcC a x_1.1 x_1.2.2->SM x/\ifB (decide ((NI x_1.1)<Qjl a)) (ifB (decide (Z0<(NI x_1.1))) (SM x_1.2.1/\Be ((LN x_1.2.2+N1)*N1<=140737488355328/\LN x_1.2.2+N1<=9223372036854775807) (∀(t:Nat),SM x/\Be (Z0<=(NI x_1.1)/\(NI x_1.1)<Qjl a) (∃(x_2:Arr),Qxd a x_1.1 x_2/\(True/\True)/\q x_2/\∀(y:Unit),True->Be ((5:Nat)+LN (Z8 x_2)<=9223372036854775807) (Be (Qxe x_2<=9223372036854775807) (SM t/\Be (QcG x_1.2.2 x_2*N1<=140737488355328/\QcG x_1.2.2 x_2<=9223372036854775807) (∀(t:Nat),Qxh a x/\∃(y:Nat×Nat×List UInt8),QcC a y.1 y.2.2/\Qxi a y.1 x_1.1/\(IntKind.wrap IntKind.i64 ((NI x_1.1)+Z1)=(NI y.1)/\(QcG x_1.2.2 x_2=LN y.2.2/\(∀(i:Nat),i<QcG x_1.2.2 x_2->BM (LN x_1.2.2+N1) (BM (LN x_1.2.2) (fun i=>Xf x_1.2.2 i) fun i=>List.getD [[ZB (32:Int)]] i []) (fun i=>Qxj x_2 i) i=Xf y.2.2 i)/\t=y.2.1)/\True)/\Qjk x a t y.2.1)))))) (SM x/\Be (Z0<=(NI x_1.1)/\(NI x_1.1)<Qjl a) (∃(x_2:Arr),Qxd a x_1.1 x_2/\(True/\True)/\q x_2/\∀(y:Unit),True->Be ((5:Nat)+LN (Z8 x_2)<=9223372036854775807) (Be (Qxe x_2<=9223372036854775807) (SM x_1.2.1/\Be (QcH x_1.2.2 x_2*N1<=140737488355328/\QcH x_1.2.2 x_2<=9223372036854775807) (∀(t:Nat),Qxh a x/\∃(y:Nat×Nat×List UInt8),QcC a y.1 y.2.2/\Qxi a y.1 x_1.1/\(IntKind.wrap IntKind.i64 ((NI x_1.1)+Z1)=(NI y.1)/\(QcH x_1.2.2 x_2=LN y.2.2/\(∀(i:Nat),i<QcH x_1.2.2 x_2->BM (LN x_1.2.2) (fun i=>Xf x_1.2.2 i) (fun i=>Qxj x_2 i) i=Xf y.2.2 i)/\t=y.2.1)/\True)/\Qjk x a t y.2.1)))))) (True/\chk (true&&Ix (LN x_1.2.2) fun i=>Xf x_1.2.2 i) (RT ((bytesOf (LN x_1.2.2) fun i=>Xf x_1.2.2 i)=Qw4 a))))) (by kernel_rfl) ?_
 delta BI DA GI LN N0 N1 N4 NI SI SM U0 Z0 Z1 ZB ZI Z5 Qji Xe Z6 Qw3 Z7 Qw4 Z8 QcC Xf QcD Qjj Xg QcE Z9 QPO QPP Qw5 Qw6 Qjk Qjl QcF Qw7 Qw8 Qw9 Qxa Qxb Qxc Qxd Qxe Qxf Qxg QcG QPQ Qxh Qxi Qxj QcH RT
 have da:(default:Arr)=Arr.mk 0 [] [] []:=rfl
 simp only[<- da,Bf,Bc,decide_eq_true_eq,decide_eq_false_iff_not,true_and,and_true,beq_iff_eq,bne_iff_ne,Bool.cond_false_right,Bool.cond_true_left,Bool.and_eq_true,Bool.and_eq_false_iff,Bool.or_eq_true,Bool.or_eq_false_iff,beq_eq_false_iff_ne,ne_eq,exists_const,forall_const,Int.toNat_natCast,BR]
 have hib:∀x:Arr,(40::98::111::120::32::(Bx x).append [41])=Gc (Bx x):=fun _=>rfl
 simp only[MF,hib]
 have kd:=lo.kd
 have hsum:=lo.sum
 have l2:=lo.n6
 have l3:=lo.i6
 have tt:(∀i:Nat,i<a.sh.length->True)/\(∀i:Nat,i<a.nu.length->True)/\∀i:Nat,i<a.it.length->True:=⟨fun _ _=>trivial,fun _ _=>trivial,fun _ _=>trivial⟩
 refine⟨fun h1=>⟨⟨BQ _,by omega,lo.ni⟩,?_⟩,fun h1 t=>⟨⟨(0,t,[]),JHd.init _ _,⟨rfl,rfl,fun i hi=>absurd hi (by omega),rfl⟩,tt,rfl⟩,?_⟩⟩
 ·rw[Ga,if_neg hk,lo.no (by omega)]
  simp[C3]
 have hnu:=lo.bx (by omega)
 have hv:Lib.join (a.it.map fun b=>Gc (Bx b)) [32]=Ga a.k a.nu (a.it.map Bx):=by
  rw[Ga,if_neg hk,hnu,List.map_map];rfl
 have hvl:=Mq a.k lo.ni (a.it.map Bx)
 rw[List.length_map] at hvl
 rintro ⟨i,t1,out⟩ hh
 simp only at hh ⊢
 have hl:=hh.len
 rw[hv] at hl
 refine⟨fun hlt=>?_,fun hge=>?_⟩
 ·have hlt':i<a.it.length:=by omega
  have hm:=Cf hlt'
  have hml:=ML hm
  have hmi:i<(a.it.map fun b=>Gc (Bx b)).length:=by simpa using hlt'
  have hg:(a.it.map fun b=>Gc (Bx b)).getD i []=Gc (Bx (a.it.getD i default)):=by
   simp[List.getD_eq_getElem?_getD,List.getElem?_map,List.getElem?_eq_getElem hlt']
  have hil:(Gc (Bx (a.it.getD i default))).length=6+(Bx (a.it.getD i default)).length:=by
   simp only[Gc,BeZ,List.length_append,List.length_cons,List.length_nil];omega
  refine⟨fun h0=>⟨⟨by omega,by omega⟩,⟨by omega,by omega⟩,a.it.getD i default,⟨rfl,⟨rfl,fun _ _=>rfl⟩,⟨rfl,fun _ _=>rfl⟩,rfl,fun _ _=>rfl⟩,hi _ hm,by omega,by simp only[List.length_cons];omega,⟨by omega,by omega⟩,fun t2=>⟨(i+1,t2,out++[32]++Gc (Bx (a.it.getD i default))),?_,by simp only;omega,⟨Bb (by omega) (by omega),by simp only[List.length_append,List.length_cons,List.length_nil],?_,rfl⟩,tt,rfl⟩⟩,fun h0=>⟨⟨by omega,by omega⟩,a.it.getD i default,⟨rfl,⟨rfl,fun _ _=>rfl⟩,⟨rfl,fun _ _=>rfl⟩,rfl,fun _ _=>rfl⟩,hi _ hm,by omega,by simp only[List.length_cons];omega,⟨by omega,by omega⟩,fun t2=>⟨(i+1,t2,out++Gc (Bx (a.it.getD i default))),?_,by simp only;omega,⟨Bb (by omega) (by omega),by simp only[List.length_append],?_,rfl⟩,tt,rfl⟩⟩⟩
  ·have:=hh.step (by omega) hmi
   rw[hg] at this
   exact this
  ·exact Mf (l:=out++[32]) (by simp) (Mw (b:=32) rfl (fun _ _=>rfl) rfl) (fun _ _=>rfl)
  ·have e:i=0:=by omega
   subst e
   have:=hh.step0 hmi
   rw[hg] at this
   exact this
  ·exact Mf rfl (fun _ _=>rfl) (fun _ _=>rfl)
 ·have hd:=hh.done (by simpa using hge)
  rw[Bd,Bool.true_and]
  refine⟨IN _,?_⟩
  rw[CK,hd,hv]
def sAt1(q:Arr->Prop):FnSpec where
 β:=Arr
 α:=Unit
 args:=fun a=>[.agg a.row1,.int .i64 0]
 st:=fun _=>⟨[],[]⟩
 pre:=q
 post:=fun _ _=>True
 res:=fun a _=>.ret (.agg (atA a 0).row1)
 out:=fun _ _=>⟨[],[]⟩
def Od(a:Arr):Arr:=.mk a.k [BX a.k a.nu.length a.it.length] a.nu a.it
def BfW(a:Arr):Con:=fun k ds S=>match k with
 |159=>some (sRc Arr.row1 (fun b=>b=Od a/\1<a.nu.length+a.it.length/\a.sh.length≠1) (fun b=>.str (Bx b)))
 |163=>some (sRc Arr.row1 (fun b=>(b=a/\a.sh.length=0)\/b=Eo a.k\/(b=atA a 0/\a.nu.length+a.it.length=1)) (fun b=>.str (CE b.k b.nu (b.it.map Bx))))
 |164=>some (sRc Arr.row1 (fun b=>b=a/\a.k=2) (fun b=>.str (IG 34 b.nu)))
 |165=>some (sRc Arr.row1 (fun b=>b=a/\a.k≠2) (fun b=>.str (Ga b.k b.nu (b.it.map Bx))))
 |167=>some (sRc Arr.row1 (fun b=>b=a) (fun b=>.agg (Eo b.k).row1))
 |168=>some (sAt1 (fun b=>b=a/\a.nu.length+a.it.length=1))
 |166=>match ds with
  | [.sl 1 n f m]=>some (pC [.sl 1 n f m] (.str (C3 (Bk n f))) (IntsP n f/\n<=1099511627776/\∀z∈Bk n f,Br z))
  |_=>none
 |k=>BaJ k ds S
theorem BfO{k:Int}(h:k=1\/k=2\/k=3):CE (Eo k).k (Eo k).nu ((Eo k).it.map Bx)=WI k:=by
 rcases h with rfl | rfl | rfl
 ·rfl
 ·rfl
 ·rfl
theorem BnG{a:Arr}(kd:a.k=1\/a.k=2\/a.k=3)(bx:a.k=3->a.nu=[])(h:a.nu.length+a.it.length=1):CE (atA a 0).k (atA a 0).nu ((atA a 0).it.map Bx)=CE a.k a.nu (a.it.map Bx):=by
 have h1:=Be9 kd bx h
 have h2:(atA a 0).sh.length=0:=by unfold atA;split<;>rfl
 rw[Mg (atA a 0),MH,if_pos h2] at h1
 exact h1
theorem BdC{a:Arr}(h:1<a.nu.length+a.it.length):Bx (Od a)=Ga a.k a.nu (a.it.map Bx):=by
 rw[Mg,MH,if_neg (by show ¬1=0;omega),if_pos ⟨rfl,.inr (by rw[List.length_map];exact h)⟩]
 rfl
noncomputable def Erl(a:Arr):Senv:=EC (BfW a) 64 5 [8,19,31,39,46] (fun _=>([],[]))
def QK(a:Arr):Nat:=LN (Arr.sh a)
def Kn(a:Arr):Int:=Arr.k a
def Qxk(a b:Arr):Prop:=Kn a=Kn b
def Xh(a:Arr)(b:Nat):List D:=[ZI (GI (Arr.sh a) b)]
def Ha(a:Arr):List Int:=Arr.nu a
def Xi(a:Arr):Nat:=LN (Ha a)
def QcI(a:Arr)(b:Nat):List D:=[ZI (GI (Ha a) b)]
def QcJ(a:Arr):List Arr:=Arr.it a
def Xj(a:Arr):Nat:=LN (QcJ a)
def Qjm:Arr:=DA
def QcK(a:Arr)(b:Nat):List D:=Arr.row (List.getD (QcJ a) b Qjm)
def Qxl(a b:Arr):Prop:=(Xi a=Xi b/\(∀(i:Nat),i<Xi a->QcI a i=QcI b i)/\True)/\(Xj a=Xj b/\(∀(i:Nat),i<Xj a->QcK a i=QcK b i)/\True)/\True
def Qxm(a b:Arr):Prop:=Qxk a b/\(QK a=QK b/\(∀(i:Nat),i<QK a->Xh a i=Xh b i)/\True)/\Qxl a b
def QcL(a b:Arr):Prop:=Qxm a b/\True
def Hb(a:Arr):Arr:=Eo (Kn a)
def Hc(a:Arr):Arr:=atA a N0
def Qxn(a:Arr):Nat:=Xi a+Xj a
def Qxo(a:Arr):Prop:=Qxn a=N1
def Qxp(a b:Arr):Prop:=a=b/\QK b=N0\/a=Hb b\/a=Hc b/\Qxo b
def Qjn(a:Arr):List UInt8:=CE (Kn a) (Ha a) (List.map Bx (QcJ a))
def Xk(a:Arr):List UInt8:=Bx a
def QcM(a:Arr):Bool:=(NI (QK a))==Z1
def Qjo(a:Arr):Bool:=bif QcM a then Kn a==2 else false
def QcN(a:Arr):Int:=BX (Kn a) (Xi a) (Xj a)
def Qxq(a:Arr):Bool:=decide ((2:Int)<=QcN a)
def Qjp(a:Arr):Bool:=bif QcM a then Qxq a else false
def Qxr(a:Arr):List Int:=Bk (QK a) fun i=>Xh a i
def Qxs(a:Arr):List UInt8:=C3 (Qxr a)
def Qxt(a:Arr):List Int:=Arr.sh (Hb a)
def Qxu(a:Arr):Nat:=LN (Qxt a)
def Qxv(a:Arr):List Int:=Arr.nu (Hb a)
def Qxw(a:Arr):Nat:=LN (Qxv a)
def Qxx(a:Arr):List Arr:=Arr.it (Hb a)
def Qxy(a:Arr):Nat:=LN (Qxx a)
def Qjq(a:Arr):List UInt8:=Qxs a++[32,114,101,115,104,97,112,101,32]
def Qxz(a:Arr):Nat:=LN (Qjq a)
def QxA(a b:Arr):Prop:=(True/\True)/\Qxp a b/\∀(y:Unit),True->Be (Qxz b+LN (Qjn a)<=9223372036854775807) (RT (Qjq b++Qjn a=Xk b))
def QxB(a:Arr):List Int:=Arr.sh (Hc a)
def QxC(a:Arr):Nat:=LN (QxB a)
def QxD(a:Arr):List Int:=Arr.nu (Hc a)
def QxE(a:Arr):Nat:=LN (QxD a)
def QxF(a:Arr):List Arr:=Arr.it (Hc a)
def QxG(a:Arr):Nat:=LN (QxF a)
theorem Ub(a : Arr)(lo : LOk a)(hc : ConOk Tryz.prog (BfW a)) :
  ACalls Tryz.prog 159 ((sRc Arr.row1 (fun _=>True) (fun b=>.str (Bx b))).args a) ⟨[],[]⟩ (SpecR (sRc Arr.row1 (fun _=>True) (fun b=>.str (Bx b))) a):=by
 refine Bh (A:=sRc Arr.row1 (fun _=>True) (fun b=>.str (Bx b))) (x:=a) (E:=Erl a) (eOk hc rfl) Tryz.func159 rfl (by kernel_rfl) rfl (by simp[sRc,Erl,EC,E0]) ?_
 refine Bj (T :=
  ∀(x:Nat),True->SM x/\ifB ((NI (QK a))==Z0) (SM x/\∃(x:Arr),QcL a x/\(True/\True)/\Qxp x a/\∀(y:Unit),True->RT (Qjn x=Xk a)) ((SM x/\ifB (QcM a) (SM x/\(Kn a==2)=Qjo a/\True) (false=Qjo a/\True))/\ifB (Qjo a) (SM x/\∃(x:Arr),QcL a x/\(True/\True)/\(x=a/\Kn a=2)/\∀(y:Unit),True->RT (IG (34:Int) (Ha x)=Xk a)) (SM x/\True/\∀(y:Unit),True->(SM x/\ifB (QcM a) (Qxq a=Qjp a/\True) (false=Qjp a/\True))/\ifB (Qjp a) (SM x/\∃(x:Arr),QcL a x/\(True/\True)/\(x=a/\Kn a≠2)/\∀(y:Unit),True->RT (Ga (Kn x) (Ha x) (List.map Bx (QcJ x))=Xk a)) (SM x/\((IntsP (QK a) fun i=>Xh a i)/\QK a<=1099511627776/\∀(z:Int),z∈Qxr a->Br z)/\∀(y:Unit),True->Be (LN (Qxs a)+9<=9223372036854775807) (ifB (QcN a==Z0) (SM x/\∃(x:Arr),QcL a x/\(True/\True)/\x=a/\∀(y:Unit),True->∃(x_1:Arr),((Arr.k (Hb x)=Kn x_1/\(Qxu x=QK x_1/\(∀(i:Nat),i<Qxu x->[ZI (GI (Qxt x) i)]=Xh x_1 i)/\True)/\(Qxw x=Xi x_1/\(∀(i:Nat),i<Qxw x->[ZI (GI (Qxv x) i)]=QcI x_1 i)/\True)/\(Qxy x=Xj x_1/\(∀(i:Nat),i<Qxy x->Arr.row (List.getD (Qxx x) i Qjm)=QcK x_1 i)/\True)/\True)/\True)/\QxA x_1 a) (ifB (QcN a==Z1) (SM x/\∃(x:Arr),(Qxm a x/\SM Z0/\True)/\(True/\True)/\(x=a/\Qxo a)/\∀(y:Unit),True->∃(x_1:Arr),((Arr.k (Hc x)=Kn x_1/\(QxC x=QK x_1/\(∀(i:Nat),i<QxC x->[ZI (GI (QxB x) i)]=Xh x_1 i)/\True)/\(QxE x=Xi x_1/\(∀(i:Nat),i<QxE x->[ZI (GI (QxD x) i)]=QcI x_1 i)/\True)/\(QxG x=Xj x_1/\(∀(i:Nat),i<QxG x->Arr.row (List.getD (QxF x) i Qjm)=QcK x_1 i)/\True)/\True)/\True)/\QxA x_1 a) (SM x/\SM x/\SM x/\∃(x:Arr),((Qxk a x/\(N1=QK x/\(∀(i:Nat),i<N1->List.getD [[ZI (QcN a)]] i []=Xh x i)/\True)/\Qxl a x)/\True)/\(True/\True)/\(x=Od a/\N1<Qxn a/\QK a≠N1)/\∀(y:Unit),True->Be (Qxz a+LN (Xk x)<=9223372036854775807) (RT (Qjq a++Xk x=Xk a))))))))) (by kernel_rfl) ?_
 delta DA GI LN N0 N1 NI SM Z0 Z1 ZI QK Kn QcK Qxl Qxm QcL Hb Hc Qxn Qxo Qxp Qjn Qxk Xk QcM Qjo QcN Qxq Qjp Qxr Qxs Qxt Qxu Xh Qxv Qxw Qxx Qxy Qjq Qxz QxA QxB QxC QxD Ha QxE QxF QxG Xi QcI QcJ Xj Qjm RT
 have da:(default:Arr)=Arr.mk 0 [] [] []:=rfl
 simp only[<- da,Bf,Bc,decide_eq_true_eq,decide_eq_false_iff_not,true_and,and_true,beq_iff_eq,bne_iff_ne,Bool.cond_false_right,Bool.cond_true_left,Bool.and_eq_true,Bool.and_eq_false_iff,Bool.or_eq_true,Bool.or_eq_false_iff,beq_eq_false_iff_ne,ne_eq,exists_const,forall_const,Int.toNat_natCast,BR]
 obtain ⟨kd,s8,n6,i6,si,ni,hsum,hchr,hno,hbx,hsc⟩:=lo
 have hz:BX a.k a.nu.length a.it.length=((a.nu.length+a.it.length:Nat):Int):=by
  unfold BX
  by_cases h3:a.k=3
  ·rw[if_neg (by omega),if_pos h3,hbx h3];simp
  ·rw[if_pos (by omega),hno h3];simp
 have hd:=GT si
 have hfl:=Ty a.k
 have hsl:=Ug a.k ni (a.it.map Bx)
 have hvl:=Mq a.k ni (a.it.map Bx)
 rw[List.length_map] at hvl
 have len:∀e:List UInt8,e.length<=200000000->(C3 a.sh++[32,114,101,115,104,97,112,101,32]).length+e.length<=9223372036854775807:=fun e he=>by
  simp only[List.length_append,List.length_cons,List.length_nil];omega
 have hlk:a.sh.length≠0->(¬a.sh.length=1\/¬a.k=2)->(¬a.sh.length=1\/a.nu.length+a.it.length<2)->Bx a=C3 a.sh++[32,114,101,115,104,97,112,101,32]++(if a.nu.length+a.it.length=0 then WI a.k else if a.nu.length+a.it.length=1 then CE a.k a.nu (a.it.map Bx) else Ga a.k a.nu (a.it.map Bx)):=fun h1 h2 h3=>by
  rw[Mg,MH,if_neg h1,if_neg (by rw[List.length_map];omega),List.length_map];rfl
 have hvk:a.sh.length=1->(a.k=2\/1<a.nu.length+a.it.length)->Bx a=Ga a.k a.nu (a.it.map Bx):=fun h1 h2=>by
  rw[Mg,MH,if_neg (by omega),if_pos ⟨h1,by rw[List.length_map];exact h2⟩]
 simp only[hz]
 refine⟨fun hs=>⟨a,⟨rfl,⟨rfl,fun _ _=>rfl⟩,⟨rfl,fun _ _=>rfl⟩,rfl,fun _ _=>rfl⟩,.inl ⟨rfl,by omega⟩,by rw[Mg a,MH,if_pos (by omega)]⟩,fun hs=>⟨⟨fun h=>by rw[h];rfl,fun h=>by rw[beq_eq_false_iff_ne.2 h];rfl⟩,fun ⟨h1,h2⟩=>⟨a,⟨rfl,⟨rfl,fun _ _=>rfl⟩,⟨rfl,fun _ _=>rfl⟩,rfl,fun _ _=>rfl⟩,⟨rfl,h2⟩,by rw[hvk (by omega) (.inl h2),Ga,if_pos h2]⟩,fun hn=>⟨⟨fun h=>by rw[h];rfl,fun h=>by rw[beq_eq_false_iff_ne.2 h];rfl⟩,fun ⟨h1,h2⟩=>⟨a,⟨rfl,⟨rfl,fun _ _=>rfl⟩,⟨rfl,fun _ _=>rfl⟩,rfl,fun _ _=>rfl⟩,⟨rfl,by omega⟩,by rw[hvk (by omega) (.inr (by omega))]⟩,fun hn2=>⟨⟨BQ _,by omega,si⟩,by omega,fun h0=>?_,fun h0=>⟨fun h1=>?_,fun h1=>?_⟩⟩⟩⟩⟩
 ·refine⟨a,⟨rfl,⟨rfl,fun _ _=>rfl⟩,⟨rfl,fun _ _=>rfl⟩,rfl,fun _ _=>rfl⟩,rfl,Eo a.k,⟨rfl,⟨rfl,fun _ _=>rfl⟩,⟨rfl,fun _ _=>rfl⟩,rfl,fun _ _=>rfl⟩,.inr (.inl rfl),?_,?_⟩
  ·rw[BfO kd];exact len _ (by omega)
  ·rw[BfO kd,hlk (by omega) (by omega) (by omega),if_pos (by omega)]
 ·refine⟨a,⟨rfl,⟨rfl,fun _ _=>rfl⟩,⟨rfl,fun _ _=>rfl⟩,rfl,fun _ _=>rfl⟩,⟨rfl,by omega⟩,atA a 0,⟨rfl,⟨rfl,fun _ _=>rfl⟩,⟨rfl,fun _ _=>rfl⟩,rfl,fun _ _=>rfl⟩,.inr (.inr ⟨rfl,by omega⟩),?_,?_⟩
  ·rw[BnG kd hbx (by omega)];exact len _ (by omega)
  ·rw[BnG kd hbx (by omega),hlk (by omega) (by omega) (by omega),if_neg (by omega),if_pos (by omega)]
 ·refine⟨Od a,⟨rfl,⟨rfl,fun i hi=>?_⟩,⟨rfl,fun _ _=>rfl⟩,rfl,fun _ _=>rfl⟩,⟨rfl,by omega,by omega⟩,?_,?_⟩
  ·have:i=0:=by omega
   subst this
   simp only[Od,Arr.sh,hz];rfl
  ·rw[BdC (by omega)];exact len _ (by omega)
  ·rw[BdC (by omega),hlk (by omega) (by omega) (by omega),if_neg (by omega),if_neg (by omega)]
def BdG(its:List Arr):Con:=fun k ds S=>match k with
 |173=>some (sCl Arr.row1 Arr.row1 (fun b=>b∈its))
 |k=>BaJ k ds S
noncomputable def Era(a:Arr):Senv:=EC (BdG a.it) 34 3 [4,12,16] (fun id=>match id with | 5=>([0,1,2,3,4,5,6,7,8,9],[7,9]) | _=>([],[]))
def QcO(a:Arr):Int:=Arr.k a
def Qjr(a:Arr):List Int:=Arr.nu a
def QcP(a:Arr):Nat:=LN (Qjr a)
def QcQ(a:Arr):List Arr:=Arr.it a
def QcR(a:Arr):Nat:=LN (QcQ a)
def Yf:D:=D.sl N1 N0 (fun x=>[]) Mode.nil
def QxH:List D:=[Yf]
def Qjs:Arr:=DA
def QcS(a:Arr)(b:Nat):Arr:=List.getD (QcQ a) (Int.toNat (↑b:Int)) Qjs
def QxI(a:Arr)(b:Nat):List Int:=Arr.sh (QcS a b)
def QxJ(a:Arr)(b:Nat):Nat:=LN (QxI a b)
def QxK(a:Arr)(b:Nat):List D:=[ZI (GI (Arr.sh a) b)]
def QxL(a:Arr)(b:Nat):List Int:=Arr.nu (QcS a b)
def QxM(a:Arr)(b:Nat):Nat:=LN (QxL a b)
def QxN(a:Arr)(b:Nat):List D:=[ZI (GI (Qjr a) b)]
def QxO(a:Arr)(b:Nat):List Arr:=Arr.it (QcS a b)
def QxP(a:Arr)(b:Nat):Nat:=LN (QxO a b)
def QxQ(a:Arr)(b:Nat):List D:=Arr.row (List.getD (QcQ a) b Qjs)
def Qjt(a:Arr):D:=ZI (QcO a)
theorem Blj(a : Arr)(i : Nat)(hk : a.k=1 \/ a.k=2 \/ a.k=3)(hi : (i : Int)<BX a.k a.nu.length a.it.length)(hc : ConOk Tryz.prog (BdG a.it)) :
  ACalls Tryz.prog 168 [.agg a.row2,.int .i64 i] ⟨[],[]⟩ (SpecR (sC [.agg a.row2,.int .i64 i] (atD a i)) ()):=by
 refine Bh (A:=sC _ _) (x:=()) (E:=Era a) (eOk hc rfl) Tryz.func168 rfl (by kernel_rfl) rfl (by simp[sC,Era,EC,E0]) ?_
 refine Bj (T :=
  ∀(x:Nat),True->∀(x_1:Nat),x≠x_1/\True->SM x/\True/\∀(y:Unit),True->ifB (decide (BX (QcO a) (QcP a) (QcR a)<=(↑i:Int))) (SM x_1/\(SM x_1/\True)/\∃(y:Unit),True/\Bn (D.agg (ZI Z0::Yf::Yf::QxH)) (atD a i)/\True/\True) (SM x/\ifB (QcO a==3) (SM x/\Be (Z0<=(↑i:Int)/\(↑i:Int)<(NI (QcR a))) (∃(x:Arr),((Arr.k (QcS a i)=QcO x/\(QxJ a i=LN (Arr.sh x)/\(∀(i_1:Nat),i_1<QxJ a i->[ZI (GI (QxI a i) i_1)]=QxK x i_1)/\True)/\(QxM a i=QcP x/\(∀(i_1:Nat),i_1<QxM a i->[ZI (GI (QxL a i) i_1)]=QxN x i_1)/\True)/\(QxP a i=QcR x/\(∀(i_1:Nat),i_1<QxP a i->Arr.row (List.getD (QxO a i) i_1 Qjs)=QxQ x i_1)/\True)/\True)/\True)/\(True/\True)/\x∈QcQ a/\∀(y:Unit),True->SM x_1/\(SM x_1/\True)/\∃(y:Unit),True/\Bn (D.agg [ZI 3,Yf,Yf,D.sl N4 N1 (fun i=>List.getD [[Qjt x,D.sl N1 (LN (Arr.sh x)) (fun i=>QxK x i) Mode.any,D.sl N1 (QcP x) (fun i=>QxN x i) Mode.any,D.sl N4 (QcR x) (fun i=>QxQ x i) Mode.any]] i []) Mode.full]) (atD a i)/\True/\True)) (SM x/\SM x/\Be (Z0<=(↑i:Int)/\(↑i:Int)<(NI (QcP a))) ((SM x/\SM (Qjt a))/\SM x_1/\(SM x_1/\True)/\∃(y:Unit),True/\Bn (D.agg (Qjt a::Yf::D.sl N1 N1 (fun i_1=>List.getD [[ZI (GI (Qjr a) (Int.toNat (↑i:Int)))]] i_1 []) Mode.full::QxH)) (atD a i)/\True/\True)))) (by kernel_rfl) ?_
 delta DA GI LN N0 N1 N4 NI SM Z0 ZI QcO Qjr QxJ QxK QxL QxM QxN QxO QxP QxQ Qjt QcP QcQ QcR Yf QxH Qjs QcS QxI
 have da:(default:Arr)=Arr.mk 0 [] [] []:=rfl
 simp only[<- da,Bf,Bc,decide_eq_true_eq,decide_eq_false_iff_not,true_and,and_true,beq_iff_eq,bne_iff_ne,Bool.cond_false_right,Bool.cond_true_left,Bool.and_eq_true,Bool.and_eq_false_iff,Bool.or_eq_true,Bool.or_eq_false_iff,beq_eq_false_iff_ne,ne_eq,exists_const,forall_const,Int.toNat_natCast]
 have h12:a.k≠3->i<a.nu.length:=fun h3=>by
  have h:a.k=1\/a.k=2:=by omega
  rw[BX,if_pos h] at hi;omega
 have h3:a.k=3->i<a.it.length:=fun h3=>by
  rw[BX,if_neg (by omega),if_pos h3] at hi;omega
 repeat' (first | intro _ | refine And.intro ?_ ?_)
 all_goals first
  |omega
  |(exfalso;omega)
  |exact⟨a.it.getD i default,⟨rfl,⟨rfl,fun _ _=>rfl⟩,⟨rfl,fun _ _=>rfl⟩,rfl,fun _ _=>rfl⟩,Cf (by omega),by rw[atD,if_pos (by assumption),(by assumption:a.k=3)];exact Bp _⟩
  |(rw[atD,if_neg (by omega)];exact Bp _)
def RSc(a:Arr):Prop:=ACalls Tryz.prog 163 ((sRc Arr.row2 (fun _=>True) (fun a=>.str (CE a.k a.nu (a.it.map Bx)))).args a) ⟨[],[]⟩ (SpecR (sRc Arr.row2 (fun _=>True) (fun a=>.str (CE a.k a.nu (a.it.map Bx)))) a)
theorem W5{a:Arr}(lo:LOk a)(hs:a.nu.length+a.it.length=1)(ih:∀b∈a.it,RLit b):RSc a:=by
 refine Bje a (·∈a.it) lo (fun h3=>?_) (fun h3=>?_) (fun _ h=>h) (BdD ih)
 ·have:=lo.no h3;rw[this] at hs;simp at hs;omega
 ·have:=lo.bx h3;rw[this] at hs;simp at hs;omega
theorem Bmd{a:Arr}(lo:LOk a)(h1:a.nu.length+a.it.length=1):((0:Nat):Int)<BX a.k a.nu.length a.it.length:=by
 unfold BX
 by_cases h3:a.k=3
 ·rw[if_neg (by omega),if_pos h3]
  have:=lo.bx h3
  rw[this] at h1
  simp at h1
  omega
 ·rw[if_pos (by have:=lo.kd;omega)]
  have:=lo.no h3
  rw[this] at h1
  simp at h1
  omega
theorem WX{a:Arr}(lo:LOk a)(ih:∀b∈a.it,RLit b)(hf:RSc (Eo a.k))(ha:a.nu.length+a.it.length=1->RSc (atA a 0))(hcl:a.nu.length+a.it.length=1->ConOk Tryz.prog (BdG a.it))(hl:1<a.nu.length+a.it.length->a.sh.length≠1->RLit (Od a)):ConOk Tryz.prog (BfW a):=by
 intro k ds S A h
 unfold BfW at h
 split at h
 ·injection h with h;subst h
  refine ConOk.plain (fun b hb=>?_) rfl rfl
  obtain ⟨hb,h1,h2⟩:b=Od a/\1<a.nu.length+a.it.length/\a.sh.length≠1:=hb
  rw[hb]
  exact Em (hl h1 h2)
 ·injection h with h;subst h
  refine ConOk.plain (fun b hb=>?_) rfl rfl
  rcases (hb:(b=a/\a.sh.length=0)\/b=Eo a.k\/(b=atA a 0/\a.nu.length+a.it.length=1)) with ⟨hb,h1⟩ | hb | ⟨hb,h1⟩
  ·rw[hb];exact Em (W5 lo (lo.sc h1) ih)
  ·rw[hb];exact Em hf
  ·rw[hb];exact Em (ha h1)
 ·injection h with h;subst h
  refine ConOk.plain (fun b hb=>?_) rfl rfl
  obtain ⟨hb,h1⟩:b=a/\a.k=2:=hb
  rw[hb]
  have hn:=lo.n6
  exact (Bmn a.k _ _ _ _ a.nu (by omega) (lo.chr h1)).mono fun _ _ ⟨y,q1,q2,q3⟩=>⟨y,q1,q2,q3⟩
 ·injection h with h;subst h
  refine ConOk.plain (fun b hb=>?_) rfl rfl
  obtain ⟨hb,h1⟩:b=a/\a.k≠2:=hb
  rw[hb]
  exact Em (Bkj a (·∈a.it) lo h1 (fun _ h=>h) (BdD ih))
 ·injection h with h;subst h
  refine ConOk.plain (fun b hb=>?_) rfl rfl
  have hb:b=a:=hb
  rw[hb]
  exact (BgT a).mono fun _ _ ⟨y,q1,q2,q3⟩=>⟨y,q1,q2,q3⟩
 ·injection h with h;subst h
  refine ConOk.plain (fun b hb=>?_) rfl rfl
  obtain ⟨hb,h1⟩:b=a/\a.nu.length+a.it.length=1:=hb
  rw[hb]
  have:=ACalls.wkArgs (ds:=[.agg a.row1,.int .i64 0]) (Bfr (Blj a 0 lo.kd (Bmd lo h1) (hcl h1)) (BnZ a 0)) (by
   simp only[wkL,wkD]
   exact⟨GS a,Bp _,trivial⟩)
  exact this.mono fun _ _ ⟨y,q1,q2,q3⟩=>⟨y,q1,q2,q3⟩
 ·split at h
  ·injection h with h;subst h
   exact BY fun ⟨h1,h2,h3⟩=>⟨Ba _,Ca (CB h1) (BdA _ (by rw[BJ];exact h2) h3)⟩
  ·cases h
 ·exact OI _ _ _ _ h
theorem Ue{a:Arr}(h:ACalls Tryz.prog 159 ((sRc Arr.row1 (fun _=>True) (fun b=>.str (Bx b))).args a) ⟨[],[]⟩ (SpecR (sRc Arr.row1 (fun _=>True) (fun b=>.str (Bx b))) a)):RLit a:=by
 refine (h.wkArgs ?_).mono fun _ _ ⟨y,h1,h2,h3⟩=>⟨y,h1,h2,h3⟩
 simp only[sRc,wkL,wkD]
 exact⟨Tz a,trivial⟩
theorem Bcu{a:Arr}(lo:LOk a)(h:1<a.nu.length+a.it.length):LOk (Od a):=by
 have h6:=lo.n6
 have h7:=lo.i6
 refine⟨lo.kd,by show 1<=8;omega,lo.n6,lo.i6,?_,lo.ni,lo.sum,lo.chr,lo.no,lo.bx,fun h=>absurd h (by show ¬1=0;omega)⟩
 intro z hz
 have:z=BX a.k a.nu.length a.it.length:=List.mem_singleton.1 hz
 rw[this]
 unfold BX Br
 split
 ·omega
 split<;>omega
theorem Bhq{a:Arr}(lo:LOk a)(ih:∀b∈a.it,RLit b)(hf:RSc (Eo a.k))(h:1<a.nu.length+a.it.length):RLit (Od a) :=
 Ue (Ub (Od a) (Bcu lo h) (WX (Bcu lo h) ih hf (fun h1=>absurd h1 (by show ¬a.nu.length+a.it.length=1;omega)) (fun h1=>absurd h1 (by show ¬a.nu.length+a.it.length=1;omega)) (fun _ h2=>absurd rfl h2)))
theorem rfs1:RSc (.mk 1 [] [0] []):=W5 Bal rfl (fun b hb=>by cases hb)
theorem rfs2:RSc (.mk 2 [] [32] []):=W5 Bak rfl (fun b hb=>by cases hb)
theorem BoW:RLit (.mk 1 [0] [] []) :=
 Ue (Ub _ BfA (WX BfA (fun b hb=>by cases hb) rfs1 (fun h=>by cases h) (fun h=>by cases h) (fun h=>absurd h (by show ¬1<0;omega))))
theorem rfs3:RSc (.mk 3 [] [] [.mk 1 [0] [] []]):=W5 RO rfl (fun b hb=>by
 have:b=.mk 1 [0] [] []:=List.mem_singleton.1 hb
 subst this;exact BoW)
theorem rfs{k:Int}(h:k=1\/k=2\/k=3):RSc (Eo k):=by
 rcases h with rfl | rfl | rfl
 ·exact rfs1
 ·exact rfs2
 ·exact rfs3
def BfU(its:List Arr):Con:=fun k _ _=>match k with
 |173=>some (sCl Arr.row1 Arr.row1 (fun b=>b∈its))
 |_=>none
noncomputable def Ec2(a:Arr):Senv:={ EC (BfU a.it) 33 5 [18] (fun id=>match id with | 1=>([0,1,2,3,5,6,4,7,8,9,10],[4,7,9,10]) | 5=>([0,1,2,3,4,5,6,7,8,9,10,11],[7,8,9,11]) | _=>([],[])) with
 gh:=fun b=>match b with
  |0=>[.cell 11 403]
  |_=>[]
 ann:=fun b env S=>match b with
  |0=>some { slots:=[4],keep:=[1,2,3],α:=Nat×Nat,st:=fun y=>([.int .i64 y.1],⟨Id S.objs 11 (.cells ((cellsO S.objs 11).set 3 (.sl 4 y.1 (fun j=>(a.it.getD j default).row1) (.tok 2 y.2)))),[(2,y.2)]⟩),inv:=fun y=>y.1<=a.it.length,mu:=fun y=>a.it.length-y.1 }
  |_=>none }
theorem Boo{α : Type}{its : List α}{g : α -> List D}(d : α){j : Nat} :
  ∀i,i<j+1->BM j (fun i=>g (its.getD i d)) (fun i=>[g (its.getD j d)].getD i []) i=g (its.getD i d):=by
 intro i hi
 simp only[BM]
 split
 ·rfl
 ·have:i=j:=by omega
  subst this
  simp
def Yg(a:Arr):Nat:=LN (Arr.sh a)
def Xl(a:Arr):Nat:=N0+Yg a
def QxR(a:Arr):Nat:=Xl a*8
def Yh(a:Arr):Nat:=LN (Arr.nu a)
def Hd(a:Arr)(b:Nat):List D:=[ZI (GI (Arr.nu a) b)]
def QxS(a:Arr):D:=D.sl N1 (Yh a) (fun i=>Hd a i) Mode.any
def Qju(a:Nat)(b:Arr):Prop:=SM a/\SM (QxS b)
def Qjv(a:Arr):Int:=Arr.k a
def QxT(a:Arr):D:=ZI (Qjv a)
def He(a:Nat)(b:Arr):Prop:=SM a/\SM (QxT b)
def Xm(a:Arr):Nat:=N0+Yh a
def QxU(a:Arr):Nat:=Xm a*8
def QcT(a:Arr):List Arr:=Arr.it a
def JT(a:Arr):Nat:=LN (QcT a)
def Qjw(a:Nat)(b:Arr):Prop:=a<=JT b
def QcU(a:Arr):Prop:=SM (Qjv a)
def Hf(a:Arr)(b:Nat):List D:=[ZI (GI (Arr.sh a) b)]
def QxV(a:Arr)(b:Nat):List D:=BM N0 (fun x=>[]) (fun i=>Hf a i) b
def QxW(a:Arr)(b:Nat):Prop:=SM (Xl a)/\(∀(i:Nat),i<Xl a->SM (QxV a i))/\SM b
def QxX(a:Arr)(b:Nat):List D:=BM N0 (fun x=>[]) (fun i=>Hd a i) b
def QxY(a:Arr)(b:Nat):Prop:=SM (Xm a)/\(∀(i:Nat),i<Xm a->SM (QxX a i))/\SM b
def QcV:Arr:=DA
def Hg(a:Arr)(b:Nat):Arr:=List.getD (QcT a) b QcV
def QPR(a:Arr)(b:Nat):List Int:=Arr.sh (Hg a b)
def QPS(a:Arr)(b:Nat):List Int:=Arr.nu (Hg a b)
def QxZ(a:Arr)(b:Nat):List Arr:=Arr.it (Hg a b)
def Hh(a:Arr)(b:Nat):List D:=[ZI (Arr.k (Hg a b)),SI (QPR a b),SI (QPS a b),D.sl N4 (LN (QxZ a b)) (fun i=>Arr.row (List.getD (QxZ a b) i QcV)) Mode.any]
def Qjx:Prop:=SM N0/\(∀(i:Nat),i<N0->Cw (List D) [] [])/\True
def Qx0(a:Arr)(b:Nat):Prop:=SM (Hh a b)
def Qx1(a b:Nat)(c:Arr):Prop:=SM a/\(SM Z0/\Qjx/\Qjx/\Qjx/\True)/\SM b/\(QcU c/\(SM (Yg c)/\(∀(i:Nat),i<Yg c->SM (Hf c i))/\True)/\(SM (Yh c)/\(∀(i:Nat),i<Yh c->SM (Hd c i))/\True)/\(SM (JT c)/\(∀(i:Nat),i<JT c->Qx0 c i)/\True)/\True)/\True
def QcW(a:Arr)(b:Nat):Arr:=List.getD (QcT a) (Int.toNat (↑b:Int)) QcV
def Qx2(a:Arr)(b:Nat):List Int:=Arr.sh (QcW a b)
def Qx3(a:Arr)(b:Nat):Nat:=LN (Qx2 a b)
def Qx4(a:Arr)(b:Nat):List Int:=Arr.nu (QcW a b)
def Qx5(a:Arr)(b:Nat):Nat:=LN (Qx4 a b)
def Qx6(a:Arr)(b:Nat):List Arr:=Arr.it (QcW a b)
def Qx7(a:Arr)(b:Nat):Nat:=LN (Qx6 a b)
def Qx8(a:Arr)(b:Nat):List D:=Arr.row (Hg a b)
def QPT(a:Nat)(b:Arr)(c:Nat):D:=D.sl N4 a (fun j=>Hh b j) (Mode.tok N2 c)
def Qx9(a b:Nat)(c:Arr)(d:Nat):Prop:=SM a/\SM (QPT b c d)
def Qya(a:Arr):D:=D.sl N1 (Yg a) (fun i=>Hf a i) Mode.any
def Qyb(a:Nat)(b:Arr)(c d e f:Nat):Prop:=He a b/\SM c/\∀(t:Nat),(∃(x:Nat×Nat),Qjw x.1 b/\(Z0=(NI x.1)/\True)/\(SM c/\(QcU b/\QxW b d/\QxY b e/\(N0=x.1/\(∀(i:Nat),i<N0->Cw (List D) [] (Hh b i))/\t=x.2)/\True)/\Qx1 f a b)/\t=x.2/\True)/\∀(x:Nat×Nat),Qjw x.1 b->SM a/\ifB (decide ((NI x.1)<(NI (JT b)))) (SM c/\SM a/\Be (Z0<=(NI x.1)/\(NI x.1)<(NI (JT b))) (∃(x_1:Arr),((Arr.k (QcW b x.1)=Qjv x_1/\(Qx3 b x.1=Yg x_1/\(∀(i:Nat),i<Qx3 b x.1->[ZI (GI (Qx2 b x.1) i)]=Hf x_1 i)/\True)/\(Qx5 b x.1=Yh x_1/\(∀(i:Nat),i<Qx5 b x.1->[ZI (GI (Qx4 b x.1) i)]=Hd x_1 i)/\True)/\(Qx7 b x.1=JT x_1/\(∀(i:Nat),i<Qx7 b x.1->Arr.row (List.getD (Qx6 b x.1) i QcV)=Qx8 x_1 i)/\True)/\True)/\True)/\(True/\True)/\x_1∈QcT b/\∀(y:Unit),True->Qx9 c x.1 b x.2/\Qx9 c x.1 b x.2/\SM x.2/\Be ((x.1+N1)*80<=140737488355328/\x.1+N1<=9223372036854775807) (∀(t:Nat),SM c/\(SM (D.ref N0 a N0)/\SM (D.ref (max (N0+N1) N0) f N0)/\SM (D.ref (max N2 (max (N0+N1) N0)+nat_lit 9) c N0)/\True)/\∃(y:Nat×Nat),Qjw y.1 b/\JT b-y.1<JT b-x.1/\(IntKind.wrap IntKind.i64 ((NI x.1)+Z1)=(NI y.1)/\True)/\(SM c/\(QcU b/\QxW b d/\QxY b e/\(x.1+N1=y.1/\(∀(i:Nat),i<x.1+N1->BM x.1 (fun j=>Hh b j) (fun i=>List.getD [[QxT x_1,Qya x_1,QxS x_1,D.sl N4 (JT x_1) (fun i=>Qx8 x_1 i) Mode.any]] i []) i=Hh b i)/\t=y.2)/\True)/\Qx1 f a b)/\t=y.2/\True))) (SM c/\SM f/\(SM f/\True)/\∃(y:Unit),True/\(QcU b/\(Xl b=Yg b/\(∀(i:Nat),i<Xl b->QxV b i=Hf b i)/\True)/\(Xm b=Yh b/\(∀(i:Nat),i<Xm b->QxX b i=Hd b i)/\True)/\(x.1=JT b/\(∀(i:Nat),i<x.1->Qx0 b i)/\True)/\True)/\True/\True)
def Qyc(a:Nat)(b:Arr)(c d e:Nat):Prop:=Qju a b/\He a b/\Be (QxU b<=140737488355328/\Xm b<=9223372036854775807) (∀(t:Nat),Qyb a b c d t e)
theorem Bm8(a : Arr)(ha : a.nu.length <= 1000000 /\ a.it.length <= 1000000 /\ a.sh.length <= 1000000)(hc : ConOk Tryz.prog (BfU a.it)) :
    ACalls Tryz.prog 173 ((sCl Arr.row2 Arr.row2 (fun _ => True)).args a) ⟨[],[]⟩ (SpecR (sCl Arr.row2 Arr.row2 (fun _ => True)) a) := by
  refine Bh (A := sCl Arr.row2 Arr.row2 (fun _ => True)) (x := a) (E := Ec2 a) (eOk hc rfl) Tryz.func173 rfl (by kernel_rfl) rfl (by simp [sCl,Ec2,EC,E0]) ?_
  refine Bj (T :=
    ∀ (x:Nat),True->∀ (x_1:Nat),x ≠ x_1/\True->SM x/\SM x/\SM x/\Be (QxR a <= (140737488355328:Nat)/\Xl a <= (9223372036854775807:Nat)) (∀ (t:Nat),Qju x a/\He x a/\Be (QxU a <= (140737488355328:Nat)/\Xm a <= (9223372036854775807:Nat)) (∀ (t_1:Nat),He x a/\∀ (x_2:Nat),x_1 ≠ x_2/\x ≠ x_2/\True->Qyb x a x_2 t t_1 x_1)/\∀ (x_2:Nat),x_1 ≠ x_2/\x ≠ x_2/\True->Qyc x a x_2 t x_1)/\∀ (x_2:Nat),x_1 ≠ x_2/\x ≠ x_2/\True->Qju x a/\(SM x/\SM (Qya a))/\He x a/\Be (QxR a <= (140737488355328:Nat)/\Xl a <= (9223372036854775807:Nat)) (∀ (t:Nat),Qyc x a x_2 t x_1)) (by kernel_rfl) ?_
  delta DA GI LN N0 N1 N2 N4 NI SI SM Z0 Z1 ZI Yg Xl Xm QxU QcT JT Qjw QcU Hf QxV QxW QxX QxR QxY QcV Hg QPR QPS QxZ Hh Qjx Qx0 Qx1 Yh QcW Qx2 Qx3 Qx4 Qx5 Qx6 Qx7 Qx8 QPT Qx9 Hd Qya Qyb Qyc QxS Qju Qjv QxT He
  have da:(default:Arr) = Arr.mk 0 [] [] [] := rfl
  simp only [<- da,eq_self,implies_true,Int.toNat_natCast,Bf,Bc,decide_eq_true_eq,decide_eq_false_iff_not,true_and,and_true,exists_const,forall_const]
  obtain ⟨l1,l2,l3⟩ := ha
  repeat' (first | (rintro ⟨j,t⟩ (hj:j <= a.it.length)) | intro _ | refine And.intro ?_ ?_)
  all_goals try simp only at *
  all_goals first
    | omega
    | exact ⟨(0,_),Nat.zero_le _,rfl,⟨rfl,fun i hi => absurd hi (Nat.not_lt_zero _),rfl⟩,rfl⟩
    | exact ⟨a.it.getD j default,⟨rfl,⟨rfl,fun _ _ => rfl⟩,⟨rfl,fun _ _ => rfl⟩,rfl,fun _ _ => rfl⟩,Cf (by omega),⟨by omega,by omega⟩,fun t2 => ⟨(j + 1,t2),by simp only; omega,by simp only; omega,Bb (by omega) (by omega),⟨rfl,Boo (g := Arr.row1) default,rfl⟩,rfl⟩⟩
    | (simp [BM]; done)
    | (have e : j = a.it.length := by omega
       subst e; rfl)
    | trace_state
  done
theorem Bl7:∀(a:Arr),(Bu a).1=0->ACalls Tryz.prog 173 [.agg a.row1] ⟨[],[]⟩ (SpecR (sCl Arr.row1 Arr.row1 (fun _=>True)) a)
 |.mk k s n is,h=>by
  obtain ⟨h1,h2,h3,h4⟩:=EN h
  have hc:ConOk Tryz.prog (BfU (Arr.mk k s n is).it):=by
   intro k' ds S A hk
   unfold BfU at hk
   split at hk
   ·injection hk with hk;subst hk
    refine ConOk.plain (fun (b:Arr) hb=>?_) rfl rfl
    have hb':b∈is:=hb
    exact (Bl7 b (h4 b hb')).mono fun _ _ ⟨y,q1,q2,q3⟩=>⟨y,q1,q2,q3⟩
   ·cases hk
  have hm:=Bm8 (.mk k s n is) ⟨by show n.length<=_;omega,by show is.length<=_;omega,by show s.length<=_;omega⟩ hc
  have hm2:ACalls Tryz.prog 173 [.agg (Arr.mk k s n is).row1] ⟨[],[]⟩ (SpecR (sCl Arr.row2 Arr.row2 (fun _=>True)) (.mk k s n is)):=by
   refine ACalls.wkArgs hm ?_
   simp only[sCl,wkL,wkD]
   exact⟨GS _,trivial⟩
  refine ACalls.wkEnd hm2 fun r S' ⟨y,q1,q2,q3⟩=>?_
  subst q2 q3
  refine⟨.ret (.agg (Arr.mk k s n is).row1),fun C e he=>?_,⟨(),trivial,rfl,rfl⟩⟩
  cases e with
  |returned v =>
   refine IX (.agg (Arr.mk k s n is).row2) _ ?_ C v he
   simp only[wkD]
   exact Tz _
  |panicked _=>exact he.elim
  |outgrown=>exact he.elim
termination_by a=>SizeOf.sizeOf a
decreasing_by
 have:=List.sizeOf_lt_of_mem hb'
 simp;omega
def RCl(a:Arr):Prop:=ACalls Tryz.prog 173 [.agg a.row1] ⟨[],[]⟩ (SpecR (sCl Arr.row1 Arr.row1 (fun _=>True)) a)
theorem BlO{its:List Arr}(h:∀b∈its,RCl b):ConOk Tryz.prog (BdG its):=by
 intro k' ds S A hk
 unfold BdG at hk
 split at hk
 ·injection hk with hk;subst hk
  exact ConOk.plain (fun (b:Arr) hb=>(h b hb).mono fun _ _ ⟨y,q1,q2,q3⟩=>⟨y,q1,q2,q3⟩) rfl rfl
 ·exact OI _ _ _ _ hk
theorem RS(hcl:∀b:Arr,(Bu b).1=0->RCl b):∀(a:Arr),a.ok->(Bu a).1=0->RLit a
 |.mk k s n is,ho,h=>by
  have lo:=BeH ho h
  have hv:=(EN h).2.2.2
  have hok:∀b∈is,b.ok:=by
   simp only[Arr.ok] at ho
   exact (E2 _).1 ho.2.2.2.2.2.2
  have ih:∀b∈is,RLit b:=fun b hb=>RS hcl b (hok b hb) (hv b hb)
  refine Ue (Ub (.mk k s n is) lo (WX lo ih (rfs lo.kd) (fun h1=>?_) (fun _=>BlO fun b hb=>hcl b (hv b hb)) (fun h1 _=>Bhq lo ih (rfs lo.kd) h1)))
  have hsub:∀c∈(atA (.mk k s n is) 0).it,c∈is:=by
   intro c hc
   unfold atA at hc
   by_cases h3:(Arr.mk k s n is).k=3
   ·rw[if_pos h3] at hc
    have h2:is.length=1:=by
     have h4:n=[]:=lo.bx h3
     have h1:n.length+is.length=1:=h1
     rw[h4] at h1;simpa using h1
    have:c=is.getD 0 default:=List.mem_singleton.1 hc
    rw[this];exact Cf (by omega)
   ·rw[if_neg h3] at hc;cases hc
  have lo':=BiL lo h1
  refine W5 lo' (lo'.sc ?_) (fun c hc=>ih c (hsub c hc))
  unfold atA
  split<;>rfl
termination_by a=>SizeOf.sizeOf a
decreasing_by
 have:=List.sizeOf_lt_of_mem hb
 simp;omega
theorem BlX(a:Arr)(ho:a.ok)(h:(Bu a).1=0):RLit a:=RS (fun b hb=>Bl7 b hb) a ho h
def Be8(a:Arr):Con:=fun k _ _=>match k with
 |107=>some (sRc Arr.row1 (fun b=>b=a) Blm)
 |159=>some (sRc Arr.row1 (fun b=>b=a/\(Bu a).1=0) (fun b=>.str (Bx b)))
 |_=>none
theorem BgQ{a:Arr}(ho:a.ok):ConOk Tryz.prog (Be8 a):=by
 intro k ds S A h
 unfold Be8 at h
 split at h
 ·injection h with h;subst h
  refine ConOk.plain (fun b hb=>?_) rfl rfl
  have hb:b=a:=hb
  rw[hb]
  exact Em (Bln a ho)
 ·injection h with h;subst h
  refine ConOk.plain (fun b hb=>?_) rfl rfl
  obtain ⟨hb,h1⟩:b=a/\(Bu a).1=0:=hb
  rw[hb]
  exact Em (BlX a ho h1)
 ·cases h
noncomputable def Ertl(a:Arr):Senv:=EC (Be8 a) 8 3 [5] (fun _=>([],[]))
def Qjy(a:Arr):Nat:=LN (Arr.sh a)
def Qyd(a:Arr)(b:Nat):List D:=[ZI (GI (Arr.sh a) b)]
def Qjz(a:Arr):Nat:=LN (Arr.nu a)
def Qye(a:Arr)(b:Nat):List D:=[ZI (GI (Arr.nu a) b)]
def QjA(a:Arr):Nat:=LN (Arr.it a)
def Qyf(a:Arr)(b:Nat):List D:=Arr.row (GA (Arr.it a) b)
def Qyg(a b:Arr):Prop:=(Arr.k a=Arr.k b/\(Qjy a=Qjy b/\(∀(i:Nat),i<Qjy a->Qyd a i=Qyd b i)/\True)/\(Qjz a=Qjz b/\(∀(i:Nat),i<Qjz a->Qye a i=Qye b i)/\True)/\(QjA a=QjA b/\(∀(i:Nat),i<QjA a->Qyf a i=Qyf b i)/\True)/\True)/\True
theorem Bk4(a : Arr)(ho : a.ok) :
  ACalls Tryz.prog 149 ((sRc Arr.row1 (fun _=>True) (fun b=>.str (GN b))).args a) ⟨[],[]⟩ (SpecR (sRc Arr.row1 (fun _=>True) (fun b=>.str (GN b))) a):=by
 refine Bh (A:=sRc Arr.row1 (fun _=>True) (fun b=>.str (GN b))) (x:=a) (E:=Ertl a) (eOk (BgQ ho) rfl) Tryz.func149 rfl (by kernel_rfl) rfl (by simp[sRc,Ertl,EC,E0]) ?_
 refine Bj (T :=
  ∀(x:Nat),True->SM x/\∃(x_1:Arr),Qyg a x_1/\(True/\True)/\x_1=a/\∀(y:Unit),True->ifB (Prod.fst (Bu x_1) != Z0) (RT (Cw (List UInt8) [] (GN a))) (SM x/\∃(x:Arr),Qyg a x/\(True/\True)/\(x=a/\Prod.fst (Bu a)=Z0)/\∀(y:Unit),True->RT (Bx x=GN a))) (by kernel_rfl) ?_
 delta DA GA GI LN SM Z0 ZI Qjy Qyd Qjz Qye QjA Qyf Qyg RT
 have da:(default:Arr)=Arr.mk 0 [] [] []:=rfl
 simp only[<- da,Bf,Bc,decide_eq_true_eq,decide_eq_false_iff_not,true_and,and_true,beq_iff_eq,bne_iff_ne,Bool.cond_false_right,Bool.cond_true_left,Bool.and_eq_true,Bool.and_eq_false_iff,Bool.or_eq_true,Bool.or_eq_false_iff,beq_eq_false_iff_ne,ne_eq,exists_const,forall_const,Int.toNat_natCast,BR]
 refine⟨a,⟨rfl,⟨rfl,fun _ _=>rfl⟩,⟨rfl,fun _ _=>rfl⟩,rfl,fun _ _=>rfl⟩,rfl,fun h=>by rw[GN,if_neg h],fun h=>?_⟩
 have h:(Bu a).1=0:=by simpa using h
 exact⟨a,⟨rfl,⟨rfl,fun _ _=>rfl⟩,⟨rfl,fun _ _=>rfl⟩,rfl,fun _ _=>rfl⟩,⟨rfl,h⟩,by rw[GN,if_pos h]⟩
noncomputable def Eidk(l:List Int)(v:Int):Senv:={ EC Ex 19 2 [4,5,7,8,9,16] (fun _=>([],[])) with
 ann:=fun b _ _=>match b with
  |0=>some (BoU (fun d=>v==d) l [0,1,6,7])
  |_=>none }
def QjB(a:Int)(b:List Int)(c:Nat):Prop:=IdxHead (fun (d:Int)=>a==d) b c
def QPU(a:List Int):D:=SI a
theorem Boi(l:List Int)(v:Int)(hl:l.length<=maxLen):CD 142 [isl l .any,.int .i64 v] (.int .i64 (If (fun d=>v==d) l 0)):=by
 refine Bh (A:=sC _ _) (x:=()) (E:=Eidk l v) (eOk BL rfl) Tryz.func142 rfl (by kernel_rfl) rfl (by simp[sC,Eidk,EC,E0]) ?_
 refine Bj (T :=
  (∃(x:Nat),QjB v l x/\(Z0=(↑x:Int)/\True)/\True/\True)/\∀(x:Nat),QjB v l x->ifB (decide ((↑x:Int)<(LI l))) (Be (Z0<=(↑x:Int)/\(↑x:Int)<(LI l)) (ifB (v==GI l (Int.toNat (↑x:Int))) (RT ((↑x:Int)=If (fun (d:Int)=>v==d) l N0)) ((SM (QPU l)/\SM (ZI v)/\SM D.unk/\SM (ZI (LI l))/\True)/\∃(y:Nat),QjB v l y/\LN l-y<LN l-x/\(IntKind.wrap IntKind.i64 ((↑x:Int)+Z1)=(↑y:Int)/\True)/\True/\True))) (RT ((-1:Int)=If (fun (d:Int)=>v==d) l N0))) (by kernel_rfl) ?_
 delta GI LI LN N0 N1 SI SM Z0 Z1 ZI QjB QPU RT
 simp only[Int.toNat_natCast,Bf,Bc,decide_eq_true_eq,decide_eq_false_iff_not,true_and,and_true,exists_const]
 simp only[maxLen] at hl
 refine⟨⟨0,⟨Nat.zero_le _,by simp⟩,rfl⟩,fun i hh=>⟨fun hlt=>?_,fun hge=>(hh.done hge).symm⟩⟩
 have hlt':i<l.length:=by omega
 obtain ⟨s1,s2⟩:=hh.step hlt'
 exact⟨by omega,fun h=>(s1 h).symm,fun h=>⟨i+1,s2 h,by omega,Bb (by omega) (by omega)⟩⟩
noncomputable def BlK(l:List Int)(v:Int):Con:=fun k ds S=>match k with
 |142=>some (pA ds S (.int .i64 (If (fun d=>v==d) l 0)) (wkL ds [isl l .any,.int .i64 v]))
 |_=>none
noncomputable def Ectk(l:List Int)(v:Int):Senv:=EC (BlK l v) 9 2 [4] (fun _=>([],[]))
def Qyh(a:List Int)(b:Int):List D:=[SI a,ZI b]
theorem Bpi(l:List Int)(v:Int)(hl:l.length<=maxLen):CD 122 [isl l .any,.int .i64 v] (.bool (l.contains v)):=by
 refine Bh (A:=sC _ _) (x:=()) (E:=Ectk l v) (eOk ?_ rfl) Tryz.func122 rfl (by kernel_rfl) rfl (by simp[sC,Ectk,EC,E0]) ?_
 ·intro k ds S A hh
  try unfold BlK at hh
  try dsimp only at hh
  split at hh
  ·injection hh with hh;subst hh
   exact Bo fun e=>CD.at_ (CD.wk (Boi l v hl) e) _
  ·cases hh
 refine Bj (T :=
  ∃(x:Unit),wkL (Qyh l v) (Qyh l v)/\∀(y:Unit),True->RT (decide (Z0<=If (fun (d:Int)=>v==d) l N0)=List.contains l v)) (by kernel_rfl) ?_
 delta GI LN N0 N1 SI Z0 ZI Qyh RT
 simp only[eq_self,ne_eq,implies_true,Ba,Int.toNat_natCast,Bf,Bc,decide_eq_true_eq,decide_eq_false_iff_not,true_and,and_true,beq_iff_eq,bne_iff_ne,bne_eq_false_iff_eq,beq_eq_false_iff_ne,Bool.not_eq_true',Bool.not_eq_false',exists_const,forall_const,Prod.exists]
 have e:=GG (fun d=>v==d) l 0
 have e2:(l.any fun d=>v==d)=l.contains v:=by rw[Bool.eq_iff_iff,List.any_eq_true,List.contains_eq_mem,decide_eq_true_eq];simp
 rw[e2] at e
 first
  |exact⟨Bg _,e⟩
  |exact⟨Bg _,e,fun _ _=>trivial⟩
def RShow(n:Nd):Prop:=CD 84 [.agg n.row2] (.str (Bt n))/\(Bt n).length<=20000000000000
def Boa(n:Nd):Con:=fun k ds S=>match k with
 |84=>some (pA ds S (.str (Bt n)) (isN n ds []))
 |122=>match ds with
  | [.sl 1 m f _,.int .i64 v]=>some (pA ds S (.bool ((Bk m f).contains v)) (wkL ds [isl (Bk m f) .any,.int .i64 v]/\m<=maxLen))
  |_=>none
 |_=>none
noncomputable def Ewi(n:Nd):Senv:=EC (Boa n) 15 3 [4,8] (fun _=>([],[]))
def Qyi(a:List Int):List Int:=Bk (LN a) fun i=>[ZI (GI a i)]
def Qyl(a:Nd):Prop:=isN a [D.agg (Nd.rowE a)] []
def QcY(a:Nd):List UInt8:=Bt a
theorem Bqb(n:Nd)(ks:List Int)(hn:RShow n)(hk:ks.length<=maxLen):CD 101 [.agg n.row1,isl ks .any] (.str (BB ks n)):=by
 refine Bh (A:=sC _ _) (x:=()) (E:=Ewi n) (eOk ?_ rfl) Tryz.func101 rfl (by kernel_rfl) rfl (by simp[sC,Ewi,EC,E0]) ?_
 ·intro k ds S A hh
  try unfold Boa at hh
  try dsimp only at hh
  split at hh
  ·injection hh with hh;subst hh
   exact Bo fun e=>CD.at_ (CD.isN hn.1 e) _
  ·split at hh
   ·injection hh with hh;subst hh
    exact Bo fun ⟨e,hm⟩=>CD.at_ (CD.wk (Bpi _ _ (by rw[BJ];exact hm)) e) _
   ·cases hh
  ·cases hh
 refine Bj (T :=
  ∀(x:Nat),True->SM x/\∃(x_1:Unit),(wkL [SI ks,ZI (Nd.kd n)] [SI (Qyi ks),ZI (Nd.kd n)]/\LN ks<=9223372036854775807)/\∀(y:Unit),True->ifB (List.contains (Qyi ks) (Nd.kd n)) (SM x/\∃(x:Unit),Qyl n/\∀(y:Unit),True->Be (N2+LN (QcY n)<=9223372036854775807) (Be (LN ((40:UInt8)::(32:UInt8)::List.append [] (QcY n))+N2<=9223372036854775807) (RT ((40:UInt8)::(32:UInt8)::List.append (List.append [] (QcY n)) [(32:UInt8),(41:UInt8)]=BB ks n)))) (SM x/\∃(x:Unit),Qyl n/\∀(y:Unit),True->RT (QcY n=BB ks n))) (by kernel_rfl) ?_
 delta DA GI LN N1 N2 N4 SI SM Z0 ZI Qyl QcY Qyi RT
 try simp only[<- dm]
 try simp only[<- dn]
 simp only[eq_self,ne_eq,implies_true,Ba,Int.toNat_natCast,Bf,Bc,decide_eq_true_eq,decide_eq_false_iff_not,true_and,and_true,beq_iff_eq,bne_iff_ne,bne_eq_false_iff_eq,beq_eq_false_iff_ne,Bool.not_eq_true',Bool.not_eq_false',exists_const,forall_const,Prod.exists]
 simp only[BR]
 have hl:=hn.2
 unfold maxLen at hk
 refine⟨⟨Bg _,hk⟩,fun h=>⟨Bl _ _,by omega,?_,?_⟩,fun h=>⟨Bl _ _,?_⟩⟩
 ·simp only[List.length_cons,List.append_eq,List.nil_append];omega
 ·unfold BB Ee;rw[if_pos h];rfl
 ·unfold BB Ee;rw[if_neg (by rw[h];exact Bool.false_ne_true)]
def BaE(q:Nd->Prop):Con:=fun k ds S=>match k with
 |101=>match ds with
  | [_,.sl 1 m f _]=>some (pE (β:=Nd) ds S (fun b=>.str (BB (Bk m f) b)) (fun b=>wkL ds [.agg b.row1,isl (Bk m f) .any]/\m<=maxLen/\q b))
  |_=>none
 |84=>some (pE (β:=Nd) ds S (fun b=>.str (Bt b)) (fun b=>isN b ds []/\q b))
 |k=>OG k ds S
theorem OY{q:Nd->Prop}(h:∀b,q b->RShow b):ConOk Tryz.prog (BaE q):=by
 intro k ds S A hh
 unfold BaE at hh
 split at hh
 ·split at hh
  ·injection hh with hh;subst hh
   exact Cn fun b ⟨e,hm,hb⟩=>CD.at_ (CD.wk (Bqb b _ (h b hb) (by rw[BJ];exact hm)) e) _
  ·cases hh
 ·injection hh with hh;subst hh
  exact Cn fun b ⟨e,hb⟩=>CD.at_ (CD.isN (h b hb).1 e) _
 ·exact Ii _ _ _ _ hh
noncomputable def Ewd(q:Nd->Prop)(l:List Nd)(ks:List Int):Senv:={ EC (BaE q) 23 2 [4,5,7,8,9,10,11] (fun _=>([],[])) with
 gh:=fun b=>match b with
  |0=>[.slot 5]
  |_=>[]
 ann:=fun b _ S=>match b with
  |0=>some { slots:=[10,5],keep:=[0,1,8,9],α:=Nat×Nat×List (List UInt8),st:=fun y=>([.int .i64 y.1,ssl y.2.2 (.tok 0 y.2.1)],⟨S.objs,[(0,y.2.1)]⟩),inv:=fun y=>y.1<=l.length/\y.2.2=(l.take y.1).map (BB ks),mu:=fun y=>l.length-y.1 }
  |_=>none }
def QjD(a:Nat)(b:List Nd)(c:List (List UInt8))(d:List Int):Prop:=a<=LN b/\c=List.map (BB d) (List.take a b)
def Hi(a:List (List UInt8))(b:Nat):List D:=[D.str (List.getD a b [])]
def QcZ:Arr:=DA
def Xn:Nd:=Nd.mk Z0 Z0 Z0 [] Z0 Z0 QcZ [] [] Z0 Z0 Z0
def Ko(a:List Nd)(b:Nat):Nd:=List.getD a (Int.toNat (↑b:Int)) Xn
def Qyp(a:List Int):D:=SI a
def Qyr(a:List Int):List Int:=Bk (LN a) fun i=>[ZI (GI a i)]
def Kp(a:List Nd)(b:Nat):Nd:=List.getD a b Xn
def QP3(a:List Nd):D:=D.sl 15 (LN a) (fun i=>(Nd.rowE (Kp a i))) Mode.any
def Qyv(a:List Nd):Prop:=SM (QP3 a)
def Qyw(a:List (List UInt8)):List (List UInt8):=B6 (LN a) fun i=>Hi a i
theorem Bqs(q : Nd -> Prop)(l : List Nd)(ks : List Int)(h : ∀b, q b -> RShow b)(hq : ∀b∈l, q b)(hl : l.length<=1000000)(hk : ks.length<=maxLen)(hj : (Lib.join (l.map (BB ks)) [32]).length<=20000000000000) :
  CD 100 [gsl 15 Nd.row1 l,isl ks .any] (.str (Lib.join (l.map (BB ks)) [32])):=by
 refine Bh (A:=sC _ _) (x:=()) (E:=Ewd q l ks) (eOk (OY h) rfl) Tryz.func100 rfl (by kernel_rfl) rfl (by simp[sC,Ewd,EC,E0]) ?_
 refine Bj (T :=
  ∀(t:Nat),(∃(x:Nat×Nat×List (List UInt8)),QjD x.1 l x.2.2 ks/\(Z0=(NI x.1)/\(N0=LN x.2.2/\(∀(i:Nat),i<N0->Cw (List D) [] (Hi x.2.2 i))/\t=x.2.1)/\True)/\True/\t=x.2.1/\True)/\∀(x:Nat×Nat×List (List UInt8)),QjD x.1 l x.2.2 ks->ifB (decide ((NI x.1)<(LI l))) (Be (Z0<=(NI x.1)/\(NI x.1)<(LI l)) (∀(x_1:Nat),True->SM x_1/\SM x_1/\∃(x_2:Nd),(wkL [D.agg (Nd.rowE (Ko l x.1)),Qyp ks] [D.agg (Nd.rowE x_2),SI (Qyr ks)]/\LN ks<=9223372036854775807/\q x_2)/\∀(y:Unit),True->SM x.2.1/\Be ((LN x.2.2+N1)*16<=140737488355328/\LN x.2.2+N1<=9223372036854775807) (∀(t:Nat),(Qyv l/\SM (Qyp ks)/\Qyv l/\SM (ZI (LI l))/\True)/\∃(y:Nat×Nat×List (List UInt8)),QjD y.1 l y.2.2 ks/\LN l-y.1<LN l-x.1/\(IntKind.wrap IntKind.i64 ((NI x.1)+Z1)=(NI y.1)/\(LN x.2.2+N1=LN y.2.2/\(∀(i:Nat),i<LN x.2.2+N1->BM (LN x.2.2) (fun i=>Hi x.2.2 i) (fun i=>[D.str (List.getD [BB (Qyr ks) x_2] i [])]) i=Hi y.2.2 i)/\t=y.2.1)/\True)/\True/\t=y.2.1/\True))) (((Gz (LN x.2.2) fun i=>Hi x.2.2 i)=true/\GH (Qyw x.2.2) [(32:UInt8)])/\∀(y:Unit),True->RT (Lib.join (Qyw x.2.2) [(32:UInt8)]=Lib.join (List.map (BB ks) l) [(32:UInt8)]))) (by kernel_rfl) ?_
 delta DA GI LI LN N0 N1 N4 NI SI SM Z0 Z1 ZI QjD Hi QcZ Xn Ko Qyp Qyr Kp QP3 Qyv Qyw RT
 try simp only[<- dm]
 try simp only[<- dn]
 simp only[eq_self,ne_eq,implies_true,Ba,Int.toNat_natCast,Bf,Bc,decide_eq_true_eq,decide_eq_false_iff_not,true_and,and_true,beq_iff_eq,bne_iff_ne,bne_eq_false_iff_eq,beq_eq_false_iff_ne,Bool.not_eq_true',Bool.not_eq_false',exists_const,forall_const,Prod.exists]
 simp only[BR]
 unfold maxLen at hk
 refine fun t=>⟨⟨0,t,[],⟨Nat.zero_le _,rfl⟩,⟨rfl,rfl,fun i hi=>absurd hi (Nat.not_lt_zero _),rfl⟩,rfl⟩,?_⟩
 rintro ⟨i,tk,out⟩ ⟨hi,ho⟩
 simp only at hi ho ⊢
 have hlen:out.length=i:=by rw[ho,List.length_map,List.length_take];omega
 refine⟨fun hlt=>?_,fun hge=>?_⟩
 ·have hlt':i<l.length:=by omega
  refine⟨⟨by omega,hlt⟩,l.getD i default,⟨Bg _,hk,hq _ (B0 hlt')⟩,⟨by omega,by omega⟩,fun t2=>⟨i+1,t2,out++[BB ks (l.getD i default)],⟨hlt',?_⟩,by omega,⟨?_,by simp,fun j hj=>Tk j hj,rfl⟩,rfl⟩⟩
  ·rw[B5 hlt',List.map_append,ho];rfl
  ·rw[Bb (by omega) (by omega)];rfl
 ·have e:i=l.length:=by omega
  rw[e,List.take_length] at ho
  have e1:B6 out.length (fun i=>[D.str (out.getD i [])])=out:=M1 rfl fun _ _=>rfl
  have e2:Gz out.length (fun i=>[D.str (out.getD i [])])=true:=O5 rfl fun _ _=>rfl
  rw[e1,ho]
  rw[ho] at e2
  refine⟨⟨?_,?_,?_⟩,rfl⟩
  ·exact e2
  ·rw[List.length_map];omega
  ·omega
noncomputable def Estm(q:Nd->Prop):Senv:=EC (BaE q) 27 3 [4,5,14] (fun id=>match id with | 3=>([0,1,2,3,4,5,6,7],[5]) | 5=>([0,1,4,5,2,3,6,7,8],[2,6]) | _=>([],[]))
def QjF(a:Sm):List UInt8:=Sm.nm a
def Kq(a:Sm):Nd:=Sm.nd a
def QyB(a:Sm):D:=D.agg (Nd.rowE (Kq a))
def QjH(a:Nd)(b:Sm)(c:Nd->Prop):Prop:=isN a [QyB b] []/\c a
def QyC(a:Sm):List UInt8:=QjF a++[32,60,45,32]
def Hj(a:Nd):List UInt8:=Bt a
def QjI(a:Nd):Nat:=LN (Hj a)
def QjJ(a:Sm):List UInt8:=B3 a
def Kr(a:Sm):Nd:=Sm.te a
def QyG(a:Nd):List UInt8:=Hj a++[32,58,32]
theorem Bpp(q:Nd->Prop)(s:Sm)(h:∀b,q b->RShow b)(h1:q s.nd)(h2:s.kd=3->q s.te)(hn:s.nm.length<=BC):CD 103 [.agg s.row1] (.str (B3 s)):=by
 refine Bh (A:=sC _ _) (x:=()) (E:=Estm q) (eOk (OY h) rfl) Tryz.func103 rfl (by kernel_rfl) rfl (by simp[sC,Estm,EC,E0]) ?_
 refine Bj (T :=
  ∀(x:Nat),True->SM x/\ifB (Sm.kd s==2) (SM x/\Be (LN (QjF s)+N4<=9223372036854775807) (SM x/\∃(x_1:Nd),QjH x_1 s q/\∀(y:Unit),True->(SM x/\SM (D.str (QjF s)))/\Be (LN (QyC s)+QjI x_1<=9223372036854775807) (RT (QyC s++Hj x_1=QjJ s)))) (ifB (Sm.kd s==3) (SM x/\SM x/\∃(x_1:Nd),(isN x_1 [D.agg (Nd.rowE (Kr s))] []/\q x_1)/\∀(y:Unit),True->(SM x/\SM (QyB s))/\Be (QjI x_1+3<=9223372036854775807) (∃(x:Nd),QjH x s q/\∀(y:Unit),True->Be (LN (QyG x_1)+QjI x<=9223372036854775807) (RT (QyG x_1++Hj x=QjJ s)))) (SM x/\∃(x:Nd),QjH x s q/\∀(y:Unit),True->RT (Hj x=QjJ s)))) (by kernel_rfl) ?_
 delta DA GI LN N1 N4 SI SM Z0 ZI QjF Kq QyB QjH QyC Hj QjI QjJ Kr QyG RT
 try simp only[<- dm]
 try simp only[<- dn]
 simp only[eq_self,ne_eq,implies_true,Ba,Int.toNat_natCast,Bf,Bc,decide_eq_true_eq,decide_eq_false_iff_not,true_and,and_true,beq_iff_eq,bne_iff_ne,bne_eq_false_iff_eq,beq_eq_false_iff_ne,Bool.not_eq_true',Bool.not_eq_false',exists_const,forall_const,Prod.exists]
 unfold BC at hn
 have l1:=(h _ h1).2
 rw[OJ]
 refine⟨fun a=>⟨by omega,s.nd,⟨Bl _ _,h1⟩,?_,?_⟩,fun a=>⟨fun b=>?_,fun b=>⟨s.nd,⟨Bl _ _,h1⟩,?_⟩⟩⟩
 ·simp only[List.length_append,List.length_cons,List.length_nil];omega
 ·rw[if_pos a]
 ·have l2:=(h _ (h2 b)).2
  refine⟨s.te,⟨Bl _ _,h2 b⟩,by omega,s.nd,⟨Bl _ _,h1⟩,?_,?_⟩
  ·simp only[List.length_append,List.length_cons,List.length_nil];omega
  ·rw[if_neg a,if_pos b]
 ·rw[if_neg a,if_neg b]
def O6(n:Nd):List UInt8 :=
 let x:=BB [16] (n.ki.getD 1 default)++[32]++Bt (n.ki.getD 0 default)
 if n.kd=15 then x++([32]++BB [3,4,5,16,14,15] (n.ki.getD 2 default)) else x
noncomputable def Edv(q:Nd->Prop):Senv:=EC (BaE q) 30 4 [19] (fun id=>match id with | 1=>([0,1,2,3,7,8,9,10,4,5,6,11,12,13],[4,5,11]) | _=>([],[]))
def Yi(a:Nd):List Nd:=Nd.ki a
def QjK(a:Nd):Int:=(LI (Yi a))
def Qc6:Arr:=DA
def Vb:Nd:=Nd.mk Z0 Z0 Z0 [] Z0 Z0 Qc6 [] [] Z0 Z0 Z0
def QP8(a:Nd):D:=D.sl 15 (LN (Yi a)) (fun i=>Nd.row1 (List.getD (Yi a) i Vb)) Mode.any
def QjL(a:Nat)(b:Nd):Prop:=SM a/\SM (QP8 b)
def Ks(a:Nd):Nd:=List.getD (Yi a) N1 Vb
def QyK:List Int:=Bk N1 fun i=>List.getD [[ZI 16]] i []
def QyL(a:Nd):List UInt8:=BB QyK a
def Kt(a:Nd):Nd:=List.getD (Yi a) N0 Vb
def QyP(a:Nd):List UInt8:=QyL a++[32]
def Ku(a:Nd):Nd:=List.getD (Yi a) N2 Vb
def QyT(a:Nat):List D:=List.getD [[ZI 3],[ZI 4],[ZI 5],[ZI 16],[ZI 14],[ZI 15]] a []
def QyU:List Int:=Bk N6 fun i=>QyT i
def QyV(a:Nd):List UInt8:=BB QyU a
def QjN(a b:Nd):List UInt8:=QyP a++Bt b
def QyW(a:Nd):List UInt8:=(32:UInt8)::List.append [] (QyV a)
theorem Bp4(q:Nd->Prop)(n:Nd)(h:∀b,q b->RShow b)(hq:∀b∈n.ki,q b)(h2:2<=n.ki.length)(h3:n.kd=15->n.ki.length=3):CD 102 [.agg n.row2] (.str (O6 n)):=by
 refine Bh (A:=sC _ _) (x:=()) (E:=Edv q) (eOk (OY h) rfl) Tryz.func102 rfl (by kernel_rfl) rfl (by simp[sC,Edv,EC,E0]) ?_
 refine Bj (T :=
  ∀(x:Nat),True->SM x/\Be (Z0<=Z1/\Z1<QjK n) (SM x/\Be (Z0<=Z0/\Z0<QjK n) (QjL x n/\QjL x n/\∃(x_1:Nd),(wkL [D.agg (Nd.rowE (Ks n)),D.sl N1 N1 (fun i=>List.getD [[ZI 16]] i []) Mode.full] [D.agg (Nd.row1 x_1),SI QyK]/\N1<=9223372036854775807/\q x_1)/\∀(y:Unit),True->QjL x n/\Be (LN (QyL x_1)+N1<=9223372036854775807) (∃(x_2:Nd),(isN x_2 [D.agg (Nd.rowE (Kt n))] []/\q x_2)/\∀(y:Unit),True->Be (LN (QyP x_1)+LN (Bt x_2)<=9223372036854775807) (SM x/\ifB (Nd.kd n==15) (SM x/\Be (Z0<=2/\(2:Int)<QjK n) (∃(x:Nd),(wkL [D.agg (Nd.rowE (Ku n)),D.sl N1 N6 (fun i=>QyT i) Mode.full] [D.agg (Nd.row1 x),SI QyU]/\N6<=9223372036854775807/\q x)/\∀(y:Unit),True->Be (N1+LN (QyV x)<=9223372036854775807) (Be (LN (QjN x_1 x_2)+LN (QyW x)<=9223372036854775807) (RT (QjN x_1 x_2++QyW x=O6 n))))) (RT (QjN x_1 x_2=O6 n))))))) (by kernel_rfl) ?_
 delta DA GI LI LN N0 N1 N2 N4 N6 SI SM Z0 Z1 ZI QyW Yi QjK Qc6 Vb QP8 QjL Ks QyK QyL Kt QyP Ku QyT QyU QyV QjN RT
 try simp only[<- dm]
 try simp only[<- dn]
 simp only[eq_self,ne_eq,implies_true,Ba,Int.toNat_natCast,Bf,Bc,decide_eq_true_eq,decide_eq_false_iff_not,true_and,and_true,beq_iff_eq,bne_iff_ne,bne_eq_false_iff_eq,beq_eq_false_iff_ne,Bool.not_eq_true',Bool.not_eq_false',exists_const,forall_const,Prod.exists]
 have i1:Bk 1 (fun i=>[[D.int IntKind.i64 16]].getD i [])=[16]:=rfl
 have i6:Bk 6 (fun i=>[[D.int IntKind.i64 3],[D.int IntKind.i64 4],[D.int IntKind.i64 5],[D.int IntKind.i64 16],[D.int IntKind.i64 14],[D.int IntKind.i64 15]].getD i [])=[3,4,5,16,14,15]:=rfl
 have p1:IntsP 1 (fun i=>[[D.int IntKind.i64 16]].getD i []):=fun i hi=>by
  match i,hi with
  |0,_=>rfl
 have p6:IntsP 6 (fun i=>[[D.int IntKind.i64 3],[D.int IntKind.i64 4],[D.int IntKind.i64 5],[D.int IntKind.i64 16],[D.int IntKind.i64 14],[D.int IntKind.i64 15]].getD i []):=fun i hi=>by
  match i,hi with
  |0,_=>rfl
  |1,_=>rfl
  |2,_=>rfl
  |3,_=>rfl
  |4,_=>rfl
  |5,_=>rfl
 have q0:=hq _ (B0 (l:=n.ki) (i:=0) (by omega))
 have q1:=hq _ (B0 (l:=n.ki) (i:=1) (by omega))
 have wl:∀(ks:List Int) (b:Nd),q b->(BB ks b).length<=20000000000004:=fun ks b hb=>by
  have h1:=CU ks b.kd (Bt b)
  have h2:=(h b hb).2
  unfold BB
  omega
 have r0:=(h _ q0).2
 have r1:=wl [16] _ q1
 refine⟨⟨by omega,by omega⟩,⟨by omega,by omega⟩,n.ki.getD 1 default,⟨Ck (r:=(n.ki.getD 1 default).row1) p1,by omega,q1⟩,?_,n.ki.getD 0 default,⟨Bl _ _,q0⟩,?_,fun hk=>?_,fun hk=>?_⟩
 ·rw[i1];omega
 ·rw[i1];simp only[List.length_append,List.length_cons,List.length_nil];omega
 ·have hl:=h3 hk
  have q2:=hq _ (B0 (l:=n.ki) (i:=2) (by omega))
  have r2:=wl [3,4,5,16,14,15] _ q2
  refine⟨⟨by omega,by omega⟩,n.ki.getD 2 default,⟨Ck (r:=(n.ki.getD 2 default).row1) p6,by omega,q2⟩,?_,?_,?_⟩
  ·rw[i6];omega
  ·rw[i1,i6];simp only[List.length_append,List.length_cons,List.length_nil,List.append_eq];omega
  ·rw[i1,i6]
   unfold O6
   rw[if_pos hk]
   rfl
 ·rw[i1]
  unfold O6
  rw[if_neg hk]
def Bfc(n:Nd)(q:Nd->Prop)(qs:Sm->Prop):Con:=fun k ds S=>match k with
 |99=>some (pA ds S (.str (GN n.va)) (wkL ds [.agg n.va.row1]))
 |77=>some (pA ds S (.str (Cg n.pr)) (wkL ds [.int .i64 n.pr]))
 |78=>some (pA ds S (.str (opT n.op)) (wkL ds [.int .i64 n.op]))
 |100=>match ds with
  | [_,.sl 1 m f _]=>some (pA ds S (.str (Lib.join (n.ki.map (BB (Bk m f))) [32])) (wkL ds [gsl 15 Nd.row1 n.ki,isl (Bk m f) .any]/\m<=maxLen/\n.ki.length<=1000000/\(Lib.join (n.ki.map (BB (Bk m f))) [32]).length<=20000000000000))
  |_=>none
 |102=>some (pA ds S (.str (O6 n)) (isN2 n ds []/\2<=n.ki.length/\(n.kd=15->n.ki.length=3)))
 |103=>some (pE (β:=Sm) ds S (fun s=>.str (B3 s)) (fun s=>isS s ds []/\qs s))
 |k=>BaE q k ds S
theorem Bib{n:Nd}{q:Nd->Prop}{qs:Sm->Prop}(ho:n.ok)(h:∀b,q b->RShow b)(hq:∀b∈n.ki,q b)(hs:∀s,qs s->q s.nd/\(s.kd=3->q s.te)/\s.nm.length<=BC):ConOk Tryz.prog (Bfc n q qs):=by
 intro k ds S A hh
 unfold Bfc at hh
 split at hh
 ·injection hh with hh;subst hh
  exact Bo fun e=>CD.at_ (CD.wk (show CD _ [.agg n.va.row1] _ from (BmH n.va (Ti ho)).mono fun _ _ ⟨_,h1,h2,h3⟩=>⟨(),trivial,h2,h3⟩) e) _
 ·injection hh with hh;subst hh
  exact Bo fun e=>CD.at_ (CD.wk (BjE n.pr) e) _
 ·injection hh with hh;subst hh
  exact Bo fun e=>CD.at_ (CD.wk (Bl5 n.op) e) _
 ·split at hh
  ·injection hh with hh;subst hh
   exact Bo fun ⟨e,hm,hl,hj⟩=>CD.at_ (CD.wk (Bqs q n.ki _ h hq hl (by rw[BJ];exact hm) hj) e) _
  ·cases hh
 ·injection hh with hh;subst hh
  exact Bo fun ⟨e,h2,h3⟩=>CD.at_ (CD.wk (Bp4 q n h hq h2 h3) e) _
 ·injection hh with hh;subst hh
  exact Cn fun s ⟨e,hb⟩=>CD.at_ (CD.wk (Bpp q s h (hs s hb).1 (hs s hb).2.1 (hs s hb).2.2) e) _
 ·exact OY h _ _ _ _ hh
theorem OF{d:D}{m:Nat}{f:Nat->List D}{md:Ab.Mode}(h:IntsP m f):wkL [d,.sl 1 m f md] [d,isl (Bk m f) .any]:=by
 simp only[wkL]
 refine⟨Bi _,?_,trivial⟩
 simp only[isl,wkD,Bd]
 refine⟨by simp,by simp[BJ],fun i hi=>?_,by simp[BF]⟩
 have e:(Bk m f).getD i 0=Bh8 (f i):=by simp[Bk,List.getD_eq_getElem?_getD,hi]
 rw[e,h i hi]
 exact Bg _
noncomputable def Eshn(n:Nd)(q:Nd->Prop)(qs:Sm->Prop):Senv:={ EC (Bfc n q qs) 111 4 [5,7,8,13,17,19,21,23,25,27,29,34,39,45,60,83,89,95,96,97,98] (fun id=>match id with | 25=>([0,1,2,3,7,8,9,10,4,5,6,11,12,13],[4,5,11]) | 27=>([0,1,2,3,7,8,9,10,15,16,17,18,4,5,6,11,12,13,14,19,20,21],[4,5,11,12,19]) | _=>([],[])) with
 mg:=fun _=>2
 gh:=fun b=>match b with
  |1=>[.slot 3]
  |_=>[]
 ann:=fun b _ S=>match b with
  |1=>some { slots:=[97,3],keep:=[0,1,95,96],α:=Nat×Nat×List (List UInt8),st:=fun y=>([.int .i64 y.1,ssl y.2.2 (.tok 0 y.2.1)],⟨S.objs,[(0,y.2.1)]⟩),inv:=fun y=>y.1<=n.bo.length/\y.2.2=(n.bo.take y.1).map B3,mu:=fun y=>n.bo.length-y.1 }
  |_=>none }
def Qm(a:Nd):Int:=Nd.kd a
def Hk(a:Nd):Arr:=Nd.va a
def QyX(a:Nd):Int:=Arr.k (Hk a)
def QyY(a:Nd):D:=ZI (QyX a)
def QyZ(a:Nd):List Int:=Arr.sh (Hk a)
def QjO(a:Nd):Nat:=LN (QyZ a)
def Qy0(a:Nd)(b:Nat):List D:=[ZI (GI (QyZ a) b)]
def Qy1(a:Nd):D:=D.sl N1 (QjO a) (fun i=>Qy0 a i) Mode.any
def Qy2(a:Nd):List Int:=Arr.nu (Hk a)
def QjP(a:Nd):Nat:=LN (Qy2 a)
def Qy3(a:Nd)(b:Nat):List D:=[ZI (GI (Qy2 a) b)]
def Qy4(a:Nd):D:=D.sl N1 (QjP a) (fun i=>Qy3 a i) Mode.any
def Qy5(a:Nd):List Arr:=Arr.it (Hk a)
def QjQ(a:Nd):Nat:=LN (Qy5 a)
def Vc:Arr:=DA
def Qy6(a:Nd)(b:Nat):List D:=Arr.row (List.getD (Qy5 a) b Vc)
def Qy7(a:Nd):D:=D.sl N4 (QjQ a) (fun i=>Qy6 a i) Mode.any
def Qy8(a:Nd):List D:=[D.agg [QyY a,Qy1 a,Qy4 a,Qy7 a]]
def Qn(a:Nd):List UInt8:=Bt a
def Qv:Prop:=True/\True
def QjR(a:Nd):List UInt8:=Nd.tx a
def Hl(a:Nd):Int:=Nd.pr a
def Hm(a:Nd):Int:=Nd.op a
def Xo(a:Nd):List Nd:=Nd.ki a
def Vz(a:Nd):Nat:=LN (Xo a)
def QL:Nd:=Nd.mk Z0 Z0 Z0 [] Z0 Z0 Vc [] [] Z0 Z0 Z0
def Qy9(a:Nd)(b:Nat):List D:=Nd.row1 (List.getD (Xo a) b QL)
def Yj(a:Nd):D:=D.sl 15 (Vz a) (fun i=>Qy9 a i) Mode.any
def Qza:List (List D):=[[ZI 4],[ZI 5]]
def Qzb(a:Nat):List D:=List.getD ([ZI 3]::Qza) a []
def Qzc:List Int:=Bk (3:Nat) fun i=>Qzb i
def Qzd(a:Nd):List UInt8:=Lib.join (List.map (BB Qzc) (Xo a)) [(32:UInt8)]
def Hn(a:Nd):Int:=(NI (Vz a))
def Qp(a:Nat)(b:Nd):Prop:=SM a/\SM (Yj b)
def Kv(a:Nd):Nd:=List.getD (Xo a) N0 QL
def Vd:Sm:=Sm.mk Z0 Z0 [] Z0 QL QL
def Qzh:List Int:=Bk N1 fun i=>List.getD [[ZI 16]] i []
def Qzi(a b:Nd)(c:Nd->Prop):Prop:=wkL [D.agg (Nd.rowE (Kv a)),D.sl N1 N1 (fun i=>List.getD [[ZI 16]] i []) Mode.full] [D.agg (Nd.row1 b),SI Qzh]/\N1<=9223372036854775807/\c b
def QjS(a:Nd):List UInt8:=BB Qzh a
def Qzj(a:Nd):Nat:=LN (QjS a)
def Kw(a:Nd):Nd:=List.getD (Xo a) N1 QL
def Qzn(a:Nd):D:=D.agg (Nd.rowE (Kw a))
def Qzo(a:Nd):List UInt8:=QjS a++[32]
def Qzp(a:Nat):List D:=List.getD Qza a []
def Qzq:List Int:=Bk N2 fun i=>Qzp i
def Qzr(a b:Nd)(c:Nd->Prop):Prop:=wkL [Qzn a,D.sl N1 N2 (fun i=>Qzp i) Mode.full] [D.agg (Nd.row1 b),SI Qzq]/\N2<=9223372036854775807/\c b
def Qzs(a:Nd):List UInt8:=BB Qzq a
def Qzt(a:Nd):Nat:=LN (Qzs a)+N1
def Qzu(a:Nd):List UInt8:=Qzs a++[32]
def Qzv(a b:Nd):List UInt8:=Qzu a++QjS b
def Kx(a:Nd):Nd:=List.getD (Xo a) N2 QL
def Qzz(a b:Nd):List UInt8:=Qzv a b++[32]
def QzA(a:Nd)(b:Nd->Prop)(c:Nat)(d:Nd):Prop:=∃(x:Nd),Qzi a x b/\∀(y:Unit),True->Qp c a/\Be (LN (Qzu d)+Qzj x<=9223372036854775807) (Be (LN (Qzv d x)+N1<=9223372036854775807) (∃(x_1:Nd),(isN x_1 [D.agg (Nd.rowE (Kx a))] []/\b x_1)/\∀(y:Unit),True->Be (LN (Qzz d x)+LN (Qn x_1)<=9223372036854775807) (True/\∃(y:Unit),True/\Qzz d x++Qn x_1=Qn a/\Qv)))
def QzB(a:Nat)(b:Nd)(c:Nd->Prop):Prop:=Qp a b/\Qp a b/\Qp a b/\∃(x:Nd),Qzr b x c/\∀(y:Unit),True->Qp a b/\Qp a b/\Be (Qzt x<=9223372036854775807) (QzA b c a x)
def QzC(a:Nat):List D:=List.getD [[ZI 4],[ZI 5],[ZI 16]] a []
def QzD:List Int:=Bk (3:Nat) fun i=>QzC i
def QzE(a:Nd):List UInt8:=Lib.join (List.map (BB QzD) (Xo a)) [(32:UInt8)]
def QzF(a:Nd):Int:=Nd.at_ a
def QzG(a:Nd):Int:=Nd.cl a
def Qdd(a:Nd):List Sm:=Nd.bo a
def Xp(a:Nd):Nat:=LN (Qdd a)
def Yk(a:Nd)(b:Nat):Sm:=List.getD (Qdd a) b Vd
def QzN(a:Nd)(b:Nat):List D:=(Sm.row1 (Yk a b))
def QzO(a:Nd):D:=D.sl 34 (Xp a) (fun i=>QzN a i) Mode.any
def QzP(a:Nd):Int:=Nd.de a
def QzQ(a:Nd):Int:=Nd.sl a
def QzR(a:Nd):Int:=Nd.ss a
def QzS(a:Nd):D:=D.agg [ZI (Qm a),ZI (QzF a),ZI (QzG a),D.str (QjR a),ZI (Hl a),ZI (Hm a),QyY a,Qy1 a,Qy4 a,Qy7 a,Yj a,QzO a,ZI (QzP a),ZI (QzQ a),ZI (QzR a)]
def QzT(a:Nat)(b:Nd):Prop:=SM a/\∃(x:Unit),(isN2 b [QzS b] []/\N2<=Vz b/\(Qm b=15->Vz b=3))/\∀(y:Unit),True->True/\∃(y:Unit),True/\O6 b=Qn b/\Qv
def QjT(a:Nat)(b:Nd)(c:List (List UInt8)):Prop:=a<=Xp b/\c=List.map B3 (List.take a (Qdd b))
def Ho(a:List (List UInt8))(b:Nat):List D:=[D.str (List.getD a b [])]
def QzU(a:Nat)(b:Nd)(c d:Nat):Prop:=(SM a/\(SM (Qm b)/\SM (QzF b)/\SM (QzG b)/\SM (QjR b)/\SM (Hl b)/\SM (Hm b)/\SM (QyX b)/\(SM (QjO b)/\(∀(i:Nat),i<QjO b->SM (Qy0 b i))/\True)/\(SM (QjP b)/\(∀(i:Nat),i<QjP b->SM (Qy3 b i))/\True)/\(SM (QjQ b)/\(∀(i:Nat),i<QjQ b->SM (Qy6 b i))/\True)/\(SM (Vz b)/\(∀(i:Nat),i<Vz b->SM (Qy9 b i))/\True)/\(SM (Xp b)/\(∀(i:Nat),i<Xp b->SM (QzN b i))/\True)/\SM (QzP b)/\SM (QzQ b)/\SM (QzR b)/\True)/\True)/\c=d/\True
def QjU(a:Nd):Int:=(NI (Xp a))
def Yl(a:Nd)(b:Nat):Sm:=List.getD (Qdd a) (Int.toNat (↑b:Int)) Vd
def Qz1(a:List (List UInt8)):List (List UInt8):=B6 (LN a) fun i=>Ho a i
def Qz2(a:List (List UInt8)):List UInt8:=Lib.join (Qz1 a) [(32:UInt8),(59:UInt8),(32:UInt8)]
def Qz3(a:List (List UInt8)):List UInt8:=List.append [] (Qz2 a)
def Qz4(a:Nat)(b:Nd)(c:Sm->Prop):Prop:=SM a/\∀(t:Nat),(∃(x:Nat×Nat×List (List UInt8)),QjT x.1 b x.2.2/\(Z0=(NI x.1)/\(N0=LN x.2.2/\(∀(i:Nat),i<N0->Cw (List D) [] (Ho x.2.2 i))/\t=x.2.1)/\True)/\QzU a b t x.2.1)/\∀(x:Nat×Nat×List (List UInt8)),QjT x.1 b x.2.2->ifB (decide ((NI x.1)<QjU b)) (Be (Z0<=(NI x.1)/\(NI x.1)<QjU b) (∀(x_1:Nat),a≠x_1/\True->SM x_1/\SM x_1/\∃(x_2:Sm),(isS x_2 [D.agg (Sm.row1 (Yl b x.1))] []/\c x_2)/\∀(y:Unit),True->SM x.2.1/\Be ((LN x.2.2+N1)*16<=140737488355328/\LN x.2.2+N1<=9223372036854775807) (∀(t:Nat),(SM (QzS b)/\SM (D.ref N0 a N0)/\SM (QzO b)/\SM (ZI (QjU b))/\True)/\∃(y:Nat×Nat×List (List UInt8)),QjT y.1 b y.2.2/\Xp b-y.1<Xp b-x.1/\(IntKind.wrap IntKind.i64 ((NI x.1)+Z1)=(NI y.1)/\(LN x.2.2+N1=LN y.2.2/\(∀(i:Nat),i<LN x.2.2+N1->BM (LN x.2.2) (fun i=>Ho x.2.2 i) (fun i=>[D.str (List.getD [B3 x_2] i [])]) i=Ho y.2.2 i)/\t=y.2.1)/\True)/\QzU a b t y.2.1))) (((Gz (LN x.2.2) fun i=>Ho x.2.2 i)=true/\GH (Qz1 x.2.2) [(32:UInt8),(59:UInt8),(32:UInt8)])/\∀(y:Unit),True->Be (N2+LN (Qz2 x.2.2)<=9223372036854775807) (Be (LN ((123:UInt8)::(32:UInt8)::Qz3 x.2.2)+N2<=9223372036854775807) (True/\∃(y:Unit),True/\(123:UInt8)::(32:UInt8)::List.append (Qz3 x.2.2) [(32:UInt8),(125:UInt8)]=Qn b/\Qv)))
theorem Bna(n : Nd)(q : Nd -> Prop)(qs : Sm -> Prop)(hv : Bz n=true)(ho : n.ok)(hz : szN n<=16384)(h : ∀b, q b -> RShow b)(hq : ∀b∈n.ki, q b)(hs : ∀s, qs s -> q s.nd /\ (s.kd=3 -> q s.te) /\ s.nm.length<=BC)(hqs : n.kd=10 -> ∀s∈n.bo, qs s) :
  CD 84 [.agg n.row2] (.str (Bt n)):=by
 refine Bh (A:=sC _ _) (x:=()) (E:=Eshn n q qs) (eOk (Bib ho h hq hs) rfl) Tryz.func84 rfl (by kernel_rfl) rfl (by simp[sC,Eshn,EC,E0]) ?_
 refine Bj (T :=
  ∀(x:Nat),True->SM x/\ifB (Qm n==Z1) (SM x/\∃(x:Unit),wkL (Qy8 n) (Qy8 n)/\∀(y:Unit),True->True/\∃(y:Unit),True/\GN (Hk n)=Qn n/\Qv) (ifB (Qm n==2) (SM x/\True/\∃(y:Unit),True/\QjR n=Qn n/\Qv) (ifB (Qm n==6) (True/\∃(y:Unit),True/\[(88:UInt8)]=Qn n/\Qv) (ifB (Qm n==7) (True/\∃(y:Unit),True/\[(89:UInt8)]=Qn n/\Qv) (ifB (Qm n==8) (True/\∃(y:Unit),True/\[(97:UInt8),(114:UInt8),(103:UInt8)]=Qn n/\Qv) (ifB (Qm n==11) (True/\∃(y:Unit),True/\[(115:UInt8),(101:UInt8),(108:UInt8),(102:UInt8)]=Qn n/\Qv) (ifB (Qm n==12) (True/\∃(y:Unit),True/\[(70:UInt8)]=Qn n/\Qv) (ifB (Qm n==13) (True/\∃(y:Unit),True/\[(71:UInt8)]=Qn n/\Qv) (ifB (Qm n==9) (SM x/\∃(x:Unit),wkL [ZI (Hl n)] [ZI (Hl n)]/\∀(y:Unit),True->True/\∃(y:Unit),True/\Cg (Hl n)=Qn n/\Qv) (ifB (Qm n==17) (SM x/\∃(x:Unit),wkL [ZI (Hm n)] [ZI (Hm n)]/\∀(y:Unit),True->True/\∃(y:Unit),True/\opT (Hm n)=Qn n/\Qv) (ifB (Qm n==3) (SM x/\∃(x:Unit),(wkL [Yj n,D.sl N1 (3:Nat) (fun i=>Qzb i) Mode.full] [Yj n,SI Qzc]/\(3:Nat)<=9223372036854775807/\Vz n<=1000000/\LN (Qzd n)<=20000000000000)/\∀(y:Unit),True->True/\∃(y:Unit),True/\Qzd n=Qn n/\Qv) (ifB (Qm n==4) (SM x/\Be (Z0<=Z0/\Z0<Hn n) (SM x/\Be (Z0<=Z1/\Z1<Hn n) (Qp x n/\Qp x n/\∃(x_1:Nd),Qzi n x_1 q/\∀(y:Unit),True->Qp x n/\Be (Qzj x_1+N1<=9223372036854775807) (∃(x:Nd),(isN x [Qzn n] []/\q x)/\∀(y:Unit),True->Be (LN (Qzo x_1)+LN (Qn x)<=9223372036854775807) (True/\∃(y:Unit),True/\Qzo x_1++Qn x=Qn n/\Qv))))) (ifB (Qm n==5) (SM x/\Be (Z0<=Z1/\Z1<Hn n) (SM x/\Be (Z0<=Z0/\Z0<Hn n) (SM x/\Be (Z0<=2/\(2:Int)<Hn n) ((Qp x n/\Qp x n/\Qp x n/\(∃(x_1:Nd),Qzr n x_1 q/\∀(y:Unit),True->Qp x n/\Qp x n/\Be (Qzt x_1<=9223372036854775807) (Qp x n/\Qp x n/\QzA n q x x_1))/\QzB x n q)/\Qp x n/\Qp x n/\Qp x n/\QzB x n q)))) (ifB (Qm n==16) (SM x/\∃(x:Unit),(wkL [Yj n,D.sl N1 (3:Nat) (fun i=>QzC i) Mode.full] [Yj n,SI QzD]/\(3:Nat)<=9223372036854775807/\Vz n<=1000000/\LN (QzE n)<=20000000000000)/\∀(y:Unit),True->True/\∃(y:Unit),True/\QzE n=Qn n/\Qv) (ifB (Qm n==14) (ifB (Qm n==14) (QzT x n) (Qz4 x n qs)) (ifB (Qm n==15) (QzT x n) (Qz4 x n qs))))))))))))))))) (by kernel_rfl) ?_
 delta DA GI LN N0 N1 N2 N4 NI SI SM Z0 Z1 ZI Qm Hk Qy3 QzT QjT Ho QzU QjU Yl Qy4 Qy5 Qz1 Qz2 Qz3 Qz4 QjQ Vc Qy6 Qy7 Qy8 Qn Qv QyX QjR Hl Hm Xo Vz QL Qy9 Yj Qza Qzb QyY Qzc Qzd Hn Qp Kv QyZ Vd Qzh Qzi QjS Qzj Kw QjO Qzn Qzo Qzp Qzq Qzr Qzs Qzt Qy0 Qzu Qzv Kx Qzz Qy1 QzA QzB QzC QzD QzE QzF QzG Qdd Xp Yk Qy2 QjP QzN QzO QzP QzQ QzR QzS
 try simp only[<- dm]
 try simp only[<- dn]
 simp only[eq_self,ne_eq,implies_true,Ba,Int.toNat_natCast,Bf,Bc,decide_eq_true_eq,decide_eq_false_iff_not,true_and,and_true,beq_iff_eq,bne_iff_ne,bne_eq_false_iff_eq,beq_eq_false_iff_ne,Bool.not_eq_true',Bool.not_eq_false',exists_const,forall_const,Prod.exists]
 have i1:Bk 1 (fun i=>[[D.int IntKind.i64 16]].getD i [])=[16]:=rfl
 have i2:Bk 2 (fun i=>[[D.int IntKind.i64 4],[D.int IntKind.i64 5]].getD i [])=[4,5]:=rfl
 have i3:∀a b c:Int,Bk 3 (fun i=>[[D.int IntKind.i64 a],[D.int IntKind.i64 b],[D.int IntKind.i64 c]].getD i [])=[a,b,c]:=fun _ _ _=>rfl
 have p1:IntsP 1 (fun i=>[[D.int IntKind.i64 16]].getD i []):=fun i hi=>by
  match i,hi with
  |0,_=>rfl
 have p2:IntsP 2 (fun i=>[[D.int IntKind.i64 4],[D.int IntKind.i64 5]].getD i []):=fun i hi=>by
  match i,hi with
  |0,_=>rfl
  |1,_=>rfl
 have p3:∀a b c:Int,IntsP 3 (fun i=>[[D.int IntKind.i64 a],[D.int IntKind.i64 b],[D.int IntKind.i64 c]].getD i []):=fun _ _ _ i hi=>by
  match i,hi with
  |0,_=>rfl
  |1,_=>rfl
  |2,_=>rfl
 obtain ⟨L2,L3,_⟩:=IK hv
 have kq:∀i,i<n.ki.length->q (n.ki.getD i default):=fun i hi=>hq _ (B0 hi)
 have wl:∀(ks:List Int) (b:Nd),q b->(BB ks b).length<=20000000000004:=fun ks b hb=>by
  have h1:=CU ks b.kd (Bt b)
  have h2:=(h b hb).2
  unfold BB
  omega
 have sg:∀i,i<n.ki.length->(BW n.ki).getD i []=Bt (n.ki.getD i default):=fun i hi=>Mc hi
 have hlen:=Et n hv ho
 have hkl:n.ki.length<=szL n.ki:=by
  have:∀l:List Nd,l.length<=szL l:=fun l=>by
   induction l with
   |nil=>simp[szL]
   |cons a r ih=>have:=Ba9 a;simp only[List.length_cons,szL];omega
  exact this _
 have hsz:=Ba7 n
 have hbl:n.bo.length<=szB n.bo:=by
  have:∀l:List Sm,l.length<=szB l:=fun l=>by
   induction l with
   |nil=>simp[szB]
   |cons a r ih =>
    have:=Ba9 a.nd
    have e:=TW a
    simp only[List.length_cons,szB]
    split at e<;>omega
  exact this _
 simp only[i1,i2,i3]
 rw[CT] at hlen ⊢
 refine fun x=>⟨fun k=>?_,fun n1=>⟨fun k=>?_,fun n2=>⟨fun k=>?_,fun n6=>⟨fun k=>?_,fun n7=>⟨fun k=>?_,fun n8=>⟨fun k=>?_,fun n11=>⟨fun k=>?_,fun n12=>⟨fun k=>?_,fun n13=>⟨fun k=>?_,fun n9=>⟨fun k=>?_,fun n17=>⟨fun k=>?_,fun n3=>⟨fun k=>?_,fun n4=>⟨fun k=>?_,fun n5=>⟨fun k=>?_,fun n16=>⟨fun k=>⟨fun _=>?_,fun e=>(e k).elim⟩,fun n14=>⟨fun k=>?_,fun n15=>?_⟩⟩⟩⟩⟩⟩⟩⟩⟩⟩⟩⟩⟩⟩⟩⟩
 ·exact⟨Bg _,by rw[if_pos k]⟩
 ·rw[if_neg n1,if_pos k]
 ·rw[if_neg n1,if_neg n2,if_pos k]
 ·rw[if_neg n1,if_neg n2,if_neg n6,if_pos k]
 ·rw[if_neg n1,if_neg n2,if_neg n6,if_neg n7,if_pos k]
 ·rw[if_neg n1,if_neg n2,if_neg n6,if_neg n7,if_neg n8,if_pos k]
 ·rw[if_neg n1,if_neg n2,if_neg n6,if_neg n7,if_neg n8,if_neg n11,if_pos k]
 ·rw[if_neg n1,if_neg n2,if_neg n6,if_neg n7,if_neg n8,if_neg n11,if_neg n12,if_pos k]
 ·exact⟨Bg _,by rw[if_neg n1,if_neg n2,if_neg n6,if_neg n7,if_neg n8,if_neg n11,if_neg n12,if_neg n13,if_pos k]⟩
 ·exact⟨Bg _,by rw[if_neg n1,if_neg n2,if_neg n6,if_neg n7,if_neg n8,if_neg n11,if_neg n12,if_neg n13,if_neg n9,if_pos k]⟩
 ·rw[if_neg n1,if_neg n2,if_neg n6,if_neg n7,if_neg n8,if_neg n11,if_neg n12,if_neg n13,if_neg n9,if_neg n17,if_pos k] at hlen ⊢
  exact⟨⟨OF (p3 _ _ _),by omega,by omega,by omega⟩,rfl⟩
 ·rw[if_neg n1,if_neg n2,if_neg n6,if_neg n7,if_neg n8,if_neg n11,if_neg n12,if_neg n13,if_neg n9,if_neg n17,if_neg n3,if_pos k]
  have hL:n.ki.length=2:=L2 (.inl k)
  have q0:=kq 0 (by omega)
  have q1:=kq 1 (by omega)
  have r0:=(h _ q0).2
  have r1:=(h _ q1).2
  have w0:=wl [16] _ q0
  have w1:=wl [4,5] _ q1
  rw[sg 0 (by omega),sg 1 (by omega)]
  repeat' (first
   |refine⟨n.ki.getD 0 default,⟨Ck (r:=(n.ki.getD 0 default).row1) p1,by omega,q0⟩,?_⟩
   |refine⟨n.ki.getD 1 default,⟨Ck (r:=(n.ki.getD 1 default).row1) p2,by omega,q1⟩,?_⟩
   |refine⟨n.ki.getD 0 default,⟨Bl _ _,q0⟩,?_⟩
   |refine⟨n.ki.getD 1 default,⟨Bl _ _,q1⟩,?_⟩
   |refine And.intro ?_ ?_)
  all_goals first
   |rfl
   |omega
   |(simp only[List.length_append,List.length_cons,List.length_nil];omega)
 ·rw[if_neg n1,if_neg n2,if_neg n6,if_neg n7,if_neg n8,if_neg n11,if_neg n12,if_neg n13,if_neg n9,if_neg n17,if_neg n3,if_neg n4,if_pos k]
  have hL:n.ki.length=3:=L3 (.inl k)
  have q0:=kq 0 (by omega)
  have q1:=kq 1 (by omega)
  have r0:=(h _ q0).2
  have r1:=(h _ q1).2
  have w0:=wl [16] _ q0
  have w1:=wl [4,5] _ q1
  have q2:=kq 2 (by omega)
  have r2:=(h _ q2).2
  rw[sg 0 (by omega),sg 1 (by omega),sg 2 (by omega)]
  repeat' (first
   |refine⟨n.ki.getD 0 default,⟨Ck (r:=(n.ki.getD 0 default).row1) p1,by omega,q0⟩,?_⟩
   |refine⟨n.ki.getD 1 default,⟨Ck (r:=(n.ki.getD 1 default).row1) p2,by omega,q1⟩,?_⟩
   |refine⟨n.ki.getD 0 default,⟨Bl _ _,q0⟩,?_⟩
   |refine⟨n.ki.getD 1 default,⟨Bl _ _,q1⟩,?_⟩
   |refine⟨n.ki.getD 2 default,⟨Bl _ _,q2⟩,?_⟩
   |refine And.intro ?_ ?_)
  all_goals first
   |rfl
   |omega
   |(simp only[List.length_append,List.length_cons,List.length_nil];omega)
 ·rw[if_neg n1,if_neg n2,if_neg n6,if_neg n7,if_neg n8,if_neg n11,if_neg n12,if_neg n13,if_neg n9,if_neg n17,if_neg n3,if_neg n4,if_neg n5,if_pos k] at hlen ⊢
  exact⟨⟨OF (p3 _ _ _),by omega,by omega,by omega⟩,rfl⟩
 ·rw[if_neg n1,if_neg n2,if_neg n6,if_neg n7,if_neg n8,if_neg n11,if_neg n12,if_neg n13,if_neg n9,if_neg n17,if_neg n3,if_neg n4,if_neg n5,if_neg n16,if_pos k]
  have hL:=(L2 (.inr k))
  refine⟨⟨CF n _,by omega,fun e=>L3 (.inr e)⟩,?_⟩
  unfold O6
  rw[sg 0 (by omega),sg 1 (by omega),if_neg (by omega)]
  rfl
 ·rw[if_neg n1,if_neg n2,if_neg n6,if_neg n7,if_neg n8,if_neg n11,if_neg n12,if_neg n13,if_neg n9,if_neg n17,if_neg n3,if_neg n4,if_neg n5,if_neg n16,if_neg n14,if_pos k]
  have hL:=(L3 (.inr k))
  refine⟨⟨CF n _,by omega,fun e=>L3 (.inr e)⟩,?_⟩
  unfold O6
  rw[sg 0 (by omega),sg 1 (by omega),sg 2 (by omega),if_pos k]
  simp only[List.append_assoc]
  rfl
 ·have k10:n.kd=10:=by
   by_cases hk:n.kd=10
   ·exact hk
   ·rcases Ea hv hk with hc | ⟨hc,_⟩
    ·unfold C5 at hc
     simp[n1,n2,n6,n7,n8,n9,n11,n12,n13,n17] at hc
    ·unfold CP at hc
     simp[n3,n4,n5,n14,n15,n16] at hc
  rw[if_neg n1,if_neg n2,if_neg n6,if_neg n7,if_neg n8,if_neg n11,if_neg n12,if_neg n13,if_neg n9,if_neg n17,if_neg n3,if_neg n4,if_neg n5,if_neg n16,if_neg n14,if_neg n15] at hlen ⊢
  refine fun t=>⟨⟨0,t,[],⟨Nat.zero_le _,rfl⟩,⟨rfl,rfl,fun i hi=>absurd hi (Nat.not_lt_zero _),rfl⟩,rfl⟩,?_⟩
  rintro ⟨i,tk,out⟩ ⟨hi,hout⟩
  simp only at hi hout ⊢
  have hol:out.length=i:=by rw[hout,List.length_map,List.length_take];omega
  refine⟨fun hlt=>?_,fun hge=>?_⟩
  ·have hlt':i<n.bo.length:=by omega
   refine⟨⟨by omega,hlt⟩,fun _ _=>⟨n.bo.getD i default,⟨Il _ _,hqs k10 _ (C4 hlt')⟩,⟨by omega,by omega⟩,fun t2=>⟨i+1,t2,out++[B3 (n.bo.getD i default)],⟨hlt',?_⟩,by omega,⟨?_,by simp,fun j hj=>Tk j hj,rfl⟩,rfl⟩⟩⟩
   ·rw[B5 hlt',List.map_append,hout];rfl
   ·rw[Bb (by omega) (by omega)];rfl
  ·have e:i=n.bo.length:=by omega
   rw[e,List.take_length] at hout
   have e1:B6 out.length (fun i=>[D.str (out.getD i [])])=out:=M1 rfl fun _ _=>rfl
   have e2:Gz out.length (fun i=>[D.str (out.getD i [])])=true:=O5 rfl fun _ _=>rfl
   rw[e1,hout]
   rw[hout] at e2
   simp only[List.length_append,List.length_cons,List.length_nil] at hlen
   refine⟨⟨e2,?_,by omega⟩,by omega,?_,?_⟩
   ·rw[List.length_map];omega
   ·simp only[List.length_cons,List.append_eq,List.nil_append];omega
   ·rfl
theorem BZ{n:Nd}:BV n=0↔dpN n<=60/\szN n<=16384/\Bz n=true:=by
 unfold BV
 by_cases h1:60<dpN n
 ·rw[if_pos h1];exact⟨fun h=>by omega,fun h=>by omega⟩
 rw[if_neg h1]
 by_cases h2:16384<szN n
 ·rw[if_pos h2];exact⟨fun h=>by omega,fun h=>by omega⟩
 rw[if_neg h2]
 by_cases h3:Bz n=true
 ·rw[if_pos h3];exact⟨fun _=>⟨by omega,by omega,h3⟩,fun _=>rfl⟩
 ·rw[if_neg h3];exact⟨fun h=>by omega,fun h=>(h3 h.2.2).elim⟩
theorem BnK{s:Sm}(h:s.sm):s.nm.length<=BC:=by
 cases s with
 |mk kd at_ nm sl te nd =>
  simp only[Sm.sm] at h
  exact h.1
theorem Bf1(n:Nd)(hv:Bz n=true)(ho:n.ok)(hn:n.sm)(hz:szN n<=16384):RShow n:=by
 have hl:=Et n hv ho
 refine⟨Bna n RShow (fun s=>RShow s.nd/\(s.kd=3->RShow s.te)/\s.nm.length<=BC) hv ho hz (fun _ h=>h) (fun b hb=>?_) (fun _ h=>h) (fun hk s hs=>?_),by omega⟩
 ·have:=Eu (BT hb)
  exact Bf1 b ((EK hv).1 b hb) (Oc ho b hb) (EW hn (BT hb)) (by omega)
 ·have h1:=hv
  rw[CI,Bool.and_eq_true,if_pos hk,Bool.and_eq_true] at h1
  have hb:=h1.2.2
  unfold BP at hb
  rw[Bool.and_eq_true] at hb
  obtain ⟨q1,q2⟩:=Ej hb.2 s hs
  have o:=Cq (GK ho s hs)
  have m:=Cm (Gy hn s hs)
  have i1:s.nd∈BH n:=List.mem_append.2 (.inr (List.mem_flatMap.2 ⟨s,hs,by unfold Bq;split<;>simp⟩))
  have z1:=Eu i1
  refine⟨Bf1 s.nd q1 o.2 m.2 (by omega),fun h3=>?_,BnK (Gy hn s hs)⟩
  have i2:s.te∈BH n:=List.mem_append.2 (.inr (List.mem_flatMap.2 ⟨s,hs,by unfold Bq;rw[if_pos h3];simp⟩))
  have z2:=Eu i2
  have hv2:Bz s.te=true:=by
   rcases q2 with ⟨_,q,_⟩ | ⟨q,_⟩
   ·exact q
   ·exact (q h3).elim
  exact Bf1 s.te hv2 o.1 m.1 (by omega)
termination_by szN n
decreasing_by all_goals omega
def BnY(n:Nd):Con:=fun k ds S=>match k with
 |83=>some (pA ds S (.int .i64 (BV n)) (isN n ds []))
 |84=>some (pA ds S (.str (Bt n)) (isN n ds []/\BV n=0))
 |_=>none
noncomputable def Esw(n:Nd):Senv:=EC (BnY n) 8 3 [5] (fun _=>([],[]))
def Qz7(a:Nd):Prop:=isN a [D.agg (Nd.rowE a)] []
theorem Bor(n:Nd)(ho:n.ok)(hn:n.sm):CD 58 [.agg n.row1] (.str (Er n)):=by
 refine Bh (A:=sC _ _) (x:=()) (E:=Esw n) (eOk ?_ rfl) Tryz.func58 rfl (by kernel_rfl) rfl (by simp[sC,Esw,EC,E0]) ?_
 ·intro k ds S A hh
  try unfold BnY at hh
  try dsimp only at hh
  split at hh
  ·injection hh with hh;subst hh
   exact Bo fun e=>CD.at_ (CD.wk (Bop n ho hn) e) _
  ·injection hh with hh;subst hh
   refine Bo fun ⟨e,h0⟩=>?_
   obtain ⟨_,h2,h3⟩:=BZ.1 h0
   exact CD.at_ (CD.isN (Bf1 n h3 ho hn h2).1 e) _
  ·cases hh
 refine Bj (T :=
  ∀(x:Nat),True->SM x/\∃(x_1:Unit),Qz7 n/\∀(y:Unit),True->ifB (BV n != Z0) (RT (Cw (List UInt8) [] (Er n))) (SM x/\∃(x:Unit),(Qz7 n/\BV n=Z0)/\∀(y:Unit),True->RT (Bt n=Er n))) (by kernel_rfl) ?_
 delta DA GI LN N1 N4 SI SM Z0 ZI Qz7 RT
 try simp only[<- dm]
 try simp only[<- dn]
 simp only[eq_self,ne_eq,implies_true,Ba,Int.toNat_natCast,Bf,Bc,decide_eq_true_eq,decide_eq_false_iff_not,true_and,and_true,beq_iff_eq,bne_iff_ne,bne_eq_false_iff_eq,beq_eq_false_iff_ne,Bool.not_eq_true',Bool.not_eq_false',exists_const,forall_const,Prod.exists]
 unfold Er
 refine⟨Bl _ _,fun h=>?_,fun h=>⟨⟨Bl _ _,h⟩,?_⟩⟩
 ·rw[if_neg h]
 ·rw[if_pos h]
theorem BpA(sep:List UInt8)(a b:List (List UInt8)):jT sep (a++b)=jT sep a++jT sep b:=by
 unfold jT
 rw[List.flatMap_append]
theorem Wj(sep:List UInt8)(a b:List (List UInt8))(h:a≠[]):Lib.join (a++b) sep=Lib.join a sep++jT sep b:=by
 cases a with
 |nil=>exact (h rfl).elim
 |cons x r=>rw[List.cons_append,B7,B7,BpA,List.append_assoc]
theorem TZ{l:List (List UInt8)}(sep:List UInt8){i:Nat}(h:i<l.length):Lib.join (l.take (i+1)) sep=(if 0<i then Lib.join (l.take i) sep++sep else [])++l.getD i []:=by
 have e:l.take (i+1)=l.take i++[l.getD i []]:=by
  rw[List.take_add_one,List.getElem?_eq_getElem h,List.getD_eq_getElem?_getD,List.getElem?_eq_getElem h];rfl
 rw[e]
 cases i with
 |zero=>simp[B7,jT]
 |succ k =>
  rw[Wj _ _ _ (by intro e;have:=congrArg List.length e;simp at this;subst this;simp at h),if_pos (by omega)]
  simp[jT]
theorem BmR(l:List (List UInt8))(sep:List UInt8)(i:Nat):(Lib.join (l.take i) sep).length<=(Lib.join l sep).length:=by
 by_cases h:l.take i=[]
 ·rw[h];simp[Lib.join]
 ·have e:=Wj sep (l.take i) (l.drop i) h
  rw[List.take_append_drop] at e
  rw[e,List.length_append]
  omega
theorem RL{l:List (List UInt8)}(sep:List UInt8){i:Nat}(h:i<l.length):(l.getD i []).length<=(Lib.join l sep).length/\(0<i->(Lib.join (l.take i) sep).length+sep.length+(l.getD i []).length<=(Lib.join l sep).length):=by
 have h1:=BmR l sep (i+1)
 rw[TZ sep h,List.length_append] at h1
 refine⟨by omega,fun h0=>?_⟩
 rw[if_pos h0,List.length_append] at h1
 omega
def RRShow(n:Nd):Prop:=CD 114 [.agg n.row2] (.str (Bt n))/\(Bt n).length<=20000000000000
noncomputable def Eamo(n:Nd)(ks:List Int):Senv:={ EC Ex 19 3 [4,5,9,18] (fun id=>match id with | 4=>([0,1,2,3,4,5,6],[]) | _=>([],[])) with
 mg:=fun _=>2
 ann:=fun b _ S=>match b with
  |0=>some { slots:=[5],keep:=[0,1,2],α:=Nat,st:=fun i=>([.int .i64 i],S),inv:=fun i=>i<=ks.length/\∀j,j<i->n.kd≠ks.getD j 0,mu:=fun i=>ks.length-i }
  |_=>none }
def Ym(a:Nd):Int:=Nd.kd a
def QjW(a:Nat)(b:List Int)(c:Nd):Prop:=a<=LN b/\∀(j:Nat),j<a->Ym c≠GI b j
def Qz8(a:Nd):Int:=Nd.at_ a
def Qz9(a:Nd):Int:=Nd.cl a
def QAa(a:Nd):List UInt8:=Nd.tx a
def QAb(a:Nd):Int:=Nd.pr a
def QAc(a:Nd):Int:=Nd.op a
def Qdj(a:Nd):Arr:=Nd.va a
def QAd(a:Nd):Int:=Arr.k (Qdj a)
def QAe(a:Nd):List Int:=Arr.sh (Qdj a)
def QjX(a:Nd):Nat:=LN (QAe a)
def QAf(a:Nd)(b:Nat):List D:=[ZI (GI (QAe a) b)]
def QAg(a:Nd):List Int:=Arr.nu (Qdj a)
def QjY(a:Nd):Nat:=LN (QAg a)
def QAh(a:Nd)(b:Nat):List D:=[ZI (GI (QAg a) b)]
def QAi(a:Nd):List Arr:=Arr.it (Qdj a)
def QjZ(a:Nd):Nat:=LN (QAi a)
def QAj:Arr:=DA
def QAk(a:Nd)(b:Nat):List D:=Arr.row (List.getD (QAi a) b QAj)
def Qj0(a:Nd):Nat:=LN (Nd.ki a)
def Qj1:Nd:=Nd.mk Z0 Z0 Z0 [] Z0 Z0 QAj [] [] Z0 Z0 Z0
def QAl(a:Nd)(b:Nat):List D:=Nd.row (List.getD (Nd.ki a) b Qj1)
def Qj2(a:Nd):Nat:=LN (Nd.bo a)
def QAm(a:Nd)(b:Nat):List D:=Sm.row (List.getD (Nd.bo a) b (Sm.mk Z0 Z0 [] Z0 Qj1 Qj1))
def QAn(a:Nd):Int:=Nd.de a
def QAo(a:Nd):Int:=Nd.sl a
def QAp(a:Nd):Int:=Nd.ss a
def QAq(a:Nat)(b:Nd):Prop:=(SM a/\(SM (Ym b)/\SM (Qz8 b)/\SM (Qz9 b)/\SM (QAa b)/\SM (QAb b)/\SM (QAc b)/\SM (QAd b)/\(SM (QjX b)/\(∀(i:Nat),i<QjX b->SM (QAf b i))/\True)/\(SM (QjY b)/\(∀(i:Nat),i<QjY b->SM (QAh b i))/\True)/\(SM (QjZ b)/\(∀(i:Nat),i<QjZ b->SM (QAk b i))/\True)/\(SM (Qj0 b)/\(∀(i:Nat),i<Qj0 b->SM (QAl b i))/\True)/\(SM (Qj2 b)/\(∀(i:Nat),i<Qj2 b->SM (QAm b i))/\True)/\SM (QAn b)/\SM (QAo b)/\SM (QAp b)/\True)/\True)/\True
def QQv(a:Nd):D:=D.agg (Nd.rowE a)
def QQw(a:List Int):D:=SI a
theorem Bow(n:Nd)(ks:List Int)(hk:ks.length<=maxLen):CD 128 [.agg n.row1,isl ks .any] (.bool (ks.contains n.kd)):=by
 refine Bh (A:=sC _ _) (x:=()) (E:=Eamo n ks) (eOk BL rfl) Tryz.func128 rfl (by kernel_rfl) rfl (by simp[sC,Eamo,EC,E0]) ?_
 refine Bj (T :=
  ∀(x:Nat),True->(∃(x_1:Nat),QjW x_1 ks n/\(Z0=(↑x_1:Int)/\True)/\QAq x n)/\∀(x_1:Nat),QjW x_1 ks n->ifB (decide ((↑x_1:Int)<(LI ks))) (SM x/\Be (Z0<=(↑x_1:Int)/\(↑x_1:Int)<(LI ks)) (ifB (Ym n==GI ks (Int.toNat (↑x_1:Int))) (RT (true=List.contains ks (Ym n))) ((SM (QQv n)/\SM (QQw ks)/\SM (D.ref N0 x N0)/\True)/\∃(y:Nat),QjW y ks n/\LN ks-y<LN ks-x_1/\(IntKind.wrap IntKind.i64 ((↑x_1:Int)+Z1)=(↑y:Int)/\True)/\QAq x n))) (RT (false=List.contains ks (Ym n)))) (by kernel_rfl) ?_
 delta DA GI LI LN N0 N1 N4 SI SM Z0 Z1 ZI Ym QjW QjX QAf QAg QjY QAh QAi QjZ QAj QAk Qj0 Qz8 Qj1 QAl Qj2 QAm QAn QAo QAp QAq QQv QQw Qz9 QAa QAb QAc Qdj QAd QAe RT
 try simp only[<- dm]
 try simp only[<- dn]
 simp only[eq_self,ne_eq,implies_true,Ba,Int.toNat_natCast,Bf,Bc,decide_eq_true_eq,decide_eq_false_iff_not,true_and,and_true,beq_iff_eq,bne_iff_ne,bne_eq_false_iff_eq,beq_eq_false_iff_ne,Bool.not_eq_true',Bool.not_eq_false',exists_const,forall_const,Prod.exists]
 unfold maxLen at hk
 refine⟨⟨0,⟨Nat.zero_le _,fun j hj=>absurd hj (by omega)⟩,rfl⟩,fun i hi'=>⟨fun hlt=>?_,fun hge=>?_⟩⟩
 ·obtain ⟨i1,hi⟩:=hi'
  have hi1:i<ks.length:=by omega
  refine⟨⟨by omega,by omega⟩,fun c=>?_,fun c=>⟨i+1,⟨hi1,fun j hj=>?_⟩,by omega,Bb (by omega) (by omega)⟩⟩
  ·symm
   rw[List.contains_eq_mem,decide_eq_true_eq,c,List.getD_eq_getElem?_getD,List.getElem?_eq_getElem hi1]
   exact List.getElem_mem hi1
  ·by_cases e':j=i
   ·rw[e'];exact c
   ·exact hi j (by omega)
 ·obtain ⟨i1,hi⟩:=hi'
  symm
  rw[List.contains_eq_mem,decide_eq_false_iff_not]
  intro hm
  obtain ⟨j,hj,e⟩:=List.getElem_of_mem hm
  refine hi j (by omega) ?_
  rw[List.getD_eq_getElem?_getD,List.getElem?_eq_getElem hj]
  exact e.symm
def Bby(b:Bool)(x:List UInt8):List UInt8:=bif b then BfL x else x
theorem Gj(ks:List Int)(n:Nd):Bby (ks.contains n.kd) (Bt n)=BB ks n:=by
 unfold Bby BB Ee
 cases ks.contains n.kd<;>rfl
def W4(q:Nd->Prop):Con:=fun k ds S=>match k with
 |114=>some (pE (β:=Nd) ds S (fun b=>.str (Bt b)) (fun b=>isN b ds []/\q b))
 |_=>none
theorem Tx{q:Nd->Prop}(h:∀b,q b->RRShow b):ConOk Tryz.prog (W4 q):=by
 intro k ds S A hh
 unfold W4 at hh
 split at hh
 ·injection hh with hh;subst hh
  exact Cn fun b ⟨e,hb⟩=>CD.at_ (CD.isN (h b hb).1 e) _
 ·cases hh
noncomputable def Epar(q:Nd->Prop):Senv:=EC (W4 q) 12 3 [4,5] (fun _=>([],[]))
def QAt(a b:Nd)(c:Nd->Prop):Prop:=isN a [D.agg (Nd.rowE b)] []/\c a
def Hp(a:Nd):List UInt8:=Bt a
def QAu(a:Bool)(b:Nd):List UInt8:=Bby a (Hp b)
theorem Bo0(q:Nd->Prop)(h:∀b,q b->RRShow b)(n:Nd)(hn:q n)(b:Bool):CD 127 [.agg n.row1,.bool b] (.str (Bby b (Bt n))):=by
 refine Bh (A:=sC _ _) (x:=()) (E:=Epar q) (eOk (Tx h) rfl) Tryz.func127 rfl (by kernel_rfl) rfl (by simp[sC,Epar,EC,E0]) ?_
 refine Bj (T :=
  ∀(x:Nat),True->ifB b (SM x/\∃(x:Nd),QAt x n q/\∀(y:Unit),True->Be (N2+LN (Hp x)<=9223372036854775807) (Be (LN ((40:UInt8)::(32:UInt8)::List.append [] (Hp x))+N2<=9223372036854775807) (RT ((40:UInt8)::(32:UInt8)::List.append (List.append [] (Hp x)) [(32:UInt8),(41:UInt8)]=QAu b n)))) (SM x/\∃(x:Nd),QAt x n q/\∀(y:Unit),True->RT (Hp x=QAu b n))) (by kernel_rfl) ?_
 delta DA GI LN N1 N2 N4 SI SM Z0 ZI QAt Hp QAu RT
 try simp only[<- dm]
 try simp only[<- dn]
 simp only[eq_self,ne_eq,implies_true,Ba,Int.toNat_natCast,Bf,Bc,decide_eq_true_eq,decide_eq_false_iff_not,true_and,and_true,beq_iff_eq,bne_iff_ne,bne_eq_false_iff_eq,beq_eq_false_iff_ne,Bool.not_eq_true',Bool.not_eq_false',exists_const,forall_const,Prod.exists]
 have hl:=(h n hn).2
 refine⟨fun c=>⟨n,⟨Bl _ _,hn⟩,by omega,?_,?_⟩,fun c=>⟨n,⟨Bl _ _,hn⟩,?_⟩⟩
 ·simp only[List.length_cons,List.append_eq,List.nil_append];omega
 ·rw[c];rfl
 ·rw[c];rfl
def BaU(q:Nd->Prop):Con:=fun k ds S=>match k with
 |128=>match ds with
  | [_,.sl 1 m f _]=>some (pE (β:=Nd) ds S (fun b=>.bool ((Bk m f).contains b.kd)) (fun b=>wkL ds [.agg b.row1,isl (Bk m f) .any]/\m<=maxLen))
  |_=>none
 |127=>match ds with
  | [_,.bool t]=>some (pE (β:=Nd) ds S (fun b=>.str (Bby t (Bt b))) (fun b=>isN b ds [.bool t]/\q b))
  |_=>none
 |k=>W4 q k ds S
theorem BaF{q:Nd->Prop}(h:∀b,q b->RRShow b):ConOk Tryz.prog (BaU q):=by
 intro k ds S A hh
 unfold BaU at hh
 split at hh
 ·split at hh
  ·injection hh with hh;subst hh
   exact Cn fun b ⟨e,hm⟩=>CD.at_ (CD.wk (Bow b _ (by rw[BJ];exact hm)) e) _
  ·cases hh
 ·split at hh
  ·injection hh with hh;subst hh
   exact Cn fun b ⟨e,hb⟩=>CD.at_ (CD.wk (Bo0 q h b hb _) e) _
  ·cases hh
 ·exact Tx h _ _ _ _ hh
noncomputable def Erli(q:Nd->Prop)(l:List Nd)(ks:List Int):Senv:={ EC (BaU q) 31 2 [4,5,6,10,14] (fun id=>match id with | 7=>([0,1,2,3,4,5,6,7,8,9,10,11,12,13],[10,11]) | _=>([],[])) with
 mg:=fun _=>2
 ann:=fun b _ S=>match b with
  |0=>some { slots:=[6,5],keep:=[0,1],α:=Nat×List UInt8,st:=fun y=>([.int .i64 y.1,.str y.2],S),inv:=fun y=>y.1<=l.length/\y.2=Lib.join ((l.map (BB ks)).take y.1) [32],mu:=fun y=>l.length-y.1 }
  |_=>none }
def Qdl(a:Nat)(b:List Nd)(c:List UInt8)(d:List Int):Prop:=a<=LN b/\c=Lib.join (List.take a (List.map (BB d) b)) [(32:UInt8)]
def Qdm:Arr:=DA
def Xq:Nd:=Nd.mk Z0 Z0 Z0 [] Z0 Z0 Qdm [] [] Z0 Z0 Z0
def KC(a:List Nd)(b:Nat):Nd:=List.getD a (Int.toNat (↑b:Int)) Xq
def QAy(a:List Nd)(b:Nat):D:=D.agg (Nd.rowE (KC a b))
def QAz(a:List Int):D:=SI a
def QAB(a:List Int):List Int:=Bk (LN a) fun i=>[ZI (GI a i)]
def QAC(a:List Nd)(b:Nat)(c:List Int)(d:Nd):Prop:=wkL [QAy a b,QAz c] [D.agg (Nd.rowE d),SI (QAB c)]/\LN c<=9223372036854775807
def QAD(a:List Int)(b:Nd):Bool:=List.contains (QAB a) (Nd.kd b)
def QAE(a:List Int)(b:Nd):List D:=[D.bool (QAD a b)]
def QAF(a:Nd)(b:List Nd)(c:Nat)(d:List Int)(e:Nd)(f:Nd->Prop):Prop:=isN a (QAy b c::QAE d e) (QAE d e)/\f a
def Qj5(a:List Int)(b c:Nd):List UInt8:=Bby (QAD a b) (Bt c)
def QAG(a:List Int)(b c:Nd):Nat:=LN (Qj5 a b c)
def KD(a:List Nd)(b:Nat):Nd:=List.getD a b Xq
def QQF(a:List Nd):D:=D.sl 15 (LN a) (fun i=>(Nd.rowE (KD a i))) Mode.any
def QAK(a:List Nd)(b:List Int):Prop:=SM (QQF a)/\SM (QAz b)/\True
theorem Boq(q : Nd -> Prop)(l : List Nd)(ks : List Int)(h : ∀b, q b -> RRShow b)(hq : ∀b∈l, q b)(hl : l.length<=maxLen)(hk : ks.length<=maxLen)(hj : (Lib.join (l.map (BB ks)) [32]).length<=20000000000000) :
  CD 126 [gsl 15 Nd.row1 l,isl ks .any] (.str (Lib.join (l.map (BB ks)) [32])):=by
 refine Bh (A:=sC _ _) (x:=()) (E:=Erli q l ks) (eOk (BaF h) rfl) Tryz.func126 rfl (by kernel_rfl) rfl (by simp[sC,Erli,EC,E0]) ?_
 refine Bj (T :=
  (∃(x:Nat×List UInt8),Qdl x.1 l x.2 ks/\(Z0=(NI x.1)/\Cw (List UInt8) [] x.2/\True)/\True/\True)/\∀(x:Nat×List UInt8),Qdl x.1 l x.2 ks->ifB (decide ((NI x.1)<(LI l))) (ifB (decide (Z0<(NI x.1))) (Be (LN x.2+N1<=9223372036854775807) (Be (Z0<=(NI x.1)/\(NI x.1)<(LI l)) (Be (Z0<=(NI x.1)/\(NI x.1)<(LI l)) (∃(x_1:Nd),QAC l x.1 ks x_1/\∀(y:Unit),True->∃(x_2:Nd),QAF x_2 l x.1 ks x_1 q/\∀(y:Unit),True->Be (LN (x.2++[32])+QAG ks x_1 x_2<=9223372036854775807) (QAK l ks/\∃(y:Nat×List UInt8),Qdl y.1 l y.2 ks/\LN l-y.1<LN l-x.1/\(IntKind.wrap IntKind.i64 ((NI x.1)+Z1)=(NI y.1)/\x.2++[32]++Qj5 ks x_1 x_2=y.2/\True)/\True/\True))))) (Be (Z0<=(NI x.1)/\(NI x.1)<(LI l)) (Be (Z0<=(NI x.1)/\(NI x.1)<(LI l)) (∃(x_1:Nd),QAC l x.1 ks x_1/\∀(y:Unit),True->∃(x_2:Nd),QAF x_2 l x.1 ks x_1 q/\∀(y:Unit),True->Be (LN x.2+QAG ks x_1 x_2<=9223372036854775807) (QAK l ks/\∃(y:Nat×List UInt8),Qdl y.1 l y.2 ks/\LN l-y.1<LN l-x.1/\(IntKind.wrap IntKind.i64 ((NI x.1)+Z1)=(NI y.1)/\x.2++Qj5 ks x_1 x_2=y.2/\True)/\True/\True))))) (RT (x.2=Lib.join (List.map (BB ks) l) [(32:UInt8)]))) (by kernel_rfl) ?_
 delta DA GI LI LN N1 N4 NI SI SM Z0 Z1 ZI Qdl Qdm Xq KC QAy QAz QAB QAC QAD QAE QAF Qj5 QAG KD QQF QAK RT
 try simp only[<- dm]
 try simp only[<- dn]
 simp only[eq_self,ne_eq,implies_true,Ba,Int.toNat_natCast,Bf,Bc,decide_eq_true_eq,decide_eq_false_iff_not,true_and,and_true,beq_iff_eq,bne_iff_ne,bne_eq_false_iff_eq,beq_eq_false_iff_ne,Bool.not_eq_true',Bool.not_eq_false',exists_const,forall_const,Prod.exists]
 simp only[BR]
 unfold maxLen at hk hl
 refine⟨⟨0,[],⟨Nat.zero_le _,by simp[Lib.join]⟩,rfl,rfl⟩,?_⟩
 rintro ⟨i,s⟩ ⟨i1,hs⟩
 simp only at i1 hs ⊢
 refine⟨fun hlt=>?_,fun hge=>?_⟩
 ·have hlt':i<l.length:=by omega
  have hlm:i<(l.map (BB ks)).length:=by simpa using hlt'
  have jt:=TZ [32] hlm
  obtain ⟨j1,j2⟩:=RL [32] hlm
  have eg:(l.map (BB ks)).getD i []=BB ks (l.getD i default):=by simp[List.getD_eq_getElem?_getD,hlt']
  have pw:=Gj ks (l.getD i default)
  have w:IntKind.i64.wrap ((i:Int)+1)=((i+1:Nat):Int):=by rw[Bb (by omega) (by omega)];rfl
  rw[eg] at jt j1 j2
  simp only[List.length_cons,List.length_nil] at j2
  refine⟨fun h0=>⟨?_,⟨by omega,hlt⟩,⟨by omega,hlt⟩,l.getD i default,⟨Bg _,hk⟩,l.getD i default,⟨Bl _ _,hq _ (B0 hlt')⟩,?_,i+1,_,⟨hlt',?_⟩,by omega,w,rfl⟩,
   fun h0=>⟨⟨by omega,hlt⟩,⟨by omega,hlt⟩,l.getD i default,⟨Bg _,hk⟩,l.getD i default,⟨Bl _ _,hq _ (B0 hlt')⟩,?_,i+1,_,⟨hlt',?_⟩,by omega,w,rfl⟩⟩
  ·have:=j2 (by omega)
   rw[hs];omega
  ·have:=j2 (by omega)
   rw[pw,hs]
   simp only[List.length_append,List.length_cons,List.length_nil]
   omega
  ·rw[jt,if_pos (by omega),pw,hs]
  ·rw[pw,hs]
   have:i=0:=by omega
   subst this
   simp only[List.take_zero]
   have e0:(Lib.join ([]:List (List UInt8)) [32])=[]:=by simp[Lib.join]
   rw[e0]
   simp only[List.length_nil]
   omega
  ·have:i=0:=by omega
   subst this
   rw[jt,pw,hs]
   simp[Lib.join]
 ·have e:i=l.length:=by omega
  rw[hs,e,List.take_of_length_le (by simp)]
inductive Pt where
 |tx (x:List UInt8)
 |op
 |cl
 |sp
def prT:Pt->List UInt8
 |.tx x=>x
 |.op=>[123]
 |.cl=>[125]
 |.sp=>[59]
def ptW(ks:List Int)(k:Int)(l:List Pt):List Pt:=if ks.contains k=true then .tx [40]::(l++[.tx [41]]) else l
def ptZ(ks:List Int):List Nd->List (List Pt)->List Pt
 |n::l,x::r=>ptW ks n.kd x++ptZ ks l r
 |_,_=>[]
def ptJ:List (List Pt)->List Pt
 | []=>[]
 |x::r=>x++r.flatMap fun y=>.sp::y
mutual
def ptN:Nd->List Pt
 |.mk kd at_ cl tx pr op va ki bo de sl ss =>
  if kd=3 then ptZ [3,4,5] ki (ptL ki)
  else if kd=4 then ptW [16] (kAt ki 0) ((ptL ki).getD 0 [])++(ptL ki).getD 1 []
  else if kd=5 then ptW [4,5] (kAt ki 1) ((ptL ki).getD 1 [])++(ptW [16] (kAt ki 0) ((ptL ki).getD 0 [])++(ptL ki).getD 2 [])
  else if kd=16 then ptZ [4,5,16] ki (ptL ki)
  else if kd=14 then ptW [16] (kAt ki 1) ((ptL ki).getD 1 [])++(ptL ki).getD 0 []
  else if kd=15 then ptW [16] (kAt ki 1) ((ptL ki).getD 1 [])++((ptL ki).getD 0 []++ptW [3,4,5,16,14,15] (kAt ki 2) ((ptL ki).getD 2 []))
  else if kd=10 then .op::(ptJ (ptS bo)++[.cl])
  else [.tx (Bt (.mk kd at_ cl tx pr op va ki bo de sl ss))]
def ptL:List Nd->List (List Pt)
 | []=>[]
 |x::r=>ptN x::ptL r
def ptS:List Sm->List (List Pt)
 | []=>[]
 |x::r=>ptM x::ptS r
def ptM:Sm->List Pt
 |.mk kd _ nm _ te nd=>if kd=2 then .tx nm::.tx [60,45]::ptN nd else if kd=3 then ptN te++(.tx [58]::ptN nd) else ptN nd
end
theorem Ba5:∀l:List Nd,ptL l=l.map ptN
 | []=>by simp only[ptL,List.map_nil]
 |x::r=>by simp only[ptL,List.map_cons,Ba5 r]
theorem Bgd:∀l:List Sm,ptS l=l.map ptM
 | []=>by simp only[ptS,List.map_nil]
 |x::r=>by simp only[ptS,List.map_cons,Bgd r]
def BS(ks:List Int)(n:Nd):List Pt:=ptW ks n.kd (ptN n)
theorem BgF(ks:List Int):∀l:List Nd,ptZ ks l (ptL l)=l.flatMap (BS ks)
 | []=>by simp only[ptL,ptZ,List.flatMap_nil]
 |x::r=>by simp only[ptL,ptZ,List.flatMap_cons,BgF ks r];rfl
theorem WH{l:List Nd}{i:Nat}(h:i<l.length):(ptL l).getD i []=ptN (l.getD i default):=by
 rw[Ba5]
 simp[List.getD_eq_getElem?_getD,h]
theorem II(s:Sm):ptM s=if s.kd=2 then .tx s.nm::.tx [60,45]::ptN s.nd else if s.kd=3 then ptN s.te++(.tx [58]::ptN s.nd) else ptN s.nd:=by
 cases s
 simp only[ptM]
 rfl
theorem Ge(n : Nd) : ptN n=if n.kd=3 then n.ki.flatMap (BS [3, 4, 5])
  else if n.kd=4 then ptW [16] (kAt n.ki 0) ((ptL n.ki).getD 0 [])++(ptL n.ki).getD 1 []
  else if n.kd=5 then ptW [4,5] (kAt n.ki 1) ((ptL n.ki).getD 1 [])++(ptW [16] (kAt n.ki 0) ((ptL n.ki).getD 0 [])++(ptL n.ki).getD 2 [])
  else if n.kd=16 then n.ki.flatMap (BS [4,5,16])
  else if n.kd=14 then ptW [16] (kAt n.ki 1) ((ptL n.ki).getD 1 [])++(ptL n.ki).getD 0 []
  else if n.kd=15 then ptW [16] (kAt n.ki 1) ((ptL n.ki).getD 1 [])++((ptL n.ki).getD 0 []++ptW [3,4,5,16,14,15] (kAt n.ki 2) ((ptL n.ki).getD 2 []))
  else if n.kd=10 then .op::(ptJ (n.bo.map ptM)++[.cl])
  else [.tx (Bt n)]:=by
 cases n
 simp only[ptN,BgF,Bgd]
 rfl
theorem neA{α:Type}{a b:List α}(h:a≠[]):a++b≠[]:=fun e=>h (List.append_eq_nil_iff.1 e).1
def txP(l:List Pt):List UInt8:=Lib.join (l.map prT) [32]
theorem BbJ(y:List UInt8)(r:List (List UInt8))(sep:List UInt8):jT sep (y::r)=sep++Lib.join (y::r) sep:=by
 rw[B7]
 simp[jT]
theorem Ek{a b:List Pt}(ha:a≠[])(hb:b≠[]):txP (a++b)=txP a++(32::txP b):=by
 unfold txP
 rw[List.map_append,Wj _ _ _ (by simpa using ha)]
 cases b with
 |nil=>exact (hb rfl).elim
 |cons y r =>
  rw[List.map_cons,BbJ]
  rfl
theorem UJ(x:Pt):txP [x]=prT x:=by
 unfold txP
 rw[List.map_cons,List.map_nil,B7]
 simp[jT]
theorem E5{x:Pt}{b:List Pt}(hb:b≠[]):txP (x::b)=prT x++(32::txP b):=by
 have:=Ek (a:=[x]) (by simp) hb
 rw[UJ] at this
 exact this
theorem WP(ks:List Int)(k:Int)(l:List Pt)(h:l≠[]):txP (ptW ks k l)=Ee ks k (txP l)/\ptW ks k l≠[]:=by
 unfold ptW Ee
 split
 ·refine⟨?_,by simp⟩
  rw[E5 (by simp),Ek h (by simp),UJ]
  simp[prT,BfL]
 ·exact⟨rfl,h⟩
theorem BcA{α:Type}(f:α->List Pt)(g:α->List UInt8):∀l:List α,l≠[]->(∀x∈l,txP (f x)=g x/\f x≠[])->txP (l.flatMap f)=Lib.join (l.map g) [32]/\l.flatMap f≠[]
 | [],h,_=>(h rfl).elim
 | [x],_,hx=>by
  have:=hx x (by simp)
  rw[List.flatMap_cons,List.flatMap_nil,List.append_nil,List.map_cons,List.map_nil,B7]
  exact⟨by rw[this.1];simp[jT],this.2⟩
 |x::y::r,_,hx=>by
  have h1:=hx x (by simp)
  have h2:=BcA f g (y::r) (by simp) fun z hz=>hx z (by simp[List.mem_cons.1 hz])
  rw[List.flatMap_cons]
  refine⟨?_,by simp[h1.2]⟩
  rw[Ek h1.2 h2.2,h1.1,h2.1]
  rw[List.map_cons (a:=x),B7 (g x),List.map_cons,BbJ]
  rfl
theorem Bp9{α:Type}(f:α->List Pt)(g:α->List UInt8):∀l:List α,l≠[]->(∀x∈l,txP (f x)=g x/\f x≠[])->txP (ptJ (l.map f))=Lib.join (l.map g) [32,59,32]/\ptJ (l.map f)≠[]
 | [],h,_=>(h rfl).elim
 |x::r,_,hx=>by
  have h1:=hx x (by simp)
  have hr:∀l:List α,(∀x∈l,txP (f x)=g x/\f x≠[])->∀a:List Pt,a≠[]->txP (a++(l.map f).flatMap fun y=>.sp::y)=txP a++jT [32,59,32] (l.map g):=by
   intro l
   induction l with
   |nil=>intro _ a _;simp[jT]
   |cons y l ih =>
    intro hl a ha
    have hy:=hl y (by simp)
    rw[List.map_cons,List.flatMap_cons,<- List.append_assoc,ih (fun z hz=>hl z (by simp[hz])) _ (by simp[ha]),Ek ha (by simp),E5 hy.2,hy.1,List.map_cons]
    simp[jT,prT]
  rw[List.map_cons,ptJ,List.map_cons,B7,hr r (fun z hz=>hx z (by simp[hz])) _ h1.2,h1.1]
  exact⟨rfl,by simp[h1.2]⟩
theorem Wo(n:Nd)(hv:Bz n=true):txP (ptN n)=Bt n/\ptN n≠[]:=by
 obtain ⟨L2,L3,_⟩:=IK hv
 have vk:=(EK hv).1
 have kid:∀i,i<n.ki.length->txP (ptN (n.ki.getD i default))=Bt (n.ki.getD i default)/\ptN (n.ki.getD i default)≠[]:=fun i hi =>
  have hm:n.ki.getD i default∈n.ki:=B0 hi
  Wo _ (vk _ hm)
 have kids:∀ks:List Int,n.ki≠[]->txP (n.ki.flatMap (BS ks))=Lib.join (n.ki.map (BB ks)) [32]/\n.ki.flatMap (BS ks)≠[]:=fun ks hne =>
  BcA (BS ks) (BB ks) n.ki hne fun x hx=>by
   have h:=Wo x (vk x hx)
   have h2:=WP ks x.kd (ptN x) h.2
   unfold BS BB
   rw[h2.1,h.1]
   exact⟨rfl,h2.2⟩
 have sg:∀i,i<n.ki.length->(BW n.ki).getD i []=Bt (n.ki.getD i default):=fun i hi=>Mc hi
 have pg:∀i,i<n.ki.length->(ptL n.ki).getD i []=ptN (n.ki.getD i default):=fun i hi=>WH hi
 have ne3:(n.kd=3\/n.kd=16)->n.ki≠[]:=fun h e=>by
  rcases Ea hv (by omega) with hc | ⟨hc,_⟩
  ·unfold C5 at hc
   rcases h with h | h<;>simp[h] at hc
  ·unfold CP at hc
   rcases h with h | h<;>simp[h,e,Bm] at hc
 rw[Ge,CT]
 by_cases k3:n.kd=3
 ·simp only[k3]
  exact kids _ (ne3 (.inl k3))
 by_cases k4:n.kd=4
 ·have hL:n.ki.length=2:=L2 (.inl k4)
  obtain ⟨a1,a2⟩:=kid 0 (by omega)
  obtain ⟨b1,b2⟩:=kid 1 (by omega)
  obtain ⟨w1,w2⟩:=WP [16] (kAt n.ki 0) _ a2
  simp only[k4,Int.reduceEq,if_false,if_true]
  rw[sg 0 (by omega),sg 1 (by omega),pg 0 (by omega),pg 1 (by omega)]
  refine⟨?_,neA w2⟩
  rw[Ek w2 b2,w1,a1,b1]
  simp only[List.append_assoc,List.cons_append,List.nil_append]
  try rfl
 by_cases k5:n.kd=5
 ·have hL:n.ki.length=3:=L3 (.inl k5)
  obtain ⟨a1,a2⟩:=kid 0 (by omega)
  obtain ⟨b1,b2⟩:=kid 1 (by omega)
  obtain ⟨c1,c2⟩:=kid 2 (by omega)
  obtain ⟨w1,w2⟩:=WP [16] (kAt n.ki 0) _ a2
  obtain ⟨v1,v2⟩:=WP [4,5] (kAt n.ki 1) _ b2
  simp only[k5,Int.reduceEq,if_false,if_true]
  rw[sg 0 (by omega),sg 1 (by omega),sg 2 (by omega),pg 0 (by omega),pg 1 (by omega),pg 2 (by omega)]
  refine⟨?_,neA v2⟩
  rw[Ek v2 (neA w2),Ek w2 c2,v1,w1,a1,b1,c1]
  simp only[List.append_assoc,List.cons_append,List.nil_append]
  try rfl
 by_cases k16:n.kd=16
 ·simp only[k16]
  exact kids _ (ne3 (.inr k16))
 by_cases k14:n.kd=14
 ·have hL:n.ki.length=2:=L2 (.inr k14)
  obtain ⟨a1,a2⟩:=kid 0 (by omega)
  obtain ⟨b1,b2⟩:=kid 1 (by omega)
  obtain ⟨v1,v2⟩:=WP [16] (kAt n.ki 1) _ b2
  simp only[k14,Int.reduceEq,if_false,if_true]
  rw[sg 0 (by omega),sg 1 (by omega),pg 0 (by omega),pg 1 (by omega)]
  refine⟨?_,neA v2⟩
  rw[Ek v2 a2,v1,a1,b1]
  simp only[List.append_assoc,List.cons_append,List.nil_append]
  try rfl
 by_cases k15:n.kd=15
 ·have hL:n.ki.length=3:=L3 (.inr k15)
  obtain ⟨a1,a2⟩:=kid 0 (by omega)
  obtain ⟨b1,b2⟩:=kid 1 (by omega)
  obtain ⟨c1,c2⟩:=kid 2 (by omega)
  obtain ⟨v1,v2⟩:=WP [16] (kAt n.ki 1) _ b2
  obtain ⟨w1,w2⟩:=WP [3,4,5,16,14,15] (kAt n.ki 2) _ c2
  simp only[k15,Int.reduceEq,if_false,if_true]
  rw[sg 0 (by omega),sg 1 (by omega),sg 2 (by omega),pg 0 (by omega),pg 1 (by omega),pg 2 (by omega)]
  refine⟨?_,neA v2⟩
  rw[Ek v2 (neA a2),Ek a2 w2,v1,w1,a1,b1,c1]
  simp only[List.append_assoc,List.cons_append,List.nil_append]
  try rfl
 by_cases k10:n.kd=10
 ·have h1:=hv
  rw[CI,Bool.and_eq_true,if_pos k10,Bool.and_eq_true] at h1
  have hb:=h1.2.2
  unfold BP at hb
  rw[Bool.and_eq_true] at hb
  have hbn:n.bo≠[]:=fun e=>by
   have:=h1.2.1
   unfold OU at this
   simp[e] at this
  have st:∀s∈n.bo,txP (ptM s)=B3 s/\ptM s≠[]:=fun s hs=>by
   obtain ⟨q1,q2⟩:=Ej hb.2 s hs
   have z1:=Nd.size_stmt hs
   have z2:=Sm.size_nd s
   have z3:=Sm.size_te s
   have hn:=Wo s.nd q1
   rw[II,OJ]
   by_cases c2:s.kd=2
   ·rw[if_pos c2,if_pos c2,E5 (by simp),E5 hn.2,hn.1]
    simp[prT]
   ·rw[if_neg c2,if_neg c2]
    by_cases c3:s.kd=3
    ·have hv2:Bz s.te=true:=by
      rcases q2 with ⟨_,q,_⟩ | ⟨q,_⟩
      ·exact q
      ·exact (q c3).elim
     have ht:=Wo s.te hv2
     rw[if_pos c3,if_pos c3,Ek ht.2 (by simp),E5 hn.2,hn.1,ht.1]
     simp[prT]
    ·rw[if_neg c3,if_neg c3]
     exact hn
  obtain ⟨j1,j2⟩:=Bp9 ptM B3 n.bo hbn st
  simp only[k10]
  refine⟨?_,by simp⟩
  simp only[Int.reduceEq,if_false,if_true]
  rw[E5 (by simp),Ek j2 (by simp),UJ,j1]
  simp[prT]
 ·rw[if_neg k3,if_neg k4,if_neg k5,if_neg k16,if_neg k14,if_neg k15,if_neg k10]
  refine⟨?_,by simp⟩
  rw[UJ,prT]
termination_by SizeOf.sizeOf n
decreasing_by
 ·exact Nd.size_kid hm
 ·exact Nd.size_kid hx
 ·omega
 ·omega
def BoG(l:List UInt8):Nat:=l.foldl (fun v b=>v*10+(b.toNat-48)) 0
def BlR(b:UInt8):Bool:=decide (48<=b.toNat)&&decide (b.toNat<=57)
theorem Bbr{k:Nat}(h:k<10):(UInt8.ofNat (48+k)).toNat=48+k:=by
 rw[UInt8.toNat_ofNat'];omega
theorem Rg(u:Nat):(∀b∈Lib.decDigits u,BlR b=true)/\BoG (Lib.decDigits u)=u/\Lib.decDigits u≠[]:=by
 induction u using Nat.strongRecOn with
 |_ u ih =>
  rw[Lib.decDigits]
  by_cases h:u<10
  ·rw[dif_pos h]
   refine⟨fun b hb=>?_,?_,by simp⟩
   ·rw[List.mem_singleton.1 hb,BlR,Bbr h]
    simp only[Bool.and_eq_true,decide_eq_true_eq];omega
   ·simp only[BoG,List.foldl_cons,List.foldl_nil,Bbr h];omega
  ·rw[dif_neg h]
   obtain ⟨h1,h2,h3⟩:=ih (u / 10) (by omega)
   have hm:u % 10<10:=by omega
   refine⟨fun b hb=>?_,?_,by simp⟩
   ·rcases List.mem_append.1 hb with hb | hb
    ·exact h1 b hb
    ·rw[List.mem_singleton.1 hb,BlR,Bbr hm]
     simp only[Bool.and_eq_true,decide_eq_true_eq];omega
   ·unfold BoG at h2 ⊢
    rw[List.foldl_append,h2]
    simp only[List.foldl_cons,List.foldl_nil,Bbr hm];omega
def Bgj(b:UInt8):Bool:=BlR b||b==95
theorem Bed(z:Int):∃b t,BA z=b::t/\Bgj b=true:=by
 unfold BA
 split
 ·exact⟨95,_,rfl,rfl⟩
 ·obtain ⟨h1,_,h3⟩:=Rg z.toNat
  cases hd:Lib.decDigits z.toNat with
  |nil=>exact (h3 hd).elim
  |cons b t=>exact⟨b,t,rfl,by rw[Bgj,h1 b (by rw[hd];exact List.mem_cons_self)];rfl⟩
def Bi7:List UInt8->Nat
 | []=>0
 |b::t=>if b.toNat<128 then b.toNat
  else if b.toNat<224 then (b.toNat-192)*64+((t.getD 0 0).toNat-128)
  else if b.toNat<240 then (b.toNat-224)*4096+((t.getD 0 0).toNat-128)*64+((t.getD 1 0).toNat-128)
  else (b.toNat-240)*262144+((t.getD 0 0).toNat-128)*4096+((t.getD 1 0).toNat-128)*64+((t.getD 2 0).toNat-128)
def Wz(c:Nat):List UInt8 :=
 if c<0x80 then [UInt8.ofNat c]
 else if c<0x800 then [UInt8.ofNat (0xC0+c / 64),UInt8.ofNat (0x80+c % 64)]
 else if c<0x10000 then [UInt8.ofNat (0xE0+c / 4096),UInt8.ofNat (0x80+c / 64 % 64),UInt8.ofNat (0x80+c % 64)]
 else [UInt8.ofNat (0xF0+c / 262144),UInt8.ofNat (0x80+c / 4096 % 64),UInt8.ofNat (0x80+c / 64 % 64),UInt8.ofNat (0x80+c % 64)]
theorem Bnt{n:Nat}(h1:n<=1114111)(h2:n<55296\/57343<n):Mp (n:Int)=Wz n:=by
 have hv:Utf8.valid (n:Int)=true:=by
  simp only[Utf8.valid,Bool.or_eq_true,Bool.and_eq_true,decide_eq_true_eq]
  omega
 have key : ∀c : Nat, ((if c<0x80 then ⟨#[UInt8.ofNat c]⟩
   else if c<0x800 then ⟨#[UInt8.ofNat (0xC0+c / 64),UInt8.ofNat (0x80+c % 64)]⟩
   else if c<0x10000 then ⟨#[UInt8.ofNat (0xE0+c / 4096),UInt8.ofNat (0x80+c / 64 % 64),UInt8.ofNat (0x80+c % 64)]⟩
   else ⟨#[UInt8.ofNat (0xF0+c / 262144),UInt8.ofNat (0x80+c / 4096 % 64),UInt8.ofNat (0x80+c / 64 % 64),UInt8.ofNat (0x80+c % 64)]⟩:ByteArray).data.toList)=Wz c:=fun c=>by
  unfold Wz
  (repeat' split)<;>rfl
 unfold Mp Utf8.encode
 rw[if_pos hv,Int.toNat_natCast]
 exact key n
theorem b8{k:Nat}(h:k<256):(UInt8.ofNat k).toNat=k:=by rw[UInt8.toNat_ofNat'];omega
def Gm(q:UInt8):List UInt8->Nat
 | []=>0
 | [c]=>if c=q then 0 else 1
 |c::d::r=>if c=q then 0 else if c=92 then 2+Gm q r else 1+Gm q (d::r)
def IB(r:List UInt8):Nat:=r.findIdx (·==32)
def TG:List UInt8->Nat
 | []=>0
 |q::t=>if q=34\/q=39 then min (Gm q t+2) (t.length+1) else IB (q::t)
theorem Baj{q c:UInt8}(h1:c≠q)(h2:c≠92)(r:List UInt8):Gm q (c::r)=1+Gm q r:=by
 cases r with
 |nil=>simp[Gm,h1]
 |cons d r=>rw[Gm,if_neg h1,if_neg h2]
theorem Ox{q:UInt8}:∀(l r:List UInt8),(∀b∈l,b≠q/\b≠92)->Gm q (l++r)=l.length+Gm q r
 | [],r,_=>by simp
 |c::l,r,h=>by
  rw[List.cons_append,Baj (h c (by simp)).1 (h c (by simp)).2,Ox l r fun b hb=>h b (by simp[hb]),List.length_cons]
  omega
theorem IS{q d:UInt8}(h:(92:UInt8)≠q)(r:List UInt8):Gm q (92::d::r)=2+Gm q r:=by
 rw[Gm,if_neg h,if_pos rfl]
theorem BcS{q:UInt8}(r:List UInt8):Gm q (q::r)=0:=by
 cases r with
 |nil=>simp[Gm]
 |cons d r=>rw[Gm,if_pos rfl]
theorem Bau{m:Nat}(hm:m<=1114111)(h128:128<=m):∀b∈Wz m,128<=b.toNat:=by
 intro b hb
 have big:∀x:Nat,128<=x->x<256->128<=(UInt8.ofNat x).toNat:=fun x h1 h2=>by rw[b8 h2];exact h1
 unfold Wz at hb
 rw[if_neg (by omega)] at hb
 split at hb
 ·simp only[List.mem_cons,List.not_mem_nil,or_false] at hb
  rcases hb with rfl | rfl<;>exact big _ (by omega) (by omega)
 ·split at hb
  ·simp only[List.mem_cons,List.not_mem_nil,or_false] at hb
   rcases hb with rfl | rfl | rfl<;>exact big _ (by omega) (by omega)
  ·simp only[List.mem_cons,List.not_mem_nil,or_false] at hb
   rcases hb with rfl | rfl | rfl | rfl<;>exact big _ (by omega) (by omega)
theorem Ow{c:Int}(h0:0<=c)(h1:c<=1114111):(c<128->Mp c=[UInt8.ofNat c.toNat])/\(128<=c->∀b∈Mp c,128<=b.toNat):=by
 obtain ⟨n,rfl⟩:∃n:Nat,c=n:=⟨c.toNat,by omega⟩
 by_cases h2:n<55296\/57343<n
 ·rw[Bnt (by omega) h2]
  refine⟨fun h=>?_,fun h=>Bau (by omega) (by omega)⟩
  unfold Wz
  rw[if_pos (by omega)]
  rfl
 ·refine⟨fun h=>by omega,fun _=>?_⟩
  have hv:¬Utf8.valid (n:Int)=true:=by
   simp only[Utf8.valid,Bool.or_eq_true,Bool.and_eq_true,decide_eq_true_eq]
   omega
  have e:Mp (n:Int)=Wz 65533:=by
   unfold Mp Utf8.encode
   rw[if_neg hv]
   decide +kernel
  rw[e]
  exact Bau (by omega) (by omega)
theorem BeT{n:Nat}(h:n<128):∀b∈GE n,b≠34/\b≠39/\b≠92:=by
 have:∀n,n<128->∀b∈GE n,b≠34/\b≠39/\b≠92:=by decide +kernel
 exact this n h
theorem Bj5{q:Nat}(hq:q=34\/q=39){c:Int}(h0:0<=c)(h1:c<=1114111)(r:List UInt8):Gm (UInt8.ofNat q) (Gl c q++r)=(Gl c q).length+Gm (UInt8.ofNat q) r:=by
 have q92:(92:UInt8)≠UInt8.ofNat q:=by rcases hq with rfl | rfl<;>decide
 have hb:=Ow h0 h1
 unfold Gl
 by_cases c1:c=10
 ·rw[if_pos c1];exact IS q92 r
 rw[if_neg c1]
 by_cases c2:c=9
 ·rw[if_pos c2];exact IS q92 r
 rw[if_neg c2]
 by_cases c3:c=13
 ·rw[if_pos c3];exact IS q92 r
 rw[if_neg c3]
 by_cases c4:c=92\/c=q
 ·rw[if_pos c4,hb.1 (by omega)]
  exact IS q92 r
 rw[if_neg c4]
 by_cases c5:c<32\/c=127
 ·rw[if_pos c5]
  have hx:=BeT (n:=c.toNat) (by omega)
  have e:([92,117,123]++GE c.toNat++[125]++r:List UInt8)=92::117::((123::GE c.toNat++[125])++r):=by simp
  rw[e,IS q92,Ox]
  ·simp;omega
  ·intro b hbm
   simp only[List.cons_append,List.mem_cons,List.mem_append,List.not_mem_nil,or_false] at hbm
   rcases hbm with rfl | hbm | rfl
   ·rcases hq with rfl | rfl<;>decide
   ·obtain ⟨x1,x2,x3⟩:=hx b hbm
    rcases hq with rfl | rfl
    ·exact⟨x1,x3⟩
    ·exact⟨x2,x3⟩
   ·rcases hq with rfl | rfl<;>decide
 ·rw[if_neg c5]
  refine Ox _ _ fun b hbm=>?_
  by_cases c6:c<128
  ·rw[hb.1 c6,List.mem_singleton] at hbm
   obtain ⟨n,rfl⟩:∃n:Nat,c=n:=⟨c.toNat,by omega⟩
   have e:b.toNat=n:=by rw[hbm,Int.toNat_natCast];exact b8 (by omega)
   constructor
   ·intro e2
    have:=congrArg UInt8.toNat e2
    rw[e,b8 (by omega)] at this
    omega
   ·intro e2
    rw[e2] at e
    have e:(92:Nat)=n:=e
    omega
  ·have:=hb.2 (by omega) b hbm
   constructor
   ·intro e2
    rw[e2,b8 (by omega)] at this
    omega
   ·intro e2
    rw[e2] at this
    exact absurd this (by decide)
theorem Bb4{q:Nat}(hq:q=34\/q=39):∀(l:List Int) (r:List UInt8),(∀c∈l,0<=c/\c<=1114111)->Gm (UInt8.ofNat q) (Ob q l++r)=(Ob q l).length+Gm (UInt8.ofNat q) r
 | [],r,_=>by simp[Ob]
 |c::l,r,h=>by
  rw[RZ,List.append_assoc,Bj5 hq (h c (by simp)).1 (h c (by simp)).2,Bb4 hq l r fun x hx=>h x (by simp[hx]),List.length_append]
  omega
def Bda(x:List UInt8):Prop:=x≠[]/\∀r:List UInt8,(r=[]\/∃t,r=32::t)->TG (x++r)=x.length
theorem WT:∀(x r:List UInt8),(∀b∈x,b≠32)->(r=[]\/∃t,r=32::t)->IB (x++r)=x.length
 | [],r,_,hr=>by
  rcases hr with rfl | ⟨t,rfl⟩
  ·rfl
  ·simp[IB,List.findIdx_cons]
 |b::x,r,h,hr=>by
  have:=WT x r (fun c hc=>h c (by simp[hc])) hr
  unfold IB at this ⊢
  rw[List.cons_append,List.findIdx_cons,this]
  have hb:(b==32)=false:=by simpa using h b (by simp)
  rw[hb]
  simp
theorem Ma{x:List UInt8}(hx:x≠[])(h:∀b∈x,b≠32)(hq:x.getD 0 0≠34/\x.getD 0 0≠39):Bda x:=by
 refine⟨hx,fun r hr=>?_⟩
 have e:=WT x r h hr
 cases x with
 |nil=>exact (hx rfl).elim
 |cons b x =>
  have hq:b≠34/\b≠39:=hq
  rw[List.cons_append,TG,if_neg (by rintro (h | h);exact hq.1 h;exact hq.2 h)]
  exact e
theorem Bdx{q:Nat}(hq:q=34\/q=39){l:List Int}(h:∀c∈l,0<=c/\c<=1114111):Bda (IG q l):=by
 have e:IG q l=UInt8.ofNat q::(Ob q l++[UInt8.ofNat q]):=by
  unfold IG
  rw[(Ow (c:=(q:Int)) (by omega) (by omega)).1 (by omega)]
  rfl
 rw[e]
 refine⟨by simp,fun r hr=>?_⟩
 have hq2:UInt8.ofNat q=34\/UInt8.ofNat q=39:=by rcases hq with rfl | rfl<;>decide
 rw[List.cons_append,TG,if_pos hq2,List.append_assoc,Bb4 hq l _ h,List.cons_append,List.nil_append,BcS]
 simp only[List.length_append,List.length_cons,List.length_nil]
 omega
end
end Go.Proofs.YtnlplccjbojloaaGreatDoor
