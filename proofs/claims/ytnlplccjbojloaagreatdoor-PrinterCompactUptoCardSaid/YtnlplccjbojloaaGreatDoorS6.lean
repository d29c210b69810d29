/- Functions of the given program and what each of them computes: lemmas towards the statement, their conditions stated with each of them. -/
import Derived.Test.YtnlplccjbojloaaGreatDoorS5
namespace Go.Proofs.YtnlplccjbojloaaGreatDoor
open Go Go.Ab
set_option maxRecDepth 100000
noncomputable section
theorem Bii(b:Nd):BB [16,14,15,3,4,5] b=BB [3,4,5,16,14,15] b:=by
 unfold BB Ee
 have e:[16,14,15,3,4,5].contains b.kd=[3,4,5,16,14,15].contains b.kd:=by
  rw[Bool.eq_iff_iff]
  simp only[List.contains_eq_mem,decide_eq_true_eq,List.mem_cons,List.not_mem_nil,or_false]
  omega
 rw[e]
theorem Bem:BB [16,4,5]=BB [4,5,16]:=by
 funext b
 unfold BB Ee
 have e:[16,4,5].contains b.kd=[4,5,16].contains b.kd:=by
  rw[Bool.eq_iff_iff]
  simp only[List.contains_eq_mem,decide_eq_true_eq,List.mem_cons,List.not_mem_nil,or_false]
  omega
 rw[e]
def BeI(n:Nd)(q:Nd->Prop):Con:=fun k ds S=>match k with
 |130=>some (pA ds S (.str (Wb n)) (isN2 n ds []))
 |129=>some (pA ds S (.str (Lib.join (n.bo.map B3) [32,59,32])) (wkL ds [gsl 34 Sm.row1 n.bo,.str [32,59,32]]/\n.kd=10/\(Lib.join (n.bo.map B3) [32,59,32]).length<=20000000000000))
 |126=>match ds with
  | [_,.sl 1 m f _]=>some (pA ds S (.str (Lib.join (n.ki.map (BB (Bk m f))) [32])) (wkL ds [gsl 15 Nd.row1 n.ki,isl (Bk m f) .any]/\m<=maxLen/\(Lib.join (n.ki.map (BB (Bk m f))) [32]).length<=20000000000000))
  |_=>none
 |k=>BaU q k ds S
theorem BhG{n:Nd}{q:Nd->Prop}(ho:n.ok)(hn:n.sm)(h:∀b,q b->RRShow b)(hq:∀b∈n.ki,q b)(hs:n.kd=10->∀s∈n.bo,q s.nd/\(s.kd=3->q s.te)/\s.nm.length<=BC):ConOk Tryz.prog (BeI n q):=by
 intro k ds S A hh
 unfold BeI at hh
 split at hh
 ·injection hh with hh;subst hh
  exact Bo fun e=>CD.at_ (CD.wk (Boh n ho) e) _
 ·injection hh with hh;subst hh
  exact Bo fun ⟨e,hk,hj⟩=>CD.at_ (CD.wk (Bnn q n.bo h (hs hk) (Cl (Cc hn).2.2) hj) e) _
 ·split at hh
  ·injection hh with hh;subst hh
   exact Bo fun ⟨e,hm,hj⟩=>CD.at_ (CD.wk (Boq q n.ki _ h hq (Cl (Cc hn).2.1) (by rw[BJ];exact hm) hj) e) _
  ·cases hh
 ·exact BaF h _ _ _ _ hh
noncomputable def Ersh(n:Nd)(q:Nd->Prop):Senv:={ EC (BeI n q) 140 7 [11,14,20,40,73,93,127,133] (fun id=>match id with | 9=>([0,1,2,3,4,5,6,7,8,12,13,14,15,9,10,11,16,17,18],[9,10,16]) | 11=>([0,1,2,3,4,5,6,7,8,12,13,14,15,16,17,18,19,20,25,26,27,28,9,10,11,21,22,23,24,29,30,31],[9,10,21,22,29]) | 13=>([0,1,2,3,4,5,6,7,8,12,13,14,15,9,10,11,16,17,18],[9,10,16]) | 16=>([0,1,2,3,4,5,6,7,8,12,13,14,15,19,20,21,22,23,24,25,26,27,9,10,11,16,17,18,28,29,30,31],[9,10,16,28,29]) | _=>([],[])) with mg:=fun _=>2 }
theorem Bhj{n:Nd}(hv:Bz n=true)(h3:n.kd≠3)(h4:n.kd≠4)(h5:n.kd≠5)(h14:n.kd≠14)(h15:n.kd≠15)(h16:n.kd≠16)(h10:n.kd≠10):Wb n=Bt n:=by
 rw[CT,if_neg h3,if_neg h4,if_neg h5,if_neg h16,if_neg h14,if_neg h15]
 have hl:C5 n=true:=by
  rcases Ea hv h10 with hc | ⟨hc,_⟩
  ·exact hc
  ·unfold CP at hc
   simp[h3,h4,h5,h14,h15,h16] at hc
 unfold C5 at hl
 rw[Bool.and_eq_true] at hl
 have hl:=hl.2
 unfold Wb
 by_cases k1:n.kd=1
 ·simp[k1]
 by_cases k2:n.kd=2
 ·simp[k2]
 by_cases k6:n.kd=6
 ·simp[k6]
 by_cases k7:n.kd=7
 ·simp[k7]
 by_cases k8:n.kd=8
 ·simp[k8]
 by_cases k9:n.kd=9
 ·simp[k9]
 by_cases k11:n.kd=11
 ·simp[k11]
 by_cases k12:n.kd=12
 ·simp[k12]
 by_cases k13:n.kd=13
 ·simp[k13]
 by_cases k17:n.kd=17
 ·simp[k17]
 simp[k1,k2,k6,k7,k8,k9,k11,k12,k13,k17] at hl
def K7(a:Nd):Int:=Nd.kd a
def VL(a:Nd):List Nd:=Nd.ki a
def HO:Arr:=DA
def Vj:Nd:=Nd.mk Z0 Z0 Z0 [] Z0 Z0 HO [] [] Z0 Z0 Z0
def YO(a:Nd):D:=D.sl 15 (LN (VL a)) (fun i=>Nd.row1 (List.getD (VL a) i Vj)) Mode.any
def Qlx:List (List D):=[[ZI 4],[ZI 5]]
def QGP:List (List D):=[ZI 3]::Qlx
def QGQ(a:Nat):List D:=List.getD QGP a []
def QGR:List Int:=Bk (3:Nat) fun i=>QGQ i
def QGS(a:Nd):List UInt8:=Lib.join (List.map (BB QGR) (VL a)) [(32:UInt8)]
def QG(a:Nd):List UInt8:=Bt a
def Qw(a:Nd):Int:=(LI (VL a))
def K8(a:Nd):Nd:=List.getD (VL a) N0 Vj
def QeJ:Sm:=Sm.mk Z0 Z0 [] Z0 Vj Vj
def Qly(a:Nd):D:=D.agg (Nd.rowE (K8 a))
def QGW:List D:=[D.sl N1 N1 (fun i=>List.getD [[ZI 16]] i []) Mode.full]
def Qlz(a:Nd):D:=D.agg (Nd.row1 a)
def QGX:List Int:=Bk N1 fun i=>List.getD [[ZI 16]] i []
def QGY(a:Nd):List D:=[Qlz a,SI QGX]
def QGZ(a b:Nd):Prop:=wkL (Qly a::QGW) (QGY b)/\N1<=9223372036854775807
def Qh(a:Nat)(b:Nd):Prop:=SM a/\SM (YO b)
def QG0(a:Nd):Bool:=List.contains QGX (K7 a)
def QeK(a:Nd):List D:=[D.bool (QG0 a)]
def QG1(a b c:Nd)(d:Nd->Prop):Prop:=isN a (Qly b::QeK c) (QeK c)/\d a
def QlA(a b:Nd):List UInt8:=Bby (QG0 a) (QG b)
def QG2(a b:Nd):Nat:=LN (QlA a b)
def QlB(a b:Nd):Nat:=QG2 a b+N1
def K9(a:Nd):Nd:=List.getD (VL a) N1 Vj
def HP(a:Nd):D:=D.agg (Nd.rowE (K9 a))
def QG6(a b:Nd):List UInt8:=QlA a b++[32]
def QG7(a b c:Nd):Nat:=LN (QG6 a b)+LN (QG c)
def QlC(a b c:Nd):List UInt8:=QG6 a b++QG c
def QG8(a b c d:Nd):Prop:=∀(y:Unit),True->Be (QG7 a b c<=9223372036854775807) (RT (QlC a b c=QG d))
def QG9(a:Nat):List D:=List.getD Qlx a []
def QHa:List Int:=Bk N2 fun i=>QG9 i
def QHb(a:Nd):Bool:=List.contains QHa (K7 a)
def QHc(a:Nd):List D:=[D.bool (QHb a)]
def QHe(a b:Nd):List UInt8:=Bby (QHb a) (QG b)
def QHf(a b:Nd):List UInt8:=QHe a b++[32]
def QHg(a b c d:Nd):List UInt8:=QHf a b++QlA c d
def Ja(a:Nd):Nd:=List.getD (VL a) N2 Vj
def QlD(a:Nd):D:=D.agg (Nd.rowE (Ja a))
def QHk(a b c d:Nd):List UInt8:=QHg a b c d++[32]
def QHl(a b:Nd):Prop:=wkL (HP a::QGW) (QGY b)/\N1<=9223372036854775807
def QHm(a b c:Nd)(d:Nd->Prop):Prop:=isN a (HP b::QeK c) (QeK c)/\d a
def QHn(a b:Nd)(c:Nd->Prop):Prop:=isN a [Qly b] []/\c a
def QHo(a:Nat):List D:=List.getD ([ZI 16]::[ZI 14]::[ZI 15]::QGP) a []
def QHp:List Int:=Bk N6 fun i=>QHo i
def QHq(a:Nd):Bool:=List.contains QHp (K7 a)
def QHr(a:Nd):List D:=[D.bool (QHq a)]
def QHs(a b c:Nd):List UInt8:=QlC a b c++[32]
def QHt(a b:Nd):List UInt8:=Bby (QHq a) (QG b)
def QHu(a:Nat):List D:=List.getD ([ZI 16]::Qlx) a []
def QHv:List Int:=Bk (3:Nat) fun i=>QHu i
def QHw(a:Nd):List UInt8:=Lib.join (List.map (BB QHv) (VL a)) [(32:UInt8)]
def QlE(a:Nd):List Sm:=Nd.bo a
def QHx(a:Nd):D:=D.sl 34 (LN (QlE a)) (fun i=>Sm.row1 (List.getD (QlE a) i QeJ)) Mode.any
def QHy(a:Nd):List D:=[QHx a,D.str [32,59,32]]
def QHz(a:Nd):List UInt8:=Lib.join (List.map B3 (QlE a)) [(32:UInt8),(59:UInt8),(32:UInt8)]
def QHA(a:Nd):Nat:=LN (QHz a)
def QHB(a:Nd):List UInt8:=List.append [] (QHz a)
theorem BkJ(n : Nd)(q : Nd -> Prop)(hv : Bz n=true)(ho : n.ok)(hn : n.sm)(hz : szN n<=16384)(h : ∀b, q b -> RRShow b)(hq : ∀b∈n.ki, q b)(hs : n.kd=10 -> ∀s∈n.bo, q s.nd /\ (s.kd=3 -> q s.te) /\ s.nm.length<=BC) :
  CD 114 [.agg n.row2] (.str (Bt n)):=by
 refine Bh (A:=sC _ _) (x:=()) (E:=Ersh n q) (eOk (BhG ho hn h hq hs) rfl) Tryz.func114 rfl (by kernel_rfl) rfl (by simp[sC,Ersh,EC,E0]) ?_
 refine Bj (T :=
  ∀(x:Nat),True->SM x/\ifB (K7 n==3) (SM x/\∃(x:Unit),(wkL [YO n,D.sl N1 (3:Nat) (fun i=>QGQ i) Mode.full] [YO n,SI QGR]/\(3:Nat)<=9223372036854775807/\LN (QGS n)<=20000000000000)/\∀(y:Unit),True->RT (QGS n=QG n)) (ifB (K7 n==4) (SM x/\Be (Z0<=Z0/\Z0<Qw n) (SM x/\Be (Z0<=Z0/\Z0<Qw n) (SM x/\Be (Z0<=Z1/\Z1<Qw n) (∃(x_1:Nd),QGZ n x_1/\∀(y:Unit),True->Qh x n/\Qh x n/\∃(x_2:Nd),QG1 x_2 n x_1 q/\∀(y:Unit),True->Qh x n/\Be (QlB x_1 x_2<=9223372036854775807) (∃(x:Nd),(isN x [HP n] []/\q x)/\QG8 x_1 x_2 x n))))) (ifB (K7 n==5) (SM x/\Be (Z0<=Z1/\Z1<Qw n) (SM x/\Be (Z0<=Z1/\Z1<Qw n) (SM x/\Be (Z0<=Z0/\Z0<Qw n) (SM x/\Be (Z0<=Z0/\Z0<Qw n) (SM x/\Be (Z0<=2/\(2:Int)<Qw n) (∃(x_1:Nd),(wkL [HP n,D.sl N1 N2 (fun i=>QG9 i) Mode.full] [Qlz x_1,SI QHa]/\N2<=9223372036854775807)/\∀(y:Unit),True->Qh x n/\Qh x n/\Qh x n/\Qh x n/\∃(x_2:Nd),(isN x_2 (HP n::QHc x_1) (QHc x_1)/\q x_2)/\∀(y:Unit),True->Qh x n/\Qh x n/\Qh x n/\Be (LN (QHe x_1 x_2)+N1<=9223372036854775807) (∃(x_3:Nd),QGZ n x_3/\∀(y:Unit),True->Qh x n/\Qh x n/\∃(x_4:Nd),QG1 x_4 n x_3 q/\∀(y:Unit),True->Qh x n/\Be (LN (QHf x_1 x_2)+QG2 x_3 x_4<=9223372036854775807) (Be (LN (QHg x_1 x_2 x_3 x_4)+N1<=9223372036854775807) (∃(x:Nd),(isN x [QlD n] []/\q x)/\∀(y:Unit),True->Be (LN (QHk x_1 x_2 x_3 x_4)+LN (QG x)<=9223372036854775807) (RT (QHk x_1 x_2 x_3 x_4++QG x=QG n))))))))))) (ifB (K7 n==14) (SM x/\Be (Z0<=Z1/\Z1<Qw n) (SM x/\Be (Z0<=Z1/\Z1<Qw n) (SM x/\Be (Z0<=Z0/\Z0<Qw n) (∃(x_1:Nd),QHl n x_1/\∀(y:Unit),True->Qh x n/\Qh x n/\∃(x_2:Nd),QHm x_2 n x_1 q/\∀(y:Unit),True->Qh x n/\Be (QlB x_1 x_2<=9223372036854775807) (∃(x:Nd),QHn x n q/\QG8 x_1 x_2 x n))))) (ifB (K7 n==15) (SM x/\Be (Z0<=Z1/\Z1<Qw n) (SM x/\Be (Z0<=Z1/\Z1<Qw n) (SM x/\Be (Z0<=Z0/\Z0<Qw n) (SM x/\Be (Z0<=2/\(2:Int)<Qw n) (SM x/\Be (Z0<=2/\(2:Int)<Qw n) (∃(x_1:Nd),QHl n x_1/\∀(y:Unit),True->Qh x n/\Qh x n/\Qh x n/\Qh x n/\∃(x_2:Nd),QHm x_2 n x_1 q/\∀(y:Unit),True->Qh x n/\Qh x n/\Qh x n/\Be (QlB x_1 x_2<=9223372036854775807) (∃(x_3:Nd),QHn x_3 n q/\∀(y:Unit),True->Qh x n/\Qh x n/\Be (QG7 x_1 x_2 x_3<=9223372036854775807) (Be (LN (QlC x_1 x_2 x_3)+N1<=9223372036854775807) (∃(x_4:Nd),(wkL [QlD n,D.sl N1 N6 (fun i=>QHo i) Mode.full] [Qlz x_4,SI QHp]/\N6<=9223372036854775807)/\∀(y:Unit),True->Qh x n/\∃(x:Nd),(isN x (QlD n::QHr x_4) (QHr x_4)/\q x)/\∀(y:Unit),True->Be (LN (QHs x_1 x_2 x_3)+LN (QHt x_4 x)<=9223372036854775807) (RT (QHs x_1 x_2 x_3++QHt x_4 x=QG n))))))))))) (ifB (K7 n==16) (SM x/\∃(x:Unit),(wkL [YO n,D.sl N1 (3:Nat) (fun i=>QHu i) Mode.full] [YO n,SI QHv]/\(3:Nat)<=9223372036854775807/\LN (QHw n)<=20000000000000)/\∀(y:Unit),True->RT (QHw n=QG n)) (ifB (K7 n==10) (SM x/\∃(x:Unit),(wkL (QHy n) (QHy n)/\K7 n=10/\QHA n<=20000000000000)/\∀(y:Unit),True->Be (N2+QHA n<=9223372036854775807) (Be (LN ((123:UInt8)::(32:UInt8)::QHB n)+N2<=9223372036854775807) (RT ((123:UInt8)::(32:UInt8)::List.append (QHB n) [(32:UInt8),(125:UInt8)]=QG n)))) (SM x/\∃(x:Unit),isN2 n [D.agg (Nd.row2 n)] []/\∀(y:Unit),True->RT (Wb n=QG n))))))))) (by kernel_rfl) ?_
 delta DA GI LI LN N0 N1 N2 N4 N6 SI SM Z0 Z1 ZI K7 VL QG Qw K8 QeJ HO Qly QGW Qlz QGX QGY QGZ Qh QG0 QeK QG1 Vj QlA QG2 QlB K9 YO HP QG6 QG7 QlC QG8 QG9 QHa QHb QHc QHe Qlx QHf QHg Ja QlD QGP QHk QHl QHm QHn QHo QHp QHq QHr QHs QHt QGQ QHu QHv QHw QlE QHx QHy QHz QHA QHB QGR QGS RT
 try simp only[<- dm]
 try simp only[<- dn]
 simp only[eq_self,ne_eq,implies_true,Ba,Int.toNat_natCast,Bf,Bc,decide_eq_true_eq,decide_eq_false_iff_not,true_and,and_true,beq_iff_eq,bne_iff_ne,bne_eq_false_iff_eq,beq_eq_false_iff_ne,Bool.not_eq_true',Bool.not_eq_false',exists_const,forall_const,Prod.exists]
 have i1:Bk 1 (fun i=>[[D.int IntKind.i64 16]].getD i [])=[16]:=rfl
 have i2:Bk 2 (fun i=>[[D.int IntKind.i64 4],[D.int IntKind.i64 5]].getD i [])=[4,5]:=rfl
 have i3:∀a b c:Int,Bk 3 (fun i=>[[D.int IntKind.i64 a],[D.int IntKind.i64 b],[D.int IntKind.i64 c]].getD i [])=[a,b,c]:=fun _ _ _=>rfl
 have i6:Bk 6 (fun i=>[[D.int IntKind.i64 16],[D.int IntKind.i64 14],[D.int IntKind.i64 15],[D.int IntKind.i64 3],[D.int IntKind.i64 4],[D.int IntKind.i64 5]].getD i [])=[16,14,15,3,4,5]:=rfl
 have p1:IntsP 1 (fun i=>[[D.int IntKind.i64 16]].getD i []):=fun i hi=>by
  match i,hi with
  |0,_=>rfl
 have p2:IntsP 2 (fun i=>[[D.int IntKind.i64 4],[D.int IntKind.i64 5]].getD i []):=fun i hi=>by
  match i,hi with
  |0,_=>rfl
  |1,_=>rfl
 have p3:∀a b c:Int,IntsP 3 (fun i=>[[D.int IntKind.i64 a],[D.int IntKind.i64 b],[D.int IntKind.i64 c]].getD i []):=fun _ _ _ i hi=>by
  match i,hi with
  |0,_=>rfl
  |1,_=>rfl
  |2,_=>rfl
 have p6:IntsP 6 (fun i=>[[D.int IntKind.i64 16],[D.int IntKind.i64 14],[D.int IntKind.i64 15],[D.int IntKind.i64 3],[D.int IntKind.i64 4],[D.int IntKind.i64 5]].getD i []):=fun i hi=>by
  match i,hi with
  |0,_=>rfl
  |1,_=>rfl
  |2,_=>rfl
  |3,_=>rfl
  |4,_=>rfl
  |5,_=>rfl
 obtain ⟨L2,L3,_⟩:=IK hv
 have kq:∀i,i<n.ki.length->q (n.ki.getD i default):=fun i hi=>hq _ (B0 hi)
 have wl:∀(ks:List Int) (b:Nd),q b->(BB ks b).length<=20000000000004:=fun ks b hb=>by
  have h1:=CU ks b.kd (Bt b)
  have h2:=(h b hb).2
  unfold BB
  omega
 have sg:∀i,i<n.ki.length->(BW n.ki).getD i []=Bt (n.ki.getD i default):=fun i hi=>Mc hi
 have hlen:=Et n hv ho
 refine⟨fun k=>?_,fun n3=>⟨fun k=>?_,fun n4=>⟨fun k=>?_,fun n5=>⟨fun k=>?_,fun n14=>⟨fun k=>?_,fun n15=>⟨fun k=>?_,fun n16=>⟨fun k=>?_,fun n10=>⟨CF n _,Bhj hv n3 n4 n5 n14 n15 n16 n10⟩⟩⟩⟩⟩⟩⟩⟩
 ·rw[CT] at hlen ⊢
  simp only[k] at hlen ⊢
  exact⟨⟨OF (p3 _ _ _),by omega,by rw[i3];simp at hlen;omega⟩,by rw[i3];simp⟩
 ·have hL:n.ki.length=2:=L2 (.inl k)
  have q0:=kq 0 (by omega)
  have q1:=kq 1 (by omega)
  have r0:=(h _ q0).2
  have r1:=(h _ q1).2
  have w0:=wl [16] _ q0
  have e:Bt n=BB [16] (n.ki.getD 0 default)++[32]++Bt (n.ki.getD 1 default):=by
   rw[CT]
   simp only[k]
   rw[sg 0 (by omega),sg 1 (by omega)]
   rfl
  have pw:=Gj [16] (n.ki.getD 0 default)
  rw[e]
  refine⟨⟨by omega,by omega⟩,⟨by omega,by omega⟩,⟨by omega,by omega⟩,n.ki.getD 0 default,⟨Ck (r:=(n.ki.getD 0 default).row1) p1,by omega⟩,n.ki.getD 0 default,⟨Bl _ _,q0⟩,?_,n.ki.getD 1 default,⟨Bl _ _,q1⟩,?_,?_⟩
  all_goals rw[i1,pw]
  all_goals first
   |omega
   |(simp only[List.length_append,List.length_cons,List.length_nil];omega)
 ·have hL:n.ki.length=3:=L3 (.inl k)
  have q0:=kq 0 (by omega)
  have q1:=kq 1 (by omega)
  have q2:=kq 2 (by omega)
  have r2:=(h _ q2).2
  have w0:=wl [16] _ q0
  have w1:=wl [4,5] _ q1
  have e:Bt n=BB [4,5] (n.ki.getD 1 default)++[32]++BB [16] (n.ki.getD 0 default)++[32]++Bt (n.ki.getD 2 default):=by
   rw[CT]
   simp only[k]
   rw[sg 0 (by omega),sg 1 (by omega),sg 2 (by omega)]
   rfl
  have pw:=Gj [16] (n.ki.getD 0 default)
  have pw2:=Gj [4,5] (n.ki.getD 1 default)
  rw[e]
  refine⟨⟨by omega,by omega⟩,⟨by omega,by omega⟩,⟨by omega,by omega⟩,⟨by omega,by omega⟩,⟨by omega,by omega⟩,n.ki.getD 1 default,⟨Ck (r:=(n.ki.getD 1 default).row1) p2,by omega⟩,n.ki.getD 1 default,⟨Bl _ _,q1⟩,?_,n.ki.getD 0 default,⟨Ck (r:=(n.ki.getD 0 default).row1) p1,by omega⟩,n.ki.getD 0 default,⟨Bl _ _,q0⟩,?_,?_,n.ki.getD 2 default,⟨Bl _ _,q2⟩,?_,?_⟩
  all_goals rw[i2,pw2]
  all_goals try rw[i1,pw]
  all_goals first
   |omega
   |(simp only[List.length_append,List.length_cons,List.length_nil];omega)
 ·have hL:n.ki.length=2:=L2 (.inr k)
  have q0:=kq 0 (by omega)
  have q1:=kq 1 (by omega)
  have r0:=(h _ q0).2
  have w1:=wl [16] _ q1
  have e:Bt n=BB [16] (n.ki.getD 1 default)++[32]++Bt (n.ki.getD 0 default):=by
   rw[CT]
   simp only[k]
   rw[sg 0 (by omega),sg 1 (by omega)]
   rfl
  have pw:=Gj [16] (n.ki.getD 1 default)
  rw[e]
  refine⟨⟨by omega,by omega⟩,⟨by omega,by omega⟩,⟨by omega,by omega⟩,n.ki.getD 1 default,⟨Ck (r:=(n.ki.getD 1 default).row1) p1,by omega⟩,n.ki.getD 1 default,⟨Bl _ _,q1⟩,?_,n.ki.getD 0 default,⟨Bl _ _,q0⟩,?_,?_⟩
  all_goals rw[i1,pw]
  all_goals first
   |omega
   |(simp only[List.length_append,List.length_cons,List.length_nil];omega)
 ·have hL:n.ki.length=3:=L3 (.inr k)
  have q0:=kq 0 (by omega)
  have q1:=kq 1 (by omega)
  have q2:=kq 2 (by omega)
  have r0:=(h _ q0).2
  have w1:=wl [16] _ q1
  have w2:=wl [3,4,5,16,14,15] _ q2
  have e:Bt n=BB [16] (n.ki.getD 1 default)++[32]++Bt (n.ki.getD 0 default)++[32]++BB [3,4,5,16,14,15] (n.ki.getD 2 default):=by
   rw[CT]
   simp only[k]
   rw[sg 0 (by omega),sg 1 (by omega),sg 2 (by omega)]
   rfl
  have pw:=Gj [16] (n.ki.getD 1 default)
  have pw2:=Gj [16,14,15,3,4,5] (n.ki.getD 2 default)
  rw[Bii] at pw2
  rw[e]
  refine⟨⟨by omega,by omega⟩,⟨by omega,by omega⟩,⟨by omega,by omega⟩,⟨by omega,by omega⟩,⟨by omega,by omega⟩,n.ki.getD 1 default,⟨Ck (r:=(n.ki.getD 1 default).row1) p1,by omega⟩,n.ki.getD 1 default,⟨Bl _ _,q1⟩,?_,n.ki.getD 0 default,⟨Bl _ _,q0⟩,?_,?_,n.ki.getD 2 default,⟨Ck (r:=(n.ki.getD 2 default).row1) p6,by omega⟩,n.ki.getD 2 default,⟨Bl _ _,q2⟩,?_,?_⟩
  all_goals rw[i1,pw]
  all_goals try rw[i6,pw2]
  all_goals first
   |omega
   |(simp only[List.length_append,List.length_cons,List.length_nil];omega)
 ·rw[CT] at hlen ⊢
  simp only[k] at hlen ⊢
  rw[i3,Bem]
  exact⟨⟨OF (p3 _ _ _),by omega,by simp at hlen;omega⟩,by simp⟩
 ·rw[CT] at hlen ⊢
  simp only[k] at hlen ⊢
  simp at hlen
  repeat' (first | exact Bg _ | exact k | refine And.intro ?_ ?_)
  all_goals first
   |omega
   |(simp only[List.length_append,List.length_cons,List.length_nil];omega)
   |(simp;omega)
   |(simp;done)
theorem BbD(n:Nd)(hv:Bz n=true)(ho:n.ok)(hn:n.sm)(hz:szN n<=16384):RRShow n:=by
 have hl:=Et n hv ho
 refine⟨BkJ n RRShow hv ho hn hz (fun _ h=>h) (fun b hb=>?_) (fun hk s hs=>?_),by omega⟩
 ·have:=Eu (BT hb)
  exact BbD b ((EK hv).1 b hb) (Oc ho b hb) (EW hn (BT hb)) (by omega)
 ·have h1:=hv
  rw[CI,Bool.and_eq_true,if_pos hk,Bool.and_eq_true] at h1
  have hb:=h1.2.2
  unfold BP at hb
  rw[Bool.and_eq_true] at hb
  obtain ⟨q1,q2⟩:=Ej hb.2 s hs
  have o:=Cq (GK ho s hs)
  have m:=Cm (Gy hn s hs)
  have i1:s.nd∈BH n:=List.mem_append.2 (.inr (List.mem_flatMap.2 ⟨s,hs,by unfold Bq;split<;>simp⟩))
  have z1:=Eu i1
  refine⟨BbD s.nd q1 o.2 m.2 (by omega),fun h3=>?_,BnK (Gy hn s hs)⟩
  have i2:s.te∈BH n:=List.mem_append.2 (.inr (List.mem_flatMap.2 ⟨s,hs,by unfold Bq;rw[if_pos h3];simp⟩))
  have z2:=Eu i2
  have hv2:Bz s.te=true:=by
   rcases q2 with ⟨_,q,_⟩ | ⟨q,_⟩
   ·exact q
   ·exact (q h3).elim
  exact BbD s.te hv2 o.1 m.1 (by omega)
termination_by szN n
decreasing_by all_goals omega
def Blg(n:Nd):Con:=fun k ds S=>match k with
 |114=>some (pA ds S (.str (Bt n)) (isN n ds []/\BV n=0))
 |k=>Bee n k ds S
noncomputable def Ersw(n:Nd):Senv:={ EC (Blg n) 18 3 [15] (fun _=>([],[])) with mg:=fun _=>2 }
def QlG(a:Nd):D:=D.agg (Nd.rowE a)
def QlH(a:Nd):Prop:=RT (Cw (List UInt8) [] (Er a))
def QHF(a:Nd):Prop:=isN a [QlG a] []
theorem Bm9(n:Nd)(ho:n.ok)(hn:n.sm):CD 93 [.agg n.row1] (.str (Er n)):=by
 refine Bh (A:=sC _ _) (x:=()) (E:=Ersw n) (eOk ?_ rfl) Tryz.func93 rfl (by kernel_rfl) rfl (by simp[sC,Ersw,EC,E0]) ?_
 ·intro k ds S A hh
  unfold Blg at hh
  split at hh
  ·injection hh with hh;subst hh
   refine Bo fun ⟨e,h0⟩=>?_
   obtain ⟨_,h2,h3⟩:=BZ.1 h0
   exact CD.at_ (CD.isN (BbD n h3 ho hn h2).1 e) _
  ·exact BhP ho hn _ _ _ _ hh
 refine Bj (T :=
  ∀(x:Nat),True->SM x/\∃(x_1:Unit),isN n [QlG n,ZI 60] [ZI 60]/\∀(y:Unit),True->ifB (decide ((60:Int)<GR (dpN n) (60:Int))) (QlH n) (SM x/\∃(x_2:Unit),isN n [QlG n,ZI 16384] [ZI 16384]/\∀(y:Unit),True->ifB (decide ((16384:Int)<BU (szN n) (16384:Int))) (QlH n) (SM x/\∃(x_3:Unit),QHF n/\∀(y:Unit),True->ifB (!Bz n) (QlH n) (SM x/\∃(x:Unit),(QHF n/\BV n=Z0)/\∀(y:Unit),True->RT (Bt n=Er n))))) (by kernel_rfl) ?_
 delta DA GI LN N1 N4 SI SM Z0 ZI QlG QlH QHF RT
 try simp only[<- dm]
 try simp only[<- dn]
 simp only[eq_self,ne_eq,implies_true,Ba,Int.toNat_natCast,Bf,Bc,decide_eq_true_eq,decide_eq_false_iff_not,true_and,and_true,beq_iff_eq,bne_iff_ne,bne_eq_false_iff_eq,beq_eq_false_iff_ne,Bool.not_eq_true',Bool.not_eq_false',exists_const,forall_const,Prod.exists]
 simp only[Bi1,RY]
 unfold Er
 refine⟨Bl _ _,fun h=>?_,fun h=>⟨Bl _ _,fun h2=>?_,fun h2=>⟨Bl _ _,fun h3=>?_,fun h3=>?_⟩⟩⟩
 ·exact (if_neg (fun e=>by have:=(BZ.1 e).1;omega)).symm
 ·exact (if_neg (fun e=>by have:=(BZ.1 e).2.1;omega)).symm
 ·exact (if_neg (fun e=>by have:=(BZ.1 e).2.2;rw[h3] at this;cases this)).symm
 ·have e:BV n=0:=BZ.2 ⟨by omega,by omega,h3⟩
  rw[if_pos e]
  exact⟨⟨Bl _ _,e⟩,rfl⟩
theorem BgI(ps:List Pt):ps.length<=IT ps:=by
 induction ps with
 |nil=>simp
 |cons p r ih =>
  unfold IT at ih ⊢
  rw[List.map_cons,List.sum_cons,List.length_cons]
  omega
def RPar(n:Nd):Prop:=(∀lv:Int,0<=lv->lv+szN n<=100000->CD 70 [.agg n.row2,.int .i64 lv] (ssl (rlP lv (ptN n)) .any))/\(ptN n).length<=4000000000000
theorem Bml(ks:List Int)(n:Nd)(lv:Int):rlP lv (BS ks n)=if ks.contains n.kd=true then [40]::(rlP lv (ptN n)++[[41]]) else rlP lv (ptN n):=by
 unfold BS ptW
 split
 ·have e:Pt.tx [40]::(ptN n++[.tx [41]])=[.tx [40]]++(ptN n++[.tx [41]]):=rfl
  rw[e,EB (EY rfl),EB (Wp n)]
  rfl
 ·rfl
theorem C8{a : Nat}{F G : Nat -> List D}{L r : List (List UInt8)}(ha : a=L.length)(hF : ∀i, i<a -> F i=[D.str (L.getD i [])])(hG : ∀i, i<r.length -> G i=[D.str (r.getD i [])]) :
  ∀i,i<a+r.length->BM a F G i=[D.str ((L++r).getD i [])]:=by
 intro i hi
 subst ha
 simp only[BM]
 split
 ·rename_i h
  rw[hF i h]
  simp[List.getD_eq_getElem?_getD,List.getElem?_append_left h]
 ·rename_i h
  rw[hG _ (by omega)]
  simp[List.getD_eq_getElem?_getD,List.getElem?_append_right (Nat.le_of_not_lt h)]
theorem Bkw{ks:List Int}{k:Int}{i:Nat}(h:i<ks.length)(e:k=ks.getD i 0):ks.contains k=true:=by
 rw[List.contains_eq_mem,decide_eq_true_eq,e,List.getD_eq_getElem?_getD,List.getElem?_eq_getElem h]
 exact List.getElem_mem h
theorem BnN{ks:List Int}{k:Int}(h:∀j,j<ks.length->¬k=ks.getD j 0):ks.contains k=false:=by
 rw[List.contains_eq_mem,decide_eq_false_iff_not]
 intro hm
 obtain ⟨j,hj,e⟩:=List.getElem_of_mem hm
 refine h j hj ?_
 rw[List.getD_eq_getElem?_getD,List.getElem?_eq_getElem hj]
 exact e.symm
def Bj8(n:Nd):Con:=fun k ds S=>match k with
 |70=>match ds with
  | [_,.int .i64 lv]=>some (pA ds S (ssl (rlP lv (ptN n)) .any) (isN n ds [.int .i64 lv]/\0<=lv/\lv+szN n<=100000))
  |_=>none
 |_=>none
theorem Bcf{n:Nd}(h:RPar n):ConOk Tryz.prog (Bj8 n):=by
 intro k ds S A hh
 unfold Bj8 at hh
 split at hh
 ·split at hh
  ·injection hh with hh;subst hh
   exact Bo fun ⟨e,h0,h1⟩=>CD.at_ (CD.isN (h.1 _ h0 h1) e) _
  ·cases hh
 ·cases hh
def Blk(L:List (List UInt8))(n:Nd)(ks:List Int)(lv:Int)(t:Nat):FnSpec where
 β:=Unit
 α:=Nat
 args:=fun _=>[ssl L (.tok 0 t),.agg n.row1,isl ks .any,.int .i64 lv]
 st:=fun _=>⟨[],[(0,t)]⟩
 pre:=fun _=>True
 post:=fun _ _=>True
 res:=fun _ t'=>.ret (ssl (L++rlP lv (BS ks n)) (.tok 0 t'))
 out:=fun _ t'=>⟨[],[(0,t')]⟩
noncomputable def Ead(n:Nd)(ks:List Int):Senv:={ EC (Bj8 n) 39 4 [5,8,9,13,22] (fun id=>match id with | 4=>([0,1,2,3,4,5,6],[]) | _=>([],[])) with
 mg:=fun _=>2
 ann:=fun b _ S=>match b with
  |0=>some { slots:=[9],keep:=[0,1,2,3,5],α:=Nat,st:=fun i=>([.int .i64 i],S),inv:=fun i=>i<=ks.length/\∀j,j<i->n.kd≠ks.getD j 0,mu:=fun i=>ks.length-i }
  |_=>none }
def QeP(a:Nd):Int:=Nd.kd a
def QlI(a:Nat)(b:List Int)(c:Nd):Prop:=a<=LN b/\∀(j:Nat),j<a->QeP c≠GI b j
def QHG(a:Nd):Int:=Nd.at_ a
def QHH(a:Nd):Int:=Nd.cl a
def QHI(a:Nd):List UInt8:=Nd.tx a
def QHJ(a:Nd):Int:=Nd.pr a
def QHK(a:Nd):Int:=Nd.op a
def QeQ(a:Nd):Arr:=Nd.va a
def QHL(a:Nd):Int:=Arr.k (QeQ a)
def QHM(a:Nd):List Int:=Arr.sh (QeQ a)
def QlJ(a:Nd):Nat:=LN (QHM a)
def QHN(a:Nd)(b:Nat):List D:=[ZI (GI (QHM a) b)]
def QHO(a:Nd):List Int:=Arr.nu (QeQ a)
def QlK(a:Nd):Nat:=LN (QHO a)
def QHP(a:Nd)(b:Nat):List D:=[ZI (GI (QHO a) b)]
def QHQ(a:Nd):List Arr:=Arr.it (QeQ a)
def QlL(a:Nd):Nat:=LN (QHQ a)
def QHR:Arr:=DA
def QHS(a:Nd)(b:Nat):List D:=Arr.row (List.getD (QHQ a) b QHR)
def QlM(a:Nd):Nat:=LN (Nd.ki a)
def QlN:Nd:=Nd.mk Z0 Z0 Z0 [] Z0 Z0 QHR [] [] Z0 Z0 Z0
def QHT(a:Nd)(b:Nat):List D:=Nd.row (List.getD (Nd.ki a) b QlN)
def QlO(a:Nd):Nat:=LN (Nd.bo a)
def QHU(a:Nd)(b:Nat):List D:=Sm.row (List.getD (Nd.bo a) b (Sm.mk Z0 Z0 [] Z0 QlN QlN))
def QHV(a:Nd):Int:=Nd.de a
def QHW(a:Nd):Int:=Nd.sl a
def QHX(a:Nd):Int:=Nd.ss a
def QHY(a:Nat)(b:Nd)(c:Nat):Prop:=(SM a/\(SM (QeP b)/\SM (QHG b)/\SM (QHH b)/\SM (QHI b)/\SM (QHJ b)/\SM (QHK b)/\SM (QHL b)/\(SM (QlJ b)/\(∀(i:Nat),i<QlJ b->SM (QHN b i))/\True)/\(SM (QlK b)/\(∀(i:Nat),i<QlK b->SM (QHP b i))/\True)/\(SM (QlL b)/\(∀(i:Nat),i<QlL b->SM (QHS b i))/\True)/\(SM (QlM b)/\(∀(i:Nat),i<QlM b->SM (QHT b i))/\True)/\(SM (QlO b)/\(∀(i:Nat),i<QlO b->SM (QHU b i))/\True)/\SM (QHV b)/\SM (QHW b)/\SM (QHX b)/\True)/\True)/\SM c/\True
def QHZ(a:Nd):D:=D.agg (Nd.rowE a)
def QH0(a:Nd)(b:Int):Prop:=isN a [QHZ a,ZI b] [ZI b]/\Z0<=b/\b+(NI (szN a))<=100000
def QH1(a:Int)(b:Nd):List (List UInt8):=rlP a (ptN b)
def QH2(a:Int)(b:Nd):Nat:=LN (QH1 a b)
def QeR(a:List (List UInt8))(b:Int)(c:Nd):Nat:=LN a+N1+QH2 b c
def QeS(a:List (List UInt8))(b:Int)(c:Nd):Nat:=QeR a b c+N1
def QH3(a:Int)(b:Nd)(c:Nat):List D:=[D.str (List.getD (QH1 a b) c [])]
def QH4(a:List (List UInt8))(b:Int)(c:List Int)(d:Nd)(e:Nat):List D:=[D.str (List.getD (a++rlP b (BS c d)) e [])]
def QR9(a:List (List UInt8))(b:Nat):D:=D.sl N1 (LN a) (fun i=>[D.str (List.getD a i [])]) (Mode.tok N0 b)
def QSa(a:List Int):D:=SI a
def QeT(a:List (List UInt8))(b:Int)(c:Nd):Nat:=LN a+QH2 b c
theorem BoE(L : List (List UInt8))(n : Nd)(ks : List Int)(lv : Int)(t : Nat)(h : RPar n)(h0 : 0<=lv)(h1 : lv+szN n<=100000)(hk : ks.length<=maxLen)(hL : L.length<=4000000000000) :
  ACalls Tryz.prog 46 ((Blk L n ks lv t).args ()) ((Blk L n ks lv t).st ()) (SpecR (Blk L n ks lv t) ()):=by
 refine Bh (A:=Blk L n ks lv t) (x:=()) (E:=Ead n ks) (eOk (Bcf h) rfl) Tryz.func46 rfl (by kernel_rfl) rfl (by simp[Blk,Ead,EC,E0]) ?_
 refine Bj (T :=
  ∀(x:Nat),True->(∃(x_1:Nat),QlI x_1 ks n/\(Z0=(↑x_1:Int)/\True)/\QHY x n t)/\∀(x_1:Nat),QlI x_1 ks n->ifB (decide ((↑x_1:Int)<(LI ks))) (SM x/\Be (Z0<=(↑x_1:Int)/\(↑x_1:Int)<(LI ks)) (ifB (QeP n==GI ks (Int.toNat (↑x_1:Int))) (SM t/\Be ((LN L+N1)*16<=140737488355328/\LN L+N1<=9223372036854775807) (∀(t:Nat),SM x/\∃(x:Unit),QH0 n lv/\∀(y:Unit),True->SM t/\Be (QeR L lv n*16<=140737488355328/\QeR L lv n<=9223372036854775807) (∀(t:Nat),SM t/\Be (QeS L lv n*16<=140737488355328/\QeS L lv n<=9223372036854775807) (∀(t:Nat),True/\∃(y:Nat),True/\(QeS L lv n=LN (L++rlP lv (BS ks n))/\(∀(i:Nat),i<QeS L lv n->BM (QeR L lv n) (BM (LN L+N1) (BM (LN L) (fun i=>[D.str (List.getD L i [])]) fun i=>[D.str (List.getD [[(40:UInt8)]] i [])]) fun i=>QH3 lv n i) (fun i=>[D.str (List.getD [[(41:UInt8)]] i [])]) i=QH4 L lv ks n i)/\t=y)/\True/\t=y/\True)))) ((SM (QR9 L t)/\SM (QHZ n)/\SM (QSa ks)/\SM (ZI lv)/\SM (D.ref N0 x N0)/\True)/\∃(y:Nat),QlI y ks n/\LN ks-y<LN ks-x_1/\(IntKind.wrap IntKind.i64 ((↑x_1:Int)+Z1)=(↑y:Int)/\True)/\QHY x n t))) (SM x/\∃(x:Unit),QH0 n lv/\∀(y:Unit),True->SM t/\Be (QeT L lv n*16<=140737488355328/\QeT L lv n<=9223372036854775807) (∀(t:Nat),True/\∃(y:Nat),True/\(QeT L lv n=LN (L++rlP lv (BS ks n))/\(∀(i:Nat),i<QeT L lv n->BM (LN L) (fun i=>[D.str (List.getD L i [])]) (fun i=>QH3 lv n i) i=QH4 L lv ks n i)/\t=y)/\True/\t=y/\True))) (by kernel_rfl) ?_
 delta DA GI LI LN N0 N1 N4 NI SI SM Z0 Z1 ZI QeP QlI QlJ QHN QHO QlK QHP QHQ QlL QHR QHS QlM QHG QlN QHT QlO QHU QHV QHW QHX QHY QHZ QH0 QHH QH1 QH2 QeR QeS QH3 QH4 QR9 QSa QeT QHI QHJ QHK QeQ QHL QHM
 try simp only[<- dm]
 try simp only[<- dn]
 simp only[eq_self,ne_eq,implies_true,Ba,Int.toNat_natCast,Bf,Bc,decide_eq_true_eq,decide_eq_false_iff_not,true_and,and_true,beq_iff_eq,bne_iff_ne,bne_eq_false_iff_eq,beq_eq_false_iff_ne,Bool.not_eq_true',Bool.not_eq_false',exists_const,forall_const,Prod.exists]
 unfold maxLen at hk
 have hln:=h.2
 have hrl:=ED (ptN n) lv
 refine⟨⟨0,⟨Nat.zero_le _,fun j hj=>absurd hj (by omega)⟩,rfl⟩,fun i ⟨i1,hi⟩=>⟨fun hlt=>⟨⟨by omega,hlt⟩,fun hk1=>?_,fun hk1=>⟨i+1,⟨by omega,fun j hj=>?_⟩,by omega,Bb (by omega) (by omega)⟩⟩,fun hge=>?_⟩⟩
 ·have hc:=Bkw (show i<ks.length by omega) hk1
  have e:L++rlP lv (BS ks n)=((L++[[40]])++rlP lv (ptN n))++[[41]]:=by rw[Bml,if_pos hc];simp
  rw[e]
  refine⟨⟨by omega,by omega⟩,⟨Bl _ _,h0,h1⟩,⟨by omega,by omega⟩,⟨by omega,by omega⟩,fun t2=>⟨t2,⟨by simp only[List.length_append,List.length_cons,List.length_nil],?_,rfl⟩,rfl⟩⟩
  refine C8 (r:=[[41]]) (by simp only[List.length_append,List.length_cons,List.length_nil]) (fun i hi=>?_) (fun _ _=>rfl)
  refine C8 (L:=L++[[40]]) (by simp) (fun i hi=>?_) (fun _ _=>rfl) i hi
  exact C8 (L:=L) (r:=[[40]]) rfl (fun _ _=>rfl) (fun _ _=>rfl) i hi
 ·by_cases e':j=i
  ·rw[e'];exact hk1
  ·exact hi j (by omega)
 ·have hc:=BnN (k:=n.kd) (ks:=ks) fun j hj=>hi j (by omega)
  rw[Bml,hc]
  refine⟨⟨Bl _ _,h0,h1⟩,⟨by omega,by omega⟩,fun t2=>⟨t2,⟨by simp,?_,rfl⟩,rfl⟩⟩
  exact C8 rfl (fun _ _=>rfl) (fun _ _=>rfl)
def BhS(n:Nd)(ks:List Int)(lv:Int):FnSpec where
 β:=Unit
 α:=Nat
 args:=fun _=>[.sl 1 0 (fun _=>[]) .nil,.agg n.row1,isl ks .any,.int .i64 lv]
 st:=fun _=>⟨[],[]⟩
 pre:=fun _=>True
 post:=fun _ _=>True
 res:=fun _ t'=>.ret (ssl (rlP lv (BS ks n)) (.tok 0 t'))
 out:=fun _ t'=>⟨[],[(0,t')]⟩
def QeU(a:Nd):Int:=Nd.kd a
def QlP(a:Nat)(b:List Int)(c:Nd):Prop:=a<=LN b/\∀(j:Nat),j<a->QeU c≠GI b j
def QH5(a:Nd):Int:=Nd.at_ a
def QH6(a:Nd):Int:=Nd.cl a
def QH7(a:Nd):List UInt8:=Nd.tx a
def QH8(a:Nd):Int:=Nd.pr a
def QH9(a:Nd):Int:=Nd.op a
def QeV(a:Nd):Arr:=Nd.va a
def QIa(a:Nd):Int:=Arr.k (QeV a)
def QIb(a:Nd):List Int:=Arr.sh (QeV a)
def QlQ(a:Nd):Nat:=LN (QIb a)
def QIc(a:Nd)(b:Nat):List D:=[ZI (GI (QIb a) b)]
def QId(a:Nd):List Int:=Arr.nu (QeV a)
def QlR(a:Nd):Nat:=LN (QId a)
def QIe(a:Nd)(b:Nat):List D:=[ZI (GI (QId a) b)]
def QIf(a:Nd):List Arr:=Arr.it (QeV a)
def QlS(a:Nd):Nat:=LN (QIf a)
def QIg:Arr:=DA
def QIh(a:Nd)(b:Nat):List D:=Arr.row (List.getD (QIf a) b QIg)
def QlT(a:Nd):Nat:=LN (Nd.ki a)
def QlU:Nd:=Nd.mk Z0 Z0 Z0 [] Z0 Z0 QIg [] [] Z0 Z0 Z0
def QIi(a:Nd)(b:Nat):List D:=Nd.row (List.getD (Nd.ki a) b QlU)
def QlV(a:Nd):Nat:=LN (Nd.bo a)
def QIj(a:Nd)(b:Nat):List D:=Sm.row (List.getD (Nd.bo a) b (Sm.mk Z0 Z0 [] Z0 QlU QlU))
def QIk(a:Nd):Int:=Nd.de a
def QIl(a:Nd):Int:=Nd.sl a
def QIm(a:Nd):Int:=Nd.ss a
def QIn(a:Nat)(b:Nd):Prop:=(SM a/\(SM (QeU b)/\SM (QH5 b)/\SM (QH6 b)/\SM (QH7 b)/\SM (QH8 b)/\SM (QH9 b)/\SM (QIa b)/\(SM (QlQ b)/\(∀(i:Nat),i<QlQ b->SM (QIc b i))/\True)/\(SM (QlR b)/\(∀(i:Nat),i<QlR b->SM (QIe b i))/\True)/\(SM (QlS b)/\(∀(i:Nat),i<QlS b->SM (QIh b i))/\True)/\(SM (QlT b)/\(∀(i:Nat),i<QlT b->SM (QIi b i))/\True)/\(SM (QlV b)/\(∀(i:Nat),i<QlV b->SM (QIj b i))/\True)/\SM (QIk b)/\SM (QIl b)/\SM (QIm b)/\True)/\True)/\True
def QIo(a:Nd):D:=D.agg (Nd.rowE a)
def QIp(a:Nd)(b:Int):Prop:=isN a [QIo a,ZI b] [ZI b]/\Z0<=b/\b+(NI (szN a))<=100000
def QIq(a:Int)(b:Nd):List (List UInt8):=rlP a (ptN b)
def QIr(a:Int)(b:Nd):Nat:=LN (QIq a b)
def QeW(a:Int)(b:Nd):Nat:=N1+QIr a b
def QeX(a:Int)(b:Nd):Nat:=QeW a b+N1
def QIs(a:Int)(b:Nd)(c:Nat):List D:=[D.str (List.getD (QIq a b) c [])]
def QIt(a:Int)(b:List Int)(c:Nd)(d:Nat):List D:=[D.str (List.getD (rlP a (BS b c)) d [])]
def QSb(a:List Int):D:=SI a
def QeY(a:Int)(b:Nd):Nat:=N0+QIr a b
theorem BoH(n : Nd)(ks : List Int)(lv : Int)(h : RPar n)(h0 : 0<=lv)(h1 : lv+szN n<=100000)(hk : ks.length<=maxLen) :
  ACalls Tryz.prog 46 ((BhS n ks lv).args ()) ((BhS n ks lv).st ()) (SpecR (BhS n ks lv) ()):=by
 refine Bh (A:=BhS n ks lv) (x:=()) (E:=Ead n ks) (eOk (Bcf h) rfl) Tryz.func46 rfl (by kernel_rfl) rfl (by simp[BhS,Ead,EC,E0]) ?_
 refine Bj (T :=
  ∀(x:Nat),True->(∃(x_1:Nat),QlP x_1 ks n/\(Z0=(↑x_1:Int)/\True)/\QIn x n)/\∀(x_1:Nat),QlP x_1 ks n->ifB (decide ((↑x_1:Int)<(LI ks))) (SM x/\Be (Z0<=(↑x_1:Int)/\(↑x_1:Int)<(LI ks)) (ifB (QeU n==GI ks (Int.toNat (↑x_1:Int))) (∀(t:Nat),SM x/\∃(x:Unit),QIp n lv/\∀(y:Unit),True->SM t/\Be (QeW lv n*16<=140737488355328/\QeW lv n<=9223372036854775807) (∀(t:Nat),SM t/\Be (QeX lv n*16<=140737488355328/\QeX lv n<=9223372036854775807) (∀(t:Nat),True/\∃(y:Nat),True/\(QeX lv n=LN (rlP lv (BS ks n))/\(∀(i:Nat),i<QeX lv n->BM (QeW lv n) (BM N1 (fun i=>[D.str (List.getD [[(40:UInt8)]] (i-N0) [])]) fun i=>QIs lv n i) (fun i=>[D.str (List.getD [[(41:UInt8)]] i [])]) i=QIt lv ks n i)/\t=y)/\True/\t=y/\True))) ((SM (D.sl N1 N0 (fun x=>[]) Mode.nil)/\SM (QIo n)/\SM (QSb ks)/\SM (ZI lv)/\SM (D.ref N0 x N0)/\True)/\∃(y:Nat),QlP y ks n/\LN ks-y<LN ks-x_1/\(IntKind.wrap IntKind.i64 ((↑x_1:Int)+Z1)=(↑y:Int)/\True)/\QIn x n))) (SM x/\∃(x:Unit),QIp n lv/\∀(y:Unit),True->Be (QeY lv n*16<=140737488355328/\QeY lv n<=9223372036854775807) (∀(t:Nat),True/\∃(y:Nat),True/\(QeY lv n=LN (rlP lv (BS ks n))/\(∀(i:Nat),i<QeY lv n->BM N0 (fun x=>[]) (fun i=>QIs lv n i) i=QIt lv ks n i)/\t=y)/\True/\t=y/\True))) (by kernel_rfl) ?_
 delta DA GI LI LN N0 N1 N4 NI SI SM Z0 Z1 ZI QeU QlP QH5 QH6 QH7 QH8 QH9 QeV QIa QIb QlQ QIc QId QlR QIe QIf QlS QIg QIh QlT QlU QIi QlV QIj QIk QIl QIm QIn QIo QIp QIq QIr QeW QeX QIs QIt QSb QeY
 try simp only[<- dm]
 try simp only[<- dn]
 simp only[eq_self,ne_eq,implies_true,Ba,Int.toNat_natCast,Bf,Bc,decide_eq_true_eq,decide_eq_false_iff_not,true_and,and_true,beq_iff_eq,bne_iff_ne,bne_eq_false_iff_eq,beq_eq_false_iff_ne,Bool.not_eq_true',Bool.not_eq_false',exists_const,forall_const,Prod.exists]
 unfold maxLen at hk
 have hln:=h.2
 have hrl:=ED (ptN n) lv
 refine⟨⟨0,⟨Nat.zero_le _,fun j hj=>absurd hj (by omega)⟩,rfl⟩,fun i ⟨i1,hi⟩=>⟨fun hlt=>⟨⟨by omega,hlt⟩,fun hk1=>?_,fun hk1=>⟨i+1,⟨by omega,fun j hj=>?_⟩,by omega,Bb (by omega) (by omega)⟩⟩,fun hge=>?_⟩⟩
 ·have hc:=Bkw (show i<ks.length by omega) hk1
  have e:rlP lv (BS ks n)=([[40]]++rlP lv (ptN n))++[[41]]:=by rw[Bml,if_pos hc];simp
  rw[e]
  refine⟨⟨Bl _ _,h0,h1⟩,⟨by omega,by omega⟩,⟨by omega,by omega⟩,fun t2=>⟨t2,⟨by simp only[List.length_append,List.length_cons,List.length_nil]<;>omega,?_,rfl⟩,rfl⟩⟩
  refine C8 (r:=[[41]]) (by simp only[List.length_append,List.length_cons,List.length_nil]<;>omega) (fun i hi=>?_) (fun _ _=>rfl)
  exact C8 (L:=[[40]]) (by simp) (fun _ _=>rfl) (fun _ _=>rfl) i hi
 ·by_cases e':j=i
  ·rw[e'];exact hk1
  ·exact hi j (by omega)
 ·have hc:=BnN (k:=n.kd) (ks:=ks) fun j hj=>hi j (by omega)
  rw[Bml,hc]
  refine⟨⟨Bl _ _,h0,h1⟩,⟨by omega,by omega⟩,fun t2=>⟨t2,⟨by simp,?_,rfl⟩,rfl⟩⟩
  exact C8 (L:=[]) rfl (fun i hi=>absurd hi (Nat.not_lt_zero _)) (fun _ _=>rfl)
theorem Bnx(s : ByteArray)(c : Int)(w : World) :
  Calls Tryz.prog 105 #[.string s,.int .u8 c] w fun e w'=>e=.returned (.int .i64 (Lib.indexByte s.data.toList c.toNat.toUInt8))/\w'=w:=by
 go_enter Tryz.func105,Tryz.ntmps105
 go_wp2
 rw[run_callFunc_extern Tryz.func123 (by kernel_rfl) (by kernel_rfl) (by kernel_rfl) (e:=Extern.BytealgIndexByte.indexByte) (by kernel_rfl),Lib.run_indexByteString]
 simp only[Result.andThen]
 rw[Oper.upon_value]
 go_wp2
 go_ret
 exact⟨rfl,rfl⟩
def ixT(r:List UInt8):Int:=if IB r<r.length then (IB r:Int) else -1
theorem Bgw:∀r:List UInt8,Lib.indexByte r 32=ixT r
 | []=>rfl
 |b::r=>by
  have ih:=Bgw r
  have e:IB (b::r)=bif b==32 then 0 else IB r+1:=by unfold IB;rw[List.findIdx_cons]
  rw[Lib.indexByte,ih]
  unfold ixT
  by_cases hb:b=32
  ·subst hb
   rw[e]
   simp
  ·have hb':(b==32)=false:=by simpa using hb
   rw[hb'] at e
   simp only[cond_false] at e
   rw[e,hb',List.length_cons]
   by_cases h:IB r<r.length
   ·have h2:((IB r:Int)==-1)=false:=by rw[beq_eq_false_iff_ne];omega
    rw[if_pos h,if_pos (show IB r+1<r.length+1 by omega),h2]
    simp
   ·rw[if_neg h,if_neg (show ¬IB r+1<r.length+1 by omega)]
    simp
theorem Bph(s:List UInt8):CD 105 [.str s,.int .u8 32] (.int .i64 (ixT s)):=by
 refine ACalls.of_shelf ⟨_,Tryz.func105,by kernel_rfl,by kernel_rfl⟩ fun C args w ha=>?_
 obtain ⟨u,v,e,hu,hv⟩:=IZ ha
 have e2:args=[u,v].toArray:=by rw[<- e]
 subst e2
 simp only[Rep] at hu hv;subst hu hv
 refine (Bnx ⟨s.toArray⟩ 32 w).mono fun e w' ⟨h1,h2⟩=>⟨⟨_,h1,?_⟩,by rw[h2];exact Go.RowKit.Below.refl _ _⟩
 have e:Lib.indexByte s 32=ixT s:=Bgw s
 simp[Rep,e]
def BiV:Con:=fun k ds S=>match k with
 |105=>match ds with
  | [.str s,_]=>some (pA ds S (.int .i64 (ixT s)) (wkL ds [.str s,.int .u8 32]))
  |_=>none
 |_=>none
theorem Bkb:ConOk Tryz.prog BiV:=by
 intro k ds S A hh
 unfold BiV at hh
 split at hh
 ·split at hh
  ·injection hh with hh;subst hh
   exact Bo fun e=>CD.at_ (CD.wk (Bph _) e) _
  ·cases hh
 ·cases hh
noncomputable def Esib:Senv:=EC BiV 8 2 [4] (fun _=>([],[]))
theorem Bpt(s:List UInt8):CD 85 [.str s,.int .u8 32] (.int .i64 (ixT s)):=by
 refine Bh (A:=sC _ _) (x:=()) (E:=Esib) (eOk Bkb rfl) Tryz.func85 rfl (by kernel_rfl) rfl (by simp[sC,Esib,EC,E0]) ?_
 refine Bj (T :=
  ∃(x:Unit),(SM s/\SM (32:Int)/\True)/\∀(y:Unit),True->RT (SM (ixT s))) (by kernel_rfl) ?_
 delta SM RT
 simp only[eq_self,ne_eq,implies_true,Ba,Int.toNat_natCast,Bf,Bc,decide_eq_true_eq,decide_eq_false_iff_not,true_and,and_true,beq_iff_eq,bne_iff_ne,bne_eq_false_iff_eq,beq_eq_false_iff_ne,Bool.not_eq_true',Bool.not_eq_false',exists_const,forall_const,Prod.exists]
 all_goals first
  |exact Bg _
  |exact⟨Bg _,rfl⟩
theorem Bgi:∀r:List UInt8,IB r<=r.length
 | []=>by simp[IB]
 |b::r=>by
  have:=Bgi r
  have e:IB (b::r)=bif b==32 then 0 else IB r+1:=by unfold IB;rw[List.findIdx_cons]
  rw[e]
  cases b==32<;>simp<;>omega
def BkV:Con:=fun k ds S=>match k with
 |85=>match ds with
  | [.str s,_]=>some (pA ds S (.int .i64 (ixT s)) (wkL ds [.str s,.int .u8 32]))
  |_=>none
 |_=>none
theorem Bki:ConOk Tryz.prog BkV:=by
 intro k ds S A hh
 unfold BkV at hh
 split at hh
 ·split at hh
  ·injection hh with hh;subst hh
   exact Bo fun e=>CD.at_ (CD.wk (Bpt _) e) _
  ·cases hh
 ·cases hh
structure EdI (s:List UInt8) (q:UInt8) (a x:Nat):Prop where
 lo:a+1<=x
 ok:(x<=s.length/\(x-(a+1))+Gm q (s.drop x)=Gm q (s.drop (a+1)))\/(x=s.length+1/\s.length<=a+1+Gm q (s.drop (a+1)))
noncomputable def Eed(s:List UInt8)(a:Nat):Senv:={ EC BkV 53 2 [4,5,6,15,21,39,45] (fun _=>([],[])) with
 mg:=fun _=>2
 ann:=fun b _ S=>match b with
  |0=>some { slots:=[1],keep:=[0,5],α:=Nat,st:=fun x=>([.int .i64 x],S),inv:=fun x=>EdI s (s.getD a 0) a x,mu:=fun x=>s.length+1-x }
  |_=>none }
def YP(a:List UInt8)(b:Nat):Int:=(BI a (Int.toNat (↑b:Int)))
def QIu(a:Nat)(b:List UInt8):List UInt8:=List.drop (Int.toNat (↑a:Int)) (List.take (TL b) b)
def QIv(a:Nat)(b:List UInt8):Int:=ixT (QIu a b)
def QlW(a:Nat)(b:List UInt8):Int:=(NI (a+TG (List.drop a b)))
def QeZ(a:List UInt8)(b c:Nat):Prop:=EdI a (List.getD a b U0) b c
def Qe0(a:Nat):Int:=IntKind.wrap IntKind.i64 ((↑a:Int)+Z1)
def QIw(a b:Nat):Prop:=(Qe0 a=(↑b:Int)/\True)/\True/\True
def QIx(a:List UInt8)(b:Nat):Prop:=SM (D.str a)/\SM (ZB (YP a b))/\True
def QIy(a:List UInt8)(b c:Nat):Prop:=RT ((if (LI a)<Qe0 b then (LI a) else Qe0 b)=QlW c a)
def QIz(a:List UInt8)(b:Nat):Prop:=(∃(x:Nat),QeZ a b x/\QIw b x)/\∀(x:Nat),QeZ a b x->ifB (decide ((↑x:Int)<(LI a))) (Be (Z0<=(↑x:Int)/\(↑x:Int)<(LI a)) (ifB (YP a x != YP a b) (Be (Z0<=(↑x:Int)/\(↑x:Int)<(LI a)) (ifB (YP a x==92) (QIx a b/\∃(y:Nat),QeZ a b y/\LN a+N1-y<LN a+N1-x/\(IntKind.wrap IntKind.i64 (Qe0 x+Z1)=(↑y:Int)/\True)/\True/\True) (QIx a b/\∃(y:Nat),QeZ a b y/\LN a+N1-y<LN a+N1-x/\QIw x y))) (QIy a x b))) (QIy a x b)
theorem Bp5(s:List UInt8)(a:Nat)(ha:a<s.length)(hs:s.length<=100000000000000):CD 59 [.str s,.int .i64 a] (.int .i64 ((a+TG (s.drop a):Nat):Int)):=by
 refine Bh (A:=sC _ _) (x:=()) (E:=Eed s a) (eOk Bki rfl) Tryz.func59 rfl (by kernel_rfl) rfl (by simp[sC,Eed,EC,E0]) ?_
 refine Bj (T :=
  Be (Z0<=(↑a:Int)/\(↑a:Int)<(LI s)) (ifB (YP s a != (34:Int)) (ifB (YP s a != (39:Int)) (Be (Z0<=(↑a:Int)/\(↑a:Int)<=(LI s)/\(LI s)<=(LI s)) (∃(x:Unit),(SM (QIu a s)/\SM (32:Int)/\True)/\∀(y:Unit),True->ifB (decide (Z0<=QIv a s)) (RT (IntKind.wrap IntKind.i64 ((↑a:Int)+QIv a s)=QlW a s)) (RT ((LI s)=QlW a s)))) (QIz s a)) (QIz s a))) (by kernel_rfl) ?_
 delta BI LI LN N1 NI SM TL U0 Z0 Z1 ZB YP QIu QIv QlW QeZ Qe0 QIw QIx QIy QIz RT
 simp only[eq_self,ne_eq,implies_true,Ba,Int.toNat_natCast,Bf,Bc,decide_eq_true_eq,decide_eq_false_iff_not,true_and,and_true,beq_iff_eq,bne_iff_ne,bne_eq_false_iff_eq,beq_eq_false_iff_ne,Bool.not_eq_true',Bool.not_eq_false',exists_const,forall_const,Prod.exists]
 have hd:s.drop a=s.getD a 0::s.drop (a+1):=by
  rw[List.drop_eq_getElem_cons ha,List.getD_eq_getElem?_getD,List.getElem?_eq_getElem ha];rfl
 have dl:(s.drop (a+1)).length=s.length-(a+1):=List.length_drop
 have key:∀(c:UInt8) (n:Nat) (z:Int),n<256->z=n->(((c.toNat:Nat):Int)=z↔c=UInt8.ofNat n):=fun c n z hn hz=>by
  constructor
  ·intro h
   have h:c.toNat=n:=by omega
   rw[<- h]
   exact (UInt8.ofNat_toNat).symm
  ·rintro rfl
   rw[UInt8.toNat_ofNat'];omega
 have k34:(((s.getD a 0).toNat:Nat):Int)=34↔s.getD a 0=34:=key (s.getD a 0) 34 34 (by omega) rfl
 have k39:(((s.getD a 0).toNat:Nat):Int)=39↔s.getD a 0=39:=key (s.getD a 0) 39 39 (by omega) rfl
 refine⟨⟨by omega,by omega⟩,fun n34=>⟨fun n39=>?_,fun q39=>?_⟩,fun q34=>?_⟩
 ·have hc:TG (s.drop a)=IB (s.drop a):=by
   rw[hd,TG,if_neg]
   rintro (h | h)
   ·exact n34 (k34.2 h)
   ·exact n39 (k39.2 h)
  have hl:=Bgi (s.drop a)
  have dl2:(s.drop a).length=s.length-a:=List.length_drop
  rw[List.take_length,hc]
  unfold ixT
  refine⟨⟨by omega,by omega,by omega⟩,fun h=>?_,fun h=>?_⟩
  ·by_cases hi:IB (s.drop a)<(s.drop a).length
   ·rw[if_pos hi] at h ⊢
    rw[Bb (by omega) (by omega)];omega
   ·rw[if_neg hi] at h;omega
  ·by_cases hi:IB (s.drop a)<(s.drop a).length
   ·rw[if_pos hi] at h;omega
   ·omega
 all_goals
  have hq:s.getD a 0=34\/s.getD a 0=39:=by
   first
    |exact .inl (k34.1 q34)
    |exact .inr (k39.1 q39)
  have hc:TG (s.drop a)=min (Gm (s.getD a 0) (s.drop (a+1))+2) (s.length-(a+1)+1):=by
   rw[hd,TG,if_pos hq,dl]
  have h92:(92:UInt8)≠s.getD a 0:=by rcases hq with h | h<;>rw[h]<;>decide
  clear k34 k39
  generalize s.getD a 0=q at *
  rw[hc]
  refine⟨⟨a+1,⟨Nat.le_refl _,.inl ⟨by omega,by rw[Nat.sub_self,Nat.zero_add]⟩⟩,Bb (by omega) (by omega)⟩,fun x hx=>⟨fun hlt=>?_,fun hge=>?_⟩⟩
  ·have hlt':x<s.length:=by omega
   obtain ⟨lo,hok⟩:=hx
   have hok:(x-(a+1))+Gm q (s.drop x)=Gm q (s.drop (a+1)):=by
    rcases hok with h | h
    ·exact h.2
    ·omega
   have hdx:s.drop x=s.getD x 0::s.drop (x+1):=by
    rw[List.drop_eq_getElem_cons hlt',List.getD_eq_getElem?_getD,List.getElem?_eq_getElem hlt'];rfl
   have w1:IntKind.i64.wrap ((x:Int)+1)=((x+1:Nat):Int):=by rw[Bb (by omega) (by omega)];rfl
   have w2:IntKind.i64.wrap (((x+1:Nat):Int)+1)=((x+2:Nat):Int):=by rw[Bb (by omega) (by omega)];rfl
   have kq:(((s.getD x 0).toNat:Nat):Int)=((q.toNat:Nat):Int)↔s.getD x 0=q:=by
    constructor
    ·intro h
     exact UInt8.toNat_inj.1 (by omega)
    ·intro h;rw[h]
   have k92:(((s.getD x 0).toNat:Nat):Int)=92↔s.getD x 0=92:=key (s.getD x 0) 92 92 (by omega) rfl
   rw[w1]
   refine⟨⟨by omega,hlt⟩,fun hne=>⟨⟨by omega,hlt⟩,fun h9=>⟨x+2,⟨by omega,?_⟩,by omega,w2⟩,fun h9=>⟨x+1,⟨by omega,.inl ⟨hlt',?_⟩⟩,by omega,rfl⟩⟩,fun he=>?_⟩
   ·have e92:s.getD x 0=92:=k92.1 h9
    rw[hdx,e92] at hok
    by_cases hl:x+1<s.length
    ·have hd2:s.drop (x+1)=s.getD (x+1) 0::s.drop (x+2):=by
      rw[List.drop_eq_getElem_cons hl,List.getD_eq_getElem?_getD,List.getElem?_eq_getElem hl];rfl
     rw[hd2,IS h92] at hok
     exact .inl ⟨by omega,by omega⟩
    ·rw[List.drop_eq_nil_of_le (show s.length<=x+1 by omega),Gm,if_neg h92] at hok
     exact .inr ⟨by omega,by omega⟩
   ·rw[hdx,Baj (fun h=>hne (kq.2 h)) (fun h=>h9 (k92.2 h))] at hok
    omega
   ·rw[hdx,kq.1 he,BcS] at hok
    rw[if_neg (by omega)]
    omega
  ·obtain ⟨lo,hok⟩:=hx
   have wx:x<=s.length+1:=by rcases hok with h | h<;>omega
   have w1:IntKind.i64.wrap ((x:Int)+1)=((x+1:Nat):Int):=by rw[Bb (by omega) (by omega)];rfl
   rw[w1,if_pos (by omega)]
   rcases hok with ⟨h1,h2⟩ | ⟨h1,h2⟩
   ·rw[List.drop_eq_nil_of_le (show s.length<=x by omega),Gm] at h2
    omega
   ·omega
def Bjp(n:Nd):Con:=fun k ds S=>match k with
 |59=>match ds with
  | [.str s,.int .i64 a]=>some (pA ds S (.int .i64 ((a.toNat+TG (s.drop a.toNat):Nat):Int)) (0<=a/\a<s.length/\s.length<=100000000000000))
  |_=>none
 |58=>some (pA ds S (.str (Er n)) (isN n ds []))
 |_=>none
theorem Bl4{n:Nd}(ho:n.ok)(hn:n.sm):ConOk Tryz.prog (Bjp n):=by
 intro k ds S A hh
 unfold Bjp at hh
 split at hh
 ·split at hh
  ·rename_i s a
   injection hh with hh;subst hh
   refine Bo fun ⟨h0,h1,h2⟩=>CD.at_ ?_ _
   have e:a=((a.toNat:Nat):Int):=by omega
   have:=Bp5 s a.toNat (by omega) h2
   rw[<- e] at this
   exact this
  ·cases hh
 ·injection hh with hh;subst hh
  exact Bo fun e=>CD.at_ (CD.wk (Bor n ho hn) e) _
 ·cases hh
def ptX(n:Nd):List (List UInt8):=(ptN n).map prT
structure PpI (X:List (List UInt8)) (T:List UInt8) (a:Int) (out:List (List UInt8)):Prop where
 ok:∃k,k<=X.length/\out=X.take k/\((k<X.length/\a=(T.length-(Lib.join (X.drop k) [32]).length:Nat)/\T.drop a.toNat=Lib.join (X.drop k) [32]/\a<T.length)\/(k=X.length/\a=T.length+1))
noncomputable def Epp(n:Nd):Senv:={ EC (Bjp n) 27 7 [12] (fun _=>([],[])) with
 mg:=fun _=>2
 gh:=fun b=>match b with
  |0=>[.slot 3]
  |_=>[]
 ann:=fun b _ S=>match b with
  |0=>some { slots:=[5,3],keep:=[0,1,4],α:=Int×Nat×List (List UInt8),st:=fun y=>([.int .i64 y.1,ssl y.2.2 (.tok 0 y.2.1)],⟨S.objs,[(0,y.2.1)]⟩),inv:=fun y=>PpI (ptX n) (Bt n) y.1 y.2.2,mu:=fun y=>(Bt n).length+1-y.1.toNat }
  |_=>none }
def QIA(a:Nd):Int:=Nd.kd a
def QIB(a:Nd):Int:=Nd.at_ a
def QIC(a:Nd):Int:=Nd.cl a
def QID(a:Nd):List UInt8:=Nd.tx a
def QIE(a:Nd):Int:=Nd.pr a
def QIF(a:Nd):Int:=Nd.op a
def Qe1(a:Nd):Arr:=Nd.va a
def QIG(a:Nd):Int:=Arr.k (Qe1 a)
def QIH(a:Nd):List Int:=Arr.sh (Qe1 a)
def QlX(a:Nd):Nat:=LN (QIH a)
def QII(a:Nd)(b:Nat):List D:=[ZI (GI (QIH a) b)]
def QIJ(a:Nd):List Int:=Arr.nu (Qe1 a)
def QlY(a:Nd):Nat:=LN (QIJ a)
def QIK(a:Nd)(b:Nat):List D:=[ZI (GI (QIJ a) b)]
def QIL(a:Nd):List Arr:=Arr.it (Qe1 a)
def QlZ(a:Nd):Nat:=LN (QIL a)
def QIM:Arr:=DA
def QIN(a:Nd)(b:Nat):List D:=Arr.row (List.getD (QIL a) b QIM)
def Ql0(a:Nd):Nat:=LN (Nd.ki a)
def Ql1:Nd:=Nd.mk Z0 Z0 Z0 [] Z0 Z0 QIM [] [] Z0 Z0 Z0
def QIO(a:Nd)(b:Nat):List D:=Nd.row (List.getD (Nd.ki a) b Ql1)
def Ql2(a:Nd):Nat:=LN (Nd.bo a)
def QIP(a:Nd)(b:Nat):List D:=Sm.row (List.getD (Nd.bo a) b (Sm.mk Z0 Z0 [] Z0 Ql1 Ql1))
def QIQ(a:Nd):Int:=Nd.de a
def QIR(a:Nd):Int:=Nd.sl a
def QIS(a:Nd):Int:=Nd.ss a
def QIT(a:Nd):D:=D.agg (Nd.rowE a)
def Ql3(a:Nd):List (List UInt8):=ptX a
def Ql4(a:Nd)(b:Int)(c:List (List UInt8)):Prop:=PpI (Ql3 a) (Bt a) b c
def Qe2(a:List (List UInt8))(b:Nat):List D:=[D.str (List.getD a b [])]
def QIU(a:Nat)(b:Nd)(c d:Nat):Prop:=(SM a/\(SM (QIA b)/\SM (QIB b)/\SM (QIC b)/\SM (QID b)/\SM (QIE b)/\SM (QIF b)/\SM (QIG b)/\(SM (QlX b)/\(∀(i:Nat),i<QlX b->SM (QII b i))/\True)/\(SM (QlY b)/\(∀(i:Nat),i<QlY b->SM (QIK b i))/\True)/\(SM (QlZ b)/\(∀(i:Nat),i<QlZ b->SM (QIN b i))/\True)/\(SM (Ql0 b)/\(∀(i:Nat),i<Ql0 b->SM (QIO b i))/\True)/\(SM (Ql2 b)/\(∀(i:Nat),i<Ql2 b->SM (QIP b i))/\True)/\SM (QIQ b)/\SM (QIR b)/\SM (QIS b)/\True)/\True)/\c=d/\True
def HQ(a:Nd):List UInt8:=Er a
def Ql5(a:Nd):Int:=(LI (HQ a))
def Qe3(a:Int)(b:Nd):Int:=(NI (Int.toNat a+TG (List.drop (Int.toNat a) (HQ b))))
theorem Bp3(n:Nd)(hv:BV n=0)(ho:n.ok)(hn:n.sm):CD 34 [.agg n.row1] (ssl (ptX n) .any):=by
 refine Bh (A:=sC _ _) (x:=()) (E:=Epp n) (eOk (Bl4 ho hn) rfl) Tryz.func34 rfl (by kernel_rfl) rfl (by simp[sC,Epp,EC,E0]) ?_
 refine Bj (T :=
  ∀(x:Nat),True->SM x/\∃(x_1:Unit),isN n [QIT n] []/\∀(y:Unit),True->∀(t:Nat),(∃(x_2:Int×Nat×List (List UInt8)),Ql4 n x_2.1 x_2.2.2/\(Z0=x_2.1/\(N0=LN x_2.2.2/\(∀(i:Nat),i<N0->Cw (List D) [] (Qe2 x_2.2.2 i))/\t=x_2.2.1)/\True)/\QIU x n t x_2.2.1)/\∀(x_2:Int×Nat×List (List UInt8)),Ql4 n x_2.1 x_2.2.2->ifB (decide (x_2.1<Ql5 n)) (∃(x_3:Unit),(Z0<=x_2.1/\x_2.1<Ql5 n/\LN (HQ n)<=100000000000000)/\∀(y:Unit),True->Be (Z0<=x_2.1/\x_2.1<=Qe3 x_2.1 n/\Qe3 x_2.1 n<=Ql5 n) (SM x_2.2.1/\Be ((LN x_2.2.2+N1)*16<=140737488355328/\LN x_2.2.2+N1<=9223372036854775807) (∀(t:Nat),(SM (QIT n)/\SM (D.ref N0 x N0)/\SM (D.str (HQ n))/\True)/\∃(y:Int×Nat×List (List UInt8)),Ql4 n y.1 y.2.2/\LN (Bt n)+N1-Int.toNat y.1<LN (Bt n)+N1-Int.toNat x_2.1/\(IntKind.wrap IntKind.i64 (Qe3 x_2.1 n+Z1)=y.1/\(LN x_2.2.2+N1=LN y.2.2/\(∀(i:Nat),i<LN x_2.2.2+N1->BM (LN x_2.2.2) (fun i=>Qe2 x_2.2.2 i) (fun i=>[D.str (List.getD [List.drop (Int.toNat x_2.1) (List.take (Int.toNat (Qe3 x_2.1 n)) (HQ n))] i [])]) i=Qe2 y.2.2 i)/\t=y.2.1)/\True)/\QIU x n t y.2.1))) (True/\∃(y:Unit),True/\(LN x_2.2.2=LN (Ql3 n)/\(∀(i:Nat),i<LN x_2.2.2->Qe2 x_2.2.2 i=[D.str (List.getD (Ql3 n) i [])])/\True)/\True/\True)) (by kernel_rfl) ?_
 delta DA GI LI LN N0 N1 N4 NI SM Z0 Z1 ZI QIA QIB QIC QID QIE QIF Qe1 QIG QIH QlX QII QIJ QlY QIK QIL QlZ QIM QIN Ql0 Ql1 QIO Ql2 QIP QIQ QIR QIS QIT Ql3 Ql4 Qe2 QIU HQ Ql5 Qe3
 try simp only[<- dm]
 try simp only[<- dn]
 simp only[eq_self,ne_eq,implies_true,Ba,Int.toNat_natCast,Bf,Bc,decide_eq_true_eq,decide_eq_false_iff_not,true_and,and_true,beq_iff_eq,bne_iff_ne,bne_eq_false_iff_eq,beq_eq_false_iff_ne,Bool.not_eq_true',Bool.not_eq_false',exists_const,forall_const,Prod.exists]
 obtain ⟨_,hz,hvn⟩:=BZ.1 hv
 have hsN:Er n=Bt n:=if_pos hv
 obtain ⟨ht,hne⟩:=Wo n hvn
 have hT:Bt n=Lib.join (ptX n) [32]:=ht.symm
 have hln:=Et n hvn ho
 have hgood:∀x∈ptX n,Bda x:=fun x hx=>by
  obtain ⟨p,hp,rfl⟩:=List.mem_map.1 hx
  have:=okN n hvn ho p hp
  cases p with
  |tx y=>exact this.1
  |op=>exact Ma (by simp[prT]) (by decide) ⟨by decide,by decide⟩
  |cl=>exact Ma (by simp[prT]) (by decide) ⟨by decide,by decide⟩
  |sp=>exact Ma (by simp[prT]) (by decide) ⟨by decide,by decide⟩
 have hX0:0<(ptX n).length:=by unfold ptX;rw[List.length_map];exact List.length_pos_iff.2 hne
 have hXl:(ptX n).length<=(Bt n).length+1:=by
  have h1:=TO (ptN n)
  have h2:(ptN n).length<=IT (ptN n):=by
   have:∀ps:List Pt,ps.length<=IT ps:=fun ps=>by
    induction ps with
    |nil=>simp
    |cons p r ih =>
     unfold IT at ih ⊢
     rw[List.map_cons,List.sum_cons,List.length_cons]
     omega
   exact this _
  unfold ptX
  rw[List.length_map]
  rw[ht] at h1
  omega
 rw[hsN]
 generalize ptX n=X at *
 generalize Bt n=T at *
 have jcons:∀k,k<X.length->Lib.join (X.drop k) [32]=X.getD k []++(if k+1<X.length then 32::Lib.join (X.drop (k+1)) [32] else []):=fun k hk=>by
  have e:X.drop k=X.getD k []::X.drop (k+1):=by
   rw[List.drop_eq_getElem_cons hk,List.getD_eq_getElem?_getD,List.getElem?_eq_getElem hk];rfl
  rw[e,B7]
  congr 1
  by_cases h:k+1<X.length
  ·rw[if_pos h]
   cases hr:X.drop (k+1) with
   |nil=>have:=congrArg List.length hr;simp at this;omega
   |cons y r=>rw[BbJ];rfl
  ·rw[if_neg h,List.drop_eq_nil_of_le (by omega)]
   simp[jT]
 have gx:∀k,k<X.length->Bda (X.getD k []):=fun k hk=>hgood _ (by
  rw[List.getD_eq_getElem?_getD,List.getElem?_eq_getElem hk];exact List.getElem_mem hk)
 have jpos:∀k,k<X.length->0<(Lib.join (X.drop k) [32]).length:=fun k hk=>by
  rw[jcons k hk,List.length_append]
  have:=List.length_pos_iff.2 (gx k hk).1
  omega
 clear ht hne hgood hsN
 refine⟨Bl _ _,fun t=>⟨⟨0,t,[],⟨⟨0,Nat.zero_le _,rfl,.inl ⟨hX0,?_,?_,?_⟩⟩⟩,⟨rfl,rfl,fun i hi=>absurd hi (Nat.not_lt_zero _),rfl⟩,rfl⟩,?_⟩⟩
 ·rw[List.drop_zero,<- hT];omega
 ·rw[List.drop_zero,<- hT];rfl
 ·have:=jpos 0 hX0
  rw[List.drop_zero,<- hT] at this
  omega
 rintro ⟨a,tk,out⟩ ⟨⟨k,hk,hout,hst⟩⟩
 simp only at hk hout hst ⊢
 have hol:out.length=k:=by rw[hout,List.length_take];omega
 refine⟨fun hlt=>?_,fun hge=>?_⟩
 ·obtain ⟨hk1,ha,hdr,_⟩:k<X.length/\a=(T.length-(Lib.join (X.drop k) [32]).length:Nat)/\T.drop a.toNat=Lib.join (X.drop k) [32]/\a<T.length:=by
   rcases hst with h | h
   ·exact h
   ·omega
  obtain ⟨m,rfl⟩:∃m:Nat,a=m:=⟨a.toNat,by omega⟩
  rw[Int.toNat_natCast] at hdr ⊢
  have hj:=jcons k hk1
  have hcut:TG (T.drop m)=(X.getD k []).length:=by
   rw[hdr,hj]
   refine (gx k hk1).2 _ ?_
   split
   ·exact .inr ⟨_,rfl⟩
   ·exact .inl rfl
  have hjl:(Lib.join (X.drop k) [32]).length=T.length-m:=by rw[<- hdr,List.length_drop]
  have hxl:(X.getD k []).length+(if k+1<X.length then 1+(Lib.join (X.drop (k+1)) [32]).length else 0)=T.length-m:=by
   rw[<- hjl,hj,List.length_append]
   split
   ·rw[List.length_cons];omega
   ·rfl
  have hsub:List.drop m (List.take (m+TG (T.drop m)) T)=X.getD k []:=by
   rw[List.drop_take,hcut,hdr,Nat.add_sub_cancel_left,hj]
   exact List.take_left' rfl
  rw[hsub,hcut]
  have wn:IntKind.i64.wrap (((m+(X.getD k []).length:Nat):Int)+1)=((m+(X.getD k []).length+1:Nat):Int):=by
   rw[Bb (by split at hxl<;>omega) (by split at hxl<;>omega)];rfl
  have hxp:=List.length_pos_iff.2 (gx k hk1).1
  refine⟨⟨by omega,by omega,by omega⟩,⟨by omega,by omega,by split at hxl<;>omega⟩,⟨by omega,by omega⟩,fun t2=>⟨((m+(X.getD k []).length+1:Nat):Int),t2,out++[X.getD k []],⟨⟨k+1,hk1,?_,?_⟩⟩,by omega,⟨wn,by simp,fun i hi=>Tk i hi,rfl⟩,rfl⟩⟩
  ·rw[hout,List.take_add_one,List.getElem?_eq_getElem hk1,List.getD_eq_getElem?_getD,List.getElem?_eq_getElem hk1];rfl
  ·by_cases h1:k+1<X.length
   ·rw[if_pos h1] at hxl
    have hp:=jpos (k+1) h1
    refine .inl ⟨h1,by omega,?_,by omega⟩
    rw[Int.toNat_natCast]
    have e:T.drop (m+(X.getD k []).length+1)=(T.drop m).drop ((X.getD k []).length+1):=by rw[List.drop_drop];congr 1
    rw[e,hdr,hj,if_pos h1,List.drop_append]
    simp
   ·rw[if_neg h1] at hxl
    exact .inr ⟨by omega,by omega⟩
 ·have hkl:k=X.length:=by
   rcases hst with h | h
   ·exact absurd h.2.2.2 hge
   ·exact h.1
  rw[hkl,List.take_length] at hout
  rw[hout]
  exact⟨rfl,fun _ _=>rfl⟩
theorem Bqf:liesAt Tryz.prog Tryz.prog.depth 52 (4 / Tryz.prog.cellsOf 52) 0 50 1=true:=by kernel_rfl
theorem Bg7(b : Nat)(w : World)(h0 : w.cell? ⟨b, 0, none⟩=some (.pointer none))(hsh : w.shape? b=some (52, 4))(hfz : w.frozen? ⟨b, 0, none⟩=false) :
  Calls Tryz.prog 40 #[.pointer (some ⟨b,0,none⟩)] w fun e w'=>e=.returned (.tuple #[])/\w'=w.setCell ⟨b,0,none⟩ (.pointer (some ⟨b,0,none⟩)):=by
 obtain ⟨j,hj,hjs⟩:=Bjq
 go_enter Tryz.func40,Tryz.ntmps40
 go_wp2
 rw[Lib.run_to_unsafe w ⟨b,0,none⟩ tyB tyU hj (by rw[hjs];decide) hsh (Nat.zero_lt_succ 3)]
 simp only[Result.andThen]
 rw[Oper.upon_value]
 go_wp2
 rw[run_callFunc_extern Tryz.func64 (by kernel_rfl) (by kernel_rfl) (by kernel_rfl) (e:=Extern.AbiNoEscape.same) (by kernel_rfl)]
 rw[Lib.run_noEscape]
 simp only[Result.andThen]
 rw[Oper.upon_value]
 go_wp2
 rw[Lib.run_from_unsafe w ⟨b,0,none⟩ tyU tyB hj hsh Bqf]
 simp only[Result.andThen]
 rw[Oper.upon_value]
 go_wp2
 go_end0
 exact⟨rfl,rfl⟩
def sCx(k x E:Nat)(d:D)(ds:List D):FnSpec where
 β:=Unit
 α:=Unit
 args:=fun _=>[.ref k x 0]
 st:=fun _=>⟨[(k,x,.bldx 52 E d ds)],[]⟩
 pre:=fun _=>True
 post:=fun _ _=>True
 res:=fun _ _=>.ret (.tup [])
 out:=fun _ _=>⟨[(k,x,.bldx 52 E d ds)],[]⟩
theorem BoP(k x E:Nat)(d:D)(ds:List D)(hds:ds.length=2):ACalls Tryz.prog 40 ((sCx k x E d ds).args ()) ((sCx k x E d ds).st ()) (SpecR (sCx k x E d ds) ()):=by
 refine⟨⟨_,Tryz.func40,by kernel_rfl,by kernel_rfl⟩,fun C F args w ha hs=>?_⟩
 obtain ⟨u,e,hu⟩:=ER ha
 have e2:args=[u].toArray:=by rw[<- e]
 subst e2
 simp only[Rep] at hu
 subst hu
 have hg:BK ((sCx k x E d ds).st ()).objs k=some (x,.bldx 52 E d ds):=by simp[sCx,BK]
 obtain ⟨c1,c2,arr,v0,v1,vs,fz,h1,hl,h2,h3,h4,h5,h6⟩:=hs.obj_of hg
 have hvs:vs.length=2:=(RepL.length h5).trans hds
 have hsz:arr.size=4:=by have:=congrArg List.length hl;simpa[hvs] using this
 have fin:∀w',Sat C (((sCx k x E d ds).st ()).add F) w'->∃C' r S',C.le C'/\Sat C' (S'.add F) w'/\RepEnd C' r (.returned (.tuple #[]))/\SpecR (sCx k x E d ds) () r S':=fun w' h =>
  ⟨C,.ret (.tup []),_,.refl C,h,by simp[RepEnd,Rep,RepL],(),trivial,rfl,rfl⟩
 have hc0:w.cell? ⟨x,0,none⟩=some v0:=by rw[Bs h1,<- Array.getElem?_toList,hl];rfl
 rcases h3 with rfl | rfl
 ·have hsh:w.shape? x=some (52,4):=by simp[World.shape?,h1,hsz]
  have hfz:w.frozen? ⟨x,0,none⟩=false:=Cr h1 h2 (by omega)
  refine (Bg7 x w hc0 hsh hfz).mono fun e w' ⟨he,hw⟩=>?_
  subst he hw
  refine fin _ ?_
  have hr:=CO h1 (o:=0) (.pointer (some ⟨x,0,none⟩))
  have:=hs.replace (o':=.bldx 52 E d ds) (w':=w.setCell ⟨x,0,none⟩ (.pointer (some ⟨x,0,none⟩))) hg (by simp) (fun j hj=>Go.RowKit.Below.heap_setCell _ _ _ _ hj) rfl rfl rfl ⟨_,_,v1,vs,fz,hr,by rw[Array.toList_setIfInBounds,hl];rfl,h2.set 0 _,.inr rfl,h4,h5,h6⟩
  simpa[sCx,St.set,Id] using this
 ·refine (Bfx x w hc0).mono fun e w' ⟨he,hw⟩=>?_
  subst he hw
  exact fin _ hs
def Bfu:Con:=fun k ds S=>match k with
 |40=>match ds with
  | [.ref k x 0]=>match BK S.objs k with
   |some (y,.bldx T E d ds)=>some ((sCx k x E d ds).fits () (y=x/\T=52/\OL d=true/\ds.length=2))
   |_=>none
  |_=>none
 |_=>none
theorem Bdq:ConOk Tryz.prog Bfu:=by
 intro k ds S A h
 unfold Bfu at h
 split at h
 ·split at h
  ·rename_i k x
   split at h
   ·rename_i y T E d ds hg
    injection h with h;subst h
    refine⟨fun _ hp=>BoP k x E d ds hp.1.2.2.2,fun _ _ hy=>?_,fun h=>nomatch h⟩
    obtain ⟨⟨rfl,rfl,ht,_⟩,_⟩:=hy
    refine⟨⟨by simp[sCx,FnSpec.fits,Bn,chk],trivial⟩,Bd.2 ⟨rfl,?_,trivial⟩⟩
    simp only[FnSpec.fits,sCx,leO,hg]
    exact⟨trivial,Bd.2 ⟨by simp[ht],Bp _,Ba _⟩,trivial⟩
   ·cases h
  ·cases h
 ·cases h
def sXs(e1:List UInt8)(e2:Int)(f:List UInt8)(E x t:Nat)(l:List UInt8)(r:AEnd)(ar:List D):FnSpec where
 β:=Unit
 α:=Nat
 args:=fun _=>.ref 0 x 0::ar
 st:=fun _=>⟨[(0,x,.bldx 52 E (bsl l (.tok 0 t)) [.str e1,.int .i64 e2])],[(0,t)]⟩
 pre:=fun _=>True
 post:=fun _ _=>True
 res:=fun _ _=>r
 out:=fun _ t'=>⟨[(0,x,.bldx 52 E (bsl (l++f) (.tok 0 t')) [.str e1,.int .i64 e2])],[(0,t')]⟩
noncomputable def Exws:Senv:={ EC Bfu 19 2 [4,5] (fun _=>([],[])) with own:=fun t=>Nat.beq t 48 }
theorem BoV(e1 : List UInt8)(e2 : Int)(x t : Nat)(l s : List UInt8)(hl : l.length+s.length<=140737488355328) :
  ACalls Tryz.prog 35 ((sXs e1 e2 s 5 x t l (.ret (.tup [.int .i64 s.length,.nili])) [.str s]).args ()) ((sXs e1 e2 s 5 x t l (.ret (.tup [.int .i64 s.length,.nili])) [.str s]).st ()) (SpecR (sXs e1 e2 s 5 x t l (.ret (.tup [.int .i64 s.length,.nili])) [.str s]) ()):=by
 refine Bh (A:=sXs e1 e2 s 5 x t l (.ret (.tup [.int .i64 s.length,.nili])) [.str s]) (x:=()) (E:=Exws) (eOk Bdq rfl) Tryz.func35 rfl (by kernel_rfl) rfl (by simp[sXs,Exws,EC,E0]) ?_
 refine Bj (T :=
  ((SM x/\SM (52:Nat)/\SM true/\SM N2)/\True)/\∀(y:Unit),True->SM x/\SM t/\Be ((LN l+LN s)*N1<=140737488355328/\LN l+LN s<=9223372036854775807) (∀(t1:Nat),(t % (1000003:Nat)=N6->t1 % (1000003:Nat)=N6)->SM x/\(t % (1000003:Nat)=N6->t1 % (1000003:Nat)=N6)/\True/\∃(y:Nat),True/\(SM (LI s)/\True/\True)/\(SM x/\((LN l+LN s=LN (l++s)/\(∀(i:Nat),i<LN l+LN s->BM (LN l) (fun i=>[ZB (BI l i)]) (fun i=>[ZB (BI s i)]) i=[ZB (BI (l++s) i)])/\t1=y)/\SM e1/\SM e2/\True)/\True)/\t1=y/\True)) (by kernel_rfl) ?_
 delta BI LI LN N1 N2 N6 SM U0 ZB
 refine⟨⟨⟨rfl,rfl,rfl,rfl⟩,trivial⟩,fun _ _=>⟨rfl,rfl,?_⟩⟩
 rw[Bc]
 refine⟨by omega,fun t1 ht=>⟨rfl,ht,trivial,t1,?_⟩⟩
 repeat' (first | exact trivial | exact rfl | exact Mf rfl (fun _ _=>rfl) (fun _ _=>rfl) | exact List.length_append.symm | refine And.intro ?_ ?_)
noncomputable def Exwb:Senv:={ EC Bfu 17 2 [4] (fun _=>([],[])) with own:=fun t=>Nat.beq t 48 }
theorem Bpm(e1 : List UInt8)(e2 : Int)(x t : Nat)(l : List UInt8)(b : UInt8)(hl : l.length+1<=140737488355328) :
  ACalls Tryz.prog 19 ((sXs e1 e2 [b] 5 x t l (.ret .nili) [.int .u8 (b.toNat:Int)]).args ()) ((sXs e1 e2 [b] 5 x t l (.ret .nili) [.int .u8 (b.toNat:Int)]).st ()) (SpecR (sXs e1 e2 [b] 5 x t l (.ret .nili) [.int .u8 (b.toNat:Int)]) ()):=by
 refine Bh (A:=sXs e1 e2 [b] 5 x t l (.ret .nili) [.int .u8 (b.toNat:Int)]) (x:=()) (E:=Exwb) (eOk Bdq rfl) Tryz.func19 rfl (by kernel_rfl) rfl (by simp[sXs,Exwb,EC,E0]) ?_
 refine Bj (T :=
  ((SM x/\SM (52:Nat)/\SM true/\SM N2)/\True)/\∀(y:Unit),True->SM x/\SM t/\Be ((LN l+N1)*N1<=140737488355328/\LN l+N1<=9223372036854775807) (∀(t1:Nat),(t % (1000003:Nat)=N6->t1 % (1000003:Nat)=N6)->SM x/\(t % (1000003:Nat)=N6->t1 % (1000003:Nat)=N6)/\True/\∃(y:Nat),True/\True/\(SM x/\((LN l+N1=LN (l++[b])/\(∀(i:Nat),i<LN l+N1->BM (LN l) (fun i=>[ZB (BI l i)]) (fun i=>List.getD [[ZB (NI (UInt8.toNat b))]] i []) i=[ZB (BI (l++[b]) i)])/\t1=y)/\SM e1/\SM e2/\True)/\True)/\t1=y/\True)) (by kernel_rfl) ?_
 delta BI LN N1 N2 N6 NI SM U0 ZB
 refine⟨⟨⟨rfl,rfl,rfl,rfl⟩,trivial⟩,fun _ _=>⟨rfl,rfl,?_⟩⟩
 rw[Bc]
 refine⟨by omega,fun t1 ht=>⟨rfl,ht,trivial,t1,?_⟩⟩
 repeat' (first | exact trivial | exact rfl | exact Mw rfl (fun _ _=>rfl) rfl | (simp;done) | refine And.intro ?_ ?_)
def sXw(e1:List UInt8)(e2:Int)(f:List UInt8)(k kt x t:Nat)(l:List UInt8)(r:AEnd)(ar:List D):FnSpec where
 β:=Unit
 α:=Nat
 args:=fun _=>.ref k x 0::ar
 st:=fun _=>⟨[(k,x,.bldx 52 5 (bsl l (.tok kt t)) [.str e1,.int .i64 e2])],[(kt,t)]⟩
 pre:=fun _=>True
 post:=fun _ _=>True
 res:=fun _ _=>r
 out:=fun _ t'=>⟨[(k,x,.bldx 52 5 (bsl (l++f) (.tok kt t')) [.str e1,.int .i64 e2])],[(kt,t')]⟩
theorem BnS{g : Nat}{e1 : List UInt8}{e2 : Int}{f : List UInt8}(k kt x t : Nat){l : List UInt8}{r : AEnd}{ar : List D}(h : ACalls Tryz.prog g ((sXs e1 e2 f 5 x t l r ar).args ()) ((sXs e1 e2 f 5 x t l r ar).st ()) (SpecR (sXs e1 e2 f 5 x t l r ar) ())) :
  ACalls Tryz.prog g ((sXw e1 e2 f k kt x t l r ar).args ()) ((sXw e1 e2 f k kt x t l r ar).st ()) (SpecR (sXw e1 e2 f k kt x t l r ar) ()):=by
 refine h.respec (A':=sXw e1 e2 f k kt x t l r ar) (x':=()) ?_ ?_ fun y _=>⟨y,trivial,?_,?_⟩
 ·simp[sXw,sXs,BD,Bn,chk,Ba]
 ·simp[sXw,sXs,Bbw,RF,BbT,GF,BD,Bn,chk,bsl,BF,OL,Ba,kEq]
 ·simp only[sXw,sXs];cases r<;>simp[M9,Bp]
 ·simp[sXw,sXs,Bbw,RF,BbT,GF,BD,Bn,chk,bsl,BF,OL,Ba,kEq]<;>try rfl
theorem Bh0(b g cap cs : Nat)(ar : Array Value)(fz : Nat×Nat)(arr : Array Value)(fg : Nat×Nat)(l : List UInt8)(w : World)(h0 : l≠[])(hn : l.length<=cap)(hcs : l.length<=arr.size)(h63 : l.length<=9223372036854775807)
  (hbk:w.heap[b]? =some (.cells ar cs fz)) (har:ar[1]? =some (.slice (some ⟨g,0,none⟩) l.length cap)) (hg:w.heap[g]? =some (.cells arr 5 fg))
  (hcell:∀j x,l[j]? =some x->w.cell? ⟨g,j,none⟩=some (.int .u8 x.toNat)) :
  Calls Tryz.prog 20 #[.pointer (some ⟨b,0,none⟩)] w fun e w'=>e=.returned (.string ⟨l.toArray⟩)/\w'=w.drew.freeze ⟨g,0,none⟩ l.length:=by
 have hl0:l.length≠0:=by simpa using h0
 have c1:w.drew.cell? ⟨b,1,none⟩=some (.slice (some ⟨g,0,none⟩) l.length cap):=by
  have:w.drew.heap[b]? =some (.cells ar cs fz):=hbk
  rw[Bs this];exact har
 have hSD:(Builtin.unsafeSliceData_ #[48] 81 #[.slice (some ⟨g,0,none⟩) l.length cap]).run Tryz.prog w.drew=.ok (.pointer (some ⟨g,0,none⟩)) w.drew :=
  Lib.run_unsafeSliceData_row _ _ _ _ _ _ (by omega)
 have hUS:(Builtin.unsafeString_ #[81,3] 9 #[.pointer (some ⟨g,0,none⟩),.int .i64 l.length]).run Tryz.prog w.drew=.ok (.string ⟨l.toArray⟩) (w.drew.freeze ⟨g,0,none⟩ l.length):=by
  refine Lib.run_unsafeString_row w.drew 81 3 9 5 Tryz.underlying81 (by kernel_rfl) g arr.size (by have hg':w.drew.heap[g]? =some (.cells arr 5 fg):=hg;simp[World.shape?,hg']) l h0 hcs h63 ?_
  intro j x hx
  have e:w.drew.cell? ⟨g,j,none⟩=some (.int .u8 x.toNat):=hcell j x hx
  have e2:(if j=0 then (⟨g,0,none⟩:Addr) else ⟨g,j,none⟩)=⟨g,j,none⟩:=by split<;>simp_all
  simpa[Addr.add,e2] using e
 have mixed:Tryz.prog.follows .mixedOrders=true:=by kernel_rfl
 go_enter Tryz.func20,Tryz.ntmps20
 go_wp2
 go_region_o
 all_goals (go_wp2;go_ret;exact⟨rfl,rfl⟩)
theorem Bkl(b cs : Nat)(ar : Array Value)(fz : Nat×Nat)(w : World)(hbk : w.heap[b]? =some (.cells ar cs fz))(har : ar[1]? =some (.slice none 0 0)) :
  Calls Tryz.prog 20 #[.pointer (some ⟨b,0,none⟩)] w fun e w'=>e=.returned (.string ⟨#[]⟩)/\Go.RowKit.Below w.heap.size w w':=by
 have hUS:∀W,(Builtin.unsafeString_ #[81,3] 9 #[.pointer none,.int .i64 0]).run Tryz.prog W=.ok (.string .empty) W:=fun W=>Lib.run_unsafeString_none W _ _ _ none
 have c1:w.drew.cell? ⟨b,1,none⟩=some (.slice none 0 0):=by
  have:w.drew.heap[b]? =some (.cells ar cs fz):=hbk
  rw[Bs this];exact har
 have hSD:(Builtin.unsafeSliceData_ #[48] 81 #[.slice none 0 0]).run Tryz.prog w.drew=.ok (.pointer none) w.drew:=Lib.run_unsafeSliceData_nil _ _ _ _ _
 have mixed:Tryz.prog.follows .mixedOrders=true:=by kernel_rfl
 go_enter Tryz.func20,Tryz.ntmps20
 go_wp2
 go_region_o
 all_goals (go_wp2;go_ret;exact⟨rfl,Go.RowKit.Below.drew (Go.RowKit.Below.refl _ w)⟩)
theorem Bij(b g cap cs : Nat)(ar : Array Value)(fz : Nat×Nat)(w : World)(hc0 : cap≠0)(hbk : w.heap[b]? =some (.cells ar cs fz))(har : ar[1]? =some (.slice (some ⟨g, 0, none⟩) 0 cap)) :
  Calls Tryz.prog 20 #[.pointer (some ⟨b,0,none⟩)] w fun e w'=>e=.returned (.string ⟨#[]⟩)/\Go.RowKit.Below w.heap.size w w':=by
 have hUS:∀W,(Builtin.unsafeString_ #[81,3] 9 #[.pointer (some ⟨g,0,none⟩),.int .i64 0]).run Tryz.prog W=.ok (.string .empty) W:=fun W=>Lib.run_unsafeString_none W _ _ _ _
 have c1:w.drew.cell? ⟨b,1,none⟩=some (.slice (some ⟨g,0,none⟩) 0 cap):=by
  have:w.drew.heap[b]? =some (.cells ar cs fz):=hbk
  rw[Bs this];exact har
 have hSD:(Builtin.unsafeSliceData_ #[48] 81 #[.slice (some ⟨g,0,none⟩) 0 cap]).run Tryz.prog w.drew=.ok (.pointer (some ⟨g,0,none⟩)) w.drew :=
  Lib.run_unsafeSliceData_row _ _ _ _ _ _ hc0
 clear hc0
 have mixed:Tryz.prog.follows .mixedOrders=true:=by kernel_rfl
 go_enter Tryz.func20,Tryz.ntmps20
 go_wp2
 go_region_o
 all_goals (go_wp2;go_ret;exact⟨rfl,Go.RowKit.Below.drew (Go.RowKit.Below.refl _ w)⟩)
theorem Bch(b g cs : Nat)(ar : Array Value)(fz fg : Nat×Nat)(arr : Array Value)(E : Nat)(w : World)(hg : w.heap[g]? =some (.cells arr E fg))(hbk : w.heap[b]? =some (.cells ar cs fz))(har : ar[1]? =some (.slice (some ⟨g, 0, none⟩) 0 0)) :
  Calls Tryz.prog 20 #[.pointer (some ⟨b,0,none⟩)] w fun e w'=>e=.returned (.string ⟨#[]⟩)/\Go.RowKit.Below w.heap.size w w':=by
 have hUS:∀W q,(Builtin.unsafeString_ #[81,3] 9 #[.pointer q,.int .i64 0]).run Tryz.prog W=.ok (.string .empty) W:=fun W q=>Lib.run_unsafeString_none W _ _ _ q
 have hb:b<w.heap.size:=(Array.getElem?_eq_some_iff.1 hbk).1
 have c1:w.drew.cell? ⟨b,1,none⟩=some (.slice (some ⟨g,0,none⟩) 0 0):=by
  have:w.drew.heap[b]? =some (.cells ar cs fz):=hbk
  rw[Bs this];exact har
 have c0:w.cell? ⟨b,1,none⟩=some (.slice (some ⟨g,0,none⟩) 0 0):=c1
 have hSD:(Builtin.unsafeSliceData_ #[48] 81 #[.slice (some ⟨g,0,none⟩) 0 0]).run Tryz.prog w.drew=.ok (.pointer (some ⟨w.drew.heap.size,0,none⟩)) (w.drew.alloc (.view ⟨g,0,none⟩ 5)) :=
  Lib.run_unsafeSliceData_zero _ _ _ _ Tryz.underlying81 _ _ (E,arr.size) (by have hg':w.drew.heap[g]? =some (.cells arr E fg):=hg;simp[World.shape?,hg'])
 have hSD0:(Builtin.unsafeSliceData_ #[48] 81 #[.slice (some ⟨g,0,none⟩) 0 0]).run Tryz.prog w=.ok (.pointer (some ⟨w.heap.size,0,none⟩)) (w.alloc (.view ⟨g,0,none⟩ 5)) :=
  Lib.run_unsafeSliceData_zero _ _ _ _ Tryz.underlying81 _ _ (E,arr.size) (by simp[World.shape?,hg])
 have c2:(w.drew.alloc (.view ⟨g,0,none⟩ 5)).cell? ⟨b,1,none⟩=some (.slice (some ⟨g,0,none⟩) 0 0):=by
  rw[World.cell?_alloc_lt _ _ _ hb];exact c1
 have c3:(w.alloc (.view ⟨g,0,none⟩ 5)).drew.cell? ⟨b,1,none⟩=some (.slice (some ⟨g,0,none⟩) 0 0):=c2
 have mixed:Tryz.prog.follows .mixedOrders=true:=by kernel_rfl
 go_enter Tryz.func20,Tryz.ntmps20
 go_wp2
 go_region_o
 all_goals (go_wp2;go_ret;exact⟨rfl,(Go.RowKit.Below.drew (Go.RowKit.Below.refl _ w)).alloc (Nat.le_refl _) _⟩)
def sXt(ds:List D)(k kt x t:Nat)(l:List UInt8):FnSpec where
 β:=Unit
 α:=Unit
 args:=fun _=>[.ref k x 0]
 st:=fun _=>⟨[(k,x,.bldx 52 5 (bsl l (.tok kt t)) ds)],[(kt,t)]⟩
 pre:=fun _=>True
 post:=fun _ _=>True
 res:=fun _ _=>.ret (.str l)
 out:=fun _ _=>⟨[],[]⟩
theorem Bng(ds:List D)(k kt x t:Nat)(l:List UInt8)(h63:l.length<=9223372036854775807):ACalls Tryz.prog 20 ((sXt ds k kt x t l).args ()) ((sXt ds k kt x t l).st ()) (SpecR (sXt ds k kt x t l) ()):=by
 refine⟨⟨_,Tryz.func20,by kernel_rfl,by kernel_rfl⟩,fun C F args w ha hs=>?_⟩
 obtain ⟨u,e,hu⟩:=ER ha
 have e2:args=[u].toArray:=by rw[<- e]
 subst e2
 simp only[Rep] at hu
 subst hu
 have hg:BK ((sXt ds k kt x t l).st ()).objs k=some (x,.bldx 52 5 (bsl l (.tok kt t)) ds):=by simp[sXt,BK]
 obtain ⟨c1,c2,arx,v0,v1,vs,fz,h1,hla,h2,h3,h4,_,h5⟩:=hs.obj_of hg
 have h5:ES t=5+1:=h5
 simp only[bsl,Rep] at h4
 obtain ⟨a,len,cap,rfl,hh,hr⟩:=h4
 have har:arx[1]? =some (.slice a len cap):=by rw[<- Array.getElem?_toList,hla];rfl
 have hlen:len=l.length:=hh.1
 subst hlen
 have hF:Sat C F w:=by
  have h:=hs.le (S':=⟨[],[]⟩) ⟨List.nil_sublist _,List.nil_sublist _⟩
  simpa[St.add] using h
 have fin:∀w',Sat C F w'->∃C' r S',C.le C'/\Sat C' (S'.add F) w'/\RepEnd C' r (.returned (.string ⟨l.toArray⟩))/\SpecR (sXt ds k kt x t l) () r S':=fun w' h =>
  ⟨C,.ret (.str l),⟨[],[]⟩,.refl C,h,by simp[RepEnd,Rep],(),trivial,rfl,rfl⟩
 have h6:=hh.2.2.2.2.2
 have hcap:l.length<=cap:=hh.2.1
 simp only at h6
 have hmem:(kt,t)∈(((sXt ds k kt x t l).st ()).add F).toks:=by simp[sXt,St.add]
 obtain ⟨q,q1,q2,q3⟩:=hs.toks (kt,t) hmem
 simp only at q1
 rw[q1] at h6
 cases q with
 |no =>
  simp only at h6
  have ha0:a=none:=h6.2 (by rw[h5];omega)
  subst ha0
  have hl0:=(hh.2.2.2.1 rfl)
  have hl:l=[]:=List.length_eq_zero_iff.1 hl0.1
  subst hl
  obtain rfl:cap=0:=hl0.2
  refine (Bkl x _ arx fz w h1 har).mono fun e w' ⟨he,hb⟩=>?_
  subst he
  exact fin w' (hF.kept hb)
 | «at» g n cp wd =>
  obtain ⟨rfl,rfl,rfl,rfl⟩:=h6
  obtain ⟨p1,p2,arr,E,fg,p3,p4,p5,p6⟩:=q2
  have hE:E=5:=Nat.succ.inj ((p6 (by simp only;rw[h5];omega)).trans h5)
  subst hE
  by_cases hl:l=[]
  ·subst hl
   by_cases hc:cp=0
   ·subst hc
    refine (Bch x g _ arx fz fg arr _ w p3 h1 har).mono fun e w' ⟨he,hb⟩=>?_
    subst he
    exact fin w' (hF.kept hb)
   ·refine (Bij x g cp _ arx fz w hc h1 har).mono fun e w' ⟨he,hb⟩=>?_
    subst he
    exact fin w' (hF.kept hb)
  ·refine (Bh0 x g cp _ arx fz arr fg l w hl hcap (by rw[p5];omega) h63 h1 har p3 fun j y hy=>?_).mono fun e w' ⟨he,hw⟩=>?_
   ·have hj:j<l.length:=(List.getElem?_eq_some_iff.1 hy).1
    have hrow:=(hr ⟨g,0,none⟩ rfl j hj).2
    simp only[RepCells] at hrow
    obtain ⟨⟨v,i1,i2⟩,_⟩:=hrow
    simp only[Rep] at i2
    subst i2
    have:=hs.imm _ _ _ i1
    have e:l.getD j 0=y:=by rw[List.getD_eq_getElem?_getD,hy];rfl
    rw[e] at this
    simpa using this
   ·subst he hw
    refine fin _ (U6 hF.drew p1 (fun p hp e=>q3 p (by simp[St.add,hp]) e.symm) fun s hs2 y hy hcl=>?_)
    cases y with
    |no=>exact hcl
    | «at» b' n' c' wd' =>
     have hcl:b'=g:=hcl
     have hnd:=hs.tnodup
     simp only[St.add,sXt,List.cons_append,List.nil_append,List.map_cons,List.nodup_cons] at hnd
     have hne:t≠s.2:=fun e=>hnd.1 (e ▸ List.mem_map_of_mem hs2)
     exact hs.tdist (kt,t) s _ _ _ _ _ _ _ _ hmem (by simp[St.add,hs2]) hne q1 hy hcl.symm
def Oz(ts:List (Nat×Nat))(x y T E kt t n:Nat)(g:Nat->List D):Prop:=y=x/\T=52/\E=5/\Bgy ts kt t/\Ix n g=true
def Bf2(base:Con):Con:=fun k ds S=>match k with
 |35=>match ds with
  | [.ref k x 0,.str s]=>match BK S.objs k with
   |some (y,.bldx T E (.sl 1 n g (.tok kt t)) [.str e1,.int .i64 e2])=>some ((sXw e1 e2 s k kt x t (bytesOf n g) (.ret (.tup [.int .i64 s.length,.nili])) [.str s]).fits () (Oz S.toks x y T E kt t n g/\n+s.length<=140737488355328))
   |_=>none
  |_=>none
 |19=>match ds with
  | [.ref k x 0,.int .u8 z]=>match BK S.objs k with
   |some (y,.bldx T E (.sl 1 n g (.tok kt t)) [.str e1,.int .i64 e2])=>some ((sXw e1 e2 [Cu z] k kt x t (bytesOf n g) (.ret .nili) [.int .u8 z]).fits () (Oz S.toks x y T E kt t n g/\(0<=z/\z<=255)/\n+1<=140737488355328))
   |_=>none
  |_=>none
 |20=>match ds with
  | [.ref k x 0]=>match BK S.objs k with
   |some (y,.bldx T E (.sl 1 n g (.tok kt t)) ex)=>some ((sXt ex k kt x t (bytesOf n g)).fits () (Oz S.toks x y T E kt t n g/\n<=140737488355328))
   |_=>none
  |_=>none
 |k=>base k ds S
theorem OM{os : List (Nat×Nat×AObj)}{k x y T E n kt t : Nat}{g : Nat -> List D}{ex : List D}(hg : BK os k=some (y, .bldx T E (.sl 1 n g (.tok kt t)) ex))(h1 : y=x)(h2 : T=52)(h3 : E=5)(hr : Ix n g=true) :
  leO [(k,x,.bldx 52 5 (bsl (bytesOf n g) (.tok kt t)) ex)] os:=by
 subst h1 h2 h3
 simp only[leO,hg,GF]
 exact⟨trivial,Bd.2 ⟨by simp[OL,bsl],Bdb hr,Ba _⟩,trivial⟩
theorem Rl{base:Con}(hb:ConOk Tryz.prog base):ConOk Tryz.prog (Bf2 base):=by
 intro k ds S A h
 unfold Bf2 at h
 split at h
 ·split at h
  ·split at h
   ·rename_i k x s _ y T E n g kt t e1 e2 hg
    injection h with h;subst h
    refine⟨fun _ hy=>BnS k kt x t (BoV e1 e2 x t (bytesOf n g) s (by simpa[bytesOf] using hy.1.2)),fun _ _ hy=>?_,fun h=>nomatch h⟩
    obtain ⟨⟨⟨h1,h2,h3,h4,h5⟩,_⟩,_⟩:=hy
    exact⟨⟨by simp[Bn,chk],by simp[Bn,chk],trivial⟩,Bd.2 ⟨rfl,OM hg h1 h2 h3 h5,I8 h4⟩⟩
   ·cases h
  ·cases h
 ·split at h
  ·split at h
   ·rename_i k x z _ y T E n g kt t e1 e2 hg
    injection h with h;subst h
    refine⟨fun _ hy=>?_,fun _ _ hy=>?_,fun h=>nomatch h⟩
    ·have:=BnS k kt x t (Bpm e1 e2 x t (bytesOf n g) (Cu z) (by simpa[bytesOf] using hy.1.2.2))
     rw[M5 hy.1.2.1] at this
     exact this
    ·obtain ⟨⟨⟨h1,h2,h3,h4,h5⟩,_⟩,_⟩:=hy
     exact⟨⟨by simp[Bn,chk],Bp _,trivial⟩,Bd.2 ⟨rfl,OM hg h1 h2 h3 h5,I8 h4⟩⟩
   ·cases h
  ·cases h
 ·split at h
  ·split at h
   ·rename_i k x _ y T E n g kt t ex hg
    injection h with h;subst h
    refine⟨fun _ hy=>Bng ex k kt x t (bytesOf n g) (by have:=hy.1.2;simp[bytesOf];omega),fun _ _ hy=>?_,fun h=>nomatch h⟩
    obtain ⟨⟨⟨h1,h2,h3,h4,h5⟩,_⟩,_⟩:=hy
    exact⟨⟨by simp[Bn,chk],trivial⟩,Bd.2 ⟨rfl,OM hg h1 h2 h3 h5,I8 h4⟩⟩
   ·cases h
  ·cases h
 ·exact hb _ _ _ _ h
theorem repB(n:Nat):Lib.repeatL [32,32] n=List.replicate (2*n) 32:=by
 induction n with
 |zero=>rfl
 |succ n ih =>
  rw[<- Tb,ih,show 2*(n+1)=2*n+2 by omega,<- List.replicate_append_replicate]
  rfl
noncomputable def Epr1:Senv:=EC Ex 5 2 [4] (fun _=>([],[]))
theorem BqA(a b:List UInt8):CD 16 [.str a,.str b] (.bool true):=by
 refine Bh (A:=sC _ _) (x:=()) (E:=Epr1) (eOk BL rfl) Tryz.func16 rfl (by kernel_rfl) rfl (by simp[sC,Epr1,EC,E0]) ?_
 refine Bj (T :=
  RT (SM true)) (by kernel_rfl) ?_
 delta SM RT
 simp only[eq_self,ne_eq,implies_true,Ba,Int.toNat_natCast,Bf,Bc,decide_eq_true_eq,decide_eq_false_iff_not,true_and,and_true,beq_iff_eq,bne_iff_ne,bne_eq_false_iff_eq,beq_eq_false_iff_ne,Bool.not_eq_true',Bool.not_eq_false',exists_const,forall_const,Prod.exists]
 try trivial
noncomputable def Epr2:Senv:=EC Bm2 6 1 [2] (fun _=>([],[]))
theorem Bqc(lv:Int)(h0:0<=lv)(h1:lv<=100000):CD 17 [.int .i64 lv] (.str (Gp lv)):=by
 refine Bh (A:=sC _ _) (x:=()) (E:=Epr2) (eOk Bf7 rfl) Tryz.func17 rfl (by kernel_rfl) rfl (by simp[sC,Epr2,EC,E0]) ?_
 refine Bj (T :=
  (Z0<=lv/\lv<=9223372036854775807/\N2*Int.toNat lv<=140737488355328)/\∀(y:Unit),True->Be (N1+LN (Lib.repeatL [(32:UInt8),(32:UInt8)] (Int.toNat lv))<=9223372036854775807) (RT ((10:UInt8)::List.append [] (Lib.repeatL [(32:UInt8),(32:UInt8)] (Int.toNat lv))=Gp lv))) (by kernel_rfl) ?_
 delta LN N1 N2 Z0 RT
 simp only[eq_self,ne_eq,implies_true,Ba,Int.toNat_natCast,Bf,Bc,decide_eq_true_eq,decide_eq_false_iff_not,true_and,and_true,beq_iff_eq,bne_iff_ne,bne_eq_false_iff_eq,beq_eq_false_iff_ne,Bool.not_eq_true',Bool.not_eq_false',exists_const,forall_const,Prod.exists]
 have e:(10::[].append (Lib.repeatL [32,32] lv.toNat):List UInt8)=Gp lv:=by
  rw[repB];rfl
 refine⟨⟨h0,by omega,by omega⟩,?_,e⟩
 rw[repB,List.length_replicate];omega
noncomputable def Ecp2:Senv:=EC Ex 3 1 [2] (fun _=>([],[]))
theorem Bqr(lv:Int):CD 26 [.int .i64 lv] (.str [59]):=by
 refine Bh (A:=sC _ _) (x:=()) (E:=Ecp2) (eOk BL rfl) Tryz.func26 rfl (by kernel_rfl) rfl (by simp[sC,Ecp2,EC,E0]) ?_
 refine Bj (T :=
  RT (SM [(59:UInt8)])) (by kernel_rfl) ?_
 delta SM RT
 simp only[eq_self,ne_eq,implies_true,Ba,Int.toNat_natCast,Bf,Bc,decide_eq_true_eq,decide_eq_false_iff_not,true_and,and_true,beq_iff_eq,bne_iff_ne,bne_eq_false_iff_eq,beq_eq_false_iff_ne,Bool.not_eq_true',Bool.not_eq_false',exists_const,forall_const,Prod.exists]
 try trivial
theorem Bkx{p:UInt8->Prop}(h:∀n,n<256->p (UInt8.ofNat n))(c:UInt8):p c:=by
 have:=h c.toNat c.toNat_lt
 rwa [UInt8.ofNat_toNat] at this
noncomputable def Ewo:Senv:=EC Ex 29 1 [2] (fun _=>([],[]))
def Ql6(a:UInt8):Bool:=bif bif bif bif decide ((97:Int)<=(NI (UInt8.toNat a))) then decide ((NI (UInt8.toNat a))<=122) else false then true else bif decide ((65:Int)<=(NI (UInt8.toNat a))) then decide ((NI (UInt8.toNat a))<=90) else false then true else bif decide ((48:Int)<=(NI (UInt8.toNat a))) then decide ((NI (UInt8.toNat a))<=57) else false then true else (NI (UInt8.toNat a))==95
def Ql7(a:UInt8):Prop:=true=Ql6 a/\True
def QIV(a:UInt8):Prop:=((NI (UInt8.toNat a))==95)=Ql6 a/\True
def QIW(a:UInt8):Prop:=ifB (decide ((48:Int)<=(NI (UInt8.toNat a)))) (ifB (decide ((NI (UInt8.toNat a))<=57)) (Ql7 a) (QIV a)) (QIV a)
def QIX(a:UInt8):Prop:=ifB (decide ((65:Int)<=(NI (UInt8.toNat a)))) (ifB (decide ((NI (UInt8.toNat a))<=90)) (Ql7 a) (QIW a)) (QIW a)
theorem BpS(c:UInt8):CD 25 [.int .u8 (c.toNat:Int)] (.bool (Mj c)):=by
 refine Bh (A:=sC _ _) (x:=()) (E:=Ewo) (eOk BL rfl) Tryz.func25 rfl (by kernel_rfl) rfl (by simp[sC,Ewo,EC,E0]) ?_
 refine Bj (T :=
  ifB (decide ((97:Int)<=(NI (UInt8.toNat c)))) (ifB (decide ((NI (UInt8.toNat c))<=122)) (Ql7 c) (QIX c)) (QIX c)/\RT (Ql6 c=Mj c)) (by kernel_rfl) ?_
 delta NI Ql6 Ql7 QIV QIW QIX RT
 simp only[eq_self,ne_eq,implies_true,Ba,Int.toNat_natCast,Bf,Bc,decide_eq_true_eq,decide_eq_false_iff_not,true_and,and_true,beq_iff_eq,bne_iff_ne,bne_eq_false_iff_eq,beq_eq_false_iff_ne,Bool.not_eq_true',Bool.not_eq_false',exists_const,forall_const,Prod.exists]
 refine⟨?_,?_⟩
 ·generalize ((c.toNat:Nat):Int)=z
  repeat' first
   |(intro h;simp only[h])
   |apply And.intro
  all_goals simp[*]
 ·revert c
  refine Bkx ?_
  decide +kernel
def BiJ:Con:=fun k ds S=>match k with
 |25=>match ds with
  | [.int .u8 z]=>some (pA ds S (.bool (Mj (Cu z))) (0<=z/\z<=255))
  |_=>none
 |_=>none
theorem Bit:ConOk Tryz.prog BiJ:=by
 intro k ds S A hh
 unfold BiJ at hh
 split at hh
 ·split at hh
  ·rename_i z
   injection hh with hh;subst hh
   refine Bo fun h=>CD.at_ ?_ _
   have:=BpS (Cu z)
   rw[M5 h] at this
   exact this
  ·cases hh
 ·cases hh
theorem O4(c:UInt8){n:Nat}{z:Int}(hn:n<256)(hz:z=n):(((c.toNat:Nat):Int)=z)↔c=UInt8.ofNat n:=by
 constructor
 ·intro h
  have h:c.toNat=n:=by omega
  rw[<- h]
  exact (UInt8.ofNat_toNat).symm
 ·rintro rfl
  rw[UInt8.toNat_ofNat'];omega
theorem Bb6(c:UInt8):Cu (c.toNat:Int)=c:=by
 unfold Cu
 rw[Int.toNat_natCast,UInt8.ofNat_toNat]
theorem BfR(c:UInt8):((c.toNat:Nat):Int)<=255:=by
 have:=c.toNat_lt
 omega
noncomputable def Ecp1:Senv:={ EC BiJ 40 2 [4,5,6] (fun id=>match id with | 1=>([0,1,2,3,4,5,6,7,8],[]) | _=>([],[])) with mg:=fun _=>2 }
def Ql8(a:List UInt8):Int:=IntKind.wrap IntKind.i64 ((LI a)-Z1)
def HR(a:List UInt8):Int:=(BI a (Int.toNat (Ql8 a)))
def YQ(a:List UInt8):Int:=(BI a N0)
def Ql9(a b:List UInt8):Prop:=RT (true=Ef a b)
def QIY(a b:List UInt8):Prop:=ifB (HR a==62) (RT ((YQ b==61)=Ef a b)) (RT (false=Ef a b))
def QIZ(a b:List UInt8):Prop:=ifB (HR a==60) (ifB (YQ b==61) (Ql9 a b) (ifB (YQ b==45) (Ql9 a b) (QIY a b))) (QIY a b)
theorem Bqh(a b:List UInt8)(ha:a≠[])(hb:b≠[])(hal:a.length<=100000000000000):CD 24 [.str a,.str b] (.bool (Ef a b)):=by
 refine Bh (A:=sC _ _) (x:=()) (E:=Ecp1) (eOk Bit rfl) Tryz.func24 rfl (by kernel_rfl) rfl (by simp[sC,Ecp1,EC,E0]) ?_
 refine Bj (T :=
  Be (Z0<=Ql8 a/\Ql8 a<(LI a)) (Be (Z0<=Z0/\Z0<(LI b)) (∃(x:Unit),(Z0<=HR a/\HR a<=255)/\∀(y:Unit),True->ifB (Mj (Cu (HR a))) (∃(x:Unit),(Z0<=YQ b/\YQ b<=255)/\∀(y:Unit),True->ifB (Mj (Cu (YQ b))) (Ql9 a b) (QIZ a b)) (QIZ a b)))) (by kernel_rfl) ?_
 delta BI LI LN N0 U0 Z0 Z1 QIZ Ql8 HR YQ Ql9 QIY RT
 simp only[eq_self,ne_eq,implies_true,Ba,Int.toNat_natCast,Bf,Bc,decide_eq_true_eq,decide_eq_false_iff_not,true_and,and_true,beq_iff_eq,bne_iff_ne,bne_eq_false_iff_eq,beq_eq_false_iff_ne,Bool.not_eq_true',Bool.not_eq_false',exists_const,forall_const,Prod.exists]
 have ha0:0<a.length:=List.length_pos_iff.2 ha
 have hb0:0<b.length:=List.length_pos_iff.2 hb
 have e1:IntKind.i64.wrap ((a.length:Int)-1)=((a.length-1:Nat):Int):=by rw[Bb (by omega) (by omega)];omega
 simp only[e1,Int.toNat_natCast,Bb6]
 unfold Ef
 generalize a.getD (a.length-1) 0=x
 generalize b.getD 0 0=y
 have k60:=O4 x (n:=60) (z:=60) (by omega) rfl
 have k62:=O4 x (n:=62) (z:=62) (by omega) rfl
 have k61:=O4 y (n:=61) (z:=61) (by omega) rfl
 have k45:=O4 y (n:=45) (z:=45) (by omega) rfl
 have k61b:(((y.toNat:Nat):Int)==61)=(y==61):=by rw[Bool.eq_iff_iff,beq_iff_eq,beq_iff_eq];exact k61
 have hx:=BfR x
 have hy:=BfR y
 refine⟨⟨by omega,by omega⟩,⟨by omega,by omega⟩,⟨by omega,hx⟩,?_⟩
 rw[k60,k62,k61,k45,k61b]
 refine⟨fun h1=>⟨⟨by omega,hy⟩,fun h2=>by simp[h1,h2],fun h2=>?_⟩,fun h1=>?_⟩
 all_goals
  refine⟨fun h3=>⟨fun h4=>?_,fun h4=>⟨fun h5=>?_,fun h5=>⟨fun h6=>?_,fun h6=>?_⟩⟩⟩,fun h3=>⟨fun h6=>?_,fun h6=>?_⟩⟩
  all_goals simp_all
noncomputable def Egp(lv:Int):Senv:={ EC Ex 13 1 [2,3,4,7] (fun _=>([],[])) with
 mg:=fun _=>2
 ann:=fun b _ S=>match b with
  |0=>some { slots:=[4,3],keep:=[0],α:=Nat,st:=fun i=>([.int .i64 i,.str (10::List.replicate (2*i) 32)],S),inv:=fun i=>i<=lv.toNat,mu:=fun i=>lv.toNat-i }
  |_=>none }
def Qe4(a:Nat):List UInt8:=(10:UInt8)::List.replicate (N2*a) (32:UInt8)
theorem BpN(lv:Int)(h0:0<=lv)(h1:lv<=200000):CD 45 [.int .i64 lv] (.str (Gp lv)):=by
 refine Bh (A:=sC _ _) (x:=()) (E:=Egp lv) (eOk BL rfl) Tryz.func45 rfl (by kernel_rfl) rfl (by simp[sC,Egp,EC,E0]) ?_
 refine Bj (T :=
  (∃(x:Nat),x<=Int.toNat lv/\(Z0=(↑x:Int)/\[(10:UInt8)]=Qe4 x/\True)/\True/\True)/\∀(x:Nat),x<=Int.toNat lv->ifB (decide ((↑x:Int)<lv)) (Be (LN (Qe4 x)+N2<=9223372036854775807) ((SM (ZI lv)/\True)/\∃(y:Nat),y<=Int.toNat lv/\Int.toNat lv-y<Int.toNat lv-x/\(IntKind.wrap IntKind.i64 ((↑x:Int)+Z1)=(↑y:Int)/\(10:UInt8)::List.append (List.replicate (N2*x) (32:UInt8)) [(32:UInt8),(32:UInt8)]=Qe4 y/\True)/\True/\True)) (RT (Qe4 x=Gp lv))) (by kernel_rfl) ?_
 delta LN N2 SM Z0 Z1 ZI Qe4 RT
 simp only[eq_self,ne_eq,implies_true,Ba,Int.toNat_natCast,Bf,Bc,decide_eq_true_eq,decide_eq_false_iff_not,true_and,and_true,beq_iff_eq,bne_iff_ne,bne_eq_false_iff_eq,beq_eq_false_iff_ne,Bool.not_eq_true',Bool.not_eq_false',exists_const,forall_const,Prod.exists]
 refine⟨⟨0,Nat.zero_le _,rfl,rfl⟩,fun x hx=>⟨fun hlt=>⟨?_,x+1,by omega,by omega,Bb (by omega) (by omega),?_⟩,fun hge=>?_⟩⟩
 ·rw[List.length_cons,List.length_replicate];omega
 ·show (10::(List.replicate (2*x) 32++[32,32]):List UInt8)=10::List.replicate (2*(x+1)) 32
  rw[show 2*(x+1)=2*x+2 by omega,<- List.replicate_append_replicate]
  rfl
 ·unfold Gp
  rw[show x=lv.toNat by omega]
noncomputable def Ebk:Senv:=EC Ex 6 1 [2] (fun _=>([],[]))
theorem Bp2(s:List UInt8)(hs:s≠[]):CD 23 [.str s] (.bool (TR s)):=by
 refine Bh (A:=sC _ _) (x:=()) (E:=Ebk) (eOk BL rfl) Tryz.func23 rfl (by kernel_rfl) rfl (by simp[sC,Ebk,EC,E0]) ?_
 refine Bj (T :=
  Be (Z0<=Z0/\Z0<(LI s)) (RT (((BI s N0)==10)=TR s))) (by kernel_rfl) ?_
 delta BI LI LN N0 U0 Z0 RT
 simp only[eq_self,ne_eq,implies_true,Ba,Int.toNat_natCast,Bf,Bc,decide_eq_true_eq,decide_eq_false_iff_not,true_and,and_true,beq_iff_eq,bne_iff_ne,bne_eq_false_iff_eq,beq_eq_false_iff_ne,Bool.not_eq_true',Bool.not_eq_false',exists_const,forall_const,Prod.exists]
 have hs0:0<s.length:=List.length_pos_iff.2 hs
 refine⟨⟨by omega,by omega⟩,?_⟩
 unfold TR
 rw[Bool.eq_iff_iff,beq_iff_eq,beq_iff_eq]
 exact O4 _ (n:=10) (by omega) rfl
noncomputable def Erwd:Senv:=EC Ex 29 1 [2] (fun _=>([],[]))
def Qma(a:UInt8):Bool:=bif bif bif bif decide ((48:Int)<=(NI (UInt8.toNat a))) then decide ((NI (UInt8.toNat a))<=57) else false then true else bif decide ((97:Int)<=(NI (UInt8.toNat a))) then decide ((NI (UInt8.toNat a))<=122) else false then true else bif decide ((65:Int)<=(NI (UInt8.toNat a))) then decide ((NI (UInt8.toNat a))<=90) else false then true else (NI (UInt8.toNat a))==95
def Qmb(a:UInt8):Prop:=true=Qma a/\True
def QI0(a:UInt8):Prop:=((NI (UInt8.toNat a))==95)=Qma a/\True
def QI1(a:UInt8):Prop:=ifB (decide ((65:Int)<=(NI (UInt8.toNat a)))) (ifB (decide ((NI (UInt8.toNat a))<=90)) (Qmb a) (QI0 a)) (QI0 a)
def QI2(a:UInt8):Prop:=ifB (decide ((97:Int)<=(NI (UInt8.toNat a)))) (ifB (decide ((NI (UInt8.toNat a))<=122)) (Qmb a) (QI1 a)) (QI1 a)
theorem BoX(c:UInt8):CD 47 [.int .u8 (c.toNat:Int)] (.bool (Mj c)):=by
 refine Bh (A:=sC _ _) (x:=()) (E:=Erwd) (eOk BL rfl) Tryz.func47 rfl (by kernel_rfl) rfl (by simp[sC,Erwd,EC,E0]) ?_
 refine Bj (T :=
  ifB (decide ((48:Int)<=(NI (UInt8.toNat c)))) (ifB (decide ((NI (UInt8.toNat c))<=57)) (Qmb c) (QI2 c)) (QI2 c)/\RT (Qma c=Mj c)) (by kernel_rfl) ?_
 delta NI Qma Qmb QI0 QI1 QI2 RT
 simp only[eq_self,ne_eq,implies_true,Ba,Int.toNat_natCast,Bf,Bc,decide_eq_true_eq,decide_eq_false_iff_not,true_and,and_true,beq_iff_eq,bne_iff_ne,bne_eq_false_iff_eq,beq_eq_false_iff_ne,Bool.not_eq_true',Bool.not_eq_false',exists_const,forall_const,Prod.exists]
 refine⟨?_,?_⟩
 ·generalize ((c.toNat:Nat):Int)=z
  repeat' first
   |(intro h;simp only[h])
   |apply And.intro
  all_goals simp[*]
 ·revert c
  refine Bkx ?_
  decide +kernel
def BdZ:Con:=fun k ds S=>match k with
 |47=>match ds with
  | [.int .u8 z]=>some (pA ds S (.bool (Mj (Cu z))) (0<=z/\z<=255))
  |_=>none
 |_=>none
theorem BhC:ConOk Tryz.prog BdZ:=by
 intro k ds S A hh
 unfold BdZ at hh
 split at hh
 ·split at hh
  ·rename_i z
   injection hh with hh;subst hh
   refine Bo fun h=>CD.at_ ?_ _
   have:=BoX (Cu z)
   rw[M5 h] at this
   exact this
  ·cases hh
 ·cases hh
noncomputable def Erne:Senv:={ EC BdZ 40 2 [4,5,6] (fun id=>match id with | 1=>([0,1,2,3,4,5,6,7,8],[]) | _=>([],[])) with mg:=fun _=>2 }
def Qmc(a:List UInt8):Int:=IntKind.wrap IntKind.i64 ((LI a)-Z1)
def HS(a:List UInt8):Int:=(BI a (Int.toNat (Qmc a)))
def YR(a:List UInt8):Int:=(BI a N0)
def Qmd(a b:List UInt8):Prop:=RT (true=Ef a b)
def QI3(a b:List UInt8):Prop:=ifB (HS a==62) (RT ((YR b==61)=Ef a b)) (RT (false=Ef a b))
def QI4(a b:List UInt8):Prop:=ifB (HS a==60) (ifB (YR b==61) (Qmd a b) (ifB (YR b==45) (Qmd a b) (QI3 a b))) (QI3 a b)
theorem Bpo(a b:List UInt8)(ha:a≠[])(hb:b≠[])(hal:a.length<=100000000000000):CD 27 [.str a,.str b] (.bool (Ef a b)):=by
 refine Bh (A:=sC _ _) (x:=()) (E:=Erne) (eOk BhC rfl) Tryz.func27 rfl (by kernel_rfl) rfl (by simp[sC,Erne,EC,E0]) ?_
 refine Bj (T :=
  Be (Z0<=Qmc a/\Qmc a<(LI a)) (Be (Z0<=Z0/\Z0<(LI b)) (∃(x:Unit),(Z0<=HS a/\HS a<=255)/\∀(y:Unit),True->ifB (Mj (Cu (HS a))) (∃(x:Unit),(Z0<=YR b/\YR b<=255)/\∀(y:Unit),True->ifB (Mj (Cu (YR b))) (Qmd a b) (QI4 a b)) (QI4 a b)))) (by kernel_rfl) ?_
 delta BI LI LN N0 U0 Z0 Z1 QI3 QI4 Qmc HS YR Qmd RT
 simp only[eq_self,ne_eq,implies_true,Ba,Int.toNat_natCast,Bf,Bc,decide_eq_true_eq,decide_eq_false_iff_not,true_and,and_true,beq_iff_eq,bne_iff_ne,bne_eq_false_iff_eq,beq_eq_false_iff_ne,Bool.not_eq_true',Bool.not_eq_false',exists_const,forall_const,Prod.exists]
 have ha0:0<a.length:=List.length_pos_iff.2 ha
 have hb0:0<b.length:=List.length_pos_iff.2 hb
 have e1:IntKind.i64.wrap ((a.length:Int)-1)=((a.length-1:Nat):Int):=by rw[Bb (by omega) (by omega)];omega
 simp only[e1,Int.toNat_natCast,Bb6]
 unfold Ef
 generalize a.getD (a.length-1) 0=x
 generalize b.getD 0 0=y
 have k60:=O4 x (n:=60) (z:=60) (by omega) rfl
 have k62:=O4 x (n:=62) (z:=62) (by omega) rfl
 have k61:=O4 y (n:=61) (z:=61) (by omega) rfl
 have k45:=O4 y (n:=45) (z:=45) (by omega) rfl
 have k61b:(((y.toNat:Nat):Int)==61)=(y==61):=by rw[Bool.eq_iff_iff,beq_iff_eq,beq_iff_eq];exact k61
 have hx:=BfR x
 have hy:=BfR y
 refine⟨⟨by omega,by omega⟩,⟨by omega,by omega⟩,⟨by omega,hx⟩,?_⟩
 rw[k60,k62,k61,k45,k61b]
 refine⟨fun h1=>⟨⟨by omega,hy⟩,fun h2=>by simp[h1,h2],fun h2=>?_⟩,fun h1=>?_⟩
 all_goals
  refine⟨fun h3=>⟨fun h4=>?_,fun h4=>⟨fun h5=>?_,fun h5=>⟨fun h6=>?_,fun h6=>?_⟩⟩⟩,fun h3=>⟨fun h6=>?_,fun h6=>?_⟩⟩
  all_goals simp_all
theorem BnH{p:Pt}(hp:okP p)(l:Int):rlT l p≠[]:=by
 cases p with
 |sp=>exact List.cons_ne_nil _ _
 |_=>exact Bkz hp
theorem TU{l:List Sm}(h:PrR l)(ho:∀s∈l,s.ok):(ptB l).length<=3400000000000:=by
 have h1:=BgI (ptB l)
 have h2:=TO (ptB l)
 have h3:=BbV h ho
 omega
theorem Boe{l:List Sm}(h:PrR l)(ho:∀s∈l,s.ok)(i:Nat)(hi:i<(ptB l).length):((rlP 0 (ptB l)).getD i []).length<=3400000000000:=by
 have hok:=okB h ho
 have s1:=Bbs false hok hi
 have o1:=Ot h ho false (i+1) (by omega)
 rw[s1] at o1
 split at o1
 ·simp only[cond_false,List.length_append] at o1;omega
 ·simp only[List.length_append] at o1;omega
def BbM(l:List Sm):Con:=fun k ds S=>match k with
 |21=>some (pA ds S (.int .i64 (B2 l)) (wkL ds [.agg [gsl 34 Sm.row1 l]]))
 |22=>some (pA ds S (ssl (rlP 0 (ptB l)) .any) (wkL ds [gsl 34 Sm.row1 l,.int .i64 0]/\B2 l=0))
 |23=>match ds with
  | [.str s]=>some (pA ds S (.bool (TR s)) (s≠[]))
  |_=>none
 |27=>match ds with
  | [.str a,.str b]=>some (pA ds S (.bool (Ef a b)) (a≠[]/\b≠[]/\a.length<=100000000000000))
  |_=>none
 |_=>none
theorem BaB{l:List Sm}(hl:l.length<=BC)(ho:∀s∈l,s.ok)(hs:∀s∈l,s.sm)(hb:B2 l=0->CD 22 [gsl 34 Sm.row1 l,.int .i64 0] (ssl (rlP 0 (ptB l)) .any)):ConOk Tryz.prog (BbM l):=by
 intro k ds S A hh
 unfold BbM at hh
 split at hh
 ·injection hh with hh;subst hh
  exact Bo fun e=>CD.at_ (CD.wk (Bpx l hl ho hs) e) _
 ·injection hh with hh;subst hh
  exact Bo fun ⟨e,h0⟩=>CD.at_ (CD.wk (hb h0) e) _
 ·split at hh
  ·injection hh with hh;subst hh
   exact Bo fun h=>CD.at_ (Bp2 _ h) _
  ·cases hh
 ·split at hh
  ·injection hh with hh;subst hh
   exact Bo fun ⟨h0,h1,h2⟩=>CD.at_ (Bpo _ _ h0 h1 h2) _
  ·cases hh
 ·cases hh
noncomputable def Erpi(l:List Sm):Senv:={ EC (BbM l) 53 6 [14,21,42] (fun _=>([],[])) with
 mg:=fun _=>2
 ann:=fun b _ S=>match b with
  |0=>some { slots:=[5,4],keep:=[0,1,3],α:=Nat,st:=fun i=>([.int .i64 i,.str (wrF false ((ptB l).take i)).1],S),inv:=fun i=>i<=(ptB l).length,mu:=fun i=>(ptB l).length-i }
  |_=>none }
def Qme:Arr:=DA
def Qe5:Nd:=Nd.mk Z0 Z0 Z0 [] Z0 Z0 Qme [] [] Z0 Z0 Z0
def Qmf:Sm:=Sm.mk Z0 Z0 [] Z0 Qe5 Qe5
def YS(a:List Sm)(b:Nat):Sm:=List.getD a b Qmf
def QJb(a:List Sm)(b:Nat):List D:=(Sm.row1 (YS a b))
def QJc(a:List Sm):D:=D.sl 34 (LN a) (fun i=>QJb a i) Mode.any
def QJd(a:List Sm):D:=D.agg [QJc a]
def QJe(a:List Sm):List D:=[QJd a]
def QJf(a:List Sm):Prop:=RT (Cw (List UInt8) [] (Cj a))
def QJg(a:List Sm):List D:=[QJc a,ZI Z0]
def Qe8(a:Nat)(b:List Sm):Prop:=a<=LN (ptB b)
def XA(a:Nat)(b:List Sm):List UInt8:=Prod.fst (wrF false (List.take a (ptB b)))
def Qmg(a:Nat)(b:List Sm):Prop:=(SM a/\((SM (LN b)/\(∀(i:Nat),i<LN b->SM (QJb b i))/\True)/\True)/\True)/\True
def Qe9(a:List Sm):List (List UInt8):=rlP Z0 (ptB a)
def QJh(a:List Sm):Nat:=LN (Qe9 a)
def HT(a:List Sm):Int:=(NI (QJh a))
def HU(a:List Sm)(b:Nat):List UInt8:=List.getD (Qe9 a) (Int.toNat (↑b:Int)) []
def QJi(a:List Sm)(b:Nat):List UInt8:=List.getD (Qe9 a) (Int.toNat (IntKind.wrap IntKind.i64 ((↑b:Int)-Z1))) []
def QJj(a:Nat)(b:List Sm):Nat:=LN (XA a b)
def QJk(a:Nat)(b:List Sm):Nat:=QJj a b+N1
def QJl(a:Nat)(b:List Sm):List UInt8:=XA a b++[32]
def QJm(a:List Sm)(b:Nat):Nat:=LN (HU a b)
def QSg(a:List Sm):D:=D.sl N1 (QJh a) (fun i=>[D.str (List.getD (Qe9 a) i [])]) Mode.any
def QJn(a:List Sm)(b:Nat):Prop:=SM (QJd a)/\SM (D.ref N0 b N0)/\SM (QSg a)/\True
def QJo(a:List Sm)(b c:Nat):Prop:=LN (ptB a)-b<LN (ptB a)-c
def Qmh(a:Nat)(b:List Sm)(c:Nat):Prop:=Be (Z0<=(↑a:Int)/\(↑a:Int)<HT b) (Be (QJj a b+QJm b a<=9223372036854775807) (QJn b c/\∃(y:Nat),Qe8 y b/\QJo b y a/\(IntKind.wrap IntKind.i64 ((↑a:Int)+Z1)=(↑y:Int)/\XA a b++HU b a=XA y b/\True)/\Qmg c b))
theorem Bom(l : List Sm)(hl : l.length<=BC)(ho : ∀s∈l, s.ok)(hs : ∀s∈l, s.sm)(hb : B2 l=0 -> CD 22 [gsl 34 Sm.row1 l, .int .i64 0] (ssl (rlP 0 (ptB l)) .any)) :
  CD 8 [.agg [gsl 34 Sm.row1 l]] (.str (Cj l)):=by
 refine Bh (A:=sC _ _) (x:=()) (E:=Erpi l) (eOk (BaB hl ho hs hb) rfl) Tryz.func8 rfl (by kernel_rfl) rfl (by simp[sC,Erpi,EC,E0]) ?_
 refine Bj (T :=
  ∀(x:Nat),True->SM x/\∃(x_1:Unit),wkL (QJe l) (QJe l)/\∀(y:Unit),True->ifB (B2 l != Z0) (QJf l) (SM x/\ifB ((LI l)==Z0) (QJf l) (SM x/\∃(x_2:Unit),(wkL (QJg l) (QJg l)/\B2 l=Z0)/\∀(y:Unit),True->(∃(x_3:Nat),Qe8 x_3 l/\(Z0=(↑x_3:Int)/\Cw (List UInt8) [] (XA x_3 l)/\True)/\Qmg x l)/\∀(x_3:Nat),Qe8 x_3 l->ifB (decide ((↑x_3:Int)<HT l)) (ifB (decide (Z0<(↑x_3:Int))) (Be (Z0<=(↑x_3:Int)/\(↑x_3:Int)<HT l) (∃(x_4:Unit),HU l x_3≠[]/\∀(y:Unit),True->ifB (!TR (HU l x_3)) (Be (Z0<=IntKind.wrap IntKind.i64 ((↑x_3:Int)-Z1)/\IntKind.wrap IntKind.i64 ((↑x_3:Int)-Z1)<HT l) (∃(x_5:Unit),QJi l x_3≠[]/\∀(y:Unit),True->ifB (!TR (QJi l x_3)) (Be (QJk x_3 l<=9223372036854775807) (Be (Z0<=(↑x_3:Int)/\(↑x_3:Int)<HT l) (Be (LN (QJl x_3 l)+QJm l x_3<=9223372036854775807) (QJn l x/\∃(y:Nat),Qe8 y l/\QJo l y x_3/\(IntKind.wrap IntKind.i64 ((↑x_3:Int)+Z1)=(↑y:Int)/\QJl x_3 l++HU l x_3=XA y l/\True)/\Qmg x l)))) (Qmh x_3 l x))) (Qmh x_3 l x))) (Qmh x_3 l x)) (Be (QJk x_3 l<=9223372036854775807) (RT (XA x_3 l++[10]=Cj l)))))) (by kernel_rfl) ?_
 delta DA GI LI LN N0 N1 N4 NI SI SM Z0 Z1 ZI Qme Qe5 Qmf YS QJb QJc QJd QJe QJf QJg Qe8 XA Qmg Qe9 QJh HT HU QJi QJj QJk QJl QJm QSg QJn QJo Qmh RT
 try simp only[<- dm]
 try simp only[<- dn]
 simp only[eq_self,ne_eq,implies_true,Ba,Int.toNat_natCast,Bf,Bc,decide_eq_true_eq,decide_eq_false_iff_not,true_and,and_true,beq_iff_eq,bne_iff_ne,bne_eq_false_iff_eq,beq_eq_false_iff_ne,Bool.not_eq_true',Bool.not_eq_false',exists_const,forall_const,Prod.exists]
 refine⟨Bg _,fun h=>?_,fun h0=>⟨fun hl0=>?_,fun hl1=>?_⟩⟩
 ·rw[Cj,if_neg fun hh=>h hh.1]
 ·rw[Cj,if_neg fun hh=>hh.2 (List.length_eq_zero_iff.1 (by omega))]
 ·have hpt:(ptB l).length<=3400000000000:=TU (GD h0) ho
  have hR:=GD h0
  have hok:=okB hR ho
  have hX:(rlP 0 (ptB l)).length=(ptB l).length:=ED _ _
  have ne:∀j,j<(ptB l).length->¬(rlP 0 (ptB l)).getD j []=[]:=fun j hj=>by
   rw[OT _ _ _ hj]
   exact BnH (O2 hok j) _
  refine⟨⟨Bg _,h0⟩,⟨0,Nat.zero_le _,rfl,rfl⟩,fun i hi=>⟨fun hlt=>?_,fun hge=>?_⟩⟩
  ·have hi':i<(ptB l).length:=by omega
   have s1:=Bbs false hok hi'
   have o1:=Ot hR ho false (i+1) (by omega)
   have o0:=Ot hR ho false i (by omega)
   have ni:=ne i hi'
   have w1:0<(i:Int)->IntKind.i64.wrap ((i:Int)-1)=((i-1:Nat):Int):=fun h=>by rw[Bb (by omega) (by unfold BC at hl;omega)];omega
   have w2:IntKind.i64.wrap ((i:Int)+1)=((i+1:Nat):Int):=Bb (by omega) (by omega)
   rw[w2]
   have nj:0<(i:Int)->¬(rlP 0 (ptB l)).getD (i-1) []=[]:=fun h=>ne (i-1) (by omega)
   generalize hA:(wrF false ((ptB l).take i)).1=A at *
   generalize hB:(wrF false ((ptB l).take (i+1))).1=B at *
   generalize hx:(rlP 0 (ptB l)).getD i []=x at *
   have fin:∀z,z=B->∃y,y<=(ptB l).length/\(ptB l).length-y<(ptB l).length-i/\((i+1:Nat):Int)=(y:Int)/\z=(wrF false ((ptB l).take y)).1:=fun z e=>⟨i+1,by omega,by omega,rfl,by rw[hB];exact e⟩
   have sz:∀y,A++y=B->A.length+y.length<=3400000000000:=fun y e=>by rw[<- List.length_append,e];exact o1
   refine⟨fun hp=>⟨⟨by omega,by omega⟩,ni,fun hb1=>?_,fun hb1=>?_⟩,fun hp=>?_⟩
   ·rw[w1 hp,Int.toNat_natCast]
    generalize hy:(rlP 0 (ptB l)).getD (i-1) []=y at *
    refine⟨⟨by omega,by omega⟩,nj hp,fun hb2=>?_,fun hb2=>?_⟩
    ·have e:A++([32]++x)=B:=by rw[s1,if_neg (by rw[hb1];exact Bool.false_ne_true),if_pos ⟨by omega,hb2,fun h=>nomatch h⟩]
     have:=sz _ e
     rw[List.length_append,List.length_cons,List.length_nil] at this
     refine⟨by omega,⟨by omega,by omega⟩,?_,fin _ (by rw[List.append_assoc];exact e)⟩
     rw[List.length_append,List.length_cons,List.length_nil]
     omega
    ·have e:A++x=B:=by
      rw[s1,if_neg (by rw[hb1];exact Bool.false_ne_true),if_neg (by rintro ⟨_,h,_⟩;rw[hb2] at h;cases h)]
      rfl
     have:=sz _ e
     exact⟨⟨by omega,by omega⟩,by omega,fin _ e⟩
   ·have e:A++x=B:=by rw[s1,if_pos hb1];rfl
    have:=sz _ e
    exact⟨⟨by omega,by omega⟩,by omega,fin _ e⟩
   ·have e:A++x=B:=by
     rw[s1]
     by_cases hb1:TR x=true
     ·rw[if_pos hb1];rfl
     ·rw[if_neg hb1,if_neg (by rintro ⟨h,_⟩;omega)];rfl
    have:=sz _ e
    exact⟨⟨by omega,by omega⟩,by omega,fin _ e⟩
  ·have hil:i=(ptB l).length:=by omega
   have o0:=Ot hR ho false i (by omega)
   refine⟨by omega,?_⟩
   rw[Cj,if_pos ⟨h0,fun h=>hl1 (by rw[h];rfl)⟩,hil,List.take_length]
noncomputable def Ercm(l:List Sm):Senv:={ EC (BbM l) 57 6 [8,15,22,47] (fun id=>match id with | 10=>([0,1,2,3,4,5,6,7,8,9,10,11,12,13,14,15,16,17,18,19,20,21,22],[8,21]) | _=>([],[])) with
 mg:=fun _=>2
 ann:=fun b _ S=>match b with
  |0=>some { slots:=[5,4],keep:=[0,1,3],α:=Nat,st:=fun i=>([.int .i64 i,.str (wrF true ((ptB l).take i)).1],S),inv:=fun i=>i<=(ptB l).length,mu:=fun i=>(ptB l).length-i }
  |_=>none }
def Qmi:Arr:=DA
def Qfa:Nd:=Nd.mk Z0 Z0 Z0 [] Z0 Z0 Qmi [] [] Z0 Z0 Z0
def Qmj:Sm:=Sm.mk Z0 Z0 [] Z0 Qfa Qfa
def YT(a:List Sm)(b:Nat):Sm:=List.getD a b Qmj
def QJv(a:List Sm)(b:Nat):List D:=(Sm.row1 (YT a b))
def QJw(a:List Sm):D:=D.sl 34 (LN a) (fun i=>QJv a i) Mode.any
def QJx(a:List Sm):D:=D.agg [QJw a]
def QJy(a:List Sm):List D:=[QJx a]
def QJz(a:List Sm):List D:=[QJw a,ZI Z0]
def HV(a:Nat)(b:List Sm):Prop:=a<=LN (ptB b)
def Vk(a:Nat)(b:List Sm):List UInt8:=Prod.fst (wrF true (List.take a (ptB b)))
def Qfd(a:Nat)(b:List Sm):Prop:=(SM a/\((SM (LN b)/\(∀(i:Nat),i<LN b->SM (QJv b i))/\True)/\True)/\True)/\True
def Qfe(a:List Sm):List (List UInt8):=rlP Z0 (ptB a)
def QJA(a:List Sm):Nat:=LN (Qfe a)
def XB(a:List Sm):Int:=(NI (QJA a))
def YU(a:List Sm)(b:Nat):List UInt8:=List.getD (Qfe a) (Int.toNat (↑b:Int)) []
def QJB(a:List Sm)(b:Nat):Prop:=YU a b≠[]
def QJC(a:Nat)(b:List Sm):Nat:=LN (Vk a b)
def QJD(a:Nat)(b:List Sm):Nat:=QJC a b+N1
def QSl(a:List Sm):D:=D.sl N1 (QJA a) (fun i=>[D.str (List.getD (Qfe a) i [])]) Mode.any
def Qmk(a:List Sm)(b:Nat):Prop:=SM (QJx a)/\SM (D.ref N0 b N0)/\SM (QSl a)/\True
def Qml(a:List Sm)(b c:Nat):Prop:=LN (ptB a)-b<LN (ptB a)-c
def Qmm(a b:Nat):Prop:=IntKind.wrap IntKind.i64 ((↑a:Int)+Z1)=(↑b:Int)
def HW(a:Nat):Int:=IntKind.wrap IntKind.i64 ((↑a:Int)-Z1)
def Qff(a:List Sm)(b:Nat):List UInt8:=List.getD (Qfe a) (Int.toNat (HW b)) []
def QJE(a:List Sm)(b:Nat):Prop:=Qff a b≠[]
def QJF(a:Nat)(b:List Sm):List UInt8:=Vk a b++[32]
def QJG(a:List Sm)(b:Nat):Nat:=LN (YU a b)
def Qmn(a:Nat)(b:List Sm)(c:Nat):Prop:=Be (Z0<=(↑a:Int)/\(↑a:Int)<XB b) (Be (QJC a b+QJG b a<=9223372036854775807) (Qmk b c/\∃(y:Nat),HV y b/\Qml b y a/\(Qmm a y/\Vk a b++YU b a=Vk y b/\True)/\Qfd c b))
theorem Boy(l : List Sm)(hl : l.length<=BC)(ho : ∀s∈l, s.ok)(hs : ∀s∈l, s.sm)(hb : B2 l=0 -> CD 22 [gsl 34 Sm.row1 l, .int .i64 0] (ssl (rlP 0 (ptB l)) .any)) :
  CD 10 [.agg [gsl 34 Sm.row1 l]] (.str (EM l)):=by
 refine Bh (A:=sC _ _) (x:=()) (E:=Ercm l) (eOk (BaB hl ho hs hb) rfl) Tryz.func10 rfl (by kernel_rfl) rfl (by simp[sC,Ercm,EC,E0]) ?_
 refine Bj (T :=
  ∀(x:Nat),True->SM x/\∃(x_1:Unit),wkL (QJy l) (QJy l)/\∀(y:Unit),True->ifB (B2 l != Z0) (RT (Cw (List UInt8) [] (EM l))) (SM x/\∃(x_2:Unit),(wkL (QJz l) (QJz l)/\B2 l=Z0)/\∀(y:Unit),True->(∃(x_3:Nat),HV x_3 l/\(Z0=(↑x_3:Int)/\Cw (List UInt8) [] (Vk x_3 l)/\True)/\Qfd x l)/\∀(x_3:Nat),HV x_3 l->ifB (decide ((↑x_3:Int)<XB l)) (Be (Z0<=(↑x_3:Int)/\(↑x_3:Int)<XB l) (∃(x_4:Unit),QJB l x_3/\∀(y:Unit),True->ifB (TR (YU l x_3)) (Be (QJD x_3 l<=9223372036854775807) (Qmk l x/\∃(y:Nat),HV y l/\Qml l y x_3/\(Qmm x_3 y/\Vk x_3 l++[59]=Vk y l/\True)/\Qfd x l)) (ifB (decide (Z0<(↑x_3:Int))) (Be (Z0<=HW x_3/\HW x_3<XB l) (∃(x_5:Unit),QJE l x_3/\∀(y:Unit),True->ifB (!TR (Qff l x_3)) (Be (Z0<=HW x_3/\HW x_3<XB l) (Be (Z0<=(↑x_3:Int)/\(↑x_3:Int)<XB l) (∃(x_6:Unit),(QJE l x_3/\QJB l x_3/\LN (Qff l x_3)<=100000000000000)/\∀(y:Unit),True->ifB (Ef (Qff l x_3) (YU l x_3)) (Be (QJD x_3 l<=9223372036854775807) (Be (Z0<=(↑x_3:Int)/\(↑x_3:Int)<XB l) (Be (LN (QJF x_3 l)+QJG l x_3<=9223372036854775807) (Qmk l x/\∃(y:Nat),HV y l/\Qml l y x_3/\(Qmm x_3 y/\QJF x_3 l++YU l x_3=Vk y l/\True)/\Qfd x l)))) (Qmn x_3 l x)))) (Qmn x_3 l x))) (Qmn x_3 l x)))) (RT (Vk x_3 l=EM l)))) (by kernel_rfl) ?_
 delta DA GI LN N0 N1 N4 NI SI SM Z0 Z1 ZI Qmi Qfa Qmj YT QJv QJw QJx QJy QJz HV Vk Qfd Qfe QJA XB YU QJB QJC QJD QSl Qmk Qml Qmm HW Qff QJE QJF QJG Qmn RT
 try simp only[<- dm]
 try simp only[<- dn]
 simp only[eq_self,ne_eq,implies_true,Ba,Int.toNat_natCast,Bf,Bc,decide_eq_true_eq,decide_eq_false_iff_not,true_and,and_true,beq_iff_eq,bne_iff_ne,bne_eq_false_iff_eq,beq_eq_false_iff_ne,Bool.not_eq_true',Bool.not_eq_false',exists_const,forall_const,Prod.exists]
 refine⟨Bg _,fun h=>?_,fun h0=>?_⟩
 ·rw[EM,if_neg h]
 ·have hpt:(ptB l).length<=3400000000000:=TU (GD h0) ho
  have hR:=GD h0
  have hok:=okB hR ho
  have hX:(rlP 0 (ptB l)).length=(ptB l).length:=ED _ _
  have ne:∀j,j<(ptB l).length->¬(rlP 0 (ptB l)).getD j []=[]:=fun j hj=>by
   rw[OT _ _ _ hj]
   exact BnH (O2 hok j) _
  refine⟨⟨Bg _,h0⟩,⟨0,Nat.zero_le _,rfl,rfl⟩,fun i hi=>⟨fun hlt=>?_,fun hge=>?_⟩⟩
  ·have hi':i<(ptB l).length:=by omega
   have s1:=Bbs true hok hi'
   have o1:=Ot hR ho true (i+1) (by omega)
   have o0:=Ot hR ho true i (by omega)
   have ni:=ne i hi'
   have w1:0<(i:Int)->IntKind.i64.wrap ((i:Int)-1)=((i-1:Nat):Int):=fun h=>by rw[Bb (by omega) (by unfold BC at hl;omega)];omega
   have w2:IntKind.i64.wrap ((i:Int)+1)=((i+1:Nat):Int):=Bb (by omega) (by omega)
   rw[w2]
   have nj:0<(i:Int)->¬(rlP 0 (ptB l)).getD (i-1) []=[]:=fun h=>ne (i-1) (by omega)
   have lj:0<(i:Int)->((rlP 0 (ptB l)).getD (i-1) []).length<=100000000000000:=fun h=>by
    have:=Boe hR ho (i-1) (by omega)
    omega
   generalize hA:(wrF true ((ptB l).take i)).1=A at *
   generalize hB:(wrF true ((ptB l).take (i+1))).1=B at *
   generalize hx:(rlP 0 (ptB l)).getD i []=x at *
   have fin:∀z,z=B->∃y,y<=(ptB l).length/\(ptB l).length-y<(ptB l).length-i/\((i+1:Nat):Int)=(y:Int)/\z=(wrF true ((ptB l).take y)).1:=fun z e=>⟨i+1,by omega,by omega,rfl,by rw[hB];exact e⟩
   have sz:∀y,A++y=B->A.length+y.length<=3400000000000:=fun y e=>by rw[<- List.length_append,e];exact o1
   refine⟨⟨by omega,by omega⟩,ni,fun hb1=>?_,fun hb1=>⟨fun hp=>?_,fun hp=>?_⟩⟩
   ·have e:A++[59]=B:=by rw[s1,if_pos hb1];rfl
    have:=sz _ e
    rw[List.length_cons,List.length_nil] at this
    exact⟨by omega,fin _ e⟩
   ·rw[w1 hp,Int.toNat_natCast]
    generalize hy:(rlP 0 (ptB l)).getD (i-1) []=y at *
    have lj':=lj hp
    refine⟨⟨by omega,by omega⟩,nj hp,fun hb2=>⟨⟨by omega,by omega⟩,⟨by omega,by omega⟩,⟨nj hp,ni,lj'⟩,fun hn=>?_,fun hn=>?_⟩,fun hb2=>?_⟩
    ·have e:A++([32]++x)=B:=by rw[s1,if_neg (by rw[hb1];exact Bool.false_ne_true),if_pos ⟨by omega,hb2,fun _=>hn⟩]
     have:=sz _ e
     rw[List.length_append,List.length_cons,List.length_nil] at this
     refine⟨by omega,⟨by omega,by omega⟩,?_,fin _ (by rw[List.append_assoc];exact e)⟩
     rw[List.length_append,List.length_cons,List.length_nil]
     omega
    ·have e:A++x=B:=by
      rw[s1,if_neg (by rw[hb1];exact Bool.false_ne_true),if_neg (by rintro ⟨_,_,h⟩;rw[hn] at h;cases h rfl)]
      rfl
     have:=sz _ e
     exact⟨⟨by omega,by omega⟩,by omega,fin _ e⟩
    ·have e:A++x=B:=by
      rw[s1,if_neg (by rw[hb1];exact Bool.false_ne_true),if_neg (by rintro ⟨_,h,_⟩;rw[hb2] at h;cases h)]
      rfl
     have:=sz _ e
     exact⟨⟨by omega,by omega⟩,by omega,fin _ e⟩
   ·have e:A++x=B:=by
     rw[s1,if_neg (by rw[hb1];exact Bool.false_ne_true),if_neg (by rintro ⟨h,_⟩;omega)]
     rfl
    have:=sz _ e
    exact⟨⟨by omega,by omega⟩,by omega,fin _ e⟩
  ·have hil:i=(ptB l).length:=by omega
   rw[EM,if_pos h0,hil,List.take_length]
def Tw(p:Nd->Prop)(lv:Int)(m:Nat)(x:Nd×List (List UInt8)):Prop:=p x.1/\0<=lv/\lv+szN x.1<=100000/\m<=maxLen/\x.2.length<=4000000000000
def pAd(p:Nd->Prop)(ds:List D)(S:St)(lv:Int)(m:Nat)(f:Nat->List D)(q:Nd×List (List UInt8)->Prop):FnSpec where
 β:=Nd×List (List UInt8)
 α:=Nat
 args:=fun _=>ds
 st:=fun _=>S
 pre:=fun x=>Tw p lv m x/\q x
 post:=fun _ _=>True
 res:=fun x t'=>.ret (ssl (x.2++rlP lv (BS (Bk m f) x.1)) (.tok 0 t'))
 out:=fun _ t'=>⟨S.objs,[(0,t')]⟩
 all:=true
def BaX(p:Nd->Prop)(base:Con):Con:=fun k ds S=>match k with
 |46=>match ds with
  | [.sl _ _ _ (.tok 0 t),_,.sl 1 m f _,.int .i64 lv]=>match S.toks with
   | [(0,u)]=>some (pAd p ds S lv m f fun x=>u=t/\wkL ds [ssl x.2 (.tok 0 t),.agg x.1.row1,isl (Bk m f) .any,.int .i64 lv])
   |_=>none
  | [.sl _ 0 _ .nil,_,.sl 1 m f _,.int .i64 lv]=>match S.toks with
   | []=>some (pAd p ds S lv m f fun x=>x.2=[]/\wkL ds [.sl 1 0 (fun _=>[]) .nil,.agg x.1.row1,isl (Bk m f) .any,.int .i64 lv])
   |_=>none
  |_=>none
 |k=>base k ds S
theorem Bar{p:Nd->Prop}{base:Con}(h:∀b,p b->RPar b)(hb:ConOk Tryz.prog base):ConOk Tryz.prog (BaX p base):=by
 intro k ds S A hh
 unfold BaX at hh
 split at hh
 ·split at hh
  ·split at hh
   ·rename_i t _ m f _ lv _ u hS
    injection hh with hh;subst hh
    obtain ⟨os,ts⟩:=S
    simp only at hS
    subst hS
    refine⟨fun x hx=>?_,fun x e=>(nomatch e),fun _ _ _=>⟨Ba _,rfl⟩⟩
    obtain ⟨⟨p1,p2,p3,p4,p5⟩,rfl,hw⟩:=hx
    exact (((BoE x.2 x.1 (Bk m f) lv u (h _ p1) p2 p3 (by rw[BJ];exact p4) p5).wkArgs hw).frame ⟨os,[]⟩).mono fun _ _ ⟨_,⟨y,_,h2,h3⟩,h4⟩=>⟨y,trivial,h2,by rw[h4,h3];rfl⟩
   ·cases hh
  ·split at hh
   ·rename_i m f _ lv _ hS
    injection hh with hh;subst hh
    obtain ⟨os,ts⟩:=S
    simp only at hS
    subst hS
    refine⟨fun x hx=>?_,fun x e=>(nomatch e),fun _ _ _=>⟨Ba _,rfl⟩⟩
    obtain ⟨⟨p1,p2,p3,p4,p5⟩,e,hw⟩:=hx
    refine (((BoH x.1 (Bk m f) lv (h _ p1) p2 p3 (by rw[BJ];exact p4)).wkArgs hw).frame ⟨os,[]⟩).mono fun _ _ ⟨_,⟨y,_,h2,h3⟩,h4⟩=>⟨y,trivial,?_,by rw[h4,h3];rfl⟩
    rw[h2]
    simp only[pAd,BhS,e,List.nil_append]
   ·cases hh
  ·cases hh
 ·exact hb _ _ _ _ hh
theorem Bou{n:Nat}{F:Nat->List D}{L:List (List UInt8)}{m m':Ab.Mode}(hn:n=L.length)(hF:∀i,i<n->F i=[D.str (L.getD i [])])(hm:BF m m'):wkD (.sl 1 n F m) (ssl L m'):=by
 subst hn
 simp only[ssl,wkD]
 exact Bd.2 ⟨by simp,trivial,fun i hi=>by rw[hF i hi];exact Bg _,hm⟩
def BdS:Con:=fun k ds S=>match k with
 |45=>match ds with
  | [.int .i64 lv]=>some (pA ds S (.str (Gp lv)) (0<=lv/\lv<=200000))
  |_=>none
 |_=>none
theorem Bhu:ConOk Tryz.prog BdS:=by
 intro k ds S A hh
 unfold BdS at hh
 split at hh
 ·split at hh
  ·injection hh with hh;subst hh
   exact Bo fun ⟨h0,h1⟩=>CD.at_ (BpN _ h0 h1) _
  ·cases hh
 ·cases hh
def Bkm(p:Nd->Prop):Con:=BaX p BdS
theorem Bg9{p:Nd->Prop}(h:∀b,p b->RPar b):ConOk Tryz.prog (Bkm p):=by
 exact Bar h Bhu
def Ip(lv:Int)(l:List Sm)(i:Nat):List (List UInt8):=rlP lv (ptB (l.take i))
theorem E3{n:Nat}{F:Nat->List D}{L:List (List UInt8)}(hn:n=L.length)(hF:∀i,i<n->F i=[D.str (L.getD i [])])(x:List UInt8):∀i,i<n+1->BM n F (fun i=>[D.str ([x].getD i [])]) i=[D.str ((L++[x]).getD i [])]:=C8 (r:=[x]) hn hF fun _ _=>rfl
theorem Es{p : Nd -> Prop}{lv : Int}{b : Nd}{L : List (List UInt8)}{n : Nat}{F : Nat -> List D}{t m : Nat}{f : Nat -> List D}{md : Ab.Mode}(hp : p b)(h0 : 0<=lv)(h1 : lv+szN b<=100000)(hm : m<=maxLen)(hL : L.length<=4000000000000)(hn : n=L.length)(hF : ∀i, i<n -> F i=[D.str (L.getD i [])])(hI : IntsP m f) :
  Tw p lv m (b,L)/\wkL [.sl 1 n F (.tok 0 t),.agg b.row1,.sl 1 m f md,.int .i64 lv] [ssl L (.tok 0 t),.agg b.row1,isl (Bk m f) .any,.int .i64 lv]:=by
 refine⟨⟨hp,h0,h1,hm,hL⟩,?_⟩
 have h2:=Ck (r:=b.row1) (md:=md) hI
 simp only[wkL] at h2 ⊢
 exact⟨Bou hn hF rfl,h2.1,h2.2.1,Bi _,trivial⟩
theorem CR:IntsP 0 (fun _=>[]):=fun i hi=>absurd hi (Nat.not_lt_zero i)
theorem IC(n:Nd):BS (Bk 0 fun _=>[]) n=ptN n:=rfl
theorem TB{lv : Int}{l : List Sm}{i : Nat}{nd : Nd}{L : List (List UInt8)}(hi : i<l.length)(hl : l.length<=BC)(h : L++rlP lv (ptN nd)=Ip lv l (i+1)) :
  ∀y:Nat,∃a b:Nat,a<=l.length/\l.length-a<l.length-i/\(IntKind.i64.wrap ((i:Int)+1)=(a:Int)/\(L++rlP lv (BS (Bk 0 fun _=>[]) nd)).length=(Ip lv l a).length/\(∀j,j<(L++rlP lv (BS (Bk 0 fun _=>[]) nd)).length->[D.str ((L++rlP lv (BS (Bk 0 fun _=>[]) nd)).getD j [])]=[D.str ((Ip lv l a).getD j [])])/\y=b)/\y=b:=by
 intro y
 unfold BC at hl
 rw[IC,h]
 exact⟨i+1,y,hi,by omega,⟨Bb (by omega) (by omega),rfl,fun _ _=>rfl,rfl⟩,rfl⟩
theorem Bas{α β:Type}(f:α->List β)(l:List α)(i:Nat):((l.take i).flatMap f).length<=(l.flatMap f).length:=by
 have e:l.flatMap f=(l.take i).flatMap f++(l.drop i).flatMap f:=by rw[<- List.flatMap_append,List.take_append_drop]
 rw[e,List.length_append]
 omega
theorem Bdi(l:List Sm)(i:Nat):(ptB (l.take i)).length<=(ptB l).length:=by
 cases l with
 |nil=>simp
 |cons x r =>
  cases i with
  |zero=>simp[ptB,ptJ]
  |succ i =>
   have:=Bas (fun y=>Pt.sp::ptM y) r i
   rw[List.take_succ_cons]
   show (ptM x++(List.map ptM (List.take i r)).flatMap fun y=>.sp::y).length<=(ptM x++(List.map ptM r).flatMap fun y=>.sp::y).length
   rw[List.flatMap_map,List.flatMap_map,List.length_append,List.length_append]
   omega
theorem BeY(lv:Int){l:List Sm}{i:Nat}(h:i<l.length):Ip lv l (i+1)=Ip lv l i++((if 0<i then [Gp lv] else [])++rlP lv (ptM (l.getD i default))):=by
 have hb:ID (ptJ ((l.take i).map ptM)):=BoC _
 unfold Ip ptB
 rw[BbY ptM h,EB hb]
 congr 1
 split
 ·rfl
 ·rfl
theorem rlM(lv:Int)(s:Sm):rlP lv (ptM s)=if s.kd=2 then s.nm::[60,45]::rlP lv (ptN s.nd) else if s.kd=3 then rlP lv (ptN s.te)++([58]::rlP lv (ptN s.nd)) else rlP lv (ptN s.nd):=by
 rw[II]
 split
 ·rfl
 ·split
  ·rw[EB (Wp s.te)]
   rfl
  ·rfl
noncomputable def Erby(p:Nd->Prop)(l:List Sm)(lv:Int):Senv:={ EC (Bkm p) 61 2 [4,5,6,10,14,25,41] (fun _=>([],[])) with
 mg:=fun _=>2
 gh:=fun b=>match b with
  |0=>[.slot 5]
  |_=>[]
 ann:=fun b _ S=>match b with
  |0=>some { slots:=[6,5],keep:=[0,1],α:=Nat×Nat,st:=fun y=>([.int .i64 y.1,ssl (Ip lv l y.1) (.tok 0 y.2)],⟨S.objs,[(0,y.2)]⟩),inv:=fun y=>y.1<=l.length,mu:=fun y=>l.length-y.1 }
  |_=>none }
def Vl(a:Int)(b:List Sm)(c:Nat):Nat:=LN (Ip a b c)
def XC(a:Int)(b:List Sm)(c d:Nat):List D:=[D.str (List.getD (Ip a b c) d [])]
def VM(a:Int)(b:List Sm)(c:Nat):Nat:=Vl a b c+N1
def HX:Arr:=DA
def YV:Nd:=Nd.mk Z0 Z0 Z0 [] Z0 Z0 HX [] [] Z0 Z0 Z0
def YW:Sm:=Sm.mk Z0 Z0 [] Z0 YV YV
def Qfg(a:List Sm)(b:Nat):Sm:=List.getD a (Int.toNat (↑b:Int)) YW
def QJH(a:List Sm)(b:Nat):Int:=Sm.kd (Qfg a b)
def QJI(a:List Sm)(b:Nat):Bool:=QJH a b==2
def XD(a:Int)(b:List Sm)(c:Nat):Nat:=VM a b c+N1
def Qmo(a:Int)(b:List Sm)(c:Nat):Nat:=XD a b c+N1
def Qfh(a:List Sm)(b:Nat):Bool:=QJH a b==3
def Vm(a:Nd->Prop)(b:Int)(c:Nd×List (List UInt8)):Prop:=Tw a b N0 c
def QJJ(a:List Sm)(b c:Nat):List D:=[D.str (List.getD [Sm.nm (Qfg a b)] c [])]
def QJK(a:Nat):List D:=[D.str (List.getD [[(60:UInt8),(45:UInt8)]] a [])]
def QJL(a:Int)(b:List Sm)(c d:Nat):D:=D.sl N1 (Qmo a b c) (BM (XD a b c) (BM (VM a b c) (BM (Vl a b c) (fun i=>XC a b c i) fun i=>[D.str (List.getD [Gp a] i [])]) fun i=>QJJ b c i) fun i=>QJK i) (Mode.tok N0 d)
def Jf(a:List Sm)(b:Nat):Nd:=Sm.te (Qfg a b)
def QJP(a:Int):List D:=[D.sl N1 N0 (fun x=>[]) Mode.nil,ZI a]
def Qfj(a:List Sm)(b:Nat)(c:Int):List D:=D.agg (Nd.rowE (Jf a b))::QJP c
def QJQ:List Int:=Bk N0 fun x=>[]
def Vn(a:List (List UInt8))(b:Nat)(c:Nd)(d:Int):List D:=[D.sl N1 (LN a) (fun i=>[D.str (List.getD a i [])]) (Mode.tok N0 b),D.agg (Nd.row1 c),SI QJQ,ZI d]
def QJR(a:List (List UInt8))(b:Int)(c:Nd):List (List UInt8):=a++rlP b (BS QJQ c)
def Qfk(a:List (List UInt8))(b:Int)(c:Nd):Nat:=LN (QJR a b c)
def Qmp(a:List (List UInt8))(b:Int)(c:Nd):Nat:=Qfk a b c+N1
def QJS(a:List (List UInt8))(b:Int)(c:Nd)(d:Nat):List D:=[D.str (List.getD (QJR a b c) d [])]
def Jg(a:List Sm)(b:Nat):Nd:=Sm.nd (Qfg a b)
def HY(a:List Sm)(b:Nat)(c:Int):List D:=D.agg (Nd.rowE (Jg a b))::QJP c
def YX(a:List Sm)(b:Nat):Sm:=List.getD a b YW
def QSu(a:List Sm):D:=D.sl 34 (LN a) (fun i=>(Sm.row1 (YX a i))) Mode.any
def HZ(a:List Sm)(b:Int)(c:Nat)(d:List (List UInt8))(e:Nd):Prop:=∀(y:Nat),True->(SM (QSu a)/\SM (ZI b)/\True)/\∃(y_1:Nat×Nat),y_1.1<=LN a/\LN a-y_1.1<LN a-c/\(IntKind.wrap IntKind.i64 ((↑c:Int)+Z1)=(NI y_1.1)/\(Qfk d b e=Vl b a y_1.1/\(∀(i:Nat),i<Qfk d b e->QJS d b e i=XC b a y_1.1 i)/\y=y_1.2)/\True)/\True/\y=y_1.2/\True
def Qfo(a:List (List UInt8))(b:Int)(c:Nd)(d:Nat)(e:List Sm)(f:Nd->Prop):Prop:=∀(y:Nat),True->SM y/\Be (Qmp a b c*16<=140737488355328/\Qmp a b c<=9223372036854775807) (∀(t:Nat),Be (Z0<=(↑d:Int)/\(↑d:Int)<(LI e)) (∃(x:Nd×List (List UInt8)),(Vm f b x/\SM t/\wkL (D.sl N1 (Qmp a b c) (BM (Qfk a b c) (fun i=>QJS a b c i) fun i=>[D.str (List.getD [[(58:UInt8)]] i [])]) (Mode.tok N0 t)::HY e d b) (Vn x.2 t x.1 b))/\HZ e b d x.2 x.1))
def QJ2(a:Int)(b:List Sm)(c d:Nat):D:=D.sl N1 (VM a b c) (BM (Vl a b c) (fun i=>XC a b c i) fun i=>[D.str (List.getD [Gp a] i [])]) (Mode.tok N0 d)
def QJ3(a:Int)(b:List Sm)(c d:Nat):D:=D.sl N1 (XD a b c) (BM (VM a b c) (BM (Vl a b c) (fun i=>XC a b c i) fun i=>QJJ b c i) fun i=>QJK i) (Mode.tok N0 d)
def QJ4(a:Int)(b:List Sm)(c d:Nat):D:=D.sl N1 (Vl a b c) (fun i=>XC a b c i) (Mode.tok N0 d)
theorem Bdv(p : Nd -> Prop)(l : List Sm)(lv : Int)(h0 : 0<=lv)(h1 : lv+szB l<=100000)(hl : l.length<=BC)(hp : (ptB l).length<=3500000000000)(h : ∀b, p b -> RPar b)(hq : ∀s∈l, p s.nd /\ (s.kd=3 -> p s.te)) :
  CD 22 [gsl 34 Sm.row1 l,.int .i64 lv] (ssl (rlP lv (ptB l)) .any):=by
 refine Bh (A:=sC _ _) (x:=()) (E:=Erby p l lv) (eOk (Bg9 h) rfl) Tryz.func22 rfl (by kernel_rfl) rfl (by simp[sC,Erby,EC,E0]) ?_
 refine Bj (T :=
  ∀(t:Nat),(∃(x:Nat×Nat),x.1<=LN l/\(Z0=(NI x.1)/\(N0=Vl lv l x.1/\(∀(i:Nat),i<N0->Cw (List D) [] (XC lv l x.1 i))/\t=x.2)/\True)/\True/\t=x.2/\True)/\∀(x:Nat×Nat),x.1<=LN l->ifB (decide ((NI x.1)<(LI l))) (ifB (decide (Z0<(NI x.1))) (∃(x_1:Unit),(Z0<=lv/\lv<=200000)/\∀(y:Unit),True->SM x.2/\Be (VM lv l x.1*16<=140737488355328/\VM lv l x.1<=9223372036854775807) (∀(t:Nat),Be (Z0<=(NI x.1)/\(NI x.1)<(LI l)) (ifB (QJI l x.1) (Be (Z0<=(NI x.1)/\(NI x.1)<(LI l)) (SM t/\Be (XD lv l x.1*16<=140737488355328/\XD lv l x.1<=9223372036854775807) (∀(t:Nat),SM t/\Be (Qmo lv l x.1*16<=140737488355328/\Qmo lv l x.1<=9223372036854775807) (∀(t:Nat),Be (Z0<=(NI x.1)/\(NI x.1)<(LI l)) (ifB (Qfh l x.1) (Be (Z0<=(NI x.1)/\(NI x.1)<(LI l)) (∃(x_2:Nd×List (List UInt8)),(Vm p lv x_2/\SM t/\wkL (QJL lv l x.1 t::Qfj l x.1 lv) (Vn x_2.2 t x_2.1 lv))/\Qfo x_2.2 lv x_2.1 x.1 l p)) (Be (Z0<=(NI x.1)/\(NI x.1)<(LI l)) (∃(x_2:Nd×List (List UInt8)),(Vm p lv x_2/\SM t/\wkL (QJL lv l x.1 t::HY l x.1 lv) (Vn x_2.2 t x_2.1 lv))/\HZ l lv x.1 x_2.2 x_2.1))))))) (Be (Z0<=(NI x.1)/\(NI x.1)<(LI l)) (ifB (Qfh l x.1) (Be (Z0<=(NI x.1)/\(NI x.1)<(LI l)) (∃(x_2:Nd×List (List UInt8)),(Vm p lv x_2/\SM t/\wkL (QJ2 lv l x.1 t::Qfj l x.1 lv) (Vn x_2.2 t x_2.1 lv))/\Qfo x_2.2 lv x_2.1 x.1 l p)) (Be (Z0<=(NI x.1)/\(NI x.1)<(LI l)) (∃(x_2:Nd×List (List UInt8)),(Vm p lv x_2/\SM t/\wkL (QJ2 lv l x.1 t::HY l x.1 lv) (Vn x_2.2 t x_2.1 lv))/\HZ l lv x.1 x_2.2 x_2.1))))))) (Be (Z0<=(NI x.1)/\(NI x.1)<(LI l)) (ifB (QJI l x.1) (Be (Z0<=(NI x.1)/\(NI x.1)<(LI l)) (SM x.2/\Be (VM lv l x.1*16<=140737488355328/\VM lv l x.1<=9223372036854775807) (∀(t:Nat),SM t/\Be (XD lv l x.1*16<=140737488355328/\XD lv l x.1<=9223372036854775807) (∀(t:Nat),Be (Z0<=(NI x.1)/\(NI x.1)<(LI l)) (ifB (Qfh l x.1) (Be (Z0<=(NI x.1)/\(NI x.1)<(LI l)) (∃(x_1:Nd×List (List UInt8)),(Vm p lv x_1/\SM t/\wkL (QJ3 lv l x.1 t::Qfj l x.1 lv) (Vn x_1.2 t x_1.1 lv))/\Qfo x_1.2 lv x_1.1 x.1 l p)) (Be (Z0<=(NI x.1)/\(NI x.1)<(LI l)) (∃(x_1:Nd×List (List UInt8)),(Vm p lv x_1/\SM t/\wkL (QJ3 lv l x.1 t::HY l x.1 lv) (Vn x_1.2 t x_1.1 lv))/\HZ l lv x.1 x_1.2 x_1.1))))))) (Be (Z0<=(NI x.1)/\(NI x.1)<(LI l)) (ifB (Qfh l x.1) (Be (Z0<=(NI x.1)/\(NI x.1)<(LI l)) (∃(x_1:Nd×List (List UInt8)),(Vm p lv x_1/\SM x.2/\wkL (QJ4 lv l x.1 x.2::Qfj l x.1 lv) (Vn x_1.2 x.2 x_1.1 lv))/\Qfo x_1.2 lv x_1.1 x.1 l p)) (Be (Z0<=(NI x.1)/\(NI x.1)<(LI l)) (∃(x_1:Nd×List (List UInt8)),(Vm p lv x_1/\SM x.2/\wkL (QJ4 lv l x.1 x.2::HY l x.1 lv) (Vn x_1.2 x.2 x_1.1 lv))/\HZ l lv x.1 x_1.2 x_1.1))))))) (True/\∃(y:Unit),True/\(Vl lv l x.1=LN (rlP lv (ptB l))/\(∀(i:Nat),i<Vl lv l x.1->XC lv l x.1 i=[D.str (List.getD (rlP lv (ptB l)) i [])])/\True)/\True/\True)) (by kernel_rfl) ?_
 delta DA GI LI LN N0 N1 N4 NI SI SM Z0 Z1 ZI Vl XC Qmo Qfh Vm QJJ QJK QJL Jf VM QJP Qfj QJQ Vn QJR Qfk Qmp HX QJS Jg HY YX YV YW QSu HZ Qfo QJ2 QJ3 QJ4 Qfg QJH QJI XD
 try simp only[<- dm]
 try simp only[<- dn]
 simp only[eq_self,ne_eq,implies_true,Ba,Int.toNat_natCast,Bf,Bc,decide_eq_true_eq,decide_eq_false_iff_not,true_and,and_true,beq_iff_eq,bne_iff_ne,bne_eq_false_iff_eq,beq_eq_false_iff_ne,Bool.not_eq_true',Bool.not_eq_false',exists_const,forall_const,Prod.exists]
 unfold BC at hl
 have len:∀i,(Ip lv l i).length<=3500000000000:=fun i=>by
  have:=Bdi l i
  unfold Ip
  rw[ED]
  omega
 intro t
 refine⟨⟨0,t,Nat.zero_le _,⟨rfl,rfl,fun i hi=>absurd hi (by omega),rfl⟩,rfl⟩,?_⟩
 rintro ⟨i,t1⟩ hi
 simp only at hi ⊢
 refine⟨fun hlt=>?_,fun hge=>?_⟩
 ·have hi':i<l.length:=by omega
  have st:=BeY lv hi'
  have e1:=len (i+1)
  have hs:=C4 hi'
  obtain ⟨q1,q2⟩:=hq _ hs
  have z:=Bgb hs
  have zm:=TW (l.getD i default)
  have zn:szN (l.getD i default).nd<=szM (l.getD i default):=by rw[zm];split<;>omega
  have zt:(l.getD i default).kd=3->szN (l.getD i default).te<=szM (l.getD i default):=fun k=>by rw[zm,if_pos k];omega
  clear zm
  rw[rlM] at st
  rw[st] at e1
  generalize hA:Ip lv l i=A at *
  refine⟨fun hi0=>?_,fun hi0=>?_⟩
  ·rw[if_pos (by omega)] at st e1
   have e2:A.length+1<=3500000000000:=by
    simp only[List.length_append,List.length_cons,List.length_nil] at e1
    omega
   refine⟨⟨h0,by omega⟩,⟨by omega,by omega⟩,fun t2=>⟨⟨by omega,hlt⟩,fun k2=>?_,fun n2=>?_⟩⟩
   ·rw[if_pos k2] at st e1
    simp only[List.length_append,List.length_cons,List.length_nil] at e1
    refine⟨⟨by omega,hlt⟩,⟨by omega,by omega⟩,⟨by omega,by omega⟩,fun t3=>⟨⟨by omega,hlt⟩,fun k3=>absurd k3 (by omega),fun n3=>⟨⟨by omega,hlt⟩,(l.getD i default).nd,A++[Gp lv]++[(l.getD i default).nm]++[[60,45]],Es q1 h0 (by omega) (by decide) (by simp only[List.length_append,List.length_cons,List.length_nil];omega) (by simp only[List.length_append,List.length_cons,List.length_nil]) (E3 (by simp only[List.length_append,List.length_cons,List.length_nil]) (E3 (by simp only[List.length_append,List.length_cons,List.length_nil]) (E3 rfl (fun _ _=>rfl) _) _) _) CR,TB hi' hl (by rw[st];simp)⟩⟩⟩
   ·rw[if_neg n2] at st e1
    refine⟨⟨by omega,hlt⟩,fun k3=>?_,fun n3=>?_⟩
    ·have zt':=zt k3
     rw[if_pos k3] at st e1
     simp only[List.length_append,List.length_cons,List.length_nil] at e1
     refine⟨⟨by omega,hlt⟩,(l.getD i default).te,A++[Gp lv],Es (q2 k3) h0 (by omega) (by decide) (by simp only[List.length_append,List.length_cons,List.length_nil];omega) (by simp only[List.length_append,List.length_cons,List.length_nil]) (E3 rfl (fun _ _=>rfl) _) CR,⟨?_,?_⟩,fun t4=>⟨⟨by omega,hlt⟩,(l.getD i default).nd,A++[Gp lv]++rlP lv (BS (Bk 0 fun _=>[]) (l.getD i default).te)++[[58]],Es q1 h0 (by omega) (by decide) ?_ (by simp only[List.length_append,List.length_cons,List.length_nil]) (E3 rfl (fun _ _=>rfl) _) CR,TB hi' hl (by rw[IC,st];simp)⟩⟩
     all_goals
      rw[IC]
      simp only[List.length_append,List.length_cons,List.length_nil]
      omega
    ·rw[if_neg n3] at st e1
     simp only[List.length_append,List.length_cons,List.length_nil] at e1
     exact⟨⟨by omega,hlt⟩,(l.getD i default).nd,A++[Gp lv],Es q1 h0 (by omega) (by decide) (by simp only[List.length_append,List.length_cons,List.length_nil];omega) (by simp only[List.length_append,List.length_cons,List.length_nil]) (E3 rfl (fun _ _=>rfl) _) CR,TB hi' hl (by rw[st];simp)⟩
  ·rw[if_neg (by omega)] at st e1
   refine⟨⟨by omega,hlt⟩,fun k2=>?_,fun n2=>?_⟩
   ·rw[if_pos k2] at st e1
    simp only[List.length_append,List.length_cons,List.length_nil] at e1
    refine⟨⟨by omega,hlt⟩,⟨by omega,by omega⟩,⟨by omega,by omega⟩,fun t3=>⟨⟨by omega,hlt⟩,fun k3=>absurd k3 (by omega),fun n3=>⟨⟨by omega,hlt⟩,(l.getD i default).nd,A++[(l.getD i default).nm]++[[60,45]],Es q1 h0 (by omega) (by decide) (by simp only[List.length_append,List.length_cons,List.length_nil];omega) (by simp only[List.length_append,List.length_cons,List.length_nil]) (E3 (by simp only[List.length_append,List.length_cons,List.length_nil]) (E3 rfl (fun _ _=>rfl) _) _) CR,TB hi' hl (by rw[st];simp)⟩⟩⟩
   ·rw[if_neg n2] at st e1
    refine⟨⟨by omega,hlt⟩,fun k3=>?_,fun n3=>?_⟩
    ·have zt':=zt k3
     rw[if_pos k3] at st e1
     simp only[List.length_append,List.length_cons,List.length_nil] at e1
     refine⟨⟨by omega,hlt⟩,(l.getD i default).te,A,Es (q2 k3) h0 (by omega) (by decide) (by omega) rfl (fun _ _=>rfl) CR,⟨?_,?_⟩,fun t4=>⟨⟨by omega,hlt⟩,(l.getD i default).nd,A++rlP lv (BS (Bk 0 fun _=>[]) (l.getD i default).te)++[[58]],Es q1 h0 (by omega) (by decide) ?_ (by simp only[List.length_append,List.length_cons,List.length_nil]) (E3 rfl (fun _ _=>rfl) _) CR,TB hi' hl (by rw[IC,st];simp)⟩⟩
     all_goals
      rw[IC]
      simp only[List.length_append,List.length_cons,List.length_nil]
      omega
    ·rw[if_neg n3] at st e1
     simp only[List.length_append,List.length_cons,List.length_nil] at e1
     exact⟨⟨by omega,hlt⟩,(l.getD i default).nd,A,Es q1 h0 (by omega) (by decide) (by omega) rfl (fun _ _=>rfl) CR,TB hi' hl (by rw[st];simp)⟩
 ·have e:Ip lv l i=rlP lv (ptB l):=by
   unfold Ip
   rw[show i=l.length by omega,List.take_length]
  rw[e]
  exact⟨rfl,fun _ _=>rfl⟩
def Bk0(n:Nd):Con:=fun k ds S=>match k with
 |22=>match ds with
  | [_,.int .i64 lv]=>some (pA ds S (ssl (rlP lv (ptB n.bo)) .any) (wkL ds [gsl 34 Sm.row1 n.bo,.int .i64 lv]/\n.kd=10/\0<=lv/\lv+szB n.bo<=100000))
  |_=>none
 |93=>some (pA ds S (.str (Er n)) (isN n ds []))
 |_=>none
theorem BjT{n:Nd}(ho:n.ok)(hn:n.sm)(hb:n.kd=10->∀lv:Int,0<=lv->lv+szB n.bo<=100000->CD 22 [gsl 34 Sm.row1 n.bo,.int .i64 lv] (ssl (rlP lv (ptB n.bo)) .any)):ConOk Tryz.prog (Bk0 n):=by
 intro k ds S A hh
 unfold Bk0 at hh
 split at hh
 ·split at hh
  ·injection hh with hh;subst hh
   exact Bo fun ⟨e,hk,h0,h1⟩=>CD.at_ (CD.wk (hb hk _ h0 h1) e) _
  ·cases hh
 ·injection hh with hh;subst hh
  exact Bo fun e=>CD.at_ (CD.wk (Bm9 n ho hn) e) _
 ·cases hh
def EQ(ks:List Int)(lv:Int)(l:List Nd)(i:Nat):List (List UInt8):=rlP lv ((l.take i).flatMap (BS ks))
theorem BjY:BS [16,4,5]=BS [4,5,16]:=by
 funext b
 unfold BS ptW
 have e:[16,4,5].contains b.kd=[4,5,16].contains b.kd:=by
  rw[Bool.eq_iff_iff]
  simp only[List.contains_eq_mem,decide_eq_true_eq,List.mem_cons,List.not_mem_nil,or_false]
  omega
 rw[e]
theorem Bl9(b:Nd):BS [16,14,15,3,4,5] b=BS [3,4,5,16,14,15] b:=by
 unfold BS ptW
 have e:[16,14,15,3,4,5].contains b.kd=[3,4,5,16,14,15].contains b.kd:=by
  rw[Bool.eq_iff_iff]
  simp only[List.contains_eq_mem,decide_eq_true_eq,List.mem_cons,List.not_mem_nil,or_false]
  omega
 rw[e]
theorem R0(ks:List Int)(b:Nd):ID (BS ks b):=ON (Wp b)
theorem Bd8(ks:List Int)(lv:Int){l:List Nd}{i:Nat}(h:i<l.length):EQ ks lv l (i+1)=EQ ks lv l i++rlP lv (BS ks (l.getD i default)):=by
 unfold EQ
 rw[B5 h,List.flatMap_append,EB (Mu fun x _=>R0 ks x)]
 simp
theorem Bad(ks:List Int)(lv:Int)(l:List Nd)(i:Nat):(EQ ks lv l i).length<=(l.flatMap (BS ks)).length:=by
 unfold EQ
 rw[ED]
 exact Bas _ _ _
theorem BiF{lv : Int}{ks : List Int}{l : List Nd}{i m : Nat}{f : Nat -> List D}(hi : i<l.length)(hl : l.length<=8589934592)(hf : Bk m f=ks) :
  ∀y:Nat,∃a b:Nat,a<=l.length/\l.length-a<l.length-i/\(IntKind.i64.wrap ((i:Int)+1)=(a:Int)/\(EQ ks lv l i++rlP lv (BS (Bk m f) (l.getD i default))).length=(EQ ks lv l a).length/\(∀j,j<(EQ ks lv l i++rlP lv (BS (Bk m f) (l.getD i default))).length->[D.str ((EQ ks lv l i++rlP lv (BS (Bk m f) (l.getD i default))).getD j [])]=[D.str ((EQ ks lv l a).getD j [])])/\y=b)/\y=b:=by
 intro y
 rw[hf,<- Bd8 ks lv hi]
 exact⟨i+1,y,hi,by omega,⟨Bb (by omega) (by omega),rfl,fun _ _=>rfl,rfl⟩,rfl⟩
theorem Bgs{α:Type}[Inhabited α]{w:Nat}{g:α->List D}{l:List α}:wkD (gsl w g l) (lsl w (l.map g)):=by
 simp only[lsl,gsl,wkD,Bd]
 refine⟨by simp,by simp,fun i hi=>?_,by simp[BF]⟩
 have:(l.map g).getD i []=g (l.getD i default):=by simp[List.getD_eq_getElem?_getD,hi]
 rw[this]
 exact Bg _
theorem Bjo(n:Nd):wkL n.row1 n.row:=by
 cases n with
 |mk kd at_ cl tx pr op va ki bo de sl ss =>
  simp only[Nd.row,Nd.row1,Nd.rowE,Nd.kd,Nd.at_,Nd.cl,Nd.tx,Nd.pr,Nd.op,Nd.va,Nd.ki,Nd.bo,Nd.de,Nd.sl,Nd.ss,wkL,Ib,Eh]
  exact⟨Bi _,Bi _,Bi _,Bi _,Bi _,Bi _,Bi _,Bi _,Bi _,Bi _,Bgs,Bgs,Bi _,Bi _,Bi _,trivial⟩
theorem BjM(n:Nd):wkL n.rowE n.row:=Bjo n
theorem BoD(s:Sm):wkL s.row1 s.row:=by
 cases s with
 |mk kd at_ nm sl te nd =>
  simp only[Sm.row,Sm.row1,Sm.kd,Sm.at_,Sm.nm,Sm.sl,Sm.te,Sm.nd,wkL]
  exact⟨Bi _,Bi _,Bi _,Bi _,OZ (BjM te) (BjM nd)⟩
theorem Bo4(n:Nd):wkL n.row2 n.row1:=by
 simp only[Nd.row2,Nd.row1,Nd.rowE,wkL]
 exact⟨Bi _,Bi _,Bi _,Bi _,Bi _,Bi _,Bi _,Bi _,Bi _,Bi _,Wv Bjo,Wv BoD,Bi _,Bi _,Bi _,trivial⟩
theorem BpX(n:Nd):isN n [.agg n.row2] []:=by
 simp only[isN,wkL]
 exact⟨by simp only[wkD];exact Bo4 n,trivial⟩
theorem UH{p : Nd -> Prop}{lv : Int}{b : Nd}{m : Nat}{f : Nat -> List D}{md : Ab.Mode}(hp : p b)(h0 : 0<=lv)(h1 : lv+szN b<=100000)(hm : m<=maxLen)(hI : IntsP m f) :
  Tw p lv m (b,[])/\Cw (List (List UInt8)) [] []/\wkL [.sl 1 0 (fun _=>[]) .nil,.agg b.row1,.sl 1 m f md,.int .i64 lv] [.sl 1 0 (fun _=>[]) .nil,.agg b.row1,isl (Bk m f) .any,.int .i64 lv]:=by
 refine⟨⟨hp,h0,h1,hm,by simp⟩,rfl,?_⟩
 have h2:=Ck (r:=b.row1) (md:=md) hI
 simp only[wkL] at h2 ⊢
 exact⟨Bi _,h2.1,h2.2.1,Bi _,trivial⟩
theorem BeP{n:Nd}(hv:BV n=0)(ho:n.ok):(ptN n).length<=3500000000000:=by
 obtain ⟨_,hz,hvn⟩:=BZ.1 hv
 have h1:=BgI (ptN n)
 have h2:=TO (ptN n)
 have h3:=(Wo n hvn).1
 have h4:=Et n hvn ho
 rw[h3] at h2
 omega
theorem CY{L M:List (List UInt8)}(h:L=M):L.length=M.length/\∀i,i<L.length->[D.str (L.getD i [])]=[D.str (M.getD i [])]:=by
 subst h
 exact⟨rfl,fun _ _=>rfl⟩
noncomputable def Erpa(p:Nd->Prop)(n:Nd)(lv:Int):Senv:={ EC (BaX p (Bk0 n)) 151 3 [4,5,6,7,8,9,10,11,16,22,28,40,56,79,95,119,125,137] (fun id=>match id with | 13=>([0,1,2,3,4,5,6,8,9,10,11,12,7,13,14],[7,13]) | 15=>([0,1,2,3,4,5,6,8,9,10,11,12,13,15,16,17,18,19,7,14,20,21],[7,14,20]) | 17=>([0,1,2,3,4,5,6,8,9,10,11,12,7,13,14],[7,13]) | 20=>([0,1,2,3,4,5,6,8,9,10,11,12,14,15,16,17,18,19,7,13,20,21],[7,13,20]) | 27=>([0,3,4,5,6,1,2,7,8,9,10,11],[1,2,7,8,9,10]) | _=>([],[])) with
 mg:=fun _=>2
 gh:=fun b=>match b with
  |1=>[.slot 8]
  |3=>[.slot 8]
  |_=>[]
 ann:=fun b _ S=>match b with
  |1=>some { slots:=[9,8],keep:=[0,1,2,6],α:=Nat×Nat,st:=fun y=>([.int .i64 y.1,ssl (EQ [3,4,5] lv n.ki y.1) (.tok 0 y.2)],⟨S.objs,[(0,y.2)]⟩),inv:=fun y=>y.1<=n.ki.length,mu:=fun y=>n.ki.length-y.1 }
  |3=>some { slots:=[11,8],keep:=[0,1,2],α:=Nat×Nat,st:=fun y=>([.int .i64 y.1,ssl (EQ [16,4,5] lv n.ki y.1) (.tok 0 y.2)],⟨S.objs,[(0,y.2)]⟩),inv:=fun y=>y.1<=n.ki.length,mu:=fun y=>n.ki.length-y.1 }
  |_=>none }
def JX(a:Nd):Int:=Nd.kd a
def VN(a:Nd):List Nd:=Nd.ki a
def XE(a:Nd):Nat:=LN (VN a)
def YY(a:Nat)(b:Nd):Prop:=a<=XE b
def QJ5(a:Int)(b:Nd)(c:Nat):List (List UInt8):=EQ [(3:Int),(4:Int),(5:Int)] a (VN b) c
def H0(a:Int)(b:Nd)(c:Nat):Nat:=LN (QJ5 a b c)
def Qfp(a:Int)(b:Nd)(c d:Nat):List D:=[D.str (List.getD (QJ5 a b c) d [])]
def QJ6(a:Nd):Int:=Nd.at_ a
def QJ7(a:Nd):Int:=Nd.cl a
def QJ8(a:Nd):List UInt8:=Nd.tx a
def QJ9(a:Nd):Int:=Nd.pr a
def QKa(a:Nd):Int:=Nd.op a
def Qfq(a:Nd):Arr:=Nd.va a
def QKb(a:Nd):Int:=Arr.k (Qfq a)
def QKc(a:Nd):List Int:=Arr.sh (Qfq a)
def Qmq(a:Nd):Nat:=LN (QKc a)
def QKd(a:Nd)(b:Nat):List D:=[ZI (GI (QKc a) b)]
def QKe(a:Nd):List Int:=Arr.nu (Qfq a)
def Qmr(a:Nd):Nat:=LN (QKe a)
def QKf(a:Nd)(b:Nat):List D:=[ZI (GI (QKe a) b)]
def QKg(a:Nd):List Arr:=Arr.it (Qfq a)
def Qms(a:Nd):Nat:=LN (QKg a)
def YZ:Arr:=DA
def QKh(a:Nd)(b:Nat):List D:=Arr.row (List.getD (QKg a) b YZ)
def JK:Nd:=Nd.mk Z0 Z0 Z0 [] Z0 Z0 YZ [] [] Z0 Z0 Z0
def QKi(a:Nd)(b:Nat):List D:=Nd.row1 (List.getD (VN a) b JK)
def Qfr(a:Nd):List Sm:=Nd.bo a
def Qmt(a:Nd):Nat:=LN (Qfr a)
def H1:Sm:=Sm.mk Z0 Z0 [] Z0 JK JK
def QKj(a:Nd)(b:Nat):List D:=Sm.row1 (List.getD (Qfr a) b H1)
def QKk(a:Nd):Int:=Nd.de a
def QKl(a:Nd):Int:=Nd.sl a
def QKm(a:Nd):Int:=Nd.ss a
def Qfs(a:Nat)(b:Nd)(c d:Nat):Prop:=(SM a/\(SM (JX b)/\SM (QJ6 b)/\SM (QJ7 b)/\SM (QJ8 b)/\SM (QJ9 b)/\SM (QKa b)/\SM (QKb b)/\(SM (Qmq b)/\(∀(i:Nat),i<Qmq b->SM (QKd b i))/\True)/\(SM (Qmr b)/\(∀(i:Nat),i<Qmr b->SM (QKf b i))/\True)/\(SM (Qms b)/\(∀(i:Nat),i<Qms b->SM (QKh b i))/\True)/\(SM (XE b)/\(∀(i:Nat),i<XE b->SM (QKi b i))/\True)/\(SM (Qmt b)/\(∀(i:Nat),i<Qmt b->SM (QKj b i))/\True)/\SM (QKk b)/\SM (QKl b)/\SM (QKm b)/\True)/\True)/\c=d/\True
def QO(a:Nd):Int:=(NI (XE a))
def QKn(a:Nat)(b:Nd):Bool:=decide ((↑a:Int)<QO b)
def Jj(a:Nd)(b:Nat):Nd:=List.getD (VN a) (Int.toNat (↑b:Int)) JK
def QKr(a:Nd)(b:Nat):D:=D.agg (Nd.rowE (Jj a b))
def Qmu:List (List D):=[[ZI 4],[ZI 5]]
def QKs:List (List D):=[ZI 3]::Qmu
def QKt(a:Nat):List D:=List.getD QKs a []
def QKu:D:=D.sl N1 (3:Nat) (fun i=>QKt i) Mode.full
def Jk(a:Int):List D:=[ZI a]
def H2(a:List (List UInt8))(b:Nat):D:=D.sl N1 (LN a) (fun i=>[D.str (List.getD a i [])]) (Mode.tok N0 b)
def Y0(a:Nd):D:=D.agg (Nd.row1 a)
def QKv:List Int:=Bk (3:Nat) fun i=>QKt i
def QKw(a:Nd):D:=D.sl 15 (XE a) (fun i=>QKi a i) Mode.any
def Qmv(a:Nd):D:=D.sl 34 (Qmt a) (fun i=>QKj a i) Mode.any
def QKx(a:Nd):D:=D.agg (Nd.row2 a)
def QKy(a:Nd):Prop:=SM (QKx a)
def QKz(a:Nd)(b c:Nat):Prop:=XE a-b<XE a-c
def QKA(a:List (List UInt8))(b:Int)(c:Nd):List (List UInt8):=a++rlP b (BS QKv c)
def QKB(a:List (List UInt8))(b:Int)(c:Nd):Nat:=LN (QKA a b c)
def QKC(a:Int)(b:Nd):List (List UInt8):=rlP a (ptN b)
def Y1(a:Int)(b:Nd):Nat:=LN (QKC a b)
def Y2(a:Int)(b:Nd)(c:Nat):List D:=[D.str (List.getD (QKC a b) c [])]
def Y3:D:=D.sl N1 N0 (fun x=>[]) Mode.nil
def Jl(a:Nd):Nd:=List.getD (VN a) N0 JK
def QKG(a:Nd):D:=D.agg (Nd.rowE (Jl a))
def QKH(a:Int):List D:=D.sl N1 N1 (fun i=>List.getD [[ZI 16]] i []) Mode.full::Jk a
def QKI(a:Nd)(b:Int):List D:=QKG a::QKH b
def QKJ:List Int:=Bk N1 fun i=>List.getD [[ZI 16]] i []
def QKK(a:Nd)(b:Int):List D:=Y0 a::SI QKJ::Jk b
def QKL(a:Nd)(b:Int):List D:=Y3::QKK a b
def VO(a:Nat)(b:Nd):Prop:=SM a/\SM (QKw b)
def QKM(a:List (List UInt8))(b:Int)(c:Nd):List (List UInt8):=a++rlP b (BS QKJ c)
def Qmw(a:List (List UInt8))(b:Int)(c:Nd)(d:Nat):D:=D.sl N1 (LN (QKM a b c)) (fun i=>[D.str (List.getD (QKM a b c) i [])]) (Mode.tok N0 d)
def Jm(a:Nd):Nd:=List.getD (VN a) N1 JK
def Qmx(a:Nd):D:=D.agg (Nd.rowE (Jm a))
def Qmy(a:Int):List D:=Y3::Jk a
def QKQ:List Int:=Bk N0 fun x=>[]
def Qmz(a:List (List UInt8))(b:Nat)(c:Nd)(d:Int):List D:=H2 a b::Y0 c::SI QKQ::Jk d
def QKR(a:List (List UInt8))(b:Int)(c:Nd):List (List UInt8):=a++rlP b (BS QKQ c)
def QmA(a:List (List UInt8))(b:Int)(c:Nd):Nat:=LN (QKR a b c)
def QKS(a:List (List UInt8))(b:Int)(c:Nd)(d:Nat):List D:=[D.str (List.getD (QKR a b c) d [])]
def QmB(a:List (List UInt8))(b:Int)(c d:Nd):Prop:=∀(y:Nat),True->True/\∃(y:Unit),True/\(QmA a b c=Y1 b d/\(∀(i:Nat),i<QmA a b c->QKS a b c i=Y2 b d i)/\True)/\True/\True
def QKT(a:Nat):List D:=List.getD Qmu a []
def QKU:List Int:=Bk N2 fun i=>QKT i
def QKV(a:List (List UInt8))(b:Int)(c:Nd):List (List UInt8):=a++rlP b (BS QKU c)
def Jn(a:Nd):Nd:=List.getD (VN a) N2 JK
def QKZ(a:Nd):D:=D.agg (Nd.rowE (Jn a))
def QK0(a:Nd->Prop)(b:Int)(c:Nd×List (List UInt8))(d:List (List UInt8))(e f:Nd):Prop:=Tw a b N1 c/\Cw (List (List UInt8)) d []/\wkL (Y3::Qmx e::QKH b) (QKL f b)
def QK1(a:Nd->Prop)(b:Int)(c:Nd×List (List UInt8))(d:Nat)(e:List (List UInt8))(f g:Nd)(h:List (List UInt8))(k:Nd):Prop:=Tw a b N0 c/\SM d/\wkL (Qmw e b f d::QKG g::Qmy b) (Qmz h d k b)
def QK2(a:Nat):List D:=List.getD ([ZI 16]::[ZI 14]::[ZI 15]::QKs) a []
def QK3:List Int:=Bk N6 fun i=>QK2 i
def QK4(a:List (List UInt8))(b:Int)(c:Nd):List (List UInt8):=a++rlP b (BS QK3 c)
def QK5(a:List (List UInt8))(b:Int)(c:Nd):Nat:=LN (QK4 a b c)
def QK6(a:Int)(b:Nd)(c:Nat):List (List UInt8):=EQ [(16:Int),(4:Int),(5:Int)] a (VN b) c
def H3(a:Int)(b:Nd)(c:Nat):Nat:=LN (QK6 a b c)
def Qfx(a:Int)(b:Nd)(c d:Nat):List D:=[D.str (List.getD (QK6 a b c) d [])]
def QK7(a:Nat):List D:=List.getD ([ZI 16]::Qmu) a []
def QK8:List Int:=Bk (3:Nat) fun i=>QK7 i
def QK9(a:List (List UInt8))(b:Int)(c:Nd):List (List UInt8):=a++rlP b (BS QK8 c)
def QLa(a:List (List UInt8))(b:Int)(c:Nd):Nat:=LN (QK9 a b c)
def H4(a:Nat)(b:Nd):Prop:=SM a/\SM (Qmv b)
def Qfy(a:Int):Int:=IntKind.wrap IntKind.i64 (a+Z1)
def QLb(a:Nd)(b:Int):List D:=[Qmv a,ZI (Qfy b)]
def QLc(a:Nd)(b:Int):Prop:=wkL (QLb a b) (QLb a b)/\JX a=10/\Z0<=Qfy b/\Qfy b+(NI (szB (Qfr a)))<=100000
def QLd(a:Int)(b:Nd):List (List UInt8):=rlP (Qfy a) (ptB (Qfr b))
def Qfz(a:Int)(b:Nd):Nat:=N1+LN (QLd a b)
def QfA(a:Int)(b:Nd):Nat:=Qfz a b+N1
def QmC(a:Nat)(b:Int)(c:Nd):Prop:=SM a/\Be (Qfz b c*16<=140737488355328/\Qfz b c<=9223372036854775807) (∀(t:Nat),SM t/\Be (QfA b c*16<=140737488355328/\QfA b c<=9223372036854775807) (∀(t:Nat),True/\∃(y:Unit),True/\(QfA b c=Y1 b c/\(∀(i:Nat),i<QfA b c->BM (Qfz b c) (BM N1 (fun i=>[D.str (List.getD [[(123:UInt8)]] (i-N0) [])]) fun i=>[D.str (List.getD (QLd b c) i [])]) (fun i=>[D.str (List.getD [[(125:UInt8)]] i [])]) i=Y2 b c i)/\True)/\True/\True))
def QLe(a:Nat)(b:Nd)(c:Int)(d:Nat):Prop:=H4 a b/\∃(x:Unit),QLc b c/\∀(y:Unit),True->QmC d c b
def QLf(a:Nat)(b:Nd)(c:Int):Prop:=H4 a b/\∀(t:Nat),QLe a b c t
theorem Blu(p : Nd -> Prop)(n : Nd)(lv : Int)(hv : BV n=0)(ho : n.ok)(hn : n.sm)(h0 : 0<=lv)(h1 : lv+szN n<=100000)(h : ∀b, p b -> RPar b)(hq : ∀b∈n.ki, p b)(hb : n.kd=10 -> ∀lv : Int, 0<=lv -> lv+szB n.bo<=100000 -> CD 22 [gsl 34 Sm.row1 n.bo, .int .i64 lv] (ssl (rlP lv (ptB n.bo)) .any)) :
  CD 70 [.agg n.row2,.int .i64 lv] (ssl (rlP lv (ptN n)) .any):=by
 refine Bh (A:=sC _ _) (x:=()) (E:=Erpa p n lv) (eOk (Bar h (BjT ho hn hb)) rfl) Tryz.func70 rfl (by kernel_rfl) rfl (by simp[sC,Erpa,EC,E0]) ?_
 refine Bj (T :=
  ∀(x:Nat),True->SM x/\ifB (JX n==3) (∀(t:Nat),(∃(x_1:Nat×Nat),YY x_1.1 n/\(Z0=(NI x_1.1)/\(N0=H0 lv n x_1.1/\(∀(i:Nat),i<N0->Cw (List D) [] (Qfp lv n x_1.1 i))/\t=x_1.2)/\True)/\Qfs x n t x_1.2)/\∀(x_1:Nat×Nat),YY x_1.1 n->SM x/\ifB (QKn x_1.1 n) (SM x/\Be (Z0<=(NI x_1.1)/\(NI x_1.1)<QO n) (∃(x_2:Nd×List (List UInt8)),(Tw p lv (3:Nat) x_2/\SM x_1.2/\wkL (D.sl N1 (H0 lv n x_1.1) (fun i=>Qfp lv n x_1.1 i) (Mode.tok N0 x_1.2)::QKr n x_1.1::QKu::Jk lv) (H2 x_2.2 x_1.2::Y0 x_2.1::SI QKv::Jk lv))/\∀(y:Nat),True->(QKy n/\SM (ZI lv)/\SM (D.ref N0 x N0)/\SM QKu/\True)/\∃(y_1:Nat×Nat),YY y_1.1 n/\QKz n y_1.1 x_1.1/\(IntKind.wrap IntKind.i64 ((NI x_1.1)+Z1)=(NI y_1.1)/\(QKB x_2.2 lv x_2.1=H0 lv n y_1.1/\(∀(i:Nat),i<QKB x_2.2 lv x_2.1->[D.str (List.getD (QKA x_2.2 lv x_2.1) i [])]=Qfp lv n y_1.1 i)/\y=y_1.2)/\True)/\Qfs x n y y_1.2)) (True/\∃(y:Unit),True/\(H0 lv n x_1.1=Y1 lv n/\(∀(i:Nat),i<H0 lv n x_1.1->Qfp lv n x_1.1 i=Y2 lv n i)/\True)/\True/\True)) (ifB (JX n==4) (SM x/\Be (Z0<=Z0/\Z0<QO n) (SM x/\Be (Z0<=Z1/\Z1<QO n) (∃(x_1:Nd×List (List UInt8)),(Tw p lv N1 x_1/\Cw (List (List UInt8)) x_1.2 []/\wkL (Y3::QKI n lv) (QKL x_1.1 lv))/\∀(y:Nat),True->VO x n/\∃(x:Nd×List (List UInt8)),(Tw p lv N0 x/\SM y/\wkL (Qmw x_1.2 lv x_1.1 y::Qmx n::Qmy lv) (Qmz x.2 y x.1 lv))/\QmB x.2 lv x.1 n))) (ifB (JX n==5) (SM x/\Be (Z0<=Z1/\Z1<QO n) (SM x/\Be (Z0<=Z0/\Z0<QO n) (SM x/\Be (Z0<=2/\(2:Int)<QO n) (∃(x_1:Nd×List (List UInt8)),(Tw p lv N2 x_1/\Cw (List (List UInt8)) x_1.2 []/\wkL (Y3::Qmx n::D.sl N1 N2 (fun i=>QKT i) Mode.full::Jk lv) (Y3::Y0 x_1.1::SI QKU::Jk lv))/\∀(y:Nat),True->VO x n/\VO x n/\∃(x_2:Nd×List (List UInt8)),(Tw p lv N1 x_2/\SM y/\wkL (D.sl N1 (LN (QKV x_1.2 lv x_1.1)) (fun i=>[D.str (List.getD (QKV x_1.2 lv x_1.1) i [])]) (Mode.tok N0 y)::QKI n lv) (H2 x_2.2 y::QKK x_2.1 lv))/\∀(y:Nat),True->VO x n/\∃(x:Nd×List (List UInt8)),(Tw p lv N0 x/\SM y/\wkL (Qmw x_2.2 lv x_2.1 y::QKZ n::Qmy lv) (Qmz x.2 y x.1 lv))/\QmB x.2 lv x.1 n)))) (ifB (JX n==14) (SM x/\Be (Z0<=Z1/\Z1<QO n) (SM x/\Be (Z0<=Z0/\Z0<QO n) (∃(x_1:Nd×List (List UInt8)),QK0 p lv x_1 x_1.2 n x_1.1/\∀(y:Nat),True->VO x n/\∃(x:Nd×List (List UInt8)),QK1 p lv x y x_1.2 x_1.1 n x.2 x.1/\QmB x.2 lv x.1 n))) (ifB (JX n==15) (SM x/\Be (Z0<=Z1/\Z1<QO n) (SM x/\Be (Z0<=Z0/\Z0<QO n) (SM x/\Be (Z0<=2/\(2:Int)<QO n) (∃(x_1:Nd×List (List UInt8)),QK0 p lv x_1 x_1.2 n x_1.1/\∀(y:Nat),True->VO x n/\VO x n/\∃(x_2:Nd×List (List UInt8)),QK1 p lv x_2 y x_1.2 x_1.1 n x_2.2 x_2.1/\∀(y:Nat),True->VO x n/\∃(x:Nd×List (List UInt8)),(Tw p lv N6 x/\SM y/\wkL (D.sl N1 (QmA x_2.2 lv x_2.1) (fun i=>QKS x_2.2 lv x_2.1 i) (Mode.tok N0 y)::QKZ n::D.sl N1 N6 (fun i=>QK2 i) Mode.full::Jk lv) (H2 x.2 y::Y0 x.1::SI QK3::Jk lv))/\∀(y:Nat),True->True/\∃(y:Unit),True/\(QK5 x.2 lv x.1=Y1 lv n/\(∀(i:Nat),i<QK5 x.2 lv x.1->[D.str (List.getD (QK4 x.2 lv x.1) i [])]=Y2 lv n i)/\True)/\True/\True)))) (ifB (JX n==16) (∀(t:Nat),(∃(x_1:Nat×Nat),YY x_1.1 n/\(Z0=(NI x_1.1)/\(N0=H3 lv n x_1.1/\(∀(i:Nat),i<N0->Cw (List D) [] (Qfx lv n x_1.1 i))/\t=x_1.2)/\True)/\Qfs x n t x_1.2)/\∀(x_1:Nat×Nat),YY x_1.1 n->SM x/\ifB (QKn x_1.1 n) (SM x/\Be (Z0<=(NI x_1.1)/\(NI x_1.1)<QO n) (∃(x_2:Nd×List (List UInt8)),(Tw p lv (3:Nat) x_2/\SM x_1.2/\wkL (D.sl N1 (H3 lv n x_1.1) (fun i=>Qfx lv n x_1.1 i) (Mode.tok N0 x_1.2)::QKr n x_1.1::D.sl N1 (3:Nat) (fun i=>QK7 i) Mode.full::Jk lv) (H2 x_2.2 x_1.2::Y0 x_2.1::SI QK8::Jk lv))/\∀(y:Nat),True->(QKy n/\SM (ZI lv)/\SM (D.ref N0 x N0)/\True)/\∃(y_1:Nat×Nat),YY y_1.1 n/\QKz n y_1.1 x_1.1/\(IntKind.wrap IntKind.i64 ((NI x_1.1)+Z1)=(NI y_1.1)/\(QLa x_2.2 lv x_2.1=H3 lv n y_1.1/\(∀(i:Nat),i<QLa x_2.2 lv x_2.1->[D.str (List.getD (QK9 x_2.2 lv x_2.1) i [])]=Qfx lv n y_1.1 i)/\y=y_1.2)/\True)/\Qfs x n y y_1.2)) (True/\∃(y:Unit),True/\(H3 lv n x_1.1=Y1 lv n/\(∀(i:Nat),i<H3 lv n x_1.1->Qfx lv n x_1.1 i=Y2 lv n i)/\True)/\True/\True)) (ifB (JX n==10) (SM x/\(H4 x n/\(∀(t:Nat),H4 x n/\(∃(x:Unit),QLc n lv/\∀(y:Unit),True->QmC t lv n/\QmC t lv n)/\QLe x n lv t)/\QLf x n lv)/\H4 x n/\QLf x n lv) (SM x/\∃(x:Unit),isN n [QKx n] []/\∀(y:Unit),True->∀(t:Nat),True/\∃(y:Unit),True/\(N1=Y1 lv n/\(∀(i:Nat),i<N1->BM N0 (fun x=>[]) (fun i=>[D.str (List.getD [Er n] i [])]) i=Y2 lv n i)/\True)/\True/\True)))))))) (by kernel_rfl) ?_
 delta DA GI LN N0 N1 N2 N4 N6 NI SI SM Z0 Z1 ZI JX VN QJ9 QKZ QK0 QK1 QK2 QK3 QK4 QKa QK5 QK6 H3 Qfx QK7 QK8 QK9 QLa H4 Qfy Qfq QLb QLc QLd Qfz QfA QmC QLe QLf QKb QKc Qmq QKd QKe Qmr QKf XE QKg Qms YZ QKh JK QKi Qfr Qmt H1 QKj YY QKk QKl QKm Qfs QO QKn Jj QJ5 QKr Qmu QKs QKt QKu Jk H2 H0 Y0 QKv QKw Qmv QKx QKy QKz QKA QKB QKC Qfp Y1 Y2 Y3 Jl QJ6 QKG QKH QKI QKJ QKK QKL VO QKM Qmw Jm QJ7 Qmx Qmy QKQ Qmz QJ8 QKR QmA QKS QmB QKT QKU QKV Jn
 try simp only[<- dm]
 try simp only[<- dn]
 simp only[eq_self,ne_eq,implies_true,Ba,Int.toNat_natCast,Bf,Bc,decide_eq_true_eq,decide_eq_false_iff_not,true_and,and_true,beq_iff_eq,bne_iff_ne,bne_eq_false_iff_eq,beq_eq_false_iff_ne,Bool.not_eq_true',Bool.not_eq_false',exists_const,forall_const,Prod.exists]
 have i1:Bk 1 (fun i=>[[D.int IntKind.i64 16]].getD i [])=[16]:=rfl
 have i2:Bk 2 (fun i=>[[D.int IntKind.i64 4],[D.int IntKind.i64 5]].getD i [])=[4,5]:=rfl
 have i3:∀a b c:Int,Bk 3 (fun i=>[[D.int IntKind.i64 a],[D.int IntKind.i64 b],[D.int IntKind.i64 c]].getD i [])=[a,b,c]:=fun _ _ _=>rfl
 have i6:Bk 6 (fun i=>[[D.int IntKind.i64 16],[D.int IntKind.i64 14],[D.int IntKind.i64 15],[D.int IntKind.i64 3],[D.int IntKind.i64 4],[D.int IntKind.i64 5]].getD i [])=[16,14,15,3,4,5]:=rfl
 have p1:IntsP 1 (fun i=>[[D.int IntKind.i64 16]].getD i []):=fun i hi=>by
  match i,hi with
  |0,_=>rfl
 have p2:IntsP 2 (fun i=>[[D.int IntKind.i64 4],[D.int IntKind.i64 5]].getD i []):=fun i hi=>by
  match i,hi with
  |0,_=>rfl
  |1,_=>rfl
 have p3:∀a b c:Int,IntsP 3 (fun i=>[[D.int IntKind.i64 a],[D.int IntKind.i64 b],[D.int IntKind.i64 c]].getD i []):=fun _ _ _ i hi=>by
  match i,hi with
  |0,_=>rfl
  |1,_=>rfl
  |2,_=>rfl
 have p6:IntsP 6 (fun i=>[[D.int IntKind.i64 16],[D.int IntKind.i64 14],[D.int IntKind.i64 15],[D.int IntKind.i64 3],[D.int IntKind.i64 4],[D.int IntKind.i64 5]].getD i []):=fun i hi=>by
  match i,hi with
  |0,_=>rfl
  |1,_=>rfl
  |2,_=>rfl
  |3,_=>rfl
  |4,_=>rfl
  |5,_=>rfl
 obtain ⟨_,hz,hvn⟩:=BZ.1 hv
 obtain ⟨L2,L3,_⟩:=IK hvn
 have hlen:=BeP hv ho
 have hsz:=Ba7 n
 have hkl:n.ki.length<=8589934592:=by
  have:=(Cc hn).2.1
  unfold BC at this
  omega
 have kq:∀i,i<n.ki.length->p (n.ki.getD i default)/\lv+szN (n.ki.getD i default)<=100000:=fun i hi=>by
  have h2:=US (B0 hi)
  exact⟨hq _ (B0 hi),by omega⟩
 have pg:∀i,i<n.ki.length->(ptL n.ki).getD i []=ptN (n.ki.getD i default):=fun i hi=>WH hi
 refine⟨fun k=>?_,fun n3=>⟨fun k=>?_,fun n4=>⟨fun k=>?_,fun n5=>⟨fun k=>?_,fun n14=>⟨fun k=>?_,fun n15=>⟨fun k=>?_,fun n16=>⟨fun k=>?_,fun n10=>?_⟩⟩⟩⟩⟩⟩⟩
 ·have hp:ptN n=n.ki.flatMap (BS [3,4,5]):=by rw[Ge,if_pos k]
  rw[hp] at hlen ⊢
  have len:∀i,(EQ [3,4,5] lv n.ki i).length<=3500000000000:=fun i=>Nat.le_trans (Bad _ _ _ _) hlen
  intro t
  refine⟨⟨0,t,Nat.zero_le _,⟨rfl,rfl,fun i hi=>absurd hi (by omega),rfl⟩,rfl⟩,?_⟩
  rintro ⟨i,t1⟩ hi
  simp only at hi ⊢
  refine⟨fun hlt=>?_,fun hge=>?_⟩
  ·have hi':i<n.ki.length:=by omega
   have:=len i
   exact⟨⟨by omega,hlt⟩,n.ki.getD i default,EQ [3,4,5] lv n.ki i,Es (kq i hi').1 h0 (kq i hi').2 (by decide) (by omega) rfl (fun _ _=>rfl) (p3 _ _ _),BiF hi' hkl (i3 _ _ _)⟩
  ·refine CY ?_
   unfold EQ
   rw[show i=n.ki.length by omega,List.take_length]
 ·have hL:n.ki.length=2:=L2 (.inl k)
  have e:rlP lv (ptN n)=rlP lv (BS [16] (n.ki.getD 0 default))++rlP lv (ptN (n.ki.getD 1 default)):=by
   rw[Ge,if_neg n3,if_pos k,pg 0 (by omega),pg 1 (by omega)]
   exact EB (R0 [16] (n.ki.getD 0 default)) _ _
  have el:=congrArg List.length e
  rw[ED,List.length_append] at el
  exact⟨⟨by omega,by omega⟩,⟨by omega,by omega⟩,n.ki.getD 0 default,[],UH (kq 0 (by omega)).1 h0 (kq 0 (by omega)).2 (by decide) p1,fun y=>⟨n.ki.getD 1 default,[]++rlP lv (BS (Bk 1 fun i=>[[D.int IntKind.i64 16]].getD i []) (n.ki.getD 0 default)),Es (kq 1 (by omega)).1 h0 (kq 1 (by omega)).2 (by decide) (by rw[i1,List.nil_append];omega) rfl (fun _ _=>rfl) CR,CY (by rw[i1,IC,e,List.nil_append])⟩⟩
 ·have hL:n.ki.length=3:=L3 (.inl k)
  have e:rlP lv (ptN n)=rlP lv (BS [4,5] (n.ki.getD 1 default))++(rlP lv (BS [16] (n.ki.getD 0 default))++rlP lv (ptN (n.ki.getD 2 default))):=by
   rw[Ge,if_neg n3,if_neg n4,if_pos k,pg 0 (by omega),pg 1 (by omega),pg 2 (by omega)]
   exact (EB (R0 [4,5] (n.ki.getD 1 default)) _ _).trans (congrArg (_++·) (EB (R0 [16] (n.ki.getD 0 default)) _ _))
  have el:=congrArg List.length e
  rw[ED,List.length_append,List.length_append] at el
  exact⟨⟨by omega,by omega⟩,⟨by omega,by omega⟩,⟨by omega,by omega⟩,n.ki.getD 1 default,[],UH (kq 1 (by omega)).1 h0 (kq 1 (by omega)).2 (by decide) p2,fun y=>⟨n.ki.getD 0 default,[]++rlP lv (BS (Bk 2 fun i=>[[D.int IntKind.i64 4],[D.int IntKind.i64 5]].getD i []) (n.ki.getD 1 default)),Es (kq 0 (by omega)).1 h0 (kq 0 (by omega)).2 (by decide) (by rw[i2,List.nil_append];omega) rfl (fun _ _=>rfl) p1,
   fun y2=>⟨n.ki.getD 2 default,[]++rlP lv (BS (Bk 2 fun i=>[[D.int IntKind.i64 4],[D.int IntKind.i64 5]].getD i []) (n.ki.getD 1 default))++rlP lv (BS (Bk 1 fun i=>[[D.int IntKind.i64 16]].getD i []) (n.ki.getD 0 default)),Es (kq 2 (by omega)).1 h0 (kq 2 (by omega)).2 (by decide) (by rw[i2,i1,List.nil_append,List.length_append];omega) rfl (fun _ _=>rfl) CR,CY (by rw[i2,i1,IC,e,List.nil_append,List.append_assoc])⟩⟩⟩
 ·have hL:n.ki.length=2:=L2 (.inr k)
  have e:rlP lv (ptN n)=rlP lv (BS [16] (n.ki.getD 1 default))++rlP lv (ptN (n.ki.getD 0 default)):=by
   rw[Ge,if_neg n3,if_neg n4,if_neg n5,if_neg (by omega),if_pos k,pg 0 (by omega),pg 1 (by omega)]
   exact EB (R0 [16] (n.ki.getD 1 default)) _ _
  have el:=congrArg List.length e
  rw[ED,List.length_append] at el
  exact⟨⟨by omega,by omega⟩,⟨by omega,by omega⟩,n.ki.getD 1 default,[],UH (kq 1 (by omega)).1 h0 (kq 1 (by omega)).2 (by decide) p1,fun y=>⟨n.ki.getD 0 default,[]++rlP lv (BS (Bk 1 fun i=>[[D.int IntKind.i64 16]].getD i []) (n.ki.getD 1 default)),Es (kq 0 (by omega)).1 h0 (kq 0 (by omega)).2 (by decide) (by rw[i1,List.nil_append];omega) rfl (fun _ _=>rfl) CR,CY (by rw[i1,IC,e,List.nil_append])⟩⟩
 ·have hL:n.ki.length=3:=L3 (.inr k)
  have e:rlP lv (ptN n)=rlP lv (BS [16] (n.ki.getD 1 default))++(rlP lv (ptN (n.ki.getD 0 default))++rlP lv (BS [3,4,5,16,14,15] (n.ki.getD 2 default))):=by
   rw[Ge,if_neg n3,if_neg n4,if_neg n5,if_neg (by omega),if_neg n14,if_pos k,pg 0 (by omega),pg 1 (by omega),pg 2 (by omega)]
   exact (EB (R0 [16] (n.ki.getD 1 default)) _ _).trans (congrArg (_++·) (EB (Wp _) _ _))
  have el:=congrArg List.length e
  rw[ED,List.length_append,List.length_append] at el
  exact⟨⟨by omega,by omega⟩,⟨by omega,by omega⟩,⟨by omega,by omega⟩,n.ki.getD 1 default,[],UH (kq 1 (by omega)).1 h0 (kq 1 (by omega)).2 (by decide) p1,fun y=>⟨n.ki.getD 0 default,[]++rlP lv (BS (Bk 1 fun i=>[[D.int IntKind.i64 16]].getD i []) (n.ki.getD 1 default)),Es (kq 0 (by omega)).1 h0 (kq 0 (by omega)).2 (by decide) (by rw[i1,List.nil_append];omega) rfl (fun _ _=>rfl) CR,
   fun y2=>⟨n.ki.getD 2 default,[]++rlP lv (BS (Bk 1 fun i=>[[D.int IntKind.i64 16]].getD i []) (n.ki.getD 1 default))++rlP lv (BS (Bk 0 fun _=>[]) (n.ki.getD 0 default)),Es (kq 2 (by omega)).1 h0 (kq 2 (by omega)).2 (by decide) (by rw[i1,IC,List.nil_append,List.length_append];omega) rfl (fun _ _=>rfl) p6,CY (by rw[i1,i6,IC,Bl9,e,List.nil_append,List.append_assoc])⟩⟩⟩
 ·have hp:ptN n=n.ki.flatMap (BS [16,4,5]):=by rw[Ge,if_neg n3,if_neg n4,if_neg n5,if_pos k,BjY]
  rw[hp] at hlen ⊢
  have len:∀i,(EQ [16,4,5] lv n.ki i).length<=3500000000000:=fun i=>Nat.le_trans (Bad _ _ _ _) hlen
  intro t
  refine⟨⟨0,t,Nat.zero_le _,⟨rfl,rfl,fun i hi=>absurd hi (by omega),rfl⟩,rfl⟩,?_⟩
  rintro ⟨i,t1⟩ hi
  simp only at hi ⊢
  refine⟨fun hlt=>?_,fun hge=>?_⟩
  ·have hi':i<n.ki.length:=by omega
   have:=len i
   exact⟨⟨by omega,hlt⟩,n.ki.getD i default,EQ [16,4,5] lv n.ki i,Es (kq i hi').1 h0 (kq i hi').2 (by decide) (by omega) rfl (fun _ _=>rfl) (p3 _ _ _),BiF hi' hkl (i3 _ _ _)⟩
  ·refine CY ?_
   unfold EQ
   rw[show i=n.ki.length by omega,List.take_length]
 ·have w1:IntKind.i64.wrap (lv+1)=lv+1:=Bb (by omega) (by omega)
  have e:rlP lv (ptN n)=[[123]]++rlP (lv+1) (ptB n.bo)++[[125]]:=by
   rw[Ge,if_neg n3,if_neg n4,if_neg n5,if_neg n16,if_neg n14,if_neg n15,if_pos k]
   exact congrArg ([123]::·) (EB (BoC n.bo) [.cl] (lv+1))
  have el:=congrArg List.length e
  rw[ED,List.length_append,List.length_append,List.length_cons,List.length_nil] at el
  simp only[w1]
  have rw2:=C8 (a:=1+(rlP (lv+1) (ptB n.bo)).length) (L:=[[123]]++rlP (lv+1) (ptB n.bo)) (r:=[[125]]) (F:=BM 1 (fun i=>[D.str ([[123]].getD (i-0) [])]) fun i=>[D.str ((rlP (lv+1) (ptB n.bo)).getD i [])]) (G:=fun i=>[D.str ([[125]].getD i [])]) (by rw[List.length_append];rfl) (C8 (L:=[[123]]) rfl (fun i hi=>by rw[Nat.sub_zero]) fun _ _=>rfl) fun _ _=>rfl
  rw[<- e] at rw2
  have le1:1+(rlP (lv+1) (ptB n.bo)).length+1=(rlP lv (ptN n)).length:=by rw[e,List.length_append,List.length_append];rfl
  repeat' first
   |exact Bg _
   |exact k
   |exact rw2
   |exact le1
   |refine And.intro ?_ ?_
  all_goals omega
 ·have e:rlP lv (ptN n)=[Er n]:=by
   rw[Ge,if_neg n3,if_neg n4,if_neg n5,if_neg n16,if_neg n14,if_neg n15,if_neg n10,show Er n=Bt n from if_pos hv]
   rfl
  rw[e]
  exact⟨BpX n,rfl,C8 (a:=0) (F:=fun _=>[]) (L:=[]) (r:=[Er n]) rfl (fun i hi=>absurd hi (Nat.not_lt_zero _)) fun _ _=>rfl⟩
theorem TD{n b:Nd}(hv:BV n=0)(hb:b∈BH n)(hvb:Bz b=true):BV b=0:=by
 obtain ⟨h1,h2,_⟩:=BZ.1 hv
 have:=TY n
 have:=MV n
 have:=BaO hb
 have:=US hb
 exact BZ.2 ⟨by omega,by omega,hvb⟩
theorem Bmo{n:Nd}(hv:BV n=0)(hk:n.kd=10){s:Sm}(hs:s∈n.bo):BV s.nd=0/\(s.kd=3->BV s.te=0):=by
 obtain ⟨_,_,hvn⟩:=BZ.1 hv
 have h1:=hvn
 rw[CI,Bool.and_eq_true,if_pos hk,Bool.and_eq_true] at h1
 have hb:=h1.2.2
 unfold BP at hb
 rw[Bool.and_eq_true] at hb
 obtain ⟨q1,q2⟩:=Ej hb.2 s hs
 have i1:s.nd∈BH n:=List.mem_append.2 (.inr (List.mem_flatMap.2 ⟨s,hs,by unfold Bq;split<;>simp⟩))
 refine⟨TD hv i1 q1,fun h3=>?_⟩
 have i2:s.te∈BH n:=List.mem_append.2 (.inr (List.mem_flatMap.2 ⟨s,hs,by unfold Bq;rw[if_pos h3];simp⟩))
 have hv2:Bz s.te=true:=by
  rcases q2 with ⟨_,q,_⟩ | ⟨q,_⟩
  ·exact q
  ·exact (q h3).elim
 exact TD hv i2 hv2
theorem Bpl{n:Nd}(hv:BV n=0)(ho:n.ok)(hk:n.kd=10):(ptB n.bo).length<=3500000000000:=by
 have h:=BeP hv ho
 rw[Ge,if_neg (by omega),if_neg (by omega),if_neg (by omega),if_neg (by omega),if_neg (by omega),if_neg (by omega),if_pos hk,List.length_cons,List.length_append] at h
 unfold ptB
 omega
theorem Be5(n:Nd)(hv:BV n=0)(ho:n.ok)(hn:n.sm):RPar n :=
 ⟨fun lv h0 h1=>Blu (fun b=>(BV b=0/\b.ok/\b.sm)/\SizeOf.sizeOf b<SizeOf.sizeOf n) n lv hv ho hn h0 h1 (fun b hb=>Be5 b hb.1.1 hb.1.2.1 hb.1.2.2)
  (fun b hb=>⟨⟨TD hv (BT hb) ((EK (BZ.1 hv).2.2).1 b hb),Oc ho b hb,EW hn (BT hb)⟩,Nd.size_kid hb⟩)
  (fun hk lv h0 h1=>Bdv (fun b=>(BV b=0/\b.ok/\b.sm)/\SizeOf.sizeOf b<SizeOf.sizeOf n) n.bo lv h0 h1 (Cc hn).2.2 (Bpl hv ho hk) (fun b hb=>Be5 b hb.1.1 hb.1.2.1 hb.1.2.2) fun s hs =>
   have h2:=Cm (Gy hn s hs)
   have o2:=Cq (GK ho s hs)
   have e:=Nd.size_stmt hs
   have e1:=Sm.size_te s
   have e2:=Sm.size_nd s
   have v:=Bmo hv hk hs
   ⟨⟨⟨v.1,o2.2,h2.2⟩,by omega⟩,fun h3=>⟨⟨v.2 h3,o2.1,h2.1⟩,by omega⟩⟩),Nat.le_trans (BeP hv ho) (by decide)⟩
termination_by SizeOf.sizeOf n
decreasing_by
 ·exact hb.2
 ·exact hb.2
theorem Bko(l:List Sm)(h:B2 l=0)(hl:l.length<=BC)(ho:∀s∈l,s.ok)(hs:∀s∈l,s.sm):CD 22 [gsl 34 Sm.row1 l,.int .i64 0] (ssl (rlP 0 (ptB l)) .any):=by
 have hR:=GD h
 have:=hR.hz
 refine Bdv (fun b=>BV b=0/\b.ok/\b.sm) l 0 (by omega) (by omega) hl (Nat.le_trans (TU hR ho) (by decide)) (fun b hb=>Be5 b hb.1 hb.2.1 hb.2.2) fun s hm=>?_
 obtain ⟨_,c,k3,_⟩:=UG hR hm
 exact⟨⟨c,(Cq (ho s hm)).2,(Cm (hs s hm)).2⟩,fun h3=>absurd h3 k3⟩
def Blq:Con:=fun k ds S=>match k with
 |16=>match ds with
  | [.str _,.str _]=>some (pA ds S (.bool true) True)
  |_=>none
 |17=>match ds with
  | [.int .i64 lv]=>some (pA ds S (.str (Gp lv)) (0<=lv/\lv<=100000))
  |_=>none
 |24=>match ds with
  | [.str a,.str b]=>some (pA ds S (.bool (Ef a b)) (a≠[]/\b≠[]/\a.length<=100000000000000))
  |_=>none
 |26=>match ds with
  | [.int .i64 _]=>some (pA ds S (.str [59]) True)
  |_=>none
 |_=>none
theorem BcR:ConOk Tryz.prog Blq:=by
 intro k ds S A hh
 unfold Blq at hh
 split at hh
 ·split at hh
  ·injection hh with hh;subst hh
   exact Bo fun _=>CD.at_ (BqA _ _) _
  ·cases hh
 ·split at hh
  ·injection hh with hh;subst hh
   exact Bo fun ⟨h0,h1⟩=>CD.at_ (Bqc _ h0 h1) _
  ·cases hh
 ·split at hh
  ·injection hh with hh;subst hh
   exact Bo fun ⟨h0,h1,h2⟩=>CD.at_ (Bqh _ _ h0 h1 h2) _
  ·cases hh
 ·split at hh
  ·injection hh with hh;subst hh
   exact Bo fun _=>CD.at_ (Bqr _) _
  ·cases hh
 ·cases hh
def wrO(cmp:Bool)(o last:List UInt8)(lv:Int)(y:List UInt8):List UInt8:=if y=[59] then o++(bif cmp then [59] else Gp lv) else o++blB cmp last y++y
def wrL(y:List UInt8):List UInt8:=if y=[59] then [] else y
def wrV(lv:Int)(y:List UInt8):Int:=if y=[123] then lv+1 else if y=[125] then lv-1 else lv
def wrC(k kt x t:Nat)(o last:List UInt8)(lv:Int):St:=⟨[(k,x,.bldx 52 5 (bsl o (.tok kt t)) [.str last,.int .i64 lv])],[(kt,t)]⟩
def sWr(bl ln:Nat)(cmp:Bool)(k kt x t:Nat)(o last:List UInt8)(lv:Int)(y:List UInt8):FnSpec where
 β:=Unit
 α:=Nat
 args:=fun _=>[.ref k x 0,.str y,.fn (.func bl) [] [],.fn (.func ln) [] []]
 st:=fun _=>wrC k kt x t o last lv
 pre:=fun _=>True
 post:=fun _ _=>True
 res:=fun _ _=>.ret (.tup [])
 out:=fun _ t'=>wrC k kt x t' (wrO cmp o last lv y) (wrL y) (wrV lv y)
theorem Gw(t x:Nat)(l:List UInt8):Oz [(0,t)] x x 52 5 0 t l.length (fun i=>[.int .u8 ((l.getD i 0).toNat:Int)]):=⟨rfl,rfl,rfl,rfl,IN l⟩
theorem wA{t x:Nat}{o y V:List UInt8}{Q:Prop}(ho:o.length+y.length<=100000000000000)(hV:o++[32]++y=V)(q:Q):((Oz [(0,t)] x x 52 5 0 t o.length fun i=>[D.int .u8 ((o.getD i 0).toNat:Int)])/\((0:Int)<=32/\(32:Int)<=255)/\o.length+1<=140737488355328)/\∀t2:Nat,((Oz [(0,t2)] x x 52 5 0 t2 (o++[32]).length fun i=>[D.int .u8 (((o++[32]).getD i 0).toNat:Int)])/\(o++[32]).length+y.length<=140737488355328)/\∀t3:Nat,∃t4:Nat,(((o++[32]++y).length=V.length/\(∀i,i<(o++[32]++y).length->[D.int .u8 (((o++[32]++y).getD i 0).toNat:Int)]=[D.int .u8 ((V.getD i 0).toNat:Int)])/\t3=t4)/\Q)/\t3=t4:=by
 subst hV
 exact⟨⟨Gw t x o,⟨by omega,by omega⟩,by omega⟩,fun t2=>⟨⟨Gw t2 x _,by simp only[List.length_append,List.length_cons,List.length_nil];omega⟩,fun t3=>⟨t3,⟨⟨rfl,fun _ _=>rfl,rfl⟩,q⟩,rfl⟩⟩⟩
theorem wB{t x:Nat}{o y V:List UInt8}{Q:Prop}(ho:o.length+y.length<=100000000000000)(hV:o++y=V)(q:Q):((Oz [(0,t)] x x 52 5 0 t o.length fun i=>[D.int .u8 ((o.getD i 0).toNat:Int)])/\o.length+y.length<=140737488355328)/\∀t3:Nat,∃t4:Nat,(((o++y).length=V.length/\(∀i,i<(o++y).length->[D.int .u8 (((o++y).getD i 0).toNat:Int)]=[D.int .u8 ((V.getD i 0).toNat:Int)])/\t3=t4)/\Q)/\t3=t4:=by
 subst hV
 exact⟨⟨Gw t x o,by omega⟩,fun t3=>⟨t3,⟨⟨rfl,fun _ _=>rfl,rfl⟩,q⟩,rfl⟩⟩
noncomputable def Ewr:Senv:={ EC (Bf2 Blq) 71 4 [8,24,34,57] (fun id=>match id with | 1=>([0,1,2,3,4,5,6,7,8,9],[8,9]) | _=>([],[])) with mg:=fun _=>2 }
def QmD(a b:Nat)(c:List UInt8):Prop:=Oz [(N0,a)] b b (52:Nat) (5:Nat) N0 a (LN c) fun i=>[ZB (BI c i)]
def QmE(a:List UInt8):List UInt8:=bytesOf (LN a) fun i=>[ZB (BI a i)]
def QLg(a:List UInt8)(b:Int):List UInt8:=QmE a++Gp b
def QLh(a:List UInt8)(b:Int):Nat:=LN (QLg a b)
def QmF(a b:List UInt8)(c:Int)(d:List UInt8)(e:Nat):List D:=[ZB (BI (wrO false a b c d) e)]
def QmG(a b:Nat)(c:List UInt8):Prop:=(QmD a b c/\(Z0<=32/\(32:Int)<=255)/\LN c+N1<=140737488355328)/\True
def QLi(a:List UInt8):List UInt8:=QmE a++[Cu (32:Int)]
def QmH(a:List UInt8):Nat:=LN (QLi a)
def QLj(a:List UInt8)(b:Nat):List D:=[ZB (BI (QLi a) b)]
def QmI(a b:Nat)(c d:List UInt8):Prop:=((Oz [(N0,a)] b b (52:Nat) (5:Nat) N0 a (QmH c) fun i=>QLj c i)/\QmH c+LN d<=140737488355328)/\True
def QLk(a b:List UInt8):List UInt8:=(bytesOf (QmH a) fun i=>QLj a i)++b
def QLl(a b:List UInt8):Nat:=LN (QLk a b)
def QmJ(a b c:List UInt8)(d:Int)(e f:Nat):Prop:=QLl a b=LN (wrO false a c d b)/\(∀(i:Nat),i<QLl a b->[ZB (BI (QLk a b) i)]=QmF a c d b i)/\e=f
def QmK(a:List UInt8):Prop:=a=wrL a
def QLm(a:List UInt8)(b:Int):Prop:=QmK a/\IntKind.wrap IntKind.i64 (b+Z1)=wrV b a/\True
def QmL(a b:Nat)(c d:List UInt8):Prop:=(QmD a b c/\LN c+LN d<=140737488355328)/\True
def QLn(a b:List UInt8):List UInt8:=QmE a++b
def QLo(a b:List UInt8):Nat:=LN (QLn a b)
def QmM(a b c:List UInt8)(d:Int)(e f:Nat):Prop:=QLo a b=LN (wrO false a c d b)/\(∀(i:Nat),i<QLo a b->[ZB (BI (QLn a b) i)]=QmF a c d b i)/\e=f
def QLp(a:List UInt8)(b:Int):Prop:=QmK a/\IntKind.wrap IntKind.i64 (b-Z1)=wrV b a/\True
def QLq(a:List UInt8)(b:Int):Prop:=QmK a/\b=wrV b a/\True
theorem Bo2(x t : Nat)(o last y : List UInt8)(lv : Int)(hy : y≠[])(h0 : 0<=lv)(h1 : lv<=90000)(ho : o.length+y.length<=100000000000000) :
  ACalls Tryz.prog 15 ((sWr 16 17 false 0 0 x t o last lv y).args ()) ((sWr 16 17 false 0 0 x t o last lv y).st ()) (SpecR (sWr 16 17 false 0 0 x t o last lv y) ()):=by
 refine Bh (A:=sWr 16 17 false 0 0 x t o last lv y) (x:=()) (E:=Ewr) (eOk (Rl BcR) rfl) Tryz.func15 rfl (by kernel_rfl) rfl (by simp[sWr,Ewr,EC,E0]) ?_
 refine Bj (T :=
  ifB (y==[(59:UInt8)]) (SM x/\∃(x_1:Unit),(Z0<=lv/\lv<=100000)/\∀(y_1:Unit),True->((QmD t x o/\LN o+LN (Gp lv)<=140737488355328)/\True)/\∀(y_2:Nat),True->SM x/\True/\∃(y_3:Nat),True/\True/\(SM x/\((QLh o lv=LN (wrO false o last lv y)/\(∀(i:Nat),i<QLh o lv->[ZB (BI (QLg o lv) i)]=QmF o last lv y i)/\y_2=y_3)/\Cw (List UInt8) [] (wrL y)/\lv=wrV lv y/\True)/\True)/\y_2=y_3/\True) (ifB (y==[(123:UInt8)]) (SM x/\SM x/\SM x/\ifB (last != []) (SM x/\∃(x_1:Unit),True/\∀(y_1:Unit),True->QmG t x o/\∀(y_2:Nat),True->QmI y_2 x o y/\∀(y_3:Nat),True->SM x/\True/\∃(y_4:Nat),True/\True/\(SM x/\(QmJ o y last lv y_3 y_4/\QLm y lv)/\True)/\y_3=y_4/\True) (QmL t x o y/\∀(y_1:Nat),True->SM x/\True/\∃(y_2:Nat),True/\True/\(SM x/\(QmM o y last lv y_1 y_2/\QLm y lv)/\True)/\y_1=y_2/\True)) (ifB (y==[(125:UInt8)]) (SM x/\SM x/\SM x/\ifB (last != []) (SM x/\∃(x_1:Unit),True/\∀(y_1:Unit),True->QmG t x o/\∀(y_2:Nat),True->QmI y_2 x o y/\∀(y_3:Nat),True->SM x/\True/\∃(y_4:Nat),True/\True/\(SM x/\(QmJ o y last lv y_3 y_4/\QLp y lv)/\True)/\y_3=y_4/\True) (QmL t x o y/\∀(y_1:Nat),True->SM x/\True/\∃(y_2:Nat),True/\True/\(SM x/\(QmM o y last lv y_1 y_2/\QLp y lv)/\True)/\y_1=y_2/\True)) (SM x/\ifB (last != []) (SM x/\∃(x_1:Unit),True/\∀(y_1:Unit),True->QmG t x o/\∀(y_2:Nat),True->QmI y_2 x o y/\∀(y_3:Nat),True->SM x/\True/\∃(y_4:Nat),True/\True/\(SM x/\(QmJ o y last lv y_3 y_4/\QLq y lv)/\True)/\y_3=y_4/\True) (QmL t x o y/\∀(y_1:Nat),True->SM x/\True/\∃(y_2:Nat),True/\True/\(SM x/\(QmM o y last lv y_1 y_2/\QLq y lv)/\True)/\y_1=y_2/\True))))) (by kernel_rfl) ?_
 delta BI LN N0 N1 SM U0 Z0 Z1 ZB QmD QmE QLk QLl QmJ QmK QLm QmL QLn QLo QmM QLp QLg QLq QLh QmF QmG QLi QmH QLj QmI
 simp only[eq_self,ne_eq,implies_true,Ba,Int.toNat_natCast,Bf,Bc,decide_eq_true_eq,decide_eq_false_iff_not,true_and,and_true,beq_iff_eq,bne_iff_ne,bne_eq_false_iff_eq,beq_eq_false_iff_ne,Bool.not_eq_true',Bool.not_eq_false',exists_const,forall_const,Prod.exists]
 have e32:Cu 32=32:=rfl
 simp only[CK,e32]
 have hO0:y=[59]->o++Gp lv=wrO false o last lv y:=fun e=>by rw[wrO,if_pos e];rfl
 have hO1:¬y=[59]->¬last=[]->o++[32]++y=wrO false o last lv y:=fun e h=>by
  rw[wrO,if_neg e,blB]
  cases last with
  |nil=>exact absurd rfl h
  |cons a b=>rfl
 have hO2:¬y=[59]->last=[]->o++y=wrO false o last lv y:=fun e h=>by
  rw[wrO,if_neg e,blB,h]
  exact congrArg (·++y) (List.append_nil o).symm
 have hL:¬y=[59]->y=wrL y:=fun e=>by rw[wrL,if_neg e]
 have hg:(Gp lv).length<=200001:=by unfold Gp;rw[List.length_cons,List.length_replicate];omega
 have v1:y=[123]->IntKind.i64.wrap (lv+1)=wrV lv y:=fun e=>by rw[wrV,if_pos e,Bb (by omega) (by omega)]
 have v2:¬y=[123]->y=[125]->IntKind.i64.wrap (lv-1)=wrV lv y:=fun n e=>by rw[wrV,if_neg n,if_pos e,Bb (by omega) (by omega)]
 have v3:¬y=[123]->¬y=[125]->lv=wrV lv y:=fun n e=>by rw[wrV,if_neg n,if_neg e]
 refine⟨fun e=>⟨⟨h0,by omega⟩,⟨Gw t x o,by omega⟩,fun t2=>⟨t2,⟨⟨by rw[hO0 e],fun i _=>by rw[hO0 e],rfl⟩,?_,?_⟩,rfl⟩⟩,fun ne=>⟨fun e1=>⟨fun h=>wA ho (hO1 ne h) ⟨hL ne,v1 e1⟩,fun h=>wB ho (hO2 ne h) ⟨hL ne,v1 e1⟩⟩,fun n1=>⟨fun e2=>⟨fun h=>wA ho (hO1 ne h) ⟨hL ne,v2 n1 e2⟩,fun h=>wB ho (hO2 ne h) ⟨hL ne,v2 n1 e2⟩⟩,fun n2=>⟨fun h=>wA ho (hO1 ne h) ⟨hL ne,v3 n1 n2⟩,fun h=>wB ho (hO2 ne h) ⟨hL ne,v3 n1 n2⟩⟩⟩⟩⟩
 ·rw[wrL,if_pos e]
 ·rw[e];rfl
def QmN(a b:Nat)(c:List UInt8):Prop:=Oz [(N0,a)] b b (52:Nat) (5:Nat) N0 a (LN c) fun i=>[ZB (BI c i)]
def QmO(a:List UInt8):List UInt8:=bytesOf (LN a) fun i=>[ZB (BI a i)]
def QLr(a:List UInt8):List UInt8:=QmO a++[59]
def QLs(a:List UInt8):Nat:=LN (QLr a)
def QmP(a b:List UInt8)(c:Int)(d:List UInt8)(e:Nat):List D:=[ZB (BI (wrO true a b c d) e)]
def QmQ(a b:List UInt8):Prop:=a≠[]/\b≠[]/\LN a<=100000000000000
def QmR(a b:Nat)(c:List UInt8):Prop:=(QmN a b c/\(Z0<=32/\(32:Int)<=255)/\LN c+N1<=140737488355328)/\True
def QLt(a:List UInt8):List UInt8:=QmO a++[Cu (32:Int)]
def QmS(a:List UInt8):Nat:=LN (QLt a)
def QLu(a:List UInt8)(b:Nat):List D:=[ZB (BI (QLt a) b)]
def QmT(a b:Nat)(c d:List UInt8):Prop:=((Oz [(N0,a)] b b (52:Nat) (5:Nat) N0 a (QmS c) fun i=>QLu c i)/\QmS c+LN d<=140737488355328)/\True
def QLv(a b:List UInt8):List UInt8:=(bytesOf (QmS a) fun i=>QLu a i)++b
def QLw(a b:List UInt8):Nat:=LN (QLv a b)
def QmU(a b c:List UInt8)(d:Int)(e f:Nat):Prop:=QLw a b=LN (wrO true a c d b)/\(∀(i:Nat),i<QLw a b->[ZB (BI (QLv a b) i)]=QmP a c d b i)/\e=f
def QmV(a:List UInt8):Prop:=a=wrL a
def QLx(a:List UInt8)(b:Int):Prop:=QmV a/\IntKind.wrap IntKind.i64 (b+Z1)=wrV b a/\True
def QmW(a b:Nat)(c d:List UInt8):Prop:=(QmN a b c/\LN c+LN d<=140737488355328)/\True
def QLy(a b:List UInt8):List UInt8:=QmO a++b
def QLz(a b:List UInt8):Nat:=LN (QLy a b)
def QmX(a b c:List UInt8)(d:Int)(e f:Nat):Prop:=QLz a b=LN (wrO true a c d b)/\(∀(i:Nat),i<QLz a b->[ZB (BI (QLy a b) i)]=QmP a c d b i)/\e=f
def QLA(a b:Nat)(c d e:List UInt8)(f:Int):Prop:=QmW a b c d/\∀(y:Nat),True->SM b/\True/\∃(y_1:Nat),True/\True/\(SM b/\(QmX c d e f y y_1/\QLx d f)/\True)/\y=y_1/\True
def QLB(a:List UInt8)(b:Int):Prop:=QmV a/\IntKind.wrap IntKind.i64 (b-Z1)=wrV b a/\True
def QLC(a b:Nat)(c d e:List UInt8)(f:Int):Prop:=QmW a b c d/\∀(y:Nat),True->SM b/\True/\∃(y_1:Nat),True/\True/\(SM b/\(QmX c d e f y y_1/\QLB d f)/\True)/\y=y_1/\True
def QLD(a:List UInt8)(b:Int):Prop:=QmV a/\b=wrV b a/\True
def QLE(a b:Nat)(c d e:List UInt8)(f:Int):Prop:=QmW a b c d/\∀(y:Nat),True->SM b/\True/\∃(y_1:Nat),True/\True/\(SM b/\(QmX c d e f y y_1/\QLD d f)/\True)/\y=y_1/\True
theorem Bpy(x t : Nat)(o last y : List UInt8)(lv : Int)(hy : y≠[])(h0 : 0<=lv)(h1 : lv<=90000)(ho : o.length+y.length<=100000000000000)(hla : last.length<=100000000000000) :
  ACalls Tryz.prog 15 ((sWr 24 26 true 0 0 x t o last lv y).args ()) ((sWr 24 26 true 0 0 x t o last lv y).st ()) (SpecR (sWr 24 26 true 0 0 x t o last lv y) ()):=by
 refine Bh (A:=sWr 24 26 true 0 0 x t o last lv y) (x:=()) (E:=Ewr) (eOk (Rl BcR) rfl) Tryz.func15 rfl (by kernel_rfl) rfl (by simp[sWr,Ewr,EC,E0]) ?_
 refine Bj (T :=
  ifB (y==[(59:UInt8)]) (SM x/\∃(x_1:Unit),True/\∀(y_1:Unit),True->((QmN t x o/\LN o+N1<=140737488355328)/\True)/\∀(y_2:Nat),True->SM x/\True/\∃(y_3:Nat),True/\True/\(SM x/\((QLs o=LN (wrO true o last lv y)/\(∀(i:Nat),i<QLs o->[ZB (BI (QLr o) i)]=QmP o last lv y i)/\y_2=y_3)/\Cw (List UInt8) [] (wrL y)/\lv=wrV lv y/\True)/\True)/\y_2=y_3/\True) (ifB (y==[(123:UInt8)]) (SM x/\SM x/\SM x/\ifB (last != []) (SM x/\∃(x_1:Unit),QmQ last y/\∀(y_1:Unit),True->ifB (Ef last y) (QmR t x o/\∀(y_2:Nat),True->QmT y_2 x o y/\∀(y_3:Nat),True->SM x/\True/\∃(y_4:Nat),True/\True/\(SM x/\(QmU o y last lv y_3 y_4/\QLx y lv)/\True)/\y_3=y_4/\True) (QLA t x o y last lv)) (QLA t x o y last lv)) (ifB (y==[(125:UInt8)]) (SM x/\SM x/\SM x/\ifB (last != []) (SM x/\∃(x_1:Unit),QmQ last y/\∀(y_1:Unit),True->ifB (Ef last y) (QmR t x o/\∀(y_2:Nat),True->QmT y_2 x o y/\∀(y_3:Nat),True->SM x/\True/\∃(y_4:Nat),True/\True/\(SM x/\(QmU o y last lv y_3 y_4/\QLB y lv)/\True)/\y_3=y_4/\True) (QLC t x o y last lv)) (QLC t x o y last lv)) (SM x/\ifB (last != []) (SM x/\∃(x_1:Unit),QmQ last y/\∀(y_1:Unit),True->ifB (Ef last y) (QmR t x o/\∀(y_2:Nat),True->QmT y_2 x o y/\∀(y_3:Nat),True->SM x/\True/\∃(y_4:Nat),True/\True/\(SM x/\(QmU o y last lv y_3 y_4/\QLD y lv)/\True)/\y_3=y_4/\True) (QLE t x o y last lv)) (QLE t x o y last lv))))) (by kernel_rfl) ?_
 delta BI LN N0 N1 SM U0 Z0 Z1 ZB QmN QmO QLr QLs QmP QmQ QmR QLt QmS QLu QmT QLv QLw QmU QmV QLx QmW QLy QLz QmX QLA QLB QLC QLD QLE
 simp only[eq_self,ne_eq,implies_true,Ba,Int.toNat_natCast,Bf,Bc,decide_eq_true_eq,decide_eq_false_iff_not,true_and,and_true,beq_iff_eq,bne_iff_ne,bne_eq_false_iff_eq,beq_eq_false_iff_ne,Bool.not_eq_true',Bool.not_eq_false',exists_const,forall_const,Prod.exists]
 have e32:Cu 32=32:=rfl
 simp only[CK,e32]
 have hO0:y=[59]->o++[59]=wrO true o last lv y:=fun e=>by rw[wrO,if_pos e];rfl
 have hO1:¬y=[59]->¬last=[]->Ef last y=true->o++[32]++y=wrO true o last lv y:=fun e h hn=>by
  rw[wrO,if_neg e,blB,hn]
  cases last with
  |nil=>exact absurd rfl h
  |cons a b=>rfl
 have hO2:¬y=[59]->last=[]->o++y=wrO true o last lv y:=fun e h=>by
  rw[wrO,if_neg e,blB,h]
  exact congrArg (·++y) (List.append_nil o).symm
 have hO3:¬y=[59]->Ef last y=false->o++y=wrO true o last lv y:=fun e h=>by
  rw[wrO,if_neg e,blB,h]
  simp
 have hL:¬y=[59]->y=wrL y:=fun e=>by rw[wrL,if_neg e]
 have v1:y=[123]->IntKind.i64.wrap (lv+1)=wrV lv y:=fun e=>by rw[wrV,if_pos e,Bb (by omega) (by omega)]
 have v2:¬y=[123]->y=[125]->IntKind.i64.wrap (lv-1)=wrV lv y:=fun n e=>by rw[wrV,if_neg n,if_pos e,Bb (by omega) (by omega)]
 have v3:¬y=[123]->¬y=[125]->lv=wrV lv y:=fun n e=>by rw[wrV,if_neg n,if_neg e]
 have hy':¬y=[]:=hy
 refine⟨fun e=>⟨⟨Gw t x o,by omega⟩,fun t2=>⟨t2,⟨⟨by rw[hO0 e],fun i _=>by rw[hO0 e],rfl⟩,?_,?_⟩,rfl⟩⟩,fun ne=>⟨fun e1=>⟨fun h=>⟨⟨h,hy',hla⟩,fun hn=>wA ho (hO1 ne h hn) ⟨hL ne,v1 e1⟩,fun hn=>wB ho (hO3 ne hn) ⟨hL ne,v1 e1⟩⟩,fun h=>wB ho (hO2 ne h) ⟨hL ne,v1 e1⟩⟩,fun n1=>⟨fun e2=>⟨fun h=>⟨⟨h,hy',hla⟩,fun hn=>wA ho (hO1 ne h hn) ⟨hL ne,v2 n1 e2⟩,fun hn=>wB ho (hO3 ne hn) ⟨hL ne,v2 n1 e2⟩⟩,fun h=>wB ho (hO2 ne h) ⟨hL ne,v2 n1 e2⟩⟩,fun n2=>⟨fun h=>⟨⟨h,hy',hla⟩,fun hn=>wA ho (hO1 ne h hn) ⟨hL ne,v3 n1 n2⟩,fun hn=>wB ho (hO3 ne hn) ⟨hL ne,v3 n1 n2⟩⟩,fun h=>wB ho (hO2 ne h) ⟨hL ne,v3 n1 n2⟩⟩⟩⟩⟩
 ·rw[wrL,if_pos e]
 ·rw[e];rfl
theorem BnU(bl ln : Nat)(cmp : Bool)(k kt x t : Nat){o last y : List UInt8}{lv : Int}(h : ACalls Tryz.prog 15 ((sWr bl ln cmp 0 0 x t o last lv y).args ()) ((sWr bl ln cmp 0 0 x t o last lv y).st ()) (SpecR (sWr bl ln cmp 0 0 x t o last lv y) ())) :
  ACalls Tryz.prog 15 ((sWr bl ln cmp k kt x t o last lv y).args ()) ((sWr bl ln cmp k kt x t o last lv y).st ()) (SpecR (sWr bl ln cmp k kt x t o last lv y) ()):=by
 refine h.respec (A':=sWr bl ln cmp k kt x t o last lv y) (x':=()) ?_ ?_ fun y _=>⟨y,trivial,?_,?_⟩
 ·simp[sWr,BD,Bn,chk,Ba]
 ·simp[sWr,wrC,Bbw,RF,BbT,GF,BD,Bn,chk,bsl,BF,OL,Ba,kEq]
 ·simp[sWr,M9,Bp]
 ·simp[sWr,wrC,Bbw,RF,BbT,GF,BD,Bn,chk,bsl,BF,OL,Ba,kEq]<;>try rfl
end
end Go.Proofs.YtnlplccjbojloaaGreatDoor
