/- Functions of the given program and what each of them computes: lemmas towards the statement, their conditions stated with each of them. -/
import Derived.Test.YtnlplccjbojloaaGreatDoorS5
namespace Go.Proofs.YtnlplccjbojloaaGreatDoor
open Go Go.Ab
set_option maxRecDepth 100000
noncomputable section
theorem BfL(ps:List Pt):ps.length<=IS ps:=by
 induction ps with
 |nil=>simp
 |cons p r ih =>
  unfold IS at ih ⊢
  rw[List.map_cons,List.sum_cons,List.length_cons]
  omega
def RPar(n:Nd):Prop:=(∀lv:Int,0<=lv->lv+szN n<=100000->CD 70 [.agg n.row2,.int .i64 lv] (ssl (rlP lv (ptN n)) .any))/\(ptN n).length<=4000000000000
theorem Bm8(ks:List Int)(n:Nd)(lv:Int):rlP lv (BR ks n)=if ks.contains n.kd=true then [40]::(rlP lv (ptN n)++[[41]]) else rlP lv (ptN n):=by
 unfold BR ptW
 split
 ·have e:Pt.tx [40]::(ptN n++[.tx [41]])=[.tx [40]]++(ptN n++[.tx [41]]):=rfl
  rw[e,EG (E1 rfl),EG (Wr n)]
  rfl
 ·rfl
theorem C8{a : Nat}{F G : Nat -> List D}{L r : List (List UInt8)}(ha : a=L.length)(hF : ∀i, i<a -> F i=[D.str (L.getD i [])])(hG : ∀i, i<r.length -> G i=[D.str (r.getD i [])]) :
  ∀i,i<a+r.length->BN a F G i=[D.str ((L++r).getD i [])]:=by
 intro i hi
 subst ha
 simp only[BN]
 split
 ·rename_i h
  rw[hF i h]
  simp[List.getD_eq_getElem?_getD,List.getElem?_append_left h]
 ·rename_i h
  rw[hG _ (by omega)]
  simp[List.getD_eq_getElem?_getD,List.getElem?_append_right (Nat.le_of_not_lt h)]
theorem Blm{ks:List Int}{k:Int}{i:Nat}(h:i<ks.length)(e:k=ks.getD i 0):ks.contains k=true:=by
 rw[List.contains_eq_mem,decide_eq_true_eq,e,List.getD_eq_getElem?_getD,List.getElem?_eq_getElem h]
 exact List.getElem_mem h
theorem Bn4{ks:List Int}{k:Int}(h:∀j,j<ks.length->¬k=ks.getD j 0):ks.contains k=false:=by
 rw[List.contains_eq_mem,decide_eq_false_iff_not]
 intro hm
 obtain ⟨j,hj,e⟩:=List.getElem_of_mem hm
 refine h j hj ?_
 rw[List.getD_eq_getElem?_getD,List.getElem?_eq_getElem hj]
 exact e.symm
def Bl1(n:Nd):Con:=fun k ds S=>match k with
 |70=>match ds with
  | [_,.int .i64 lv]=>some (pA ds S (ssl (rlP lv (ptN n)) .any) (isN n ds [.int .i64 lv]/\0<=lv/\lv+szN n<=100000))
  |_=>none
 |_=>none
theorem BcI{n:Nd}(h:RPar n):ConOk Tryz.prog (Bl1 n):=by
 intro k ds S A hh
 unfold Bl1 at hh
 split at hh
 ·split at hh
  ·injection hh with hh;subst hh
   exact Bo fun ⟨e,h0,h1⟩=>CD.at_ (CD.isN (h.1 _ h0 h1) e) _
  ·cases hh
 ·cases hh
def Bk5(L:List (List UInt8))(n:Nd)(ks:List Int)(lv:Int)(t:Nat):FnSpec where
 β:=Unit
 α:=Nat
 args:=fun _=>[ssl L (.tok 0 t),.agg n.row1,isl ks .any,.int .i64 lv]
 st:=fun _=>⟨[],[(0,t)]⟩
 pre:=fun _=>True
 post:=fun _ _=>True
 res:=fun _ t'=>.ret (ssl (L++rlP lv (BR ks n)) (.tok 0 t'))
 out:=fun _ t'=>⟨[],[(0,t')]⟩
noncomputable def Ead(n:Nd)(ks:List Int):Senv:={ EC (Bl1 n) 39 4 [5,8,9,13,22] (fun id=>match id with | 4=>([0,1,2,3,4,5,6],[]) | _=>([],[])) with
 mg:=fun _=>2
 ann:=fun b _ S=>match b with
  |0=>some { slots:=[9],keep:=[0,1,2,3,5],α:=Nat,st:=fun i=>([.int .i64 i],S),inv:=fun i=>i<=ks.length/\∀j,j<i->n.kd≠ks.getD j 0,mu:=fun i=>ks.length-i }
  |_=>none }
def QeN(a:Nd):Int:=Nd.kd a
def QlG(a:Nat)(b:List Int)(c:Nd):Prop:=a<=LN b/\∀(j:Nat),j<a->QeN c≠GI b j
def QHE(a:Nd):Int:=Nd.at_ a
def QHF(a:Nd):Int:=Nd.cl a
def QHG(a:Nd):List UInt8:=Nd.tx a
def QHH(a:Nd):Int:=Nd.pr a
def QHI(a:Nd):Int:=Nd.op a
def QeO(a:Nd):Arr:=Nd.va a
def QHJ(a:Nd):Int:=Arr.k (QeO a)
def QHK(a:Nd):List Int:=Arr.sh (QeO a)
def QlH(a:Nd):Nat:=LN (QHK a)
def QHL(a:Nd)(b:Nat):List D:=[ZI (GI (QHK a) b)]
def QHM(a:Nd):List Int:=Arr.nu (QeO a)
def QlI(a:Nd):Nat:=LN (QHM a)
def QHN(a:Nd)(b:Nat):List D:=[ZI (GI (QHM a) b)]
def QHO(a:Nd):List Arr:=Arr.it (QeO a)
def QlJ(a:Nd):Nat:=LN (QHO a)
def QHP:Arr:=DA
def QHQ(a:Nd)(b:Nat):List D:=Arr.row (List.getD (QHO a) b QHP)
def QlK(a:Nd):Nat:=LN (Nd.ki a)
def QlL:Nd:=Nd.mk Z0 Z0 Z0 [] Z0 Z0 QHP [] [] Z0 Z0 Z0
def QHR(a:Nd)(b:Nat):List D:=Nd.row (List.getD (Nd.ki a) b QlL)
def QlM(a:Nd):Nat:=LN (Nd.bo a)
def QHS(a:Nd)(b:Nat):List D:=Sm.row (List.getD (Nd.bo a) b (Sm.mk Z0 Z0 [] Z0 QlL QlL))
def QHT(a:Nd):Int:=Nd.de a
def QHU(a:Nd):Int:=Nd.sl a
def QHV(a:Nd):Int:=Nd.ss a
def QHW(a:Nat)(b:Nd)(c:Nat):Prop:=(SM a/\(SM (QeN b)/\SM (QHE b)/\SM (QHF b)/\SM (QHG b)/\SM (QHH b)/\SM (QHI b)/\SM (QHJ b)/\(SM (QlH b)/\(∀(i:Nat),i<QlH b->SM (QHL b i))/\True)/\(SM (QlI b)/\(∀(i:Nat),i<QlI b->SM (QHN b i))/\True)/\(SM (QlJ b)/\(∀(i:Nat),i<QlJ b->SM (QHQ b i))/\True)/\(SM (QlK b)/\(∀(i:Nat),i<QlK b->SM (QHR b i))/\True)/\(SM (QlM b)/\(∀(i:Nat),i<QlM b->SM (QHS b i))/\True)/\SM (QHT b)/\SM (QHU b)/\SM (QHV b)/\True)/\True)/\SM c/\True
def QHX(a:Nd):D:=D.agg [ZI (QeN a),ZI (QHE a),ZI (QHF a),D.str (QHG a),ZI (QHH a),ZI (QHI a),ZI (QHJ a),D.sl N1 (QlH a) (fun i=>QHL a i) Mode.any,D.sl N1 (QlI a) (fun i=>QHN a i) Mode.any,D.sl N4 (QlJ a) (fun i=>QHQ a i) Mode.any,D.sl 15 (QlK a) (fun i=>QHR a i) Mode.any,D.sl 34 (QlM a) (fun i=>QHS a i) Mode.any,ZI (QHT a),ZI (QHU a),ZI (QHV a)]
def QHY(a:Nd)(b:Int):Prop:=isN a [QHX a,ZI b] [ZI b]/\Z0<=b/\b+(NI (szN a))<=100000
def QHZ(a:Int)(b:Nd):List (List UInt8):=rlP a (ptN b)
def QH0(a:Int)(b:Nd):Nat:=LN (QHZ a b)
def QeP(a:List (List UInt8))(b:Int)(c:Nd):Nat:=LN a+N1+QH0 b c
def QeQ(a:List (List UInt8))(b:Int)(c:Nd):Nat:=QeP a b c+N1
def QH1(a:Int)(b:Nd)(c:Nat):List D:=[D.str (List.getD (QHZ a b) c [])]
def QH2(a:List (List UInt8))(b:Int)(c:List Int)(d:Nd)(e:Nat):List D:=[D.str (List.getD (a++rlP b (BR c d)) e [])]
def QR7(a:List (List UInt8))(b:Nat):D:=D.sl N1 (LN a) (fun i=>[D.str (List.getD a i [])]) (Mode.tok N0 b)
def QR8(a:List Int):D:=SI a
def QeR(a:List (List UInt8))(b:Int)(c:Nd):Nat:=LN a+QH0 b c
theorem BpG(L : List (List UInt8))(n : Nd)(ks : List Int)(lv : Int)(t : Nat)(h : RPar n)(h0 : 0<=lv)(h1 : lv+szN n<=100000)(hk : ks.length<=maxLen)(hL : L.length<=4000000000000) :
  ACalls Tryz.prog 46 ((Bk5 L n ks lv t).args ()) ((Bk5 L n ks lv t).st ()) (SpecR (Bk5 L n ks lv t) ()):=by
 refine Bg (A:=Bk5 L n ks lv t) (x:=()) (E:=Ead n ks) (eOk (BcI h) rfl) Tryz.func46 rfl (by kernel_rfl) rfl (by simp[Bk5,Ead,EC,E0]) ?_
 refine Bi (T :=
  ∀(x:Nat),True->(∃(x_1:Nat),QlG x_1 ks n/\(Z0=(↑x_1:Int)/\True)/\QHW x n t)/\∀(x_1:Nat),QlG x_1 ks n->ifB (decide ((↑x_1:Int)<(LI ks))) (SM x/\Bc (Z0<=(↑x_1:Int)/\(↑x_1:Int)<(LI ks)) (ifB (QeN n==GI ks (Int.toNat (↑x_1:Int))) (SM t/\Bc ((LN L+N1)*16<=140737488355328/\LN L+N1<=9223372036854775807) (∀(t:Nat),SM x/\∃(x:Unit),QHY n lv/\∀(y:Unit),True->SM t/\Bc (QeP L lv n*16<=140737488355328/\QeP L lv n<=9223372036854775807) (∀(t:Nat),SM t/\Bc (QeQ L lv n*16<=140737488355328/\QeQ L lv n<=9223372036854775807) (∀(t:Nat),True/\∃(y:Nat),True/\(QeQ L lv n=LN (L++rlP lv (BR ks n))/\(∀(i:Nat),i<QeQ L lv n->BN (QeP L lv n) (BN (LN L+N1) (BN (LN L) (fun i=>[D.str (List.getD L i [])]) fun i=>[D.str (List.getD [[(40:UInt8)]] i [])]) fun i=>QH1 lv n i) (fun i=>[D.str (List.getD [[(41:UInt8)]] i [])]) i=QH2 L lv ks n i)/\t=y)/\True/\t=y/\True)))) ((SM (QR7 L t)/\SM (QHX n)/\SM (QR8 ks)/\SM (ZI lv)/\SM (D.ref N0 x N0)/\True)/\∃(y:Nat),QlG y ks n/\LN ks-y<LN ks-x_1/\(IntKind.wrap IntKind.i64 ((↑x_1:Int)+Z1)=(↑y:Int)/\True)/\QHW x n t))) (SM x/\∃(x:Unit),QHY n lv/\∀(y:Unit),True->SM t/\Bc (QeR L lv n*16<=140737488355328/\QeR L lv n<=9223372036854775807) (∀(t:Nat),True/\∃(y:Nat),True/\(QeR L lv n=LN (L++rlP lv (BR ks n))/\(∀(i:Nat),i<QeR L lv n->BN (LN L) (fun i=>[D.str (List.getD L i [])]) (fun i=>QH1 lv n i) i=QH2 L lv ks n i)/\t=y)/\True/\t=y/\True))) (by kernel_rfl) ?_
 delta DA GI LI LN N0 N1 N4 NI SI SM Z0 Z1 ZI QeN QlG QlH QHL QHM QlI QHN QHO QlJ QHP QHQ QlK QHE QlL QHR QlM QHS QHT QHU QHV QHW QHX QHY QHF QHZ QH0 QeP QeQ QH1 QH2 QR7 QR8 QeR QHG QHH QHI QeO QHJ QHK
 try simp only[<- dm]
 try simp only[<- dn]
 simp only[ne_eq,implies_true,Int.toNat_natCast,Bf,Bd,decide_eq_true_eq,decide_eq_false_iff_not,true_and,and_true,beq_iff_eq,beq_eq_false_iff_ne,exists_const,forall_const]
 unfold maxLen at hk
 have hln:=h.2
 have hrl:=EE (ptN n) lv
 refine⟨⟨0,⟨Nat.zero_le _,fun j hj=>absurd hj (by omega)⟩,rfl⟩,fun i ⟨i1,hi⟩=>⟨fun hlt=>⟨⟨by omega,hlt⟩,fun hk1=>?_,fun hk1=>⟨i+1,⟨by omega,fun j hj=>?_⟩,by omega,Ba (by omega) (by omega)⟩⟩,fun hge=>?_⟩⟩
 ·have hc:=Blm (show i<ks.length by omega) hk1
  have e:L++rlP lv (BR ks n)=((L++[[40]])++rlP lv (ptN n))++[[41]]:=by rw[Bm8,if_pos hc];simp
  rw[e]
  refine⟨⟨by omega,by omega⟩,⟨Bl _ _,h0,h1⟩,⟨by omega,by omega⟩,⟨by omega,by omega⟩,fun t2=>⟨t2,⟨by simp only[List.length_append,List.length_cons,List.length_nil],?_,rfl⟩,rfl⟩⟩
  refine C8 (r:=[[41]]) (by simp only[List.length_append,List.length_cons,List.length_nil]) (fun i hi=>?_) (fun _ _=>rfl)
  refine C8 (L:=L++[[40]]) (by simp) (fun i hi=>?_) (fun _ _=>rfl) i hi
  exact C8 (L:=L) (r:=[[40]]) rfl (fun _ _=>rfl) (fun _ _=>rfl) i hi
 ·by_cases e':j=i
  ·rw[e'];exact hk1
  ·exact hi j (by omega)
 ·have hc:=Bn4 (k:=n.kd) (ks:=ks) fun j hj=>hi j (by omega)
  rw[Bm8,hc]
  refine⟨⟨Bl _ _,h0,h1⟩,⟨by omega,by omega⟩,fun t2=>⟨t2,⟨by simp,?_,rfl⟩,rfl⟩⟩
  exact C8 rfl (fun _ _=>rfl) (fun _ _=>rfl)
def Bid(n:Nd)(ks:List Int)(lv:Int):FnSpec where
 β:=Unit
 α:=Nat
 args:=fun _=>[.sl 1 0 (fun _=>[]) .nil,.agg n.row1,isl ks .any,.int .i64 lv]
 st:=fun _=>⟨[],[]⟩
 pre:=fun _=>True
 post:=fun _ _=>True
 res:=fun _ t'=>.ret (ssl (rlP lv (BR ks n)) (.tok 0 t'))
 out:=fun _ t'=>⟨[],[(0,t')]⟩
def QeS(a:Nd):Int:=Nd.kd a
def QlN(a:Nat)(b:List Int)(c:Nd):Prop:=a<=LN b/\∀(j:Nat),j<a->QeS c≠GI b j
def QH3(a:Nd):Int:=Nd.at_ a
def QH4(a:Nd):Int:=Nd.cl a
def QH5(a:Nd):List UInt8:=Nd.tx a
def QH6(a:Nd):Int:=Nd.pr a
def QH7(a:Nd):Int:=Nd.op a
def QeT(a:Nd):Arr:=Nd.va a
def QH8(a:Nd):Int:=Arr.k (QeT a)
def QH9(a:Nd):List Int:=Arr.sh (QeT a)
def QlO(a:Nd):Nat:=LN (QH9 a)
def QIa(a:Nd)(b:Nat):List D:=[ZI (GI (QH9 a) b)]
def QIb(a:Nd):List Int:=Arr.nu (QeT a)
def QlP(a:Nd):Nat:=LN (QIb a)
def QIc(a:Nd)(b:Nat):List D:=[ZI (GI (QIb a) b)]
def QId(a:Nd):List Arr:=Arr.it (QeT a)
def QlQ(a:Nd):Nat:=LN (QId a)
def QIe:Arr:=DA
def QIf(a:Nd)(b:Nat):List D:=Arr.row (List.getD (QId a) b QIe)
def QlR(a:Nd):Nat:=LN (Nd.ki a)
def QlS:Nd:=Nd.mk Z0 Z0 Z0 [] Z0 Z0 QIe [] [] Z0 Z0 Z0
def QIg(a:Nd)(b:Nat):List D:=Nd.row (List.getD (Nd.ki a) b QlS)
def QlT(a:Nd):Nat:=LN (Nd.bo a)
def QIh(a:Nd)(b:Nat):List D:=Sm.row (List.getD (Nd.bo a) b (Sm.mk Z0 Z0 [] Z0 QlS QlS))
def QIi(a:Nd):Int:=Nd.de a
def QIj(a:Nd):Int:=Nd.sl a
def QIk(a:Nd):Int:=Nd.ss a
def QIl(a:Nat)(b:Nd):Prop:=(SM a/\(SM (QeS b)/\SM (QH3 b)/\SM (QH4 b)/\SM (QH5 b)/\SM (QH6 b)/\SM (QH7 b)/\SM (QH8 b)/\(SM (QlO b)/\(∀(i:Nat),i<QlO b->SM (QIa b i))/\True)/\(SM (QlP b)/\(∀(i:Nat),i<QlP b->SM (QIc b i))/\True)/\(SM (QlQ b)/\(∀(i:Nat),i<QlQ b->SM (QIf b i))/\True)/\(SM (QlR b)/\(∀(i:Nat),i<QlR b->SM (QIg b i))/\True)/\(SM (QlT b)/\(∀(i:Nat),i<QlT b->SM (QIh b i))/\True)/\SM (QIi b)/\SM (QIj b)/\SM (QIk b)/\True)/\True)/\True
def QIm(a:Nd):D:=D.agg [ZI (QeS a),ZI (QH3 a),ZI (QH4 a),D.str (QH5 a),ZI (QH6 a),ZI (QH7 a),ZI (QH8 a),D.sl N1 (QlO a) (fun i=>QIa a i) Mode.any,D.sl N1 (QlP a) (fun i=>QIc a i) Mode.any,D.sl N4 (QlQ a) (fun i=>QIf a i) Mode.any,D.sl 15 (QlR a) (fun i=>QIg a i) Mode.any,D.sl 34 (QlT a) (fun i=>QIh a i) Mode.any,ZI (QIi a),ZI (QIj a),ZI (QIk a)]
def QIn(a:Nd)(b:Int):Prop:=isN a [QIm a,ZI b] [ZI b]/\Z0<=b/\b+(NI (szN a))<=100000
def QIo(a:Int)(b:Nd):List (List UInt8):=rlP a (ptN b)
def QIp(a:Int)(b:Nd):Nat:=LN (QIo a b)
def QeU(a:Int)(b:Nd):Nat:=N1+QIp a b
def QeV(a:Int)(b:Nd):Nat:=QeU a b+N1
def QIq(a:Int)(b:Nd)(c:Nat):List D:=[D.str (List.getD (QIo a b) c [])]
def QIr(a:Int)(b:List Int)(c:Nd)(d:Nat):List D:=[D.str (List.getD (rlP a (BR b c)) d [])]
def QR9(a:List Int):D:=SI a
def QeW(a:Int)(b:Nd):Nat:=N0+QIp a b
theorem BoW(n : Nd)(ks : List Int)(lv : Int)(h : RPar n)(h0 : 0<=lv)(h1 : lv+szN n<=100000)(hk : ks.length<=maxLen) :
  ACalls Tryz.prog 46 ((Bid n ks lv).args ()) ((Bid n ks lv).st ()) (SpecR (Bid n ks lv) ()):=by
 refine Bg (A:=Bid n ks lv) (x:=()) (E:=Ead n ks) (eOk (BcI h) rfl) Tryz.func46 rfl (by kernel_rfl) rfl (by simp[Bid,Ead,EC,E0]) ?_
 refine Bi (T :=
  ∀(x:Nat),True->(∃(x_1:Nat),QlN x_1 ks n/\(Z0=(↑x_1:Int)/\True)/\QIl x n)/\∀(x_1:Nat),QlN x_1 ks n->ifB (decide ((↑x_1:Int)<(LI ks))) (SM x/\Bc (Z0<=(↑x_1:Int)/\(↑x_1:Int)<(LI ks)) (ifB (QeS n==GI ks (Int.toNat (↑x_1:Int))) (∀(t:Nat),SM x/\∃(x:Unit),QIn n lv/\∀(y:Unit),True->SM t/\Bc (QeU lv n*16<=140737488355328/\QeU lv n<=9223372036854775807) (∀(t:Nat),SM t/\Bc (QeV lv n*16<=140737488355328/\QeV lv n<=9223372036854775807) (∀(t:Nat),True/\∃(y:Nat),True/\(QeV lv n=LN (rlP lv (BR ks n))/\(∀(i:Nat),i<QeV lv n->BN (QeU lv n) (BN N1 (fun i=>[D.str (List.getD [[(40:UInt8)]] (i-N0) [])]) fun i=>QIq lv n i) (fun i=>[D.str (List.getD [[(41:UInt8)]] i [])]) i=QIr lv ks n i)/\t=y)/\True/\t=y/\True))) ((SM (D.sl N1 N0 (fun x=>[]) Mode.nil)/\SM (QIm n)/\SM (QR9 ks)/\SM (ZI lv)/\SM (D.ref N0 x N0)/\True)/\∃(y:Nat),QlN y ks n/\LN ks-y<LN ks-x_1/\(IntKind.wrap IntKind.i64 ((↑x_1:Int)+Z1)=(↑y:Int)/\True)/\QIl x n))) (SM x/\∃(x:Unit),QIn n lv/\∀(y:Unit),True->Bc (QeW lv n*16<=140737488355328/\QeW lv n<=9223372036854775807) (∀(t:Nat),True/\∃(y:Nat),True/\(QeW lv n=LN (rlP lv (BR ks n))/\(∀(i:Nat),i<QeW lv n->BN N0 (fun x=>[]) (fun i=>QIq lv n i) i=QIr lv ks n i)/\t=y)/\True/\t=y/\True))) (by kernel_rfl) ?_
 delta DA GI LI LN N0 N1 N4 NI SI SM Z0 Z1 ZI QeS QlN QH3 QH4 QH5 QH6 QH7 QeT QH8 QH9 QlO QIa QIb QlP QIc QId QlQ QIe QIf QlR QlS QIg QlT QIh QIi QIj QIk QIl QIm QIn QIo QIp QeU QeV QIq QIr QR9 QeW
 try simp only[<- dm]
 try simp only[<- dn]
 simp only[ne_eq,implies_true,Int.toNat_natCast,Bf,Bd,decide_eq_true_eq,decide_eq_false_iff_not,true_and,and_true,beq_iff_eq,beq_eq_false_iff_ne,exists_const,forall_const]
 unfold maxLen at hk
 have hln:=h.2
 have hrl:=EE (ptN n) lv
 refine⟨⟨0,⟨Nat.zero_le _,fun j hj=>absurd hj (by omega)⟩,rfl⟩,fun i ⟨i1,hi⟩=>⟨fun hlt=>⟨⟨by omega,hlt⟩,fun hk1=>?_,fun hk1=>⟨i+1,⟨by omega,fun j hj=>?_⟩,by omega,Ba (by omega) (by omega)⟩⟩,fun hge=>?_⟩⟩
 ·have hc:=Blm (show i<ks.length by omega) hk1
  have e:rlP lv (BR ks n)=([[40]]++rlP lv (ptN n))++[[41]]:=by rw[Bm8,if_pos hc];simp
  rw[e]
  refine⟨⟨Bl _ _,h0,h1⟩,⟨by omega,by omega⟩,⟨by omega,by omega⟩,fun t2=>⟨t2,⟨by simp only[List.length_append,List.length_cons,List.length_nil]<;>omega,?_,rfl⟩,rfl⟩⟩
  refine C8 (r:=[[41]]) (by simp only[List.length_append,List.length_cons,List.length_nil]<;>omega) (fun i hi=>?_) (fun _ _=>rfl)
  exact C8 (L:=[[40]]) (by simp) (fun _ _=>rfl) (fun _ _=>rfl) i hi
 ·by_cases e':j=i
  ·rw[e'];exact hk1
  ·exact hi j (by omega)
 ·have hc:=Bn4 (k:=n.kd) (ks:=ks) fun j hj=>hi j (by omega)
  rw[Bm8,hc]
  refine⟨⟨Bl _ _,h0,h1⟩,⟨by omega,by omega⟩,fun t2=>⟨t2,⟨by simp,?_,rfl⟩,rfl⟩⟩
  exact C8 (L:=[]) rfl (fun i hi=>absurd hi (Nat.not_lt_zero _)) (fun _ _=>rfl)
theorem BnP(s : ByteArray)(c : Int)(w : World) :
  Calls Tryz.prog 105 #[.string s,.int .u8 c] w fun e w'=>e=.returned (.int .i64 (Lib.indexByte s.data.toList c.toNat.toUInt8))/\w'=w:=by
 go_enter Tryz.func105,Tryz.ntmps105
 go_wp2
 rw[run_callFunc_extern Tryz.func123 (by kernel_rfl) (by kernel_rfl) (by kernel_rfl) (e:=Extern.BytealgIndexByte.indexByte) (by kernel_rfl),Lib.run_indexByteString]
 simp only[Result.andThen]
 rw[Oper.upon_value]
 go_wp2
 go_ret
 exact⟨rfl,rfl⟩
def ixT(r:List UInt8):Int:=if IC r<r.length then (IC r:Int) else -1
theorem Bgf:∀r:List UInt8,Lib.indexByte r 32=ixT r
 | []=>rfl
 |b::r=>by
  have ih:=Bgf r
  have e:IC (b::r)=bif b==32 then 0 else IC r+1:=by unfold IC;rw[List.findIdx_cons]
  rw[Lib.indexByte,ih]
  unfold ixT
  by_cases hb:b=32
  ·subst hb
   rw[e]
   simp
  ·have hb':(b==32)=false:=by simpa using hb
   rw[hb'] at e
   simp only[cond_false] at e
   rw[e,hb',List.length_cons]
   by_cases h:IC r<r.length
   ·have h2:((IC r:Int)==-1)=false:=by rw[beq_eq_false_iff_ne];omega
    rw[if_pos h,if_pos (show IC r+1<r.length+1 by omega),h2]
    simp
   ·rw[if_neg h,if_neg (show ¬IC r+1<r.length+1 by omega)]
    simp
theorem BpD(s:List UInt8):CD 105 [.str s,.int .u8 32] (.int .i64 (ixT s)):=by
 refine ACalls.of_shelf ⟨_,Tryz.func105,by kernel_rfl,by kernel_rfl⟩ fun C args w ha=>?_
 obtain ⟨u,v,e,hu,hv⟩:=GW ha
 have e2:args=[u,v].toArray:=by rw[<- e]
 subst e2
 simp only[Rep] at hu hv;subst hu hv
 refine (BnP ⟨s.toArray⟩ 32 w).mono fun e w' ⟨h1,h2⟩=>⟨⟨_,h1,?_⟩,by rw[h2];exact Go.RowKit.Below.refl _ _⟩
 have e:Lib.indexByte s 32=ixT s:=Bgf s
 simp[Rep,e]
def Bmk:Con:=fun k ds S=>match k with
 |105=>match ds with
  | [.str s,_]=>some (pA ds S (.int .i64 (ixT s)) (wkL ds [.str s,.int .u8 32]))
  |_=>none
 |_=>none
theorem BjF:ConOk Tryz.prog Bmk:=by
 intro k ds S A hh
 unfold Bmk at hh
 split at hh
 ·split at hh
  ·injection hh with hh;subst hh
   exact Bo fun e=>CD.at_ (CD.wk (BpD _) e) _
  ·cases hh
 ·cases hh
noncomputable def Esib:Senv:=EC Bmk 8 2 [4] (fun _=>([],[]))
theorem BpO(s:List UInt8):CD 85 [.str s,.int .u8 32] (.int .i64 (ixT s)):=by
 refine Bg (A:=sC _ _) (x:=()) (E:=Esib) (eOk BjF rfl) Tryz.func85 rfl (by kernel_rfl) rfl (by simp[sC,Esib,EC,E0]) ?_
 refine Bi (T :=
  ∃(x:Unit),(SM s/\SM (32:Int)/\True)/\∀(y:Unit),True->RT (SM (ixT s))) (by kernel_rfl) ?_
 delta SM RT
 simp only[eq_self,implies_true,and_true,exists_const]
 all_goals first
  |exact Be _
  |exact⟨Be _,rfl⟩
theorem Bgs:∀r:List UInt8,IC r<=r.length
 | []=>by simp[IC]
 |b::r=>by
  have:=Bgs r
  have e:IC (b::r)=bif b==32 then 0 else IC r+1:=by unfold IC;rw[List.findIdx_cons]
  rw[e]
  cases b==32<;>simp<;>omega
def Bmb:Con:=fun k ds S=>match k with
 |85=>match ds with
  | [.str s,_]=>some (pA ds S (.int .i64 (ixT s)) (wkL ds [.str s,.int .u8 32]))
  |_=>none
 |_=>none
theorem BiI:ConOk Tryz.prog Bmb:=by
 intro k ds S A hh
 unfold Bmb at hh
 split at hh
 ·split at hh
  ·injection hh with hh;subst hh
   exact Bo fun e=>CD.at_ (CD.wk (BpO _) e) _
  ·cases hh
 ·cases hh
structure EdI (s:List UInt8) (q:UInt8) (a x:Nat):Prop where
 lo:a+1<=x
 ok:(x<=s.length/\(x-(a+1))+Gr q (s.drop x)=Gr q (s.drop (a+1)))\/(x=s.length+1/\s.length<=a+1+Gr q (s.drop (a+1)))
noncomputable def Eed(s:List UInt8)(a:Nat):Senv:={ EC Bmb 53 2 [4,5,6,15,21,39,45] (fun _=>([],[])) with
 mg:=fun _=>2
 ann:=fun b _ S=>match b with
  |0=>some { slots:=[1],keep:=[0,5],α:=Nat,st:=fun x=>([.int .i64 x],S),inv:=fun x=>EdI s (s.getD a 0) a x,mu:=fun x=>s.length+1-x }
  |_=>none }
def YN(a:List UInt8)(b:Nat):Int:=(BI a (Int.toNat (↑b:Int)))
def QIs(a:Nat)(b:List UInt8):List UInt8:=List.drop (Int.toNat (↑a:Int)) (List.take (TL b) b)
def QIt(a:Nat)(b:List UInt8):Int:=ixT (QIs a b)
def QlU(a:Nat)(b:List UInt8):Int:=(NI (a+T9 (List.drop a b)))
def QeX(a:List UInt8)(b c:Nat):Prop:=EdI a (List.getD a b U0) b c
def QeY(a:Nat):Int:=IntKind.wrap IntKind.i64 ((↑a:Int)+Z1)
def QIu(a b:Nat):Prop:=(QeY a=(↑b:Int)/\True)/\True/\True
def QIv(a:List UInt8)(b:Nat):Prop:=SM (D.str a)/\SM (ZB (YN a b))/\True
def QIw(a:List UInt8)(b c:Nat):Prop:=True/\∃(_y:Unit),True/\(if (LI a)<QeY b then (LI a) else QeY b)=QlU c a/\True/\True
def QIx(a:List UInt8)(b:Nat):Prop:=(∃(x:Nat),QeX a b x/\QIu b x)/\∀(x:Nat),QeX a b x->ifB (decide ((↑x:Int)<(LI a))) (Bc (Z0<=(↑x:Int)/\(↑x:Int)<(LI a)) (ifB (YN a x != YN a b) (Bc (Z0<=(↑x:Int)/\(↑x:Int)<(LI a)) (ifB (YN a x==92) (QIv a b/\∃(y:Nat),QeX a b y/\LN a+N1-y<LN a+N1-x/\(IntKind.wrap IntKind.i64 (QeY x+Z1)=(↑y:Int)/\True)/\True/\True) (QIv a b/\∃(y:Nat),QeX a b y/\LN a+N1-y<LN a+N1-x/\QIu x y))) (QIw a x b))) (QIw a x b)
theorem BqR(s:List UInt8)(a:Nat)(ha:a<s.length)(hs:s.length<=100000000000000):CD 59 [.str s,.int .i64 a] (.int .i64 ((a+T9 (s.drop a):Nat):Int)):=by
 refine Bg (A:=sC _ _) (x:=()) (E:=Eed s a) (eOk BiI rfl) Tryz.func59 rfl (by kernel_rfl) rfl (by simp[sC,Eed,EC,E0]) ?_
 refine Bi (T :=
  Bc (Z0<=(↑a:Int)/\(↑a:Int)<(LI s)) (ifB (YN s a != (34:Int)) (ifB (YN s a != (39:Int)) (Bc (Z0<=(↑a:Int)/\(↑a:Int)<=(LI s)/\(LI s)<=(LI s)) (∃(x:Unit),(SM (QIs a s)/\SM (32:Int)/\True)/\∀(y:Unit),True->ifB (decide (Z0<=QIt a s)) (RT (IntKind.wrap IntKind.i64 ((↑a:Int)+QIt a s)=QlU a s)) (RT ((LI s)=QlU a s)))) (QIx s a)) (QIx s a))) (by kernel_rfl) ?_
 delta BI LI LN N1 NI SM TL U0 Z0 Z1 ZB YN QIs QIt QlU QeX QeY QIu QIv QIw QIx RT
 simp only[eq_self,ne_eq,Int.toNat_natCast,Bf,Bd,decide_eq_true_eq,decide_eq_false_iff_not,true_and,and_true,beq_iff_eq,bne_iff_ne,bne_eq_false_iff_eq,beq_eq_false_iff_ne,exists_const,forall_const]
 have hd:s.drop a=s.getD a 0::s.drop (a+1):=by
  rw[List.drop_eq_getElem_cons ha,List.getD_eq_getElem?_getD,List.getElem?_eq_getElem ha];rfl
 have dl:(s.drop (a+1)).length=s.length-(a+1):=List.length_drop
 have key:∀(c:UInt8) (n:Nat) (z:Int),n<256->z=n->(((c.toNat:Nat):Int)=z↔c=UInt8.ofNat n):=fun c n z hn hz=>by
  constructor
  ·intro h
   have h:c.toNat=n:=by omega
   rw[<- h]
   exact (UInt8.ofNat_toNat).symm
  ·rintro rfl
   rw[UInt8.toNat_ofNat'];omega
 have k34:(((s.getD a 0).toNat:Nat):Int)=34↔s.getD a 0=34:=key (s.getD a 0) 34 34 (by omega) rfl
 have k39:(((s.getD a 0).toNat:Nat):Int)=39↔s.getD a 0=39:=key (s.getD a 0) 39 39 (by omega) rfl
 refine⟨⟨by omega,by omega⟩,fun n34=>⟨fun n39=>?_,fun q39=>?_⟩,fun q34=>?_⟩
 ·have hc:T9 (s.drop a)=IC (s.drop a):=by
   rw[hd,T9,if_neg]
   rintro (h | h)
   ·exact n34 (k34.2 h)
   ·exact n39 (k39.2 h)
  have hl:=Bgs (s.drop a)
  have dl2:(s.drop a).length=s.length-a:=List.length_drop
  rw[List.take_length,hc]
  unfold ixT
  refine⟨⟨by omega,by omega,by omega⟩,fun h=>?_,fun h=>?_⟩
  ·by_cases hi:IC (s.drop a)<(s.drop a).length
   ·rw[if_pos hi] at h ⊢
    rw[Ba (by omega) (by omega)];omega
   ·rw[if_neg hi] at h;omega
  ·by_cases hi:IC (s.drop a)<(s.drop a).length
   ·rw[if_pos hi] at h;omega
   ·omega
 all_goals
  have hq:s.getD a 0=34\/s.getD a 0=39:=by
   first
    |exact .inl (k34.1 q34)
    |exact .inr (k39.1 q39)
  have hc:T9 (s.drop a)=min (Gr (s.getD a 0) (s.drop (a+1))+2) (s.length-(a+1)+1):=by
   rw[hd,T9,if_pos hq,dl]
  have h92:(92:UInt8)≠s.getD a 0:=by rcases hq with h | h<;>rw[h]<;>decide
  clear k34 k39
  generalize s.getD a 0=q at *
  rw[hc]
  refine⟨⟨a+1,⟨Nat.le_refl _,.inl ⟨by omega,by rw[Nat.sub_self,Nat.zero_add]⟩⟩,Ba (by omega) (by omega)⟩,fun x hx=>⟨fun hlt=>?_,fun hge=>?_⟩⟩
  ·have hlt':x<s.length:=by omega
   obtain ⟨lo,hok⟩:=hx
   have hok:(x-(a+1))+Gr q (s.drop x)=Gr q (s.drop (a+1)):=by
    rcases hok with h | h
    ·exact h.2
    ·omega
   have hdx:s.drop x=s.getD x 0::s.drop (x+1):=by
    rw[List.drop_eq_getElem_cons hlt',List.getD_eq_getElem?_getD,List.getElem?_eq_getElem hlt'];rfl
   have w1:IntKind.i64.wrap ((x:Int)+1)=((x+1:Nat):Int):=by rw[Ba (by omega) (by omega)];rfl
   have w2:IntKind.i64.wrap (((x+1:Nat):Int)+1)=((x+2:Nat):Int):=by rw[Ba (by omega) (by omega)];rfl
   have kq:(((s.getD x 0).toNat:Nat):Int)=((q.toNat:Nat):Int)↔s.getD x 0=q:=by
    constructor
    ·intro h
     exact UInt8.toNat_inj.1 (by omega)
    ·intro h;rw[h]
   have k92:(((s.getD x 0).toNat:Nat):Int)=92↔s.getD x 0=92:=key (s.getD x 0) 92 92 (by omega) rfl
   rw[w1]
   refine⟨⟨by omega,hlt⟩,fun hne=>⟨⟨by omega,hlt⟩,fun h9=>⟨x+2,⟨by omega,?_⟩,by omega,w2⟩,fun h9=>⟨x+1,⟨by omega,.inl ⟨hlt',?_⟩⟩,by omega,rfl⟩⟩,fun he=>?_⟩
   ·have e92:s.getD x 0=92:=k92.1 h9
    rw[hdx,e92] at hok
    by_cases hl:x+1<s.length
    ·have hd2:s.drop (x+1)=s.getD (x+1) 0::s.drop (x+2):=by
      rw[List.drop_eq_getElem_cons hl,List.getD_eq_getElem?_getD,List.getElem?_eq_getElem hl];rfl
     rw[hd2,IK h92] at hok
     exact .inl ⟨by omega,by omega⟩
    ·rw[List.drop_eq_nil_of_le (show s.length<=x+1 by omega),Gr,if_neg h92] at hok
     exact .inr ⟨by omega,by omega⟩
   ·rw[hdx,BaD (fun h=>hne (kq.2 h)) (fun h=>h9 (k92.2 h))] at hok
    omega
   ·rw[hdx,kq.1 he,Bdd] at hok
    rw[if_neg (by omega)]
    omega
  ·obtain ⟨lo,hok⟩:=hx
   have wx:x<=s.length+1:=by rcases hok with h | h<;>omega
   have w1:IntKind.i64.wrap ((x:Int)+1)=((x+1:Nat):Int):=by rw[Ba (by omega) (by omega)];rfl
   rw[w1,if_pos (by omega)]
   rcases hok with ⟨h1,h2⟩ | ⟨h1,h2⟩
   ·rw[List.drop_eq_nil_of_le (show s.length<=x by omega),Gr] at h2
    omega
   ·omega
def Bky(n:Nd):Con:=fun k ds S=>match k with
 |59=>match ds with
  | [.str s,.int .i64 a]=>some (pA ds S (.int .i64 ((a.toNat+T9 (s.drop a.toNat):Nat):Int)) (0<=a/\a<s.length/\s.length<=100000000000000))
  |_=>none
 |58=>some (pA ds S (.str (Eu n)) (isN n ds []))
 |_=>none
theorem BlW{n:Nd}(ho:n.ok)(hn:n.sm):ConOk Tryz.prog (Bky n):=by
 intro k ds S A hh
 unfold Bky at hh
 split at hh
 ·split at hh
  ·rename_i s a
   injection hh with hh;subst hh
   refine Bo fun ⟨h0,h1,h2⟩=>CD.at_ ?_ _
   have e:a=((a.toNat:Nat):Int):=by omega
   have:=BqR s a.toNat (by omega) h2
   rw[<- e] at this
   exact this
  ·cases hh
 ·injection hh with hh;subst hh
  exact Bo fun e=>CD.at_ (CD.wk (BpC n ho hn) e) _
 ·cases hh
def ptX(n:Nd):List (List UInt8):=(ptN n).map prT
structure PpI (X:List (List UInt8)) (T:List UInt8) (a:Int) (out:List (List UInt8)):Prop where
 ok:∃k,k<=X.length/\out=X.take k/\((k<X.length/\a=(T.length-(Lib.join (X.drop k) [32]).length:Nat)/\T.drop a.toNat=Lib.join (X.drop k) [32]/\a<T.length)\/(k=X.length/\a=T.length+1))
noncomputable def Epp(n:Nd):Senv:={ EC (Bky n) 27 7 [12] (fun _=>([],[])) with
 mg:=fun _=>2
 gh:=fun b=>match b with
  |0=>[.slot 3]
  |_=>[]
 ann:=fun b _ S=>match b with
  |0=>some { slots:=[5,3],keep:=[0,1,4],α:=Int×Nat×List (List UInt8),st:=fun y=>([.int .i64 y.1,ssl y.2.2 (.tok 0 y.2.1)],⟨S.objs,[(0,y.2.1)]⟩),inv:=fun y=>PpI (ptX n) (Bv n) y.1 y.2.2,mu:=fun y=>(Bv n).length+1-y.1.toNat }
  |_=>none }
def QIy(a:Nd):Int:=Nd.kd a
def QIz(a:Nd):Int:=Nd.at_ a
def QIA(a:Nd):Int:=Nd.cl a
def QIB(a:Nd):List UInt8:=Nd.tx a
def QIC(a:Nd):Int:=Nd.pr a
def QID(a:Nd):Int:=Nd.op a
def QeZ(a:Nd):Arr:=Nd.va a
def QIE(a:Nd):Int:=Arr.k (QeZ a)
def QIF(a:Nd):List Int:=Arr.sh (QeZ a)
def QlV(a:Nd):Nat:=LN (QIF a)
def QIG(a:Nd)(b:Nat):List D:=[ZI (GI (QIF a) b)]
def QIH(a:Nd):List Int:=Arr.nu (QeZ a)
def QlW(a:Nd):Nat:=LN (QIH a)
def QII(a:Nd)(b:Nat):List D:=[ZI (GI (QIH a) b)]
def QIJ(a:Nd):List Arr:=Arr.it (QeZ a)
def QlX(a:Nd):Nat:=LN (QIJ a)
def QIK:Arr:=DA
def QIL(a:Nd)(b:Nat):List D:=Arr.row (List.getD (QIJ a) b QIK)
def QlY(a:Nd):Nat:=LN (Nd.ki a)
def QlZ:Nd:=Nd.mk Z0 Z0 Z0 [] Z0 Z0 QIK [] [] Z0 Z0 Z0
def QIM(a:Nd)(b:Nat):List D:=Nd.row (List.getD (Nd.ki a) b QlZ)
def Ql0(a:Nd):Nat:=LN (Nd.bo a)
def QIN(a:Nd)(b:Nat):List D:=Sm.row (List.getD (Nd.bo a) b (Sm.mk Z0 Z0 [] Z0 QlZ QlZ))
def QIO(a:Nd):Int:=Nd.de a
def QIP(a:Nd):Int:=Nd.sl a
def QIQ(a:Nd):Int:=Nd.ss a
def QIR(a:Nd):D:=D.agg [ZI (QIy a),ZI (QIz a),ZI (QIA a),D.str (QIB a),ZI (QIC a),ZI (QID a),ZI (QIE a),D.sl N1 (QlV a) (fun i=>QIG a i) Mode.any,D.sl N1 (QlW a) (fun i=>QII a i) Mode.any,D.sl N4 (QlX a) (fun i=>QIL a i) Mode.any,D.sl 15 (QlY a) (fun i=>QIM a i) Mode.any,D.sl 34 (Ql0 a) (fun i=>QIN a i) Mode.any,ZI (QIO a),ZI (QIP a),ZI (QIQ a)]
def Ql1(a:Nd):List (List UInt8):=ptX a
def Ql2(a:Nd)(b:Int)(c:List (List UInt8)):Prop:=PpI (Ql1 a) (Bv a) b c
def Qe0(a:List (List UInt8))(b:Nat):List D:=[D.str (List.getD a b [])]
def QIS(a:Nat)(b:Nd)(c d:Nat):Prop:=(SM a/\(SM (QIy b)/\SM (QIz b)/\SM (QIA b)/\SM (QIB b)/\SM (QIC b)/\SM (QID b)/\SM (QIE b)/\(SM (QlV b)/\(∀(i:Nat),i<QlV b->SM (QIG b i))/\True)/\(SM (QlW b)/\(∀(i:Nat),i<QlW b->SM (QII b i))/\True)/\(SM (QlX b)/\(∀(i:Nat),i<QlX b->SM (QIL b i))/\True)/\(SM (QlY b)/\(∀(i:Nat),i<QlY b->SM (QIM b i))/\True)/\(SM (Ql0 b)/\(∀(i:Nat),i<Ql0 b->SM (QIN b i))/\True)/\SM (QIO b)/\SM (QIP b)/\SM (QIQ b)/\True)/\True)/\c=d/\True
def HO(a:Nd):List UInt8:=Eu a
def Ql3(a:Nd):Int:=(LI (HO a))
def Qe1(a:Int)(b:Nd):Int:=(NI (Int.toNat a+T9 (List.drop (Int.toNat a) (HO b))))
theorem Bp8(n:Nd)(hv:BU n=0)(ho:n.ok)(hn:n.sm):CD 34 [.agg n.row1] (ssl (ptX n) .any):=by
 refine Bg (A:=sC _ _) (x:=()) (E:=Epp n) (eOk (BlW ho hn) rfl) Tryz.func34 rfl (by kernel_rfl) rfl (by simp[sC,Epp,EC,E0]) ?_
 refine Bi (T :=
  ∀(x:Nat),True->SM x/\∃(x_1:Unit),isN n [QIR n] []/\∀(y:Unit),True->∀(t:Nat),(∃(x_2:Int×Nat×List (List UInt8)),Ql2 n x_2.1 x_2.2.2/\(Z0=x_2.1/\(N0=LN x_2.2.2/\(∀(i:Nat),i<N0->Cw (List D) [] (Qe0 x_2.2.2 i))/\t=x_2.2.1)/\True)/\QIS x n t x_2.2.1)/\∀(x_2:Int×Nat×List (List UInt8)),Ql2 n x_2.1 x_2.2.2->ifB (decide (x_2.1<Ql3 n)) (∃(x_3:Unit),(Z0<=x_2.1/\x_2.1<Ql3 n/\LN (HO n)<=100000000000000)/\∀(y:Unit),True->Bc (Z0<=x_2.1/\x_2.1<=Qe1 x_2.1 n/\Qe1 x_2.1 n<=Ql3 n) (SM x_2.2.1/\Bc ((LN x_2.2.2+N1)*16<=140737488355328/\LN x_2.2.2+N1<=9223372036854775807) (∀(t:Nat),(SM (QIR n)/\SM (D.ref N0 x N0)/\SM (D.str (HO n))/\True)/\∃(y:Int×Nat×List (List UInt8)),Ql2 n y.1 y.2.2/\LN (Bv n)+N1-Int.toNat y.1<LN (Bv n)+N1-Int.toNat x_2.1/\(IntKind.wrap IntKind.i64 (Qe1 x_2.1 n+Z1)=y.1/\(LN x_2.2.2+N1=LN y.2.2/\(∀(i:Nat),i<LN x_2.2.2+N1->BN (LN x_2.2.2) (fun i=>Qe0 x_2.2.2 i) (fun i=>[D.str (List.getD [List.drop (Int.toNat x_2.1) (List.take (Int.toNat (Qe1 x_2.1 n)) (HO n))] i [])]) i=Qe0 y.2.2 i)/\t=y.2.1)/\True)/\QIS x n t y.2.1))) (True/\∃(y:Unit),True/\(LN x_2.2.2=LN (Ql1 n)/\(∀(i:Nat),i<LN x_2.2.2->Qe0 x_2.2.2 i=[D.str (List.getD (Ql1 n) i [])])/\True)/\True/\True)) (by kernel_rfl) ?_
 delta DA GI LI LN N0 N1 N4 NI SM Z0 Z1 ZI QIy QIz QIA QIB QIC QID QeZ QIE QIF QlV QIG QIH QlW QII QIJ QlX QIK QIL QlY QlZ QIM Ql0 QIN QIO QIP QIQ QIR Ql1 Ql2 Qe0 QIS HO Ql3 Qe1
 try simp only[<- dm]
 try simp only[<- dn]
 simp only[implies_true,Int.toNat_natCast,Bf,Bd,decide_eq_true_eq,decide_eq_false_iff_not,true_and,and_true,exists_const,forall_const,Prod.exists]
 obtain ⟨_,hz,hvn⟩:=BY.1 hv
 have hsN:Eu n=Bv n:=if_pos hv
 obtain ⟨ht,hne⟩:=Rp n hvn
 have hT:Bv n=Lib.join (ptX n) [32]:=ht.symm
 have hln:=Ev n hvn ho
 have hgood:∀x∈ptX n,Bcm x:=fun x hx=>by
  obtain ⟨p,hp,rfl⟩:=List.mem_map.1 hx
  have:=okN n hvn ho p hp
  cases p with
  |tx y=>exact this.1
  |op=>exact I4 (by simp[prT]) (by decide) ⟨by decide,by decide⟩
  |cl=>exact I4 (by simp[prT]) (by decide) ⟨by decide,by decide⟩
  |sp=>exact I4 (by simp[prT]) (by decide) ⟨by decide,by decide⟩
 have hX0:0<(ptX n).length:=by unfold ptX;rw[List.length_map];exact List.length_pos_iff.2 hne
 have hXl:(ptX n).length<=(Bv n).length+1:=by
  have h1:=TX (ptN n)
  have h2:(ptN n).length<=IS (ptN n):=by
   have:∀ps:List Pt,ps.length<=IS ps:=fun ps=>by
    induction ps with
    |nil=>simp
    |cons p r ih =>
     unfold IS at ih ⊢
     rw[List.map_cons,List.sum_cons,List.length_cons]
     omega
   exact this _
  unfold ptX
  rw[List.length_map]
  rw[ht] at h1
  omega
 rw[hsN]
 generalize ptX n=X at *
 generalize Bv n=T at *
 have jcons:∀k,k<X.length->Lib.join (X.drop k) [32]=X.getD k []++(if k+1<X.length then 32::Lib.join (X.drop (k+1)) [32] else []):=fun k hk=>by
  have e:X.drop k=X.getD k []::X.drop (k+1):=by
   rw[List.drop_eq_getElem_cons hk,List.getD_eq_getElem?_getD,List.getElem?_eq_getElem hk];rfl
  rw[e,B7]
  congr 1
  by_cases h:k+1<X.length
  ·rw[if_pos h]
   cases hr:X.drop (k+1) with
   |nil=>have:=congrArg List.length hr;simp at this;omega
   |cons y r=>rw[Bb1];rfl
  ·rw[if_neg h,List.drop_eq_nil_of_le (by omega)]
   simp[jT]
 have gx:∀k,k<X.length->Bcm (X.getD k []):=fun k hk=>hgood _ (by
  rw[List.getD_eq_getElem?_getD,List.getElem?_eq_getElem hk];exact List.getElem_mem hk)
 have jpos:∀k,k<X.length->0<(Lib.join (X.drop k) [32]).length:=fun k hk=>by
  rw[jcons k hk,List.length_append]
  have:=List.length_pos_iff.2 (gx k hk).1
  omega
 clear ht hne hgood hsN
 refine⟨Bl _ _,fun t=>⟨⟨0,t,[],⟨⟨0,Nat.zero_le _,rfl,.inl ⟨hX0,?_,?_,?_⟩⟩⟩,⟨rfl,rfl,fun i hi=>absurd hi (Nat.not_lt_zero _),rfl⟩,rfl⟩,?_⟩⟩
 ·rw[List.drop_zero,<- hT];omega
 ·rw[List.drop_zero,<- hT];rfl
 ·have:=jpos 0 hX0
  rw[List.drop_zero,<- hT] at this
  omega
 rintro ⟨a,tk,out⟩ ⟨⟨k,hk,hout,hst⟩⟩
 simp only at hk hout hst ⊢
 have hol:out.length=k:=by rw[hout,List.length_take];omega
 refine⟨fun hlt=>?_,fun hge=>?_⟩
 ·obtain ⟨hk1,ha,hdr,_⟩:k<X.length/\a=(T.length-(Lib.join (X.drop k) [32]).length:Nat)/\T.drop a.toNat=Lib.join (X.drop k) [32]/\a<T.length:=by
   rcases hst with h | h
   ·exact h
   ·omega
  obtain ⟨m,rfl⟩:∃m:Nat,a=m:=⟨a.toNat,by omega⟩
  rw[Int.toNat_natCast] at hdr ⊢
  have hj:=jcons k hk1
  have hcut:T9 (T.drop m)=(X.getD k []).length:=by
   rw[hdr,hj]
   refine (gx k hk1).2 _ ?_
   split
   ·exact .inr ⟨_,rfl⟩
   ·exact .inl rfl
  have hjl:(Lib.join (X.drop k) [32]).length=T.length-m:=by rw[<- hdr,List.length_drop]
  have hxl:(X.getD k []).length+(if k+1<X.length then 1+(Lib.join (X.drop (k+1)) [32]).length else 0)=T.length-m:=by
   rw[<- hjl,hj,List.length_append]
   split
   ·rw[List.length_cons];omega
   ·rfl
  have hsub:List.drop m (List.take (m+T9 (T.drop m)) T)=X.getD k []:=by
   rw[List.drop_take,hcut,hdr,Nat.add_sub_cancel_left,hj]
   exact List.take_left' rfl
  rw[hsub,hcut]
  have wn:IntKind.i64.wrap (((m+(X.getD k []).length:Nat):Int)+1)=((m+(X.getD k []).length+1:Nat):Int):=by
   rw[Ba (by split at hxl<;>omega) (by split at hxl<;>omega)];rfl
  have hxp:=List.length_pos_iff.2 (gx k hk1).1
  refine⟨⟨by omega,by omega,by omega⟩,⟨by omega,by omega,by split at hxl<;>omega⟩,⟨by omega,by omega⟩,fun t2=>⟨((m+(X.getD k []).length+1:Nat):Int),t2,out++[X.getD k []],⟨⟨k+1,hk1,?_,?_⟩⟩,by omega,⟨wn,by simp,fun i hi=>O8 i hi,rfl⟩,rfl⟩⟩
  ·rw[hout,List.take_add_one,List.getElem?_eq_getElem hk1,List.getD_eq_getElem?_getD,List.getElem?_eq_getElem hk1];rfl
  ·by_cases h1:k+1<X.length
   ·rw[if_pos h1] at hxl
    have hp:=jpos (k+1) h1
    refine .inl ⟨h1,by omega,?_,by omega⟩
    rw[Int.toNat_natCast]
    have e:T.drop (m+(X.getD k []).length+1)=(T.drop m).drop ((X.getD k []).length+1):=by rw[List.drop_drop];congr 1
    rw[e,hdr,hj,if_pos h1,List.drop_append]
    simp
   ·rw[if_neg h1] at hxl
    exact .inr ⟨by omega,by omega⟩
 ·have hkl:k=X.length:=by
   rcases hst with h | h
   ·exact absurd h.2.2.2 hge
   ·exact h.1
  rw[hkl,List.take_length] at hout
  rw[hout]
  exact⟨rfl,fun _ _=>rfl⟩
theorem BpZ:liesAt Tryz.prog Tryz.prog.depth 52 (4 / Tryz.prog.cellsOf 52) 0 50 1=true:=by kernel_rfl
theorem BhY(b : Nat)(w : World)(h0 : w.cell? ⟨b, 0, none⟩=some (.pointer none))(hsh : w.shape? b=some (52, 4))(hfz : w.frozen? ⟨b, 0, none⟩=false) :
  Calls Tryz.prog 40 #[.pointer (some ⟨b,0,none⟩)] w fun e w'=>e=.returned (.tuple #[])/\w'=w.setCell ⟨b,0,none⟩ (.pointer (some ⟨b,0,none⟩)):=by
 obtain ⟨j,hj,hjs⟩:=Bmg
 go_enter Tryz.func40,Tryz.ntmps40
 go_wp2
 rw[Lib.run_to_unsafe w ⟨b,0,none⟩ tyB tyU hj (by rw[hjs];decide) hsh (Nat.zero_lt_succ 3)]
 simp only[Result.andThen]
 rw[Oper.upon_value]
 go_wp2
 rw[run_callFunc_extern Tryz.func64 (by kernel_rfl) (by kernel_rfl) (by kernel_rfl) (e:=Extern.AbiNoEscape.same) (by kernel_rfl)]
 rw[Lib.run_noEscape]
 simp only[Result.andThen]
 rw[Oper.upon_value]
 go_wp2
 rw[Lib.run_from_unsafe w ⟨b,0,none⟩ tyU tyB hj hsh BpZ]
 simp only[Result.andThen]
 rw[Oper.upon_value]
 go_wp2
 go_end0
 exact⟨rfl,rfl⟩
def sCx(k x E:Nat)(d:D)(ds:List D):FnSpec where
 β:=Unit
 α:=Unit
 args:=fun _=>[.ref k x 0]
 st:=fun _=>⟨[(k,x,.bldx 52 E d ds)],[]⟩
 pre:=fun _=>True
 post:=fun _ _=>True
 res:=fun _ _=>.ret (.tup [])
 out:=fun _ _=>⟨[(k,x,.bldx 52 E d ds)],[]⟩
theorem Bpn(k x E:Nat)(d:D)(ds:List D)(hds:ds.length=2):ACalls Tryz.prog 40 ((sCx k x E d ds).args ()) ((sCx k x E d ds).st ()) (SpecR (sCx k x E d ds) ()):=by
 refine⟨⟨_,Tryz.func40,by kernel_rfl,by kernel_rfl⟩,fun C F args w ha hs=>?_⟩
 obtain ⟨u,e,hu⟩:=EK ha
 have e2:args=[u].toArray:=by rw[<- e]
 subst e2
 simp only[Rep] at hu
 subst hu
 have hg:BJ ((sCx k x E d ds).st ()).objs k=some (x,.bldx 52 E d ds):=by simp[sCx,BJ]
 obtain ⟨c1,c2,arr,v0,v1,vs,fz,h1,hl,h2,h3,h4,h5,h6⟩:=hs.obj_of hg
 have hvs:vs.length=2:=(RepL.length h5).trans hds
 have hsz:arr.size=4:=by have:=congrArg List.length hl;simpa[hvs] using this
 have fin:∀w',Sat C (((sCx k x E d ds).st ()).add F) w'->∃C' r S',C.le C'/\Sat C' (S'.add F) w'/\RepEnd C' r (.returned (.tuple #[]))/\SpecR (sCx k x E d ds) () r S':=fun w' h =>
  ⟨C,.ret (.tup []),_,.refl C,h,by simp[RepEnd,Rep,RepL],(),trivial,rfl,rfl⟩
 have hc0:w.cell? ⟨x,0,none⟩=some v0:=by rw[Bs h1,<- Array.getElem?_toList,hl];rfl
 rcases h3 with rfl | rfl
 ·have hsh:w.shape? x=some (52,4):=by simp[World.shape?,h1,hsz]
  have hfz:w.frozen? ⟨x,0,none⟩=false:=Cr h1 h2 (by omega)
  refine (BhY x w hc0 hsh hfz).mono fun e w' ⟨he,hw⟩=>?_
  subst he hw
  refine fin _ ?_
  have hr:=CN h1 (o:=0) (.pointer (some ⟨x,0,none⟩))
  have:=hs.replace (o':=.bldx 52 E d ds) (w':=w.setCell ⟨x,0,none⟩ (.pointer (some ⟨x,0,none⟩))) hg (by simp) (fun j hj=>Go.RowKit.Below.heap_setCell _ _ _ _ hj) rfl rfl rfl ⟨_,_,v1,vs,fz,hr,by rw[Array.toList_setIfInBounds,hl];rfl,h2.set 0 _,.inr rfl,h4,h5,h6⟩
  simpa[sCx,St.set,Il] using this
 ·refine (BfX x w hc0).mono fun e w' ⟨he,hw⟩=>?_
  subst he hw
  exact fin _ hs
def Bfy:Con:=fun k ds S=>match k with
 |40=>match ds with
  | [.ref k x 0]=>match BJ S.objs k with
   |some (y,.bldx T E d ds)=>some ((sCx k x E d ds).fits () (y=x/\T=52/\OP d=true/\ds.length=2))
   |_=>none
  |_=>none
 |_=>none
theorem BcM:ConOk Tryz.prog Bfy:=by
 intro k ds S A h
 unfold Bfy at h
 split at h
 ·split at h
  ·rename_i k x
   split at h
   ·rename_i y T E d ds hg
    injection h with h;subst h
    refine⟨fun _ hp=>Bpn k x E d ds hp.1.2.2.2,fun _ _ hy=>?_,fun h=>nomatch h⟩
    obtain ⟨⟨rfl,rfl,ht,_⟩,_⟩:=hy
    refine⟨⟨by simp[Bn,chk],trivial⟩,Bb.2 ⟨rfl,?_,trivial⟩⟩
    simp only[FnSpec.fits,sCx,leO,hg]
    exact⟨trivial,Bb.2 ⟨by simp[ht],Bp _,Bk _⟩,trivial⟩
   ·cases h
  ·cases h
 ·cases h
def sXs(e1:List UInt8)(e2:Int)(f:List UInt8)(E x t:Nat)(l:List UInt8)(r:AEnd)(ar:List D):FnSpec where
 β:=Unit
 α:=Nat
 args:=fun _=>.ref 0 x 0::ar
 st:=fun _=>⟨[(0,x,.bldx 52 E (bsl l (.tok 0 t)) [.str e1,.int .i64 e2])],[(0,t)]⟩
 pre:=fun _=>True
 post:=fun _ _=>True
 res:=fun _ _=>r
 out:=fun _ t'=>⟨[(0,x,.bldx 52 E (bsl (l++f) (.tok 0 t')) [.str e1,.int .i64 e2])],[(0,t')]⟩
noncomputable def Exws:Senv:={ EC Bfy 19 2 [4,5] (fun _=>([],[])) with own:=fun t=>Nat.beq t 48 }
theorem BoA(e1 : List UInt8)(e2 : Int)(x t : Nat)(l s : List UInt8)(hl : l.length+s.length<=140737488355328) :
  ACalls Tryz.prog 35 ((sXs e1 e2 s 5 x t l (.ret (.tup [.int .i64 s.length,.nili])) [.str s]).args ()) ((sXs e1 e2 s 5 x t l (.ret (.tup [.int .i64 s.length,.nili])) [.str s]).st ()) (SpecR (sXs e1 e2 s 5 x t l (.ret (.tup [.int .i64 s.length,.nili])) [.str s]) ()):=by
 refine Bg (A:=sXs e1 e2 s 5 x t l (.ret (.tup [.int .i64 s.length,.nili])) [.str s]) (x:=()) (E:=Exws) (eOk BcM rfl) Tryz.func35 rfl (by kernel_rfl) rfl (by simp[sXs,Exws,EC,E0]) ?_
 refine Bi (T :=
  ((SM x/\SM (52:Nat)/\SM true/\SM N2)/\True)/\∀(y:Unit),True->SM x/\SM t/\Bc ((LN l+LN s)*N1<=140737488355328/\LN l+LN s<=9223372036854775807) (∀(t1:Nat),(t % (1000003:Nat)=N6->t1 % (1000003:Nat)=N6)->SM x/\(t % (1000003:Nat)=N6->t1 % (1000003:Nat)=N6)/\True/\∃(y:Nat),True/\(SM (LI s)/\True/\True)/\(SM x/\((LN l+LN s=LN (l++s)/\(∀(i:Nat),i<LN l+LN s->BN (LN l) (fun i=>[ZB (BI l i)]) (fun i=>[ZB (BI s i)]) i=[ZB (BI (l++s) i)])/\t1=y)/\SM e1/\SM e2/\True)/\True)/\t1=y/\True)) (by kernel_rfl) ?_
 delta BI LI LN N1 N2 N6 SM U0 ZB
 refine⟨⟨⟨rfl,rfl,rfl,rfl⟩,trivial⟩,fun _ _=>⟨rfl,rfl,?_⟩⟩
 rw[Bd]
 refine⟨by omega,fun t1 ht=>⟨rfl,ht,trivial,t1,?_⟩⟩
 repeat' (first | exact trivial | exact rfl | exact I8 rfl (fun _ _=>rfl) (fun _ _=>rfl) | exact List.length_append.symm | refine And.intro ?_ ?_)
noncomputable def Exwb:Senv:={ EC Bfy 17 2 [4] (fun _=>([],[])) with own:=fun t=>Nat.beq t 48 }
theorem BpQ(e1 : List UInt8)(e2 : Int)(x t : Nat)(l : List UInt8)(b : UInt8)(hl : l.length+1<=140737488355328) :
  ACalls Tryz.prog 19 ((sXs e1 e2 [b] 5 x t l (.ret .nili) [.int .u8 (b.toNat:Int)]).args ()) ((sXs e1 e2 [b] 5 x t l (.ret .nili) [.int .u8 (b.toNat:Int)]).st ()) (SpecR (sXs e1 e2 [b] 5 x t l (.ret .nili) [.int .u8 (b.toNat:Int)]) ()):=by
 refine Bg (A:=sXs e1 e2 [b] 5 x t l (.ret .nili) [.int .u8 (b.toNat:Int)]) (x:=()) (E:=Exwb) (eOk BcM rfl) Tryz.func19 rfl (by kernel_rfl) rfl (by simp[sXs,Exwb,EC,E0]) ?_
 refine Bi (T :=
  ((SM x/\SM (52:Nat)/\SM true/\SM N2)/\True)/\∀(y:Unit),True->SM x/\SM t/\Bc ((LN l+N1)*N1<=140737488355328/\LN l+N1<=9223372036854775807) (∀(t1:Nat),(t % (1000003:Nat)=N6->t1 % (1000003:Nat)=N6)->SM x/\(t % (1000003:Nat)=N6->t1 % (1000003:Nat)=N6)/\True/\∃(y:Nat),True/\True/\(SM x/\((LN l+N1=LN (l++[b])/\(∀(i:Nat),i<LN l+N1->BN (LN l) (fun i=>[ZB (BI l i)]) (fun i=>List.getD [[ZB (NI (UInt8.toNat b))]] i []) i=[ZB (BI (l++[b]) i)])/\t1=y)/\SM e1/\SM e2/\True)/\True)/\t1=y/\True)) (by kernel_rfl) ?_
 delta BI LN N1 N2 N6 NI SM U0 ZB
 refine⟨⟨⟨rfl,rfl,rfl,rfl⟩,trivial⟩,fun _ _=>⟨rfl,rfl,?_⟩⟩
 rw[Bd]
 refine⟨by omega,fun t1 ht=>⟨rfl,ht,trivial,t1,?_⟩⟩
 repeat' (first | exact trivial | exact rfl | exact MD rfl (fun _ _=>rfl) rfl | (simp;done) | refine And.intro ?_ ?_)
def sXw(e1:List UInt8)(e2:Int)(f:List UInt8)(k kt x t:Nat)(l:List UInt8)(r:AEnd)(ar:List D):FnSpec where
 β:=Unit
 α:=Nat
 args:=fun _=>.ref k x 0::ar
 st:=fun _=>⟨[(k,x,.bldx 52 5 (bsl l (.tok kt t)) [.str e1,.int .i64 e2])],[(kt,t)]⟩
 pre:=fun _=>True
 post:=fun _ _=>True
 res:=fun _ _=>r
 out:=fun _ t'=>⟨[(k,x,.bldx 52 5 (bsl (l++f) (.tok kt t')) [.str e1,.int .i64 e2])],[(kt,t')]⟩
theorem Boj{g : Nat}{e1 : List UInt8}{e2 : Int}{f : List UInt8}(k kt x t : Nat){l : List UInt8}{r : AEnd}{ar : List D}(h : ACalls Tryz.prog g ((sXs e1 e2 f 5 x t l r ar).args ()) ((sXs e1 e2 f 5 x t l r ar).st ()) (SpecR (sXs e1 e2 f 5 x t l r ar) ())) :
  ACalls Tryz.prog g ((sXw e1 e2 f k kt x t l r ar).args ()) ((sXw e1 e2 f k kt x t l r ar).st ()) (SpecR (sXw e1 e2 f k kt x t l r ar) ()):=by
 refine h.respec (A':=sXw e1 e2 f k kt x t l r ar) (x':=()) ?_ ?_ fun y _=>⟨y,trivial,?_,?_⟩
 ·simp[sXw,sXs,BD,Bn,chk,Bk]
 ·simp[sXw,sXs,Bbm,RM,BbS,GF,BD,Bn,chk,bsl,BG,OP,kEq]
 ·simp only[sXw,sXs];cases r<;>simp[M1,Bp]
 ·simp[sXw,sXs,Bbm,RM,BbS,GF,BD,Bn,chk,bsl,BG,OP,kEq]<;>try rfl
theorem Bhz(b g cap cs : Nat)(ar : Array Value)(fz : Nat×Nat)(arr : Array Value)(fg : Nat×Nat)(l : List UInt8)(w : World)(h0 : l≠[])(hn : l.length<=cap)(hcs : l.length<=arr.size)(h63 : l.length<=9223372036854775807)
  (hbk:w.heap[b]? =some (.cells ar cs fz)) (har:ar[1]? =some (.slice (some ⟨g,0,none⟩) l.length cap)) (hg:w.heap[g]? =some (.cells arr 5 fg))
  (hcell:∀j x,l[j]? =some x->w.cell? ⟨g,j,none⟩=some (.int .u8 x.toNat)) :
  Calls Tryz.prog 20 #[.pointer (some ⟨b,0,none⟩)] w fun e w'=>e=.returned (.string ⟨l.toArray⟩)/\w'=w.drew.freeze ⟨g,0,none⟩ l.length:=by
 have hl0:l.length≠0:=by simpa using h0
 have c1:w.drew.cell? ⟨b,1,none⟩=some (.slice (some ⟨g,0,none⟩) l.length cap):=by
  have:w.drew.heap[b]? =some (.cells ar cs fz):=hbk
  rw[Bs this];exact har
 have hSD:(Builtin.unsafeSliceData_ #[48] 81 #[.slice (some ⟨g,0,none⟩) l.length cap]).run Tryz.prog w.drew=.ok (.pointer (some ⟨g,0,none⟩)) w.drew :=
  Lib.run_unsafeSliceData_row _ _ _ _ _ _ (by omega)
 have hUS:(Builtin.unsafeString_ #[81,3] 9 #[.pointer (some ⟨g,0,none⟩),.int .i64 l.length]).run Tryz.prog w.drew=.ok (.string ⟨l.toArray⟩) (w.drew.freeze ⟨g,0,none⟩ l.length):=by
  refine Lib.run_unsafeString_row w.drew 81 3 9 5 Tryz.underlying81 (by kernel_rfl) g arr.size (by have hg':w.drew.heap[g]? =some (.cells arr 5 fg):=hg;simp[World.shape?,hg']) l h0 hcs h63 ?_
  intro j x hx
  have e:w.drew.cell? ⟨g,j,none⟩=some (.int .u8 x.toNat):=hcell j x hx
  have e2:(if j=0 then (⟨g,0,none⟩:Addr) else ⟨g,j,none⟩)=⟨g,j,none⟩:=by split<;>simp_all
  simpa[Addr.add,e2] using e
 have mixed:Tryz.prog.follows .mixedOrders=true:=by kernel_rfl
 go_enter Tryz.func20,Tryz.ntmps20
 go_wp2
 go_region_o
 all_goals (go_wp2;go_ret;exact⟨rfl,rfl⟩)
theorem BjO(b cs : Nat)(ar : Array Value)(fz : Nat×Nat)(w : World)(hbk : w.heap[b]? =some (.cells ar cs fz))(har : ar[1]? =some (.slice none 0 0)) :
  Calls Tryz.prog 20 #[.pointer (some ⟨b,0,none⟩)] w fun e w'=>e=.returned (.string ⟨#[]⟩)/\Go.RowKit.Below w.heap.size w w':=by
 have hUS:∀W,(Builtin.unsafeString_ #[81,3] 9 #[.pointer none,.int .i64 0]).run Tryz.prog W=.ok (.string .empty) W:=fun W=>Lib.run_unsafeString_none W _ _ _ none
 have c1:w.drew.cell? ⟨b,1,none⟩=some (.slice none 0 0):=by
  have:w.drew.heap[b]? =some (.cells ar cs fz):=hbk
  rw[Bs this];exact har
 have hSD:(Builtin.unsafeSliceData_ #[48] 81 #[.slice none 0 0]).run Tryz.prog w.drew=.ok (.pointer none) w.drew:=Lib.run_unsafeSliceData_nil _ _ _ _ _
 have mixed:Tryz.prog.follows .mixedOrders=true:=by kernel_rfl
 go_enter Tryz.func20,Tryz.ntmps20
 go_wp2
 go_region_o
 all_goals (go_wp2;go_ret;exact⟨rfl,Go.RowKit.Below.drew (Go.RowKit.Below.refl _ w)⟩)
theorem Bhm(b g cap cs : Nat)(ar : Array Value)(fz : Nat×Nat)(w : World)(hc0 : cap≠0)(hbk : w.heap[b]? =some (.cells ar cs fz))(har : ar[1]? =some (.slice (some ⟨g, 0, none⟩) 0 cap)) :
  Calls Tryz.prog 20 #[.pointer (some ⟨b,0,none⟩)] w fun e w'=>e=.returned (.string ⟨#[]⟩)/\Go.RowKit.Below w.heap.size w w':=by
 have hUS:∀W,(Builtin.unsafeString_ #[81,3] 9 #[.pointer (some ⟨g,0,none⟩),.int .i64 0]).run Tryz.prog W=.ok (.string .empty) W:=fun W=>Lib.run_unsafeString_none W _ _ _ _
 have c1:w.drew.cell? ⟨b,1,none⟩=some (.slice (some ⟨g,0,none⟩) 0 cap):=by
  have:w.drew.heap[b]? =some (.cells ar cs fz):=hbk
  rw[Bs this];exact har
 have hSD:(Builtin.unsafeSliceData_ #[48] 81 #[.slice (some ⟨g,0,none⟩) 0 cap]).run Tryz.prog w.drew=.ok (.pointer (some ⟨g,0,none⟩)) w.drew :=
  Lib.run_unsafeSliceData_row _ _ _ _ _ _ hc0
 clear hc0
 have mixed:Tryz.prog.follows .mixedOrders=true:=by kernel_rfl
 go_enter Tryz.func20,Tryz.ntmps20
 go_wp2
 go_region_o
 all_goals (go_wp2;go_ret;exact⟨rfl,Go.RowKit.Below.drew (Go.RowKit.Below.refl _ w)⟩)
theorem Bdm(b g cs : Nat)(ar : Array Value)(fz fg : Nat×Nat)(arr : Array Value)(E : Nat)(w : World)(hg : w.heap[g]? =some (.cells arr E fg))(hbk : w.heap[b]? =some (.cells ar cs fz))(har : ar[1]? =some (.slice (some ⟨g, 0, none⟩) 0 0)) :
  Calls Tryz.prog 20 #[.pointer (some ⟨b,0,none⟩)] w fun e w'=>e=.returned (.string ⟨#[]⟩)/\Go.RowKit.Below w.heap.size w w':=by
 have hUS:∀W q,(Builtin.unsafeString_ #[81,3] 9 #[.pointer q,.int .i64 0]).run Tryz.prog W=.ok (.string .empty) W:=fun W q=>Lib.run_unsafeString_none W _ _ _ q
 have hb:b<w.heap.size:=(Array.getElem?_eq_some_iff.1 hbk).1
 have c1:w.drew.cell? ⟨b,1,none⟩=some (.slice (some ⟨g,0,none⟩) 0 0):=by
  have:w.drew.heap[b]? =some (.cells ar cs fz):=hbk
  rw[Bs this];exact har
 have c0:w.cell? ⟨b,1,none⟩=some (.slice (some ⟨g,0,none⟩) 0 0):=c1
 have hSD:(Builtin.unsafeSliceData_ #[48] 81 #[.slice (some ⟨g,0,none⟩) 0 0]).run Tryz.prog w.drew=.ok (.pointer (some ⟨w.drew.heap.size,0,none⟩)) (w.drew.alloc (.view ⟨g,0,none⟩ 5)) :=
  Lib.run_unsafeSliceData_zero _ _ _ _ Tryz.underlying81 _ _ (E,arr.size) (by have hg':w.drew.heap[g]? =some (.cells arr E fg):=hg;simp[World.shape?,hg'])
 have hSD0:(Builtin.unsafeSliceData_ #[48] 81 #[.slice (some ⟨g,0,none⟩) 0 0]).run Tryz.prog w=.ok (.pointer (some ⟨w.heap.size,0,none⟩)) (w.alloc (.view ⟨g,0,none⟩ 5)) :=
  Lib.run_unsafeSliceData_zero _ _ _ _ Tryz.underlying81 _ _ (E,arr.size) (by simp[World.shape?,hg])
 have c2:(w.drew.alloc (.view ⟨g,0,none⟩ 5)).cell? ⟨b,1,none⟩=some (.slice (some ⟨g,0,none⟩) 0 0):=by
  rw[World.cell?_alloc_lt _ _ _ hb];exact c1
 have c3:(w.alloc (.view ⟨g,0,none⟩ 5)).drew.cell? ⟨b,1,none⟩=some (.slice (some ⟨g,0,none⟩) 0 0):=c2
 have mixed:Tryz.prog.follows .mixedOrders=true:=by kernel_rfl
 go_enter Tryz.func20,Tryz.ntmps20
 go_wp2
 go_region_o
 all_goals (go_wp2;go_ret;exact⟨rfl,(Go.RowKit.Below.drew (Go.RowKit.Below.refl _ w)).alloc (Nat.le_refl _) _⟩)
def sXt(ds:List D)(k kt x t:Nat)(l:List UInt8):FnSpec where
 β:=Unit
 α:=Unit
 args:=fun _=>[.ref k x 0]
 st:=fun _=>⟨[(k,x,.bldx 52 5 (bsl l (.tok kt t)) ds)],[(kt,t)]⟩
 pre:=fun _=>True
 post:=fun _ _=>True
 res:=fun _ _=>.ret (.str l)
 out:=fun _ _=>⟨[],[]⟩
theorem BmK(ds:List D)(k kt x t:Nat)(l:List UInt8)(h63:l.length<=9223372036854775807):ACalls Tryz.prog 20 ((sXt ds k kt x t l).args ()) ((sXt ds k kt x t l).st ()) (SpecR (sXt ds k kt x t l) ()):=by
 refine⟨⟨_,Tryz.func20,by kernel_rfl,by kernel_rfl⟩,fun C F args w ha hs=>?_⟩
 obtain ⟨u,e,hu⟩:=EK ha
 have e2:args=[u].toArray:=by rw[<- e]
 subst e2
 simp only[Rep] at hu
 subst hu
 have hg:BJ ((sXt ds k kt x t l).st ()).objs k=some (x,.bldx 52 5 (bsl l (.tok kt t)) ds):=by simp[sXt,BJ]
 obtain ⟨c1,c2,arx,v0,v1,vs,fz,h1,hla,h2,h3,h4,_,h5⟩:=hs.obj_of hg
 have h5:ES t=5+1:=h5
 simp only[bsl,Rep] at h4
 obtain ⟨a,len,cap,rfl,hh,hr⟩:=h4
 have har:arx[1]? =some (.slice a len cap):=by rw[<- Array.getElem?_toList,hla];rfl
 have hlen:len=l.length:=hh.1
 subst hlen
 have hF:Sat C F w:=by
  have h:=hs.le (S':=⟨[],[]⟩) ⟨List.nil_sublist _,List.nil_sublist _⟩
  simpa[St.add] using h
 have fin:∀w',Sat C F w'->∃C' r S',C.le C'/\Sat C' (S'.add F) w'/\RepEnd C' r (.returned (.string ⟨l.toArray⟩))/\SpecR (sXt ds k kt x t l) () r S':=fun w' h =>
  ⟨C,.ret (.str l),⟨[],[]⟩,.refl C,h,by simp[RepEnd,Rep],(),trivial,rfl,rfl⟩
 have h6:=hh.2.2.2.2.2
 have hcap:l.length<=cap:=hh.2.1
 simp only at h6
 have hmem:(kt,t)∈(((sXt ds k kt x t l).st ()).add F).toks:=by simp[sXt,St.add]
 obtain ⟨q,q1,q2,q3⟩:=hs.toks (kt,t) hmem
 simp only at q1
 rw[q1] at h6
 cases q with
 |no =>
  simp only at h6
  have ha0:a=none:=h6.2 (by rw[h5];omega)
  subst ha0
  have hl0:=(hh.2.2.2.1 rfl)
  have hl:l=[]:=List.length_eq_zero_iff.1 hl0.1
  subst hl
  obtain rfl:cap=0:=hl0.2
  refine (BjO x _ arx fz w h1 har).mono fun e w' ⟨he,hb⟩=>?_
  subst he
  exact fin w' (hF.kept hb)
 | «at» g n cp wd =>
  obtain ⟨rfl,rfl,rfl,rfl⟩:=h6
  obtain ⟨p1,p2,arr,E,fg,p3,p4,p5,p6⟩:=q2
  have hE:E=5:=Nat.succ.inj ((p6 (by simp only;rw[h5];omega)).trans h5)
  subst hE
  by_cases hl:l=[]
  ·subst hl
   by_cases hc:cp=0
   ·subst hc
    refine (Bdm x g _ arx fz fg arr _ w p3 h1 har).mono fun e w' ⟨he,hb⟩=>?_
    subst he
    exact fin w' (hF.kept hb)
   ·refine (Bhm x g cp _ arx fz w hc h1 har).mono fun e w' ⟨he,hb⟩=>?_
    subst he
    exact fin w' (hF.kept hb)
  ·refine (Bhz x g cp _ arx fz arr fg l w hl hcap (by rw[p5];omega) h63 h1 har p3 fun j y hy=>?_).mono fun e w' ⟨he,hw⟩=>?_
   ·have hj:j<l.length:=(List.getElem?_eq_some_iff.1 hy).1
    have hrow:=(hr ⟨g,0,none⟩ rfl j hj).2
    simp only[RepCells] at hrow
    obtain ⟨⟨v,i1,i2⟩,_⟩:=hrow
    simp only[Rep] at i2
    subst i2
    have:=hs.imm _ _ _ i1
    have e:l.getD j 0=y:=by rw[List.getD_eq_getElem?_getD,hy];rfl
    rw[e] at this
    simpa using this
   ·subst he hw
    refine fin _ (Wa hF.drew p1 (fun p hp e=>q3 p (by simp[St.add,hp]) e.symm) fun s hs2 y hy hcl=>?_)
    cases y with
    |no=>exact hcl
    | «at» b' n' c' wd' =>
     have hcl:b'=g:=hcl
     have hnd:=hs.tnodup
     simp only[St.add,sXt,List.cons_append,List.nil_append,List.map_cons,List.nodup_cons] at hnd
     have hne:t≠s.2:=fun e=>hnd.1 (e ▸ List.mem_map_of_mem hs2)
     exact hs.tdist (kt,t) s _ _ _ _ _ _ _ _ hmem (by simp[St.add,hs2]) hne q1 hy hcl.symm
def Ox(ts:List (Nat×Nat))(x y T E kt t n:Nat)(g:Nat->List D):Prop:=y=x/\T=52/\E=5/\Bgu ts kt t/\Iy n g=true
def Bgx(base:Con):Con:=fun k ds S=>match k with
 |35=>match ds with
  | [.ref k x 0,.str s]=>match BJ S.objs k with
   |some (y,.bldx T E (.sl 1 n g (.tok kt t)) [.str e1,.int .i64 e2])=>some ((sXw e1 e2 s k kt x t (bytesOf n g) (.ret (.tup [.int .i64 s.length,.nili])) [.str s]).fits () (Ox S.toks x y T E kt t n g/\n+s.length<=140737488355328))
   |_=>none
  |_=>none
 |19=>match ds with
  | [.ref k x 0,.int .u8 z]=>match BJ S.objs k with
   |some (y,.bldx T E (.sl 1 n g (.tok kt t)) [.str e1,.int .i64 e2])=>some ((sXw e1 e2 [Cu z] k kt x t (bytesOf n g) (.ret .nili) [.int .u8 z]).fits () (Ox S.toks x y T E kt t n g/\(0<=z/\z<=255)/\n+1<=140737488355328))
   |_=>none
  |_=>none
 |20=>match ds with
  | [.ref k x 0]=>match BJ S.objs k with
   |some (y,.bldx T E (.sl 1 n g (.tok kt t)) ex)=>some ((sXt ex k kt x t (bytesOf n g)).fits () (Ox S.toks x y T E kt t n g/\n<=140737488355328))
   |_=>none
  |_=>none
 |k=>base k ds S
theorem Tp{os : List (Nat×Nat×AObj)}{k x y T E n kt t : Nat}{g : Nat -> List D}{ex : List D}(hg : BJ os k=some (y, .bldx T E (.sl 1 n g (.tok kt t)) ex))(h1 : y=x)(h2 : T=52)(h3 : E=5)(hr : Iy n g=true) :
  leO [(k,x,.bldx 52 5 (bsl (bytesOf n g) (.tok kt t)) ex)] os:=by
 subst h1 h2 h3
 simp only[leO,hg,GF]
 exact⟨trivial,Bb.2 ⟨by simp[OP,bsl],Bdz hr,Bk _⟩,trivial⟩
theorem Ra{base:Con}(hb:ConOk Tryz.prog base):ConOk Tryz.prog (Bgx base):=by
 intro k ds S A h
 unfold Bgx at h
 split at h
 ·split at h
  ·split at h
   ·rename_i k x s _ y T E n g kt t e1 e2 hg
    injection h with h;subst h
    refine⟨fun _ hy=>Boj k kt x t (BoA e1 e2 x t (bytesOf n g) s (by simpa[bytesOf] using hy.1.2)),fun _ _ hy=>?_,fun h=>nomatch h⟩
    obtain ⟨⟨⟨h1,h2,h3,h4,h5⟩,_⟩,_⟩:=hy
    exact⟨⟨by simp[Bn,chk],by simp[Bn],trivial⟩,Bb.2 ⟨rfl,Tp hg h1 h2 h3 h5,I3 h4⟩⟩
   ·cases h
  ·cases h
 ·split at h
  ·split at h
   ·rename_i k x z _ y T E n g kt t e1 e2 hg
    injection h with h;subst h
    refine⟨fun _ hy=>?_,fun _ _ hy=>?_,fun h=>nomatch h⟩
    ·have:=Boj k kt x t (BpQ e1 e2 x t (bytesOf n g) (Cu z) (by simpa[bytesOf] using hy.1.2.2))
     rw[M0 hy.1.2.1] at this
     exact this
    ·obtain ⟨⟨⟨h1,h2,h3,h4,h5⟩,_⟩,_⟩:=hy
     exact⟨⟨by simp[Bn,chk],Bp _,trivial⟩,Bb.2 ⟨rfl,Tp hg h1 h2 h3 h5,I3 h4⟩⟩
   ·cases h
  ·cases h
 ·split at h
  ·split at h
   ·rename_i k x _ y T E n g kt t ex hg
    injection h with h;subst h
    refine⟨fun _ hy=>BmK ex k kt x t (bytesOf n g) (by have:=hy.1.2;simp[bytesOf];omega),fun _ _ hy=>?_,fun h=>nomatch h⟩
    obtain ⟨⟨⟨h1,h2,h3,h4,h5⟩,_⟩,_⟩:=hy
    exact⟨⟨by simp[Bn,chk],trivial⟩,Bb.2 ⟨rfl,Tp hg h1 h2 h3 h5,I3 h4⟩⟩
   ·cases h
  ·cases h
 ·exact hb _ _ _ _ h
theorem repB(n:Nat):Lib.repeatL [32,32] n=List.replicate (2*n) 32:=by
 induction n with
 |zero=>rfl
 |succ n ih =>
  rw[<- Tc,ih,show 2*(n+1)=2*n+2 by omega,<- List.replicate_append_replicate]
  rfl
noncomputable def Epr1:Senv:=EC EB 5 2 [4] (fun _=>([],[]))
theorem Bp9(a b:List UInt8):CD 16 [.str a,.str b] (.bool true):=by
 refine Bg (A:=sC _ _) (x:=()) (E:=Epr1) (eOk BM rfl) Tryz.func16 rfl (by kernel_rfl) rfl (by simp[sC,Epr1,EC,E0]) ?_
 refine Bi (T :=
  RT (SM true)) (by kernel_rfl) ?_
 delta SM RT
 simp only[eq_self,and_true,exists_const]
 try trivial
noncomputable def Epr2:Senv:=EC BmH 6 1 [2] (fun _=>([],[]))
theorem BqQ(lv:Int)(h0:0<=lv)(h1:lv<=100000):CD 17 [.int .i64 lv] (.str (Gk lv)):=by
 refine Bg (A:=sC _ _) (x:=()) (E:=Epr2) (eOk Bgw rfl) Tryz.func17 rfl (by kernel_rfl) rfl (by simp[sC,Epr2,EC,E0]) ?_
 refine Bi (T :=
  (Z0<=lv/\lv<=9223372036854775807/\N2*Int.toNat lv<=140737488355328)/\∀(y:Unit),True->Bc (N1+LN (Lib.repeatL [(32:UInt8),(32:UInt8)] (Int.toNat lv))<=9223372036854775807) (RT ((10:UInt8)::List.append [] (Lib.repeatL [(32:UInt8),(32:UInt8)] (Int.toNat lv))=Gk lv))) (by kernel_rfl) ?_
 delta LN N1 N2 Z0 RT
 simp only[Bd,true_and,and_true,exists_const,forall_const]
 have e:(10::[].append (Lib.repeatL [32,32] lv.toNat):List UInt8)=Gk lv:=by
  rw[repB];rfl
 refine⟨⟨h0,by omega,by omega⟩,?_,e⟩
 rw[repB,List.length_replicate];omega
noncomputable def Ecp2:Senv:=EC EB 3 1 [2] (fun _=>([],[]))
theorem Bqs(lv:Int):CD 26 [.int .i64 lv] (.str [59]):=by
 refine Bg (A:=sC _ _) (x:=()) (E:=Ecp2) (eOk BM rfl) Tryz.func26 rfl (by kernel_rfl) rfl (by simp[sC,Ecp2,EC,E0]) ?_
 refine Bi (T :=
  RT (SM [(59:UInt8)])) (by kernel_rfl) ?_
 delta SM RT
 simp only[eq_self,and_true,exists_const]
 try trivial
theorem BlH{p:UInt8->Prop}(h:∀n,n<256->p (UInt8.ofNat n))(c:UInt8):p c:=by
 have:=h c.toNat c.toNat_lt
 rwa [UInt8.ofNat_toNat] at this
noncomputable def Ewo:Senv:=EC EB 29 1 [2] (fun _=>([],[]))
def Ql4(a:UInt8):Bool:=bif bif bif bif decide ((97:Int)<=(NI (UInt8.toNat a))) then decide ((NI (UInt8.toNat a))<=122) else false then true else bif decide ((65:Int)<=(NI (UInt8.toNat a))) then decide ((NI (UInt8.toNat a))<=90) else false then true else bif decide ((48:Int)<=(NI (UInt8.toNat a))) then decide ((NI (UInt8.toNat a))<=57) else false then true else (NI (UInt8.toNat a))==95
def Ql5(a:UInt8):Prop:=true=Ql4 a/\True
def QIT(a:UInt8):Prop:=((NI (UInt8.toNat a))==95)=Ql4 a/\True
def QIU(a:UInt8):Prop:=ifB (decide ((48:Int)<=(NI (UInt8.toNat a)))) (ifB (decide ((NI (UInt8.toNat a))<=57)) (Ql5 a) (QIT a)) (QIT a)
def QIV(a:UInt8):Prop:=ifB (decide ((65:Int)<=(NI (UInt8.toNat a)))) (ifB (decide ((NI (UInt8.toNat a))<=90)) (Ql5 a) (QIU a)) (QIU a)
theorem BqB(c:UInt8):CD 25 [.int .u8 (c.toNat:Int)] (.bool (Mf c)):=by
 refine Bg (A:=sC _ _) (x:=()) (E:=Ewo) (eOk BM rfl) Tryz.func25 rfl (by kernel_rfl) rfl (by simp[sC,Ewo,EC,E0]) ?_
 refine Bi (T :=
  ifB (decide ((97:Int)<=(NI (UInt8.toNat c)))) (ifB (decide ((NI (UInt8.toNat c))<=122)) (Ql5 c) (QIV c)) (QIV c)/\RT (Ql4 c=Mf c)) (by kernel_rfl) ?_
 delta NI Ql4 Ql5 QIT QIU QIV RT
 simp only[Bf,decide_eq_true_eq,decide_eq_false_iff_not,true_and,and_true,exists_const]
 refine⟨?_,?_⟩
 ·generalize ((c.toNat:Nat):Int)=z
  repeat' first
   |(intro h;simp only[h])
   |apply And.intro
  all_goals simp[*]
 ·revert c
  refine BlH ?_
  decide +kernel
def Bjf:Con:=fun k ds S=>match k with
 |25=>match ds with
  | [.int .u8 z]=>some (pA ds S (.bool (Mf (Cu z))) (0<=z/\z<=255))
  |_=>none
 |_=>none
theorem BkS:ConOk Tryz.prog Bjf:=by
 intro k ds S A hh
 unfold Bjf at hh
 split at hh
 ·split at hh
  ·rename_i z
   injection hh with hh;subst hh
   refine Bo fun h=>CD.at_ ?_ _
   have:=BqB (Cu z)
   rw[M0 h] at this
   exact this
  ·cases hh
 ·cases hh
theorem Ty(c:UInt8){n:Nat}{z:Int}(hn:n<256)(hz:z=n):(((c.toNat:Nat):Int)=z)↔c=UInt8.ofNat n:=by
 constructor
 ·intro h
  have h:c.toNat=n:=by omega
  rw[<- h]
  exact (UInt8.ofNat_toNat).symm
 ·rintro rfl
  rw[UInt8.toNat_ofNat'];omega
theorem BcJ(c:UInt8):Cu (c.toNat:Int)=c:=by
 unfold Cu
 rw[Int.toNat_natCast,UInt8.ofNat_toNat]
theorem Bf2(c:UInt8):((c.toNat:Nat):Int)<=255:=by
 have:=c.toNat_lt
 omega
noncomputable def Ecp1:Senv:={ EC Bjf 40 2 [4,5,6] (fun id=>match id with | 1=>([0,1,2,3,4,5,6,7,8],[]) | _=>([],[])) with mg:=fun _=>2 }
def Ql6(a:List UInt8):Int:=IntKind.wrap IntKind.i64 ((LI a)-Z1)
def HP(a:List UInt8):Int:=(BI a (Int.toNat (Ql6 a)))
def YO(a:List UInt8):Int:=(BI a N0)
def Ql7(a b:List UInt8):Prop:=True/\∃(_y:Unit),True/\true=Eh a b/\True/\True
def QIW(a b:List UInt8):Prop:=ifB (HP a==62) (True/\∃(_y:Unit),True/\(YO b==61)=Eh a b/\True/\True) (True/\∃(_y:Unit),True/\false=Eh a b/\True/\True)
def QIX(a b:List UInt8):Prop:=ifB (HP a==60) (ifB (YO b==61) (Ql7 a b) (ifB (YO b==45) (Ql7 a b) (QIW a b))) (QIW a b)
theorem Bqf(a b:List UInt8)(ha:a≠[])(hb:b≠[])(hal:a.length<=100000000000000):CD 24 [.str a,.str b] (.bool (Eh a b)):=by
 refine Bg (A:=sC _ _) (x:=()) (E:=Ecp1) (eOk BkS rfl) Tryz.func24 rfl (by kernel_rfl) rfl (by simp[sC,Ecp1,EC,E0]) ?_
 refine Bi (T :=
  Bc (Z0<=Ql6 a/\Ql6 a<(LI a)) (Bc (Z0<=Z0/\Z0<(LI b)) (∃(x:Unit),(Z0<=HP a/\HP a<=255)/\∀(y:Unit),True->ifB (Mf (Cu (HP a))) (∃(x:Unit),(Z0<=YO b/\YO b<=255)/\∀(y:Unit),True->ifB (Mf (Cu (YO b))) (Ql7 a b) (QIX a b)) (QIX a b)))) (by kernel_rfl) ?_
 delta BI LI LN N0 U0 Z0 Z1 QIX Ql6 HP YO Ql7 QIW
 simp only[ne_eq,Bf,Bd,true_and,and_true,beq_iff_eq,beq_eq_false_iff_ne,exists_const,forall_const]
 have ha0:0<a.length:=List.length_pos_iff.2 ha
 have hb0:0<b.length:=List.length_pos_iff.2 hb
 have e1:IntKind.i64.wrap ((a.length:Int)-1)=((a.length-1:Nat):Int):=by rw[Ba (by omega) (by omega)];omega
 simp only[e1,Int.toNat_natCast,BcJ]
 unfold Eh
 generalize a.getD (a.length-1) 0=x
 generalize b.getD 0 0=y
 have k60:=Ty x (n:=60) (z:=60) (by omega) rfl
 have k62:=Ty x (n:=62) (z:=62) (by omega) rfl
 have k61:=Ty y (n:=61) (z:=61) (by omega) rfl
 have k45:=Ty y (n:=45) (z:=45) (by omega) rfl
 have k61b:(((y.toNat:Nat):Int)==61)=(y==61):=by rw[Bool.eq_iff_iff,beq_iff_eq,beq_iff_eq];exact k61
 have hx:=Bf2 x
 have hy:=Bf2 y
 refine⟨⟨by omega,by omega⟩,⟨by omega,by omega⟩,⟨by omega,hx⟩,?_⟩
 rw[k60,k62,k61,k45,k61b]
 refine⟨fun h1=>⟨⟨by omega,hy⟩,fun h2=>by simp[h1,h2],fun h2=>?_⟩,fun h1=>?_⟩
 all_goals
  refine⟨fun h3=>⟨fun h4=>?_,fun h4=>⟨fun h5=>?_,fun h5=>⟨fun h6=>?_,fun h6=>?_⟩⟩⟩,fun h3=>⟨fun h6=>?_,fun h6=>?_⟩⟩
  all_goals simp_all
noncomputable def Egp(lv:Int):Senv:={ EC EB 13 1 [2,3,4,7] (fun _=>([],[])) with
 mg:=fun _=>2
 ann:=fun b _ S=>match b with
  |0=>some { slots:=[4,3],keep:=[0],α:=Nat,st:=fun i=>([.int .i64 i,.str (10::List.replicate (2*i) 32)],S),inv:=fun i=>i<=lv.toNat,mu:=fun i=>lv.toNat-i }
  |_=>none }
def Qe2(a:Nat):List UInt8:=(10:UInt8)::List.replicate (N2*a) (32:UInt8)
theorem Bqj(lv:Int)(h0:0<=lv)(h1:lv<=200000):CD 45 [.int .i64 lv] (.str (Gk lv)):=by
 refine Bg (A:=sC _ _) (x:=()) (E:=Egp lv) (eOk BM rfl) Tryz.func45 rfl (by kernel_rfl) rfl (by simp[sC,Egp,EC,E0]) ?_
 refine Bi (T :=
  (∃(x:Nat),x<=Int.toNat lv/\(Z0=(↑x:Int)/\[(10:UInt8)]=Qe2 x/\True)/\True/\True)/\∀(x:Nat),x<=Int.toNat lv->ifB (decide ((↑x:Int)<lv)) (Bc (LN (Qe2 x)+N2<=9223372036854775807) ((SM (ZI lv)/\True)/\∃(y:Nat),y<=Int.toNat lv/\Int.toNat lv-y<Int.toNat lv-x/\(IntKind.wrap IntKind.i64 ((↑x:Int)+Z1)=(↑y:Int)/\(10:UInt8)::List.append (List.replicate (N2*x) (32:UInt8)) [(32:UInt8),(32:UInt8)]=Qe2 y/\True)/\True/\True)) (RT (Qe2 x=Gk lv))) (by kernel_rfl) ?_
 delta LN N2 SM Z0 Z1 ZI Qe2 RT
 simp only[eq_self,Bf,Bd,decide_eq_true_eq,decide_eq_false_iff_not,true_and,and_true,exists_const]
 refine⟨⟨0,Nat.zero_le _,rfl,rfl⟩,fun x hx=>⟨fun hlt=>⟨?_,x+1,by omega,by omega,Ba (by omega) (by omega),?_⟩,fun hge=>?_⟩⟩
 ·rw[List.length_cons,List.length_replicate];omega
 ·show (10::(List.replicate (2*x) 32++[32,32]):List UInt8)=10::List.replicate (2*(x+1)) 32
  rw[show 2*(x+1)=2*x+2 by omega,<- List.replicate_append_replicate]
  rfl
 ·unfold Gk
  rw[show x=lv.toNat by omega]
noncomputable def Ebk:Senv:=EC EB 6 1 [2] (fun _=>([],[]))
theorem BqL(s:List UInt8)(hs:s≠[]):CD 23 [.str s] (.bool (TC s)):=by
 refine Bg (A:=sC _ _) (x:=()) (E:=Ebk) (eOk BM rfl) Tryz.func23 rfl (by kernel_rfl) rfl (by simp[sC,Ebk,EC,E0]) ?_
 refine Bi (T :=
  Bc (Z0<=Z0/\Z0<(LI s)) (RT (((BI s N0)==10)=TC s))) (by kernel_rfl) ?_
 delta BI LI LN N0 U0 Z0 RT
 simp only[Bd,true_and,and_true,exists_const]
 have hs0:0<s.length:=List.length_pos_iff.2 hs
 refine⟨⟨by omega,by omega⟩,?_⟩
 unfold TC
 rw[Bool.eq_iff_iff,beq_iff_eq,beq_iff_eq]
 exact Ty _ (n:=10) (by omega) rfl
noncomputable def Erwd:Senv:=EC EB 29 1 [2] (fun _=>([],[]))
def Ql8(a:UInt8):Bool:=bif bif bif bif decide ((48:Int)<=(NI (UInt8.toNat a))) then decide ((NI (UInt8.toNat a))<=57) else false then true else bif decide ((97:Int)<=(NI (UInt8.toNat a))) then decide ((NI (UInt8.toNat a))<=122) else false then true else bif decide ((65:Int)<=(NI (UInt8.toNat a))) then decide ((NI (UInt8.toNat a))<=90) else false then true else (NI (UInt8.toNat a))==95
def Ql9(a:UInt8):Prop:=true=Ql8 a/\True
def QIY(a:UInt8):Prop:=((NI (UInt8.toNat a))==95)=Ql8 a/\True
def QIZ(a:UInt8):Prop:=ifB (decide ((65:Int)<=(NI (UInt8.toNat a)))) (ifB (decide ((NI (UInt8.toNat a))<=90)) (Ql9 a) (QIY a)) (QIY a)
def QI0(a:UInt8):Prop:=ifB (decide ((97:Int)<=(NI (UInt8.toNat a)))) (ifB (decide ((NI (UInt8.toNat a))<=122)) (Ql9 a) (QIZ a)) (QIZ a)
theorem Bov(c:UInt8):CD 47 [.int .u8 (c.toNat:Int)] (.bool (Mf c)):=by
 refine Bg (A:=sC _ _) (x:=()) (E:=Erwd) (eOk BM rfl) Tryz.func47 rfl (by kernel_rfl) rfl (by simp[sC,Erwd,EC,E0]) ?_
 refine Bi (T :=
  ifB (decide ((48:Int)<=(NI (UInt8.toNat c)))) (ifB (decide ((NI (UInt8.toNat c))<=57)) (Ql9 c) (QI0 c)) (QI0 c)/\RT (Ql8 c=Mf c)) (by kernel_rfl) ?_
 delta NI Ql8 Ql9 QIY QIZ QI0 RT
 simp only[Bf,decide_eq_true_eq,decide_eq_false_iff_not,true_and,and_true,exists_const]
 refine⟨?_,?_⟩
 ·generalize ((c.toNat:Nat):Int)=z
  repeat' first
   |(intro h;simp only[h])
   |apply And.intro
  all_goals simp[*]
 ·revert c
  refine BlH ?_
  decide +kernel
def Bfi:Con:=fun k ds S=>match k with
 |47=>match ds with
  | [.int .u8 z]=>some (pA ds S (.bool (Mf (Cu z))) (0<=z/\z<=255))
  |_=>none
 |_=>none
theorem Bhf:ConOk Tryz.prog Bfi:=by
 intro k ds S A hh
 unfold Bfi at hh
 split at hh
 ·split at hh
  ·rename_i z
   injection hh with hh;subst hh
   refine Bo fun h=>CD.at_ ?_ _
   have:=Bov (Cu z)
   rw[M0 h] at this
   exact this
  ·cases hh
 ·cases hh
noncomputable def Erne:Senv:={ EC Bfi 40 2 [4,5,6] (fun id=>match id with | 1=>([0,1,2,3,4,5,6,7,8],[]) | _=>([],[])) with mg:=fun _=>2 }
def Qma(a:List UInt8):Int:=IntKind.wrap IntKind.i64 ((LI a)-Z1)
def HQ(a:List UInt8):Int:=(BI a (Int.toNat (Qma a)))
def YP(a:List UInt8):Int:=(BI a N0)
def Qmb(a b:List UInt8):Prop:=True/\∃(_y:Unit),True/\true=Eh a b/\True/\True
def QI1(a b:List UInt8):Prop:=ifB (HQ a==62) (True/\∃(_y:Unit),True/\(YP b==61)=Eh a b/\True/\True) (True/\∃(_y:Unit),True/\false=Eh a b/\True/\True)
def QI2(a b:List UInt8):Prop:=ifB (HQ a==60) (ifB (YP b==61) (Qmb a b) (ifB (YP b==45) (Qmb a b) (QI1 a b))) (QI1 a b)
theorem Bpi(a b:List UInt8)(ha:a≠[])(hb:b≠[])(hal:a.length<=100000000000000):CD 27 [.str a,.str b] (.bool (Eh a b)):=by
 refine Bg (A:=sC _ _) (x:=()) (E:=Erne) (eOk Bhf rfl) Tryz.func27 rfl (by kernel_rfl) rfl (by simp[sC,Erne,EC,E0]) ?_
 refine Bi (T :=
  Bc (Z0<=Qma a/\Qma a<(LI a)) (Bc (Z0<=Z0/\Z0<(LI b)) (∃(x:Unit),(Z0<=HQ a/\HQ a<=255)/\∀(y:Unit),True->ifB (Mf (Cu (HQ a))) (∃(x:Unit),(Z0<=YP b/\YP b<=255)/\∀(y:Unit),True->ifB (Mf (Cu (YP b))) (Qmb a b) (QI2 a b)) (QI2 a b)))) (by kernel_rfl) ?_
 delta BI LI LN N0 U0 Z0 Z1 QI1 QI2 Qma HQ YP Qmb
 simp only[ne_eq,Bf,Bd,true_and,and_true,beq_iff_eq,beq_eq_false_iff_ne,exists_const,forall_const]
 have ha0:0<a.length:=List.length_pos_iff.2 ha
 have hb0:0<b.length:=List.length_pos_iff.2 hb
 have e1:IntKind.i64.wrap ((a.length:Int)-1)=((a.length-1:Nat):Int):=by rw[Ba (by omega) (by omega)];omega
 simp only[e1,Int.toNat_natCast,BcJ]
 unfold Eh
 generalize a.getD (a.length-1) 0=x
 generalize b.getD 0 0=y
 have k60:=Ty x (n:=60) (z:=60) (by omega) rfl
 have k62:=Ty x (n:=62) (z:=62) (by omega) rfl
 have k61:=Ty y (n:=61) (z:=61) (by omega) rfl
 have k45:=Ty y (n:=45) (z:=45) (by omega) rfl
 have k61b:(((y.toNat:Nat):Int)==61)=(y==61):=by rw[Bool.eq_iff_iff,beq_iff_eq,beq_iff_eq];exact k61
 have hx:=Bf2 x
 have hy:=Bf2 y
 refine⟨⟨by omega,by omega⟩,⟨by omega,by omega⟩,⟨by omega,hx⟩,?_⟩
 rw[k60,k62,k61,k45,k61b]
 refine⟨fun h1=>⟨⟨by omega,hy⟩,fun h2=>by simp[h1,h2],fun h2=>?_⟩,fun h1=>?_⟩
 all_goals
  refine⟨fun h3=>⟨fun h4=>?_,fun h4=>⟨fun h5=>?_,fun h5=>⟨fun h6=>?_,fun h6=>?_⟩⟩⟩,fun h3=>⟨fun h6=>?_,fun h6=>?_⟩⟩
  all_goals simp_all
theorem BnR{p:Pt}(hp:okP p)(l:Int):rlT l p≠[]:=by
 cases p with
 |sp=>exact List.cons_ne_nil _ _
 |_=>exact Bks hp
theorem Uc{l:List Sm}(h:PrR l)(ho:∀s∈l,s.ok):(ptB l).length<=3400000000000:=by
 have h1:=BfL (ptB l)
 have h2:=TX (ptB l)
 have h3:=BbU h ho
 omega
theorem Boz{l:List Sm}(h:PrR l)(ho:∀s∈l,s.ok)(i:Nat)(hi:i<(ptB l).length):((rlP 0 (ptB l)).getD i []).length<=3400000000000:=by
 have hok:=okB h ho
 have s1:=BbN false hok hi
 have o1:=Oh h ho false (i+1) (by omega)
 rw[s1] at o1
 split at o1
 ·simp only[cond_false,List.length_append] at o1;omega
 ·simp only[List.length_append] at o1;omega
def BbQ(l:List Sm):Con:=fun k ds S=>match k with
 |21=>some (pA ds S (.int .i64 (B1 l)) (wkL ds [.agg [gsl 34 Sm.row1 l]]))
 |22=>some (pA ds S (ssl (rlP 0 (ptB l)) .any) (wkL ds [gsl 34 Sm.row1 l,.int .i64 0]/\B1 l=0))
 |23=>match ds with
  | [.str s]=>some (pA ds S (.bool (TC s)) (s≠[]))
  |_=>none
 |27=>match ds with
  | [.str a,.str b]=>some (pA ds S (.bool (Eh a b)) (a≠[]/\b≠[]/\a.length<=100000000000000))
  |_=>none
 |_=>none
theorem BaJ{l:List Sm}(hl:l.length<=BC)(ho:∀s∈l,s.ok)(hs:∀s∈l,s.sm)(hb:B1 l=0->CD 22 [gsl 34 Sm.row1 l,.int .i64 0] (ssl (rlP 0 (ptB l)) .any)):ConOk Tryz.prog (BbQ l):=by
 intro k ds S A hh
 unfold BbQ at hh
 split at hh
 ·injection hh with hh;subst hh
  exact Bo fun e=>CD.at_ (CD.wk (BoY l hl ho hs) e) _
 ·injection hh with hh;subst hh
  exact Bo fun ⟨e,h0⟩=>CD.at_ (CD.wk (hb h0) e) _
 ·split at hh
  ·injection hh with hh;subst hh
   exact Bo fun h=>CD.at_ (BqL _ h) _
  ·cases hh
 ·split at hh
  ·injection hh with hh;subst hh
   exact Bo fun ⟨h0,h1,h2⟩=>CD.at_ (Bpi _ _ h0 h1 h2) _
  ·cases hh
 ·cases hh
noncomputable def Erpi(l:List Sm):Senv:={ EC (BbQ l) 53 6 [14,21,42] (fun _=>([],[])) with
 mg:=fun _=>2
 ann:=fun b _ S=>match b with
  |0=>some { slots:=[5,4],keep:=[0,1,3],α:=Nat,st:=fun i=>([.int .i64 i,.str (wrF false ((ptB l).take i)).1],S),inv:=fun i=>i<=(ptB l).length,mu:=fun i=>(ptB l).length-i }
  |_=>none }
def Qmc:Arr:=DA
def Qe3:Nd:=Nd.mk Z0 Z0 Z0 [] Z0 Z0 Qmc [] [] Z0 Z0 Z0
def Qmd:Sm:=Sm.mk Z0 Z0 [] Z0 Qe3 Qe3
def YQ(a:List Sm)(b:Nat):Sm:=List.getD a b Qmd
def QI9(a:List Sm)(b:Nat):List D:=(Sm.row1 (YQ a b))
def QJa(a:List Sm):D:=D.sl 34 (LN a) (fun i=>QI9 a i) Mode.any
def QJb(a:List Sm):D:=D.agg [QJa a]
def QJc(a:List Sm):List D:=[QJb a]
def QJd(a:List Sm):Prop:=True/\∃(_y:Unit),True/\Cw (List UInt8) [] (Ch a)/\True/\True
def QJe(a:List Sm):List D:=[QJa a,ZI Z0]
def Qe6(a:Nat)(b:List Sm):Prop:=a<=LN (ptB b)
def Xy(a:Nat)(b:List Sm):List UInt8:=Prod.fst (wrF false (List.take a (ptB b)))
def Qme(a:Nat)(b:List Sm):Prop:=(SM a/\((SM (LN b)/\(∀(i:Nat),i<LN b->SM (QI9 b i))/\True)/\True)/\True)/\True
def Qe7(a:List Sm):List (List UInt8):=rlP Z0 (ptB a)
def QJf(a:List Sm):Nat:=LN (Qe7 a)
def HR(a:List Sm):Int:=(NI (QJf a))
def HS(a:List Sm)(b:Nat):List UInt8:=List.getD (Qe7 a) (Int.toNat (↑b:Int)) []
def QJg(a:List Sm)(b:Nat):List UInt8:=List.getD (Qe7 a) (Int.toNat (IntKind.wrap IntKind.i64 ((↑b:Int)-Z1))) []
def QJh(a:Nat)(b:List Sm):Nat:=LN (Xy a b)
def QJi(a:Nat)(b:List Sm):Nat:=QJh a b+N1
def QJj(a:Nat)(b:List Sm):List UInt8:=Xy a b++[32]
def QJk(a:List Sm)(b:Nat):Nat:=LN (HS a b)
def QSe(a:List Sm):D:=D.sl N1 (QJf a) (fun i=>[D.str (List.getD (Qe7 a) i [])]) Mode.any
def QJl(a:List Sm)(b:Nat):Prop:=SM (QJb a)/\SM (D.ref N0 b N0)/\SM (QSe a)/\True
def QJm(a:List Sm)(b c:Nat):Prop:=LN (ptB a)-b<LN (ptB a)-c
def Qmf(a:Nat)(b:List Sm)(c:Nat):Prop:=Bc (Z0<=(↑a:Int)/\(↑a:Int)<HR b) (Bc (QJh a b+QJk b a<=9223372036854775807) (QJl b c/\∃(y:Nat),Qe6 y b/\QJm b y a/\(IntKind.wrap IntKind.i64 ((↑a:Int)+Z1)=(↑y:Int)/\Xy a b++HS b a=Xy y b/\True)/\Qme c b))
theorem BoH(l : List Sm)(hl : l.length<=BC)(ho : ∀s∈l, s.ok)(hs : ∀s∈l, s.sm)(hb : B1 l=0 -> CD 22 [gsl 34 Sm.row1 l, .int .i64 0] (ssl (rlP 0 (ptB l)) .any)) :
  CD 8 [.agg [gsl 34 Sm.row1 l]] (.str (Ch l)):=by
 refine Bg (A:=sC _ _) (x:=()) (E:=Erpi l) (eOk (BaJ hl ho hs hb) rfl) Tryz.func8 rfl (by kernel_rfl) rfl (by simp[sC,Erpi,EC,E0]) ?_
 refine Bi (T :=
  ∀(x:Nat),True->SM x/\∃(x_1:Unit),wkL (QJc l) (QJc l)/\∀(y:Unit),True->ifB (B1 l != Z0) (QJd l) (SM x/\ifB ((LI l)==Z0) (QJd l) (SM x/\∃(x_2:Unit),(wkL (QJe l) (QJe l)/\B1 l=Z0)/\∀(y:Unit),True->(∃(x_3:Nat),Qe6 x_3 l/\(Z0=(↑x_3:Int)/\Cw (List UInt8) [] (Xy x_3 l)/\True)/\Qme x l)/\∀(x_3:Nat),Qe6 x_3 l->ifB (decide ((↑x_3:Int)<HR l)) (ifB (decide (Z0<(↑x_3:Int))) (Bc (Z0<=(↑x_3:Int)/\(↑x_3:Int)<HR l) (∃(x_4:Unit),HS l x_3≠[]/\∀(y:Unit),True->ifB (!TC (HS l x_3)) (Bc (Z0<=IntKind.wrap IntKind.i64 ((↑x_3:Int)-Z1)/\IntKind.wrap IntKind.i64 ((↑x_3:Int)-Z1)<HR l) (∃(x_5:Unit),QJg l x_3≠[]/\∀(y:Unit),True->ifB (!TC (QJg l x_3)) (Bc (QJi x_3 l<=9223372036854775807) (Bc (Z0<=(↑x_3:Int)/\(↑x_3:Int)<HR l) (Bc (LN (QJj x_3 l)+QJk l x_3<=9223372036854775807) (QJl l x/\∃(y:Nat),Qe6 y l/\QJm l y x_3/\(IntKind.wrap IntKind.i64 ((↑x_3:Int)+Z1)=(↑y:Int)/\QJj x_3 l++HS l x_3=Xy y l/\True)/\Qme x l)))) (Qmf x_3 l x))) (Qmf x_3 l x))) (Qmf x_3 l x)) (Bc (QJi x_3 l<=9223372036854775807) (RT (Xy x_3 l++[10]=Ch l)))))) (by kernel_rfl) ?_
 delta DA GI LI LN N0 N1 N4 NI SI SM Z0 Z1 ZI Qmc Qe3 Qmd YQ QI9 QJa QJb QJc QJd QJe Qe6 Xy Qme Qe7 QJf HR HS QJg QJh QJi QJj QJk QSe QJl QJm Qmf RT
 try simp only[<- dm]
 try simp only[<- dn]
 simp only[ne_eq,implies_true,Int.toNat_natCast,Bf,Bd,decide_eq_true_eq,decide_eq_false_iff_not,true_and,and_true,beq_iff_eq,bne_iff_ne,bne_eq_false_iff_eq,beq_eq_false_iff_ne,Bool.not_eq_true',Bool.not_eq_false',exists_const,forall_const]
 refine⟨Be _,fun h=>?_,fun h0=>⟨fun hl0=>?_,fun hl1=>?_⟩⟩
 ·rw[Ch,if_neg fun hh=>h hh.1]
 ·rw[Ch,if_neg fun hh=>hh.2 (List.length_eq_zero_iff.1 (by omega))]
 ·have hpt:(ptB l).length<=3400000000000:=Uc (GB h0) ho
  have hR:=GB h0
  have hok:=okB hR ho
  have hX:(rlP 0 (ptB l)).length=(ptB l).length:=EE _ _
  have ne:∀j,j<(ptB l).length->¬(rlP 0 (ptB l)).getD j []=[]:=fun j hj=>by
   rw[Tg _ _ _ hj]
   exact BnR (OS hok j) _
  refine⟨⟨Be _,h0⟩,⟨0,Nat.zero_le _,rfl,rfl⟩,fun i hi=>⟨fun hlt=>?_,fun hge=>?_⟩⟩
  ·have hi':i<(ptB l).length:=by omega
   have s1:=BbN false hok hi'
   have o1:=Oh hR ho false (i+1) (by omega)
   have o0:=Oh hR ho false i (by omega)
   have ni:=ne i hi'
   have w1:0<(i:Int)->IntKind.i64.wrap ((i:Int)-1)=((i-1:Nat):Int):=fun h=>by rw[Ba (by omega) (by unfold BC at hl;omega)];omega
   have w2:IntKind.i64.wrap ((i:Int)+1)=((i+1:Nat):Int):=Ba (by omega) (by omega)
   rw[w2]
   have nj:0<(i:Int)->¬(rlP 0 (ptB l)).getD (i-1) []=[]:=fun h=>ne (i-1) (by omega)
   generalize hA:(wrF false ((ptB l).take i)).1=A at *
   generalize hB:(wrF false ((ptB l).take (i+1))).1=B at *
   generalize hx:(rlP 0 (ptB l)).getD i []=x at *
   have fin:∀z,z=B->∃y,y<=(ptB l).length/\(ptB l).length-y<(ptB l).length-i/\((i+1:Nat):Int)=(y:Int)/\z=(wrF false ((ptB l).take y)).1:=fun z e=>⟨i+1,by omega,by omega,rfl,by rw[hB];exact e⟩
   have sz:∀y,A++y=B->A.length+y.length<=3400000000000:=fun y e=>by rw[<- List.length_append,e];exact o1
   refine⟨fun hp=>⟨⟨by omega,by omega⟩,ni,fun hb1=>?_,fun hb1=>?_⟩,fun hp=>?_⟩
   ·rw[w1 hp,Int.toNat_natCast]
    generalize hy:(rlP 0 (ptB l)).getD (i-1) []=y at *
    refine⟨⟨by omega,by omega⟩,nj hp,fun hb2=>?_,fun hb2=>?_⟩
    ·have e:A++([32]++x)=B:=by rw[s1,if_neg (by rw[hb1];exact Bool.false_ne_true),if_pos ⟨by omega,hb2,fun h=>nomatch h⟩]
     have:=sz _ e
     rw[List.length_append,List.length_cons,List.length_nil] at this
     refine⟨by omega,⟨by omega,by omega⟩,?_,fin _ (by rw[List.append_assoc];exact e)⟩
     rw[List.length_append,List.length_cons,List.length_nil]
     omega
    ·have e:A++x=B:=by
      rw[s1,if_neg (by rw[hb1];exact Bool.false_ne_true),if_neg (by rintro ⟨_,h,_⟩;rw[hb2] at h;cases h)]
      rfl
     have:=sz _ e
     exact⟨⟨by omega,by omega⟩,by omega,fin _ e⟩
   ·have e:A++x=B:=by rw[s1,if_pos hb1];rfl
    have:=sz _ e
    exact⟨⟨by omega,by omega⟩,by omega,fin _ e⟩
   ·have e:A++x=B:=by
     rw[s1]
     by_cases hb1:TC x=true
     ·rw[if_pos hb1];rfl
     ·rw[if_neg hb1,if_neg (by rintro ⟨h,_⟩;omega)];rfl
    have:=sz _ e
    exact⟨⟨by omega,by omega⟩,by omega,fin _ e⟩
  ·have hil:i=(ptB l).length:=by omega
   have o0:=Oh hR ho false i (by omega)
   refine⟨by omega,?_⟩
   rw[Ch,if_pos ⟨h0,fun h=>hl1 (by rw[h];rfl)⟩,hil,List.take_length]
noncomputable def Ercm(l:List Sm):Senv:={ EC (BbQ l) 57 6 [8,15,22,47] (fun id=>match id with | 10=>([0,1,2,3,4,5,6,7,8,9,10,11,12,13,14,15,16,17,18,19,20,21,22],[8,21]) | _=>([],[])) with
 mg:=fun _=>2
 ann:=fun b _ S=>match b with
  |0=>some { slots:=[5,4],keep:=[0,1,3],α:=Nat,st:=fun i=>([.int .i64 i,.str (wrF true ((ptB l).take i)).1],S),inv:=fun i=>i<=(ptB l).length,mu:=fun i=>(ptB l).length-i }
  |_=>none }
def Qmg:Arr:=DA
def Qe8:Nd:=Nd.mk Z0 Z0 Z0 [] Z0 Z0 Qmg [] [] Z0 Z0 Z0
def Qmh:Sm:=Sm.mk Z0 Z0 [] Z0 Qe8 Qe8
def YR(a:List Sm)(b:Nat):Sm:=List.getD a b Qmh
def QJt(a:List Sm)(b:Nat):List D:=(Sm.row1 (YR a b))
def QJu(a:List Sm):D:=D.sl 34 (LN a) (fun i=>QJt a i) Mode.any
def QJv(a:List Sm):D:=D.agg [QJu a]
def QJw(a:List Sm):List D:=[QJv a]
def QJx(a:List Sm):List D:=[QJu a,ZI Z0]
def HT(a:Nat)(b:List Sm):Prop:=a<=LN (ptB b)
def Vi(a:Nat)(b:List Sm):List UInt8:=Prod.fst (wrF true (List.take a (ptB b)))
def Qfb(a:Nat)(b:List Sm):Prop:=(SM a/\((SM (LN b)/\(∀(i:Nat),i<LN b->SM (QJt b i))/\True)/\True)/\True)/\True
def Qfc(a:List Sm):List (List UInt8):=rlP Z0 (ptB a)
def QJy(a:List Sm):Nat:=LN (Qfc a)
def Xz(a:List Sm):Int:=(NI (QJy a))
def YS(a:List Sm)(b:Nat):List UInt8:=List.getD (Qfc a) (Int.toNat (↑b:Int)) []
def QJz(a:List Sm)(b:Nat):Prop:=YS a b≠[]
def QJA(a:Nat)(b:List Sm):Nat:=LN (Vi a b)
def QJB(a:Nat)(b:List Sm):Nat:=QJA a b+N1
def QSj(a:List Sm):D:=D.sl N1 (QJy a) (fun i=>[D.str (List.getD (Qfc a) i [])]) Mode.any
def Qmi(a:List Sm)(b:Nat):Prop:=SM (QJv a)/\SM (D.ref N0 b N0)/\SM (QSj a)/\True
def Qmj(a:List Sm)(b c:Nat):Prop:=LN (ptB a)-b<LN (ptB a)-c
def Qmk(a b:Nat):Prop:=IntKind.wrap IntKind.i64 ((↑a:Int)+Z1)=(↑b:Int)
def HU(a:Nat):Int:=IntKind.wrap IntKind.i64 ((↑a:Int)-Z1)
def Qfd(a:List Sm)(b:Nat):List UInt8:=List.getD (Qfc a) (Int.toNat (HU b)) []
def QJC(a:List Sm)(b:Nat):Prop:=Qfd a b≠[]
def QJD(a:Nat)(b:List Sm):List UInt8:=Vi a b++[32]
def QJE(a:List Sm)(b:Nat):Nat:=LN (YS a b)
def Qml(a:Nat)(b:List Sm)(c:Nat):Prop:=Bc (Z0<=(↑a:Int)/\(↑a:Int)<Xz b) (Bc (QJA a b+QJE b a<=9223372036854775807) (Qmi b c/\∃(y:Nat),HT y b/\Qmj b y a/\(Qmk a y/\Vi a b++YS b a=Vi y b/\True)/\Qfb c b))
theorem Bpt(l : List Sm)(hl : l.length<=BC)(ho : ∀s∈l, s.ok)(hs : ∀s∈l, s.sm)(hb : B1 l=0 -> CD 22 [gsl 34 Sm.row1 l, .int .i64 0] (ssl (rlP 0 (ptB l)) .any)) :
  CD 10 [.agg [gsl 34 Sm.row1 l]] (.str (EN l)):=by
 refine Bg (A:=sC _ _) (x:=()) (E:=Ercm l) (eOk (BaJ hl ho hs hb) rfl) Tryz.func10 rfl (by kernel_rfl) rfl (by simp[sC,Ercm,EC,E0]) ?_
 refine Bi (T :=
  ∀(x:Nat),True->SM x/\∃(x_1:Unit),wkL (QJw l) (QJw l)/\∀(y:Unit),True->ifB (B1 l != Z0) (RT (Cw (List UInt8) [] (EN l))) (SM x/\∃(x_2:Unit),(wkL (QJx l) (QJx l)/\B1 l=Z0)/\∀(y:Unit),True->(∃(x_3:Nat),HT x_3 l/\(Z0=(↑x_3:Int)/\Cw (List UInt8) [] (Vi x_3 l)/\True)/\Qfb x l)/\∀(x_3:Nat),HT x_3 l->ifB (decide ((↑x_3:Int)<Xz l)) (Bc (Z0<=(↑x_3:Int)/\(↑x_3:Int)<Xz l) (∃(x_4:Unit),QJz l x_3/\∀(y:Unit),True->ifB (TC (YS l x_3)) (Bc (QJB x_3 l<=9223372036854775807) (Qmi l x/\∃(y:Nat),HT y l/\Qmj l y x_3/\(Qmk x_3 y/\Vi x_3 l++[59]=Vi y l/\True)/\Qfb x l)) (ifB (decide (Z0<(↑x_3:Int))) (Bc (Z0<=HU x_3/\HU x_3<Xz l) (∃(x_5:Unit),QJC l x_3/\∀(y:Unit),True->ifB (!TC (Qfd l x_3)) (Bc (Z0<=HU x_3/\HU x_3<Xz l) (Bc (Z0<=(↑x_3:Int)/\(↑x_3:Int)<Xz l) (∃(x_6:Unit),(QJC l x_3/\QJz l x_3/\LN (Qfd l x_3)<=100000000000000)/\∀(y:Unit),True->ifB (Eh (Qfd l x_3) (YS l x_3)) (Bc (QJB x_3 l<=9223372036854775807) (Bc (Z0<=(↑x_3:Int)/\(↑x_3:Int)<Xz l) (Bc (LN (QJD x_3 l)+QJE l x_3<=9223372036854775807) (Qmi l x/\∃(y:Nat),HT y l/\Qmj l y x_3/\(Qmk x_3 y/\QJD x_3 l++YS l x_3=Vi y l/\True)/\Qfb x l)))) (Qml x_3 l x)))) (Qml x_3 l x))) (Qml x_3 l x)))) (RT (Vi x_3 l=EN l)))) (by kernel_rfl) ?_
 delta DA GI LN N0 N1 N4 NI SI SM Z0 Z1 ZI Qmg Qe8 Qmh YR QJt QJu QJv QJw QJx HT Vi Qfb Qfc QJy Xz YS QJz QJA QJB QSj Qmi Qmj Qmk HU Qfd QJC QJD QJE Qml RT
 try simp only[<- dm]
 try simp only[<- dn]
 simp only[ne_eq,implies_true,Int.toNat_natCast,Bf,Bd,decide_eq_true_eq,decide_eq_false_iff_not,true_and,and_true,bne_iff_ne,bne_eq_false_iff_eq,Bool.not_eq_true',Bool.not_eq_false',exists_const,forall_const]
 refine⟨Be _,fun h=>?_,fun h0=>?_⟩
 ·rw[EN,if_neg h]
 ·have hpt:(ptB l).length<=3400000000000:=Uc (GB h0) ho
  have hR:=GB h0
  have hok:=okB hR ho
  have hX:(rlP 0 (ptB l)).length=(ptB l).length:=EE _ _
  have ne:∀j,j<(ptB l).length->¬(rlP 0 (ptB l)).getD j []=[]:=fun j hj=>by
   rw[Tg _ _ _ hj]
   exact BnR (OS hok j) _
  refine⟨⟨Be _,h0⟩,⟨0,Nat.zero_le _,rfl,rfl⟩,fun i hi=>⟨fun hlt=>?_,fun hge=>?_⟩⟩
  ·have hi':i<(ptB l).length:=by omega
   have s1:=BbN true hok hi'
   have o1:=Oh hR ho true (i+1) (by omega)
   have o0:=Oh hR ho true i (by omega)
   have ni:=ne i hi'
   have w1:0<(i:Int)->IntKind.i64.wrap ((i:Int)-1)=((i-1:Nat):Int):=fun h=>by rw[Ba (by omega) (by unfold BC at hl;omega)];omega
   have w2:IntKind.i64.wrap ((i:Int)+1)=((i+1:Nat):Int):=Ba (by omega) (by omega)
   rw[w2]
   have nj:0<(i:Int)->¬(rlP 0 (ptB l)).getD (i-1) []=[]:=fun h=>ne (i-1) (by omega)
   have lj:0<(i:Int)->((rlP 0 (ptB l)).getD (i-1) []).length<=100000000000000:=fun h=>by
    have:=Boz hR ho (i-1) (by omega)
    omega
   generalize hA:(wrF true ((ptB l).take i)).1=A at *
   generalize hB:(wrF true ((ptB l).take (i+1))).1=B at *
   generalize hx:(rlP 0 (ptB l)).getD i []=x at *
   have fin:∀z,z=B->∃y,y<=(ptB l).length/\(ptB l).length-y<(ptB l).length-i/\((i+1:Nat):Int)=(y:Int)/\z=(wrF true ((ptB l).take y)).1:=fun z e=>⟨i+1,by omega,by omega,rfl,by rw[hB];exact e⟩
   have sz:∀y,A++y=B->A.length+y.length<=3400000000000:=fun y e=>by rw[<- List.length_append,e];exact o1
   refine⟨⟨by omega,by omega⟩,ni,fun hb1=>?_,fun hb1=>⟨fun hp=>?_,fun hp=>?_⟩⟩
   ·have e:A++[59]=B:=by rw[s1,if_pos hb1];rfl
    have:=sz _ e
    rw[List.length_cons,List.length_nil] at this
    exact⟨by omega,fin _ e⟩
   ·rw[w1 hp,Int.toNat_natCast]
    generalize hy:(rlP 0 (ptB l)).getD (i-1) []=y at *
    have lj':=lj hp
    refine⟨⟨by omega,by omega⟩,nj hp,fun hb2=>⟨⟨by omega,by omega⟩,⟨by omega,by omega⟩,⟨nj hp,ni,lj'⟩,fun hn=>?_,fun hn=>?_⟩,fun hb2=>?_⟩
    ·have e:A++([32]++x)=B:=by rw[s1,if_neg (by rw[hb1];exact Bool.false_ne_true),if_pos ⟨by omega,hb2,fun _=>hn⟩]
     have:=sz _ e
     rw[List.length_append,List.length_cons,List.length_nil] at this
     refine⟨by omega,⟨by omega,by omega⟩,?_,fin _ (by rw[List.append_assoc];exact e)⟩
     rw[List.length_append,List.length_cons,List.length_nil]
     omega
    ·have e:A++x=B:=by
      rw[s1,if_neg (by rw[hb1];exact Bool.false_ne_true),if_neg (by rintro ⟨_,_,h⟩;rw[hn] at h;cases h rfl)]
      rfl
     have:=sz _ e
     exact⟨⟨by omega,by omega⟩,by omega,fin _ e⟩
    ·have e:A++x=B:=by
      rw[s1,if_neg (by rw[hb1];exact Bool.false_ne_true),if_neg (by rintro ⟨_,h,_⟩;rw[hb2] at h;cases h)]
      rfl
     have:=sz _ e
     exact⟨⟨by omega,by omega⟩,by omega,fin _ e⟩
   ·have e:A++x=B:=by
     rw[s1,if_neg (by rw[hb1];exact Bool.false_ne_true),if_neg (by rintro ⟨h,_⟩;omega)]
     rfl
    have:=sz _ e
    exact⟨⟨by omega,by omega⟩,by omega,fin _ e⟩
  ·have hil:i=(ptB l).length:=by omega
   rw[EN,if_pos h0,hil,List.take_length]
def OR(p:Nd->Prop)(lv:Int)(m:Nat)(x:Nd×List (List UInt8)):Prop:=p x.1/\0<=lv/\lv+szN x.1<=100000/\m<=maxLen/\x.2.length<=4000000000000
def pAd(p:Nd->Prop)(ds:List D)(S:St)(lv:Int)(m:Nat)(f:Nat->List D)(q:Nd×List (List UInt8)->Prop):FnSpec where
 β:=Nd×List (List UInt8)
 α:=Nat
 args:=fun _=>ds
 st:=fun _=>S
 pre:=fun x=>OR p lv m x/\q x
 post:=fun _ _=>True
 res:=fun x t'=>.ret (ssl (x.2++rlP lv (BR (Bj m f) x.1)) (.tok 0 t'))
 out:=fun _ t'=>⟨S.objs,[(0,t')]⟩
 all:=true
def Bbv(p:Nd->Prop)(base:Con):Con:=fun k ds S=>match k with
 |46=>match ds with
  | [.sl _ _ _ (.tok 0 t),_,.sl 1 m f _,.int .i64 lv]=>match S.toks with
   | [(0,u)]=>some (pAd p ds S lv m f fun x=>u=t/\wkL ds [ssl x.2 (.tok 0 t),.agg x.1.row1,isl (Bj m f) .any,.int .i64 lv])
   |_=>none
  | [.sl _ 0 _ .nil,_,.sl 1 m f _,.int .i64 lv]=>match S.toks with
   | []=>some (pAd p ds S lv m f fun x=>x.2=[]/\wkL ds [.sl 1 0 (fun _=>[]) .nil,.agg x.1.row1,isl (Bj m f) .any,.int .i64 lv])
   |_=>none
  |_=>none
 |k=>base k ds S
theorem BaH{p:Nd->Prop}{base:Con}(h:∀b,p b->RPar b)(hb:ConOk Tryz.prog base):ConOk Tryz.prog (Bbv p base):=by
 intro k ds S A hh
 unfold Bbv at hh
 split at hh
 ·split at hh
  ·split at hh
   ·rename_i t _ m f _ lv _ u hS
    injection hh with hh;subst hh
    obtain ⟨os,ts⟩:=S
    simp only at hS
    subst hS
    refine⟨fun x hx=>?_,fun x e=>(nomatch e),fun _ _ _=>⟨Bk _,rfl⟩⟩
    obtain ⟨⟨p1,p2,p3,p4,p5⟩,rfl,hw⟩:=hx
    exact (((BpG x.2 x.1 (Bj m f) lv u (h _ p1) p2 p3 (by rw[BL];exact p4) p5).wkArgs hw).frame ⟨os,[]⟩).mono fun _ _ ⟨_,⟨y,_,h2,h3⟩,h4⟩=>⟨y,trivial,h2,by rw[h4,h3];rfl⟩
   ·cases hh
  ·split at hh
   ·rename_i m f _ lv _ hS
    injection hh with hh;subst hh
    obtain ⟨os,ts⟩:=S
    simp only at hS
    subst hS
    refine⟨fun x hx=>?_,fun x e=>(nomatch e),fun _ _ _=>⟨Bk _,rfl⟩⟩
    obtain ⟨⟨p1,p2,p3,p4,p5⟩,e,hw⟩:=hx
    refine (((BoW x.1 (Bj m f) lv (h _ p1) p2 p3 (by rw[BL];exact p4)).wkArgs hw).frame ⟨os,[]⟩).mono fun _ _ ⟨_,⟨y,_,h2,h3⟩,h4⟩=>⟨y,trivial,?_,by rw[h4,h3];rfl⟩
    rw[h2]
    simp only[pAd,Bid,e,List.nil_append]
   ·cases hh
  ·cases hh
 ·exact hb _ _ _ _ hh
theorem Bo4{n:Nat}{F:Nat->List D}{L:List (List UInt8)}{m m':Ab.Mode}(hn:n=L.length)(hF:∀i,i<n->F i=[D.str (L.getD i [])])(hm:BG m m'):wkD (.sl 1 n F m) (ssl L m'):=by
 subst hn
 simp only[ssl,wkD]
 exact Bb.2 ⟨by simp,trivial,fun i hi=>by rw[hF i hi];exact Be _,hm⟩
def BeC:Con:=fun k ds S=>match k with
 |45=>match ds with
  | [.int .i64 lv]=>some (pA ds S (.str (Gk lv)) (0<=lv/\lv<=200000))
  |_=>none
 |_=>none
theorem Bg0:ConOk Tryz.prog BeC:=by
 intro k ds S A hh
 unfold BeC at hh
 split at hh
 ·split at hh
  ·injection hh with hh;subst hh
   exact Bo fun ⟨h0,h1⟩=>CD.at_ (Bqj _ h0 h1) _
  ·cases hh
 ·cases hh
def BiP(p:Nd->Prop):Con:=Bbv p BeC
theorem BhW{p:Nd->Prop}(h:∀b,p b->RPar b):ConOk Tryz.prog (BiP p):=by
 exact BaH h Bg0
def Ip(lv:Int)(l:List Sm)(i:Nat):List (List UInt8):=rlP lv (ptB (l.take i))
theorem E6{n:Nat}{F:Nat->List D}{L:List (List UInt8)}(hn:n=L.length)(hF:∀i,i<n->F i=[D.str (L.getD i [])])(x:List UInt8):∀i,i<n+1->BN n F (fun i=>[D.str ([x].getD i [])]) i=[D.str ((L++[x]).getD i [])]:=C8 (r:=[x]) hn hF fun _ _=>rfl
theorem Et{p : Nd -> Prop}{lv : Int}{b : Nd}{L : List (List UInt8)}{n : Nat}{F : Nat -> List D}{t m : Nat}{f : Nat -> List D}{md : Ab.Mode}(hp : p b)(h0 : 0<=lv)(h1 : lv+szN b<=100000)(hm : m<=maxLen)(hL : L.length<=4000000000000)(hn : n=L.length)(hF : ∀i, i<n -> F i=[D.str (L.getD i [])])(hI : IntsP m f) :
  OR p lv m (b,L)/\wkL [.sl 1 n F (.tok 0 t),.agg b.row1,.sl 1 m f md,.int .i64 lv] [ssl L (.tok 0 t),.agg b.row1,isl (Bj m f) .any,.int .i64 lv]:=by
 refine⟨⟨hp,h0,h1,hm,hL⟩,?_⟩
 have h2:=Cj (r:=b.row1) (md:=md) hI
 simp only[wkL] at h2 ⊢
 exact⟨Bo4 hn hF rfl,h2.1,h2.2.1,Bh _,trivial⟩
theorem CT:IntsP 0 (fun _=>[]):=fun i hi=>absurd hi (Nat.not_lt_zero i)
theorem IG(n:Nd):BR (Bj 0 fun _=>[]) n=ptN n:=rfl
theorem TW{lv : Int}{l : List Sm}{i : Nat}{nd : Nd}{L : List (List UInt8)}(hi : i<l.length)(hl : l.length<=BC)(h : L++rlP lv (ptN nd)=Ip lv l (i+1)) :
  ∀y:Nat,∃a b:Nat,a<=l.length/\l.length-a<l.length-i/\(IntKind.i64.wrap ((i:Int)+1)=(a:Int)/\(L++rlP lv (BR (Bj 0 fun _=>[]) nd)).length=(Ip lv l a).length/\(∀j,j<(L++rlP lv (BR (Bj 0 fun _=>[]) nd)).length->[D.str ((L++rlP lv (BR (Bj 0 fun _=>[]) nd)).getD j [])]=[D.str ((Ip lv l a).getD j [])])/\y=b)/\y=b:=by
 intro y
 unfold BC at hl
 rw[IG,h]
 exact⟨i+1,y,hi,by omega,⟨Ba (by omega) (by omega),rfl,fun _ _=>rfl,rfl⟩,rfl⟩
theorem BaB{α β:Type}(f:α->List β)(l:List α)(i:Nat):((l.take i).flatMap f).length<=(l.flatMap f).length:=by
 have e:l.flatMap f=(l.take i).flatMap f++(l.drop i).flatMap f:=by rw[<- List.flatMap_append,List.take_append_drop]
 rw[e,List.length_append]
 omega
theorem Bdl(l:List Sm)(i:Nat):(ptB (l.take i)).length<=(ptB l).length:=by
 cases l with
 |nil=>simp
 |cons x r =>
  cases i with
  |zero=>simp[ptB,ptJ]
  |succ i =>
   have:=BaB (fun y=>Pt.sp::ptM y) r i
   rw[List.take_succ_cons]
   show (ptM x++(List.map ptM (List.take i r)).flatMap fun y=>.sp::y).length<=(ptM x++(List.map ptM r).flatMap fun y=>.sp::y).length
   rw[List.flatMap_map,List.flatMap_map,List.length_append,List.length_append]
   omega
theorem Bd6(lv:Int){l:List Sm}{i:Nat}(h:i<l.length):Ip lv l (i+1)=Ip lv l i++((if 0<i then [Gk lv] else [])++rlP lv (ptM (l.getD i default))):=by
 have hb:ID (ptJ ((l.take i).map ptM)):=Bpa _
 unfold Ip ptB
 rw[Bc2 ptM h,EG hb]
 congr 1
 split
 ·rfl
 ·rfl
theorem rlM(lv:Int)(s:Sm):rlP lv (ptM s)=if s.kd=2 then s.nm::[60,45]::rlP lv (ptN s.nd) else if s.kd=3 then rlP lv (ptN s.te)++([58]::rlP lv (ptN s.nd)) else rlP lv (ptN s.nd):=by
 rw[IF]
 split
 ·rfl
 ·split
  ·rw[EG (Wr s.te)]
   rfl
  ·rfl
noncomputable def Erby(p:Nd->Prop)(l:List Sm)(lv:Int):Senv:={ EC (BiP p) 61 2 [4,5,6,10,14,25,41] (fun _=>([],[])) with
 mg:=fun _=>2
 gh:=fun b=>match b with
  |0=>[.slot 5]
  |_=>[]
 ann:=fun b _ S=>match b with
  |0=>some { slots:=[6,5],keep:=[0,1],α:=Nat×Nat,st:=fun y=>([.int .i64 y.1,ssl (Ip lv l y.1) (.tok 0 y.2)],⟨S.objs,[(0,y.2)]⟩),inv:=fun y=>y.1<=l.length,mu:=fun y=>l.length-y.1 }
  |_=>none }
def Vj(a:Int)(b:List Sm)(c:Nat):Nat:=LN (Ip a b c)
def XA(a:Int)(b:List Sm)(c d:Nat):List D:=[D.str (List.getD (Ip a b c) d [])]
def VK(a:Int)(b:List Sm)(c:Nat):Nat:=Vj a b c+N1
def HV:Arr:=DA
def YT:Nd:=Nd.mk Z0 Z0 Z0 [] Z0 Z0 HV [] [] Z0 Z0 Z0
def YU:Sm:=Sm.mk Z0 Z0 [] Z0 YT YT
def Qfe(a:List Sm)(b:Nat):Sm:=List.getD a (Int.toNat (↑b:Int)) YU
def QJF(a:List Sm)(b:Nat):Int:=Sm.kd (Qfe a b)
def QJG(a:List Sm)(b:Nat):Bool:=QJF a b==2
def XB(a:Int)(b:List Sm)(c:Nat):Nat:=VK a b c+N1
def Qmm(a:Int)(b:List Sm)(c:Nat):Nat:=XB a b c+N1
def Qff(a:List Sm)(b:Nat):Bool:=QJF a b==3
def Vk(a:Nd->Prop)(b:Int)(c:Nd×List (List UInt8)):Prop:=OR a b N0 c
def QJH(a:List Sm)(b c:Nat):List D:=[D.str (List.getD [Sm.nm (Qfe a b)] c [])]
def QJI(a:Nat):List D:=[D.str (List.getD [[(60:UInt8),(45:UInt8)]] a [])]
def QJJ(a:Int)(b:List Sm)(c d:Nat):D:=D.sl N1 (Qmm a b c) (BN (XB a b c) (BN (VK a b c) (BN (Vj a b c) (fun i=>XA a b c i) fun i=>[D.str (List.getD [Gk a] i [])]) fun i=>QJH b c i) fun i=>QJI i) (Mode.tok N0 d)
def Jd(a:List Sm)(b:Nat):Nd:=Sm.te (Qfe a b)
def QJN(a:Int):List D:=[D.sl N1 N0 (fun _x=>[]) Mode.nil,ZI a]
def Qfh(a:List Sm)(b:Nat)(c:Int):List D:=D.agg (Nd.rowE (Jd a b))::QJN c
def QJO:List Int:=Bj N0 fun _x=>[]
def Vl(a:List (List UInt8))(b:Nat)(c:Nd)(d:Int):List D:=[D.sl N1 (LN a) (fun i=>[D.str (List.getD a i [])]) (Mode.tok N0 b),D.agg (Nd.row1 c),SI QJO,ZI d]
def QJP(a:List (List UInt8))(b:Int)(c:Nd):List (List UInt8):=a++rlP b (BR QJO c)
def Qfi(a:List (List UInt8))(b:Int)(c:Nd):Nat:=LN (QJP a b c)
def Qmn(a:List (List UInt8))(b:Int)(c:Nd):Nat:=Qfi a b c+N1
def QJQ(a:List (List UInt8))(b:Int)(c:Nd)(d:Nat):List D:=[D.str (List.getD (QJP a b c) d [])]
def Je(a:List Sm)(b:Nat):Nd:=Sm.nd (Qfe a b)
def HW(a:List Sm)(b:Nat)(c:Int):List D:=D.agg (Nd.rowE (Je a b))::QJN c
def YV(a:List Sm)(b:Nat):Sm:=List.getD a b YU
def QSs(a:List Sm):D:=D.sl 34 (LN a) (fun i=>(Sm.row1 (YV a i))) Mode.any
def HX(a:List Sm)(b:Int)(c:Nat)(d:List (List UInt8))(e:Nd):Prop:=∀(y:Nat),True->(SM (QSs a)/\SM (ZI b)/\True)/\∃(y_1:Nat×Nat),y_1.1<=LN a/\LN a-y_1.1<LN a-c/\(IntKind.wrap IntKind.i64 ((↑c:Int)+Z1)=(NI y_1.1)/\(Qfi d b e=Vj b a y_1.1/\(∀(i:Nat),i<Qfi d b e->QJQ d b e i=XA b a y_1.1 i)/\y=y_1.2)/\True)/\True/\y=y_1.2/\True
def Qfm(a:List (List UInt8))(b:Int)(c:Nd)(d:Nat)(e:List Sm)(f:Nd->Prop):Prop:=∀(y:Nat),True->SM y/\Bc (Qmn a b c*16<=140737488355328/\Qmn a b c<=9223372036854775807) (∀(t:Nat),Bc (Z0<=(↑d:Int)/\(↑d:Int)<(LI e)) (∃(x:Nd×List (List UInt8)),(Vk f b x/\SM t/\wkL (D.sl N1 (Qmn a b c) (BN (Qfi a b c) (fun i=>QJQ a b c i) fun i=>[D.str (List.getD [[(58:UInt8)]] i [])]) (Mode.tok N0 t)::HW e d b) (Vl x.2 t x.1 b))/\HX e b d x.2 x.1))
def QJ0(a:Int)(b:List Sm)(c d:Nat):D:=D.sl N1 (VK a b c) (BN (Vj a b c) (fun i=>XA a b c i) fun i=>[D.str (List.getD [Gk a] i [])]) (Mode.tok N0 d)
def QJ1(a:Int)(b:List Sm)(c d:Nat):D:=D.sl N1 (XB a b c) (BN (VK a b c) (BN (Vj a b c) (fun i=>XA a b c i) fun i=>QJH b c i) fun i=>QJI i) (Mode.tok N0 d)
def QJ2(a:Int)(b:List Sm)(c d:Nat):D:=D.sl N1 (Vj a b c) (fun i=>XA a b c i) (Mode.tok N0 d)
theorem BdS(p : Nd -> Prop)(l : List Sm)(lv : Int)(h0 : 0<=lv)(h1 : lv+szB l<=100000)(hl : l.length<=BC)(hp : (ptB l).length<=3500000000000)(h : ∀b, p b -> RPar b)(hq : ∀s∈l, p s.nd /\ (s.kd=3 -> p s.te)) :
  CD 22 [gsl 34 Sm.row1 l,.int .i64 lv] (ssl (rlP lv (ptB l)) .any):=by
 refine Bg (A:=sC _ _) (x:=()) (E:=Erby p l lv) (eOk (BhW h) rfl) Tryz.func22 rfl (by kernel_rfl) rfl (by simp[sC,Erby,EC,E0]) ?_
 refine Bi (T :=
  ∀(t:Nat),(∃(x:Nat×Nat),x.1<=LN l/\(Z0=(NI x.1)/\(N0=Vj lv l x.1/\(∀(i:Nat),i<N0->Cw (List D) [] (XA lv l x.1 i))/\t=x.2)/\True)/\True/\t=x.2/\True)/\∀(x:Nat×Nat),x.1<=LN l->ifB (decide ((NI x.1)<(LI l))) (ifB (decide (Z0<(NI x.1))) (∃(x_1:Unit),(Z0<=lv/\lv<=200000)/\∀(y:Unit),True->SM x.2/\Bc (VK lv l x.1*16<=140737488355328/\VK lv l x.1<=9223372036854775807) (∀(t:Nat),Bc (Z0<=(NI x.1)/\(NI x.1)<(LI l)) (ifB (QJG l x.1) (Bc (Z0<=(NI x.1)/\(NI x.1)<(LI l)) (SM t/\Bc (XB lv l x.1*16<=140737488355328/\XB lv l x.1<=9223372036854775807) (∀(t:Nat),SM t/\Bc (Qmm lv l x.1*16<=140737488355328/\Qmm lv l x.1<=9223372036854775807) (∀(t:Nat),Bc (Z0<=(NI x.1)/\(NI x.1)<(LI l)) (ifB (Qff l x.1) (Bc (Z0<=(NI x.1)/\(NI x.1)<(LI l)) (∃(x_2:Nd×List (List UInt8)),(Vk p lv x_2/\SM t/\wkL (QJJ lv l x.1 t::Qfh l x.1 lv) (Vl x_2.2 t x_2.1 lv))/\Qfm x_2.2 lv x_2.1 x.1 l p)) (Bc (Z0<=(NI x.1)/\(NI x.1)<(LI l)) (∃(x_2:Nd×List (List UInt8)),(Vk p lv x_2/\SM t/\wkL (QJJ lv l x.1 t::HW l x.1 lv) (Vl x_2.2 t x_2.1 lv))/\HX l lv x.1 x_2.2 x_2.1))))))) (Bc (Z0<=(NI x.1)/\(NI x.1)<(LI l)) (ifB (Qff l x.1) (Bc (Z0<=(NI x.1)/\(NI x.1)<(LI l)) (∃(x_2:Nd×List (List UInt8)),(Vk p lv x_2/\SM t/\wkL (QJ0 lv l x.1 t::Qfh l x.1 lv) (Vl x_2.2 t x_2.1 lv))/\Qfm x_2.2 lv x_2.1 x.1 l p)) (Bc (Z0<=(NI x.1)/\(NI x.1)<(LI l)) (∃(x_2:Nd×List (List UInt8)),(Vk p lv x_2/\SM t/\wkL (QJ0 lv l x.1 t::HW l x.1 lv) (Vl x_2.2 t x_2.1 lv))/\HX l lv x.1 x_2.2 x_2.1))))))) (Bc (Z0<=(NI x.1)/\(NI x.1)<(LI l)) (ifB (QJG l x.1) (Bc (Z0<=(NI x.1)/\(NI x.1)<(LI l)) (SM x.2/\Bc (VK lv l x.1*16<=140737488355328/\VK lv l x.1<=9223372036854775807) (∀(t:Nat),SM t/\Bc (XB lv l x.1*16<=140737488355328/\XB lv l x.1<=9223372036854775807) (∀(t:Nat),Bc (Z0<=(NI x.1)/\(NI x.1)<(LI l)) (ifB (Qff l x.1) (Bc (Z0<=(NI x.1)/\(NI x.1)<(LI l)) (∃(x_1:Nd×List (List UInt8)),(Vk p lv x_1/\SM t/\wkL (QJ1 lv l x.1 t::Qfh l x.1 lv) (Vl x_1.2 t x_1.1 lv))/\Qfm x_1.2 lv x_1.1 x.1 l p)) (Bc (Z0<=(NI x.1)/\(NI x.1)<(LI l)) (∃(x_1:Nd×List (List UInt8)),(Vk p lv x_1/\SM t/\wkL (QJ1 lv l x.1 t::HW l x.1 lv) (Vl x_1.2 t x_1.1 lv))/\HX l lv x.1 x_1.2 x_1.1))))))) (Bc (Z0<=(NI x.1)/\(NI x.1)<(LI l)) (ifB (Qff l x.1) (Bc (Z0<=(NI x.1)/\(NI x.1)<(LI l)) (∃(x_1:Nd×List (List UInt8)),(Vk p lv x_1/\SM x.2/\wkL (QJ2 lv l x.1 x.2::Qfh l x.1 lv) (Vl x_1.2 x.2 x_1.1 lv))/\Qfm x_1.2 lv x_1.1 x.1 l p)) (Bc (Z0<=(NI x.1)/\(NI x.1)<(LI l)) (∃(x_1:Nd×List (List UInt8)),(Vk p lv x_1/\SM x.2/\wkL (QJ2 lv l x.1 x.2::HW l x.1 lv) (Vl x_1.2 x.2 x_1.1 lv))/\HX l lv x.1 x_1.2 x_1.1))))))) (True/\∃(y:Unit),True/\(Vj lv l x.1=LN (rlP lv (ptB l))/\(∀(i:Nat),i<Vj lv l x.1->XA lv l x.1 i=[D.str (List.getD (rlP lv (ptB l)) i [])])/\True)/\True/\True)) (by kernel_rfl) ?_
 delta DA GI LI LN N0 N1 N4 NI SI SM Z0 Z1 ZI Vj XA Qmm Qff Vk QJH QJI QJJ Jd VK QJN Qfh QJO Vl QJP Qfi Qmn HV QJQ Je HW YV YT YU QSs HX Qfm QJ0 QJ1 QJ2 Qfe QJF QJG XB
 try simp only[<- dm]
 try simp only[<- dn]
 simp only[ne_eq,Int.toNat_natCast,Bf,Bd,decide_eq_true_eq,decide_eq_false_iff_not,true_and,and_true,beq_iff_eq,beq_eq_false_iff_ne,exists_const,forall_const,Prod.exists]
 unfold BC at hl
 have len:∀i,(Ip lv l i).length<=3500000000000:=fun i=>by
  have:=Bdl l i
  unfold Ip
  rw[EE]
  omega
 intro t
 refine⟨⟨0,t,Nat.zero_le _,⟨rfl,rfl,fun i hi=>absurd hi (by omega),rfl⟩,rfl⟩,?_⟩
 rintro ⟨i,t1⟩ hi
 simp only at hi ⊢
 refine⟨fun hlt=>?_,fun hge=>?_⟩
 ·have hi':i<l.length:=by omega
  have st:=Bd6 lv hi'
  have e1:=len (i+1)
  have hs:=C3 hi'
  obtain ⟨q1,q2⟩:=hq _ hs
  have z:=Bgj hs
  have zm:=Uh (l.getD i default)
  have zn:szN (l.getD i default).nd<=szM (l.getD i default):=by rw[zm];split<;>omega
  have zt:(l.getD i default).kd=3->szN (l.getD i default).te<=szM (l.getD i default):=fun k=>by rw[zm,if_pos k];omega
  clear zm
  rw[rlM] at st
  rw[st] at e1
  generalize hA:Ip lv l i=A at *
  refine⟨fun hi0=>?_,fun hi0=>?_⟩
  ·rw[if_pos (by omega)] at st e1
   have e2:A.length+1<=3500000000000:=by
    simp only[List.length_append,List.length_cons,List.length_nil] at e1
    omega
   refine⟨⟨h0,by omega⟩,⟨by omega,by omega⟩,fun t2=>⟨⟨by omega,hlt⟩,fun k2=>?_,fun n2=>?_⟩⟩
   ·rw[if_pos k2] at st e1
    simp only[List.length_append,List.length_cons,List.length_nil] at e1
    refine⟨⟨by omega,hlt⟩,⟨by omega,by omega⟩,⟨by omega,by omega⟩,fun t3=>⟨⟨by omega,hlt⟩,fun k3=>absurd k3 (by omega),fun n3=>⟨⟨by omega,hlt⟩,(l.getD i default).nd,A++[Gk lv]++[(l.getD i default).nm]++[[60,45]],Et q1 h0 (by omega) (by decide) (by simp only[List.length_append,List.length_cons,List.length_nil];omega) (by simp only[List.length_append,List.length_cons,List.length_nil]) (E6 (by simp only[List.length_append,List.length_cons,List.length_nil]) (E6 (by simp only[List.length_append,List.length_cons,List.length_nil]) (E6 rfl (fun _ _=>rfl) _) _) _) CT,TW hi' hl (by rw[st];simp)⟩⟩⟩
   ·rw[if_neg n2] at st e1
    refine⟨⟨by omega,hlt⟩,fun k3=>?_,fun n3=>?_⟩
    ·have zt':=zt k3
     rw[if_pos k3] at st e1
     simp only[List.length_append,List.length_cons,List.length_nil] at e1
     refine⟨⟨by omega,hlt⟩,(l.getD i default).te,A++[Gk lv],Et (q2 k3) h0 (by omega) (by decide) (by simp only[List.length_append,List.length_cons,List.length_nil];omega) (by simp only[List.length_append,List.length_cons,List.length_nil]) (E6 rfl (fun _ _=>rfl) _) CT,⟨?_,?_⟩,fun t4=>⟨⟨by omega,hlt⟩,(l.getD i default).nd,A++[Gk lv]++rlP lv (BR (Bj 0 fun _=>[]) (l.getD i default).te)++[[58]],Et q1 h0 (by omega) (by decide) ?_ (by simp only[List.length_append,List.length_cons,List.length_nil]) (E6 rfl (fun _ _=>rfl) _) CT,TW hi' hl (by rw[IG,st];simp)⟩⟩
     all_goals
      rw[IG]
      simp only[List.length_append,List.length_cons,List.length_nil]
      omega
    ·rw[if_neg n3] at st e1
     simp only[List.length_append,List.length_cons,List.length_nil] at e1
     exact⟨⟨by omega,hlt⟩,(l.getD i default).nd,A++[Gk lv],Et q1 h0 (by omega) (by decide) (by simp only[List.length_append,List.length_cons,List.length_nil];omega) (by simp only[List.length_append,List.length_cons,List.length_nil]) (E6 rfl (fun _ _=>rfl) _) CT,TW hi' hl (by rw[st];simp)⟩
  ·rw[if_neg (by omega)] at st e1
   refine⟨⟨by omega,hlt⟩,fun k2=>?_,fun n2=>?_⟩
   ·rw[if_pos k2] at st e1
    simp only[List.length_append,List.length_cons,List.length_nil] at e1
    refine⟨⟨by omega,hlt⟩,⟨by omega,by omega⟩,⟨by omega,by omega⟩,fun t3=>⟨⟨by omega,hlt⟩,fun k3=>absurd k3 (by omega),fun n3=>⟨⟨by omega,hlt⟩,(l.getD i default).nd,A++[(l.getD i default).nm]++[[60,45]],Et q1 h0 (by omega) (by decide) (by simp only[List.length_append,List.length_cons,List.length_nil];omega) (by simp only[List.length_append,List.length_cons,List.length_nil]) (E6 (by simp only[List.length_append,List.length_cons,List.length_nil]) (E6 rfl (fun _ _=>rfl) _) _) CT,TW hi' hl (by rw[st];simp)⟩⟩⟩
   ·rw[if_neg n2] at st e1
    refine⟨⟨by omega,hlt⟩,fun k3=>?_,fun n3=>?_⟩
    ·have zt':=zt k3
     rw[if_pos k3] at st e1
     simp only[List.length_append,List.length_cons,List.length_nil] at e1
     refine⟨⟨by omega,hlt⟩,(l.getD i default).te,A,Et (q2 k3) h0 (by omega) (by decide) (by omega) rfl (fun _ _=>rfl) CT,⟨?_,?_⟩,fun t4=>⟨⟨by omega,hlt⟩,(l.getD i default).nd,A++rlP lv (BR (Bj 0 fun _=>[]) (l.getD i default).te)++[[58]],Et q1 h0 (by omega) (by decide) ?_ (by simp only[List.length_append,List.length_cons,List.length_nil]) (E6 rfl (fun _ _=>rfl) _) CT,TW hi' hl (by rw[IG,st];simp)⟩⟩
     all_goals
      rw[IG]
      simp only[List.length_append,List.length_cons,List.length_nil]
      omega
    ·rw[if_neg n3] at st e1
     simp only[List.length_append,List.length_nil] at e1
     exact⟨⟨by omega,hlt⟩,(l.getD i default).nd,A,Et q1 h0 (by omega) (by decide) (by omega) rfl (fun _ _=>rfl) CT,TW hi' hl (by rw[st];simp)⟩
 ·have e:Ip lv l i=rlP lv (ptB l):=by
   unfold Ip
   rw[show i=l.length by omega,List.take_length]
  rw[e]
  exact⟨rfl,fun _ _=>rfl⟩
def BlC(n:Nd):Con:=fun k ds S=>match k with
 |22=>match ds with
  | [_,.int .i64 lv]=>some (pA ds S (ssl (rlP lv (ptB n.bo)) .any) (wkL ds [gsl 34 Sm.row1 n.bo,.int .i64 lv]/\n.kd=10/\0<=lv/\lv+szB n.bo<=100000))
  |_=>none
 |93=>some (pA ds S (.str (Eu n)) (isN n ds []))
 |_=>none
theorem BkN{n:Nd}(ho:n.ok)(hn:n.sm)(hb:n.kd=10->∀lv:Int,0<=lv->lv+szB n.bo<=100000->CD 22 [gsl 34 Sm.row1 n.bo,.int .i64 lv] (ssl (rlP lv (ptB n.bo)) .any)):ConOk Tryz.prog (BlC n):=by
 intro k ds S A hh
 unfold BlC at hh
 split at hh
 ·split at hh
  ·injection hh with hh;subst hh
   exact Bo fun ⟨e,hk,h0,h1⟩=>CD.at_ (CD.wk (hb hk _ h0 h1) e) _
  ·cases hh
 ·injection hh with hh;subst hh
  exact Bo fun e=>CD.at_ (CD.wk (Bns n ho hn) e) _
 ·cases hh
def EQ(ks:List Int)(lv:Int)(l:List Nd)(i:Nat):List (List UInt8):=rlP lv ((l.take i).flatMap (BR ks))
theorem Bjn:BR [16,4,5]=BR [4,5,16]:=by
 funext b
 unfold BR ptW
 have e:[16,4,5].contains b.kd=[4,5,16].contains b.kd:=by
  rw[Bool.eq_iff_iff]
  simp only[List.contains_eq_mem,decide_eq_true_eq,List.mem_cons,List.not_mem_nil,or_false]
  omega
 rw[e]
theorem Bmu(b:Nd):BR [16,14,15,3,4,5] b=BR [3,4,5,16,14,15] b:=by
 unfold BR ptW
 have e:[16,14,15,3,4,5].contains b.kd=[3,4,5,16,14,15].contains b.kd:=by
  rw[Bool.eq_iff_iff]
  simp only[List.contains_eq_mem,decide_eq_true_eq,List.mem_cons,List.not_mem_nil,or_false]
  omega
 rw[e]
theorem Baa(ks:List Int)(b:Nd):ID (BR ks b):=Tv (Wr b)
theorem Beq(ks:List Int)(lv:Int){l:List Nd}{i:Nat}(h:i<l.length):EQ ks lv l (i+1)=EQ ks lv l i++rlP lv (BR ks (l.getD i default)):=by
 unfold EQ
 rw[B6 h,List.flatMap_append,EG (Mp fun x _=>Baa ks x)]
 simp
theorem RY(ks:List Int)(lv:Int)(l:List Nd)(i:Nat):(EQ ks lv l i).length<=(l.flatMap (BR ks)).length:=by
 unfold EQ
 rw[EE]
 exact BaB _ _ _
theorem BkC{lv : Int}{ks : List Int}{l : List Nd}{i m : Nat}{f : Nat -> List D}(hi : i<l.length)(hl : l.length<=8589934592)(hf : Bj m f=ks) :
  ∀y:Nat,∃a b:Nat,a<=l.length/\l.length-a<l.length-i/\(IntKind.i64.wrap ((i:Int)+1)=(a:Int)/\(EQ ks lv l i++rlP lv (BR (Bj m f) (l.getD i default))).length=(EQ ks lv l a).length/\(∀j,j<(EQ ks lv l i++rlP lv (BR (Bj m f) (l.getD i default))).length->[D.str ((EQ ks lv l i++rlP lv (BR (Bj m f) (l.getD i default))).getD j [])]=[D.str ((EQ ks lv l a).getD j [])])/\y=b)/\y=b:=by
 intro y
 rw[hf,<- Beq ks lv hi]
 exact⟨i+1,y,hi,by omega,⟨Ba (by omega) (by omega),rfl,fun _ _=>rfl,rfl⟩,rfl⟩
theorem BgS{α:Type}[Inhabited α]{w:Nat}{g:α->List D}{l:List α}:wkD (gsl w g l) (lsl w (l.map g)):=by
 simp only[lsl,gsl,wkD,Bb]
 refine⟨by simp,by simp,fun i hi=>?_,by simp[BG]⟩
 have:(l.map g).getD i []=g (l.getD i default):=by simp[List.getD_eq_getElem?_getD,hi]
 rw[this]
 exact Be _
theorem Bls(n:Nd):wkL n.row1 n.row:=by
 cases n with
 |mk kd at_ cl tx pr op va ki bo de sl ss =>
  simp only[Nd.row,Nd.row1,Nd.rowE,Nd.kd,Nd.at_,Nd.cl,Nd.tx,Nd.pr,Nd.op,Nd.va,Nd.ki,Nd.bo,Nd.de,Nd.sl,Nd.ss,wkL,Ia,Ec]
  exact⟨Bh _,Bh _,Bh _,Bh _,Bh _,Bh _,Bh _,Bh _,Bh _,Bh _,BgS,BgS,Bh _,Bh _,Bh _,trivial⟩
theorem Blb(n:Nd):wkL n.rowE n.row:=Bls n
theorem BpV(s:Sm):wkL s.row1 s.row:=by
 cases s with
 |mk kd at_ nm sl te nd =>
  simp only[Sm.row,Sm.row1,Sm.kd,Sm.at_,Sm.nm,Sm.sl,Sm.te,Sm.nd,wkL]
  exact⟨Bh _,Bh _,Bh _,Bh _,OF (Blb te) (Blb nd)⟩
theorem Bpv(n:Nd):wkL n.row2 n.row1:=by
 simp only[Nd.row2,Nd.row1,Nd.rowE,wkL]
 exact⟨Bh _,Bh _,Bh _,Bh _,Bh _,Bh _,Bh _,Bh _,Bh _,Bh _,U2 Bls,U2 BpV,Bh _,Bh _,Bh _,trivial⟩
theorem Bqy(n:Nd):isN n [.agg n.row2] []:=by
 simp only[isN,wkL]
 exact⟨by simp only[wkD];exact Bpv n,trivial⟩
theorem UR{p : Nd -> Prop}{lv : Int}{b : Nd}{m : Nat}{f : Nat -> List D}{md : Ab.Mode}(hp : p b)(h0 : 0<=lv)(h1 : lv+szN b<=100000)(hm : m<=maxLen)(hI : IntsP m f) :
  OR p lv m (b,[])/\Cw (List (List UInt8)) [] []/\wkL [.sl 1 0 (fun _=>[]) .nil,.agg b.row1,.sl 1 m f md,.int .i64 lv] [.sl 1 0 (fun _=>[]) .nil,.agg b.row1,isl (Bj m f) .any,.int .i64 lv]:=by
 refine⟨⟨hp,h0,h1,hm,by simp⟩,rfl,?_⟩
 have h2:=Cj (r:=b.row1) (md:=md) hI
 simp only[wkL] at h2 ⊢
 exact⟨Bh _,h2.1,h2.2.1,Bh _,trivial⟩
theorem BeL{n:Nd}(hv:BU n=0)(ho:n.ok):(ptN n).length<=3500000000000:=by
 obtain ⟨_,hz,hvn⟩:=BY.1 hv
 have h1:=BfL (ptN n)
 have h2:=TX (ptN n)
 have h3:=(Rp n hvn).1
 have h4:=Ev n hvn ho
 rw[h3] at h2
 omega
theorem C5{L M:List (List UInt8)}(h:L=M):L.length=M.length/\∀i,i<L.length->[D.str (L.getD i [])]=[D.str (M.getD i [])]:=by
 subst h
 exact⟨rfl,fun _ _=>rfl⟩
noncomputable def Erpa(p:Nd->Prop)(n:Nd)(lv:Int):Senv:={ EC (Bbv p (BlC n)) 151 3 [4,5,6,7,8,9,10,11,16,22,28,40,56,79,95,119,125,137] (fun id=>match id with | 13=>([0,1,2,3,4,5,6,8,9,10,11,12,7,13,14],[7,13]) | 15=>([0,1,2,3,4,5,6,8,9,10,11,12,13,15,16,17,18,19,7,14,20,21],[7,14,20]) | 17=>([0,1,2,3,4,5,6,8,9,10,11,12,7,13,14],[7,13]) | 20=>([0,1,2,3,4,5,6,8,9,10,11,12,14,15,16,17,18,19,7,13,20,21],[7,13,20]) | 27=>([0,3,4,5,6,1,2,7,8,9,10,11],[1,2,7,8,9,10]) | _=>([],[])) with
 mg:=fun _=>2
 gh:=fun b=>match b with
  |1=>[.slot 8]
  |3=>[.slot 8]
  |_=>[]
 ann:=fun b _ S=>match b with
  |1=>some { slots:=[9,8],keep:=[0,1,2,6],α:=Nat×Nat,st:=fun y=>([.int .i64 y.1,ssl (EQ [3,4,5] lv n.ki y.1) (.tok 0 y.2)],⟨S.objs,[(0,y.2)]⟩),inv:=fun y=>y.1<=n.ki.length,mu:=fun y=>n.ki.length-y.1 }
  |3=>some { slots:=[11,8],keep:=[0,1,2],α:=Nat×Nat,st:=fun y=>([.int .i64 y.1,ssl (EQ [16,4,5] lv n.ki y.1) (.tok 0 y.2)],⟨S.objs,[(0,y.2)]⟩),inv:=fun y=>y.1<=n.ki.length,mu:=fun y=>n.ki.length-y.1 }
  |_=>none }
def JV(a:Nd):Int:=Nd.kd a
def VL(a:Nd):List Nd:=Nd.ki a
def XC(a:Nd):Nat:=LN (VL a)
def YW(a:Nat)(b:Nd):Prop:=a<=XC b
def QJ3(a:Int)(b:Nd)(c:Nat):List (List UInt8):=EQ [(3:Int),(4:Int),(5:Int)] a (VL b) c
def HY(a:Int)(b:Nd)(c:Nat):Nat:=LN (QJ3 a b c)
def Qfn(a:Int)(b:Nd)(c d:Nat):List D:=[D.str (List.getD (QJ3 a b c) d [])]
def QJ4(a:Nd):Int:=Nd.at_ a
def QJ5(a:Nd):Int:=Nd.cl a
def QJ6(a:Nd):List UInt8:=Nd.tx a
def QJ7(a:Nd):Int:=Nd.pr a
def QJ8(a:Nd):Int:=Nd.op a
def Qfo(a:Nd):Arr:=Nd.va a
def QJ9(a:Nd):Int:=Arr.k (Qfo a)
def QKa(a:Nd):List Int:=Arr.sh (Qfo a)
def Qmo(a:Nd):Nat:=LN (QKa a)
def QKb(a:Nd)(b:Nat):List D:=[ZI (GI (QKa a) b)]
def QKc(a:Nd):List Int:=Arr.nu (Qfo a)
def Qmp(a:Nd):Nat:=LN (QKc a)
def QKd(a:Nd)(b:Nat):List D:=[ZI (GI (QKc a) b)]
def QKe(a:Nd):List Arr:=Arr.it (Qfo a)
def Qmq(a:Nd):Nat:=LN (QKe a)
def YX:Arr:=DA
def QKf(a:Nd)(b:Nat):List D:=Arr.row (List.getD (QKe a) b YX)
def JI:Nd:=Nd.mk Z0 Z0 Z0 [] Z0 Z0 YX [] [] Z0 Z0 Z0
def QKg(a:Nd)(b:Nat):List D:=Nd.row1 (List.getD (VL a) b JI)
def Qfp(a:Nd):List Sm:=Nd.bo a
def Qmr(a:Nd):Nat:=LN (Qfp a)
def HZ:Sm:=Sm.mk Z0 Z0 [] Z0 JI JI
def QKh(a:Nd)(b:Nat):List D:=Sm.row1 (List.getD (Qfp a) b HZ)
def QKi(a:Nd):Int:=Nd.de a
def QKj(a:Nd):Int:=Nd.sl a
def QKk(a:Nd):Int:=Nd.ss a
def Qfq(a:Nat)(b:Nd)(c d:Nat):Prop:=(SM a/\(SM (JV b)/\SM (QJ4 b)/\SM (QJ5 b)/\SM (QJ6 b)/\SM (QJ7 b)/\SM (QJ8 b)/\SM (QJ9 b)/\(SM (Qmo b)/\(∀(i:Nat),i<Qmo b->SM (QKb b i))/\True)/\(SM (Qmp b)/\(∀(i:Nat),i<Qmp b->SM (QKd b i))/\True)/\(SM (Qmq b)/\(∀(i:Nat),i<Qmq b->SM (QKf b i))/\True)/\(SM (XC b)/\(∀(i:Nat),i<XC b->SM (QKg b i))/\True)/\(SM (Qmr b)/\(∀(i:Nat),i<Qmr b->SM (QKh b i))/\True)/\SM (QKi b)/\SM (QKj b)/\SM (QKk b)/\True)/\True)/\c=d/\True
def QN(a:Nd):Int:=(NI (XC a))
def QKl(a:Nat)(b:Nd):Bool:=decide ((↑a:Int)<QN b)
def Jh(a:Nd)(b:Nat):Nd:=List.getD (VL a) (Int.toNat (↑b:Int)) JI
def QKp(a:Nd)(b:Nat):D:=D.agg (Nd.rowE (Jh a b))
def Qms:List (List D):=[[ZI 4],[ZI 5]]
def QKq:List (List D):=[ZI 3]::Qms
def QKr(a:Nat):List D:=List.getD QKq a []
def QKs:D:=D.sl N1 (3:Nat) (fun i=>QKr i) Mode.full
def Ji(a:Int):List D:=[ZI a]
def H0(a:List (List UInt8))(b:Nat):D:=D.sl N1 (LN a) (fun i=>[D.str (List.getD a i [])]) (Mode.tok N0 b)
def YY(a:Nd):D:=D.agg (Nd.row1 a)
def QKt:List Int:=Bj (3:Nat) fun i=>QKr i
def QKu(a:Nd):D:=D.sl 15 (XC a) (fun i=>QKg a i) Mode.any
def Qmt(a:Nd):D:=D.sl 34 (Qmr a) (fun i=>QKh a i) Mode.any
def QKv(a:Nd):D:=D.agg [ZI (JV a),ZI (QJ4 a),ZI (QJ5 a),D.str (QJ6 a),ZI (QJ7 a),ZI (QJ8 a),ZI (QJ9 a),D.sl N1 (Qmo a) (fun i=>QKb a i) Mode.any,D.sl N1 (Qmp a) (fun i=>QKd a i) Mode.any,D.sl N4 (Qmq a) (fun i=>QKf a i) Mode.any,QKu a,Qmt a,ZI (QKi a),ZI (QKj a),ZI (QKk a)]
def QKw(a:Nd):Prop:=SM (QKv a)
def QKx(a:Nd)(b c:Nat):Prop:=XC a-b<XC a-c
def QKy(a:List (List UInt8))(b:Int)(c:Nd):List (List UInt8):=a++rlP b (BR QKt c)
def QKz(a:List (List UInt8))(b:Int)(c:Nd):Nat:=LN (QKy a b c)
def QKA(a:Int)(b:Nd):List (List UInt8):=rlP a (ptN b)
def YZ(a:Int)(b:Nd):Nat:=LN (QKA a b)
def Y0(a:Int)(b:Nd)(c:Nat):List D:=[D.str (List.getD (QKA a b) c [])]
def Y1:D:=D.sl N1 N0 (fun _x=>[]) Mode.nil
def Jj(a:Nd):Nd:=List.getD (VL a) N0 JI
def QKE(a:Nd):D:=D.agg (Nd.rowE (Jj a))
def QKF(a:Int):List D:=D.sl N1 N1 (fun i=>List.getD [[ZI 16]] i []) Mode.full::Ji a
def QKG(a:Nd)(b:Int):List D:=QKE a::QKF b
def QKH:List Int:=Bj N1 fun i=>List.getD [[ZI 16]] i []
def QKI(a:Nd)(b:Int):List D:=YY a::SI QKH::Ji b
def QKJ(a:Nd)(b:Int):List D:=Y1::QKI a b
def VM(a:Nat)(b:Nd):Prop:=SM a/\SM (QKu b)
def QKK(a:List (List UInt8))(b:Int)(c:Nd):List (List UInt8):=a++rlP b (BR QKH c)
def Qmu(a:List (List UInt8))(b:Int)(c:Nd)(d:Nat):D:=D.sl N1 (LN (QKK a b c)) (fun i=>[D.str (List.getD (QKK a b c) i [])]) (Mode.tok N0 d)
def Jk(a:Nd):Nd:=List.getD (VL a) N1 JI
def Qmv(a:Nd):D:=D.agg (Nd.rowE (Jk a))
def Qmw(a:Int):List D:=Y1::Ji a
def QKO:List Int:=Bj N0 fun _x=>[]
def Qmx(a:List (List UInt8))(b:Nat)(c:Nd)(d:Int):List D:=H0 a b::YY c::SI QKO::Ji d
def QKP(a:List (List UInt8))(b:Int)(c:Nd):List (List UInt8):=a++rlP b (BR QKO c)
def Qmy(a:List (List UInt8))(b:Int)(c:Nd):Nat:=LN (QKP a b c)
def QKQ(a:List (List UInt8))(b:Int)(c:Nd)(d:Nat):List D:=[D.str (List.getD (QKP a b c) d [])]
def Qmz(a:List (List UInt8))(b:Int)(c d:Nd):Prop:=∀(_y:Nat),True->True/\∃(_y:Unit),True/\(Qmy a b c=YZ b d/\(∀(i:Nat),i<Qmy a b c->QKQ a b c i=Y0 b d i)/\True)/\True/\True
def QKR(a:Nat):List D:=List.getD Qms a []
def QKS:List Int:=Bj N2 fun i=>QKR i
def QKT(a:List (List UInt8))(b:Int)(c:Nd):List (List UInt8):=a++rlP b (BR QKS c)
def Jl(a:Nd):Nd:=List.getD (VL a) N2 JI
def QKX(a:Nd):D:=D.agg (Nd.rowE (Jl a))
def QKY(a:Nd->Prop)(b:Int)(c:Nd×List (List UInt8))(d:List (List UInt8))(e f:Nd):Prop:=OR a b N1 c/\Cw (List (List UInt8)) d []/\wkL (Y1::Qmv e::QKF b) (QKJ f b)
def QKZ(a:Nd->Prop)(b:Int)(c:Nd×List (List UInt8))(d:Nat)(e:List (List UInt8))(f g:Nd)(h:List (List UInt8))(k:Nd):Prop:=OR a b N0 c/\SM d/\wkL (Qmu e b f d::QKE g::Qmw b) (Qmx h d k b)
def QK0(a:Nat):List D:=List.getD ([ZI 16]::[ZI 14]::[ZI 15]::QKq) a []
def QK1:List Int:=Bj N6 fun i=>QK0 i
def QK2(a:List (List UInt8))(b:Int)(c:Nd):List (List UInt8):=a++rlP b (BR QK1 c)
def QK3(a:List (List UInt8))(b:Int)(c:Nd):Nat:=LN (QK2 a b c)
def QK4(a:Int)(b:Nd)(c:Nat):List (List UInt8):=EQ [(16:Int),(4:Int),(5:Int)] a (VL b) c
def H1(a:Int)(b:Nd)(c:Nat):Nat:=LN (QK4 a b c)
def Qfv(a:Int)(b:Nd)(c d:Nat):List D:=[D.str (List.getD (QK4 a b c) d [])]
def QK5(a:Nat):List D:=List.getD ([ZI 16]::Qms) a []
def QK6:List Int:=Bj (3:Nat) fun i=>QK5 i
def QK7(a:List (List UInt8))(b:Int)(c:Nd):List (List UInt8):=a++rlP b (BR QK6 c)
def QK8(a:List (List UInt8))(b:Int)(c:Nd):Nat:=LN (QK7 a b c)
def H2(a:Nat)(b:Nd):Prop:=SM a/\SM (Qmt b)
def Qfw(a:Int):Int:=IntKind.wrap IntKind.i64 (a+Z1)
def QK9(a:Nd)(b:Int):List D:=[Qmt a,ZI (Qfw b)]
def QLa(a:Nd)(b:Int):Prop:=wkL (QK9 a b) (QK9 a b)/\JV a=10/\Z0<=Qfw b/\Qfw b+(NI (szB (Qfp a)))<=100000
def QLb(a:Int)(b:Nd):List (List UInt8):=rlP (Qfw a) (ptB (Qfp b))
def Qfx(a:Int)(b:Nd):Nat:=N1+LN (QLb a b)
def Qfy(a:Int)(b:Nd):Nat:=Qfx a b+N1
def QmA(a:Nat)(b:Int)(c:Nd):Prop:=SM a/\Bc (Qfx b c*16<=140737488355328/\Qfx b c<=9223372036854775807) (∀(t:Nat),SM t/\Bc (Qfy b c*16<=140737488355328/\Qfy b c<=9223372036854775807) (∀(_t:Nat),True/\∃(_y:Unit),True/\(Qfy b c=YZ b c/\(∀(i:Nat),i<Qfy b c->BN (Qfx b c) (BN N1 (fun i=>[D.str (List.getD [[(123:UInt8)]] (i-N0) [])]) fun i=>[D.str (List.getD (QLb b c) i [])]) (fun i=>[D.str (List.getD [[(125:UInt8)]] i [])]) i=Y0 b c i)/\True)/\True/\True))
def QLc(a:Nat)(b:Nd)(c:Int)(d:Nat):Prop:=H2 a b/\∃(_x:Unit),QLa b c/\∀(_y:Unit),True->QmA d c b
def QLd(a:Nat)(b:Nd)(c:Int):Prop:=H2 a b/\∀(t:Nat),QLc a b c t
theorem BlK(p : Nd -> Prop)(n : Nd)(lv : Int)(hv : BU n=0)(ho : n.ok)(hn : n.sm)(h0 : 0<=lv)(h1 : lv+szN n<=100000)(h : ∀b, p b -> RPar b)(hq : ∀b∈n.ki, p b)(hb : n.kd=10 -> ∀lv : Int, 0<=lv -> lv+szB n.bo<=100000 -> CD 22 [gsl 34 Sm.row1 n.bo, .int .i64 lv] (ssl (rlP lv (ptB n.bo)) .any)) :
  CD 70 [.agg n.row2,.int .i64 lv] (ssl (rlP lv (ptN n)) .any):=by
 refine Bg (A:=sC _ _) (x:=()) (E:=Erpa p n lv) (eOk (BaH h (BkN ho hn hb)) rfl) Tryz.func70 rfl (by kernel_rfl) rfl (by simp[sC,Erpa,EC,E0]) ?_
 refine Bi (T :=
  ∀(x:Nat),True->SM x/\ifB (JV n==3) (∀(t:Nat),(∃(x_1:Nat×Nat),YW x_1.1 n/\(Z0=(NI x_1.1)/\(N0=HY lv n x_1.1/\(∀(i:Nat),i<N0->Cw (List D) [] (Qfn lv n x_1.1 i))/\t=x_1.2)/\True)/\Qfq x n t x_1.2)/\∀(x_1:Nat×Nat),YW x_1.1 n->SM x/\ifB (QKl x_1.1 n) (SM x/\Bc (Z0<=(NI x_1.1)/\(NI x_1.1)<QN n) (∃(x_2:Nd×List (List UInt8)),(OR p lv (3:Nat) x_2/\SM x_1.2/\wkL (D.sl N1 (HY lv n x_1.1) (fun i=>Qfn lv n x_1.1 i) (Mode.tok N0 x_1.2)::QKp n x_1.1::QKs::Ji lv) (H0 x_2.2 x_1.2::YY x_2.1::SI QKt::Ji lv))/\∀(y:Nat),True->(QKw n/\SM (ZI lv)/\SM (D.ref N0 x N0)/\SM QKs/\True)/\∃(y_1:Nat×Nat),YW y_1.1 n/\QKx n y_1.1 x_1.1/\(IntKind.wrap IntKind.i64 ((NI x_1.1)+Z1)=(NI y_1.1)/\(QKz x_2.2 lv x_2.1=HY lv n y_1.1/\(∀(i:Nat),i<QKz x_2.2 lv x_2.1->[D.str (List.getD (QKy x_2.2 lv x_2.1) i [])]=Qfn lv n y_1.1 i)/\y=y_1.2)/\True)/\Qfq x n y y_1.2)) (True/\∃(y:Unit),True/\(HY lv n x_1.1=YZ lv n/\(∀(i:Nat),i<HY lv n x_1.1->Qfn lv n x_1.1 i=Y0 lv n i)/\True)/\True/\True)) (ifB (JV n==4) (SM x/\Bc (Z0<=Z0/\Z0<QN n) (SM x/\Bc (Z0<=Z1/\Z1<QN n) (∃(x_1:Nd×List (List UInt8)),(OR p lv N1 x_1/\Cw (List (List UInt8)) x_1.2 []/\wkL (Y1::QKG n lv) (QKJ x_1.1 lv))/\∀(y:Nat),True->VM x n/\∃(x:Nd×List (List UInt8)),(OR p lv N0 x/\SM y/\wkL (Qmu x_1.2 lv x_1.1 y::Qmv n::Qmw lv) (Qmx x.2 y x.1 lv))/\Qmz x.2 lv x.1 n))) (ifB (JV n==5) (SM x/\Bc (Z0<=Z1/\Z1<QN n) (SM x/\Bc (Z0<=Z0/\Z0<QN n) (SM x/\Bc (Z0<=2/\(2:Int)<QN n) (∃(x_1:Nd×List (List UInt8)),(OR p lv N2 x_1/\Cw (List (List UInt8)) x_1.2 []/\wkL (Y1::Qmv n::D.sl N1 N2 (fun i=>QKR i) Mode.full::Ji lv) (Y1::YY x_1.1::SI QKS::Ji lv))/\∀(y:Nat),True->VM x n/\VM x n/\∃(x_2:Nd×List (List UInt8)),(OR p lv N1 x_2/\SM y/\wkL (D.sl N1 (LN (QKT x_1.2 lv x_1.1)) (fun i=>[D.str (List.getD (QKT x_1.2 lv x_1.1) i [])]) (Mode.tok N0 y)::QKG n lv) (H0 x_2.2 y::QKI x_2.1 lv))/\∀(y:Nat),True->VM x n/\∃(x:Nd×List (List UInt8)),(OR p lv N0 x/\SM y/\wkL (Qmu x_2.2 lv x_2.1 y::QKX n::Qmw lv) (Qmx x.2 y x.1 lv))/\Qmz x.2 lv x.1 n)))) (ifB (JV n==14) (SM x/\Bc (Z0<=Z1/\Z1<QN n) (SM x/\Bc (Z0<=Z0/\Z0<QN n) (∃(x_1:Nd×List (List UInt8)),QKY p lv x_1 x_1.2 n x_1.1/\∀(y:Nat),True->VM x n/\∃(x:Nd×List (List UInt8)),QKZ p lv x y x_1.2 x_1.1 n x.2 x.1/\Qmz x.2 lv x.1 n))) (ifB (JV n==15) (SM x/\Bc (Z0<=Z1/\Z1<QN n) (SM x/\Bc (Z0<=Z0/\Z0<QN n) (SM x/\Bc (Z0<=2/\(2:Int)<QN n) (∃(x_1:Nd×List (List UInt8)),QKY p lv x_1 x_1.2 n x_1.1/\∀(y:Nat),True->VM x n/\VM x n/\∃(x_2:Nd×List (List UInt8)),QKZ p lv x_2 y x_1.2 x_1.1 n x_2.2 x_2.1/\∀(y:Nat),True->VM x n/\∃(x:Nd×List (List UInt8)),(OR p lv N6 x/\SM y/\wkL (D.sl N1 (Qmy x_2.2 lv x_2.1) (fun i=>QKQ x_2.2 lv x_2.1 i) (Mode.tok N0 y)::QKX n::D.sl N1 N6 (fun i=>QK0 i) Mode.full::Ji lv) (H0 x.2 y::YY x.1::SI QK1::Ji lv))/\∀(y:Nat),True->True/\∃(y:Unit),True/\(QK3 x.2 lv x.1=YZ lv n/\(∀(i:Nat),i<QK3 x.2 lv x.1->[D.str (List.getD (QK2 x.2 lv x.1) i [])]=Y0 lv n i)/\True)/\True/\True)))) (ifB (JV n==16) (∀(t:Nat),(∃(x_1:Nat×Nat),YW x_1.1 n/\(Z0=(NI x_1.1)/\(N0=H1 lv n x_1.1/\(∀(i:Nat),i<N0->Cw (List D) [] (Qfv lv n x_1.1 i))/\t=x_1.2)/\True)/\Qfq x n t x_1.2)/\∀(x_1:Nat×Nat),YW x_1.1 n->SM x/\ifB (QKl x_1.1 n) (SM x/\Bc (Z0<=(NI x_1.1)/\(NI x_1.1)<QN n) (∃(x_2:Nd×List (List UInt8)),(OR p lv (3:Nat) x_2/\SM x_1.2/\wkL (D.sl N1 (H1 lv n x_1.1) (fun i=>Qfv lv n x_1.1 i) (Mode.tok N0 x_1.2)::QKp n x_1.1::D.sl N1 (3:Nat) (fun i=>QK5 i) Mode.full::Ji lv) (H0 x_2.2 x_1.2::YY x_2.1::SI QK6::Ji lv))/\∀(y:Nat),True->(QKw n/\SM (ZI lv)/\SM (D.ref N0 x N0)/\True)/\∃(y_1:Nat×Nat),YW y_1.1 n/\QKx n y_1.1 x_1.1/\(IntKind.wrap IntKind.i64 ((NI x_1.1)+Z1)=(NI y_1.1)/\(QK8 x_2.2 lv x_2.1=H1 lv n y_1.1/\(∀(i:Nat),i<QK8 x_2.2 lv x_2.1->[D.str (List.getD (QK7 x_2.2 lv x_2.1) i [])]=Qfv lv n y_1.1 i)/\y=y_1.2)/\True)/\Qfq x n y y_1.2)) (True/\∃(y:Unit),True/\(H1 lv n x_1.1=YZ lv n/\(∀(i:Nat),i<H1 lv n x_1.1->Qfv lv n x_1.1 i=Y0 lv n i)/\True)/\True/\True)) (ifB (JV n==10) (SM x/\(H2 x n/\(∀(t:Nat),H2 x n/\(∃(x:Unit),QLa n lv/\∀(y:Unit),True->QmA t lv n/\QmA t lv n)/\QLc x n lv t)/\QLd x n lv)/\H2 x n/\QLd x n lv) (SM x/\∃(x:Unit),isN n [QKv n] []/\∀(y:Unit),True->∀(t:Nat),True/\∃(y:Unit),True/\(N1=YZ lv n/\(∀(i:Nat),i<N1->BN N0 (fun x=>[]) (fun i=>[D.str (List.getD [Eu n] i [])]) i=Y0 lv n i)/\True)/\True/\True)))))))) (by kernel_rfl) ?_
 delta DA GI LN N0 N1 N2 N4 N6 NI SI SM Z0 Z1 ZI JV VL QJ7 QKX QKY QKZ QK0 QK1 QK2 QJ8 QK3 QK4 H1 Qfv QK5 QK6 QK7 QK8 H2 Qfw Qfo QK9 QLa QLb Qfx Qfy QmA QLc QLd QJ9 QKa Qmo QKb QKc Qmp QKd XC QKe Qmq YX QKf JI QKg Qfp Qmr HZ QKh YW QKi QKj QKk Qfq QN QKl Jh QJ3 QKp Qms QKq QKr QKs Ji H0 HY YY QKt QKu Qmt QKv QKw QKx QKy QKz QKA Qfn YZ Y0 Y1 Jj QJ4 QKE QKF QKG QKH QKI QKJ VM QKK Qmu Jk QJ5 Qmv Qmw QKO Qmx QJ6 QKP Qmy QKQ Qmz QKR QKS QKT Jl
 try simp only[<- dm]
 try simp only[<- dn]
 simp only[ne_eq,implies_true,Int.toNat_natCast,Bf,Bd,decide_eq_true_eq,decide_eq_false_iff_not,true_and,and_true,beq_iff_eq,beq_eq_false_iff_ne,exists_const,forall_const,Prod.exists]
 have i1:Bj 1 (fun i=>[[D.int IntKind.i64 16]].getD i [])=[16]:=rfl
 have i2:Bj 2 (fun i=>[[D.int IntKind.i64 4],[D.int IntKind.i64 5]].getD i [])=[4,5]:=rfl
 have i3:∀a b c:Int,Bj 3 (fun i=>[[D.int IntKind.i64 a],[D.int IntKind.i64 b],[D.int IntKind.i64 c]].getD i [])=[a,b,c]:=fun _ _ _=>rfl
 have i6:Bj 6 (fun i=>[[D.int IntKind.i64 16],[D.int IntKind.i64 14],[D.int IntKind.i64 15],[D.int IntKind.i64 3],[D.int IntKind.i64 4],[D.int IntKind.i64 5]].getD i [])=[16,14,15,3,4,5]:=rfl
 have p1:IntsP 1 (fun i=>[[D.int IntKind.i64 16]].getD i []):=fun i hi=>by
  match i,hi with
  |0,_=>rfl
 have p2:IntsP 2 (fun i=>[[D.int IntKind.i64 4],[D.int IntKind.i64 5]].getD i []):=fun i hi=>by
  match i,hi with
  |0,_=>rfl
  |1,_=>rfl
 have p3:∀a b c:Int,IntsP 3 (fun i=>[[D.int IntKind.i64 a],[D.int IntKind.i64 b],[D.int IntKind.i64 c]].getD i []):=fun _ _ _ i hi=>by
  match i,hi with
  |0,_=>rfl
  |1,_=>rfl
  |2,_=>rfl
 have p6:IntsP 6 (fun i=>[[D.int IntKind.i64 16],[D.int IntKind.i64 14],[D.int IntKind.i64 15],[D.int IntKind.i64 3],[D.int IntKind.i64 4],[D.int IntKind.i64 5]].getD i []):=fun i hi=>by
  match i,hi with
  |0,_=>rfl
  |1,_=>rfl
  |2,_=>rfl
  |3,_=>rfl
  |4,_=>rfl
  |5,_=>rfl
 obtain ⟨_,hz,hvn⟩:=BY.1 hv
 obtain ⟨L2,L3,_⟩:=II hvn
 have hlen:=BeL hv ho
 have hsz:=BbP n
 have hkl:n.ki.length<=8589934592:=by
  have:=(Cb hn).2.1
  unfold BC at this
  omega
 have kq:∀i,i<n.ki.length->p (n.ki.getD i default)/\lv+szN (n.ki.getD i default)<=100000:=fun i hi=>by
  have h2:=UJ (BX hi)
  exact⟨hq _ (BX hi),by omega⟩
 have pg:∀i,i<n.ki.length->(ptL n.ki).getD i []=ptN (n.ki.getD i default):=fun i hi=>Rw hi
 refine⟨fun k=>?_,fun n3=>⟨fun k=>?_,fun n4=>⟨fun k=>?_,fun n5=>⟨fun k=>?_,fun n14=>⟨fun k=>?_,fun n15=>⟨fun k=>?_,fun n16=>⟨fun k=>?_,fun n10=>?_⟩⟩⟩⟩⟩⟩⟩
 ·have hp:ptN n=n.ki.flatMap (BR [3,4,5]):=by rw[Gd,if_pos k]
  rw[hp] at hlen ⊢
  have len:∀i,(EQ [3,4,5] lv n.ki i).length<=3500000000000:=fun i=>Nat.le_trans (RY _ _ _ _) hlen
  intro t
  refine⟨⟨0,t,Nat.zero_le _,⟨rfl,rfl,fun i hi=>absurd hi (by omega),rfl⟩,rfl⟩,?_⟩
  rintro ⟨i,t1⟩ hi
  simp only at hi ⊢
  refine⟨fun hlt=>?_,fun hge=>?_⟩
  ·have hi':i<n.ki.length:=by omega
   have:=len i
   exact⟨⟨by omega,hlt⟩,n.ki.getD i default,EQ [3,4,5] lv n.ki i,Et (kq i hi').1 h0 (kq i hi').2 (by decide) (by omega) rfl (fun _ _=>rfl) (p3 _ _ _),BkC hi' hkl (i3 _ _ _)⟩
  ·refine C5 ?_
   unfold EQ
   rw[show i=n.ki.length by omega,List.take_length]
 ·have hL:n.ki.length=2:=L2 (.inl k)
  have e:rlP lv (ptN n)=rlP lv (BR [16] (n.ki.getD 0 default))++rlP lv (ptN (n.ki.getD 1 default)):=by
   rw[Gd,if_neg n3,if_pos k,pg 0 (by omega),pg 1 (by omega)]
   exact EG (Baa [16] (n.ki.getD 0 default)) _ _
  have el:=congrArg List.length e
  rw[EE,List.length_append] at el
  exact⟨⟨by omega,by omega⟩,⟨by omega,by omega⟩,n.ki.getD 0 default,[],UR (kq 0 (by omega)).1 h0 (kq 0 (by omega)).2 (by decide) p1,fun y=>⟨n.ki.getD 1 default,[]++rlP lv (BR (Bj 1 fun i=>[[D.int IntKind.i64 16]].getD i []) (n.ki.getD 0 default)),Et (kq 1 (by omega)).1 h0 (kq 1 (by omega)).2 (by decide) (by rw[i1,List.nil_append];omega) rfl (fun _ _=>rfl) CT,C5 (by rw[i1,IG,e,List.nil_append])⟩⟩
 ·have hL:n.ki.length=3:=L3 (.inl k)
  have e:rlP lv (ptN n)=rlP lv (BR [4,5] (n.ki.getD 1 default))++(rlP lv (BR [16] (n.ki.getD 0 default))++rlP lv (ptN (n.ki.getD 2 default))):=by
   rw[Gd,if_neg n3,if_neg n4,if_pos k,pg 0 (by omega),pg 1 (by omega),pg 2 (by omega)]
   exact (EG (Baa [4,5] (n.ki.getD 1 default)) _ _).trans (congrArg (_++·) (EG (Baa [16] (n.ki.getD 0 default)) _ _))
  have el:=congrArg List.length e
  rw[EE,List.length_append,List.length_append] at el
  exact⟨⟨by omega,by omega⟩,⟨by omega,by omega⟩,⟨by omega,by omega⟩,n.ki.getD 1 default,[],UR (kq 1 (by omega)).1 h0 (kq 1 (by omega)).2 (by decide) p2,fun y=>⟨n.ki.getD 0 default,[]++rlP lv (BR (Bj 2 fun i=>[[D.int IntKind.i64 4],[D.int IntKind.i64 5]].getD i []) (n.ki.getD 1 default)),Et (kq 0 (by omega)).1 h0 (kq 0 (by omega)).2 (by decide) (by rw[i2,List.nil_append];omega) rfl (fun _ _=>rfl) p1,
   fun y2=>⟨n.ki.getD 2 default,[]++rlP lv (BR (Bj 2 fun i=>[[D.int IntKind.i64 4],[D.int IntKind.i64 5]].getD i []) (n.ki.getD 1 default))++rlP lv (BR (Bj 1 fun i=>[[D.int IntKind.i64 16]].getD i []) (n.ki.getD 0 default)),Et (kq 2 (by omega)).1 h0 (kq 2 (by omega)).2 (by decide) (by rw[i2,i1,List.nil_append,List.length_append];omega) rfl (fun _ _=>rfl) CT,C5 (by rw[i2,i1,IG,e,List.nil_append,List.append_assoc])⟩⟩⟩
 ·have hL:n.ki.length=2:=L2 (.inr k)
  have e:rlP lv (ptN n)=rlP lv (BR [16] (n.ki.getD 1 default))++rlP lv (ptN (n.ki.getD 0 default)):=by
   rw[Gd,if_neg n3,if_neg n4,if_neg n5,if_neg (by omega),if_pos k,pg 0 (by omega),pg 1 (by omega)]
   exact EG (Baa [16] (n.ki.getD 1 default)) _ _
  have el:=congrArg List.length e
  rw[EE,List.length_append] at el
  exact⟨⟨by omega,by omega⟩,⟨by omega,by omega⟩,n.ki.getD 1 default,[],UR (kq 1 (by omega)).1 h0 (kq 1 (by omega)).2 (by decide) p1,fun y=>⟨n.ki.getD 0 default,[]++rlP lv (BR (Bj 1 fun i=>[[D.int IntKind.i64 16]].getD i []) (n.ki.getD 1 default)),Et (kq 0 (by omega)).1 h0 (kq 0 (by omega)).2 (by decide) (by rw[i1,List.nil_append];omega) rfl (fun _ _=>rfl) CT,C5 (by rw[i1,IG,e,List.nil_append])⟩⟩
 ·have hL:n.ki.length=3:=L3 (.inr k)
  have e:rlP lv (ptN n)=rlP lv (BR [16] (n.ki.getD 1 default))++(rlP lv (ptN (n.ki.getD 0 default))++rlP lv (BR [3,4,5,16,14,15] (n.ki.getD 2 default))):=by
   rw[Gd,if_neg n3,if_neg n4,if_neg n5,if_neg (by omega),if_neg n14,if_pos k,pg 0 (by omega),pg 1 (by omega),pg 2 (by omega)]
   exact (EG (Baa [16] (n.ki.getD 1 default)) _ _).trans (congrArg (_++·) (EG (Wr _) _ _))
  have el:=congrArg List.length e
  rw[EE,List.length_append,List.length_append] at el
  exact⟨⟨by omega,by omega⟩,⟨by omega,by omega⟩,⟨by omega,by omega⟩,n.ki.getD 1 default,[],UR (kq 1 (by omega)).1 h0 (kq 1 (by omega)).2 (by decide) p1,fun y=>⟨n.ki.getD 0 default,[]++rlP lv (BR (Bj 1 fun i=>[[D.int IntKind.i64 16]].getD i []) (n.ki.getD 1 default)),Et (kq 0 (by omega)).1 h0 (kq 0 (by omega)).2 (by decide) (by rw[i1,List.nil_append];omega) rfl (fun _ _=>rfl) CT,
   fun y2=>⟨n.ki.getD 2 default,[]++rlP lv (BR (Bj 1 fun i=>[[D.int IntKind.i64 16]].getD i []) (n.ki.getD 1 default))++rlP lv (BR (Bj 0 fun _=>[]) (n.ki.getD 0 default)),Et (kq 2 (by omega)).1 h0 (kq 2 (by omega)).2 (by decide) (by rw[i1,IG,List.nil_append,List.length_append];omega) rfl (fun _ _=>rfl) p6,C5 (by rw[i1,i6,IG,Bmu,e,List.nil_append,List.append_assoc])⟩⟩⟩
 ·have hp:ptN n=n.ki.flatMap (BR [16,4,5]):=by rw[Gd,if_neg n3,if_neg n4,if_neg n5,if_pos k,Bjn]
  rw[hp] at hlen ⊢
  have len:∀i,(EQ [16,4,5] lv n.ki i).length<=3500000000000:=fun i=>Nat.le_trans (RY _ _ _ _) hlen
  intro t
  refine⟨⟨0,t,Nat.zero_le _,⟨rfl,rfl,fun i hi=>absurd hi (by omega),rfl⟩,rfl⟩,?_⟩
  rintro ⟨i,t1⟩ hi
  simp only at hi ⊢
  refine⟨fun hlt=>?_,fun hge=>?_⟩
  ·have hi':i<n.ki.length:=by omega
   have:=len i
   exact⟨⟨by omega,hlt⟩,n.ki.getD i default,EQ [16,4,5] lv n.ki i,Et (kq i hi').1 h0 (kq i hi').2 (by decide) (by omega) rfl (fun _ _=>rfl) (p3 _ _ _),BkC hi' hkl (i3 _ _ _)⟩
  ·refine C5 ?_
   unfold EQ
   rw[show i=n.ki.length by omega,List.take_length]
 ·have w1:IntKind.i64.wrap (lv+1)=lv+1:=Ba (by omega) (by omega)
  have e:rlP lv (ptN n)=[[123]]++rlP (lv+1) (ptB n.bo)++[[125]]:=by
   rw[Gd,if_neg n3,if_neg n4,if_neg n5,if_neg n16,if_neg n14,if_neg n15,if_pos k]
   exact congrArg ([123]::·) (EG (Bpa n.bo) [.cl] (lv+1))
  have el:=congrArg List.length e
  rw[EE,List.length_append,List.length_append,List.length_cons,List.length_nil] at el
  simp only[w1]
  have rw2:=C8 (a:=1+(rlP (lv+1) (ptB n.bo)).length) (L:=[[123]]++rlP (lv+1) (ptB n.bo)) (r:=[[125]]) (F:=BN 1 (fun i=>[D.str ([[123]].getD (i-0) [])]) fun i=>[D.str ((rlP (lv+1) (ptB n.bo)).getD i [])]) (G:=fun i=>[D.str ([[125]].getD i [])]) (by rw[List.length_append];rfl) (C8 (L:=[[123]]) rfl (fun i hi=>by rw[Nat.sub_zero]) fun _ _=>rfl) fun _ _=>rfl
  rw[<- e] at rw2
  have le1:1+(rlP (lv+1) (ptB n.bo)).length+1=(rlP lv (ptN n)).length:=by rw[e,List.length_append,List.length_append];rfl
  repeat' first
   |exact Be _
   |exact k
   |exact rw2
   |exact le1
   |refine And.intro ?_ ?_
  all_goals omega
 ·have e:rlP lv (ptN n)=[Eu n]:=by
   rw[Gd,if_neg n3,if_neg n4,if_neg n5,if_neg n16,if_neg n14,if_neg n15,if_neg n10,show Eu n=Bv n from if_pos hv]
   rfl
  rw[e]
  exact⟨Bqy n,rfl,C8 (a:=0) (F:=fun _=>[]) (L:=[]) (r:=[Eu n]) rfl (fun i hi=>absurd hi (Nat.not_lt_zero _)) fun _ _=>rfl⟩
theorem T2{n b:Nd}(hv:BU n=0)(hb:b∈BK n)(hvb:Bz b=true):BU b=0:=by
 obtain ⟨h1,h2,_⟩:=BY.1 hv
 have:=TU n
 have:=MN n
 have:=Bbl hb
 have:=UJ hb
 exact BY.2 ⟨by omega,by omega,hvb⟩
theorem Bml{n:Nd}(hv:BU n=0)(hk:n.kd=10){s:Sm}(hs:s∈n.bo):BU s.nd=0/\(s.kd=3->BU s.te=0):=by
 obtain ⟨_,_,hvn⟩:=BY.1 hv
 have h1:=hvn
 rw[CH,Bool.and_eq_true,if_pos hk,Bool.and_eq_true] at h1
 have hb:=h1.2.2
 unfold BP at hb
 rw[Bool.and_eq_true] at hb
 obtain ⟨q1,q2⟩:=Ep hb.2 s hs
 have i1:s.nd∈BK n:=List.mem_append.2 (.inr (List.mem_flatMap.2 ⟨s,hs,by unfold Bq;split<;>simp⟩))
 refine⟨T2 hv i1 q1,fun h3=>?_⟩
 have i2:s.te∈BK n:=List.mem_append.2 (.inr (List.mem_flatMap.2 ⟨s,hs,by unfold Bq;rw[if_pos h3];simp⟩))
 have hv2:Bz s.te=true:=by
  rcases q2 with ⟨_,q,_⟩ | ⟨q,_⟩
  ·exact q
  ·exact (q h3).elim
 exact T2 hv i2 hv2
theorem BoC{n:Nd}(hv:BU n=0)(ho:n.ok)(hk:n.kd=10):(ptB n.bo).length<=3500000000000:=by
 have h:=BeL hv ho
 rw[Gd,if_neg (by omega),if_neg (by omega),if_neg (by omega),if_neg (by omega),if_neg (by omega),if_neg (by omega),if_pos hk,List.length_cons,List.length_append] at h
 unfold ptB
 omega
theorem BeG(n:Nd)(hv:BU n=0)(ho:n.ok)(hn:n.sm):RPar n :=
 ⟨fun lv h0 h1=>BlK (fun b=>(BU b=0/\b.ok/\b.sm)/\SizeOf.sizeOf b<SizeOf.sizeOf n) n lv hv ho hn h0 h1 (fun b hb=>BeG b hb.1.1 hb.1.2.1 hb.1.2.2)
  (fun b hb=>⟨⟨T2 hv (BS hb) ((EI (BY.1 hv).2.2).1 b hb),M8 ho b hb,EW hn (BS hb)⟩,Nd.size_kid hb⟩)
  (fun hk lv h0 h1=>BdS (fun b=>(BU b=0/\b.ok/\b.sm)/\SizeOf.sizeOf b<SizeOf.sizeOf n) n.bo lv h0 h1 (Cb hn).2.2 (BoC hv ho hk) (fun b hb=>BeG b hb.1.1 hb.1.2.1 hb.1.2.2) fun s hs =>
   have h2:=Cl (GC hn s hs)
   have o2:=Cq (GM ho s hs)
   have e:=Nd.size_stmt hs
   have e1:=Sm.size_te s
   have e2:=Sm.size_nd s
   have v:=Bml hv hk hs
   ⟨⟨⟨v.1,o2.2,h2.2⟩,by omega⟩,fun h3=>⟨⟨v.2 h3,o2.1,h2.1⟩,by omega⟩⟩),Nat.le_trans (BeL hv ho) (by decide)⟩
termination_by SizeOf.sizeOf n
decreasing_by
 ·exact hb.2
 ·exact hb.2
theorem Bi4(l:List Sm)(h:B1 l=0)(hl:l.length<=BC)(ho:∀s∈l,s.ok)(hs:∀s∈l,s.sm):CD 22 [gsl 34 Sm.row1 l,.int .i64 0] (ssl (rlP 0 (ptB l)) .any):=by
 have hR:=GB h
 have:=hR.hz
 refine BdS (fun b=>BU b=0/\b.ok/\b.sm) l 0 (by omega) (by omega) hl (Nat.le_trans (Uc hR ho) (by decide)) (fun b hb=>BeG b hb.1 hb.2.1 hb.2.2) fun s hm=>?_
 obtain ⟨_,c,k3,_⟩:=UU hR hm
 exact⟨⟨c,(Cq (ho s hm)).2,(Cl (hs s hm)).2⟩,fun h3=>absurd h3 k3⟩
def BjG:Con:=fun k ds S=>match k with
 |16=>match ds with
  | [.str _,.str _]=>some (pA ds S (.bool true) True)
  |_=>none
 |17=>match ds with
  | [.int .i64 lv]=>some (pA ds S (.str (Gk lv)) (0<=lv/\lv<=100000))
  |_=>none
 |24=>match ds with
  | [.str a,.str b]=>some (pA ds S (.bool (Eh a b)) (a≠[]/\b≠[]/\a.length<=100000000000000))
  |_=>none
 |26=>match ds with
  | [.int .i64 _]=>some (pA ds S (.str [59]) True)
  |_=>none
 |_=>none
theorem BcQ:ConOk Tryz.prog BjG:=by
 intro k ds S A hh
 unfold BjG at hh
 split at hh
 ·split at hh
  ·injection hh with hh;subst hh
   exact Bo fun _=>CD.at_ (Bp9 _ _) _
  ·cases hh
 ·split at hh
  ·injection hh with hh;subst hh
   exact Bo fun ⟨h0,h1⟩=>CD.at_ (BqQ _ h0 h1) _
  ·cases hh
 ·split at hh
  ·injection hh with hh;subst hh
   exact Bo fun ⟨h0,h1,h2⟩=>CD.at_ (Bqf _ _ h0 h1 h2) _
  ·cases hh
 ·split at hh
  ·injection hh with hh;subst hh
   exact Bo fun _=>CD.at_ (Bqs _) _
  ·cases hh
 ·cases hh
def wrO(cmp:Bool)(o last:List UInt8)(lv:Int)(y:List UInt8):List UInt8:=if y=[59] then o++(bif cmp then [59] else Gk lv) else o++blB cmp last y++y
def wrL(y:List UInt8):List UInt8:=if y=[59] then [] else y
def wrV(lv:Int)(y:List UInt8):Int:=if y=[123] then lv+1 else if y=[125] then lv-1 else lv
def wrC(k kt x t:Nat)(o last:List UInt8)(lv:Int):St:=⟨[(k,x,.bldx 52 5 (bsl o (.tok kt t)) [.str last,.int .i64 lv])],[(kt,t)]⟩
def sWr(bl ln:Nat)(cmp:Bool)(k kt x t:Nat)(o last:List UInt8)(lv:Int)(y:List UInt8):FnSpec where
 β:=Unit
 α:=Nat
 args:=fun _=>[.ref k x 0,.str y,.fn (.func bl) [] [],.fn (.func ln) [] []]
 st:=fun _=>wrC k kt x t o last lv
 pre:=fun _=>True
 post:=fun _ _=>True
 res:=fun _ _=>.ret (.tup [])
 out:=fun _ t'=>wrC k kt x t' (wrO cmp o last lv y) (wrL y) (wrV lv y)
theorem Gv(t x:Nat)(l:List UInt8):Ox [(0,t)] x x 52 5 0 t l.length (fun i=>[.int .u8 ((l.getD i 0).toNat:Int)]):=⟨rfl,rfl,rfl,rfl,IU l⟩
theorem wA{t x:Nat}{o y V:List UInt8}{Q:Prop}(ho:o.length+y.length<=100000000000000)(hV:o++[32]++y=V)(q:Q):((Ox [(0,t)] x x 52 5 0 t o.length fun i=>[D.int .u8 ((o.getD i 0).toNat:Int)])/\((0:Int)<=32/\(32:Int)<=255)/\o.length+1<=140737488355328)/\∀t2:Nat,((Ox [(0,t2)] x x 52 5 0 t2 (o++[32]).length fun i=>[D.int .u8 (((o++[32]).getD i 0).toNat:Int)])/\(o++[32]).length+y.length<=140737488355328)/\∀t3:Nat,∃t4:Nat,(((o++[32]++y).length=V.length/\(∀i,i<(o++[32]++y).length->[D.int .u8 (((o++[32]++y).getD i 0).toNat:Int)]=[D.int .u8 ((V.getD i 0).toNat:Int)])/\t3=t4)/\Q)/\t3=t4:=by
 subst hV
 exact⟨⟨Gv t x o,⟨by omega,by omega⟩,by omega⟩,fun t2=>⟨⟨Gv t2 x _,by simp only[List.length_append,List.length_cons,List.length_nil];omega⟩,fun t3=>⟨t3,⟨⟨rfl,fun _ _=>rfl,rfl⟩,q⟩,rfl⟩⟩⟩
theorem wB{t x:Nat}{o y V:List UInt8}{Q:Prop}(ho:o.length+y.length<=100000000000000)(hV:o++y=V)(q:Q):((Ox [(0,t)] x x 52 5 0 t o.length fun i=>[D.int .u8 ((o.getD i 0).toNat:Int)])/\o.length+y.length<=140737488355328)/\∀t3:Nat,∃t4:Nat,(((o++y).length=V.length/\(∀i,i<(o++y).length->[D.int .u8 (((o++y).getD i 0).toNat:Int)]=[D.int .u8 ((V.getD i 0).toNat:Int)])/\t3=t4)/\Q)/\t3=t4:=by
 subst hV
 exact⟨⟨Gv t x o,by omega⟩,fun t3=>⟨t3,⟨⟨rfl,fun _ _=>rfl,rfl⟩,q⟩,rfl⟩⟩
noncomputable def Ewr:Senv:={ EC (Bgx BjG) 71 4 [8,24,34,57] (fun id=>match id with | 1=>([0,1,2,3,4,5,6,7,8,9],[8,9]) | _=>([],[])) with mg:=fun _=>2 }
def QmB(a b:Nat)(c:List UInt8):Prop:=Ox [(N0,a)] b b (52:Nat) (5:Nat) N0 a (LN c) fun i=>[ZB (BI c i)]
def QmC(a:List UInt8):List UInt8:=bytesOf (LN a) fun i=>[ZB (BI a i)]
def QLe(a:List UInt8)(b:Int):List UInt8:=QmC a++Gk b
def QLf(a:List UInt8)(b:Int):Nat:=LN (QLe a b)
def QmD(a b:List UInt8)(c:Int)(d:List UInt8)(e:Nat):List D:=[ZB (BI (wrO false a b c d) e)]
def QmE(a b:Nat)(c:List UInt8):Prop:=(QmB a b c/\(Z0<=32/\(32:Int)<=255)/\LN c+N1<=140737488355328)/\True
def QLg(a:List UInt8):List UInt8:=QmC a++[Cu (32:Int)]
def QmF(a:List UInt8):Nat:=LN (QLg a)
def QLh(a:List UInt8)(b:Nat):List D:=[ZB (BI (QLg a) b)]
def QmG(a b:Nat)(c d:List UInt8):Prop:=((Ox [(N0,a)] b b (52:Nat) (5:Nat) N0 a (QmF c) fun i=>QLh c i)/\QmF c+LN d<=140737488355328)/\True
def QLi(a b:List UInt8):List UInt8:=(bytesOf (QmF a) fun i=>QLh a i)++b
def QLj(a b:List UInt8):Nat:=LN (QLi a b)
def QmH(a b c:List UInt8)(d:Int)(e f:Nat):Prop:=QLj a b=LN (wrO false a c d b)/\(∀(i:Nat),i<QLj a b->[ZB (BI (QLi a b) i)]=QmD a c d b i)/\e=f
def QmI(a:List UInt8):Prop:=a=wrL a
def QLk(a:List UInt8)(b:Int):Prop:=QmI a/\IntKind.wrap IntKind.i64 (b+Z1)=wrV b a/\True
def QmJ(a b:Nat)(c d:List UInt8):Prop:=(QmB a b c/\LN c+LN d<=140737488355328)/\True
def QLl(a b:List UInt8):List UInt8:=QmC a++b
def QLm(a b:List UInt8):Nat:=LN (QLl a b)
def QmK(a b c:List UInt8)(d:Int)(e f:Nat):Prop:=QLm a b=LN (wrO false a c d b)/\(∀(i:Nat),i<QLm a b->[ZB (BI (QLl a b) i)]=QmD a c d b i)/\e=f
def QLn(a:List UInt8)(b:Int):Prop:=QmI a/\IntKind.wrap IntKind.i64 (b-Z1)=wrV b a/\True
def QLo(a:List UInt8)(b:Int):Prop:=QmI a/\b=wrV b a/\True
theorem Bpe(x t : Nat)(o last y : List UInt8)(lv : Int)(_hy : y≠[])(h0 : 0<=lv)(h1 : lv<=90000)(ho : o.length+y.length<=100000000000000) :
  ACalls Tryz.prog 15 ((sWr 16 17 false 0 0 x t o last lv y).args ()) ((sWr 16 17 false 0 0 x t o last lv y).st ()) (SpecR (sWr 16 17 false 0 0 x t o last lv y) ()):=by
 refine Bg (A:=sWr 16 17 false 0 0 x t o last lv y) (x:=()) (E:=Ewr) (eOk (Ra BcQ) rfl) Tryz.func15 rfl (by kernel_rfl) rfl (by simp[sWr,Ewr,EC,E0]) ?_
 refine Bi (T :=
  ifB (y==[(59:UInt8)]) (SM x/\∃(x_1:Unit),(Z0<=lv/\lv<=100000)/\∀(y_1:Unit),True->((QmB t x o/\LN o+LN (Gk lv)<=140737488355328)/\True)/\∀(y_2:Nat),True->SM x/\True/\∃(y_3:Nat),True/\True/\(SM x/\((QLf o lv=LN (wrO false o last lv y)/\(∀(i:Nat),i<QLf o lv->[ZB (BI (QLe o lv) i)]=QmD o last lv y i)/\y_2=y_3)/\Cw (List UInt8) [] (wrL y)/\lv=wrV lv y/\True)/\True)/\y_2=y_3/\True) (ifB (y==[(123:UInt8)]) (SM x/\SM x/\SM x/\ifB (last != []) (SM x/\∃(x_1:Unit),True/\∀(y_1:Unit),True->QmE t x o/\∀(y_2:Nat),True->QmG y_2 x o y/\∀(y_3:Nat),True->SM x/\True/\∃(y_4:Nat),True/\True/\(SM x/\(QmH o y last lv y_3 y_4/\QLk y lv)/\True)/\y_3=y_4/\True) (QmJ t x o y/\∀(y_1:Nat),True->SM x/\True/\∃(y_2:Nat),True/\True/\(SM x/\(QmK o y last lv y_1 y_2/\QLk y lv)/\True)/\y_1=y_2/\True)) (ifB (y==[(125:UInt8)]) (SM x/\SM x/\SM x/\ifB (last != []) (SM x/\∃(x_1:Unit),True/\∀(y_1:Unit),True->QmE t x o/\∀(y_2:Nat),True->QmG y_2 x o y/\∀(y_3:Nat),True->SM x/\True/\∃(y_4:Nat),True/\True/\(SM x/\(QmH o y last lv y_3 y_4/\QLn y lv)/\True)/\y_3=y_4/\True) (QmJ t x o y/\∀(y_1:Nat),True->SM x/\True/\∃(y_2:Nat),True/\True/\(SM x/\(QmK o y last lv y_1 y_2/\QLn y lv)/\True)/\y_1=y_2/\True)) (SM x/\ifB (last != []) (SM x/\∃(x_1:Unit),True/\∀(y_1:Unit),True->QmE t x o/\∀(y_2:Nat),True->QmG y_2 x o y/\∀(y_3:Nat),True->SM x/\True/\∃(y_4:Nat),True/\True/\(SM x/\(QmH o y last lv y_3 y_4/\QLo y lv)/\True)/\y_3=y_4/\True) (QmJ t x o y/\∀(y_1:Nat),True->SM x/\True/\∃(y_2:Nat),True/\True/\(SM x/\(QmK o y last lv y_1 y_2/\QLo y lv)/\True)/\y_1=y_2/\True))))) (by kernel_rfl) ?_
 delta BI LN N0 N1 SM U0 Z0 Z1 ZB QmB QmC QLi QLj QmH QmI QLk QmJ QLl QLm QmK QLn QLe QLo QLf QmD QmE QLg QmF QLh QmG
 simp only[eq_self,ne_eq,Bf,true_and,and_true,beq_iff_eq,bne_iff_ne,bne_eq_false_iff_eq,beq_eq_false_iff_ne,exists_const,forall_const]
 have e32:Cu 32=32:=rfl
 simp only[CL,e32]
 have hO0:y=[59]->o++Gk lv=wrO false o last lv y:=fun e=>by rw[wrO,if_pos e];rfl
 have hO1:¬y=[59]->¬last=[]->o++[32]++y=wrO false o last lv y:=fun e h=>by
  rw[wrO,if_neg e,blB]
  cases last with
  |nil=>exact absurd rfl h
  |cons a b=>rfl
 have hO2:¬y=[59]->last=[]->o++y=wrO false o last lv y:=fun e h=>by
  rw[wrO,if_neg e,blB,h]
  exact congrArg (·++y) (List.append_nil o).symm
 have hL:¬y=[59]->y=wrL y:=fun e=>by rw[wrL,if_neg e]
 have hg:(Gk lv).length<=200001:=by unfold Gk;rw[List.length_cons,List.length_replicate];omega
 have v1:y=[123]->IntKind.i64.wrap (lv+1)=wrV lv y:=fun e=>by rw[wrV,if_pos e,Ba (by omega) (by omega)]
 have v2:¬y=[123]->y=[125]->IntKind.i64.wrap (lv-1)=wrV lv y:=fun n e=>by rw[wrV,if_neg n,if_pos e,Ba (by omega) (by omega)]
 have v3:¬y=[123]->¬y=[125]->lv=wrV lv y:=fun n e=>by rw[wrV,if_neg n,if_neg e]
 refine⟨fun e=>⟨⟨h0,by omega⟩,⟨Gv t x o,by omega⟩,fun t2=>⟨t2,⟨⟨by rw[hO0 e],fun i _=>by rw[hO0 e],rfl⟩,?_,?_⟩,rfl⟩⟩,fun ne=>⟨fun e1=>⟨fun h=>wA ho (hO1 ne h) ⟨hL ne,v1 e1⟩,fun h=>wB ho (hO2 ne h) ⟨hL ne,v1 e1⟩⟩,fun n1=>⟨fun e2=>⟨fun h=>wA ho (hO1 ne h) ⟨hL ne,v2 n1 e2⟩,fun h=>wB ho (hO2 ne h) ⟨hL ne,v2 n1 e2⟩⟩,fun n2=>⟨fun h=>wA ho (hO1 ne h) ⟨hL ne,v3 n1 n2⟩,fun h=>wB ho (hO2 ne h) ⟨hL ne,v3 n1 n2⟩⟩⟩⟩⟩
 ·rw[wrL,if_pos e]
 ·rw[e];rfl
def QmL(a b:Nat)(c:List UInt8):Prop:=Ox [(N0,a)] b b (52:Nat) (5:Nat) N0 a (LN c) fun i=>[ZB (BI c i)]
def QmM(a:List UInt8):List UInt8:=bytesOf (LN a) fun i=>[ZB (BI a i)]
def QLp(a:List UInt8):List UInt8:=QmM a++[59]
def QLq(a:List UInt8):Nat:=LN (QLp a)
def QmN(a b:List UInt8)(c:Int)(d:List UInt8)(e:Nat):List D:=[ZB (BI (wrO true a b c d) e)]
def QmO(a b:List UInt8):Prop:=a≠[]/\b≠[]/\LN a<=100000000000000
def QmP(a b:Nat)(c:List UInt8):Prop:=(QmL a b c/\(Z0<=32/\(32:Int)<=255)/\LN c+N1<=140737488355328)/\True
def QLr(a:List UInt8):List UInt8:=QmM a++[Cu (32:Int)]
def QmQ(a:List UInt8):Nat:=LN (QLr a)
def QLs(a:List UInt8)(b:Nat):List D:=[ZB (BI (QLr a) b)]
def QmR(a b:Nat)(c d:List UInt8):Prop:=((Ox [(N0,a)] b b (52:Nat) (5:Nat) N0 a (QmQ c) fun i=>QLs c i)/\QmQ c+LN d<=140737488355328)/\True
def QLt(a b:List UInt8):List UInt8:=(bytesOf (QmQ a) fun i=>QLs a i)++b
def QLu(a b:List UInt8):Nat:=LN (QLt a b)
def QmS(a b c:List UInt8)(d:Int)(e f:Nat):Prop:=QLu a b=LN (wrO true a c d b)/\(∀(i:Nat),i<QLu a b->[ZB (BI (QLt a b) i)]=QmN a c d b i)/\e=f
def QmT(a:List UInt8):Prop:=a=wrL a
def QLv(a:List UInt8)(b:Int):Prop:=QmT a/\IntKind.wrap IntKind.i64 (b+Z1)=wrV b a/\True
def QmU(a b:Nat)(c d:List UInt8):Prop:=(QmL a b c/\LN c+LN d<=140737488355328)/\True
def QLw(a b:List UInt8):List UInt8:=QmM a++b
def QLx(a b:List UInt8):Nat:=LN (QLw a b)
def QmV(a b c:List UInt8)(d:Int)(e f:Nat):Prop:=QLx a b=LN (wrO true a c d b)/\(∀(i:Nat),i<QLx a b->[ZB (BI (QLw a b) i)]=QmN a c d b i)/\e=f
def QLy(a b:Nat)(c d e:List UInt8)(f:Int):Prop:=QmU a b c d/\∀(y:Nat),True->SM b/\True/\∃(y_1:Nat),True/\True/\(SM b/\(QmV c d e f y y_1/\QLv d f)/\True)/\y=y_1/\True
def QLz(a:List UInt8)(b:Int):Prop:=QmT a/\IntKind.wrap IntKind.i64 (b-Z1)=wrV b a/\True
def QLA(a b:Nat)(c d e:List UInt8)(f:Int):Prop:=QmU a b c d/\∀(y:Nat),True->SM b/\True/\∃(y_1:Nat),True/\True/\(SM b/\(QmV c d e f y y_1/\QLz d f)/\True)/\y=y_1/\True
def QLB(a:List UInt8)(b:Int):Prop:=QmT a/\b=wrV b a/\True
def QLC(a b:Nat)(c d e:List UInt8)(f:Int):Prop:=QmU a b c d/\∀(y:Nat),True->SM b/\True/\∃(y_1:Nat),True/\True/\(SM b/\(QmV c d e f y y_1/\QLB d f)/\True)/\y=y_1/\True
theorem BoG(x t : Nat)(o last y : List UInt8)(lv : Int)(hy : y≠[])(h0 : 0<=lv)(h1 : lv<=90000)(ho : o.length+y.length<=100000000000000)(hla : last.length<=100000000000000) :
  ACalls Tryz.prog 15 ((sWr 24 26 true 0 0 x t o last lv y).args ()) ((sWr 24 26 true 0 0 x t o last lv y).st ()) (SpecR (sWr 24 26 true 0 0 x t o last lv y) ()):=by
 refine Bg (A:=sWr 24 26 true 0 0 x t o last lv y) (x:=()) (E:=Ewr) (eOk (Ra BcQ) rfl) Tryz.func15 rfl (by kernel_rfl) rfl (by simp[sWr,Ewr,EC,E0]) ?_
 refine Bi (T :=
  ifB (y==[(59:UInt8)]) (SM x/\∃(x_1:Unit),True/\∀(y_1:Unit),True->((QmL t x o/\LN o+N1<=140737488355328)/\True)/\∀(y_2:Nat),True->SM x/\True/\∃(y_3:Nat),True/\True/\(SM x/\((QLq o=LN (wrO true o last lv y)/\(∀(i:Nat),i<QLq o->[ZB (BI (QLp o) i)]=QmN o last lv y i)/\y_2=y_3)/\Cw (List UInt8) [] (wrL y)/\lv=wrV lv y/\True)/\True)/\y_2=y_3/\True) (ifB (y==[(123:UInt8)]) (SM x/\SM x/\SM x/\ifB (last != []) (SM x/\∃(x_1:Unit),QmO last y/\∀(y_1:Unit),True->ifB (Eh last y) (QmP t x o/\∀(y_2:Nat),True->QmR y_2 x o y/\∀(y_3:Nat),True->SM x/\True/\∃(y_4:Nat),True/\True/\(SM x/\(QmS o y last lv y_3 y_4/\QLv y lv)/\True)/\y_3=y_4/\True) (QLy t x o y last lv)) (QLy t x o y last lv)) (ifB (y==[(125:UInt8)]) (SM x/\SM x/\SM x/\ifB (last != []) (SM x/\∃(x_1:Unit),QmO last y/\∀(y_1:Unit),True->ifB (Eh last y) (QmP t x o/\∀(y_2:Nat),True->QmR y_2 x o y/\∀(y_3:Nat),True->SM x/\True/\∃(y_4:Nat),True/\True/\(SM x/\(QmS o y last lv y_3 y_4/\QLz y lv)/\True)/\y_3=y_4/\True) (QLA t x o y last lv)) (QLA t x o y last lv)) (SM x/\ifB (last != []) (SM x/\∃(x_1:Unit),QmO last y/\∀(y_1:Unit),True->ifB (Eh last y) (QmP t x o/\∀(y_2:Nat),True->QmR y_2 x o y/\∀(y_3:Nat),True->SM x/\True/\∃(y_4:Nat),True/\True/\(SM x/\(QmS o y last lv y_3 y_4/\QLB y lv)/\True)/\y_3=y_4/\True) (QLC t x o y last lv)) (QLC t x o y last lv))))) (by kernel_rfl) ?_
 delta BI LN N0 N1 SM U0 Z0 Z1 ZB QmL QmM QLp QLq QmN QmO QmP QLr QmQ QLs QmR QLt QLu QmS QmT QLv QmU QLw QLx QmV QLy QLz QLA QLB QLC
 simp only[eq_self,ne_eq,Bf,true_and,and_true,beq_iff_eq,bne_iff_ne,bne_eq_false_iff_eq,beq_eq_false_iff_ne,exists_const,forall_const]
 have e32:Cu 32=32:=rfl
 simp only[CL,e32]
 have hO0:y=[59]->o++[59]=wrO true o last lv y:=fun e=>by rw[wrO,if_pos e];rfl
 have hO1:¬y=[59]->¬last=[]->Eh last y=true->o++[32]++y=wrO true o last lv y:=fun e h hn=>by
  rw[wrO,if_neg e,blB,hn]
  cases last with
  |nil=>exact absurd rfl h
  |cons a b=>rfl
 have hO2:¬y=[59]->last=[]->o++y=wrO true o last lv y:=fun e h=>by
  rw[wrO,if_neg e,blB,h]
  exact congrArg (·++y) (List.append_nil o).symm
 have hO3:¬y=[59]->Eh last y=false->o++y=wrO true o last lv y:=fun e h=>by
  rw[wrO,if_neg e,blB,h]
  simp
 have hL:¬y=[59]->y=wrL y:=fun e=>by rw[wrL,if_neg e]
 have v1:y=[123]->IntKind.i64.wrap (lv+1)=wrV lv y:=fun e=>by rw[wrV,if_pos e,Ba (by omega) (by omega)]
 have v2:¬y=[123]->y=[125]->IntKind.i64.wrap (lv-1)=wrV lv y:=fun n e=>by rw[wrV,if_neg n,if_pos e,Ba (by omega) (by omega)]
 have v3:¬y=[123]->¬y=[125]->lv=wrV lv y:=fun n e=>by rw[wrV,if_neg n,if_neg e]
 have hy':¬y=[]:=hy
 refine⟨fun e=>⟨⟨Gv t x o,by omega⟩,fun t2=>⟨t2,⟨⟨by rw[hO0 e],fun i _=>by rw[hO0 e],rfl⟩,?_,?_⟩,rfl⟩⟩,fun ne=>⟨fun e1=>⟨fun h=>⟨⟨h,hy',hla⟩,fun hn=>wA ho (hO1 ne h hn) ⟨hL ne,v1 e1⟩,fun hn=>wB ho (hO3 ne hn) ⟨hL ne,v1 e1⟩⟩,fun h=>wB ho (hO2 ne h) ⟨hL ne,v1 e1⟩⟩,fun n1=>⟨fun e2=>⟨fun h=>⟨⟨h,hy',hla⟩,fun hn=>wA ho (hO1 ne h hn) ⟨hL ne,v2 n1 e2⟩,fun hn=>wB ho (hO3 ne hn) ⟨hL ne,v2 n1 e2⟩⟩,fun h=>wB ho (hO2 ne h) ⟨hL ne,v2 n1 e2⟩⟩,fun n2=>⟨fun h=>⟨⟨h,hy',hla⟩,fun hn=>wA ho (hO1 ne h hn) ⟨hL ne,v3 n1 n2⟩,fun hn=>wB ho (hO3 ne hn) ⟨hL ne,v3 n1 n2⟩⟩,fun h=>wB ho (hO2 ne h) ⟨hL ne,v3 n1 n2⟩⟩⟩⟩⟩
 ·rw[wrL,if_pos e]
 ·rw[e];rfl
theorem Bog(bl ln : Nat)(cmp : Bool)(k kt x t : Nat){o last y : List UInt8}{lv : Int}(h : ACalls Tryz.prog 15 ((sWr bl ln cmp 0 0 x t o last lv y).args ()) ((sWr bl ln cmp 0 0 x t o last lv y).st ()) (SpecR (sWr bl ln cmp 0 0 x t o last lv y) ())) :
  ACalls Tryz.prog 15 ((sWr bl ln cmp k kt x t o last lv y).args ()) ((sWr bl ln cmp k kt x t o last lv y).st ()) (SpecR (sWr bl ln cmp k kt x t o last lv y) ()):=by
 refine h.respec (A':=sWr bl ln cmp k kt x t o last lv y) (x':=()) ?_ ?_ fun y _=>⟨y,trivial,?_,?_⟩
 ·simp[sWr,BD,Bn,chk]
 ·simp[sWr,wrC,Bbm,RM,BbS,GF,BD,Bn,chk,bsl,BG,OP,kEq]
 ·simp[sWr,M1,Bp]
 ·simp[sWr,wrC,Bbm,RM,BbS,GF,BD,Bn,chk,bsl,BG,OP,kEq]<;>try rfl
def okC(n:Nd):Prop:=BU n=0/\n.ok/\n.sm
def BlQ:Con:=fun k ds S=>match k with
 |34=>some (pE (β:=Nd) ds S (fun n=>ssl (ptX n) .any) (fun n=>isN n ds []/\okC n))
 |_=>none
theorem Bll:ConOk Tryz.prog BlQ:=by
 intro k ds S A hh
 unfold BlQ at hh
 split at hh
 ·injection hh with hh;subst hh
  exact Co fun n ⟨e,h1,h2,h3⟩=>CD.at_ (CD.wk (Bp8 n h1 h2 h3) e) _
 ·cases hh
def In(l:List Sm)(i:Nat):List (List UInt8):=(ptB (l.take i)).map prT
theorem Bfo{l:List Sm}{i:Nat}(h:i<l.length)(k3:(l.getD i default).kd≠3):In l (i+1)=In l i++((if 0<i then [[59]] else [])++if (l.getD i default).kd=2 then (l.getD i default).nm::[60,45]::ptX (l.getD i default).nd else ptX (l.getD i default).nd):=by
 unfold In ptB
 rw[Bc2 ptM h,List.map_append,List.map_append,IF,if_neg k3]
 congr 1
 split<;>split<;>rfl
noncomputable def Epg(l:List Sm):Senv:={ EC BlQ 34 6 [7,8,9,10,15,21] (fun _=>([],[])) with
 mg:=fun _=>2
 gh:=fun b=>match b with
  |0=>[.slot 3]
  |_=>[]
 ann:=fun b _ S=>match b with
  |0=>some { slots:=[9,3],keep:=[0,1,7,8],α:=Nat×Nat,st:=fun y=>([.int .i64 y.1,ssl (In l y.1) (.tok 0 y.2)],⟨S.objs,[(0,y.2)]⟩),inv:=fun y=>y.1<=l.length,mu:=fun y=>l.length-y.1 }
  |_=>none }
def QG(a:List Sm)(b:Nat):Nat:=LN (In a b)
def JW(a:List Sm)(b c:Nat):List D:=[D.str (List.getD (In a b) c [])]
def Qfz:Arr:=DA
def H3:Nd:=Nd.mk Z0 Z0 Z0 [] Z0 Z0 Qfz [] [] Z0 Z0 Z0
def H4:Sm:=Sm.mk Z0 Z0 [] Z0 H3 H3
def Y2(a:List Sm)(b:Nat):Sm:=List.getD a b H4
def QLJ(a:List Sm)(b:Nat):List D:=(Sm.row1 (Y2 a b))
def H5(a:Nat)(b:List Sm)(c d:Nat):Prop:=(SM a/\((SM (LN b)/\(∀(i:Nat),i<LN b->SM (QLJ b i))/\True)/\True)/\True)/\c=d/\True
def Y3(a:List Sm)(b:Nat):Nat:=QG a b+N1
def QmW(a:List Sm)(b:Nat):Sm:=List.getD a (Int.toNat (↑b:Int)) H4
def QLK(a:List Sm)(b:Nat):Bool:=Sm.kd (QmW a b)==2
def QfC(a:List Sm)(b:Nat):Nat:=Y3 a b+N2
def Jo(a:List Sm)(b:Nat):Nd:=Sm.nd (QmW a b)
def QfE(a:Nd)(b:List Sm)(c:Nat):Prop:=isN a [D.agg (Nd.rowE (Jo b c))] []/\okC a
def QfF(a:Nd):Nat:=LN (ptX a)
def QfG(a:List Sm)(b:Nat)(c:Nd):Nat:=QfC a b+QfF c
def QLO(a:List Sm):D:=D.sl 34 (LN a) (fun i=>QLJ a i) Mode.any
def QSH(a:List Sm):D:=D.agg [QLO a]
def QfH(a:List Sm)(b:Nat):Prop:=SM (QSH a)/\SM (D.ref N0 b N0)/\SM (QLO a)/\SM (ZI (LI a))/\True
def QfI(a b:Nat):Prop:=IntKind.wrap IntKind.i64 ((↑a:Int)+Z1)=(↑b:Int)
def QLP(a:List Sm)(b c:Nat):List D:=[D.str (List.getD [Sm.nm (QmW a b),[(60:UInt8),(45:UInt8)]] c [])]
def QfJ(a:Nd)(b:Nat):List D:=[D.str (List.getD (ptX a) b [])]
def QfK(a:List Sm)(b:Nat)(c:Nd):Nat:=Y3 a b+QfF c
def QfL(a:List Sm)(b:Nat):Nat:=QG a b+N2
def QfM(a:List Sm)(b:Nat)(c:Nd):Nat:=QfL a b+QfF c
def QfN(a:List Sm)(b:Nat)(c:Nd):Nat:=QG a b+QfF c
theorem Bqa(l:List Sm)(h:B1 l=0)(hl:l.length<=BC)(ho:∀s∈l,s.ok)(hs:∀s∈l,s.sm):CD 14 [.agg [gsl 34 Sm.row1 l]] (ssl ((ptB l).map prT) .any):=by
 refine Bg (A:=sC _ _) (x:=()) (E:=Epg l) (eOk Bll rfl) Tryz.func14 rfl (by kernel_rfl) rfl (by simp[sC,Epg,EC,E0]) ?_
 refine Bi (T :=
  ∀(x:Nat),True->SM x/\∀(t:Nat),(∃(x_1:Nat×Nat),x_1.1<=LN l/\(Z0=(NI x_1.1)/\(N0=QG l x_1.1/\(∀(i:Nat),i<N0->Cw (List D) [] (JW l x_1.1 i))/\t=x_1.2)/\True)/\H5 x l t x_1.2)/\∀(x_1:Nat×Nat),x_1.1<=LN l->ifB (decide ((NI x_1.1)<(LI l))) (Bc (Z0<=(NI x_1.1)/\(NI x_1.1)<(LI l)) (∀(x_2:Nat),x≠x_2/\True->SM x_2/\ifB (decide (Z0<(NI x_1.1))) (SM x_1.2/\Bc (Y3 l x_1.1*16<=140737488355328/\Y3 l x_1.1<=9223372036854775807) (∀(t:Nat),SM x_2/\ifB (QLK l x_1.1) (SM x_2/\SM t/\Bc (QfC l x_1.1*16<=140737488355328/\QfC l x_1.1<=9223372036854775807) (∀(t:Nat),SM x_2/\∃(x_3:Nd),QfE x_3 l x_1.1/\∀(y:Unit),True->SM t/\Bc (QfG l x_1.1 x_3*16<=140737488355328/\QfG l x_1.1 x_3<=9223372036854775807) (∀(t:Nat),QfH l x/\∃(y:Nat×Nat),y.1<=LN l/\LN l-y.1<LN l-x_1.1/\(QfI x_1.1 y.1/\(QfG l x_1.1 x_3=QG l y.1/\(∀(i:Nat),i<QfG l x_1.1 x_3->BN (QfC l x_1.1) (BN (Y3 l x_1.1) (BN (QG l x_1.1) (fun i=>JW l x_1.1 i) fun i=>[D.str (List.getD [[(59:UInt8)]] i [])]) fun i=>QLP l x_1.1 i) (fun i=>QfJ x_3 i) i=JW l y.1 i)/\t=y.2)/\True)/\H5 x l t y.2))) (SM x_2/\∃(x_3:Nd),QfE x_3 l x_1.1/\∀(y:Unit),True->SM t/\Bc (QfK l x_1.1 x_3*16<=140737488355328/\QfK l x_1.1 x_3<=9223372036854775807) (∀(t:Nat),QfH l x/\∃(y:Nat×Nat),y.1<=LN l/\LN l-y.1<LN l-x_1.1/\(QfI x_1.1 y.1/\(QfK l x_1.1 x_3=QG l y.1/\(∀(i:Nat),i<QfK l x_1.1 x_3->BN (Y3 l x_1.1) (BN (QG l x_1.1) (fun i=>JW l x_1.1 i) fun i=>[D.str (List.getD [[(59:UInt8)]] i [])]) (fun i=>QfJ x_3 i) i=JW l y.1 i)/\t=y.2)/\True)/\H5 x l t y.2)))) (SM x_2/\ifB (QLK l x_1.1) (SM x_2/\SM x_1.2/\Bc (QfL l x_1.1*16<=140737488355328/\QfL l x_1.1<=9223372036854775807) (∀(t:Nat),SM x_2/\∃(x_3:Nd),QfE x_3 l x_1.1/\∀(y:Unit),True->SM t/\Bc (QfM l x_1.1 x_3*16<=140737488355328/\QfM l x_1.1 x_3<=9223372036854775807) (∀(t:Nat),QfH l x/\∃(y:Nat×Nat),y.1<=LN l/\LN l-y.1<LN l-x_1.1/\(QfI x_1.1 y.1/\(QfM l x_1.1 x_3=QG l y.1/\(∀(i:Nat),i<QfM l x_1.1 x_3->BN (QfL l x_1.1) (BN (QG l x_1.1) (fun i=>JW l x_1.1 i) fun i=>QLP l x_1.1 i) (fun i=>QfJ x_3 i) i=JW l y.1 i)/\t=y.2)/\True)/\H5 x l t y.2))) (SM x_2/\∃(x_3:Nd),QfE x_3 l x_1.1/\∀(y:Unit),True->SM x_1.2/\Bc (QfN l x_1.1 x_3*16<=140737488355328/\QfN l x_1.1 x_3<=9223372036854775807) (∀(t:Nat),QfH l x/\∃(y:Nat×Nat),y.1<=LN l/\LN l-y.1<LN l-x_1.1/\(QfI x_1.1 y.1/\(QfN l x_1.1 x_3=QG l y.1/\(∀(i:Nat),i<QfN l x_1.1 x_3->BN (QG l x_1.1) (fun i=>JW l x_1.1 i) (fun i=>QfJ x_3 i) i=JW l y.1 i)/\t=y.2)/\True)/\H5 x l t y.2))))) (True/\∃(y:Unit),True/\(QG l x_1.1=LN (List.map prT (ptB l))/\(∀(i:Nat),i<QG l x_1.1->JW l x_1.1 i=[D.str (List.getD (List.map prT (ptB l)) i [])])/\True)/\True/\True)) (by kernel_rfl) ?_
 delta DA GI LI LN N0 N1 N2 N4 NI SI SM Z0 Z1 ZI QG JW Qfz QLJ H5 Y3 QmW QLK QfC Jo H3 QfE QfF QfG QLO QSH QfH QfI H4 QLP QfJ QfK QfL QfM QfN Y2
 try simp only[<- dm]
 try simp only[<- dn]
 simp only[ne_eq,implies_true,Int.toNat_natCast,Bf,Bd,decide_eq_true_eq,decide_eq_false_iff_not,true_and,and_true,beq_iff_eq,beq_eq_false_iff_ne,exists_const,forall_const,Prod.exists]
 have hR:=GB h
 have hpt:=Uc hR ho
 unfold BC at hl
 have len:∀i,(In l i).length<=3400000000000:=fun i=>by
  have:=Bdl l i
  unfold In
  rw[List.length_map]
  omega
 intro xb t
 refine⟨⟨0,t,Nat.zero_le _,⟨rfl,rfl,fun i hi=>absurd hi (by omega),rfl⟩,rfl⟩,?_⟩
 rintro ⟨i,t1⟩ hi
 simp only at hi ⊢
 refine⟨fun hlt=>?_,fun hge=>?_⟩
 ·have hi':i<l.length:=by omega
  have sm:=C3 hi'
  obtain ⟨_,c,k3,_⟩:=UU hR sm
  have ok:okC (l.getD i default).nd:=⟨c,(Cq (ho _ sm)).2,(Cl (hs _ sm)).2⟩
  have st:=Bfo hi' k3
  have e1:=len (i+1)
  have fin:∀(n:Nat) (F:Nat->List D) (L:List (List UInt8)),L=In l (i+1)->n=L.length->(∀j,j<n->F j=[D.str (L.getD j [])])->∀t2:Nat,∃a b:Nat,a<=l.length/\l.length-a<l.length-i/\(IntKind.i64.wrap ((i:Int)+1)=(a:Int)/\n=(In l a).length/\(∀j,j<n->F j=[D.str ((In l a).getD j [])])/\t2=b)/\t2=b:=fun n F L hL hn hF t2=>by
   subst hL
   exact⟨i+1,t2,hi',by omega,⟨Ba (by omega) (by omega),hn,hF,rfl⟩,rfl⟩
  generalize hA:In l i=A at *
  generalize hB:In l (i+1)=B at *
  refine⟨⟨by omega,hlt⟩,fun x2 _=>⟨fun hp=>⟨?_,fun k2=>?_,fun n2=>?_⟩,fun hp=>⟨fun k2=>?_,fun n2=>?_⟩⟩⟩
  ·have:=congrArg List.length st
   rw[if_pos (by omega)] at this
   simp only[List.length_append,List.length_cons,List.length_nil] at this
   exact⟨by omega,by omega⟩
  ·rw[if_pos (by omega),if_pos k2] at st
   have:=congrArg List.length st
   simp only[List.length_append,List.length_cons,List.length_nil] at this
   refine⟨⟨by omega,by omega⟩,(l.getD i default).nd,⟨Bl _ _,ok⟩,⟨by omega,by omega⟩,fin _ _ (A++[[59]]++[(l.getD i default).nm,[60,45]]++ptX (l.getD i default).nd) (by rw[st];simp) (by simp only[List.length_append,List.length_cons,List.length_nil]) (C8 (by simp only[List.length_append,List.length_cons,List.length_nil]) (C8 (L:=A++[[59]]) (r:=[(l.getD i default).nm,[60,45]]) (by simp only[List.length_append,List.length_cons,List.length_nil]) (E6 rfl (fun _ _=>rfl) _) fun _ _=>rfl) fun _ _=>rfl)⟩
  ·rw[if_pos (by omega),if_neg n2] at st
   have:=congrArg List.length st
   simp only[List.length_append,List.length_cons,List.length_nil] at this
   refine⟨(l.getD i default).nd,⟨Bl _ _,ok⟩,⟨by omega,by omega⟩,fin _ _ (A++[[59]]++ptX (l.getD i default).nd) (by rw[st];simp) (by simp only[List.length_append,List.length_cons,List.length_nil]) (C8 (by simp only[List.length_append,List.length_cons,List.length_nil]) (E6 rfl (fun _ _=>rfl) _) fun _ _=>rfl)⟩
  ·rw[if_neg (by omega),if_pos k2] at st
   have:=congrArg List.length st
   simp only[List.length_append,List.length_cons,List.length_nil] at this
   refine⟨⟨by omega,by omega⟩,(l.getD i default).nd,⟨Bl _ _,ok⟩,⟨by omega,by omega⟩,fin _ _ (A++[(l.getD i default).nm,[60,45]]++ptX (l.getD i default).nd) (by rw[st];simp) (by simp only[List.length_append,List.length_cons,List.length_nil]) (C8 (by simp only[List.length_append,List.length_cons,List.length_nil]) (C8 (r:=[(l.getD i default).nm,[60,45]]) rfl (fun _ _=>rfl) fun _ _=>rfl) fun _ _=>rfl)⟩
  ·rw[if_neg (by omega),if_neg n2] at st
   have:=congrArg List.length st
   simp only[List.length_append,List.length_nil] at this
   exact⟨(l.getD i default).nd,⟨Bl _ _,ok⟩,⟨by omega,by omega⟩,fin _ _ (A++ptX (l.getD i default).nd) (by rw[st];simp) (by simp only[List.length_append]) (C8 rfl (fun _ _=>rfl) fun _ _=>rfl)⟩
 ·refine C5 ?_
  unfold In
  rw[show i=l.length by omega,List.take_length]
def Bbt(l:List Sm):Con:=fun k ds S=>match k with
 |13=>some (pA ds S (.int .i64 (B1 l)) (wkL ds [.agg [gsl 34 Sm.row1 l]]))
 |14=>some (pA ds S (ssl ((ptB l).map prT) .any) (wkL ds [.agg [gsl 34 Sm.row1 l]]/\B1 l=0))
 |_=>none
theorem Bae{l:List Sm}(hl:l.length<=BC)(ho:∀s∈l,s.ok)(hs:∀s∈l,s.sm):ConOk Tryz.prog (Bbt l):=by
 intro k ds S A hh
 unfold Bbt at hh
 split at hh
 ·injection hh with hh;subst hh
  exact Bo fun e=>CD.at_ (CD.wk (Bp2 l hl ho hs) e) _
 ·injection hh with hh;subst hh
  exact Bo fun ⟨e,h⟩=>CD.at_ (CD.wk (Bqa l h hl ho hs) e) _
 ·cases hh
def BcD(o:Nat)(last y:List UInt8)(lv:Int):Prop:=y≠[]/\0<=lv/\lv<=90000/\o+y.length<=100000000000000/\last.length<=100000000000000
def BfU(bl ln:Nat)(cmp:Bool)(base:Con):Con:=fun k ds S=>match k with
 |15=>match ds with
  | [.ref k x 0,.str y,.fn (.func b1) [] [],.fn (.func b2) [] []]=>match BJ S.objs k with
   |some (y',.bldx T E (.sl 1 n g (.tok kt t)) [.str last,.int .i64 lv])=>some ((sWr bl ln cmp k kt x t (bytesOf n g) last lv y).fits () (Ox S.toks x y' T E kt t n g/\BcD n last y lv/\b1=bl/\b2=ln))
   |_=>none
  |_=>none
 |k=>Bgx base k ds S
theorem BdC{bl ln:Nat}{cmp:Bool}{base:Con}(hb:ConOk Tryz.prog base)(h:∀(k kt x t:Nat) (o last y:List UInt8) (lv:Int),BcD o.length last y lv->ACalls Tryz.prog 15 ((sWr bl ln cmp k kt x t o last lv y).args ()) ((sWr bl ln cmp k kt x t o last lv y).st ()) (SpecR (sWr bl ln cmp k kt x t o last lv y) ())):ConOk Tryz.prog (BfU bl ln cmp base):=by
 intro k ds S A hh
 unfold BfU at hh
 split at hh
 ·split at hh
  ·split at hh
   ·rename_i k x y b1 b2 _ y' T E n g kt t last lv hg
    injection hh with hh;subst hh
    refine⟨fun _ hy=>h k kt x t (bytesOf n g) last y lv (by simpa[bytesOf] using hy.1.2.1),fun _ _ hy=>?_,fun h=>nomatch h⟩
    obtain ⟨⟨⟨h1,h2,h3,h4,h5⟩,_,rfl,rfl⟩,_⟩:=hy
    exact⟨⟨by simp[Bn,chk],Bp _,Bp _,Bp _,trivial⟩,Bb.2 ⟨rfl,Tp hg h1 h2 h3 h5,I3 h4⟩⟩
   ·cases hh
  ·cases hh
 ·exact Ra hb _ _ _ _ hh
theorem Bp4(cmp:Bool){p:Pt}(hp:okP p)(s:List UInt8×List UInt8×Int):wrS cmp s p=(wrO cmp s.1 s.2.1 s.2.2 (prT p),wrL (prT p),wrV s.2.2 (prT p)):=by
 cases p with
 |sp=>rfl
 |op=>rfl
 |cl=>rfl
 |tx y =>
  obtain ⟨_,_,h59,h123,h125⟩:=hp
  have n59:¬y=[59]:=fun e=>h59 (by rw[e];rfl)
  have n123:¬y=[123]:=fun e=>h123 (by rw[e];rfl)
  have n125:¬y=[125]:=fun e=>h125 (by rw[e];rfl)
  show wrS cmp s (.tx y)=(wrO cmp s.1 s.2.1 s.2.2 y,wrL y,wrV s.2.2 y)
  rw[wrO,wrL,wrV,if_neg n59,if_neg n59,if_neg n123,if_neg n125]
  rfl
theorem Bf6{ps:List Pt}{p:Pt}(h:p∈ps):(prT p).length+1<=IS ps:=by
 induction ps with
 |nil=>cases h
 |cons x r ih =>
  unfold IS at ih ⊢
  rw[List.map_cons,List.sum_cons]
  rcases List.mem_cons.1 h with rfl | h
  ·omega
  ·have:=ih h;omega
structure WrI (cmp:Bool) (l:List Sm) (i:Nat):Prop where
 ol:(wrF cmp ((ptB l).take i)).1.length<=3400000000000
 ll:(wrF cmp ((ptB l).take i)).2.1.length<=3400000000000
 l0:0<=(wrF cmp ((ptB l).take i)).2.2
 l1:(wrF cmp ((ptB l).take i)).2.2<=90000
theorem Bev(cmp:Bool){l:List Sm}(h:PrR l)(ho:∀s∈l,s.ok){i:Nat}(hi:i<=(ptB l).length):WrI cmp l i:=by
 obtain ⟨f1,f2⟩:=G4 cmp (ptB l) i hi
 have b:=(Bpa l).2 i
 have hz:=h.hz
 have n1:=Bjo ((ptB l).take i) 0
 have n2:=Bbs (ptB l) i
 have n3:=nbB l
 have s1:=TX (ptB l)
 have s2:=BbU h ho
 refine⟨Oh h ho cmp i hi,?_,by rw[f1];exact b,by rw[f1];omega⟩
 rw[f2]
 split
 ·rename_i hc
  have hm:(ptB l).getD (i-1) .sp∈ptB l:=by
   rw[List.getD_eq_getElem?_getD,List.getElem?_eq_getElem (show i-1<(ptB l).length by omega)]
   exact List.getElem_mem _
  have:=Bf6 hm
  omega
 ·simp
theorem Blh(cmp:Bool){l:List Sm}(h:PrR l)(ho:∀s∈l,s.ok){i:Nat}(hi:i<(ptB l).length):BcD (wrF cmp ((ptB l).take i)).1.length (wrF cmp ((ptB l).take i)).2.1 (((ptB l).map prT).getD i []) (wrF cmp ((ptB l).take i)).2.2/\(wrF cmp ((ptB l).take (i+1)))=(wrO cmp (wrF cmp ((ptB l).take i)).1 (wrF cmp ((ptB l).take i)).2.1 (wrF cmp ((ptB l).take i)).2.2 (((ptB l).map prT).getD i []),wrL (((ptB l).map prT).getD i []),wrV (wrF cmp ((ptB l).take i)).2.2 (((ptB l).map prT).getD i [])):=by
 have w:=Bev cmp h ho (i:=i) (by omega)
 have e:((ptB l).map prT).getD i []=prT ((ptB l).getD i .sp):=by simp[List.getD_eq_getElem?_getD,hi]
 have hp:=OS (okB h ho) i
 have hm:(ptB l).getD i .sp∈ptB l:=by
  rw[List.getD_eq_getElem?_getD,List.getElem?_eq_getElem hi]
  exact List.getElem_mem _
 have s1:=TX (ptB l)
 have s2:=BbU h ho
 have s3:=Bf6 hm
 have w1:=w.ol
 have w2:=w.ll
 rw[e]
 exact⟨⟨Bks hp,w.l0,w.l1,by omega,by omega⟩,by rw[IM cmp hi,Bp4 cmp hp]⟩
noncomputable def Epi(l:List Sm):Senv:={ EC (BfU 16 17 false (Bbt l)) 29 4 [5,14,16,17,18,19] (fun _=>([],[])) with
 mg:=fun _=>2
 bd:=fun t=>match t with
  |52=>some 5
  |_=>none
 ann:=fun b env S=>match b with
  |0=>match Ab.look env 3 with
   |.ref k _ _=>some { slots:=[18],keep:=[0,1,3,16,17],α:=Nat×Nat,st:=fun y=>([.int .i64 y.1],⟨Il S.objs k (.bldx 52 5 (bsl (wrF false ((ptB l).take y.1)).1 (.tok 0 y.2)) [.str (wrF false ((ptB l).take y.1)).2.1,.int .i64 (wrF false ((ptB l).take y.1)).2.2]),[(0,y.2)]⟩),inv:=fun y=>y.1<=(ptB l).length,mu:=fun y=>(ptB l).length-y.1 }
   |_=>none
  |_=>none }
def QmX:Arr:=DA
def QfO:Nd:=Nd.mk Z0 Z0 Z0 [] Z0 Z0 QmX [] [] Z0 Z0 Z0
def QmY:Sm:=Sm.mk Z0 Z0 [] Z0 QfO QfO
def Y4(a:List Sm)(b:Nat):Sm:=List.getD a b QmY
def QLW(a:List Sm)(b:Nat):List D:=(Sm.row1 (Y4 a b))
def QLX(a:List Sm):D:=D.agg [D.sl 34 (LN a) (fun i=>QLW a i) Mode.any]
def QLY(a:List Sm):List D:=[QLX a]
def QLZ(a:List Sm):Prop:=wkL (QLY a) (QLY a)
def QL0(a:List Sm):Prop:=True/\∃(_y:Unit),True/\Cw (List UInt8) [] (Ch a)/\True/\True
def QmZ(a:Nat)(b:List Sm):Prop:=a<=LN (ptB b)
def QL1(a:Nat)(b:List Sm):List UInt8×List UInt8×Int:=wrF false (List.take a (ptB b))
def QL2(a:Nat)(b:List Sm):List UInt8:=Prod.fst (QL1 a b)
def Y5(a:Nat)(b:List Sm):Nat:=LN (QL2 a b)
def QfR(a:Nat)(b:List Sm)(c:Nat):List D:=[ZB (BI (QL2 a b) c)]
def QL3(a:Nat)(b:List Sm):List UInt8×Int:=Prod.snd (QL1 a b)
def QfS(a:Nat)(b:List Sm):List UInt8:=Prod.fst (QL3 a b)
def H6(a:Nat)(b:List Sm):Int:=Prod.snd (QL3 a b)
def QL4(a:Nat)(b:List Sm):Prop:=SM a/\((SM (LN b)/\(∀(i:Nat),i<LN b->SM (QLW b i))/\True)/\True)/\True
def QfT(a:List Sm):List (List UInt8):=List.map prT (ptB a)
def Qm0(a:List Sm):Int:=(LI (QfT a))
def QL5(a b c:Nat)(d:List Sm):Prop:=Ox [(N0,a)] b b (52:Nat) (5:Nat) N0 a (Y5 c d) fun i=>QfR c d i
def QfU(a:List Sm)(b:Nat):List UInt8:=List.getD (QfT a) (Int.toNat (↑b:Int)) []
def QSM(a:List Sm):D:=D.sl N1 (LN (QfT a)) (fun i=>[D.str (List.getD (QfT a) i [])]) Mode.any
def QSN(a:List Sm):D:=ZI (Qm0 a)
def QL6(a:Nat)(b:List Sm):List UInt8:=bytesOf (Y5 a b) fun i=>QfR a b i
def QL7(a:Nat)(b:List Sm):List UInt8:=wrO false (QL6 a b) (QfS a b) (H6 a b) (QfU b a)
def QL8(a:Nat)(b:List Sm):Nat:=LN (QL7 a b)
def QL9(a:Nat)(b:List Sm):List UInt8:=QL6 a b++[Cu (10:Int)]
def Qm1(a:Nat)(b:List Sm):Nat:=LN (QL9 a b)
def QMa(a:Nat)(b:List Sm)(c:Nat):List D:=[ZB (BI (QL9 a b) c)]
theorem BnY(l:List Sm)(hl:l.length<=BC)(ho:∀s∈l,s.ok)(hs:∀s∈l,s.sm):CD 7 [.agg [gsl 34 Sm.row1 l]] (.str (Ch l)):=by
 refine Bg (A:=sC _ _) (x:=()) (E:=Epi l) (eOk (BdC (Bae hl ho hs) fun k kt x t o last y lv hp=>Bog _ _ _ k kt x t (Bpe x t o last y lv hp.1 hp.2.1 hp.2.2.1 hp.2.2.2.1)) rfl) Tryz.func7 rfl (by kernel_rfl) rfl (by simp[sC,Epi,EC,E0]) ?_
 refine Bi (T :=
  ∀(x:Nat),True->SM x/\∃(x_1:Unit),QLZ l/\∀(y:Unit),True->ifB (B1 l != Z0) (QL0 l) (SM x/\ifB ((LI l)==Z0) (QL0 l) (∀(y t:Nat),x≠y/\True->SM x/\∃(x_2:Unit),(QLZ l/\B1 l=Z0)/\∀(y_1:Unit),True->(∃(x_3:Nat×Nat),QmZ x_3.1 l/\(Z0=(NI x_3.1)/\True)/\(SM y/\((N0=Y5 x_3.1 l/\(∀(i:Nat),i<N0->Cw (List D) [] (QfR x_3.1 l i))/\t=x_3.2)/\Cw (List UInt8) [] (QfS x_3.1 l)/\Z0=H6 x_3.1 l/\True)/\QL4 x l)/\t=x_3.2/\True)/\∀(x_3:Nat×Nat),QmZ x_3.1 l->ifB (decide ((NI x_3.1)<Qm0 l)) (Bc (Z0<=(NI x_3.1)/\(NI x_3.1)<Qm0 l) (((QL5 x_3.2 y x_3.1 l/\BcD (Y5 x_3.1 l) (QfS x_3.1 l) (QfU l x_3.1) (H6 x_3.1 l)/\SM (16:Nat)/\SM (17:Nat))/\True)/\∀(y_2:Nat),True->(SM (QLX l)/\SM (D.ref N0 x N0)/\SM (D.ref (max (N0+N1) N0) y N0)/\SM (QSM l)/\SM (QSN l)/\True)/\∃(y_3:Nat×Nat),QmZ y_3.1 l/\LN (ptB l)-y_3.1<LN (ptB l)-x_3.1/\(IntKind.wrap IntKind.i64 ((NI x_3.1)+Z1)=(NI y_3.1)/\True)/\(SM y/\((QL8 x_3.1 l=Y5 y_3.1 l/\(∀(i:Nat),i<QL8 x_3.1 l->[ZB (BI (QL7 x_3.1 l) i)]=QfR y_3.1 l i)/\y_2=y_3.2)/\wrL (QfU l x_3.1)=QfS y_3.1 l/\wrV (H6 x_3.1 l) (QfU l x_3.1)=H6 y_3.1 l/\True)/\QL4 x l)/\y_2=y_3.2/\True)) (((QL5 x_3.2 y x_3.1 l/\(Z0<=10/\(10:Int)<=255)/\Y5 x_3.1 l+N1<=140737488355328)/\True)/\∀(y_2:Nat),True->(((Ox [(N0,y_2)] y y (52:Nat) (5:Nat) N0 y_2 (Qm1 x_3.1 l) fun i=>QMa x_3.1 l i)/\Qm1 x_3.1 l<=140737488355328)/\True)/\∀(y:Unit),True->RT ((bytesOf (Qm1 x_3.1 l) fun i=>QMa x_3.1 l i)=Ch l))))) (by kernel_rfl) ?_
 delta BI DA GI LI LN N0 N1 N4 NI SI SM U0 Z0 Z1 ZB ZI QmX QfO QLW QLX QmY QLY QLZ QL0 QmZ QL1 QL2 Y5 QfR QL3 QfS Y4 H6 QL4 QfT Qm0 QL5 QfU QSM QSN QL6 QL7 QL8 QL9 Qm1 QMa RT
 try simp only[<- dm]
 try simp only[<- dn]
 simp only[ne_eq,implies_true,Int.toNat_natCast,Bf,Bd,decide_eq_true_eq,decide_eq_false_iff_not,true_and,and_true,beq_iff_eq,bne_iff_ne,bne_eq_false_iff_eq,beq_eq_false_iff_ne,exists_const,forall_const,Prod.exists]
 intro x
 refine⟨Be _,fun h=>?_,fun h0=>⟨fun hl0=>?_,fun hl1=>?_⟩⟩
 ·rw[Ch,if_neg fun hh=>h hh.1]
 ·rw[Ch,if_neg fun hh=>hh.2 (List.length_eq_zero_iff.1 (by omega))]
 ·have e10:Cu 10=10:=rfl
  simp only[CL,e10]
  have hR:=GB h0
  have hpt:=Uc hR ho
  have hm:((ptB l).map prT).length=(ptB l).length:=List.length_map ..
  intro y t hxy
  refine⟨⟨Be _,h0⟩,⟨0,t,Nat.zero_le _,rfl,⟨⟨rfl,fun i hi=>absurd hi (by omega),rfl⟩,rfl,rfl⟩,rfl⟩,?_⟩
  rintro ⟨i,t1⟩ hi
  simp only at hi ⊢
  refine⟨fun hlt=>?_,fun hge=>?_⟩
  ·have hi':i<(ptB l).length:=by omega
   obtain ⟨wp,we⟩:=Blh false hR ho hi'
   refine⟨⟨by omega,hlt⟩,⟨Gv _ _ _,wp⟩,fun t2=>⟨i+1,t2,hi',by omega,Ba (by omega) (by omega),⟨⟨?_,?_,rfl⟩,?_,?_⟩,rfl⟩⟩
   ·rw[we]
   ·intro j _
    rw[we]
   ·rw[we]
   ·rw[we]
  ·have hil:i=(ptB l).length:=by omega
   have w:=(Bev false hR ho hi).ol
   refine⟨⟨Gv _ _ _,⟨by omega,by omega⟩,by omega⟩,fun t2=>⟨⟨Gv _ _ _,?_⟩,?_⟩⟩
   ·simp only[List.length_append,List.length_cons,List.length_nil]
    omega
   ·rw[Ch,if_pos ⟨h0,fun h=>hl1 (by rw[h];rfl)⟩,hil,List.take_length]
noncomputable def Ecm3(l:List Sm):Senv:={ EC (BfU 24 26 true (Bbt l)) 23 5 [6,9,11,12,13,14] (fun _=>([],[])) with
 mg:=fun _=>2
 bd:=fun t=>match t with
  |52=>some 5
  |_=>none
 ann:=fun b env S=>match b with
  |0=>match Ab.look env 4 with
   |.ref k _ _=>some { slots:=[13],keep:=[0,1,3,4,11,12],α:=Nat×Nat,st:=fun y=>([.int .i64 y.1],⟨Il S.objs k (.bldx 52 5 (bsl (wrF true ((ptB l).take y.1)).1 (.tok 0 y.2)) [.str (wrF true ((ptB l).take y.1)).2.1,.int .i64 (wrF true ((ptB l).take y.1)).2.2]),[(0,y.2)]⟩),inv:=fun y=>y.1<=(ptB l).length,mu:=fun y=>(ptB l).length-y.1 }
   |_=>none
  |_=>none }
def Qm2:Arr:=DA
def QfV:Nd:=Nd.mk Z0 Z0 Z0 [] Z0 Z0 Qm2 [] [] Z0 Z0 Z0
def Qm3:Sm:=Sm.mk Z0 Z0 [] Z0 QfV QfV
def Y6(a:List Sm)(b:Nat):Sm:=List.getD a b Qm3
def QMh(a:List Sm)(b:Nat):List D:=(Sm.row1 (Y6 a b))
def QMi(a:List Sm):D:=D.agg [D.sl 34 (LN a) (fun i=>QMh a i) Mode.any]
def QMj(a:List Sm):List D:=[QMi a]
def QMk(a:List Sm):Prop:=wkL (QMj a) (QMj a)
def Qm4(a:Nat)(b:List Sm):Prop:=a<=LN (ptB b)
def QMl(a:Nat)(b:List Sm):List UInt8×List UInt8×Int:=wrF true (List.take a (ptB b))
def QMm(a:Nat)(b:List Sm):List UInt8:=Prod.fst (QMl a b)
def Y7(a:Nat)(b:List Sm):Nat:=LN (QMm a b)
def QfY(a:Nat)(b:List Sm)(c:Nat):List D:=[ZB (BI (QMm a b) c)]
def QMn(a:Nat)(b:List Sm):List UInt8×Int:=Prod.snd (QMl a b)
def QfZ(a:Nat)(b:List Sm):List UInt8:=Prod.fst (QMn a b)
def H7(a:Nat)(b:List Sm):Int:=Prod.snd (QMn a b)
def QMo(a:Nat)(b:List Sm):Prop:=SM a/\((SM (LN b)/\(∀(i:Nat),i<LN b->SM (QMh b i))/\True)/\True)/\True
def Qf0(a:List Sm):List (List UInt8):=List.map prT (ptB a)
def Qm5(a:List Sm):Int:=(LI (Qf0 a))
def QMp(a b c:Nat)(d:List Sm):Prop:=Ox [(N0,a)] b b (52:Nat) (5:Nat) N0 a (Y7 c d) fun i=>QfY c d i
def Qf1(a:List Sm)(b:Nat):List UInt8:=List.getD (Qf0 a) (Int.toNat (↑b:Int)) []
def QSS(a:List Sm):D:=D.sl N1 (LN (Qf0 a)) (fun i=>[D.str (List.getD (Qf0 a) i [])]) Mode.any
def QST(a:List Sm):D:=ZI (Qm5 a)
def QMq(a:Nat)(b:List Sm):List UInt8:=bytesOf (Y7 a b) fun i=>QfY a b i
def QMr(a:Nat)(b:List Sm):List UInt8:=wrO true (QMq a b) (QfZ a b) (H7 a b) (Qf1 b a)
def QMs(a:Nat)(b:List Sm):Nat:=LN (QMr a b)
theorem Bkh(l:List Sm)(hl:l.length<=BC)(ho:∀s∈l,s.ok)(hs:∀s∈l,s.sm):CD 9 [.agg [gsl 34 Sm.row1 l]] (.str (EN l)):=by
 refine Bg (A:=sC _ _) (x:=()) (E:=Ecm3 l) (eOk (BdC (Bae hl ho hs) fun k kt x t o last y lv hp=>Bog _ _ _ k kt x t (BoG x t o last y lv hp.1 hp.2.1 hp.2.2.1 hp.2.2.2.1 hp.2.2.2.2)) rfl) Tryz.func9 rfl (by kernel_rfl) rfl (by simp[sC,Ecm3,EC,E0]) ?_
 refine Bi (T :=
  ∀(x:Nat),True->SM x/\∃(x_1:Unit),QMk l/\∀(y:Unit),True->ifB (B1 l != Z0) (RT (Cw (List UInt8) [] (EN l))) (∀(y t:Nat),x≠y/\True->SM x/\∃(x_2:Unit),(QMk l/\B1 l=Z0)/\∀(y_1:Unit),True->(∃(x_3:Nat×Nat),Qm4 x_3.1 l/\(Z0=(NI x_3.1)/\True)/\(SM y/\((N0=Y7 x_3.1 l/\(∀(i:Nat),i<N0->Cw (List D) [] (QfY x_3.1 l i))/\t=x_3.2)/\Cw (List UInt8) [] (QfZ x_3.1 l)/\Z0=H7 x_3.1 l/\True)/\QMo x l)/\t=x_3.2/\True)/\∀(x_3:Nat×Nat),Qm4 x_3.1 l->ifB (decide ((NI x_3.1)<Qm5 l)) (Bc (Z0<=(NI x_3.1)/\(NI x_3.1)<Qm5 l) (((QMp x_3.2 y x_3.1 l/\BcD (Y7 x_3.1 l) (QfZ x_3.1 l) (Qf1 l x_3.1) (H7 x_3.1 l)/\SM (24:Nat)/\SM (26:Nat))/\True)/\∀(y_2:Nat),True->(SM (QMi l)/\SM (D.ref N0 x N0)/\SM (D.fn (Fn.func (24:Nat)) [] [])/\SM (D.ref (max (N0+N1) N0) y N0)/\SM (QSS l)/\SM (QST l)/\True)/\∃(y_3:Nat×Nat),Qm4 y_3.1 l/\LN (ptB l)-y_3.1<LN (ptB l)-x_3.1/\(IntKind.wrap IntKind.i64 ((NI x_3.1)+Z1)=(NI y_3.1)/\True)/\(SM y/\((QMs x_3.1 l=Y7 y_3.1 l/\(∀(i:Nat),i<QMs x_3.1 l->[ZB (BI (QMr x_3.1 l) i)]=QfY y_3.1 l i)/\y_2=y_3.2)/\wrL (Qf1 l x_3.1)=QfZ y_3.1 l/\wrV (H7 x_3.1 l) (Qf1 l x_3.1)=H7 y_3.1 l/\True)/\QMo x l)/\y_2=y_3.2/\True)) (((QMp x_3.2 y x_3.1 l/\Y7 x_3.1 l<=140737488355328)/\True)/\∀(y:Unit),True->RT (QMq x_3.1 l=EN l)))) (by kernel_rfl) ?_
 delta BI DA GI LI LN N0 N1 N4 NI SI SM U0 Z0 Z1 ZB ZI Qm2 QfV Qm3 Y6 QMh QMi QMj QMk Qm4 QMl QMm Y7 QfY QMn QfZ H7 QMo Qf0 Qm5 QMp Qf1 QSS QST QMq QMr QMs RT
 try simp only[<- dm]
 try simp only[<- dn]
 simp only[ne_eq,implies_true,Int.toNat_natCast,Bf,Bd,decide_eq_true_eq,decide_eq_false_iff_not,true_and,and_true,bne_iff_ne,bne_eq_false_iff_eq,exists_const,forall_const,Prod.exists]
 intro x
 refine⟨Be _,fun h=>?_,fun h0=>?_⟩
 ·rw[EN,if_neg h]
 ·simp only[CL]
  have hR:=GB h0
  have hpt:=Uc hR ho
  have hm:((ptB l).map prT).length=(ptB l).length:=List.length_map ..
  intro y t hxy
  refine⟨⟨Be _,h0⟩,⟨0,t,Nat.zero_le _,rfl,⟨⟨rfl,fun i hi=>absurd hi (by omega),rfl⟩,rfl,rfl⟩,rfl⟩,?_⟩
  rintro ⟨i,t1⟩ hi
  simp only at hi ⊢
  refine⟨fun hlt=>?_,fun hge=>?_⟩
  ·have hi':i<(ptB l).length:=by omega
   obtain ⟨wp,we⟩:=Blh true hR ho hi'
   refine⟨⟨by omega,hlt⟩,⟨Gv _ _ _,wp⟩,fun t2=>⟨i+1,t2,hi',by omega,Ba (by omega) (by omega),⟨⟨?_,?_,rfl⟩,?_,?_⟩,rfl⟩⟩
   ·rw[we]
   ·intro j _
    rw[we]
   ·rw[we]
   ·rw[we]
  ·have hil:i=(ptB l).length:=by omega
   have w:=(Bev true hR ho hi).ol
   refine⟨⟨Gv _ _ _,by omega⟩,?_⟩
   rw[EN,if_pos h0,hil,List.take_length]
end
end Go.Proofs.YtnlplccjbojloaaGreatDoor
