/- Functions of the given program and what each of them computes: lemmas towards the statement, their conditions stated with each of them. -/
import Derived.Test.YtnlplccjbojloaaGreatDoorS5
namespace Go.Proofs.YtnlplccjbojloaaGreatDoor
open Go Go.Ab
set_option maxRecDepth 100000
noncomputable section
theorem BfH(ps:List Pt):ps.length<=IP ps:=by
 induction ps with
 |nil=>simp
 |cons p r ih =>
  unfold IP at ih ⊢
  rw[List.map_cons,List.sum_cons,List.length_cons]
  omega
def RPar(n:Nd):Prop:=(∀lv:Int,0<=lv->lv+szN n<=100000->CD 70 [.agg n.row2,.int .i64 lv] (ssl (rlP lv (ptN n)) .any))/\(ptN n).length<=4000000000000
theorem Bm0(ks:List Int)(n:Nd)(lv:Int):rlP lv (BR ks n)=if ks.contains n.kd=true then [40]::(rlP lv (ptN n)++[[41]]) else rlP lv (ptN n):=by
 unfold BR ptW
 split
 ·have e:Pt.tx [40]::(ptN n++[.tx [41]])=[.tx [40]]++(ptN n++[.tx [41]]):=rfl
  rw[e,EB (EU rfl),EB (Wf n)]
  rfl
 ·rfl
theorem C8{a : Nat}{F G : Nat -> List D}{L r : List (List UInt8)}(ha : a=L.length)(hF : ∀i, i<a -> F i=[D.str (L.getD i [])])(hG : ∀i, i<r.length -> G i=[D.str (r.getD i [])]) :
  ∀i,i<a+r.length->BM a F G i=[D.str ((L++r).getD i [])]:=by
 intro i hi
 subst ha
 simp only[BM]
 split
 ·rename_i h
  rw[hF i h]
  simp[List.getD_eq_getElem?_getD,List.getElem?_append_left h]
 ·rename_i h
  rw[hG _ (by omega)]
  simp[List.getD_eq_getElem?_getD,List.getElem?_append_right (Nat.le_of_not_lt h)]
theorem Bjd{ks:List Int}{k:Int}{i:Nat}(h:i<ks.length)(e:k=ks.getD i 0):ks.contains k=true:=by
 rw[List.contains_eq_mem,decide_eq_true_eq,e,List.getD_eq_getElem?_getD,List.getElem?_eq_getElem h]
 exact List.getElem_mem h
theorem Bn6{ks:List Int}{k:Int}(h:∀j,j<ks.length->¬k=ks.getD j 0):ks.contains k=false:=by
 rw[List.contains_eq_mem,decide_eq_false_iff_not]
 intro hm
 obtain ⟨j,hj,e⟩:=List.getElem_of_mem hm
 refine h j hj ?_
 rw[List.getD_eq_getElem?_getD,List.getElem?_eq_getElem hj]
 exact e.symm
def Bkg(n:Nd):Con:=fun k ds S=>match k with
 |70=>match ds with
  | [_,.int .i64 lv]=>some (pA ds S (ssl (rlP lv (ptN n)) .any) (isN n ds [.int .i64 lv]/\0<=lv/\lv+szN n<=100000))
  |_=>none
 |_=>none
theorem BcW{n:Nd}(h:RPar n):ConOk Tryz.prog (Bkg n):=by
 intro k ds S A hh
 unfold Bkg at hh
 split at hh
 ·split at hh
  ·injection hh with hh;subst hh
   exact Bo fun ⟨e,h0,h1⟩=>CD.at_ (CD.isN (h.1 _ h0 h1) e) _
  ·cases hh
 ·cases hh
def BkU(L:List (List UInt8))(n:Nd)(ks:List Int)(lv:Int)(t:Nat):FnSpec where
 β:=Unit
 α:=Nat
 args:=fun _=>[ssl L (.tok 0 t),.agg n.row1,isl ks .any,.int .i64 lv]
 st:=fun _=>⟨[],[(0,t)]⟩
 pre:=fun _=>True
 post:=fun _ _=>True
 res:=fun _ t'=>.ret (ssl (L++rlP lv (BR ks n)) (.tok 0 t'))
 out:=fun _ t'=>⟨[],[(0,t')]⟩
noncomputable def Ead(n:Nd)(ks:List Int):Senv:={ EC (Bkg n) 39 4 [5,8,9,13,22] (fun id=>match id with | 4=>([0,1,2,3,4,5,6],[]) | _=>([],[])) with
 mg:=fun _=>2
 ann:=fun b _ S=>match b with
  |0=>some { slots:=[9],keep:=[0,1,2,3,5],α:=Nat,st:=fun i=>([.int .i64 i],S),inv:=fun i=>i<=ks.length/\∀j,j<i->n.kd≠ks.getD j 0,mu:=fun i=>ks.length-i }
  |_=>none }
def QeP(a:Nd):Int:=Nd.kd a
def QlI(a:Nat)(b:List Int)(c:Nd):Prop:=a<=LN b/\∀(j:Nat),j<a->QeP c≠GI b j
def QHG(a:Nd):Int:=Nd.at_ a
def QHH(a:Nd):Int:=Nd.cl a
def QHI(a:Nd):List UInt8:=Nd.tx a
def QHJ(a:Nd):Int:=Nd.pr a
def QHK(a:Nd):Int:=Nd.op a
def QeQ(a:Nd):Arr:=Nd.va a
def QHL(a:Nd):Int:=Arr.k (QeQ a)
def QHM(a:Nd):List Int:=Arr.sh (QeQ a)
def QlJ(a:Nd):Nat:=LN (QHM a)
def QHN(a:Nd)(b:Nat):List D:=[ZI (GI (QHM a) b)]
def QHO(a:Nd):List Int:=Arr.nu (QeQ a)
def QlK(a:Nd):Nat:=LN (QHO a)
def QHP(a:Nd)(b:Nat):List D:=[ZI (GI (QHO a) b)]
def QHQ(a:Nd):List Arr:=Arr.it (QeQ a)
def QlL(a:Nd):Nat:=LN (QHQ a)
def QHR:Arr:=DA
def QHS(a:Nd)(b:Nat):List D:=Arr.row (List.getD (QHQ a) b QHR)
def QlM(a:Nd):Nat:=LN (Nd.ki a)
def QlN:Nd:=Nd.mk Z0 Z0 Z0 [] Z0 Z0 QHR [] [] Z0 Z0 Z0
def QHT(a:Nd)(b:Nat):List D:=Nd.row (List.getD (Nd.ki a) b QlN)
def QlO(a:Nd):Nat:=LN (Nd.bo a)
def QHU(a:Nd)(b:Nat):List D:=Sm.row (List.getD (Nd.bo a) b (Sm.mk Z0 Z0 [] Z0 QlN QlN))
def QHV(a:Nd):Int:=Nd.de a
def QHW(a:Nd):Int:=Nd.sl a
def QHX(a:Nd):Int:=Nd.ss a
def QHY(a:Nat)(b:Nd)(c:Nat):Prop:=(SM a/\(SM (QeP b)/\SM (QHG b)/\SM (QHH b)/\SM (QHI b)/\SM (QHJ b)/\SM (QHK b)/\SM (QHL b)/\(SM (QlJ b)/\(∀(i:Nat),i<QlJ b->SM (QHN b i))/\True)/\(SM (QlK b)/\(∀(i:Nat),i<QlK b->SM (QHP b i))/\True)/\(SM (QlL b)/\(∀(i:Nat),i<QlL b->SM (QHS b i))/\True)/\(SM (QlM b)/\(∀(i:Nat),i<QlM b->SM (QHT b i))/\True)/\(SM (QlO b)/\(∀(i:Nat),i<QlO b->SM (QHU b i))/\True)/\SM (QHV b)/\SM (QHW b)/\SM (QHX b)/\True)/\True)/\SM c/\True
def QHZ(a:Nd):D:=D.agg (Nd.rowE a)
def QH0(a:Nd)(b:Int):Prop:=isN a [QHZ a,ZI b] [ZI b]/\Z0<=b/\b+(NI (szN a))<=100000
def QH1(a:Int)(b:Nd):List (List UInt8):=rlP a (ptN b)
def QH2(a:Int)(b:Nd):Nat:=LN (QH1 a b)
def QeR(a:List (List UInt8))(b:Int)(c:Nd):Nat:=LN a+N1+QH2 b c
def QeS(a:List (List UInt8))(b:Int)(c:Nd):Nat:=QeR a b c+N1
def QH3(a:Int)(b:Nd)(c:Nat):List D:=[D.str (List.getD (QH1 a b) c [])]
def QH4(a:List (List UInt8))(b:Int)(c:List Int)(d:Nd)(e:Nat):List D:=[D.str (List.getD (a++rlP b (BR c d)) e [])]
def QR9(a:List (List UInt8))(b:Nat):D:=D.sl N1 (LN a) (fun i=>[D.str (List.getD a i [])]) (Mode.tok N0 b)
def QSa(a:List Int):D:=SI a
def QeT(a:List (List UInt8))(b:Int)(c:Nd):Nat:=LN a+QH2 b c
theorem Bo8(L : List (List UInt8))(n : Nd)(ks : List Int)(lv : Int)(t : Nat)(h : RPar n)(h0 : 0<=lv)(h1 : lv+szN n<=100000)(hk : ks.length<=maxLen)(hL : L.length<=4000000000000) :
  ACalls Tryz.prog 46 ((BkU L n ks lv t).args ()) ((BkU L n ks lv t).st ()) (SpecR (BkU L n ks lv t) ()):=by
 refine Bg (A:=BkU L n ks lv t) (x:=()) (E:=Ead n ks) (eOk (BcW h) rfl) Tryz.func46 rfl (by kernel_rfl) rfl (by simp[BkU,Ead,EC,E0]) ?_
 refine Bi (T :=
  ∀(x:Nat),True->(∃(x_1:Nat),QlI x_1 ks n/\(Z0=(↑x_1:Int)/\True)/\QHY x n t)/\∀(x_1:Nat),QlI x_1 ks n->ifB (decide ((↑x_1:Int)<(LI ks))) (SM x/\Bc (Z0<=(↑x_1:Int)/\(↑x_1:Int)<(LI ks)) (ifB (QeP n==GI ks (Int.toNat (↑x_1:Int))) (SM t/\Bc ((LN L+N1)*16<=140737488355328/\LN L+N1<=9223372036854775807) (∀(t:Nat),SM x/\∃(x:Unit),QH0 n lv/\∀(y:Unit),True->SM t/\Bc (QeR L lv n*16<=140737488355328/\QeR L lv n<=9223372036854775807) (∀(t:Nat),SM t/\Bc (QeS L lv n*16<=140737488355328/\QeS L lv n<=9223372036854775807) (∀(t:Nat),True/\∃(y:Nat),True/\(QeS L lv n=LN (L++rlP lv (BR ks n))/\(∀(i:Nat),i<QeS L lv n->BM (QeR L lv n) (BM (LN L+N1) (BM (LN L) (fun i=>[D.str (List.getD L i [])]) fun i=>[D.str (List.getD [[(40:UInt8)]] i [])]) fun i=>QH3 lv n i) (fun i=>[D.str (List.getD [[(41:UInt8)]] i [])]) i=QH4 L lv ks n i)/\t=y)/\True/\t=y/\True)))) ((SM (QR9 L t)/\SM (QHZ n)/\SM (QSa ks)/\SM (ZI lv)/\SM (D.ref N0 x N0)/\True)/\∃(y:Nat),QlI y ks n/\LN ks-y<LN ks-x_1/\(IntKind.wrap IntKind.i64 ((↑x_1:Int)+Z1)=(↑y:Int)/\True)/\QHY x n t))) (SM x/\∃(x:Unit),QH0 n lv/\∀(y:Unit),True->SM t/\Bc (QeT L lv n*16<=140737488355328/\QeT L lv n<=9223372036854775807) (∀(t:Nat),True/\∃(y:Nat),True/\(QeT L lv n=LN (L++rlP lv (BR ks n))/\(∀(i:Nat),i<QeT L lv n->BM (LN L) (fun i=>[D.str (List.getD L i [])]) (fun i=>QH3 lv n i) i=QH4 L lv ks n i)/\t=y)/\True/\t=y/\True))) (by kernel_rfl) ?_
 delta DA GI LI LN N0 N1 N4 NI SI SM Z0 Z1 ZI QeP QlI QlJ QHN QHO QlK QHP QHQ QlL QHR QHS QlM QHG QlN QHT QlO QHU QHV QHW QHX QHY QHZ QH0 QHH QH1 QH2 QeR QeS QH3 QH4 QR9 QSa QeT QHI QHJ QHK QeQ QHL QHM
 try simp only[<- dm]
 try simp only[<- dn]
 simp only[ne_eq,implies_true,Int.toNat_natCast,Bf,Bd,decide_eq_true_eq,decide_eq_false_iff_not,true_and,and_true,beq_iff_eq,beq_eq_false_iff_ne,exists_const,forall_const]
 unfold maxLen at hk
 have hln:=h.2
 have hrl:=ED (ptN n) lv
 refine⟨⟨0,⟨Nat.zero_le _,fun j hj=>absurd hj (by omega)⟩,rfl⟩,fun i ⟨i1,hi⟩=>⟨fun hlt=>⟨⟨by omega,hlt⟩,fun hk1=>?_,fun hk1=>⟨i+1,⟨by omega,fun j hj=>?_⟩,by omega,Ba (by omega) (by omega)⟩⟩,fun hge=>?_⟩⟩
 ·have hc:=Bjd (show i<ks.length by omega) hk1
  have e:L++rlP lv (BR ks n)=((L++[[40]])++rlP lv (ptN n))++[[41]]:=by rw[Bm0,if_pos hc];simp
  rw[e]
  refine⟨⟨by omega,by omega⟩,⟨Bl _ _,h0,h1⟩,⟨by omega,by omega⟩,⟨by omega,by omega⟩,fun t2=>⟨t2,⟨by simp only[List.length_append,List.length_cons,List.length_nil],?_,rfl⟩,rfl⟩⟩
  refine C8 (r:=[[41]]) (by simp only[List.length_append,List.length_cons,List.length_nil]) (fun i hi=>?_) (fun _ _=>rfl)
  refine C8 (L:=L++[[40]]) (by simp) (fun i hi=>?_) (fun _ _=>rfl) i hi
  exact C8 (L:=L) (r:=[[40]]) rfl (fun _ _=>rfl) (fun _ _=>rfl) i hi
 ·by_cases e':j=i
  ·rw[e'];exact hk1
  ·exact hi j (by omega)
 ·have hc:=Bn6 (k:=n.kd) (ks:=ks) fun j hj=>hi j (by omega)
  rw[Bm0,hc]
  refine⟨⟨Bl _ _,h0,h1⟩,⟨by omega,by omega⟩,fun t2=>⟨t2,⟨by simp,?_,rfl⟩,rfl⟩⟩
  exact C8 rfl (fun _ _=>rfl) (fun _ _=>rfl)
def Bg7(n:Nd)(ks:List Int)(lv:Int):FnSpec where
 β:=Unit
 α:=Nat
 args:=fun _=>[.sl 1 0 (fun _=>[]) .nil,.agg n.row1,isl ks .any,.int .i64 lv]
 st:=fun _=>⟨[],[]⟩
 pre:=fun _=>True
 post:=fun _ _=>True
 res:=fun _ t'=>.ret (ssl (rlP lv (BR ks n)) (.tok 0 t'))
 out:=fun _ t'=>⟨[],[(0,t')]⟩
def QeU(a:Nd):Int:=Nd.kd a
def QlP(a:Nat)(b:List Int)(c:Nd):Prop:=a<=LN b/\∀(j:Nat),j<a->QeU c≠GI b j
def QH5(a:Nd):Int:=Nd.at_ a
def QH6(a:Nd):Int:=Nd.cl a
def QH7(a:Nd):List UInt8:=Nd.tx a
def QH8(a:Nd):Int:=Nd.pr a
def QH9(a:Nd):Int:=Nd.op a
def QeV(a:Nd):Arr:=Nd.va a
def QIa(a:Nd):Int:=Arr.k (QeV a)
def QIb(a:Nd):List Int:=Arr.sh (QeV a)
def QlQ(a:Nd):Nat:=LN (QIb a)
def QIc(a:Nd)(b:Nat):List D:=[ZI (GI (QIb a) b)]
def QId(a:Nd):List Int:=Arr.nu (QeV a)
def QlR(a:Nd):Nat:=LN (QId a)
def QIe(a:Nd)(b:Nat):List D:=[ZI (GI (QId a) b)]
def QIf(a:Nd):List Arr:=Arr.it (QeV a)
def QlS(a:Nd):Nat:=LN (QIf a)
def QIg:Arr:=DA
def QIh(a:Nd)(b:Nat):List D:=Arr.row (List.getD (QIf a) b QIg)
def QlT(a:Nd):Nat:=LN (Nd.ki a)
def QlU:Nd:=Nd.mk Z0 Z0 Z0 [] Z0 Z0 QIg [] [] Z0 Z0 Z0
def QIi(a:Nd)(b:Nat):List D:=Nd.row (List.getD (Nd.ki a) b QlU)
def QlV(a:Nd):Nat:=LN (Nd.bo a)
def QIj(a:Nd)(b:Nat):List D:=Sm.row (List.getD (Nd.bo a) b (Sm.mk Z0 Z0 [] Z0 QlU QlU))
def QIk(a:Nd):Int:=Nd.de a
def QIl(a:Nd):Int:=Nd.sl a
def QIm(a:Nd):Int:=Nd.ss a
def QIn(a:Nat)(b:Nd):Prop:=(SM a/\(SM (QeU b)/\SM (QH5 b)/\SM (QH6 b)/\SM (QH7 b)/\SM (QH8 b)/\SM (QH9 b)/\SM (QIa b)/\(SM (QlQ b)/\(∀(i:Nat),i<QlQ b->SM (QIc b i))/\True)/\(SM (QlR b)/\(∀(i:Nat),i<QlR b->SM (QIe b i))/\True)/\(SM (QlS b)/\(∀(i:Nat),i<QlS b->SM (QIh b i))/\True)/\(SM (QlT b)/\(∀(i:Nat),i<QlT b->SM (QIi b i))/\True)/\(SM (QlV b)/\(∀(i:Nat),i<QlV b->SM (QIj b i))/\True)/\SM (QIk b)/\SM (QIl b)/\SM (QIm b)/\True)/\True)/\True
def QIo(a:Nd):D:=D.agg (Nd.rowE a)
def QIp(a:Nd)(b:Int):Prop:=isN a [QIo a,ZI b] [ZI b]/\Z0<=b/\b+(NI (szN a))<=100000
def QIq(a:Int)(b:Nd):List (List UInt8):=rlP a (ptN b)
def QIr(a:Int)(b:Nd):Nat:=LN (QIq a b)
def QeW(a:Int)(b:Nd):Nat:=N1+QIr a b
def QeX(a:Int)(b:Nd):Nat:=QeW a b+N1
def QIs(a:Int)(b:Nd)(c:Nat):List D:=[D.str (List.getD (QIq a b) c [])]
def QIt(a:Int)(b:List Int)(c:Nd)(d:Nat):List D:=[D.str (List.getD (rlP a (BR b c)) d [])]
def QSb(a:List Int):D:=SI a
def QeY(a:Int)(b:Nd):Nat:=N0+QIr a b
theorem Bob(n : Nd)(ks : List Int)(lv : Int)(h : RPar n)(h0 : 0<=lv)(h1 : lv+szN n<=100000)(hk : ks.length<=maxLen) :
  ACalls Tryz.prog 46 ((Bg7 n ks lv).args ()) ((Bg7 n ks lv).st ()) (SpecR (Bg7 n ks lv) ()):=by
 refine Bg (A:=Bg7 n ks lv) (x:=()) (E:=Ead n ks) (eOk (BcW h) rfl) Tryz.func46 rfl (by kernel_rfl) rfl (by simp[Bg7,Ead,EC,E0]) ?_
 refine Bi (T :=
  ∀(x:Nat),True->(∃(x_1:Nat),QlP x_1 ks n/\(Z0=(↑x_1:Int)/\True)/\QIn x n)/\∀(x_1:Nat),QlP x_1 ks n->ifB (decide ((↑x_1:Int)<(LI ks))) (SM x/\Bc (Z0<=(↑x_1:Int)/\(↑x_1:Int)<(LI ks)) (ifB (QeU n==GI ks (Int.toNat (↑x_1:Int))) (∀(t:Nat),SM x/\∃(x:Unit),QIp n lv/\∀(y:Unit),True->SM t/\Bc (QeW lv n*16<=140737488355328/\QeW lv n<=9223372036854775807) (∀(t:Nat),SM t/\Bc (QeX lv n*16<=140737488355328/\QeX lv n<=9223372036854775807) (∀(t:Nat),True/\∃(y:Nat),True/\(QeX lv n=LN (rlP lv (BR ks n))/\(∀(i:Nat),i<QeX lv n->BM (QeW lv n) (BM N1 (fun i=>[D.str (List.getD [[(40:UInt8)]] (i-N0) [])]) fun i=>QIs lv n i) (fun i=>[D.str (List.getD [[(41:UInt8)]] i [])]) i=QIt lv ks n i)/\t=y)/\True/\t=y/\True))) ((SM (D.sl N1 N0 (fun x=>[]) Mode.nil)/\SM (QIo n)/\SM (QSb ks)/\SM (ZI lv)/\SM (D.ref N0 x N0)/\True)/\∃(y:Nat),QlP y ks n/\LN ks-y<LN ks-x_1/\(IntKind.wrap IntKind.i64 ((↑x_1:Int)+Z1)=(↑y:Int)/\True)/\QIn x n))) (SM x/\∃(x:Unit),QIp n lv/\∀(y:Unit),True->Bc (QeY lv n*16<=140737488355328/\QeY lv n<=9223372036854775807) (∀(t:Nat),True/\∃(y:Nat),True/\(QeY lv n=LN (rlP lv (BR ks n))/\(∀(i:Nat),i<QeY lv n->BM N0 (fun x=>[]) (fun i=>QIs lv n i) i=QIt lv ks n i)/\t=y)/\True/\t=y/\True))) (by kernel_rfl) ?_
 delta DA GI LI LN N0 N1 N4 NI SI SM Z0 Z1 ZI QeU QlP QH5 QH6 QH7 QH8 QH9 QeV QIa QIb QlQ QIc QId QlR QIe QIf QlS QIg QIh QlT QlU QIi QlV QIj QIk QIl QIm QIn QIo QIp QIq QIr QeW QeX QIs QIt QSb QeY
 try simp only[<- dm]
 try simp only[<- dn]
 simp only[ne_eq,implies_true,Int.toNat_natCast,Bf,Bd,decide_eq_true_eq,decide_eq_false_iff_not,true_and,and_true,beq_iff_eq,beq_eq_false_iff_ne,exists_const,forall_const]
 unfold maxLen at hk
 have hln:=h.2
 have hrl:=ED (ptN n) lv
 refine⟨⟨0,⟨Nat.zero_le _,fun j hj=>absurd hj (by omega)⟩,rfl⟩,fun i ⟨i1,hi⟩=>⟨fun hlt=>⟨⟨by omega,hlt⟩,fun hk1=>?_,fun hk1=>⟨i+1,⟨by omega,fun j hj=>?_⟩,by omega,Ba (by omega) (by omega)⟩⟩,fun hge=>?_⟩⟩
 ·have hc:=Bjd (show i<ks.length by omega) hk1
  have e:rlP lv (BR ks n)=([[40]]++rlP lv (ptN n))++[[41]]:=by rw[Bm0,if_pos hc];simp
  rw[e]
  refine⟨⟨Bl _ _,h0,h1⟩,⟨by omega,by omega⟩,⟨by omega,by omega⟩,fun t2=>⟨t2,⟨by simp only[List.length_append,List.length_cons,List.length_nil]<;>omega,?_,rfl⟩,rfl⟩⟩
  refine C8 (r:=[[41]]) (by simp only[List.length_append,List.length_cons,List.length_nil]<;>omega) (fun i hi=>?_) (fun _ _=>rfl)
  exact C8 (L:=[[40]]) (by simp) (fun _ _=>rfl) (fun _ _=>rfl) i hi
 ·by_cases e':j=i
  ·rw[e'];exact hk1
  ·exact hi j (by omega)
 ·have hc:=Bn6 (k:=n.kd) (ks:=ks) fun j hj=>hi j (by omega)
  rw[Bm0,hc]
  refine⟨⟨Bl _ _,h0,h1⟩,⟨by omega,by omega⟩,fun t2=>⟨t2,⟨by simp,?_,rfl⟩,rfl⟩⟩
  exact C8 (L:=[]) rfl (fun i hi=>absurd hi (Nat.not_lt_zero _)) (fun _ _=>rfl)
theorem Bnw(s : ByteArray)(c : Int)(w : World) :
  Calls Tryz.prog 105 #[.string s,.int .u8 c] w fun e w'=>e=.returned (.int .i64 (Lib.indexByte s.data.toList c.toNat.toUInt8))/\w'=w:=by
 go_enter Tryz.func105,Tryz.ntmps105
 go_wp2
 rw[run_callFunc_extern Tryz.func123 (by kernel_rfl) (by kernel_rfl) (by kernel_rfl) (e:=Extern.BytealgIndexByte.indexByte) (by kernel_rfl),Lib.run_indexByteString]
 simp only[Result.andThen]
 rw[Oper.upon_value]
 go_wp2
 go_ret
 exact⟨rfl,rfl⟩
def ixT(r:List UInt8):Int:=if Iz r<r.length then (Iz r:Int) else -1
theorem BfF:∀r:List UInt8,Lib.indexByte r 32=ixT r
 | []=>rfl
 |b::r=>by
  have ih:=BfF r
  have e:Iz (b::r)=bif b==32 then 0 else Iz r+1:=by unfold Iz;rw[List.findIdx_cons]
  rw[Lib.indexByte,ih]
  unfold ixT
  by_cases hb:b=32
  ·subst hb
   rw[e]
   simp
  ·have hb':(b==32)=false:=by simpa using hb
   rw[hb'] at e
   simp only[cond_false] at e
   rw[e,hb',List.length_cons]
   by_cases h:Iz r<r.length
   ·have h2:((Iz r:Int)==-1)=false:=by rw[beq_eq_false_iff_ne];omega
    rw[if_pos h,if_pos (show Iz r+1<r.length+1 by omega),h2]
    simp
   ·rw[if_neg h,if_neg (show ¬Iz r+1<r.length+1 by omega)]
    simp
theorem Bpo(s:List UInt8):CD 105 [.str s,.int .u8 32] (.int .i64 (ixT s)):=by
 refine ACalls.of_shelf ⟨_,Tryz.func105,by kernel_rfl,by kernel_rfl⟩ fun C args w ha=>?_
 obtain ⟨u,v,e,hu,hv⟩:=IJ ha
 have e2:args=[u,v].toArray:=by rw[<- e]
 subst e2
 simp only[Rep] at hu hv;subst hu hv
 refine (Bnw ⟨s.toArray⟩ 32 w).mono fun e w' ⟨h1,h2⟩=>⟨⟨_,h1,?_⟩,by rw[h2];exact Go.RowKit.Below.refl _ _⟩
 have e:Lib.indexByte s 32=ixT s:=BfF s
 simp[Rep,e]
def Biu:Con:=fun k ds S=>match k with
 |105=>match ds with
  | [.str s,_]=>some (pA ds S (.int .i64 (ixT s)) (wkL ds [.str s,.int .u8 32]))
  |_=>none
 |_=>none
theorem Bje:ConOk Tryz.prog Biu:=by
 intro k ds S A hh
 unfold Biu at hh
 split at hh
 ·split at hh
  ·injection hh with hh;subst hh
   exact Bo fun e=>CD.at_ (CD.wk (Bpo _) e) _
  ·cases hh
 ·cases hh
noncomputable def Esib:Senv:=EC Biu 8 2 [4] (fun _=>([],[]))
theorem Bpn(s:List UInt8):CD 85 [.str s,.int .u8 32] (.int .i64 (ixT s)):=by
 refine Bg (A:=sC _ _) (x:=()) (E:=Esib) (eOk Bje rfl) Tryz.func85 rfl (by kernel_rfl) rfl (by simp[sC,Esib,EC,E0]) ?_
 refine Bi (T :=
  ∃(x:Unit),(SM s/\SM (32:Int)/\True)/\∀(y:Unit),True->RT (SM (ixT s))) (by kernel_rfl) ?_
 delta SM RT
 simp only[eq_self,implies_true,and_true,exists_const]
 all_goals first
  |exact Be _
  |exact⟨Be _,rfl⟩
theorem Bfs:∀r:List UInt8,Iz r<=r.length
 | []=>by simp[Iz]
 |b::r=>by
  have:=Bfs r
  have e:Iz (b::r)=bif b==32 then 0 else Iz r+1:=by unfold Iz;rw[List.findIdx_cons]
  rw[e]
  cases b==32<;>simp<;>omega
def BjO:Con:=fun k ds S=>match k with
 |85=>match ds with
  | [.str s,_]=>some (pA ds S (.int .i64 (ixT s)) (wkL ds [.str s,.int .u8 32]))
  |_=>none
 |_=>none
theorem BkB:ConOk Tryz.prog BjO:=by
 intro k ds S A hh
 unfold BjO at hh
 split at hh
 ·split at hh
  ·injection hh with hh;subst hh
   exact Bo fun e=>CD.at_ (CD.wk (Bpn _) e) _
  ·cases hh
 ·cases hh
structure EdI (s:List UInt8) (q:UInt8) (a x:Nat):Prop where
 lo:a+1<=x
 ok:(x<=s.length/\(x-(a+1))+Gf q (s.drop x)=Gf q (s.drop (a+1)))\/(x=s.length+1/\s.length<=a+1+Gf q (s.drop (a+1)))
noncomputable def Eed(s:List UInt8)(a:Nat):Senv:={ EC BjO 53 2 [4,5,6,15,21,39,45] (fun _=>([],[])) with
 mg:=fun _=>2
 ann:=fun b _ S=>match b with
  |0=>some { slots:=[1],keep:=[0,5],α:=Nat,st:=fun x=>([.int .i64 x],S),inv:=fun x=>EdI s (s.getD a 0) a x,mu:=fun x=>s.length+1-x }
  |_=>none }
def YP(a:List UInt8)(b:Nat):Int:=(BI a (Int.toNat (↑b:Int)))
def QIu(a:Nat)(b:List UInt8):List UInt8:=List.drop (Int.toNat (↑a:Int)) (List.take (TL b) b)
def QIv(a:Nat)(b:List UInt8):Int:=ixT (QIu a b)
def QlW(a:Nat)(b:List UInt8):Int:=(NI (a+TT (List.drop a b)))
def QeZ(a:List UInt8)(b c:Nat):Prop:=EdI a (List.getD a b U0) b c
def Qe0(a:Nat):Int:=IntKind.wrap IntKind.i64 ((↑a:Int)+Z1)
def QIw(a b:Nat):Prop:=(Qe0 a=(↑b:Int)/\True)/\True/\True
def QIx(a:List UInt8)(b:Nat):Prop:=SM (D.str a)/\SM (ZB (YP a b))/\True
def QIy(a:List UInt8)(b c:Nat):Prop:=True/\∃(_y:Unit),True/\(if (LI a)<Qe0 b then (LI a) else Qe0 b)=QlW c a/\True/\True
def QIz(a:List UInt8)(b:Nat):Prop:=(∃(x:Nat),QeZ a b x/\QIw b x)/\∀(x:Nat),QeZ a b x->ifB (decide ((↑x:Int)<(LI a))) (Bc (Z0<=(↑x:Int)/\(↑x:Int)<(LI a)) (ifB (YP a x != YP a b) (Bc (Z0<=(↑x:Int)/\(↑x:Int)<(LI a)) (ifB (YP a x==92) (QIx a b/\∃(y:Nat),QeZ a b y/\LN a+N1-y<LN a+N1-x/\(IntKind.wrap IntKind.i64 (Qe0 x+Z1)=(↑y:Int)/\True)/\True/\True) (QIx a b/\∃(y:Nat),QeZ a b y/\LN a+N1-y<LN a+N1-x/\QIw x y))) (QIy a x b))) (QIy a x b)
theorem Bp1(s:List UInt8)(a:Nat)(ha:a<s.length)(hs:s.length<=100000000000000):CD 59 [.str s,.int .i64 a] (.int .i64 ((a+TT (s.drop a):Nat):Int)):=by
 refine Bg (A:=sC _ _) (x:=()) (E:=Eed s a) (eOk BkB rfl) Tryz.func59 rfl (by kernel_rfl) rfl (by simp[sC,Eed,EC,E0]) ?_
 refine Bi (T :=
  Bc (Z0<=(↑a:Int)/\(↑a:Int)<(LI s)) (ifB (YP s a != (34:Int)) (ifB (YP s a != (39:Int)) (Bc (Z0<=(↑a:Int)/\(↑a:Int)<=(LI s)/\(LI s)<=(LI s)) (∃(x:Unit),(SM (QIu a s)/\SM (32:Int)/\True)/\∀(y:Unit),True->ifB (decide (Z0<=QIv a s)) (RT (IntKind.wrap IntKind.i64 ((↑a:Int)+QIv a s)=QlW a s)) (RT ((LI s)=QlW a s)))) (QIz s a)) (QIz s a))) (by kernel_rfl) ?_
 delta BI LI LN N1 NI SM TL U0 Z0 Z1 ZB YP QIu QIv QlW QeZ Qe0 QIw QIx QIy QIz RT
 simp only[eq_self,ne_eq,Int.toNat_natCast,Bf,Bd,decide_eq_true_eq,decide_eq_false_iff_not,true_and,and_true,beq_iff_eq,bne_iff_ne,bne_eq_false_iff_eq,beq_eq_false_iff_ne,exists_const,forall_const]
 have hd:s.drop a=s.getD a 0::s.drop (a+1):=by
  rw[List.drop_eq_getElem_cons ha,List.getD_eq_getElem?_getD,List.getElem?_eq_getElem ha];rfl
 have dl:(s.drop (a+1)).length=s.length-(a+1):=List.length_drop
 have key:∀(c:UInt8) (n:Nat) (z:Int),n<256->z=n->(((c.toNat:Nat):Int)=z↔c=UInt8.ofNat n):=fun c n z hn hz=>by
  constructor
  ·intro h
   have h:c.toNat=n:=by omega
   rw[<- h]
   exact (UInt8.ofNat_toNat).symm
  ·rintro rfl
   rw[UInt8.toNat_ofNat'];omega
 have k34:(((s.getD a 0).toNat:Nat):Int)=34↔s.getD a 0=34:=key (s.getD a 0) 34 34 (by omega) rfl
 have k39:(((s.getD a 0).toNat:Nat):Int)=39↔s.getD a 0=39:=key (s.getD a 0) 39 39 (by omega) rfl
 refine⟨⟨by omega,by omega⟩,fun n34=>⟨fun n39=>?_,fun q39=>?_⟩,fun q34=>?_⟩
 ·have hc:TT (s.drop a)=Iz (s.drop a):=by
   rw[hd,TT,if_neg]
   rintro (h | h)
   ·exact n34 (k34.2 h)
   ·exact n39 (k39.2 h)
  have hl:=Bfs (s.drop a)
  have dl2:(s.drop a).length=s.length-a:=List.length_drop
  rw[List.take_length,hc]
  unfold ixT
  refine⟨⟨by omega,by omega,by omega⟩,fun h=>?_,fun h=>?_⟩
  ·by_cases hi:Iz (s.drop a)<(s.drop a).length
   ·rw[if_pos hi] at h ⊢
    rw[Ba (by omega) (by omega)];omega
   ·rw[if_neg hi] at h;omega
  ·by_cases hi:Iz (s.drop a)<(s.drop a).length
   ·rw[if_pos hi] at h;omega
   ·omega
 all_goals
  have hq:s.getD a 0=34\/s.getD a 0=39:=by
   first
    |exact .inl (k34.1 q34)
    |exact .inr (k39.1 q39)
  have hc:TT (s.drop a)=min (Gf (s.getD a 0) (s.drop (a+1))+2) (s.length-(a+1)+1):=by
   rw[hd,TT,if_pos hq,dl]
  have h92:(92:UInt8)≠s.getD a 0:=by rcases hq with h | h<;>rw[h]<;>decide
  clear k34 k39
  generalize s.getD a 0=q at *
  rw[hc]
  refine⟨⟨a+1,⟨Nat.le_refl _,.inl ⟨by omega,by rw[Nat.sub_self,Nat.zero_add]⟩⟩,Ba (by omega) (by omega)⟩,fun x hx=>⟨fun hlt=>?_,fun hge=>?_⟩⟩
  ·have hlt':x<s.length:=by omega
   obtain ⟨lo,hok⟩:=hx
   have hok:(x-(a+1))+Gf q (s.drop x)=Gf q (s.drop (a+1)):=by
    rcases hok with h | h
    ·exact h.2
    ·omega
   have hdx:s.drop x=s.getD x 0::s.drop (x+1):=by
    rw[List.drop_eq_getElem_cons hlt',List.getD_eq_getElem?_getD,List.getElem?_eq_getElem hlt'];rfl
   have w1:IntKind.i64.wrap ((x:Int)+1)=((x+1:Nat):Int):=by rw[Ba (by omega) (by omega)];rfl
   have w2:IntKind.i64.wrap (((x+1:Nat):Int)+1)=((x+2:Nat):Int):=by rw[Ba (by omega) (by omega)];rfl
   have kq:(((s.getD x 0).toNat:Nat):Int)=((q.toNat:Nat):Int)↔s.getD x 0=q:=by
    constructor
    ·intro h
     exact UInt8.toNat_inj.1 (by omega)
    ·intro h;rw[h]
   have k92:(((s.getD x 0).toNat:Nat):Int)=92↔s.getD x 0=92:=key (s.getD x 0) 92 92 (by omega) rfl
   rw[w1]
   refine⟨⟨by omega,hlt⟩,fun hne=>⟨⟨by omega,hlt⟩,fun h9=>⟨x+2,⟨by omega,?_⟩,by omega,w2⟩,fun h9=>⟨x+1,⟨by omega,.inl ⟨hlt',?_⟩⟩,by omega,rfl⟩⟩,fun he=>?_⟩
   ·have e92:s.getD x 0=92:=k92.1 h9
    rw[hdx,e92] at hok
    by_cases hl:x+1<s.length
    ·have hd2:s.drop (x+1)=s.getD (x+1) 0::s.drop (x+2):=by
      rw[List.drop_eq_getElem_cons hl,List.getD_eq_getElem?_getD,List.getElem?_eq_getElem hl];rfl
     rw[hd2,IK h92] at hok
     exact .inl ⟨by omega,by omega⟩
    ·rw[List.drop_eq_nil_of_le (show s.length<=x+1 by omega),Gf,if_neg h92] at hok
     exact .inr ⟨by omega,by omega⟩
   ·rw[hdx,Bav (fun h=>hne (kq.2 h)) (fun h=>h9 (k92.2 h))] at hok
    omega
   ·rw[hdx,kq.1 he,Bcu] at hok
    rw[if_neg (by omega)]
    omega
  ·obtain ⟨lo,hok⟩:=hx
   have wx:x<=s.length+1:=by rcases hok with h | h<;>omega
   have w1:IntKind.i64.wrap ((x:Int)+1)=((x+1:Nat):Int):=by rw[Ba (by omega) (by omega)];rfl
   rw[w1,if_pos (by omega)]
   rcases hok with ⟨h1,h2⟩ | ⟨h1,h2⟩
   ·rw[List.drop_eq_nil_of_le (show s.length<=x by omega),Gf] at h2
    omega
   ·omega
def BjK(n:Nd):Con:=fun k ds S=>match k with
 |59=>match ds with
  | [.str s,.int .i64 a]=>some (pA ds S (.int .i64 ((a.toNat+TT (s.drop a.toNat):Nat):Int)) (0<=a/\a<s.length/\s.length<=100000000000000))
  |_=>none
 |58=>some (pA ds S (.str (Eq n)) (isN n ds []))
 |_=>none
theorem Bkk{n:Nd}(ho:n.ok)(hn:n.sm):ConOk Tryz.prog (BjK n):=by
 intro k ds S A hh
 unfold BjK at hh
 split at hh
 ·split at hh
  ·rename_i s a
   injection hh with hh;subst hh
   refine Bo fun ⟨h0,h1,h2⟩=>CD.at_ ?_ _
   have e:a=((a.toNat:Nat):Int):=by omega
   have:=Bp1 s a.toNat (by omega) h2
   rw[<- e] at this
   exact this
  ·cases hh
 ·injection hh with hh;subst hh
  exact Bo fun e=>CD.at_ (CD.wk (BoS n ho hn) e) _
 ·cases hh
def ptX(n:Nd):List (List UInt8):=(ptN n).map prT
structure PpI (X:List (List UInt8)) (T:List UInt8) (a:Int) (out:List (List UInt8)):Prop where
 ok:∃k,k<=X.length/\out=X.take k/\((k<X.length/\a=(T.length-(Lib.join (X.drop k) [32]).length:Nat)/\T.drop a.toNat=Lib.join (X.drop k) [32]/\a<T.length)\/(k=X.length/\a=T.length+1))
noncomputable def Epp(n:Nd):Senv:={ EC (BjK n) 27 7 [12] (fun _=>([],[])) with
 mg:=fun _=>2
 gh:=fun b=>match b with
  |0=>[.slot 3]
  |_=>[]
 ann:=fun b _ S=>match b with
  |0=>some { slots:=[5,3],keep:=[0,1,4],α:=Int×Nat×List (List UInt8),st:=fun y=>([.int .i64 y.1,ssl y.2.2 (.tok 0 y.2.1)],⟨S.objs,[(0,y.2.1)]⟩),inv:=fun y=>PpI (ptX n) (Bt n) y.1 y.2.2,mu:=fun y=>(Bt n).length+1-y.1.toNat }
  |_=>none }
def QIA(a:Nd):Int:=Nd.kd a
def QIB(a:Nd):Int:=Nd.at_ a
def QIC(a:Nd):Int:=Nd.cl a
def QID(a:Nd):List UInt8:=Nd.tx a
def QIE(a:Nd):Int:=Nd.pr a
def QIF(a:Nd):Int:=Nd.op a
def Qe1(a:Nd):Arr:=Nd.va a
def QIG(a:Nd):Int:=Arr.k (Qe1 a)
def QIH(a:Nd):List Int:=Arr.sh (Qe1 a)
def QlX(a:Nd):Nat:=LN (QIH a)
def QII(a:Nd)(b:Nat):List D:=[ZI (GI (QIH a) b)]
def QIJ(a:Nd):List Int:=Arr.nu (Qe1 a)
def QlY(a:Nd):Nat:=LN (QIJ a)
def QIK(a:Nd)(b:Nat):List D:=[ZI (GI (QIJ a) b)]
def QIL(a:Nd):List Arr:=Arr.it (Qe1 a)
def QlZ(a:Nd):Nat:=LN (QIL a)
def QIM:Arr:=DA
def QIN(a:Nd)(b:Nat):List D:=Arr.row (List.getD (QIL a) b QIM)
def Ql0(a:Nd):Nat:=LN (Nd.ki a)
def Ql1:Nd:=Nd.mk Z0 Z0 Z0 [] Z0 Z0 QIM [] [] Z0 Z0 Z0
def QIO(a:Nd)(b:Nat):List D:=Nd.row (List.getD (Nd.ki a) b Ql1)
def Ql2(a:Nd):Nat:=LN (Nd.bo a)
def QIP(a:Nd)(b:Nat):List D:=Sm.row (List.getD (Nd.bo a) b (Sm.mk Z0 Z0 [] Z0 Ql1 Ql1))
def QIQ(a:Nd):Int:=Nd.de a
def QIR(a:Nd):Int:=Nd.sl a
def QIS(a:Nd):Int:=Nd.ss a
def QIT(a:Nd):D:=D.agg (Nd.rowE a)
def Ql3(a:Nd):List (List UInt8):=ptX a
def Ql4(a:Nd)(b:Int)(c:List (List UInt8)):Prop:=PpI (Ql3 a) (Bt a) b c
def Qe2(a:List (List UInt8))(b:Nat):List D:=[D.str (List.getD a b [])]
def QIU(a:Nat)(b:Nd)(c d:Nat):Prop:=(SM a/\(SM (QIA b)/\SM (QIB b)/\SM (QIC b)/\SM (QID b)/\SM (QIE b)/\SM (QIF b)/\SM (QIG b)/\(SM (QlX b)/\(∀(i:Nat),i<QlX b->SM (QII b i))/\True)/\(SM (QlY b)/\(∀(i:Nat),i<QlY b->SM (QIK b i))/\True)/\(SM (QlZ b)/\(∀(i:Nat),i<QlZ b->SM (QIN b i))/\True)/\(SM (Ql0 b)/\(∀(i:Nat),i<Ql0 b->SM (QIO b i))/\True)/\(SM (Ql2 b)/\(∀(i:Nat),i<Ql2 b->SM (QIP b i))/\True)/\SM (QIQ b)/\SM (QIR b)/\SM (QIS b)/\True)/\True)/\c=d/\True
def HQ(a:Nd):List UInt8:=Eq a
def Ql5(a:Nd):Int:=(LI (HQ a))
def Qe3(a:Int)(b:Nd):Int:=(NI (Int.toNat a+TT (List.drop (Int.toNat a) (HQ b))))
theorem Bqg(n:Nd)(hv:BU n=0)(ho:n.ok)(hn:n.sm):CD 34 [.agg n.row1] (ssl (ptX n) .any):=by
 refine Bg (A:=sC _ _) (x:=()) (E:=Epp n) (eOk (Bkk ho hn) rfl) Tryz.func34 rfl (by kernel_rfl) rfl (by simp[sC,Epp,EC,E0]) ?_
 refine Bi (T :=
  ∀(x:Nat),True->SM x/\∃(x_1:Unit),isN n [QIT n] []/\∀(y:Unit),True->∀(t:Nat),(∃(x_2:Int×Nat×List (List UInt8)),Ql4 n x_2.1 x_2.2.2/\(Z0=x_2.1/\(N0=LN x_2.2.2/\(∀(i:Nat),i<N0->Cv (List D) [] (Qe2 x_2.2.2 i))/\t=x_2.2.1)/\True)/\QIU x n t x_2.2.1)/\∀(x_2:Int×Nat×List (List UInt8)),Ql4 n x_2.1 x_2.2.2->ifB (decide (x_2.1<Ql5 n)) (∃(x_3:Unit),(Z0<=x_2.1/\x_2.1<Ql5 n/\LN (HQ n)<=100000000000000)/\∀(y:Unit),True->Bc (Z0<=x_2.1/\x_2.1<=Qe3 x_2.1 n/\Qe3 x_2.1 n<=Ql5 n) (SM x_2.2.1/\Bc ((LN x_2.2.2+N1)*16<=140737488355328/\LN x_2.2.2+N1<=9223372036854775807) (∀(t:Nat),(SM (QIT n)/\SM (D.ref N0 x N0)/\SM (D.str (HQ n))/\True)/\∃(y:Int×Nat×List (List UInt8)),Ql4 n y.1 y.2.2/\LN (Bt n)+N1-Int.toNat y.1<LN (Bt n)+N1-Int.toNat x_2.1/\(IntKind.wrap IntKind.i64 (Qe3 x_2.1 n+Z1)=y.1/\(LN x_2.2.2+N1=LN y.2.2/\(∀(i:Nat),i<LN x_2.2.2+N1->BM (LN x_2.2.2) (fun i=>Qe2 x_2.2.2 i) (fun i=>[D.str (List.getD [List.drop (Int.toNat x_2.1) (List.take (Int.toNat (Qe3 x_2.1 n)) (HQ n))] i [])]) i=Qe2 y.2.2 i)/\t=y.2.1)/\True)/\QIU x n t y.2.1))) (True/\∃(y:Unit),True/\(LN x_2.2.2=LN (Ql3 n)/\(∀(i:Nat),i<LN x_2.2.2->Qe2 x_2.2.2 i=[D.str (List.getD (Ql3 n) i [])])/\True)/\True/\True)) (by kernel_rfl) ?_
 delta DA GI LI LN N0 N1 N4 NI SM Z0 Z1 ZI QIA QIB QIC QID QIE QIF Qe1 QIG QIH QlX QII QIJ QlY QIK QIL QlZ QIM QIN Ql0 Ql1 QIO Ql2 QIP QIQ QIR QIS QIT Ql3 Ql4 Qe2 QIU HQ Ql5 Qe3
 try simp only[<- dm]
 try simp only[<- dn]
 simp only[implies_true,Int.toNat_natCast,Bf,Bd,decide_eq_true_eq,decide_eq_false_iff_not,true_and,and_true,exists_const,forall_const,Prod.exists]
 obtain ⟨_,hz,hvn⟩:=BV.1 hv
 have hsN:Eq n=Bt n:=if_pos hv
 obtain ⟨ht,hne⟩:=Ww n hvn
 have hT:Bt n=Lib.join (ptX n) [32]:=ht.symm
 have hln:=Ev n hvn ho
 have hgood:∀x∈ptX n,Bct x:=fun x hx=>by
  obtain ⟨p,hp,rfl⟩:=List.mem_map.1 hx
  have:=okN n hvn ho p hp
  cases p with
  |tx y=>exact this.1
  |op=>exact Mh (by simp[prT]) (by decide) ⟨by decide,by decide⟩
  |cl=>exact Mh (by simp[prT]) (by decide) ⟨by decide,by decide⟩
  |sp=>exact Mh (by simp[prT]) (by decide) ⟨by decide,by decide⟩
 have hX0:0<(ptX n).length:=by unfold ptX;rw[List.length_map];exact List.length_pos_iff.2 hne
 have hXl:(ptX n).length<=(Bt n).length+1:=by
  have h1:=Ud (ptN n)
  have h2:(ptN n).length<=IP (ptN n):=by
   have:∀ps:List Pt,ps.length<=IP ps:=fun ps=>by
    induction ps with
    |nil=>simp
    |cons p r ih =>
     unfold IP at ih ⊢
     rw[List.map_cons,List.sum_cons,List.length_cons]
     omega
   exact this _
  unfold ptX
  rw[List.length_map]
  rw[ht] at h1
  omega
 rw[hsN]
 generalize ptX n=X at *
 generalize Bt n=T at *
 have jcons:∀k,k<X.length->Lib.join (X.drop k) [32]=X.getD k []++(if k+1<X.length then 32::Lib.join (X.drop (k+1)) [32] else []):=fun k hk=>by
  have e:X.drop k=X.getD k []::X.drop (k+1):=by
   rw[List.drop_eq_getElem_cons hk,List.getD_eq_getElem?_getD,List.getElem?_eq_getElem hk];rfl
  rw[e,B7]
  congr 1
  by_cases h:k+1<X.length
  ·rw[if_pos h]
   cases hr:X.drop (k+1) with
   |nil=>have:=congrArg List.length hr;simp at this;omega
   |cons y r=>rw[BbN];rfl
  ·rw[if_neg h,List.drop_eq_nil_of_le (by omega)]
   simp[jT]
 have gx:∀k,k<X.length->Bct (X.getD k []):=fun k hk=>hgood _ (by
  rw[List.getD_eq_getElem?_getD,List.getElem?_eq_getElem hk];exact List.getElem_mem hk)
 have jpos:∀k,k<X.length->0<(Lib.join (X.drop k) [32]).length:=fun k hk=>by
  rw[jcons k hk,List.length_append]
  have:=List.length_pos_iff.2 (gx k hk).1
  omega
 clear ht hne hgood hsN
 refine⟨Bl _ _,fun t=>⟨⟨0,t,[],⟨⟨0,Nat.zero_le _,rfl,.inl ⟨hX0,?_,?_,?_⟩⟩⟩,⟨rfl,rfl,fun i hi=>absurd hi (Nat.not_lt_zero _),rfl⟩,rfl⟩,?_⟩⟩
 ·rw[List.drop_zero,<- hT];omega
 ·rw[List.drop_zero,<- hT];rfl
 ·have:=jpos 0 hX0
  rw[List.drop_zero,<- hT] at this
  omega
 rintro ⟨a,tk,out⟩ ⟨⟨k,hk,hout,hst⟩⟩
 simp only at hk hout hst ⊢
 have hol:out.length=k:=by rw[hout,List.length_take];omega
 refine⟨fun hlt=>?_,fun hge=>?_⟩
 ·obtain ⟨hk1,ha,hdr,_⟩:k<X.length/\a=(T.length-(Lib.join (X.drop k) [32]).length:Nat)/\T.drop a.toNat=Lib.join (X.drop k) [32]/\a<T.length:=by
   rcases hst with h | h
   ·exact h
   ·omega
  obtain ⟨m,rfl⟩:∃m:Nat,a=m:=⟨a.toNat,by omega⟩
  rw[Int.toNat_natCast] at hdr ⊢
  have hj:=jcons k hk1
  have hcut:TT (T.drop m)=(X.getD k []).length:=by
   rw[hdr,hj]
   refine (gx k hk1).2 _ ?_
   split
   ·exact .inr ⟨_,rfl⟩
   ·exact .inl rfl
  have hjl:(Lib.join (X.drop k) [32]).length=T.length-m:=by rw[<- hdr,List.length_drop]
  have hxl:(X.getD k []).length+(if k+1<X.length then 1+(Lib.join (X.drop (k+1)) [32]).length else 0)=T.length-m:=by
   rw[<- hjl,hj,List.length_append]
   split
   ·rw[List.length_cons];omega
   ·rfl
  have hsub:List.drop m (List.take (m+TT (T.drop m)) T)=X.getD k []:=by
   rw[List.drop_take,hcut,hdr,Nat.add_sub_cancel_left,hj]
   exact List.take_left' rfl
  rw[hsub,hcut]
  have wn:IntKind.i64.wrap (((m+(X.getD k []).length:Nat):Int)+1)=((m+(X.getD k []).length+1:Nat):Int):=by
   rw[Ba (by split at hxl<;>omega) (by split at hxl<;>omega)];rfl
  have hxp:=List.length_pos_iff.2 (gx k hk1).1
  refine⟨⟨by omega,by omega,by omega⟩,⟨by omega,by omega,by split at hxl<;>omega⟩,⟨by omega,by omega⟩,fun t2=>⟨((m+(X.getD k []).length+1:Nat):Int),t2,out++[X.getD k []],⟨⟨k+1,hk1,?_,?_⟩⟩,by omega,⟨wn,by simp,fun i hi=>Tn i hi,rfl⟩,rfl⟩⟩
  ·rw[hout,List.take_add_one,List.getElem?_eq_getElem hk1,List.getD_eq_getElem?_getD,List.getElem?_eq_getElem hk1];rfl
  ·by_cases h1:k+1<X.length
   ·rw[if_pos h1] at hxl
    have hp:=jpos (k+1) h1
    refine .inl ⟨h1,by omega,?_,by omega⟩
    rw[Int.toNat_natCast]
    have e:T.drop (m+(X.getD k []).length+1)=(T.drop m).drop ((X.getD k []).length+1):=by rw[List.drop_drop];congr 1
    rw[e,hdr,hj,if_pos h1,List.drop_append]
    simp
   ·rw[if_neg h1] at hxl
    exact .inr ⟨by omega,by omega⟩
 ·have hkl:k=X.length:=by
   rcases hst with h | h
   ·exact absurd h.2.2.2 hge
   ·exact h.1
  rw[hkl,List.take_length] at hout
  rw[hout]
  exact⟨rfl,fun _ _=>rfl⟩
theorem BpS:liesAt Tryz.prog Tryz.prog.depth 52 (4 / Tryz.prog.cellsOf 52) 0 50 1=true:=by kernel_rfl
theorem Bhk(b : Nat)(w : World)(h0 : w.cell? ⟨b, 0, none⟩=some (.pointer none))(hsh : w.shape? b=some (52, 4))(hfz : w.frozen? ⟨b, 0, none⟩=false) :
  Calls Tryz.prog 40 #[.pointer (some ⟨b,0,none⟩)] w fun e w'=>e=.returned (.tuple #[])/\w'=w.setCell ⟨b,0,none⟩ (.pointer (some ⟨b,0,none⟩)):=by
 obtain ⟨j,hj,hjs⟩:=Blr
 go_enter Tryz.func40,Tryz.ntmps40
 go_wp2
 rw[Lib.run_to_unsafe w ⟨b,0,none⟩ tyB tyU hj (by rw[hjs];decide) hsh (Nat.zero_lt_succ 3)]
 simp only[Result.andThen]
 rw[Oper.upon_value]
 go_wp2
 rw[run_callFunc_extern Tryz.func64 (by kernel_rfl) (by kernel_rfl) (by kernel_rfl) (e:=Extern.AbiNoEscape.same) (by kernel_rfl)]
 rw[Lib.run_noEscape]
 simp only[Result.andThen]
 rw[Oper.upon_value]
 go_wp2
 rw[Lib.run_from_unsafe w ⟨b,0,none⟩ tyU tyB hj hsh BpS]
 simp only[Result.andThen]
 rw[Oper.upon_value]
 go_wp2
 go_end0
 exact⟨rfl,rfl⟩
def sCx(k x E:Nat)(d:D)(ds:List D):FnSpec where
 β:=Unit
 α:=Unit
 args:=fun _=>[.ref k x 0]
 st:=fun _=>⟨[(k,x,.bldx 52 E d ds)],[]⟩
 pre:=fun _=>True
 post:=fun _ _=>True
 res:=fun _ _=>.ret (.tup [])
 out:=fun _ _=>⟨[(k,x,.bldx 52 E d ds)],[]⟩
theorem Bo4(k x E:Nat)(d:D)(ds:List D)(hds:ds.length=2):ACalls Tryz.prog 40 ((sCx k x E d ds).args ()) ((sCx k x E d ds).st ()) (SpecR (sCx k x E d ds) ()):=by
 refine⟨⟨_,Tryz.func40,by kernel_rfl,by kernel_rfl⟩,fun C F args w ha hs=>?_⟩
 obtain ⟨u,e,hu⟩:=EL ha
 have e2:args=[u].toArray:=by rw[<- e]
 subst e2
 simp only[Rep] at hu
 subst hu
 have hg:BK ((sCx k x E d ds).st ()).objs k=some (x,.bldx 52 E d ds):=by simp[sCx,BK]
 obtain ⟨c1,c2,arr,v0,v1,vs,fz,h1,hl,h2,h3,h4,h5,h6⟩:=hs.obj_of hg
 have hvs:vs.length=2:=(RepL.length h5).trans hds
 have hsz:arr.size=4:=by have:=congrArg List.length hl;simpa[hvs] using this
 have fin:∀w',Sat C (((sCx k x E d ds).st ()).add F) w'->∃C' r S',C.le C'/\Sat C' (S'.add F) w'/\RepEnd C' r (.returned (.tuple #[]))/\SpecR (sCx k x E d ds) () r S':=fun w' h =>
  ⟨C,.ret (.tup []),_,.refl C,h,by simp[RepEnd,Rep,RepL],(),trivial,rfl,rfl⟩
 have hc0:w.cell? ⟨x,0,none⟩=some v0:=by rw[Bs h1,<- Array.getElem?_toList,hl];rfl
 rcases h3 with rfl | rfl
 ·have hsh:w.shape? x=some (52,4):=by simp[World.shape?,h1,hsz]
  have hfz:w.frozen? ⟨x,0,none⟩=false:=Cs h1 h2 (by omega)
  refine (Bhk x w hc0 hsh hfz).mono fun e w' ⟨he,hw⟩=>?_
  subst he hw
  refine fin _ ?_
  have hr:=CN h1 (o:=0) (.pointer (some ⟨x,0,none⟩))
  have:=hs.replace (o':=.bldx 52 E d ds) (w':=w.setCell ⟨x,0,none⟩ (.pointer (some ⟨x,0,none⟩))) hg (by simp) (fun j hj=>Go.RowKit.Below.heap_setCell _ _ _ _ hj) rfl rfl rfl ⟨_,_,v1,vs,fz,hr,by rw[Array.toList_setIfInBounds,hl];rfl,h2.set 0 _,.inr rfl,h4,h5,h6⟩
  simpa[sCx,St.set,Id] using this
 ·refine (Bfn x w hc0).mono fun e w' ⟨he,hw⟩=>?_
  subst he hw
  exact fin _ hs
def BgL:Con:=fun k ds S=>match k with
 |40=>match ds with
  | [.ref k x 0]=>match BK S.objs k with
   |some (y,.bldx T E d ds)=>some ((sCx k x E d ds).fits () (y=x/\T=52/\Tt d=true/\ds.length=2))
   |_=>none
  |_=>none
 |_=>none
theorem Bb8:ConOk Tryz.prog BgL:=by
 intro k ds S A h
 unfold BgL at h
 split at h
 ·split at h
  ·rename_i k x
   split at h
   ·rename_i y T E d ds hg
    injection h with h;subst h
    refine⟨fun _ hp=>Bo4 k x E d ds hp.1.2.2.2,fun _ _ hy=>?_,fun h=>nomatch h⟩
    obtain ⟨⟨rfl,rfl,ht,_⟩,_⟩:=hy
    refine⟨⟨by simp[Bn,chk],trivial⟩,Bb.2 ⟨rfl,?_,trivial⟩⟩
    simp only[FnSpec.fits,sCx,leO,hg]
    exact⟨trivial,Bb.2 ⟨by simp[ht],Bp _,Bk _⟩,trivial⟩
   ·cases h
  ·cases h
 ·cases h
def sXs(e1:List UInt8)(e2:Int)(f:List UInt8)(E x t:Nat)(l:List UInt8)(r:AEnd)(ar:List D):FnSpec where
 β:=Unit
 α:=Nat
 args:=fun _=>.ref 0 x 0::ar
 st:=fun _=>⟨[(0,x,.bldx 52 E (bsl l (.tok 0 t)) [.str e1,.int .i64 e2])],[(0,t)]⟩
 pre:=fun _=>True
 post:=fun _ _=>True
 res:=fun _ _=>r
 out:=fun _ t'=>⟨[(0,x,.bldx 52 E (bsl (l++f) (.tok 0 t')) [.str e1,.int .i64 e2])],[(0,t')]⟩
noncomputable def Exws:Senv:={ EC BgL 19 2 [4,5] (fun _=>([],[])) with own:=fun t=>Nat.beq t 48 }
theorem Bor(e1 : List UInt8)(e2 : Int)(x t : Nat)(l s : List UInt8)(hl : l.length+s.length<=140737488355328) :
  ACalls Tryz.prog 35 ((sXs e1 e2 s 5 x t l (.ret (.tup [.int .i64 s.length,.nili])) [.str s]).args ()) ((sXs e1 e2 s 5 x t l (.ret (.tup [.int .i64 s.length,.nili])) [.str s]).st ()) (SpecR (sXs e1 e2 s 5 x t l (.ret (.tup [.int .i64 s.length,.nili])) [.str s]) ()):=by
 refine Bg (A:=sXs e1 e2 s 5 x t l (.ret (.tup [.int .i64 s.length,.nili])) [.str s]) (x:=()) (E:=Exws) (eOk Bb8 rfl) Tryz.func35 rfl (by kernel_rfl) rfl (by simp[sXs,Exws,EC,E0]) ?_
 refine Bi (T :=
  ((SM x/\SM (52:Nat)/\SM true/\SM N2)/\True)/\∀(y:Unit),True->SM x/\SM t/\Bc ((LN l+LN s)*N1<=140737488355328/\LN l+LN s<=9223372036854775807) (∀(t1:Nat),(t % (1000003:Nat)=N6->t1 % (1000003:Nat)=N6)->SM x/\(t % (1000003:Nat)=N6->t1 % (1000003:Nat)=N6)/\True/\∃(y:Nat),True/\(SM (LI s)/\True/\True)/\(SM x/\((LN l+LN s=LN (l++s)/\(∀(i:Nat),i<LN l+LN s->BM (LN l) (fun i=>[ZB (BI l i)]) (fun i=>[ZB (BI s i)]) i=[ZB (BI (l++s) i)])/\t1=y)/\SM e1/\SM e2/\True)/\True)/\t1=y/\True)) (by kernel_rfl) ?_
 delta BI LI LN N1 N2 N6 SM U0 ZB
 refine⟨⟨⟨rfl,rfl,rfl,rfl⟩,trivial⟩,fun _ _=>⟨rfl,rfl,?_⟩⟩
 rw[Bd]
 refine⟨by omega,fun t1 ht=>⟨rfl,ht,trivial,t1,?_⟩⟩
 repeat' (first | exact trivial | exact rfl | exact IZ rfl (fun _ _=>rfl) (fun _ _=>rfl) | exact List.length_append.symm | refine And.intro ?_ ?_)
noncomputable def Exwb:Senv:={ EC BgL 17 2 [4] (fun _=>([],[])) with own:=fun t=>Nat.beq t 48 }
theorem BoY(e1 : List UInt8)(e2 : Int)(x t : Nat)(l : List UInt8)(b : UInt8)(hl : l.length+1<=140737488355328) :
  ACalls Tryz.prog 19 ((sXs e1 e2 [b] 5 x t l (.ret .nili) [.int .u8 (b.toNat:Int)]).args ()) ((sXs e1 e2 [b] 5 x t l (.ret .nili) [.int .u8 (b.toNat:Int)]).st ()) (SpecR (sXs e1 e2 [b] 5 x t l (.ret .nili) [.int .u8 (b.toNat:Int)]) ()):=by
 refine Bg (A:=sXs e1 e2 [b] 5 x t l (.ret .nili) [.int .u8 (b.toNat:Int)]) (x:=()) (E:=Exwb) (eOk Bb8 rfl) Tryz.func19 rfl (by kernel_rfl) rfl (by simp[sXs,Exwb,EC,E0]) ?_
 refine Bi (T :=
  ((SM x/\SM (52:Nat)/\SM true/\SM N2)/\True)/\∀(y:Unit),True->SM x/\SM t/\Bc ((LN l+N1)*N1<=140737488355328/\LN l+N1<=9223372036854775807) (∀(t1:Nat),(t % (1000003:Nat)=N6->t1 % (1000003:Nat)=N6)->SM x/\(t % (1000003:Nat)=N6->t1 % (1000003:Nat)=N6)/\True/\∃(y:Nat),True/\True/\(SM x/\((LN l+N1=LN (l++[b])/\(∀(i:Nat),i<LN l+N1->BM (LN l) (fun i=>[ZB (BI l i)]) (fun i=>List.getD [[ZB (NI (UInt8.toNat b))]] i []) i=[ZB (BI (l++[b]) i)])/\t1=y)/\SM e1/\SM e2/\True)/\True)/\t1=y/\True)) (by kernel_rfl) ?_
 delta BI LN N1 N2 N6 NI SM U0 ZB
 refine⟨⟨⟨rfl,rfl,rfl,rfl⟩,trivial⟩,fun _ _=>⟨rfl,rfl,?_⟩⟩
 rw[Bd]
 refine⟨by omega,fun t1 ht=>⟨rfl,ht,trivial,t1,?_⟩⟩
 repeat' (first | exact trivial | exact rfl | exact Mr rfl (fun _ _=>rfl) rfl | (simp;done) | refine And.intro ?_ ?_)
def sXw(e1:List UInt8)(e2:Int)(f:List UInt8)(k kt x t:Nat)(l:List UInt8)(r:AEnd)(ar:List D):FnSpec where
 β:=Unit
 α:=Nat
 args:=fun _=>.ref k x 0::ar
 st:=fun _=>⟨[(k,x,.bldx 52 5 (bsl l (.tok kt t)) [.str e1,.int .i64 e2])],[(kt,t)]⟩
 pre:=fun _=>True
 post:=fun _ _=>True
 res:=fun _ _=>r
 out:=fun _ t'=>⟨[(k,x,.bldx 52 5 (bsl (l++f) (.tok kt t')) [.str e1,.int .i64 e2])],[(kt,t')]⟩
theorem BnW{g : Nat}{e1 : List UInt8}{e2 : Int}{f : List UInt8}(k kt x t : Nat){l : List UInt8}{r : AEnd}{ar : List D}(h : ACalls Tryz.prog g ((sXs e1 e2 f 5 x t l r ar).args ()) ((sXs e1 e2 f 5 x t l r ar).st ()) (SpecR (sXs e1 e2 f 5 x t l r ar) ())) :
  ACalls Tryz.prog g ((sXw e1 e2 f k kt x t l r ar).args ()) ((sXw e1 e2 f k kt x t l r ar).st ()) (SpecR (sXw e1 e2 f k kt x t l r ar) ()):=by
 refine h.respec (A':=sXw e1 e2 f k kt x t l r ar) (x':=()) ?_ ?_ fun y _=>⟨y,trivial,?_,?_⟩
 ·simp[sXw,sXs,BD,Bn,chk,Bk]
 ·simp[sXw,sXs,BaL,RC,Ba2,GC,BD,Bn,chk,bsl,BG,Tt,kEq]
 ·simp only[sXw,sXs];cases r<;>simp[MO,Bp]
 ·simp[sXw,sXs,BaL,RC,Ba2,GC,BD,Bn,chk,bsl,BG,Tt,kEq]<;>try rfl
theorem Bhy(b g cap cs : Nat)(ar : Array Value)(fz : Nat×Nat)(arr : Array Value)(fg : Nat×Nat)(l : List UInt8)(w : World)(h0 : l≠[])(hn : l.length<=cap)(hcs : l.length<=arr.size)(h63 : l.length<=9223372036854775807)
  (hbk:w.heap[b]? =some (.cells ar cs fz)) (har:ar[1]? =some (.slice (some ⟨g,0,none⟩) l.length cap)) (hg:w.heap[g]? =some (.cells arr 5 fg))
  (hcell:∀j x,l[j]? =some x->w.cell? ⟨g,j,none⟩=some (.int .u8 x.toNat)) :
  Calls Tryz.prog 20 #[.pointer (some ⟨b,0,none⟩)] w fun e w'=>e=.returned (.string ⟨l.toArray⟩)/\w'=w.drew.freeze ⟨g,0,none⟩ l.length:=by
 have hl0:l.length≠0:=by simpa using h0
 have c1:w.drew.cell? ⟨b,1,none⟩=some (.slice (some ⟨g,0,none⟩) l.length cap):=by
  have:w.drew.heap[b]? =some (.cells ar cs fz):=hbk
  rw[Bs this];exact har
 have hSD:(Builtin.unsafeSliceData_ #[48] 81 #[.slice (some ⟨g,0,none⟩) l.length cap]).run Tryz.prog w.drew=.ok (.pointer (some ⟨g,0,none⟩)) w.drew :=
  Lib.run_unsafeSliceData_row _ _ _ _ _ _ (by omega)
 have hUS:(Builtin.unsafeString_ #[81,3] 9 #[.pointer (some ⟨g,0,none⟩),.int .i64 l.length]).run Tryz.prog w.drew=.ok (.string ⟨l.toArray⟩) (w.drew.freeze ⟨g,0,none⟩ l.length):=by
  refine Lib.run_unsafeString_row w.drew 81 3 9 5 Tryz.underlying81 (by kernel_rfl) g arr.size (by have hg':w.drew.heap[g]? =some (.cells arr 5 fg):=hg;simp[World.shape?,hg']) l h0 hcs h63 ?_
  intro j x hx
  have e:w.drew.cell? ⟨g,j,none⟩=some (.int .u8 x.toNat):=hcell j x hx
  have e2:(if j=0 then (⟨g,0,none⟩:Addr) else ⟨g,j,none⟩)=⟨g,j,none⟩:=by split<;>simp_all
  simpa[Addr.add,e2] using e
 have mixed:Tryz.prog.follows .mixedOrders=true:=by kernel_rfl
 go_enter Tryz.func20,Tryz.ntmps20
 go_wp2
 go_region_o
 all_goals (go_wp2;go_ret;exact⟨rfl,rfl⟩)
theorem BiI(b cs : Nat)(ar : Array Value)(fz : Nat×Nat)(w : World)(hbk : w.heap[b]? =some (.cells ar cs fz))(har : ar[1]? =some (.slice none 0 0)) :
  Calls Tryz.prog 20 #[.pointer (some ⟨b,0,none⟩)] w fun e w'=>e=.returned (.string ⟨#[]⟩)/\Go.RowKit.Below w.heap.size w w':=by
 have hUS:∀W,(Builtin.unsafeString_ #[81,3] 9 #[.pointer none,.int .i64 0]).run Tryz.prog W=.ok (.string .empty) W:=fun W=>Lib.run_unsafeString_none W _ _ _ none
 have c1:w.drew.cell? ⟨b,1,none⟩=some (.slice none 0 0):=by
  have:w.drew.heap[b]? =some (.cells ar cs fz):=hbk
  rw[Bs this];exact har
 have hSD:(Builtin.unsafeSliceData_ #[48] 81 #[.slice none 0 0]).run Tryz.prog w.drew=.ok (.pointer none) w.drew:=Lib.run_unsafeSliceData_nil _ _ _ _ _
 have mixed:Tryz.prog.follows .mixedOrders=true:=by kernel_rfl
 go_enter Tryz.func20,Tryz.ntmps20
 go_wp2
 go_region_o
 all_goals (go_wp2;go_ret;exact⟨rfl,Go.RowKit.Below.drew (Go.RowKit.Below.refl _ w)⟩)
theorem BgU(b g cap cs : Nat)(ar : Array Value)(fz : Nat×Nat)(w : World)(hc0 : cap≠0)(hbk : w.heap[b]? =some (.cells ar cs fz))(har : ar[1]? =some (.slice (some ⟨g, 0, none⟩) 0 cap)) :
  Calls Tryz.prog 20 #[.pointer (some ⟨b,0,none⟩)] w fun e w'=>e=.returned (.string ⟨#[]⟩)/\Go.RowKit.Below w.heap.size w w':=by
 have hUS:∀W,(Builtin.unsafeString_ #[81,3] 9 #[.pointer (some ⟨g,0,none⟩),.int .i64 0]).run Tryz.prog W=.ok (.string .empty) W:=fun W=>Lib.run_unsafeString_none W _ _ _ _
 have c1:w.drew.cell? ⟨b,1,none⟩=some (.slice (some ⟨g,0,none⟩) 0 cap):=by
  have:w.drew.heap[b]? =some (.cells ar cs fz):=hbk
  rw[Bs this];exact har
 have hSD:(Builtin.unsafeSliceData_ #[48] 81 #[.slice (some ⟨g,0,none⟩) 0 cap]).run Tryz.prog w.drew=.ok (.pointer (some ⟨g,0,none⟩)) w.drew :=
  Lib.run_unsafeSliceData_row _ _ _ _ _ _ hc0
 clear hc0
 have mixed:Tryz.prog.follows .mixedOrders=true:=by kernel_rfl
 go_enter Tryz.func20,Tryz.ntmps20
 go_wp2
 go_region_o
 all_goals (go_wp2;go_ret;exact⟨rfl,Go.RowKit.Below.drew (Go.RowKit.Below.refl _ w)⟩)
theorem BcZ(b g cs : Nat)(ar : Array Value)(fz fg : Nat×Nat)(arr : Array Value)(E : Nat)(w : World)(hg : w.heap[g]? =some (.cells arr E fg))(hbk : w.heap[b]? =some (.cells ar cs fz))(har : ar[1]? =some (.slice (some ⟨g, 0, none⟩) 0 0)) :
  Calls Tryz.prog 20 #[.pointer (some ⟨b,0,none⟩)] w fun e w'=>e=.returned (.string ⟨#[]⟩)/\Go.RowKit.Below w.heap.size w w':=by
 have hUS:∀W q,(Builtin.unsafeString_ #[81,3] 9 #[.pointer q,.int .i64 0]).run Tryz.prog W=.ok (.string .empty) W:=fun W q=>Lib.run_unsafeString_none W _ _ _ q
 have hb:b<w.heap.size:=(Array.getElem?_eq_some_iff.1 hbk).1
 have c1:w.drew.cell? ⟨b,1,none⟩=some (.slice (some ⟨g,0,none⟩) 0 0):=by
  have:w.drew.heap[b]? =some (.cells ar cs fz):=hbk
  rw[Bs this];exact har
 have c0:w.cell? ⟨b,1,none⟩=some (.slice (some ⟨g,0,none⟩) 0 0):=c1
 have hSD:(Builtin.unsafeSliceData_ #[48] 81 #[.slice (some ⟨g,0,none⟩) 0 0]).run Tryz.prog w.drew=.ok (.pointer (some ⟨w.drew.heap.size,0,none⟩)) (w.drew.alloc (.view ⟨g,0,none⟩ 5)) :=
  Lib.run_unsafeSliceData_zero _ _ _ _ Tryz.underlying81 _ _ (E,arr.size) (by have hg':w.drew.heap[g]? =some (.cells arr E fg):=hg;simp[World.shape?,hg'])
 have hSD0:(Builtin.unsafeSliceData_ #[48] 81 #[.slice (some ⟨g,0,none⟩) 0 0]).run Tryz.prog w=.ok (.pointer (some ⟨w.heap.size,0,none⟩)) (w.alloc (.view ⟨g,0,none⟩ 5)) :=
  Lib.run_unsafeSliceData_zero _ _ _ _ Tryz.underlying81 _ _ (E,arr.size) (by simp[World.shape?,hg])
 have c2:(w.drew.alloc (.view ⟨g,0,none⟩ 5)).cell? ⟨b,1,none⟩=some (.slice (some ⟨g,0,none⟩) 0 0):=by
  rw[World.cell?_alloc_lt _ _ _ hb];exact c1
 have c3:(w.alloc (.view ⟨g,0,none⟩ 5)).drew.cell? ⟨b,1,none⟩=some (.slice (some ⟨g,0,none⟩) 0 0):=c2
 have mixed:Tryz.prog.follows .mixedOrders=true:=by kernel_rfl
 go_enter Tryz.func20,Tryz.ntmps20
 go_wp2
 go_region_o
 all_goals (go_wp2;go_ret;exact⟨rfl,(Go.RowKit.Below.drew (Go.RowKit.Below.refl _ w)).alloc (Nat.le_refl _) _⟩)
def sXt(ds:List D)(k kt x t:Nat)(l:List UInt8):FnSpec where
 β:=Unit
 α:=Unit
 args:=fun _=>[.ref k x 0]
 st:=fun _=>⟨[(k,x,.bldx 52 5 (bsl l (.tok kt t)) ds)],[(kt,t)]⟩
 pre:=fun _=>True
 post:=fun _ _=>True
 res:=fun _ _=>.ret (.str l)
 out:=fun _ _=>⟨[],[]⟩
theorem Bmr(ds:List D)(k kt x t:Nat)(l:List UInt8)(h63:l.length<=9223372036854775807):ACalls Tryz.prog 20 ((sXt ds k kt x t l).args ()) ((sXt ds k kt x t l).st ()) (SpecR (sXt ds k kt x t l) ()):=by
 refine⟨⟨_,Tryz.func20,by kernel_rfl,by kernel_rfl⟩,fun C F args w ha hs=>?_⟩
 obtain ⟨u,e,hu⟩:=EL ha
 have e2:args=[u].toArray:=by rw[<- e]
 subst e2
 simp only[Rep] at hu
 subst hu
 have hg:BK ((sXt ds k kt x t l).st ()).objs k=some (x,.bldx 52 5 (bsl l (.tok kt t)) ds):=by simp[sXt,BK]
 obtain ⟨c1,c2,arx,v0,v1,vs,fz,h1,hla,h2,h3,h4,_,h5⟩:=hs.obj_of hg
 have h5:ET t=5+1:=h5
 simp only[bsl,Rep] at h4
 obtain ⟨a,len,cap,rfl,hh,hr⟩:=h4
 have har:arx[1]? =some (.slice a len cap):=by rw[<- Array.getElem?_toList,hla];rfl
 have hlen:len=l.length:=hh.1
 subst hlen
 have hF:Sat C F w:=by
  have h:=hs.le (S':=⟨[],[]⟩) ⟨List.nil_sublist _,List.nil_sublist _⟩
  simpa[St.add] using h
 have fin:∀w',Sat C F w'->∃C' r S',C.le C'/\Sat C' (S'.add F) w'/\RepEnd C' r (.returned (.string ⟨l.toArray⟩))/\SpecR (sXt ds k kt x t l) () r S':=fun w' h =>
  ⟨C,.ret (.str l),⟨[],[]⟩,.refl C,h,by simp[RepEnd,Rep],(),trivial,rfl,rfl⟩
 have h6:=hh.2.2.2.2.2
 have hcap:l.length<=cap:=hh.2.1
 simp only at h6
 have hmem:(kt,t)∈(((sXt ds k kt x t l).st ()).add F).toks:=by simp[sXt,St.add]
 obtain ⟨q,q1,q2,q3⟩:=hs.toks (kt,t) hmem
 simp only at q1
 rw[q1] at h6
 cases q with
 |no =>
  simp only at h6
  have ha0:a=none:=h6.2 (by rw[h5];omega)
  subst ha0
  have hl0:=(hh.2.2.2.1 rfl)
  have hl:l=[]:=List.length_eq_zero_iff.1 hl0.1
  subst hl
  obtain rfl:cap=0:=hl0.2
  refine (BiI x _ arx fz w h1 har).mono fun e w' ⟨he,hb⟩=>?_
  subst he
  exact fin w' (hF.kept hb)
 | «at» g n cp wd =>
  obtain ⟨rfl,rfl,rfl,rfl⟩:=h6
  obtain ⟨p1,p2,arr,E,fg,p3,p4,p5,p6⟩:=q2
  have hE:E=5:=Nat.succ.inj ((p6 (by simp only;rw[h5];omega)).trans h5)
  subst hE
  by_cases hl:l=[]
  ·subst hl
   by_cases hc:cp=0
   ·subst hc
    refine (BcZ x g _ arx fz fg arr _ w p3 h1 har).mono fun e w' ⟨he,hb⟩=>?_
    subst he
    exact fin w' (hF.kept hb)
   ·refine (BgU x g cp _ arx fz w hc h1 har).mono fun e w' ⟨he,hb⟩=>?_
    subst he
    exact fin w' (hF.kept hb)
  ·refine (Bhy x g cp _ arx fz arr fg l w hl hcap (by rw[p5];omega) h63 h1 har p3 fun j y hy=>?_).mono fun e w' ⟨he,hw⟩=>?_
   ·have hj:j<l.length:=(List.getElem?_eq_some_iff.1 hy).1
    have hrow:=(hr ⟨g,0,none⟩ rfl j hj).2
    simp only[RepCells] at hrow
    obtain ⟨⟨v,i1,i2⟩,_⟩:=hrow
    simp only[Rep] at i2
    subst i2
    have:=hs.imm _ _ _ i1
    have e:l.getD j 0=y:=by rw[List.getD_eq_getElem?_getD,hy];rfl
    rw[e] at this
    simpa using this
   ·subst he hw
    refine fin _ (U6 hF.drew p1 (fun p hp e=>q3 p (by simp[St.add,hp]) e.symm) fun s hs2 y hy hcl=>?_)
    cases y with
    |no=>exact hcl
    | «at» b' n' c' wd' =>
     have hcl:b'=g:=hcl
     have hnd:=hs.tnodup
     simp only[St.add,sXt,List.cons_append,List.nil_append,List.map_cons,List.nodup_cons] at hnd
     have hne:t≠s.2:=fun e=>hnd.1 (e ▸ List.mem_map_of_mem hs2)
     exact hs.tdist (kt,t) s _ _ _ _ _ _ _ _ hmem (by simp[St.add,hs2]) hne q1 hy hcl.symm
def Or(ts:List (Nat×Nat))(x y T E kt t n:Nat)(g:Nat->List D):Prop:=y=x/\T=52/\E=5/\BfC ts kt t/\Ix n g=true
def BgJ(base:Con):Con:=fun k ds S=>match k with
 |35=>match ds with
  | [.ref k x 0,.str s]=>match BK S.objs k with
   |some (y,.bldx T E (.sl 1 n g (.tok kt t)) [.str e1,.int .i64 e2])=>some ((sXw e1 e2 s k kt x t (bytesOf n g) (.ret (.tup [.int .i64 s.length,.nili])) [.str s]).fits () (Or S.toks x y T E kt t n g/\n+s.length<=140737488355328))
   |_=>none
  |_=>none
 |19=>match ds with
  | [.ref k x 0,.int .u8 z]=>match BK S.objs k with
   |some (y,.bldx T E (.sl 1 n g (.tok kt t)) [.str e1,.int .i64 e2])=>some ((sXw e1 e2 [Cu z] k kt x t (bytesOf n g) (.ret .nili) [.int .u8 z]).fits () (Or S.toks x y T E kt t n g/\(0<=z/\z<=255)/\n+1<=140737488355328))
   |_=>none
  |_=>none
 |20=>match ds with
  | [.ref k x 0]=>match BK S.objs k with
   |some (y,.bldx T E (.sl 1 n g (.tok kt t)) ex)=>some ((sXt ex k kt x t (bytesOf n g)).fits () (Or S.toks x y T E kt t n g/\n<=140737488355328))
   |_=>none
  |_=>none
 |k=>base k ds S
theorem OU{os : List (Nat×Nat×AObj)}{k x y T E n kt t : Nat}{g : Nat -> List D}{ex : List D}(hg : BK os k=some (y, .bldx T E (.sl 1 n g (.tok kt t)) ex))(h1 : y=x)(h2 : T=52)(h3 : E=5)(hr : Ix n g=true) :
  leO [(k,x,.bldx 52 5 (bsl (bytesOf n g) (.tok kt t)) ex)] os:=by
 subst h1 h2 h3
 simp only[leO,hg,GC]
 exact⟨trivial,Bb.2 ⟨by simp[Tt,bsl],BcS hr,Bk _⟩,trivial⟩
theorem Wh{base:Con}(hb:ConOk Tryz.prog base):ConOk Tryz.prog (BgJ base):=by
 intro k ds S A h
 unfold BgJ at h
 split at h
 ·split at h
  ·split at h
   ·rename_i k x s _ y T E n g kt t e1 e2 hg
    injection h with h;subst h
    refine⟨fun _ hy=>BnW k kt x t (Bor e1 e2 x t (bytesOf n g) s (by simpa[bytesOf] using hy.1.2)),fun _ _ hy=>?_,fun h=>nomatch h⟩
    obtain ⟨⟨⟨h1,h2,h3,h4,h5⟩,_⟩,_⟩:=hy
    exact⟨⟨by simp[Bn,chk],by simp[Bn],trivial⟩,Bb.2 ⟨rfl,OU hg h1 h2 h3 h5,Mc h4⟩⟩
   ·cases h
  ·cases h
 ·split at h
  ·split at h
   ·rename_i k x z _ y T E n g kt t e1 e2 hg
    injection h with h;subst h
    refine⟨fun _ hy=>?_,fun _ _ hy=>?_,fun h=>nomatch h⟩
    ·have:=BnW k kt x t (BoY e1 e2 x t (bytesOf n g) (Cu z) (by simpa[bytesOf] using hy.1.2.2))
     rw[M6 hy.1.2.1] at this
     exact this
    ·obtain ⟨⟨⟨h1,h2,h3,h4,h5⟩,_⟩,_⟩:=hy
     exact⟨⟨by simp[Bn,chk],Bp _,trivial⟩,Bb.2 ⟨rfl,OU hg h1 h2 h3 h5,Mc h4⟩⟩
   ·cases h
  ·cases h
 ·split at h
  ·split at h
   ·rename_i k x _ y T E n g kt t ex hg
    injection h with h;subst h
    refine⟨fun _ hy=>Bmr ex k kt x t (bytesOf n g) (by have:=hy.1.2;simp[bytesOf];omega),fun _ _ hy=>?_,fun h=>nomatch h⟩
    obtain ⟨⟨⟨h1,h2,h3,h4,h5⟩,_⟩,_⟩:=hy
    exact⟨⟨by simp[Bn,chk],trivial⟩,Bb.2 ⟨rfl,OU hg h1 h2 h3 h5,Mc h4⟩⟩
   ·cases h
  ·cases h
 ·exact hb _ _ _ _ h
theorem repB(n:Nat):Lib.repeatL [32,32] n=List.replicate (2*n) 32:=by
 induction n with
 |zero=>rfl
 |succ n ih =>
  rw[<- OD,ih,show 2*(n+1)=2*n+2 by omega,<- List.replicate_append_replicate]
  rfl
noncomputable def Epr1:Senv:=EC Eu 5 2 [4] (fun _=>([],[]))
theorem Bp5(a b:List UInt8):CD 16 [.str a,.str b] (.bool true):=by
 refine Bg (A:=sC _ _) (x:=()) (E:=Epr1) (eOk BL rfl) Tryz.func16 rfl (by kernel_rfl) rfl (by simp[sC,Epr1,EC,E0]) ?_
 refine Bi (T :=
  RT (SM true)) (by kernel_rfl) ?_
 delta SM RT
 simp only[eq_self,and_true,exists_const]
 try trivial
noncomputable def Epr2:Senv:=EC BmF 6 1 [2] (fun _=>([],[]))
theorem Bqt(lv:Int)(h0:0<=lv)(h1:lv<=100000):CD 17 [.int .i64 lv] (.str (Gi lv)):=by
 refine Bg (A:=sC _ _) (x:=()) (E:=Epr2) (eOk Bga rfl) Tryz.func17 rfl (by kernel_rfl) rfl (by simp[sC,Epr2,EC,E0]) ?_
 refine Bi (T :=
  (Z0<=lv/\lv<=9223372036854775807/\N2*Int.toNat lv<=140737488355328)/\∀(y:Unit),True->Bc (N1+LN (Lib.repeatL [(32:UInt8),(32:UInt8)] (Int.toNat lv))<=9223372036854775807) (RT ((10:UInt8)::List.append [] (Lib.repeatL [(32:UInt8),(32:UInt8)] (Int.toNat lv))=Gi lv))) (by kernel_rfl) ?_
 delta LN N1 N2 Z0 RT
 simp only[Bd,true_and,and_true,exists_const,forall_const]
 have e:(10::[].append (Lib.repeatL [32,32] lv.toNat):List UInt8)=Gi lv:=by
  rw[repB];rfl
 refine⟨⟨h0,by omega,by omega⟩,?_,e⟩
 rw[repB,List.length_replicate];omega
noncomputable def Ecp2:Senv:=EC Eu 3 1 [2] (fun _=>([],[]))
theorem Bqp(lv:Int):CD 26 [.int .i64 lv] (.str [59]):=by
 refine Bg (A:=sC _ _) (x:=()) (E:=Ecp2) (eOk BL rfl) Tryz.func26 rfl (by kernel_rfl) rfl (by simp[sC,Ecp2,EC,E0]) ?_
 refine Bi (T :=
  RT (SM [(59:UInt8)])) (by kernel_rfl) ?_
 delta SM RT
 simp only[eq_self,and_true,exists_const]
 try trivial
theorem BlJ{p:UInt8->Prop}(h:∀n,n<256->p (UInt8.ofNat n))(c:UInt8):p c:=by
 have:=h c.toNat c.toNat_lt
 rwa [UInt8.ofNat_toNat] at this
noncomputable def Ewo:Senv:=EC Eu 29 1 [2] (fun _=>([],[]))
def Ql6(a:UInt8):Bool:=bif bif bif bif decide ((97:Int)<=(NI (UInt8.toNat a))) then decide ((NI (UInt8.toNat a))<=122) else false then true else bif decide ((65:Int)<=(NI (UInt8.toNat a))) then decide ((NI (UInt8.toNat a))<=90) else false then true else bif decide ((48:Int)<=(NI (UInt8.toNat a))) then decide ((NI (UInt8.toNat a))<=57) else false then true else (NI (UInt8.toNat a))==95
def Ql7(a:UInt8):Prop:=true=Ql6 a/\True
def QIV(a:UInt8):Prop:=((NI (UInt8.toNat a))==95)=Ql6 a/\True
def QIW(a:UInt8):Prop:=ifB (decide ((48:Int)<=(NI (UInt8.toNat a)))) (ifB (decide ((NI (UInt8.toNat a))<=57)) (Ql7 a) (QIV a)) (QIV a)
def QIX(a:UInt8):Prop:=ifB (decide ((65:Int)<=(NI (UInt8.toNat a)))) (ifB (decide ((NI (UInt8.toNat a))<=90)) (Ql7 a) (QIW a)) (QIW a)
theorem Bqu(c:UInt8):CD 25 [.int .u8 (c.toNat:Int)] (.bool (Mj c)):=by
 refine Bg (A:=sC _ _) (x:=()) (E:=Ewo) (eOk BL rfl) Tryz.func25 rfl (by kernel_rfl) rfl (by simp[sC,Ewo,EC,E0]) ?_
 refine Bi (T :=
  ifB (decide ((97:Int)<=(NI (UInt8.toNat c)))) (ifB (decide ((NI (UInt8.toNat c))<=122)) (Ql7 c) (QIX c)) (QIX c)/\RT (Ql6 c=Mj c)) (by kernel_rfl) ?_
 delta NI Ql6 Ql7 QIV QIW QIX RT
 simp only[Bf,decide_eq_true_eq,decide_eq_false_iff_not,true_and,and_true,exists_const]
 refine⟨?_,?_⟩
 ·generalize ((c.toNat:Nat):Int)=z
  repeat' first
   |(intro h;simp only[h])
   |apply And.intro
  all_goals simp[*]
 ·revert c
  refine BlJ ?_
  decide +kernel
def Bk1:Con:=fun k ds S=>match k with
 |25=>match ds with
  | [.int .u8 z]=>some (pA ds S (.bool (Mj (Cu z))) (0<=z/\z<=255))
  |_=>none
 |_=>none
theorem Bjy:ConOk Tryz.prog Bk1:=by
 intro k ds S A hh
 unfold Bk1 at hh
 split at hh
 ·split at hh
  ·rename_i z
   injection hh with hh;subst hh
   refine Bo fun h=>CD.at_ ?_ _
   have:=Bqu (Cu z)
   rw[M6 h] at this
   exact this
  ·cases hh
 ·cases hh
theorem O0(c:UInt8){n:Nat}{z:Int}(hn:n<256)(hz:z=n):(((c.toNat:Nat):Int)=z)↔c=UInt8.ofNat n:=by
 constructor
 ·intro h
  have h:c.toNat=n:=by omega
  rw[<- h]
  exact (UInt8.ofNat_toNat).symm
 ·rintro rfl
  rw[UInt8.toNat_ofNat'];omega
theorem Bdu(c:UInt8):Cu (c.toNat:Int)=c:=by
 unfold Cu
 rw[Int.toNat_natCast,UInt8.ofNat_toNat]
theorem Bgf(c:UInt8):((c.toNat:Nat):Int)<=255:=by
 have:=c.toNat_lt
 omega
noncomputable def Ecp1:Senv:={ EC Bk1 40 2 [4,5,6] (fun id=>match id with | 1=>([0,1,2,3,4,5,6,7,8],[]) | _=>([],[])) with mg:=fun _=>2 }
def Ql8(a:List UInt8):Int:=IntKind.wrap IntKind.i64 ((LI a)-Z1)
def HR(a:List UInt8):Int:=(BI a (Int.toNat (Ql8 a)))
def YQ(a:List UInt8):Int:=(BI a N0)
def Ql9(a b:List UInt8):Prop:=True/\∃(_y:Unit),True/\true=Ea a b/\True/\True
def QIY(a b:List UInt8):Prop:=ifB (HR a==62) (True/\∃(_y:Unit),True/\(YQ b==61)=Ea a b/\True/\True) (True/\∃(_y:Unit),True/\false=Ea a b/\True/\True)
def QIZ(a b:List UInt8):Prop:=ifB (HR a==60) (ifB (YQ b==61) (Ql9 a b) (ifB (YQ b==45) (Ql9 a b) (QIY a b))) (QIY a b)
theorem Bqd(a b:List UInt8)(ha:a≠[])(hb:b≠[])(hal:a.length<=100000000000000):CD 24 [.str a,.str b] (.bool (Ea a b)):=by
 refine Bg (A:=sC _ _) (x:=()) (E:=Ecp1) (eOk Bjy rfl) Tryz.func24 rfl (by kernel_rfl) rfl (by simp[sC,Ecp1,EC,E0]) ?_
 refine Bi (T :=
  Bc (Z0<=Ql8 a/\Ql8 a<(LI a)) (Bc (Z0<=Z0/\Z0<(LI b)) (∃(x:Unit),(Z0<=HR a/\HR a<=255)/\∀(y:Unit),True->ifB (Mj (Cu (HR a))) (∃(x:Unit),(Z0<=YQ b/\YQ b<=255)/\∀(y:Unit),True->ifB (Mj (Cu (YQ b))) (Ql9 a b) (QIZ a b)) (QIZ a b)))) (by kernel_rfl) ?_
 delta BI LI LN N0 U0 Z0 Z1 QIZ Ql8 HR YQ Ql9 QIY
 simp only[ne_eq,Bf,Bd,true_and,and_true,beq_iff_eq,beq_eq_false_iff_ne,exists_const,forall_const]
 have ha0:0<a.length:=List.length_pos_iff.2 ha
 have hb0:0<b.length:=List.length_pos_iff.2 hb
 have e1:IntKind.i64.wrap ((a.length:Int)-1)=((a.length-1:Nat):Int):=by rw[Ba (by omega) (by omega)];omega
 simp only[e1,Int.toNat_natCast,Bdu]
 unfold Ea
 generalize a.getD (a.length-1) 0=x
 generalize b.getD 0 0=y
 have k60:=O0 x (n:=60) (z:=60) (by omega) rfl
 have k62:=O0 x (n:=62) (z:=62) (by omega) rfl
 have k61:=O0 y (n:=61) (z:=61) (by omega) rfl
 have k45:=O0 y (n:=45) (z:=45) (by omega) rfl
 have k61b:(((y.toNat:Nat):Int)==61)=(y==61):=by rw[Bool.eq_iff_iff,beq_iff_eq,beq_iff_eq];exact k61
 have hx:=Bgf x
 have hy:=Bgf y
 refine⟨⟨by omega,by omega⟩,⟨by omega,by omega⟩,⟨by omega,hx⟩,?_⟩
 rw[k60,k62,k61,k45,k61b]
 refine⟨fun h1=>⟨⟨by omega,hy⟩,fun h2=>by simp[h1,h2],fun h2=>?_⟩,fun h1=>?_⟩
 all_goals
  refine⟨fun h3=>⟨fun h4=>?_,fun h4=>⟨fun h5=>?_,fun h5=>⟨fun h6=>?_,fun h6=>?_⟩⟩⟩,fun h3=>⟨fun h6=>?_,fun h6=>?_⟩⟩
  all_goals simp_all
noncomputable def Egp(lv:Int):Senv:={ EC Eu 13 1 [2,3,4,7] (fun _=>([],[])) with
 mg:=fun _=>2
 ann:=fun b _ S=>match b with
  |0=>some { slots:=[4,3],keep:=[0],α:=Nat,st:=fun i=>([.int .i64 i,.str (10::List.replicate (2*i) 32)],S),inv:=fun i=>i<=lv.toNat,mu:=fun i=>lv.toNat-i }
  |_=>none }
def Qe4(a:Nat):List UInt8:=(10:UInt8)::List.replicate (N2*a) (32:UInt8)
theorem Bqb(lv:Int)(h0:0<=lv)(h1:lv<=200000):CD 45 [.int .i64 lv] (.str (Gi lv)):=by
 refine Bg (A:=sC _ _) (x:=()) (E:=Egp lv) (eOk BL rfl) Tryz.func45 rfl (by kernel_rfl) rfl (by simp[sC,Egp,EC,E0]) ?_
 refine Bi (T :=
  (∃(x:Nat),x<=Int.toNat lv/\(Z0=(↑x:Int)/\[(10:UInt8)]=Qe4 x/\True)/\True/\True)/\∀(x:Nat),x<=Int.toNat lv->ifB (decide ((↑x:Int)<lv)) (Bc (LN (Qe4 x)+N2<=9223372036854775807) ((SM (ZI lv)/\True)/\∃(y:Nat),y<=Int.toNat lv/\Int.toNat lv-y<Int.toNat lv-x/\(IntKind.wrap IntKind.i64 ((↑x:Int)+Z1)=(↑y:Int)/\(10:UInt8)::List.append (List.replicate (N2*x) (32:UInt8)) [(32:UInt8),(32:UInt8)]=Qe4 y/\True)/\True/\True)) (RT (Qe4 x=Gi lv))) (by kernel_rfl) ?_
 delta LN N2 SM Z0 Z1 ZI Qe4 RT
 simp only[eq_self,Bf,Bd,decide_eq_true_eq,decide_eq_false_iff_not,true_and,and_true,exists_const]
 refine⟨⟨0,Nat.zero_le _,rfl,rfl⟩,fun x hx=>⟨fun hlt=>⟨?_,x+1,by omega,by omega,Ba (by omega) (by omega),?_⟩,fun hge=>?_⟩⟩
 ·rw[List.length_cons,List.length_replicate];omega
 ·show (10::(List.replicate (2*x) 32++[32,32]):List UInt8)=10::List.replicate (2*(x+1)) 32
  rw[show 2*(x+1)=2*x+2 by omega,<- List.replicate_append_replicate]
  rfl
 ·unfold Gi
  rw[show x=lv.toNat by omega]
noncomputable def Ebk:Senv:=EC Eu 6 1 [2] (fun _=>([],[]))
theorem Bp9(s:List UInt8)(hs:s≠[]):CD 23 [.str s] (.bool (Ub s)):=by
 refine Bg (A:=sC _ _) (x:=()) (E:=Ebk) (eOk BL rfl) Tryz.func23 rfl (by kernel_rfl) rfl (by simp[sC,Ebk,EC,E0]) ?_
 refine Bi (T :=
  Bc (Z0<=Z0/\Z0<(LI s)) (RT (((BI s N0)==10)=Ub s))) (by kernel_rfl) ?_
 delta BI LI LN N0 U0 Z0 RT
 simp only[Bd,true_and,and_true,exists_const]
 have hs0:0<s.length:=List.length_pos_iff.2 hs
 refine⟨⟨by omega,by omega⟩,?_⟩
 unfold Ub
 rw[Bool.eq_iff_iff,beq_iff_eq,beq_iff_eq]
 exact O0 _ (n:=10) (by omega) rfl
noncomputable def Erwd:Senv:=EC Eu 29 1 [2] (fun _=>([],[]))
def Qma(a:UInt8):Bool:=bif bif bif bif decide ((48:Int)<=(NI (UInt8.toNat a))) then decide ((NI (UInt8.toNat a))<=57) else false then true else bif decide ((97:Int)<=(NI (UInt8.toNat a))) then decide ((NI (UInt8.toNat a))<=122) else false then true else bif decide ((65:Int)<=(NI (UInt8.toNat a))) then decide ((NI (UInt8.toNat a))<=90) else false then true else (NI (UInt8.toNat a))==95
def Qmb(a:UInt8):Prop:=true=Qma a/\True
def QI0(a:UInt8):Prop:=((NI (UInt8.toNat a))==95)=Qma a/\True
def QI1(a:UInt8):Prop:=ifB (decide ((65:Int)<=(NI (UInt8.toNat a)))) (ifB (decide ((NI (UInt8.toNat a))<=90)) (Qmb a) (QI0 a)) (QI0 a)
def QI2(a:UInt8):Prop:=ifB (decide ((97:Int)<=(NI (UInt8.toNat a)))) (ifB (decide ((NI (UInt8.toNat a))<=122)) (Qmb a) (QI1 a)) (QI1 a)
theorem Bof(c:UInt8):CD 47 [.int .u8 (c.toNat:Int)] (.bool (Mj c)):=by
 refine Bg (A:=sC _ _) (x:=()) (E:=Erwd) (eOk BL rfl) Tryz.func47 rfl (by kernel_rfl) rfl (by simp[sC,Erwd,EC,E0]) ?_
 refine Bi (T :=
  ifB (decide ((48:Int)<=(NI (UInt8.toNat c)))) (ifB (decide ((NI (UInt8.toNat c))<=57)) (Qmb c) (QI2 c)) (QI2 c)/\RT (Qma c=Mj c)) (by kernel_rfl) ?_
 delta NI Qma Qmb QI0 QI1 QI2 RT
 simp only[Bf,decide_eq_true_eq,decide_eq_false_iff_not,true_and,and_true,exists_const]
 refine⟨?_,?_⟩
 ·generalize ((c.toNat:Nat):Int)=z
  repeat' first
   |(intro h;simp only[h])
   |apply And.intro
  all_goals simp[*]
 ·revert c
  refine BlJ ?_
  decide +kernel
def BeV:Con:=fun k ds S=>match k with
 |47=>match ds with
  | [.int .u8 z]=>some (pA ds S (.bool (Mj (Cu z))) (0<=z/\z<=255))
  |_=>none
 |_=>none
theorem Big:ConOk Tryz.prog BeV:=by
 intro k ds S A hh
 unfold BeV at hh
 split at hh
 ·split at hh
  ·rename_i z
   injection hh with hh;subst hh
   refine Bo fun h=>CD.at_ ?_ _
   have:=Bof (Cu z)
   rw[M6 h] at this
   exact this
  ·cases hh
 ·cases hh
noncomputable def Erne:Senv:={ EC BeV 40 2 [4,5,6] (fun id=>match id with | 1=>([0,1,2,3,4,5,6,7,8],[]) | _=>([],[])) with mg:=fun _=>2 }
def Qmc(a:List UInt8):Int:=IntKind.wrap IntKind.i64 ((LI a)-Z1)
def HS(a:List UInt8):Int:=(BI a (Int.toNat (Qmc a)))
def YR(a:List UInt8):Int:=(BI a N0)
def Qmd(a b:List UInt8):Prop:=True/\∃(_y:Unit),True/\true=Ea a b/\True/\True
def QI3(a b:List UInt8):Prop:=ifB (HS a==62) (True/\∃(_y:Unit),True/\(YR b==61)=Ea a b/\True/\True) (True/\∃(_y:Unit),True/\false=Ea a b/\True/\True)
def QI4(a b:List UInt8):Prop:=ifB (HS a==60) (ifB (YR b==61) (Qmd a b) (ifB (YR b==45) (Qmd a b) (QI3 a b))) (QI3 a b)
theorem Boh(a b:List UInt8)(ha:a≠[])(hb:b≠[])(hal:a.length<=100000000000000):CD 27 [.str a,.str b] (.bool (Ea a b)):=by
 refine Bg (A:=sC _ _) (x:=()) (E:=Erne) (eOk Big rfl) Tryz.func27 rfl (by kernel_rfl) rfl (by simp[sC,Erne,EC,E0]) ?_
 refine Bi (T :=
  Bc (Z0<=Qmc a/\Qmc a<(LI a)) (Bc (Z0<=Z0/\Z0<(LI b)) (∃(x:Unit),(Z0<=HS a/\HS a<=255)/\∀(y:Unit),True->ifB (Mj (Cu (HS a))) (∃(x:Unit),(Z0<=YR b/\YR b<=255)/\∀(y:Unit),True->ifB (Mj (Cu (YR b))) (Qmd a b) (QI4 a b)) (QI4 a b)))) (by kernel_rfl) ?_
 delta BI LI LN N0 U0 Z0 Z1 QI3 QI4 Qmc HS YR Qmd
 simp only[ne_eq,Bf,Bd,true_and,and_true,beq_iff_eq,beq_eq_false_iff_ne,exists_const,forall_const]
 have ha0:0<a.length:=List.length_pos_iff.2 ha
 have hb0:0<b.length:=List.length_pos_iff.2 hb
 have e1:IntKind.i64.wrap ((a.length:Int)-1)=((a.length-1:Nat):Int):=by rw[Ba (by omega) (by omega)];omega
 simp only[e1,Int.toNat_natCast,Bdu]
 unfold Ea
 generalize a.getD (a.length-1) 0=x
 generalize b.getD 0 0=y
 have k60:=O0 x (n:=60) (z:=60) (by omega) rfl
 have k62:=O0 x (n:=62) (z:=62) (by omega) rfl
 have k61:=O0 y (n:=61) (z:=61) (by omega) rfl
 have k45:=O0 y (n:=45) (z:=45) (by omega) rfl
 have k61b:(((y.toNat:Nat):Int)==61)=(y==61):=by rw[Bool.eq_iff_iff,beq_iff_eq,beq_iff_eq];exact k61
 have hx:=Bgf x
 have hy:=Bgf y
 refine⟨⟨by omega,by omega⟩,⟨by omega,by omega⟩,⟨by omega,hx⟩,?_⟩
 rw[k60,k62,k61,k45,k61b]
 refine⟨fun h1=>⟨⟨by omega,hy⟩,fun h2=>by simp[h1,h2],fun h2=>?_⟩,fun h1=>?_⟩
 all_goals
  refine⟨fun h3=>⟨fun h4=>?_,fun h4=>⟨fun h5=>?_,fun h5=>⟨fun h6=>?_,fun h6=>?_⟩⟩⟩,fun h3=>⟨fun h6=>?_,fun h6=>?_⟩⟩
  all_goals simp_all
theorem BnX{p:Pt}(hp:okP p)(l:Int):rlT l p≠[]:=by
 cases p with
 |sp=>exact List.cons_ne_nil _ _
 |_=>exact Bj1 hp
theorem TO{l:List Sm}(h:PrR l)(ho:∀s∈l,s.ok):(ptB l).length<=3400000000000:=by
 have h1:=BfH (ptB l)
 have h2:=Ud (ptB l)
 have h3:=BbT h ho
 omega
theorem Bo9{l:List Sm}(h:PrR l)(ho:∀s∈l,s.ok)(i:Nat)(hi:i<(ptB l).length):((rlP 0 (ptB l)).getD i []).length<=3400000000000:=by
 have hok:=okB h ho
 have s1:=BbK false hok hi
 have o1:=Oo h ho false (i+1) (by omega)
 rw[s1] at o1
 split at o1
 ·simp only[cond_false,List.length_append] at o1;omega
 ·simp only[List.length_append] at o1;omega
def BaV(l:List Sm):Con:=fun k ds S=>match k with
 |21=>some (pA ds S (.int .i64 (B2 l)) (wkL ds [.agg [gsl 34 Sm.row1 l]]))
 |22=>some (pA ds S (ssl (rlP 0 (ptB l)) .any) (wkL ds [gsl 34 Sm.row1 l,.int .i64 0]/\B2 l=0))
 |23=>match ds with
  | [.str s]=>some (pA ds S (.bool (Ub s)) (s≠[]))
  |_=>none
 |27=>match ds with
  | [.str a,.str b]=>some (pA ds S (.bool (Ea a b)) (a≠[]/\b≠[]/\a.length<=100000000000000))
  |_=>none
 |_=>none
theorem Baf{l:List Sm}(hl:l.length<=BC)(ho:∀s∈l,s.ok)(hs:∀s∈l,s.sm)(hb:B2 l=0->CD 22 [gsl 34 Sm.row1 l,.int .i64 0] (ssl (rlP 0 (ptB l)) .any)):ConOk Tryz.prog (BaV l):=by
 intro k ds S A hh
 unfold BaV at hh
 split at hh
 ·injection hh with hh;subst hh
  exact Bo fun e=>CD.at_ (CD.wk (Bol l hl ho hs) e) _
 ·injection hh with hh;subst hh
  exact Bo fun ⟨e,h0⟩=>CD.at_ (CD.wk (hb h0) e) _
 ·split at hh
  ·injection hh with hh;subst hh
   exact Bo fun h=>CD.at_ (Bp9 _ h) _
  ·cases hh
 ·split at hh
  ·injection hh with hh;subst hh
   exact Bo fun ⟨h0,h1,h2⟩=>CD.at_ (Boh _ _ h0 h1 h2) _
  ·cases hh
 ·cases hh
noncomputable def Erpi(l:List Sm):Senv:={ EC (BaV l) 53 6 [14,21,42] (fun _=>([],[])) with
 mg:=fun _=>2
 ann:=fun b _ S=>match b with
  |0=>some { slots:=[5,4],keep:=[0,1,3],α:=Nat,st:=fun i=>([.int .i64 i,.str (wrF false ((ptB l).take i)).1],S),inv:=fun i=>i<=(ptB l).length,mu:=fun i=>(ptB l).length-i }
  |_=>none }
def Qme:Arr:=DA
def Qe5:Nd:=Nd.mk Z0 Z0 Z0 [] Z0 Z0 Qme [] [] Z0 Z0 Z0
def Qmf:Sm:=Sm.mk Z0 Z0 [] Z0 Qe5 Qe5
def YS(a:List Sm)(b:Nat):Sm:=List.getD a b Qmf
def QJb(a:List Sm)(b:Nat):List D:=(Sm.row1 (YS a b))
def QJc(a:List Sm):D:=D.sl 34 (LN a) (fun i=>QJb a i) Mode.any
def QJd(a:List Sm):D:=D.agg [QJc a]
def QJe(a:List Sm):List D:=[QJd a]
def QJf(a:List Sm):Prop:=True/\∃(_y:Unit),True/\Cv (List UInt8) [] (Cl a)/\True/\True
def QJg(a:List Sm):List D:=[QJc a,ZI Z0]
def Qe8(a:Nat)(b:List Sm):Prop:=a<=LN (ptB b)
def XA(a:Nat)(b:List Sm):List UInt8:=Prod.fst (wrF false (List.take a (ptB b)))
def Qmg(a:Nat)(b:List Sm):Prop:=(SM a/\((SM (LN b)/\(∀(i:Nat),i<LN b->SM (QJb b i))/\True)/\True)/\True)/\True
def Qe9(a:List Sm):List (List UInt8):=rlP Z0 (ptB a)
def QJh(a:List Sm):Nat:=LN (Qe9 a)
def HT(a:List Sm):Int:=(NI (QJh a))
def HU(a:List Sm)(b:Nat):List UInt8:=List.getD (Qe9 a) (Int.toNat (↑b:Int)) []
def QJi(a:List Sm)(b:Nat):List UInt8:=List.getD (Qe9 a) (Int.toNat (IntKind.wrap IntKind.i64 ((↑b:Int)-Z1))) []
def QJj(a:Nat)(b:List Sm):Nat:=LN (XA a b)
def QJk(a:Nat)(b:List Sm):Nat:=QJj a b+N1
def QJl(a:Nat)(b:List Sm):List UInt8:=XA a b++[32]
def QJm(a:List Sm)(b:Nat):Nat:=LN (HU a b)
def QSg(a:List Sm):D:=D.sl N1 (QJh a) (fun i=>[D.str (List.getD (Qe9 a) i [])]) Mode.any
def QJn(a:List Sm)(b:Nat):Prop:=SM (QJd a)/\SM (D.ref N0 b N0)/\SM (QSg a)/\True
def QJo(a:List Sm)(b c:Nat):Prop:=LN (ptB a)-b<LN (ptB a)-c
def Qmh(a:Nat)(b:List Sm)(c:Nat):Prop:=Bc (Z0<=(↑a:Int)/\(↑a:Int)<HT b) (Bc (QJj a b+QJm b a<=9223372036854775807) (QJn b c/\∃(y:Nat),Qe8 y b/\QJo b y a/\(IntKind.wrap IntKind.i64 ((↑a:Int)+Z1)=(↑y:Int)/\XA a b++HU b a=XA y b/\True)/\Qmg c b))
theorem Bpx(l : List Sm)(hl : l.length<=BC)(ho : ∀s∈l, s.ok)(hs : ∀s∈l, s.sm)(hb : B2 l=0 -> CD 22 [gsl 34 Sm.row1 l, .int .i64 0] (ssl (rlP 0 (ptB l)) .any)) :
  CD 8 [.agg [gsl 34 Sm.row1 l]] (.str (Cl l)):=by
 refine Bg (A:=sC _ _) (x:=()) (E:=Erpi l) (eOk (Baf hl ho hs hb) rfl) Tryz.func8 rfl (by kernel_rfl) rfl (by simp[sC,Erpi,EC,E0]) ?_
 refine Bi (T :=
  ∀(x:Nat),True->SM x/\∃(x_1:Unit),wkL (QJe l) (QJe l)/\∀(y:Unit),True->ifB (B2 l != Z0) (QJf l) (SM x/\ifB ((LI l)==Z0) (QJf l) (SM x/\∃(x_2:Unit),(wkL (QJg l) (QJg l)/\B2 l=Z0)/\∀(y:Unit),True->(∃(x_3:Nat),Qe8 x_3 l/\(Z0=(↑x_3:Int)/\Cv (List UInt8) [] (XA x_3 l)/\True)/\Qmg x l)/\∀(x_3:Nat),Qe8 x_3 l->ifB (decide ((↑x_3:Int)<HT l)) (ifB (decide (Z0<(↑x_3:Int))) (Bc (Z0<=(↑x_3:Int)/\(↑x_3:Int)<HT l) (∃(x_4:Unit),HU l x_3≠[]/\∀(y:Unit),True->ifB (!Ub (HU l x_3)) (Bc (Z0<=IntKind.wrap IntKind.i64 ((↑x_3:Int)-Z1)/\IntKind.wrap IntKind.i64 ((↑x_3:Int)-Z1)<HT l) (∃(x_5:Unit),QJi l x_3≠[]/\∀(y:Unit),True->ifB (!Ub (QJi l x_3)) (Bc (QJk x_3 l<=9223372036854775807) (Bc (Z0<=(↑x_3:Int)/\(↑x_3:Int)<HT l) (Bc (LN (QJl x_3 l)+QJm l x_3<=9223372036854775807) (QJn l x/\∃(y:Nat),Qe8 y l/\QJo l y x_3/\(IntKind.wrap IntKind.i64 ((↑x_3:Int)+Z1)=(↑y:Int)/\QJl x_3 l++HU l x_3=XA y l/\True)/\Qmg x l)))) (Qmh x_3 l x))) (Qmh x_3 l x))) (Qmh x_3 l x)) (Bc (QJk x_3 l<=9223372036854775807) (RT (XA x_3 l++[10]=Cl l)))))) (by kernel_rfl) ?_
 delta DA GI LI LN N0 N1 N4 NI SI SM Z0 Z1 ZI Qme Qe5 Qmf YS QJb QJc QJd QJe QJf QJg Qe8 XA Qmg Qe9 QJh HT HU QJi QJj QJk QJl QJm QSg QJn QJo Qmh RT
 try simp only[<- dm]
 try simp only[<- dn]
 simp only[ne_eq,implies_true,Int.toNat_natCast,Bf,Bd,decide_eq_true_eq,decide_eq_false_iff_not,true_and,and_true,beq_iff_eq,bne_iff_ne,bne_eq_false_iff_eq,beq_eq_false_iff_ne,Bool.not_eq_true',Bool.not_eq_false',exists_const,forall_const]
 refine⟨Be _,fun h=>?_,fun h0=>⟨fun hl0=>?_,fun hl1=>?_⟩⟩
 ·rw[Cl,if_neg fun hh=>h hh.1]
 ·rw[Cl,if_neg fun hh=>hh.2 (List.length_eq_zero_iff.1 (by omega))]
 ·have hpt:(ptB l).length<=3400000000000:=TO (Gz h0) ho
  have hR:=Gz h0
  have hok:=okB hR ho
  have hX:(rlP 0 (ptB l)).length=(ptB l).length:=ED _ _
  have ne:∀j,j<(ptB l).length->¬(rlP 0 (ptB l)).getD j []=[]:=fun j hj=>by
   rw[OO _ _ _ hj]
   exact BnX (ON hok j) _
  refine⟨⟨Be _,h0⟩,⟨0,Nat.zero_le _,rfl,rfl⟩,fun i hi=>⟨fun hlt=>?_,fun hge=>?_⟩⟩
  ·have hi':i<(ptB l).length:=by omega
   have s1:=BbK false hok hi'
   have o1:=Oo hR ho false (i+1) (by omega)
   have o0:=Oo hR ho false i (by omega)
   have ni:=ne i hi'
   have w1:0<(i:Int)->IntKind.i64.wrap ((i:Int)-1)=((i-1:Nat):Int):=fun h=>by rw[Ba (by omega) (by unfold BC at hl;omega)];omega
   have w2:IntKind.i64.wrap ((i:Int)+1)=((i+1:Nat):Int):=Ba (by omega) (by omega)
   rw[w2]
   have nj:0<(i:Int)->¬(rlP 0 (ptB l)).getD (i-1) []=[]:=fun h=>ne (i-1) (by omega)
   generalize hA:(wrF false ((ptB l).take i)).1=A at *
   generalize hB:(wrF false ((ptB l).take (i+1))).1=B at *
   generalize hx:(rlP 0 (ptB l)).getD i []=x at *
   have fin:∀z,z=B->∃y,y<=(ptB l).length/\(ptB l).length-y<(ptB l).length-i/\((i+1:Nat):Int)=(y:Int)/\z=(wrF false ((ptB l).take y)).1:=fun z e=>⟨i+1,by omega,by omega,rfl,by rw[hB];exact e⟩
   have sz:∀y,A++y=B->A.length+y.length<=3400000000000:=fun y e=>by rw[<- List.length_append,e];exact o1
   refine⟨fun hp=>⟨⟨by omega,by omega⟩,ni,fun hb1=>?_,fun hb1=>?_⟩,fun hp=>?_⟩
   ·rw[w1 hp,Int.toNat_natCast]
    generalize hy:(rlP 0 (ptB l)).getD (i-1) []=y at *
    refine⟨⟨by omega,by omega⟩,nj hp,fun hb2=>?_,fun hb2=>?_⟩
    ·have e:A++([32]++x)=B:=by rw[s1,if_neg (by rw[hb1];exact Bool.false_ne_true),if_pos ⟨by omega,hb2,fun h=>nomatch h⟩]
     have:=sz _ e
     rw[List.length_append,List.length_cons,List.length_nil] at this
     refine⟨by omega,⟨by omega,by omega⟩,?_,fin _ (by rw[List.append_assoc];exact e)⟩
     rw[List.length_append,List.length_cons,List.length_nil]
     omega
    ·have e:A++x=B:=by
      rw[s1,if_neg (by rw[hb1];exact Bool.false_ne_true),if_neg (by rintro ⟨_,h,_⟩;rw[hb2] at h;cases h)]
      rfl
     have:=sz _ e
     exact⟨⟨by omega,by omega⟩,by omega,fin _ e⟩
   ·have e:A++x=B:=by rw[s1,if_pos hb1];rfl
    have:=sz _ e
    exact⟨⟨by omega,by omega⟩,by omega,fin _ e⟩
   ·have e:A++x=B:=by
     rw[s1]
     by_cases hb1:Ub x=true
     ·rw[if_pos hb1];rfl
     ·rw[if_neg hb1,if_neg (by rintro ⟨h,_⟩;omega)];rfl
    have:=sz _ e
    exact⟨⟨by omega,by omega⟩,by omega,fin _ e⟩
  ·have hil:i=(ptB l).length:=by omega
   have o0:=Oo hR ho false i (by omega)
   refine⟨by omega,?_⟩
   rw[Cl,if_pos ⟨h0,fun h=>hl1 (by rw[h];rfl)⟩,hil,List.take_length]
noncomputable def Ercm(l:List Sm):Senv:={ EC (BaV l) 57 6 [8,15,22,47] (fun id=>match id with | 10=>([0,1,2,3,4,5,6,7,8,9,10,11,12,13,14,15,16,17,18,19,20,21,22],[8,21]) | _=>([],[])) with
 mg:=fun _=>2
 ann:=fun b _ S=>match b with
  |0=>some { slots:=[5,4],keep:=[0,1,3],α:=Nat,st:=fun i=>([.int .i64 i,.str (wrF true ((ptB l).take i)).1],S),inv:=fun i=>i<=(ptB l).length,mu:=fun i=>(ptB l).length-i }
  |_=>none }
def Qmi:Arr:=DA
def Qfa:Nd:=Nd.mk Z0 Z0 Z0 [] Z0 Z0 Qmi [] [] Z0 Z0 Z0
def Qmj:Sm:=Sm.mk Z0 Z0 [] Z0 Qfa Qfa
def YT(a:List Sm)(b:Nat):Sm:=List.getD a b Qmj
def QJv(a:List Sm)(b:Nat):List D:=(Sm.row1 (YT a b))
def QJw(a:List Sm):D:=D.sl 34 (LN a) (fun i=>QJv a i) Mode.any
def QJx(a:List Sm):D:=D.agg [QJw a]
def QJy(a:List Sm):List D:=[QJx a]
def QJz(a:List Sm):List D:=[QJw a,ZI Z0]
def HV(a:Nat)(b:List Sm):Prop:=a<=LN (ptB b)
def Vk(a:Nat)(b:List Sm):List UInt8:=Prod.fst (wrF true (List.take a (ptB b)))
def Qfd(a:Nat)(b:List Sm):Prop:=(SM a/\((SM (LN b)/\(∀(i:Nat),i<LN b->SM (QJv b i))/\True)/\True)/\True)/\True
def Qfe(a:List Sm):List (List UInt8):=rlP Z0 (ptB a)
def QJA(a:List Sm):Nat:=LN (Qfe a)
def XB(a:List Sm):Int:=(NI (QJA a))
def YU(a:List Sm)(b:Nat):List UInt8:=List.getD (Qfe a) (Int.toNat (↑b:Int)) []
def QJB(a:List Sm)(b:Nat):Prop:=YU a b≠[]
def QJC(a:Nat)(b:List Sm):Nat:=LN (Vk a b)
def QJD(a:Nat)(b:List Sm):Nat:=QJC a b+N1
def QSl(a:List Sm):D:=D.sl N1 (QJA a) (fun i=>[D.str (List.getD (Qfe a) i [])]) Mode.any
def Qmk(a:List Sm)(b:Nat):Prop:=SM (QJx a)/\SM (D.ref N0 b N0)/\SM (QSl a)/\True
def Qml(a:List Sm)(b c:Nat):Prop:=LN (ptB a)-b<LN (ptB a)-c
def Qmm(a b:Nat):Prop:=IntKind.wrap IntKind.i64 ((↑a:Int)+Z1)=(↑b:Int)
def HW(a:Nat):Int:=IntKind.wrap IntKind.i64 ((↑a:Int)-Z1)
def Qff(a:List Sm)(b:Nat):List UInt8:=List.getD (Qfe a) (Int.toNat (HW b)) []
def QJE(a:List Sm)(b:Nat):Prop:=Qff a b≠[]
def QJF(a:Nat)(b:List Sm):List UInt8:=Vk a b++[32]
def QJG(a:List Sm)(b:Nat):Nat:=LN (YU a b)
def Qmn(a:Nat)(b:List Sm)(c:Nat):Prop:=Bc (Z0<=(↑a:Int)/\(↑a:Int)<XB b) (Bc (QJC a b+QJG b a<=9223372036854775807) (Qmk b c/\∃(y:Nat),HV y b/\Qml b y a/\(Qmm a y/\Vk a b++YU b a=Vk y b/\True)/\Qfd c b))
theorem Bot(l : List Sm)(hl : l.length<=BC)(ho : ∀s∈l, s.ok)(hs : ∀s∈l, s.sm)(hb : B2 l=0 -> CD 22 [gsl 34 Sm.row1 l, .int .i64 0] (ssl (rlP 0 (ptB l)) .any)) :
  CD 10 [.agg [gsl 34 Sm.row1 l]] (.str (EM l)):=by
 refine Bg (A:=sC _ _) (x:=()) (E:=Ercm l) (eOk (Baf hl ho hs hb) rfl) Tryz.func10 rfl (by kernel_rfl) rfl (by simp[sC,Ercm,EC,E0]) ?_
 refine Bi (T :=
  ∀(x:Nat),True->SM x/\∃(x_1:Unit),wkL (QJy l) (QJy l)/\∀(y:Unit),True->ifB (B2 l != Z0) (RT (Cv (List UInt8) [] (EM l))) (SM x/\∃(x_2:Unit),(wkL (QJz l) (QJz l)/\B2 l=Z0)/\∀(y:Unit),True->(∃(x_3:Nat),HV x_3 l/\(Z0=(↑x_3:Int)/\Cv (List UInt8) [] (Vk x_3 l)/\True)/\Qfd x l)/\∀(x_3:Nat),HV x_3 l->ifB (decide ((↑x_3:Int)<XB l)) (Bc (Z0<=(↑x_3:Int)/\(↑x_3:Int)<XB l) (∃(x_4:Unit),QJB l x_3/\∀(y:Unit),True->ifB (Ub (YU l x_3)) (Bc (QJD x_3 l<=9223372036854775807) (Qmk l x/\∃(y:Nat),HV y l/\Qml l y x_3/\(Qmm x_3 y/\Vk x_3 l++[59]=Vk y l/\True)/\Qfd x l)) (ifB (decide (Z0<(↑x_3:Int))) (Bc (Z0<=HW x_3/\HW x_3<XB l) (∃(x_5:Unit),QJE l x_3/\∀(y:Unit),True->ifB (!Ub (Qff l x_3)) (Bc (Z0<=HW x_3/\HW x_3<XB l) (Bc (Z0<=(↑x_3:Int)/\(↑x_3:Int)<XB l) (∃(x_6:Unit),(QJE l x_3/\QJB l x_3/\LN (Qff l x_3)<=100000000000000)/\∀(y:Unit),True->ifB (Ea (Qff l x_3) (YU l x_3)) (Bc (QJD x_3 l<=9223372036854775807) (Bc (Z0<=(↑x_3:Int)/\(↑x_3:Int)<XB l) (Bc (LN (QJF x_3 l)+QJG l x_3<=9223372036854775807) (Qmk l x/\∃(y:Nat),HV y l/\Qml l y x_3/\(Qmm x_3 y/\QJF x_3 l++YU l x_3=Vk y l/\True)/\Qfd x l)))) (Qmn x_3 l x)))) (Qmn x_3 l x))) (Qmn x_3 l x)))) (RT (Vk x_3 l=EM l)))) (by kernel_rfl) ?_
 delta DA GI LN N0 N1 N4 NI SI SM Z0 Z1 ZI Qmi Qfa Qmj YT QJv QJw QJx QJy QJz HV Vk Qfd Qfe QJA XB YU QJB QJC QJD QSl Qmk Qml Qmm HW Qff QJE QJF QJG Qmn RT
 try simp only[<- dm]
 try simp only[<- dn]
 simp only[ne_eq,implies_true,Int.toNat_natCast,Bf,Bd,decide_eq_true_eq,decide_eq_false_iff_not,true_and,and_true,bne_iff_ne,bne_eq_false_iff_eq,Bool.not_eq_true',Bool.not_eq_false',exists_const,forall_const]
 refine⟨Be _,fun h=>?_,fun h0=>?_⟩
 ·rw[EM,if_neg h]
 ·have hpt:(ptB l).length<=3400000000000:=TO (Gz h0) ho
  have hR:=Gz h0
  have hok:=okB hR ho
  have hX:(rlP 0 (ptB l)).length=(ptB l).length:=ED _ _
  have ne:∀j,j<(ptB l).length->¬(rlP 0 (ptB l)).getD j []=[]:=fun j hj=>by
   rw[OO _ _ _ hj]
   exact BnX (ON hok j) _
  refine⟨⟨Be _,h0⟩,⟨0,Nat.zero_le _,rfl,rfl⟩,fun i hi=>⟨fun hlt=>?_,fun hge=>?_⟩⟩
  ·have hi':i<(ptB l).length:=by omega
   have s1:=BbK true hok hi'
   have o1:=Oo hR ho true (i+1) (by omega)
   have o0:=Oo hR ho true i (by omega)
   have ni:=ne i hi'
   have w1:0<(i:Int)->IntKind.i64.wrap ((i:Int)-1)=((i-1:Nat):Int):=fun h=>by rw[Ba (by omega) (by unfold BC at hl;omega)];omega
   have w2:IntKind.i64.wrap ((i:Int)+1)=((i+1:Nat):Int):=Ba (by omega) (by omega)
   rw[w2]
   have nj:0<(i:Int)->¬(rlP 0 (ptB l)).getD (i-1) []=[]:=fun h=>ne (i-1) (by omega)
   have lj:0<(i:Int)->((rlP 0 (ptB l)).getD (i-1) []).length<=100000000000000:=fun h=>by
    have:=Bo9 hR ho (i-1) (by omega)
    omega
   generalize hA:(wrF true ((ptB l).take i)).1=A at *
   generalize hB:(wrF true ((ptB l).take (i+1))).1=B at *
   generalize hx:(rlP 0 (ptB l)).getD i []=x at *
   have fin:∀z,z=B->∃y,y<=(ptB l).length/\(ptB l).length-y<(ptB l).length-i/\((i+1:Nat):Int)=(y:Int)/\z=(wrF true ((ptB l).take y)).1:=fun z e=>⟨i+1,by omega,by omega,rfl,by rw[hB];exact e⟩
   have sz:∀y,A++y=B->A.length+y.length<=3400000000000:=fun y e=>by rw[<- List.length_append,e];exact o1
   refine⟨⟨by omega,by omega⟩,ni,fun hb1=>?_,fun hb1=>⟨fun hp=>?_,fun hp=>?_⟩⟩
   ·have e:A++[59]=B:=by rw[s1,if_pos hb1];rfl
    have:=sz _ e
    rw[List.length_cons,List.length_nil] at this
    exact⟨by omega,fin _ e⟩
   ·rw[w1 hp,Int.toNat_natCast]
    generalize hy:(rlP 0 (ptB l)).getD (i-1) []=y at *
    have lj':=lj hp
    refine⟨⟨by omega,by omega⟩,nj hp,fun hb2=>⟨⟨by omega,by omega⟩,⟨by omega,by omega⟩,⟨nj hp,ni,lj'⟩,fun hn=>?_,fun hn=>?_⟩,fun hb2=>?_⟩
    ·have e:A++([32]++x)=B:=by rw[s1,if_neg (by rw[hb1];exact Bool.false_ne_true),if_pos ⟨by omega,hb2,fun _=>hn⟩]
     have:=sz _ e
     rw[List.length_append,List.length_cons,List.length_nil] at this
     refine⟨by omega,⟨by omega,by omega⟩,?_,fin _ (by rw[List.append_assoc];exact e)⟩
     rw[List.length_append,List.length_cons,List.length_nil]
     omega
    ·have e:A++x=B:=by
      rw[s1,if_neg (by rw[hb1];exact Bool.false_ne_true),if_neg (by rintro ⟨_,_,h⟩;rw[hn] at h;cases h rfl)]
      rfl
     have:=sz _ e
     exact⟨⟨by omega,by omega⟩,by omega,fin _ e⟩
    ·have e:A++x=B:=by
      rw[s1,if_neg (by rw[hb1];exact Bool.false_ne_true),if_neg (by rintro ⟨_,h,_⟩;rw[hb2] at h;cases h)]
      rfl
     have:=sz _ e
     exact⟨⟨by omega,by omega⟩,by omega,fin _ e⟩
   ·have e:A++x=B:=by
     rw[s1,if_neg (by rw[hb1];exact Bool.false_ne_true),if_neg (by rintro ⟨h,_⟩;omega)]
     rfl
    have:=sz _ e
    exact⟨⟨by omega,by omega⟩,by omega,fin _ e⟩
  ·have hil:i=(ptB l).length:=by omega
   rw[EM,if_pos h0,hil,List.take_length]
def Tp(p:Nd->Prop)(lv:Int)(m:Nat)(x:Nd×List (List UInt8)):Prop:=p x.1/\0<=lv/\lv+szN x.1<=100000/\m<=maxLen/\x.2.length<=4000000000000
def pAd(p:Nd->Prop)(ds:List D)(S:St)(lv:Int)(m:Nat)(f:Nat->List D)(q:Nd×List (List UInt8)->Prop):FnSpec where
 β:=Nd×List (List UInt8)
 α:=Nat
 args:=fun _=>ds
 st:=fun _=>S
 pre:=fun x=>Tp p lv m x/\q x
 post:=fun _ _=>True
 res:=fun x t'=>.ret (ssl (x.2++rlP lv (BR (Bj m f) x.1)) (.tok 0 t'))
 out:=fun _ t'=>⟨S.objs,[(0,t')]⟩
 all:=true
def BaP(p:Nd->Prop)(base:Con):Con:=fun k ds S=>match k with
 |46=>match ds with
  | [.sl _ _ _ (.tok 0 t),_,.sl 1 m f _,.int .i64 lv]=>match S.toks with
   | [(0,u)]=>some (pAd p ds S lv m f fun x=>u=t/\wkL ds [ssl x.2 (.tok 0 t),.agg x.1.row1,isl (Bj m f) .any,.int .i64 lv])
   |_=>none
  | [.sl _ 0 _ .nil,_,.sl 1 m f _,.int .i64 lv]=>match S.toks with
   | []=>some (pAd p ds S lv m f fun x=>x.2=[]/\wkL ds [.sl 1 0 (fun _=>[]) .nil,.agg x.1.row1,isl (Bj m f) .any,.int .i64 lv])
   |_=>none
  |_=>none
 |k=>base k ds S
theorem Baa{p:Nd->Prop}{base:Con}(h:∀b,p b->RPar b)(hb:ConOk Tryz.prog base):ConOk Tryz.prog (BaP p base):=by
 intro k ds S A hh
 unfold BaP at hh
 split at hh
 ·split at hh
  ·split at hh
   ·rename_i t _ m f _ lv _ u hS
    injection hh with hh;subst hh
    obtain ⟨os,ts⟩:=S
    simp only at hS
    subst hS
    refine⟨fun x hx=>?_,fun x e=>(nomatch e),fun _ _ _=>⟨Bk _,rfl⟩⟩
    obtain ⟨⟨p1,p2,p3,p4,p5⟩,rfl,hw⟩:=hx
    exact (((Bo8 x.2 x.1 (Bj m f) lv u (h _ p1) p2 p3 (by rw[BJ];exact p4) p5).wkArgs hw).frame ⟨os,[]⟩).mono fun _ _ ⟨_,⟨y,_,h2,h3⟩,h4⟩=>⟨y,trivial,h2,by rw[h4,h3];rfl⟩
   ·cases hh
  ·split at hh
   ·rename_i m f _ lv _ hS
    injection hh with hh;subst hh
    obtain ⟨os,ts⟩:=S
    simp only at hS
    subst hS
    refine⟨fun x hx=>?_,fun x e=>(nomatch e),fun _ _ _=>⟨Bk _,rfl⟩⟩
    obtain ⟨⟨p1,p2,p3,p4,p5⟩,e,hw⟩:=hx
    refine (((Bob x.1 (Bj m f) lv (h _ p1) p2 p3 (by rw[BJ];exact p4)).wkArgs hw).frame ⟨os,[]⟩).mono fun _ _ ⟨_,⟨y,_,h2,h3⟩,h4⟩=>⟨y,trivial,?_,by rw[h4,h3];rfl⟩
    rw[h2]
    simp only[pAd,Bg7,e,List.nil_append]
   ·cases hh
  ·cases hh
 ·exact hb _ _ _ _ hh
theorem Bpc{n:Nat}{F:Nat->List D}{L:List (List UInt8)}{m m':Ab.Mode}(hn:n=L.length)(hF:∀i,i<n->F i=[D.str (L.getD i [])])(hm:BG m m'):wkD (.sl 1 n F m) (ssl L m'):=by
 subst hn
 simp only[ssl,wkD]
 exact Bb.2 ⟨by simp,trivial,fun i hi=>by rw[hF i hi];exact Be _,hm⟩
def Beu:Con:=fun k ds S=>match k with
 |45=>match ds with
  | [.int .i64 lv]=>some (pA ds S (.str (Gi lv)) (0<=lv/\lv<=200000))
  |_=>none
 |_=>none
theorem Bhv:ConOk Tryz.prog Beu:=by
 intro k ds S A hh
 unfold Beu at hh
 split at hh
 ·split at hh
  ·injection hh with hh;subst hh
   exact Bo fun ⟨h0,h1⟩=>CD.at_ (Bqb _ h0 h1) _
  ·cases hh
 ·cases hh
def BlB(p:Nd->Prop):Con:=BaP p Beu
theorem Bhd{p:Nd->Prop}(h:∀b,p b->RPar b):ConOk Tryz.prog (BlB p):=by
 exact Baa h Bhv
def Is(lv:Int)(l:List Sm)(i:Nat):List (List UInt8):=rlP lv (ptB (l.take i))
theorem EY{n:Nat}{F:Nat->List D}{L:List (List UInt8)}(hn:n=L.length)(hF:∀i,i<n->F i=[D.str (L.getD i [])])(x:List UInt8):∀i,i<n+1->BM n F (fun i=>[D.str ([x].getD i [])]) i=[D.str ((L++[x]).getD i [])]:=C8 (r:=[x]) hn hF fun _ _=>rfl
theorem Es{p : Nd -> Prop}{lv : Int}{b : Nd}{L : List (List UInt8)}{n : Nat}{F : Nat -> List D}{t m : Nat}{f : Nat -> List D}{md : Ab.Mode}(hp : p b)(h0 : 0<=lv)(h1 : lv+szN b<=100000)(hm : m<=maxLen)(hL : L.length<=4000000000000)(hn : n=L.length)(hF : ∀i, i<n -> F i=[D.str (L.getD i [])])(hI : IntsP m f) :
  Tp p lv m (b,L)/\wkL [.sl 1 n F (.tok 0 t),.agg b.row1,.sl 1 m f md,.int .i64 lv] [ssl L (.tok 0 t),.agg b.row1,isl (Bj m f) .any,.int .i64 lv]:=by
 refine⟨⟨hp,h0,h1,hm,hL⟩,?_⟩
 have h2:=Ck (r:=b.row1) (md:=md) hI
 simp only[wkL] at h2 ⊢
 exact⟨Bpc hn hF rfl,h2.1,h2.2.1,Bh _,trivial⟩
theorem CQ:IntsP 0 (fun _=>[]):=fun i hi=>absurd hi (Nat.not_lt_zero i)
theorem IB(n:Nd):BR (Bj 0 fun _=>[]) n=ptN n:=rfl
theorem T0{lv : Int}{l : List Sm}{i : Nat}{nd : Nd}{L : List (List UInt8)}(hi : i<l.length)(hl : l.length<=BC)(h : L++rlP lv (ptN nd)=Is lv l (i+1)) :
  ∀y:Nat,∃a b:Nat,a<=l.length/\l.length-a<l.length-i/\(IntKind.i64.wrap ((i:Int)+1)=(a:Int)/\(L++rlP lv (BR (Bj 0 fun _=>[]) nd)).length=(Is lv l a).length/\(∀j,j<(L++rlP lv (BR (Bj 0 fun _=>[]) nd)).length->[D.str ((L++rlP lv (BR (Bj 0 fun _=>[]) nd)).getD j [])]=[D.str ((Is lv l a).getD j [])])/\y=b)/\y=b:=by
 intro y
 unfold BC at hl
 rw[IB,h]
 exact⟨i+1,y,hi,by omega,⟨Ba (by omega) (by omega),rfl,fun _ _=>rfl,rfl⟩,rfl⟩
theorem RJ{α β:Type}(f:α->List β)(l:List α)(i:Nat):((l.take i).flatMap f).length<=(l.flatMap f).length:=by
 have e:l.flatMap f=(l.take i).flatMap f++(l.drop i).flatMap f:=by rw[<- List.flatMap_append,List.take_append_drop]
 rw[e,List.length_append]
 omega
theorem Bdv(l:List Sm)(i:Nat):(ptB (l.take i)).length<=(ptB l).length:=by
 cases l with
 |nil=>simp
 |cons x r =>
  cases i with
  |zero=>simp[ptB,ptJ]
  |succ i =>
   have:=RJ (fun y=>Pt.sp::ptM y) r i
   rw[List.take_succ_cons]
   show (ptM x++(List.map ptM (List.take i r)).flatMap fun y=>.sp::y).length<=(ptM x++(List.map ptM r).flatMap fun y=>.sp::y).length
   rw[List.flatMap_map,List.flatMap_map,List.length_append,List.length_append]
   omega
theorem Bd7(lv:Int){l:List Sm}{i:Nat}(h:i<l.length):Is lv l (i+1)=Is lv l i++((if 0<i then [Gi lv] else [])++rlP lv (ptM (l.getD i default))):=by
 have hb:ID (ptJ ((l.take i).map ptM)):=Bpi _
 unfold Is ptB
 rw[Bdz ptM h,EB hb]
 congr 1
 split
 ·rfl
 ·rfl
theorem rlM(lv:Int)(s:Sm):rlP lv (ptM s)=if s.kd=2 then s.nm::[60,45]::rlP lv (ptN s.nd) else if s.kd=3 then rlP lv (ptN s.te)++([58]::rlP lv (ptN s.nd)) else rlP lv (ptN s.nd):=by
 rw[IE]
 split
 ·rfl
 ·split
  ·rw[EB (Wf s.te)]
   rfl
  ·rfl
noncomputable def Erby(p:Nd->Prop)(l:List Sm)(lv:Int):Senv:={ EC (BlB p) 61 2 [4,5,6,10,14,25,41] (fun _=>([],[])) with
 mg:=fun _=>2
 gh:=fun b=>match b with
  |0=>[.slot 5]
  |_=>[]
 ann:=fun b _ S=>match b with
  |0=>some { slots:=[6,5],keep:=[0,1],α:=Nat×Nat,st:=fun y=>([.int .i64 y.1,ssl (Is lv l y.1) (.tok 0 y.2)],⟨S.objs,[(0,y.2)]⟩),inv:=fun y=>y.1<=l.length,mu:=fun y=>l.length-y.1 }
  |_=>none }
def Vl(a:Int)(b:List Sm)(c:Nat):Nat:=LN (Is a b c)
def XC(a:Int)(b:List Sm)(c d:Nat):List D:=[D.str (List.getD (Is a b c) d [])]
def VM(a:Int)(b:List Sm)(c:Nat):Nat:=Vl a b c+N1
def HX:Arr:=DA
def YV:Nd:=Nd.mk Z0 Z0 Z0 [] Z0 Z0 HX [] [] Z0 Z0 Z0
def YW:Sm:=Sm.mk Z0 Z0 [] Z0 YV YV
def Qfg(a:List Sm)(b:Nat):Sm:=List.getD a (Int.toNat (↑b:Int)) YW
def QJH(a:List Sm)(b:Nat):Int:=Sm.kd (Qfg a b)
def QJI(a:List Sm)(b:Nat):Bool:=QJH a b==2
def XD(a:Int)(b:List Sm)(c:Nat):Nat:=VM a b c+N1
def Qmo(a:Int)(b:List Sm)(c:Nat):Nat:=XD a b c+N1
def Qfh(a:List Sm)(b:Nat):Bool:=QJH a b==3
def Vm(a:Nd->Prop)(b:Int)(c:Nd×List (List UInt8)):Prop:=Tp a b N0 c
def QJJ(a:List Sm)(b c:Nat):List D:=[D.str (List.getD [Sm.nm (Qfg a b)] c [])]
def QJK(a:Nat):List D:=[D.str (List.getD [[(60:UInt8),(45:UInt8)]] a [])]
def QJL(a:Int)(b:List Sm)(c d:Nat):D:=D.sl N1 (Qmo a b c) (BM (XD a b c) (BM (VM a b c) (BM (Vl a b c) (fun i=>XC a b c i) fun i=>[D.str (List.getD [Gi a] i [])]) fun i=>QJJ b c i) fun i=>QJK i) (Mode.tok N0 d)
def Jf(a:List Sm)(b:Nat):Nd:=Sm.te (Qfg a b)
def QJP(a:Int):List D:=[D.sl N1 N0 (fun _x=>[]) Mode.nil,ZI a]
def Qfj(a:List Sm)(b:Nat)(c:Int):List D:=D.agg (Nd.rowE (Jf a b))::QJP c
def QJQ:List Int:=Bj N0 fun _x=>[]
def Vn(a:List (List UInt8))(b:Nat)(c:Nd)(d:Int):List D:=[D.sl N1 (LN a) (fun i=>[D.str (List.getD a i [])]) (Mode.tok N0 b),D.agg (Nd.row1 c),SI QJQ,ZI d]
def QJR(a:List (List UInt8))(b:Int)(c:Nd):List (List UInt8):=a++rlP b (BR QJQ c)
def Qfk(a:List (List UInt8))(b:Int)(c:Nd):Nat:=LN (QJR a b c)
def Qmp(a:List (List UInt8))(b:Int)(c:Nd):Nat:=Qfk a b c+N1
def QJS(a:List (List UInt8))(b:Int)(c:Nd)(d:Nat):List D:=[D.str (List.getD (QJR a b c) d [])]
def Jg(a:List Sm)(b:Nat):Nd:=Sm.nd (Qfg a b)
def HY(a:List Sm)(b:Nat)(c:Int):List D:=D.agg (Nd.rowE (Jg a b))::QJP c
def YX(a:List Sm)(b:Nat):Sm:=List.getD a b YW
def QSu(a:List Sm):D:=D.sl 34 (LN a) (fun i=>(Sm.row1 (YX a i))) Mode.any
def HZ(a:List Sm)(b:Int)(c:Nat)(d:List (List UInt8))(e:Nd):Prop:=∀(y:Nat),True->(SM (QSu a)/\SM (ZI b)/\True)/\∃(y_1:Nat×Nat),y_1.1<=LN a/\LN a-y_1.1<LN a-c/\(IntKind.wrap IntKind.i64 ((↑c:Int)+Z1)=(NI y_1.1)/\(Qfk d b e=Vl b a y_1.1/\(∀(i:Nat),i<Qfk d b e->QJS d b e i=XC b a y_1.1 i)/\y=y_1.2)/\True)/\True/\y=y_1.2/\True
def Qfo(a:List (List UInt8))(b:Int)(c:Nd)(d:Nat)(e:List Sm)(f:Nd->Prop):Prop:=∀(y:Nat),True->SM y/\Bc (Qmp a b c*16<=140737488355328/\Qmp a b c<=9223372036854775807) (∀(t:Nat),Bc (Z0<=(↑d:Int)/\(↑d:Int)<(LI e)) (∃(x:Nd×List (List UInt8)),(Vm f b x/\SM t/\wkL (D.sl N1 (Qmp a b c) (BM (Qfk a b c) (fun i=>QJS a b c i) fun i=>[D.str (List.getD [[(58:UInt8)]] i [])]) (Mode.tok N0 t)::HY e d b) (Vn x.2 t x.1 b))/\HZ e b d x.2 x.1))
def QJ2(a:Int)(b:List Sm)(c d:Nat):D:=D.sl N1 (VM a b c) (BM (Vl a b c) (fun i=>XC a b c i) fun i=>[D.str (List.getD [Gi a] i [])]) (Mode.tok N0 d)
def QJ3(a:Int)(b:List Sm)(c d:Nat):D:=D.sl N1 (XD a b c) (BM (VM a b c) (BM (Vl a b c) (fun i=>XC a b c i) fun i=>QJJ b c i) fun i=>QJK i) (Mode.tok N0 d)
def QJ4(a:Int)(b:List Sm)(c d:Nat):D:=D.sl N1 (Vl a b c) (fun i=>XC a b c i) (Mode.tok N0 d)
theorem Bc2(p : Nd -> Prop)(l : List Sm)(lv : Int)(h0 : 0<=lv)(h1 : lv+szB l<=100000)(hl : l.length<=BC)(hp : (ptB l).length<=3500000000000)(h : ∀b, p b -> RPar b)(hq : ∀s∈l, p s.nd /\ (s.kd=3 -> p s.te)) :
  CD 22 [gsl 34 Sm.row1 l,.int .i64 lv] (ssl (rlP lv (ptB l)) .any):=by
 refine Bg (A:=sC _ _) (x:=()) (E:=Erby p l lv) (eOk (Bhd h) rfl) Tryz.func22 rfl (by kernel_rfl) rfl (by simp[sC,Erby,EC,E0]) ?_
 refine Bi (T :=
  ∀(t:Nat),(∃(x:Nat×Nat),x.1<=LN l/\(Z0=(NI x.1)/\(N0=Vl lv l x.1/\(∀(i:Nat),i<N0->Cv (List D) [] (XC lv l x.1 i))/\t=x.2)/\True)/\True/\t=x.2/\True)/\∀(x:Nat×Nat),x.1<=LN l->ifB (decide ((NI x.1)<(LI l))) (ifB (decide (Z0<(NI x.1))) (∃(x_1:Unit),(Z0<=lv/\lv<=200000)/\∀(y:Unit),True->SM x.2/\Bc (VM lv l x.1*16<=140737488355328/\VM lv l x.1<=9223372036854775807) (∀(t:Nat),Bc (Z0<=(NI x.1)/\(NI x.1)<(LI l)) (ifB (QJI l x.1) (Bc (Z0<=(NI x.1)/\(NI x.1)<(LI l)) (SM t/\Bc (XD lv l x.1*16<=140737488355328/\XD lv l x.1<=9223372036854775807) (∀(t:Nat),SM t/\Bc (Qmo lv l x.1*16<=140737488355328/\Qmo lv l x.1<=9223372036854775807) (∀(t:Nat),Bc (Z0<=(NI x.1)/\(NI x.1)<(LI l)) (ifB (Qfh l x.1) (Bc (Z0<=(NI x.1)/\(NI x.1)<(LI l)) (∃(x_2:Nd×List (List UInt8)),(Vm p lv x_2/\SM t/\wkL (QJL lv l x.1 t::Qfj l x.1 lv) (Vn x_2.2 t x_2.1 lv))/\Qfo x_2.2 lv x_2.1 x.1 l p)) (Bc (Z0<=(NI x.1)/\(NI x.1)<(LI l)) (∃(x_2:Nd×List (List UInt8)),(Vm p lv x_2/\SM t/\wkL (QJL lv l x.1 t::HY l x.1 lv) (Vn x_2.2 t x_2.1 lv))/\HZ l lv x.1 x_2.2 x_2.1))))))) (Bc (Z0<=(NI x.1)/\(NI x.1)<(LI l)) (ifB (Qfh l x.1) (Bc (Z0<=(NI x.1)/\(NI x.1)<(LI l)) (∃(x_2:Nd×List (List UInt8)),(Vm p lv x_2/\SM t/\wkL (QJ2 lv l x.1 t::Qfj l x.1 lv) (Vn x_2.2 t x_2.1 lv))/\Qfo x_2.2 lv x_2.1 x.1 l p)) (Bc (Z0<=(NI x.1)/\(NI x.1)<(LI l)) (∃(x_2:Nd×List (List UInt8)),(Vm p lv x_2/\SM t/\wkL (QJ2 lv l x.1 t::HY l x.1 lv) (Vn x_2.2 t x_2.1 lv))/\HZ l lv x.1 x_2.2 x_2.1))))))) (Bc (Z0<=(NI x.1)/\(NI x.1)<(LI l)) (ifB (QJI l x.1) (Bc (Z0<=(NI x.1)/\(NI x.1)<(LI l)) (SM x.2/\Bc (VM lv l x.1*16<=140737488355328/\VM lv l x.1<=9223372036854775807) (∀(t:Nat),SM t/\Bc (XD lv l x.1*16<=140737488355328/\XD lv l x.1<=9223372036854775807) (∀(t:Nat),Bc (Z0<=(NI x.1)/\(NI x.1)<(LI l)) (ifB (Qfh l x.1) (Bc (Z0<=(NI x.1)/\(NI x.1)<(LI l)) (∃(x_1:Nd×List (List UInt8)),(Vm p lv x_1/\SM t/\wkL (QJ3 lv l x.1 t::Qfj l x.1 lv) (Vn x_1.2 t x_1.1 lv))/\Qfo x_1.2 lv x_1.1 x.1 l p)) (Bc (Z0<=(NI x.1)/\(NI x.1)<(LI l)) (∃(x_1:Nd×List (List UInt8)),(Vm p lv x_1/\SM t/\wkL (QJ3 lv l x.1 t::HY l x.1 lv) (Vn x_1.2 t x_1.1 lv))/\HZ l lv x.1 x_1.2 x_1.1))))))) (Bc (Z0<=(NI x.1)/\(NI x.1)<(LI l)) (ifB (Qfh l x.1) (Bc (Z0<=(NI x.1)/\(NI x.1)<(LI l)) (∃(x_1:Nd×List (List UInt8)),(Vm p lv x_1/\SM x.2/\wkL (QJ4 lv l x.1 x.2::Qfj l x.1 lv) (Vn x_1.2 x.2 x_1.1 lv))/\Qfo x_1.2 lv x_1.1 x.1 l p)) (Bc (Z0<=(NI x.1)/\(NI x.1)<(LI l)) (∃(x_1:Nd×List (List UInt8)),(Vm p lv x_1/\SM x.2/\wkL (QJ4 lv l x.1 x.2::HY l x.1 lv) (Vn x_1.2 x.2 x_1.1 lv))/\HZ l lv x.1 x_1.2 x_1.1))))))) (True/\∃(y:Unit),True/\(Vl lv l x.1=LN (rlP lv (ptB l))/\(∀(i:Nat),i<Vl lv l x.1->XC lv l x.1 i=[D.str (List.getD (rlP lv (ptB l)) i [])])/\True)/\True/\True)) (by kernel_rfl) ?_
 delta DA GI LI LN N0 N1 N4 NI SI SM Z0 Z1 ZI Vl XC Qmo Qfh Vm QJJ QJK QJL Jf VM QJP Qfj QJQ Vn QJR Qfk Qmp HX QJS Jg HY YX YV YW QSu HZ Qfo QJ2 QJ3 QJ4 Qfg QJH QJI XD
 try simp only[<- dm]
 try simp only[<- dn]
 simp only[ne_eq,Int.toNat_natCast,Bf,Bd,decide_eq_true_eq,decide_eq_false_iff_not,true_and,and_true,beq_iff_eq,beq_eq_false_iff_ne,exists_const,forall_const,Prod.exists]
 unfold BC at hl
 have len:∀i,(Is lv l i).length<=3500000000000:=fun i=>by
  have:=Bdv l i
  unfold Is
  rw[ED]
  omega
 intro t
 refine⟨⟨0,t,Nat.zero_le _,⟨rfl,rfl,fun i hi=>absurd hi (by omega),rfl⟩,rfl⟩,?_⟩
 rintro ⟨i,t1⟩ hi
 simp only at hi ⊢
 refine⟨fun hlt=>?_,fun hge=>?_⟩
 ·have hi':i<l.length:=by omega
  have st:=Bd7 lv hi'
  have e1:=len (i+1)
  have hs:=C4 hi'
  obtain ⟨q1,q2⟩:=hq _ hs
  have z:=Bfo hs
  have zm:=TV (l.getD i default)
  have zn:szN (l.getD i default).nd<=szM (l.getD i default):=by rw[zm];split<;>omega
  have zt:(l.getD i default).kd=3->szN (l.getD i default).te<=szM (l.getD i default):=fun k=>by rw[zm,if_pos k];omega
  clear zm
  rw[rlM] at st
  rw[st] at e1
  generalize hA:Is lv l i=A at *
  refine⟨fun hi0=>?_,fun hi0=>?_⟩
  ·rw[if_pos (by omega)] at st e1
   have e2:A.length+1<=3500000000000:=by
    simp only[List.length_append,List.length_cons,List.length_nil] at e1
    omega
   refine⟨⟨h0,by omega⟩,⟨by omega,by omega⟩,fun t2=>⟨⟨by omega,hlt⟩,fun k2=>?_,fun n2=>?_⟩⟩
   ·rw[if_pos k2] at st e1
    simp only[List.length_append,List.length_cons,List.length_nil] at e1
    refine⟨⟨by omega,hlt⟩,⟨by omega,by omega⟩,⟨by omega,by omega⟩,fun t3=>⟨⟨by omega,hlt⟩,fun k3=>absurd k3 (by omega),fun n3=>⟨⟨by omega,hlt⟩,(l.getD i default).nd,A++[Gi lv]++[(l.getD i default).nm]++[[60,45]],Es q1 h0 (by omega) (by decide) (by simp only[List.length_append,List.length_cons,List.length_nil];omega) (by simp only[List.length_append,List.length_cons,List.length_nil]) (EY (by simp only[List.length_append,List.length_cons,List.length_nil]) (EY (by simp only[List.length_append,List.length_cons,List.length_nil]) (EY rfl (fun _ _=>rfl) _) _) _) CQ,T0 hi' hl (by rw[st];simp)⟩⟩⟩
   ·rw[if_neg n2] at st e1
    refine⟨⟨by omega,hlt⟩,fun k3=>?_,fun n3=>?_⟩
    ·have zt':=zt k3
     rw[if_pos k3] at st e1
     simp only[List.length_append,List.length_cons,List.length_nil] at e1
     refine⟨⟨by omega,hlt⟩,(l.getD i default).te,A++[Gi lv],Es (q2 k3) h0 (by omega) (by decide) (by simp only[List.length_append,List.length_cons,List.length_nil];omega) (by simp only[List.length_append,List.length_cons,List.length_nil]) (EY rfl (fun _ _=>rfl) _) CQ,⟨?_,?_⟩,fun t4=>⟨⟨by omega,hlt⟩,(l.getD i default).nd,A++[Gi lv]++rlP lv (BR (Bj 0 fun _=>[]) (l.getD i default).te)++[[58]],Es q1 h0 (by omega) (by decide) ?_ (by simp only[List.length_append,List.length_cons,List.length_nil]) (EY rfl (fun _ _=>rfl) _) CQ,T0 hi' hl (by rw[IB,st];simp)⟩⟩
     all_goals
      rw[IB]
      simp only[List.length_append,List.length_cons,List.length_nil]
      omega
    ·rw[if_neg n3] at st e1
     simp only[List.length_append,List.length_cons,List.length_nil] at e1
     exact⟨⟨by omega,hlt⟩,(l.getD i default).nd,A++[Gi lv],Es q1 h0 (by omega) (by decide) (by simp only[List.length_append,List.length_cons,List.length_nil];omega) (by simp only[List.length_append,List.length_cons,List.length_nil]) (EY rfl (fun _ _=>rfl) _) CQ,T0 hi' hl (by rw[st];simp)⟩
  ·rw[if_neg (by omega)] at st e1
   refine⟨⟨by omega,hlt⟩,fun k2=>?_,fun n2=>?_⟩
   ·rw[if_pos k2] at st e1
    simp only[List.length_append,List.length_cons,List.length_nil] at e1
    refine⟨⟨by omega,hlt⟩,⟨by omega,by omega⟩,⟨by omega,by omega⟩,fun t3=>⟨⟨by omega,hlt⟩,fun k3=>absurd k3 (by omega),fun n3=>⟨⟨by omega,hlt⟩,(l.getD i default).nd,A++[(l.getD i default).nm]++[[60,45]],Es q1 h0 (by omega) (by decide) (by simp only[List.length_append,List.length_cons,List.length_nil];omega) (by simp only[List.length_append,List.length_cons,List.length_nil]) (EY (by simp only[List.length_append,List.length_cons,List.length_nil]) (EY rfl (fun _ _=>rfl) _) _) CQ,T0 hi' hl (by rw[st];simp)⟩⟩⟩
   ·rw[if_neg n2] at st e1
    refine⟨⟨by omega,hlt⟩,fun k3=>?_,fun n3=>?_⟩
    ·have zt':=zt k3
     rw[if_pos k3] at st e1
     simp only[List.length_append,List.length_cons,List.length_nil] at e1
     refine⟨⟨by omega,hlt⟩,(l.getD i default).te,A,Es (q2 k3) h0 (by omega) (by decide) (by omega) rfl (fun _ _=>rfl) CQ,⟨?_,?_⟩,fun t4=>⟨⟨by omega,hlt⟩,(l.getD i default).nd,A++rlP lv (BR (Bj 0 fun _=>[]) (l.getD i default).te)++[[58]],Es q1 h0 (by omega) (by decide) ?_ (by simp only[List.length_append,List.length_cons,List.length_nil]) (EY rfl (fun _ _=>rfl) _) CQ,T0 hi' hl (by rw[IB,st];simp)⟩⟩
     all_goals
      rw[IB]
      simp only[List.length_append,List.length_cons,List.length_nil]
      omega
    ·rw[if_neg n3] at st e1
     simp only[List.length_append,List.length_nil] at e1
     exact⟨⟨by omega,hlt⟩,(l.getD i default).nd,A,Es q1 h0 (by omega) (by decide) (by omega) rfl (fun _ _=>rfl) CQ,T0 hi' hl (by rw[st];simp)⟩
 ·have e:Is lv l i=rlP lv (ptB l):=by
   unfold Is
   rw[show i=l.length by omega,List.take_length]
  rw[e]
  exact⟨rfl,fun _ _=>rfl⟩
def BiY(n:Nd):Con:=fun k ds S=>match k with
 |22=>match ds with
  | [_,.int .i64 lv]=>some (pA ds S (ssl (rlP lv (ptB n.bo)) .any) (wkL ds [gsl 34 Sm.row1 n.bo,.int .i64 lv]/\n.kd=10/\0<=lv/\lv+szB n.bo<=100000))
  |_=>none
 |93=>some (pA ds S (.str (Eq n)) (isN n ds []))
 |_=>none
theorem BjD{n:Nd}(ho:n.ok)(hn:n.sm)(hb:n.kd=10->∀lv:Int,0<=lv->lv+szB n.bo<=100000->CD 22 [gsl 34 Sm.row1 n.bo,.int .i64 lv] (ssl (rlP lv (ptB n.bo)) .any)):ConOk Tryz.prog (BiY n):=by
 intro k ds S A hh
 unfold BiY at hh
 split at hh
 ·split at hh
  ·injection hh with hh;subst hh
   exact Bo fun ⟨e,hk,h0,h1⟩=>CD.at_ (CD.wk (hb hk _ h0 h1) e) _
  ·cases hh
 ·injection hh with hh;subst hh
  exact Bo fun e=>CD.at_ (CD.wk (Bnj n ho hn) e) _
 ·cases hh
def EP(ks:List Int)(lv:Int)(l:List Nd)(i:Nat):List (List UInt8):=rlP lv ((l.take i).flatMap (BR ks))
theorem Bj7:BR [16,4,5]=BR [4,5,16]:=by
 funext b
 unfold BR ptW
 have e:[16,4,5].contains b.kd=[4,5,16].contains b.kd:=by
  rw[Bool.eq_iff_iff]
  simp only[List.contains_eq_mem,decide_eq_true_eq,List.mem_cons,List.not_mem_nil,or_false]
  omega
 rw[e]
theorem Bmx(b:Nd):BR [16,14,15,3,4,5] b=BR [3,4,5,16,14,15] b:=by
 unfold BR ptW
 have e:[16,14,15,3,4,5].contains b.kd=[3,4,5,16,14,15].contains b.kd:=by
  rw[Bool.eq_iff_iff]
  simp only[List.contains_eq_mem,decide_eq_true_eq,List.mem_cons,List.not_mem_nil,or_false]
  omega
 rw[e]
theorem BaJ(ks:List Int)(b:Nd):ID (BR ks b):=OI (Wf b)
theorem Bew(ks:List Int)(lv:Int){l:List Nd}{i:Nat}(h:i<l.length):EP ks lv l (i+1)=EP ks lv l i++rlP lv (BR ks (l.getD i default)):=by
 unfold EP
 rw[B6 h,List.flatMap_append,EB (Mq fun x _=>BaJ ks x)]
 simp
theorem BaH(ks:List Int)(lv:Int)(l:List Nd)(i:Nat):(EP ks lv l i).length<=(l.flatMap (BR ks)).length:=by
 unfold EP
 rw[ED]
 exact RJ _ _ _
theorem BjV{lv : Int}{ks : List Int}{l : List Nd}{i m : Nat}{f : Nat -> List D}(hi : i<l.length)(hl : l.length<=8589934592)(hf : Bj m f=ks) :
  ∀y:Nat,∃a b:Nat,a<=l.length/\l.length-a<l.length-i/\(IntKind.i64.wrap ((i:Int)+1)=(a:Int)/\(EP ks lv l i++rlP lv (BR (Bj m f) (l.getD i default))).length=(EP ks lv l a).length/\(∀j,j<(EP ks lv l i++rlP lv (BR (Bj m f) (l.getD i default))).length->[D.str ((EP ks lv l i++rlP lv (BR (Bj m f) (l.getD i default))).getD j [])]=[D.str ((EP ks lv l a).getD j [])])/\y=b)/\y=b:=by
 intro y
 rw[hf,<- Bew ks lv hi]
 exact⟨i+1,y,hi,by omega,⟨Ba (by omega) (by omega),rfl,fun _ _=>rfl,rfl⟩,rfl⟩
theorem Bgt{α:Type}[Inhabited α]{w:Nat}{g:α->List D}{l:List α}:wkD (gsl w g l) (lsl w (l.map g)):=by
 simp only[lsl,gsl,wkD,Bb]
 refine⟨by simp,by simp,fun i hi=>?_,by simp[BG]⟩
 have:(l.map g).getD i []=g (l.getD i default):=by simp[List.getD_eq_getElem?_getD,hi]
 rw[this]
 exact Be _
theorem BjP(n:Nd):wkL n.row1 n.row:=by
 cases n with
 |mk kd at_ cl tx pr op va ki bo de sl ss =>
  simp only[Nd.row,Nd.row1,Nd.rowE,Nd.kd,Nd.at_,Nd.cl,Nd.tx,Nd.pr,Nd.op,Nd.va,Nd.ki,Nd.bo,Nd.de,Nd.sl,Nd.ss,wkL,G9,Ed]
  exact⟨Bh _,Bh _,Bh _,Bh _,Bh _,Bh _,Bh _,Bh _,Bh _,Bh _,Bgt,Bgt,Bh _,Bh _,Bh _,trivial⟩
theorem Blt(n:Nd):wkL n.rowE n.row:=BjP n
theorem Bpu(s:Sm):wkL s.row1 s.row:=by
 cases s with
 |mk kd at_ nm sl te nd =>
  simp only[Sm.row,Sm.row1,Sm.kd,Sm.at_,Sm.nm,Sm.sl,Sm.te,Sm.nd,wkL]
  exact⟨Bh _,Bh _,Bh _,Bh _,OS (Blt te) (Blt nd)⟩
theorem BoM(n:Nd):wkL n.row2 n.row1:=by
 simp only[Nd.row2,Nd.row1,Nd.rowE,wkL]
 exact⟨Bh _,Bh _,Bh _,Bh _,Bh _,Bh _,Bh _,Bh _,Bh _,Bh _,W1 BjP,W1 Bpu,Bh _,Bh _,Bh _,trivial⟩
theorem Bqk(n:Nd):isN n [.agg n.row2] []:=by
 simp only[isN,wkL]
 exact⟨by simp only[wkD];exact BoM n,trivial⟩
theorem UT{p : Nd -> Prop}{lv : Int}{b : Nd}{m : Nat}{f : Nat -> List D}{md : Ab.Mode}(hp : p b)(h0 : 0<=lv)(h1 : lv+szN b<=100000)(hm : m<=maxLen)(hI : IntsP m f) :
  Tp p lv m (b,[])/\Cv (List (List UInt8)) [] []/\wkL [.sl 1 0 (fun _=>[]) .nil,.agg b.row1,.sl 1 m f md,.int .i64 lv] [.sl 1 0 (fun _=>[]) .nil,.agg b.row1,isl (Bj m f) .any,.int .i64 lv]:=by
 refine⟨⟨hp,h0,h1,hm,by simp⟩,rfl,?_⟩
 have h2:=Ck (r:=b.row1) (md:=md) hI
 simp only[wkL] at h2 ⊢
 exact⟨Bh _,h2.1,h2.2.1,Bh _,trivial⟩
theorem Bd9{n:Nd}(hv:BU n=0)(ho:n.ok):(ptN n).length<=3500000000000:=by
 obtain ⟨_,hz,hvn⟩:=BV.1 hv
 have h1:=BfH (ptN n)
 have h2:=Ud (ptN n)
 have h3:=(Ww n hvn).1
 have h4:=Ev n hvn ho
 rw[h3] at h2
 omega
theorem C5{L M:List (List UInt8)}(h:L=M):L.length=M.length/\∀i,i<L.length->[D.str (L.getD i [])]=[D.str (M.getD i [])]:=by
 subst h
 exact⟨rfl,fun _ _=>rfl⟩
noncomputable def Erpa(p:Nd->Prop)(n:Nd)(lv:Int):Senv:={ EC (BaP p (BiY n)) 151 3 [4,5,6,7,8,9,10,11,16,22,28,40,56,79,95,119,125,137] (fun id=>match id with | 13=>([0,1,2,3,4,5,6,8,9,10,11,12,7,13,14],[7,13]) | 15=>([0,1,2,3,4,5,6,8,9,10,11,12,13,15,16,17,18,19,7,14,20,21],[7,14,20]) | 17=>([0,1,2,3,4,5,6,8,9,10,11,12,7,13,14],[7,13]) | 20=>([0,1,2,3,4,5,6,8,9,10,11,12,14,15,16,17,18,19,7,13,20,21],[7,13,20]) | 27=>([0,3,4,5,6,1,2,7,8,9,10,11],[1,2,7,8,9,10]) | _=>([],[])) with
 mg:=fun _=>2
 gh:=fun b=>match b with
  |1=>[.slot 8]
  |3=>[.slot 8]
  |_=>[]
 ann:=fun b _ S=>match b with
  |1=>some { slots:=[9,8],keep:=[0,1,2,6],α:=Nat×Nat,st:=fun y=>([.int .i64 y.1,ssl (EP [3,4,5] lv n.ki y.1) (.tok 0 y.2)],⟨S.objs,[(0,y.2)]⟩),inv:=fun y=>y.1<=n.ki.length,mu:=fun y=>n.ki.length-y.1 }
  |3=>some { slots:=[11,8],keep:=[0,1,2],α:=Nat×Nat,st:=fun y=>([.int .i64 y.1,ssl (EP [16,4,5] lv n.ki y.1) (.tok 0 y.2)],⟨S.objs,[(0,y.2)]⟩),inv:=fun y=>y.1<=n.ki.length,mu:=fun y=>n.ki.length-y.1 }
  |_=>none }
def JX(a:Nd):Int:=Nd.kd a
def VN(a:Nd):List Nd:=Nd.ki a
def XE(a:Nd):Nat:=LN (VN a)
def YY(a:Nat)(b:Nd):Prop:=a<=XE b
def QJ5(a:Int)(b:Nd)(c:Nat):List (List UInt8):=EP [(3:Int),(4:Int),(5:Int)] a (VN b) c
def H0(a:Int)(b:Nd)(c:Nat):Nat:=LN (QJ5 a b c)
def Qfp(a:Int)(b:Nd)(c d:Nat):List D:=[D.str (List.getD (QJ5 a b c) d [])]
def QJ6(a:Nd):Int:=Nd.at_ a
def QJ7(a:Nd):Int:=Nd.cl a
def QJ8(a:Nd):List UInt8:=Nd.tx a
def QJ9(a:Nd):Int:=Nd.pr a
def QKa(a:Nd):Int:=Nd.op a
def Qfq(a:Nd):Arr:=Nd.va a
def QKb(a:Nd):Int:=Arr.k (Qfq a)
def QKc(a:Nd):List Int:=Arr.sh (Qfq a)
def Qmq(a:Nd):Nat:=LN (QKc a)
def QKd(a:Nd)(b:Nat):List D:=[ZI (GI (QKc a) b)]
def QKe(a:Nd):List Int:=Arr.nu (Qfq a)
def Qmr(a:Nd):Nat:=LN (QKe a)
def QKf(a:Nd)(b:Nat):List D:=[ZI (GI (QKe a) b)]
def QKg(a:Nd):List Arr:=Arr.it (Qfq a)
def Qms(a:Nd):Nat:=LN (QKg a)
def YZ:Arr:=DA
def QKh(a:Nd)(b:Nat):List D:=Arr.row (List.getD (QKg a) b YZ)
def JK:Nd:=Nd.mk Z0 Z0 Z0 [] Z0 Z0 YZ [] [] Z0 Z0 Z0
def QKi(a:Nd)(b:Nat):List D:=Nd.row1 (List.getD (VN a) b JK)
def Qfr(a:Nd):List Sm:=Nd.bo a
def Qmt(a:Nd):Nat:=LN (Qfr a)
def H1:Sm:=Sm.mk Z0 Z0 [] Z0 JK JK
def QKj(a:Nd)(b:Nat):List D:=Sm.row1 (List.getD (Qfr a) b H1)
def QKk(a:Nd):Int:=Nd.de a
def QKl(a:Nd):Int:=Nd.sl a
def QKm(a:Nd):Int:=Nd.ss a
def Qfs(a:Nat)(b:Nd)(c d:Nat):Prop:=(SM a/\(SM (JX b)/\SM (QJ6 b)/\SM (QJ7 b)/\SM (QJ8 b)/\SM (QJ9 b)/\SM (QKa b)/\SM (QKb b)/\(SM (Qmq b)/\(∀(i:Nat),i<Qmq b->SM (QKd b i))/\True)/\(SM (Qmr b)/\(∀(i:Nat),i<Qmr b->SM (QKf b i))/\True)/\(SM (Qms b)/\(∀(i:Nat),i<Qms b->SM (QKh b i))/\True)/\(SM (XE b)/\(∀(i:Nat),i<XE b->SM (QKi b i))/\True)/\(SM (Qmt b)/\(∀(i:Nat),i<Qmt b->SM (QKj b i))/\True)/\SM (QKk b)/\SM (QKl b)/\SM (QKm b)/\True)/\True)/\c=d/\True
def QO(a:Nd):Int:=(NI (XE a))
def QKn(a:Nat)(b:Nd):Bool:=decide ((↑a:Int)<QO b)
def Jj(a:Nd)(b:Nat):Nd:=List.getD (VN a) (Int.toNat (↑b:Int)) JK
def QKr(a:Nd)(b:Nat):D:=D.agg (Nd.rowE (Jj a b))
def Qmu:List (List D):=[[ZI 4],[ZI 5]]
def QKs:List (List D):=[ZI 3]::Qmu
def QKt(a:Nat):List D:=List.getD QKs a []
def QKu:D:=D.sl N1 (3:Nat) (fun i=>QKt i) Mode.full
def Jk(a:Int):List D:=[ZI a]
def H2(a:List (List UInt8))(b:Nat):D:=D.sl N1 (LN a) (fun i=>[D.str (List.getD a i [])]) (Mode.tok N0 b)
def Y0(a:Nd):D:=D.agg (Nd.row1 a)
def QKv:List Int:=Bj (3:Nat) fun i=>QKt i
def QKw(a:Nd):D:=D.sl 15 (XE a) (fun i=>QKi a i) Mode.any
def Qmv(a:Nd):D:=D.sl 34 (Qmt a) (fun i=>QKj a i) Mode.any
def QKx(a:Nd):D:=D.agg (Nd.row2 a)
def QKy(a:Nd):Prop:=SM (QKx a)
def QKz(a:Nd)(b c:Nat):Prop:=XE a-b<XE a-c
def QKA(a:List (List UInt8))(b:Int)(c:Nd):List (List UInt8):=a++rlP b (BR QKv c)
def QKB(a:List (List UInt8))(b:Int)(c:Nd):Nat:=LN (QKA a b c)
def QKC(a:Int)(b:Nd):List (List UInt8):=rlP a (ptN b)
def Y1(a:Int)(b:Nd):Nat:=LN (QKC a b)
def Y2(a:Int)(b:Nd)(c:Nat):List D:=[D.str (List.getD (QKC a b) c [])]
def Y3:D:=D.sl N1 N0 (fun _x=>[]) Mode.nil
def Jl(a:Nd):Nd:=List.getD (VN a) N0 JK
def QKG(a:Nd):D:=D.agg (Nd.rowE (Jl a))
def QKH(a:Int):List D:=D.sl N1 N1 (fun i=>List.getD [[ZI 16]] i []) Mode.full::Jk a
def QKI(a:Nd)(b:Int):List D:=QKG a::QKH b
def QKJ:List Int:=Bj N1 fun i=>List.getD [[ZI 16]] i []
def QKK(a:Nd)(b:Int):List D:=Y0 a::SI QKJ::Jk b
def QKL(a:Nd)(b:Int):List D:=Y3::QKK a b
def VO(a:Nat)(b:Nd):Prop:=SM a/\SM (QKw b)
def QKM(a:List (List UInt8))(b:Int)(c:Nd):List (List UInt8):=a++rlP b (BR QKJ c)
def Qmw(a:List (List UInt8))(b:Int)(c:Nd)(d:Nat):D:=D.sl N1 (LN (QKM a b c)) (fun i=>[D.str (List.getD (QKM a b c) i [])]) (Mode.tok N0 d)
def Jm(a:Nd):Nd:=List.getD (VN a) N1 JK
def Qmx(a:Nd):D:=D.agg (Nd.rowE (Jm a))
def Qmy(a:Int):List D:=Y3::Jk a
def QKQ:List Int:=Bj N0 fun _x=>[]
def Qmz(a:List (List UInt8))(b:Nat)(c:Nd)(d:Int):List D:=H2 a b::Y0 c::SI QKQ::Jk d
def QKR(a:List (List UInt8))(b:Int)(c:Nd):List (List UInt8):=a++rlP b (BR QKQ c)
def QmA(a:List (List UInt8))(b:Int)(c:Nd):Nat:=LN (QKR a b c)
def QKS(a:List (List UInt8))(b:Int)(c:Nd)(d:Nat):List D:=[D.str (List.getD (QKR a b c) d [])]
def QmB(a:List (List UInt8))(b:Int)(c d:Nd):Prop:=∀(_y:Nat),True->True/\∃(_y:Unit),True/\(QmA a b c=Y1 b d/\(∀(i:Nat),i<QmA a b c->QKS a b c i=Y2 b d i)/\True)/\True/\True
def QKT(a:Nat):List D:=List.getD Qmu a []
def QKU:List Int:=Bj N2 fun i=>QKT i
def QKV(a:List (List UInt8))(b:Int)(c:Nd):List (List UInt8):=a++rlP b (BR QKU c)
def Jn(a:Nd):Nd:=List.getD (VN a) N2 JK
def QKZ(a:Nd):D:=D.agg (Nd.rowE (Jn a))
def QK0(a:Nd->Prop)(b:Int)(c:Nd×List (List UInt8))(d:List (List UInt8))(e f:Nd):Prop:=Tp a b N1 c/\Cv (List (List UInt8)) d []/\wkL (Y3::Qmx e::QKH b) (QKL f b)
def QK1(a:Nd->Prop)(b:Int)(c:Nd×List (List UInt8))(d:Nat)(e:List (List UInt8))(f g:Nd)(h:List (List UInt8))(k:Nd):Prop:=Tp a b N0 c/\SM d/\wkL (Qmw e b f d::QKG g::Qmy b) (Qmz h d k b)
def QK2(a:Nat):List D:=List.getD ([ZI 16]::[ZI 14]::[ZI 15]::QKs) a []
def QK3:List Int:=Bj N6 fun i=>QK2 i
def QK4(a:List (List UInt8))(b:Int)(c:Nd):List (List UInt8):=a++rlP b (BR QK3 c)
def QK5(a:List (List UInt8))(b:Int)(c:Nd):Nat:=LN (QK4 a b c)
def QK6(a:Int)(b:Nd)(c:Nat):List (List UInt8):=EP [(16:Int),(4:Int),(5:Int)] a (VN b) c
def H3(a:Int)(b:Nd)(c:Nat):Nat:=LN (QK6 a b c)
def Qfx(a:Int)(b:Nd)(c d:Nat):List D:=[D.str (List.getD (QK6 a b c) d [])]
def QK7(a:Nat):List D:=List.getD ([ZI 16]::Qmu) a []
def QK8:List Int:=Bj (3:Nat) fun i=>QK7 i
def QK9(a:List (List UInt8))(b:Int)(c:Nd):List (List UInt8):=a++rlP b (BR QK8 c)
def QLa(a:List (List UInt8))(b:Int)(c:Nd):Nat:=LN (QK9 a b c)
def H4(a:Nat)(b:Nd):Prop:=SM a/\SM (Qmv b)
def Qfy(a:Int):Int:=IntKind.wrap IntKind.i64 (a+Z1)
def QLb(a:Nd)(b:Int):List D:=[Qmv a,ZI (Qfy b)]
def QLc(a:Nd)(b:Int):Prop:=wkL (QLb a b) (QLb a b)/\JX a=10/\Z0<=Qfy b/\Qfy b+(NI (szB (Qfr a)))<=100000
def QLd(a:Int)(b:Nd):List (List UInt8):=rlP (Qfy a) (ptB (Qfr b))
def Qfz(a:Int)(b:Nd):Nat:=N1+LN (QLd a b)
def QfA(a:Int)(b:Nd):Nat:=Qfz a b+N1
def QmC(a:Nat)(b:Int)(c:Nd):Prop:=SM a/\Bc (Qfz b c*16<=140737488355328/\Qfz b c<=9223372036854775807) (∀(t:Nat),SM t/\Bc (QfA b c*16<=140737488355328/\QfA b c<=9223372036854775807) (∀(_t:Nat),True/\∃(_y:Unit),True/\(QfA b c=Y1 b c/\(∀(i:Nat),i<QfA b c->BM (Qfz b c) (BM N1 (fun i=>[D.str (List.getD [[(123:UInt8)]] (i-N0) [])]) fun i=>[D.str (List.getD (QLd b c) i [])]) (fun i=>[D.str (List.getD [[(125:UInt8)]] i [])]) i=Y2 b c i)/\True)/\True/\True))
def QLe(a:Nat)(b:Nd)(c:Int)(d:Nat):Prop:=H4 a b/\∃(_x:Unit),QLc b c/\∀(_y:Unit),True->QmC d c b
def QLf(a:Nat)(b:Nd)(c:Int):Prop:=H4 a b/\∀(t:Nat),QLe a b c t
theorem Bjc(p : Nd -> Prop)(n : Nd)(lv : Int)(hv : BU n=0)(ho : n.ok)(hn : n.sm)(h0 : 0<=lv)(h1 : lv+szN n<=100000)(h : ∀b, p b -> RPar b)(hq : ∀b∈n.ki, p b)(hb : n.kd=10 -> ∀lv : Int, 0<=lv -> lv+szB n.bo<=100000 -> CD 22 [gsl 34 Sm.row1 n.bo, .int .i64 lv] (ssl (rlP lv (ptB n.bo)) .any)) :
  CD 70 [.agg n.row2,.int .i64 lv] (ssl (rlP lv (ptN n)) .any):=by
 refine Bg (A:=sC _ _) (x:=()) (E:=Erpa p n lv) (eOk (Baa h (BjD ho hn hb)) rfl) Tryz.func70 rfl (by kernel_rfl) rfl (by simp[sC,Erpa,EC,E0]) ?_
 refine Bi (T :=
  ∀(x:Nat),True->SM x/\ifB (JX n==3) (∀(t:Nat),(∃(x_1:Nat×Nat),YY x_1.1 n/\(Z0=(NI x_1.1)/\(N0=H0 lv n x_1.1/\(∀(i:Nat),i<N0->Cv (List D) [] (Qfp lv n x_1.1 i))/\t=x_1.2)/\True)/\Qfs x n t x_1.2)/\∀(x_1:Nat×Nat),YY x_1.1 n->SM x/\ifB (QKn x_1.1 n) (SM x/\Bc (Z0<=(NI x_1.1)/\(NI x_1.1)<QO n) (∃(x_2:Nd×List (List UInt8)),(Tp p lv (3:Nat) x_2/\SM x_1.2/\wkL (D.sl N1 (H0 lv n x_1.1) (fun i=>Qfp lv n x_1.1 i) (Mode.tok N0 x_1.2)::QKr n x_1.1::QKu::Jk lv) (H2 x_2.2 x_1.2::Y0 x_2.1::SI QKv::Jk lv))/\∀(y:Nat),True->(QKy n/\SM (ZI lv)/\SM (D.ref N0 x N0)/\SM QKu/\True)/\∃(y_1:Nat×Nat),YY y_1.1 n/\QKz n y_1.1 x_1.1/\(IntKind.wrap IntKind.i64 ((NI x_1.1)+Z1)=(NI y_1.1)/\(QKB x_2.2 lv x_2.1=H0 lv n y_1.1/\(∀(i:Nat),i<QKB x_2.2 lv x_2.1->[D.str (List.getD (QKA x_2.2 lv x_2.1) i [])]=Qfp lv n y_1.1 i)/\y=y_1.2)/\True)/\Qfs x n y y_1.2)) (True/\∃(y:Unit),True/\(H0 lv n x_1.1=Y1 lv n/\(∀(i:Nat),i<H0 lv n x_1.1->Qfp lv n x_1.1 i=Y2 lv n i)/\True)/\True/\True)) (ifB (JX n==4) (SM x/\Bc (Z0<=Z0/\Z0<QO n) (SM x/\Bc (Z0<=Z1/\Z1<QO n) (∃(x_1:Nd×List (List UInt8)),(Tp p lv N1 x_1/\Cv (List (List UInt8)) x_1.2 []/\wkL (Y3::QKI n lv) (QKL x_1.1 lv))/\∀(y:Nat),True->VO x n/\∃(x:Nd×List (List UInt8)),(Tp p lv N0 x/\SM y/\wkL (Qmw x_1.2 lv x_1.1 y::Qmx n::Qmy lv) (Qmz x.2 y x.1 lv))/\QmB x.2 lv x.1 n))) (ifB (JX n==5) (SM x/\Bc (Z0<=Z1/\Z1<QO n) (SM x/\Bc (Z0<=Z0/\Z0<QO n) (SM x/\Bc (Z0<=2/\(2:Int)<QO n) (∃(x_1:Nd×List (List UInt8)),(Tp p lv N2 x_1/\Cv (List (List UInt8)) x_1.2 []/\wkL (Y3::Qmx n::D.sl N1 N2 (fun i=>QKT i) Mode.full::Jk lv) (Y3::Y0 x_1.1::SI QKU::Jk lv))/\∀(y:Nat),True->VO x n/\VO x n/\∃(x_2:Nd×List (List UInt8)),(Tp p lv N1 x_2/\SM y/\wkL (D.sl N1 (LN (QKV x_1.2 lv x_1.1)) (fun i=>[D.str (List.getD (QKV x_1.2 lv x_1.1) i [])]) (Mode.tok N0 y)::QKI n lv) (H2 x_2.2 y::QKK x_2.1 lv))/\∀(y:Nat),True->VO x n/\∃(x:Nd×List (List UInt8)),(Tp p lv N0 x/\SM y/\wkL (Qmw x_2.2 lv x_2.1 y::QKZ n::Qmy lv) (Qmz x.2 y x.1 lv))/\QmB x.2 lv x.1 n)))) (ifB (JX n==14) (SM x/\Bc (Z0<=Z1/\Z1<QO n) (SM x/\Bc (Z0<=Z0/\Z0<QO n) (∃(x_1:Nd×List (List UInt8)),QK0 p lv x_1 x_1.2 n x_1.1/\∀(y:Nat),True->VO x n/\∃(x:Nd×List (List UInt8)),QK1 p lv x y x_1.2 x_1.1 n x.2 x.1/\QmB x.2 lv x.1 n))) (ifB (JX n==15) (SM x/\Bc (Z0<=Z1/\Z1<QO n) (SM x/\Bc (Z0<=Z0/\Z0<QO n) (SM x/\Bc (Z0<=2/\(2:Int)<QO n) (∃(x_1:Nd×List (List UInt8)),QK0 p lv x_1 x_1.2 n x_1.1/\∀(y:Nat),True->VO x n/\VO x n/\∃(x_2:Nd×List (List UInt8)),QK1 p lv x_2 y x_1.2 x_1.1 n x_2.2 x_2.1/\∀(y:Nat),True->VO x n/\∃(x:Nd×List (List UInt8)),(Tp p lv N6 x/\SM y/\wkL (D.sl N1 (QmA x_2.2 lv x_2.1) (fun i=>QKS x_2.2 lv x_2.1 i) (Mode.tok N0 y)::QKZ n::D.sl N1 N6 (fun i=>QK2 i) Mode.full::Jk lv) (H2 x.2 y::Y0 x.1::SI QK3::Jk lv))/\∀(y:Nat),True->True/\∃(y:Unit),True/\(QK5 x.2 lv x.1=Y1 lv n/\(∀(i:Nat),i<QK5 x.2 lv x.1->[D.str (List.getD (QK4 x.2 lv x.1) i [])]=Y2 lv n i)/\True)/\True/\True)))) (ifB (JX n==16) (∀(t:Nat),(∃(x_1:Nat×Nat),YY x_1.1 n/\(Z0=(NI x_1.1)/\(N0=H3 lv n x_1.1/\(∀(i:Nat),i<N0->Cv (List D) [] (Qfx lv n x_1.1 i))/\t=x_1.2)/\True)/\Qfs x n t x_1.2)/\∀(x_1:Nat×Nat),YY x_1.1 n->SM x/\ifB (QKn x_1.1 n) (SM x/\Bc (Z0<=(NI x_1.1)/\(NI x_1.1)<QO n) (∃(x_2:Nd×List (List UInt8)),(Tp p lv (3:Nat) x_2/\SM x_1.2/\wkL (D.sl N1 (H3 lv n x_1.1) (fun i=>Qfx lv n x_1.1 i) (Mode.tok N0 x_1.2)::QKr n x_1.1::D.sl N1 (3:Nat) (fun i=>QK7 i) Mode.full::Jk lv) (H2 x_2.2 x_1.2::Y0 x_2.1::SI QK8::Jk lv))/\∀(y:Nat),True->(QKy n/\SM (ZI lv)/\SM (D.ref N0 x N0)/\True)/\∃(y_1:Nat×Nat),YY y_1.1 n/\QKz n y_1.1 x_1.1/\(IntKind.wrap IntKind.i64 ((NI x_1.1)+Z1)=(NI y_1.1)/\(QLa x_2.2 lv x_2.1=H3 lv n y_1.1/\(∀(i:Nat),i<QLa x_2.2 lv x_2.1->[D.str (List.getD (QK9 x_2.2 lv x_2.1) i [])]=Qfx lv n y_1.1 i)/\y=y_1.2)/\True)/\Qfs x n y y_1.2)) (True/\∃(y:Unit),True/\(H3 lv n x_1.1=Y1 lv n/\(∀(i:Nat),i<H3 lv n x_1.1->Qfx lv n x_1.1 i=Y2 lv n i)/\True)/\True/\True)) (ifB (JX n==10) (SM x/\(H4 x n/\(∀(t:Nat),H4 x n/\(∃(x:Unit),QLc n lv/\∀(y:Unit),True->QmC t lv n/\QmC t lv n)/\QLe x n lv t)/\QLf x n lv)/\H4 x n/\QLf x n lv) (SM x/\∃(x:Unit),isN n [QKx n] []/\∀(y:Unit),True->∀(t:Nat),True/\∃(y:Unit),True/\(N1=Y1 lv n/\(∀(i:Nat),i<N1->BM N0 (fun x=>[]) (fun i=>[D.str (List.getD [Eq n] i [])]) i=Y2 lv n i)/\True)/\True/\True)))))))) (by kernel_rfl) ?_
 delta DA GI LN N0 N1 N2 N4 N6 NI SI SM Z0 Z1 ZI JX VN QJ9 QKZ QK0 QK1 QK2 QK3 QK4 QKa QK5 QK6 H3 Qfx QK7 QK8 QK9 QLa H4 Qfy Qfq QLb QLc QLd Qfz QfA QmC QLe QLf QKb QKc Qmq QKd QKe Qmr QKf XE QKg Qms YZ QKh JK QKi Qfr Qmt H1 QKj YY QKk QKl QKm Qfs QO QKn Jj QJ5 QKr Qmu QKs QKt QKu Jk H2 H0 Y0 QKv QKw Qmv QKx QKy QKz QKA QKB QKC Qfp Y1 Y2 Y3 Jl QJ6 QKG QKH QKI QKJ QKK QKL VO QKM Qmw Jm QJ7 Qmx Qmy QKQ Qmz QJ8 QKR QmA QKS QmB QKT QKU QKV Jn
 try simp only[<- dm]
 try simp only[<- dn]
 simp only[ne_eq,implies_true,Int.toNat_natCast,Bf,Bd,decide_eq_true_eq,decide_eq_false_iff_not,true_and,and_true,beq_iff_eq,beq_eq_false_iff_ne,exists_const,forall_const,Prod.exists]
 have i1:Bj 1 (fun i=>[[D.int IntKind.i64 16]].getD i [])=[16]:=rfl
 have i2:Bj 2 (fun i=>[[D.int IntKind.i64 4],[D.int IntKind.i64 5]].getD i [])=[4,5]:=rfl
 have i3:∀a b c:Int,Bj 3 (fun i=>[[D.int IntKind.i64 a],[D.int IntKind.i64 b],[D.int IntKind.i64 c]].getD i [])=[a,b,c]:=fun _ _ _=>rfl
 have i6:Bj 6 (fun i=>[[D.int IntKind.i64 16],[D.int IntKind.i64 14],[D.int IntKind.i64 15],[D.int IntKind.i64 3],[D.int IntKind.i64 4],[D.int IntKind.i64 5]].getD i [])=[16,14,15,3,4,5]:=rfl
 have p1:IntsP 1 (fun i=>[[D.int IntKind.i64 16]].getD i []):=fun i hi=>by
  match i,hi with
  |0,_=>rfl
 have p2:IntsP 2 (fun i=>[[D.int IntKind.i64 4],[D.int IntKind.i64 5]].getD i []):=fun i hi=>by
  match i,hi with
  |0,_=>rfl
  |1,_=>rfl
 have p3:∀a b c:Int,IntsP 3 (fun i=>[[D.int IntKind.i64 a],[D.int IntKind.i64 b],[D.int IntKind.i64 c]].getD i []):=fun _ _ _ i hi=>by
  match i,hi with
  |0,_=>rfl
  |1,_=>rfl
  |2,_=>rfl
 have p6:IntsP 6 (fun i=>[[D.int IntKind.i64 16],[D.int IntKind.i64 14],[D.int IntKind.i64 15],[D.int IntKind.i64 3],[D.int IntKind.i64 4],[D.int IntKind.i64 5]].getD i []):=fun i hi=>by
  match i,hi with
  |0,_=>rfl
  |1,_=>rfl
  |2,_=>rfl
  |3,_=>rfl
  |4,_=>rfl
  |5,_=>rfl
 obtain ⟨_,hz,hvn⟩:=BV.1 hv
 obtain ⟨L2,L3,_⟩:=IM hvn
 have hlen:=Bd9 hv ho
 have hsz:=BaW n
 have hkl:n.ki.length<=8589934592:=by
  have:=(Cb hn).2.1
  unfold BC at this
  omega
 have kq:∀i,i<n.ki.length->p (n.ki.getD i default)/\lv+szN (n.ki.getD i default)<=100000:=fun i hi=>by
  have h2:=UK (BW hi)
  exact⟨hq _ (BW hi),by omega⟩
 have pg:∀i,i<n.ki.length->(ptL n.ki).getD i []=ptN (n.ki.getD i default):=fun i hi=>Ra hi
 refine⟨fun k=>?_,fun n3=>⟨fun k=>?_,fun n4=>⟨fun k=>?_,fun n5=>⟨fun k=>?_,fun n14=>⟨fun k=>?_,fun n15=>⟨fun k=>?_,fun n16=>⟨fun k=>?_,fun n10=>?_⟩⟩⟩⟩⟩⟩⟩
 ·have hp:ptN n=n.ki.flatMap (BR [3,4,5]):=by rw[Gj,if_pos k]
  rw[hp] at hlen ⊢
  have len:∀i,(EP [3,4,5] lv n.ki i).length<=3500000000000:=fun i=>Nat.le_trans (BaH _ _ _ _) hlen
  intro t
  refine⟨⟨0,t,Nat.zero_le _,⟨rfl,rfl,fun i hi=>absurd hi (by omega),rfl⟩,rfl⟩,?_⟩
  rintro ⟨i,t1⟩ hi
  simp only at hi ⊢
  refine⟨fun hlt=>?_,fun hge=>?_⟩
  ·have hi':i<n.ki.length:=by omega
   have:=len i
   exact⟨⟨by omega,hlt⟩,n.ki.getD i default,EP [3,4,5] lv n.ki i,Es (kq i hi').1 h0 (kq i hi').2 (by decide) (by omega) rfl (fun _ _=>rfl) (p3 _ _ _),BjV hi' hkl (i3 _ _ _)⟩
  ·refine C5 ?_
   unfold EP
   rw[show i=n.ki.length by omega,List.take_length]
 ·have hL:n.ki.length=2:=L2 (.inl k)
  have e:rlP lv (ptN n)=rlP lv (BR [16] (n.ki.getD 0 default))++rlP lv (ptN (n.ki.getD 1 default)):=by
   rw[Gj,if_neg n3,if_pos k,pg 0 (by omega),pg 1 (by omega)]
   exact EB (BaJ [16] (n.ki.getD 0 default)) _ _
  have el:=congrArg List.length e
  rw[ED,List.length_append] at el
  exact⟨⟨by omega,by omega⟩,⟨by omega,by omega⟩,n.ki.getD 0 default,[],UT (kq 0 (by omega)).1 h0 (kq 0 (by omega)).2 (by decide) p1,fun y=>⟨n.ki.getD 1 default,[]++rlP lv (BR (Bj 1 fun i=>[[D.int IntKind.i64 16]].getD i []) (n.ki.getD 0 default)),Es (kq 1 (by omega)).1 h0 (kq 1 (by omega)).2 (by decide) (by rw[i1,List.nil_append];omega) rfl (fun _ _=>rfl) CQ,C5 (by rw[i1,IB,e,List.nil_append])⟩⟩
 ·have hL:n.ki.length=3:=L3 (.inl k)
  have e:rlP lv (ptN n)=rlP lv (BR [4,5] (n.ki.getD 1 default))++(rlP lv (BR [16] (n.ki.getD 0 default))++rlP lv (ptN (n.ki.getD 2 default))):=by
   rw[Gj,if_neg n3,if_neg n4,if_pos k,pg 0 (by omega),pg 1 (by omega),pg 2 (by omega)]
   exact (EB (BaJ [4,5] (n.ki.getD 1 default)) _ _).trans (congrArg (_++·) (EB (BaJ [16] (n.ki.getD 0 default)) _ _))
  have el:=congrArg List.length e
  rw[ED,List.length_append,List.length_append] at el
  exact⟨⟨by omega,by omega⟩,⟨by omega,by omega⟩,⟨by omega,by omega⟩,n.ki.getD 1 default,[],UT (kq 1 (by omega)).1 h0 (kq 1 (by omega)).2 (by decide) p2,fun y=>⟨n.ki.getD 0 default,[]++rlP lv (BR (Bj 2 fun i=>[[D.int IntKind.i64 4],[D.int IntKind.i64 5]].getD i []) (n.ki.getD 1 default)),Es (kq 0 (by omega)).1 h0 (kq 0 (by omega)).2 (by decide) (by rw[i2,List.nil_append];omega) rfl (fun _ _=>rfl) p1,
   fun y2=>⟨n.ki.getD 2 default,[]++rlP lv (BR (Bj 2 fun i=>[[D.int IntKind.i64 4],[D.int IntKind.i64 5]].getD i []) (n.ki.getD 1 default))++rlP lv (BR (Bj 1 fun i=>[[D.int IntKind.i64 16]].getD i []) (n.ki.getD 0 default)),Es (kq 2 (by omega)).1 h0 (kq 2 (by omega)).2 (by decide) (by rw[i2,i1,List.nil_append,List.length_append];omega) rfl (fun _ _=>rfl) CQ,C5 (by rw[i2,i1,IB,e,List.nil_append,List.append_assoc])⟩⟩⟩
 ·have hL:n.ki.length=2:=L2 (.inr k)
  have e:rlP lv (ptN n)=rlP lv (BR [16] (n.ki.getD 1 default))++rlP lv (ptN (n.ki.getD 0 default)):=by
   rw[Gj,if_neg n3,if_neg n4,if_neg n5,if_neg (by omega),if_pos k,pg 0 (by omega),pg 1 (by omega)]
   exact EB (BaJ [16] (n.ki.getD 1 default)) _ _
  have el:=congrArg List.length e
  rw[ED,List.length_append] at el
  exact⟨⟨by omega,by omega⟩,⟨by omega,by omega⟩,n.ki.getD 1 default,[],UT (kq 1 (by omega)).1 h0 (kq 1 (by omega)).2 (by decide) p1,fun y=>⟨n.ki.getD 0 default,[]++rlP lv (BR (Bj 1 fun i=>[[D.int IntKind.i64 16]].getD i []) (n.ki.getD 1 default)),Es (kq 0 (by omega)).1 h0 (kq 0 (by omega)).2 (by decide) (by rw[i1,List.nil_append];omega) rfl (fun _ _=>rfl) CQ,C5 (by rw[i1,IB,e,List.nil_append])⟩⟩
 ·have hL:n.ki.length=3:=L3 (.inr k)
  have e:rlP lv (ptN n)=rlP lv (BR [16] (n.ki.getD 1 default))++(rlP lv (ptN (n.ki.getD 0 default))++rlP lv (BR [3,4,5,16,14,15] (n.ki.getD 2 default))):=by
   rw[Gj,if_neg n3,if_neg n4,if_neg n5,if_neg (by omega),if_neg n14,if_pos k,pg 0 (by omega),pg 1 (by omega),pg 2 (by omega)]
   exact (EB (BaJ [16] (n.ki.getD 1 default)) _ _).trans (congrArg (_++·) (EB (Wf _) _ _))
  have el:=congrArg List.length e
  rw[ED,List.length_append,List.length_append] at el
  exact⟨⟨by omega,by omega⟩,⟨by omega,by omega⟩,⟨by omega,by omega⟩,n.ki.getD 1 default,[],UT (kq 1 (by omega)).1 h0 (kq 1 (by omega)).2 (by decide) p1,fun y=>⟨n.ki.getD 0 default,[]++rlP lv (BR (Bj 1 fun i=>[[D.int IntKind.i64 16]].getD i []) (n.ki.getD 1 default)),Es (kq 0 (by omega)).1 h0 (kq 0 (by omega)).2 (by decide) (by rw[i1,List.nil_append];omega) rfl (fun _ _=>rfl) CQ,
   fun y2=>⟨n.ki.getD 2 default,[]++rlP lv (BR (Bj 1 fun i=>[[D.int IntKind.i64 16]].getD i []) (n.ki.getD 1 default))++rlP lv (BR (Bj 0 fun _=>[]) (n.ki.getD 0 default)),Es (kq 2 (by omega)).1 h0 (kq 2 (by omega)).2 (by decide) (by rw[i1,IB,List.nil_append,List.length_append];omega) rfl (fun _ _=>rfl) p6,C5 (by rw[i1,i6,IB,Bmx,e,List.nil_append,List.append_assoc])⟩⟩⟩
 ·have hp:ptN n=n.ki.flatMap (BR [16,4,5]):=by rw[Gj,if_neg n3,if_neg n4,if_neg n5,if_pos k,Bj7]
  rw[hp] at hlen ⊢
  have len:∀i,(EP [16,4,5] lv n.ki i).length<=3500000000000:=fun i=>Nat.le_trans (BaH _ _ _ _) hlen
  intro t
  refine⟨⟨0,t,Nat.zero_le _,⟨rfl,rfl,fun i hi=>absurd hi (by omega),rfl⟩,rfl⟩,?_⟩
  rintro ⟨i,t1⟩ hi
  simp only at hi ⊢
  refine⟨fun hlt=>?_,fun hge=>?_⟩
  ·have hi':i<n.ki.length:=by omega
   have:=len i
   exact⟨⟨by omega,hlt⟩,n.ki.getD i default,EP [16,4,5] lv n.ki i,Es (kq i hi').1 h0 (kq i hi').2 (by decide) (by omega) rfl (fun _ _=>rfl) (p3 _ _ _),BjV hi' hkl (i3 _ _ _)⟩
  ·refine C5 ?_
   unfold EP
   rw[show i=n.ki.length by omega,List.take_length]
 ·have w1:IntKind.i64.wrap (lv+1)=lv+1:=Ba (by omega) (by omega)
  have e:rlP lv (ptN n)=[[123]]++rlP (lv+1) (ptB n.bo)++[[125]]:=by
   rw[Gj,if_neg n3,if_neg n4,if_neg n5,if_neg n16,if_neg n14,if_neg n15,if_pos k]
   exact congrArg ([123]::·) (EB (Bpi n.bo) [.cl] (lv+1))
  have el:=congrArg List.length e
  rw[ED,List.length_append,List.length_append,List.length_cons,List.length_nil] at el
  simp only[w1]
  have rw2:=C8 (a:=1+(rlP (lv+1) (ptB n.bo)).length) (L:=[[123]]++rlP (lv+1) (ptB n.bo)) (r:=[[125]]) (F:=BM 1 (fun i=>[D.str ([[123]].getD (i-0) [])]) fun i=>[D.str ((rlP (lv+1) (ptB n.bo)).getD i [])]) (G:=fun i=>[D.str ([[125]].getD i [])]) (by rw[List.length_append];rfl) (C8 (L:=[[123]]) rfl (fun i hi=>by rw[Nat.sub_zero]) fun _ _=>rfl) fun _ _=>rfl
  rw[<- e] at rw2
  have le1:1+(rlP (lv+1) (ptB n.bo)).length+1=(rlP lv (ptN n)).length:=by rw[e,List.length_append,List.length_append];rfl
  repeat' first
   |exact Be _
   |exact k
   |exact rw2
   |exact le1
   |refine And.intro ?_ ?_
  all_goals omega
 ·have e:rlP lv (ptN n)=[Eq n]:=by
   rw[Gj,if_neg n3,if_neg n4,if_neg n5,if_neg n16,if_neg n14,if_neg n15,if_neg n10,show Eq n=Bt n from if_pos hv]
   rfl
  rw[e]
  exact⟨Bqk n,rfl,C8 (a:=0) (F:=fun _=>[]) (L:=[]) (r:=[Eq n]) rfl (fun i hi=>absurd hi (Nat.not_lt_zero _)) fun _ _=>rfl⟩
theorem TE{n b:Nd}(hv:BU n=0)(hb:b∈BH n)(hvb:Bz b=true):BU b=0:=by
 obtain ⟨h1,h2,_⟩:=BV.1 hv
 have:=TQ n
 have:=MR n
 have:=BbM hb
 have:=UK hb
 exact BV.2 ⟨by omega,by omega,hvb⟩
theorem Bl8{n:Nd}(hv:BU n=0)(hk:n.kd=10){s:Sm}(hs:s∈n.bo):BU s.nd=0/\(s.kd=3->BU s.te=0):=by
 obtain ⟨_,_,hvn⟩:=BV.1 hv
 have h1:=hvn
 rw[CF,Bool.and_eq_true,if_pos hk,Bool.and_eq_true] at h1
 have hb:=h1.2.2
 unfold BP at hb
 rw[Bool.and_eq_true] at hb
 obtain ⟨q1,q2⟩:=Em hb.2 s hs
 have i1:s.nd∈BH n:=List.mem_append.2 (.inr (List.mem_flatMap.2 ⟨s,hs,by unfold Bq;split<;>simp⟩))
 refine⟨TE hv i1 q1,fun h3=>?_⟩
 have i2:s.te∈BH n:=List.mem_append.2 (.inr (List.mem_flatMap.2 ⟨s,hs,by unfold Bq;rw[if_pos h3];simp⟩))
 have hv2:Bz s.te=true:=by
  rcases q2 with ⟨_,q,_⟩ | ⟨q,_⟩
  ·exact q
  ·exact (q h3).elim
 exact TE hv i2 hv2
theorem BoB{n:Nd}(hv:BU n=0)(ho:n.ok)(hk:n.kd=10):(ptB n.bo).length<=3500000000000:=by
 have h:=Bd9 hv ho
 rw[Gj,if_neg (by omega),if_neg (by omega),if_neg (by omega),if_neg (by omega),if_neg (by omega),if_neg (by omega),if_pos hk,List.length_cons,List.length_append] at h
 unfold ptB
 omega
theorem BeF(n:Nd)(hv:BU n=0)(ho:n.ok)(hn:n.sm):RPar n :=
 ⟨fun lv h0 h1=>Bjc (fun b=>(BU b=0/\b.ok/\b.sm)/\SizeOf.sizeOf b<SizeOf.sizeOf n) n lv hv ho hn h0 h1 (fun b hb=>BeF b hb.1.1 hb.1.2.1 hb.1.2.2)
  (fun b hb=>⟨⟨TE hv (BS hb) ((EG (BV.1 hv).2.2).1 b hb),Oc ho b hb,EZ hn (BS hb)⟩,Nd.size_kid hb⟩)
  (fun hk lv h0 h1=>Bc2 (fun b=>(BU b=0/\b.ok/\b.sm)/\SizeOf.sizeOf b<SizeOf.sizeOf n) n.bo lv h0 h1 (Cb hn).2.2 (BoB hv ho hk) (fun b hb=>BeF b hb.1.1 hb.1.2.1 hb.1.2.2) fun s hs =>
   have h2:=Cm (GB hn s hs)
   have o2:=Cq (GG ho s hs)
   have e:=Nd.size_stmt hs
   have e1:=Sm.size_te s
   have e2:=Sm.size_nd s
   have v:=Bl8 hv hk hs
   ⟨⟨⟨v.1,o2.2,h2.2⟩,by omega⟩,fun h3=>⟨⟨v.2 h3,o2.1,h2.1⟩,by omega⟩⟩),Nat.le_trans (Bd9 hv ho) (by decide)⟩
termination_by SizeOf.sizeOf n
decreasing_by
 ·exact hb.2
 ·exact hb.2
theorem BiZ(l:List Sm)(h:B2 l=0)(hl:l.length<=BC)(ho:∀s∈l,s.ok)(hs:∀s∈l,s.sm):CD 22 [gsl 34 Sm.row1 l,.int .i64 0] (ssl (rlP 0 (ptB l)) .any):=by
 have hR:=Gz h
 have:=hR.hz
 refine Bc2 (fun b=>BU b=0/\b.ok/\b.sm) l 0 (by omega) (by omega) hl (Nat.le_trans (TO hR ho) (by decide)) (fun b hb=>BeF b hb.1 hb.2.1 hb.2.2) fun s hm=>?_
 obtain ⟨_,c,k3,_⟩:=UP hR hm
 exact⟨⟨c,(Cq (ho s hm)).2,(Cm (hs s hm)).2⟩,fun h3=>absurd h3 k3⟩
def BkI:Con:=fun k ds S=>match k with
 |16=>match ds with
  | [.str _,.str _]=>some (pA ds S (.bool true) True)
  |_=>none
 |17=>match ds with
  | [.int .i64 lv]=>some (pA ds S (.str (Gi lv)) (0<=lv/\lv<=100000))
  |_=>none
 |24=>match ds with
  | [.str a,.str b]=>some (pA ds S (.bool (Ea a b)) (a≠[]/\b≠[]/\a.length<=100000000000000))
  |_=>none
 |26=>match ds with
  | [.int .i64 _]=>some (pA ds S (.str [59]) True)
  |_=>none
 |_=>none
theorem BdB:ConOk Tryz.prog BkI:=by
 intro k ds S A hh
 unfold BkI at hh
 split at hh
 ·split at hh
  ·injection hh with hh;subst hh
   exact Bo fun _=>CD.at_ (Bp5 _ _) _
  ·cases hh
 ·split at hh
  ·injection hh with hh;subst hh
   exact Bo fun ⟨h0,h1⟩=>CD.at_ (Bqt _ h0 h1) _
  ·cases hh
 ·split at hh
  ·injection hh with hh;subst hh
   exact Bo fun ⟨h0,h1,h2⟩=>CD.at_ (Bqd _ _ h0 h1 h2) _
  ·cases hh
 ·split at hh
  ·injection hh with hh;subst hh
   exact Bo fun _=>CD.at_ (Bqp _) _
  ·cases hh
 ·cases hh
def wrO(cmp:Bool)(o last:List UInt8)(lv:Int)(y:List UInt8):List UInt8:=if y=[59] then o++(bif cmp then [59] else Gi lv) else o++blB cmp last y++y
def wrL(y:List UInt8):List UInt8:=if y=[59] then [] else y
def wrV(lv:Int)(y:List UInt8):Int:=if y=[123] then lv+1 else if y=[125] then lv-1 else lv
def wrC(k kt x t:Nat)(o last:List UInt8)(lv:Int):St:=⟨[(k,x,.bldx 52 5 (bsl o (.tok kt t)) [.str last,.int .i64 lv])],[(kt,t)]⟩
def sWr(bl ln:Nat)(cmp:Bool)(k kt x t:Nat)(o last:List UInt8)(lv:Int)(y:List UInt8):FnSpec where
 β:=Unit
 α:=Nat
 args:=fun _=>[.ref k x 0,.str y,.fn (.func bl) [] [],.fn (.func ln) [] []]
 st:=fun _=>wrC k kt x t o last lv
 pre:=fun _=>True
 post:=fun _ _=>True
 res:=fun _ _=>.ret (.tup [])
 out:=fun _ t'=>wrC k kt x t' (wrO cmp o last lv y) (wrL y) (wrV lv y)
theorem Gu(t x:Nat)(l:List UInt8):Or [(0,t)] x x 52 5 0 t l.length (fun i=>[.int .u8 ((l.getD i 0).toNat:Int)]):=⟨rfl,rfl,rfl,rfl,IV l⟩
theorem wA{t x:Nat}{o y V:List UInt8}{Q:Prop}(ho:o.length+y.length<=100000000000000)(hV:o++[32]++y=V)(q:Q):((Or [(0,t)] x x 52 5 0 t o.length fun i=>[D.int .u8 ((o.getD i 0).toNat:Int)])/\((0:Int)<=32/\(32:Int)<=255)/\o.length+1<=140737488355328)/\∀t2:Nat,((Or [(0,t2)] x x 52 5 0 t2 (o++[32]).length fun i=>[D.int .u8 (((o++[32]).getD i 0).toNat:Int)])/\(o++[32]).length+y.length<=140737488355328)/\∀t3:Nat,∃t4:Nat,(((o++[32]++y).length=V.length/\(∀i,i<(o++[32]++y).length->[D.int .u8 (((o++[32]++y).getD i 0).toNat:Int)]=[D.int .u8 ((V.getD i 0).toNat:Int)])/\t3=t4)/\Q)/\t3=t4:=by
 subst hV
 exact⟨⟨Gu t x o,⟨by omega,by omega⟩,by omega⟩,fun t2=>⟨⟨Gu t2 x _,by simp only[List.length_append,List.length_cons,List.length_nil];omega⟩,fun t3=>⟨t3,⟨⟨rfl,fun _ _=>rfl,rfl⟩,q⟩,rfl⟩⟩⟩
theorem wB{t x:Nat}{o y V:List UInt8}{Q:Prop}(ho:o.length+y.length<=100000000000000)(hV:o++y=V)(q:Q):((Or [(0,t)] x x 52 5 0 t o.length fun i=>[D.int .u8 ((o.getD i 0).toNat:Int)])/\o.length+y.length<=140737488355328)/\∀t3:Nat,∃t4:Nat,(((o++y).length=V.length/\(∀i,i<(o++y).length->[D.int .u8 (((o++y).getD i 0).toNat:Int)]=[D.int .u8 ((V.getD i 0).toNat:Int)])/\t3=t4)/\Q)/\t3=t4:=by
 subst hV
 exact⟨⟨Gu t x o,by omega⟩,fun t3=>⟨t3,⟨⟨rfl,fun _ _=>rfl,rfl⟩,q⟩,rfl⟩⟩
noncomputable def Ewr:Senv:={ EC (BgJ BkI) 71 4 [8,24,34,57] (fun id=>match id with | 1=>([0,1,2,3,4,5,6,7,8,9],[8,9]) | _=>([],[])) with mg:=fun _=>2 }
def QmD(a b:Nat)(c:List UInt8):Prop:=Or [(N0,a)] b b (52:Nat) (5:Nat) N0 a (LN c) fun i=>[ZB (BI c i)]
def QmE(a:List UInt8):List UInt8:=bytesOf (LN a) fun i=>[ZB (BI a i)]
def QLg(a:List UInt8)(b:Int):List UInt8:=QmE a++Gi b
def QLh(a:List UInt8)(b:Int):Nat:=LN (QLg a b)
def QmF(a b:List UInt8)(c:Int)(d:List UInt8)(e:Nat):List D:=[ZB (BI (wrO false a b c d) e)]
def QmG(a b:Nat)(c:List UInt8):Prop:=(QmD a b c/\(Z0<=32/\(32:Int)<=255)/\LN c+N1<=140737488355328)/\True
def QLi(a:List UInt8):List UInt8:=QmE a++[Cu (32:Int)]
def QmH(a:List UInt8):Nat:=LN (QLi a)
def QLj(a:List UInt8)(b:Nat):List D:=[ZB (BI (QLi a) b)]
def QmI(a b:Nat)(c d:List UInt8):Prop:=((Or [(N0,a)] b b (52:Nat) (5:Nat) N0 a (QmH c) fun i=>QLj c i)/\QmH c+LN d<=140737488355328)/\True
def QLk(a b:List UInt8):List UInt8:=(bytesOf (QmH a) fun i=>QLj a i)++b
def QLl(a b:List UInt8):Nat:=LN (QLk a b)
def QmJ(a b c:List UInt8)(d:Int)(e f:Nat):Prop:=QLl a b=LN (wrO false a c d b)/\(∀(i:Nat),i<QLl a b->[ZB (BI (QLk a b) i)]=QmF a c d b i)/\e=f
def QmK(a:List UInt8):Prop:=a=wrL a
def QLm(a:List UInt8)(b:Int):Prop:=QmK a/\IntKind.wrap IntKind.i64 (b+Z1)=wrV b a/\True
def QmL(a b:Nat)(c d:List UInt8):Prop:=(QmD a b c/\LN c+LN d<=140737488355328)/\True
def QLn(a b:List UInt8):List UInt8:=QmE a++b
def QLo(a b:List UInt8):Nat:=LN (QLn a b)
def QmM(a b c:List UInt8)(d:Int)(e f:Nat):Prop:=QLo a b=LN (wrO false a c d b)/\(∀(i:Nat),i<QLo a b->[ZB (BI (QLn a b) i)]=QmF a c d b i)/\e=f
def QLp(a:List UInt8)(b:Int):Prop:=QmK a/\IntKind.wrap IntKind.i64 (b-Z1)=wrV b a/\True
def QLq(a:List UInt8)(b:Int):Prop:=QmK a/\b=wrV b a/\True
theorem Bo7(x t : Nat)(o last y : List UInt8)(lv : Int)(_hy : y≠[])(h0 : 0<=lv)(h1 : lv<=90000)(ho : o.length+y.length<=100000000000000) :
  ACalls Tryz.prog 15 ((sWr 16 17 false 0 0 x t o last lv y).args ()) ((sWr 16 17 false 0 0 x t o last lv y).st ()) (SpecR (sWr 16 17 false 0 0 x t o last lv y) ()):=by
 refine Bg (A:=sWr 16 17 false 0 0 x t o last lv y) (x:=()) (E:=Ewr) (eOk (Wh BdB) rfl) Tryz.func15 rfl (by kernel_rfl) rfl (by simp[sWr,Ewr,EC,E0]) ?_
 refine Bi (T :=
  ifB (y==[(59:UInt8)]) (SM x/\∃(x_1:Unit),(Z0<=lv/\lv<=100000)/\∀(y_1:Unit),True->((QmD t x o/\LN o+LN (Gi lv)<=140737488355328)/\True)/\∀(y_2:Nat),True->SM x/\True/\∃(y_3:Nat),True/\True/\(SM x/\((QLh o lv=LN (wrO false o last lv y)/\(∀(i:Nat),i<QLh o lv->[ZB (BI (QLg o lv) i)]=QmF o last lv y i)/\y_2=y_3)/\Cv (List UInt8) [] (wrL y)/\lv=wrV lv y/\True)/\True)/\y_2=y_3/\True) (ifB (y==[(123:UInt8)]) (SM x/\SM x/\SM x/\ifB (last != []) (SM x/\∃(x_1:Unit),True/\∀(y_1:Unit),True->QmG t x o/\∀(y_2:Nat),True->QmI y_2 x o y/\∀(y_3:Nat),True->SM x/\True/\∃(y_4:Nat),True/\True/\(SM x/\(QmJ o y last lv y_3 y_4/\QLm y lv)/\True)/\y_3=y_4/\True) (QmL t x o y/\∀(y_1:Nat),True->SM x/\True/\∃(y_2:Nat),True/\True/\(SM x/\(QmM o y last lv y_1 y_2/\QLm y lv)/\True)/\y_1=y_2/\True)) (ifB (y==[(125:UInt8)]) (SM x/\SM x/\SM x/\ifB (last != []) (SM x/\∃(x_1:Unit),True/\∀(y_1:Unit),True->QmG t x o/\∀(y_2:Nat),True->QmI y_2 x o y/\∀(y_3:Nat),True->SM x/\True/\∃(y_4:Nat),True/\True/\(SM x/\(QmJ o y last lv y_3 y_4/\QLp y lv)/\True)/\y_3=y_4/\True) (QmL t x o y/\∀(y_1:Nat),True->SM x/\True/\∃(y_2:Nat),True/\True/\(SM x/\(QmM o y last lv y_1 y_2/\QLp y lv)/\True)/\y_1=y_2/\True)) (SM x/\ifB (last != []) (SM x/\∃(x_1:Unit),True/\∀(y_1:Unit),True->QmG t x o/\∀(y_2:Nat),True->QmI y_2 x o y/\∀(y_3:Nat),True->SM x/\True/\∃(y_4:Nat),True/\True/\(SM x/\(QmJ o y last lv y_3 y_4/\QLq y lv)/\True)/\y_3=y_4/\True) (QmL t x o y/\∀(y_1:Nat),True->SM x/\True/\∃(y_2:Nat),True/\True/\(SM x/\(QmM o y last lv y_1 y_2/\QLq y lv)/\True)/\y_1=y_2/\True))))) (by kernel_rfl) ?_
 delta BI LN N0 N1 SM U0 Z0 Z1 ZB QmD QmE QLk QLl QmJ QmK QLm QmL QLn QLo QmM QLp QLg QLq QLh QmF QmG QLi QmH QLj QmI
 simp only[eq_self,ne_eq,Bf,true_and,and_true,beq_iff_eq,bne_iff_ne,bne_eq_false_iff_eq,beq_eq_false_iff_ne,exists_const,forall_const]
 have e32:Cu 32=32:=rfl
 simp only[CL,e32]
 have hO0:y=[59]->o++Gi lv=wrO false o last lv y:=fun e=>by rw[wrO,if_pos e];rfl
 have hO1:¬y=[59]->¬last=[]->o++[32]++y=wrO false o last lv y:=fun e h=>by
  rw[wrO,if_neg e,blB]
  cases last with
  |nil=>exact absurd rfl h
  |cons a b=>rfl
 have hO2:¬y=[59]->last=[]->o++y=wrO false o last lv y:=fun e h=>by
  rw[wrO,if_neg e,blB,h]
  exact congrArg (·++y) (List.append_nil o).symm
 have hL:¬y=[59]->y=wrL y:=fun e=>by rw[wrL,if_neg e]
 have hg:(Gi lv).length<=200001:=by unfold Gi;rw[List.length_cons,List.length_replicate];omega
 have v1:y=[123]->IntKind.i64.wrap (lv+1)=wrV lv y:=fun e=>by rw[wrV,if_pos e,Ba (by omega) (by omega)]
 have v2:¬y=[123]->y=[125]->IntKind.i64.wrap (lv-1)=wrV lv y:=fun n e=>by rw[wrV,if_neg n,if_pos e,Ba (by omega) (by omega)]
 have v3:¬y=[123]->¬y=[125]->lv=wrV lv y:=fun n e=>by rw[wrV,if_neg n,if_neg e]
 refine⟨fun e=>⟨⟨h0,by omega⟩,⟨Gu t x o,by omega⟩,fun t2=>⟨t2,⟨⟨by rw[hO0 e],fun i _=>by rw[hO0 e],rfl⟩,?_,?_⟩,rfl⟩⟩,fun ne=>⟨fun e1=>⟨fun h=>wA ho (hO1 ne h) ⟨hL ne,v1 e1⟩,fun h=>wB ho (hO2 ne h) ⟨hL ne,v1 e1⟩⟩,fun n1=>⟨fun e2=>⟨fun h=>wA ho (hO1 ne h) ⟨hL ne,v2 n1 e2⟩,fun h=>wB ho (hO2 ne h) ⟨hL ne,v2 n1 e2⟩⟩,fun n2=>⟨fun h=>wA ho (hO1 ne h) ⟨hL ne,v3 n1 n2⟩,fun h=>wB ho (hO2 ne h) ⟨hL ne,v3 n1 n2⟩⟩⟩⟩⟩
 ·rw[wrL,if_pos e]
 ·rw[e];rfl
def QmN(a b:Nat)(c:List UInt8):Prop:=Or [(N0,a)] b b (52:Nat) (5:Nat) N0 a (LN c) fun i=>[ZB (BI c i)]
def QmO(a:List UInt8):List UInt8:=bytesOf (LN a) fun i=>[ZB (BI a i)]
def QLr(a:List UInt8):List UInt8:=QmO a++[59]
def QLs(a:List UInt8):Nat:=LN (QLr a)
def QmP(a b:List UInt8)(c:Int)(d:List UInt8)(e:Nat):List D:=[ZB (BI (wrO true a b c d) e)]
def QmQ(a b:List UInt8):Prop:=a≠[]/\b≠[]/\LN a<=100000000000000
def QmR(a b:Nat)(c:List UInt8):Prop:=(QmN a b c/\(Z0<=32/\(32:Int)<=255)/\LN c+N1<=140737488355328)/\True
def QLt(a:List UInt8):List UInt8:=QmO a++[Cu (32:Int)]
def QmS(a:List UInt8):Nat:=LN (QLt a)
def QLu(a:List UInt8)(b:Nat):List D:=[ZB (BI (QLt a) b)]
def QmT(a b:Nat)(c d:List UInt8):Prop:=((Or [(N0,a)] b b (52:Nat) (5:Nat) N0 a (QmS c) fun i=>QLu c i)/\QmS c+LN d<=140737488355328)/\True
def QLv(a b:List UInt8):List UInt8:=(bytesOf (QmS a) fun i=>QLu a i)++b
def QLw(a b:List UInt8):Nat:=LN (QLv a b)
def QmU(a b c:List UInt8)(d:Int)(e f:Nat):Prop:=QLw a b=LN (wrO true a c d b)/\(∀(i:Nat),i<QLw a b->[ZB (BI (QLv a b) i)]=QmP a c d b i)/\e=f
def QmV(a:List UInt8):Prop:=a=wrL a
def QLx(a:List UInt8)(b:Int):Prop:=QmV a/\IntKind.wrap IntKind.i64 (b+Z1)=wrV b a/\True
def QmW(a b:Nat)(c d:List UInt8):Prop:=(QmN a b c/\LN c+LN d<=140737488355328)/\True
def QLy(a b:List UInt8):List UInt8:=QmO a++b
def QLz(a b:List UInt8):Nat:=LN (QLy a b)
def QmX(a b c:List UInt8)(d:Int)(e f:Nat):Prop:=QLz a b=LN (wrO true a c d b)/\(∀(i:Nat),i<QLz a b->[ZB (BI (QLy a b) i)]=QmP a c d b i)/\e=f
def QLA(a b:Nat)(c d e:List UInt8)(f:Int):Prop:=QmW a b c d/\∀(y:Nat),True->SM b/\True/\∃(y_1:Nat),True/\True/\(SM b/\(QmX c d e f y y_1/\QLx d f)/\True)/\y=y_1/\True
def QLB(a:List UInt8)(b:Int):Prop:=QmV a/\IntKind.wrap IntKind.i64 (b-Z1)=wrV b a/\True
def QLC(a b:Nat)(c d e:List UInt8)(f:Int):Prop:=QmW a b c d/\∀(y:Nat),True->SM b/\True/\∃(y_1:Nat),True/\True/\(SM b/\(QmX c d e f y y_1/\QLB d f)/\True)/\y=y_1/\True
def QLD(a:List UInt8)(b:Int):Prop:=QmV a/\b=wrV b a/\True
def QLE(a b:Nat)(c d e:List UInt8)(f:Int):Prop:=QmW a b c d/\∀(y:Nat),True->SM b/\True/\∃(y_1:Nat),True/\True/\(SM b/\(QmX c d e f y y_1/\QLD d f)/\True)/\y=y_1/\True
theorem BoR(x t : Nat)(o last y : List UInt8)(lv : Int)(hy : y≠[])(h0 : 0<=lv)(h1 : lv<=90000)(ho : o.length+y.length<=100000000000000)(hla : last.length<=100000000000000) :
  ACalls Tryz.prog 15 ((sWr 24 26 true 0 0 x t o last lv y).args ()) ((sWr 24 26 true 0 0 x t o last lv y).st ()) (SpecR (sWr 24 26 true 0 0 x t o last lv y) ()):=by
 refine Bg (A:=sWr 24 26 true 0 0 x t o last lv y) (x:=()) (E:=Ewr) (eOk (Wh BdB) rfl) Tryz.func15 rfl (by kernel_rfl) rfl (by simp[sWr,Ewr,EC,E0]) ?_
 refine Bi (T :=
  ifB (y==[(59:UInt8)]) (SM x/\∃(x_1:Unit),True/\∀(y_1:Unit),True->((QmN t x o/\LN o+N1<=140737488355328)/\True)/\∀(y_2:Nat),True->SM x/\True/\∃(y_3:Nat),True/\True/\(SM x/\((QLs o=LN (wrO true o last lv y)/\(∀(i:Nat),i<QLs o->[ZB (BI (QLr o) i)]=QmP o last lv y i)/\y_2=y_3)/\Cv (List UInt8) [] (wrL y)/\lv=wrV lv y/\True)/\True)/\y_2=y_3/\True) (ifB (y==[(123:UInt8)]) (SM x/\SM x/\SM x/\ifB (last != []) (SM x/\∃(x_1:Unit),QmQ last y/\∀(y_1:Unit),True->ifB (Ea last y) (QmR t x o/\∀(y_2:Nat),True->QmT y_2 x o y/\∀(y_3:Nat),True->SM x/\True/\∃(y_4:Nat),True/\True/\(SM x/\(QmU o y last lv y_3 y_4/\QLx y lv)/\True)/\y_3=y_4/\True) (QLA t x o y last lv)) (QLA t x o y last lv)) (ifB (y==[(125:UInt8)]) (SM x/\SM x/\SM x/\ifB (last != []) (SM x/\∃(x_1:Unit),QmQ last y/\∀(y_1:Unit),True->ifB (Ea last y) (QmR t x o/\∀(y_2:Nat),True->QmT y_2 x o y/\∀(y_3:Nat),True->SM x/\True/\∃(y_4:Nat),True/\True/\(SM x/\(QmU o y last lv y_3 y_4/\QLB y lv)/\True)/\y_3=y_4/\True) (QLC t x o y last lv)) (QLC t x o y last lv)) (SM x/\ifB (last != []) (SM x/\∃(x_1:Unit),QmQ last y/\∀(y_1:Unit),True->ifB (Ea last y) (QmR t x o/\∀(y_2:Nat),True->QmT y_2 x o y/\∀(y_3:Nat),True->SM x/\True/\∃(y_4:Nat),True/\True/\(SM x/\(QmU o y last lv y_3 y_4/\QLD y lv)/\True)/\y_3=y_4/\True) (QLE t x o y last lv)) (QLE t x o y last lv))))) (by kernel_rfl) ?_
 delta BI LN N0 N1 SM U0 Z0 Z1 ZB QmN QmO QLr QLs QmP QmQ QmR QLt QmS QLu QmT QLv QLw QmU QmV QLx QmW QLy QLz QmX QLA QLB QLC QLD QLE
 simp only[eq_self,ne_eq,Bf,true_and,and_true,beq_iff_eq,bne_iff_ne,bne_eq_false_iff_eq,beq_eq_false_iff_ne,exists_const,forall_const]
 have e32:Cu 32=32:=rfl
 simp only[CL,e32]
 have hO0:y=[59]->o++[59]=wrO true o last lv y:=fun e=>by rw[wrO,if_pos e];rfl
 have hO1:¬y=[59]->¬last=[]->Ea last y=true->o++[32]++y=wrO true o last lv y:=fun e h hn=>by
  rw[wrO,if_neg e,blB,hn]
  cases last with
  |nil=>exact absurd rfl h
  |cons a b=>rfl
 have hO2:¬y=[59]->last=[]->o++y=wrO true o last lv y:=fun e h=>by
  rw[wrO,if_neg e,blB,h]
  exact congrArg (·++y) (List.append_nil o).symm
 have hO3:¬y=[59]->Ea last y=false->o++y=wrO true o last lv y:=fun e h=>by
  rw[wrO,if_neg e,blB,h]
  simp
 have hL:¬y=[59]->y=wrL y:=fun e=>by rw[wrL,if_neg e]
 have v1:y=[123]->IntKind.i64.wrap (lv+1)=wrV lv y:=fun e=>by rw[wrV,if_pos e,Ba (by omega) (by omega)]
 have v2:¬y=[123]->y=[125]->IntKind.i64.wrap (lv-1)=wrV lv y:=fun n e=>by rw[wrV,if_neg n,if_pos e,Ba (by omega) (by omega)]
 have v3:¬y=[123]->¬y=[125]->lv=wrV lv y:=fun n e=>by rw[wrV,if_neg n,if_neg e]
 have hy':¬y=[]:=hy
 refine⟨fun e=>⟨⟨Gu t x o,by omega⟩,fun t2=>⟨t2,⟨⟨by rw[hO0 e],fun i _=>by rw[hO0 e],rfl⟩,?_,?_⟩,rfl⟩⟩,fun ne=>⟨fun e1=>⟨fun h=>⟨⟨h,hy',hla⟩,fun hn=>wA ho (hO1 ne h hn) ⟨hL ne,v1 e1⟩,fun hn=>wB ho (hO3 ne hn) ⟨hL ne,v1 e1⟩⟩,fun h=>wB ho (hO2 ne h) ⟨hL ne,v1 e1⟩⟩,fun n1=>⟨fun e2=>⟨fun h=>⟨⟨h,hy',hla⟩,fun hn=>wA ho (hO1 ne h hn) ⟨hL ne,v2 n1 e2⟩,fun hn=>wB ho (hO3 ne hn) ⟨hL ne,v2 n1 e2⟩⟩,fun h=>wB ho (hO2 ne h) ⟨hL ne,v2 n1 e2⟩⟩,fun n2=>⟨fun h=>⟨⟨h,hy',hla⟩,fun hn=>wA ho (hO1 ne h hn) ⟨hL ne,v3 n1 n2⟩,fun hn=>wB ho (hO3 ne hn) ⟨hL ne,v3 n1 n2⟩⟩,fun h=>wB ho (hO2 ne h) ⟨hL ne,v3 n1 n2⟩⟩⟩⟩⟩
 ·rw[wrL,if_pos e]
 ·rw[e];rfl
theorem BnA(bl ln : Nat)(cmp : Bool)(k kt x t : Nat){o last y : List UInt8}{lv : Int}(h : ACalls Tryz.prog 15 ((sWr bl ln cmp 0 0 x t o last lv y).args ()) ((sWr bl ln cmp 0 0 x t o last lv y).st ()) (SpecR (sWr bl ln cmp 0 0 x t o last lv y) ())) :
  ACalls Tryz.prog 15 ((sWr bl ln cmp k kt x t o last lv y).args ()) ((sWr bl ln cmp k kt x t o last lv y).st ()) (SpecR (sWr bl ln cmp k kt x t o last lv y) ()):=by
 refine h.respec (A':=sWr bl ln cmp k kt x t o last lv y) (x':=()) ?_ ?_ fun y _=>⟨y,trivial,?_,?_⟩
 ·simp[sWr,BD,Bn,chk]
 ·simp[sWr,wrC,BaL,RC,Ba2,GC,BD,Bn,chk,bsl,BG,Tt,kEq]
 ·simp[sWr,MO,Bp]
 ·simp[sWr,wrC,BaL,RC,Ba2,GC,BD,Bn,chk,bsl,BG,Tt,kEq]<;>try rfl
def okC(n:Nd):Prop:=BU n=0/\n.ok/\n.sm
def Blm:Con:=fun k ds S=>match k with
 |34=>some (pE (β:=Nd) ds S (fun n=>ssl (ptX n) .any) (fun n=>isN n ds []/\okC n))
 |_=>none
theorem BkS:ConOk Tryz.prog Blm:=by
 intro k ds S A hh
 unfold Blm at hh
 split at hh
 ·injection hh with hh;subst hh
  exact Co fun n ⟨e,h1,h2,h3⟩=>CD.at_ (CD.wk (Bqg n h1 h2 h3) e) _
 ·cases hh
def Iw(l:List Sm)(i:Nat):List (List UInt8):=(ptB (l.take i)).map prT
theorem Be3{l:List Sm}{i:Nat}(h:i<l.length)(k3:(l.getD i default).kd≠3):Iw l (i+1)=Iw l i++((if 0<i then [[59]] else [])++if (l.getD i default).kd=2 then (l.getD i default).nm::[60,45]::ptX (l.getD i default).nd else ptX (l.getD i default).nd):=by
 unfold Iw ptB
 rw[Bdz ptM h,List.map_append,List.map_append,IE,if_neg k3]
 congr 1
 split<;>split<;>rfl
noncomputable def Epg(l:List Sm):Senv:={ EC Blm 34 6 [7,8,9,10,15,21] (fun _=>([],[])) with
 mg:=fun _=>2
 gh:=fun b=>match b with
  |0=>[.slot 3]
  |_=>[]
 ann:=fun b _ S=>match b with
  |0=>some { slots:=[9,3],keep:=[0,1,7,8],α:=Nat×Nat,st:=fun y=>([.int .i64 y.1,ssl (Iw l y.1) (.tok 0 y.2)],⟨S.objs,[(0,y.2)]⟩),inv:=fun y=>y.1<=l.length,mu:=fun y=>l.length-y.1 }
  |_=>none }
def QH(a:List Sm)(b:Nat):Nat:=LN (Iw a b)
def JY(a:List Sm)(b c:Nat):List D:=[D.str (List.getD (Iw a b) c [])]
def QfB:Arr:=DA
def H5:Nd:=Nd.mk Z0 Z0 Z0 [] Z0 Z0 QfB [] [] Z0 Z0 Z0
def H6:Sm:=Sm.mk Z0 Z0 [] Z0 H5 H5
def Y4(a:List Sm)(b:Nat):Sm:=List.getD a b H6
def QLL(a:List Sm)(b:Nat):List D:=(Sm.row1 (Y4 a b))
def H7(a:Nat)(b:List Sm)(c d:Nat):Prop:=(SM a/\((SM (LN b)/\(∀(i:Nat),i<LN b->SM (QLL b i))/\True)/\True)/\True)/\c=d/\True
def Y5(a:List Sm)(b:Nat):Nat:=QH a b+N1
def QmY(a:List Sm)(b:Nat):Sm:=List.getD a (Int.toNat (↑b:Int)) H6
def QLM(a:List Sm)(b:Nat):Bool:=Sm.kd (QmY a b)==2
def QfE(a:List Sm)(b:Nat):Nat:=Y5 a b+N2
def Jq(a:List Sm)(b:Nat):Nd:=Sm.nd (QmY a b)
def QfG(a:Nd)(b:List Sm)(c:Nat):Prop:=isN a [D.agg (Nd.rowE (Jq b c))] []/\okC a
def QfH(a:Nd):Nat:=LN (ptX a)
def QfI(a:List Sm)(b:Nat)(c:Nd):Nat:=QfE a b+QfH c
def QLQ(a:List Sm):D:=D.sl 34 (LN a) (fun i=>QLL a i) Mode.any
def QSJ(a:List Sm):D:=D.agg [QLQ a]
def QfJ(a:List Sm)(b:Nat):Prop:=SM (QSJ a)/\SM (D.ref N0 b N0)/\SM (QLQ a)/\SM (ZI (LI a))/\True
def QfK(a b:Nat):Prop:=IntKind.wrap IntKind.i64 ((↑a:Int)+Z1)=(↑b:Int)
def QLR(a:List Sm)(b c:Nat):List D:=[D.str (List.getD [Sm.nm (QmY a b),[(60:UInt8),(45:UInt8)]] c [])]
def QfL(a:Nd)(b:Nat):List D:=[D.str (List.getD (ptX a) b [])]
def QfM(a:List Sm)(b:Nat)(c:Nd):Nat:=Y5 a b+QfH c
def QfN(a:List Sm)(b:Nat):Nat:=QH a b+N2
def QfO(a:List Sm)(b:Nat)(c:Nd):Nat:=QfN a b+QfH c
def QfP(a:List Sm)(b:Nat)(c:Nd):Nat:=QH a b+QfH c
theorem BqG(l:List Sm)(h:B2 l=0)(hl:l.length<=BC)(ho:∀s∈l,s.ok)(hs:∀s∈l,s.sm):CD 14 [.agg [gsl 34 Sm.row1 l]] (ssl ((ptB l).map prT) .any):=by
 refine Bg (A:=sC _ _) (x:=()) (E:=Epg l) (eOk BkS rfl) Tryz.func14 rfl (by kernel_rfl) rfl (by simp[sC,Epg,EC,E0]) ?_
 refine Bi (T :=
  ∀(x:Nat),True->SM x/\∀(t:Nat),(∃(x_1:Nat×Nat),x_1.1<=LN l/\(Z0=(NI x_1.1)/\(N0=QH l x_1.1/\(∀(i:Nat),i<N0->Cv (List D) [] (JY l x_1.1 i))/\t=x_1.2)/\True)/\H7 x l t x_1.2)/\∀(x_1:Nat×Nat),x_1.1<=LN l->ifB (decide ((NI x_1.1)<(LI l))) (Bc (Z0<=(NI x_1.1)/\(NI x_1.1)<(LI l)) (∀(x_2:Nat),x≠x_2/\True->SM x_2/\ifB (decide (Z0<(NI x_1.1))) (SM x_1.2/\Bc (Y5 l x_1.1*16<=140737488355328/\Y5 l x_1.1<=9223372036854775807) (∀(t:Nat),SM x_2/\ifB (QLM l x_1.1) (SM x_2/\SM t/\Bc (QfE l x_1.1*16<=140737488355328/\QfE l x_1.1<=9223372036854775807) (∀(t:Nat),SM x_2/\∃(x_3:Nd),QfG x_3 l x_1.1/\∀(y:Unit),True->SM t/\Bc (QfI l x_1.1 x_3*16<=140737488355328/\QfI l x_1.1 x_3<=9223372036854775807) (∀(t:Nat),QfJ l x/\∃(y:Nat×Nat),y.1<=LN l/\LN l-y.1<LN l-x_1.1/\(QfK x_1.1 y.1/\(QfI l x_1.1 x_3=QH l y.1/\(∀(i:Nat),i<QfI l x_1.1 x_3->BM (QfE l x_1.1) (BM (Y5 l x_1.1) (BM (QH l x_1.1) (fun i=>JY l x_1.1 i) fun i=>[D.str (List.getD [[(59:UInt8)]] i [])]) fun i=>QLR l x_1.1 i) (fun i=>QfL x_3 i) i=JY l y.1 i)/\t=y.2)/\True)/\H7 x l t y.2))) (SM x_2/\∃(x_3:Nd),QfG x_3 l x_1.1/\∀(y:Unit),True->SM t/\Bc (QfM l x_1.1 x_3*16<=140737488355328/\QfM l x_1.1 x_3<=9223372036854775807) (∀(t:Nat),QfJ l x/\∃(y:Nat×Nat),y.1<=LN l/\LN l-y.1<LN l-x_1.1/\(QfK x_1.1 y.1/\(QfM l x_1.1 x_3=QH l y.1/\(∀(i:Nat),i<QfM l x_1.1 x_3->BM (Y5 l x_1.1) (BM (QH l x_1.1) (fun i=>JY l x_1.1 i) fun i=>[D.str (List.getD [[(59:UInt8)]] i [])]) (fun i=>QfL x_3 i) i=JY l y.1 i)/\t=y.2)/\True)/\H7 x l t y.2)))) (SM x_2/\ifB (QLM l x_1.1) (SM x_2/\SM x_1.2/\Bc (QfN l x_1.1*16<=140737488355328/\QfN l x_1.1<=9223372036854775807) (∀(t:Nat),SM x_2/\∃(x_3:Nd),QfG x_3 l x_1.1/\∀(y:Unit),True->SM t/\Bc (QfO l x_1.1 x_3*16<=140737488355328/\QfO l x_1.1 x_3<=9223372036854775807) (∀(t:Nat),QfJ l x/\∃(y:Nat×Nat),y.1<=LN l/\LN l-y.1<LN l-x_1.1/\(QfK x_1.1 y.1/\(QfO l x_1.1 x_3=QH l y.1/\(∀(i:Nat),i<QfO l x_1.1 x_3->BM (QfN l x_1.1) (BM (QH l x_1.1) (fun i=>JY l x_1.1 i) fun i=>QLR l x_1.1 i) (fun i=>QfL x_3 i) i=JY l y.1 i)/\t=y.2)/\True)/\H7 x l t y.2))) (SM x_2/\∃(x_3:Nd),QfG x_3 l x_1.1/\∀(y:Unit),True->SM x_1.2/\Bc (QfP l x_1.1 x_3*16<=140737488355328/\QfP l x_1.1 x_3<=9223372036854775807) (∀(t:Nat),QfJ l x/\∃(y:Nat×Nat),y.1<=LN l/\LN l-y.1<LN l-x_1.1/\(QfK x_1.1 y.1/\(QfP l x_1.1 x_3=QH l y.1/\(∀(i:Nat),i<QfP l x_1.1 x_3->BM (QH l x_1.1) (fun i=>JY l x_1.1 i) (fun i=>QfL x_3 i) i=JY l y.1 i)/\t=y.2)/\True)/\H7 x l t y.2))))) (True/\∃(y:Unit),True/\(QH l x_1.1=LN (List.map prT (ptB l))/\(∀(i:Nat),i<QH l x_1.1->JY l x_1.1 i=[D.str (List.getD (List.map prT (ptB l)) i [])])/\True)/\True/\True)) (by kernel_rfl) ?_
 delta DA GI LI LN N0 N1 N2 N4 NI SI SM Z0 Z1 ZI QH JY QfB QLL H7 Y5 QmY QLM QfE Jq H5 QfG QfH QfI QLQ QSJ QfJ QfK H6 QLR QfL QfM QfN QfO QfP Y4
 try simp only[<- dm]
 try simp only[<- dn]
 simp only[ne_eq,implies_true,Int.toNat_natCast,Bf,Bd,decide_eq_true_eq,decide_eq_false_iff_not,true_and,and_true,beq_iff_eq,beq_eq_false_iff_ne,exists_const,forall_const,Prod.exists]
 have hR:=Gz h
 have hpt:=TO hR ho
 unfold BC at hl
 have len:∀i,(Iw l i).length<=3400000000000:=fun i=>by
  have:=Bdv l i
  unfold Iw
  rw[List.length_map]
  omega
 intro xb t
 refine⟨⟨0,t,Nat.zero_le _,⟨rfl,rfl,fun i hi=>absurd hi (by omega),rfl⟩,rfl⟩,?_⟩
 rintro ⟨i,t1⟩ hi
 simp only at hi ⊢
 refine⟨fun hlt=>?_,fun hge=>?_⟩
 ·have hi':i<l.length:=by omega
  have sm:=C4 hi'
  obtain ⟨_,c,k3,_⟩:=UP hR sm
  have ok:okC (l.getD i default).nd:=⟨c,(Cq (ho _ sm)).2,(Cm (hs _ sm)).2⟩
  have st:=Be3 hi' k3
  have e1:=len (i+1)
  have fin:∀(n:Nat) (F:Nat->List D) (L:List (List UInt8)),L=Iw l (i+1)->n=L.length->(∀j,j<n->F j=[D.str (L.getD j [])])->∀t2:Nat,∃a b:Nat,a<=l.length/\l.length-a<l.length-i/\(IntKind.i64.wrap ((i:Int)+1)=(a:Int)/\n=(Iw l a).length/\(∀j,j<n->F j=[D.str ((Iw l a).getD j [])])/\t2=b)/\t2=b:=fun n F L hL hn hF t2=>by
   subst hL
   exact⟨i+1,t2,hi',by omega,⟨Ba (by omega) (by omega),hn,hF,rfl⟩,rfl⟩
  generalize hA:Iw l i=A at *
  generalize hB:Iw l (i+1)=B at *
  refine⟨⟨by omega,hlt⟩,fun x2 _=>⟨fun hp=>⟨?_,fun k2=>?_,fun n2=>?_⟩,fun hp=>⟨fun k2=>?_,fun n2=>?_⟩⟩⟩
  ·have:=congrArg List.length st
   rw[if_pos (by omega)] at this
   simp only[List.length_append,List.length_cons,List.length_nil] at this
   exact⟨by omega,by omega⟩
  ·rw[if_pos (by omega),if_pos k2] at st
   have:=congrArg List.length st
   simp only[List.length_append,List.length_cons,List.length_nil] at this
   refine⟨⟨by omega,by omega⟩,(l.getD i default).nd,⟨Bl _ _,ok⟩,⟨by omega,by omega⟩,fin _ _ (A++[[59]]++[(l.getD i default).nm,[60,45]]++ptX (l.getD i default).nd) (by rw[st];simp) (by simp only[List.length_append,List.length_cons,List.length_nil]) (C8 (by simp only[List.length_append,List.length_cons,List.length_nil]) (C8 (L:=A++[[59]]) (r:=[(l.getD i default).nm,[60,45]]) (by simp only[List.length_append,List.length_cons,List.length_nil]) (EY rfl (fun _ _=>rfl) _) fun _ _=>rfl) fun _ _=>rfl)⟩
  ·rw[if_pos (by omega),if_neg n2] at st
   have:=congrArg List.length st
   simp only[List.length_append,List.length_cons,List.length_nil] at this
   refine⟨(l.getD i default).nd,⟨Bl _ _,ok⟩,⟨by omega,by omega⟩,fin _ _ (A++[[59]]++ptX (l.getD i default).nd) (by rw[st];simp) (by simp only[List.length_append,List.length_cons,List.length_nil]) (C8 (by simp only[List.length_append,List.length_cons,List.length_nil]) (EY rfl (fun _ _=>rfl) _) fun _ _=>rfl)⟩
  ·rw[if_neg (by omega),if_pos k2] at st
   have:=congrArg List.length st
   simp only[List.length_append,List.length_cons,List.length_nil] at this
   refine⟨⟨by omega,by omega⟩,(l.getD i default).nd,⟨Bl _ _,ok⟩,⟨by omega,by omega⟩,fin _ _ (A++[(l.getD i default).nm,[60,45]]++ptX (l.getD i default).nd) (by rw[st];simp) (by simp only[List.length_append,List.length_cons,List.length_nil]) (C8 (by simp only[List.length_append,List.length_cons,List.length_nil]) (C8 (r:=[(l.getD i default).nm,[60,45]]) rfl (fun _ _=>rfl) fun _ _=>rfl) fun _ _=>rfl)⟩
  ·rw[if_neg (by omega),if_neg n2] at st
   have:=congrArg List.length st
   simp only[List.length_append,List.length_nil] at this
   exact⟨(l.getD i default).nd,⟨Bl _ _,ok⟩,⟨by omega,by omega⟩,fin _ _ (A++ptX (l.getD i default).nd) (by rw[st];simp) (by simp only[List.length_append]) (C8 rfl (fun _ _=>rfl) fun _ _=>rfl)⟩
 ·refine C5 ?_
  unfold Iw
  rw[show i=l.length by omega,List.take_length]
def BbE(l:List Sm):Con:=fun k ds S=>match k with
 |13=>some (pA ds S (.int .i64 (B2 l)) (wkL ds [.agg [gsl 34 Sm.row1 l]]))
 |14=>some (pA ds S (ssl ((ptB l).map prT) .any) (wkL ds [.agg [gsl 34 Sm.row1 l]]/\B2 l=0))
 |_=>none
theorem BaC{l:List Sm}(hl:l.length<=BC)(ho:∀s∈l,s.ok)(hs:∀s∈l,s.sm):ConOk Tryz.prog (BbE l):=by
 intro k ds S A hh
 unfold BbE at hh
 split at hh
 ·injection hh with hh;subst hh
  exact Bo fun e=>CD.at_ (CD.wk (Bp4 l hl ho hs) e) _
 ·injection hh with hh;subst hh
  exact Bo fun ⟨e,h⟩=>CD.at_ (CD.wk (BqG l h hl ho hs) e) _
 ·cases hh
def Bdw(o:Nat)(last y:List UInt8)(lv:Int):Prop:=y≠[]/\0<=lv/\lv<=90000/\o+y.length<=100000000000000/\last.length<=100000000000000
def BgD(bl ln:Nat)(cmp:Bool)(base:Con):Con:=fun k ds S=>match k with
 |15=>match ds with
  | [.ref k x 0,.str y,.fn (.func b1) [] [],.fn (.func b2) [] []]=>match BK S.objs k with
   |some (y',.bldx T E (.sl 1 n g (.tok kt t)) [.str last,.int .i64 lv])=>some ((sWr bl ln cmp k kt x t (bytesOf n g) last lv y).fits () (Or S.toks x y' T E kt t n g/\Bdw n last y lv/\b1=bl/\b2=ln))
   |_=>none
  |_=>none
 |k=>BgJ base k ds S
theorem Bc7{bl ln:Nat}{cmp:Bool}{base:Con}(hb:ConOk Tryz.prog base)(h:∀(k kt x t:Nat) (o last y:List UInt8) (lv:Int),Bdw o.length last y lv->ACalls Tryz.prog 15 ((sWr bl ln cmp k kt x t o last lv y).args ()) ((sWr bl ln cmp k kt x t o last lv y).st ()) (SpecR (sWr bl ln cmp k kt x t o last lv y) ())):ConOk Tryz.prog (BgD bl ln cmp base):=by
 intro k ds S A hh
 unfold BgD at hh
 split at hh
 ·split at hh
  ·split at hh
   ·rename_i k x y b1 b2 _ y' T E n g kt t last lv hg
    injection hh with hh;subst hh
    refine⟨fun _ hy=>h k kt x t (bytesOf n g) last y lv (by simpa[bytesOf] using hy.1.2.1),fun _ _ hy=>?_,fun h=>nomatch h⟩
    obtain ⟨⟨⟨h1,h2,h3,h4,h5⟩,_,rfl,rfl⟩,_⟩:=hy
    exact⟨⟨by simp[Bn,chk],Bp _,Bp _,Bp _,trivial⟩,Bb.2 ⟨rfl,OU hg h1 h2 h3 h5,Mc h4⟩⟩
   ·cases hh
  ·cases hh
 ·exact Wh hb _ _ _ _ hh
theorem Bqf(cmp:Bool){p:Pt}(hp:okP p)(s:List UInt8×List UInt8×Int):wrS cmp s p=(wrO cmp s.1 s.2.1 s.2.2 (prT p),wrL (prT p),wrV s.2.2 (prT p)):=by
 cases p with
 |sp=>rfl
 |op=>rfl
 |cl=>rfl
 |tx y =>
  obtain ⟨_,_,h59,h123,h125⟩:=hp
  have n59:¬y=[59]:=fun e=>h59 (by rw[e];rfl)
  have n123:¬y=[123]:=fun e=>h123 (by rw[e];rfl)
  have n125:¬y=[125]:=fun e=>h125 (by rw[e];rfl)
  show wrS cmp s (.tx y)=(wrO cmp s.1 s.2.1 s.2.2 y,wrL y,wrV s.2.2 y)
  rw[wrO,wrL,wrV,if_neg n59,if_neg n59,if_neg n123,if_neg n125]
  rfl
theorem Bf2{ps:List Pt}{p:Pt}(h:p∈ps):(prT p).length+1<=IP ps:=by
 induction ps with
 |nil=>cases h
 |cons x r ih =>
  unfold IP at ih ⊢
  rw[List.map_cons,List.sum_cons]
  rcases List.mem_cons.1 h with rfl | h
  ·omega
  ·have:=ih h;omega
structure WrI (cmp:Bool) (l:List Sm) (i:Nat):Prop where
 ol:(wrF cmp ((ptB l).take i)).1.length<=3400000000000
 ll:(wrF cmp ((ptB l).take i)).2.1.length<=3400000000000
 l0:0<=(wrF cmp ((ptB l).take i)).2.2
 l1:(wrF cmp ((ptB l).take i)).2.2<=90000
theorem BeD(cmp:Bool){l:List Sm}(h:PrR l)(ho:∀s∈l,s.ok){i:Nat}(hi:i<=(ptB l).length):WrI cmp l i:=by
 obtain ⟨f1,f2⟩:=GX cmp (ptB l) i hi
 have b:=(Bpi l).2 i
 have hz:=h.hz
 have n1:=Bjl ((ptB l).take i) 0
 have n2:=BbP (ptB l) i
 have n3:=nbB l
 have s1:=Ud (ptB l)
 have s2:=BbT h ho
 refine⟨Oo h ho cmp i hi,?_,by rw[f1];exact b,by rw[f1];omega⟩
 rw[f2]
 split
 ·rename_i hc
  have hm:(ptB l).getD (i-1) .sp∈ptB l:=by
   rw[List.getD_eq_getElem?_getD,List.getElem?_eq_getElem (show i-1<(ptB l).length by omega)]
   exact List.getElem_mem _
  have:=Bf2 hm
  omega
 ·simp
theorem Bks(cmp:Bool){l:List Sm}(h:PrR l)(ho:∀s∈l,s.ok){i:Nat}(hi:i<(ptB l).length):Bdw (wrF cmp ((ptB l).take i)).1.length (wrF cmp ((ptB l).take i)).2.1 (((ptB l).map prT).getD i []) (wrF cmp ((ptB l).take i)).2.2/\(wrF cmp ((ptB l).take (i+1)))=(wrO cmp (wrF cmp ((ptB l).take i)).1 (wrF cmp ((ptB l).take i)).2.1 (wrF cmp ((ptB l).take i)).2.2 (((ptB l).map prT).getD i []),wrL (((ptB l).map prT).getD i []),wrV (wrF cmp ((ptB l).take i)).2.2 (((ptB l).map prT).getD i [])):=by
 have w:=BeD cmp h ho (i:=i) (by omega)
 have e:((ptB l).map prT).getD i []=prT ((ptB l).getD i .sp):=by simp[List.getD_eq_getElem?_getD,hi]
 have hp:=ON (okB h ho) i
 have hm:(ptB l).getD i .sp∈ptB l:=by
  rw[List.getD_eq_getElem?_getD,List.getElem?_eq_getElem hi]
  exact List.getElem_mem _
 have s1:=Ud (ptB l)
 have s2:=BbT h ho
 have s3:=Bf2 hm
 have w1:=w.ol
 have w2:=w.ll
 rw[e]
 exact⟨⟨Bj1 hp,w.l0,w.l1,by omega,by omega⟩,by rw[IU cmp hi,Bqf cmp hp]⟩
noncomputable def Epi(l:List Sm):Senv:={ EC (BgD 16 17 false (BbE l)) 29 4 [5,14,16,17,18,19] (fun _=>([],[])) with
 mg:=fun _=>2
 bd:=fun t=>match t with
  |52=>some 5
  |_=>none
 ann:=fun b env S=>match b with
  |0=>match Ab.look env 3 with
   |.ref k _ _=>some { slots:=[18],keep:=[0,1,3,16,17],α:=Nat×Nat,st:=fun y=>([.int .i64 y.1],⟨Id S.objs k (.bldx 52 5 (bsl (wrF false ((ptB l).take y.1)).1 (.tok 0 y.2)) [.str (wrF false ((ptB l).take y.1)).2.1,.int .i64 (wrF false ((ptB l).take y.1)).2.2]),[(0,y.2)]⟩),inv:=fun y=>y.1<=(ptB l).length,mu:=fun y=>(ptB l).length-y.1 }
   |_=>none
  |_=>none }
def QmZ:Arr:=DA
def QfQ:Nd:=Nd.mk Z0 Z0 Z0 [] Z0 Z0 QmZ [] [] Z0 Z0 Z0
def Qm0:Sm:=Sm.mk Z0 Z0 [] Z0 QfQ QfQ
def Y6(a:List Sm)(b:Nat):Sm:=List.getD a b Qm0
def QLY(a:List Sm)(b:Nat):List D:=(Sm.row1 (Y6 a b))
def QLZ(a:List Sm):D:=D.agg [D.sl 34 (LN a) (fun i=>QLY a i) Mode.any]
def QL0(a:List Sm):List D:=[QLZ a]
def QL1(a:List Sm):Prop:=wkL (QL0 a) (QL0 a)
def QL2(a:List Sm):Prop:=True/\∃(_y:Unit),True/\Cv (List UInt8) [] (Cl a)/\True/\True
def Qm1(a:Nat)(b:List Sm):Prop:=a<=LN (ptB b)
def QL3(a:Nat)(b:List Sm):List UInt8×List UInt8×Int:=wrF false (List.take a (ptB b))
def QL4(a:Nat)(b:List Sm):List UInt8:=Prod.fst (QL3 a b)
def Y7(a:Nat)(b:List Sm):Nat:=LN (QL4 a b)
def QfT(a:Nat)(b:List Sm)(c:Nat):List D:=[ZB (BI (QL4 a b) c)]
def QL5(a:Nat)(b:List Sm):List UInt8×Int:=Prod.snd (QL3 a b)
def QfU(a:Nat)(b:List Sm):List UInt8:=Prod.fst (QL5 a b)
def H8(a:Nat)(b:List Sm):Int:=Prod.snd (QL5 a b)
def QL6(a:Nat)(b:List Sm):Prop:=SM a/\((SM (LN b)/\(∀(i:Nat),i<LN b->SM (QLY b i))/\True)/\True)/\True
def QfV(a:List Sm):List (List UInt8):=List.map prT (ptB a)
def Qm2(a:List Sm):Int:=(LI (QfV a))
def QL7(a b c:Nat)(d:List Sm):Prop:=Or [(N0,a)] b b (52:Nat) (5:Nat) N0 a (Y7 c d) fun i=>QfT c d i
def QfW(a:List Sm)(b:Nat):List UInt8:=List.getD (QfV a) (Int.toNat (↑b:Int)) []
def QSO(a:List Sm):D:=D.sl N1 (LN (QfV a)) (fun i=>[D.str (List.getD (QfV a) i [])]) Mode.any
def QSP(a:List Sm):D:=ZI (Qm2 a)
def QL8(a:Nat)(b:List Sm):List UInt8:=bytesOf (Y7 a b) fun i=>QfT a b i
def QL9(a:Nat)(b:List Sm):List UInt8:=wrO false (QL8 a b) (QfU a b) (H8 a b) (QfW b a)
def QMa(a:Nat)(b:List Sm):Nat:=LN (QL9 a b)
def QMb(a:Nat)(b:List Sm):List UInt8:=QL8 a b++[Cu (10:Int)]
def Qm3(a:Nat)(b:List Sm):Nat:=LN (QMb a b)
def QMc(a:Nat)(b:List Sm)(c:Nat):List D:=[ZB (BI (QMb a b) c)]
theorem BnD(l:List Sm)(hl:l.length<=BC)(ho:∀s∈l,s.ok)(hs:∀s∈l,s.sm):CD 7 [.agg [gsl 34 Sm.row1 l]] (.str (Cl l)):=by
 refine Bg (A:=sC _ _) (x:=()) (E:=Epi l) (eOk (Bc7 (BaC hl ho hs) fun k kt x t o last y lv hp=>BnA _ _ _ k kt x t (Bo7 x t o last y lv hp.1 hp.2.1 hp.2.2.1 hp.2.2.2.1)) rfl) Tryz.func7 rfl (by kernel_rfl) rfl (by simp[sC,Epi,EC,E0]) ?_
 refine Bi (T :=
  ∀(x:Nat),True->SM x/\∃(x_1:Unit),QL1 l/\∀(y:Unit),True->ifB (B2 l != Z0) (QL2 l) (SM x/\ifB ((LI l)==Z0) (QL2 l) (∀(y t:Nat),x≠y/\True->SM x/\∃(x_2:Unit),(QL1 l/\B2 l=Z0)/\∀(y_1:Unit),True->(∃(x_3:Nat×Nat),Qm1 x_3.1 l/\(Z0=(NI x_3.1)/\True)/\(SM y/\((N0=Y7 x_3.1 l/\(∀(i:Nat),i<N0->Cv (List D) [] (QfT x_3.1 l i))/\t=x_3.2)/\Cv (List UInt8) [] (QfU x_3.1 l)/\Z0=H8 x_3.1 l/\True)/\QL6 x l)/\t=x_3.2/\True)/\∀(x_3:Nat×Nat),Qm1 x_3.1 l->ifB (decide ((NI x_3.1)<Qm2 l)) (Bc (Z0<=(NI x_3.1)/\(NI x_3.1)<Qm2 l) (((QL7 x_3.2 y x_3.1 l/\Bdw (Y7 x_3.1 l) (QfU x_3.1 l) (QfW l x_3.1) (H8 x_3.1 l)/\SM (16:Nat)/\SM (17:Nat))/\True)/\∀(y_2:Nat),True->(SM (QLZ l)/\SM (D.ref N0 x N0)/\SM (D.ref (max (N0+N1) N0) y N0)/\SM (QSO l)/\SM (QSP l)/\True)/\∃(y_3:Nat×Nat),Qm1 y_3.1 l/\LN (ptB l)-y_3.1<LN (ptB l)-x_3.1/\(IntKind.wrap IntKind.i64 ((NI x_3.1)+Z1)=(NI y_3.1)/\True)/\(SM y/\((QMa x_3.1 l=Y7 y_3.1 l/\(∀(i:Nat),i<QMa x_3.1 l->[ZB (BI (QL9 x_3.1 l) i)]=QfT y_3.1 l i)/\y_2=y_3.2)/\wrL (QfW l x_3.1)=QfU y_3.1 l/\wrV (H8 x_3.1 l) (QfW l x_3.1)=H8 y_3.1 l/\True)/\QL6 x l)/\y_2=y_3.2/\True)) (((QL7 x_3.2 y x_3.1 l/\(Z0<=10/\(10:Int)<=255)/\Y7 x_3.1 l+N1<=140737488355328)/\True)/\∀(y_2:Nat),True->(((Or [(N0,y_2)] y y (52:Nat) (5:Nat) N0 y_2 (Qm3 x_3.1 l) fun i=>QMc x_3.1 l i)/\Qm3 x_3.1 l<=140737488355328)/\True)/\∀(y:Unit),True->RT ((bytesOf (Qm3 x_3.1 l) fun i=>QMc x_3.1 l i)=Cl l))))) (by kernel_rfl) ?_
 delta BI DA GI LI LN N0 N1 N4 NI SI SM U0 Z0 Z1 ZB ZI QmZ QfQ QLY QLZ Qm0 QL0 QL1 QL2 Qm1 QL3 QL4 Y7 QfT QL5 QfU Y6 H8 QL6 QfV Qm2 QL7 QfW QSO QSP QL8 QL9 QMa QMb Qm3 QMc RT
 try simp only[<- dm]
 try simp only[<- dn]
 simp only[ne_eq,implies_true,Int.toNat_natCast,Bf,Bd,decide_eq_true_eq,decide_eq_false_iff_not,true_and,and_true,beq_iff_eq,bne_iff_ne,bne_eq_false_iff_eq,beq_eq_false_iff_ne,exists_const,forall_const,Prod.exists]
 intro x
 refine⟨Be _,fun h=>?_,fun h0=>⟨fun hl0=>?_,fun hl1=>?_⟩⟩
 ·rw[Cl,if_neg fun hh=>h hh.1]
 ·rw[Cl,if_neg fun hh=>hh.2 (List.length_eq_zero_iff.1 (by omega))]
 ·have e10:Cu 10=10:=rfl
  simp only[CL,e10]
  have hR:=Gz h0
  have hpt:=TO hR ho
  have hm:((ptB l).map prT).length=(ptB l).length:=List.length_map ..
  intro y t hxy
  refine⟨⟨Be _,h0⟩,⟨0,t,Nat.zero_le _,rfl,⟨⟨rfl,fun i hi=>absurd hi (by omega),rfl⟩,rfl,rfl⟩,rfl⟩,?_⟩
  rintro ⟨i,t1⟩ hi
  simp only at hi ⊢
  refine⟨fun hlt=>?_,fun hge=>?_⟩
  ·have hi':i<(ptB l).length:=by omega
   obtain ⟨wp,we⟩:=Bks false hR ho hi'
   refine⟨⟨by omega,hlt⟩,⟨Gu _ _ _,wp⟩,fun t2=>⟨i+1,t2,hi',by omega,Ba (by omega) (by omega),⟨⟨?_,?_,rfl⟩,?_,?_⟩,rfl⟩⟩
   ·rw[we]
   ·intro j _
    rw[we]
   ·rw[we]
   ·rw[we]
  ·have hil:i=(ptB l).length:=by omega
   have w:=(BeD false hR ho hi).ol
   refine⟨⟨Gu _ _ _,⟨by omega,by omega⟩,by omega⟩,fun t2=>⟨⟨Gu _ _ _,?_⟩,?_⟩⟩
   ·simp only[List.length_append,List.length_cons,List.length_nil]
    omega
   ·rw[Cl,if_pos ⟨h0,fun h=>hl1 (by rw[h];rfl)⟩,hil,List.take_length]
noncomputable def Ecm3(l:List Sm):Senv:={ EC (BgD 24 26 true (BbE l)) 23 5 [6,9,11,12,13,14] (fun _=>([],[])) with
 mg:=fun _=>2
 bd:=fun t=>match t with
  |52=>some 5
  |_=>none
 ann:=fun b env S=>match b with
  |0=>match Ab.look env 4 with
   |.ref k _ _=>some { slots:=[13],keep:=[0,1,3,4,11,12],α:=Nat×Nat,st:=fun y=>([.int .i64 y.1],⟨Id S.objs k (.bldx 52 5 (bsl (wrF true ((ptB l).take y.1)).1 (.tok 0 y.2)) [.str (wrF true ((ptB l).take y.1)).2.1,.int .i64 (wrF true ((ptB l).take y.1)).2.2]),[(0,y.2)]⟩),inv:=fun y=>y.1<=(ptB l).length,mu:=fun y=>(ptB l).length-y.1 }
   |_=>none
  |_=>none }
def Qm4:Arr:=DA
def QfX:Nd:=Nd.mk Z0 Z0 Z0 [] Z0 Z0 Qm4 [] [] Z0 Z0 Z0
def Qm5:Sm:=Sm.mk Z0 Z0 [] Z0 QfX QfX
def Y8(a:List Sm)(b:Nat):Sm:=List.getD a b Qm5
def QMj(a:List Sm)(b:Nat):List D:=(Sm.row1 (Y8 a b))
def QMk(a:List Sm):D:=D.agg [D.sl 34 (LN a) (fun i=>QMj a i) Mode.any]
def QMl(a:List Sm):List D:=[QMk a]
def QMm(a:List Sm):Prop:=wkL (QMl a) (QMl a)
def Qm6(a:Nat)(b:List Sm):Prop:=a<=LN (ptB b)
def QMn(a:Nat)(b:List Sm):List UInt8×List UInt8×Int:=wrF true (List.take a (ptB b))
def QMo(a:Nat)(b:List Sm):List UInt8:=Prod.fst (QMn a b)
def Y9(a:Nat)(b:List Sm):Nat:=LN (QMo a b)
def Qf0(a:Nat)(b:List Sm)(c:Nat):List D:=[ZB (BI (QMo a b) c)]
def QMp(a:Nat)(b:List Sm):List UInt8×Int:=Prod.snd (QMn a b)
def Qf1(a:Nat)(b:List Sm):List UInt8:=Prod.fst (QMp a b)
def H9(a:Nat)(b:List Sm):Int:=Prod.snd (QMp a b)
def QMq(a:Nat)(b:List Sm):Prop:=SM a/\((SM (LN b)/\(∀(i:Nat),i<LN b->SM (QMj b i))/\True)/\True)/\True
def Qf2(a:List Sm):List (List UInt8):=List.map prT (ptB a)
def Qm7(a:List Sm):Int:=(LI (Qf2 a))
def QMr(a b c:Nat)(d:List Sm):Prop:=Or [(N0,a)] b b (52:Nat) (5:Nat) N0 a (Y9 c d) fun i=>Qf0 c d i
def Qf3(a:List Sm)(b:Nat):List UInt8:=List.getD (Qf2 a) (Int.toNat (↑b:Int)) []
def QSU(a:List Sm):D:=D.sl N1 (LN (Qf2 a)) (fun i=>[D.str (List.getD (Qf2 a) i [])]) Mode.any
def QSV(a:List Sm):D:=ZI (Qm7 a)
def QMs(a:Nat)(b:List Sm):List UInt8:=bytesOf (Y9 a b) fun i=>Qf0 a b i
def QMt(a:Nat)(b:List Sm):List UInt8:=wrO true (QMs a b) (Qf1 a b) (H9 a b) (Qf3 b a)
def QMu(a:Nat)(b:List Sm):Nat:=LN (QMt a b)
theorem Bku(l:List Sm)(hl:l.length<=BC)(ho:∀s∈l,s.ok)(hs:∀s∈l,s.sm):CD 9 [.agg [gsl 34 Sm.row1 l]] (.str (EM l)):=by
 refine Bg (A:=sC _ _) (x:=()) (E:=Ecm3 l) (eOk (Bc7 (BaC hl ho hs) fun k kt x t o last y lv hp=>BnA _ _ _ k kt x t (BoR x t o last y lv hp.1 hp.2.1 hp.2.2.1 hp.2.2.2.1 hp.2.2.2.2)) rfl) Tryz.func9 rfl (by kernel_rfl) rfl (by simp[sC,Ecm3,EC,E0]) ?_
 refine Bi (T :=
  ∀(x:Nat),True->SM x/\∃(x_1:Unit),QMm l/\∀(y:Unit),True->ifB (B2 l != Z0) (RT (Cv (List UInt8) [] (EM l))) (∀(y t:Nat),x≠y/\True->SM x/\∃(x_2:Unit),(QMm l/\B2 l=Z0)/\∀(y_1:Unit),True->(∃(x_3:Nat×Nat),Qm6 x_3.1 l/\(Z0=(NI x_3.1)/\True)/\(SM y/\((N0=Y9 x_3.1 l/\(∀(i:Nat),i<N0->Cv (List D) [] (Qf0 x_3.1 l i))/\t=x_3.2)/\Cv (List UInt8) [] (Qf1 x_3.1 l)/\Z0=H9 x_3.1 l/\True)/\QMq x l)/\t=x_3.2/\True)/\∀(x_3:Nat×Nat),Qm6 x_3.1 l->ifB (decide ((NI x_3.1)<Qm7 l)) (Bc (Z0<=(NI x_3.1)/\(NI x_3.1)<Qm7 l) (((QMr x_3.2 y x_3.1 l/\Bdw (Y9 x_3.1 l) (Qf1 x_3.1 l) (Qf3 l x_3.1) (H9 x_3.1 l)/\SM (24:Nat)/\SM (26:Nat))/\True)/\∀(y_2:Nat),True->(SM (QMk l)/\SM (D.ref N0 x N0)/\SM (D.fn (Fn.func (24:Nat)) [] [])/\SM (D.ref (max (N0+N1) N0) y N0)/\SM (QSU l)/\SM (QSV l)/\True)/\∃(y_3:Nat×Nat),Qm6 y_3.1 l/\LN (ptB l)-y_3.1<LN (ptB l)-x_3.1/\(IntKind.wrap IntKind.i64 ((NI x_3.1)+Z1)=(NI y_3.1)/\True)/\(SM y/\((QMu x_3.1 l=Y9 y_3.1 l/\(∀(i:Nat),i<QMu x_3.1 l->[ZB (BI (QMt x_3.1 l) i)]=Qf0 y_3.1 l i)/\y_2=y_3.2)/\wrL (Qf3 l x_3.1)=Qf1 y_3.1 l/\wrV (H9 x_3.1 l) (Qf3 l x_3.1)=H9 y_3.1 l/\True)/\QMq x l)/\y_2=y_3.2/\True)) (((QMr x_3.2 y x_3.1 l/\Y9 x_3.1 l<=140737488355328)/\True)/\∀(y:Unit),True->RT (QMs x_3.1 l=EM l)))) (by kernel_rfl) ?_
 delta BI DA GI LI LN N0 N1 N4 NI SI SM U0 Z0 Z1 ZB ZI Qm4 QfX Qm5 Y8 QMj QMk QMl QMm Qm6 QMn QMo Y9 Qf0 QMp Qf1 H9 QMq Qf2 Qm7 QMr Qf3 QSU QSV QMs QMt QMu RT
 try simp only[<- dm]
 try simp only[<- dn]
 simp only[ne_eq,implies_true,Int.toNat_natCast,Bf,Bd,decide_eq_true_eq,decide_eq_false_iff_not,true_and,and_true,bne_iff_ne,bne_eq_false_iff_eq,exists_const,forall_const,Prod.exists]
 intro x
 refine⟨Be _,fun h=>?_,fun h0=>?_⟩
 ·rw[EM,if_neg h]
 ·simp only[CL]
  have hR:=Gz h0
  have hpt:=TO hR ho
  have hm:((ptB l).map prT).length=(ptB l).length:=List.length_map ..
  intro y t hxy
  refine⟨⟨Be _,h0⟩,⟨0,t,Nat.zero_le _,rfl,⟨⟨rfl,fun i hi=>absurd hi (by omega),rfl⟩,rfl,rfl⟩,rfl⟩,?_⟩
  rintro ⟨i,t1⟩ hi
  simp only at hi ⊢
  refine⟨fun hlt=>?_,fun hge=>?_⟩
  ·have hi':i<(ptB l).length:=by omega
   obtain ⟨wp,we⟩:=Bks true hR ho hi'
   refine⟨⟨by omega,hlt⟩,⟨Gu _ _ _,wp⟩,fun t2=>⟨i+1,t2,hi',by omega,Ba (by omega) (by omega),⟨⟨?_,?_,rfl⟩,?_,?_⟩,rfl⟩⟩
   ·rw[we]
   ·intro j _
    rw[we]
   ·rw[we]
   ·rw[we]
  ·have hil:i=(ptB l).length:=by omega
   have w:=(BeD true hR ho hi).ol
   refine⟨⟨Gu _ _ _,by omega⟩,?_⟩
   rw[EM,if_pos h0,hil,List.take_length]
end
end Go.Proofs.YtnlplccjbojloaaGreatDoor
