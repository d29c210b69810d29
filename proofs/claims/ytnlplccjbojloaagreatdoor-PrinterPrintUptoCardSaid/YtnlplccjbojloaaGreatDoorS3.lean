/- Functions of the given program and what each of them computes: lemmas towards the statement, their conditions stated with each of them. -/
import Derived.Test.YtnlplccjbojloaaGreatDoorS2
namespace Go.Proofs.YtnlplccjbojloaaGreatDoor
open Go Go.Ab
set_option maxRecDepth 100000
noncomputable section
def BlH(n:Nd):Con:=fun k ds S=>match k with
 |95=>some (pA ds S (.int .i64 (Bu n.va).1) (wkL ds [.agg n.va.row1]))
 |54=>some (pA ds S (.bool (Ce n.tx)) (wkL ds [.str n.tx]))
 |77=>some (pA ds S (.str (Cf n.pr)) (wkL ds [.int .i64 n.pr]))
 |78=>some (pA ds S (.str (opT n.op)) (wkL ds [.int .i64 n.op]))
 |_=>none
theorem Blu{n:Nd}(h:n.va.ok):ConOk Tryz.prog (BlH n):=by
 intro k ds S A hh
 unfold BlH at hh
 split at hh
 ·injection hh with hh;subst hh
  exact Bo fun e=>CD.at_ (CD.wk (Bk3 n.va h) e) _
 ·injection hh with hh;subst hh
  exact Bo fun e=>CD.at_ (CD.wk (BnH n.tx) e) _
 ·injection hh with hh;subst hh
  exact Bo fun e=>CD.at_ (CD.wk (Bl6 n.pr) e) _
 ·injection hh with hh;subst hh
  exact Bo fun e=>CD.at_ (CD.wk (BkC n.op) e) _
 ·cases hh
noncomputable def Ele(n:Nd):Senv:=EC (BlH n) 104 7 [10,12,13,49,64,71,82,89,93] (fun _=>([],[]))
def Vq(a:Nd):Bool:=C3 a
def J1(a:Nd):Prop:=True/\∃(_y:Unit),True/\false=Vq a/\True/\True
def QE(a:Nd):Int:=Nd.kd a
def ZG(a:Nd):Arr:=Nd.va a
def QrZ(a:Nd):List Int:=Arr.sh (ZG a)
def Qr0(a:Nd):Nat:=LN (QrZ a)
def Qr1(a:Nd):Int:=(NI (Qr0 a))
def Qr2(a:Nd):Bool:=Qr1 a==Z0
def QhS(a:Nd):Int:=Arr.k (ZG a)
def Qr3(a:Nd):Bool:=QhS a != (3:Int)
def QhT(a:Nd):Bool:=bif Qr2 a then Qr3 a else false
def Qr4(a:Nd):Bool:=Qr1 a==Z1
def Qr5(a:Nd):Bool:=QhS a==2
def QhU(a:Nd):Bool:=bif Qr4 a then Qr5 a else false
def Vr(a:Nd):Int:=Nd.cl a
def QO2(a:Nd):List Int:=Arr.nu (ZG a)
def Qr6(a:Nd):List Arr:=Arr.it (ZG a)
def Qr7(a:Nd):List D:=[D.agg [ZI (QhS a),D.sl N1 (Qr0 a) (fun i=>[ZI (GI (QrZ a) i)]) Mode.any,SI (QO2 a),D.sl N4 (LN (Qr6 a)) (fun i=>Arr.row (GA (Qr6 a) i)) Mode.any]]
def QhV(a:Nat)(b:Nd):Prop:=SM a/\True/\∃(_y:Unit),True/\(Vr b==Z1)=Vq b/\True/\True
def QhW(a:Nat)(b:Nd):Prop:=SM a/\True/\∃(_y:Unit),True/\(Vr b==2)=Vq b/\True/\True
def Qbo(a:Nd):Int:=Nd.op a
def Qr8(a:Nat)(b:Nd):Prop:=SM a/\∃(_x:Unit),wkL [ZI (Qbo b)] [ZI (Qbo b)]/\∀(_y:Unit),True->True/\∃(_y:Unit),True/\(opT (Qbo b) != [])=Vq b/\True/\True
def QhX(a:Nd)(b:Nat):Prop:=ifB (QE a==17) (SM b/\ifB (decide (Qbo a<=5)) (SM b/\ifB (Vr a==3) (Qr8 b a) (J1 a)) (SM b/\ifB (Vr a==4) (Qr8 b a) (J1 a))) (J1 a)
def QhY(a:Nd)(b:Nat):Prop:=ifB (QE a==9) (SM b/\ifB (Vr a==2) (SM b/\∃(_x:Unit),wkL [ZI (Nd.pr a)] [ZI (Nd.pr a)]/\∀(_y:Unit),True->True/\∃(_y:Unit),True/\(Cf (Nd.pr a) != [])=Vq a/\True/\True) (J1 a)) (ifB (QE a==11) (ifB (QE a==11) (QhW b a) (QhX a b)) (ifB (QE a==12) (ifB (QE a==12) (QhW b a) (QhX a b)) (ifB (QE a==13) (QhW b a) (QhX a b))))
theorem BpU(n:Nd)(h:n.va.ok):CD 74 [.agg n.row2] (.bool (C3 n)) := by
  refine Bg (A := sC _ _) (x := ()) (E := Ele n) (eOk (Blu h) rfl) Tryz.func74 rfl (by kernel_rfl) rfl (by simp [sC,Ele,EC,E0]) ?_
  refine Bi (T :=
    ∀ (x:Nat),True->SM x/\ifB (decide (Z0 < (LI (Nd.ki n)))) (J1 n) (SM x/\ifB (QE n == Z1) (SM x/\∀ (x_1:Nat),x ≠ x_1/\True->SM x_1/\(SM x_1/\ifB (Qr2 n) (SM x_1/\Qr3 n = QhT n/\True) (false = QhT n/\True))/\(SM x_1/\ifB (Qr4 n) (SM x_1/\Qr5 n = QhU n/\True) (false = QhU n/\True))/\SM x/\ifB (Vr n == Z1) (SM x_1/\∃ (x:Unit),wkL (Qr7 n) (Qr7 n)/\∀ (y:Unit),True->ifB (Prod.fst (Bu (ZG n)) == Z0) (ifB (QhT n) (True/\∃ (y:Unit),True/\true = Vq n/\True/\True) (True/\∃ (y:Unit),True/\QhU n = Vq n/\True/\True)) (J1 n)) (J1 n)) (ifB (QE n == (2:Int)) (SM x/\ifB (decide (Z1 <= Vr n)) (SM x/\ifB (decide (Vr n <= (4:Int))) (SM x/\∃ (x:Unit),wkL [D.str (Nd.tx n)] [D.str (Nd.tx n)]/\∀ (y:Unit),True->True/\∃ (y:Unit),True/\Ce (Nd.tx n) = Vq n/\True/\True) (J1 n)) (J1 n)) (ifB (QE n == (6:Int)) (ifB (QE n == (6:Int)) (QhV x n) (QhY n x)) (ifB (QE n == (7:Int)) (ifB (QE n == (7:Int)) (QhV x n) (QhY n x)) (ifB (QE n == (8:Int)) (QhV x n) (QhY n x))))))) (by kernel_rfl) ?_
  delta DA GA GI LI LN N1 N4 NI SI SM Z0 Z1 ZI Vq J1 QhT Qr4 Qr5 QhU Vr QO2 Qr6 Qr7 QhV QhW QE Qbo Qr8 QhX QhY ZG QrZ Qr0 Qr1 Qr2 QhS Qr3
  try simp only []
  try simp only [<- dn]
  simp only [ne_eq,Bf,decide_eq_true_eq,decide_eq_false_iff_not,true_and,and_true,beq_iff_eq,beq_eq_false_iff_ne,exists_const,forall_const]
  have e1:n.ki.isEmpty = (n.ki.length == 0) := by cases n.ki <;> rfl
  have e2:n.va.sh.isEmpty = (n.va.sh.length == 0) := by cases n.va.sh <;> rfl
  have e3:∀ l:List UInt8,(l != []) = !l.isEmpty := fun l => by cases l <;> rfl
  have e40:((n.va.sh.length:Int) == 0) = (n.va.sh.length == 0) := by rw [Bool.eq_iff_iff,beq_iff_eq,beq_iff_eq]; omega
  have e41:((n.va.sh.length:Int) == 1) = (n.va.sh.length == 1) := by rw [Bool.eq_iff_iff,beq_iff_eq,beq_iff_eq]; omega
  simp only [e3,e40,e41]
  intro x
  repeat' (first | exact Be _ | refine And.intro ?_ ?_ | intro _)
  all_goals first
    | exact Be _
    | (exfalso; omega)
    | (simp_all [C3]; done)
    | (simp_all [C3]; omega)
    | (have h9 : n.ki.isEmpty = false := by rw [e1, beq_eq_false_iff_ne]; omega
       unfold C3; rw [h9]; rfl)
theorem Bod(x y:Nat)(hx:x<18446744073709551616)(hy:y<18446744073709551616):CD 36 [.int .u64 x,.int .u64 y] (.tup [.int .u64 ((x*y / 18446744073709551616:Nat):Int),.int .u64 ((x*y % 18446744073709551616:Nat):Int)]):=by
 refine ACalls.of_shelf ⟨_,Tryz.func36,by kernel_rfl,by kernel_rfl⟩ fun C args w ha=>?_
 obtain ⟨u,v,e,hu,hv⟩:=IJ ha
 have e2:args=[u,v].toArray:=by rw[<- e]
 subst e2
 simp only[Rep] at hu hv;subst hu hv
 have:=Tryz.bits_Mul x y hx hy w
 exact this.mono fun e w' ⟨h1,h2⟩=>⟨⟨_,h1,by simp[Rep,RepL]⟩,by rw[h2];exact Go.RowKit.Below.refl _ _⟩
def BhX(j:Nat):Nat->List D:=fun i=>[.int .i64 (if i<j then 1 else 0)]
def BnU(n:Nat):Con:=fun k ds S=>match k with
 |36=>some (pA ds S (.tup [.int .u64 0,.int .u64 n]) (ds=[.int .u64 1,.int .u64 n]))
 |_=>none
noncomputable def Erp(n:Nat):Senv:={ EC (BnU n) 48 2 [4,5,6,7,8,10,26,37] (fun id=>match id with | 9=>([0,1,2,3,4,5,6,7,8,9],[7]) | _=>([],[])) with
 gr:=[.slot 4]
 ann:=fun b env _S=>match b with
  |0=>match Ab.look env 7 with
   |.vs _k x _len cap _w=>some { slots:=[8],keep:=[0,1,7],α:=Nat,st:=fun j=>([.int .i64 j],⟨[(0,x,.vec 1 n cap (BhX j))],[]⟩),inv:=fun j=>1<=j/\j<=n,mu:=fun j=>n-j }
   |_=>none
  |_=>none }
def XW(a:Nat):Int:=IntKind.wrap IntKind.i64 (↑a:Int)
def JG(a:Nat):Nat:=Int.toNat (XW a)
def Qbp(a:Nat):Prop:=SM (JG a)
def QhZ(a b:Nat):Prop:=a<JG b
def XX(a b:Nat):List D:=BhX a b
def Qbq(a:Nat):Int:=(NI (JG a))
def JR(a:Nat):Nat:=Int.toNat (↑a:Int)
def QO3:D:=D.sl N1 N1 (fun _x=>[ZI Z1]) Mode.full
def QO4(a b:Nat):D:=D.vs N0 a (JG b) (JG b) N1
def Qr9(a b:Nat):Nat:=min (JG a-JR b) (JR b)
theorem BpO(n:Nat)(h1:2<=n)(h2:n<=1000):CD 97 [.sl 1 1 (fun _=>[.int .i64 1]) .full,.int .i64 n] (isl (List.replicate n 1) .any):=by
 refine Bg (A:=sC _ _) (x:=()) (E:=Erp n) (eOk ?_ rfl) Tryz.func97 rfl (by kernel_rfl) rfl (by simp[sC,Erp,EC,E0]) ?_
 ·intro k ds S A hh
  unfold BnU at hh
  split at hh
  ·injection hh with hh;subst hh
   refine Bo fun e=>?_
   rw[e]
   have:=Bod 1 n (by omega) (by omega)
   rw[Nat.one_mul,Nat.div_eq_of_lt (by omega),Nat.mod_eq_of_lt (by omega)] at this
   exact CD.at_ this _
  ·cases hh
 refine Bi (T :=
  ∃(x:Unit),[D.int IntKind.u64 Z1,D.int IntKind.u64 (IntKind.wrap IntKind.u64 (↑n:Int))]=[D.int IntKind.u64 Z1,D.int IntKind.u64 (↑n:Int)]/\∀(y:Unit),True->(SM (decide ((9223372036854775807:Int)<(↑n:Int)))/\True)/\ifB (decide ((9223372036854775807:Int)<(↑n:Int))) (∃(y:Unit),True/\False/\True/\True) (Bc (Z0<=XW n/\XW n<=XW n/\(8:Int)*XW n<=281474976710656/\XW n<=9223372036854775807) (∀(x:Nat),True->SM x/\N1<=JG n/\Qbp n/\(∃(x_1:Nat),(N1<=x_1/\x_1<=n)/\(Z1=(↑x_1:Int)/\True)/\(SM x/\(JG n=n/\Qbp n/\∀(i:Nat),QhZ i n->(if i<N1 then [ZI Z1] else [ZI Z0])=XX x_1 i)/\True)/\True)/\∀(x_1:Nat),N1<=x_1/\x_1<=n->ifB (decide ((↑x_1:Int)<Qbq n)) (Z0<=(↑x_1:Int)/\(↑x_1:Int)<=Qbq n/\(↑x_1:Int)<Qbq n/\Bc (Z0<=(↑x_1:Int)/\(↑x_1:Int)<=Qbq n) (SM x/\SM x/\JR x_1*N1=JR x_1/\JR x_1*N1+(JG n-JR x_1)=n/\(∀(i:Nat),i<JR x_1->SM true)/\(SM QO3/\SM (ZI (↑n:Int))/\SM (QO4 x n)/\True)/\∃(y:Nat),(N1<=y/\y<=n)/\n-y<n-x_1/\(IntKind.wrap IntKind.i64 ((↑x_1:Int)+(NI (Qr9 n x_1)))=(↑y:Int)/\True)/\(SM x/\(SM n/\Qbp n/\∀(i:Nat),i<n->(if i<JR x_1 then XX x_1 i else if i<JR x_1+Qr9 n x_1 then BhX x_1 (i-JR x_1) else XX x_1 i)=XX y i)/\True)/\True)) (SM x/\Qbp n/\Bc (JG n<=n) ((∀(i:Nat),QhZ i n->(List.all (XX x_1 i) fun (x:D)=>match x with | D.unk=>false | D.agg cs=>false | D.tup ds=>false | x=>true)=true)/\∀(t:Nat),True/\∃(y:Unit),True/\(JG n=LN (List.replicate n Z1)/\(∀(i:Nat),QhZ i n->XX x_1 i=[ZI (GI (List.replicate n Z1) i)])/\True)/\True/\True))))) (by kernel_rfl) ?_
 delta GI LN N0 N1 NI SM Z0 Z1 ZI XW JG Qbp QhZ XX Qbq JR QO3 QO4 Qr9
 simp only[eq_self,implies_true,Int.toNat_natCast,Bf,Bd,decide_eq_true_eq,decide_eq_false_iff_not,true_and,and_true,exists_const,forall_const]
 have w64:IntKind.i64.wrap (n:Int)=n:=Ba (by omega) (by omega)
 have wu:IntKind.u64.wrap (n:Int)=n:=by
  simp only[IntKind.wrap,IntKind.signed,IntKind.bits]
  simp
  omega
 simp only[w64,wu,Int.toNat_natCast]
 refine⟨trivial,fun h=>by omega,fun _=>⟨⟨by omega,by omega,by omega,by omega⟩,by omega,⟨1,⟨by omega,by omega⟩,rfl,trivial,fun i _=>?_⟩,fun j ⟨j1,j2⟩=>⟨fun hlt=>⟨by omega,by omega,hlt,⟨by omega,by omega⟩,by omega,by omega,j+min (n-j) j,⟨by omega,by omega⟩,by omega,Ba (by omega) (by omega),fun i hi=>?_⟩,fun hge=>⟨Nat.le_refl _,fun i _=>rfl,by simp,fun i hi=>?_⟩⟩⟩⟩
 ·unfold BhX
  split<;>rfl
 ·unfold BhX
  by_cases a1:i<j
  ·rw[if_pos a1,if_pos a1,if_pos (by omega)]
  ·rw[if_neg a1]
   by_cases a2:i<j+min (n-j) j
   ·rw[if_pos a2,if_pos (by omega),if_pos a2]
   ·rw[if_neg a2,if_neg a1,if_neg a2]
 ·unfold BhX
  rw[if_pos (by omega)]
  simp[List.getD_eq_getElem?_getD,hi]
def Bka(n:Nd):Con:=fun k ds S=>match k with
 |96=>match ds with
  | [_,.sl 1 m f _]=>some (pA ds S (.bool (Bm n (Bj m f))) (wkL ds [.agg n.row2,isl (Bj m f) .any]/\m<=maxLen))
  |_=>none
 |97=>some (pA ds S (isl (List.replicate n.ki.length 1) .any) (2<=n.ki.length/\n.ki.length<=1000/\wkL ds [.sl 1 1 (fun _=>[.int .i64 1]) .full,.int .i64 n.ki.length]))
 |_=>none
theorem BjX{n:Nd}(h:n.ki.length<=maxLen):ConOk Tryz.prog (Bka n):=by
 intro k ds S A hh
 unfold Bka at hh
 split at hh
 ·split at hh
  ·injection hh with hh;subst hh
   exact Bo fun ⟨e,hm⟩=>CD.at_ (CD.wk (Bmj n _ h (by rw[BJ];exact hm)) e) _
  ·cases hh
 ·injection hh with hh;subst hh
  exact Bo fun ⟨h1,h2,e⟩=>CD.at_ (CD.wk (BpO _ h1 h2) e) _
 ·cases hh
theorem Bfb{n:Nd}(h:n.kd=15):CR n=(n.cl==2&&Bm n [4,2,IG n]):=by
 unfold CR
 simp only[h]
 rfl
theorem Bml{n:Nd}(h:n.kd=15)(hc:(bif n.cl != 2 then true else ((n.ki.length:Int) != 3))=true):false=CR n:=by
 rw[Bfb h]
 by_cases h2:n.cl=2
 ·have e:(n.cl != 2)=false:=by simp[h2]
  rw[e] at hc
  have hl:n.ki.length≠3:=by
   have:((n.ki.length:Int) != 3)=true:=hc
   rw[bne_iff_ne] at this
   omega
  have:Bm n [4,2,IG n]=false:=by
   unfold Bm
   rw[beq_eq_false_iff_ne]
   intro e
   have:=congrArg List.length e
   simp at this
   exact hl this
  rw[this];simp
 ·have:(n.cl==2)=false:=by simpa using h2
  rw[this];rfl
theorem Bfq{n:Nd}(hc:(bif n.cl != 2 then true else ((n.ki.length:Int) != 3))=false):(n.cl==2)=true:=by
 cases h2:n.cl != 2 with
 |true=>rw[h2] at hc;cases hc
 |false=>simpa using h2
theorem BpB{n:Nd}(h:n.kd=15)(hc:(bif n.cl != 2 then true else ((n.ki.length:Int) != 3))=false)(hr:(bif (n.ki.getD 0 default).kd==17 then bif bif (n.ki.getD 0 default).op==7 then true else (n.ki.getD 0 default).op==8 then true else (n.ki.getD 0 default).op==9 else false)=true):Bm n [4,2,1]=CR n:=by
 rw[Bfb h,Bfq hc]
 have:IG n=1:=by
  unfold IG
  refine if_pos ?_
  cases a:(n.ki.getD 0 default).kd==17<;>cases b:(n.ki.getD 0 default).op==7<;>cases c:(n.ki.getD 0 default).op==8<;>cases d:(n.ki.getD 0 default).op==9<;>simp[] at hr<;>simp_all
 rw[this];simp
theorem BoX{n:Nd}(h:n.kd=15)(hc:(bif n.cl != 2 then true else ((n.ki.length:Int) != 3))=false)(hr:(bif (n.ki.getD 0 default).kd==17 then bif bif (n.ki.getD 0 default).op==7 then true else (n.ki.getD 0 default).op==8 then true else (n.ki.getD 0 default).op==9 else false)=false):Bm n [4,2,2]=CR n:=by
 rw[Bfb h,Bfq hc]
 have:IG n=2:=by
  unfold IG
  refine if_neg ?_
  cases a:(n.ki.getD 0 default).kd==17<;>cases b:(n.ki.getD 0 default).op==7<;>cases c:(n.ki.getD 0 default).op==8<;>cases d:(n.ki.getD 0 default).op==9<;>simp[] at hr<;>simp_all
 rw[this];simp
theorem Ck{r:List D}{m:Nat}{f:Nat->List D}{md:Ab.Mode}(h:IntsP m f):wkL [.agg r,.sl 1 m f md] [.agg r,isl (Bj m f) .any]:=by
 simp only[wkL]
 refine⟨Bh _,?_,trivial⟩
 simp only[isl,wkD,Bb]
 refine⟨by simp,by simp[BJ],fun i hi=>?_,by simp[BG]⟩
 have e:(Bj m f).getD i 0=Bio (f i):=by simp[Bj,List.getD_eq_getElem?_getD,hi]
 rw[e,h i hi]
 exact Be _
noncomputable def Ecm(n:Nd):Senv:=EC (Bka n) 146 7 [8,9,37,50,64,76,87,110,117] (fun id=>match id with | 4=>([0,1,2,3,4,5,6,7,8,9,10,11,12,13,14,15,16,17,18,20,21,22,19,23,24,25,26],[19,23,24]) | _=>([],[]))
def V1(a:Nd):Int:=Nd.kd a
def XY(a:Nd):Int:=Nd.cl a
def Qh0(a:Nd):Bool:=XY a==Z1
def Qh1(a:Nd):List Nd:=Nd.ki a
def ZH(a:Nd):Nat:=LN (Qh1 a)
def XZ(a:Nd):Int:=(NI (ZH a))
def Qh2:Arr:=DA
def ZJ:Nd:=Nd.mk Z0 Z0 Z0 [] Z0 Z0 Qh2 [] [] Z0 Z0 Z0
def Ka(a:Nd)(b:Nat):Nd:=List.getD (Qh1 a) b ZJ
def Qsd:Sm:=Sm.mk Z0 Z0 [] Z0 ZJ ZJ
def Qse(a:Nd):D:=D.sl 15 (ZH a) (fun i=>(Nd.rowE (Ka a i))) Mode.any
def Qbs(a:Nd):Arr:=Nd.va a
def QO7(a:Nd):List Int:=Arr.sh (Qbs a)
def QO8(a:Nd):List Int:=Arr.nu (Qbs a)
def Qsf(a:Nd):List Arr:=Arr.it (Qbs a)
def Qo(a:Nd):D:=D.agg [ZI (V1 a),ZI (Nd.at_ a),ZI (XY a),D.str (Nd.tx a),ZI (Nd.pr a),ZI (Nd.op a),ZI (Arr.k (Qbs a)),SI (QO7 a),SI (QO8 a),D.sl N4 (LN (Qsf a)) (fun i=>Arr.row (List.getD (Qsf a) i Qh2)) Mode.any,Qse a,D.sl 34 (LN (Nd.bo a)) (fun i=>Sm.row1 (List.getD (Nd.bo a) i Qsd)) Mode.any,ZI (Nd.de a),ZI (Nd.sl a),ZI (Nd.ss a)]
def Qsg(a:Nat)(b:Nd):Prop:=SM a/\SM (Qo b)
def Qbt:List D:=[ZI Z1]
def Qh3:List (List D):=[Qbt]
def Qsh(a:Nd):List D:=[ZI (XZ a)]
def Qsi(a:Nd):List Int:=List.replicate (ZH a) Z1
def Qh4(a:Nd):Nat:=LN (Qsi a)
def Qsj(a:Nd)(b:Nat):List D:=[ZI (GI (Qsi a) b)]
def Qsk(a:Nd):List Int:=Bj (Qh4 a) fun i=>Qsj a i
def J2(a:Nd):Bool:=CR a
def J3(a:Nd):Prop:=True/\∃(_y:Unit),True/\false=J2 a/\True/\True
def X0:List D:=[ZI 2]
def Qsl:List (List D):=X0::Qh3
def Qsm(a:Nat):List D:=List.getD Qsl a []
def Qsn:List Int:=Bj N2 fun i=>Qsm i
def Qso(a:Nat):List D:=List.getD (X0::Qbt::Qh3) a []
def Qsp:List Int:=Bj (3:Nat) fun i=>Qso i
def Qsq(a:Nat):List D:=List.getD [[ZI 3],X0] a []
def Qsr:List Int:=Bj N2 fun i=>Qsq i
def Qh5(a:Nd):Bool:=bif XY a != (2:Int) then true else XZ a != (3:Int)
def Qss(a:Nd):Nd:=List.getD (Qh1 a) N0 ZJ
def Qst(a:Nd):Bool:=Nd.kd (Qss a)==17
def Qh6(a:Nd):Int:=Nd.op (Qss a)
def Qsu(a:Nd):Bool:=Qh6 a==7
def Qsv(a:Nd):Bool:=Qh6 a==8
def Qsw(a:Nd):Bool:=Qh6 a==9
def Qbu(a:Nd):Bool:=bif Qst a then bif bif Qsu a then true else Qsv a then true else Qsw a else false
def Qsx(a:Nd):Prop:=true=Qbu a/\True
def Qsy(a:Nat):List D:=List.getD ([ZI 4]::Qsl) a []
def Qsz:List Int:=Bj (3:Nat) fun i=>Qsy i
def Qbv:List (List D):=[X0,X0]
def QsA(a:Nat):List D:=List.getD ([ZI 4]::Qbv) a []
def QsB:List Int:=Bj (3:Nat) fun i=>QsA i
def QsC(a:Nat):List D:=List.getD Qbv a []
def QsD:List Int:=Bj N2 fun i=>QsC i
def QsE(a:Nd):Prop:=True/\∃(_y:Unit),True/\true=J2 a/\True/\True
def QsF(a:Nat):List D:=List.getD (X0::Qbv) a []
def QsG:List Int:=Bj (3:Nat) fun i=>QsF i
def QsH(a:Nat):List D:=List.getD (Qbt::Qbv) a []
def QsI:List Int:=Bj (3:Nat) fun i=>QsH i
theorem BpT(n:Nd)(h:n.ki.length<=maxLen):CD 75 [.agg n.row2] (.bool (CR n)):=by
 refine Bg (A:=sC _ _) (x:=()) (E:=Ecm n) (eOk (BjX h) rfl) Tryz.func75 rfl (by kernel_rfl) rfl (by simp[sC,Ecm,EC,E0]) ?_
 refine Bi (T :=
  ∀(x:Nat),True->SM x/\ifB (V1 n==3) (SM x/\ifB (Qh0 n) (SM x/\ifB (decide ((2:Int)<=XZ n)) (SM x/\ifB (decide (XZ n<=1000)) (SM x/\SM x/\(SM x/\SM (Qse n))/\Qsg x n/\∃(x_1:Unit),(N2<=ZH n/\ZH n<=1000/\wkL (D.sl N1 N1 (fun i=>List.getD Qh3 i []) Mode.full::Qsh n) (D.sl N1 N1 (fun x=>Qbt) Mode.full::Qsh n))/\∀(y:Unit),True->Qsg x n/\∃(x:Unit),(wkL [Qo n,D.sl N1 (Qh4 n) (fun i=>Qsj n i) Mode.any] [Qo n,SI (Qsk n)]/\Qh4 n<=9223372036854775807)/\∀(y:Unit),True->RT (Bm n (Qsk n)=J2 n)) (J3 n)) (J3 n)) (J3 n)) (ifB (V1 n==4) (SM x/\ifB (Qh0 n) (SM x/\∃(x:Unit),(wkL [Qo n,D.sl N1 N2 (fun i=>Qsm i) Mode.full] [Qo n,SI Qsn]/\N2<=9223372036854775807)/\∀(y:Unit),True->RT (Bm n Qsn=J2 n)) (J3 n)) (ifB (V1 n==5) (SM x/\ifB (Qh0 n) (SM x/\∃(x:Unit),(wkL [Qo n,D.sl N1 (3:Nat) (fun i=>Qso i) Mode.full] [Qo n,SI Qsp]/\(3:Nat)<=9223372036854775807)/\∀(y:Unit),True->RT (Bm n Qsp=J2 n)) (J3 n)) (ifB (V1 n==14) (SM x/\ifB (XY n==2) (SM x/\∃(x:Unit),(wkL [Qo n,D.sl N1 N2 (fun i=>Qsq i) Mode.full] [Qo n,SI Qsr]/\N2<=9223372036854775807)/\∀(y:Unit),True->RT (Bm n Qsr=J2 n)) (J3 n)) (ifB (V1 n==15) ((SM x/\ifB (XY n != (2:Int)) (true=Qh5 n/\True) (SM x/\(XZ n != (3:Int))=Qh5 n/\True))/\ifB (Qh5 n) (J3 n) (SM x/\Bc (Z0<=Z0/\Z0<XZ n) (∀(x_1:Nat),x≠x_1/\True->SM x_1/\(SM x_1/\ifB (Qst n) (SM x_1/\ifB (Qsu n) (Qsx n) (SM x_1/\ifB (Qsv n) (Qsx n) (SM x_1/\Qsw n=Qbu n/\True))) (false=Qbu n/\True))/\ifB (Qbu n) (SM x/\∃(x:Unit),(wkL [Qo n,D.sl N1 (3:Nat) (fun i=>Qsy i) Mode.full] [Qo n,SI Qsz]/\(3:Nat)<=9223372036854775807)/\∀(y:Unit),True->RT (Bm n Qsz=J2 n)) (SM x/\∃(x:Unit),(wkL [Qo n,D.sl N1 (3:Nat) (fun i=>QsA i) Mode.full] [Qo n,SI QsB]/\(3:Nat)<=9223372036854775807)/\∀(y:Unit),True->RT (Bm n QsB=J2 n))))) (ifB (V1 n==16) (SM x/\ifB (XY n==2) (SM x/\∃(x_1:Unit),(wkL [Qo n,D.sl N1 N2 (fun i=>QsC i) Mode.full] [Qo n,SI QsD]/\N2<=9223372036854775807)/\∀(y:Unit),True->ifB (Bm n QsD) (QsE n) (SM x/\∃(x_2:Unit),(wkL [Qo n,D.sl N1 (3:Nat) (fun i=>QsF i) Mode.full] [Qo n,SI QsG]/\(3:Nat)<=9223372036854775807)/\∀(y:Unit),True->ifB (Bm n QsG) (QsE n) (SM x/\∃(x:Unit),(wkL [Qo n,D.sl N1 (3:Nat) (fun i=>QsH i) Mode.full] [Qo n,SI QsI]/\(3:Nat)<=9223372036854775807)/\∀(y:Unit),True->RT (Bm n QsI=J2 n)))) (J3 n)) (J3 n))))))) (by kernel_rfl) ?_
 delta DA GI LN N0 N1 N2 N4 NI SI SM Z0 Z1 ZI V1 XY Qh0 Qh1 ZH XZ Qh2 ZJ Ka Qsd Qse Qbs QO7 QO8 Qsf Qo Qsg Qbt Qh3 Qsh Qsi Qh4 Qsj Qsk J2 J3 X0 Qsl Qsm Qsn Qso Qsp Qsq Qsr Qh5 Qss Qst Qh6 Qsu Qsv Qsw Qbu Qsx Qsy Qsz Qbv QsA QsB QsC QsD QsE QsF QsG QsH QsI RT
 try simp only[<- dm]
 try simp only[<- dn]
 simp only[ne_eq,Bf,Bd,decide_eq_true_eq,decide_eq_false_iff_not,true_and,and_true,beq_iff_eq,bne_iff_ne,bne_eq_false_iff_eq,beq_eq_false_iff_ne,exists_const,forall_const]
 have i2:∀a b:Int,Bj 2 (fun i=>[[D.int IntKind.i64 a],[D.int IntKind.i64 b]].getD i [])=[a,b]:=fun _ _=>rfl
 have i3:∀a b c:Int,Bj 3 (fun i=>[[D.int IntKind.i64 a],[D.int IntKind.i64 b],[D.int IntKind.i64 c]].getD i [])=[a,b,c]:=fun _ _ _=>rfl
 have p2:∀a b:Int,IntsP 2 (fun i=>[[D.int IntKind.i64 a],[D.int IntKind.i64 b]].getD i []):=fun _ _ i hi=>by
  match i,hi with
  |0,_=>rfl
  |1,_=>rfl
 have p3:∀a b c:Int,IntsP 3 (fun i=>[[D.int IntKind.i64 a],[D.int IntKind.i64 b],[D.int IntKind.i64 c]].getD i []):=fun _ _ _ i hi=>by
  match i,hi with
  |0,_=>rfl
  |1,_=>rfl
  |2,_=>rfl
 have w1:wkL [D.sl 1 1 (fun i=>[[D.int IntKind.i64 1]].getD i []) Mode.full,D.int IntKind.i64 n.ki.length] [D.sl 1 1 (fun _=>[D.int IntKind.i64 1]) Mode.full,D.int IntKind.i64 n.ki.length]:=by
  simp only[wkL,wkD,Bb]
  refine⟨⟨by simp,by simp,fun i hi=>?_,by simp[BG]⟩,by simp[Bn,Bb,kEq],trivial⟩
  match i,hi with
  |0,_=>exact Be _
 intro x
 repeat' (first | exact Be _ | exact w1 | exact Ck (p2 _ _) | exact Ck (p3 _ _ _) | exact Ck (BQ _) | refine And.intro ?_ ?_ | intro _)
 all_goals try simp only[B0,i2,i3] at *
 clear w1 i2 i3 p2 p3
 all_goals first
  |omega
  |(simp only[List.length_replicate];omega)
  |(simp_all[CR];done)
  |exact Bml (by assumption) (by assumption)
  |exact BpB (by assumption) (by assumption) (by assumption)
  |exact BoX (by assumption) (by assumption) (by assumption)
  |(simp_all[CR];omega)
theorem BjR{n:Nd}(h:Bz n=true):1<=n.cl/\n.cl<=4:=by
 rw[CF,Bool.and_eq_true] at h
 have h:=h.2
 by_cases hk:n.kd=10
 ·rw[if_pos hk,Bool.and_eq_true] at h
  have h:=h.1
  unfold Te at h
  rw[Bool.and_eq_true] at h
  have h:=h.2
  by_cases c2:n.cl=2
  ·omega
  ·rw[if_neg c2] at h
   by_cases c3:n.cl=3
   ·omega
   ·rw[if_neg c3] at h
    by_cases c4:n.cl=4
    ·omega
    ·rw[if_neg c4] at h;cases h
 ·rw[if_neg hk,Bool.or_eq_true,Bool.and_eq_true] at h
  rcases h with h | ⟨h,_⟩
  ·unfold C3 at h
   rw[Bool.and_eq_true] at h
   have h:=h.2
   repeat' (split at h)
   all_goals (try simp only[Bool.and_eq_true,beq_iff_eq,decide_eq_true_eq] at h)
   all_goals first
    |(have:=h.1.1;omega)
    |(have:=h.1;omega)
    |omega
    |cases h
  ·unfold CR at h
   repeat' (split at h)
   all_goals (try simp only[Bool.and_eq_true,beq_iff_eq,decide_eq_true_eq] at h)
   all_goals first
    |(have:=h.1.1.1;omega)
    |(have:=h.1;omega)
    |omega
    |cases h
def B1(l:List Sm):List (List UInt8):=(l.filter fun s=>s.kd==2).map Sm.nm
theorem Uv{l:List Sm}{i:Nat}(h:i<l.length):B1 (l.take (i+1))=if (l.getD i default).kd=2 then B1 (l.take i)++[(l.getD i default).nm] else B1 (l.take i):=by
 rw[B6 h]
 unfold B1
 rw[List.filter_append,List.map_append]
 generalize l.getD i default=x
 by_cases e:x.kd=2
 ·rw[if_pos e];simp[e]
 ·rw[if_neg e]
  simp[e]
theorem Ot{g:Bool}{l:List Sm}{i:Nat}(h:i<l.length):Cc g (B1 (l.take i)) (l.drop i)=(OR g (B1 (l.take i)) (l.getD i default)&&Cc g (B1 (l.take (i+1))) (l.drop (i+1))):=by
 rw[Gt h,Cc,Uv h]
theorem U8{g:Bool}{names:List (List UInt8)}{l:List Sm}{i:Nat}(h:l.length<=i):Cc g names (l.drop i)=true:=by
 rw[List.drop_eq_nil_of_le h,Cc]
def BlQ(names : List (List UInt8))(s : Sm) : Bool := decide (0 <= s.at_) && Bz s.nd &&
    (if s.kd = 1 then s.nd.cl == 1 && s.nm.isEmpty && s.sl == 0 && Cx s.te
     else if s.kd = 2 then !(names.contains s.nm) && Ce s.nm && decide (0 <= s.sl) && Cx s.te && !(decide (3 <= s.nd.cl) && s.nd.kd != 10)
     else if s.kd = 3 then s.nd.cl == 1 && Bz s.te && s.te.cl == 1 && s.nm.isEmpty && s.sl == 0
     else false)
theorem BfE(names:List (List UInt8))(s:Sm):BlQ names s=OR true names s:=by
 rw[GE]
 unfold BlQ
 cases hv:Bz s.nd with
 |false=>simp
 |true =>
  have hc:=BjR hv
  have hb:(s.nd.cl==1||s.nd.cl==2||s.nd.kd==10)=!(decide (3<=s.nd.cl)&&s.nd.kd != 10):=by
   rw[Bool.eq_iff_iff]
   simp only[Bool.or_eq_true,beq_iff_eq,Bool.not_eq_true',Bool.and_eq_false_iff,decide_eq_false_iff_not,bne_eq_false_iff_eq]
   omega
  rw[hb]
  by_cases h1:s.kd=1
  ·simp only[h1,if_true]
  ·by_cases h2:s.kd=2
   ·simp[h2]
    congr 1
    ac_rfl
   ·by_cases h3:s.kd=3
    ·simp[h3]
     congr 1
     ac_rfl
    ·simp only[h1,h2,h3,if_false]
theorem OP:∀(l:List Sm) (names:List (List UInt8)),Cc false names l=(Cc true names l&&l.all fun s=>s.kd != 3)
 | [],names=>by simp only[Cc,List.all_nil,Bool.and_self]
 |s::l,names=>by
  simp only[Cc,List.all_cons,OP l]
  have e:OR false names s=(OR true names s&&(s.kd != 3)):=by
   rw[GE,GE]
   by_cases h3:s.kd=3
   ·simp[h3]
   ·have:(s.kd != 3)=true:=by simpa using h3
    rw[this]
    simp only[h3,if_false,Bool.and_true]
  rw[e]
  ac_rfl
theorem BbB(l:List Sm):BP false l=(BP true l&&l.all fun s=>s.kd != 3):=by
 unfold BP
 rw[OP,Bool.and_assoc]
def UB(l:List Sm):Bool:=(l.all fun s=>s.kd != 3)&&(!Eo l 12&&(!Eo l 13&&(!Eo l 6&&(!Eo l 7&&!Eo l 11))))
theorem Bff(l:List Sm):(BP true l&&UB l)=(BP false l&&!RE l):=by
 rw[BbB]
 unfold UB
 cases hb:BP true l with
 |false=>rfl
 |true =>
  rw[Gl hb (by decide),Gl hb (by decide),Gl hb (by decide),Gl hb (by decide),Gl hb (by decide)]
  unfold RE
  simp only[List.any_cons,List.any_nil,Bool.or_false,Bool.true_and,Bool.not_or]
  cases (l.all fun s=>s.kd != 3)<;>simp
  ac_rfl
theorem BmR(n:Nd)(k:Int):CD 72 [.agg n.row2,.int .i64 k] (.bool (IL n k)):=by
 rw[<- Bc5]
 exact BnG n.kd n.at_ n.cl n.tx n.pr n.op n.va.k _ _ _ _ _ _ _ _ _ _ n.de n.sl n.ss k
theorem Blx(n:Nd):CD 53 [.agg n.row2] (.bool (Cx n)):=by
 rw[<- Bg5]
 exact BpM n.kd n.at_ n.cl n.tx n.pr n.op n.va.k _ _ _ _ _ _ _ _ _ _ n.de n.sl n.ss
def RNode(n:Nd):Prop:=CD 52 [.agg n.row2] (.bool (Bz n))
def RBody(l:List Sm)(g:Bool):Prop:=CD 32 [gsl 34 Sm.row1 l,.bool g] (.bool (BP g l))
def BjQ(n:Nd):Con:=fun k ds S=>match k with
 |57=>match ds with
  | [_,.int .i64 q]=>some (pA ds S (.bool (ES n.bo q)) (wkL ds [gsl 34 Sm.row1 n.bo,.int .i64 q]))
  |_=>none
 |32=>some (pA ds S (.bool (BP true n.bo)) (wkL ds [gsl 34 Sm.row1 n.bo,.bool true]))
 |_=>none
theorem GB{n:Nd}(h:n.sm):∀s∈n.bo,s.sm:=by
 cases n with
 |mk kd at_ cl tx pr op va ki bo de sl ss =>
  simp only[Nd.sm] at h
  exact (MN _).1 h.2.2.2
theorem BiF{n:Nd}(hn:n.sm)(h:RBody n.bo true):ConOk Tryz.prog (BjQ n):=by
 intro k ds S A hh
 unfold BjQ at hh
 split at hh
 ·split at hh
  ·injection hh with hh;subst hh
   exact Bo fun e=>CD.at_ (CD.wk (Boa n.bo _ (Ch (Cb hn).2.2) (GB hn)) e) _
  ·cases hh
 ·injection hh with hh;subst hh
  exact Bo fun e=>CD.at_ (CD.wk h e) _
 ·cases hh
noncomputable def Ela(n:Nd):Senv:={ EC (BjQ n) 55 5 [26,34,35,40,41,47,48,51] (fun id=>match id with | 3=>([0,1,3,4,2,5,6,7],[2,5]) | _=>([],[])) with mg:=fun _=>2 }
def V2(a:Nd):List Sm:=Nd.bo a
def QsJ(a:Nd):Bool:=BP true (V2 a)
def QsK(a:Nd):Bool:=Te a&&QsJ a
def Vs(a:Nd):Prop:=True/\∃(_y:Unit),True/\false=QsK a/\True/\True
def Qh7(a:Nd):Int:=(LI (V2 a))
def Qh8(a:Nd):Int:=IntKind.wrap IntKind.i64 (Qh7 a-Z1)
def Qh9:Arr:=DA
def Qbw:Nd:=Nd.mk Z0 Z0 Z0 [] Z0 Z0 Qh9 [] [] Z0 Z0 Z0
def Qbx:Sm:=Sm.mk Z0 Z0 [] Z0 Qbw Qbw
def X1(a:Nd)(b:Nat):Sm:=List.getD (V2 a) b Qbx
def QbA(a:Nd):D:=D.sl 34 (LN (V2 a)) (fun i=>(Sm.row1 (X1 a i))) Mode.any
def QsR(a:Nd):List D:=[QbA a,ZI 12]
def QsS(a:Nd):List D:=[QbA a,ZI 13]
def Qia(a:Nd):Int:=Nd.cl a
def QsT(a:Nd):Bool:=ES (V2 a) (12:Int)
def QsU(a:Nd):Bool:=ES (V2 a) (13:Int)
def QsV(a:Nd):List D:=[QbA a,D.bool true]
def QsW(a:Nat)(b:Nd):Prop:=SM a/\∃(_x:Unit),wkL (QsV b) (QsV b)/\∀(_y:Unit),True->True/\∃(_y:Unit),True/\QsJ b=QsK b/\True/\True
def QsX(a:Nd)(b:Nat):Prop:=ifB (QsU a) (Vs a) (QsW b a)
theorem Bnk(n:Nd)(hn:n.sm)(h:RBody n.bo true):CD 73 [.agg n.row2] (.bool (Te n && BP true n.bo)) := by
  refine Bg (A := sC _ _) (x := ()) (E := Ela n) (eOk (BiF hn h) rfl) Tryz.func73 rfl (by kernel_rfl) rfl (by simp [sC,Ela,EC,E0]) ?_
  refine Bi (T :=
    ∀ (x:Nat),True->SM x/\ifB (decide (Z0 < (LI (Nd.ki n)))) (Vs n) (SM x/\ifB (Qh7 n == Z0) (Vs n) (SM x/\SM x/\Bc (Z0 <= Qh8 n/\Qh8 n < Qh7 n) (ifB (Sm.kd (List.getD (V2 n) (Int.toNat (Qh8 n)) Qbx) != Z1) (Vs n) (SM x/\SM x/\∃ (x_1:Unit),wkL (QsR n) (QsR n)/\∀ (y:Unit),True->(SM x/\SM (QbA n))/\∃ (x_2:Unit),wkL (QsS n) (QsS n)/\∀ (y:Unit),True->SM x/\ifB (Qia n == (2:Int)) (ifB (QsT n) (Vs n) (QsX n x)) (ifB (Qia n == (3:Int)) (ifB (!QsT n) (Vs n) (QsX n x)) (ifB (Qia n == (4:Int)) (ifB (!QsU n) (Vs n) (QsW x n)) (Vs n)))))))) (by kernel_rfl) ?_
  delta DA GI LI LN N1 N4 SI SM Z0 Z1 ZI V2 QsJ QsK QbA QsR QsS Qia QsT QsU Vs QsV QsW QsX Qh7 Qh8 Qh9 Qbw Qbx X1
  try simp only [<- dm]
  try simp only [<- dn]
  simp only [ne_eq,Bf,Bd,decide_eq_true_eq,decide_eq_false_iff_not,true_and,and_true,beq_iff_eq,bne_iff_ne,bne_eq_false_iff_eq,beq_eq_false_iff_ne,Bool.not_eq_true',Bool.not_eq_false',exists_const,forall_const]
  have e1:n.ki.isEmpty = (n.ki.length == 0) := by cases n.ki <;> rfl
  have e2:n.bo.isEmpty = (n.bo.length == 0) := by cases n.bo <;> rfl
  have hlen := (Cb hn).2.2
  unfold BC at hlen
  by_cases hb:n.bo.length = 0
  · skip
    repeat' (first | exact Be _ | refine And.intro ?_ ?_ | intro _)
    all_goals first
      | (exfalso; omega)
      | (unfold Te; rw [e1,e2,hb]; simp; done)
  · have w:IntKind.i64.wrap ((n.bo.length:Int) - 1) = ((n.bo.length - 1:Nat):Int) := by rw [Ba (by omega) (by omega)]; omega
    simp only [w,Int.toNat_natCast]
    have e3:(n.bo.length == 0) = false := by simpa using hb
    repeat' (first | exact Be _ | refine And.intro ?_ ?_ | intro _)
    all_goals first
      | omega
      | (unfold Te; rw [e1,e2,e3]; simp_all; done)
      | (have h9 : n.ki.isEmpty = false := by rw [e1, beq_eq_false_iff_ne]; omega
         unfold Te; rw [h9]; simp; done)
def Bit(n:Nd):Con:=fun k ds S=>match k with
 |72=>match ds with
  | [_,.int .i64 q]=>some (pA ds S (.bool (IL n q)) (isN2 n ds [.int .i64 q]))
  |_=>none
 |73=>some (pA ds S (.bool (Te n&&BP true n.bo)) (isN2 n ds []))
 |74=>some (pA ds S (.bool (C3 n)) (isN2 n ds []))
 |75=>some (pA ds S (.bool (CR n)) (isN2 n ds []))
 |48=>some (pA ds S (.bool (n.ki.any fun b=>!Bz b)) (wkL ds [gsl 15 Nd.row1 n.ki,.fn (.func 76) [] []]))
 |_=>none
def BnL(b:Nd):Con:=fun k ds S=>match k with
 |52=>some (pA ds S (.bool (Bz b)) (isN b ds []))
 |_=>none
noncomputable def En1(b:Nd):Senv:=EC (BnL b) 6 3 [] (fun _=>([],[]))
theorem Bqn(b:Nd)(h:RNode b):CS 76 [.agg b.row1] ⟨[],[]⟩ (.bool (!Bz b)):=by
 refine CS.of (Bg (A:=sS _ _ _) (x:=()) (E:=En1 b) (eOk ?_ rfl) Tryz.func76 rfl (by kernel_rfl) rfl (by simp[sS,En1,EC,E0]) ?_)
 ·intro k ds S A hh
  try unfold BnL at hh
  try dsimp only at hh
  split at hh
  ·injection hh with hh;subst hh
   exact Bo fun e=>CD.at_ (CD.isN h e) _
  ·cases hh
 refine Bi (T :=
  ∀(x:Nat),True->SM x/\∃(x:Unit),isN b [D.agg (Nd.rowE b)] []/\∀(y:Unit),True->RT ((!Bz b)=!Bz b)) (by kernel_rfl) ?_
 delta DA GI LN N1 N4 SI SM Z0 ZI RT
 try simp only[<- dm]
 try simp only[<- dn]
 simp only[implies_true,true_and,and_true,exists_const,forall_const]
 first
  |exact Bl _ _
  |exact fun _=>Bl _ _
theorem Bl2{n:Nd}(hn:n.sm)(ho:n.va.ok)(h1:RBody n.bo true)(h2:∀b∈n.ki,RNode b):ConOk Tryz.prog (Bit n):=by
 intro k ds S A hh
 have hl:=Ch (Cb hn).2.1
 unfold Bit at hh
 split at hh
 ·split at hh
  ·injection hh with hh;subst hh
   exact Bo fun e=>CD.at_ (CD.wk (BmR n _) e) _
  ·cases hh
 ·injection hh with hh;subst hh
  exact Bo fun e=>CD.at_ (CD.wk (Bnk n hn h1) e) _
 ·injection hh with hh;subst hh
  exact Bo fun e=>CD.at_ (CD.wk (BpU n ho) e) _
 ·injection hh with hh;subst hh
  exact Bo fun e=>CD.at_ (CD.wk (BpT n hl) e) _
 ·injection hh with hh;subst hh
  exact Bo fun e=>CD.at_ (CD.wk (CS.cd (Nxc_ok n.ki (fun b=>!Bz b) (fun b hb=>Bqn b (h2 b hb)) hl)) e) _
 ·cases hh
noncomputable def End(n:Nd):Senv:=EC (Bit n) 25 3 [7,10] (fun _=>([],[]))
def ZK(a:Nd):Int:=Nd.kd a
def Qs1:Arr:=DA
def Qic(a:Nd):List Nd:=Nd.ki a
def Qid:Nd:=Nd.mk Z0 Z0 Z0 [] Z0 Z0 Qs1 [] [] Z0 Z0 Z0
def Qs2(a:Nd):D:=D.sl 15 (LN (Qic a)) (fun i=>Nd.row1 (List.getD (Qic a) i Qid)) Mode.any
def Qie(a:Nd):List Sm:=Nd.bo a
def Qs3(a:Nd):D:=D.agg (Nd.row2 a)
def ZL(a:Nd):Bool:=Bz a
def Qs4(a:Nd):Prop:=True/\∃(_y:Unit),True/\false=ZL a/\True/\True
def Qif(a:Nd):Prop:=isN2 a [Qs3 a] []
def Qs5(a:Nd):List D:=[Qs2 a,D.fn (Fn.func (76:Nat)) [] []]
theorem Bne(n:Nd)(hn:n.sm)(ho:n.va.ok)(h1:RBody n.bo true)(h2:∀b∈n.ki,RNode b):RNode n:=by
 refine Bg (A:=sC _ _) (x:=()) (E:=End n) (eOk (Bl2 hn ho h1 h2) rfl) Tryz.func52 rfl (by kernel_rfl) rfl (by simp[sC,End,EC,E0]) ?_
 refine Bi (T :=
  ∀(x:Nat),True->SM x/\SM x/\∃(x_1:Unit),isN2 n [Qs3 n,ZI (ZK n)] [ZI (ZK n)]/\∀(y:Unit),True->ifB (!IL n (ZK n)) (Qs4 n) (SM x/\ifB (ZK n==10) (SM x/\∃(x:Unit),Qif n/\∀(y:Unit),True->RT ((Te n&&BP true (Qie n))=ZL n)) (SM x/\∃(x_2:Unit),Qif n/\∀(y:Unit),True->ifB (C3 n) (RT (true=ZL n)) (SM x/\∃(x_3:Unit),Qif n/\∀(y:Unit),True->ifB (CR n) (SM x/\∃(x:Unit),wkL (Qs5 n) (Qs5 n)/\∀(y:Unit),True->RT ((!List.any (Qic n) fun (b:Nd)=>!ZL b)=ZL n)) (Qs4 n))))) (by kernel_rfl) ?_
 delta DA GI LN N1 N4 SI SM Z0 ZI ZK Qs1 Qic Qid Qs2 Qie Qs3 ZL Qs4 Qif Qs5 RT
 try simp only[<- dm]
 try simp only[<- dn]
 simp only[ne_eq,Bf,true_and,and_true,beq_iff_eq,beq_eq_false_iff_ne,Bool.not_eq_true',Bool.not_eq_false',exists_const,forall_const]
 have e:n.ki.all Bz=!(n.ki.any fun b=>!Bz b):=List.all_eq_not_any_not
 rw[CF,e]
 repeat' (first | exact CJ n _ | exact Be _ | refine And.intro ?_ ?_ | intro _)
 all_goals first
  |(simp_all;done)
def BdN(prs:List (List UInt8×Int))(names:List (List UInt8)):Prop:=∀s,(Ou prs s).getD 0=(names.count s:Int)
theorem WE(nm:List UInt8)(v:Int):∀(l:List (List UInt8×Int)) (s:List UInt8),Ou (BdP l nm v) s=if nm=s then some v else Ou l s
 | [],s=>by
  simp only[BdP,Ou]
 |(t,n)::r,s=>by
  simp only[BdP]
  by_cases e:t=nm
  ·rw[if_pos e]
   simp only[Ou,e]
   by_cases e2:nm=s
   ·rw[if_pos e2,if_pos e2]
   ·rw[if_neg e2,if_neg e2,if_neg e2]
  ·rw[if_neg e]
   simp only[Ou,WE nm v r s]
   by_cases e2:t=s
   ·rw[if_pos e2,if_pos e2,if_neg (fun e3=>e (e2.trans e3.symm))]
   ·rw[if_neg e2,if_neg e2]
theorem BkZ{prs:List (List UInt8×Int)}{names:List (List UInt8)}(h:BdN prs names)(nm:List UInt8):BdN (BdP prs nm ((Ou prs nm).getD 0+1)) (names++[nm]):=by
 intro s
 rw[WE,List.count_append,h nm]
 by_cases e:nm=s
 ·subst e
  rw[if_pos rfl]
  simp
 ·rw[if_neg e,h s]
  simp[e]
theorem BkK{prs:List (List UInt8×Int)}{names:List (List UInt8)}(h:BdN prs names)(nm:List UInt8):((Ou prs nm).getD 0+1=1)↔names.contains nm=false:=by
 rw[h nm]
 constructor
 ·intro e
  have:names.count nm=0:=by omega
  simpa using List.count_eq_zero.1 this
 ·intro e
  have:names.count nm=0:=List.count_eq_zero.2 (by simpa using e)
  omega
def BlS:Con:=fun k ds S=>match k with
 |52=>some (pE (β:=Nd) ds S (fun b=>.bool (Bz b)) (fun b=>isN b ds []/\RNode b))
 |53=>some (pE (β:=Nd) ds S (fun b=>.bool (Cx b)) (fun b=>isN b ds []))
 |54=>match ds with
  | [.str s]=>some (pA ds S (.bool (Ce s)) True)
  |_=>none
 |_=>none
theorem BkP:ConOk Tryz.prog BlS:=by
 intro k ds S A hh
 unfold BlS at hh
 split at hh
 ·injection hh with hh;subst hh
  exact Co fun b ⟨e,h⟩=>CD.at_ (CD.isN h e) _
 ·injection hh with hh;subst hh
  exact Co fun b e=>CD.at_ (CD.isN (Blx b) e) _
 ·split at hh
  ·injection hh with hh;subst hh
   exact Bo fun _=>CD.at_ (BnH _) _
  ·cases hh
 ·cases hh
structure BoI (l:List Sm) (g:Bool) (i:Nat) (r:Bool) (prs:List (List UInt8×Int)):Prop where
 le:i<=l.length
 cnt:r=true->BdN prs (B1 (l.take i))
 tot:BP g l=(r&&Cc g (B1 (l.take i)) (l.drop i))
noncomputable def Ebo(l:List Sm)(g:Bool):Senv:={ EC BlS 128 2 [4,5,6,8,9,14,15,16,17,32,37,38,57,98] (fun _=>([],[])) with
 mg:=fun _=>2
 ann:=fun b env _S=>match b with
  |0=>match Ab.look env 6 with
   |.map _k x=>some { slots:=[16,5],keep:=[0,1,6,14,15],α:=Nat×Bool×List (List UInt8×Int),st:=fun y=>([.int .i64 y.1,.bool y.2.1],⟨[(0,x,.amap .i64 y.2.2)],[]⟩),inv:=fun y=>BoI l g y.1 y.2.1 y.2.2,mu:=fun y=>l.length-y.1 }
   |_=>none
  |_=>none }
def V3(a:List Sm)(b:Bool)(c:Nat)(d:Bool)(e:List (List UInt8×Int)):Prop:=BoI a b c d e
def ZM:Arr:=DA
def X2:Nd:=Nd.mk Z0 Z0 Z0 [] Z0 Z0 ZM [] [] Z0 Z0 Z0
def X3:Sm:=Sm.mk Z0 Z0 [] Z0 X2 X2
def X4(a:List Sm)(b:Nat):Sm:=List.getD a (Int.toNat (↑b:Int)) X3
def Kd(a:List Sm)(b:Nat):Nd:=Sm.nd (X4 a b)
def Qs6(a:List Sm)(b:Nat):Int:=Nd.kd (Kd a b)
def Qig(a:List Sm)(b:Nat):Int:=Nd.cl (Kd a b)
def Qih(a:Nd):Bool:=Bz a
def Qii(a:List Sm)(b:Nat):Int:=Sm.kd (X4 a b)
def Qij(a:List Sm)(b:Nat):Bool:=Qig a b==Z1
def ZN(a:List Sm)(b:Nat):List UInt8:=Sm.nm (X4 a b)
def Qta(a:List Sm)(b:Nat):Bool:=ZN a b==[]
def Qtb(a:List Sm)(b:Nat):Int:=Sm.sl (X4 a b)
def Qtc(a:List Sm)(b:Nat):Bool:=Qtb a b==Z0
def Ke(a:List Sm)(b:Nat):Nd:=Sm.te (X4 a b)
def Qtd(a:List Sm)(b:Nat):Int:=Nd.cl (Ke a b)
def Qik(a:Nd)(b:List Sm)(c:Nat):Prop:=isN a [D.agg (Nd.rowE (Ke b c))] []
def X5(a:List Sm)(b:Nat):Sm:=List.getD a b X3
def QPp(a:List Sm):D:=D.sl 34 (LN a) (fun i=>(Sm.row1 (X5 a i))) Mode.any
def Qtn(a:List Sm):Prop:=SM (QPp a)
def ZO(a:List Sm)(b:Bool)(c:Nat):Prop:=Qtn a/\SM (D.bool b)/\SM (D.map N0 c)/\Qtn a/\SM (ZI (LI a))/\True
def QbH(a b:Nat):Prop:=IntKind.wrap IntKind.i64 ((↑a:Int)+Z1)=(↑b:Int)
def Qto(a b:Nat)(c:Nd)(d:Bool):Prop:=QbH a b/\Cx c=d/\True
def J4(a:List Sm)(b:Bool)(c d:Nat)(e:List (List UInt8×Int)):Prop:=ZO a b c/\∃(y:Nat×Bool×List (List UInt8×Int)),V3 a b y.1 y.2.1 y.2.2/\LN a-y.1<LN a-d/\(QbH d y.1/\false=y.2.1/\True)/\(SM c/\e=y.2.2/\True)/\True
def Qtp(a:List (List UInt8×Int))(b:List Sm)(c:Nat):List (List UInt8×Int):=BdP a (ZN b c) (IntKind.wrap IntKind.i64 (Option.getD (Ou a (ZN b c)) Z0+Z1))
def Qtq(a:Nat)(b:List (List UInt8×Int))(c:List Sm)(d:Nat)(e:List (List UInt8×Int)):Prop:=(SM a/\Qtp b c d=e/\True)/\True
def QbI(a:List Sm)(b:Bool)(c d:Nat)(e:List (List UInt8×Int)):Prop:=ZO a b c/\∃(y:Nat×Bool×List (List UInt8×Int)),V3 a b y.1 y.2.1 y.2.2/\LN a-y.1<LN a-d/\(QbH d y.1/\false=y.2.1/\True)/\Qtq c e a d y.2.2
def Qil(a:Nat)(b:List Sm)(c:Nat)(d:Bool)(e:Nat)(f:List (List UInt8×Int)):Prop:=SM a/\ifB (decide (Z0<=Qtb b c)) (SM a/\∃(x:Nd),Qik x b c/\∀(_y:Unit),True->ZO b d e/\∃(y:Nat×Bool×List (List UInt8×Int)),V3 b d y.1 y.2.1 y.2.2/\LN b-y.1<LN b-c/\Qto c y.1 x y.2.1/\Qtq e f b c y.2.2) (QbI b d e c f)
def Qtr(a:Bool)(b:List Sm):Prop:=True/\∃(_y:Unit),True/\false=BP a b/\True/\True
theorem BfV(l:List Sm)(g:Bool)(hl:l.length<=BC)(h:∀s∈l,RNode s.nd/\RNode s.te):RBody l g:=by
 refine Bg (A:=sC _ _) (x:=()) (E:=Ebo l g) (eOk BkP rfl) Tryz.func32 rfl (by kernel_rfl) rfl (by simp[sC,Ebo,EC,E0]) ?_
 refine Bi (T :=
  ∀(y:Nat),True->(∃(x:Nat×Bool×List (List UInt8×Int)),V3 l g x.1 x.2.1 x.2.2/\(Z0=(NI x.1)/\decide ((LI l)<=1000)=x.2.1/\True)/\(SM y/\Cv (List (List UInt8×Int)) [] x.2.2/\True)/\True)/\∀(x:Nat×Bool×List (List UInt8×Int)),V3 l g x.1 x.2.1 x.2.2->ifB (decide ((NI x.1)<(LI l))) (Bc (Z0<=(NI x.1)/\(NI x.1)<(LI l)) (∀(x_1:Nat),y≠x_1/\True->SM x_1/\ifB x.2.1 (SM x_1/\ifB (decide (Z0<=Sm.at_ (X4 l x.1))) (SM x_1/\∃(x_2:Nd),(isN x_2 [D.agg (Nd.rowE (Sm.nd (List.getD l (Int.toNat (↑ x.1 : Int)) (Sm.mk 0 0 [] 0 (Nd.mk 0 0 0 [] 0 0 (Arr.mk 0 [] [] []) [] [] 0 0 0) (Nd.mk 0 0 0 [] 0 0 (Arr.mk 0 [] [] []) [] [] 0 0 0)))))] []/\RNode x_2)/\∀(y_1:Unit),True->ifB (!Qih x_2) (RT (Qih x_2=BP g l)) (SM x_1/\SM x_1/\ifB (Qii l x.1==Z1) (ifB (Qij l x.1) (SM x_1/\ifB (Qta l x.1) (SM x_1/\ifB (Qtc l x.1) (SM x_1/\∃(x_3:Nd),Qik x_3 l x.1/\∀(y_2:Unit),True->ZO l g y/\∃(y_3:Nat×Bool×List (List UInt8×Int)),V3 l g y_3.1 y_3.2.1 y_3.2.2/\LN l-y_3.1<LN l-x.1/\Qto x.1 y_3.1 x_3 y_3.2.1/\(SM y/\x.2.2=y_3.2.2/\True)/\True) (J4 l g y x.1 x.2.2)) (J4 l g y x.1 x.2.2)) (J4 l g y x.1 x.2.2)) (ifB (Qii l x.1==2) (SM x_1/\SM y/\SM y/\SM x_1/\∃(x_3:Unit),True/\∀(y_2:Unit),True->ifB (Ce (ZN l x.1)) (SM x_1/\SM y/\ifB (Option.getD (Ou (Qtp x.2.2 l x.1) (ZN l x.1)) Z0==Z1) (ifB (Qij l x.1) (Qil x_1 l x.1 g y x.2.2) (ifB (Qig l x.1==2) (Qil x_1 l x.1 g y x.2.2) (SM x_1/\ifB (Qs6 l x.1==10) (Qil x_1 l x.1 g y x.2.2) (QbI l g y x.1 x.2.2)))) (QbI l g y x.1 x.2.2)) (QbI l g y x.1 x.2.2)) (ifB (Qii l x.1==3) (ifB g (SM x_1/\∃(x_3:Nd),(Qik x_3 l x.1/\RNode x_3)/\∀(y_2:Unit),True->ifB (Qih x_3) (SM x_1/\ifB (Qtd l x.1==Z1) (ifB (Qij l x.1) (SM x_1/\ifB (Qta l x.1) (SM x_1/\ZO l g y/\∃(y_3:Nat×Bool×List (List UInt8×Int)),V3 l g y_3.1 y_3.2.1 y_3.2.2/\LN l-y_3.1<LN l-x.1/\(QbH x.1 y_3.1/\Qtc l x.1=y_3.2.1/\True)/\(SM y/\x.2.2=y_3.2.2/\True)/\True) (J4 l g y x.1 x.2.2)) (J4 l g y x.1 x.2.2)) (J4 l g y x.1 x.2.2)) (J4 l g y x.1 x.2.2)) (J4 l g y x.1 x.2.2)) (J4 l g y x.1 x.2.2))))) (Qtr g l)) (Qtr g l))) (RT (x.2.1=BP g l))) (by kernel_rfl) ?_
 delta DA GI LI LN N0 N1 N4 NI SI SM Z0 Z1 ZI V3 ZM Qih Qii Qij ZN Qta Qtb X2 Qtc Ke Qtd Qik X3 X5 X4 QPp Qtn ZO QbH Qto Kd J4 Qtp Qtq QbI Qil Qtr Qs6 Qig RT
 try simp only[<- dm]
 try simp only[<- dn]
 simp only[ne_eq,Int.toNat_natCast,Bf,Bd,decide_eq_true_eq,decide_eq_false_iff_not,true_and,and_true,beq_iff_eq,beq_eq_false_iff_ne,Bool.not_eq_true',Bool.not_eq_false',exists_const,forall_const,Prod.exists]
 intro y
 unfold BC at hl
 have hnd1:(decide ((l.length:Int)<=1000))=decide (l.length<=1000):=decide_eq_decide.2 (by omega)
 refine⟨⟨0,decide ((l.length:Int)<=1000),[],⟨Nat.zero_le _,fun _ s=>by simp[Ou,B1],?_⟩,⟨rfl,rfl⟩,rfl⟩,?_⟩
 ·rw[hnd1]
  rfl
 rintro ⟨i,r,prs⟩ hI
 simp only at hI ⊢
 refine⟨fun hlt=>⟨⟨by omega,hlt⟩,fun z _=>?_⟩,fun hge=>?_⟩
 ·have hlt':i<l.length:=by omega
  have hm:=C4 hlt'
  have hnm:=Uv hlt'
  obtain ⟨hnd,hte⟩:=h _ hm
  have tot:=hI.tot
  rw[Ot hlt',GE] at tot
  have w:IntKind.i64.wrap ((i:Int)+1)=((i+1:Nat):Int):=by rw[Ba (by omega) (by omega)];rfl
  have go : ∀(r2 : Bool) (prs2 : List (List UInt8×Int)), (r2=true -> BdN prs2 (B1 (l.take (i+1)))) -> BP g l=(r2&&Cc g (B1 (l.take (i+1))) (l.drop (i+1))) ->
    ∃a a_1 b,BoI l g a a_1 b/\l.length-a<l.length-i/\(IntKind.i64.wrap ((i:Int)+1)=(a:Int)/\r2=a_1)/\prs2=b:=fun r2 prs2 c1 c2 =>
   ⟨i+1,r2,prs2,⟨hlt',c1,c2⟩,by omega,⟨w,rfl⟩,rfl⟩
  have hcount:∀nm,(B1 (l.take i)).count nm<=8589934592:=fun nm=>by
   have h1:=List.count_le_length (a:=nm) (l:=B1 (l.take i))
   have h2:(B1 (l.take i)).length<=(l.take i).length:=by
    unfold B1
    rw[List.length_map]
    exact List.length_filter_le _ _
   rw[List.length_take] at h2
   omega
  generalize Cc g (B1 (l.take (i+1))) (l.drop (i+1))=rest at tot go
  generalize hs:l.getD i default=s at *
  cases r with
  |false =>
   simp only[Bool.false_and] at tot
   simp[tot]
  |true =>
   have hc:=hI.cnt rfl
   have wc:IntKind.i64.wrap ((Ou prs s.nm).getD 0+1)=(Ou prs s.nm).getD 0+1:=by
    have:=hcount s.nm
    rw[hc s.nm]
    exact Ba (by omega) (by omega)
   have one:=BkK hc s.nm
   have put:=BkZ hc s.nm
   simp only[wc,WE,if_true,Option.getD_some,one]
   have c1:s.kd≠2->BdN prs (B1 (l.take (i+1))):=fun e=>by rw[hnm,if_neg e];exact hc
   have c2:s.kd=2->BdN (BdP prs s.nm ((Ou prs s.nm).getD 0+1)) (B1 (l.take (i+1))):=fun e=>by rw[hnm,if_pos e];exact put
   clear hs hI hm h hc put
   repeat' (first
    |exact fun _=>c1 (by omega)
    |exact fun _=>c2 (by assumption)
    |refine⟨s.nd,⟨Bl _ _,hnd⟩,?_⟩
    |refine⟨s.te,⟨Bl _ _,hte⟩,?_⟩
    |refine⟨s.te,Bl _ _,?_⟩
    |refine go _ _ ?_ ?_
    |refine And.intro ?_ ?_
    |intro _)
   all_goals first
    |(clear c1 c2 hnm go;rw[tot];simp_all;done)
    |(clear c1 c2 hnm go;rw[tot];simp_all;omega)
    |trace_state
 ·have e:i=l.length:=by have:=hI.le;omega
  have tot:=hI.tot
  rw[e,U8 (Nat.le_refl _),Bool.and_true] at tot
  exact tot.symm
def TP(s:Int)(k:Nat):Int:=if s+(k:Int)<=16385 then s+(k:Int) else 16385
theorem BiQ{l:List Nd}{i:Nat}(h:i<l.length):szL (l.take (i+1))=szL (l.take i)+szN (l.getD i default):=by
 rw[B6 h,I9]
 simp only[szL]
 omega
theorem Bdg(l:List Nd)(i:Nat):szL (l.take i)<=szL l:=by
 have h:=I9 (l.take i) (l.drop i)
 rw[List.take_append_drop] at h
 omega
def BmM(xs xc:Nat)(s:Int):St:=⟨[(2,xc,.cells [.fn (.func 51) [] [.ref 1 xs 0,.ref 2 xc 0]]),(1,xs,.cells [.int .i64 s])],[]⟩
def sSz(xs xc:Nat)(q:Nd×Int->Prop):FnSpec where
 β:=Nd×Int
 α:=Unit
 args:=fun y=>[.agg y.1.row1,.ref 1 xs 0,.ref 2 xc 0]
 st:=fun y=>BmM xs xc y.2
 pre:=q
 post:=fun _ _=>True
 res:=fun _ _=>.ret (.tup [])
 out:=fun y _=>BmM xs xc (TP y.2 (szN y.1))
def Tz(xs xc:Nat):FnSpec where
 β:=Nd×Int
 α:=Unit
 args:=fun y=>[.agg y.1.row2,.ref 1 xs 0,.ref 2 xc 0]
 st:=fun y=>BmM xs xc y.2
 pre:=fun _=>True
 post:=fun _ _=>True
 res:=fun _ _=>.ret (.tup [])
 out:=fun y _=>BmM xs xc (TP y.2 (szN y.1))
def BlT(xs xc:Nat)(n:Nd):Con:=fun k ds S=>match k with
 |49=>some (pA ds S (gsl 15 Nd.row1 (BH n)) (isN2 n ds []))
 |51=>some (sSz xs xc (fun y=>y.1∈BH n/\0<=y.2/\y.2<=16384))
 |_=>none
noncomputable def Esz1(xs xc:Nat)(n:Nd)(s:Int):Senv:={ EC (BlT xs xc n) 21 4 [5,9,10,11,12,16] (fun _=>([],[])) with
 ann:=fun b _ _S=>match b with
  |0=>some { slots:=[11],keep:=[0,1,2,3,9,10],α:=Nat×Int,st:=fun y=>([.int .i64 y.1],⟨[(2,xc,.cells [.fn (.func 51) [] [.ref 1 xs 0,.ref 2 xc 0]]),(1,xs,.cells [.int .i64 y.2])],[]⟩),inv:=fun y=>y.1<=(BH n).length/\y.2=TP (s+1) (szL ((BH n).take y.1)),mu:=fun y=>(BH n).length-y.1 }
  |_=>none }
def QbJ(a:Nd):Arr:=Nd.va a
def Qts(a:Nd):Int:=Arr.k (QbJ a)
def Qtt(a:Nd):List Int:=Arr.sh (QbJ a)
def Qtu(a:Nd):Nat:=LN (Qtt a)
def Qtv(a:Nd)(b:Nat):List D:=[ZI (GI (Qtt a) b)]
def Qtw(a:Nd):List Int:=Arr.nu (QbJ a)
def Qtx(a:Nd):Nat:=LN (Qtw a)
def Qty(a:Nd)(b:Nat):List D:=[ZI (GI (Qtw a) b)]
def Qtz(a:Nd):List Arr:=Arr.it (QbJ a)
def QtA(a:Nd):Nat:=LN (Qtz a)
def Qim:Arr:=DA
def QtB(a:Nd)(b:Nat):List D:=Arr.row (List.getD (Qtz a) b Qim)
def X6:Nd:=Nd.mk Z0 Z0 Z0 [] Z0 Z0 Qim [] [] Z0 Z0 Z0
def QtC(a:Nd)(b:Nat):Nd:=List.getD (Nd.ki a) b X6
def QtD:Sm:=Sm.mk Z0 Z0 [] Z0 X6 X6
def QtE(a:Nd)(b:Nat):Sm:=List.getD (Nd.bo a) b QtD
def QtF(a:Nd):D:=D.agg (Nd.row2 a)
def ZP(a:Nd):List Nd:=BH a
def ZQ(a:Nd):Nat:=LN (ZP a)
def Qin(a:Nat)(b:Nd)(c d:Int):Prop:=a<=ZQ b/\c=TP (d+Z1) (szL (List.take a (ZP b)))
def QPq(a b:Nat):D:=D.fn (Fn.func (51:Nat)) [] [D.ref N1 a N0,D.ref N2 b N0]
def QbK(a b:Nat):Prop:=SM (QPq a b)/\True
def Qio(a:Nd):Int:=(NI (ZQ a))
def QtG(a:Int)(b:Nd):Int:=TP a (szN b)
def QtH(a b:Nat)(c d:Int)(e:Nd):Prop:=True/\∃(_y:Unit),True/\True/\(SM a/\QbK b a/\SM b/\(c=QtG d e/\True)/\True)/\True
def Kh(a:Nd)(b:Nat):Nd:=List.getD (ZP a) (Int.toNat (↑b:Int)) X6
def QbL(a:Nd)(b:Nat):Arr:=Nd.va (Kh a b)
def QtI(a:Nd)(b:Nat):List Int:=Arr.sh (QbL a b)
def QtJ(a:Nd)(b:Nat):Nat:=LN (QtI a b)
def QtK(a:Nd)(b:Nat):List Int:=Arr.nu (QbL a b)
def QtL(a:Nd)(b:Nat):Nat:=LN (QtK a b)
def QtM(a:Nd)(b:Nat):List Arr:=Arr.it (QbL a b)
def QtN(a:Nd)(b:Nat):Nat:=LN (QtM a b)
def QtO(a:Nd)(b:Nat):List Nd:=Nd.ki (Kh a b)
def QtP(a:Nd)(b:Nat):Nat:=LN (QtO a b)
def QtQ(a:Nd)(b:Nat):List Sm:=Nd.bo (Kh a b)
def QtR(a:Nd)(b:Nat):Nat:=LN (QtQ a b)
def QPr(a:Nd):D:=D.sl 15 (ZQ a) (fun i=>Nd.row1 (List.getD (ZP a) i X6)) Mode.any
theorem Bkp(xs xc : Nat)(n : Nd)(s : Int)(hn : n.sm)(h0 : 0<=s)(h1 : s<=16384)(h : ∀b∈BH n, ∀z, 0<=z -> z<=16384 -> ACalls Tryz.prog 51 ((Tz xs xc).args (b, z)) ((Tz xs xc).st (b, z)) (SpecR (Tz xs xc) (b, z))) :
  ACalls Tryz.prog 51 ((Tz xs xc).args (n,s)) ((Tz xs xc).st (n,s)) (SpecR (Tz xs xc) (n,s)):=by
 obtain ⟨_,k1,k2⟩:=Cb hn
 refine Bg (A:=Tz xs xc) (x:=(n,s)) (E:=Esz1 xs xc n s) (eOk ?_ rfl) Tryz.func51 rfl (by kernel_rfl) rfl (by simp[Tz,Esz1,EC,E0]) ?_
 ·intro k ds S A hh
  try unfold BlT at hh
  try dsimp only at hh
  split at hh
  ·injection hh with hh;subst hh
   exact Bo fun e=>CD.at_ (CD.wk (Bl7 n k1 k2) e) _
  ·injection hh with hh;subst hh
   refine ConOk.plain (fun y hy=>?_) rfl rfl
   refine ((h y.1 hy.1 y.2 hy.2.1 hy.2.2).wkArgs ?_).mono fun _ _ ⟨u,q1,q2,q3⟩=>⟨u,q1,q2,q3⟩
   simp only[Tz,sSz,wkL,wkD]
   exact⟨Mt _,by simp[Bn,Bb],by simp[Bn,Bb],trivial⟩
  ·cases hh
 refine Bi (T :=
  ∀(x:Nat),xc≠x/\xs≠x/\True->SM xs/\SM xs/\SM x/\∃(x_1:Unit),isN2 n [QtF n] []/\∀(y:Unit),True->(∃(x:Nat×Int),Qin x.1 n x.2 s/\(Z0=(NI x.1)/\True)/\(SM xc/\QbK xs xc/\SM xs/\(IntKind.wrap IntKind.i64 (s+Z1)=x.2/\True)/\True)/\True)/\∀(x_2:Nat×Int),Qin x_2.1 n x_2.2 s->ifB (decide ((NI x_2.1)<Qio n)) (Bc (Z0<=(NI x_2.1)/\(NI x_2.1)<Qio n) (∀(x_3:Nat),xc≠x_3/\xs≠x_3/\True->SM x_3/\SM xs/\ifB (decide ((16384:Int)<x_2.2)) (QtH xc xs x_2.2 s n) (SM xc/\SM x_3/\∃(x_4:Nd×Int),((Nd.kd (Kh n x_2.1)=Nd.kd x_4.1/\Nd.at_ (Kh n x_2.1)=Nd.at_ x_4.1/\Nd.cl (Kh n x_2.1)=Nd.cl x_4.1/\Nd.tx (Kh n x_2.1)=Nd.tx x_4.1/\Nd.pr (Kh n x_2.1)=Nd.pr x_4.1/\Nd.op (Kh n x_2.1)=Nd.op x_4.1/\Arr.k (QbL n x_2.1)=Qts x_4.1/\(QtJ n x_2.1=Qtu x_4.1/\(∀(i:Nat),i<QtJ n x_2.1->[ZI (GI (QtI n x_2.1) i)]=Qtv x_4.1 i)/\True)/\(QtL n x_2.1=Qtx x_4.1/\(∀(i:Nat),i<QtL n x_2.1->[ZI (GI (QtK n x_2.1) i)]=Qty x_4.1 i)/\True)/\(QtN n x_2.1=QtA x_4.1/\(∀(i:Nat),i<QtN n x_2.1->Arr.row (List.getD (QtM n x_2.1) i Qim)=QtB x_4.1 i)/\True)/\(QtP n x_2.1=LN (Nd.ki x_4.1)/\(∀(i:Nat),i<QtP n x_2.1->Nd.row (List.getD (QtO n x_2.1) i X6)=Nd.row (QtC x_4.1 i))/\True)/\(QtR n x_2.1=LN (Nd.bo x_4.1)/\(∀(i:Nat),i<QtR n x_2.1->Sm.row (List.getD (QtQ n x_2.1) i QtD)=Sm.row (QtE x_4.1 i))/\True)/\Nd.de (Kh n x_2.1)=Nd.de x_4.1/\Nd.sl (Kh n x_2.1)=Nd.sl x_4.1/\Nd.ss (Kh n x_2.1)=Nd.ss x_4.1/\True)/\SM xs/\SM xc/\True)/\((SM xc/\QbK xs xc/\SM xs/\(x_2.2=x_4.2/\True)/\True)/\True)/\(x_4.1∈ZP n/\Z0<=x_4.2/\x_4.2<=16384)/\∀(y:Unit),True->(SM (QtF n)/\SM (D.ref N1 xs N0)/\SM (D.ref N2 xc N0)/\SM (D.ref (3:Nat) x N0)/\SM (QPr n)/\SM (ZI (Qio n))/\True)/\∃(y:Nat×Int),Qin y.1 n y.2 s/\ZQ n-y.1<ZQ n-x_2.1/\(IntKind.wrap IntKind.i64 ((NI x_2.1)+Z1)=(NI y.1)/\True)/\(SM xc/\QbK xs xc/\SM xs/\(QtG x_4.2 x_4.1=y.2/\True)/\True)/\True))) (QtH xc xs x_2.2 s n)) (by kernel_rfl) ?_
 delta DA GI LN N0 N1 N2 N4 NI SM Z0 Z1 ZI QbJ Qts Qim QtB X6 QtC QtD QtE QtF ZP ZQ Qin Qtt QPq QbK Qio QtG QtH Kh QbL QtI QtJ QtK Qtu QtL QtM QtN QtO QtP QtQ QtR QPr Qtv Qtw Qtx Qty Qtz QtA
 try simp only[<- dm]
 try simp only[<- dn]
 simp only[ne_eq,Int.toNat_natCast,Bf,Bd,decide_eq_true_eq,decide_eq_false_iff_not,true_and,and_true,exists_const,forall_const,Prod.exists]
 have hsz:=MR n
 have w1:IntKind.i64.wrap (s+1)=s+1:=Ba (by omega) (by omega)
 intro x _
 refine⟨CJ n _,⟨0,s+1,⟨Nat.zero_le _,by simp only[List.take_zero,szL,TP];split<;>omega⟩,rfl,w1⟩,?_⟩
 rintro ⟨i,c⟩ ⟨hi,hc⟩
 simp only at hi hc ⊢
 have hl:=Bdx hn
 unfold maxLen at hl
 have hle:=Bdg (BH n) i
 refine⟨fun hlt=>⟨⟨by omega,hlt⟩,fun _ _=>⟨fun hb=>?_,fun hb=>?_⟩⟩,fun hge=>?_⟩
 ·rw[hc]
  unfold TP at hc ⊢
  split at hc<;>split<;>omega
 ·have hlt':i<(BH n).length:=by omega
  have ht:=BiQ hlt'
  refine⟨(BH n).getD i default,c,⟨rfl,rfl,rfl,rfl,rfl,rfl,rfl,⟨rfl,fun _ _=>rfl⟩,⟨rfl,fun _ _=>rfl⟩,⟨rfl,fun _ _=>rfl⟩,⟨rfl,fun _ _=>rfl⟩,⟨rfl,fun _ _=>rfl⟩,rfl,rfl,rfl⟩,rfl,⟨BW hlt',?_,by omega⟩,i+1,TP c (szN ((BH n).getD i default)),⟨hlt',?_⟩,by omega,Ba (by omega) (by omega),rfl⟩
  ·unfold TP at hc
   split at hc<;>omega
  ·rw[ht]
   unfold TP at hc ⊢
   split at hc<;>split<;>split<;>omega
 ·have e:i=(BH n).length:=by omega
  rw[e,List.take_length] at hc
  rw[hc]
  unfold TP
  split<;>split<;>omega
theorem Bk2(xs xc:Nat)(n:Nd)(s:Int)(hn:n.sm)(h0:0<=s)(h1:s<=16384):ACalls Tryz.prog 51 ((Tz xs xc).args (n,s)) ((Tz xs xc).st (n,s)) (SpecR (Tz xs xc) (n,s)) :=
 Bkp xs xc n s hn h0 h1 fun b hb z z0 z1=>Bk2 xs xc b z (EZ hn hb) z0 z1
termination_by szN n
decreasing_by exact Ey hb
def Gd(n:Nd):Int:=if szN n<=16385 then (szN n:Int) else 16385
def Bk0(n:Nd):Con:=fun k ds _=>match k with
 |51=>match ds with
  | [_,.ref _ xs _,.ref _ xc _]=>some (sSz xs xc (fun y=>y.1=n/\y.2=0))
  |_=>none
 |_=>none
noncomputable def Eszs(n:Nd):Senv:=EC (Bk0 n) 11 5 [] (fun _=>([],[]))
def QbM(a:Nd):Arr:=Nd.va a
def QtS(a:Nd):Int:=Arr.k (QbM a)
def QtT(a:Nd):List Int:=Arr.sh (QbM a)
def Qip(a:Nd):Nat:=LN (QtT a)
def QtU(a:Nd)(b:Nat):List D:=[ZI (GI (QtT a) b)]
def QtV(a:Nd):List Int:=Arr.nu (QbM a)
def Qiq(a:Nd):Nat:=LN (QtV a)
def QtW(a:Nd)(b:Nat):List D:=[ZI (GI (QtV a) b)]
def QtX(a:Nd):List Arr:=Arr.it (QbM a)
def Qir(a:Nd):Nat:=LN (QtX a)
def QtY:Arr:=DA
def QtZ(a:Nd)(b:Nat):List D:=Arr.row (List.getD (QtX a) b QtY)
def Qis(a:Nd):Nat:=LN (Nd.ki a)
def Qit:Nd:=Nd.mk Z0 Z0 Z0 [] Z0 Z0 QtY [] [] Z0 Z0 Z0
def Qt0(a:Nd)(b:Nat):List D:=Nd.row (List.getD (Nd.ki a) b Qit)
def Qiu(a:Nd):Nat:=LN (Nd.bo a)
def Qt1(a:Nd)(b:Nat):List D:=Sm.row (List.getD (Nd.bo a) b (Sm.mk Z0 Z0 [] Z0 Qit Qit))
def Qt2(a:Int)(b:Nd):Int:=TP a (szN b)
theorem Bj9(n:Nd)(hn:n.sm):CD 31 [.agg n.row1] (.int .i64 (Gd n)):=by
 refine Bg (A:=sC _ _) (x:=()) (E:=Eszs n) (eOk ?_ rfl) Tryz.func31 rfl (by kernel_rfl) rfl (by simp[sC,Eszs,EC,E0]) ?_
 ·intro k ds S A hh
  try unfold Bk0 at hh
  try dsimp only at hh
  split at hh
  ·split at hh
   ·injection hh with hh;subst hh
    refine ConOk.plain (fun y hy=>?_) rfl rfl
    obtain ⟨y,z⟩:=y
    obtain ⟨rfl,rfl⟩:y=n/\z=0:=hy
    refine ((Bk2 _ _ y 0 hn (by omega) (by omega)).wkArgs ?_).mono fun _ _ ⟨u,q1,q2,q3⟩=>⟨u,q1,q2,q3⟩
    simp only[Tz,sSz,wkL,wkD]
    exact⟨Mt _,by simp[Bn,Bb],by simp[Bn,Bb],trivial⟩
   ·cases hh
  ·cases hh
 refine Bi (T :=
  ∀(x:Nat),True->∀(x_1:Nat),x≠x_1/\True->SM x_1/\∀(x_2:Nat),x_1≠x_2/\x≠x_2/\True->SM x_2/\SM x_2/\SM x/\∃(x:Nd×Int),((Nd.kd n=Nd.kd x.1/\Nd.at_ n=Nd.at_ x.1/\Nd.cl n=Nd.cl x.1/\Nd.tx n=Nd.tx x.1/\Nd.pr n=Nd.pr x.1/\Nd.op n=Nd.op x.1/\QtS n=QtS x.1/\(Qip n=Qip x.1/\(∀(i:Nat),i<Qip n->QtU n i=QtU x.1 i)/\True)/\(Qiq n=Qiq x.1/\(∀(i:Nat),i<Qiq n->QtW n i=QtW x.1 i)/\True)/\(Qir n=Qir x.1/\(∀(i:Nat),i<Qir n->QtZ n i=QtZ x.1 i)/\True)/\(Qis n=Qis x.1/\(∀(i:Nat),i<Qis n->Qt0 n i=Qt0 x.1 i)/\True)/\(Qiu n=Qiu x.1/\(∀(i:Nat),i<Qiu n->Qt1 n i=Qt1 x.1 i)/\True)/\Nd.de n=Nd.de x.1/\Nd.sl n=Nd.sl x.1/\Nd.ss n=Nd.ss x.1/\True)/\SM x_1/\SM x_2/\True)/\((SM x_2/\(D.fn (Fn.func (51:Nat)) [] [D.ref (max (N0+N1) N0) x_1 N0,D.ref (max N2 (max (N0+N1) N0)) x_2 N0]=D.fn (Fn.func (51:Nat)) [] [D.ref N1 x_1 N0,D.ref N2 x_2 N0]/\True)/\SM x_1/\(Z0=x.2/\True)/\True)/\True)/\(x.1=n/\x.2=Z0)/\∀(y:Unit),True->SM x_1/\RT ((if (16385:Int)<Qt2 x.2 x.1 then (16385:Int) else Qt2 x.2 x.1)=Gd n)) (by kernel_rfl) ?_
 delta DA GI LN N0 N1 N2 SM Z0 ZI QbM QtS QtT Qip QtU QtV Qiq QtW QtX Qir QtY QtZ Qis Qit Qt0 Qiu Qt1 Qt2 RT
 try simp only[<- dm]
 try simp only[<- dn]
 simp only[ne_eq,true_and,and_true,exists_const,forall_const,Prod.exists]
 refine fun _ _ _ _ _=>⟨n,0,⟨rfl,rfl,rfl,rfl,rfl,rfl,rfl,⟨rfl,fun _ _=>rfl⟩,⟨rfl,fun _ _=>rfl⟩,⟨rfl,fun _ _=>rfl⟩,⟨rfl,fun _ _=>rfl⟩,⟨rfl,fun _ _=>rfl⟩,rfl,rfl,rfl⟩,⟨rfl,rfl⟩,⟨rfl,rfl⟩,?_⟩
 unfold TP Gd
 split<;>split<;>split<;>omega
theorem OX{n:Nd}(h:n.ok):n.va.ok:=by
 cases n with
 |mk kd at_ cl tx pr op va ki bo de sl ss =>
  simp only[Nd.ok] at h
  exact h.2.1
theorem Oc{n:Nd}(h:n.ok):∀b∈n.ki,b.ok:=by
 cases n with
 |mk kd at_ cl tx pr op va ki bo de sl ss =>
  simp only[Nd.ok] at h
  exact (TJ _).1 h.2.2.1
theorem GG{n:Nd}(h:n.ok):∀s∈n.bo,s.ok:=by
 cases n with
 |mk kd at_ cl tx pr op va ki bo de sl ss =>
  simp only[Nd.ok] at h
  exact (Ua _).1 h.2.2.2
theorem Cq{s:Sm}(h:s.ok):s.te.ok/\s.nd.ok:=by
 cases s with
 |mk kd at_ nm sl te nd =>
  simp only[Sm.ok] at h
  exact h.2
theorem Cm{s:Sm}(h:s.sm):s.te.sm/\s.nd.sm:=by
 cases s with
 |mk kd at_ nm sl te nd =>
  simp only[Sm.sm] at h
  exact h.2
theorem BaA(n:Nd)(ho:n.ok)(hn:n.sm):RNode n :=
 Bne n hn (OX ho) (BfV n.bo true (Cb hn).2.2 fun s hs =>
  have h1:=Cq (GG ho s hs)
  have h2:=Cm (GB hn s hs)
  ⟨BaA s.nd h1.2 h2.2,BaA s.te h1.1 h2.1⟩) fun b hb=>BaA b (Oc ho b hb) (EZ hn (BS hb))
termination_by SizeOf.sizeOf n
decreasing_by
 ·have:=Nd.size_stmt hs
  have:=Sm.size_nd s
  omega
 ·have:=Nd.size_stmt hs
  have:=Sm.size_te s
  omega
 ·exact Nd.size_kid hb
theorem Bpg(l:List Sm)(g:Bool)(hl:l.length<=BC)(ho:∀s∈l,s.ok)(hs:∀s∈l,s.sm):RBody l g :=
 BfV l g hl fun s h=>⟨BaA s.nd (Cq (ho s h)).2 (Cm (hs s h)).2,BaA s.te (Cq (ho s h)).1 (Cm (hs s h)).1⟩
def Bfh(n:Nd):Con:=fun k ds S=>match k with
 |30=>some (pA ds S (.bool (CH n 60)) (isN n ds [.int .i64 60]))
 |31=>some (pA ds S (.int .i64 (Gd n)) (isN n ds []))
 |52=>some (pA ds S (.bool (Bz n)) (isN n ds []))
 |_=>none
theorem Bim{n:Nd}(ho:n.ok)(hn:n.sm):ConOk Tryz.prog (Bfh n):=by
 intro k ds S A hh
 unfold Bfh at hh
 split at hh
 ·injection hh with hh;subst hh
  exact Bo fun e=>CD.at_ (CD.isN (BkG n 60 hn (by unfold Br;omega)) e) _
 ·injection hh with hh;subst hh
  exact Bo fun e=>CD.at_ (CD.wk (Bj9 n hn) e) _
 ·injection hh with hh;subst hh
  exact Bo fun e=>CD.at_ (CD.isN (BaA n ho hn) e) _
 ·cases hh
noncomputable def Ecks(n:Nd):Senv:=EC (Bfh n) 14 4 [6,10] (fun _=>([],[]))
def Qt5(a:Nd):D:=D.agg (Nd.rowE a)
def QbO(a:Nd):Int:=BU a
def Qt6(a:Nd):Prop:=isN a [Qt5 a] []
theorem BpF(n:Nd)(ho:n.ok)(hn:n.sm):CD 83 [.agg n.row1] (.int .i64 (BU n)):=by
 refine Bg (A:=sC _ _) (x:=()) (E:=Ecks n) (eOk (Bim ho hn) rfl) Tryz.func83 rfl (by kernel_rfl) rfl (by simp[sC,Ecks,EC,E0]) ?_
 refine Bi (T :=
  ∀(x:Nat),True->SM x/\∃(x_1:Unit),isN n [Qt5 n,ZI 60] [ZI 60]/\∀(y:Unit),True->ifB (CH n (60:Int)) (RT ((8:Int)=QbO n)) (SM x/\∃(x_2:Unit),Qt6 n/\∀(y:Unit),True->ifB (decide ((16384:Int)<Gd n)) (RT ((21:Int)=QbO n)) (SM x/\∃(x:Unit),Qt6 n/\∀(y:Unit),True->ifB (!Bz n) (RT ((11:Int)=QbO n)) (RT (Z0=QbO n))))) (by kernel_rfl) ?_
 delta DA GI LN N1 N4 SI SM Z0 ZI Qt5 QbO Qt6 RT
 try simp only[<- dm]
 try simp only[<- dn]
 simp only[Bf,decide_eq_true_eq,decide_eq_false_iff_not,true_and,and_true,Bool.not_eq_true',Bool.not_eq_false',exists_const,forall_const]
 have e1:CH n 60=true↔60<dpN n:=by unfold CH;rw[decide_eq_true_eq];omega
 have e2:16384<Gd n↔16384<szN n:=by unfold Gd;split<;>omega
 have e3:CH n 60=false↔¬60<dpN n:=by rw[<- e1];simp
 simp only[e1,e2,e3]
 unfold BU
 refine⟨Bl _ _,fun h=>(if_pos h).symm,fun h=>?_⟩
 rw[if_neg h]
 refine⟨Bl _ _,fun h=>(if_pos h).symm,fun h=>?_⟩
 rw[if_neg h]
 refine⟨Bl _ _,fun h=>?_,fun h=>?_⟩
 ·rw[h];rfl
 ·rw[h];rfl
def Bcz(k:Int)(n:Nd):Sm:=.mk k 0 [] 0 nd0 n
def BeB:List D:=[.int .i64 0,.int .i64 0,.int .i64 0,.str [],.int .i64 0,.int .i64 0,.int .i64 0,.sl 1 0 (fun _=>[]) .nil,.sl 1 0 (fun _=>[]) .nil,.sl 1 0 (fun _=>[]) .nil,.sl 1 0 (fun _=>[]) .nil,.sl 1 0 (fun _=>[]) .nil,.int .i64 0,.int .i64 0,.int .i64 0]
theorem Boe{k:Int}{n:Nd}(hn:n.sm):∀s∈[Bcz k n],s.sm:=by
 intro s hs
 rw[List.mem_singleton.1 hs]
 unfold Bcz
 simp only[Sm.sm]
 exact⟨by decide,by simp[nd0,Nd.sm,Arr.sm,smL,OL,Ts],hn⟩
def Wb(l:List Nd):Bool:=l.any fun b=>CH b 60
def Bb0(l:List Sm):Bool:=l.any fun s=>Wb (Bq s)
def GH:List Nd->Int
 | []=>0
 |x::r=>Gd x+GH r
def I5:List Sm->Int
 | []=>0
 |s::r=>GH (Bq s)+I5 r
theorem Bg0{l:List Nd}{i:Nat}(h:i<l.length):Wb (l.take (i+1))=(Wb (l.take i)||CH (l.getD i default) 60):=by
 unfold Wb
 rw[B6 h,List.any_append]
 simp
theorem Bif{l:List Sm}{i:Nat}(h:i<l.length):Bb0 (l.take (i+1))=(Bb0 (l.take i)||Wb (Bq (l.getD i default))):=by
 unfold Bb0
 rw[B6 h,List.any_append]
 simp
theorem WC:∀a b:List Nd,GH (a++b)=GH a+GH b
 | [],b=>by simp only[List.nil_append,GH];omega
 |x::a,b=>by simp only[List.cons_append,GH,WC a b];omega
theorem Bdc:∀a b:List Sm,I5 (a++b)=I5 a+I5 b
 | [],b=>by simp only[List.nil_append,I5];omega
 |x::a,b=>by simp only[List.cons_append,I5,Bdc a b];omega
theorem BhW{l:List Nd}{i:Nat}(h:i<l.length):GH (l.take (i+1))=GH (l.take i)+Gd (l.getD i default):=by
 rw[B6 h,WC]
 simp only[GH]
 omega
theorem BgR{l:List Sm}{i:Nat}(h:i<l.length):I5 (l.take (i+1))=I5 (l.take i)+GH (Bq (l.getD i default)):=by
 rw[B6 h,Bdc]
 simp only[I5]
 omega
theorem Bb2(n:Nd):0<=Gd n/\Gd n<=16385:=by
 unfold Gd
 split<;>omega
theorem UQ:∀l:List Nd,0<=GH l/\GH l<=16385*(l.length:Int)
 | []=>by simp[GH]
 |x::r=>by
  have:=Bb2 x
  have:=UQ r
  simp only[GH,List.length_cons]
  omega
theorem Bgp:∀l:List Sm,0<=I5 l/\I5 l<=32770*(l.length:Int)
 | []=>by simp[I5]
 |s::r=>by
  have h1:=UQ (Bq s)
  have:=Bgp r
  have:=GT s
  simp only[I5,List.length_cons]
  omega
theorem Bfm:∀l:List Nd,GH l<=(szL l:Int)/\(szL l<=16384->GH l=(szL l:Int))/\(16384<szL l->16384<GH l)
 | []=>by simp[GH,szL]
 |x::r=>by
  have:=Bfm r
  have:=UQ r
  have h:Gd x=if szN x<=16385 then (szN x:Int) else 16385:=rfl
  simp only[GH,szL]
  split at h<;>omega
theorem Bap:∀l:List Sm,I5 l=GH (l.flatMap Bq)
 | []=>by simp only[I5,List.flatMap_nil,GH]
 |s::r=>by simp only[I5,List.flatMap_cons,WC,Bap r]
theorem Bny(l:List Sm):16384<I5 l↔16384<szB l:=by
 rw[Bap,TC]
 have:=Bfm (l.flatMap Bq)
 omega
theorem RO:∀l:List Sm,Bb0 l=Wb (l.flatMap Bq)
 | []=>rfl
 |s::r=>by
  have:=RO r
  unfold Bb0 Wb at this ⊢
  rw[List.any_cons,this,List.flatMap_cons,List.any_append]
theorem BmG(l:List Sm):Bb0 l=true↔60<dpB l:=by
 rw[RO,Uc]
 unfold Wb
 rw[Rq]
 constructor
 ·rintro ⟨_,h⟩;omega
 ·intro h
  refine⟨fun e=>?_,by omega⟩
  rw[e] at h
  simp[dpL] at h
def BjM(l:List Sm):Con:=fun k ds S=>match k with
 |29=>some (pE (β:=Sm) ds S (fun s=>gsl 15 Nd.row1 (Bq s)) (fun s=>isS s ds []))
 |30=>some (pE (β:=Nd) ds S (fun b=>.bool (CH b 60)) (fun b=>isN b ds [.int .i64 60]/\b.sm))
 |31=>some (pE (β:=Nd) ds S (fun b=>.int .i64 (Gd b)) (fun b=>isN b ds []/\b.sm))
 |32=>some (pA ds S (.bool (BP false l)) (wkL ds [gsl 34 Sm.row1 l,.bool false]))
 |33=>some (pA ds S (.bool (RE l)) (wkL ds [gsl 34 Sm.row1 l]))
 |_=>none
theorem Bk4{l:List Sm}(hl:l.length<=BC)(ho:∀s∈l,s.ok)(hs:∀s∈l,s.sm):ConOk Tryz.prog (BjM l):=by
 intro k ds S A hh
 unfold BjM at hh
 split at hh
 ·injection hh with hh;subst hh
  exact Co fun s e=>CD.at_ (CD.wk (BjZ s) e) _
 ·injection hh with hh;subst hh
  exact Co fun b ⟨e,hb⟩=>CD.at_ (CD.isN (BkG b 60 hb (by unfold Br;omega)) e) _
 ·injection hh with hh;subst hh
  exact Co fun b ⟨e,hb⟩=>CD.at_ (CD.wk (Bj9 b hb) e) _
 ·injection hh with hh;subst hh
  exact Bo fun e=>CD.at_ (CD.wk (Bpg l false hl ho hs) e) _
 ·injection hh with hh;subst hh
  exact Bo fun e=>CD.at_ (CD.wk (BqF l (Ch hl) hs) e) _
 ·cases hh
noncomputable def Epr(l:List Sm):Senv:={ EC (BjM l) 72 5 [6,8,10,12,16,18,19,20,21,25,26,27,28,38,40,41,42,43,47,48,49,50,59,62] (fun _=>([],[])) with
 mg:=fun _=>2
 ann:=fun b env S=>match b with
  |0=>some { slots:=[20,4],keep:=[0,1,3,18,19],α:=Nat×Bool,st:=fun y=>([.int .i64 y.1,.bool y.2],S),inv:=fun y=>y.1<=l.length/\y.2=Bb0 (l.take y.1),mu:=fun y=>l.length-y.1 }
  |2=>match Ab.look env 25,Ab.look env 20,Ab.look env 4 with
   |.sl _ n _f _,.int _ i,.bool t=>some { slots:=[27,4],keep:=[0,1,3,18,19,20,25,26],α:=Nat×Bool,st:=fun y=>([.int .i64 y.1,.bool y.2],S),inv:=fun y=>y.1<=n/\y.2=(t||Wb ((Bq (l.getD i.toNat default)).take y.1)),mu:=fun y=>n-y.1 }
   |_,_,_=>none
  |4=>some { slots:=[42,3],keep:=[0,1,40,41],α:=Nat×Int,st:=fun y=>([.int .i64 y.1,.int .i64 y.2],S),inv:=fun y=>y.1<=l.length/\y.2=I5 (l.take y.1),mu:=fun y=>l.length-y.1 }
  |6=>match Ab.look env 47,Ab.look env 42,Ab.look env 3 with
   |.sl _ n _f _,.int _ i,.int _ t=>some { slots:=[49,3],keep:=[0,1,40,41,42,47,48],α:=Nat×Int,st:=fun y=>([.int .i64 y.1,.int .i64 y.2],S),inv:=fun y=>y.1<=n/\y.2=t+GH ((Bq (l.getD i.toNat default)).take y.1),mu:=fun y=>n-y.1 }
   |_,_,_=>none
  |_=>none }
def ZR(a:List Sm):Int:=B2 a
def Qiw(a:Nat)(b:List Sm)(c:Bool):Prop:=a<=LN b/\c=Bb0 (List.take a b)
def X7:Arr:=DA
def J5:Nd:=Nd.mk Z0 Z0 Z0 [] Z0 Z0 X7 [] [] Z0 Z0 Z0
def V4:Sm:=Sm.mk Z0 Z0 [] Z0 J5 J5
def X8(a:List Sm)(b:Nat):Sm:=List.getD a b V4
def Qud(a:List Sm)(b:Nat):List D:=(Sm.row1 (X8 a b))
def Que(a:Nat)(b:List Sm):Prop:=SM a/\((SM (LN b)/\(∀(i:Nat),i<LN b->SM (Qud b i))/\True)/\True)/\True
def QbR(a:Nat)(b:List Sm):Prop:=Que a b/\True
def V5(a:List Sm)(b:Nat):Sm:=List.getD a (Int.toNat (↑b:Int)) V4
def Quf(a:List Sm)(b:Nat):Int:=Sm.kd (V5 a b)
def Qug(a:List Sm)(b:Nat):Int:=Sm.at_ (V5 a b)
def Quh(a:List Sm)(b:Nat):List UInt8:=Sm.nm (V5 a b)
def Qui(a:List Sm)(b:Nat):Int:=Sm.sl (V5 a b)
def Kk(a:List Sm)(b:Nat):Nd:=Sm.te (V5 a b)
def Quj(a:List Sm)(b:Nat):Int:=Nd.kd (Kk a b)
def Quk(a:List Sm)(b:Nat):Int:=Nd.at_ (Kk a b)
def Qul(a:List Sm)(b:Nat):Int:=Nd.cl (Kk a b)
def Qum(a:List Sm)(b:Nat):List UInt8:=Nd.tx (Kk a b)
def Qun(a:List Sm)(b:Nat):Int:=Nd.pr (Kk a b)
def Quo(a:List Sm)(b:Nat):Int:=Nd.op (Kk a b)
def QbS(a:List Sm)(b:Nat):Arr:=Nd.va (Kk a b)
def Qup(a:List Sm)(b:Nat):Int:=Arr.k (QbS a b)
def Quq(a:List Sm)(b:Nat):List Int:=Arr.sh (QbS a b)
def Qix(a:List Sm)(b:Nat):Nat:=LN (Quq a b)
def Qur(a:List Sm)(b c:Nat):List D:=[ZI (GI (Quq a b) c)]
def Qus(a:List Sm)(b:Nat):List Int:=Arr.nu (QbS a b)
def Qiy(a:List Sm)(b:Nat):Nat:=LN (Qus a b)
def Qut(a:List Sm)(b c:Nat):List D:=[ZI (GI (Qus a b) c)]
def Quu(a:List Sm)(b:Nat):List Arr:=Arr.it (QbS a b)
def Qiz(a:List Sm)(b:Nat):Nat:=LN (Quu a b)
def Quv(a:List Sm)(b c:Nat):List D:=Arr.row (List.getD (Quu a b) c X7)
def Quw(a:List Sm)(b:Nat):List Nd:=Nd.ki (Kk a b)
def QiA(a:List Sm)(b:Nat):Nat:=LN (Quw a b)
def Qux(a:List Sm)(b c:Nat):List D:=Nd.row (List.getD (Quw a b) c J5)
def Quy(a:List Sm)(b:Nat):List Sm:=Nd.bo (Kk a b)
def QiB(a:List Sm)(b:Nat):Nat:=LN (Quy a b)
def Quz(a:List Sm)(b c:Nat):List D:=Sm.row (List.getD (Quy a b) c V4)
def QuA(a:List Sm)(b:Nat):Int:=Nd.de (Kk a b)
def QuB(a:List Sm)(b:Nat):Int:=Nd.sl (Kk a b)
def QuC(a:List Sm)(b:Nat):Int:=Nd.ss (Kk a b)
def Kl(a:List Sm)(b:Nat):Nd:=Sm.nd (V5 a b)
def QuD(a:List Sm)(b:Nat):Int:=Nd.kd (Kl a b)
def QuE(a:List Sm)(b:Nat):Int:=Nd.at_ (Kl a b)
def QuF(a:List Sm)(b:Nat):Int:=Nd.cl (Kl a b)
def QuG(a:List Sm)(b:Nat):List UInt8:=Nd.tx (Kl a b)
def QuH(a:List Sm)(b:Nat):Int:=Nd.pr (Kl a b)
def QuI(a:List Sm)(b:Nat):Int:=Nd.op (Kl a b)
def QbT(a:List Sm)(b:Nat):Arr:=Nd.va (Kl a b)
def QuJ(a:List Sm)(b:Nat):Int:=Arr.k (QbT a b)
def QuK(a:List Sm)(b:Nat):List Int:=Arr.sh (QbT a b)
def QiC(a:List Sm)(b:Nat):Nat:=LN (QuK a b)
def QuL(a:List Sm)(b c:Nat):List D:=[ZI (GI (QuK a b) c)]
def QuM(a:List Sm)(b:Nat):List Int:=Arr.nu (QbT a b)
def QiD(a:List Sm)(b:Nat):Nat:=LN (QuM a b)
def QuN(a:List Sm)(b c:Nat):List D:=[ZI (GI (QuM a b) c)]
def QuO(a:List Sm)(b:Nat):List Arr:=Arr.it (QbT a b)
def QiE(a:List Sm)(b:Nat):Nat:=LN (QuO a b)
def QuP(a:List Sm)(b c:Nat):List D:=Arr.row (List.getD (QuO a b) c X7)
def QuQ(a:List Sm)(b:Nat):List Nd:=Nd.ki (Kl a b)
def QiF(a:List Sm)(b:Nat):Nat:=LN (QuQ a b)
def QuR(a:List Sm)(b c:Nat):List D:=Nd.row (List.getD (QuQ a b) c J5)
def QuS(a:List Sm)(b:Nat):List Sm:=Nd.bo (Kl a b)
def QiG(a:List Sm)(b:Nat):Nat:=LN (QuS a b)
def QuT(a:List Sm)(b c:Nat):List D:=Sm.row (List.getD (QuS a b) c V4)
def QuU(a:List Sm)(b:Nat):Int:=Nd.de (Kl a b)
def QuV(a:List Sm)(b:Nat):Int:=Nd.sl (Kl a b)
def QuW(a:List Sm)(b:Nat):Int:=Nd.ss (Kl a b)
def QuX(a:Sm)(b:List Sm)(c:Nat):Prop:=isS a [D.agg (Sm.row1 (List.getD b (Int.toNat (↑ c : Int)) (Sm.mk 0 0 [] 0 (Nd.mk 0 0 0 [] 0 0 (Arr.mk 0 [] [] []) [] [] 0 0 0) (Nd.mk 0 0 0 [] 0 0 (Arr.mk 0 [] [] []) [] [] 0 0 0))))] []
def QiH(a:Sm):List Nd:=Bq a
def X9(a:Sm):Nat:=LN (QiH a)
def QuY(a:Nat)(b:List Sm)(c:Nat):List Nd:=List.take a (Bq (V5 b c))
def QbU(a:Nat)(b:Sm)(c d:Bool)(e:List Sm)(f:Nat):Prop:=a<=X9 b/\c=(d||Wb (QuY a e f))
def ZS(a:Nat)(b:List Sm)(c d:Nat):Prop:=(SM a/\(SM (Quf b c)/\SM (Qug b c)/\SM (Quh b c)/\SM (Qui b c)/\SM (Quj b c)/\SM (Quk b c)/\SM (Qul b c)/\SM (Qum b c)/\SM (Qun b c)/\SM (Quo b c)/\SM (Qup b c)/\(SM (Qix b c)/\(∀(i:Nat),i<Qix b c->SM (Qur b c i))/\True)/\(SM (Qiy b c)/\(∀(i:Nat),i<Qiy b c->SM (Qut b c i))/\True)/\(SM (Qiz b c)/\(∀(i:Nat),i<Qiz b c->SM (Quv b c i))/\True)/\(SM (QiA b c)/\(∀(i:Nat),i<QiA b c->SM (Qux b c i))/\True)/\(SM (QiB b c)/\(∀(i:Nat),i<QiB b c->SM (Quz b c i))/\True)/\SM (QuA b c)/\SM (QuB b c)/\SM (QuC b c)/\SM (QuD b c)/\SM (QuE b c)/\SM (QuF b c)/\SM (QuG b c)/\SM (QuH b c)/\SM (QuI b c)/\SM (QuJ b c)/\(SM (QiC b c)/\(∀(i:Nat),i<QiC b c->SM (QuL b c i))/\True)/\(SM (QiD b c)/\(∀(i:Nat),i<QiD b c->SM (QuN b c i))/\True)/\(SM (QiE b c)/\(∀(i:Nat),i<QiE b c->SM (QuP b c i))/\True)/\(SM (QiF b c)/\(∀(i:Nat),i<QiF b c->SM (QuR b c i))/\True)/\(SM (QiG b c)/\(∀(i:Nat),i<QiG b c->SM (QuT b c i))/\True)/\SM (QuU b c)/\SM (QuV b c)/\SM (QuW b c)/\True)/\Que d b)/\True
def QbV(a:Sm):Int:=(NI (X9 a))
def QuZ(a:Nat)(b:Sm):Bool:=decide ((↑a:Int)<QbV b)
def QiI(a:List Sm):D:=D.sl 34 (LN a) (fun i=>Qud a i) Mode.any
def QiJ(a:List Sm):List D:=[QiI a]
def QPy(a:List Sm):D:=D.agg (QiJ a)
def QbW(a:List Sm):Prop:=SM (QPy a)
def QbX(a:Nat):Prop:=SM (D.ref N0 a N0)
def Qu0(a:List Sm):Prop:=SM (QiI a)
def QPz(a:Sm):D:=D.sl 15 (X9 a) (fun i=>Nd.row1 (List.getD (QiH a) i J5)) Mode.any
def Qu1(a:List Sm)(b:Nat)(c:Sm):Prop:=Qu0 a/\SM (ZI (LI a))/\SM (ZI (↑b:Int))/\SM (QPz c)/\SM (ZI (QbV c))/\True
def Qu2(a:List Sm)(b c:Nat)(d:Sm):Prop:=QbW a/\QbX b/\SM (ZI Z0)/\Qu1 a c d
def QiK(a:Sm)(b c:Nat):Prop:=X9 a-b<X9 a-c
def ZT(a b:Nat):Prop:=IntKind.wrap IntKind.i64 ((↑a:Int)+Z1)=(↑b:Int)
def Km(a:Sm)(b:Nat):Nd:=List.getD (QiH a) (Int.toNat (↑b:Int)) J5
def Qu6(a:Sm)(b:Nat):D:=D.agg (Nd.rowE (Km a b))
def Qu7(a:List Sm):Prop:=Qu0 a/\SM (ZI (LI a))/\True
def QiL(a:Nat)(b:List Sm)(c:Int):Prop:=a<=LN b/\c=I5 (List.take a b)
def QiM(a:Nat)(b:Sm)(c d:Int)(e:List Sm)(f:Nat):Prop:=a<=X9 b/\c=d+GH (QuY a e f)
def Qu8(a:List Sm):List D:=[QiI a,D.bool false]
def Qu9(a:List Sm):Prop:=True/\∃(_y:Unit),True/\(11:Int)=ZR a/\True/\True
theorem Bp4(l:List Sm)(hl:l.length<=BC)(ho:∀s∈l,s.ok)(hs:∀s∈l,s.sm):CD 13 [.agg [gsl 34 Sm.row1 l]] (.int .i64 (B2 l)):=by
 refine Bg (A:=sC _ _) (x:=()) (E:=Epr l) (eOk (Bk4 hl ho hs) rfl) Tryz.func13 rfl (by kernel_rfl) rfl (by simp[sC,Epr,EC,E0]) ?_
 refine Bi (T :=
  ∀(x:Nat),True->SM x/\ifB (decide ((1000:Int)<(LI l))) (RT ((2:Int)=ZR l)) (SM x/\(∃(x_1:Nat×Bool),Qiw x_1.1 l x_1.2/\(Z0=(NI x_1.1)/\false=x_1.2/\True)/\QbR x l)/\∀(x_1:Nat×Bool),Qiw x_1.1 l x_1.2->ifB (decide ((NI x_1.1)<(LI l))) (Bc (Z0<=(NI x_1.1)/\(NI x_1.1)<(LI l)) (∀(x_2:Nat),x≠x_2/\True->SM x_2/\SM x_2/\∃(x_3:Sm),QuX x_3 l x_1.1/\∀(y:Unit),True->(∃(x_4:Nat×Bool),QbU x_4.1 x_3 x_4.2 x_1.2 l x_1.1/\(Z0=(NI x_4.1)/\x_1.2=x_4.2/\True)/\ZS x_2 l x_1.1 x)/\∀(x_4:Nat×Bool),QbU x_4.1 x_3 x_4.2 x_1.2 l x_1.1->ifB (QuZ x_4.1 x_3) (Bc (Z0<=(NI x_4.1)/\(NI x_4.1)<QbV x_3) (∀(x_5:Nat),x_2≠x_5/\x≠x_5/\True->SM x_5/\ifB x_4.2 (Qu2 l x x_1.1 x_3/\∃(y:Nat×Bool),QbU y.1 x_3 y.2 x_1.2 l x_1.1/\QiK x_3 y.1 x_4.1/\(ZT x_4.1 y.1/\true=y.2/\True)/\ZS x_2 l x_1.1 x) (SM x_5/\∃(x_6:Nd),(isN x_6 [Qu6 x_3 x_4.1,ZI 60] [ZI 60]/\Nd.sm x_6)/\∀(y:Unit),True->Qu2 l x x_1.1 x_3/\∃(y:Nat×Bool),QbU y.1 x_3 y.2 x_1.2 l x_1.1/\QiK x_3 y.1 x_4.1/\(ZT x_4.1 y.1/\CH x_6 (60:Int)=y.2/\True)/\ZS x_2 l x_1.1 x))) ((QbW l/\QbX x/\SM (ZI Z0)/\Qu7 l)/\∃(y:Nat×Bool),Qiw y.1 l y.2/\LN l-y.1<LN l-x_1.1/\(ZT x_1.1 y.1/\x_4.2=y.2/\True)/\QbR x l))) (ifB x_1.2 (RT ((8:Int)=ZR l)) (SM x/\(∃(x_2:Nat×Int),QiL x_2.1 l x_2.2/\(Z0=(NI x_2.1)/\Z0=x_2.2/\True)/\QbR x l)/\∀(x_2:Nat×Int),QiL x_2.1 l x_2.2->ifB (decide ((NI x_2.1)<(LI l))) (Bc (Z0<=(NI x_2.1)/\(NI x_2.1)<(LI l)) (∀(x_3:Nat),x≠x_3/\True->SM x_3/\SM x_3/\∃(x_4:Sm),QuX x_4 l x_2.1/\∀(y:Unit),True->(∃(x_5:Nat×Int),QiM x_5.1 x_4 x_5.2 x_2.2 l x_2.1/\(Z0=(NI x_5.1)/\x_2.2=x_5.2/\True)/\ZS x_3 l x_2.1 x)/\∀(x_5:Nat×Int),QiM x_5.1 x_4 x_5.2 x_2.2 l x_2.1->ifB (QuZ x_5.1 x_4) (Bc (Z0<=(NI x_5.1)/\(NI x_5.1)<QbV x_4) (∀(x_6:Nat),x_3≠x_6/\x≠x_6/\True->SM x_6/\SM x_6/\∃(x_7:Nd),(isN x_7 [Qu6 x_4 x_5.1] []/\Nd.sm x_7)/\∀(y:Unit),True->(QbW l/\QbX x/\Qu1 l x_2.1 x_4)/\∃(y:Nat×Int),QiM y.1 x_4 y.2 x_2.2 l x_2.1/\QiK x_4 y.1 x_5.1/\(ZT x_5.1 y.1/\IntKind.wrap IntKind.i64 (x_5.2+Gd x_7)=y.2/\True)/\ZS x_3 l x_2.1 x)) ((QbW l/\QbX x/\Qu7 l)/\∃(y:Nat×Int),QiL y.1 l y.2/\LN l-y.1<LN l-x_2.1/\(ZT x_2.1 y.1/\x_5.2=y.2/\True)/\QbR x l))) (ifB (decide ((16384:Int)<x_2.2)) (RT ((21:Int)=ZR l)) (SM x/\∃(x_3:Unit),wkL (Qu8 l) (Qu8 l)/\∀(y:Unit),True->ifB (!BP false l) (Qu9 l) (SM x/\∃(x:Unit),wkL (QiJ l) (QiJ l)/\∀(y:Unit),True->ifB (RE l) (Qu9 l) (RT (Z0=ZR l))))))))) (by kernel_rfl) ?_
 delta DA GI LI LN N0 N1 N4 NI SI SM Z0 Z1 ZI Qiw QiJ QPy QbW QbX Qu0 QPz Qu1 Qu2 QiK ZT X7 Km Qu6 Qu7 QiL J5 QiM Qu8 Qu9 V4 X8 Qud Que QbR V5 Quf Qug Quh Qui Kk Quj Quk Qul Qum Qun Quo QbS Qup Quq Qix Qur Qus Qiy Qut Quu Qiz Quv Quw QiA Qux Quy QiB Quz QuA QuB QuC Kl QuD QuE QuF QuG QuH QuI QbT QuJ QuK QiC QuL QuM QiD QuN QuO QiE QuP QuQ QiF QuR QuS QiG QuT QuU QuV ZR QuW QuX QiH X9 QuY QbU ZS QbV QuZ QiI RT
 try simp only[<- dm]
 try simp only[<- dn]
 simp only[ne_eq,implies_true,Int.toNat_natCast,Bf,Bd,decide_eq_true_eq,decide_eq_false_iff_not,true_and,and_true,Bool.not_eq_true',Bool.not_eq_false',exists_const,forall_const,Prod.exists]
 unfold BC at hl
 have hr:B2 l=if 1000<l.length then 2 else if 60<dpB l then 8 else if 16384<szB l then 21 else if (BP false l&&!RE l)=true then 0 else 11:=rfl
 rw[hr]
 intro x
 refine⟨fun h=>by rw[if_pos (by omega)],fun h=>?_⟩
 rw[if_neg (by omega)]
 refine⟨⟨0,false,⟨Nat.zero_le _,rfl⟩,rfl,rfl⟩,?_⟩
 rintro ⟨i,t⟩ ⟨hi,ht⟩
 simp only at hi ht ⊢
 refine⟨fun hlt=>⟨⟨by omega,hlt⟩,fun z _=>?_⟩,fun hge=>?_⟩
 ·have hlt':i<l.length:=by omega
  have hsm:=Re (hs _ (C4 hlt'))
  have h2:=GT (l.getD i default)
  have hta:=Bif hlt'
  refine⟨l.getD i default,Il _ _,⟨0,t,⟨Nat.zero_le _,by simp[Wb]⟩,rfl,rfl⟩,?_⟩
  rintro ⟨j,u⟩ ⟨hj,hu⟩
  simp only at hj hu ⊢
  refine⟨fun hl2=>⟨⟨by omega,hl2⟩,fun _ _=>?_⟩,fun hg2=>?_⟩
  ·have hl2':j<(Bq (l.getD i default)).length:=by omega
   have htd:=Bg0 hl2'
   have w:IntKind.i64.wrap ((j:Int)+1)=((j+1:Nat):Int):=by rw[Ba (by omega) (by omega)];rfl
   refine⟨fun e=>⟨j+1,true,⟨hl2',?_⟩,by omega,w,rfl⟩,fun e=>⟨(Bq (l.getD i default)).getD j default,⟨Bl _ _,hsm _ (BW hl2')⟩,j+1,_,⟨hl2',?_⟩,by omega,w,rfl⟩⟩
   ·rw[htd,<- Bool.or_assoc,<- hu,e];rfl
   ·rw[htd,<- Bool.or_assoc,<- hu,e];rfl
  ·have e:j=(Bq (l.getD i default)).length:=by omega
   refine⟨i+1,u,⟨hlt',?_⟩,by omega,by rw[Ba (by omega) (by omega)];rfl,rfl⟩
   rw[hta,<- ht,hu,e,List.take_length]
 ·have e:i=l.length:=by omega
  rw[e,List.take_length] at ht
  have hdp:=BmG l
  rw[<- ht] at hdp
  refine⟨fun h3=>by rw[if_pos (hdp.1 h3)],fun h3=>?_⟩
  rw[if_neg (fun h4=>by rw[hdp.2 h4] at h3;cases h3)]
  refine⟨⟨0,0,⟨Nat.zero_le _,rfl⟩,rfl,rfl⟩,?_⟩
  rintro ⟨k,c⟩ ⟨hk,hc⟩
  simp only at hk hc ⊢
  have hb:=Bgp (l.take k)
  rw[List.length_take] at hb
  refine⟨fun hlt=>⟨⟨by omega,hlt⟩,fun z _=>?_⟩,fun hge=>?_⟩
  ·have hlt':k<l.length:=by omega
   have hsm:=Re (hs _ (C4 hlt'))
   have h2:=GT (l.getD k default)
   have hta:=BgR hlt'
   refine⟨l.getD k default,Il _ _,⟨0,c,⟨Nat.zero_le _,by simp[GH]⟩,rfl,rfl⟩,?_⟩
   rintro ⟨j,u⟩ ⟨hj,hu⟩
   simp only at hj hu ⊢
   refine⟨fun hl2=>⟨⟨by omega,hl2⟩,fun _ _=>?_⟩,fun hg2=>?_⟩
   ·have hl2':j<(Bq (l.getD k default)).length:=by omega
    have htd:=BhW hl2'
    have hz:=UQ ((Bq (l.getD k default)).take j)
    rw[List.length_take] at hz
    have hs1:=Bb2 ((Bq (l.getD k default)).getD j default)
    have w:IntKind.i64.wrap ((j:Int)+1)=((j+1:Nat):Int):=by rw[Ba (by omega) (by omega)];rfl
    have w2:IntKind.i64.wrap (u+Gd ((Bq (l.getD k default)).getD j default))=u+Gd ((Bq (l.getD k default)).getD j default):=Ba (by omega) (by omega)
    refine⟨(Bq (l.getD k default)).getD j default,⟨Bl _ _,hsm _ (BW hl2')⟩,j+1,u+Gd ((Bq (l.getD k default)).getD j default),⟨hl2',?_⟩,by omega,w,w2⟩
    rw[htd,hu]
    omega
   ·have e:j=(Bq (l.getD k default)).length:=by omega
    refine⟨k+1,u,⟨hlt',?_⟩,by omega,by rw[Ba (by omega) (by omega)];rfl,rfl⟩
    rw[hta,<- hc,hu,e,List.take_length]
  ·have e:k=l.length:=by omega
   rw[e,List.take_length] at hc
   have hsz:=Bny l
   rw[<- hc] at hsz
   refine⟨fun h4=>by rw[if_pos (hsz.1 h4)],fun h4=>?_⟩
   rw[if_neg (fun h5=>h4 (hsz.2 h5))]
   exact⟨Be _,fun h5=>by rw[h5];rfl,fun h5=>⟨Be _,fun h6=>by rw[h5,h6];rfl,fun h6=>by rw[h5,h6];rfl⟩⟩
def _root_.Go.Ab.cellsO(os:List (Nat×Nat×AObj))(k:Nat):List D:=match BK os k with
 |some (_,.cells ds)=>ds
 |_=>[]
theorem ACalls.wkEnd{P:Program}{k:FuncId}{ds:List D}{S:St}{R R':AEnd->St->Prop}(h:ACalls P k ds S R)(hr:∀r S',R r S'->∃r',(∀C e,RepEnd C r e->RepEnd C r' e)/\R' r' S'):ACalls P k ds S R' :=
 ⟨h.1,fun C F args w ha hs=>(h.2 C F args w ha hs).mono fun _ _ ⟨C',_r,S',h1,h2,h3,h4⟩=>let ⟨r',q0,q2⟩:=hr _ _ h4;⟨C',r',S',h1,h2,q0 _ _ h3,q2⟩⟩
theorem BcI(a:Arr):wkL a.row1 a.row:=by
 cases a with
 |mk k s n is =>
  simp only[Arr.row,Arr.row1,Arr.k,Arr.sh,Arr.nu,Arr.it,gsl,isl,wkL,wkD,Bn,Bb]
  refine⟨⟨by simp[kEq],trivial⟩,⟨by simp,trivial,fun i _=>by simp[kEq],by simp[BG]⟩,⟨by simp,trivial,fun i _=>by simp[kEq],by simp[BG]⟩,⟨by simp,by simp[GU],fun i hi=>?_,by simp[BG]⟩,trivial⟩
  have:(Tr is).getD i []=(is.getD i default).row:=by
   rw[GU];simp[List.getD_eq_getElem?_getD,hi]
  rw[this]
  exact Be _
theorem BkR{k:Int}{s:List Int}{nn ni:Nat}(h:B8 k s nn ni=0):s.length<=8:=by
 unfold B8 at h
 by_cases hk:k=1\/k=2\/k=3
 ·rw[if_pos hk] at h
  by_cases hd:Ec s≠0
  ·rw[if_pos hd] at h;exact (hd h).elim
  ·have hd:Ec s=0:=by simpa using hd
   unfold Ec at hd
   by_cases h8:8<s.length
   ·rw[if_pos h8] at hd;omega
   ·omega
 ·rw[if_neg hk] at h;omega
def _root_.Go.Ab.refKey:D->Nat
 |.ref k _ _=>k
 |_=>0
def _root_.Go.Ab.vkey(os:List (Nat×Nat×AObj))(k:Nat):Nat:=match cellsO os k with
 | [_,_,_,.vs kv _ _ _ _]=>kv
 |_=>0
def zrow:List D:=[.int .i64 0,.sl 1 0 (fun _=>[]) .nil,.sl 1 0 (fun _=>[]) .nil,.sl 1 0 (fun _=>[]) .nil]
def clR(its:List Arr)(i j:Nat):List D:=match Nat.blt j i with
 |true=>(its.getD j default).row1
 |false=>zrow
def sCl(row row':Arr->List D)(q:Arr->Prop):FnSpec where
 β:=Arr
 α:=Unit
 args:=fun a=>[.agg (row a)]
 st:=fun _=>⟨[],[]⟩
 pre:=q
 post:=fun _ _=>True
 res:=fun a _=>.ret (.agg (row' a))
 out:=fun _ _=>⟨[],[]⟩
def ME(its:List Arr):Con:=fun k _ _=>match k with
 |157=>some (sCl Arr.row1 Arr.row1 (fun b=>b∈its))
 |_=>none
theorem Wy{its:List Arr}{i j:Nat}(h:j<i):clR its i j=(its.getD j default).row1:=by
 unfold clR
 have:Nat.blt j i=true:=by simpa using h
 rw[this]
theorem BdY{its:List Arr}{i j:Nat}(h:¬j<i):clR its i j=zrow:=by
 unfold clR
 cases hb:Nat.blt j i with
 |false=>rfl
 |true=>exact (h (by simpa using hb)).elim
noncomputable def Ecl(a:Arr):Senv:={ EC (ME a.it) 47 6 [32,33,34,35] (fun id=>match id with | 1=>([0,1,2,3,4,6,7,8,10,11,12,5,9,13,14,15,16],[5,9,13,15,16]) | 7=>([0,1,2,3,4,5,6],[4,6]) | _=>([],[])) with
 gz:=fun r=>match r with
  |9=>[.cell 17 1,.cell 17 2,.cell 17 3]
  |_=>[]
 cut:=fun id _ S=>match id with
  |1=>some { slots:=[3],keep:=[],α:=(Nat×Nat)×Nat×Nat,st:=fun y=>([.ref 17 y.2.2 0],⟨[(17,y.2.2,.cells [.int .i64 a.k,.vs 7 y.1.1 a.sh.length a.sh.length 1,.vs 11 y.1.2 a.nu.length a.nu.length 1,.vs 15 y.2.1 a.it.length a.it.length 4]),(15,y.2.1,.vec 4 a.it.length a.it.length (clR a.it 0)),(11,y.1.2,.vec 1 a.nu.length a.nu.length (fun _=>[.int .i64 0])),(7,y.1.1,.vec 1 a.sh.length a.sh.length (fun _=>[.int .i64 0]))]++S.objs,[]⟩),inv:=fun _=>True,mu:=fun _=>0 }
  |_=>none
 ann:=fun b env S=>match b with
  |0=>some { slots:=[34],keep:=[1,2,3,32,33],α:=Nat,st:=fun i=>([.int .i64 i],⟨Id S.objs (vkey S.objs (refKey (Ab.look env 3))) (.vec 4 a.it.length a.it.length (clR a.it i)),S.toks⟩),inv:=fun i=>i<=a.it.length,mu:=fun i=>a.it.length-i }
  |_=>none }
def J6(a:Arr):Nat:=LN (Arr.sh a)
def Qd(a:Arr):Int:=(NI (J6 a))
def Qs(a:Arr):Int:=(8:Int)*Qd a
def Vt(a:Arr):List Arr:=Arr.it a
def Qx(a:Arr):Nat:=LN (Vt a)
def QbZ:Arr:=DA
def ZU(a:Arr)(b:Nat):Arr:=List.getD (Vt a) b QbZ
def QPC(a:Arr)(b:Nat):List Int:=Arr.sh (ZU a b)
def QPD(a:Arr)(b:Nat):List Int:=Arr.nu (ZU a b)
def Qva(a:Arr)(b:Nat):List Arr:=Arr.it (ZU a b)
def QiN(a:Arr)(b:Nat):List D:=[ZI (Arr.k (ZU a b)),SI (QPC a b),SI (QPD a b),D.sl N4 (LN (Qva a b)) (fun i=>Arr.row (List.getD (Qva a b) i QbZ)) Mode.any]
def QPE(a:Arr):D:=D.sl N4 (Qx a) (fun i=>QiN a i) Mode.any
def Qvb(a:Arr):Prop:=SM (QPE a)
def Qy(a:Nat)(b:Arr):Prop:=SM a/\Qvb b
def J7(a:Arr):Nat:=LN (Arr.nu a)
def Qb0(a:Arr)(b:Nat):List D:=[ZI (GI (Arr.nu a) b)]
def Qvc(a:Arr):D:=D.sl N1 (J7 a) (fun i=>Qb0 a i) Mode.any
def Qz(a:Nat)(b:Arr):Prop:=SM a/\SM (Qvc b)
def QiO(a:Arr):Int:=Arr.k a
def Qvd(a:Arr):D:=ZI (QiO a)
def Qg(a:Nat)(b:Arr):Prop:=SM a/\SM (Qvd b)
def Qe(a:Arr):Int:=(NI (J7 a))
def Qt(a:Arr):Int:=(8:Int)*Qe a
def QJ(a b c d:Nat):Prop:=a≠b/\c≠b/\d≠b/\True
def Qb(a:Arr):Int:=(NI (Qx a))
def Qu(a:Arr):Int:=(80:Int)*Qb a
def Qi(a b c d e:Nat):Prop:=a≠b/\QJ c b d e
def Qj(a b c d e f:Nat):Prop:=a≠b/\Qi c b d e f
def Qb1(a:Arr):Prop:=SM (QiO a)
def Qb2(a:Arr):Prop:=Int.toNat (Qd a)=J6 a
def Qb3(a:Arr):Prop:=Int.toNat (Qe a)=J7 a
def Qb4(a:Arr):Prop:=Int.toNat (Qb a)=Qx a
def QiP:D:=D.sl N1 N0 (fun _x=>[]) Mode.nil
def Qve(a:Arr)(b:Nat):List D:=clR (Vt a) N0 b
def Qvf:Prop:=SM [ZI Z0]
def QiQ:Prop:=SM N0/\(∀(i:Nat),i<N0->Cv (List D) [] [])/\True
def Vu(a:Arr):Prop:=SM (J6 a)
def Qb5(a:Arr)(b:Nat):List D:=[ZI (GI (Arr.sh a) b)]
def Qvg(a:Arr):Prop:=∀(i:Nat),i<J6 a->SM (Qb5 a i)
def Qvh(a:Arr):Prop:=Vu a/\Qvg a/\True
def Vv(a:Arr):Prop:=SM (J7 a)
def Qvi(a:Arr):Prop:=∀(i:Nat),i<J7 a->SM (Qb0 a i)
def Qvj(a:Arr):Prop:=Vv a/\Qvi a/\True
def J8(a:Arr):Prop:=SM (Qx a)
def ZV(a:Nat)(b:Arr):Prop:=a<Qx b
def Qvk(a b:Nat)(c:Arr):Prop:=SM a/\(SM Z0/\QiQ/\QiQ/\QiQ/\True)/\SM b/\(Qb1 c/\Qvh c/\Qvj c/\(J8 c/\(∀(i:Nat),ZV i c->SM (QiN c i))/\True)/\True)/\True
def Ql(a:Nat)(b:Arr)(c d e f g:Nat):Prop:=Qg a b/\SM c/\∃(x:(Nat×Nat)×Nat×Nat),True/\(c=x.2.2/\True)/\(c=x.2.2/\(Qb1 b/\(d=x.1.1/\Qb2 b/\Qb2 b)/\(e=x.1.2/\Qb3 b/\Qb3 b)/\(f=x.2.1/\Qb4 b/\Qb4 b)/\True)/\f=x.2.1/\(Qb4 b/\Qb4 b/\∀(i:Nat),i<Int.toNat (Qb b)->[ZI Z0,QiP,QiP,QiP]=Qve b i)/\e=x.1.2/\(Qb3 b/\Qb3 b/\∀(i:Nat),i<Int.toNat (Qe b)->Qvf)/\d=x.1.1/\(Qb2 b/\Qb2 b/\∀(i:Nat),i<Int.toNat (Qd b)->Qvf)/\Qvk g a b)/\True
def Qvl(a:Arr):D:=D.sl N1 (J6 a) (fun i=>Qb5 a i) Mode.any
def QA(a:Nat)(b:Arr):Prop:=SM a/\SM (Qvl b)
def QiR(a:Nat)(b:Arr):Prop:=a<=Qx b
def Qvm(a:Arr)(b c d:Nat):Prop:=Qb1 a/\(SM b/\Vu a/\Vu a)/\(SM c/\Vv a/\Vv a)/\(SM d/\J8 a/\J8 a)/\True
def Qb6(a:Arr)(b c:Nat):List D:=clR (Vt a) b c
def Qvn(a:Nat)(b:Arr)(c d e:Nat):Prop:=SM a/\(Vv b/\Vv b/\Qvi b)/\SM c/\(Vu b/\Vu b/\Qvg b)/\Qvk d e b
def Qb7(a:Arr)(b:Nat):Arr:=List.getD (Vt a) (Int.toNat (↑b:Int)) QbZ
def Qvo(a:Arr)(b:Nat):List Int:=Arr.sh (Qb7 a b)
def Qvp(a:Arr)(b:Nat):Nat:=LN (Qvo a b)
def Qvq(a:Arr)(b:Nat):List Int:=Arr.nu (Qb7 a b)
def Qvr(a:Arr)(b:Nat):Nat:=LN (Qvq a b)
def Qvs(a:Arr)(b:Nat):List Arr:=Arr.it (Qb7 a b)
def Qvt(a:Arr)(b:Nat):Nat:=LN (Qvs a b)
def Qvu(a:Arr)(b:Nat):List D:=Arr.row (ZU a b)
def QPF(a:Nat)(b:Arr):D:=D.vs (15:Nat) a (Qx b) (Qx b) N4
def QiS(a:D):Bool:=match a with | D.unk=>false | D.agg _cs=>false | D.tup _ds=>false | _x=>true
theorem BmB(a : Arr)(ha : a.nu.length<=1000000 /\ a.it.length<=1000000 /\ a.sh.length<=1000000)(hc : ConOk Tryz.prog (ME a.it)) :
  ACalls Tryz.prog 157 ((sCl Arr.row2 Arr.row2 (fun _=>True)).args a) ⟨[],[]⟩ (SpecR (sCl Arr.row2 Arr.row2 (fun _=>True)) a):=by
 refine Bg (A:=sCl Arr.row2 Arr.row2 (fun _=>True)) (x:=a) (E:=Ecl a) (eOk hc rfl) Tryz.func157 rfl (by kernel_rfl) rfl (by simp[sCl,Ecl,EC,E0]) ?_
 refine Bi (T :=
  ∀(x:Nat),True->∀(x_1:Nat),x≠x_1/\True->(SM x/\SM x/\SM x/\SM x/\Bc (Z0<=Qd a/\Qd a<=Qd a/\Qs a<=281474976710656/\Qd a<=9223372036854775807) (∀(x_2:Nat),x_1≠x_2/\x≠x_2/\True->Qy x a/\Qz x a/\Qg x a/\Bc (Z0<=Qe a/\Qe a<=Qe a/\Qt a<=281474976710656/\Qe a<=9223372036854775807) (∀(x_3:Nat),QJ x_2 x_3 x_1 x->Qy x a/\Qg x a/\Bc (Z0<=Qb a/\Qb a<=Qb a/\Qu a<=281474976710656/\Qb a<=9223372036854775807) (∀(x_4:Nat),Qi x_3 x_4 x_2 x_1 x->Qg x a/\∀(x_5:Nat),Qj x_4 x_5 x_3 x_2 x_1 x->Ql x a x_5 x_2 x_3 x_4 x_1)/\∀(x_4:Nat),Qi x_3 x_4 x_2 x_1 x->Qy x a/\Qg x a/\Bc (Z0<=Qb a/\Qb a<=Qb a/\Qu a<=281474976710656/\Qb a<=9223372036854775807) (∀(x_5:Nat),Qj x_4 x_5 x_3 x_2 x_1 x->Ql x a x_4 x_2 x_3 x_5 x_1))/\Bc (Z0<=Qb a/\Qb a<=Qb a/\Qu a<=281474976710656/\Qb a<=9223372036854775807) (∀(x_3:Nat),QJ x_2 x_3 x_1 x->Qz x a/\Qg x a/\Bc (Z0<=Qe a/\Qe a<=Qe a/\Qt a<=281474976710656/\Qe a<=9223372036854775807) (∀(x_4:Nat),Qi x_3 x_4 x_2 x_1 x->Qg x a/\∀(x_5:Nat),Qj x_4 x_5 x_3 x_2 x_1 x->Ql x a x_5 x_2 x_4 x_3 x_1)/\∀(x_4:Nat),Qi x_3 x_4 x_2 x_1 x->Qz x a/\Qg x a/\Bc (Z0<=Qe a/\Qe a<=Qe a/\Qt a<=281474976710656/\Qe a<=9223372036854775807) (∀(x_5:Nat),Qj x_4 x_5 x_3 x_2 x_1 x->Ql x a x_4 x_2 x_5 x_3 x_1))/\∀(x_3:Nat),QJ x_2 x_3 x_1 x->Qy x a/\Qz x a/\Qg x a/\Bc (Z0<=Qe a/\Qe a<=Qe a/\Qt a<=281474976710656/\Qe a<=9223372036854775807) (∀(x_4:Nat),Qi x_3 x_4 x_2 x_1 x->Qy x a/\Qg x a/\Bc (Z0<=Qb a/\Qb a<=Qb a/\Qu a<=281474976710656/\Qb a<=9223372036854775807) (∀(x_5:Nat),Qj x_4 x_5 x_3 x_2 x_1 x->Ql x a x_3 x_2 x_4 x_5 x_1))/\Bc (Z0<=Qb a/\Qb a<=Qb a/\Qu a<=281474976710656/\Qb a<=9223372036854775807) (∀(x_4:Nat),Qi x_3 x_4 x_2 x_1 x->Qz x a/\Qg x a/\Bc (Z0<=Qe a/\Qe a<=Qe a/\Qt a<=281474976710656/\Qe a<=9223372036854775807) (∀(x_5:Nat),Qj x_4 x_5 x_3 x_2 x_1 x->Ql x a x_3 x_2 x_5 x_4 x_1)))/\Bc (Z0<=Qe a/\Qe a<=Qe a/\Qt a<=281474976710656/\Qe a<=9223372036854775807) (∀(x_2:Nat),x_1≠x_2/\x≠x_2/\True->Qy x a/\QA x a/\Qg x a/\Bc (Z0<=Qd a/\Qd a<=Qd a/\Qs a<=281474976710656/\Qd a<=9223372036854775807) (∀(x_3:Nat),QJ x_2 x_3 x_1 x->Qy x a/\Qg x a/\Bc (Z0<=Qb a/\Qb a<=Qb a/\Qu a<=281474976710656/\Qb a<=9223372036854775807) (∀(x_4:Nat),Qi x_3 x_4 x_2 x_1 x->Qg x a/\∀(x_5:Nat),Qj x_4 x_5 x_3 x_2 x_1 x->Ql x a x_5 x_3 x_2 x_4 x_1)/\∀(x_4:Nat),Qi x_3 x_4 x_2 x_1 x->Qy x a/\Qg x a/\Bc (Z0<=Qb a/\Qb a<=Qb a/\Qu a<=281474976710656/\Qb a<=9223372036854775807) (∀(x_5:Nat),Qj x_4 x_5 x_3 x_2 x_1 x->Ql x a x_4 x_3 x_2 x_5 x_1))/\Bc (Z0<=Qb a/\Qb a<=Qb a/\Qu a<=281474976710656/\Qb a<=9223372036854775807) (∀(x_3:Nat),QJ x_2 x_3 x_1 x->QA x a/\Qg x a/\Bc (Z0<=Qd a/\Qd a<=Qd a/\Qs a<=281474976710656/\Qd a<=9223372036854775807) (∀(x_4:Nat),Qi x_3 x_4 x_2 x_1 x->Qg x a/\∀(x_5:Nat),Qj x_4 x_5 x_3 x_2 x_1 x->Ql x a x_5 x_4 x_2 x_3 x_1)/\∀(x_4:Nat),Qi x_3 x_4 x_2 x_1 x->QA x a/\Qg x a/\Bc (Z0<=Qd a/\Qd a<=Qd a/\Qs a<=281474976710656/\Qd a<=9223372036854775807) (∀(x_5:Nat),Qj x_4 x_5 x_3 x_2 x_1 x->Ql x a x_4 x_5 x_2 x_3 x_1))/\∀(x_3:Nat),QJ x_2 x_3 x_1 x->Qy x a/\QA x a/\Qg x a/\Bc (Z0<=Qd a/\Qd a<=Qd a/\Qs a<=281474976710656/\Qd a<=9223372036854775807) (∀(x_4:Nat),Qi x_3 x_4 x_2 x_1 x->Qy x a/\Qg x a/\Bc (Z0<=Qb a/\Qb a<=Qb a/\Qu a<=281474976710656/\Qb a<=9223372036854775807) (∀(x_5:Nat),Qj x_4 x_5 x_3 x_2 x_1 x->Ql x a x_3 x_4 x_2 x_5 x_1))/\Bc (Z0<=Qb a/\Qb a<=Qb a/\Qu a<=281474976710656/\Qb a<=9223372036854775807) (∀(x_4:Nat),Qi x_3 x_4 x_2 x_1 x->QA x a/\Qg x a/\Bc (Z0<=Qd a/\Qd a<=Qd a/\Qs a<=281474976710656/\Qd a<=9223372036854775807) (∀(x_5:Nat),Qj x_4 x_5 x_3 x_2 x_1 x->Ql x a x_3 x_5 x_2 x_4 x_1)))/\Bc (Z0<=Qb a/\Qb a<=Qb a/\Qu a<=281474976710656/\Qb a<=9223372036854775807) (∀(x_2:Nat),x_1≠x_2/\x≠x_2/\True->Qz x a/\QA x a/\Qg x a/\Bc (Z0<=Qd a/\Qd a<=Qd a/\Qs a<=281474976710656/\Qd a<=9223372036854775807) (∀(x_3:Nat),QJ x_2 x_3 x_1 x->Qz x a/\Qg x a/\Bc (Z0<=Qe a/\Qe a<=Qe a/\Qt a<=281474976710656/\Qe a<=9223372036854775807) (∀(x_4:Nat),Qi x_3 x_4 x_2 x_1 x->Qg x a/\∀(x_5:Nat),Qj x_4 x_5 x_3 x_2 x_1 x->Ql x a x_5 x_3 x_4 x_2 x_1)/\∀(x_4:Nat),Qi x_3 x_4 x_2 x_1 x->Qz x a/\Qg x a/\Bc (Z0<=Qe a/\Qe a<=Qe a/\Qt a<=281474976710656/\Qe a<=9223372036854775807) (∀(x_5:Nat),Qj x_4 x_5 x_3 x_2 x_1 x->Ql x a x_4 x_3 x_5 x_2 x_1))/\Bc (Z0<=Qe a/\Qe a<=Qe a/\Qt a<=281474976710656/\Qe a<=9223372036854775807) (∀(x_3:Nat),QJ x_2 x_3 x_1 x->QA x a/\Qg x a/\Bc (Z0<=Qd a/\Qd a<=Qd a/\Qs a<=281474976710656/\Qd a<=9223372036854775807) (∀(x_4:Nat),Qi x_3 x_4 x_2 x_1 x->Qg x a/\∀(x_5:Nat),Qj x_4 x_5 x_3 x_2 x_1 x->Ql x a x_5 x_4 x_3 x_2 x_1)/\∀(x_4:Nat),Qi x_3 x_4 x_2 x_1 x->QA x a/\Qg x a/\Bc (Z0<=Qd a/\Qd a<=Qd a/\Qs a<=281474976710656/\Qd a<=9223372036854775807) (∀(x_5:Nat),Qj x_4 x_5 x_3 x_2 x_1 x->Ql x a x_4 x_5 x_3 x_2 x_1))/\∀(x_3:Nat),QJ x_2 x_3 x_1 x->Qz x a/\QA x a/\Qg x a/\Bc (Z0<=Qd a/\Qd a<=Qd a/\Qs a<=281474976710656/\Qd a<=9223372036854775807) (∀(x_4:Nat),Qi x_3 x_4 x_2 x_1 x->Qz x a/\Qg x a/\Bc (Z0<=Qe a/\Qe a<=Qe a/\Qt a<=281474976710656/\Qe a<=9223372036854775807) (∀(x_5:Nat),Qj x_4 x_5 x_3 x_2 x_1 x->Ql x a x_3 x_4 x_5 x_2 x_1))/\Bc (Z0<=Qe a/\Qe a<=Qe a/\Qt a<=281474976710656/\Qe a<=9223372036854775807) (∀(x_4:Nat),Qi x_3 x_4 x_2 x_1 x->QA x a/\Qg x a/\Bc (Z0<=Qd a/\Qd a<=Qd a/\Qs a<=281474976710656/\Qd a<=9223372036854775807) (∀(x_5:Nat),Qj x_4 x_5 x_3 x_2 x_1 x->Ql x a x_3 x_5 x_4 x_2 x_1)))/\∀(x_2:Nat),x_1≠x_2/\x≠x_2/\True->Qy x a/\Qz x a/\QA x a/\Qg x a/\Bc (Z0<=Qd a/\Qd a<=Qd a/\Qs a<=281474976710656/\Qd a<=9223372036854775807) (∀(x_3:Nat),QJ x_2 x_3 x_1 x->Qy x a/\Qz x a/\Qg x a/\Bc (Z0<=Qe a/\Qe a<=Qe a/\Qt a<=281474976710656/\Qe a<=9223372036854775807) (∀(x_4:Nat),Qi x_3 x_4 x_2 x_1 x->Qy x a/\Qg x a/\Bc (Z0<=Qb a/\Qb a<=Qb a/\Qu a<=281474976710656/\Qb a<=9223372036854775807) (∀(x_5:Nat),Qj x_4 x_5 x_3 x_2 x_1 x->Ql x a x_2 x_3 x_4 x_5 x_1))/\Bc (Z0<=Qb a/\Qb a<=Qb a/\Qu a<=281474976710656/\Qb a<=9223372036854775807) (∀(x_4:Nat),Qi x_3 x_4 x_2 x_1 x->Qz x a/\Qg x a/\Bc (Z0<=Qe a/\Qe a<=Qe a/\Qt a<=281474976710656/\Qe a<=9223372036854775807) (∀(x_5:Nat),Qj x_4 x_5 x_3 x_2 x_1 x->Ql x a x_2 x_3 x_5 x_4 x_1)))/\Bc (Z0<=Qe a/\Qe a<=Qe a/\Qt a<=281474976710656/\Qe a<=9223372036854775807) (∀(x_3:Nat),QJ x_2 x_3 x_1 x->Qy x a/\QA x a/\Qg x a/\Bc (Z0<=Qd a/\Qd a<=Qd a/\Qs a<=281474976710656/\Qd a<=9223372036854775807) (∀(x_4:Nat),Qi x_3 x_4 x_2 x_1 x->Qy x a/\Qg x a/\Bc (Z0<=Qb a/\Qb a<=Qb a/\Qu a<=281474976710656/\Qb a<=9223372036854775807) (∀(x_5:Nat),Qj x_4 x_5 x_3 x_2 x_1 x->Ql x a x_2 x_4 x_3 x_5 x_1))/\Bc (Z0<=Qb a/\Qb a<=Qb a/\Qu a<=281474976710656/\Qb a<=9223372036854775807) (∀(x_4:Nat),Qi x_3 x_4 x_2 x_1 x->QA x a/\Qg x a/\Bc (Z0<=Qd a/\Qd a<=Qd a/\Qs a<=281474976710656/\Qd a<=9223372036854775807) (∀(x_5:Nat),Qj x_4 x_5 x_3 x_2 x_1 x->Ql x a x_2 x_5 x_3 x_4 x_1)))/\Bc (Z0<=Qb a/\Qb a<=Qb a/\Qu a<=281474976710656/\Qb a<=9223372036854775807) (∀(x_3:Nat),QJ x_2 x_3 x_1 x->Qz x a/\QA x a/\Qg x a/\Bc (Z0<=Qd a/\Qd a<=Qd a/\Qs a<=281474976710656/\Qd a<=9223372036854775807) (∀(x_4:Nat),Qi x_3 x_4 x_2 x_1 x->Qz x a/\Qg x a/\Bc (Z0<=Qe a/\Qe a<=Qe a/\Qt a<=281474976710656/\Qe a<=9223372036854775807) (∀(x_5:Nat),Qj x_4 x_5 x_3 x_2 x_1 x->Ql x a x_2 x_4 x_5 x_3 x_1))/\Bc (Z0<=Qe a/\Qe a<=Qe a/\Qt a<=281474976710656/\Qe a<=9223372036854775807) (∀(x_4:Nat),Qi x_3 x_4 x_2 x_1 x->QA x a/\Qg x a/\Bc (Z0<=Qd a/\Qd a<=Qd a/\Qs a<=281474976710656/\Qd a<=9223372036854775807) (∀(x_5:Nat),Qj x_4 x_5 x_3 x_2 x_1 x->Ql x a x_2 x_5 x_4 x_3 x_1))))/\∀(x_2:(Nat×Nat)×Nat×Nat),True->SM x_2.2.2/\SM x/\SM x_2.1.1/\Vu a/\Vu a/\SM x_2.2.2/\SM x/\SM x_2.1.2/\Vv a/\Vv a/\SM x/\(∃(x_3:Nat),QiR x_3 a/\(Z0=(↑x_3:Int)/\True)/\(SM x_2.2.2/\Qvm a x_2.1.1 x_2.1.2 x_2.2.1/\SM x_2.2.1/\(J8 a/\J8 a/\∀(i:Nat),ZV i a->Qve a i=Qb6 a x_3 i)/\Qvn x_2.1.2 a x_2.1.1 x_1 x)/\True)/\∀(x_3:Nat),QiR x_3 a->ifB (decide ((↑x_3:Int)<Qb a)) (Bc (Z0<=(↑x_3:Int)/\(↑x_3:Int)<Qb a) (∀(x_4:Nat),x_2.2.2≠x_4/\Qj x_2.2.1 x_4 x_2.1.2 x_2.1.1 x_1 x->SM x_4/\SM x_2.2.2/\SM x_4/\∃(x_5:Arr),((Arr.k (Qb7 a x_3)=QiO x_5/\(Qvp a x_3=J6 x_5/\(∀(i:Nat),i<Qvp a x_3->[ZI (GI (Qvo a x_3) i)]=Qb5 x_5 i)/\True)/\(Qvr a x_3=J7 x_5/\(∀(i:Nat),i<Qvr a x_3->[ZI (GI (Qvq a x_3) i)]=Qb0 x_5 i)/\True)/\(Qvt a x_3=Qx x_5/\(∀(i:Nat),i<Qvt a x_3->Arr.row (List.getD (Qvs a x_3) i QbZ)=Qvu x_5 i)/\True)/\True)/\True)/\(True/\True)/\x_5∈Vt a/\∀(y:Unit),True->(SM x_2.2.2/\SM (QPF x_2.2.1 a))/\Bc (Z0<=(↑x_3:Int)/\(↑x_3:Int)<Qb a) (SM x_2.2.1/\Bc (Int.toNat (↑x_3:Int)<Qx a) ((SM (D.ref N0 x N0)/\SM (D.ref (max (N0+N1) N0) x_1 N0)/\SM (D.ref (17:Nat) x_2.2.2 N0)/\Qvb a/\SM (ZI (Qb a))/\True)/\∃(y:Nat),QiR y a/\Qx a-y<Qx a-x_3/\(IntKind.wrap IntKind.i64 ((↑x_3:Int)+Z1)=(↑y:Int)/\True)/\(SM x_2.2.2/\Qvm a x_2.1.1 x_2.1.2 x_2.2.1/\SM x_2.2.1/\(J8 a/\J8 a/\∀(i:Nat),ZV i a->OW (clR (Vt a) x_3) (Int.toNat (↑x_3:Int)) (List.set (List.set (List.set (List.set (clR (Vt a) x_3 (Int.toNat (↑x_3:Int))) N0 (Qvd x_5)) (N0+N1) (Qvl x_5)) N2 (Qvc x_5)) (3:Nat) (D.sl N4 (Qx x_5) (fun i=>Qvu x_5 i) Mode.any)) i=Qb6 a y i)/\Qvn x_2.1.2 a x_2.1.1 x_1 x)/\True)))) (SM x_2.1.1/\Vu a/\Bc (J6 a<=J6 a) ((∀(i:Nat),i<J6 a->(List.all (Qb5 a i) fun (x:D)=>QiS x)=true)/\∀(t:Nat),SM x_2.1.2/\Vv a/\Bc (J7 a<=J7 a) ((∀(i:Nat),i<J7 a->(List.all (Qb0 a i) fun (x:D)=>QiS x)=true)/\∀(t:Nat),SM x_2.2.1/\J8 a/\Bc (Qx a<=Qx a) ((∀(i:Nat),ZV i a->(List.all (Qb6 a x_3 i) fun (x:D)=>QiS x)=true)/\∀(t:Nat),SM x_2.2.2/\SM x_1/\(SM x_1/\True)/\∃(y:Unit),True/\(Qb1 a/\Qvh a/\Qvj a/\(J8 a/\(∀(i:Nat),ZV i a->Qb6 a x_3 i=QiN a i)/\True)/\True)/\True/\True))))) (by kernel_rfl) ?_
 delta DA GI LN N0 N1 N2 N4 NI SI SM Z0 Z1 ZI J6 Qd QiN QPE Qvb Qy J7 Qb0 Qvc Qz QiO Qvd Qs Qg Qe Qt QJ Qb Qu Qi Qj Qb1 Qb2 Vt Qb3 Qb4 QiP Qve Qvf QiQ Vu Qb5 Qvg Qvh Qx Vv Qvi Qvj J8 ZV Qvk Ql Qvl QA QiR QbZ Qvm Qb6 Qvn Qb7 Qvo Qvp Qvq Qvr Qvs Qvt ZU Qvu QPF QiS QPC QPD Qva
 have da:(default:Arr)=Arr.mk 0 [] [] []:=rfl
 simp only[<- da,eq_self,implies_true,Int.toNat_natCast,Bf,Bd,decide_eq_true_eq,decide_eq_false_iff_not,true_and,and_true,exists_const,forall_const]
 obtain ⟨l1,l2,l3⟩:=ha
 refine fun x x1 hx=>⟨?_,?_⟩
 ·repeat' (first | (refine⟨((_,_),_,_),rfl,rfl,⟨rfl,rfl,rfl⟩,rfl,fun _ _=>rfl,rfl,rfl⟩) | (refine And.intro ?_ ?_) | intro _ | omega)
 refine fun y=>⟨⟨0,Nat.zero_le _,rfl,fun _ _=>rfl⟩,fun i hi=>⟨fun hlt=>⟨⟨by omega,hlt⟩,fun x4 _=>⟨a.it.getD i default,⟨rfl,⟨rfl,fun _ _=>rfl⟩,⟨rfl,fun _ _=>rfl⟩,rfl,fun _ _=>rfl⟩,Cg (by omega),⟨by omega,hlt⟩,by omega,i+1,by omega,by omega,Ba (by omega) (by omega),fun j hj=>?_⟩⟩,fun hge=>⟨Nat.le_refl _,fun _ _=>rfl,Nat.le_refl _,fun _ _=>rfl,Nat.le_refl _,fun j hj=>?_,fun j hj=>?_⟩⟩⟩
 ·rw[BdY (its:=a.it) (i:=i) (j:=i) (by omega)]
  by_cases e:j=i
  ·subst e
   rw[Wy (by omega)]
   simp only[OW,if_true]
   rfl
  ·simp only[OW,e,if_false]
   by_cases e2:j<i
   ·rw[Wy e2,Wy (by omega)]
   ·rw[BdY e2,BdY (by omega)]
 ·rw[Wy (by omega)];rfl
 ·rw[Wy (by omega)];rfl
theorem T3(a:Arr):wkL a.row2 a.row1:=by
 simp only[Arr.row1,Arr.row2,gsl,isl,wkL,wkD,Bn,Bb]
 exact⟨⟨by simp[kEq],trivial⟩,⟨by simp,trivial,fun i _=>by simp[kEq],by simp[BG]⟩,⟨by simp,trivial,fun i _=>by simp[kEq],by simp[BG]⟩,⟨by simp,trivial,fun i _=>BcI _,by simp[BG]⟩,trivial⟩
theorem R4:∀(l:List Arr) (d w:Int) (r:Int×Int),C6 l d w=some r->∀x∈l,(Bu x).1=0
 | [],_,_,_,_,x,hx=>by cases hx
 |y::l,d,w,r,h,x,hx=>by
  rw[C6] at h
  split at h
  ·cases h
  ·rename_i hy
   rcases List.mem_cons.1 hx with rfl | hx
   ·simpa using hy
   ·exact R4 l _ _ r h x hx
theorem EN{k:Int}{s n:List Int}{is:List Arr}(h:(Bu (.mk k s n is)).1=0):s.length<=8/\n.length<=65536/\is.length<=65536/\∀x∈is,(Bu x).1=0:=by
 rw[Bu] at h
 by_cases h0:B8 k s n.length is.length≠0
 ·rw[if_pos h0] at h;exact (h0 h).elim
 ·rw[if_neg h0] at h
  have h0:B8 k s n.length is.length=0:=by simpa using h0
  have hs:=Ie h0
  refine⟨BkR h0,hs.1,hs.2,?_⟩
  by_cases hb:n.any (Ga k)=true
  ·rw[if_pos hb] at h;simp at h
  ·rw[if_neg hb] at h
   cases hr:C6 is 0 ((n.length:Int)+is.length) with
   |none=>rw[hr] at h;simp at h
   |some r=>exact R4 _ _ _ r hr
theorem BeM:∀(a:Arr),(Bu a).1=0->ACalls Tryz.prog 157 [.agg a.row1] ⟨[],[]⟩ (SpecR (sCl Arr.row1 Arr.row1 (fun _=>True)) a)
 |.mk k s n is,h=>by
  obtain ⟨h1,h2,h3,h4⟩:=EN h
  have hc:ConOk Tryz.prog (ME (Arr.mk k s n is).it):=by
   intro k' ds S A hk
   unfold ME at hk
   split at hk
   ·injection hk with hk;subst hk
    refine ConOk.plain (fun (b:Arr) hb=>?_) rfl rfl
    have hb':b∈is:=hb
    exact (BeM b (h4 b hb')).mono fun _ _ ⟨y,q1,q2,q3⟩=>⟨y,q1,q2,q3⟩
   ·cases hk
  have hm:=BmB (.mk k s n is) ⟨by show n.length<=_;omega,by show is.length<=_;omega,by show s.length<=_;omega⟩ hc
  have hm2:ACalls Tryz.prog 157 [.agg (Arr.mk k s n is).row1] ⟨[],[]⟩ (SpecR (sCl Arr.row2 Arr.row2 (fun _=>True)) (.mk k s n is)):=by
   refine ACalls.wkArgs hm ?_
   simp only[sCl,wkL,wkD]
   exact⟨GN _,trivial⟩
  refine ACalls.wkEnd hm2 fun r S' ⟨y,q1,q2,q3⟩=>?_
  subst q2 q3
  refine⟨.ret (.agg (Arr.mk k s n is).row1),fun C e he=>?_,⟨(),trivial,rfl,rfl⟩⟩
  cases e with
  |returned v =>
   refine IY (.agg (Arr.mk k s n is).row2) _ ?_ C v he
   simp only[wkD]
   exact T3 _
  |panicked _=>exact he.elim
  |outgrown=>exact he.elim
termination_by a=>SizeOf.sizeOf a
decreasing_by
 have:=List.sizeOf_lt_of_mem hb'
 simp;omega
def Ep(k:Int):Arr:=if k=1 then .mk 1 [] [0] [] else if k=2 then .mk 2 [] [32] [] else if k=3 then .mk 3 [] [] [.mk 1 [0] [] []] else .mk 0 [] [] []
def IH(w:Nat):D:=.sl w 0 (fun _=>[]) .nil
def EO(k:Int):D :=
 if k=1 then .agg [.int .i64 1,IH 1,.sl 1 1 (fun i=>[[D.int .i64 0]].getD i []) .full,IH 1]
 else if k=2 then .agg [.int .i64 2,IH 1,.sl 1 1 (fun i=>[[D.int .i64 32]].getD i []) .full,IH 1]
 else if k=3 then .agg [.int .i64 3,IH 1,IH 1,.sl 4 1 (fun i=>[[D.int .i64 1,.sl 1 1 (fun i=>[[D.int .i64 0]].getD i []) .full,IH 1,IH 1]].getD i []) .full]
 else .agg [.int .i64 0,IH 1,IH 1,IH 1]
noncomputable def Efl:Senv:=EC Up 20 3 [4,5,9,13] (fun _=>([],[]))
def V6:D:=D.sl N1 N0 (fun _x=>[]) Mode.nil
def Qvv:D:=D.sl N1 N1 (fun i=>List.getD [[ZI Z0]] i []) Mode.full
def QiT:List D:=[V6]
def Qb8(a:Int):D:=EO a
def Qvw:List D:=V6::QiT
theorem Bng(k : Int)(ns nn ni : Nat)(f g h : Nat -> List D) :
  ACalls Tryz.prog 139 [.agg [.int .i64 k,.sl 1 ns f .any,.sl 1 nn g .any,.sl 4 ni h .any]] ⟨[],[]⟩ (SpecR (sC [.agg [.int .i64 k,.sl 1 ns f .any,.sl 1 nn g .any,.sl 4 ni h .any]] (EO k)) ()):=by
 refine Bg (A:=sC _ _) (x:=()) (E:=Efl) (eOk IX rfl) Tryz.func139 rfl (by kernel_rfl) rfl (by simp[sC,Efl,EC,E0]) ?_
 refine Bi (T :=
  ∀(x:Nat),True->∀(x_1:Nat),x≠x_1/\True->SM x/\ifB (k==Z1) (SM x_1/\(SM x_1/\True)/\∃(y:Unit),True/\Bn (D.agg (ZI Z1::V6::Qvv::QiT)) (Qb8 k)/\True/\True) (ifB (k==2) (SM x_1/\(SM x_1/\True)/\∃(y:Unit),True/\Bn (D.agg (ZI 2::V6::D.sl N1 N1 (fun i=>List.getD [[ZI 32]] i []) Mode.full::QiT)) (Qb8 k)/\True/\True) (ifB (k==3) (SM x_1/\(SM x_1/\True)/\∃(y:Unit),True/\Bn (D.agg [ZI 3,V6,V6,D.sl N4 N1 (fun i=>List.getD [ZI Z1::Qvv::Qvw] i []) Mode.full]) (Qb8 k)/\True/\True) (SM x_1/\(SM x_1/\True)/\∃(y:Unit),True/\Bn (D.agg (ZI Z0::V6::Qvw)) (Qb8 k)/\True/\True)))) (by kernel_rfl) ?_
 delta N0 N1 N4 SM Z0 Z1 ZI V6 Qvv QiT Qb8 Qvw
 simp only[Bf,true_and,and_true,beq_iff_eq,beq_eq_false_iff_ne,ne_eq,exists_const,forall_const]
 intro _ _ _
 refine⟨fun h=>?_,fun h1=>⟨fun h=>?_,fun h2=>⟨fun h=>?_,fun h3=>?_⟩⟩⟩
 ·subst h;exact Bp _
 ·subst h;exact Bp _
 ·subst h;exact Bp _
 ·simp only[EO,if_neg h1,if_neg h2,if_neg h3];exact Bp _
noncomputable def Erfl:Senv:=EC Up 20 3 [4,5,9,13] (fun _=>([],[]))
def V7:D:=D.sl N1 N0 (fun _x=>[]) Mode.nil
def Qvx:D:=D.sl N1 N1 (fun i=>List.getD [[ZI Z0]] i []) Mode.full
def QiU:List D:=[V7]
def Qb9(a:Int):D:=EO a
def Qvy:List D:=V7::QiU
theorem BiS(k : Int)(ns nn ni : Nat)(f g h : Nat -> List D) :
  ACalls Tryz.prog 167 [.agg [.int .i64 k,.sl 1 ns f .any,.sl 1 nn g .any,.sl 4 ni h .any]] ⟨[],[]⟩ (SpecR (sC [.agg [.int .i64 k,.sl 1 ns f .any,.sl 1 nn g .any,.sl 4 ni h .any]] (EO k)) ()):=by
 refine Bg (A:=sC _ _) (x:=()) (E:=Erfl) (eOk IX rfl) Tryz.func167 rfl (by kernel_rfl) rfl (by simp[sC,Erfl,EC,E0]) ?_
 refine Bi (T :=
  ∀(x:Nat),True->∀(x_1:Nat),x≠x_1/\True->SM x/\ifB (k==Z1) (SM x_1/\(SM x_1/\True)/\∃(y:Unit),True/\Bn (D.agg (ZI Z1::V7::Qvx::QiU)) (Qb9 k)/\True/\True) (ifB (k==2) (SM x_1/\(SM x_1/\True)/\∃(y:Unit),True/\Bn (D.agg (ZI 2::V7::D.sl N1 N1 (fun i=>List.getD [[ZI 32]] i []) Mode.full::QiU)) (Qb9 k)/\True/\True) (ifB (k==3) (SM x_1/\(SM x_1/\True)/\∃(y:Unit),True/\Bn (D.agg [ZI 3,V7,V7,D.sl N4 N1 (fun i=>List.getD [ZI Z1::Qvx::Qvy] i []) Mode.full]) (Qb9 k)/\True/\True) (SM x_1/\(SM x_1/\True)/\∃(y:Unit),True/\Bn (D.agg (ZI Z0::V7::Qvy)) (Qb9 k)/\True/\True)))) (by kernel_rfl) ?_
 delta N0 N1 N4 SM Z0 Z1 ZI V7 Qvx QiU Qb9 Qvy
 simp only[Bf,true_and,and_true,beq_iff_eq,beq_eq_false_iff_ne,ne_eq,exists_const,forall_const]
 intro _ _ _
 refine⟨fun h=>?_,fun h1=>⟨fun h=>?_,fun h2=>⟨fun h=>?_,fun h3=>?_⟩⟩⟩
 ·subst h;exact Bp _
 ·subst h;exact Bp _
 ·subst h;exact Bp _
 ·simp only[EO,if_neg h1,if_neg h2,if_neg h3];exact Bp _
theorem BbV{α:Type}[Inhabited α](w:Nat)(g:α->List D):wkD (IH 1) (gsl w g []):=by
 simp[IH,gsl,wkD,chk,BG,Oa]
theorem Gw:wkD (IH 1) (isl [] .any):=by
 simp[IH,isl,wkD,chk,BG]
theorem Bnv:wkD (IH 1) (.sl 4 ([]:List (List D)).length (fun i=>([]:List (List D)).getD i []) .any):=by
 simp[IH,wkD,chk,BG,Oa]
theorem Ba4(z:Int):wkD (.sl 1 1 (fun i=>[[D.int .i64 z]].getD i []) .full) (isl [z] .any):=by
 simp only[isl,wkD,Bb]
 refine⟨by simp,by simp,fun i hi=>?_,by simp[BG]⟩
 have:i=0:=by omega
 subst this
 exact Be _
theorem Bgb(k:Int):wkD (EO k) (.agg (Ep k).row1):=by
 unfold EO Ep
 split
 ·simp only[wkD,wkL,Arr.row1,Arr.k,Arr.sh,Arr.nu,Arr.it]
  exact⟨Bp _,Gw,Ba4 _,BbV _ _,trivial⟩
 split
 ·simp only[wkD,wkL,Arr.row1,Arr.k,Arr.sh,Arr.nu,Arr.it]
  exact⟨Bp _,Gw,Ba4 _,BbV _ _,trivial⟩
 split
 ·simp only[wkD,wkL,Arr.row1,Arr.k,Arr.sh,Arr.nu,Arr.it]
  refine⟨Bp _,Gw,Gw,?_,trivial⟩
  simp only[gsl,wkD,Bb]
  refine⟨by simp,by simp,fun i hi=>?_,by simp[BG]⟩
  have:i=0:=by omega
  subst this
  simp only[List.getD_cons_zero,Arr.row,wkL,wkD,Tr]
  exact⟨Bp _,Ba4 _,Gw,Bnv,trivial⟩
 ·simp only[wkD,wkL,Arr.row1,Arr.k,Arr.sh,Arr.nu,Arr.it]
  exact⟨Bp _,Gw,Gw,BbV _ _,trivial⟩
theorem BfW{k:Nat}{ds:List D}{d d':D}(h:ACalls Tryz.prog k ds ⟨[],[]⟩ (SpecR (sC ds d) ()))(hw:wkD d d'):ACalls Tryz.prog k ds ⟨[],[]⟩ (SpecR (sC ds d') ()):=by
 refine ACalls.wkEnd h fun r S' ⟨y,q1,q2,q3⟩=>?_
 subst q2 q3
 refine⟨.ret d',fun C e he=>?_,⟨(),trivial,rfl,rfl⟩⟩
 cases e with
 |returned v=>exact IY d d' hw C v he
 |panicked _=>exact he.elim
 |outgrown=>exact he.elim
theorem Bhh(a:Arr):ACalls Tryz.prog 167 [.agg a.row1] ⟨[],[]⟩ (SpecR (sC [.agg a.row1] (.agg (Ep a.k).row1)) ()):=BfW (BiS a.k _ _ _ _ _ _) (Bgb a.k)
def atA(a:Arr)(i:Nat):Arr:=if a.k=3 then .mk 3 [] [] [a.it.getD i default] else .mk a.k [] [a.nu.getD i 0] []
def atD(a:Arr)(i:Nat):D :=
 if a.k=3 then .agg [.int .i64 a.k,IH 1,IH 1,.sl 4 1 (fun j=>[(a.it.getD i default).row1].getD j []) .full]
 else .agg [.int .i64 a.k,IH 1,.sl 1 1 (fun j=>[[D.int .i64 (a.nu.getD i 0)]].getD j []) .full,IH 1]
noncomputable def Eat(a:Arr):Senv:=EC (ME a.it) 36 3 [4,12,16] (fun id=>match id with | 4=>([0,1,2,3,4,5,6,7,8,9,10],[7,8,10]) | 5=>([0,1,2,3,4,5,6,7,8,9],[7,9]) | _=>([],[]))
def V8(a:Arr):Int:=Arr.k a
def QiV(a:Arr):List Int:=Arr.nu a
def Qca(a:Arr):Nat:=LN (QiV a)
def Ya:D:=D.sl N1 N0 (fun _x=>[]) Mode.nil
def Qvz:List D:=[Ya]
def QiW(a:Nat)(b:Arr)(c:Nat):Prop:=SM a/\(SM a/\True)/\∃(_y:Unit),True/\Bn (D.agg (ZI Z0::Ya::Ya::Qvz)) (atD b c)/\True/\True
def Qcb(a:Arr):List Arr:=Arr.it a
def Qcc(a:Arr):Nat:=LN (Qcb a)
def QiX:Arr:=DA
def Qcd(a:Arr)(b:Nat):Arr:=List.getD (Qcb a) (Int.toNat (↑b:Int)) QiX
def QvA(a:Arr)(b:Nat):List Int:=Arr.sh (Qcd a b)
def QvB(a:Arr)(b:Nat):Nat:=LN (QvA a b)
def QvC(a:Arr)(b:Nat):List D:=[ZI (GI (Arr.sh a) b)]
def QvD(a:Arr)(b:Nat):List Int:=Arr.nu (Qcd a b)
def QvE(a:Arr)(b:Nat):Nat:=LN (QvD a b)
def QvF(a:Arr)(b:Nat):List D:=[ZI (GI (QiV a) b)]
def QvG(a:Arr)(b:Nat):List Arr:=Arr.it (Qcd a b)
def QvH(a:Arr)(b:Nat):Nat:=LN (QvG a b)
def QvI(a:Arr)(b:Nat):List D:=Arr.row (List.getD (Qcb a) b QiX)
def Qce(a:Arr):D:=ZI (V8 a)
def QiY(a:Nat)(b:Arr):Prop:=SM a/\SM (Qce b)
def QvJ(a:Nat)(b:Arr)(c d:Nat):Prop:=SM a/\ifB (V8 b==3) (SM a/\SM a/\Bc (Z0<=(↑c:Int)/\(↑c:Int)<(NI (Qcc b))) (∃(x:Arr),((Arr.k (Qcd b c)=V8 x/\(QvB b c=LN (Arr.sh x)/\(∀(i:Nat),i<QvB b c->[ZI (GI (QvA b c) i)]=QvC x i)/\True)/\(QvE b c=Qca x/\(∀(i:Nat),i<QvE b c->[ZI (GI (QvD b c) i)]=QvF x i)/\True)/\(QvH b c=Qcc x/\(∀(i:Nat),i<QvH b c->Arr.row (List.getD (QvG b c) i QiX)=QvI x i)/\True)/\True)/\True)/\(True/\True)/\x∈Qcb b/\∀(_y:Unit),True->QiY a b/\QiY a b/\SM d/\(SM d/\True)/\∃(_y:Unit),True/\Bn (D.agg [Qce b,Ya,Ya,D.sl N4 N1 (fun i=>List.getD [[Qce x,D.sl N1 (LN (Arr.sh x)) (fun i=>QvC x i) Mode.any,D.sl N1 (Qca x) (fun i=>QvF x i) Mode.any,D.sl N4 (Qcc x) (fun i=>QvI x i) Mode.any]] i []) Mode.full]) (atD b c)/\True/\True)) (SM a/\SM a/\Bc (Z0<=(↑c:Int)/\(↑c:Int)<(NI (Qca b))) (QiY a b/\SM d/\(SM d/\True)/\∃(_y:Unit),True/\Bn (D.agg (Qce b::Ya::D.sl N1 N1 (fun i=>List.getD [[ZI (GI (QiV b) (Int.toNat (↑c:Int)))]] i []) Mode.full::Qvz)) (atD b c)/\True/\True))
def QvK(a:Nat)(b:Arr)(c d e:Nat):Prop:=SM a/\True/\ifB (decide ((NI (Qca b))<=(↑c:Int))) (QiW d b c) (QvJ e b c d)
def QvL(a:Arr)(b c d e:Nat):Prop:=ifB (V8 a==3) (SM b/\True/\ifB (decide ((NI (Qcc a))<=(↑c:Int))) (QiW d a c) (QvJ e a c d)) (True/\QiW d a c)
theorem BmE(a : Arr)(i : Nat)(hk : a.k=1 \/ a.k=2 \/ a.k=3)(hi : (i : Int)<BY a.k a.nu.length a.it.length)(hc : ConOk Tryz.prog (ME a.it)) :
  ACalls Tryz.prog 140 [.agg a.row2,.int .i64 i] ⟨[],[]⟩ (SpecR (sC [.agg a.row2,.int .i64 i] (atD a i)) ()):=by
 refine Bg (A:=sC _ _) (x:=()) (E:=Eat a) (eOk hc rfl) Tryz.func140 rfl (by kernel_rfl) rfl (by simp[sC,Eat,EC,E0]) ?_
 refine Bi (T :=
  ∀(x:Nat),True->∀(x_1:Nat),x≠x_1/\True->SM x/\∀(x_2:Nat),x_1≠x_2/\x≠x_2/\True->SM x_2/\ifB (V8 a==Z1) (ifB (V8 a==Z1) (QvK x_2 a i x_1 x) (QvL a x_2 i x_1 x)) (ifB (V8 a==2) (QvK x_2 a i x_1 x) (QvL a x_2 i x_1 x))) (by kernel_rfl) ?_
 delta DA GI LN N0 N1 N4 NI SM Z0 Z1 ZI V8 QiV QvA QvB QvC QvD QvE QvF QvG QvH QvI Qce Qca QiY QvJ QvK QvL Ya Qvz QiW Qcb Qcc QiX Qcd
 have da:(default:Arr)=Arr.mk 0 [] [] []:=rfl
 simp only[<- da,Bf,Bd,decide_eq_true_eq,decide_eq_false_iff_not,true_and,and_true,beq_iff_eq,beq_eq_false_iff_ne,ne_eq,exists_const,forall_const,Int.toNat_natCast]
 have h12:a.k≠3->i<a.nu.length:=fun h3=>by
  have h:a.k=1\/a.k=2:=by omega
  rw[BY,if_pos h] at hi;omega
 have h3:a.k=3->i<a.it.length:=fun h3=>by
  rw[BY,if_neg (by omega),if_pos h3] at hi;omega
 clear hi
 repeat' (first | intro _ | refine And.intro ?_ ?_)
 all_goals first
  |omega
  |(exfalso;omega)
  |exact⟨a.it.getD i default,⟨rfl,⟨rfl,fun _ _=>rfl⟩,⟨rfl,fun _ _=>rfl⟩,rfl,fun _ _=>rfl⟩,Cg (by omega),by rw[atD,if_pos (by assumption)];exact Bp _⟩
  |(rw[atD,if_neg (by omega)];exact Bp _)
theorem BnM(a:Arr)(i:Nat):wkD (atD a i) (.agg (atA a i).row1):=by
 unfold atD atA
 split
 ·rename_i h3
  rw[h3]
  simp only[wkD,wkL,Arr.row1]
  refine⟨Bp _,Gw,Gw,?_,trivial⟩
  simp only[gsl,wkD,Bb]
  refine⟨by simp,by simp[Arr.it],fun j hj=>?_,by simp[BG]⟩
  have:j=0:=by omega
  subst this
  simp only[List.getD_cons_zero,Arr.it]
  exact BcI _
 ·simp only[wkD,wkL,Arr.row1]
  exact⟨Bp _,Gw,Ba4 _,BbV _ _,trivial⟩
theorem Bak{k:Int}{s:List Int}{nn ni:Nat}(h:B8 k s nn ni=0):k=1\/k=2\/k=3:=by
 unfold B8 at h
 by_cases hk:k=1\/k=2\/k=3
 ·exact hk
 ·rw[if_neg hk] at h;simp at h
theorem BkN{a:Arr}(h:(Bu a).1=0):B8 a.k a.sh a.nu.length a.it.length=0:=by
 cases a with
 |mk k s n is =>
  rw[Bu] at h
  by_cases h0:B8 k s n.length is.length≠0
  ·rw[if_pos h0] at h;exact (h0 h).elim
  ·exact Decidable.not_not.1 h0
theorem Bkr{a:Arr}(h:(Bu a).1=0):ConOk Tryz.prog (ME a.it):=by
 intro k' ds S A hk
 unfold ME at hk
 split at hk
 ·injection hk with hk;subst hk
  refine ConOk.plain (fun (b:Arr) hb=>?_) rfl rfl
  cases a with
  |mk k s n is=>exact (BeM b ((EN h).2.2.2 b hb)).mono fun _ _ ⟨y,q1,q2,q3⟩=>⟨y,q1,q2,q3⟩
 ·cases hk
def jT(sep:List UInt8)(l:List (List UInt8)):List UInt8:=l.flatMap fun x=>sep++x
theorem B7(x:List UInt8)(l:List (List UInt8))(sep:List UInt8):Lib.join (x::l) sep=x++jT sep l:=by
 unfold Lib.join
 induction l generalizing x with
 |nil=>simp[jT,List.intercalate]
 |cons y l ih =>
  have:=ih y
  simp only[List.intercalate,List.intersperse_cons_cons,List.flatten_cons] at this ⊢
  rw[this]
  simp[jT]
theorem W2(sep:List UInt8):Lib.join [] sep=[]:=by simp[Lib.join,List.intercalate]
def jR(sep:List UInt8)(i:Nat)(l:List (List UInt8)):List UInt8:=if i=0 then Lib.join l sep else jT sep l
structure JHd (sep:List UInt8) (l:List (List UInt8)) (i:Nat) (out:List UInt8):Prop where
 hi:i<=l.length
 ho:out++jR sep i (l.drop i)=Lib.join l sep
theorem JHd.init(sep:List UInt8)(l:List (List UInt8)):JHd sep l 0 []:=⟨Nat.zero_le _,by simp[jR]⟩
theorem Wx{l:List (List UInt8)}{i:Nat}(h:i<l.length):l.drop i=l.getD i []::l.drop (i+1):=by
 rw[List.drop_eq_getElem_cons h,List.getD_eq_getElem?_getD,List.getElem?_eq_getElem h];rfl
theorem JHd.step0{sep:List UInt8}{l:List (List UInt8)}{out:List UInt8}(h:JHd sep l 0 out)(hlt:0<l.length):JHd sep l (0+1) (out++l.getD 0 []):=by
 refine⟨by omega,?_⟩
 have:=h.ho
 rw[Wx hlt,jR,if_pos rfl,B7] at this
 rw[<- this,jR,if_neg (by omega),List.append_assoc]
theorem JHd.step{sep:List UInt8}{l:List (List UInt8)}{i:Nat}{out:List UInt8}(h:JHd sep l i out)(h0:i≠0)(hlt:i<l.length):JHd sep l (i+1) (out++sep++l.getD i []):=by
 refine⟨by omega,?_⟩
 have:=h.ho
 rw[Wx hlt,jR,if_neg h0] at this
 rw[<- this,jR,if_neg (by omega)]
 simp[jT]
theorem JHd.len{sep:List UInt8}{l:List (List UInt8)}{i:Nat}{out:List UInt8}(h:JHd sep l i out):out.length<=(Lib.join l sep).length:=by
 have:=congrArg List.length h.ho
 simp only[List.length_append] at this;omega
theorem JHd.done{sep:List UInt8}{l:List (List UInt8)}{i:Nat}{out:List UInt8}(h:JHd sep l i out)(hge:¬i<l.length):out=Lib.join l sep:=by
 have:=h.ho
 rw[List.drop_of_length_le (by omega)] at this
 have e:jR sep i []=[]:=by unfold jR;split<;>simp[jT,W2]
 rw[e,List.append_nil] at this
 exact this
def CZ(l:List Int):List UInt8:=Lib.join (l.map BA) [32]
theorem Bi7(sep:List UInt8)(b:Nat):∀l:List (List UInt8),(∀x∈l,x.length<=b)->(jT sep l).length<=(sep.length+b)*l.length
 | [],_=>by simp[jT]
 |x::l,h=>by
  have h1:=Bi7 sep b l fun y hy=>h y (List.mem_cons_of_mem _ hy)
  have h2:=h x List.mem_cons_self
  simp only[jT,List.flatMap_cons,List.length_append,List.length_cons,Nat.mul_succ] at h1 ⊢
  omega
theorem Bl0(sep:List UInt8)(b:Nat)(l:List (List UInt8))(h:∀x∈l,x.length<=b):(Lib.join l sep).length<=(sep.length+b)*l.length:=by
 cases l with
 |nil=>simp[W2]
 |cons x l =>
  have h1:=Bi7 sep b l fun y hy=>h y (List.mem_cons_of_mem _ hy)
  have h2:=h x List.mem_cons_self
  rw[B7]
  simp only[List.length_append,List.length_cons,Nat.mul_succ]
  omega
theorem G1{l:List Int}(h:∀z∈l,Br z):(CZ l).length<=22*l.length:=by
 have:=Bl0 [32] 21 (l.map BA) (fun x hx=>by
  obtain ⟨z,hz,rfl⟩:=List.mem_map.1 hx
  exact (IS (h z hz)).2)
 simpa[CZ] using this
theorem Bm7{l:List Int}{i:Nat}(h:i<l.length):(l.map BA).getD i []=BA (l.getD i 0):=by
 simp[List.getD_eq_getElem?_getD,List.getElem?_map,List.getElem?_eq_getElem h]
noncomputable def Erd(l:List Int):Senv:={ EC O4 26 1 [2,3,4,9,13] (fun _=>([],[])) with
 gh:=fun b=>match b with
  |0=>[.slot 3]
  |_=>[]
 ann:=fun b _ S=>match b with
  |0=>some { slots:=[4,3],keep:=[0,1],α:=Nat×Nat×List UInt8,st:=fun y=>([.int .i64 y.1,bsl y.2.2 (.tok 0 y.2.1)],⟨S.objs,[(0,y.2.1)]⟩),inv:=fun y=>JHd [32] (l.map BA) y.1 y.2.2,mu:=fun y=>l.length-y.1 }
  |_=>none }
def Qcf(a:List Int)(b:Nat)(c:List UInt8):Prop:=JHd [(32:UInt8)] (List.map BA a) b c
def V9(a:List UInt8)(b:Nat):List D:=[ZB (BI a b)]
def Qcg(a:List UInt8)(b:List Int)(c:Nat):Nat:=LN a+N1+LN (BA (GI b (Int.toNat (↑c:Int))))
def QPG(a:List Int):D:=SI a
def QvM(a:List Int):Prop:=SM (QPG a)/\SM D.unk/\True
def QvN(a:List Int)(b c:Nat):List D:=[ZB (BI (BA (GI a (Int.toNat (↑b:Int)))) c)]
def Qch(a:List UInt8)(b:List Int)(c:Nat):Nat:=LN a+LN (BA (GI b (Int.toNat (↑c:Int))))
theorem Bc3(l:List Int)(hl:l.length<=1099511627776)(hc:∀z∈l,Br z):ACalls Tryz.prog 166 [isl l .any] ⟨[],[]⟩ (SpecR (sC [isl l .any] (.str (CZ l))) ()):=by
 refine Bg (A:=sC _ _) (x:=()) (E:=Erd l) (eOk Ih rfl) Tryz.func166 rfl (by kernel_rfl) rfl (by simp[sC,Erd,EC,E0]) ?_
 refine Bi (T :=
  ∀(t:Nat),(∃(x:Nat×Nat×List UInt8),Qcf l x.1 x.2.2/\(Z0=(NI x.1)/\(N0=LN x.2.2/\(∀(i:Nat),i<N0->[D.str []]=V9 x.2.2 i)/\t=x.2.1)/\True)/\True/\t=x.2.1/\True)/\∀(x:Nat×Nat×List UInt8),Qcf l x.1 x.2.2->ifB (decide ((NI x.1)<(LI l))) (ifB (decide (Z0<(NI x.1))) (SM x.2.1/\Bc ((LN x.2.2+N1)*N1<=140737488355328/\LN x.2.2+N1<=9223372036854775807) (∀(t:Nat),Bc (Z0<=(NI x.1)/\(NI x.1)<(LI l)) (Br (GI l (TN x.1))/\∀(y:Unit),True->SM t/\Bc (Qcg x.2.2 l x.1*N1<=140737488355328/\Qcg x.2.2 l x.1<=9223372036854775807) (∀(t:Nat),QvM l/\∃(y:Nat×Nat×List UInt8),Qcf l y.1 y.2.2/\LN l-y.1<LN l-x.1/\(IntKind.wrap IntKind.i64 ((NI x.1)+Z1)=(NI y.1)/\(Qcg x.2.2 l x.1=LN y.2.2/\(∀(i:Nat),i<Qcg x.2.2 l x.1->BM (LN x.2.2+N1) (BM (LN x.2.2) (fun i=>V9 x.2.2 i) fun i=>List.getD [[ZB (32:Int)]] i []) (fun i=>QvN l x.1 i) i=V9 y.2.2 i)/\t=y.2.1)/\True)/\True/\t=y.2.1/\True)))) (Bc (Z0<=(NI x.1)/\(NI x.1)<(LI l)) (Br (GI l (TN x.1))/\∀(y:Unit),True->SM x.2.1/\Bc (Qch x.2.2 l x.1*N1<=140737488355328/\Qch x.2.2 l x.1<=9223372036854775807) (∀(t:Nat),QvM l/\∃(y:Nat×Nat×List UInt8),Qcf l y.1 y.2.2/\LN l-y.1<LN l-x.1/\(IntKind.wrap IntKind.i64 ((NI x.1)+Z1)=(NI y.1)/\(Qch x.2.2 l x.1=LN y.2.2/\(∀(i:Nat),i<Qch x.2.2 l x.1->BM (LN x.2.2) (fun i=>V9 x.2.2 i) (fun i=>QvN l x.1 i) i=V9 y.2.2 i)/\t=y.2.1)/\True)/\True/\t=y.2.1/\True)))) (True/\chk (true&&Ix (LN x.2.2) fun i=>V9 x.2.2 i) (RT ((bytesOf (LN x.2.2) fun i=>V9 x.2.2 i)=CZ l)))) (by kernel_rfl) ?_
 delta BI GI LI LN N0 N1 NI SI SM TN U0 Z0 Z1 ZB ZI Qcf V9 Qcg QPG QvM QvN Qch RT
 simp only[Bf,Bd,decide_eq_true_eq,true_and,and_true,exists_const,forall_const,Int.toNat_natCast,eq_self]
 intro t
 refine⟨⟨(0,t,[]),JHd.init _ _,⟨rfl,rfl,fun i hi=>absurd hi (by omega),rfl⟩,rfl⟩,?_⟩
 rintro ⟨i,t1,out⟩ hh
 simp only at hh ⊢
 have h1:=hh.len
 have hd:=G1 hc
 have hdd:Lib.join (l.map BA) [32]=CZ l:=rfl
 rw[hdd] at h1
 refine⟨fun hlt=>?_,fun hge=>?_⟩
 ·have hlt':i<l.length:=by omega
  have hz:=hc _ (BcM hlt')
  have hs:=IS hz
  refine⟨fun h0=>⟨⟨by omega,by omega⟩,⟨by omega,by omega⟩,hz,⟨by omega,by omega⟩,fun t2=>⟨(i+1,t2,out++[32]++BA (l.getD i 0)),?_,by simp only;omega,⟨Ba (by omega) (by omega),by simp only[List.length_append,List.length_cons,List.length_nil],?_,rfl⟩,rfl⟩⟩,fun h0=>⟨⟨by omega,by omega⟩,hz,⟨by omega,by omega⟩,fun t2=>⟨(i+1,t2,out++BA (l.getD i 0)),?_,by simp only;omega,⟨Ba (by omega) (by omega),by simp only[List.length_append],?_,rfl⟩,rfl⟩⟩⟩
  ·have:=hh.step (by omega) (by simpa using hlt')
   rw[Bm7 hlt'] at this
   exact this
  ·exact IZ (l:=out++[32]) (by simp) (Mr (b:=32) rfl (fun _ _=>rfl) rfl) (fun _ _=>rfl)
  ·have e:i=0:=by simpa using h0
   subst e
   have:=hh.step0 (by simpa using hlt')
   rw[Bm7 hlt'] at this
   exact this
  ·exact IZ rfl (fun _ _=>rfl) (fun _ _=>rfl)
 ·have hge':¬i<l.length:=by simpa using hge
  have hd:=hh.done (by simpa using hge')
  rw[Bb,Bool.true_and]
  refine⟨IV _,?_⟩
  rw[CL,hd];rfl
noncomputable def Ejn:Senv:=EC O4 5 1 [2] (fun _=>([],[]))
def QvO(a:List (List UInt8)):List (List UInt8):=B5 (LN a) fun i=>[D.str (List.getD a i [])]
theorem Bc0(l:List (List UInt8))(h:GJ l [32]):ACalls Tryz.prog 137 [ssl l .any] ⟨[],[]⟩ (SpecR (sC [ssl l .any] (.str (Lib.join l [32]))) ()):=by
 refine Bg (A:=sC _ _) (x:=()) (E:=Ejn) (eOk Ih rfl) Tryz.func137 rfl (by kernel_rfl) rfl (by simp[sC,Ejn,EC,E0]) ?_
 refine Bi (T :=
  ((Gx (LN l) fun i=>[D.str (List.getD l i [])])=true/\GJ (QvO l) [(32:UInt8)])/\∀(y:Unit),True->RT (Lib.join (QvO l) [(32:UInt8)]=Lib.join l [(32:UInt8)])) (by kernel_rfl) ?_
 delta LN QvO RT
 simp only[MS (l:=l) rfl (fun _ _=>rfl),OM (l:=l) rfl (fun _ _=>rfl),h,and_true,exists_const,implies_true]
theorem tyB:Tryz.prog.underlying 47=some (.pointer 50):=Tryz.underlying47
theorem tyU:Tryz.prog.underlying 100=some .unsafePointer:=Tryz.underlying100
theorem Blr:∃j,Tryz.prog.info? 50=some j/\j.size=2:=Option.map_eq_some_iff.1 (show (Tryz.prog.info? 50).map (·.size)=some 2 by kernel_rfl)
theorem Bqr:liesAt Tryz.prog Tryz.prog.depth 50 (2 / Tryz.prog.cellsOf 50) 0 50 1=true:=by kernel_rfl
theorem Bfn(b : Nat)(w : World)(h0 : w.cell? ⟨b, 0, none⟩=some (.pointer (some ⟨b, 0, none⟩))) :
  Calls Tryz.prog 40 #[.pointer (some ⟨b,0,none⟩)] w fun e w'=>e=.returned (.tuple #[])/\w'=w:=by
 obtain ⟨j,hj,hjs⟩:=Blr
 go_enter Tryz.func40,Tryz.ntmps40
 go_wp2
 rw[Lib.run_neq_ptr_same w _ tyB hj]
 go_wp2
 go_end0
 exact⟨rfl,rfl⟩
theorem BiH(b : Nat)(w : World)(h0 : w.cell? ⟨b, 0, none⟩=some (.pointer none))(hsh : w.shape? b=some (50, 2))(hfz : w.frozen? ⟨b, 0, none⟩=false) :
  Calls Tryz.prog 40 #[.pointer (some ⟨b,0,none⟩)] w fun e w'=>e=.returned (.tuple #[])/\w'=w.setCell ⟨b,0,none⟩ (.pointer (some ⟨b,0,none⟩)):=by
 obtain ⟨j,hj,hjs⟩:=Blr
 go_enter Tryz.func40,Tryz.ntmps40
 go_wp2
 rw[Lib.run_to_unsafe w ⟨b,0,none⟩ tyB tyU hj (by rw[hjs];decide) hsh (Nat.zero_lt_succ 1)]
 simp only[Result.andThen]
 rw[Oper.upon_value]
 go_wp2
 rw[run_callFunc_extern Tryz.func64 (by kernel_rfl) (by kernel_rfl) (by kernel_rfl) (e:=Extern.AbiNoEscape.same) (by kernel_rfl)]
 rw[Lib.run_noEscape]
 simp only[Result.andThen]
 rw[Oper.upon_value]
 go_wp2
 rw[Lib.run_from_unsafe w ⟨b,0,none⟩ tyU tyB hj hsh Bqr]
 simp only[Result.andThen]
 rw[Oper.upon_value]
 go_wp2
 go_end0
 exact⟨rfl,rfl⟩
def sCc(k x E:Nat)(d:D):FnSpec where
 β:=Unit
 α:=Unit
 args:=fun _=>[.ref k x 0]
 st:=fun _=>⟨[(k,x,.bld 50 E d)],[]⟩
 pre:=fun _=>True
 post:=fun _ _=>True
 res:=fun _ _=>.ret (.tup [])
 out:=fun _ _=>⟨[(k,x,.bld 50 E d)],[]⟩
theorem Bp0(k x E:Nat)(d:D):ACalls Tryz.prog 40 ((sCc k x E d).args ()) ((sCc k x E d).st ()) (SpecR (sCc k x E d) ()):=by
 refine⟨⟨_,Tryz.func40,by kernel_rfl,by kernel_rfl⟩,fun C F args w ha hs=>?_⟩
 obtain ⟨u,e,hu⟩:=EL ha
 have e2:args=[u].toArray:=by rw[<- e]
 subst e2
 simp only[Rep] at hu
 subst hu
 have hg:BK ((sCc k x E d).st ()).objs k=some (x,.bld 50 E d):=by simp[sCc,BK]
 obtain ⟨c1,c2,v0,v1,fz,h1,h2,h3,h4,h5⟩:=hs.obj_of hg
 have fin:∀w',Sat C (((sCc k x E d).st ()).add F) w'->∃C' r S',C.le C'/\Sat C' (S'.add F) w'/\RepEnd C' r (.returned (.tuple #[]))/\SpecR (sCc k x E d) () r S':=fun w' h =>
  ⟨C,.ret (.tup []),_,.refl C,h,by simp[RepEnd,Rep,RepL],(),trivial,rfl,rfl⟩
 rcases h3 with rfl | rfl
 ·have hc:w.cell? ⟨x,0,none⟩=some (.pointer none):=by rw[Bs h1];rfl
  have hsh:w.shape? x=some (50,2):=by simp[World.shape?,h1]
  have hfz:w.frozen? ⟨x,0,none⟩=false:=Cs h1 h2 (by simp)
  refine (BiH x w hc hsh hfz).mono fun e w' ⟨he,hw⟩=>?_
  subst he hw
  refine fin _ ?_
  have hr:=CN h1 (o:=0) (.pointer (some ⟨x,0,none⟩))
  have:=hs.replace (o':=.bld 50 E d) (w':=w.setCell ⟨x,0,none⟩ (.pointer (some ⟨x,0,none⟩))) hg (by simp) (fun j hj=>Go.RowKit.Below.heap_setCell _ _ _ _ hj) rfl rfl rfl ⟨.pointer (some ⟨x,0,none⟩),v1,fz,by simpa using hr,by simpa using h2.set 0 (.pointer (some ⟨x,0,none⟩)),.inr rfl,h4,h5⟩
  simpa[sCc,St.set,Id] using this
 ·have hc:w.cell? ⟨x,0,none⟩=some (.pointer (some ⟨x,0,none⟩)):=by rw[Bs h1];rfl
  refine (Bfn x w hc).mono fun e w' ⟨he,hw⟩=>?_
  subst he hw
  exact fin _ hs
def Bfl:Con:=fun k ds S=>match k with
 |40=>match ds with
  | [.ref k x 0]=>match BK S.objs k with
   |some (y,.bld T E d)=>some ((sCc k x E d).fits () (y=x/\T=50/\Tt d=true))
   |_=>none
  |_=>none
 |_=>none
theorem BcH:ConOk Tryz.prog Bfl:=by
 intro k ds S A h
 unfold Bfl at h
 split at h
 ·split at h
  ·rename_i k x
   split at h
   ·rename_i y T E d hg
    injection h with h;subst h
    refine⟨fun _ _=>Bp0 k x E d,fun _ _ hy=>?_,fun h=>nomatch h⟩
    obtain ⟨⟨rfl,rfl,ht⟩,_⟩:=hy
    refine⟨⟨by simp[Bn,chk],trivial⟩,Bb.2 ⟨rfl,?_,trivial⟩⟩
    simp only[FnSpec.fits,sCc,leO,hg]
    exact⟨trivial,Bb.2 ⟨by simp[ht],Bp _⟩,trivial⟩
   ·cases h
  ·cases h
 ·cases h
def sWs(f:List UInt8)(E x t:Nat)(l:List UInt8)(r:AEnd)(ar:List D):FnSpec where
 β:=Unit
 α:=Nat
 args:=fun _=>.ref 0 x 0::ar
 st:=fun _=>⟨[(0,x,.bld 50 E (bsl l (.tok 0 t)))],[(0,t)]⟩
 pre:=fun _=>True
 post:=fun _ _=>True
 res:=fun _ _=>r
 out:=fun _ t'=>⟨[(0,x,.bld 50 E (bsl (l++f) (.tok 0 t')))],[(0,t')]⟩
noncomputable def Ews:Senv:={ EC Bfl 19 2 [4,5] (fun _=>([],[])) with own:=fun t=>Nat.beq t 48 }
theorem BpZ(x t : Nat)(l s : List UInt8)(hl : l.length+s.length<=140737488355328) :
  ACalls Tryz.prog 35 ((sWs s 5 x t l (.ret (.tup [.int .i64 s.length,.nili])) [.str s]).args ()) ((sWs s 5 x t l (.ret (.tup [.int .i64 s.length,.nili])) [.str s]).st ()) (SpecR (sWs s 5 x t l (.ret (.tup [.int .i64 s.length,.nili])) [.str s]) ()):=by
 refine Bg (A:=sWs s 5 x t l (.ret (.tup [.int .i64 s.length,.nili])) [.str s]) (x:=()) (E:=Ews) (eOk BcH rfl) Tryz.func35 rfl (by kernel_rfl) rfl (by simp[sWs,Ews,EC,E0]) ?_
 refine Bi (T :=
  ((SM x/\SM (50:Nat)/\SM true)/\True)/\∀(y:Unit),True->SM x/\SM t/\Bc ((LN l+LN s)*N1<=140737488355328/\LN l+LN s<=9223372036854775807) (∀(t1:Nat),(t % (1000003:Nat)=N6->t1 % (1000003:Nat)=N6)->SM x/\(t % (1000003:Nat)=N6->t1 % (1000003:Nat)=N6)/\True/\∃(y:Nat),True/\(SM (LI s)/\True/\True)/\(SM x/\(LN l+LN s=LN (l++s)/\(∀(i:Nat),i<LN l+LN s->BM (LN l) (fun i=>[ZB (BI l i)]) (fun i=>[ZB (BI s i)]) i=[ZB (BI (l++s) i)])/\t1=y)/\True)/\t1=y/\True)) (by kernel_rfl) ?_
 delta BI LI LN N1 N6 SM U0 ZB
 refine⟨⟨⟨rfl,rfl,rfl⟩,trivial⟩,fun _ _=>⟨rfl,rfl,?_⟩⟩
 rw[Bd]
 exact⟨by omega,fun t1 ht=>⟨rfl,ht,trivial,t1,trivial,⟨rfl,trivial,trivial⟩,⟨rfl,⟨by rw[List.length_append],IZ rfl (fun _ _=>rfl) (fun _ _=>rfl),rfl⟩,trivial⟩,rfl,trivial⟩⟩
noncomputable def Ewb:Senv:={ EC Bfl 17 2 [4] (fun _=>([],[])) with own:=fun t=>Nat.beq t 48 }
theorem BpR(x t : Nat)(l : List UInt8)(b : UInt8)(hl : l.length+1<=140737488355328) :
  ACalls Tryz.prog 19 ((sWs [b] 5 x t l (.ret .nili) [.int .u8 (b.toNat:Int)]).args ()) ((sWs [b] 5 x t l (.ret .nili) [.int .u8 (b.toNat:Int)]).st ()) (SpecR (sWs [b] 5 x t l (.ret .nili) [.int .u8 (b.toNat:Int)]) ()):=by
 refine Bg (A:=sWs [b] 5 x t l (.ret .nili) [.int .u8 (b.toNat:Int)]) (x:=()) (E:=Ewb) (eOk BcH rfl) Tryz.func19 rfl (by kernel_rfl) rfl (by simp[sWs,Ewb,EC,E0]) ?_
 refine Bi (T :=
  ((SM x/\SM (50:Nat)/\SM true)/\True)/\∀(y:Unit),True->SM x/\SM t/\Bc ((LN l+N1)*N1<=140737488355328/\LN l+N1<=9223372036854775807) (∀(t1:Nat),(t % (1000003:Nat)=N6->t1 % (1000003:Nat)=N6)->SM x/\(t % (1000003:Nat)=N6->t1 % (1000003:Nat)=N6)/\True/\∃(y:Nat),True/\True/\(SM x/\(LN l+N1=LN (l++[b])/\(∀(i:Nat),i<LN l+N1->BM (LN l) (fun i=>[ZB (BI l i)]) (fun i=>List.getD [[ZB (NI (UInt8.toNat b))]] i []) i=[ZB (BI (l++[b]) i)])/\t1=y)/\True)/\t1=y/\True)) (by kernel_rfl) ?_
 delta BI LN N1 N6 NI SM U0 ZB
 refine⟨⟨⟨rfl,rfl,rfl⟩,trivial⟩,fun _ _=>⟨rfl,rfl,?_⟩⟩
 rw[Bd]
 exact⟨by omega,fun t1 ht=>⟨rfl,ht,trivial,t1,trivial,trivial,⟨rfl,⟨by simp,Mr rfl (fun _ _=>rfl) rfl,rfl⟩,trivial⟩,rfl,trivial⟩⟩
def sBw(f:List UInt8)(k kt x t:Nat)(l:List UInt8)(r:AEnd)(ar:List D):FnSpec where
 β:=Unit
 α:=Nat
 args:=fun _=>.ref k x 0::ar
 st:=fun _=>⟨[(k,x,.bld 50 5 (bsl l (.tok kt t)))],[(kt,t)]⟩
 pre:=fun _=>True
 post:=fun _ _=>True
 res:=fun _ _=>r
 out:=fun _ t'=>⟨[(k,x,.bld 50 5 (bsl (l++f) (.tok kt t')))],[(kt,t')]⟩
theorem BnS{g : Nat}{f : List UInt8}(k kt x t : Nat){l : List UInt8}{r : AEnd}{ar : List D}(h : ACalls Tryz.prog g ((sWs f 5 x t l r ar).args ()) ((sWs f 5 x t l r ar).st ()) (SpecR (sWs f 5 x t l r ar) ())) :
  ACalls Tryz.prog g ((sBw f k kt x t l r ar).args ()) ((sBw f k kt x t l r ar).st ()) (SpecR (sBw f k kt x t l r ar) ()):=by
 refine h.respec (A':=sBw f k kt x t l r ar) (x':=()) ?_ ?_ fun y _=>⟨y,trivial,?_,?_⟩
 ·simp[sBw,sWs,BD,Bn,chk,Bk]
 ·simp[sBw,sWs,BaL,RC,Ba2,GC,Bn,chk,bsl,BG,Tt]
 ·simp only[sBw,sWs];cases r<;>simp[MO,Bp]
 ·simp[sBw,sWs,BaL,RC,Ba2,GC,Bn,chk,bsl,BG,Tt];rfl
theorem Bjk(b g cap cs : Nat)(p : Value)(fz : Nat×Nat)(arr : Array Value)(fg : Nat×Nat)(l : List UInt8)(w : World)(h0 : l≠[])(hn : l.length<=cap)(hcs : l.length<=arr.size)(h63 : l.length<=9223372036854775807)
  (hbk:w.heap[b]? =some (.cells #[p,.slice (some ⟨g,0,none⟩) l.length cap] cs fz)) (hg:w.heap[g]? =some (.cells arr 5 fg))
  (hcell:∀j x,l[j]? =some x->w.cell? ⟨g,j,none⟩=some (.int .u8 x.toNat)) :
  Calls Tryz.prog 20 #[.pointer (some ⟨b,0,none⟩)] w fun e w'=>e=.returned (.string ⟨l.toArray⟩)/\w'=w.drew.freeze ⟨g,0,none⟩ l.length:=by
 have hl0:l.length≠0:=by simpa using h0
 have c1:w.drew.cell? ⟨b,1,none⟩=some (.slice (some ⟨g,0,none⟩) l.length cap):=by
  have:w.drew.heap[b]? =some (.cells #[p,.slice (some ⟨g,0,none⟩) l.length cap] cs fz):=hbk
  rw[Bs this];rfl
 have hSD:(Builtin.unsafeSliceData_ #[48] 81 #[.slice (some ⟨g,0,none⟩) l.length cap]).run Tryz.prog w.drew=.ok (.pointer (some ⟨g,0,none⟩)) w.drew :=
  Lib.run_unsafeSliceData_row _ _ _ _ _ _ (by omega)
 have hUS:(Builtin.unsafeString_ #[81,3] 9 #[.pointer (some ⟨g,0,none⟩),.int .i64 l.length]).run Tryz.prog w.drew=.ok (.string ⟨l.toArray⟩) (w.drew.freeze ⟨g,0,none⟩ l.length):=by
  refine Lib.run_unsafeString_row w.drew 81 3 9 5 Tryz.underlying81 (by kernel_rfl) g arr.size (by have hg':w.drew.heap[g]? =some (.cells arr 5 fg):=hg;simp[World.shape?,hg']) l h0 hcs h63 ?_
  intro j x hx
  have e:w.drew.cell? ⟨g,j,none⟩=some (.int .u8 x.toNat):=hcell j x hx
  have e2:(if j=0 then (⟨g,0,none⟩:Addr) else ⟨g,j,none⟩)=⟨g,j,none⟩:=by split<;>simp_all
  simpa[Addr.add,e2] using e
 have mixed:Tryz.prog.follows .mixedOrders=true:=by kernel_rfl
 go_enter Tryz.func20,Tryz.ntmps20
 go_wp2
 go_region_o
 all_goals (go_wp2;go_ret;exact⟨rfl,rfl⟩)
theorem BmD(b cs : Nat)(p : Value)(fz : Nat×Nat)(w : World)(hbk : w.heap[b]? =some (.cells #[p, .slice none 0 0] cs fz)) :
  Calls Tryz.prog 20 #[.pointer (some ⟨b,0,none⟩)] w fun e w'=>e=.returned (.string ⟨#[]⟩)/\Go.RowKit.Below w.heap.size w w':=by
 have hUS:∀W,(Builtin.unsafeString_ #[81,3] 9 #[.pointer none,.int .i64 0]).run Tryz.prog W=.ok (.string .empty) W:=fun W=>Lib.run_unsafeString_none W _ _ _ none
 have c1:w.drew.cell? ⟨b,1,none⟩=some (.slice none 0 0):=by
  have:w.drew.heap[b]? =some (.cells #[p,.slice none 0 0] cs fz):=hbk
  rw[Bs this];rfl
 have hSD:(Builtin.unsafeSliceData_ #[48] 81 #[.slice none 0 0]).run Tryz.prog w.drew=.ok (.pointer none) w.drew:=Lib.run_unsafeSliceData_nil _ _ _ _ _
 have mixed:Tryz.prog.follows .mixedOrders=true:=by kernel_rfl
 go_enter Tryz.func20,Tryz.ntmps20
 go_wp2
 go_region_o
 all_goals (go_wp2;go_ret;exact⟨rfl,Go.RowKit.Below.drew (Go.RowKit.Below.refl _ w)⟩)
theorem Bjs(b g cap cs : Nat)(p : Value)(fz : Nat×Nat)(w : World)(hc0 : cap≠0)(hbk : w.heap[b]? =some (.cells #[p, .slice (some ⟨g, 0, none⟩) 0 cap] cs fz)) :
  Calls Tryz.prog 20 #[.pointer (some ⟨b,0,none⟩)] w fun e w'=>e=.returned (.string ⟨#[]⟩)/\Go.RowKit.Below w.heap.size w w':=by
 have hUS:∀W,(Builtin.unsafeString_ #[81,3] 9 #[.pointer (some ⟨g,0,none⟩),.int .i64 0]).run Tryz.prog W=.ok (.string .empty) W:=fun W=>Lib.run_unsafeString_none W _ _ _ _
 have c1:w.drew.cell? ⟨b,1,none⟩=some (.slice (some ⟨g,0,none⟩) 0 cap):=by
  have:w.drew.heap[b]? =some (.cells #[p,.slice (some ⟨g,0,none⟩) 0 cap] cs fz):=hbk
  rw[Bs this];rfl
 have hSD:(Builtin.unsafeSliceData_ #[48] 81 #[.slice (some ⟨g,0,none⟩) 0 cap]).run Tryz.prog w.drew=.ok (.pointer (some ⟨g,0,none⟩)) w.drew :=
  Lib.run_unsafeSliceData_row _ _ _ _ _ _ hc0
 clear hc0
 have mixed:Tryz.prog.follows .mixedOrders=true:=by kernel_rfl
 go_enter Tryz.func20,Tryz.ntmps20
 go_wp2
 go_region_o
 all_goals (go_wp2;go_ret;exact⟨rfl,Go.RowKit.Below.drew (Go.RowKit.Below.refl _ w)⟩)
theorem Be8(b g cs : Nat)(p : Value)(fz fg : Nat×Nat)(arr : Array Value)(E : Nat)(w : World)(hg : w.heap[g]? =some (.cells arr E fg))(hbk : w.heap[b]? =some (.cells #[p, .slice (some ⟨g, 0, none⟩) 0 0] cs fz)) :
  Calls Tryz.prog 20 #[.pointer (some ⟨b,0,none⟩)] w fun e w'=>e=.returned (.string ⟨#[]⟩)/\Go.RowKit.Below w.heap.size w w':=by
 have hUS:∀W q,(Builtin.unsafeString_ #[81,3] 9 #[.pointer q,.int .i64 0]).run Tryz.prog W=.ok (.string .empty) W:=fun W q=>Lib.run_unsafeString_none W _ _ _ q
 have hb:b<w.heap.size:=(Array.getElem?_eq_some_iff.1 hbk).1
 have c1:w.drew.cell? ⟨b,1,none⟩=some (.slice (some ⟨g,0,none⟩) 0 0):=by
  have:w.drew.heap[b]? =some (.cells #[p,.slice (some ⟨g,0,none⟩) 0 0] cs fz):=hbk
  rw[Bs this];rfl
 have c0:w.cell? ⟨b,1,none⟩=some (.slice (some ⟨g,0,none⟩) 0 0):=c1
 have hSD:(Builtin.unsafeSliceData_ #[48] 81 #[.slice (some ⟨g,0,none⟩) 0 0]).run Tryz.prog w.drew=.ok (.pointer (some ⟨w.drew.heap.size,0,none⟩)) (w.drew.alloc (.view ⟨g,0,none⟩ 5)) :=
  Lib.run_unsafeSliceData_zero _ _ _ _ Tryz.underlying81 _ _ (E,arr.size) (by have hg':w.drew.heap[g]? =some (.cells arr E fg):=hg;simp[World.shape?,hg'])
 have hSD0:(Builtin.unsafeSliceData_ #[48] 81 #[.slice (some ⟨g,0,none⟩) 0 0]).run Tryz.prog w=.ok (.pointer (some ⟨w.heap.size,0,none⟩)) (w.alloc (.view ⟨g,0,none⟩ 5)) :=
  Lib.run_unsafeSliceData_zero _ _ _ _ Tryz.underlying81 _ _ (E,arr.size) (by simp[World.shape?,hg])
 have c2:(w.drew.alloc (.view ⟨g,0,none⟩ 5)).cell? ⟨b,1,none⟩=some (.slice (some ⟨g,0,none⟩) 0 0):=by
  rw[World.cell?_alloc_lt _ _ _ hb];exact c1
 have c3:(w.alloc (.view ⟨g,0,none⟩ 5)).drew.cell? ⟨b,1,none⟩=some (.slice (some ⟨g,0,none⟩) 0 0):=c2
 have mixed:Tryz.prog.follows .mixedOrders=true:=by kernel_rfl
 go_enter Tryz.func20,Tryz.ntmps20
 go_wp2
 go_region_o
 all_goals (go_wp2;go_ret;exact⟨rfl,(Go.RowKit.Below.drew (Go.RowKit.Below.refl _ w)).alloc (Nat.le_refl _) _⟩)
theorem U6{C:Ctx}{S:St}{w:World}{g n:Nat}(H:Sat C S w)(hg:C.w0.heap.size<=g)(ho:∀p∈S.objs,p.2.1≠g)(ht:∀t∈S.toks,∀x,C.tok t.2=some x->¬x.clash g):Sat C S (w.freeze ⟨g,0,none⟩ n):=by
 have hne:∀k,k≠g->(w.freeze ⟨g,0,none⟩ n).heap[k]? =w.heap[k]? :=by
  intro k hk
  unfold World.freeze;split<;>simp[Array.getElem?_modify,Ne.symm hk]
 have hcell:∀a,(w.freeze ⟨g,0,none⟩ n).cell? a=w.cell? a:=by
  intro a
  unfold World.cell?
  by_cases e:a.block=g
  ·rw[e]
   unfold World.freeze
   by_cases h0:n=0
   ·rw[if_pos h0]
   ·rw[if_neg h0]
    simp only[Array.getElem?_modify,if_true]
    cases w.heap[g]? with
    |none=>rfl
    |some o=>cases o<;>rfl
  ·rw[hne _ e]
 refine⟨H.below.trans ⟨by unfold World.freeze;split<;>rfl,by unfold World.freeze;split<;>rfl,by unfold World.freeze;split<;>rfl,by unfold World.freeze;split<;>simp,fun k hk=>hne k (by omega)⟩,fun b o v h=>(hcell _).trans (H.imm b o v h),H.one,fun p hp=>?_,H.nodup,fun t htm=>?_,H.tnodup,H.tfin,H.tdist⟩
 ·obtain ⟨h1,h2,h3⟩:=H.objs p hp
  exact⟨h1,h2,h3.of_heap (hne _ (ho p hp))⟩
 ·obtain ⟨x,h1,h2,h3⟩:=H.toks t htm
  exact⟨x,h1,h2.of_heap fun b hb=>hne b fun e=>ht t htm x h1 (e ▸ hb),h3⟩
def sBs(k kt x t:Nat)(l:List UInt8):FnSpec where
 β:=Unit
 α:=Unit
 args:=fun _=>[.ref k x 0]
 st:=fun _=>⟨[(k,x,.bld 50 5 (bsl l (.tok kt t)))],[(kt,t)]⟩
 pre:=fun _=>True
 post:=fun _ _=>True
 res:=fun _ _=>.ret (.str l)
 out:=fun _ _=>⟨[],[]⟩
theorem Bnm(k kt x t:Nat)(l:List UInt8)(h63:l.length<=9223372036854775807):ACalls Tryz.prog 20 ((sBs k kt x t l).args ()) ((sBs k kt x t l).st ()) (SpecR (sBs k kt x t l) ()):=by
 refine⟨⟨_,Tryz.func20,by kernel_rfl,by kernel_rfl⟩,fun C F args w ha hs=>?_⟩
 obtain ⟨u,e,hu⟩:=EL ha
 have e2:args=[u].toArray:=by rw[<- e]
 subst e2
 simp only[Rep] at hu
 subst hu
 have hg:BK ((sBs k kt x t l).st ()).objs k=some (x,.bld 50 5 (bsl l (.tok kt t))):=by simp[sBs,BK]
 obtain ⟨c1,c2,v0,v1,fz,h1,h2,h3,h4,h5⟩:=hs.obj_of hg
 have h5:ET t=5+1:=h5
 simp only[bsl,Rep] at h4
 obtain ⟨a,len,cap,rfl,hh,hr⟩:=h4
 have hlen:len=l.length:=hh.1
 subst hlen
 have hF:Sat C F w:=by
  have h:=hs.le (S':=⟨[],[]⟩) ⟨List.nil_sublist _,List.nil_sublist _⟩
  simpa[St.add] using h
 have fin:∀w',Sat C F w'->∃C' r S',C.le C'/\Sat C' (S'.add F) w'/\RepEnd C' r (.returned (.string ⟨l.toArray⟩))/\SpecR (sBs k kt x t l) () r S':=fun w' h =>
  ⟨C,.ret (.str l),⟨[],[]⟩,.refl C,h,by simp[RepEnd,Rep],(),trivial,rfl,rfl⟩
 have h6:=hh.2.2.2.2.2
 have hcap:l.length<=cap:=hh.2.1
 simp only at h6
 have hmem:(kt,t)∈(((sBs k kt x t l).st ()).add F).toks:=by simp[sBs,St.add]
 obtain ⟨q,q1,q2,q3⟩:=hs.toks (kt,t) hmem
 simp only at q1
 rw[q1] at h6
 cases q with
 |no =>
  simp only at h6
  have ha0:a=none:=h6.2 (by rw[h5];omega)
  subst ha0
  have hl0:=(hh.2.2.2.1 rfl)
  have hl:l=[]:=List.length_eq_zero_iff.1 hl0.1
  subst hl
  obtain rfl:cap=0:=hl0.2
  refine (BmD x _ v0 fz w h1).mono fun e w' ⟨he,hb⟩=>?_
  subst he
  exact fin w' (hF.kept hb)
 | «at» g n cp wd =>
  obtain ⟨rfl,rfl,rfl,rfl⟩:=h6
  obtain ⟨p1,p2,arr,E,fg,p3,p4,p5,p6⟩:=q2
  have hE:E=5:=Nat.succ.inj ((p6 (by simp only;rw[h5];omega)).trans h5)
  subst hE
  by_cases hl:l=[]
  ·subst hl
   by_cases hc:cp=0
   ·subst hc
    refine (Be8 x g _ v0 fz fg arr _ w p3 h1).mono fun e w' ⟨he,hb⟩=>?_
    subst he
    exact fin w' (hF.kept hb)
   ·refine (Bjs x g cp _ v0 fz w hc h1).mono fun e w' ⟨he,hb⟩=>?_
    subst he
    exact fin w' (hF.kept hb)
  ·refine (Bjk x g cp _ v0 fz arr fg l w hl hcap (by rw[p5];omega) h63 h1 p3 fun j y hy=>?_).mono fun e w' ⟨he,hw⟩=>?_
   ·have hj:j<l.length:=(List.getElem?_eq_some_iff.1 hy).1
    have hrow:=(hr ⟨g,0,none⟩ rfl j hj).2
    simp only[RepCells] at hrow
    obtain ⟨⟨v,i1,i2⟩,_⟩:=hrow
    simp only[Rep] at i2
    subst i2
    have:=hs.imm _ _ _ i1
    have e:l.getD j 0=y:=by rw[List.getD_eq_getElem?_getD,hy];rfl
    rw[e] at this
    simpa using this
   ·subst he hw
    refine fin _ (U6 hF.drew p1 (fun p hp e=>q3 p (by simp[St.add,hp]) e.symm) fun s hs2 y hy hcl=>?_)
    cases y with
    |no=>exact hcl
    | «at» b' n' c' wd' =>
     have hcl:b'=g:=hcl
     have hnd:=hs.tnodup
     simp only[St.add,sBs,List.cons_append,List.nil_append,List.map_cons,List.nodup_cons] at hnd
     have hne:t≠s.2:=fun e=>hnd.1 (e ▸ List.mem_map_of_mem hs2)
     exact hs.tdist (kt,t) s _ _ _ _ _ _ _ _ hmem (by simp[St.add,hs2]) hne q1 hy hcl.symm
def BfC(ts:List (Nat×Nat))(kt t:Nat):Prop :=
 match TA ts kt with
 |some t'=>t'=t
 |none=>False
def Bhm(ts:List (Nat×Nat))(x y T E kt t n:Nat)(g:Nat->List D):Prop:=y=x/\T=50/\E=5/\BfC ts kt t/\Ix n g=true
def Cu(z:Int):UInt8:=UInt8.ofNat z.toNat
def Bkt:Con:=fun k ds S=>match k with
 |35=>match ds with
  | [.ref k x 0,.str s]=>match BK S.objs k with
   |some (y,.bld T E (.sl 1 n g (.tok kt t)))=>some ((sBw s k kt x t (bytesOf n g) (.ret (.tup [.int .i64 s.length,.nili])) [.str s]).fits () (Bhm S.toks x y T E kt t n g/\n+s.length<=140737488355328))
   |_=>none
  |_=>none
 |19=>match ds with
  | [.ref k x 0,.int .u8 z]=>match BK S.objs k with
   |some (y,.bld T E (.sl 1 n g (.tok kt t)))=>some ((sBw [Cu z] k kt x t (bytesOf n g) (.ret .nili) [.int .u8 z]).fits () (Bhm S.toks x y T E kt t n g/\(0<=z/\z<=255)/\n+1<=140737488355328))
   |_=>none
  |_=>none
 |20=>match ds with
  | [.ref k x 0]=>match BK S.objs k with
   |some (y,.bld T E (.sl 1 n g (.tok kt t)))=>some ((sBs k kt x t (bytesOf n g)).fits () (Bhm S.toks x y T E kt t n g/\n<=140737488355328))
   |_=>none
  |_=>none
 |k=>O4 k ds S
theorem M6{z:Int}(h:0<=z/\z<=255):((Cu z).toNat:Int)=z:=by
 unfold Cu
 rw[UInt8.toNat_ofNat'];omega
theorem BaS{os : List (Nat×Nat×AObj)}{k x y T E n kt t : Nat}{g : Nat -> List D}(hg : BK os k=some (y, .bld T E (.sl 1 n g (.tok kt t))))(h1 : y=x)(h2 : T=50)(h3 : E=5)(hr : Ix n g=true) :
  leO [(k,x,.bld 50 5 (bsl (bytesOf n g) (.tok kt t)))] os:=by
 subst h1 h2 h3
 simp only[leO,hg,GC]
 exact⟨trivial,Bb.2 ⟨by simp[Tt,bsl],BcS hr⟩,trivial⟩
theorem Mc{ts:List (Nat×Nat)}{kt t:Nat}(h:BfC ts kt t):leT [(kt,t)] ts:=by
 unfold BfC at h
 simp only[leT]
 split at h
 ·rename_i t' e;rw[e];exact⟨h,trivial⟩
 ·exact h.elim
theorem BlA:ConOk Tryz.prog Bkt:=by
 intro k ds S A h
 unfold Bkt at h
 split at h
 ·split at h
  ·split at h
   ·rename_i k x s _ y T E n g kt t hg
    injection h with h;subst h
    have key:∀p:n+s.length<=140737488355328,ACalls Tryz.prog 35 ((sBw s k kt x t (bytesOf n g) (.ret (.tup [.int .i64 s.length,.nili])) [.str s]).args ()) ((sBw s k kt x t (bytesOf n g) (.ret (.tup [.int .i64 s.length,.nili])) [.str s]).st ()) (SpecR (sBw s k kt x t (bytesOf n g) (.ret (.tup [.int .i64 s.length,.nili])) [.str s]) ()):=fun p =>
     BnS k kt x t (BpZ x t (bytesOf n g) s (by simpa[bytesOf] using p))
    refine⟨fun _ hy=>key hy.1.2,fun _ _ hy=>?_,fun h=>nomatch h⟩
    obtain ⟨⟨⟨h1,h2,h3,h4,h5⟩,_⟩,_⟩:=hy
    exact⟨⟨by simp[Bn,chk],by simp[Bn],trivial⟩,Bb.2 ⟨rfl,BaS hg h1 h2 h3 h5,Mc h4⟩⟩
   ·cases h
  ·cases h
 ·split at h
  ·split at h
   ·rename_i k x z _ y T E n g kt t hg
    injection h with h;subst h
    have key:∀p:(0<=z/\z<=255)/\n+1<=140737488355328,ACalls Tryz.prog 19 ((sBw [Cu z] k kt x t (bytesOf n g) (.ret .nili) [.int .u8 z]).args ()) ((sBw [Cu z] k kt x t (bytesOf n g) (.ret .nili) [.int .u8 z]).st ()) (SpecR (sBw [Cu z] k kt x t (bytesOf n g) (.ret .nili) [.int .u8 z]) ()):=fun p=>by
     have:=BnS k kt x t (BpR x t (bytesOf n g) (Cu z) (by simpa[bytesOf] using p.2))
     rw[M6 p.1] at this
     exact this
    refine⟨fun _ hy=>key hy.1.2,fun _ _ hy=>?_,fun h=>nomatch h⟩
    obtain ⟨⟨⟨h1,h2,h3,h4,h5⟩,_⟩,_⟩:=hy
    exact⟨⟨by simp[Bn,chk],Bp _,trivial⟩,Bb.2 ⟨rfl,BaS hg h1 h2 h3 h5,Mc h4⟩⟩
   ·cases h
  ·cases h
 ·split at h
  ·split at h
   ·rename_i k x _ y T E n g kt t hg
    injection h with h;subst h
    refine⟨fun _ hy=>Bnm k kt x t (bytesOf n g) (by have:=hy.1.2;simp[bytesOf];omega),fun _ _ hy=>?_,fun h=>nomatch h⟩
    obtain ⟨⟨⟨h1,h2,h3,h4,h5⟩,_⟩,_⟩:=hy
    exact⟨⟨by simp[Bn,chk],trivial⟩,Bb.2 ⟨rfl,BaS hg h1 h2 h3 h5,Mc h4⟩⟩
   ·cases h
  ·cases h
 ·exact Ih _ _ _ _ h
theorem Bnx(t y:Nat)(l:List UInt8):Bhm [(0,t)] y y 50 5 0 t l.length (fun i=>[.int .u8 ((l.getD i 0).toNat:Int)]):=⟨rfl,rfl,rfl,rfl,IV l⟩
theorem Bar{n:Int}(h:n<0):BA n=95::(Lib.itoa n).drop 1:=by
 simp only[BA,Lib.itoa,if_pos h];rfl
theorem Bal{n:Int}(h:¬n<0):BA n=Lib.itoa n:=by
 simp only[BA,Lib.itoa,if_neg h]
theorem OY(l:List UInt8):[].append l=l:=rfl
noncomputable def Ess(l:List Int):Senv:={ EC Bkt 28 1 [2,3,4,5,6,7,8,9,10,15,20] (fun _=>([],[])) with
 bd:=fun t=>match t with
  |50=>some 5
  |_=>none
 ann:=fun b _ S=>match b with
  |0=>some { slots:=[9],keep:=[0,1,3,7,8],α:=Nat×Nat×List UInt8,st:=fun y=>([.int .i64 y.1],⟨Id S.objs 0 (.bld 50 5 (bsl y.2.2 (.tok 0 y.2.1))),[(0,y.2.1)]⟩),inv:=fun y=>JHd [32] (l.map BA) y.1 y.2.2,mu:=fun y=>l.length-y.1 }
  |_=>none }
def Yb(a:List Int)(b:Nat)(c:List UInt8):Prop:=JHd [(32:UInt8)] (List.map BA a) b c
def Xa(a:List UInt8)(b:Nat):List D:=[ZB (BI a b)]
def Qci(a b:Nat)(c:List UInt8):Prop:=Bhm [(N0,a)] b b (50:Nat) (5:Nat) N0 a (LN c) fun i=>Xa c i
def Qcj(a:List Int)(b:Nat):List UInt8:=Lib.itoa (GI a (Int.toNat (↑b:Int)))
def QiZ(a:List Int)(b:Nat):Nat:=LN (Qcj a b)
def Xb(a:List Int)(b:Nat):Int:=(NI (QiZ a b))
def QvP(a:List Int)(b:Nat):List UInt8:=List.drop N1 (List.take (Int.toNat (Xb a b)) (Qcj a b))
def QvQ(a:List Int)(b:Nat):Nat:=N1+LN (QvP a b)
def Qck(a:List UInt8):List UInt8:=bytesOf (LN a) fun i=>Xa a i
def QvR(a:List UInt8):List UInt8:=Qck a++[Cu (32:Int)]
def Qcl(a:List UInt8):Nat:=LN (QvR a)
def QvS(a:List UInt8)(b:Nat):List D:=[ZB (BI (QvR a) b)]
def QvT(a b:Nat)(c:List UInt8):Prop:=Bhm [(N0,a)] b b (50:Nat) (5:Nat) N0 a (Qcl c) fun i=>QvS c i
def Qi0(a:List Int)(b:Nat):List UInt8:=(95:UInt8)::List.append [] (QvP a b)
def QvU(a:List Int)(b:Nat):Nat:=LN (Qi0 a b)
def QPH(a:List Int):D:=SI a
def QvV(a:List Int):Prop:=SM (QPH a)
def Qcm(a:List Int)(b:Nat):Prop:=QvV a/\SM D.unk/\SM (D.ref N0 b N0)/\QvV a/\SM (ZI (LI a))/\True
def Qcn(a b:Nat):Prop:=IntKind.wrap IntKind.i64 ((↑a:Int)+Z1)=(↑b:Int)/\True
def QvW(a:List UInt8):List UInt8:=bytesOf (Qcl a) fun i=>QvS a i
def QvX(a:List UInt8)(b:List Int)(c:Nat):List UInt8:=QvW a++Qi0 b c
def QvY(a:List UInt8)(b:List Int)(c:Nat):Nat:=LN (QvX a b c)
def QvZ(a:List UInt8)(b:List Int)(c:Nat):List UInt8:=QvW a++Qcj b c
def Qv0(a:List UInt8)(b:List Int)(c:Nat):Nat:=LN (QvZ a b c)
def Qv1(a:List UInt8)(b:List Int)(c:Nat):List UInt8:=Qck a++Qi0 b c
def Qv2(a:List UInt8)(b:List Int)(c:Nat):Nat:=LN (Qv1 a b c)
def Qv3(a:List UInt8)(b:List Int)(c:Nat):List UInt8:=Qck a++Qcj b c
def Qv4(a:List UInt8)(b:List Int)(c:Nat):Nat:=LN (Qv3 a b c)
theorem BjF(l:List Int)(hl:l.length<=1099511627776)(hc:∀z∈l,Br z):ACalls Tryz.prog 141 [isl l .any] ⟨[],[]⟩ (SpecR (sC [isl l .any] (.str (CZ l))) ()):=by
 refine Bg (A:=sC _ _) (x:=()) (E:=Ess l) (eOk BlA rfl) Tryz.func141 rfl (by kernel_rfl) rfl (by simp[sC,Ess,EC,E0]) ?_
 refine Bi (T :=
  ∀(y t:Nat),True->(∃(x:Nat×Nat×List UInt8),Yb l x.1 x.2.2/\(Z0=(NI x.1)/\True)/\(SM y/\(N0=LN x.2.2/\(∀(i:Nat),i<N0->Cv (List D) [] (Xa x.2.2 i))/\t=x.2.1)/\True)/\t=x.2.1/\True)/\∀(x:Nat×Nat×List UInt8),Yb l x.1 x.2.2->ifB (decide ((NI x.1)<(LI l))) (Bc (Z0<=(NI x.1)/\(NI x.1)<(LI l)) (ifB (decide (Z0<(NI x.1))) (((Qci x.2.1 y x.2.2/\(Z0<=32/\(32:Int)<=255)/\LN x.2.2+N1<=140737488355328)/\True)/\∀(y_1:Nat),True->Br (GI l (TN x.1))/\∀(y_2:Unit),True->ifB (decide (GI l (TN x.1)<Z0)) (Bc (Z0<=Z1/\Z1<=Xb l x.1/\Xb l x.1<=Xb l x.1) (Bc (QvQ l x.1<=9223372036854775807) (((QvT y_1 y x.2.2/\Qcl x.2.2+QvU l x.1<=140737488355328)/\True)/\∀(y_3:Nat),True->Qcm l y/\∃(y_4:Nat×Nat×List UInt8),Yb l y_4.1 y_4.2.2/\LN l-y_4.1<LN l-x.1/\Qcn x.1 y_4.1/\(SM y/\(QvY x.2.2 l x.1=LN y_4.2.2/\(∀(i:Nat),i<QvY x.2.2 l x.1->[ZB (BI (QvX x.2.2 l x.1) i)]=Xa y_4.2.2 i)/\y_3=y_4.2.1)/\True)/\y_3=y_4.2.1/\True))) (((QvT y_1 y x.2.2/\Qcl x.2.2+QiZ l x.1<=140737488355328)/\True)/\∀(y_3:Nat),True->Qcm l y/\∃(y_4:Nat×Nat×List UInt8),Yb l y_4.1 y_4.2.2/\LN l-y_4.1<LN l-x.1/\Qcn x.1 y_4.1/\(SM y/\(Qv0 x.2.2 l x.1=LN y_4.2.2/\(∀(i:Nat),i<Qv0 x.2.2 l x.1->[ZB (BI (QvZ x.2.2 l x.1) i)]=Xa y_4.2.2 i)/\y_3=y_4.2.1)/\True)/\y_3=y_4.2.1/\True)) (Br (GI l (TN x.1))/\∀(y_1:Unit),True->ifB (decide (GI l (TN x.1)<Z0)) (Bc (Z0<=Z1/\Z1<=Xb l x.1/\Xb l x.1<=Xb l x.1) (Bc (QvQ l x.1<=9223372036854775807) (((Qci x.2.1 y x.2.2/\LN x.2.2+QvU l x.1<=140737488355328)/\True)/\∀(y_2:Nat),True->Qcm l y/\∃(y_3:Nat×Nat×List UInt8),Yb l y_3.1 y_3.2.2/\LN l-y_3.1<LN l-x.1/\Qcn x.1 y_3.1/\(SM y/\(Qv2 x.2.2 l x.1=LN y_3.2.2/\(∀(i:Nat),i<Qv2 x.2.2 l x.1->[ZB (BI (Qv1 x.2.2 l x.1) i)]=Xa y_3.2.2 i)/\y_2=y_3.2.1)/\True)/\y_2=y_3.2.1/\True))) (((Qci x.2.1 y x.2.2/\LN x.2.2+QiZ l x.1<=140737488355328)/\True)/\∀(y_2:Nat),True->Qcm l y/\∃(y_3:Nat×Nat×List UInt8),Yb l y_3.1 y_3.2.2/\LN l-y_3.1<LN l-x.1/\Qcn x.1 y_3.1/\(SM y/\(Qv4 x.2.2 l x.1=LN y_3.2.2/\(∀(i:Nat),i<Qv4 x.2.2 l x.1->[ZB (BI (Qv3 x.2.2 l x.1) i)]=Xa y_3.2.2 i)/\y_2=y_3.2.1)/\True)/\y_2=y_3.2.1/\True)))) (((Qci x.2.1 y x.2.2/\LN x.2.2<=140737488355328)/\True)/\∀(y:Unit),True->RT (Qck x.2.2=CZ l))) (by kernel_rfl) ?_
 delta BI GI LI LN N0 N1 NI SI SM TN U0 Z0 Z1 ZB ZI Yb Xa Qcl QvS QvT Qi0 QvU QPH QvV Qcm Qcn QvW Qci QvX QvY QvZ Qv0 Qv1 Qv2 Qv3 Qv4 Qcj QiZ Xb QvP QvQ Qck QvR RT
 simp only[Bf,Bd,decide_eq_true_eq,true_and,and_true,exists_const,forall_const,Int.toNat_natCast,eq_self,CL,Bnx,List.take_length,OY]
 intro t
 refine⟨⟨(0,t,[]),JHd.init _ _,rfl,⟨rfl,fun i hi=>absurd hi (by omega),rfl⟩,rfl⟩,?_⟩
 rintro ⟨i,t1,out⟩ hh
 simp only at hh ⊢
 have h1:=hh.len
 have hd:=G1 hc
 have hdd:Lib.join (l.map BA) [32]=CZ l:=rfl
 rw[hdd] at h1
 refine⟨fun hlt=>?_,fun hge=>?_⟩
 ·have hlt':i<l.length:=by omega
  have hz:=hc _ (BcM hlt')
  have hi:=Ws hz
  have hb:Cu 32=32:=rfl
  have hm:i<(l.map BA).length:=by simpa using hlt'
  have st:i≠0->JHd [32] (l.map BA) (i+1) (out++[Cu 32]++BA (l.getD i 0)):=fun h0=>by
   have:=hh.step h0 hm
   rw[Bm7 hlt'] at this
   exact this
  have st0:i=0->JHd [32] (l.map BA) (i+1) (out++BA (l.getD i 0)):=fun h0=>by
   subst h0
   have:=hh.step0 hm
   rw[Bm7 hlt'] at this
   exact this
  refine⟨⟨by omega,by omega⟩,fun h0=>⟨⟨⟨by omega,by omega⟩,by omega⟩,hz,fun hn=>⟨⟨by omega,by omega,by omega⟩,by rw[List.length_drop];omega,?_,fun t3=>⟨(i+1,t3,out++[Cu 32]++95::List.drop 1 (Lib.itoa (l.getD i 0))),?_,by simp only;omega,Ba (by omega) (by omega),⟨rfl,fun _ _=>rfl,rfl⟩,rfl⟩⟩,fun hn=>⟨?_,fun t3=>⟨(i+1,t3,out++[Cu 32]++Lib.itoa (l.getD i 0)),?_,by simp only;omega,Ba (by omega) (by omega),⟨rfl,fun _ _=>rfl,rfl⟩,rfl⟩⟩⟩,
   fun h0=>⟨hz,fun hn=>⟨⟨by omega,by omega,by omega⟩,by rw[List.length_drop];omega,?_,fun t3=>⟨(i+1,t3,out++95::List.drop 1 (Lib.itoa (l.getD i 0))),?_,by simp only;omega,Ba (by omega) (by omega),⟨rfl,fun _ _=>rfl,rfl⟩,rfl⟩⟩,fun hn=>⟨?_,fun t3=>⟨(i+1,t3,out++Lib.itoa (l.getD i 0)),?_,by simp only;omega,Ba (by omega) (by omega),⟨rfl,fun _ _=>rfl,rfl⟩,rfl⟩⟩⟩⟩
  ·simp only[List.length_append,List.length_cons,List.length_nil,List.length_drop];omega
  ·rw[<- Bar hn];exact st (by omega)
  ·simp only[List.length_append,List.length_cons,List.length_nil];omega
  ·rw[<- Bal (n:=l.getD i 0) (by simpa using hn)];exact st (by omega)
  ·simp only[List.length_cons,List.length_drop];omega
  ·rw[<- Bar hn];exact st0 (by simpa using h0)
  ·omega
  ·rw[<- Bal (n:=l.getD i 0) (by simpa using hn)];exact st0 (by simpa using h0)
 ·have hge':¬i<l.length:=by simpa using hge
  have hd:=hh.done (by simpa using hge')
  exact⟨by omega,hd⟩
def BeP:List UInt8:=[98,111,120,32]
def W8:List UInt8:=[32,114,101,115,104,97,112,101,32]
def CC(k:Int)(n:List Int)(ls:List (List UInt8)):List UInt8 :=
 if k=1 then BA (n.getD 0 0) else if k=2 then IF 39 [n.getD 0 0] else BeP++ls.getD 0 []
def Gb(l:List UInt8):List UInt8:=40::(BeP++l++[41])
def E9(k:Int)(n:List Int)(ls:List (List UInt8)):List UInt8 :=
 if k=2 then IF 34 n else Lib.join (n.map BA++ls.map Gb) [32]
def WF(k:Int):List UInt8:=if k=1 then BA 0 else if k=2 then IF 39 [32] else BeP++(CZ [0]++W8++BA 0)
def Mu(k:Int)(s n:List Int)(ls:List (List UInt8)):List UInt8 :=
 if s.length=0 then CC k n ls
 else if s.length=1/\(k=2\/1<n.length+ls.length) then E9 k n ls
 else CZ s++W8++(if n.length+ls.length=0 then WF k else if n.length+ls.length=1 then CC k n ls else E9 k n ls)
mutual
def Bx:Arr->List UInt8
 |.mk k s n is=>Mu k s n (Od is)
def Od:List Arr->List (List UInt8)
 | []=>[]
 |a::r=>Bx a::Od r
end
theorem MM:∀l:List Arr,Od l=l.map Bx
 | []=>rfl
 |a::l=>by simp only[Od,List.map_cons,MM l]
theorem I2(a:Arr):Bx a=Mu a.k a.sh a.nu (a.it.map Bx):=by
 cases a with
 |mk k s n is=>rw[Bx,MM];rfl
def Cp:List (List UInt8)->Nat
 | []=>0
 |x::l=>x.length+Cp l
theorem Bhx:∀l:List (List UInt8),(l.getD 0 []).length<=Cp l
 | []=>by simp[Cp]
 |x::l=>by simp[Cp]
theorem Uk:∀l r:List (List UInt8),Cp (l++r)=Cp l+Cp r
 | [],r=>by simp[Cp]
 |x::l,r=>by simp only[List.cons_append,Cp,Uk l r];omega
theorem Bkn(sep:List UInt8):∀l:List (List UInt8),(jT sep l).length=sep.length*l.length+Cp l
 | []=>by simp[jT,Cp]
 |x::l=>by
  have:=Bkn sep l
  simp only[jT,List.flatMap_cons,List.length_append,List.length_cons,Nat.mul_succ,Cp] at this ⊢
  omega
theorem Tk(sep:List UInt8)(l:List (List UInt8)):(Lib.join l sep).length<=sep.length*l.length+Cp l:=by
 cases l with
 |nil=>simp[W2]
 |cons x l =>
  rw[B7]
  have:=Bkn sep l
  simp only[List.length_append,List.length_cons,Nat.mul_succ,Cp]
  omega
theorem Bcb:∀l:List Int,(∀z∈l,Br z)->Cp (l.map BA)<=21*l.length
 | [],_=>by simp[Cp]
 |x::l,h=>by
  have h1:=Bcb l fun y hy=>h y (List.mem_cons_of_mem _ hy)
  have h2:=IS (h x List.mem_cons_self)
  simp only[List.map_cons,Cp,List.length_cons];omega
theorem Bch:∀l:List (List UInt8),Cp (l.map Gb)=6*l.length+Cp l
 | []=>by simp[Cp]
 |x::l=>by
  have:=Bch l
  simp only[List.map_cons,Cp,List.length_cons,this,Gb,BeP,List.length_append,List.length_nil];omega
theorem U2(q:Int)(l:List Int):(IF q l).length<=8+6*l.length:=by
 have h1:=Ms q
 have h2:=OF q l
 simp only[IF,List.length_append];omega
theorem R9{z:Int}(h:Br z):(BA z).length<=21:=(IS h).2
theorem UX{l:List Int}(h:∀z∈l,Br z):Br (l.getD 0 0):=by
 cases l with
 |nil=>exact⟨by decide,by decide⟩
 |cons x l=>exact h x List.mem_cons_self
theorem TZ(k:Int){n:List Int}(hn:∀z∈n,Br z)(ls:List (List UInt8)):(CC k n ls).length<=21+Cp ls:=by
 have h1:=R9 (UX hn)
 have h2:=U2 39 [n.getD 0 0]
 have h3:=Bhx ls
 simp only[List.length_cons,List.length_nil] at h2
 unfold CC BeP
 split
 ·omega
 split
 ·omega
 ·simp only[List.length_append,List.length_cons,List.length_nil];omega
theorem MC(k:Int){n:List Int}(hn:∀z∈n,Br z)(ls:List (List UInt8)):(E9 k n ls).length<=8+22*n.length+7*ls.length+Cp ls:=by
 have h1:=U2 34 n
 have h2:=Tk [32] (n.map BA++ls.map Gb)
 have h3:=Bcb n hn
 have h4:=Bch ls
 rw[Uk] at h2
 simp only[List.length_append,List.length_map,List.length_cons,List.length_nil] at h2
 unfold E9
 split<;>omega
theorem Ug(k:Int):(WF k).length<=60:=by
 have h0:Br 0:=⟨by decide,by decide⟩
 have h1:=R9 h0
 have h2:=U2 39 [32]
 have h3:=G1 (l:=[0]) (by simpa using h0)
 simp only[List.length_cons,List.length_nil] at h2 h3
 unfold WF BeP W8
 split
 ·omega
 split
 ·omega
 ·simp only[List.length_append,List.length_cons,List.length_nil];omega
theorem BcX(k : Int){s n : List Int}(hs8 : s.length<=8)(hs : ∀z∈s, Br z)(hn : ∀z∈n, Br z)(ls : List (List UInt8)) :
  (Mu k s n ls).length<=300+22*n.length+7*ls.length+Cp ls:=by
 have h1:=TZ k hn ls
 have h2:=MC k hn ls
 have h3:=Ug k
 have h4:=G1 hs
 unfold Mu W8
 split
 ·omega
 split
 ·omega
 ·simp only[List.length_append,List.length_cons,List.length_nil]
  split
  ·omega
  split<;>omega
mutual
def BaY:Arr->Nat
 |.mk _ _ n is=>n.length+U3 is
def U3:List Arr->Nat
 | []=>0
 |a::r=>1+BaY a+U3 r
end
theorem WB:∀a:Arr,a.ok->(Bu a).1=0->(Bx a).length<=600*BaY a+300
 |.mk k s n is,ho,h=>by
  obtain ⟨h1,_,_,h4⟩:=EN h
  simp only[Arr.ok] at ho
  obtain ⟨_,hs,hn,_,_,_,hi⟩:=ho
  have hi:=(E7 _).1 hi
  have key:∀l:List Arr,(∀x∈l,x∈is)->7*l.length+Cp (Od l)<=600*U3 l:=fun l=>by
   induction l with
   |nil=>simp[Od,Cp,U3]
   |cons x l ih =>
    intro hl
    have h5:=ih fun y hy=>hl y (List.mem_cons_of_mem _ hy)
    have hx:x∈is:=hl x List.mem_cons_self
    have h6:=WB x (hi x hx) (h4 x hx)
    simp only[Od,Cp,U3,List.length_cons];omega
  have hk:=key is fun x hx=>hx
  have h7:=BcX k h1 hs hn (Od is)
  have h8:(Od is).length=is.length:=by rw[MM,List.length_map]
  simp only[Bx,BaY]
  omega
termination_by a=>SizeOf.sizeOf a
decreasing_by
 have:=List.sizeOf_lt_of_mem hx
 simp;omega
theorem Bc9:∀(l:List Arr) (d w:Int) (r:Int×Int),C6 l d w=some r->262145<=w->262145<=r.2
 | [],d,w,r,h,hw=>by rw[C6] at h;injection h with h;subst h;exact hw
 |x::l,d,w,r,h,hw=>by
  rw[C6] at h
  split at h
  ·cases h
  ·have hb:=(Ef x).2.1
   refine Bc9 l _ _ r h ?_
   split<;>omega
theorem Bck:∀(l:List Arr),(∀x∈l,(Bu x).1=0->(Bu x).2.2=BaY x)->∀(d w:Int) (r:Int×Int),C6 l d w=some r->r.2<=262144->r.2=w+U3 l-l.length
 | [],_,d,w,r,h,_=>by rw[C6] at h;injection h with h;subst h;simp[U3]
 |x::l,hx,d,w,r,h,hr=>by
  rw[C6] at h
  split at h
  ·cases h
  ·rename_i h0
   have h0:(Bu x).1=0:=Decidable.not_not.1 h0
   have h1:=hx x List.mem_cons_self h0
   by_cases hb:262145<w+(Bu x).2.2
   ·rw[if_pos hb] at h
    have:=Bc9 l _ _ r h (Int.le_refl _)
    omega
   ·rw[if_neg hb] at h
    have:=Bck l (fun y hy=>hx y (List.mem_cons_of_mem _ hy)) _ _ r h hr
    simp only[U3,List.length_cons]
    omega
theorem Bb9:∀a:Arr,(Bu a).1=0->(Bu a).2.2=BaY a
 |.mk k s n is,h=>by
  have hx:∀x∈is,(Bu x).1=0->(Bu x).2.2=BaY x:=fun x hx h=>Bb9 x h
  rw[Bu] at h ⊢
  by_cases h0:B8 k s n.length is.length≠0
  ·rw[if_pos h0] at h;exact (h0 h).elim
  ·rw[if_neg h0] at h ⊢
   by_cases hb:n.any (Ga k)=true
   ·rw[if_pos hb] at h;simp at h
   ·rw[if_neg hb] at h ⊢
    cases hr:C6 is 0 ((n.length:Int)+is.length) with
    |none=>rw[hr] at h;simp at h
    |some r =>
     rw[hr] at h
     simp only at h ⊢
     by_cases hc:16<r.1\/262144<r.2
     ·rw[if_pos hc] at h;simp at h
     ·rw[if_neg hc]
      have:=Bck is hx _ _ r hr (by omega)
      simp only[BaY]
      omega
termination_by a=>SizeOf.sizeOf a
decreasing_by
 have:=List.sizeOf_lt_of_mem hx
 simp;omega
theorem Bli{a:Arr}(h:(Bu a).1=0):BaY a<=262144:=by
 have h1:=Bb9 a h
 have h2:=Ef a
 omega
theorem Bpt{a:Arr}(ho:a.ok)(h:(Bu a).1=0):(Bx a).length<=157286700:=by
 have h1:=WB a ho h
 have h2:=Bli h
 omega
def Bgr(its:List Arr):Con:=fun k ds S=>match k with
 |121=>some (sRc Arr.row1 (fun b=>b∈its) (fun b=>.str (Bx b)))
 |137=>match ds with
  | [.sl 1 n f m]=>some (pC [.sl 1 n f m] (.str (Lib.join (B5 n f) [32])) (Gx n f=true/\GJ (B5 n f) [32]))
  |_=>none
 |k=>O4 k ds S
theorem BjJ{its:List Arr}(ih:∀b∈its,ACalls Tryz.prog 121 ((sRc Arr.row2 (fun _=>True) (fun b=>.str (Bx b))).args b) ⟨[],[]⟩ (SpecR (sRc Arr.row2 (fun _=>True) (fun b=>.str (Bx b))) b)):ConOk Tryz.prog (Bgr its):=by
 intro k ds S A h
 unfold Bgr at h
 split at h
 ·injection h with h;subst h
  exact ConOk.plain (fun b hb=>En (ih b hb)) rfl rfl
 ·split at h
  ·injection h with h;subst h
   exact BZ fun ⟨h1,h2⟩=>⟨Bk _,Ca (us:=[ssl (B5 _ _) .any]) ⟨WS h1,trivial⟩ (Bc0 _ h2)⟩
  ·cases h
 ·exact Ih _ _ _ _ h
noncomputable def Evc(a:Arr):Senv:={ EC (Bgr a.it) 44 4 [5,7,10,15,16,17,18,28,29,30,31] (fun _=>([],[])) with
 gh:=fun b=>match b with
  |0=>[.slot 3]
  |_=>[]
 ann:=fun b _ S=>match b with
  |0=>some { slots:=[17,3],keep:=[1,15,16],α:=Nat×Nat×List (List UInt8),st:=fun y=>([.int .i64 y.1,ssl y.2.2 (.tok 0 y.2.1)],⟨S.objs,[(0,y.2.1)]⟩),inv:=fun y=>y.1<=a.nu.length/\y.2.2=(a.nu.take y.1).map BA,mu:=fun y=>a.nu.length-y.1 }
  |2=>some { slots:=[30,3],keep:=[1,28,29],α:=Nat×Nat×List (List UInt8),st:=fun y=>([.int .i64 y.1,ssl y.2.2 (.tok 0 y.2.1)],⟨S.objs,[(0,y.2.1)]⟩),inv:=fun y=>y.1<=a.it.length/\y.2.2=a.nu.map BA++(a.it.take y.1).map (fun b=>Gb (Bx b)),mu:=fun y=>a.it.length-y.1 }
  |_=>none }
theorem Tn{l : List (List UInt8)}{s : List UInt8} :
  ∀i,i<l.length+1->BM l.length (fun i=>[D.str (l.getD i [])]) (fun i=>[D.str ([s].getD i [])]) i=[D.str ((l++[s]).getD i [])]:=by
 intro i hi
 simp only[BM]
 split
 ·rename_i hlt
  simp[List.getD_eq_getElem?_getD,List.getElem?_append_left hlt]
 ·have:i=l.length:=by omega
  subst this
  simp[List.getD_eq_getElem?_getD]
theorem BgI{α:Type}{l:List α}{i:Nat}(d:α)(h:i<l.length):l.take (i+1)=l.take i++[l.getD i d]:=by
 rw[List.take_add_one,List.getElem?_eq_getElem h,List.getD_eq_getElem?_getD,List.getElem?_eq_getElem h];rfl
theorem Bmd{a:Arr}(h:(Bu a).1=0)(h2:a.k=2):∀c∈a.nu,0<=c/\c<=1114111:=by
 cases a with
 |mk k s n is =>
  have h2:k=2:=h2
  subst h2
  rw[Bu] at h
  by_cases h0:B8 2 s n.length is.length≠0
  ·rw[if_pos h0] at h;exact (h0 h).elim
  ·rw[if_neg h0] at h
   by_cases hb:n.any (Ga 2)=true
   ·rw[if_pos hb] at h;simp at h
   ·intro c hc
    have hb:¬Ga 2 c=true:=fun h=>hb (List.any_eq_true.2 ⟨c,hc,h⟩)
    have:Wr c=true:=by simpa[Ga] using hb
    simp only[Wr,Bool.and_eq_true,decide_eq_true_eq] at this
    omega
theorem BhC{a:Arr}(ho:a.ok)(h:(Bu a).1=0):7*a.it.length+Cp (a.it.map Bx)<=157286400:=by
 have ht:=Bli h
 cases a with
 |mk k s n is =>
  obtain ⟨_,_,_,h4⟩:=EN h
  simp only[Arr.ok] at ho
  have hi:=(E7 _).1 ho.2.2.2.2.2.2
  have key:∀l:List Arr,(∀x∈l,x∈is)->7*l.length+Cp (l.map Bx)<=600*U3 l:=fun l=>by
   induction l with
   |nil=>simp[Cp,U3]
   |cons x l ih =>
    intro hl
    have h5:=ih fun y hy=>hl y (List.mem_cons_of_mem _ hy)
    have hx:x∈is:=hl x List.mem_cons_self
    have h6:=WB x (hi x hx) (h4 x hx)
    simp only[List.map_cons,Cp,U3,List.length_cons];omega
  have hk:=key is fun x hx=>hx
  simp only[BaY] at ht
  show 7*is.length+Cp (is.map Bx)<=_
  omega
theorem M2:∀ {l:List Arr} {x:Arr},x∈l->(Bx x).length<=Cp (l.map Bx)
 |y::l,x,h=>by
  simp only[List.map_cons,Cp]
  rcases List.mem_cons.1 h with rfl | h
  ·omega
  ·have:=M2 h;omega
theorem BlZ{a:Arr}(ho:a.ok)(h:(Bu a).1=0):a.sh.length<=8/\a.nu.length<=65536/\a.it.length<=65536/\(∀z∈a.sh,Br z)/\∀z∈a.nu,Br z:=by
 cases a with
 |mk k s n is =>
  obtain ⟨h1,h2,h3,_⟩:=EN h
  simp only[Arr.ok] at ho
  exact⟨h1,h2,h3,ho.2.1,ho.2.2.1⟩
structure LOk (a:Arr):Prop where
 kd:a.k=1\/a.k=2\/a.k=3
 s8:a.sh.length<=8
 n6:a.nu.length<=65536
 i6:a.it.length<=65536
 si:∀z∈a.sh,Br z
 ni:∀z∈a.nu,Br z
 sum:7*a.it.length+Cp (a.it.map Bx)<=157286400
 chr:a.k=2->∀c∈a.nu,0<=c/\c<=1114111
 no:a.k≠3->a.it=[]
 bx:a.k=3->a.nu=[]
 sc:a.sh.length=0->a.nu.length+a.it.length=1
def Qco(a:Arr):Int:=Arr.k a
def Xc(a:Arr):List Int:=Arr.nu a
def JH(a:Arr):Nat:=LN (Xc a)
def ZW(a:Arr)(b:Nat):List D:=[ZI (GI (Xc a) b)]
def Qv5(a:Arr):List Int:=Bj (JH a) fun i=>ZW a i
def Yc(a:Arr):List Arr:=Arr.it a
def Qv6(a:Arr):List UInt8:=E9 (Qco a) (Xc a) (List.map Bx (Yc a))
def Qi1(a:Nat)(b:Arr)(c:List (List UInt8)):Prop:=a<=JH b/\c=List.map BA (List.take a (Xc b))
def J9(a:List (List UInt8))(b:Nat):List D:=[D.str (List.getD a b [])]
def Qi2(a:Arr):Nat:=LN (Arr.sh a)
def Qv7(a:Arr)(b:Nat):List D:=[ZI (GI (Arr.sh a) b)]
def Vw(a:Arr):Nat:=LN (Yc a)
def Qcp:Arr:=DA
def ZX(a:Arr)(b:Nat):Arr:=List.getD (Yc a) b Qcp
def QPI(a:Arr)(b:Nat):List Int:=Arr.sh (ZX a b)
def QPJ(a:Arr)(b:Nat):List Int:=Arr.nu (ZX a b)
def Qv8(a:Arr)(b:Nat):List Arr:=Arr.it (ZX a b)
def Qv9(a:Arr)(b:Nat):List D:=[ZI (Arr.k (ZX a b)),SI (QPI a b),SI (QPJ a b),D.sl N4 (LN (Qv8 a b)) (fun i=>Arr.row (List.getD (Qv8 a b) i Qcp)) Mode.any]
def Qcq(a:Nat)(b:Arr)(c d:Nat):Prop:=(SM a/\(SM (Qco b)/\(SM (Qi2 b)/\(∀(i:Nat),i<Qi2 b->SM (Qv7 b i))/\True)/\(SM (JH b)/\(∀(i:Nat),i<JH b->SM (ZW b i))/\True)/\(SM (Vw b)/\(∀(i:Nat),i<Vw b->SM (Qv9 b i))/\True)/\True)/\True)/\c=d/\True
def Qi3(a:Arr):Int:=(NI (JH a))
def QPK(a:Arr):D:=D.sl N1 (JH a) (fun i=>ZW a i) Mode.any
def Qcr(a:Arr):List UInt8:=Bx a
def Qi4(a:Nat)(c:Arr)(d:List (List UInt8)):Prop:=a<=Vw c/\d=List.map BA (Xc c)++List.map (fun (b:Arr)=>Gb (Qcr b)) (List.take a (Yc c))
def Qi5(a:Arr):Int:=(NI (Vw a))
def Qcs(a:Arr)(b:Nat):Arr:=List.getD (Yc a) (Int.toNat (↑b:Int)) Qcp
def Qwa(a:Arr)(b:Nat):List Int:=Arr.sh (Qcs a b)
def Qwb(a:Arr)(b:Nat):Nat:=LN (Qwa a b)
def Qwc(a:Arr)(b:Nat):List Int:=Arr.nu (Qcs a b)
def Qwd(a:Arr)(b:Nat):Nat:=LN (Qwc a b)
def Qwe(a:Arr)(b:Nat):List Arr:=Arr.it (Qcs a b)
def Qwf(a:Arr)(b:Nat):Nat:=LN (Qwe a b)
def QPL(a:Arr):D:=D.sl N4 (Vw a) (fun i=>Qv9 a i) Mode.any
def Qwg(a:List (List UInt8)):List (List UInt8):=B5 (LN a) fun i=>J9 a i
theorem BiO(a : Arr)(ho : LOk a)(hc : ConOk Tryz.prog (Bgr a.it)) :
  ACalls Tryz.prog 138 ((sRc Arr.row2 (fun _=>True) (fun a=>.str (E9 a.k a.nu (a.it.map Bx)))).args a) ⟨[],[]⟩ (SpecR (sRc Arr.row2 (fun _=>True) (fun a=>.str (E9 a.k a.nu (a.it.map Bx)))) a):=by
 refine Bg (A:=sRc Arr.row2 (fun _=>True) (fun a=>.str (E9 a.k a.nu (a.it.map Bx)))) (x:=a) (E:=Evc a) (eOk hc rfl) Tryz.func138 rfl (by kernel_rfl) rfl (by simp[sRc,Evc,EC,E0]) ?_
 refine Bi (T :=
  ∀(x:Nat),True->SM x/\ifB (Qco a==2) (SM x/\(JH a<=1099511627776/\(IntsP (JH a) fun i=>ZW a i)/\∀(c:Int),c∈Qv5 a->Z0<=c/\c<=1114111)/\∀(y:Unit),True->RT (IF (34:Int) (Qv5 a)=Qv6 a)) (SM x/\∀(t:Nat),(∃(x_1:Nat×Nat×List (List UInt8)),Qi1 x_1.1 a x_1.2.2/\(Z0=(NI x_1.1)/\(N0=LN x_1.2.2/\(∀(i:Nat),i<N0->Cv (List D) [] (J9 x_1.2.2 i))/\t=x_1.2.1)/\True)/\Qcq x a t x_1.2.1)/\∀(x_1:Nat×Nat×List (List UInt8)),Qi1 x_1.1 a x_1.2.2->ifB (decide ((NI x_1.1)<Qi3 a)) (Bc (Z0<=(NI x_1.1)/\(NI x_1.1)<Qi3 a) (Br (GI (Xc a) (TN x_1.1))/\∀(y:Unit),True->SM x_1.2.1/\Bc ((LN x_1.2.2+N1)*16<=140737488355328/\LN x_1.2.2+N1<=9223372036854775807) (∀(t:Nat),(SM (D.ref N0 x N0)/\SM (QPK a)/\SM (ZI (Qi3 a))/\True)/\∃(y:Nat×Nat×List (List UInt8)),Qi1 y.1 a y.2.2/\JH a-y.1<JH a-x_1.1/\(IntKind.wrap IntKind.i64 ((NI x_1.1)+Z1)=(NI y.1)/\(LN x_1.2.2+N1=LN y.2.2/\(∀(i:Nat),i<LN x_1.2.2+N1->BM (LN x_1.2.2) (fun i=>J9 x_1.2.2 i) (fun i=>[D.str (List.getD [BA (GI (Xc a) (TN x_1.1))] i [])]) i=J9 y.2.2 i)/\t=y.2.1)/\True)/\Qcq x a t y.2.1))) (SM x/\(∃(x_2:Nat×Nat×List (List UInt8)),Qi4 x_2.1 a x_2.2.2/\(Z0=(NI x_2.1)/\(LN x_1.2.2=LN x_2.2.2/\(∀(i:Nat),i<LN x_1.2.2->J9 x_1.2.2 i=J9 x_2.2.2 i)/\x_1.2.1=x_2.2.1)/\True)/\Qcq x a x_1.2.1 x_2.2.1)/\∀(x_2:Nat×Nat×List (List UInt8)),Qi4 x_2.1 a x_2.2.2->ifB (decide ((NI x_2.1)<Qi5 a)) (Bc (Z0<=(NI x_2.1)/\(NI x_2.1)<Qi5 a) (∀(x_3:Nat),x≠x_3/\True->SM x_3/\SM x_3/\∃(x_4:Arr),((Arr.k (Qcs a x_2.1)=Qco x_4/\(Qwb a x_2.1=Qi2 x_4/\(∀(i:Nat),i<Qwb a x_2.1->[ZI (GI (Qwa a x_2.1) i)]=Qv7 x_4 i)/\True)/\(Qwd a x_2.1=JH x_4/\(∀(i:Nat),i<Qwd a x_2.1->[ZI (GI (Qwc a x_2.1) i)]=ZW x_4 i)/\True)/\(Qwf a x_2.1=Vw x_4/\(∀(i:Nat),i<Qwf a x_2.1->Arr.row (List.getD (Qwe a x_2.1) i Qcp)=Arr.row (ZX x_4 i))/\True)/\True)/\True)/\(True/\True)/\x_4∈Yc a/\∀(y:Unit),True->Bc ((5:Nat)+LN (Qcr x_4)<=9223372036854775807) (Bc (LN ((40:UInt8)::(98:UInt8)::(111:UInt8)::(120:UInt8)::(32:UInt8)::List.append [] (Qcr x_4))+N1<=9223372036854775807) (SM x_2.2.1/\Bc ((LN x_2.2.2+N1)*16<=140737488355328/\LN x_2.2.2+N1<=9223372036854775807) (∀(t:Nat),(SM (D.ref N0 x N0)/\SM (QPL a)/\SM (ZI (Qi5 a))/\True)/\∃(y:Nat×Nat×List (List UInt8)),Qi4 y.1 a y.2.2/\Vw a-y.1<Vw a-x_2.1/\(IntKind.wrap IntKind.i64 ((NI x_2.1)+Z1)=(NI y.1)/\(LN x_2.2.2+N1=LN y.2.2/\(∀(i:Nat),i<LN x_2.2.2+N1->BM (LN x_2.2.2) (fun i=>J9 x_2.2.2 i) (fun i=>[D.str (List.getD [(40:UInt8)::(98:UInt8)::(111:UInt8)::(120:UInt8)::(32:UInt8)::List.append (List.append [] (Qcr x_4)) [(41:UInt8)]] i [])]) i=J9 y.2.2 i)/\t=y.2.1)/\True)/\Qcq x a t y.2.1))))) (((Gx (LN x_2.2.2) fun i=>J9 x_2.2.2 i)=true/\GJ (Qwg x_2.2.2) [(32:UInt8)])/\∀(y:Unit),True->RT (Lib.join (Qwg x_2.2.2) [(32:UInt8)]=Qv6 a))))) (by kernel_rfl) ?_
 delta DA GI LN N0 N1 N4 NI SI SM TN Z0 Z1 ZI Qco Xc Qv7 Vw Qcp ZX QPI QPJ Qv8 Qv9 Qcq Qi3 JH QPK Qcr Qi4 Qi5 Qcs Qwa Qwb Qwc Qwd Qwe ZW Qwf QPL Qwg Qv5 Yc Qv6 Qi1 J9 Qi2 RT
 have da:(default:Arr)=Arr.mk 0 [] [] []:=rfl
 simp only[<- da,Bf,Bd,decide_eq_true_eq,decide_eq_false_iff_not,true_and,and_true,beq_iff_eq,beq_eq_false_iff_ne,ne_eq,exists_const,forall_const,Int.toNat_natCast]
 simp only[B0]
 obtain ⟨_,l1,l2,l3,l4,l5,hsum,hchr,_,_,_⟩:=ho
 have tt:(∀i:Nat,i<a.sh.length->True)/\(∀i:Nat,i<a.nu.length->True)/\∀i:Nat,i<a.it.length->True:=⟨fun _ _=>trivial,fun _ _=>trivial,fun _ _=>trivial⟩
 intro x
 refine⟨fun h2=>⟨⟨by omega,BQ _,hchr h2⟩,by rw[E9,if_pos h2]⟩,fun h2 t=>⟨⟨(0,t,[]),⟨Nat.zero_le _,rfl⟩,⟨rfl,rfl,fun i hi=>absurd hi (by omega),rfl⟩,tt,rfl⟩,?_⟩⟩
 rintro ⟨i,t1,out⟩ ⟨hi,he⟩
 simp only at hi he ⊢
 have ho1:out.length=i:=by rw[he,List.length_map,List.length_take];omega
 refine⟨fun hlt=>?_,fun hge=>⟨⟨(0,t1,out),⟨Nat.zero_le _,?_⟩,⟨rfl,rfl,fun _ _=>rfl,rfl⟩,tt,rfl⟩,?_⟩⟩
 ·have hlt':i<a.nu.length:=by omega
  refine⟨⟨by omega,by omega⟩,l5 _ (BcM hlt'),⟨by omega,by omega⟩,fun t2=>⟨(i+1,t2,out++[BA (a.nu.getD i 0)]),⟨by simp only;omega,?_⟩,by simp only;omega,⟨Ba (by omega) (by omega),by simp,Tn,rfl⟩,tt,rfl⟩⟩
  simp only
  rw[BgI 0 hlt',List.map_append,he];rfl
 ·have:i=a.nu.length:=by omega
  subst this
  rw[he];simp
 rintro ⟨j,t3,o2⟩ ⟨hj,he2⟩
 simp only at hj he2 ⊢
 have ho2:o2.length=a.nu.length+j:=by rw[he2,List.length_append,List.length_map,List.length_map,List.length_take];omega
 refine⟨fun hlt=>⟨⟨by omega,by omega⟩,fun x3 _=>?_⟩,fun hge=>?_⟩
 ·have hlt':j<a.it.length:=by omega
  have hm:=Cg hlt'
  have hl:=M2 hm
  refine⟨a.it.getD j default,⟨rfl,⟨rfl,fun _ _=>rfl⟩,⟨rfl,fun _ _=>rfl⟩,rfl,fun _ _=>rfl⟩,hm,by omega,?_,⟨by omega,by omega⟩,fun t4=>⟨(j+1,t4,o2++[Gb (Bx (a.it.getD j default))]),⟨by simp only;omega,?_⟩,by simp only;omega,⟨Ba (by omega) (by omega),by simp,Tn,rfl⟩,tt,rfl⟩⟩
  ·simp only[List.length_cons,OY];omega
  ·simp only
   rw[BgI default hlt',List.map_append,he2,List.append_assoc];rfl
 ·have hj':j=a.it.length:=by omega
  subst hj'
  rw[List.take_length] at he2
  have hv:Lib.join o2 [32]=E9 a.k a.nu (a.it.map Bx):=by
   rw[E9,if_neg h2,he2,List.map_map];rfl
  have hvl:=MC a.k l5 (a.it.map Bx)
  rw[List.length_map] at hvl
  rw[MS (l:=o2) rfl (fun _ _=>rfl)]
  exact⟨⟨OM (l:=o2) rfl (fun _ _=>rfl),by omega,by rw[hv];omega⟩,hv⟩
end
end Go.Proofs.YtnlplccjbojloaaGreatDoor
