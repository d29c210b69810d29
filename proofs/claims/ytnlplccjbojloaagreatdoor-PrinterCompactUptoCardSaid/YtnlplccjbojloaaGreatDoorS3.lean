/- Functions of the given program and what each of them computes: lemmas towards the statement, their conditions stated with each of them. -/
import Derived.Test.YtnlplccjbojloaaGreatDoorS2
namespace Go.Proofs.YtnlplccjbojloaaGreatDoor
open Go Go.Ab
set_option maxRecDepth 100000
noncomputable section
def Bk1(n:Nd):Con:=fun k ds S=>match k with
 |95=>some (pA ds S (.int .i64 (Bw n.va).1) (wkL ds [.agg n.va.row1]))
 |54=>some (pA ds S (.bool (Cd n.tx)) (wkL ds [.str n.tx]))
 |77=>some (pA ds S (.str (Cf n.pr)) (wkL ds [.int .i64 n.pr]))
 |78=>some (pA ds S (.str (opT n.op)) (wkL ds [.int .i64 n.op]))
 |_=>none
theorem Bkr{n:Nd}(h:n.va.ok):ConOk Tryz.prog (Bk1 n):=by
 intro k ds S A hh
 unfold Bk1 at hh
 split at hh
 ·injection hh with hh;subst hh
  exact Bo fun e=>CD.at_ (CD.wk (Bi2 n.va h) e) _
 ·injection hh with hh;subst hh
  exact Bo fun e=>CD.at_ (CD.wk (BnQ n.tx) e) _
 ·injection hh with hh;subst hh
  exact Bo fun e=>CD.at_ (CD.wk (BkQ n.pr) e) _
 ·injection hh with hh;subst hh
  exact Bo fun e=>CD.at_ (CD.wk (Bmh n.op) e) _
 ·cases hh
noncomputable def Ele(n:Nd):Senv:=EC (Bk1 n) 104 7 [10,12,13,49,64,71,82,89,93] (fun _=>([],[]))
def Vo(a:Nd):Bool:=C6 a
def JZ(a:Nd):Prop:=True/\∃(_y:Unit),True/\false=Vo a/\True/\True
def QD(a:Nd):Int:=Nd.kd a
def ZE(a:Nd):Arr:=Nd.va a
def QrX(a:Nd):List Int:=Arr.sh (ZE a)
def QrY(a:Nd):Nat:=LN (QrX a)
def QrZ(a:Nd):Int:=(NI (QrY a))
def Qr0(a:Nd):Bool:=QrZ a==Z0
def QhQ(a:Nd):Int:=Arr.k (ZE a)
def Qr1(a:Nd):Bool:=QhQ a != (3:Int)
def QhR(a:Nd):Bool:=bif Qr0 a then Qr1 a else false
def Qr2(a:Nd):Bool:=QrZ a==Z1
def Qr3(a:Nd):Bool:=QhQ a==2
def QhS(a:Nd):Bool:=bif Qr2 a then Qr3 a else false
def Vp(a:Nd):Int:=Nd.cl a
def QO0(a:Nd):List Int:=Arr.nu (ZE a)
def Qr4(a:Nd):List Arr:=Arr.it (ZE a)
def Qr5(a:Nd):List D:=[D.agg [ZI (QhQ a),D.sl N1 (QrY a) (fun i=>[ZI (GI (QrX a) i)]) Mode.any,SI (QO0 a),D.sl N4 (LN (Qr4 a)) (fun i=>Arr.row (GA (Qr4 a) i)) Mode.any]]
def QhT(a:Nat)(b:Nd):Prop:=SM a/\True/\∃(_y:Unit),True/\(Vp b==Z1)=Vo b/\True/\True
def QhU(a:Nat)(b:Nd):Prop:=SM a/\True/\∃(_y:Unit),True/\(Vp b==2)=Vo b/\True/\True
def Qbm(a:Nd):Int:=Nd.op a
def Qr6(a:Nat)(b:Nd):Prop:=SM a/\∃(_x:Unit),wkL [ZI (Qbm b)] [ZI (Qbm b)]/\∀(_y:Unit),True->True/\∃(_y:Unit),True/\(opT (Qbm b) != [])=Vo b/\True/\True
def QhV(a:Nd)(b:Nat):Prop:=ifB (QD a==17) (SM b/\ifB (decide (Qbm a<=5)) (SM b/\ifB (Vp a==3) (Qr6 b a) (JZ a)) (SM b/\ifB (Vp a==4) (Qr6 b a) (JZ a))) (JZ a)
def QhW(a:Nd)(b:Nat):Prop:=ifB (QD a==9) (SM b/\ifB (Vp a==2) (SM b/\∃(_x:Unit),wkL [ZI (Nd.pr a)] [ZI (Nd.pr a)]/\∀(_y:Unit),True->True/\∃(_y:Unit),True/\(Cf (Nd.pr a) != [])=Vo a/\True/\True) (JZ a)) (ifB (QD a==11) (ifB (QD a==11) (QhU b a) (QhV a b)) (ifB (QD a==12) (ifB (QD a==12) (QhU b a) (QhV a b)) (ifB (QD a==13) (QhU b a) (QhV a b))))
theorem Bqz(n:Nd)(h:n.va.ok):CD 74 [.agg n.row2] (.bool (C6 n)) := by
  refine Bg (A := sC _ _) (x := ()) (E := Ele n) (eOk (Bkr h) rfl) Tryz.func74 rfl (by kernel_rfl) rfl (by simp [sC,Ele,EC,E0]) ?_
  refine Bi (T :=
    ∀ (x:Nat),True->SM x/\ifB (decide (Z0 < (LI (Nd.ki n)))) (JZ n) (SM x/\ifB (QD n == Z1) (SM x/\∀ (x_1:Nat),x ≠ x_1/\True->SM x_1/\(SM x_1/\ifB (Qr0 n) (SM x_1/\Qr1 n = QhR n/\True) (false = QhR n/\True))/\(SM x_1/\ifB (Qr2 n) (SM x_1/\Qr3 n = QhS n/\True) (false = QhS n/\True))/\SM x/\ifB (Vp n == Z1) (SM x_1/\∃ (x:Unit),wkL (Qr5 n) (Qr5 n)/\∀ (y:Unit),True->ifB (Prod.fst (Bw (ZE n)) == Z0) (ifB (QhR n) (True/\∃ (y:Unit),True/\true = Vo n/\True/\True) (True/\∃ (y:Unit),True/\QhS n = Vo n/\True/\True)) (JZ n)) (JZ n)) (ifB (QD n == (2:Int)) (SM x/\ifB (decide (Z1 <= Vp n)) (SM x/\ifB (decide (Vp n <= (4:Int))) (SM x/\∃ (x:Unit),wkL [D.str (Nd.tx n)] [D.str (Nd.tx n)]/\∀ (y:Unit),True->True/\∃ (y:Unit),True/\Cd (Nd.tx n) = Vo n/\True/\True) (JZ n)) (JZ n)) (ifB (QD n == (6:Int)) (ifB (QD n == (6:Int)) (QhT x n) (QhW n x)) (ifB (QD n == (7:Int)) (ifB (QD n == (7:Int)) (QhT x n) (QhW n x)) (ifB (QD n == (8:Int)) (QhT x n) (QhW n x))))))) (by kernel_rfl) ?_
  delta DA GA GI LI LN N1 N4 NI SI SM Z0 Z1 ZI Vo JZ QhR Qr2 Qr3 QhS Vp QO0 Qr4 Qr5 QhT QhU QD Qbm Qr6 QhV QhW ZE QrX QrY QrZ Qr0 QhQ Qr1
  try simp only []
  try simp only [<- dn]
  simp only [ne_eq,Bf,decide_eq_true_eq,decide_eq_false_iff_not,true_and,and_true,beq_iff_eq,beq_eq_false_iff_ne,exists_const,forall_const]
  have e1:n.ki.isEmpty = (n.ki.length == 0) := by cases n.ki <;> rfl
  have e2:n.va.sh.isEmpty = (n.va.sh.length == 0) := by cases n.va.sh <;> rfl
  have e3:∀ l:List UInt8,(l != []) = !l.isEmpty := fun l => by cases l <;> rfl
  have e40:((n.va.sh.length:Int) == 0) = (n.va.sh.length == 0) := by rw [Bool.eq_iff_iff,beq_iff_eq,beq_iff_eq]; omega
  have e41:((n.va.sh.length:Int) == 1) = (n.va.sh.length == 1) := by rw [Bool.eq_iff_iff,beq_iff_eq,beq_iff_eq]; omega
  simp only [e3,e40,e41]
  intro x
  repeat' (first | exact Be _ | refine And.intro ?_ ?_ | intro _)
  all_goals first
    | exact Be _
    | (exfalso; omega)
    | (simp_all [C6]; done)
    | (simp_all [C6]; omega)
    | (have h9 : n.ki.isEmpty = false := by rw [e1, beq_eq_false_iff_ne]; omega
       unfold C6; rw [h9]; rfl)
theorem Box(x y:Nat)(hx:x<18446744073709551616)(hy:y<18446744073709551616):CD 36 [.int .u64 x,.int .u64 y] (.tup [.int .u64 ((x*y / 18446744073709551616:Nat):Int),.int .u64 ((x*y % 18446744073709551616:Nat):Int)]):=by
 refine ACalls.of_shelf ⟨_,Tryz.func36,by kernel_rfl,by kernel_rfl⟩ fun C args w ha=>?_
 obtain ⟨u,v,e,hu,hv⟩:=GW ha
 have e2:args=[u,v].toArray:=by rw[<- e]
 subst e2
 simp only[Rep] at hu hv;subst hu hv
 have:=Tryz.bits_Mul x y hx hy w
 exact this.mono fun e w' ⟨h1,h2⟩=>⟨⟨_,h1,by simp[Rep,RepL]⟩,by rw[h2];exact Go.RowKit.Below.refl _ _⟩
def Bh6(j:Nat):Nat->List D:=fun i=>[.int .i64 (if i<j then 1 else 0)]
def BnT(n:Nat):Con:=fun k ds S=>match k with
 |36=>some (pA ds S (.tup [.int .u64 0,.int .u64 n]) (ds=[.int .u64 1,.int .u64 n]))
 |_=>none
noncomputable def Erp(n:Nat):Senv:={ EC (BnT n) 48 2 [4,5,6,7,8,10,26,37] (fun id=>match id with | 9=>([0,1,2,3,4,5,6,7,8,9],[7]) | _=>([],[])) with
 gr:=[.slot 4]
 ann:=fun b env _S=>match b with
  |0=>match Ab.look env 7 with
   |.vs _k x _len cap _w=>some { slots:=[8],keep:=[0,1,7],α:=Nat,st:=fun j=>([.int .i64 j],⟨[(0,x,.vec 1 n cap (Bh6 j))],[]⟩),inv:=fun j=>1<=j/\j<=n,mu:=fun j=>n-j }
   |_=>none
  |_=>none }
def XU(a:Nat):Int:=IntKind.wrap IntKind.i64 (↑a:Int)
def JE(a:Nat):Nat:=Int.toNat (XU a)
def Qbn(a:Nat):Prop:=SM (JE a)
def QhX(a b:Nat):Prop:=a<JE b
def XV(a b:Nat):List D:=Bh6 a b
def Qbo(a:Nat):Int:=(NI (JE a))
def JP(a:Nat):Nat:=Int.toNat (↑a:Int)
def QO1:D:=D.sl N1 N1 (fun _x=>[ZI Z1]) Mode.full
def QO2(a b:Nat):D:=D.vs N0 a (JE b) (JE b) N1
def Qr7(a b:Nat):Nat:=min (JE a-JP b) (JP b)
theorem Bql(n:Nat)(h1:2<=n)(h2:n<=1000):CD 97 [.sl 1 1 (fun _=>[.int .i64 1]) .full,.int .i64 n] (isl (List.replicate n 1) .any):=by
 refine Bg (A:=sC _ _) (x:=()) (E:=Erp n) (eOk ?_ rfl) Tryz.func97 rfl (by kernel_rfl) rfl (by simp[sC,Erp,EC,E0]) ?_
 ·intro k ds S A hh
  unfold BnT at hh
  split at hh
  ·injection hh with hh;subst hh
   refine Bo fun e=>?_
   rw[e]
   have:=Box 1 n (by omega) (by omega)
   rw[Nat.one_mul,Nat.div_eq_of_lt (by omega),Nat.mod_eq_of_lt (by omega)] at this
   exact CD.at_ this _
  ·cases hh
 refine Bi (T :=
  ∃(x:Unit),[D.int IntKind.u64 Z1,D.int IntKind.u64 (IntKind.wrap IntKind.u64 (↑n:Int))]=[D.int IntKind.u64 Z1,D.int IntKind.u64 (↑n:Int)]/\∀(y:Unit),True->(SM (decide ((9223372036854775807:Int)<(↑n:Int)))/\True)/\ifB (decide ((9223372036854775807:Int)<(↑n:Int))) (∃(y:Unit),True/\False/\True/\True) (Bc (Z0<=XU n/\XU n<=XU n/\(8:Int)*XU n<=281474976710656/\XU n<=9223372036854775807) (∀(x:Nat),True->SM x/\N1<=JE n/\Qbn n/\(∃(x_1:Nat),(N1<=x_1/\x_1<=n)/\(Z1=(↑x_1:Int)/\True)/\(SM x/\(JE n=n/\Qbn n/\∀(i:Nat),QhX i n->(if i<N1 then [ZI Z1] else [ZI Z0])=XV x_1 i)/\True)/\True)/\∀(x_1:Nat),N1<=x_1/\x_1<=n->ifB (decide ((↑x_1:Int)<Qbo n)) (Z0<=(↑x_1:Int)/\(↑x_1:Int)<=Qbo n/\(↑x_1:Int)<Qbo n/\Bc (Z0<=(↑x_1:Int)/\(↑x_1:Int)<=Qbo n) (SM x/\SM x/\JP x_1*N1=JP x_1/\JP x_1*N1+(JE n-JP x_1)=n/\(∀(i:Nat),i<JP x_1->SM true)/\(SM QO1/\SM (ZI (↑n:Int))/\SM (QO2 x n)/\True)/\∃(y:Nat),(N1<=y/\y<=n)/\n-y<n-x_1/\(IntKind.wrap IntKind.i64 ((↑x_1:Int)+(NI (Qr7 n x_1)))=(↑y:Int)/\True)/\(SM x/\(SM n/\Qbn n/\∀(i:Nat),i<n->(if i<JP x_1 then XV x_1 i else if i<JP x_1+Qr7 n x_1 then Bh6 x_1 (i-JP x_1) else XV x_1 i)=XV y i)/\True)/\True)) (SM x/\Qbn n/\Bc (JE n<=n) ((∀(i:Nat),QhX i n->(List.all (XV x_1 i) fun (x:D)=>match x with | D.unk=>false | D.agg cs=>false | D.tup ds=>false | x=>true)=true)/\∀(t:Nat),True/\∃(y:Unit),True/\(JE n=LN (List.replicate n Z1)/\(∀(i:Nat),QhX i n->XV x_1 i=[ZI (GI (List.replicate n Z1) i)])/\True)/\True/\True))))) (by kernel_rfl) ?_
 delta GI LN N0 N1 NI SM Z0 Z1 ZI XU JE Qbn QhX XV Qbo JP QO1 QO2 Qr7
 simp only[eq_self,implies_true,Int.toNat_natCast,Bf,Bd,decide_eq_true_eq,decide_eq_false_iff_not,true_and,and_true,exists_const,forall_const]
 have w64:IntKind.i64.wrap (n:Int)=n:=Ba (by omega) (by omega)
 have wu:IntKind.u64.wrap (n:Int)=n:=by
  simp only[IntKind.wrap,IntKind.signed,IntKind.bits]
  simp
  omega
 simp only[w64,wu,Int.toNat_natCast]
 refine⟨trivial,fun h=>by omega,fun _=>⟨⟨by omega,by omega,by omega,by omega⟩,by omega,⟨1,⟨by omega,by omega⟩,rfl,trivial,fun i _=>?_⟩,fun j ⟨j1,j2⟩=>⟨fun hlt=>⟨by omega,by omega,hlt,⟨by omega,by omega⟩,by omega,by omega,j+min (n-j) j,⟨by omega,by omega⟩,by omega,Ba (by omega) (by omega),fun i hi=>?_⟩,fun hge=>⟨Nat.le_refl _,fun i _=>rfl,by simp,fun i hi=>?_⟩⟩⟩⟩
 ·unfold Bh6
  split<;>rfl
 ·unfold Bh6
  by_cases a1:i<j
  ·rw[if_pos a1,if_pos a1,if_pos (by omega)]
  ·rw[if_neg a1]
   by_cases a2:i<j+min (n-j) j
   ·rw[if_pos a2,if_pos (by omega),if_pos a2]
   ·rw[if_neg a2,if_neg a1,if_neg a2]
 ·unfold Bh6
  rw[if_pos (by omega)]
  simp[List.getD_eq_getElem?_getD,hi]
def BjL(n:Nd):Con:=fun k ds S=>match k with
 |96=>match ds with
  | [_,.sl 1 m f _]=>some (pA ds S (.bool (Bm n (Bj m f))) (wkL ds [.agg n.row2,isl (Bj m f) .any]/\m<=maxLen))
  |_=>none
 |97=>some (pA ds S (isl (List.replicate n.ki.length 1) .any) (2<=n.ki.length/\n.ki.length<=1000/\wkL ds [.sl 1 1 (fun _=>[.int .i64 1]) .full,.int .i64 n.ki.length]))
 |_=>none
theorem Bka{n:Nd}(h:n.ki.length<=maxLen):ConOk Tryz.prog (BjL n):=by
 intro k ds S A hh
 unfold BjL at hh
 split at hh
 ·split at hh
  ·injection hh with hh;subst hh
   exact Bo fun ⟨e,hm⟩=>CD.at_ (CD.wk (BnL n _ h (by rw[BL];exact hm)) e) _
  ·cases hh
 ·injection hh with hh;subst hh
  exact Bo fun ⟨h1,h2,e⟩=>CD.at_ (CD.wk (Bql _ h1 h2) e) _
 ·cases hh
theorem Bd3{n:Nd}(h:n.kd=15):CQ n=(n.cl==2&&Bm n [4,2,IE n]):=by
 unfold CQ
 simp only[h]
 rfl
theorem Bnf{n:Nd}(h:n.kd=15)(hc:(bif n.cl != 2 then true else ((n.ki.length:Int) != 3))=true):false=CQ n:=by
 rw[Bd3 h]
 by_cases h2:n.cl=2
 ·have e:(n.cl != 2)=false:=by simp[h2]
  rw[e] at hc
  have hl:n.ki.length≠3:=by
   have:((n.ki.length:Int) != 3)=true:=hc
   rw[bne_iff_ne] at this
   omega
  have:Bm n [4,2,IE n]=false:=by
   unfold Bm
   rw[beq_eq_false_iff_ne]
   intro e
   have:=congrArg List.length e
   simp at this
   exact hl this
  rw[this];simp
 ·have:(n.cl==2)=false:=by simpa using h2
  rw[this];rfl
theorem BfN{n:Nd}(hc:(bif n.cl != 2 then true else ((n.ki.length:Int) != 3))=false):(n.cl==2)=true:=by
 cases h2:n.cl != 2 with
 |true=>rw[h2] at hc;cases hc
 |false=>simpa using h2
theorem BoZ{n:Nd}(h:n.kd=15)(hc:(bif n.cl != 2 then true else ((n.ki.length:Int) != 3))=false)(hr:(bif (n.ki.getD 0 default).kd==17 then bif bif (n.ki.getD 0 default).op==7 then true else (n.ki.getD 0 default).op==8 then true else (n.ki.getD 0 default).op==9 else false)=true):Bm n [4,2,1]=CQ n:=by
 rw[Bd3 h,BfN hc]
 have:IE n=1:=by
  unfold IE
  refine if_pos ?_
  cases a:(n.ki.getD 0 default).kd==17<;>cases b:(n.ki.getD 0 default).op==7<;>cases c:(n.ki.getD 0 default).op==8<;>cases d:(n.ki.getD 0 default).op==9<;>simp[] at hr<;>simp_all
 rw[this];simp
theorem Bo1{n:Nd}(h:n.kd=15)(hc:(bif n.cl != 2 then true else ((n.ki.length:Int) != 3))=false)(hr:(bif (n.ki.getD 0 default).kd==17 then bif bif (n.ki.getD 0 default).op==7 then true else (n.ki.getD 0 default).op==8 then true else (n.ki.getD 0 default).op==9 else false)=false):Bm n [4,2,2]=CQ n:=by
 rw[Bd3 h,BfN hc]
 have:IE n=2:=by
  unfold IE
  refine if_neg ?_
  cases a:(n.ki.getD 0 default).kd==17<;>cases b:(n.ki.getD 0 default).op==7<;>cases c:(n.ki.getD 0 default).op==8<;>cases d:(n.ki.getD 0 default).op==9<;>simp[] at hr<;>simp_all
 rw[this];simp
theorem Cj{r:List D}{m:Nat}{f:Nat->List D}{md:Ab.Mode}(h:IntsP m f):wkL [.agg r,.sl 1 m f md] [.agg r,isl (Bj m f) .any]:=by
 simp only[wkL]
 refine⟨Bh _,?_,trivial⟩
 simp only[isl,wkD,Bb]
 refine⟨by simp,by simp[BL],fun i hi=>?_,by simp[BG]⟩
 have e:(Bj m f).getD i 0=Bg1 (f i):=by simp[Bj,List.getD_eq_getElem?_getD,hi]
 rw[e,h i hi]
 exact Be _
noncomputable def Ecm(n:Nd):Senv:=EC (BjL n) 146 7 [8,9,37,50,64,76,87,110,117] (fun id=>match id with | 4=>([0,1,2,3,4,5,6,7,8,9,10,11,12,13,14,15,16,17,18,20,21,22,19,23,24,25,26],[19,23,24]) | _=>([],[]))
def VZ(a:Nd):Int:=Nd.kd a
def XW(a:Nd):Int:=Nd.cl a
def QhY(a:Nd):Bool:=XW a==Z1
def QhZ(a:Nd):List Nd:=Nd.ki a
def ZF(a:Nd):Nat:=LN (QhZ a)
def XX(a:Nd):Int:=(NI (ZF a))
def Qh0:Arr:=DA
def ZG:Nd:=Nd.mk Z0 Z0 Z0 [] Z0 Z0 Qh0 [] [] Z0 Z0 Z0
def Q8(a:Nd)(b:Nat):Nd:=List.getD (QhZ a) b ZG
def Qsc(a:Nd):D:=D.sl 15 (ZF a) (fun i=>(Nd.rowE (Q8 a i))) Mode.any
def Qo(a:Nd):D:=D.agg (Nd.row2 a)
def Qse(a:Nat)(b:Nd):Prop:=SM a/\SM (Qo b)
def Qbr:List D:=[ZI Z1]
def Qh1:List (List D):=[Qbr]
def Qsf(a:Nd):List D:=[ZI (XX a)]
def Qsg(a:Nd):List Int:=List.replicate (ZF a) Z1
def Qh2(a:Nd):Nat:=LN (Qsg a)
def Qsh(a:Nd)(b:Nat):List D:=[ZI (GI (Qsg a) b)]
def Qsi(a:Nd):List Int:=Bj (Qh2 a) fun i=>Qsh a i
def J0(a:Nd):Bool:=CQ a
def J1(a:Nd):Prop:=True/\∃(_y:Unit),True/\false=J0 a/\True/\True
def XY:List D:=[ZI 2]
def Qsj:List (List D):=XY::Qh1
def Qsk(a:Nat):List D:=List.getD Qsj a []
def Qsl:List Int:=Bj N2 fun i=>Qsk i
def Qsm(a:Nat):List D:=List.getD (XY::Qbr::Qh1) a []
def Qsn:List Int:=Bj (3:Nat) fun i=>Qsm i
def Qso(a:Nat):List D:=List.getD [[ZI 3],XY] a []
def Qsp:List Int:=Bj N2 fun i=>Qso i
def Qh3(a:Nd):Bool:=bif XW a != (2:Int) then true else XX a != (3:Int)
def Qsq(a:Nd):Nd:=List.getD (QhZ a) N0 ZG
def Qsr(a:Nd):Bool:=Nd.kd (Qsq a)==17
def Qh4(a:Nd):Int:=Nd.op (Qsq a)
def Qss(a:Nd):Bool:=Qh4 a==7
def Qst(a:Nd):Bool:=Qh4 a==8
def Qsu(a:Nd):Bool:=Qh4 a==9
def Qbs(a:Nd):Bool:=bif Qsr a then bif bif Qss a then true else Qst a then true else Qsu a else false
def Qsv(a:Nd):Prop:=true=Qbs a/\True
def Qsw(a:Nat):List D:=List.getD ([ZI 4]::Qsj) a []
def Qsx:List Int:=Bj (3:Nat) fun i=>Qsw i
def Qbt:List (List D):=[XY,XY]
def Qsy(a:Nat):List D:=List.getD ([ZI 4]::Qbt) a []
def Qsz:List Int:=Bj (3:Nat) fun i=>Qsy i
def QsA(a:Nat):List D:=List.getD Qbt a []
def QsB:List Int:=Bj N2 fun i=>QsA i
def QsC(a:Nd):Prop:=True/\∃(_y:Unit),True/\true=J0 a/\True/\True
def QsD(a:Nat):List D:=List.getD (XY::Qbt) a []
def QsE:List Int:=Bj (3:Nat) fun i=>QsD i
def QsF(a:Nat):List D:=List.getD (Qbr::Qbt) a []
def QsG:List Int:=Bj (3:Nat) fun i=>QsF i
theorem Bp0(n:Nd)(h:n.ki.length<=maxLen):CD 75 [.agg n.row2] (.bool (CQ n)):=by
 refine Bg (A:=sC _ _) (x:=()) (E:=Ecm n) (eOk (Bka h) rfl) Tryz.func75 rfl (by kernel_rfl) rfl (by simp[sC,Ecm,EC,E0]) ?_
 refine Bi (T :=
  ∀(x:Nat),True->SM x/\ifB (VZ n==3) (SM x/\ifB (QhY n) (SM x/\ifB (decide ((2:Int)<=XX n)) (SM x/\ifB (decide (XX n<=1000)) (SM x/\SM x/\(SM x/\SM (Qsc n))/\Qse x n/\∃(x_1:Unit),(N2<=ZF n/\ZF n<=1000/\wkL (D.sl N1 N1 (fun i=>List.getD Qh1 i []) Mode.full::Qsf n) (D.sl N1 N1 (fun x=>Qbr) Mode.full::Qsf n))/\∀(y:Unit),True->Qse x n/\∃(x:Unit),(wkL [Qo n,D.sl N1 (Qh2 n) (fun i=>Qsh n i) Mode.any] [Qo n,SI (Qsi n)]/\Qh2 n<=9223372036854775807)/\∀(y:Unit),True->RT (Bm n (Qsi n)=J0 n)) (J1 n)) (J1 n)) (J1 n)) (ifB (VZ n==4) (SM x/\ifB (QhY n) (SM x/\∃(x:Unit),(wkL [Qo n,D.sl N1 N2 (fun i=>Qsk i) Mode.full] [Qo n,SI Qsl]/\N2<=9223372036854775807)/\∀(y:Unit),True->RT (Bm n Qsl=J0 n)) (J1 n)) (ifB (VZ n==5) (SM x/\ifB (QhY n) (SM x/\∃(x:Unit),(wkL [Qo n,D.sl N1 (3:Nat) (fun i=>Qsm i) Mode.full] [Qo n,SI Qsn]/\(3:Nat)<=9223372036854775807)/\∀(y:Unit),True->RT (Bm n Qsn=J0 n)) (J1 n)) (ifB (VZ n==14) (SM x/\ifB (XW n==2) (SM x/\∃(x:Unit),(wkL [Qo n,D.sl N1 N2 (fun i=>Qso i) Mode.full] [Qo n,SI Qsp]/\N2<=9223372036854775807)/\∀(y:Unit),True->RT (Bm n Qsp=J0 n)) (J1 n)) (ifB (VZ n==15) ((SM x/\ifB (XW n != (2:Int)) (true=Qh3 n/\True) (SM x/\(XX n != (3:Int))=Qh3 n/\True))/\ifB (Qh3 n) (J1 n) (SM x/\Bc (Z0<=Z0/\Z0<XX n) (∀(x_1:Nat),x≠x_1/\True->SM x_1/\(SM x_1/\ifB (Qsr n) (SM x_1/\ifB (Qss n) (Qsv n) (SM x_1/\ifB (Qst n) (Qsv n) (SM x_1/\Qsu n=Qbs n/\True))) (false=Qbs n/\True))/\ifB (Qbs n) (SM x/\∃(x:Unit),(wkL [Qo n,D.sl N1 (3:Nat) (fun i=>Qsw i) Mode.full] [Qo n,SI Qsx]/\(3:Nat)<=9223372036854775807)/\∀(y:Unit),True->RT (Bm n Qsx=J0 n)) (SM x/\∃(x:Unit),(wkL [Qo n,D.sl N1 (3:Nat) (fun i=>Qsy i) Mode.full] [Qo n,SI Qsz]/\(3:Nat)<=9223372036854775807)/\∀(y:Unit),True->RT (Bm n Qsz=J0 n))))) (ifB (VZ n==16) (SM x/\ifB (XW n==2) (SM x/\∃(x_1:Unit),(wkL [Qo n,D.sl N1 N2 (fun i=>QsA i) Mode.full] [Qo n,SI QsB]/\N2<=9223372036854775807)/\∀(y:Unit),True->ifB (Bm n QsB) (QsC n) (SM x/\∃(x_2:Unit),(wkL [Qo n,D.sl N1 (3:Nat) (fun i=>QsD i) Mode.full] [Qo n,SI QsE]/\(3:Nat)<=9223372036854775807)/\∀(y:Unit),True->ifB (Bm n QsE) (QsC n) (SM x/\∃(x:Unit),(wkL [Qo n,D.sl N1 (3:Nat) (fun i=>QsF i) Mode.full] [Qo n,SI QsG]/\(3:Nat)<=9223372036854775807)/\∀(y:Unit),True->RT (Bm n QsG=J0 n)))) (J1 n)) (J1 n))))))) (by kernel_rfl) ?_
 delta DA GI LN N0 N1 N2 N4 NI SI SM Z0 Z1 ZI VZ XW QhY QhZ ZF XX Qh0 ZG Q8 Qsc Qo Qse Qbr Qh1 Qsf Qsg Qh2 Qsh Qsi J0 J1 XY Qsj Qsk Qsl Qsm Qsn Qso Qsp Qh3 Qsq Qsr Qh4 Qss Qst Qsu Qbs Qsv Qsw Qsx Qbt Qsy Qsz QsA QsB QsC QsD QsE QsF QsG RT
 try simp only[<- dm]
 try simp only[<- dn]
 simp only[ne_eq,Bf,Bd,decide_eq_true_eq,decide_eq_false_iff_not,true_and,and_true,beq_iff_eq,bne_iff_ne,bne_eq_false_iff_eq,beq_eq_false_iff_ne,exists_const,forall_const]
 have i2:∀a b:Int,Bj 2 (fun i=>[[D.int IntKind.i64 a],[D.int IntKind.i64 b]].getD i [])=[a,b]:=fun _ _=>rfl
 have i3:∀a b c:Int,Bj 3 (fun i=>[[D.int IntKind.i64 a],[D.int IntKind.i64 b],[D.int IntKind.i64 c]].getD i [])=[a,b,c]:=fun _ _ _=>rfl
 have p2:∀a b:Int,IntsP 2 (fun i=>[[D.int IntKind.i64 a],[D.int IntKind.i64 b]].getD i []):=fun _ _ i hi=>by
  match i,hi with
  |0,_=>rfl
  |1,_=>rfl
 have p3:∀a b c:Int,IntsP 3 (fun i=>[[D.int IntKind.i64 a],[D.int IntKind.i64 b],[D.int IntKind.i64 c]].getD i []):=fun _ _ _ i hi=>by
  match i,hi with
  |0,_=>rfl
  |1,_=>rfl
  |2,_=>rfl
 have w1:wkL [D.sl 1 1 (fun i=>[[D.int IntKind.i64 1]].getD i []) Mode.full,D.int IntKind.i64 n.ki.length] [D.sl 1 1 (fun _=>[D.int IntKind.i64 1]) Mode.full,D.int IntKind.i64 n.ki.length]:=by
  simp only[wkL,wkD,Bb]
  refine⟨⟨by simp,by simp,fun i hi=>?_,by simp[BG]⟩,by simp[Bn,Bb,kEq],trivial⟩
  match i,hi with
  |0,_=>exact Be _
 intro x
 repeat' (first | exact Be _ | exact w1 | exact Cj (p2 _ _) | exact Cj (p3 _ _ _) | exact Cj (BQ _) | refine And.intro ?_ ?_ | intro _)
 all_goals try simp only[B0,i2,i3] at *
 clear w1 i2 i3 p2 p3
 all_goals first
  |omega
  |(simp only[List.length_replicate];omega)
  |(simp_all[CQ];done)
  |exact Bnf (by assumption) (by assumption)
  |exact BoZ (by assumption) (by assumption) (by assumption)
  |exact Bo1 (by assumption) (by assumption) (by assumption)
  |(simp_all[CQ];omega)
theorem Bkd{n:Nd}(h:Bz n=true):1<=n.cl/\n.cl<=4:=by
 rw[CH,Bool.and_eq_true] at h
 have h:=h.2
 by_cases hk:n.kd=10
 ·rw[if_pos hk,Bool.and_eq_true] at h
  have h:=h.1
  unfold Ts at h
  rw[Bool.and_eq_true] at h
  have h:=h.2
  by_cases c2:n.cl=2
  ·omega
  ·rw[if_neg c2] at h
   by_cases c3:n.cl=3
   ·omega
   ·rw[if_neg c3] at h
    by_cases c4:n.cl=4
    ·omega
    ·rw[if_neg c4] at h;cases h
 ·rw[if_neg hk,Bool.or_eq_true,Bool.and_eq_true] at h
  rcases h with h | ⟨h,_⟩
  ·unfold C6 at h
   rw[Bool.and_eq_true] at h
   have h:=h.2
   repeat' (split at h)
   all_goals (try simp only[Bool.and_eq_true,beq_iff_eq,decide_eq_true_eq] at h)
   all_goals first
    |(have:=h.1.1;omega)
    |(have:=h.1;omega)
    |omega
    |cases h
  ·unfold CQ at h
   repeat' (split at h)
   all_goals (try simp only[Bool.and_eq_true,beq_iff_eq,decide_eq_true_eq] at h)
   all_goals first
    |(have:=h.1.1.1;omega)
    |(have:=h.1;omega)
    |omega
    |cases h
def B2(l:List Sm):List (List UInt8):=(l.filter fun s=>s.kd==2).map Sm.nm
theorem Uk{l:List Sm}{i:Nat}(h:i<l.length):B2 (l.take (i+1))=if (l.getD i default).kd=2 then B2 (l.take i)++[(l.getD i default).nm] else B2 (l.take i):=by
 rw[B6 h]
 unfold B2
 rw[List.filter_append,List.map_append]
 generalize l.getD i default=x
 by_cases e:x.kd=2
 ·rw[if_pos e];simp[e]
 ·rw[if_neg e]
  simp[e]
theorem Ow{g:Bool}{l:List Sm}{i:Nat}(h:i<l.length):Cc g (B2 (l.take i)) (l.drop i)=(Th g (B2 (l.take i)) (l.getD i default)&&Cc g (B2 (l.take (i+1))) (l.drop (i+1))):=by
 rw[Gi h,Cc,Uk h]
theorem Rk{g:Bool}{names:List (List UInt8)}{l:List Sm}{i:Nat}(h:l.length<=i):Cc g names (l.drop i)=true:=by
 rw[List.drop_eq_nil_of_le h,Cc]
def Bj7(names : List (List UInt8))(s : Sm) : Bool := decide (0 <= s.at_) && Bz s.nd &&
    (if s.kd = 1 then s.nd.cl == 1 && s.nm.isEmpty && s.sl == 0 && Cx s.te
     else if s.kd = 2 then !(names.contains s.nm) && Cd s.nm && decide (0 <= s.sl) && Cx s.te && !(decide (3 <= s.nd.cl) && s.nd.kd != 10)
     else if s.kd = 3 then s.nd.cl == 1 && Bz s.te && s.te.cl == 1 && s.nm.isEmpty && s.sl == 0
     else false)
theorem Bgh(names:List (List UInt8))(s:Sm):Bj7 names s=Th true names s:=by
 rw[Gy]
 unfold Bj7
 cases hv:Bz s.nd with
 |false=>simp
 |true =>
  have hc:=Bkd hv
  have hb:(s.nd.cl==1||s.nd.cl==2||s.nd.kd==10)=!(decide (3<=s.nd.cl)&&s.nd.kd != 10):=by
   rw[Bool.eq_iff_iff]
   simp only[Bool.or_eq_true,beq_iff_eq,Bool.not_eq_true',Bool.and_eq_false_iff,decide_eq_false_iff_not,bne_eq_false_iff_eq]
   omega
  rw[hb]
  by_cases h1:s.kd=1
  ·simp only[h1,if_true]
  ·by_cases h2:s.kd=2
   ·simp[h2]
    congr 1
    ac_rfl
   ·by_cases h3:s.kd=3
    ·simp[h3]
     congr 1
     ac_rfl
    ·simp only[h1,h2,h3,if_false]
theorem OY:∀(l:List Sm) (names:List (List UInt8)),Cc false names l=(Cc true names l&&l.all fun s=>s.kd != 3)
 | [],names=>by simp only[Cc,List.all_nil,Bool.and_self]
 |s::l,names=>by
  simp only[Cc,List.all_cons,OY l]
  have e:Th false names s=(Th true names s&&(s.kd != 3)):=by
   rw[Gy,Gy]
   by_cases h3:s.kd=3
   ·simp[h3]
   ·have:(s.kd != 3)=true:=by simpa using h3
    rw[this]
    simp only[h3,if_false,Bool.and_true]
  rw[e]
  ac_rfl
theorem BbJ(l:List Sm):BP false l=(BP true l&&l.all fun s=>s.kd != 3):=by
 unfold BP
 rw[OY,Bool.and_assoc]
def UD(l:List Sm):Bool:=(l.all fun s=>s.kd != 3)&&(!Eq l 12&&(!Eq l 13&&(!Eq l 6&&(!Eq l 7&&!Eq l 11))))
theorem BeV(l:List Sm):(BP true l&&UD l)=(BP false l&&!RK l):=by
 rw[BbJ]
 unfold UD
 cases hb:BP true l with
 |false=>rfl
 |true =>
  rw[Gj hb (by decide),Gj hb (by decide),Gj hb (by decide),Gj hb (by decide),Gj hb (by decide)]
  unfold RK
  simp only[List.any_cons,List.any_nil,Bool.or_false,Bool.true_and,Bool.not_or]
  cases (l.all fun s=>s.kd != 3)<;>simp
  ac_rfl
theorem BmG(n:Nd)(k:Int):CD 72 [.agg n.row2,.int .i64 k] (.bool (IP n k)):=by
 rw[<- Bdk]
 exact Bn7 n.kd n.at_ n.cl n.tx n.pr n.op n.va.k _ _ _ _ _ _ _ _ _ _ n.de n.sl n.ss k
theorem BiU(n:Nd):CD 53 [.agg n.row2] (.bool (Cx n)):=by
 rw[<- Bh3]
 exact Bqp n.kd n.at_ n.cl n.tx n.pr n.op n.va.k _ _ _ _ _ _ _ _ _ _ n.de n.sl n.ss
def RNode(n:Nd):Prop:=CD 52 [.agg n.row2] (.bool (Bz n))
def RBody(l:List Sm)(g:Bool):Prop:=CD 32 [gsl 34 Sm.row1 l,.bool g] (.bool (BP g l))
def Bji(n:Nd):Con:=fun k ds S=>match k with
 |57=>match ds with
  | [_,.int .i64 q]=>some (pA ds S (.bool (ER n.bo q)) (wkL ds [gsl 34 Sm.row1 n.bo,.int .i64 q]))
  |_=>none
 |32=>some (pA ds S (.bool (BP true n.bo)) (wkL ds [gsl 34 Sm.row1 n.bo,.bool true]))
 |_=>none
theorem GC{n:Nd}(h:n.sm):∀s∈n.bo,s.sm:=by
 cases n with
 |mk kd at_ cl tx pr op va ki bo de sl ss =>
  simp only[Nd.sm] at h
  exact (MJ _).1 h.2.2.2
theorem BkV{n:Nd}(hn:n.sm)(h:RBody n.bo true):ConOk Tryz.prog (Bji n):=by
 intro k ds S A hh
 unfold Bji at hh
 split at hh
 ·split at hh
  ·injection hh with hh;subst hh
   exact Bo fun e=>CD.at_ (CD.wk (Boq n.bo _ (Ci (Cb hn).2.2) (GC hn)) e) _
  ·cases hh
 ·injection hh with hh;subst hh
  exact Bo fun e=>CD.at_ (CD.wk h e) _
 ·cases hh
noncomputable def Ela(n:Nd):Senv:={ EC (Bji n) 55 5 [26,34,35,40,41,47,48,51] (fun id=>match id with | 3=>([0,1,3,4,2,5,6,7],[2,5]) | _=>([],[])) with mg:=fun _=>2 }
def V0(a:Nd):List Sm:=Nd.bo a
def QsH(a:Nd):Bool:=BP true (V0 a)
def QsI(a:Nd):Bool:=Ts a&&QsH a
def Vq(a:Nd):Prop:=True/\∃(_y:Unit),True/\false=QsI a/\True/\True
def Qh5(a:Nd):Int:=(LI (V0 a))
def Qh6(a:Nd):Int:=IntKind.wrap IntKind.i64 (Qh5 a-Z1)
def Qh7:Arr:=DA
def Qbu:Nd:=Nd.mk Z0 Z0 Z0 [] Z0 Z0 Qh7 [] [] Z0 Z0 Z0
def Qbv:Sm:=Sm.mk Z0 Z0 [] Z0 Qbu Qbu
def XZ(a:Nd)(b:Nat):Sm:=List.getD (V0 a) b Qbv
def Qby(a:Nd):D:=D.sl 34 (LN (V0 a)) (fun i=>(Sm.row1 (XZ a i))) Mode.any
def QsP(a:Nd):List D:=[Qby a,ZI 12]
def QsQ(a:Nd):List D:=[Qby a,ZI 13]
def Qh8(a:Nd):Int:=Nd.cl a
def QsR(a:Nd):Bool:=ER (V0 a) (12:Int)
def QsS(a:Nd):Bool:=ER (V0 a) (13:Int)
def QsT(a:Nd):List D:=[Qby a,D.bool true]
def QsU(a:Nat)(b:Nd):Prop:=SM a/\∃(_x:Unit),wkL (QsT b) (QsT b)/\∀(_y:Unit),True->True/\∃(_y:Unit),True/\QsH b=QsI b/\True/\True
def QsV(a:Nd)(b:Nat):Prop:=ifB (QsS a) (Vq a) (QsU b a)
theorem Bmz(n:Nd)(hn:n.sm)(h:RBody n.bo true):CD 73 [.agg n.row2] (.bool (Ts n && BP true n.bo)) := by
  refine Bg (A := sC _ _) (x := ()) (E := Ela n) (eOk (BkV hn h) rfl) Tryz.func73 rfl (by kernel_rfl) rfl (by simp [sC,Ela,EC,E0]) ?_
  refine Bi (T :=
    ∀ (x:Nat),True->SM x/\ifB (decide (Z0 < (LI (Nd.ki n)))) (Vq n) (SM x/\ifB (Qh5 n == Z0) (Vq n) (SM x/\SM x/\Bc (Z0 <= Qh6 n/\Qh6 n < Qh5 n) (ifB (Sm.kd (List.getD (V0 n) (Int.toNat (Qh6 n)) Qbv) != Z1) (Vq n) (SM x/\SM x/\∃ (x_1:Unit),wkL (QsP n) (QsP n)/\∀ (y:Unit),True->(SM x/\SM (Qby n))/\∃ (x_2:Unit),wkL (QsQ n) (QsQ n)/\∀ (y:Unit),True->SM x/\ifB (Qh8 n == (2:Int)) (ifB (QsR n) (Vq n) (QsV n x)) (ifB (Qh8 n == (3:Int)) (ifB (!QsR n) (Vq n) (QsV n x)) (ifB (Qh8 n == (4:Int)) (ifB (!QsS n) (Vq n) (QsU x n)) (Vq n)))))))) (by kernel_rfl) ?_
  delta DA GI LI LN N1 N4 SI SM Z0 Z1 ZI V0 QsH QsI Qby QsP QsQ Qh8 QsR QsS Vq QsT QsU QsV Qh5 Qh6 Qh7 Qbu Qbv XZ
  try simp only [<- dm]
  try simp only [<- dn]
  simp only [ne_eq,Bf,Bd,decide_eq_true_eq,decide_eq_false_iff_not,true_and,and_true,beq_iff_eq,bne_iff_ne,bne_eq_false_iff_eq,beq_eq_false_iff_ne,Bool.not_eq_true',Bool.not_eq_false',exists_const,forall_const]
  have e1:n.ki.isEmpty = (n.ki.length == 0) := by cases n.ki <;> rfl
  have e2:n.bo.isEmpty = (n.bo.length == 0) := by cases n.bo <;> rfl
  have hlen := (Cb hn).2.2
  unfold BC at hlen
  by_cases hb:n.bo.length = 0
  · skip
    repeat' (first | exact Be _ | refine And.intro ?_ ?_ | intro _)
    all_goals first
      | (exfalso; omega)
      | (unfold Ts; rw [e1,e2,hb]; simp; done)
  · have w:IntKind.i64.wrap ((n.bo.length:Int) - 1) = ((n.bo.length - 1:Nat):Int) := by rw [Ba (by omega) (by omega)]; omega
    simp only [w,Int.toNat_natCast]
    have e3:(n.bo.length == 0) = false := by simpa using hb
    repeat' (first | exact Be _ | refine And.intro ?_ ?_ | intro _)
    all_goals first
      | omega
      | (unfold Ts; rw [e1,e2,e3]; simp_all; done)
      | (have h9 : n.ki.isEmpty = false := by rw [e1, beq_eq_false_iff_ne]; omega
         unfold Ts; rw [h9]; simp; done)
def Bk8(n:Nd):Con:=fun k ds S=>match k with
 |72=>match ds with
  | [_,.int .i64 q]=>some (pA ds S (.bool (IP n q)) (isN2 n ds [.int .i64 q]))
  |_=>none
 |73=>some (pA ds S (.bool (Ts n&&BP true n.bo)) (isN2 n ds []))
 |74=>some (pA ds S (.bool (C6 n)) (isN2 n ds []))
 |75=>some (pA ds S (.bool (CQ n)) (isN2 n ds []))
 |48=>some (pA ds S (.bool (n.ki.any fun b=>!Bz b)) (wkL ds [gsl 15 Nd.row1 n.ki,.fn (.func 76) [] []]))
 |_=>none
def Boe(b:Nd):Con:=fun k ds S=>match k with
 |52=>some (pA ds S (.bool (Bz b)) (isN b ds []))
 |_=>none
noncomputable def En1(b:Nd):Senv:=EC (Boe b) 6 3 [] (fun _=>([],[]))
theorem BqJ(b:Nd)(h:RNode b):CS 76 [.agg b.row1] ⟨[],[]⟩ (.bool (!Bz b)):=by
 refine CS.of (Bg (A:=sS _ _ _) (x:=()) (E:=En1 b) (eOk ?_ rfl) Tryz.func76 rfl (by kernel_rfl) rfl (by simp[sS,En1,EC,E0]) ?_)
 ·intro k ds S A hh
  try unfold Boe at hh
  try dsimp only at hh
  split at hh
  ·injection hh with hh;subst hh
   exact Bo fun e=>CD.at_ (CD.isN h e) _
  ·cases hh
 refine Bi (T :=
  ∀(x:Nat),True->SM x/\∃(x:Unit),isN b [D.agg (Nd.rowE b)] []/\∀(y:Unit),True->RT ((!Bz b)=!Bz b)) (by kernel_rfl) ?_
 delta DA GI LN N1 N4 SI SM Z0 ZI RT
 try simp only[<- dm]
 try simp only[<- dn]
 simp only[implies_true,true_and,and_true,exists_const,forall_const]
 first
  |exact Bl _ _
  |exact fun _=>Bl _ _
theorem BjS{n:Nd}(hn:n.sm)(ho:n.va.ok)(h1:RBody n.bo true)(h2:∀b∈n.ki,RNode b):ConOk Tryz.prog (Bk8 n):=by
 intro k ds S A hh
 have hl:=Ci (Cb hn).2.1
 unfold Bk8 at hh
 split at hh
 ·split at hh
  ·injection hh with hh;subst hh
   exact Bo fun e=>CD.at_ (CD.wk (BmG n _) e) _
  ·cases hh
 ·injection hh with hh;subst hh
  exact Bo fun e=>CD.at_ (CD.wk (Bmz n hn h1) e) _
 ·injection hh with hh;subst hh
  exact Bo fun e=>CD.at_ (CD.wk (Bqz n ho) e) _
 ·injection hh with hh;subst hh
  exact Bo fun e=>CD.at_ (CD.wk (Bp0 n hl) e) _
 ·injection hh with hh;subst hh
  exact Bo fun e=>CD.at_ (CD.wk (CS.cd (Nxc_ok n.ki (fun b=>!Bz b) (fun b hb=>BqJ b (h2 b hb)) hl)) e) _
 ·cases hh
noncomputable def End(n:Nd):Senv:=EC (Bk8 n) 25 3 [7,10] (fun _=>([],[]))
def ZH(a:Nd):Int:=Nd.kd a
def QsZ:Arr:=DA
def Qia(a:Nd):List Nd:=Nd.ki a
def Qib:Nd:=Nd.mk Z0 Z0 Z0 [] Z0 Z0 QsZ [] [] Z0 Z0 Z0
def Qs0(a:Nd):D:=D.sl 15 (LN (Qia a)) (fun i=>Nd.row1 (List.getD (Qia a) i Qib)) Mode.any
def Qic(a:Nd):List Sm:=Nd.bo a
def Qs1(a:Nd):D:=D.agg (Nd.row2 a)
def ZJ(a:Nd):Bool:=Bz a
def Qs2(a:Nd):Prop:=True/\∃(_y:Unit),True/\false=ZJ a/\True/\True
def Qid(a:Nd):Prop:=isN2 a [Qs1 a] []
def Qs3(a:Nd):List D:=[Qs0 a,D.fn (Fn.func (76:Nat)) [] []]
theorem Bno(n:Nd)(hn:n.sm)(ho:n.va.ok)(h1:RBody n.bo true)(h2:∀b∈n.ki,RNode b):RNode n:=by
 refine Bg (A:=sC _ _) (x:=()) (E:=End n) (eOk (BjS hn ho h1 h2) rfl) Tryz.func52 rfl (by kernel_rfl) rfl (by simp[sC,End,EC,E0]) ?_
 refine Bi (T :=
  ∀(x:Nat),True->SM x/\SM x/\∃(x_1:Unit),isN2 n [Qs1 n,ZI (ZH n)] [ZI (ZH n)]/\∀(y:Unit),True->ifB (!IP n (ZH n)) (Qs2 n) (SM x/\ifB (ZH n==10) (SM x/\∃(x:Unit),Qid n/\∀(y:Unit),True->RT ((Ts n&&BP true (Qic n))=ZJ n)) (SM x/\∃(x_2:Unit),Qid n/\∀(y:Unit),True->ifB (C6 n) (RT (true=ZJ n)) (SM x/\∃(x_3:Unit),Qid n/\∀(y:Unit),True->ifB (CQ n) (SM x/\∃(x:Unit),wkL (Qs3 n) (Qs3 n)/\∀(y:Unit),True->RT ((!List.any (Qia n) fun (b:Nd)=>!ZJ b)=ZJ n)) (Qs2 n))))) (by kernel_rfl) ?_
 delta DA GI LN N1 N4 SI SM Z0 ZI ZH QsZ Qia Qib Qs0 Qic Qs1 ZJ Qs2 Qid Qs3 RT
 try simp only[<- dm]
 try simp only[<- dn]
 simp only[ne_eq,Bf,true_and,and_true,beq_iff_eq,beq_eq_false_iff_ne,Bool.not_eq_true',Bool.not_eq_false',exists_const,forall_const]
 have e:n.ki.all Bz=!(n.ki.any fun b=>!Bz b):=List.all_eq_not_any_not
 rw[CH,e]
 repeat' (first | exact CJ n _ | exact Be _ | refine And.intro ?_ ?_ | intro _)
 all_goals first
  |(simp_all;done)
def Bei(prs:List (List UInt8×Int))(names:List (List UInt8)):Prop:=∀s,(GH prs s).getD 0=(names.count s:Int)
theorem Rh(nm:List UInt8)(v:Int):∀(l:List (List UInt8×Int)) (s:List UInt8),GH (UG l nm v) s=if nm=s then some v else GH l s
 | [],s=>by
  simp only[UG,GH]
 |(t,n)::r,s=>by
  simp only[UG]
  by_cases e:t=nm
  ·rw[if_pos e]
   simp only[GH,e]
   by_cases e2:nm=s
   ·rw[if_pos e2,if_pos e2]
   ·rw[if_neg e2,if_neg e2,if_neg e2]
  ·rw[if_neg e]
   simp only[GH,Rh nm v r s]
   by_cases e2:t=s
   ·rw[if_pos e2,if_pos e2,if_neg (fun e3=>e (e2.trans e3.symm))]
   ·rw[if_neg e2,if_neg e2]
theorem Blu{prs:List (List UInt8×Int)}{names:List (List UInt8)}(h:Bei prs names)(nm:List UInt8):Bei (UG prs nm ((GH prs nm).getD 0+1)) (names++[nm]):=by
 intro s
 rw[Rh,List.count_append,h nm]
 by_cases e:nm=s
 ·subst e
  rw[if_pos rfl]
  simp
 ·rw[if_neg e,h s]
  simp[e]
theorem Bi3{prs:List (List UInt8×Int)}{names:List (List UInt8)}(h:Bei prs names)(nm:List UInt8):((GH prs nm).getD 0+1=1)↔names.contains nm=false:=by
 rw[h nm]
 constructor
 ·intro e
  have:names.count nm=0:=by omega
  simpa using List.count_eq_zero.1 this
 ·intro e
  have:names.count nm=0:=List.count_eq_zero.2 (by simpa using e)
  omega
def Bi9:Con:=fun k ds S=>match k with
 |52=>some (pE (β:=Nd) ds S (fun b=>.bool (Bz b)) (fun b=>isN b ds []/\RNode b))
 |53=>some (pE (β:=Nd) ds S (fun b=>.bool (Cx b)) (fun b=>isN b ds []))
 |54=>match ds with
  | [.str s]=>some (pA ds S (.bool (Cd s)) True)
  |_=>none
 |_=>none
theorem Bjg:ConOk Tryz.prog Bi9:=by
 intro k ds S A hh
 unfold Bi9 at hh
 split at hh
 ·injection hh with hh;subst hh
  exact Co fun b ⟨e,h⟩=>CD.at_ (CD.isN h e) _
 ·injection hh with hh;subst hh
  exact Co fun b e=>CD.at_ (CD.isN (BiU b) e) _
 ·split at hh
  ·injection hh with hh;subst hh
   exact Bo fun _=>CD.at_ (BnQ _) _
  ·cases hh
 ·cases hh
structure BoI (l:List Sm) (g:Bool) (i:Nat) (r:Bool) (prs:List (List UInt8×Int)):Prop where
 le:i<=l.length
 cnt:r=true->Bei prs (B2 (l.take i))
 tot:BP g l=(r&&Cc g (B2 (l.take i)) (l.drop i))
noncomputable def Ebo(l:List Sm)(g:Bool):Senv:={ EC Bi9 128 2 [4,5,6,8,9,14,15,16,17,32,37,38,57,98] (fun _=>([],[])) with
 mg:=fun _=>2
 ann:=fun b env _S=>match b with
  |0=>match Ab.look env 6 with
   |.map _k x=>some { slots:=[16,5],keep:=[0,1,6,14,15],α:=Nat×Bool×List (List UInt8×Int),st:=fun y=>([.int .i64 y.1,.bool y.2.1],⟨[(0,x,.amap .i64 y.2.2)],[]⟩),inv:=fun y=>BoI l g y.1 y.2.1 y.2.2,mu:=fun y=>l.length-y.1 }
   |_=>none
  |_=>none }
def V1(a:List Sm)(b:Bool)(c:Nat)(d:Bool)(e:List (List UInt8×Int)):Prop:=BoI a b c d e
def ZK:Arr:=DA
def X0:Nd:=Nd.mk Z0 Z0 Z0 [] Z0 Z0 ZK [] [] Z0 Z0 Z0
def X1:Sm:=Sm.mk Z0 Z0 [] Z0 X0 X0
def X2(a:List Sm)(b:Nat):Sm:=List.getD a (Int.toNat (↑b:Int)) X1
def Kb(a:List Sm)(b:Nat):Nd:=Sm.nd (X2 a b)
def Qs4(a:List Sm)(b:Nat):Int:=Nd.kd (Kb a b)
def Qie(a:List Sm)(b:Nat):Int:=Nd.cl (Kb a b)
def Qif(a:Nd):Bool:=Bz a
def Qig(a:List Sm)(b:Nat):Int:=Sm.kd (X2 a b)
def Qih(a:List Sm)(b:Nat):Bool:=Qie a b==Z1
def ZL(a:List Sm)(b:Nat):List UInt8:=Sm.nm (X2 a b)
def Qs8(a:List Sm)(b:Nat):Bool:=ZL a b==[]
def Qs9(a:List Sm)(b:Nat):Int:=Sm.sl (X2 a b)
def Qta(a:List Sm)(b:Nat):Bool:=Qs9 a b==Z0
def Kc(a:List Sm)(b:Nat):Nd:=Sm.te (X2 a b)
def Qtb(a:List Sm)(b:Nat):Int:=Nd.cl (Kc a b)
def Qii(a:Nd)(b:List Sm)(c:Nat):Prop:=isN a [D.agg (Nd.rowE (Kc b c))] []
def X3(a:List Sm)(b:Nat):Sm:=List.getD a b X1
def QPn(a:List Sm):D:=D.sl 34 (LN a) (fun i=>(Sm.row1 (X3 a i))) Mode.any
def Qtl(a:List Sm):Prop:=SM (QPn a)
def ZM(a:List Sm)(b:Bool)(c:Nat):Prop:=Qtl a/\SM (D.bool b)/\SM (D.map N0 c)/\Qtl a/\SM (ZI (LI a))/\True
def QbF(a b:Nat):Prop:=IntKind.wrap IntKind.i64 ((↑a:Int)+Z1)=(↑b:Int)
def Qtm(a b:Nat)(c:Nd)(d:Bool):Prop:=QbF a b/\Cx c=d/\True
def J2(a:List Sm)(b:Bool)(c d:Nat)(e:List (List UInt8×Int)):Prop:=ZM a b c/\∃(y:Nat×Bool×List (List UInt8×Int)),V1 a b y.1 y.2.1 y.2.2/\LN a-y.1<LN a-d/\(QbF d y.1/\false=y.2.1/\True)/\(SM c/\e=y.2.2/\True)/\True
def Qtn(a:List (List UInt8×Int))(b:List Sm)(c:Nat):List (List UInt8×Int):=UG a (ZL b c) (IntKind.wrap IntKind.i64 (Option.getD (GH a (ZL b c)) Z0+Z1))
def Qto(a:Nat)(b:List (List UInt8×Int))(c:List Sm)(d:Nat)(e:List (List UInt8×Int)):Prop:=(SM a/\Qtn b c d=e/\True)/\True
def QbG(a:List Sm)(b:Bool)(c d:Nat)(e:List (List UInt8×Int)):Prop:=ZM a b c/\∃(y:Nat×Bool×List (List UInt8×Int)),V1 a b y.1 y.2.1 y.2.2/\LN a-y.1<LN a-d/\(QbF d y.1/\false=y.2.1/\True)/\Qto c e a d y.2.2
def Qij(a:Nat)(b:List Sm)(c:Nat)(d:Bool)(e:Nat)(f:List (List UInt8×Int)):Prop:=SM a/\ifB (decide (Z0<=Qs9 b c)) (SM a/\∃(x:Nd),Qii x b c/\∀(_y:Unit),True->ZM b d e/\∃(y:Nat×Bool×List (List UInt8×Int)),V1 b d y.1 y.2.1 y.2.2/\LN b-y.1<LN b-c/\Qtm c y.1 x y.2.1/\Qto e f b c y.2.2) (QbG b d e c f)
def Qtp(a:Bool)(b:List Sm):Prop:=True/\∃(_y:Unit),True/\false=BP a b/\True/\True
theorem BfT(l:List Sm)(g:Bool)(hl:l.length<=BC)(h:∀s∈l,RNode s.nd/\RNode s.te):RBody l g:=by
 refine Bg (A:=sC _ _) (x:=()) (E:=Ebo l g) (eOk Bjg rfl) Tryz.func32 rfl (by kernel_rfl) rfl (by simp[sC,Ebo,EC,E0]) ?_
 refine Bi (T :=
  ∀(y:Nat),True->(∃(x:Nat×Bool×List (List UInt8×Int)),V1 l g x.1 x.2.1 x.2.2/\(Z0=(NI x.1)/\decide ((LI l)<=1000)=x.2.1/\True)/\(SM y/\Cw (List (List UInt8×Int)) [] x.2.2/\True)/\True)/\∀(x:Nat×Bool×List (List UInt8×Int)),V1 l g x.1 x.2.1 x.2.2->ifB (decide ((NI x.1)<(LI l))) (Bc (Z0<=(NI x.1)/\(NI x.1)<(LI l)) (∀(x_1:Nat),y≠x_1/\True->SM x_1/\ifB x.2.1 (SM x_1/\ifB (decide (Z0<=Sm.at_ (X2 l x.1))) (SM x_1/\∃(x_2:Nd),(isN x_2 [D.agg (Nd.rowE (Sm.nd (List.getD l (Int.toNat (↑ x.1 : Int)) (Sm.mk 0 0 [] 0 (Nd.mk 0 0 0 [] 0 0 (Arr.mk 0 [] [] []) [] [] 0 0 0) (Nd.mk 0 0 0 [] 0 0 (Arr.mk 0 [] [] []) [] [] 0 0 0)))))] []/\RNode x_2)/\∀(y_1:Unit),True->ifB (!Qif x_2) (RT (Qif x_2=BP g l)) (SM x_1/\SM x_1/\ifB (Qig l x.1==Z1) (ifB (Qih l x.1) (SM x_1/\ifB (Qs8 l x.1) (SM x_1/\ifB (Qta l x.1) (SM x_1/\∃(x_3:Nd),Qii x_3 l x.1/\∀(y_2:Unit),True->ZM l g y/\∃(y_3:Nat×Bool×List (List UInt8×Int)),V1 l g y_3.1 y_3.2.1 y_3.2.2/\LN l-y_3.1<LN l-x.1/\Qtm x.1 y_3.1 x_3 y_3.2.1/\(SM y/\x.2.2=y_3.2.2/\True)/\True) (J2 l g y x.1 x.2.2)) (J2 l g y x.1 x.2.2)) (J2 l g y x.1 x.2.2)) (ifB (Qig l x.1==2) (SM x_1/\SM y/\SM y/\SM x_1/\∃(x_3:Unit),True/\∀(y_2:Unit),True->ifB (Cd (ZL l x.1)) (SM x_1/\SM y/\ifB (Option.getD (GH (Qtn x.2.2 l x.1) (ZL l x.1)) Z0==Z1) (ifB (Qih l x.1) (Qij x_1 l x.1 g y x.2.2) (ifB (Qie l x.1==2) (Qij x_1 l x.1 g y x.2.2) (SM x_1/\ifB (Qs4 l x.1==10) (Qij x_1 l x.1 g y x.2.2) (QbG l g y x.1 x.2.2)))) (QbG l g y x.1 x.2.2)) (QbG l g y x.1 x.2.2)) (ifB (Qig l x.1==3) (ifB g (SM x_1/\∃(x_3:Nd),(Qii x_3 l x.1/\RNode x_3)/\∀(y_2:Unit),True->ifB (Qif x_3) (SM x_1/\ifB (Qtb l x.1==Z1) (ifB (Qih l x.1) (SM x_1/\ifB (Qs8 l x.1) (SM x_1/\ZM l g y/\∃(y_3:Nat×Bool×List (List UInt8×Int)),V1 l g y_3.1 y_3.2.1 y_3.2.2/\LN l-y_3.1<LN l-x.1/\(QbF x.1 y_3.1/\Qta l x.1=y_3.2.1/\True)/\(SM y/\x.2.2=y_3.2.2/\True)/\True) (J2 l g y x.1 x.2.2)) (J2 l g y x.1 x.2.2)) (J2 l g y x.1 x.2.2)) (J2 l g y x.1 x.2.2)) (J2 l g y x.1 x.2.2)) (J2 l g y x.1 x.2.2))))) (Qtp g l)) (Qtp g l))) (RT (x.2.1=BP g l))) (by kernel_rfl) ?_
 delta DA GI LI LN N0 N1 N4 NI SI SM Z0 Z1 ZI V1 ZK Qif Qig Qih ZL Qs8 Qs9 X0 Qta Kc Qtb Qii X1 X3 X2 QPn Qtl ZM QbF Qtm Kb J2 Qtn Qto QbG Qij Qtp Qs4 Qie RT
 try simp only[<- dm]
 try simp only[<- dn]
 simp only[ne_eq,Int.toNat_natCast,Bf,Bd,decide_eq_true_eq,decide_eq_false_iff_not,true_and,and_true,beq_iff_eq,beq_eq_false_iff_ne,Bool.not_eq_true',Bool.not_eq_false',exists_const,forall_const,Prod.exists]
 intro y
 unfold BC at hl
 have hnd1:(decide ((l.length:Int)<=1000))=decide (l.length<=1000):=decide_eq_decide.2 (by omega)
 refine⟨⟨0,decide ((l.length:Int)<=1000),[],⟨Nat.zero_le _,fun _ s=>by simp[GH,B2],?_⟩,⟨rfl,rfl⟩,rfl⟩,?_⟩
 ·rw[hnd1]
  rfl
 rintro ⟨i,r,prs⟩ hI
 simp only at hI ⊢
 refine⟨fun hlt=>⟨⟨by omega,hlt⟩,fun z _=>?_⟩,fun hge=>?_⟩
 ·have hlt':i<l.length:=by omega
  have hm:=C3 hlt'
  have hnm:=Uk hlt'
  obtain ⟨hnd,hte⟩:=h _ hm
  have tot:=hI.tot
  rw[Ow hlt',Gy] at tot
  have w:IntKind.i64.wrap ((i:Int)+1)=((i+1:Nat):Int):=by rw[Ba (by omega) (by omega)];rfl
  have go : ∀(r2 : Bool) (prs2 : List (List UInt8×Int)), (r2=true -> Bei prs2 (B2 (l.take (i+1)))) -> BP g l=(r2&&Cc g (B2 (l.take (i+1))) (l.drop (i+1))) ->
    ∃a a_1 b,BoI l g a a_1 b/\l.length-a<l.length-i/\(IntKind.i64.wrap ((i:Int)+1)=(a:Int)/\r2=a_1)/\prs2=b:=fun r2 prs2 c1 c2 =>
   ⟨i+1,r2,prs2,⟨hlt',c1,c2⟩,by omega,⟨w,rfl⟩,rfl⟩
  have hcount:∀nm,(B2 (l.take i)).count nm<=8589934592:=fun nm=>by
   have h1:=List.count_le_length (a:=nm) (l:=B2 (l.take i))
   have h2:(B2 (l.take i)).length<=(l.take i).length:=by
    unfold B2
    rw[List.length_map]
    exact List.length_filter_le _ _
   rw[List.length_take] at h2
   omega
  generalize Cc g (B2 (l.take (i+1))) (l.drop (i+1))=rest at tot go
  generalize hs:l.getD i default=s at *
  cases r with
  |false =>
   simp only[Bool.false_and] at tot
   simp[tot]
  |true =>
   have hc:=hI.cnt rfl
   have wc:IntKind.i64.wrap ((GH prs s.nm).getD 0+1)=(GH prs s.nm).getD 0+1:=by
    have:=hcount s.nm
    rw[hc s.nm]
    exact Ba (by omega) (by omega)
   have one:=Bi3 hc s.nm
   have put:=Blu hc s.nm
   simp only[wc,Rh,if_true,Option.getD_some,one]
   have c1:s.kd≠2->Bei prs (B2 (l.take (i+1))):=fun e=>by rw[hnm,if_neg e];exact hc
   have c2:s.kd=2->Bei (UG prs s.nm ((GH prs s.nm).getD 0+1)) (B2 (l.take (i+1))):=fun e=>by rw[hnm,if_pos e];exact put
   clear hs hI hm h hc put
   repeat' (first
    |exact fun _=>c1 (by omega)
    |exact fun _=>c2 (by assumption)
    |refine⟨s.nd,⟨Bl _ _,hnd⟩,?_⟩
    |refine⟨s.te,⟨Bl _ _,hte⟩,?_⟩
    |refine⟨s.te,Bl _ _,?_⟩
    |refine go _ _ ?_ ?_
    |refine And.intro ?_ ?_
    |intro _)
   all_goals first
    |(clear c1 c2 hnm go;rw[tot];simp_all;done)
    |(clear c1 c2 hnm go;rw[tot];simp_all;omega)
    |trace_state
 ·have e:i=l.length:=by have:=hI.le;omega
  have tot:=hI.tot
  rw[e,Rk (Nat.le_refl _),Bool.and_true] at tot
  exact tot.symm
def TE(s:Int)(k:Nat):Int:=if s+(k:Int)<=16385 then s+(k:Int) else 16385
theorem BlM{l:List Nd}{i:Nat}(h:i<l.length):szL (l.take (i+1))=szL (l.take i)+szN (l.getD i default):=by
 rw[B6 h,IX]
 simp only[szL]
 omega
theorem Bb6(l:List Nd)(i:Nat):szL (l.take i)<=szL l:=by
 have h:=IX (l.take i) (l.drop i)
 rw[List.take_append_drop] at h
 omega
def Bm7(xs xc:Nat)(s:Int):St:=⟨[(2,xc,.cells [.fn (.func 51) [] [.ref 1 xs 0,.ref 2 xc 0]]),(1,xs,.cells [.int .i64 s])],[]⟩
def sSz(xs xc:Nat)(q:Nd×Int->Prop):FnSpec where
 β:=Nd×Int
 α:=Unit
 args:=fun y=>[.agg y.1.row1,.ref 1 xs 0,.ref 2 xc 0]
 st:=fun y=>Bm7 xs xc y.2
 pre:=q
 post:=fun _ _=>True
 res:=fun _ _=>.ret (.tup [])
 out:=fun y _=>Bm7 xs xc (TE y.2 (szN y.1))
def T0(xs xc:Nat):FnSpec where
 β:=Nd×Int
 α:=Unit
 args:=fun y=>[.agg y.1.row2,.ref 1 xs 0,.ref 2 xc 0]
 st:=fun y=>Bm7 xs xc y.2
 pre:=fun _=>True
 post:=fun _ _=>True
 res:=fun _ _=>.ret (.tup [])
 out:=fun y _=>Bm7 xs xc (TE y.2 (szN y.1))
def BjH(xs xc:Nat)(n:Nd):Con:=fun k ds S=>match k with
 |49=>some (pA ds S (gsl 15 Nd.row1 (BK n)) (isN2 n ds []))
 |51=>some (sSz xs xc (fun y=>y.1∈BK n/\0<=y.2/\y.2<=16384))
 |_=>none
noncomputable def Esz1(xs xc:Nat)(n:Nd)(s:Int):Senv:={ EC (BjH xs xc n) 21 4 [5,9,10,11,12,16] (fun _=>([],[])) with
 ann:=fun b _ _S=>match b with
  |0=>some { slots:=[11],keep:=[0,1,2,3,9,10],α:=Nat×Int,st:=fun y=>([.int .i64 y.1],⟨[(2,xc,.cells [.fn (.func 51) [] [.ref 1 xs 0,.ref 2 xc 0]]),(1,xs,.cells [.int .i64 y.2])],[]⟩),inv:=fun y=>y.1<=(BK n).length/\y.2=TE (s+1) (szL ((BK n).take y.1)),mu:=fun y=>(BK n).length-y.1 }
  |_=>none }
def QbH(a:Nd):Arr:=Nd.va a
def Qtq(a:Nd):Int:=Arr.k (QbH a)
def Qtr(a:Nd):List Int:=Arr.sh (QbH a)
def Qts(a:Nd):Nat:=LN (Qtr a)
def Qtt(a:Nd)(b:Nat):List D:=[ZI (GI (Qtr a) b)]
def Qtu(a:Nd):List Int:=Arr.nu (QbH a)
def Qtv(a:Nd):Nat:=LN (Qtu a)
def Qtw(a:Nd)(b:Nat):List D:=[ZI (GI (Qtu a) b)]
def Qtx(a:Nd):List Arr:=Arr.it (QbH a)
def Qty(a:Nd):Nat:=LN (Qtx a)
def Qik:Arr:=DA
def Qtz(a:Nd)(b:Nat):List D:=Arr.row (List.getD (Qtx a) b Qik)
def X4:Nd:=Nd.mk Z0 Z0 Z0 [] Z0 Z0 Qik [] [] Z0 Z0 Z0
def QtA(a:Nd)(b:Nat):Nd:=List.getD (Nd.ki a) b X4
def QtB:Sm:=Sm.mk Z0 Z0 [] Z0 X4 X4
def QtC(a:Nd)(b:Nat):Sm:=List.getD (Nd.bo a) b QtB
def QtD(a:Nd):D:=D.agg (Nd.row2 a)
def ZN(a:Nd):List Nd:=BK a
def ZO(a:Nd):Nat:=LN (ZN a)
def Qil(a:Nat)(b:Nd)(c d:Int):Prop:=a<=ZO b/\c=TE (d+Z1) (szL (List.take a (ZN b)))
def QPo(a b:Nat):D:=D.fn (Fn.func (51:Nat)) [] [D.ref N1 a N0,D.ref N2 b N0]
def QbI(a b:Nat):Prop:=SM (QPo a b)/\True
def Qim(a:Nd):Int:=(NI (ZO a))
def QtE(a:Int)(b:Nd):Int:=TE a (szN b)
def QtF(a b:Nat)(c d:Int)(e:Nd):Prop:=True/\∃(_y:Unit),True/\True/\(SM a/\QbI b a/\SM b/\(c=QtE d e/\True)/\True)/\True
def Kf(a:Nd)(b:Nat):Nd:=List.getD (ZN a) (Int.toNat (↑b:Int)) X4
def QbJ(a:Nd)(b:Nat):Arr:=Nd.va (Kf a b)
def QtG(a:Nd)(b:Nat):List Int:=Arr.sh (QbJ a b)
def QtH(a:Nd)(b:Nat):Nat:=LN (QtG a b)
def QtI(a:Nd)(b:Nat):List Int:=Arr.nu (QbJ a b)
def QtJ(a:Nd)(b:Nat):Nat:=LN (QtI a b)
def QtK(a:Nd)(b:Nat):List Arr:=Arr.it (QbJ a b)
def QtL(a:Nd)(b:Nat):Nat:=LN (QtK a b)
def QtM(a:Nd)(b:Nat):List Nd:=Nd.ki (Kf a b)
def QtN(a:Nd)(b:Nat):Nat:=LN (QtM a b)
def QtO(a:Nd)(b:Nat):List Sm:=Nd.bo (Kf a b)
def QtP(a:Nd)(b:Nat):Nat:=LN (QtO a b)
def QPp(a:Nd):D:=D.sl 15 (ZO a) (fun i=>Nd.row1 (List.getD (ZN a) i X4)) Mode.any
theorem Bjq(xs xc : Nat)(n : Nd)(s : Int)(hn : n.sm)(h0 : 0<=s)(h1 : s<=16384)(h : ∀b∈BK n, ∀z, 0<=z -> z<=16384 -> ACalls Tryz.prog 51 ((T0 xs xc).args (b, z)) ((T0 xs xc).st (b, z)) (SpecR (T0 xs xc) (b, z))) :
  ACalls Tryz.prog 51 ((T0 xs xc).args (n,s)) ((T0 xs xc).st (n,s)) (SpecR (T0 xs xc) (n,s)):=by
 obtain ⟨_,k1,k2⟩:=Cb hn
 refine Bg (A:=T0 xs xc) (x:=(n,s)) (E:=Esz1 xs xc n s) (eOk ?_ rfl) Tryz.func51 rfl (by kernel_rfl) rfl (by simp[T0,Esz1,EC,E0]) ?_
 ·intro k ds S A hh
  try unfold BjH at hh
  try dsimp only at hh
  split at hh
  ·injection hh with hh;subst hh
   exact Bo fun e=>CD.at_ (CD.wk (BlD n k1 k2) e) _
  ·injection hh with hh;subst hh
   refine ConOk.plain (fun y hy=>?_) rfl rfl
   refine ((h y.1 hy.1 y.2 hy.2.1 hy.2.2).wkArgs ?_).mono fun _ _ ⟨u,q1,q2,q3⟩=>⟨u,q1,q2,q3⟩
   simp only[T0,sSz,wkL,wkD]
   exact⟨Mq _,by simp[Bn,Bb],by simp[Bn,Bb],trivial⟩
  ·cases hh
 refine Bi (T :=
  ∀(x:Nat),xc≠x/\xs≠x/\True->SM xs/\SM xs/\SM x/\∃(x_1:Unit),isN2 n [QtD n] []/\∀(y:Unit),True->(∃(x:Nat×Int),Qil x.1 n x.2 s/\(Z0=(NI x.1)/\True)/\(SM xc/\QbI xs xc/\SM xs/\(IntKind.wrap IntKind.i64 (s+Z1)=x.2/\True)/\True)/\True)/\∀(x_2:Nat×Int),Qil x_2.1 n x_2.2 s->ifB (decide ((NI x_2.1)<Qim n)) (Bc (Z0<=(NI x_2.1)/\(NI x_2.1)<Qim n) (∀(x_3:Nat),xc≠x_3/\xs≠x_3/\True->SM x_3/\SM xs/\ifB (decide ((16384:Int)<x_2.2)) (QtF xc xs x_2.2 s n) (SM xc/\SM x_3/\∃(x_4:Nd×Int),((Nd.kd (Kf n x_2.1)=Nd.kd x_4.1/\Nd.at_ (Kf n x_2.1)=Nd.at_ x_4.1/\Nd.cl (Kf n x_2.1)=Nd.cl x_4.1/\Nd.tx (Kf n x_2.1)=Nd.tx x_4.1/\Nd.pr (Kf n x_2.1)=Nd.pr x_4.1/\Nd.op (Kf n x_2.1)=Nd.op x_4.1/\Arr.k (QbJ n x_2.1)=Qtq x_4.1/\(QtH n x_2.1=Qts x_4.1/\(∀(i:Nat),i<QtH n x_2.1->[ZI (GI (QtG n x_2.1) i)]=Qtt x_4.1 i)/\True)/\(QtJ n x_2.1=Qtv x_4.1/\(∀(i:Nat),i<QtJ n x_2.1->[ZI (GI (QtI n x_2.1) i)]=Qtw x_4.1 i)/\True)/\(QtL n x_2.1=Qty x_4.1/\(∀(i:Nat),i<QtL n x_2.1->Arr.row (List.getD (QtK n x_2.1) i Qik)=Qtz x_4.1 i)/\True)/\(QtN n x_2.1=LN (Nd.ki x_4.1)/\(∀(i:Nat),i<QtN n x_2.1->Nd.row (List.getD (QtM n x_2.1) i X4)=Nd.row (QtA x_4.1 i))/\True)/\(QtP n x_2.1=LN (Nd.bo x_4.1)/\(∀(i:Nat),i<QtP n x_2.1->Sm.row (List.getD (QtO n x_2.1) i QtB)=Sm.row (QtC x_4.1 i))/\True)/\Nd.de (Kf n x_2.1)=Nd.de x_4.1/\Nd.sl (Kf n x_2.1)=Nd.sl x_4.1/\Nd.ss (Kf n x_2.1)=Nd.ss x_4.1/\True)/\SM xs/\SM xc/\True)/\((SM xc/\QbI xs xc/\SM xs/\(x_2.2=x_4.2/\True)/\True)/\True)/\(x_4.1∈ZN n/\Z0<=x_4.2/\x_4.2<=16384)/\∀(y:Unit),True->(SM (QtD n)/\SM (D.ref N1 xs N0)/\SM (D.ref N2 xc N0)/\SM (D.ref (3:Nat) x N0)/\SM (QPp n)/\SM (ZI (Qim n))/\True)/\∃(y:Nat×Int),Qil y.1 n y.2 s/\ZO n-y.1<ZO n-x_2.1/\(IntKind.wrap IntKind.i64 ((NI x_2.1)+Z1)=(NI y.1)/\True)/\(SM xc/\QbI xs xc/\SM xs/\(QtE x_4.2 x_4.1=y.2/\True)/\True)/\True))) (QtF xc xs x_2.2 s n)) (by kernel_rfl) ?_
 delta DA GI LN N0 N1 N2 N4 NI SM Z0 Z1 ZI QbH Qtq Qik Qtz X4 QtA QtB QtC QtD ZN ZO Qil Qtr QPo QbI Qim QtE QtF Kf QbJ QtG QtH QtI Qts QtJ QtK QtL QtM QtN QtO QtP QPp Qtt Qtu Qtv Qtw Qtx Qty
 try simp only[<- dm]
 try simp only[<- dn]
 simp only[ne_eq,Int.toNat_natCast,Bf,Bd,decide_eq_true_eq,decide_eq_false_iff_not,true_and,and_true,exists_const,forall_const,Prod.exists]
 have hsz:=MN n
 have w1:IntKind.i64.wrap (s+1)=s+1:=Ba (by omega) (by omega)
 intro x _
 refine⟨CJ n _,⟨0,s+1,⟨Nat.zero_le _,by simp only[List.take_zero,szL,TE];split<;>omega⟩,rfl,w1⟩,?_⟩
 rintro ⟨i,c⟩ ⟨hi,hc⟩
 simp only at hi hc ⊢
 have hl:=Bce hn
 unfold maxLen at hl
 have hle:=Bb6 (BK n) i
 refine⟨fun hlt=>⟨⟨by omega,hlt⟩,fun _ _=>⟨fun hb=>?_,fun hb=>?_⟩⟩,fun hge=>?_⟩
 ·rw[hc]
  unfold TE at hc ⊢
  split at hc<;>split<;>omega
 ·have hlt':i<(BK n).length:=by omega
  have ht:=BlM hlt'
  refine⟨(BK n).getD i default,c,⟨rfl,rfl,rfl,rfl,rfl,rfl,rfl,⟨rfl,fun _ _=>rfl⟩,⟨rfl,fun _ _=>rfl⟩,⟨rfl,fun _ _=>rfl⟩,⟨rfl,fun _ _=>rfl⟩,⟨rfl,fun _ _=>rfl⟩,rfl,rfl,rfl⟩,rfl,⟨BX hlt',?_,by omega⟩,i+1,TE c (szN ((BK n).getD i default)),⟨hlt',?_⟩,by omega,Ba (by omega) (by omega),rfl⟩
  ·unfold TE at hc
   split at hc<;>omega
  ·rw[ht]
   unfold TE at hc ⊢
   split at hc<;>split<;>split<;>omega
 ·have e:i=(BK n).length:=by omega
  rw[e,List.take_length] at hc
  rw[hc]
  unfold TE
  split<;>split<;>omega
theorem Bli(xs xc:Nat)(n:Nd)(s:Int)(hn:n.sm)(h0:0<=s)(h1:s<=16384):ACalls Tryz.prog 51 ((T0 xs xc).args (n,s)) ((T0 xs xc).st (n,s)) (SpecR (T0 xs xc) (n,s)) :=
 Bjq xs xc n s hn h0 h1 fun b hb z z0 z1=>Bli xs xc b z (EW hn hb) z0 z1
termination_by szN n
decreasing_by exact ED hb
def Gb(n:Nd):Int:=if szN n<=16385 then (szN n:Int) else 16385
def BiV(n:Nd):Con:=fun k ds _=>match k with
 |51=>match ds with
  | [_,.ref _ xs _,.ref _ xc _]=>some (sSz xs xc (fun y=>y.1=n/\y.2=0))
  |_=>none
 |_=>none
noncomputable def Eszs(n:Nd):Senv:=EC (BiV n) 11 5 [] (fun _=>([],[]))
def QbK(a:Nd):Arr:=Nd.va a
def QtQ(a:Nd):Int:=Arr.k (QbK a)
def QtR(a:Nd):List Int:=Arr.sh (QbK a)
def Qin(a:Nd):Nat:=LN (QtR a)
def QtS(a:Nd)(b:Nat):List D:=[ZI (GI (QtR a) b)]
def QtT(a:Nd):List Int:=Arr.nu (QbK a)
def Qio(a:Nd):Nat:=LN (QtT a)
def QtU(a:Nd)(b:Nat):List D:=[ZI (GI (QtT a) b)]
def QtV(a:Nd):List Arr:=Arr.it (QbK a)
def Qip(a:Nd):Nat:=LN (QtV a)
def QtW:Arr:=DA
def QtX(a:Nd)(b:Nat):List D:=Arr.row (List.getD (QtV a) b QtW)
def Qiq(a:Nd):Nat:=LN (Nd.ki a)
def Qir:Nd:=Nd.mk Z0 Z0 Z0 [] Z0 Z0 QtW [] [] Z0 Z0 Z0
def QtY(a:Nd)(b:Nat):List D:=Nd.row (List.getD (Nd.ki a) b Qir)
def Qis(a:Nd):Nat:=LN (Nd.bo a)
def QtZ(a:Nd)(b:Nat):List D:=Sm.row (List.getD (Nd.bo a) b (Sm.mk Z0 Z0 [] Z0 Qir Qir))
def Qt0(a:Int)(b:Nd):Int:=TE a (szN b)
theorem Bkv(n:Nd)(hn:n.sm):CD 31 [.agg n.row1] (.int .i64 (Gb n)):=by
 refine Bg (A:=sC _ _) (x:=()) (E:=Eszs n) (eOk ?_ rfl) Tryz.func31 rfl (by kernel_rfl) rfl (by simp[sC,Eszs,EC,E0]) ?_
 ·intro k ds S A hh
  try unfold BiV at hh
  try dsimp only at hh
  split at hh
  ·split at hh
   ·injection hh with hh;subst hh
    refine ConOk.plain (fun y hy=>?_) rfl rfl
    obtain ⟨y,z⟩:=y
    obtain ⟨rfl,rfl⟩:y=n/\z=0:=hy
    refine ((Bli _ _ y 0 hn (by omega) (by omega)).wkArgs ?_).mono fun _ _ ⟨u,q1,q2,q3⟩=>⟨u,q1,q2,q3⟩
    simp only[T0,sSz,wkL,wkD]
    exact⟨Mq _,by simp[Bn,Bb],by simp[Bn,Bb],trivial⟩
   ·cases hh
  ·cases hh
 refine Bi (T :=
  ∀(x:Nat),True->∀(x_1:Nat),x≠x_1/\True->SM x_1/\∀(x_2:Nat),x_1≠x_2/\x≠x_2/\True->SM x_2/\SM x_2/\SM x/\∃(x:Nd×Int),((Nd.kd n=Nd.kd x.1/\Nd.at_ n=Nd.at_ x.1/\Nd.cl n=Nd.cl x.1/\Nd.tx n=Nd.tx x.1/\Nd.pr n=Nd.pr x.1/\Nd.op n=Nd.op x.1/\QtQ n=QtQ x.1/\(Qin n=Qin x.1/\(∀(i:Nat),i<Qin n->QtS n i=QtS x.1 i)/\True)/\(Qio n=Qio x.1/\(∀(i:Nat),i<Qio n->QtU n i=QtU x.1 i)/\True)/\(Qip n=Qip x.1/\(∀(i:Nat),i<Qip n->QtX n i=QtX x.1 i)/\True)/\(Qiq n=Qiq x.1/\(∀(i:Nat),i<Qiq n->QtY n i=QtY x.1 i)/\True)/\(Qis n=Qis x.1/\(∀(i:Nat),i<Qis n->QtZ n i=QtZ x.1 i)/\True)/\Nd.de n=Nd.de x.1/\Nd.sl n=Nd.sl x.1/\Nd.ss n=Nd.ss x.1/\True)/\SM x_1/\SM x_2/\True)/\((SM x_2/\(D.fn (Fn.func (51:Nat)) [] [D.ref (max (N0+N1) N0) x_1 N0,D.ref (max N2 (max (N0+N1) N0)) x_2 N0]=D.fn (Fn.func (51:Nat)) [] [D.ref N1 x_1 N0,D.ref N2 x_2 N0]/\True)/\SM x_1/\(Z0=x.2/\True)/\True)/\True)/\(x.1=n/\x.2=Z0)/\∀(y:Unit),True->SM x_1/\RT ((if (16385:Int)<Qt0 x.2 x.1 then (16385:Int) else Qt0 x.2 x.1)=Gb n)) (by kernel_rfl) ?_
 delta DA GI LN N0 N1 N2 SM Z0 ZI QbK QtQ QtR Qin QtS QtT Qio QtU QtV Qip QtW QtX Qiq Qir QtY Qis QtZ Qt0 RT
 try simp only[<- dm]
 try simp only[<- dn]
 simp only[ne_eq,true_and,and_true,exists_const,forall_const,Prod.exists]
 refine fun _ _ _ _ _=>⟨n,0,⟨rfl,rfl,rfl,rfl,rfl,rfl,rfl,⟨rfl,fun _ _=>rfl⟩,⟨rfl,fun _ _=>rfl⟩,⟨rfl,fun _ _=>rfl⟩,⟨rfl,fun _ _=>rfl⟩,⟨rfl,fun _ _=>rfl⟩,rfl,rfl,rfl⟩,⟨rfl,rfl⟩,⟨rfl,rfl⟩,?_⟩
 unfold TE Gb
 split<;>split<;>split<;>omega
theorem OI{n:Nd}(h:n.ok):n.va.ok:=by
 cases n with
 |mk kd at_ cl tx pr op va ki bo de sl ss =>
  simp only[Nd.ok] at h
  exact h.2.1
theorem M8{n:Nd}(h:n.ok):∀b∈n.ki,b.ok:=by
 cases n with
 |mk kd at_ cl tx pr op va ki bo de sl ss =>
  simp only[Nd.ok] at h
  exact (TV _).1 h.2.2.1
theorem GM{n:Nd}(h:n.ok):∀s∈n.bo,s.ok:=by
 cases n with
 |mk kd at_ cl tx pr op va ki bo de sl ss =>
  simp only[Nd.ok] at h
  exact (TG _).1 h.2.2.2
theorem Cq{s:Sm}(h:s.ok):s.te.ok/\s.nd.ok:=by
 cases s with
 |mk kd at_ nm sl te nd =>
  simp only[Sm.ok] at h
  exact h.2
theorem Cl{s:Sm}(h:s.sm):s.te.sm/\s.nd.sm:=by
 cases s with
 |mk kd at_ nm sl te nd =>
  simp only[Sm.sm] at h
  exact h.2
theorem BaC(n:Nd)(ho:n.ok)(hn:n.sm):RNode n :=
 Bno n hn (OI ho) (BfT n.bo true (Cb hn).2.2 fun s hs =>
  have h1:=Cq (GM ho s hs)
  have h2:=Cl (GC hn s hs)
  ⟨BaC s.nd h1.2 h2.2,BaC s.te h1.1 h2.1⟩) fun b hb=>BaC b (M8 ho b hb) (EW hn (BS hb))
termination_by SizeOf.sizeOf n
decreasing_by
 ·have:=Nd.size_stmt hs
  have:=Sm.size_nd s
  omega
 ·have:=Nd.size_stmt hs
  have:=Sm.size_te s
  omega
 ·exact Nd.size_kid hb
theorem BoE(l:List Sm)(g:Bool)(hl:l.length<=BC)(ho:∀s∈l,s.ok)(hs:∀s∈l,s.sm):RBody l g :=
 BfT l g hl fun s h=>⟨BaC s.nd (Cq (ho s h)).2 (Cl (hs s h)).2,BaC s.te (Cq (ho s h)).1 (Cl (hs s h)).1⟩
def Bem(n:Nd):Con:=fun k ds S=>match k with
 |30=>some (pA ds S (.bool (CI n 60)) (isN n ds [.int .i64 60]))
 |31=>some (pA ds S (.int .i64 (Gb n)) (isN n ds []))
 |52=>some (pA ds S (.bool (Bz n)) (isN n ds []))
 |_=>none
theorem Bh9{n:Nd}(ho:n.ok)(hn:n.sm):ConOk Tryz.prog (Bem n):=by
 intro k ds S A hh
 unfold Bem at hh
 split at hh
 ·injection hh with hh;subst hh
  exact Bo fun e=>CD.at_ (CD.isN (BiH n 60 hn (by unfold Bt;omega)) e) _
 ·injection hh with hh;subst hh
  exact Bo fun e=>CD.at_ (CD.wk (Bkv n hn) e) _
 ·injection hh with hh;subst hh
  exact Bo fun e=>CD.at_ (CD.isN (BaC n ho hn) e) _
 ·cases hh
noncomputable def Ecks(n:Nd):Senv:=EC (Bem n) 14 4 [6,10] (fun _=>([],[]))
def Qt3(a:Nd):D:=D.agg (Nd.rowE a)
def QbM(a:Nd):Int:=BU a
def Qt4(a:Nd):Prop:=isN a [Qt3 a] []
theorem BoD(n:Nd)(ho:n.ok)(hn:n.sm):CD 83 [.agg n.row1] (.int .i64 (BU n)):=by
 refine Bg (A:=sC _ _) (x:=()) (E:=Ecks n) (eOk (Bh9 ho hn) rfl) Tryz.func83 rfl (by kernel_rfl) rfl (by simp[sC,Ecks,EC,E0]) ?_
 refine Bi (T :=
  ∀(x:Nat),True->SM x/\∃(x_1:Unit),isN n [Qt3 n,ZI 60] [ZI 60]/\∀(y:Unit),True->ifB (CI n (60:Int)) (RT ((8:Int)=QbM n)) (SM x/\∃(x_2:Unit),Qt4 n/\∀(y:Unit),True->ifB (decide ((16384:Int)<Gb n)) (RT ((21:Int)=QbM n)) (SM x/\∃(x:Unit),Qt4 n/\∀(y:Unit),True->ifB (!Bz n) (RT ((11:Int)=QbM n)) (RT (Z0=QbM n))))) (by kernel_rfl) ?_
 delta DA GI LN N1 N4 SI SM Z0 ZI Qt3 QbM Qt4 RT
 try simp only[<- dm]
 try simp only[<- dn]
 simp only[Bf,decide_eq_true_eq,decide_eq_false_iff_not,true_and,and_true,Bool.not_eq_true',Bool.not_eq_false',exists_const,forall_const]
 have e1:CI n 60=true↔60<dpN n:=by unfold CI;rw[decide_eq_true_eq];omega
 have e2:16384<Gb n↔16384<szN n:=by unfold Gb;split<;>omega
 have e3:CI n 60=false↔¬60<dpN n:=by rw[<- e1];simp
 simp only[e1,e2,e3]
 unfold BU
 refine⟨Bl _ _,fun h=>(if_pos h).symm,fun h=>?_⟩
 rw[if_neg h]
 refine⟨Bl _ _,fun h=>(if_pos h).symm,fun h=>?_⟩
 rw[if_neg h]
 refine⟨Bl _ _,fun h=>?_,fun h=>?_⟩
 ·rw[h];rfl
 ·rw[h];rfl
def Bca(k:Int)(n:Nd):Sm:=.mk k 0 [] 0 nd0 n
def BeH:List D:=[.int .i64 0,.int .i64 0,.int .i64 0,.str [],.int .i64 0,.int .i64 0,.int .i64 0,.sl 1 0 (fun _=>[]) .nil,.sl 1 0 (fun _=>[]) .nil,.sl 1 0 (fun _=>[]) .nil,.sl 1 0 (fun _=>[]) .nil,.sl 1 0 (fun _=>[]) .nil,.int .i64 0,.int .i64 0,.int .i64 0]
theorem BpA{k:Int}{n:Nd}(hn:n.sm):∀s∈[Bca k n],s.sm:=by
 intro s hs
 rw[List.mem_singleton.1 hs]
 unfold Bca
 simp only[Sm.sm]
 exact⟨by decide,by simp[nd0,Nd.sm,Arr.sm,smL,ON,OW],hn⟩
def Rx(l:List Nd):Bool:=l.any fun b=>CI b 60
def Bdx(l:List Sm):Bool:=l.any fun s=>Rx (Bq s)
def GK:List Nd->Int
 | []=>0
 |x::r=>Gb x+GK r
def IW:List Sm->Int
 | []=>0
 |s::r=>GK (Bq s)+IW r
theorem Bg7{l:List Nd}{i:Nat}(h:i<l.length):Rx (l.take (i+1))=(Rx (l.take i)||CI (l.getD i default) 60):=by
 unfold Rx
 rw[B6 h,List.any_append]
 simp
theorem Bh0{l:List Sm}{i:Nat}(h:i<l.length):Bdx (l.take (i+1))=(Bdx (l.take i)||Rx (Bq (l.getD i default))):=by
 unfold Bdx
 rw[B6 h,List.any_append]
 simp
theorem Rn:∀a b:List Nd,GK (a++b)=GK a+GK b
 | [],b=>by simp only[List.nil_append,GK];omega
 |x::a,b=>by simp only[List.cons_append,GK,Rn a b];omega
theorem Bcq:∀a b:List Sm,IW (a++b)=IW a+IW b
 | [],b=>by simp only[List.nil_append,IW];omega
 |x::a,b=>by simp only[List.cons_append,IW,Bcq a b];omega
theorem BiE{l:List Nd}{i:Nat}(h:i<l.length):GK (l.take (i+1))=GK (l.take i)+Gb (l.getD i default):=by
 rw[B6 h,Rn]
 simp only[GK]
 omega
theorem BhF{l:List Sm}{i:Nat}(h:i<l.length):IW (l.take (i+1))=IW (l.take i)+GK (Bq (l.getD i default)):=by
 rw[B6 h,Bcq]
 simp only[IW]
 omega
theorem BdE(n:Nd):0<=Gb n/\Gb n<=16385:=by
 unfold Gb
 split<;>omega
theorem UL:∀l:List Nd,0<=GK l/\GK l<=16385*(l.length:Int)
 | []=>by simp[GK]
 |x::r=>by
  have:=BdE x
  have:=UL r
  simp only[GK,List.length_cons]
  omega
theorem BfK:∀l:List Sm,0<=IW l/\IW l<=32770*(l.length:Int)
 | []=>by simp[IW]
 |s::r=>by
  have h1:=UL (Bq s)
  have:=BfK r
  have:=G2 s
  simp only[IW,List.length_cons]
  omega
theorem BfH:∀l:List Nd,GK l<=(szL l:Int)/\(szL l<=16384->GK l=(szL l:Int))/\(16384<szL l->16384<GK l)
 | []=>by simp[GK,szL]
 |x::r=>by
  have:=BfH r
  have:=UL r
  have h:Gb x=if szN x<=16385 then (szN x:Int) else 16385:=rfl
  simp only[GK,szL]
  split at h<;>omega
theorem BaL:∀l:List Sm,IW l=GK (l.flatMap Bq)
 | []=>by simp only[IW,List.flatMap_nil,GK]
 |s::r=>by simp only[IW,List.flatMap_cons,Rn,BaL r]
theorem Bmo(l:List Sm):16384<IW l↔16384<szB l:=by
 rw[BaL,TJ]
 have:=BfH (l.flatMap Bq)
 omega
theorem R5:∀l:List Sm,Bdx l=Rx (l.flatMap Bq)
 | []=>rfl
 |s::r=>by
  have:=R5 r
  unfold Bdx Rx at this ⊢
  rw[List.any_cons,this,List.flatMap_cons,List.any_append]
theorem BmS(l:List Sm):Bdx l=true↔60<dpB l:=by
 rw[R5,TF]
 unfold Rx
 rw[Wx]
 constructor
 ·rintro ⟨_,h⟩;omega
 ·intro h
  refine⟨fun e=>?_,by omega⟩
  rw[e] at h
  simp[dpL] at h
def Bla(l:List Sm):Con:=fun k ds S=>match k with
 |29=>some (pE (β:=Sm) ds S (fun s=>gsl 15 Nd.row1 (Bq s)) (fun s=>isS s ds []))
 |30=>some (pE (β:=Nd) ds S (fun b=>.bool (CI b 60)) (fun b=>isN b ds [.int .i64 60]/\b.sm))
 |31=>some (pE (β:=Nd) ds S (fun b=>.int .i64 (Gb b)) (fun b=>isN b ds []/\b.sm))
 |32=>some (pA ds S (.bool (BP false l)) (wkL ds [gsl 34 Sm.row1 l,.bool false]))
 |33=>some (pA ds S (.bool (RK l)) (wkL ds [gsl 34 Sm.row1 l]))
 |_=>none
theorem Bk9{l:List Sm}(hl:l.length<=BC)(ho:∀s∈l,s.ok)(hs:∀s∈l,s.sm):ConOk Tryz.prog (Bla l):=by
 intro k ds S A hh
 unfold Bla at hh
 split at hh
 ·injection hh with hh;subst hh
  exact Co fun s e=>CD.at_ (CD.wk (BkE s) e) _
 ·injection hh with hh;subst hh
  exact Co fun b ⟨e,hb⟩=>CD.at_ (CD.isN (BiH b 60 hb (by unfold Bt;omega)) e) _
 ·injection hh with hh;subst hh
  exact Co fun b ⟨e,hb⟩=>CD.at_ (CD.wk (Bkv b hb) e) _
 ·injection hh with hh;subst hh
  exact Bo fun e=>CD.at_ (CD.wk (BoE l false hl ho hs) e) _
 ·injection hh with hh;subst hh
  exact Bo fun e=>CD.at_ (CD.wk (Bqw l (Ci hl) hs) e) _
 ·cases hh
noncomputable def Epr(l:List Sm):Senv:={ EC (Bla l) 72 5 [6,8,10,12,16,18,19,20,21,25,26,27,28,38,40,41,42,43,47,48,49,50,59,62] (fun _=>([],[])) with
 mg:=fun _=>2
 ann:=fun b env S=>match b with
  |0=>some { slots:=[20,4],keep:=[0,1,3,18,19],α:=Nat×Bool,st:=fun y=>([.int .i64 y.1,.bool y.2],S),inv:=fun y=>y.1<=l.length/\y.2=Bdx (l.take y.1),mu:=fun y=>l.length-y.1 }
  |2=>match Ab.look env 25,Ab.look env 20,Ab.look env 4 with
   |.sl _ n _f _,.int _ i,.bool t=>some { slots:=[27,4],keep:=[0,1,3,18,19,20,25,26],α:=Nat×Bool,st:=fun y=>([.int .i64 y.1,.bool y.2],S),inv:=fun y=>y.1<=n/\y.2=(t||Rx ((Bq (l.getD i.toNat default)).take y.1)),mu:=fun y=>n-y.1 }
   |_,_,_=>none
  |4=>some { slots:=[42,3],keep:=[0,1,40,41],α:=Nat×Int,st:=fun y=>([.int .i64 y.1,.int .i64 y.2],S),inv:=fun y=>y.1<=l.length/\y.2=IW (l.take y.1),mu:=fun y=>l.length-y.1 }
  |6=>match Ab.look env 47,Ab.look env 42,Ab.look env 3 with
   |.sl _ n _f _,.int _ i,.int _ t=>some { slots:=[49,3],keep:=[0,1,40,41,42,47,48],α:=Nat×Int,st:=fun y=>([.int .i64 y.1,.int .i64 y.2],S),inv:=fun y=>y.1<=n/\y.2=t+GK ((Bq (l.getD i.toNat default)).take y.1),mu:=fun y=>n-y.1 }
   |_,_,_=>none
  |_=>none }
def ZP(a:List Sm):Int:=B1 a
def Qiu(a:Nat)(b:List Sm)(c:Bool):Prop:=a<=LN b/\c=Bdx (List.take a b)
def X5:Arr:=DA
def J3:Nd:=Nd.mk Z0 Z0 Z0 [] Z0 Z0 X5 [] [] Z0 Z0 Z0
def V2:Sm:=Sm.mk Z0 Z0 [] Z0 J3 J3
def X6(a:List Sm)(b:Nat):Sm:=List.getD a b V2
def Qub(a:List Sm)(b:Nat):List D:=(Sm.row1 (X6 a b))
def Quc(a:Nat)(b:List Sm):Prop:=SM a/\((SM (LN b)/\(∀(i:Nat),i<LN b->SM (Qub b i))/\True)/\True)/\True
def QbP(a:Nat)(b:List Sm):Prop:=Quc a b/\True
def V3(a:List Sm)(b:Nat):Sm:=List.getD a (Int.toNat (↑b:Int)) V2
def Qud(a:List Sm)(b:Nat):Int:=Sm.kd (V3 a b)
def Que(a:List Sm)(b:Nat):Int:=Sm.at_ (V3 a b)
def Quf(a:List Sm)(b:Nat):List UInt8:=Sm.nm (V3 a b)
def Qug(a:List Sm)(b:Nat):Int:=Sm.sl (V3 a b)
def Ki(a:List Sm)(b:Nat):Nd:=Sm.te (V3 a b)
def Quh(a:List Sm)(b:Nat):Int:=Nd.kd (Ki a b)
def Qui(a:List Sm)(b:Nat):Int:=Nd.at_ (Ki a b)
def Quj(a:List Sm)(b:Nat):Int:=Nd.cl (Ki a b)
def Quk(a:List Sm)(b:Nat):List UInt8:=Nd.tx (Ki a b)
def Qul(a:List Sm)(b:Nat):Int:=Nd.pr (Ki a b)
def Qum(a:List Sm)(b:Nat):Int:=Nd.op (Ki a b)
def QbQ(a:List Sm)(b:Nat):Arr:=Nd.va (Ki a b)
def Qun(a:List Sm)(b:Nat):Int:=Arr.k (QbQ a b)
def Quo(a:List Sm)(b:Nat):List Int:=Arr.sh (QbQ a b)
def Qiv(a:List Sm)(b:Nat):Nat:=LN (Quo a b)
def Qup(a:List Sm)(b c:Nat):List D:=[ZI (GI (Quo a b) c)]
def Quq(a:List Sm)(b:Nat):List Int:=Arr.nu (QbQ a b)
def Qiw(a:List Sm)(b:Nat):Nat:=LN (Quq a b)
def Qur(a:List Sm)(b c:Nat):List D:=[ZI (GI (Quq a b) c)]
def Qus(a:List Sm)(b:Nat):List Arr:=Arr.it (QbQ a b)
def Qix(a:List Sm)(b:Nat):Nat:=LN (Qus a b)
def Qut(a:List Sm)(b c:Nat):List D:=Arr.row (List.getD (Qus a b) c X5)
def Quu(a:List Sm)(b:Nat):List Nd:=Nd.ki (Ki a b)
def Qiy(a:List Sm)(b:Nat):Nat:=LN (Quu a b)
def Quv(a:List Sm)(b c:Nat):List D:=Nd.row (List.getD (Quu a b) c J3)
def Quw(a:List Sm)(b:Nat):List Sm:=Nd.bo (Ki a b)
def Qiz(a:List Sm)(b:Nat):Nat:=LN (Quw a b)
def Qux(a:List Sm)(b c:Nat):List D:=Sm.row (List.getD (Quw a b) c V2)
def Quy(a:List Sm)(b:Nat):Int:=Nd.de (Ki a b)
def Quz(a:List Sm)(b:Nat):Int:=Nd.sl (Ki a b)
def QuA(a:List Sm)(b:Nat):Int:=Nd.ss (Ki a b)
def Kj(a:List Sm)(b:Nat):Nd:=Sm.nd (V3 a b)
def QuB(a:List Sm)(b:Nat):Int:=Nd.kd (Kj a b)
def QuC(a:List Sm)(b:Nat):Int:=Nd.at_ (Kj a b)
def QuD(a:List Sm)(b:Nat):Int:=Nd.cl (Kj a b)
def QuE(a:List Sm)(b:Nat):List UInt8:=Nd.tx (Kj a b)
def QuF(a:List Sm)(b:Nat):Int:=Nd.pr (Kj a b)
def QuG(a:List Sm)(b:Nat):Int:=Nd.op (Kj a b)
def QbR(a:List Sm)(b:Nat):Arr:=Nd.va (Kj a b)
def QuH(a:List Sm)(b:Nat):Int:=Arr.k (QbR a b)
def QuI(a:List Sm)(b:Nat):List Int:=Arr.sh (QbR a b)
def QiA(a:List Sm)(b:Nat):Nat:=LN (QuI a b)
def QuJ(a:List Sm)(b c:Nat):List D:=[ZI (GI (QuI a b) c)]
def QuK(a:List Sm)(b:Nat):List Int:=Arr.nu (QbR a b)
def QiB(a:List Sm)(b:Nat):Nat:=LN (QuK a b)
def QuL(a:List Sm)(b c:Nat):List D:=[ZI (GI (QuK a b) c)]
def QuM(a:List Sm)(b:Nat):List Arr:=Arr.it (QbR a b)
def QiC(a:List Sm)(b:Nat):Nat:=LN (QuM a b)
def QuN(a:List Sm)(b c:Nat):List D:=Arr.row (List.getD (QuM a b) c X5)
def QuO(a:List Sm)(b:Nat):List Nd:=Nd.ki (Kj a b)
def QiD(a:List Sm)(b:Nat):Nat:=LN (QuO a b)
def QuP(a:List Sm)(b c:Nat):List D:=Nd.row (List.getD (QuO a b) c J3)
def QuQ(a:List Sm)(b:Nat):List Sm:=Nd.bo (Kj a b)
def QiE(a:List Sm)(b:Nat):Nat:=LN (QuQ a b)
def QuR(a:List Sm)(b c:Nat):List D:=Sm.row (List.getD (QuQ a b) c V2)
def QuS(a:List Sm)(b:Nat):Int:=Nd.de (Kj a b)
def QuT(a:List Sm)(b:Nat):Int:=Nd.sl (Kj a b)
def QuU(a:List Sm)(b:Nat):Int:=Nd.ss (Kj a b)
def QuV(a:Sm)(b:List Sm)(c:Nat):Prop:=isS a [D.agg [ZI (Qud b c),ZI (Que b c),D.str (Quf b c),ZI (Qug b c),ZI (Quh b c),ZI (Qui b c),ZI (Quj b c),D.str (Quk b c),ZI (Qul b c),ZI (Qum b c),ZI (Qun b c),D.sl N1 (Qiv b c) (fun i=>Qup b c i) Mode.any,D.sl N1 (Qiw b c) (fun i=>Qur b c i) Mode.any,D.sl N4 (Qix b c) (fun i=>Qut b c i) Mode.any,D.sl 15 (Qiy b c) (fun i=>Quv b c i) Mode.any,D.sl 34 (Qiz b c) (fun i=>Qux b c i) Mode.any,ZI (Quy b c),ZI (Quz b c),ZI (QuA b c),ZI (QuB b c),ZI (QuC b c),ZI (QuD b c),D.str (QuE b c),ZI (QuF b c),ZI (QuG b c),ZI (QuH b c),D.sl N1 (QiA b c) (fun i=>QuJ b c i) Mode.any,D.sl N1 (QiB b c) (fun i=>QuL b c i) Mode.any,D.sl N4 (QiC b c) (fun i=>QuN b c i) Mode.any,D.sl 15 (QiD b c) (fun i=>QuP b c i) Mode.any,D.sl 34 (QiE b c) (fun i=>QuR b c i) Mode.any,ZI (QuS b c),ZI (QuT b c),ZI (QuU b c)]] []
def QiF(a:Sm):List Nd:=Bq a
def X7(a:Sm):Nat:=LN (QiF a)
def QuW(a:Nat)(b:List Sm)(c:Nat):List Nd:=List.take a (Bq (V3 b c))
def QbS(a:Nat)(b:Sm)(c d:Bool)(e:List Sm)(f:Nat):Prop:=a<=X7 b/\c=(d||Rx (QuW a e f))
def ZQ(a:Nat)(b:List Sm)(c d:Nat):Prop:=(SM a/\(SM (Qud b c)/\SM (Que b c)/\SM (Quf b c)/\SM (Qug b c)/\SM (Quh b c)/\SM (Qui b c)/\SM (Quj b c)/\SM (Quk b c)/\SM (Qul b c)/\SM (Qum b c)/\SM (Qun b c)/\(SM (Qiv b c)/\(∀(i:Nat),i<Qiv b c->SM (Qup b c i))/\True)/\(SM (Qiw b c)/\(∀(i:Nat),i<Qiw b c->SM (Qur b c i))/\True)/\(SM (Qix b c)/\(∀(i:Nat),i<Qix b c->SM (Qut b c i))/\True)/\(SM (Qiy b c)/\(∀(i:Nat),i<Qiy b c->SM (Quv b c i))/\True)/\(SM (Qiz b c)/\(∀(i:Nat),i<Qiz b c->SM (Qux b c i))/\True)/\SM (Quy b c)/\SM (Quz b c)/\SM (QuA b c)/\SM (QuB b c)/\SM (QuC b c)/\SM (QuD b c)/\SM (QuE b c)/\SM (QuF b c)/\SM (QuG b c)/\SM (QuH b c)/\(SM (QiA b c)/\(∀(i:Nat),i<QiA b c->SM (QuJ b c i))/\True)/\(SM (QiB b c)/\(∀(i:Nat),i<QiB b c->SM (QuL b c i))/\True)/\(SM (QiC b c)/\(∀(i:Nat),i<QiC b c->SM (QuN b c i))/\True)/\(SM (QiD b c)/\(∀(i:Nat),i<QiD b c->SM (QuP b c i))/\True)/\(SM (QiE b c)/\(∀(i:Nat),i<QiE b c->SM (QuR b c i))/\True)/\SM (QuS b c)/\SM (QuT b c)/\SM (QuU b c)/\True)/\Quc d b)/\True
def QbT(a:Sm):Int:=(NI (X7 a))
def QuX(a:Nat)(b:Sm):Bool:=decide ((↑a:Int)<QbT b)
def QiG(a:List Sm):D:=D.sl 34 (LN a) (fun i=>Qub a i) Mode.any
def QiH(a:List Sm):List D:=[QiG a]
def QPw(a:List Sm):D:=D.agg (QiH a)
def QbU(a:List Sm):Prop:=SM (QPw a)
def QbV(a:Nat):Prop:=SM (D.ref N0 a N0)
def QuY(a:List Sm):Prop:=SM (QiG a)
def QPx(a:Sm):D:=D.sl 15 (X7 a) (fun i=>Nd.row1 (List.getD (QiF a) i J3)) Mode.any
def QuZ(a:List Sm)(b:Nat)(c:Sm):Prop:=QuY a/\SM (ZI (LI a))/\SM (ZI (↑b:Int))/\SM (QPx c)/\SM (ZI (QbT c))/\True
def Qu0(a:List Sm)(b c:Nat)(d:Sm):Prop:=QbU a/\QbV b/\SM (ZI Z0)/\QuZ a c d
def QiI(a:Sm)(b c:Nat):Prop:=X7 a-b<X7 a-c
def ZR(a b:Nat):Prop:=IntKind.wrap IntKind.i64 ((↑a:Int)+Z1)=(↑b:Int)
def Kk(a:Sm)(b:Nat):Nd:=List.getD (QiF a) (Int.toNat (↑b:Int)) J3
def Qu4(a:Sm)(b:Nat):D:=D.agg (Nd.rowE (Kk a b))
def Qu5(a:List Sm):Prop:=QuY a/\SM (ZI (LI a))/\True
def QiJ(a:Nat)(b:List Sm)(c:Int):Prop:=a<=LN b/\c=IW (List.take a b)
def QiK(a:Nat)(b:Sm)(c d:Int)(e:List Sm)(f:Nat):Prop:=a<=X7 b/\c=d+GK (QuW a e f)
def Qu6(a:List Sm):List D:=[QiG a,D.bool false]
def Qu7(a:List Sm):Prop:=True/\∃(_y:Unit),True/\(11:Int)=ZP a/\True/\True
theorem Bp2(l:List Sm)(hl:l.length<=BC)(ho:∀s∈l,s.ok)(hs:∀s∈l,s.sm):CD 13 [.agg [gsl 34 Sm.row1 l]] (.int .i64 (B1 l)):=by
 refine Bg (A:=sC _ _) (x:=()) (E:=Epr l) (eOk (Bk9 hl ho hs) rfl) Tryz.func13 rfl (by kernel_rfl) rfl (by simp[sC,Epr,EC,E0]) ?_
 refine Bi (T :=
  ∀(x:Nat),True->SM x/\ifB (decide ((1000:Int)<(LI l))) (RT ((2:Int)=ZP l)) (SM x/\(∃(x_1:Nat×Bool),Qiu x_1.1 l x_1.2/\(Z0=(NI x_1.1)/\false=x_1.2/\True)/\QbP x l)/\∀(x_1:Nat×Bool),Qiu x_1.1 l x_1.2->ifB (decide ((NI x_1.1)<(LI l))) (Bc (Z0<=(NI x_1.1)/\(NI x_1.1)<(LI l)) (∀(x_2:Nat),x≠x_2/\True->SM x_2/\SM x_2/\∃(x_3:Sm),QuV x_3 l x_1.1/\∀(y:Unit),True->(∃(x_4:Nat×Bool),QbS x_4.1 x_3 x_4.2 x_1.2 l x_1.1/\(Z0=(NI x_4.1)/\x_1.2=x_4.2/\True)/\ZQ x_2 l x_1.1 x)/\∀(x_4:Nat×Bool),QbS x_4.1 x_3 x_4.2 x_1.2 l x_1.1->ifB (QuX x_4.1 x_3) (Bc (Z0<=(NI x_4.1)/\(NI x_4.1)<QbT x_3) (∀(x_5:Nat),x_2≠x_5/\x≠x_5/\True->SM x_5/\ifB x_4.2 (Qu0 l x x_1.1 x_3/\∃(y:Nat×Bool),QbS y.1 x_3 y.2 x_1.2 l x_1.1/\QiI x_3 y.1 x_4.1/\(ZR x_4.1 y.1/\true=y.2/\True)/\ZQ x_2 l x_1.1 x) (SM x_5/\∃(x_6:Nd),(isN x_6 [Qu4 x_3 x_4.1,ZI 60] [ZI 60]/\Nd.sm x_6)/\∀(y:Unit),True->Qu0 l x x_1.1 x_3/\∃(y:Nat×Bool),QbS y.1 x_3 y.2 x_1.2 l x_1.1/\QiI x_3 y.1 x_4.1/\(ZR x_4.1 y.1/\CI x_6 (60:Int)=y.2/\True)/\ZQ x_2 l x_1.1 x))) ((QbU l/\QbV x/\SM (ZI Z0)/\Qu5 l)/\∃(y:Nat×Bool),Qiu y.1 l y.2/\LN l-y.1<LN l-x_1.1/\(ZR x_1.1 y.1/\x_4.2=y.2/\True)/\QbP x l))) (ifB x_1.2 (RT ((8:Int)=ZP l)) (SM x/\(∃(x_2:Nat×Int),QiJ x_2.1 l x_2.2/\(Z0=(NI x_2.1)/\Z0=x_2.2/\True)/\QbP x l)/\∀(x_2:Nat×Int),QiJ x_2.1 l x_2.2->ifB (decide ((NI x_2.1)<(LI l))) (Bc (Z0<=(NI x_2.1)/\(NI x_2.1)<(LI l)) (∀(x_3:Nat),x≠x_3/\True->SM x_3/\SM x_3/\∃(x_4:Sm),QuV x_4 l x_2.1/\∀(y:Unit),True->(∃(x_5:Nat×Int),QiK x_5.1 x_4 x_5.2 x_2.2 l x_2.1/\(Z0=(NI x_5.1)/\x_2.2=x_5.2/\True)/\ZQ x_3 l x_2.1 x)/\∀(x_5:Nat×Int),QiK x_5.1 x_4 x_5.2 x_2.2 l x_2.1->ifB (QuX x_5.1 x_4) (Bc (Z0<=(NI x_5.1)/\(NI x_5.1)<QbT x_4) (∀(x_6:Nat),x_3≠x_6/\x≠x_6/\True->SM x_6/\SM x_6/\∃(x_7:Nd),(isN x_7 [Qu4 x_4 x_5.1] []/\Nd.sm x_7)/\∀(y:Unit),True->(QbU l/\QbV x/\QuZ l x_2.1 x_4)/\∃(y:Nat×Int),QiK y.1 x_4 y.2 x_2.2 l x_2.1/\QiI x_4 y.1 x_5.1/\(ZR x_5.1 y.1/\IntKind.wrap IntKind.i64 (x_5.2+Gb x_7)=y.2/\True)/\ZQ x_3 l x_2.1 x)) ((QbU l/\QbV x/\Qu5 l)/\∃(y:Nat×Int),QiJ y.1 l y.2/\LN l-y.1<LN l-x_2.1/\(ZR x_2.1 y.1/\x_5.2=y.2/\True)/\QbP x l))) (ifB (decide ((16384:Int)<x_2.2)) (RT ((21:Int)=ZP l)) (SM x/\∃(x_3:Unit),wkL (Qu6 l) (Qu6 l)/\∀(y:Unit),True->ifB (!BP false l) (Qu7 l) (SM x/\∃(x:Unit),wkL (QiH l) (QiH l)/\∀(y:Unit),True->ifB (RK l) (Qu7 l) (RT (Z0=ZP l))))))))) (by kernel_rfl) ?_
 delta DA GI LI LN N0 N1 N4 NI SI SM Z0 Z1 ZI Qiu QiH QPw QbU QbV QuY QPx QuZ Qu0 QiI ZR X5 Kk Qu4 Qu5 QiJ J3 QiK Qu6 Qu7 V2 X6 Qub Quc QbP V3 Qud Que Quf Qug Ki Quh Qui Quj Quk Qul Qum QbQ Qun Quo Qiv Qup Quq Qiw Qur Qus Qix Qut Quu Qiy Quv Quw Qiz Qux Quy Quz QuA Kj QuB QuC QuD QuE QuF QuG QbR QuH QuI QiA QuJ QuK QiB QuL QuM QiC QuN QuO QiD QuP QuQ QiE QuR QuS QuT ZP QuU QuV QiF X7 QuW QbS ZQ QbT QuX QiG RT
 try simp only[<- dm]
 try simp only[<- dn]
 simp only[ne_eq,implies_true,Int.toNat_natCast,Bf,Bd,decide_eq_true_eq,decide_eq_false_iff_not,true_and,and_true,Bool.not_eq_true',Bool.not_eq_false',exists_const,forall_const,Prod.exists]
 unfold BC at hl
 have hr:B1 l=if 1000<l.length then 2 else if 60<dpB l then 8 else if 16384<szB l then 21 else if (BP false l&&!RK l)=true then 0 else 11:=rfl
 rw[hr]
 intro x
 refine⟨fun h=>by rw[if_pos (by omega)],fun h=>?_⟩
 rw[if_neg (by omega)]
 refine⟨⟨0,false,⟨Nat.zero_le _,rfl⟩,rfl,rfl⟩,?_⟩
 rintro ⟨i,t⟩ ⟨hi,ht⟩
 simp only at hi ht ⊢
 refine⟨fun hlt=>⟨⟨by omega,hlt⟩,fun z _=>?_⟩,fun hge=>?_⟩
 ·have hlt':i<l.length:=by omega
  have hsm:=Wg (hs _ (C3 hlt'))
  have h2:=G2 (l.getD i default)
  have hta:=Bh0 hlt'
  refine⟨l.getD i default,Ir _ _,⟨0,t,⟨Nat.zero_le _,by simp[Rx]⟩,rfl,rfl⟩,?_⟩
  rintro ⟨j,u⟩ ⟨hj,hu⟩
  simp only at hj hu ⊢
  refine⟨fun hl2=>⟨⟨by omega,hl2⟩,fun _ _=>?_⟩,fun hg2=>?_⟩
  ·have hl2':j<(Bq (l.getD i default)).length:=by omega
   have htd:=Bg7 hl2'
   have w:IntKind.i64.wrap ((j:Int)+1)=((j+1:Nat):Int):=by rw[Ba (by omega) (by omega)];rfl
   refine⟨fun e=>⟨j+1,true,⟨hl2',?_⟩,by omega,w,rfl⟩,fun e=>⟨(Bq (l.getD i default)).getD j default,⟨Bl _ _,hsm _ (BX hl2')⟩,j+1,_,⟨hl2',?_⟩,by omega,w,rfl⟩⟩
   ·rw[htd,<- Bool.or_assoc,<- hu,e];rfl
   ·rw[htd,<- Bool.or_assoc,<- hu,e];rfl
  ·have e:j=(Bq (l.getD i default)).length:=by omega
   refine⟨i+1,u,⟨hlt',?_⟩,by omega,by rw[Ba (by omega) (by omega)];rfl,rfl⟩
   rw[hta,<- ht,hu,e,List.take_length]
 ·have e:i=l.length:=by omega
  rw[e,List.take_length] at ht
  have hdp:=BmS l
  rw[<- ht] at hdp
  refine⟨fun h3=>by rw[if_pos (hdp.1 h3)],fun h3=>?_⟩
  rw[if_neg (fun h4=>by rw[hdp.2 h4] at h3;cases h3)]
  refine⟨⟨0,0,⟨Nat.zero_le _,rfl⟩,rfl,rfl⟩,?_⟩
  rintro ⟨k,c⟩ ⟨hk,hc⟩
  simp only at hk hc ⊢
  have hb:=BfK (l.take k)
  rw[List.length_take] at hb
  refine⟨fun hlt=>⟨⟨by omega,hlt⟩,fun z _=>?_⟩,fun hge=>?_⟩
  ·have hlt':k<l.length:=by omega
   have hsm:=Wg (hs _ (C3 hlt'))
   have h2:=G2 (l.getD k default)
   have hta:=BhF hlt'
   refine⟨l.getD k default,Ir _ _,⟨0,c,⟨Nat.zero_le _,by simp[GK]⟩,rfl,rfl⟩,?_⟩
   rintro ⟨j,u⟩ ⟨hj,hu⟩
   simp only at hj hu ⊢
   refine⟨fun hl2=>⟨⟨by omega,hl2⟩,fun _ _=>?_⟩,fun hg2=>?_⟩
   ·have hl2':j<(Bq (l.getD k default)).length:=by omega
    have htd:=BiE hl2'
    have hz:=UL ((Bq (l.getD k default)).take j)
    rw[List.length_take] at hz
    have hs1:=BdE ((Bq (l.getD k default)).getD j default)
    have w:IntKind.i64.wrap ((j:Int)+1)=((j+1:Nat):Int):=by rw[Ba (by omega) (by omega)];rfl
    have w2:IntKind.i64.wrap (u+Gb ((Bq (l.getD k default)).getD j default))=u+Gb ((Bq (l.getD k default)).getD j default):=Ba (by omega) (by omega)
    refine⟨(Bq (l.getD k default)).getD j default,⟨Bl _ _,hsm _ (BX hl2')⟩,j+1,u+Gb ((Bq (l.getD k default)).getD j default),⟨hl2',?_⟩,by omega,w,w2⟩
    rw[htd,hu]
    omega
   ·have e:j=(Bq (l.getD k default)).length:=by omega
    refine⟨k+1,u,⟨hlt',?_⟩,by omega,by rw[Ba (by omega) (by omega)];rfl,rfl⟩
    rw[hta,<- hc,hu,e,List.take_length]
  ·have e:k=l.length:=by omega
   rw[e,List.take_length] at hc
   have hsz:=Bmo l
   rw[<- hc] at hsz
   refine⟨fun h4=>by rw[if_pos (hsz.1 h4)],fun h4=>?_⟩
   rw[if_neg (fun h5=>h4 (hsz.2 h5))]
   exact⟨Be _,fun h5=>by rw[h5];rfl,fun h5=>⟨Be _,fun h6=>by rw[h5,h6];rfl,fun h6=>by rw[h5,h6];rfl⟩⟩
def _root_.Go.Ab.cellsO(os:List (Nat×Nat×AObj))(k:Nat):List D:=match BJ os k with
 |some (_,.cells ds)=>ds
 |_=>[]
theorem ACalls.wkEnd{P:Program}{k:FuncId}{ds:List D}{S:St}{R R':AEnd->St->Prop}(h:ACalls P k ds S R)(hr:∀r S',R r S'->∃r',(∀C e,RepEnd C r e->RepEnd C r' e)/\R' r' S'):ACalls P k ds S R' :=
 ⟨h.1,fun C F args w ha hs=>(h.2 C F args w ha hs).mono fun _ _ ⟨C',_r,S',h1,h2,h3,h4⟩=>let ⟨r',q0,q2⟩:=hr _ _ h4;⟨C',r',S',h1,h2,q0 _ _ h3,q2⟩⟩
theorem Bci(a:Arr):wkL a.row1 a.row:=by
 cases a with
 |mk k s n is =>
  simp only[Arr.row,Arr.row1,Arr.k,Arr.sh,Arr.nu,Arr.it,gsl,isl,wkL,wkD,Bn,Bb]
  refine⟨⟨by simp[kEq],trivial⟩,⟨by simp,trivial,fun i _=>by simp[kEq],by simp[BG]⟩,⟨by simp,trivial,fun i _=>by simp[kEq],by simp[BG]⟩,⟨by simp,by simp[G6],fun i hi=>?_,by simp[BG]⟩,trivial⟩
  have:(OZ is).getD i []=(is.getD i default).row:=by
   rw[G6];simp[List.getD_eq_getElem?_getD,hi]
  rw[this]
  exact Be _
theorem Blz{k:Int}{s:List Int}{nn ni:Nat}(h:B8 k s nn ni=0):s.length<=8:=by
 unfold B8 at h
 by_cases hk:k=1\/k=2\/k=3
 ·rw[if_pos hk] at h
  by_cases hd:Ef s≠0
  ·rw[if_pos hd] at h;exact (hd h).elim
  ·have hd:Ef s=0:=by simpa using hd
   unfold Ef at hd
   by_cases h8:8<s.length
   ·rw[if_pos h8] at hd;omega
   ·omega
 ·rw[if_neg hk] at h;omega
def _root_.Go.Ab.refKey:D->Nat
 |.ref k _ _=>k
 |_=>0
def _root_.Go.Ab.vkey(os:List (Nat×Nat×AObj))(k:Nat):Nat:=match cellsO os k with
 | [_,_,_,.vs kv _ _ _ _]=>kv
 |_=>0
def zrow:List D:=[.int .i64 0,.sl 1 0 (fun _=>[]) .nil,.sl 1 0 (fun _=>[]) .nil,.sl 1 0 (fun _=>[]) .nil]
def clR(its:List Arr)(i j:Nat):List D:=match Nat.blt j i with
 |true=>(its.getD j default).row1
 |false=>zrow
def sCl(row row':Arr->List D)(q:Arr->Prop):FnSpec where
 β:=Arr
 α:=Unit
 args:=fun a=>[.agg (row a)]
 st:=fun _=>⟨[],[]⟩
 pre:=q
 post:=fun _ _=>True
 res:=fun a _=>.ret (.agg (row' a))
 out:=fun _ _=>⟨[],[]⟩
def Mj(its:List Arr):Con:=fun k _ _=>match k with
 |157=>some (sCl Arr.row1 Arr.row1 (fun b=>b∈its))
 |_=>none
theorem RB{its:List Arr}{i j:Nat}(h:j<i):clR its i j=(its.getD j default).row1:=by
 unfold clR
 have:Nat.blt j i=true:=by simpa using h
 rw[this]
theorem Bfe{its:List Arr}{i j:Nat}(h:¬j<i):clR its i j=zrow:=by
 unfold clR
 cases hb:Nat.blt j i with
 |false=>rfl
 |true=>exact (h (by simpa using hb)).elim
noncomputable def Ecl(a:Arr):Senv:={ EC (Mj a.it) 47 6 [32,33,34,35] (fun id=>match id with | 1=>([0,1,2,3,4,6,7,8,10,11,12,5,9,13,14,15,16],[5,9,13,15,16]) | 7=>([0,1,2,3,4,5,6],[4,6]) | _=>([],[])) with
 gz:=fun r=>match r with
  |9=>[.cell 17 1,.cell 17 2,.cell 17 3]
  |_=>[]
 cut:=fun id _ S=>match id with
  |1=>some { slots:=[3],keep:=[],α:=(Nat×Nat)×Nat×Nat,st:=fun y=>([.ref 17 y.2.2 0],⟨[(17,y.2.2,.cells [.int .i64 a.k,.vs 7 y.1.1 a.sh.length a.sh.length 1,.vs 11 y.1.2 a.nu.length a.nu.length 1,.vs 15 y.2.1 a.it.length a.it.length 4]),(15,y.2.1,.vec 4 a.it.length a.it.length (clR a.it 0)),(11,y.1.2,.vec 1 a.nu.length a.nu.length (fun _=>[.int .i64 0])),(7,y.1.1,.vec 1 a.sh.length a.sh.length (fun _=>[.int .i64 0]))]++S.objs,[]⟩),inv:=fun _=>True,mu:=fun _=>0 }
  |_=>none
 ann:=fun b env S=>match b with
  |0=>some { slots:=[34],keep:=[1,2,3,32,33],α:=Nat,st:=fun i=>([.int .i64 i],⟨Il S.objs (vkey S.objs (refKey (Ab.look env 3))) (.vec 4 a.it.length a.it.length (clR a.it i)),S.toks⟩),inv:=fun i=>i<=a.it.length,mu:=fun i=>a.it.length-i }
  |_=>none }
def J4(a:Arr):Nat:=LN (Arr.sh a)
def Qd(a:Arr):Int:=(NI (J4 a))
def Qs(a:Arr):Int:=(8:Int)*Qd a
def Vr(a:Arr):List Arr:=Arr.it a
def Qx(a:Arr):Nat:=LN (Vr a)
def QbX:Arr:=DA
def ZS(a:Arr)(b:Nat):Arr:=List.getD (Vr a) b QbX
def QPA(a:Arr)(b:Nat):List Int:=Arr.sh (ZS a b)
def QPB(a:Arr)(b:Nat):List Int:=Arr.nu (ZS a b)
def Qu8(a:Arr)(b:Nat):List Arr:=Arr.it (ZS a b)
def QiL(a:Arr)(b:Nat):List D:=[ZI (Arr.k (ZS a b)),SI (QPA a b),SI (QPB a b),D.sl N4 (LN (Qu8 a b)) (fun i=>Arr.row (List.getD (Qu8 a b) i QbX)) Mode.any]
def QPC(a:Arr):D:=D.sl N4 (Qx a) (fun i=>QiL a i) Mode.any
def Qu9(a:Arr):Prop:=SM (QPC a)
def Qy(a:Nat)(b:Arr):Prop:=SM a/\Qu9 b
def J5(a:Arr):Nat:=LN (Arr.nu a)
def QbY(a:Arr)(b:Nat):List D:=[ZI (GI (Arr.nu a) b)]
def Qva(a:Arr):D:=D.sl N1 (J5 a) (fun i=>QbY a i) Mode.any
def Qz(a:Nat)(b:Arr):Prop:=SM a/\SM (Qva b)
def QiM(a:Arr):Int:=Arr.k a
def Qvb(a:Arr):D:=ZI (QiM a)
def Qg(a:Nat)(b:Arr):Prop:=SM a/\SM (Qvb b)
def Qe(a:Arr):Int:=(NI (J5 a))
def Qt(a:Arr):Int:=(8:Int)*Qe a
def QI(a b c d:Nat):Prop:=a≠b/\c≠b/\d≠b/\True
def Qb(a:Arr):Int:=(NI (Qx a))
def Qu(a:Arr):Int:=(80:Int)*Qb a
def Qi(a b c d e:Nat):Prop:=a≠b/\QI c b d e
def Qj(a b c d e f:Nat):Prop:=a≠b/\Qi c b d e f
def QbZ(a:Arr):Prop:=SM (QiM a)
def Qb0(a:Arr):Prop:=Int.toNat (Qd a)=J4 a
def Qb1(a:Arr):Prop:=Int.toNat (Qe a)=J5 a
def Qb2(a:Arr):Prop:=Int.toNat (Qb a)=Qx a
def QiN:D:=D.sl N1 N0 (fun _x=>[]) Mode.nil
def Qvc(a:Arr)(b:Nat):List D:=clR (Vr a) N0 b
def Qvd:Prop:=SM [ZI Z0]
def QiO:Prop:=SM N0/\(∀(i:Nat),i<N0->Cw (List D) [] [])/\True
def Vs(a:Arr):Prop:=SM (J4 a)
def Qb3(a:Arr)(b:Nat):List D:=[ZI (GI (Arr.sh a) b)]
def Qve(a:Arr):Prop:=∀(i:Nat),i<J4 a->SM (Qb3 a i)
def Qvf(a:Arr):Prop:=Vs a/\Qve a/\True
def Vt(a:Arr):Prop:=SM (J5 a)
def Qvg(a:Arr):Prop:=∀(i:Nat),i<J5 a->SM (QbY a i)
def Qvh(a:Arr):Prop:=Vt a/\Qvg a/\True
def J6(a:Arr):Prop:=SM (Qx a)
def ZT(a:Nat)(b:Arr):Prop:=a<Qx b
def Qvi(a b:Nat)(c:Arr):Prop:=SM a/\(SM Z0/\QiO/\QiO/\QiO/\True)/\SM b/\(QbZ c/\Qvf c/\Qvh c/\(J6 c/\(∀(i:Nat),ZT i c->SM (QiL c i))/\True)/\True)/\True
def Ql(a:Nat)(b:Arr)(c d e f g:Nat):Prop:=Qg a b/\SM c/\∃(x:(Nat×Nat)×Nat×Nat),True/\(c=x.2.2/\True)/\(c=x.2.2/\(QbZ b/\(d=x.1.1/\Qb0 b/\Qb0 b)/\(e=x.1.2/\Qb1 b/\Qb1 b)/\(f=x.2.1/\Qb2 b/\Qb2 b)/\True)/\f=x.2.1/\(Qb2 b/\Qb2 b/\∀(i:Nat),i<Int.toNat (Qb b)->[ZI Z0,QiN,QiN,QiN]=Qvc b i)/\e=x.1.2/\(Qb1 b/\Qb1 b/\∀(i:Nat),i<Int.toNat (Qe b)->Qvd)/\d=x.1.1/\(Qb0 b/\Qb0 b/\∀(i:Nat),i<Int.toNat (Qd b)->Qvd)/\Qvi g a b)/\True
def Qvj(a:Arr):D:=D.sl N1 (J4 a) (fun i=>Qb3 a i) Mode.any
def QA(a:Nat)(b:Arr):Prop:=SM a/\SM (Qvj b)
def QiP(a:Nat)(b:Arr):Prop:=a<=Qx b
def Qvk(a:Arr)(b c d:Nat):Prop:=QbZ a/\(SM b/\Vs a/\Vs a)/\(SM c/\Vt a/\Vt a)/\(SM d/\J6 a/\J6 a)/\True
def Qb4(a:Arr)(b c:Nat):List D:=clR (Vr a) b c
def Qvl(a:Nat)(b:Arr)(c d e:Nat):Prop:=SM a/\(Vt b/\Vt b/\Qvg b)/\SM c/\(Vs b/\Vs b/\Qve b)/\Qvi d e b
def Qb5(a:Arr)(b:Nat):Arr:=List.getD (Vr a) (Int.toNat (↑b:Int)) QbX
def Qvm(a:Arr)(b:Nat):List Int:=Arr.sh (Qb5 a b)
def Qvn(a:Arr)(b:Nat):Nat:=LN (Qvm a b)
def Qvo(a:Arr)(b:Nat):List Int:=Arr.nu (Qb5 a b)
def Qvp(a:Arr)(b:Nat):Nat:=LN (Qvo a b)
def Qvq(a:Arr)(b:Nat):List Arr:=Arr.it (Qb5 a b)
def Qvr(a:Arr)(b:Nat):Nat:=LN (Qvq a b)
def Qvs(a:Arr)(b:Nat):List D:=Arr.row (ZS a b)
def QPD(a:Nat)(b:Arr):D:=D.vs (15:Nat) a (Qx b) (Qx b) N4
def QiQ(a:D):Bool:=match a with | D.unk=>false | D.agg _cs=>false | D.tup _ds=>false | _x=>true
theorem BmZ(a : Arr)(ha : a.nu.length<=1000000 /\ a.it.length<=1000000 /\ a.sh.length<=1000000)(hc : ConOk Tryz.prog (Mj a.it)) :
  ACalls Tryz.prog 157 ((sCl Arr.row2 Arr.row2 (fun _=>True)).args a) ⟨[],[]⟩ (SpecR (sCl Arr.row2 Arr.row2 (fun _=>True)) a):=by
 refine Bg (A:=sCl Arr.row2 Arr.row2 (fun _=>True)) (x:=a) (E:=Ecl a) (eOk hc rfl) Tryz.func157 rfl (by kernel_rfl) rfl (by simp[sCl,Ecl,EC,E0]) ?_
 refine Bi (T :=
  ∀(x:Nat),True->∀(x_1:Nat),x≠x_1/\True->(SM x/\SM x/\SM x/\SM x/\Bc (Z0<=Qd a/\Qd a<=Qd a/\Qs a<=281474976710656/\Qd a<=9223372036854775807) (∀(x_2:Nat),x_1≠x_2/\x≠x_2/\True->Qy x a/\Qz x a/\Qg x a/\Bc (Z0<=Qe a/\Qe a<=Qe a/\Qt a<=281474976710656/\Qe a<=9223372036854775807) (∀(x_3:Nat),QI x_2 x_3 x_1 x->Qy x a/\Qg x a/\Bc (Z0<=Qb a/\Qb a<=Qb a/\Qu a<=281474976710656/\Qb a<=9223372036854775807) (∀(x_4:Nat),Qi x_3 x_4 x_2 x_1 x->Qg x a/\∀(x_5:Nat),Qj x_4 x_5 x_3 x_2 x_1 x->Ql x a x_5 x_2 x_3 x_4 x_1)/\∀(x_4:Nat),Qi x_3 x_4 x_2 x_1 x->Qy x a/\Qg x a/\Bc (Z0<=Qb a/\Qb a<=Qb a/\Qu a<=281474976710656/\Qb a<=9223372036854775807) (∀(x_5:Nat),Qj x_4 x_5 x_3 x_2 x_1 x->Ql x a x_4 x_2 x_3 x_5 x_1))/\Bc (Z0<=Qb a/\Qb a<=Qb a/\Qu a<=281474976710656/\Qb a<=9223372036854775807) (∀(x_3:Nat),QI x_2 x_3 x_1 x->Qz x a/\Qg x a/\Bc (Z0<=Qe a/\Qe a<=Qe a/\Qt a<=281474976710656/\Qe a<=9223372036854775807) (∀(x_4:Nat),Qi x_3 x_4 x_2 x_1 x->Qg x a/\∀(x_5:Nat),Qj x_4 x_5 x_3 x_2 x_1 x->Ql x a x_5 x_2 x_4 x_3 x_1)/\∀(x_4:Nat),Qi x_3 x_4 x_2 x_1 x->Qz x a/\Qg x a/\Bc (Z0<=Qe a/\Qe a<=Qe a/\Qt a<=281474976710656/\Qe a<=9223372036854775807) (∀(x_5:Nat),Qj x_4 x_5 x_3 x_2 x_1 x->Ql x a x_4 x_2 x_5 x_3 x_1))/\∀(x_3:Nat),QI x_2 x_3 x_1 x->Qy x a/\Qz x a/\Qg x a/\Bc (Z0<=Qe a/\Qe a<=Qe a/\Qt a<=281474976710656/\Qe a<=9223372036854775807) (∀(x_4:Nat),Qi x_3 x_4 x_2 x_1 x->Qy x a/\Qg x a/\Bc (Z0<=Qb a/\Qb a<=Qb a/\Qu a<=281474976710656/\Qb a<=9223372036854775807) (∀(x_5:Nat),Qj x_4 x_5 x_3 x_2 x_1 x->Ql x a x_3 x_2 x_4 x_5 x_1))/\Bc (Z0<=Qb a/\Qb a<=Qb a/\Qu a<=281474976710656/\Qb a<=9223372036854775807) (∀(x_4:Nat),Qi x_3 x_4 x_2 x_1 x->Qz x a/\Qg x a/\Bc (Z0<=Qe a/\Qe a<=Qe a/\Qt a<=281474976710656/\Qe a<=9223372036854775807) (∀(x_5:Nat),Qj x_4 x_5 x_3 x_2 x_1 x->Ql x a x_3 x_2 x_5 x_4 x_1)))/\Bc (Z0<=Qe a/\Qe a<=Qe a/\Qt a<=281474976710656/\Qe a<=9223372036854775807) (∀(x_2:Nat),x_1≠x_2/\x≠x_2/\True->Qy x a/\QA x a/\Qg x a/\Bc (Z0<=Qd a/\Qd a<=Qd a/\Qs a<=281474976710656/\Qd a<=9223372036854775807) (∀(x_3:Nat),QI x_2 x_3 x_1 x->Qy x a/\Qg x a/\Bc (Z0<=Qb a/\Qb a<=Qb a/\Qu a<=281474976710656/\Qb a<=9223372036854775807) (∀(x_4:Nat),Qi x_3 x_4 x_2 x_1 x->Qg x a/\∀(x_5:Nat),Qj x_4 x_5 x_3 x_2 x_1 x->Ql x a x_5 x_3 x_2 x_4 x_1)/\∀(x_4:Nat),Qi x_3 x_4 x_2 x_1 x->Qy x a/\Qg x a/\Bc (Z0<=Qb a/\Qb a<=Qb a/\Qu a<=281474976710656/\Qb a<=9223372036854775807) (∀(x_5:Nat),Qj x_4 x_5 x_3 x_2 x_1 x->Ql x a x_4 x_3 x_2 x_5 x_1))/\Bc (Z0<=Qb a/\Qb a<=Qb a/\Qu a<=281474976710656/\Qb a<=9223372036854775807) (∀(x_3:Nat),QI x_2 x_3 x_1 x->QA x a/\Qg x a/\Bc (Z0<=Qd a/\Qd a<=Qd a/\Qs a<=281474976710656/\Qd a<=9223372036854775807) (∀(x_4:Nat),Qi x_3 x_4 x_2 x_1 x->Qg x a/\∀(x_5:Nat),Qj x_4 x_5 x_3 x_2 x_1 x->Ql x a x_5 x_4 x_2 x_3 x_1)/\∀(x_4:Nat),Qi x_3 x_4 x_2 x_1 x->QA x a/\Qg x a/\Bc (Z0<=Qd a/\Qd a<=Qd a/\Qs a<=281474976710656/\Qd a<=9223372036854775807) (∀(x_5:Nat),Qj x_4 x_5 x_3 x_2 x_1 x->Ql x a x_4 x_5 x_2 x_3 x_1))/\∀(x_3:Nat),QI x_2 x_3 x_1 x->Qy x a/\QA x a/\Qg x a/\Bc (Z0<=Qd a/\Qd a<=Qd a/\Qs a<=281474976710656/\Qd a<=9223372036854775807) (∀(x_4:Nat),Qi x_3 x_4 x_2 x_1 x->Qy x a/\Qg x a/\Bc (Z0<=Qb a/\Qb a<=Qb a/\Qu a<=281474976710656/\Qb a<=9223372036854775807) (∀(x_5:Nat),Qj x_4 x_5 x_3 x_2 x_1 x->Ql x a x_3 x_4 x_2 x_5 x_1))/\Bc (Z0<=Qb a/\Qb a<=Qb a/\Qu a<=281474976710656/\Qb a<=9223372036854775807) (∀(x_4:Nat),Qi x_3 x_4 x_2 x_1 x->QA x a/\Qg x a/\Bc (Z0<=Qd a/\Qd a<=Qd a/\Qs a<=281474976710656/\Qd a<=9223372036854775807) (∀(x_5:Nat),Qj x_4 x_5 x_3 x_2 x_1 x->Ql x a x_3 x_5 x_2 x_4 x_1)))/\Bc (Z0<=Qb a/\Qb a<=Qb a/\Qu a<=281474976710656/\Qb a<=9223372036854775807) (∀(x_2:Nat),x_1≠x_2/\x≠x_2/\True->Qz x a/\QA x a/\Qg x a/\Bc (Z0<=Qd a/\Qd a<=Qd a/\Qs a<=281474976710656/\Qd a<=9223372036854775807) (∀(x_3:Nat),QI x_2 x_3 x_1 x->Qz x a/\Qg x a/\Bc (Z0<=Qe a/\Qe a<=Qe a/\Qt a<=281474976710656/\Qe a<=9223372036854775807) (∀(x_4:Nat),Qi x_3 x_4 x_2 x_1 x->Qg x a/\∀(x_5:Nat),Qj x_4 x_5 x_3 x_2 x_1 x->Ql x a x_5 x_3 x_4 x_2 x_1)/\∀(x_4:Nat),Qi x_3 x_4 x_2 x_1 x->Qz x a/\Qg x a/\Bc (Z0<=Qe a/\Qe a<=Qe a/\Qt a<=281474976710656/\Qe a<=9223372036854775807) (∀(x_5:Nat),Qj x_4 x_5 x_3 x_2 x_1 x->Ql x a x_4 x_3 x_5 x_2 x_1))/\Bc (Z0<=Qe a/\Qe a<=Qe a/\Qt a<=281474976710656/\Qe a<=9223372036854775807) (∀(x_3:Nat),QI x_2 x_3 x_1 x->QA x a/\Qg x a/\Bc (Z0<=Qd a/\Qd a<=Qd a/\Qs a<=281474976710656/\Qd a<=9223372036854775807) (∀(x_4:Nat),Qi x_3 x_4 x_2 x_1 x->Qg x a/\∀(x_5:Nat),Qj x_4 x_5 x_3 x_2 x_1 x->Ql x a x_5 x_4 x_3 x_2 x_1)/\∀(x_4:Nat),Qi x_3 x_4 x_2 x_1 x->QA x a/\Qg x a/\Bc (Z0<=Qd a/\Qd a<=Qd a/\Qs a<=281474976710656/\Qd a<=9223372036854775807) (∀(x_5:Nat),Qj x_4 x_5 x_3 x_2 x_1 x->Ql x a x_4 x_5 x_3 x_2 x_1))/\∀(x_3:Nat),QI x_2 x_3 x_1 x->Qz x a/\QA x a/\Qg x a/\Bc (Z0<=Qd a/\Qd a<=Qd a/\Qs a<=281474976710656/\Qd a<=9223372036854775807) (∀(x_4:Nat),Qi x_3 x_4 x_2 x_1 x->Qz x a/\Qg x a/\Bc (Z0<=Qe a/\Qe a<=Qe a/\Qt a<=281474976710656/\Qe a<=9223372036854775807) (∀(x_5:Nat),Qj x_4 x_5 x_3 x_2 x_1 x->Ql x a x_3 x_4 x_5 x_2 x_1))/\Bc (Z0<=Qe a/\Qe a<=Qe a/\Qt a<=281474976710656/\Qe a<=9223372036854775807) (∀(x_4:Nat),Qi x_3 x_4 x_2 x_1 x->QA x a/\Qg x a/\Bc (Z0<=Qd a/\Qd a<=Qd a/\Qs a<=281474976710656/\Qd a<=9223372036854775807) (∀(x_5:Nat),Qj x_4 x_5 x_3 x_2 x_1 x->Ql x a x_3 x_5 x_4 x_2 x_1)))/\∀(x_2:Nat),x_1≠x_2/\x≠x_2/\True->Qy x a/\Qz x a/\QA x a/\Qg x a/\Bc (Z0<=Qd a/\Qd a<=Qd a/\Qs a<=281474976710656/\Qd a<=9223372036854775807) (∀(x_3:Nat),QI x_2 x_3 x_1 x->Qy x a/\Qz x a/\Qg x a/\Bc (Z0<=Qe a/\Qe a<=Qe a/\Qt a<=281474976710656/\Qe a<=9223372036854775807) (∀(x_4:Nat),Qi x_3 x_4 x_2 x_1 x->Qy x a/\Qg x a/\Bc (Z0<=Qb a/\Qb a<=Qb a/\Qu a<=281474976710656/\Qb a<=9223372036854775807) (∀(x_5:Nat),Qj x_4 x_5 x_3 x_2 x_1 x->Ql x a x_2 x_3 x_4 x_5 x_1))/\Bc (Z0<=Qb a/\Qb a<=Qb a/\Qu a<=281474976710656/\Qb a<=9223372036854775807) (∀(x_4:Nat),Qi x_3 x_4 x_2 x_1 x->Qz x a/\Qg x a/\Bc (Z0<=Qe a/\Qe a<=Qe a/\Qt a<=281474976710656/\Qe a<=9223372036854775807) (∀(x_5:Nat),Qj x_4 x_5 x_3 x_2 x_1 x->Ql x a x_2 x_3 x_5 x_4 x_1)))/\Bc (Z0<=Qe a/\Qe a<=Qe a/\Qt a<=281474976710656/\Qe a<=9223372036854775807) (∀(x_3:Nat),QI x_2 x_3 x_1 x->Qy x a/\QA x a/\Qg x a/\Bc (Z0<=Qd a/\Qd a<=Qd a/\Qs a<=281474976710656/\Qd a<=9223372036854775807) (∀(x_4:Nat),Qi x_3 x_4 x_2 x_1 x->Qy x a/\Qg x a/\Bc (Z0<=Qb a/\Qb a<=Qb a/\Qu a<=281474976710656/\Qb a<=9223372036854775807) (∀(x_5:Nat),Qj x_4 x_5 x_3 x_2 x_1 x->Ql x a x_2 x_4 x_3 x_5 x_1))/\Bc (Z0<=Qb a/\Qb a<=Qb a/\Qu a<=281474976710656/\Qb a<=9223372036854775807) (∀(x_4:Nat),Qi x_3 x_4 x_2 x_1 x->QA x a/\Qg x a/\Bc (Z0<=Qd a/\Qd a<=Qd a/\Qs a<=281474976710656/\Qd a<=9223372036854775807) (∀(x_5:Nat),Qj x_4 x_5 x_3 x_2 x_1 x->Ql x a x_2 x_5 x_3 x_4 x_1)))/\Bc (Z0<=Qb a/\Qb a<=Qb a/\Qu a<=281474976710656/\Qb a<=9223372036854775807) (∀(x_3:Nat),QI x_2 x_3 x_1 x->Qz x a/\QA x a/\Qg x a/\Bc (Z0<=Qd a/\Qd a<=Qd a/\Qs a<=281474976710656/\Qd a<=9223372036854775807) (∀(x_4:Nat),Qi x_3 x_4 x_2 x_1 x->Qz x a/\Qg x a/\Bc (Z0<=Qe a/\Qe a<=Qe a/\Qt a<=281474976710656/\Qe a<=9223372036854775807) (∀(x_5:Nat),Qj x_4 x_5 x_3 x_2 x_1 x->Ql x a x_2 x_4 x_5 x_3 x_1))/\Bc (Z0<=Qe a/\Qe a<=Qe a/\Qt a<=281474976710656/\Qe a<=9223372036854775807) (∀(x_4:Nat),Qi x_3 x_4 x_2 x_1 x->QA x a/\Qg x a/\Bc (Z0<=Qd a/\Qd a<=Qd a/\Qs a<=281474976710656/\Qd a<=9223372036854775807) (∀(x_5:Nat),Qj x_4 x_5 x_3 x_2 x_1 x->Ql x a x_2 x_5 x_4 x_3 x_1))))/\∀(x_2:(Nat×Nat)×Nat×Nat),True->SM x_2.2.2/\SM x/\SM x_2.1.1/\Vs a/\Vs a/\SM x_2.2.2/\SM x/\SM x_2.1.2/\Vt a/\Vt a/\SM x/\(∃(x_3:Nat),QiP x_3 a/\(Z0=(↑x_3:Int)/\True)/\(SM x_2.2.2/\Qvk a x_2.1.1 x_2.1.2 x_2.2.1/\SM x_2.2.1/\(J6 a/\J6 a/\∀(i:Nat),ZT i a->Qvc a i=Qb4 a x_3 i)/\Qvl x_2.1.2 a x_2.1.1 x_1 x)/\True)/\∀(x_3:Nat),QiP x_3 a->ifB (decide ((↑x_3:Int)<Qb a)) (Bc (Z0<=(↑x_3:Int)/\(↑x_3:Int)<Qb a) (∀(x_4:Nat),x_2.2.2≠x_4/\Qj x_2.2.1 x_4 x_2.1.2 x_2.1.1 x_1 x->SM x_4/\SM x_2.2.2/\SM x_4/\∃(x_5:Arr),((Arr.k (Qb5 a x_3)=QiM x_5/\(Qvn a x_3=J4 x_5/\(∀(i:Nat),i<Qvn a x_3->[ZI (GI (Qvm a x_3) i)]=Qb3 x_5 i)/\True)/\(Qvp a x_3=J5 x_5/\(∀(i:Nat),i<Qvp a x_3->[ZI (GI (Qvo a x_3) i)]=QbY x_5 i)/\True)/\(Qvr a x_3=Qx x_5/\(∀(i:Nat),i<Qvr a x_3->Arr.row (List.getD (Qvq a x_3) i QbX)=Qvs x_5 i)/\True)/\True)/\True)/\(True/\True)/\x_5∈Vr a/\∀(y:Unit),True->(SM x_2.2.2/\SM (QPD x_2.2.1 a))/\Bc (Z0<=(↑x_3:Int)/\(↑x_3:Int)<Qb a) (SM x_2.2.1/\Bc (Int.toNat (↑x_3:Int)<Qx a) ((SM (D.ref N0 x N0)/\SM (D.ref (max (N0+N1) N0) x_1 N0)/\SM (D.ref (17:Nat) x_2.2.2 N0)/\Qu9 a/\SM (ZI (Qb a))/\True)/\∃(y:Nat),QiP y a/\Qx a-y<Qx a-x_3/\(IntKind.wrap IntKind.i64 ((↑x_3:Int)+Z1)=(↑y:Int)/\True)/\(SM x_2.2.2/\Qvk a x_2.1.1 x_2.1.2 x_2.2.1/\SM x_2.2.1/\(J6 a/\J6 a/\∀(i:Nat),ZT i a->OQ (clR (Vr a) x_3) (Int.toNat (↑x_3:Int)) (List.set (List.set (List.set (List.set (clR (Vr a) x_3 (Int.toNat (↑x_3:Int))) N0 (Qvb x_5)) (N0+N1) (Qvj x_5)) N2 (Qva x_5)) (3:Nat) (D.sl N4 (Qx x_5) (fun i=>Qvs x_5 i) Mode.any)) i=Qb4 a y i)/\Qvl x_2.1.2 a x_2.1.1 x_1 x)/\True)))) (SM x_2.1.1/\Vs a/\Bc (J4 a<=J4 a) ((∀(i:Nat),i<J4 a->(List.all (Qb3 a i) fun (x:D)=>QiQ x)=true)/\∀(t:Nat),SM x_2.1.2/\Vt a/\Bc (J5 a<=J5 a) ((∀(i:Nat),i<J5 a->(List.all (QbY a i) fun (x:D)=>QiQ x)=true)/\∀(t:Nat),SM x_2.2.1/\J6 a/\Bc (Qx a<=Qx a) ((∀(i:Nat),ZT i a->(List.all (Qb4 a x_3 i) fun (x:D)=>QiQ x)=true)/\∀(t:Nat),SM x_2.2.2/\SM x_1/\(SM x_1/\True)/\∃(y:Unit),True/\(QbZ a/\Qvf a/\Qvh a/\(J6 a/\(∀(i:Nat),ZT i a->Qb4 a x_3 i=QiL a i)/\True)/\True)/\True/\True))))) (by kernel_rfl) ?_
 delta DA GI LN N0 N1 N2 N4 NI SI SM Z0 Z1 ZI J4 Qd QiL QPC Qu9 Qy J5 QbY Qva Qz QiM Qvb Qs Qg Qe Qt QI Qb Qu Qi Qj QbZ Qb0 Vr Qb1 Qb2 QiN Qvc Qvd QiO Vs Qb3 Qve Qvf Qx Vt Qvg Qvh J6 ZT Qvi Ql Qvj QA QiP QbX Qvk Qb4 Qvl Qb5 Qvm Qvn Qvo Qvp Qvq Qvr ZS Qvs QPD QiQ QPA QPB Qu8
 have da:(default:Arr)=Arr.mk 0 [] [] []:=rfl
 simp only[<- da,eq_self,implies_true,Int.toNat_natCast,Bf,Bd,decide_eq_true_eq,decide_eq_false_iff_not,true_and,and_true,exists_const,forall_const]
 obtain ⟨l1,l2,l3⟩:=ha
 refine fun x x1 hx=>⟨?_,?_⟩
 ·repeat' (first | (refine⟨((_,_),_,_),rfl,rfl,⟨rfl,rfl,rfl⟩,rfl,fun _ _=>rfl,rfl,rfl⟩) | (refine And.intro ?_ ?_) | intro _ | omega)
 refine fun y=>⟨⟨0,Nat.zero_le _,rfl,fun _ _=>rfl⟩,fun i hi=>⟨fun hlt=>⟨⟨by omega,hlt⟩,fun x4 _=>⟨a.it.getD i default,⟨rfl,⟨rfl,fun _ _=>rfl⟩,⟨rfl,fun _ _=>rfl⟩,rfl,fun _ _=>rfl⟩,Cg (by omega),⟨by omega,hlt⟩,by omega,i+1,by omega,by omega,Ba (by omega) (by omega),fun j hj=>?_⟩⟩,fun hge=>⟨Nat.le_refl _,fun _ _=>rfl,Nat.le_refl _,fun _ _=>rfl,Nat.le_refl _,fun j hj=>?_,fun j hj=>?_⟩⟩⟩
 ·rw[Bfe (its:=a.it) (i:=i) (j:=i) (by omega)]
  by_cases e:j=i
  ·subst e
   rw[RB (by omega)]
   simp only[OQ,if_true]
   rfl
  ·simp only[OQ,e,if_false]
   by_cases e2:j<i
   ·rw[RB e2,RB (by omega)]
   ·rw[Bfe e2,Bfe (by omega)]
 ·rw[RB (by omega)];rfl
 ·rw[RB (by omega)];rfl
theorem Uj(a:Arr):wkL a.row2 a.row1:=by
 simp only[Arr.row1,Arr.row2,gsl,isl,wkL,wkD,Bn,Bb]
 exact⟨⟨by simp[kEq],trivial⟩,⟨by simp,trivial,fun i _=>by simp[kEq],by simp[BG]⟩,⟨by simp,trivial,fun i _=>by simp[kEq],by simp[BG]⟩,⟨by simp,trivial,fun i _=>Bci _,by simp[BG]⟩,trivial⟩
theorem Bam:∀(l:List Arr) (d w:Int) (r:Int×Int),C7 l d w=some r->∀x∈l,(Bw x).1=0
 | [],_,_,_,_,x,hx=>by cases hx
 |y::l,d,w,r,h,x,hx=>by
  rw[C7] at h
  split at h
  ·cases h
  ·rename_i hy
   rcases List.mem_cons.1 hx with rfl | hx
   ·simpa using hy
   ·exact Bam l _ _ r h x hx
theorem EP{k:Int}{s n:List Int}{is:List Arr}(h:(Bw (.mk k s n is)).1=0):s.length<=8/\n.length<=65536/\is.length<=65536/\∀x∈is,(Bw x).1=0:=by
 rw[Bw] at h
 by_cases h0:B8 k s n.length is.length≠0
 ·rw[if_pos h0] at h;exact (h0 h).elim
 ·rw[if_neg h0] at h
  have h0:B8 k s n.length is.length=0:=by simpa using h0
  have hs:=G9 h0
  refine⟨Blz h0,hs.1,hs.2,?_⟩
  by_cases hb:n.any (E9 k)=true
  ·rw[if_pos hb] at h;simp at h
  ·rw[if_neg hb] at h
   cases hr:C7 is 0 ((n.length:Int)+is.length) with
   |none=>rw[hr] at h;simp at h
   |some r=>exact Bam _ _ _ r hr
theorem BeS:∀(a:Arr),(Bw a).1=0->ACalls Tryz.prog 157 [.agg a.row1] ⟨[],[]⟩ (SpecR (sCl Arr.row1 Arr.row1 (fun _=>True)) a)
 |.mk k s n is,h=>by
  obtain ⟨h1,h2,h3,h4⟩:=EP h
  have hc:ConOk Tryz.prog (Mj (Arr.mk k s n is).it):=by
   intro k' ds S A hk
   unfold Mj at hk
   split at hk
   ·injection hk with hk;subst hk
    refine ConOk.plain (fun (b:Arr) hb=>?_) rfl rfl
    have hb':b∈is:=hb
    exact (BeS b (h4 b hb')).mono fun _ _ ⟨y,q1,q2,q3⟩=>⟨y,q1,q2,q3⟩
   ·cases hk
  have hm:=BmZ (.mk k s n is) ⟨by show n.length<=_;omega,by show is.length<=_;omega,by show s.length<=_;omega⟩ hc
  have hm2:ACalls Tryz.prog 157 [.agg (Arr.mk k s n is).row1] ⟨[],[]⟩ (SpecR (sCl Arr.row2 Arr.row2 (fun _=>True)) (.mk k s n is)):=by
   refine ACalls.wkArgs hm ?_
   simp only[sCl,wkL,wkD]
   exact⟨GP _,trivial⟩
  refine ACalls.wkEnd hm2 fun r S' ⟨y,q1,q2,q3⟩=>?_
  subst q2 q3
  refine⟨.ret (.agg (Arr.mk k s n is).row1),fun C e he=>?_,⟨(),trivial,rfl,rfl⟩⟩
  cases e with
  |returned v =>
   refine IJ (.agg (Arr.mk k s n is).row2) _ ?_ C v he
   simp only[wkD]
   exact Uj _
  |panicked _=>exact he.elim
  |outgrown=>exact he.elim
termination_by a=>SizeOf.sizeOf a
decreasing_by
 have:=List.sizeOf_lt_of_mem hb'
 simp;omega
def Er(k:Int):Arr:=if k=1 then .mk 1 [] [0] [] else if k=2 then .mk 2 [] [32] [] else if k=3 then .mk 3 [] [] [.mk 1 [0] [] []] else .mk 0 [] [] []
def Iz(w:Nat):D:=.sl w 0 (fun _=>[]) .nil
def EJ(k:Int):D :=
 if k=1 then .agg [.int .i64 1,Iz 1,.sl 1 1 (fun i=>[[D.int .i64 0]].getD i []) .full,Iz 1]
 else if k=2 then .agg [.int .i64 2,Iz 1,.sl 1 1 (fun i=>[[D.int .i64 32]].getD i []) .full,Iz 1]
 else if k=3 then .agg [.int .i64 3,Iz 1,Iz 1,.sl 4 1 (fun i=>[[D.int .i64 1,.sl 1 1 (fun i=>[[D.int .i64 0]].getD i []) .full,Iz 1,Iz 1]].getD i []) .full]
 else .agg [.int .i64 0,Iz 1,Iz 1,Iz 1]
noncomputable def Efl:Senv:=EC Ul 20 3 [4,5,9,13] (fun _=>([],[]))
def V4:D:=D.sl N1 N0 (fun _x=>[]) Mode.nil
def Qvt:D:=D.sl N1 N1 (fun i=>List.getD [[ZI Z0]] i []) Mode.full
def QiR:List D:=[V4]
def Qb6(a:Int):D:=EJ a
def Qvu:List D:=V4::QiR
theorem Bni(k : Int)(ns nn ni : Nat)(f g h : Nat -> List D) :
  ACalls Tryz.prog 139 [.agg [.int .i64 k,.sl 1 ns f .any,.sl 1 nn g .any,.sl 4 ni h .any]] ⟨[],[]⟩ (SpecR (sC [.agg [.int .i64 k,.sl 1 ns f .any,.sl 1 nn g .any,.sl 4 ni h .any]] (EJ k)) ()):=by
 refine Bg (A:=sC _ _) (x:=()) (E:=Efl) (eOk IQ rfl) Tryz.func139 rfl (by kernel_rfl) rfl (by simp[sC,Efl,EC,E0]) ?_
 refine Bi (T :=
  ∀(x:Nat),True->∀(x_1:Nat),x≠x_1/\True->SM x/\ifB (k==Z1) (SM x_1/\(SM x_1/\True)/\∃(y:Unit),True/\Bn (D.agg (ZI Z1::V4::Qvt::QiR)) (Qb6 k)/\True/\True) (ifB (k==2) (SM x_1/\(SM x_1/\True)/\∃(y:Unit),True/\Bn (D.agg (ZI 2::V4::D.sl N1 N1 (fun i=>List.getD [[ZI 32]] i []) Mode.full::QiR)) (Qb6 k)/\True/\True) (ifB (k==3) (SM x_1/\(SM x_1/\True)/\∃(y:Unit),True/\Bn (D.agg [ZI 3,V4,V4,D.sl N4 N1 (fun i=>List.getD [ZI Z1::Qvt::Qvu] i []) Mode.full]) (Qb6 k)/\True/\True) (SM x_1/\(SM x_1/\True)/\∃(y:Unit),True/\Bn (D.agg (ZI Z0::V4::Qvu)) (Qb6 k)/\True/\True)))) (by kernel_rfl) ?_
 delta N0 N1 N4 SM Z0 Z1 ZI V4 Qvt QiR Qb6 Qvu
 simp only[Bf,true_and,and_true,beq_iff_eq,beq_eq_false_iff_ne,ne_eq,exists_const,forall_const]
 intro _ _ _
 refine⟨fun h=>?_,fun h1=>⟨fun h=>?_,fun h2=>⟨fun h=>?_,fun h3=>?_⟩⟩⟩
 ·subst h;exact Bp _
 ·subst h;exact Bp _
 ·subst h;exact Bp _
 ·simp only[EJ,if_neg h1,if_neg h2,if_neg h3];exact Bp _
noncomputable def Erfl:Senv:=EC Ul 20 3 [4,5,9,13] (fun _=>([],[]))
def V5:D:=D.sl N1 N0 (fun _x=>[]) Mode.nil
def Qvv:D:=D.sl N1 N1 (fun i=>List.getD [[ZI Z0]] i []) Mode.full
def QiS:List D:=[V5]
def Qb7(a:Int):D:=EJ a
def Qvw:List D:=V5::QiS
theorem Bi8(k : Int)(ns nn ni : Nat)(f g h : Nat -> List D) :
  ACalls Tryz.prog 167 [.agg [.int .i64 k,.sl 1 ns f .any,.sl 1 nn g .any,.sl 4 ni h .any]] ⟨[],[]⟩ (SpecR (sC [.agg [.int .i64 k,.sl 1 ns f .any,.sl 1 nn g .any,.sl 4 ni h .any]] (EJ k)) ()):=by
 refine Bg (A:=sC _ _) (x:=()) (E:=Erfl) (eOk IQ rfl) Tryz.func167 rfl (by kernel_rfl) rfl (by simp[sC,Erfl,EC,E0]) ?_
 refine Bi (T :=
  ∀(x:Nat),True->∀(x_1:Nat),x≠x_1/\True->SM x/\ifB (k==Z1) (SM x_1/\(SM x_1/\True)/\∃(y:Unit),True/\Bn (D.agg (ZI Z1::V5::Qvv::QiS)) (Qb7 k)/\True/\True) (ifB (k==2) (SM x_1/\(SM x_1/\True)/\∃(y:Unit),True/\Bn (D.agg (ZI 2::V5::D.sl N1 N1 (fun i=>List.getD [[ZI 32]] i []) Mode.full::QiS)) (Qb7 k)/\True/\True) (ifB (k==3) (SM x_1/\(SM x_1/\True)/\∃(y:Unit),True/\Bn (D.agg [ZI 3,V5,V5,D.sl N4 N1 (fun i=>List.getD [ZI Z1::Qvv::Qvw] i []) Mode.full]) (Qb7 k)/\True/\True) (SM x_1/\(SM x_1/\True)/\∃(y:Unit),True/\Bn (D.agg (ZI Z0::V5::Qvw)) (Qb7 k)/\True/\True)))) (by kernel_rfl) ?_
 delta N0 N1 N4 SM Z0 Z1 ZI V5 Qvv QiS Qb7 Qvw
 simp only[Bf,true_and,and_true,beq_iff_eq,beq_eq_false_iff_ne,ne_eq,exists_const,forall_const]
 intro _ _ _
 refine⟨fun h=>?_,fun h1=>⟨fun h=>?_,fun h2=>⟨fun h=>?_,fun h3=>?_⟩⟩⟩
 ·subst h;exact Bp _
 ·subst h;exact Bp _
 ·subst h;exact Bp _
 ·simp only[EJ,if_neg h1,if_neg h2,if_neg h3];exact Bp _
theorem Bbx{α:Type}[Inhabited α](w:Nat)(g:α->List D):wkD (Iz 1) (gsl w g []):=by
 simp[Iz,gsl,wkD,chk,BG,M9]
theorem Gt:wkD (Iz 1) (isl [] .any):=by
 simp[Iz,isl,wkD,chk,BG]
theorem Bng:wkD (Iz 1) (.sl 4 ([]:List (List D)).length (fun i=>([]:List (List D)).getD i []) .any):=by
 simp[Iz,wkD,chk,BG,M9]
theorem Bbn(z:Int):wkD (.sl 1 1 (fun i=>[[D.int .i64 z]].getD i []) .full) (isl [z] .any):=by
 simp only[isl,wkD,Bb]
 refine⟨by simp,by simp,fun i hi=>?_,by simp[BG]⟩
 have:i=0:=by omega
 subst this
 exact Be _
theorem BgI(k:Int):wkD (EJ k) (.agg (Er k).row1):=by
 unfold EJ Er
 split
 ·simp only[wkD,wkL,Arr.row1,Arr.k,Arr.sh,Arr.nu,Arr.it]
  exact⟨Bp _,Gt,Bbn _,Bbx _ _,trivial⟩
 split
 ·simp only[wkD,wkL,Arr.row1,Arr.k,Arr.sh,Arr.nu,Arr.it]
  exact⟨Bp _,Gt,Bbn _,Bbx _ _,trivial⟩
 split
 ·simp only[wkD,wkL,Arr.row1,Arr.k,Arr.sh,Arr.nu,Arr.it]
  refine⟨Bp _,Gt,Gt,?_,trivial⟩
  simp only[gsl,wkD,Bb]
  refine⟨by simp,by simp,fun i hi=>?_,by simp[BG]⟩
  have:i=0:=by omega
  subst this
  simp only[List.getD_cons_zero,Arr.row,wkL,wkD,OZ]
  exact⟨Bp _,Bbn _,Gt,Bng,trivial⟩
 ·simp only[wkD,wkL,Arr.row1,Arr.k,Arr.sh,Arr.nu,Arr.it]
  exact⟨Bp _,Gt,Gt,Bbx _ _,trivial⟩
theorem Bgo{k:Nat}{ds:List D}{d d':D}(h:ACalls Tryz.prog k ds ⟨[],[]⟩ (SpecR (sC ds d) ()))(hw:wkD d d'):ACalls Tryz.prog k ds ⟨[],[]⟩ (SpecR (sC ds d') ()):=by
 refine ACalls.wkEnd h fun r S' ⟨y,q1,q2,q3⟩=>?_
 subst q2 q3
 refine⟨.ret d',fun C e he=>?_,⟨(),trivial,rfl,rfl⟩⟩
 cases e with
 |returned v=>exact IJ d d' hw C v he
 |panicked _=>exact he.elim
 |outgrown=>exact he.elim
theorem Bit(a:Arr):ACalls Tryz.prog 167 [.agg a.row1] ⟨[],[]⟩ (SpecR (sC [.agg a.row1] (.agg (Er a.k).row1)) ()):=Bgo (Bi8 a.k _ _ _ _ _ _) (BgI a.k)
def atA(a:Arr)(i:Nat):Arr:=if a.k=3 then .mk 3 [] [] [a.it.getD i default] else .mk a.k [] [a.nu.getD i 0] []
def atD(a:Arr)(i:Nat):D :=
 if a.k=3 then .agg [.int .i64 a.k,Iz 1,Iz 1,.sl 4 1 (fun j=>[(a.it.getD i default).row1].getD j []) .full]
 else .agg [.int .i64 a.k,Iz 1,.sl 1 1 (fun j=>[[D.int .i64 (a.nu.getD i 0)]].getD j []) .full,Iz 1]
noncomputable def Eat(a:Arr):Senv:=EC (Mj a.it) 36 3 [4,12,16] (fun id=>match id with | 4=>([0,1,2,3,4,5,6,7,8,9,10],[7,8,10]) | 5=>([0,1,2,3,4,5,6,7,8,9],[7,9]) | _=>([],[]))
def V6(a:Arr):Int:=Arr.k a
def QiT(a:Arr):List Int:=Arr.nu a
def Qb8(a:Arr):Nat:=LN (QiT a)
def X8:D:=D.sl N1 N0 (fun _x=>[]) Mode.nil
def Qvx:List D:=[X8]
def QiU(a:Nat)(b:Arr)(c:Nat):Prop:=SM a/\(SM a/\True)/\∃(_y:Unit),True/\Bn (D.agg (ZI Z0::X8::X8::Qvx)) (atD b c)/\True/\True
def Qb9(a:Arr):List Arr:=Arr.it a
def Qca(a:Arr):Nat:=LN (Qb9 a)
def QiV:Arr:=DA
def Qcb(a:Arr)(b:Nat):Arr:=List.getD (Qb9 a) (Int.toNat (↑b:Int)) QiV
def Qvy(a:Arr)(b:Nat):List Int:=Arr.sh (Qcb a b)
def Qvz(a:Arr)(b:Nat):Nat:=LN (Qvy a b)
def QvA(a:Arr)(b:Nat):List D:=[ZI (GI (Arr.sh a) b)]
def QvB(a:Arr)(b:Nat):List Int:=Arr.nu (Qcb a b)
def QvC(a:Arr)(b:Nat):Nat:=LN (QvB a b)
def QvD(a:Arr)(b:Nat):List D:=[ZI (GI (QiT a) b)]
def QvE(a:Arr)(b:Nat):List Arr:=Arr.it (Qcb a b)
def QvF(a:Arr)(b:Nat):Nat:=LN (QvE a b)
def QvG(a:Arr)(b:Nat):List D:=Arr.row (List.getD (Qb9 a) b QiV)
def Qcc(a:Arr):D:=ZI (V6 a)
def QiW(a:Nat)(b:Arr):Prop:=SM a/\SM (Qcc b)
def QvH(a:Nat)(b:Arr)(c d:Nat):Prop:=SM a/\ifB (V6 b==3) (SM a/\SM a/\Bc (Z0<=(↑c:Int)/\(↑c:Int)<(NI (Qca b))) (∃(x:Arr),((Arr.k (Qcb b c)=V6 x/\(Qvz b c=LN (Arr.sh x)/\(∀(i:Nat),i<Qvz b c->[ZI (GI (Qvy b c) i)]=QvA x i)/\True)/\(QvC b c=Qb8 x/\(∀(i:Nat),i<QvC b c->[ZI (GI (QvB b c) i)]=QvD x i)/\True)/\(QvF b c=Qca x/\(∀(i:Nat),i<QvF b c->Arr.row (List.getD (QvE b c) i QiV)=QvG x i)/\True)/\True)/\True)/\(True/\True)/\x∈Qb9 b/\∀(_y:Unit),True->QiW a b/\QiW a b/\SM d/\(SM d/\True)/\∃(_y:Unit),True/\Bn (D.agg [Qcc b,X8,X8,D.sl N4 N1 (fun i=>List.getD [[Qcc x,D.sl N1 (LN (Arr.sh x)) (fun i=>QvA x i) Mode.any,D.sl N1 (Qb8 x) (fun i=>QvD x i) Mode.any,D.sl N4 (Qca x) (fun i=>QvG x i) Mode.any]] i []) Mode.full]) (atD b c)/\True/\True)) (SM a/\SM a/\Bc (Z0<=(↑c:Int)/\(↑c:Int)<(NI (Qb8 b))) (QiW a b/\SM d/\(SM d/\True)/\∃(_y:Unit),True/\Bn (D.agg (Qcc b::X8::D.sl N1 N1 (fun i=>List.getD [[ZI (GI (QiT b) (Int.toNat (↑c:Int)))]] i []) Mode.full::Qvx)) (atD b c)/\True/\True))
def QvI(a:Nat)(b:Arr)(c d e:Nat):Prop:=SM a/\True/\ifB (decide ((NI (Qb8 b))<=(↑c:Int))) (QiU d b c) (QvH e b c d)
def QvJ(a:Arr)(b c d e:Nat):Prop:=ifB (V6 a==3) (SM b/\True/\ifB (decide ((NI (Qca a))<=(↑c:Int))) (QiU d a c) (QvH e a c d)) (True/\QiU d a c)
theorem Bnr(a : Arr)(i : Nat)(hk : a.k=1 \/ a.k=2 \/ a.k=3)(hi : (i : Int)<BV a.k a.nu.length a.it.length)(hc : ConOk Tryz.prog (Mj a.it)) :
  ACalls Tryz.prog 140 [.agg a.row2,.int .i64 i] ⟨[],[]⟩ (SpecR (sC [.agg a.row2,.int .i64 i] (atD a i)) ()):=by
 refine Bg (A:=sC _ _) (x:=()) (E:=Eat a) (eOk hc rfl) Tryz.func140 rfl (by kernel_rfl) rfl (by simp[sC,Eat,EC,E0]) ?_
 refine Bi (T :=
  ∀(x:Nat),True->∀(x_1:Nat),x≠x_1/\True->SM x/\∀(x_2:Nat),x_1≠x_2/\x≠x_2/\True->SM x_2/\ifB (V6 a==Z1) (ifB (V6 a==Z1) (QvI x_2 a i x_1 x) (QvJ a x_2 i x_1 x)) (ifB (V6 a==2) (QvI x_2 a i x_1 x) (QvJ a x_2 i x_1 x))) (by kernel_rfl) ?_
 delta DA GI LN N0 N1 N4 NI SM Z0 Z1 ZI V6 QiT Qvy Qvz QvA QvB QvC QvD QvE QvF QvG Qcc Qb8 QiW QvH QvI QvJ X8 Qvx QiU Qb9 Qca QiV Qcb
 have da:(default:Arr)=Arr.mk 0 [] [] []:=rfl
 simp only[<- da,Bf,Bd,decide_eq_true_eq,decide_eq_false_iff_not,true_and,and_true,beq_iff_eq,beq_eq_false_iff_ne,ne_eq,exists_const,forall_const,Int.toNat_natCast]
 have h12:a.k≠3->i<a.nu.length:=fun h3=>by
  have h:a.k=1\/a.k=2:=by omega
  rw[BV,if_pos h] at hi;omega
 have h3:a.k=3->i<a.it.length:=fun h3=>by
  rw[BV,if_neg (by omega),if_pos h3] at hi;omega
 clear hi
 repeat' (first | intro _ | refine And.intro ?_ ?_)
 all_goals first
  |omega
  |(exfalso;omega)
  |exact⟨a.it.getD i default,⟨rfl,⟨rfl,fun _ _=>rfl⟩,⟨rfl,fun _ _=>rfl⟩,rfl,fun _ _=>rfl⟩,Cg (by omega),by rw[atD,if_pos (by assumption)];exact Bp _⟩
  |(rw[atD,if_neg (by omega)];exact Bp _)
theorem Bon(a:Arr)(i:Nat):wkD (atD a i) (.agg (atA a i).row1):=by
 unfold atD atA
 split
 ·rename_i h3
  rw[h3]
  simp only[wkD,wkL,Arr.row1]
  refine⟨Bp _,Gt,Gt,?_,trivial⟩
  simp only[gsl,wkD,Bb]
  refine⟨by simp,by simp[Arr.it],fun j hj=>?_,by simp[BG]⟩
  have:j=0:=by omega
  subst this
  simp only[List.getD_cons_zero,Arr.it]
  exact Bci _
 ·simp only[wkD,wkL,Arr.row1]
  exact⟨Bp _,Gt,Bbn _,Bbx _ _,trivial⟩
theorem R0{k:Int}{s:List Int}{nn ni:Nat}(h:B8 k s nn ni=0):k=1\/k=2\/k=3:=by
 unfold B8 at h
 by_cases hk:k=1\/k=2\/k=3
 ·exact hk
 ·rw[if_neg hk] at h;simp at h
theorem Bkj{a:Arr}(h:(Bw a).1=0):B8 a.k a.sh a.nu.length a.it.length=0:=by
 cases a with
 |mk k s n is =>
  rw[Bw] at h
  by_cases h0:B8 k s n.length is.length≠0
  ·rw[if_pos h0] at h;exact (h0 h).elim
  ·exact Decidable.not_not.1 h0
theorem BkU{a:Arr}(h:(Bw a).1=0):ConOk Tryz.prog (Mj a.it):=by
 intro k' ds S A hk
 unfold Mj at hk
 split at hk
 ·injection hk with hk;subst hk
  refine ConOk.plain (fun (b:Arr) hb=>?_) rfl rfl
  cases a with
  |mk k s n is=>exact (BeS b ((EP h).2.2.2 b hb)).mono fun _ _ ⟨y,q1,q2,q3⟩=>⟨y,q1,q2,q3⟩
 ·cases hk
def jT(sep:List UInt8)(l:List (List UInt8)):List UInt8:=l.flatMap fun x=>sep++x
theorem B7(x:List UInt8)(l:List (List UInt8))(sep:List UInt8):Lib.join (x::l) sep=x++jT sep l:=by
 unfold Lib.join
 induction l generalizing x with
 |nil=>simp[jT,List.intercalate]
 |cons y l ih =>
  have:=ih y
  simp only[List.intercalate,List.intersperse_cons_cons,List.flatten_cons] at this ⊢
  rw[this]
  simp[jT]
theorem WU(sep:List UInt8):Lib.join [] sep=[]:=by simp[Lib.join,List.intercalate]
def jR(sep:List UInt8)(i:Nat)(l:List (List UInt8)):List UInt8:=if i=0 then Lib.join l sep else jT sep l
structure JHd (sep:List UInt8) (l:List (List UInt8)) (i:Nat) (out:List UInt8):Prop where
 hi:i<=l.length
 ho:out++jR sep i (l.drop i)=Lib.join l sep
theorem JHd.init(sep:List UInt8)(l:List (List UInt8)):JHd sep l 0 []:=⟨Nat.zero_le _,by simp[jR]⟩
theorem WX{l:List (List UInt8)}{i:Nat}(h:i<l.length):l.drop i=l.getD i []::l.drop (i+1):=by
 rw[List.drop_eq_getElem_cons h,List.getD_eq_getElem?_getD,List.getElem?_eq_getElem h];rfl
theorem JHd.step0{sep:List UInt8}{l:List (List UInt8)}{out:List UInt8}(h:JHd sep l 0 out)(hlt:0<l.length):JHd sep l (0+1) (out++l.getD 0 []):=by
 refine⟨by omega,?_⟩
 have:=h.ho
 rw[WX hlt,jR,if_pos rfl,B7] at this
 rw[<- this,jR,if_neg (by omega),List.append_assoc]
theorem JHd.step{sep:List UInt8}{l:List (List UInt8)}{i:Nat}{out:List UInt8}(h:JHd sep l i out)(h0:i≠0)(hlt:i<l.length):JHd sep l (i+1) (out++sep++l.getD i []):=by
 refine⟨by omega,?_⟩
 have:=h.ho
 rw[WX hlt,jR,if_neg h0] at this
 rw[<- this,jR,if_neg (by omega)]
 simp[jT]
theorem JHd.len{sep:List UInt8}{l:List (List UInt8)}{i:Nat}{out:List UInt8}(h:JHd sep l i out):out.length<=(Lib.join l sep).length:=by
 have:=congrArg List.length h.ho
 simp only[List.length_append] at this;omega
theorem JHd.done{sep:List UInt8}{l:List (List UInt8)}{i:Nat}{out:List UInt8}(h:JHd sep l i out)(hge:¬i<l.length):out=Lib.join l sep:=by
 have:=h.ho
 rw[List.drop_of_length_le (by omega)] at this
 have e:jR sep i []=[]:=by unfold jR;split<;>simp[jT,WU]
 rw[e,List.append_nil] at this
 exact this
def CZ(l:List Int):List UInt8:=Lib.join (l.map BA) [32]
theorem Bjk(sep:List UInt8)(b:Nat):∀l:List (List UInt8),(∀x∈l,x.length<=b)->(jT sep l).length<=(sep.length+b)*l.length
 | [],_=>by simp[jT]
 |x::l,h=>by
  have h1:=Bjk sep b l fun y hy=>h y (List.mem_cons_of_mem _ hy)
  have h2:=h x List.mem_cons_self
  simp only[jT,List.flatMap_cons,List.length_append,List.length_cons,Nat.mul_succ] at h1 ⊢
  omega
theorem BlS(sep:List UInt8)(b:Nat)(l:List (List UInt8))(h:∀x∈l,x.length<=b):(Lib.join l sep).length<=(sep.length+b)*l.length:=by
 cases l with
 |nil=>simp[WU]
 |cons x l =>
  have h1:=Bjk sep b l fun y hy=>h y (List.mem_cons_of_mem _ hy)
  have h2:=h x List.mem_cons_self
  rw[B7]
  simp only[List.length_append,List.length_cons,Nat.mul_succ]
  omega
theorem GX{l:List Int}(h:∀z∈l,Bt z):(CZ l).length<=22*l.length:=by
 have:=BlS [32] 21 (l.map BA) (fun x hx=>by
  obtain ⟨z,hz,rfl⟩:=List.mem_map.1 hx
  exact (IT (h z hz)).2)
 simpa[CZ] using this
theorem Bna{l:List Int}{i:Nat}(h:i<l.length):(l.map BA).getD i []=BA (l.getD i 0):=by
 simp[List.getD_eq_getElem?_getD,List.getElem?_map,List.getElem?_eq_getElem h]
noncomputable def Erd(l:List Int):Senv:={ EC OM 26 1 [2,3,4,9,13] (fun _=>([],[])) with
 gh:=fun b=>match b with
  |0=>[.slot 3]
  |_=>[]
 ann:=fun b _ S=>match b with
  |0=>some { slots:=[4,3],keep:=[0,1],α:=Nat×Nat×List UInt8,st:=fun y=>([.int .i64 y.1,bsl y.2.2 (.tok 0 y.2.1)],⟨S.objs,[(0,y.2.1)]⟩),inv:=fun y=>JHd [32] (l.map BA) y.1 y.2.2,mu:=fun y=>l.length-y.1 }
  |_=>none }
def Qcd(a:List Int)(b:Nat)(c:List UInt8):Prop:=JHd [(32:UInt8)] (List.map BA a) b c
def V7(a:List UInt8)(b:Nat):List D:=[ZB (BI a b)]
def Qce(a:List UInt8)(b:List Int)(c:Nat):Nat:=LN a+N1+LN (BA (GI b (Int.toNat (↑c:Int))))
def QPE(a:List Int):D:=SI a
def QvK(a:List Int):Prop:=SM (QPE a)/\SM D.unk/\True
def QvL(a:List Int)(b c:Nat):List D:=[ZB (BI (BA (GI a (Int.toNat (↑b:Int)))) c)]
def Qcf(a:List UInt8)(b:List Int)(c:Nat):Nat:=LN a+LN (BA (GI b (Int.toNat (↑c:Int))))
theorem BdP(l:List Int)(hl:l.length<=1099511627776)(hc:∀z∈l,Bt z):ACalls Tryz.prog 166 [isl l .any] ⟨[],[]⟩ (SpecR (sC [isl l .any] (.str (CZ l))) ()):=by
 refine Bg (A:=sC _ _) (x:=()) (E:=Erd l) (eOk Ib rfl) Tryz.func166 rfl (by kernel_rfl) rfl (by simp[sC,Erd,EC,E0]) ?_
 refine Bi (T :=
  ∀(t:Nat),(∃(x:Nat×Nat×List UInt8),Qcd l x.1 x.2.2/\(Z0=(NI x.1)/\(N0=LN x.2.2/\(∀(i:Nat),i<N0->[D.str []]=V7 x.2.2 i)/\t=x.2.1)/\True)/\True/\t=x.2.1/\True)/\∀(x:Nat×Nat×List UInt8),Qcd l x.1 x.2.2->ifB (decide ((NI x.1)<(LI l))) (ifB (decide (Z0<(NI x.1))) (SM x.2.1/\Bc ((LN x.2.2+N1)*N1<=140737488355328/\LN x.2.2+N1<=9223372036854775807) (∀(t:Nat),Bc (Z0<=(NI x.1)/\(NI x.1)<(LI l)) (Bt (GI l (TN x.1))/\∀(y:Unit),True->SM t/\Bc (Qce x.2.2 l x.1*N1<=140737488355328/\Qce x.2.2 l x.1<=9223372036854775807) (∀(t:Nat),QvK l/\∃(y:Nat×Nat×List UInt8),Qcd l y.1 y.2.2/\LN l-y.1<LN l-x.1/\(IntKind.wrap IntKind.i64 ((NI x.1)+Z1)=(NI y.1)/\(Qce x.2.2 l x.1=LN y.2.2/\(∀(i:Nat),i<Qce x.2.2 l x.1->BN (LN x.2.2+N1) (BN (LN x.2.2) (fun i=>V7 x.2.2 i) fun i=>List.getD [[ZB (32:Int)]] i []) (fun i=>QvL l x.1 i) i=V7 y.2.2 i)/\t=y.2.1)/\True)/\True/\t=y.2.1/\True)))) (Bc (Z0<=(NI x.1)/\(NI x.1)<(LI l)) (Bt (GI l (TN x.1))/\∀(y:Unit),True->SM x.2.1/\Bc (Qcf x.2.2 l x.1*N1<=140737488355328/\Qcf x.2.2 l x.1<=9223372036854775807) (∀(t:Nat),QvK l/\∃(y:Nat×Nat×List UInt8),Qcd l y.1 y.2.2/\LN l-y.1<LN l-x.1/\(IntKind.wrap IntKind.i64 ((NI x.1)+Z1)=(NI y.1)/\(Qcf x.2.2 l x.1=LN y.2.2/\(∀(i:Nat),i<Qcf x.2.2 l x.1->BN (LN x.2.2) (fun i=>V7 x.2.2 i) (fun i=>QvL l x.1 i) i=V7 y.2.2 i)/\t=y.2.1)/\True)/\True/\t=y.2.1/\True)))) (True/\chk (true&&Iy (LN x.2.2) fun i=>V7 x.2.2 i) (RT ((bytesOf (LN x.2.2) fun i=>V7 x.2.2 i)=CZ l)))) (by kernel_rfl) ?_
 delta BI GI LI LN N0 N1 NI SI SM TN U0 Z0 Z1 ZB ZI Qcd V7 Qce QPE QvK QvL Qcf RT
 simp only[Bf,Bd,decide_eq_true_eq,true_and,and_true,exists_const,forall_const,Int.toNat_natCast,eq_self]
 intro t
 refine⟨⟨(0,t,[]),JHd.init _ _,⟨rfl,rfl,fun i hi=>absurd hi (by omega),rfl⟩,rfl⟩,?_⟩
 rintro ⟨i,t1,out⟩ hh
 simp only at hh ⊢
 have h1:=hh.len
 have hd:=GX hc
 have hdd:Lib.join (l.map BA) [32]=CZ l:=rfl
 rw[hdd] at h1
 refine⟨fun hlt=>?_,fun hge=>?_⟩
 ·have hlt':i<l.length:=by omega
  have hz:=hc _ (Bck hlt')
  have hs:=IT hz
  refine⟨fun h0=>⟨⟨by omega,by omega⟩,⟨by omega,by omega⟩,hz,⟨by omega,by omega⟩,fun t2=>⟨(i+1,t2,out++[32]++BA (l.getD i 0)),?_,by simp only;omega,⟨Ba (by omega) (by omega),by simp only[List.length_append,List.length_cons,List.length_nil],?_,rfl⟩,rfl⟩⟩,fun h0=>⟨⟨by omega,by omega⟩,hz,⟨by omega,by omega⟩,fun t2=>⟨(i+1,t2,out++BA (l.getD i 0)),?_,by simp only;omega,⟨Ba (by omega) (by omega),by simp only[List.length_append],?_,rfl⟩,rfl⟩⟩⟩
  ·have:=hh.step (by omega) (by simpa using hlt')
   rw[Bna hlt'] at this
   exact this
  ·exact I8 (l:=out++[32]) (by simp) (MD (b:=32) rfl (fun _ _=>rfl) rfl) (fun _ _=>rfl)
  ·have e:i=0:=by simpa using h0
   subst e
   have:=hh.step0 (by simpa using hlt')
   rw[Bna hlt'] at this
   exact this
  ·exact I8 rfl (fun _ _=>rfl) (fun _ _=>rfl)
 ·have hge':¬i<l.length:=by simpa using hge
  have hd:=hh.done (by simpa using hge')
  rw[Bb,Bool.true_and]
  refine⟨IU _,?_⟩
  rw[CL,hd];rfl
noncomputable def Ejn:Senv:=EC OM 5 1 [2] (fun _=>([],[]))
def QvM(a:List (List UInt8)):List (List UInt8):=B5 (LN a) fun i=>[D.str (List.getD a i [])]
theorem Bcf(l:List (List UInt8))(h:GG l [32]):ACalls Tryz.prog 137 [ssl l .any] ⟨[],[]⟩ (SpecR (sC [ssl l .any] (.str (Lib.join l [32]))) ()):=by
 refine Bg (A:=sC _ _) (x:=()) (E:=Ejn) (eOk Ib rfl) Tryz.func137 rfl (by kernel_rfl) rfl (by simp[sC,Ejn,EC,E0]) ?_
 refine Bi (T :=
  ((Gx (LN l) fun i=>[D.str (List.getD l i [])])=true/\GG (QvM l) [(32:UInt8)])/\∀(y:Unit),True->RT (Lib.join (QvM l) [(32:UInt8)]=Lib.join l [(32:UInt8)])) (by kernel_rfl) ?_
 delta LN QvM RT
 simp only[MP (l:=l) rfl (fun _ _=>rfl),Oz (l:=l) rfl (fun _ _=>rfl),h,and_true,exists_const,implies_true]
theorem tyB:Tryz.prog.underlying 47=some (.pointer 50):=Tryz.underlying47
theorem tyU:Tryz.prog.underlying 100=some .unsafePointer:=Tryz.underlying100
theorem Bmg:∃j,Tryz.prog.info? 50=some j/\j.size=2:=Option.map_eq_some_iff.1 (show (Tryz.prog.info? 50).map (·.size)=some 2 by kernel_rfl)
theorem Bp1:liesAt Tryz.prog Tryz.prog.depth 50 (2 / Tryz.prog.cellsOf 50) 0 50 1=true:=by kernel_rfl
theorem BfX(b : Nat)(w : World)(h0 : w.cell? ⟨b, 0, none⟩=some (.pointer (some ⟨b, 0, none⟩))) :
  Calls Tryz.prog 40 #[.pointer (some ⟨b,0,none⟩)] w fun e w'=>e=.returned (.tuple #[])/\w'=w:=by
 obtain ⟨j,hj,hjs⟩:=Bmg
 go_enter Tryz.func40,Tryz.ntmps40
 go_wp2
 rw[Lib.run_neq_ptr_same w _ tyB hj]
 go_wp2
 go_end0
 exact⟨rfl,rfl⟩
theorem BlA(b : Nat)(w : World)(h0 : w.cell? ⟨b, 0, none⟩=some (.pointer none))(hsh : w.shape? b=some (50, 2))(hfz : w.frozen? ⟨b, 0, none⟩=false) :
  Calls Tryz.prog 40 #[.pointer (some ⟨b,0,none⟩)] w fun e w'=>e=.returned (.tuple #[])/\w'=w.setCell ⟨b,0,none⟩ (.pointer (some ⟨b,0,none⟩)):=by
 obtain ⟨j,hj,hjs⟩:=Bmg
 go_enter Tryz.func40,Tryz.ntmps40
 go_wp2
 rw[Lib.run_to_unsafe w ⟨b,0,none⟩ tyB tyU hj (by rw[hjs];decide) hsh (Nat.zero_lt_succ 1)]
 simp only[Result.andThen]
 rw[Oper.upon_value]
 go_wp2
 rw[run_callFunc_extern Tryz.func64 (by kernel_rfl) (by kernel_rfl) (by kernel_rfl) (e:=Extern.AbiNoEscape.same) (by kernel_rfl)]
 rw[Lib.run_noEscape]
 simp only[Result.andThen]
 rw[Oper.upon_value]
 go_wp2
 rw[Lib.run_from_unsafe w ⟨b,0,none⟩ tyU tyB hj hsh Bp1]
 simp only[Result.andThen]
 rw[Oper.upon_value]
 go_wp2
 go_end0
 exact⟨rfl,rfl⟩
def sCc(k x E:Nat)(d:D):FnSpec where
 β:=Unit
 α:=Unit
 args:=fun _=>[.ref k x 0]
 st:=fun _=>⟨[(k,x,.bld 50 E d)],[]⟩
 pre:=fun _=>True
 post:=fun _ _=>True
 res:=fun _ _=>.ret (.tup [])
 out:=fun _ _=>⟨[(k,x,.bld 50 E d)],[]⟩
theorem BqH(k x E:Nat)(d:D):ACalls Tryz.prog 40 ((sCc k x E d).args ()) ((sCc k x E d).st ()) (SpecR (sCc k x E d) ()):=by
 refine⟨⟨_,Tryz.func40,by kernel_rfl,by kernel_rfl⟩,fun C F args w ha hs=>?_⟩
 obtain ⟨u,e,hu⟩:=EK ha
 have e2:args=[u].toArray:=by rw[<- e]
 subst e2
 simp only[Rep] at hu
 subst hu
 have hg:BJ ((sCc k x E d).st ()).objs k=some (x,.bld 50 E d):=by simp[sCc,BJ]
 obtain ⟨c1,c2,v0,v1,fz,h1,h2,h3,h4,h5⟩:=hs.obj_of hg
 have fin:∀w',Sat C (((sCc k x E d).st ()).add F) w'->∃C' r S',C.le C'/\Sat C' (S'.add F) w'/\RepEnd C' r (.returned (.tuple #[]))/\SpecR (sCc k x E d) () r S':=fun w' h =>
  ⟨C,.ret (.tup []),_,.refl C,h,by simp[RepEnd,Rep,RepL],(),trivial,rfl,rfl⟩
 rcases h3 with rfl | rfl
 ·have hc:w.cell? ⟨x,0,none⟩=some (.pointer none):=by rw[Bs h1];rfl
  have hsh:w.shape? x=some (50,2):=by simp[World.shape?,h1]
  have hfz:w.frozen? ⟨x,0,none⟩=false:=Cr h1 h2 (by simp)
  refine (BlA x w hc hsh hfz).mono fun e w' ⟨he,hw⟩=>?_
  subst he hw
  refine fin _ ?_
  have hr:=CN h1 (o:=0) (.pointer (some ⟨x,0,none⟩))
  have:=hs.replace (o':=.bld 50 E d) (w':=w.setCell ⟨x,0,none⟩ (.pointer (some ⟨x,0,none⟩))) hg (by simp) (fun j hj=>Go.RowKit.Below.heap_setCell _ _ _ _ hj) rfl rfl rfl ⟨.pointer (some ⟨x,0,none⟩),v1,fz,by simpa using hr,by simpa using h2.set 0 (.pointer (some ⟨x,0,none⟩)),.inr rfl,h4,h5⟩
  simpa[sCc,St.set,Il] using this
 ·have hc:w.cell? ⟨x,0,none⟩=some (.pointer (some ⟨x,0,none⟩)):=by rw[Bs h1];rfl
  refine (BfX x w hc).mono fun e w' ⟨he,hw⟩=>?_
  subst he hw
  exact fin _ hs
def Bgp:Con:=fun k ds S=>match k with
 |40=>match ds with
  | [.ref k x 0]=>match BJ S.objs k with
   |some (y,.bld T E d)=>some ((sCc k x E d).fits () (y=x/\T=50/\OP d=true))
   |_=>none
  |_=>none
 |_=>none
theorem BdF:ConOk Tryz.prog Bgp:=by
 intro k ds S A h
 unfold Bgp at h
 split at h
 ·split at h
  ·rename_i k x
   split at h
   ·rename_i y T E d hg
    injection h with h;subst h
    refine⟨fun _ _=>BqH k x E d,fun _ _ hy=>?_,fun h=>nomatch h⟩
    obtain ⟨⟨rfl,rfl,ht⟩,_⟩:=hy
    refine⟨⟨by simp[Bn,chk],trivial⟩,Bb.2 ⟨rfl,?_,trivial⟩⟩
    simp only[FnSpec.fits,sCc,leO,hg]
    exact⟨trivial,Bb.2 ⟨by simp[ht],Bp _⟩,trivial⟩
   ·cases h
  ·cases h
 ·cases h
def sWs(f:List UInt8)(E x t:Nat)(l:List UInt8)(r:AEnd)(ar:List D):FnSpec where
 β:=Unit
 α:=Nat
 args:=fun _=>.ref 0 x 0::ar
 st:=fun _=>⟨[(0,x,.bld 50 E (bsl l (.tok 0 t)))],[(0,t)]⟩
 pre:=fun _=>True
 post:=fun _ _=>True
 res:=fun _ _=>r
 out:=fun _ t'=>⟨[(0,x,.bld 50 E (bsl (l++f) (.tok 0 t')))],[(0,t')]⟩
noncomputable def Ews:Senv:={ EC Bgp 19 2 [4,5] (fun _=>([],[])) with own:=fun t=>Nat.beq t 48 }
theorem Bqk(x t : Nat)(l s : List UInt8)(hl : l.length+s.length<=140737488355328) :
  ACalls Tryz.prog 35 ((sWs s 5 x t l (.ret (.tup [.int .i64 s.length,.nili])) [.str s]).args ()) ((sWs s 5 x t l (.ret (.tup [.int .i64 s.length,.nili])) [.str s]).st ()) (SpecR (sWs s 5 x t l (.ret (.tup [.int .i64 s.length,.nili])) [.str s]) ()):=by
 refine Bg (A:=sWs s 5 x t l (.ret (.tup [.int .i64 s.length,.nili])) [.str s]) (x:=()) (E:=Ews) (eOk BdF rfl) Tryz.func35 rfl (by kernel_rfl) rfl (by simp[sWs,Ews,EC,E0]) ?_
 refine Bi (T :=
  ((SM x/\SM (50:Nat)/\SM true)/\True)/\∀(y:Unit),True->SM x/\SM t/\Bc ((LN l+LN s)*N1<=140737488355328/\LN l+LN s<=9223372036854775807) (∀(t1:Nat),(t % (1000003:Nat)=N6->t1 % (1000003:Nat)=N6)->SM x/\(t % (1000003:Nat)=N6->t1 % (1000003:Nat)=N6)/\True/\∃(y:Nat),True/\(SM (LI s)/\True/\True)/\(SM x/\(LN l+LN s=LN (l++s)/\(∀(i:Nat),i<LN l+LN s->BN (LN l) (fun i=>[ZB (BI l i)]) (fun i=>[ZB (BI s i)]) i=[ZB (BI (l++s) i)])/\t1=y)/\True)/\t1=y/\True)) (by kernel_rfl) ?_
 delta BI LI LN N1 N6 SM U0 ZB
 refine⟨⟨⟨rfl,rfl,rfl⟩,trivial⟩,fun _ _=>⟨rfl,rfl,?_⟩⟩
 rw[Bd]
 exact⟨by omega,fun t1 ht=>⟨rfl,ht,trivial,t1,trivial,⟨rfl,trivial,trivial⟩,⟨rfl,⟨by rw[List.length_append],I8 rfl (fun _ _=>rfl) (fun _ _=>rfl),rfl⟩,trivial⟩,rfl,trivial⟩⟩
noncomputable def Ewb:Senv:={ EC Bgp 17 2 [4] (fun _=>([],[])) with own:=fun t=>Nat.beq t 48 }
theorem Bqm(x t : Nat)(l : List UInt8)(b : UInt8)(hl : l.length+1<=140737488355328) :
  ACalls Tryz.prog 19 ((sWs [b] 5 x t l (.ret .nili) [.int .u8 (b.toNat:Int)]).args ()) ((sWs [b] 5 x t l (.ret .nili) [.int .u8 (b.toNat:Int)]).st ()) (SpecR (sWs [b] 5 x t l (.ret .nili) [.int .u8 (b.toNat:Int)]) ()):=by
 refine Bg (A:=sWs [b] 5 x t l (.ret .nili) [.int .u8 (b.toNat:Int)]) (x:=()) (E:=Ewb) (eOk BdF rfl) Tryz.func19 rfl (by kernel_rfl) rfl (by simp[sWs,Ewb,EC,E0]) ?_
 refine Bi (T :=
  ((SM x/\SM (50:Nat)/\SM true)/\True)/\∀(y:Unit),True->SM x/\SM t/\Bc ((LN l+N1)*N1<=140737488355328/\LN l+N1<=9223372036854775807) (∀(t1:Nat),(t % (1000003:Nat)=N6->t1 % (1000003:Nat)=N6)->SM x/\(t % (1000003:Nat)=N6->t1 % (1000003:Nat)=N6)/\True/\∃(y:Nat),True/\True/\(SM x/\(LN l+N1=LN (l++[b])/\(∀(i:Nat),i<LN l+N1->BN (LN l) (fun i=>[ZB (BI l i)]) (fun i=>List.getD [[ZB (NI (UInt8.toNat b))]] i []) i=[ZB (BI (l++[b]) i)])/\t1=y)/\True)/\t1=y/\True)) (by kernel_rfl) ?_
 delta BI LN N1 N6 NI SM U0 ZB
 refine⟨⟨⟨rfl,rfl,rfl⟩,trivial⟩,fun _ _=>⟨rfl,rfl,?_⟩⟩
 rw[Bd]
 exact⟨by omega,fun t1 ht=>⟨rfl,ht,trivial,t1,trivial,trivial,⟨rfl,⟨by simp,MD rfl (fun _ _=>rfl) rfl,rfl⟩,trivial⟩,rfl,trivial⟩⟩
def sBw(f:List UInt8)(k kt x t:Nat)(l:List UInt8)(r:AEnd)(ar:List D):FnSpec where
 β:=Unit
 α:=Nat
 args:=fun _=>.ref k x 0::ar
 st:=fun _=>⟨[(k,x,.bld 50 5 (bsl l (.tok kt t)))],[(kt,t)]⟩
 pre:=fun _=>True
 post:=fun _ _=>True
 res:=fun _ _=>r
 out:=fun _ t'=>⟨[(k,x,.bld 50 5 (bsl (l++f) (.tok kt t')))],[(kt,t')]⟩
theorem Boa{g : Nat}{f : List UInt8}(k kt x t : Nat){l : List UInt8}{r : AEnd}{ar : List D}(h : ACalls Tryz.prog g ((sWs f 5 x t l r ar).args ()) ((sWs f 5 x t l r ar).st ()) (SpecR (sWs f 5 x t l r ar) ())) :
  ACalls Tryz.prog g ((sBw f k kt x t l r ar).args ()) ((sBw f k kt x t l r ar).st ()) (SpecR (sBw f k kt x t l r ar) ()):=by
 refine h.respec (A':=sBw f k kt x t l r ar) (x':=()) ?_ ?_ fun y _=>⟨y,trivial,?_,?_⟩
 ·simp[sBw,sWs,BD,Bn,chk,Bk]
 ·simp[sBw,sWs,Bbm,RM,BbS,GF,Bn,chk,bsl,BG,OP]
 ·simp only[sBw,sWs];cases r<;>simp[M1,Bp]
 ·simp[sBw,sWs,Bbm,RM,BbS,GF,Bn,chk,bsl,BG,OP];rfl
theorem Blf(b g cap cs : Nat)(p : Value)(fz : Nat×Nat)(arr : Array Value)(fg : Nat×Nat)(l : List UInt8)(w : World)(h0 : l≠[])(hn : l.length<=cap)(hcs : l.length<=arr.size)(h63 : l.length<=9223372036854775807)
  (hbk:w.heap[b]? =some (.cells #[p,.slice (some ⟨g,0,none⟩) l.length cap] cs fz)) (hg:w.heap[g]? =some (.cells arr 5 fg))
  (hcell:∀j x,l[j]? =some x->w.cell? ⟨g,j,none⟩=some (.int .u8 x.toNat)) :
  Calls Tryz.prog 20 #[.pointer (some ⟨b,0,none⟩)] w fun e w'=>e=.returned (.string ⟨l.toArray⟩)/\w'=w.drew.freeze ⟨g,0,none⟩ l.length:=by
 have hl0:l.length≠0:=by simpa using h0
 have c1:w.drew.cell? ⟨b,1,none⟩=some (.slice (some ⟨g,0,none⟩) l.length cap):=by
  have:w.drew.heap[b]? =some (.cells #[p,.slice (some ⟨g,0,none⟩) l.length cap] cs fz):=hbk
  rw[Bs this];rfl
 have hSD:(Builtin.unsafeSliceData_ #[48] 81 #[.slice (some ⟨g,0,none⟩) l.length cap]).run Tryz.prog w.drew=.ok (.pointer (some ⟨g,0,none⟩)) w.drew :=
  Lib.run_unsafeSliceData_row _ _ _ _ _ _ (by omega)
 have hUS:(Builtin.unsafeString_ #[81,3] 9 #[.pointer (some ⟨g,0,none⟩),.int .i64 l.length]).run Tryz.prog w.drew=.ok (.string ⟨l.toArray⟩) (w.drew.freeze ⟨g,0,none⟩ l.length):=by
  refine Lib.run_unsafeString_row w.drew 81 3 9 5 Tryz.underlying81 (by kernel_rfl) g arr.size (by have hg':w.drew.heap[g]? =some (.cells arr 5 fg):=hg;simp[World.shape?,hg']) l h0 hcs h63 ?_
  intro j x hx
  have e:w.drew.cell? ⟨g,j,none⟩=some (.int .u8 x.toNat):=hcell j x hx
  have e2:(if j=0 then (⟨g,0,none⟩:Addr) else ⟨g,j,none⟩)=⟨g,j,none⟩:=by split<;>simp_all
  simpa[Addr.add,e2] using e
 have mixed:Tryz.prog.follows .mixedOrders=true:=by kernel_rfl
 go_enter Tryz.func20,Tryz.ntmps20
 go_wp2
 go_region_o
 all_goals (go_wp2;go_ret;exact⟨rfl,rfl⟩)
theorem Bnp(b cs : Nat)(p : Value)(fz : Nat×Nat)(w : World)(hbk : w.heap[b]? =some (.cells #[p, .slice none 0 0] cs fz)) :
  Calls Tryz.prog 20 #[.pointer (some ⟨b,0,none⟩)] w fun e w'=>e=.returned (.string ⟨#[]⟩)/\Go.RowKit.Below w.heap.size w w':=by
 have hUS:∀W,(Builtin.unsafeString_ #[81,3] 9 #[.pointer none,.int .i64 0]).run Tryz.prog W=.ok (.string .empty) W:=fun W=>Lib.run_unsafeString_none W _ _ _ none
 have c1:w.drew.cell? ⟨b,1,none⟩=some (.slice none 0 0):=by
  have:w.drew.heap[b]? =some (.cells #[p,.slice none 0 0] cs fz):=hbk
  rw[Bs this];rfl
 have hSD:(Builtin.unsafeSliceData_ #[48] 81 #[.slice none 0 0]).run Tryz.prog w.drew=.ok (.pointer none) w.drew:=Lib.run_unsafeSliceData_nil _ _ _ _ _
 have mixed:Tryz.prog.follows .mixedOrders=true:=by kernel_rfl
 go_enter Tryz.func20,Tryz.ntmps20
 go_wp2
 go_region_o
 all_goals (go_wp2;go_ret;exact⟨rfl,Go.RowKit.Below.drew (Go.RowKit.Below.refl _ w)⟩)
theorem BlG(b g cap cs : Nat)(p : Value)(fz : Nat×Nat)(w : World)(hc0 : cap≠0)(hbk : w.heap[b]? =some (.cells #[p, .slice (some ⟨g, 0, none⟩) 0 cap] cs fz)) :
  Calls Tryz.prog 20 #[.pointer (some ⟨b,0,none⟩)] w fun e w'=>e=.returned (.string ⟨#[]⟩)/\Go.RowKit.Below w.heap.size w w':=by
 have hUS:∀W,(Builtin.unsafeString_ #[81,3] 9 #[.pointer (some ⟨g,0,none⟩),.int .i64 0]).run Tryz.prog W=.ok (.string .empty) W:=fun W=>Lib.run_unsafeString_none W _ _ _ _
 have c1:w.drew.cell? ⟨b,1,none⟩=some (.slice (some ⟨g,0,none⟩) 0 cap):=by
  have:w.drew.heap[b]? =some (.cells #[p,.slice (some ⟨g,0,none⟩) 0 cap] cs fz):=hbk
  rw[Bs this];rfl
 have hSD:(Builtin.unsafeSliceData_ #[48] 81 #[.slice (some ⟨g,0,none⟩) 0 cap]).run Tryz.prog w.drew=.ok (.pointer (some ⟨g,0,none⟩)) w.drew :=
  Lib.run_unsafeSliceData_row _ _ _ _ _ _ hc0
 clear hc0
 have mixed:Tryz.prog.follows .mixedOrders=true:=by kernel_rfl
 go_enter Tryz.func20,Tryz.ntmps20
 go_wp2
 go_region_o
 all_goals (go_wp2;go_ret;exact⟨rfl,Go.RowKit.Below.drew (Go.RowKit.Below.refl _ w)⟩)
theorem Bes(b g cs : Nat)(p : Value)(fz fg : Nat×Nat)(arr : Array Value)(E : Nat)(w : World)(hg : w.heap[g]? =some (.cells arr E fg))(hbk : w.heap[b]? =some (.cells #[p, .slice (some ⟨g, 0, none⟩) 0 0] cs fz)) :
  Calls Tryz.prog 20 #[.pointer (some ⟨b,0,none⟩)] w fun e w'=>e=.returned (.string ⟨#[]⟩)/\Go.RowKit.Below w.heap.size w w':=by
 have hUS:∀W q,(Builtin.unsafeString_ #[81,3] 9 #[.pointer q,.int .i64 0]).run Tryz.prog W=.ok (.string .empty) W:=fun W q=>Lib.run_unsafeString_none W _ _ _ q
 have hb:b<w.heap.size:=(Array.getElem?_eq_some_iff.1 hbk).1
 have c1:w.drew.cell? ⟨b,1,none⟩=some (.slice (some ⟨g,0,none⟩) 0 0):=by
  have:w.drew.heap[b]? =some (.cells #[p,.slice (some ⟨g,0,none⟩) 0 0] cs fz):=hbk
  rw[Bs this];rfl
 have c0:w.cell? ⟨b,1,none⟩=some (.slice (some ⟨g,0,none⟩) 0 0):=c1
 have hSD:(Builtin.unsafeSliceData_ #[48] 81 #[.slice (some ⟨g,0,none⟩) 0 0]).run Tryz.prog w.drew=.ok (.pointer (some ⟨w.drew.heap.size,0,none⟩)) (w.drew.alloc (.view ⟨g,0,none⟩ 5)) :=
  Lib.run_unsafeSliceData_zero _ _ _ _ Tryz.underlying81 _ _ (E,arr.size) (by have hg':w.drew.heap[g]? =some (.cells arr E fg):=hg;simp[World.shape?,hg'])
 have hSD0:(Builtin.unsafeSliceData_ #[48] 81 #[.slice (some ⟨g,0,none⟩) 0 0]).run Tryz.prog w=.ok (.pointer (some ⟨w.heap.size,0,none⟩)) (w.alloc (.view ⟨g,0,none⟩ 5)) :=
  Lib.run_unsafeSliceData_zero _ _ _ _ Tryz.underlying81 _ _ (E,arr.size) (by simp[World.shape?,hg])
 have c2:(w.drew.alloc (.view ⟨g,0,none⟩ 5)).cell? ⟨b,1,none⟩=some (.slice (some ⟨g,0,none⟩) 0 0):=by
  rw[World.cell?_alloc_lt _ _ _ hb];exact c1
 have c3:(w.alloc (.view ⟨g,0,none⟩ 5)).drew.cell? ⟨b,1,none⟩=some (.slice (some ⟨g,0,none⟩) 0 0):=c2
 have mixed:Tryz.prog.follows .mixedOrders=true:=by kernel_rfl
 go_enter Tryz.func20,Tryz.ntmps20
 go_wp2
 go_region_o
 all_goals (go_wp2;go_ret;exact⟨rfl,(Go.RowKit.Below.drew (Go.RowKit.Below.refl _ w)).alloc (Nat.le_refl _) _⟩)
theorem Wa{C:Ctx}{S:St}{w:World}{g n:Nat}(H:Sat C S w)(hg:C.w0.heap.size<=g)(ho:∀p∈S.objs,p.2.1≠g)(ht:∀t∈S.toks,∀x,C.tok t.2=some x->¬x.clash g):Sat C S (w.freeze ⟨g,0,none⟩ n):=by
 have hne:∀k,k≠g->(w.freeze ⟨g,0,none⟩ n).heap[k]? =w.heap[k]? :=by
  intro k hk
  unfold World.freeze;split<;>simp[Array.getElem?_modify,Ne.symm hk]
 have hcell:∀a,(w.freeze ⟨g,0,none⟩ n).cell? a=w.cell? a:=by
  intro a
  unfold World.cell?
  by_cases e:a.block=g
  ·rw[e]
   unfold World.freeze
   by_cases h0:n=0
   ·rw[if_pos h0]
   ·rw[if_neg h0]
    simp only[Array.getElem?_modify,if_true]
    cases w.heap[g]? with
    |none=>rfl
    |some o=>cases o<;>rfl
  ·rw[hne _ e]
 refine⟨H.below.trans ⟨by unfold World.freeze;split<;>rfl,by unfold World.freeze;split<;>rfl,by unfold World.freeze;split<;>rfl,by unfold World.freeze;split<;>simp,fun k hk=>hne k (by omega)⟩,fun b o v h=>(hcell _).trans (H.imm b o v h),H.one,fun p hp=>?_,H.nodup,fun t htm=>?_,H.tnodup,H.tfin,H.tdist⟩
 ·obtain ⟨h1,h2,h3⟩:=H.objs p hp
  exact⟨h1,h2,h3.of_heap (hne _ (ho p hp))⟩
 ·obtain ⟨x,h1,h2,h3⟩:=H.toks t htm
  exact⟨x,h1,h2.of_heap fun b hb=>hne b fun e=>ht t htm x h1 (e ▸ hb),h3⟩
def sBs(k kt x t:Nat)(l:List UInt8):FnSpec where
 β:=Unit
 α:=Unit
 args:=fun _=>[.ref k x 0]
 st:=fun _=>⟨[(k,x,.bld 50 5 (bsl l (.tok kt t)))],[(kt,t)]⟩
 pre:=fun _=>True
 post:=fun _ _=>True
 res:=fun _ _=>.ret (.str l)
 out:=fun _ _=>⟨[],[]⟩
theorem BmB(k kt x t:Nat)(l:List UInt8)(h63:l.length<=9223372036854775807):ACalls Tryz.prog 20 ((sBs k kt x t l).args ()) ((sBs k kt x t l).st ()) (SpecR (sBs k kt x t l) ()):=by
 refine⟨⟨_,Tryz.func20,by kernel_rfl,by kernel_rfl⟩,fun C F args w ha hs=>?_⟩
 obtain ⟨u,e,hu⟩:=EK ha
 have e2:args=[u].toArray:=by rw[<- e]
 subst e2
 simp only[Rep] at hu
 subst hu
 have hg:BJ ((sBs k kt x t l).st ()).objs k=some (x,.bld 50 5 (bsl l (.tok kt t))):=by simp[sBs,BJ]
 obtain ⟨c1,c2,v0,v1,fz,h1,h2,h3,h4,h5⟩:=hs.obj_of hg
 have h5:ES t=5+1:=h5
 simp only[bsl,Rep] at h4
 obtain ⟨a,len,cap,rfl,hh,hr⟩:=h4
 have hlen:len=l.length:=hh.1
 subst hlen
 have hF:Sat C F w:=by
  have h:=hs.le (S':=⟨[],[]⟩) ⟨List.nil_sublist _,List.nil_sublist _⟩
  simpa[St.add] using h
 have fin:∀w',Sat C F w'->∃C' r S',C.le C'/\Sat C' (S'.add F) w'/\RepEnd C' r (.returned (.string ⟨l.toArray⟩))/\SpecR (sBs k kt x t l) () r S':=fun w' h =>
  ⟨C,.ret (.str l),⟨[],[]⟩,.refl C,h,by simp[RepEnd,Rep],(),trivial,rfl,rfl⟩
 have h6:=hh.2.2.2.2.2
 have hcap:l.length<=cap:=hh.2.1
 simp only at h6
 have hmem:(kt,t)∈(((sBs k kt x t l).st ()).add F).toks:=by simp[sBs,St.add]
 obtain ⟨q,q1,q2,q3⟩:=hs.toks (kt,t) hmem
 simp only at q1
 rw[q1] at h6
 cases q with
 |no =>
  simp only at h6
  have ha0:a=none:=h6.2 (by rw[h5];omega)
  subst ha0
  have hl0:=(hh.2.2.2.1 rfl)
  have hl:l=[]:=List.length_eq_zero_iff.1 hl0.1
  subst hl
  obtain rfl:cap=0:=hl0.2
  refine (Bnp x _ v0 fz w h1).mono fun e w' ⟨he,hb⟩=>?_
  subst he
  exact fin w' (hF.kept hb)
 | «at» g n cp wd =>
  obtain ⟨rfl,rfl,rfl,rfl⟩:=h6
  obtain ⟨p1,p2,arr,E,fg,p3,p4,p5,p6⟩:=q2
  have hE:E=5:=Nat.succ.inj ((p6 (by simp only;rw[h5];omega)).trans h5)
  subst hE
  by_cases hl:l=[]
  ·subst hl
   by_cases hc:cp=0
   ·subst hc
    refine (Bes x g _ v0 fz fg arr _ w p3 h1).mono fun e w' ⟨he,hb⟩=>?_
    subst he
    exact fin w' (hF.kept hb)
   ·refine (BlG x g cp _ v0 fz w hc h1).mono fun e w' ⟨he,hb⟩=>?_
    subst he
    exact fin w' (hF.kept hb)
  ·refine (Blf x g cp _ v0 fz arr fg l w hl hcap (by rw[p5];omega) h63 h1 p3 fun j y hy=>?_).mono fun e w' ⟨he,hw⟩=>?_
   ·have hj:j<l.length:=(List.getElem?_eq_some_iff.1 hy).1
    have hrow:=(hr ⟨g,0,none⟩ rfl j hj).2
    simp only[RepCells] at hrow
    obtain ⟨⟨v,i1,i2⟩,_⟩:=hrow
    simp only[Rep] at i2
    subst i2
    have:=hs.imm _ _ _ i1
    have e:l.getD j 0=y:=by rw[List.getD_eq_getElem?_getD,hy];rfl
    rw[e] at this
    simpa using this
   ·subst he hw
    refine fin _ (Wa hF.drew p1 (fun p hp e=>q3 p (by simp[St.add,hp]) e.symm) fun s hs2 y hy hcl=>?_)
    cases y with
    |no=>exact hcl
    | «at» b' n' c' wd' =>
     have hcl:b'=g:=hcl
     have hnd:=hs.tnodup
     simp only[St.add,sBs,List.cons_append,List.nil_append,List.map_cons,List.nodup_cons] at hnd
     have hne:t≠s.2:=fun e=>hnd.1 (e ▸ List.mem_map_of_mem hs2)
     exact hs.tdist (kt,t) s _ _ _ _ _ _ _ _ hmem (by simp[St.add,hs2]) hne q1 hy hcl.symm
def Bgu(ts:List (Nat×Nat))(kt t:Nat):Prop :=
 match T1 ts kt with
 |some t'=>t'=t
 |none=>False
def Bhj(ts:List (Nat×Nat))(x y T E kt t n:Nat)(g:Nat->List D):Prop:=y=x/\T=50/\E=5/\Bgu ts kt t/\Iy n g=true
def Cu(z:Int):UInt8:=UInt8.ofNat z.toNat
def Bjm:Con:=fun k ds S=>match k with
 |35=>match ds with
  | [.ref k x 0,.str s]=>match BJ S.objs k with
   |some (y,.bld T E (.sl 1 n g (.tok kt t)))=>some ((sBw s k kt x t (bytesOf n g) (.ret (.tup [.int .i64 s.length,.nili])) [.str s]).fits () (Bhj S.toks x y T E kt t n g/\n+s.length<=140737488355328))
   |_=>none
  |_=>none
 |19=>match ds with
  | [.ref k x 0,.int .u8 z]=>match BJ S.objs k with
   |some (y,.bld T E (.sl 1 n g (.tok kt t)))=>some ((sBw [Cu z] k kt x t (bytesOf n g) (.ret .nili) [.int .u8 z]).fits () (Bhj S.toks x y T E kt t n g/\(0<=z/\z<=255)/\n+1<=140737488355328))
   |_=>none
  |_=>none
 |20=>match ds with
  | [.ref k x 0]=>match BJ S.objs k with
   |some (y,.bld T E (.sl 1 n g (.tok kt t)))=>some ((sBs k kt x t (bytesOf n g)).fits () (Bhj S.toks x y T E kt t n g/\n<=140737488355328))
   |_=>none
  |_=>none
 |k=>OM k ds S
theorem M0{z:Int}(h:0<=z/\z<=255):((Cu z).toNat:Int)=z:=by
 unfold Cu
 rw[UInt8.toNat_ofNat'];omega
theorem Bbp{os : List (Nat×Nat×AObj)}{k x y T E n kt t : Nat}{g : Nat -> List D}(hg : BJ os k=some (y, .bld T E (.sl 1 n g (.tok kt t))))(h1 : y=x)(h2 : T=50)(h3 : E=5)(hr : Iy n g=true) :
  leO [(k,x,.bld 50 5 (bsl (bytesOf n g) (.tok kt t)))] os:=by
 subst h1 h2 h3
 simp only[leO,hg,GF]
 exact⟨trivial,Bb.2 ⟨by simp[OP,bsl],Bdz hr⟩,trivial⟩
theorem I3{ts:List (Nat×Nat)}{kt t:Nat}(h:Bgu ts kt t):leT [(kt,t)] ts:=by
 unfold Bgu at h
 simp only[leT]
 split at h
 ·rename_i t' e;rw[e];exact⟨h,trivial⟩
 ·exact h.elim
theorem Bkb:ConOk Tryz.prog Bjm:=by
 intro k ds S A h
 unfold Bjm at h
 split at h
 ·split at h
  ·split at h
   ·rename_i k x s _ y T E n g kt t hg
    injection h with h;subst h
    have key:∀p:n+s.length<=140737488355328,ACalls Tryz.prog 35 ((sBw s k kt x t (bytesOf n g) (.ret (.tup [.int .i64 s.length,.nili])) [.str s]).args ()) ((sBw s k kt x t (bytesOf n g) (.ret (.tup [.int .i64 s.length,.nili])) [.str s]).st ()) (SpecR (sBw s k kt x t (bytesOf n g) (.ret (.tup [.int .i64 s.length,.nili])) [.str s]) ()):=fun p =>
     Boa k kt x t (Bqk x t (bytesOf n g) s (by simpa[bytesOf] using p))
    refine⟨fun _ hy=>key hy.1.2,fun _ _ hy=>?_,fun h=>nomatch h⟩
    obtain ⟨⟨⟨h1,h2,h3,h4,h5⟩,_⟩,_⟩:=hy
    exact⟨⟨by simp[Bn,chk],by simp[Bn],trivial⟩,Bb.2 ⟨rfl,Bbp hg h1 h2 h3 h5,I3 h4⟩⟩
   ·cases h
  ·cases h
 ·split at h
  ·split at h
   ·rename_i k x z _ y T E n g kt t hg
    injection h with h;subst h
    have key:∀p:(0<=z/\z<=255)/\n+1<=140737488355328,ACalls Tryz.prog 19 ((sBw [Cu z] k kt x t (bytesOf n g) (.ret .nili) [.int .u8 z]).args ()) ((sBw [Cu z] k kt x t (bytesOf n g) (.ret .nili) [.int .u8 z]).st ()) (SpecR (sBw [Cu z] k kt x t (bytesOf n g) (.ret .nili) [.int .u8 z]) ()):=fun p=>by
     have:=Boa k kt x t (Bqm x t (bytesOf n g) (Cu z) (by simpa[bytesOf] using p.2))
     rw[M0 p.1] at this
     exact this
    refine⟨fun _ hy=>key hy.1.2,fun _ _ hy=>?_,fun h=>nomatch h⟩
    obtain ⟨⟨⟨h1,h2,h3,h4,h5⟩,_⟩,_⟩:=hy
    exact⟨⟨by simp[Bn,chk],Bp _,trivial⟩,Bb.2 ⟨rfl,Bbp hg h1 h2 h3 h5,I3 h4⟩⟩
   ·cases h
  ·cases h
 ·split at h
  ·split at h
   ·rename_i k x _ y T E n g kt t hg
    injection h with h;subst h
    refine⟨fun _ hy=>BmB k kt x t (bytesOf n g) (by have:=hy.1.2;simp[bytesOf];omega),fun _ _ hy=>?_,fun h=>nomatch h⟩
    obtain ⟨⟨⟨h1,h2,h3,h4,h5⟩,_⟩,_⟩:=hy
    exact⟨⟨by simp[Bn,chk],trivial⟩,Bb.2 ⟨rfl,Bbp hg h1 h2 h3 h5,I3 h4⟩⟩
   ·cases h
  ·cases h
 ·exact Ib _ _ _ _ h
theorem Bm1(t y:Nat)(l:List UInt8):Bhj [(0,t)] y y 50 5 0 t l.length (fun i=>[.int .u8 ((l.getD i 0).toNat:Int)]):=⟨rfl,rfl,rfl,rfl,IU l⟩
theorem BaN{n:Int}(h:n<0):BA n=95::(Lib.itoa n).drop 1:=by
 simp only[BA,Lib.itoa,if_pos h];rfl
theorem R2{n:Int}(h:¬n<0):BA n=Lib.itoa n:=by
 simp only[BA,Lib.itoa,if_neg h]
theorem OH(l:List UInt8):[].append l=l:=rfl
noncomputable def Ess(l:List Int):Senv:={ EC Bjm 28 1 [2,3,4,5,6,7,8,9,10,15,20] (fun _=>([],[])) with
 bd:=fun t=>match t with
  |50=>some 5
  |_=>none
 ann:=fun b _ S=>match b with
  |0=>some { slots:=[9],keep:=[0,1,3,7,8],α:=Nat×Nat×List UInt8,st:=fun y=>([.int .i64 y.1],⟨Il S.objs 0 (.bld 50 5 (bsl y.2.2 (.tok 0 y.2.1))),[(0,y.2.1)]⟩),inv:=fun y=>JHd [32] (l.map BA) y.1 y.2.2,mu:=fun y=>l.length-y.1 }
  |_=>none }
def X9(a:List Int)(b:Nat)(c:List UInt8):Prop:=JHd [(32:UInt8)] (List.map BA a) b c
def V8(a:List UInt8)(b:Nat):List D:=[ZB (BI a b)]
def Qcg(a b:Nat)(c:List UInt8):Prop:=Bhj [(N0,a)] b b (50:Nat) (5:Nat) N0 a (LN c) fun i=>V8 c i
def Qch(a:List Int)(b:Nat):List UInt8:=Lib.itoa (GI a (Int.toNat (↑b:Int)))
def QiX(a:List Int)(b:Nat):Nat:=LN (Qch a b)
def V9(a:List Int)(b:Nat):Int:=(NI (QiX a b))
def QvN(a:List Int)(b:Nat):List UInt8:=List.drop N1 (List.take (Int.toNat (V9 a b)) (Qch a b))
def QvO(a:List Int)(b:Nat):Nat:=N1+LN (QvN a b)
def Qci(a:List UInt8):List UInt8:=bytesOf (LN a) fun i=>V8 a i
def QvP(a:List UInt8):List UInt8:=Qci a++[Cu (32:Int)]
def Qcj(a:List UInt8):Nat:=LN (QvP a)
def QvQ(a:List UInt8)(b:Nat):List D:=[ZB (BI (QvP a) b)]
def QvR(a b:Nat)(c:List UInt8):Prop:=Bhj [(N0,a)] b b (50:Nat) (5:Nat) N0 a (Qcj c) fun i=>QvQ c i
def QiY(a:List Int)(b:Nat):List UInt8:=(95:UInt8)::List.append [] (QvN a b)
def QvS(a:List Int)(b:Nat):Nat:=LN (QiY a b)
def QPF(a:List Int):D:=SI a
def QvT(a:List Int):Prop:=SM (QPF a)
def Qck(a:List Int)(b:Nat):Prop:=QvT a/\SM D.unk/\SM (D.ref N0 b N0)/\QvT a/\SM (ZI (LI a))/\True
def Qcl(a b:Nat):Prop:=IntKind.wrap IntKind.i64 ((↑a:Int)+Z1)=(↑b:Int)/\True
def QvU(a:List UInt8):List UInt8:=bytesOf (Qcj a) fun i=>QvQ a i
def QvV(a:List UInt8)(b:List Int)(c:Nat):List UInt8:=QvU a++QiY b c
def QvW(a:List UInt8)(b:List Int)(c:Nat):Nat:=LN (QvV a b c)
def QvX(a:List UInt8)(b:List Int)(c:Nat):List UInt8:=QvU a++Qch b c
def QvY(a:List UInt8)(b:List Int)(c:Nat):Nat:=LN (QvX a b c)
def QvZ(a:List UInt8)(b:List Int)(c:Nat):List UInt8:=Qci a++QiY b c
def Qv0(a:List UInt8)(b:List Int)(c:Nat):Nat:=LN (QvZ a b c)
def Qv1(a:List UInt8)(b:List Int)(c:Nat):List UInt8:=Qci a++Qch b c
def Qv2(a:List UInt8)(b:List Int)(c:Nat):Nat:=LN (Qv1 a b c)
theorem BjY(l:List Int)(hl:l.length<=1099511627776)(hc:∀z∈l,Bt z):ACalls Tryz.prog 141 [isl l .any] ⟨[],[]⟩ (SpecR (sC [isl l .any] (.str (CZ l))) ()):=by
 refine Bg (A:=sC _ _) (x:=()) (E:=Ess l) (eOk Bkb rfl) Tryz.func141 rfl (by kernel_rfl) rfl (by simp[sC,Ess,EC,E0]) ?_
 refine Bi (T :=
  ∀(y t:Nat),True->(∃(x:Nat×Nat×List UInt8),X9 l x.1 x.2.2/\(Z0=(NI x.1)/\True)/\(SM y/\(N0=LN x.2.2/\(∀(i:Nat),i<N0->Cw (List D) [] (V8 x.2.2 i))/\t=x.2.1)/\True)/\t=x.2.1/\True)/\∀(x:Nat×Nat×List UInt8),X9 l x.1 x.2.2->ifB (decide ((NI x.1)<(LI l))) (Bc (Z0<=(NI x.1)/\(NI x.1)<(LI l)) (ifB (decide (Z0<(NI x.1))) (((Qcg x.2.1 y x.2.2/\(Z0<=32/\(32:Int)<=255)/\LN x.2.2+N1<=140737488355328)/\True)/\∀(y_1:Nat),True->Bt (GI l (TN x.1))/\∀(y_2:Unit),True->ifB (decide (GI l (TN x.1)<Z0)) (Bc (Z0<=Z1/\Z1<=V9 l x.1/\V9 l x.1<=V9 l x.1) (Bc (QvO l x.1<=9223372036854775807) (((QvR y_1 y x.2.2/\Qcj x.2.2+QvS l x.1<=140737488355328)/\True)/\∀(y_3:Nat),True->Qck l y/\∃(y_4:Nat×Nat×List UInt8),X9 l y_4.1 y_4.2.2/\LN l-y_4.1<LN l-x.1/\Qcl x.1 y_4.1/\(SM y/\(QvW x.2.2 l x.1=LN y_4.2.2/\(∀(i:Nat),i<QvW x.2.2 l x.1->[ZB (BI (QvV x.2.2 l x.1) i)]=V8 y_4.2.2 i)/\y_3=y_4.2.1)/\True)/\y_3=y_4.2.1/\True))) (((QvR y_1 y x.2.2/\Qcj x.2.2+QiX l x.1<=140737488355328)/\True)/\∀(y_3:Nat),True->Qck l y/\∃(y_4:Nat×Nat×List UInt8),X9 l y_4.1 y_4.2.2/\LN l-y_4.1<LN l-x.1/\Qcl x.1 y_4.1/\(SM y/\(QvY x.2.2 l x.1=LN y_4.2.2/\(∀(i:Nat),i<QvY x.2.2 l x.1->[ZB (BI (QvX x.2.2 l x.1) i)]=V8 y_4.2.2 i)/\y_3=y_4.2.1)/\True)/\y_3=y_4.2.1/\True)) (Bt (GI l (TN x.1))/\∀(y_1:Unit),True->ifB (decide (GI l (TN x.1)<Z0)) (Bc (Z0<=Z1/\Z1<=V9 l x.1/\V9 l x.1<=V9 l x.1) (Bc (QvO l x.1<=9223372036854775807) (((Qcg x.2.1 y x.2.2/\LN x.2.2+QvS l x.1<=140737488355328)/\True)/\∀(y_2:Nat),True->Qck l y/\∃(y_3:Nat×Nat×List UInt8),X9 l y_3.1 y_3.2.2/\LN l-y_3.1<LN l-x.1/\Qcl x.1 y_3.1/\(SM y/\(Qv0 x.2.2 l x.1=LN y_3.2.2/\(∀(i:Nat),i<Qv0 x.2.2 l x.1->[ZB (BI (QvZ x.2.2 l x.1) i)]=V8 y_3.2.2 i)/\y_2=y_3.2.1)/\True)/\y_2=y_3.2.1/\True))) (((Qcg x.2.1 y x.2.2/\LN x.2.2+QiX l x.1<=140737488355328)/\True)/\∀(y_2:Nat),True->Qck l y/\∃(y_3:Nat×Nat×List UInt8),X9 l y_3.1 y_3.2.2/\LN l-y_3.1<LN l-x.1/\Qcl x.1 y_3.1/\(SM y/\(Qv2 x.2.2 l x.1=LN y_3.2.2/\(∀(i:Nat),i<Qv2 x.2.2 l x.1->[ZB (BI (Qv1 x.2.2 l x.1) i)]=V8 y_3.2.2 i)/\y_2=y_3.2.1)/\True)/\y_2=y_3.2.1/\True)))) (((Qcg x.2.1 y x.2.2/\LN x.2.2<=140737488355328)/\True)/\∀(y:Unit),True->RT (Qci x.2.2=CZ l))) (by kernel_rfl) ?_
 delta BI GI LI LN N0 N1 NI SI SM TN U0 Z0 Z1 ZB ZI X9 V8 Qcj QvQ QvR QiY QvS QPF QvT Qck Qcl QvU Qcg QvV QvW QvX QvY QvZ Qv0 Qv1 Qv2 Qch QiX V9 QvN QvO Qci QvP RT
 simp only[Bf,Bd,decide_eq_true_eq,true_and,and_true,exists_const,forall_const,Int.toNat_natCast,eq_self,CL,Bm1,List.take_length,OH]
 intro t
 refine⟨⟨(0,t,[]),JHd.init _ _,rfl,⟨rfl,fun i hi=>absurd hi (by omega),rfl⟩,rfl⟩,?_⟩
 rintro ⟨i,t1,out⟩ hh
 simp only at hh ⊢
 have h1:=hh.len
 have hd:=GX hc
 have hdd:Lib.join (l.map BA) [32]=CZ l:=rfl
 rw[hdd] at h1
 refine⟨fun hlt=>?_,fun hge=>?_⟩
 ·have hlt':i<l.length:=by omega
  have hz:=hc _ (Bck hlt')
  have hi:=Wn hz
  have hb:Cu 32=32:=rfl
  have hm:i<(l.map BA).length:=by simpa using hlt'
  have st:i≠0->JHd [32] (l.map BA) (i+1) (out++[Cu 32]++BA (l.getD i 0)):=fun h0=>by
   have:=hh.step h0 hm
   rw[Bna hlt'] at this
   exact this
  have st0:i=0->JHd [32] (l.map BA) (i+1) (out++BA (l.getD i 0)):=fun h0=>by
   subst h0
   have:=hh.step0 hm
   rw[Bna hlt'] at this
   exact this
  refine⟨⟨by omega,by omega⟩,fun h0=>⟨⟨⟨by omega,by omega⟩,by omega⟩,hz,fun hn=>⟨⟨by omega,by omega,by omega⟩,by rw[List.length_drop];omega,?_,fun t3=>⟨(i+1,t3,out++[Cu 32]++95::List.drop 1 (Lib.itoa (l.getD i 0))),?_,by simp only;omega,Ba (by omega) (by omega),⟨rfl,fun _ _=>rfl,rfl⟩,rfl⟩⟩,fun hn=>⟨?_,fun t3=>⟨(i+1,t3,out++[Cu 32]++Lib.itoa (l.getD i 0)),?_,by simp only;omega,Ba (by omega) (by omega),⟨rfl,fun _ _=>rfl,rfl⟩,rfl⟩⟩⟩,
   fun h0=>⟨hz,fun hn=>⟨⟨by omega,by omega,by omega⟩,by rw[List.length_drop];omega,?_,fun t3=>⟨(i+1,t3,out++95::List.drop 1 (Lib.itoa (l.getD i 0))),?_,by simp only;omega,Ba (by omega) (by omega),⟨rfl,fun _ _=>rfl,rfl⟩,rfl⟩⟩,fun hn=>⟨?_,fun t3=>⟨(i+1,t3,out++Lib.itoa (l.getD i 0)),?_,by simp only;omega,Ba (by omega) (by omega),⟨rfl,fun _ _=>rfl,rfl⟩,rfl⟩⟩⟩⟩
  ·simp only[List.length_append,List.length_cons,List.length_nil,List.length_drop];omega
  ·rw[<- BaN hn];exact st (by omega)
  ·simp only[List.length_append,List.length_cons,List.length_nil];omega
  ·rw[<- R2 (n:=l.getD i 0) (by simpa using hn)];exact st (by omega)
  ·simp only[List.length_cons,List.length_drop];omega
  ·rw[<- BaN hn];exact st0 (by simpa using h0)
  ·omega
  ·rw[<- R2 (n:=l.getD i 0) (by simpa using hn)];exact st0 (by simpa using h0)
 ·have hge':¬i<l.length:=by simpa using hge
  have hd:=hh.done (by simpa using hge')
  exact⟨by omega,hd⟩
def Bea:List UInt8:=[98,111,120,32]
def Wf:List UInt8:=[32,114,101,115,104,97,112,101,32]
def CC(k:Int)(n:List Int)(ls:List (List UInt8)):List UInt8 :=
 if k=1 then BA (n.getD 0 0) else if k=2 then IB 39 [n.getD 0 0] else Bea++ls.getD 0 []
def Ga(l:List UInt8):List UInt8:=40::(Bea++l++[41])
def E8(k:Int)(n:List Int)(ls:List (List UInt8)):List UInt8 :=
 if k=2 then IB 34 n else Lib.join (n.map BA++ls.map Ga) [32]
def Wi(k:Int):List UInt8:=if k=1 then BA 0 else if k=2 then IB 39 [32] else Bea++(CZ [0]++Wf++BA 0)
def Mx(k:Int)(s n:List Int)(ls:List (List UInt8)):List UInt8 :=
 if s.length=0 then CC k n ls
 else if s.length=1/\(k=2\/1<n.length+ls.length) then E8 k n ls
 else CZ s++Wf++(if n.length+ls.length=0 then Wi k else if n.length+ls.length=1 then CC k n ls else E8 k n ls)
mutual
def By:Arr->List UInt8
 |.mk k s n is=>Mx k s n (Oa is)
def Oa:List Arr->List (List UInt8)
 | []=>[]
 |a::r=>By a::Oa r
end
theorem ML:∀l:List Arr,Oa l=l.map By
 | []=>rfl
 |a::l=>by simp only[Oa,List.map_cons,ML l]
theorem Mc(a:Arr):By a=Mx a.k a.sh a.nu (a.it.map By):=by
 cases a with
 |mk k s n is=>rw[By,ML];rfl
def Cs:List (List UInt8)->Nat
 | []=>0
 |x::l=>x.length+Cs l
theorem Bhc:∀l:List (List UInt8),(l.getD 0 []).length<=Cs l
 | []=>by simp[Cs]
 |x::l=>by simp[Cs]
theorem Ut:∀l r:List (List UInt8),Cs (l++r)=Cs l+Cs r
 | [],r=>by simp[Cs]
 |x::l,r=>by simp only[List.cons_append,Cs,Ut l r];omega
theorem Blq(sep:List UInt8):∀l:List (List UInt8),(jT sep l).length=sep.length*l.length+Cs l
 | []=>by simp[jT,Cs]
 |x::l=>by
  have:=Blq sep l
  simp only[jT,List.flatMap_cons,List.length_append,List.length_cons,Nat.mul_succ,Cs] at this ⊢
  omega
theorem Ta(sep:List UInt8)(l:List (List UInt8)):(Lib.join l sep).length<=sep.length*l.length+Cs l:=by
 cases l with
 |nil=>simp[WU]
 |cons x l =>
  rw[B7]
  have:=Blq sep l
  simp only[List.length_append,List.length_cons,Nat.mul_succ,Cs]
  omega
theorem Bc0:∀l:List Int,(∀z∈l,Bt z)->Cs (l.map BA)<=21*l.length
 | [],_=>by simp[Cs]
 |x::l,h=>by
  have h1:=Bc0 l fun y hy=>h y (List.mem_cons_of_mem _ hy)
  have h2:=IT (h x List.mem_cons_self)
  simp only[List.map_cons,Cs,List.length_cons];omega
theorem Bct:∀l:List (List UInt8),Cs (l.map Ga)=6*l.length+Cs l
 | []=>by simp[Cs]
 |x::l=>by
  have:=Bct l
  simp only[List.map_cons,Cs,List.length_cons,this,Ga,Bea,List.length_append,List.length_nil];omega
theorem U9(q:Int)(l:List Int):(IB q l).length<=8+6*l.length:=by
 have h1:=Mw q
 have h2:=Tb q l
 simp only[IB,List.length_append];omega
theorem R8{z:Int}(h:Bt z):(BA z).length<=21:=(IT h).2
theorem WV{l:List Int}(h:∀z∈l,Bt z):Bt (l.getD 0 0):=by
 cases l with
 |nil=>exact⟨by decide,by decide⟩
 |cons x l=>exact h x List.mem_cons_self
theorem T6(k:Int){n:List Int}(hn:∀z∈n,Bt z)(ls:List (List UInt8)):(CC k n ls).length<=21+Cs ls:=by
 have h1:=R8 (WV hn)
 have h2:=U9 39 [n.getD 0 0]
 have h3:=Bhc ls
 simp only[List.length_cons,List.length_nil] at h2
 unfold CC Bea
 split
 ·omega
 split
 ·omega
 ·simp only[List.length_append,List.length_cons,List.length_nil];omega
theorem Mn(k:Int){n:List Int}(hn:∀z∈n,Bt z)(ls:List (List UInt8)):(E8 k n ls).length<=8+22*n.length+7*ls.length+Cs ls:=by
 have h1:=U9 34 n
 have h2:=Ta [32] (n.map BA++ls.map Ga)
 have h3:=Bc0 n hn
 have h4:=Bct ls
 rw[Ut] at h2
 simp only[List.length_append,List.length_map,List.length_cons,List.length_nil] at h2
 unfold E8
 split<;>omega
theorem TO(k:Int):(Wi k).length<=60:=by
 have h0:Bt 0:=⟨by decide,by decide⟩
 have h1:=R8 h0
 have h2:=U9 39 [32]
 have h3:=GX (l:=[0]) (by simpa using h0)
 simp only[List.length_cons,List.length_nil] at h2 h3
 unfold Wi Bea Wf
 split
 ·omega
 split
 ·omega
 ·simp only[List.length_append,List.length_cons,List.length_nil];omega
theorem Bcg(k : Int){s n : List Int}(hs8 : s.length<=8)(hs : ∀z∈s, Bt z)(hn : ∀z∈n, Bt z)(ls : List (List UInt8)) :
  (Mx k s n ls).length<=300+22*n.length+7*ls.length+Cs ls:=by
 have h1:=T6 k hn ls
 have h2:=Mn k hn ls
 have h3:=TO k
 have h4:=GX hs
 unfold Mx Wf
 split
 ·omega
 split
 ·omega
 ·simp only[List.length_append,List.length_cons,List.length_nil]
  split
  ·omega
  split<;>omega
mutual
def BaZ:Arr->Nat
 |.mk _ _ n is=>n.length+U6 is
def U6:List Arr->Nat
 | []=>0
 |a::r=>1+BaZ a+U6 r
end
theorem WB:∀a:Arr,a.ok->(Bw a).1=0->(By a).length<=600*BaZ a+300
 |.mk k s n is,ho,h=>by
  obtain ⟨h1,_,_,h4⟩:=EP h
  simp only[Arr.ok] at ho
  obtain ⟨_,hs,hn,_,_,_,hi⟩:=ho
  have hi:=(EY _).1 hi
  have key:∀l:List Arr,(∀x∈l,x∈is)->7*l.length+Cs (Oa l)<=600*U6 l:=fun l=>by
   induction l with
   |nil=>simp[Oa,Cs,U6]
   |cons x l ih =>
    intro hl
    have h5:=ih fun y hy=>hl y (List.mem_cons_of_mem _ hy)
    have hx:x∈is:=hl x List.mem_cons_self
    have h6:=WB x (hi x hx) (h4 x hx)
    simp only[Oa,Cs,U6,List.length_cons];omega
  have hk:=key is fun x hx=>hx
  have h7:=Bcg k h1 hs hn (Oa is)
  have h8:(Oa is).length=is.length:=by rw[ML,List.length_map]
  simp only[By,BaZ]
  omega
termination_by a=>SizeOf.sizeOf a
decreasing_by
 have:=List.sizeOf_lt_of_mem hx
 simp;omega
theorem Bdn:∀(l:List Arr) (d w:Int) (r:Int×Int),C7 l d w=some r->262145<=w->262145<=r.2
 | [],d,w,r,h,hw=>by rw[C7] at h;injection h with h;subst h;exact hw
 |x::l,d,w,r,h,hw=>by
  rw[C7] at h
  split at h
  ·cases h
  ·have hb:=(Ej x).2.1
   refine Bdn l _ _ r h ?_
   split<;>omega
theorem BcV:∀(l:List Arr),(∀x∈l,(Bw x).1=0->(Bw x).2.2=BaZ x)->∀(d w:Int) (r:Int×Int),C7 l d w=some r->r.2<=262144->r.2=w+U6 l-l.length
 | [],_,d,w,r,h,_=>by rw[C7] at h;injection h with h;subst h;simp[U6]
 |x::l,hx,d,w,r,h,hr=>by
  rw[C7] at h
  split at h
  ·cases h
  ·rename_i h0
   have h0:(Bw x).1=0:=Decidable.not_not.1 h0
   have h1:=hx x List.mem_cons_self h0
   by_cases hb:262145<w+(Bw x).2.2
   ·rw[if_pos hb] at h
    have:=Bdn l _ _ r h (Int.le_refl _)
    omega
   ·rw[if_neg hb] at h
    have:=BcV l (fun y hy=>hx y (List.mem_cons_of_mem _ hy)) _ _ r h hr
    simp only[U6,List.length_cons]
    omega
theorem BdJ:∀a:Arr,(Bw a).1=0->(Bw a).2.2=BaZ a
 |.mk k s n is,h=>by
  have hx:∀x∈is,(Bw x).1=0->(Bw x).2.2=BaZ x:=fun x hx h=>BdJ x h
  rw[Bw] at h ⊢
  by_cases h0:B8 k s n.length is.length≠0
  ·rw[if_pos h0] at h;exact (h0 h).elim
  ·rw[if_neg h0] at h ⊢
   by_cases hb:n.any (E9 k)=true
   ·rw[if_pos hb] at h;simp at h
   ·rw[if_neg hb] at h ⊢
    cases hr:C7 is 0 ((n.length:Int)+is.length) with
    |none=>rw[hr] at h;simp at h
    |some r =>
     rw[hr] at h
     simp only at h ⊢
     by_cases hc:16<r.1\/262144<r.2
     ·rw[if_pos hc] at h;simp at h
     ·rw[if_neg hc]
      have:=BcV is hx _ _ r hr (by omega)
      simp only[BaZ]
      omega
termination_by a=>SizeOf.sizeOf a
decreasing_by
 have:=List.sizeOf_lt_of_mem hx
 simp;omega
theorem Bjt{a:Arr}(h:(Bw a).1=0):BaZ a<=262144:=by
 have h1:=BdJ a h
 have h2:=Ej a
 omega
theorem BoB{a:Arr}(ho:a.ok)(h:(Bw a).1=0):(By a).length<=157286700:=by
 have h1:=WB a ho h
 have h2:=Bjt h
 omega
def BgU(its:List Arr):Con:=fun k ds S=>match k with
 |121=>some (sRc Arr.row1 (fun b=>b∈its) (fun b=>.str (By b)))
 |137=>match ds with
  | [.sl 1 n f m]=>some (pC [.sl 1 n f m] (.str (Lib.join (B5 n f) [32])) (Gx n f=true/\GG (B5 n f) [32]))
  |_=>none
 |k=>OM k ds S
theorem Bi6{its:List Arr}(ih:∀b∈its,ACalls Tryz.prog 121 ((sRc Arr.row2 (fun _=>True) (fun b=>.str (By b))).args b) ⟨[],[]⟩ (SpecR (sRc Arr.row2 (fun _=>True) (fun b=>.str (By b))) b)):ConOk Tryz.prog (BgU its):=by
 intro k ds S A h
 unfold BgU at h
 split at h
 ·injection h with h;subst h
  exact ConOk.plain (fun b hb=>El (ih b hb)) rfl rfl
 ·split at h
  ·injection h with h;subst h
   exact BW fun ⟨h1,h2⟩=>⟨Bk _,B9 (us:=[ssl (B5 _ _) .any]) ⟨Rc h1,trivial⟩ (Bcf _ h2)⟩
  ·cases h
 ·exact Ib _ _ _ _ h
noncomputable def Evc(a:Arr):Senv:={ EC (BgU a.it) 44 4 [5,7,10,15,16,17,18,28,29,30,31] (fun _=>([],[])) with
 gh:=fun b=>match b with
  |0=>[.slot 3]
  |_=>[]
 ann:=fun b _ S=>match b with
  |0=>some { slots:=[17,3],keep:=[1,15,16],α:=Nat×Nat×List (List UInt8),st:=fun y=>([.int .i64 y.1,ssl y.2.2 (.tok 0 y.2.1)],⟨S.objs,[(0,y.2.1)]⟩),inv:=fun y=>y.1<=a.nu.length/\y.2.2=(a.nu.take y.1).map BA,mu:=fun y=>a.nu.length-y.1 }
  |2=>some { slots:=[30,3],keep:=[1,28,29],α:=Nat×Nat×List (List UInt8),st:=fun y=>([.int .i64 y.1,ssl y.2.2 (.tok 0 y.2.1)],⟨S.objs,[(0,y.2.1)]⟩),inv:=fun y=>y.1<=a.it.length/\y.2.2=a.nu.map BA++(a.it.take y.1).map (fun b=>Ga (By b)),mu:=fun y=>a.it.length-y.1 }
  |_=>none }
theorem O8{l : List (List UInt8)}{s : List UInt8} :
  ∀i,i<l.length+1->BN l.length (fun i=>[D.str (l.getD i [])]) (fun i=>[D.str ([s].getD i [])]) i=[D.str ((l++[s]).getD i [])]:=by
 intro i hi
 simp only[BN]
 split
 ·rename_i hlt
  simp[List.getD_eq_getElem?_getD,List.getElem?_append_left hlt]
 ·have:i=l.length:=by omega
  subst this
  simp[List.getD_eq_getElem?_getD]
theorem Bgr{α:Type}{l:List α}{i:Nat}(d:α)(h:i<l.length):l.take (i+1)=l.take i++[l.getD i d]:=by
 rw[List.take_add_one,List.getElem?_eq_getElem h,List.getD_eq_getElem?_getD,List.getElem?_eq_getElem h];rfl
theorem BnA{a:Arr}(h:(Bw a).1=0)(h2:a.k=2):∀c∈a.nu,0<=c/\c<=1114111:=by
 cases a with
 |mk k s n is =>
  have h2:k=2:=h2
  subst h2
  rw[Bw] at h
  by_cases h0:B8 2 s n.length is.length≠0
  ·rw[if_pos h0] at h;exact (h0 h).elim
  ·rw[if_neg h0] at h
   by_cases hb:n.any (E9 2)=true
   ·rw[if_pos hb] at h;simp at h
   ·intro c hc
    have hb:¬E9 2 c=true:=fun h=>hb (List.any_eq_true.2 ⟨c,hc,h⟩)
    have:WM c=true:=by simpa[E9] using hb
    simp only[WM,Bool.and_eq_true,decide_eq_true_eq] at this
    omega
theorem Bhn{a:Arr}(ho:a.ok)(h:(Bw a).1=0):7*a.it.length+Cs (a.it.map By)<=157286400:=by
 have ht:=Bjt h
 cases a with
 |mk k s n is =>
  obtain ⟨_,_,_,h4⟩:=EP h
  simp only[Arr.ok] at ho
  have hi:=(EY _).1 ho.2.2.2.2.2.2
  have key:∀l:List Arr,(∀x∈l,x∈is)->7*l.length+Cs (l.map By)<=600*U6 l:=fun l=>by
   induction l with
   |nil=>simp[Cs,U6]
   |cons x l ih =>
    intro hl
    have h5:=ih fun y hy=>hl y (List.mem_cons_of_mem _ hy)
    have hx:x∈is:=hl x List.mem_cons_self
    have h6:=WB x (hi x hx) (h4 x hx)
    simp only[List.map_cons,Cs,U6,List.length_cons];omega
  have hk:=key is fun x hx=>hx
  simp only[BaZ] at ht
  show 7*is.length+Cs (is.map By)<=_
  omega
theorem M2:∀ {l:List Arr} {x:Arr},x∈l->(By x).length<=Cs (l.map By)
 |y::l,x,h=>by
  simp only[List.map_cons,Cs]
  rcases List.mem_cons.1 h with rfl | h
  ·omega
  ·have:=M2 h;omega
theorem Blg{a:Arr}(ho:a.ok)(h:(Bw a).1=0):a.sh.length<=8/\a.nu.length<=65536/\a.it.length<=65536/\(∀z∈a.sh,Bt z)/\∀z∈a.nu,Bt z:=by
 cases a with
 |mk k s n is =>
  obtain ⟨h1,h2,h3,_⟩:=EP h
  simp only[Arr.ok] at ho
  exact⟨h1,h2,h3,ho.2.1,ho.2.2.1⟩
structure LOk (a:Arr):Prop where
 kd:a.k=1\/a.k=2\/a.k=3
 s8:a.sh.length<=8
 n6:a.nu.length<=65536
 i6:a.it.length<=65536
 si:∀z∈a.sh,Bt z
 ni:∀z∈a.nu,Bt z
 sum:7*a.it.length+Cs (a.it.map By)<=157286400
 chr:a.k=2->∀c∈a.nu,0<=c/\c<=1114111
 no:a.k≠3->a.it=[]
 bx:a.k=3->a.nu=[]
 sc:a.sh.length=0->a.nu.length+a.it.length=1
def Qcm(a:Arr):Int:=Arr.k a
def Xa(a:Arr):List Int:=Arr.nu a
def JF(a:Arr):Nat:=LN (Xa a)
def ZU(a:Arr)(b:Nat):List D:=[ZI (GI (Xa a) b)]
def Qv3(a:Arr):List Int:=Bj (JF a) fun i=>ZU a i
def Ya(a:Arr):List Arr:=Arr.it a
def Qv4(a:Arr):List UInt8:=E8 (Qcm a) (Xa a) (List.map By (Ya a))
def QiZ(a:Nat)(b:Arr)(c:List (List UInt8)):Prop:=a<=JF b/\c=List.map BA (List.take a (Xa b))
def J7(a:List (List UInt8))(b:Nat):List D:=[D.str (List.getD a b [])]
def Qi0(a:Arr):Nat:=LN (Arr.sh a)
def Qv5(a:Arr)(b:Nat):List D:=[ZI (GI (Arr.sh a) b)]
def Vu(a:Arr):Nat:=LN (Ya a)
def Qcn:Arr:=DA
def ZV(a:Arr)(b:Nat):Arr:=List.getD (Ya a) b Qcn
def QPG(a:Arr)(b:Nat):List Int:=Arr.sh (ZV a b)
def QPH(a:Arr)(b:Nat):List Int:=Arr.nu (ZV a b)
def Qv6(a:Arr)(b:Nat):List Arr:=Arr.it (ZV a b)
def Qv7(a:Arr)(b:Nat):List D:=[ZI (Arr.k (ZV a b)),SI (QPG a b),SI (QPH a b),D.sl N4 (LN (Qv6 a b)) (fun i=>Arr.row (List.getD (Qv6 a b) i Qcn)) Mode.any]
def Qco(a:Nat)(b:Arr)(c d:Nat):Prop:=(SM a/\(SM (Qcm b)/\(SM (Qi0 b)/\(∀(i:Nat),i<Qi0 b->SM (Qv5 b i))/\True)/\(SM (JF b)/\(∀(i:Nat),i<JF b->SM (ZU b i))/\True)/\(SM (Vu b)/\(∀(i:Nat),i<Vu b->SM (Qv7 b i))/\True)/\True)/\True)/\c=d/\True
def Qi1(a:Arr):Int:=(NI (JF a))
def QPI(a:Arr):D:=D.sl N1 (JF a) (fun i=>ZU a i) Mode.any
def Qcp(a:Arr):List UInt8:=By a
def Qi2(a:Nat)(c:Arr)(d:List (List UInt8)):Prop:=a<=Vu c/\d=List.map BA (Xa c)++List.map (fun (b:Arr)=>Ga (Qcp b)) (List.take a (Ya c))
def Qi3(a:Arr):Int:=(NI (Vu a))
def Qcq(a:Arr)(b:Nat):Arr:=List.getD (Ya a) (Int.toNat (↑b:Int)) Qcn
def Qv8(a:Arr)(b:Nat):List Int:=Arr.sh (Qcq a b)
def Qv9(a:Arr)(b:Nat):Nat:=LN (Qv8 a b)
def Qwa(a:Arr)(b:Nat):List Int:=Arr.nu (Qcq a b)
def Qwb(a:Arr)(b:Nat):Nat:=LN (Qwa a b)
def Qwc(a:Arr)(b:Nat):List Arr:=Arr.it (Qcq a b)
def Qwd(a:Arr)(b:Nat):Nat:=LN (Qwc a b)
def QPJ(a:Arr):D:=D.sl N4 (Vu a) (fun i=>Qv7 a i) Mode.any
def Qwe(a:List (List UInt8)):List (List UInt8):=B5 (LN a) fun i=>J7 a i
theorem BlN(a : Arr)(ho : LOk a)(hc : ConOk Tryz.prog (BgU a.it)) :
  ACalls Tryz.prog 138 ((sRc Arr.row2 (fun _=>True) (fun a=>.str (E8 a.k a.nu (a.it.map By)))).args a) ⟨[],[]⟩ (SpecR (sRc Arr.row2 (fun _=>True) (fun a=>.str (E8 a.k a.nu (a.it.map By)))) a):=by
 refine Bg (A:=sRc Arr.row2 (fun _=>True) (fun a=>.str (E8 a.k a.nu (a.it.map By)))) (x:=a) (E:=Evc a) (eOk hc rfl) Tryz.func138 rfl (by kernel_rfl) rfl (by simp[sRc,Evc,EC,E0]) ?_
 refine Bi (T :=
  ∀(x:Nat),True->SM x/\ifB (Qcm a==2) (SM x/\(JF a<=1099511627776/\(IntsP (JF a) fun i=>ZU a i)/\∀(c:Int),c∈Qv3 a->Z0<=c/\c<=1114111)/\∀(y:Unit),True->RT (IB (34:Int) (Qv3 a)=Qv4 a)) (SM x/\∀(t:Nat),(∃(x_1:Nat×Nat×List (List UInt8)),QiZ x_1.1 a x_1.2.2/\(Z0=(NI x_1.1)/\(N0=LN x_1.2.2/\(∀(i:Nat),i<N0->Cw (List D) [] (J7 x_1.2.2 i))/\t=x_1.2.1)/\True)/\Qco x a t x_1.2.1)/\∀(x_1:Nat×Nat×List (List UInt8)),QiZ x_1.1 a x_1.2.2->ifB (decide ((NI x_1.1)<Qi1 a)) (Bc (Z0<=(NI x_1.1)/\(NI x_1.1)<Qi1 a) (Bt (GI (Xa a) (TN x_1.1))/\∀(y:Unit),True->SM x_1.2.1/\Bc ((LN x_1.2.2+N1)*16<=140737488355328/\LN x_1.2.2+N1<=9223372036854775807) (∀(t:Nat),(SM (D.ref N0 x N0)/\SM (QPI a)/\SM (ZI (Qi1 a))/\True)/\∃(y:Nat×Nat×List (List UInt8)),QiZ y.1 a y.2.2/\JF a-y.1<JF a-x_1.1/\(IntKind.wrap IntKind.i64 ((NI x_1.1)+Z1)=(NI y.1)/\(LN x_1.2.2+N1=LN y.2.2/\(∀(i:Nat),i<LN x_1.2.2+N1->BN (LN x_1.2.2) (fun i=>J7 x_1.2.2 i) (fun i=>[D.str (List.getD [BA (GI (Xa a) (TN x_1.1))] i [])]) i=J7 y.2.2 i)/\t=y.2.1)/\True)/\Qco x a t y.2.1))) (SM x/\(∃(x_2:Nat×Nat×List (List UInt8)),Qi2 x_2.1 a x_2.2.2/\(Z0=(NI x_2.1)/\(LN x_1.2.2=LN x_2.2.2/\(∀(i:Nat),i<LN x_1.2.2->J7 x_1.2.2 i=J7 x_2.2.2 i)/\x_1.2.1=x_2.2.1)/\True)/\Qco x a x_1.2.1 x_2.2.1)/\∀(x_2:Nat×Nat×List (List UInt8)),Qi2 x_2.1 a x_2.2.2->ifB (decide ((NI x_2.1)<Qi3 a)) (Bc (Z0<=(NI x_2.1)/\(NI x_2.1)<Qi3 a) (∀(x_3:Nat),x≠x_3/\True->SM x_3/\SM x_3/\∃(x_4:Arr),((Arr.k (Qcq a x_2.1)=Qcm x_4/\(Qv9 a x_2.1=Qi0 x_4/\(∀(i:Nat),i<Qv9 a x_2.1->[ZI (GI (Qv8 a x_2.1) i)]=Qv5 x_4 i)/\True)/\(Qwb a x_2.1=JF x_4/\(∀(i:Nat),i<Qwb a x_2.1->[ZI (GI (Qwa a x_2.1) i)]=ZU x_4 i)/\True)/\(Qwd a x_2.1=Vu x_4/\(∀(i:Nat),i<Qwd a x_2.1->Arr.row (List.getD (Qwc a x_2.1) i Qcn)=Arr.row (ZV x_4 i))/\True)/\True)/\True)/\(True/\True)/\x_4∈Ya a/\∀(y:Unit),True->Bc ((5:Nat)+LN (Qcp x_4)<=9223372036854775807) (Bc (LN ((40:UInt8)::(98:UInt8)::(111:UInt8)::(120:UInt8)::(32:UInt8)::List.append [] (Qcp x_4))+N1<=9223372036854775807) (SM x_2.2.1/\Bc ((LN x_2.2.2+N1)*16<=140737488355328/\LN x_2.2.2+N1<=9223372036854775807) (∀(t:Nat),(SM (D.ref N0 x N0)/\SM (QPJ a)/\SM (ZI (Qi3 a))/\True)/\∃(y:Nat×Nat×List (List UInt8)),Qi2 y.1 a y.2.2/\Vu a-y.1<Vu a-x_2.1/\(IntKind.wrap IntKind.i64 ((NI x_2.1)+Z1)=(NI y.1)/\(LN x_2.2.2+N1=LN y.2.2/\(∀(i:Nat),i<LN x_2.2.2+N1->BN (LN x_2.2.2) (fun i=>J7 x_2.2.2 i) (fun i=>[D.str (List.getD [(40:UInt8)::(98:UInt8)::(111:UInt8)::(120:UInt8)::(32:UInt8)::List.append (List.append [] (Qcp x_4)) [(41:UInt8)]] i [])]) i=J7 y.2.2 i)/\t=y.2.1)/\True)/\Qco x a t y.2.1))))) (((Gx (LN x_2.2.2) fun i=>J7 x_2.2.2 i)=true/\GG (Qwe x_2.2.2) [(32:UInt8)])/\∀(y:Unit),True->RT (Lib.join (Qwe x_2.2.2) [(32:UInt8)]=Qv4 a))))) (by kernel_rfl) ?_
 delta DA GI LN N0 N1 N4 NI SI SM TN Z0 Z1 ZI Qcm Xa Qv5 Vu Qcn ZV QPG QPH Qv6 Qv7 Qco Qi1 JF QPI Qcp Qi2 Qi3 Qcq Qv8 Qv9 Qwa Qwb Qwc ZU Qwd QPJ Qwe Qv3 Ya Qv4 QiZ J7 Qi0 RT
 have da:(default:Arr)=Arr.mk 0 [] [] []:=rfl
 simp only[<- da,Bf,Bd,decide_eq_true_eq,decide_eq_false_iff_not,true_and,and_true,beq_iff_eq,beq_eq_false_iff_ne,ne_eq,exists_const,forall_const,Int.toNat_natCast]
 simp only[B0]
 obtain ⟨_,l1,l2,l3,l4,l5,hsum,hchr,_,_,_⟩:=ho
 have tt:(∀i:Nat,i<a.sh.length->True)/\(∀i:Nat,i<a.nu.length->True)/\∀i:Nat,i<a.it.length->True:=⟨fun _ _=>trivial,fun _ _=>trivial,fun _ _=>trivial⟩
 intro x
 refine⟨fun h2=>⟨⟨by omega,BQ _,hchr h2⟩,by rw[E8,if_pos h2]⟩,fun h2 t=>⟨⟨(0,t,[]),⟨Nat.zero_le _,rfl⟩,⟨rfl,rfl,fun i hi=>absurd hi (by omega),rfl⟩,tt,rfl⟩,?_⟩⟩
 rintro ⟨i,t1,out⟩ ⟨hi,he⟩
 simp only at hi he ⊢
 have ho1:out.length=i:=by rw[he,List.length_map,List.length_take];omega
 refine⟨fun hlt=>?_,fun hge=>⟨⟨(0,t1,out),⟨Nat.zero_le _,?_⟩,⟨rfl,rfl,fun _ _=>rfl,rfl⟩,tt,rfl⟩,?_⟩⟩
 ·have hlt':i<a.nu.length:=by omega
  refine⟨⟨by omega,by omega⟩,l5 _ (Bck hlt'),⟨by omega,by omega⟩,fun t2=>⟨(i+1,t2,out++[BA (a.nu.getD i 0)]),⟨by simp only;omega,?_⟩,by simp only;omega,⟨Ba (by omega) (by omega),by simp,O8,rfl⟩,tt,rfl⟩⟩
  simp only
  rw[Bgr 0 hlt',List.map_append,he];rfl
 ·have:i=a.nu.length:=by omega
  subst this
  rw[he];simp
 rintro ⟨j,t3,o2⟩ ⟨hj,he2⟩
 simp only at hj he2 ⊢
 have ho2:o2.length=a.nu.length+j:=by rw[he2,List.length_append,List.length_map,List.length_map,List.length_take];omega
 refine⟨fun hlt=>⟨⟨by omega,by omega⟩,fun x3 _=>?_⟩,fun hge=>?_⟩
 ·have hlt':j<a.it.length:=by omega
  have hm:=Cg hlt'
  have hl:=M2 hm
  refine⟨a.it.getD j default,⟨rfl,⟨rfl,fun _ _=>rfl⟩,⟨rfl,fun _ _=>rfl⟩,rfl,fun _ _=>rfl⟩,hm,by omega,?_,⟨by omega,by omega⟩,fun t4=>⟨(j+1,t4,o2++[Ga (By (a.it.getD j default))]),⟨by simp only;omega,?_⟩,by simp only;omega,⟨Ba (by omega) (by omega),by simp,O8,rfl⟩,tt,rfl⟩⟩
  ·simp only[List.length_cons,OH];omega
  ·simp only
   rw[Bgr default hlt',List.map_append,he2,List.append_assoc];rfl
 ·have hj':j=a.it.length:=by omega
  subst hj'
  rw[List.take_length] at he2
  have hv:Lib.join o2 [32]=E8 a.k a.nu (a.it.map By):=by
   rw[E8,if_neg h2,he2,List.map_map];rfl
  have hvl:=Mn a.k l5 (a.it.map By)
  rw[List.length_map] at hvl
  rw[MP (l:=o2) rfl (fun _ _=>rfl)]
  exact⟨⟨Oz (l:=o2) rfl (fun _ _=>rfl),by omega,by rw[hv];omega⟩,hv⟩
end
end Go.Proofs.YtnlplccjbojloaaGreatDoor
