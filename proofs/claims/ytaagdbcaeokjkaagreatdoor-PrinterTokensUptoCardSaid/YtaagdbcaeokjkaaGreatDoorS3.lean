/- Functions of the given program and what each of them computes: lemmas towards the statement, their conditions stated with each of them. -/
import Derived.Test.YtaagdbcaeokjkaaGreatDoorS2
namespace Go.Proofs.YtaagdbcaeokjkaaGreatDoor
open Go Go.Ab
set_option maxRecDepth 100000
noncomputable section
theorem Bpp(x y:Nat)(hx:x<18446744073709551616)(hy:y<18446744073709551616):CD 40 [.int .u64 x,.int .u64 y] (.tup [.int .u64 ((x*y / 18446744073709551616:Nat):Int),.int .u64 ((x*y % 18446744073709551616:Nat):Int)]):=by
 refine ACalls.of_shelf ⟨_,Tryz.func40,by kernel_rfl,by kernel_rfl⟩ fun C args w ha=>?_
 obtain ⟨u,v,e,hu,hv⟩:=EO ha
 have e2:args=[u,v].toArray:=by rw[<- e]
 subst e2
 simp only[Rep] at hu hv;subst hu hv
 have:=Tryz.bits_Mul x y hx hy w
 exact this.mono fun e w' ⟨h1,h2⟩=>⟨⟨_,h1,by simp[Rep,RepL]⟩,by rw[h2];exact Go.RowKit.Below.refl _ _⟩
def Bhg(j:Nat):Nat->List D:=fun i=>[.int .i64 (if i<j then 1 else 0)]
def Bod(n:Nat):Con:=fun k ds S=>match k with
 |40=>some (pA ds S (.tup [.int .u64 0,.int .u64 n]) (ds=[.int .u64 1,.int .u64 n]))
 |_=>none
noncomputable def Erp(n:Nat):Senv:={ EC (Bod n) 48 2 [4,5,6,7,8,10,26,37] (fun id=>match id with | 9=>([0,1,2,3,4,5,6,7,8,9],[7]) | _=>([],[])) with
 gr:=[.slot 4]
 ann:=fun b env _S=>match b with
  |0=>match Ab.look env 7 with
   |.vs _k x _len cap _w=>some { slots:=[8],keep:=[0,1,7],α:=Nat,st:=fun j=>([.int .i64 j],⟨[(0,x,.vec 1 n cap (Bhg j))],[]⟩),inv:=fun j=>1<=j/\j<=n,mu:=fun j=>n-j }
   |_=>none
  |_=>none }
def J2(a:Nat):Int:=IntKind.wrap IntKind.i64 (↑a:Int)
def KB(a:Nat):Nat:=Int.toNat (J2 a)
def YM(a:Nat):Prop:=SM (KB a)
def QbS(a b:Nat):Prop:=a<KB b
def J3(a b:Nat):List D:=Bhg a b
def YN(a:Nat):Int:=(NI (KB a))
def KL(a:Nat):Nat:=Int.toNat (↑a:Int)
def Qu5:D:=D.sl N1 N1 (fun _x=>[ZI Z1]) Mode.full
def Qu6(a b:Nat):D:=D.vs N0 a (KB b) (KB b) N1
def QiO(a b:Nat):Nat:=min (KB a-KL b) (KL b)
theorem BqP(n:Nat)(h1:2<=n)(h2:n<=1000):CD 125 [.sl 1 1 (fun _=>[.int .i64 1]) .full,.int .i64 n] (isl (List.replicate n 1) .any):=by
 refine Bf (A:=sC _ _) (x:=()) (E:=Erp n) (eOk ?_ rfl) Tryz.func125 rfl (by kernel_rfl) rfl (by simp[sC,Erp,EC,E0]) ?_
 ·intro k ds S A hh
  unfold Bod at hh
  split at hh
  ·injection hh with hh;subst hh
   refine Bv fun e=>?_
   rw[e]
   have:=Bpp 1 n (by omega) (by omega)
   rw[Nat.one_mul,Nat.div_eq_of_lt (by omega),Nat.mod_eq_of_lt (by omega)] at this
   exact CD.at_ this _
  ·cases hh
 refine Bk (T :=
  ∃(x:Unit),[D.int IntKind.u64 Z1,D.int IntKind.u64 (IntKind.wrap IntKind.u64 (↑n:Int))]=[D.int IntKind.u64 Z1,D.int IntKind.u64 (↑n:Int)]/\∀(y:Unit),True->(SM (decide ((9223372036854775807:Int)<(↑n:Int)))/\True)/\ifB (decide ((9223372036854775807:Int)<(↑n:Int))) (∃(y:Unit),True/\False/\True/\True) (Be (Z0<=J2 n/\J2 n<=J2 n/\(8:Int)*J2 n<=281474976710656/\J2 n<=9223372036854775807) (∀(x:Nat),True->SM x/\N1<=KB n/\YM n/\(∃(x_1:Nat),(N1<=x_1/\x_1<=n)/\(Z1=(↑x_1:Int)/\True)/\(SM x/\(KB n=n/\YM n/\∀(i:Nat),QbS i n->(if i<N1 then [ZI Z1] else [ZI Z0])=J3 x_1 i)/\True)/\True)/\∀(x_1:Nat),N1<=x_1/\x_1<=n->ifB (decide ((↑x_1:Int)<YN n)) (Z0<=(↑x_1:Int)/\(↑x_1:Int)<=YN n/\(↑x_1:Int)<YN n/\Be (Z0<=(↑x_1:Int)/\(↑x_1:Int)<=YN n) (SM x/\SM x/\KL x_1*N1=KL x_1/\KL x_1*N1+(KB n-KL x_1)=n/\(∀(i:Nat),i<KL x_1->SM true)/\(SM Qu5/\SM (ZI (↑n:Int))/\SM (Qu6 x n)/\True)/\∃(y:Nat),(N1<=y/\y<=n)/\n-y<n-x_1/\(IntKind.wrap IntKind.i64 ((↑x_1:Int)+(NI (QiO n x_1)))=(↑y:Int)/\True)/\(SM x/\(SM n/\YM n/\∀(i:Nat),i<n->(if i<KL x_1 then J3 x_1 i else if i<KL x_1+QiO n x_1 then Bhg x_1 (i-KL x_1) else J3 x_1 i)=J3 y i)/\True)/\True)) (SM x/\YM n/\Be (KB n<=n) ((∀(i:Nat),QbS i n->(List.all (J3 x_1 i) fun (x:D)=>match x with | D.unk=>false | D.agg cs=>false | D.tup ds=>false | x=>true)=true)/\∀(t:Nat),True/\∃(y:Unit),True/\(KB n=LN (List.replicate n Z1)/\(∀(i:Nat),QbS i n->J3 x_1 i=[ZI (GI (List.replicate n Z1) i)])/\True)/\True/\True))))) (by kernel_rfl) ?_
 delta GI LN N0 N1 NI SM Z0 Z1 ZI J2 KB YM QbS J3 YN KL Qu5 Qu6 QiO
 simp only[eq_self,implies_true,Int.toNat_natCast,Bh,Bc,decide_eq_true_eq,decide_eq_false_iff_not,true_and,and_true,exists_const,forall_const]
 have w64:IntKind.i64.wrap (n:Int)=n:=Bb (by omega) (by omega)
 have wu:IntKind.u64.wrap (n:Int)=n:=by
  simp only[IntKind.wrap,IntKind.signed,IntKind.bits]
  simp
  omega
 simp only[w64,wu,Int.toNat_natCast]
 refine⟨trivial,fun h=>by omega,fun _=>⟨⟨by omega,by omega,by omega,by omega⟩,by omega,⟨1,⟨by omega,by omega⟩,rfl,trivial,fun i _=>?_⟩,fun j ⟨j1,j2⟩=>⟨fun hlt=>⟨by omega,by omega,hlt,⟨by omega,by omega⟩,by omega,by omega,j+min (n-j) j,⟨by omega,by omega⟩,by omega,Bb (by omega) (by omega),fun i hi=>?_⟩,fun hge=>⟨Nat.le_refl _,fun i _=>rfl,by simp,fun i hi=>?_⟩⟩⟩⟩
 ·unfold Bhg
  split<;>rfl
 ·unfold Bhg
  by_cases a1:i<j
  ·rw[if_pos a1,if_pos a1,if_pos (by omega)]
  ·rw[if_neg a1]
   by_cases a2:i<j+min (n-j) j
   ·rw[if_pos a2,if_pos (by omega),if_pos a2]
   ·rw[if_neg a2,if_neg a1,if_neg a2]
 ·unfold Bhg
  rw[if_pos (by omega)]
  simp[List.getD_eq_getElem?_getD,hi]
def BiV(n:Nd):Con:=fun k ds S=>match k with
 |124=>match ds with
  | [_,.sl 1 m f _]=>some (pA ds S (.bool (BA n (Bp m f))) (wkL ds [.agg n.row2,isl (Bp m f) .any]/\m<=maxLen))
  |_=>none
 |125=>some (pA ds S (isl (List.replicate n.ki.length 1) .any) (2<=n.ki.length/\n.ki.length<=1000/\wkL ds [.sl 1 1 (fun _=>[.int .i64 1]) .full,.int .i64 n.ki.length]))
 |_=>none
theorem BjM{n:Nd}(h:n.ki.length<=maxLen):ConOk Tryz.prog (BiV n):=by
 intro k ds S A hh
 unfold BiV at hh
 split at hh
 ·split at hh
  ·injection hh with hh;subst hh
   exact Bv fun ⟨e,hm⟩=>CD.at_ (CD.wk (BmG n _ h (by rw[B3];exact hm)) e) _
  ·cases hh
 ·injection hh with hh;subst hh
  exact Bv fun ⟨h1,h2,e⟩=>CD.at_ (CD.wk (BqP _ h1 h2) e) _
 ·cases hh
theorem Bfa{n:Nd}(h:n.kd=15):C4 n=(n.cl==2&&BA n [4,2,On n]):=by
 unfold C4
 simp only[h]
 rfl
theorem Bmm{n:Nd}(h:n.kd=15)(hc:(bif n.cl != 2 then true else ((n.ki.length:Int) != 3))=true):false=C4 n:=by
 rw[Bfa h]
 by_cases h2:n.cl=2
 ·have e:(n.cl != 2)=false:=by simp[h2]
  rw[e] at hc
  have hl:n.ki.length≠3:=by
   have:((n.ki.length:Int) != 3)=true:=hc
   rw[bne_iff_ne] at this
   omega
  have:BA n [4,2,On n]=false:=by
   unfold BA
   rw[beq_eq_false_iff_ne]
   intro e
   have:=congrArg List.length e
   simp at this
   exact hl this
  rw[this];simp
 ·have:(n.cl==2)=false:=by simpa using h2
  rw[this];rfl
theorem Bgb{n:Nd}(hc:(bif n.cl != 2 then true else ((n.ki.length:Int) != 3))=false):(n.cl==2)=true:=by
 cases h2:n.cl != 2 with
 |true=>rw[h2] at hc;cases hc
 |false=>simpa using h2
theorem Bpe{n:Nd}(h:n.kd=15)(hc:(bif n.cl != 2 then true else ((n.ki.length:Int) != 3))=false)(hr:(bif (n.ki.getD 0 default).kd==17 then bif bif (n.ki.getD 0 default).op==7 then true else (n.ki.getD 0 default).op==8 then true else (n.ki.getD 0 default).op==9 else false)=true):BA n [4,2,1]=C4 n:=by
 rw[Bfa h,Bgb hc]
 have:On n=1:=by
  unfold On
  refine if_pos ?_
  cases a:(n.ki.getD 0 default).kd==17<;>cases b:(n.ki.getD 0 default).op==7<;>cases c:(n.ki.getD 0 default).op==8<;>cases d:(n.ki.getD 0 default).op==9<;>simp[] at hr<;>simp_all
 rw[this];simp
theorem Bpx{n:Nd}(h:n.kd=15)(hc:(bif n.cl != 2 then true else ((n.ki.length:Int) != 3))=false)(hr:(bif (n.ki.getD 0 default).kd==17 then bif bif (n.ki.getD 0 default).op==7 then true else (n.ki.getD 0 default).op==8 then true else (n.ki.getD 0 default).op==9 else false)=false):BA n [4,2,2]=C4 n:=by
 rw[Bfa h,Bgb hc]
 have:On n=2:=by
  unfold On
  refine if_neg ?_
  cases a:(n.ki.getD 0 default).kd==17<;>cases b:(n.ki.getD 0 default).op==7<;>cases c:(n.ki.getD 0 default).op==8<;>cases d:(n.ki.getD 0 default).op==9<;>simp[] at hr<;>simp_all
 rw[this];simp
theorem Gl{r:List D}{m:Nat}{f:Nat->List D}{md:Ab.Mode}(h:IntsP m f):wkL [.agg r,.sl 1 m f md] [.agg r,isl (Bp m f) .any]:=by
 simp only[wkL]
 refine⟨Bl _,?_,trivial⟩
 simp only[isl,wkD,Ba]
 refine⟨by simp,by simp[B3],fun i hi=>?_,by simp[BE]⟩
 have e:(Bp m f).getD i 0=Bih (f i):=by simp[Bp,List.getD_eq_getElem?_getD,hi]
 rw[e,h i hi]
 exact Bi _
noncomputable def Ecm(n:Nd):Senv:=EC (BiV n) 146 7 [8,9,37,50,64,76,87,110,117] (fun id=>match id with | 4=>([0,1,2,3,4,5,6,7,8,9,10,11,12,13,14,15,16,17,18,20,21,22,19,23,24,25,26],[19,23,24]) | _=>([],[]))
def Jy(a:Nd):Int:=Nd.kd a
def J4(a:Nd):Int:=Nd.cl a
def QbT(a:Nd):Bool:=J4 a==Z1
def QbU(a:Nd):List Nd:=Nd.ki a
def V0(a:Nd):Nat:=LN (QbU a)
def J5(a:Nd):Int:=(NI (V0 a))
def QbV:Arr:=DA
def V1:Nd:=Nd.mk Z0 Z0 Z0 [] Z0 Z0 QbV [] [] Z0 Z0 Z0
def QT(a:Nd)(b:Nat):Nd:=List.getD (QbU a) b V1
def QiT(a:Nd):D:=D.sl 15 (V0 a) (fun i=>(Nd.rowE (QT a i))) Mode.any
def Qn(a:Nd):D:=D.agg (Nd.row2 a)
def QiV(a:Nat)(b:Nd):Prop:=SM a/\SM (Qn b)
def YQ:List D:=[ZI Z1]
def QbW:List (List D):=[YQ]
def QiW(a:Nd):List D:=[ZI (J5 a)]
def QiX(a:Nd):List Int:=List.replicate (V0 a) Z1
def QbX(a:Nd):Nat:=LN (QiX a)
def QiY(a:Nd)(b:Nat):List D:=[ZI (GI (QiX a) b)]
def QiZ(a:Nd):List Int:=Bp (QbX a) fun i=>QiY a i
def KS(a:Nd):Bool:=C4 a
def KT(a:Nd):Prop:=True/\∃(_y:Unit),True/\false=KS a/\True/\True
def J6:List D:=[ZI 2]
def Qi0:List (List D):=J6::QbW
def Qi1(a:Nat):List D:=List.getD Qi0 a []
def Qi2:List Int:=Bp N2 fun i=>Qi1 i
def Qi3(a:Nat):List D:=List.getD (J6::YQ::QbW) a []
def Qi4:List Int:=Bp (3:Nat) fun i=>Qi3 i
def Qi5(a:Nat):List D:=List.getD [[ZI 3],J6] a []
def Qi6:List Int:=Bp N2 fun i=>Qi5 i
def QbY(a:Nd):Bool:=bif J4 a != (2:Int) then true else J5 a != (3:Int)
def Qi7(a:Nd):Nd:=List.getD (QbU a) N0 V1
def Qi8(a:Nd):Bool:=Nd.kd (Qi7 a)==17
def QbZ(a:Nd):Int:=Nd.op (Qi7 a)
def Qi9(a:Nd):Bool:=QbZ a==7
def Qja(a:Nd):Bool:=QbZ a==8
def Qjb(a:Nd):Bool:=QbZ a==9
def YR(a:Nd):Bool:=bif Qi8 a then bif bif Qi9 a then true else Qja a then true else Qjb a else false
def Qjc(a:Nd):Prop:=true=YR a/\True
def Qjd(a:Nat):List D:=List.getD ([ZI 4]::Qi0) a []
def Qje:List Int:=Bp (3:Nat) fun i=>Qjd i
def YS:List (List D):=[J6,J6]
def Qjf(a:Nat):List D:=List.getD ([ZI 4]::YS) a []
def Qjg:List Int:=Bp (3:Nat) fun i=>Qjf i
def Qjh(a:Nat):List D:=List.getD YS a []
def Qji:List Int:=Bp N2 fun i=>Qjh i
def Qjj(a:Nd):Prop:=True/\∃(_y:Unit),True/\true=KS a/\True/\True
def Qjk(a:Nat):List D:=List.getD (J6::YS) a []
def Qjl:List Int:=Bp (3:Nat) fun i=>Qjk i
def Qjm(a:Nat):List D:=List.getD (YQ::YS) a []
def Qjn:List Int:=Bp (3:Nat) fun i=>Qjm i
theorem Bp0(n:Nd)(h:n.ki.length<=maxLen):CD 96 [.agg n.row2] (.bool (C4 n)):=by
 refine Bf (A:=sC _ _) (x:=()) (E:=Ecm n) (eOk (BjM h) rfl) Tryz.func96 rfl (by kernel_rfl) rfl (by simp[sC,Ecm,EC,E0]) ?_
 refine Bk (T :=
  ∀(x:Nat),True->SM x/\ifB (Jy n==3) (SM x/\ifB (QbT n) (SM x/\ifB (decide ((2:Int)<=J5 n)) (SM x/\ifB (decide (J5 n<=1000)) (SM x/\SM x/\(SM x/\SM (QiT n))/\QiV x n/\∃(x_1:Unit),(N2<=V0 n/\V0 n<=1000/\wkL (D.sl N1 N1 (fun i=>List.getD QbW i []) Mode.full::QiW n) (D.sl N1 N1 (fun x=>YQ) Mode.full::QiW n))/\∀(y:Unit),True->QiV x n/\∃(x:Unit),(wkL [Qn n,D.sl N1 (QbX n) (fun i=>QiY n i) Mode.any] [Qn n,SI (QiZ n)]/\QbX n<=9223372036854775807)/\∀(y:Unit),True->RT (BA n (QiZ n)=KS n)) (KT n)) (KT n)) (KT n)) (ifB (Jy n==4) (SM x/\ifB (QbT n) (SM x/\∃(x:Unit),(wkL [Qn n,D.sl N1 N2 (fun i=>Qi1 i) Mode.full] [Qn n,SI Qi2]/\N2<=9223372036854775807)/\∀(y:Unit),True->RT (BA n Qi2=KS n)) (KT n)) (ifB (Jy n==5) (SM x/\ifB (QbT n) (SM x/\∃(x:Unit),(wkL [Qn n,D.sl N1 (3:Nat) (fun i=>Qi3 i) Mode.full] [Qn n,SI Qi4]/\(3:Nat)<=9223372036854775807)/\∀(y:Unit),True->RT (BA n Qi4=KS n)) (KT n)) (ifB (Jy n==14) (SM x/\ifB (J4 n==2) (SM x/\∃(x:Unit),(wkL [Qn n,D.sl N1 N2 (fun i=>Qi5 i) Mode.full] [Qn n,SI Qi6]/\N2<=9223372036854775807)/\∀(y:Unit),True->RT (BA n Qi6=KS n)) (KT n)) (ifB (Jy n==15) ((SM x/\ifB (J4 n != (2:Int)) (true=QbY n/\True) (SM x/\(J5 n != (3:Int))=QbY n/\True))/\ifB (QbY n) (KT n) (SM x/\Be (Z0<=Z0/\Z0<J5 n) (∀(x_1:Nat),x≠x_1/\True->SM x_1/\(SM x_1/\ifB (Qi8 n) (SM x_1/\ifB (Qi9 n) (Qjc n) (SM x_1/\ifB (Qja n) (Qjc n) (SM x_1/\Qjb n=YR n/\True))) (false=YR n/\True))/\ifB (YR n) (SM x/\∃(x:Unit),(wkL [Qn n,D.sl N1 (3:Nat) (fun i=>Qjd i) Mode.full] [Qn n,SI Qje]/\(3:Nat)<=9223372036854775807)/\∀(y:Unit),True->RT (BA n Qje=KS n)) (SM x/\∃(x:Unit),(wkL [Qn n,D.sl N1 (3:Nat) (fun i=>Qjf i) Mode.full] [Qn n,SI Qjg]/\(3:Nat)<=9223372036854775807)/\∀(y:Unit),True->RT (BA n Qjg=KS n))))) (ifB (Jy n==16) (SM x/\ifB (J4 n==2) (SM x/\∃(x_1:Unit),(wkL [Qn n,D.sl N1 N2 (fun i=>Qjh i) Mode.full] [Qn n,SI Qji]/\N2<=9223372036854775807)/\∀(y:Unit),True->ifB (BA n Qji) (Qjj n) (SM x/\∃(x_2:Unit),(wkL [Qn n,D.sl N1 (3:Nat) (fun i=>Qjk i) Mode.full] [Qn n,SI Qjl]/\(3:Nat)<=9223372036854775807)/\∀(y:Unit),True->ifB (BA n Qjl) (Qjj n) (SM x/\∃(x:Unit),(wkL [Qn n,D.sl N1 (3:Nat) (fun i=>Qjm i) Mode.full] [Qn n,SI Qjn]/\(3:Nat)<=9223372036854775807)/\∀(y:Unit),True->RT (BA n Qjn=KS n)))) (KT n)) (KT n))))))) (by kernel_rfl) ?_
 delta DA GI LN N0 N1 N2 N4 NI SI SM Z0 Z1 ZI Jy J4 QbT QbU V0 J5 QbV V1 QT QiT Qn QiV YQ QbW QiW QiX QbX QiY QiZ KS KT J6 Qi0 Qi1 Qi2 Qi3 Qi4 Qi5 Qi6 QbY Qi7 Qi8 QbZ Qi9 Qja Qjb YR Qjc Qjd Qje YS Qjf Qjg Qjh Qji Qjj Qjk Qjl Qjm Qjn RT
 try simp only[<- dm]
 try simp only[<- dn]
 simp only[ne_eq,Bh,Bc,decide_eq_true_eq,decide_eq_false_iff_not,true_and,and_true,beq_iff_eq,bne_iff_ne,bne_eq_false_iff_eq,beq_eq_false_iff_ne,exists_const,forall_const]
 have i2:∀a b:Int,Bp 2 (fun i=>[[D.int IntKind.i64 a],[D.int IntKind.i64 b]].getD i [])=[a,b]:=fun _ _=>rfl
 have i3:∀a b c:Int,Bp 3 (fun i=>[[D.int IntKind.i64 a],[D.int IntKind.i64 b],[D.int IntKind.i64 c]].getD i [])=[a,b,c]:=fun _ _ _=>rfl
 have p2:∀a b:Int,IntsP 2 (fun i=>[[D.int IntKind.i64 a],[D.int IntKind.i64 b]].getD i []):=fun _ _ i hi=>by
  match i,hi with
  |0,_=>rfl
  |1,_=>rfl
 have p3:∀a b c:Int,IntsP 3 (fun i=>[[D.int IntKind.i64 a],[D.int IntKind.i64 b],[D.int IntKind.i64 c]].getD i []):=fun _ _ _ i hi=>by
  match i,hi with
  |0,_=>rfl
  |1,_=>rfl
  |2,_=>rfl
 have w1:wkL [D.sl 1 1 (fun i=>[[D.int IntKind.i64 1]].getD i []) Mode.full,D.int IntKind.i64 n.ki.length] [D.sl 1 1 (fun _=>[D.int IntKind.i64 1]) Mode.full,D.int IntKind.i64 n.ki.length]:=by
  simp only[wkL,wkD,Ba]
  refine⟨⟨by simp,by simp,fun i hi=>?_,by simp[BE]⟩,by simp[Bg,Ba,kEq],trivial⟩
  match i,hi with
  |0,_=>exact Bi _
 intro x
 repeat' (first | exact Bi _ | exact w1 | exact Gl (p2 _ _) | exact Gl (p3 _ _ _) | exact Gl (CF _) | refine And.intro ?_ ?_ | intro _)
 all_goals try simp only[Cl,i2,i3] at *
 clear w1 i2 i3 p2 p3
 all_goals first
  |omega
  |(simp only[List.length_replicate];omega)
  |(simp_all[C4];done)
  |exact Bmm (by assumption) (by assumption)
  |exact Bpe (by assumption) (by assumption) (by assumption)
  |exact Bpx (by assumption) (by assumption) (by assumption)
  |(simp_all[C4];omega)
def Cu(l:List Sm):List (List UInt8):=(l.filter fun s=>s.kd==2).map Sm.nm
theorem Uw{l:List Sm}{i:Nat}(h:i<l.length):Cu (l.take (i+1))=if (l.getD i default).kd=2 then Cu (l.take i)++[(l.getD i default).nm] else Cu (l.take i):=by
 rw[CC h]
 unfold Cu
 rw[List.filter_append,List.map_append]
 generalize l.getD i default=x
 by_cases e:x.kd=2
 ·rw[if_pos e];simp[e]
 ·rw[if_neg e]
  simp[e]
theorem Bep{g:Bool}{l:List Sm}{i:Nat}(h:i<l.length):Eh g (Cu (l.take i)) (l.drop i)=(Bay g (Cu (l.take i)) (l.getD i default)&&Eh g (Cu (l.take (i+1))) (l.drop (i+1))):=by
 rw[ML h,Eh,Uw h]
theorem Bd7{g:Bool}{names:List (List UInt8)}{l:List Sm}{i:Nat}(h:l.length<=i):Eh g names (l.drop i)=true:=by
 rw[List.drop_eq_nil_of_le h,Eh]
theorem Bm2(n:Nd)(k:Int):CD 93 [.agg n.row2,.int .i64 k] (.bool (Ug n k)):=by
 rw[<- BcO]
 exact Bn5 n.kd n.at_ n.cl n.tx n.pr n.op n.va.k _ _ _ _ _ _ _ _ _ _ n.de n.sl n.ss k
theorem BjP(n:Nd):CD 65 [.agg n.row2] (.bool (Iu n)):=by
 rw[<- Bhp]
 exact BqI n.kd n.at_ n.cl n.tx n.pr n.op n.va.k _ _ _ _ _ _ _ _ _ _ n.de n.sl n.ss
def RNode(n:Nd):Prop:=CD 64 [.agg n.row2] (.bool (BL n))
def RBody(l:List Sm)(g:Bool):Prop:=CD 36 [gsl 34 Sm.row1 l,.bool g] (.bool (CL g l))
def Bjw(n:Nd):Con:=fun k ds S=>match k with
 |69=>match ds with
  | [_,.int .i64 q]=>some (pA ds S (.bool (Gb n.bo q)) (wkL ds [gsl 34 Sm.row1 n.bo,.int .i64 q]))
  |_=>none
 |36=>some (pA ds S (.bool (CL true n.bo)) (wkL ds [gsl 34 Sm.row1 n.bo,.bool true]))
 |_=>none
theorem Bar{n:Nd}(h:n.sm):∀s∈n.bo,s.sm:=by
 cases n with
 |mk kd at_ cl tx pr op va ki bo de sl ss =>
  simp only[Nd.sm] at h
  exact (MT _).1 h.2.2.2
theorem Bjx{n:Nd}(hn:n.sm)(h:RBody n.bo true):ConOk Tryz.prog (Bjw n):=by
 intro k ds S A hh
 unfold Bjw at hh
 split at hh
 ·split at hh
  ·injection hh with hh;subst hh
   exact Bv fun e=>CD.at_ (CD.wk (Bou n.bo _ (I1 (It hn).2.2) (Bar hn)) e) _
  ·cases hh
 ·injection hh with hh;subst hh
  exact Bv fun e=>CD.at_ (CD.wk h e) _
 ·cases hh
noncomputable def Ela(n:Nd):Senv:={ EC (Bjw n) 55 5 [26,34,35,40,41,47,48,51] (fun id=>match id with | 3=>([0,1,3,4,2,5,6,7],[2,5]) | _=>([],[])) with mg:=fun _=>2 }
def Jz(a:Nd):List Sm:=Nd.bo a
def Qjo(a:Nd):Bool:=CL true (Jz a)
def Qjp(a:Nd):Bool:=Wv a&&Qjo a
def Jb(a:Nd):Prop:=True/\∃(_y:Unit),True/\false=Qjp a/\True/\True
def Qb0(a:Nd):Int:=(LI (Jz a))
def Qb1(a:Nd):Int:=IntKind.wrap IntKind.i64 (Qb0 a-Z1)
def Qb2:Arr:=DA
def YT:Nd:=Nd.mk Z0 Z0 Z0 [] Z0 Z0 Qb2 [] [] Z0 Z0 Z0
def YU:Sm:=Sm.mk Z0 Z0 [] Z0 YT YT
def J7(a:Nd)(b:Nat):Sm:=List.getD (Jz a) b YU
def YX(a:Nd):D:=D.sl 34 (LN (Jz a)) (fun i=>(Sm.row1 (J7 a i))) Mode.any
def Qjw(a:Nd):List D:=[YX a,ZI 12]
def Qjx(a:Nd):List D:=[YX a,ZI 13]
def Qb3(a:Nd):Int:=Nd.cl a
def Qjy(a:Nd):Bool:=Gb (Jz a) (12:Int)
def Qjz(a:Nd):Bool:=Gb (Jz a) (13:Int)
def QjA(a:Nd):List D:=[YX a,D.bool true]
def QjB(a:Nat)(b:Nd):Prop:=SM a/\∃(_x:Unit),wkL (QjA b) (QjA b)/\∀(_y:Unit),True->True/\∃(_y:Unit),True/\Qjo b=Qjp b/\True/\True
def QjC(a:Nd)(b:Nat):Prop:=ifB (Qjz a) (Jb a) (QjB b a)
theorem Bml(n:Nd)(hn:n.sm)(h:RBody n.bo true):CD 94 [.agg n.row2] (.bool (Wv n && CL true n.bo)) := by
  refine Bf (A := sC _ _) (x := ()) (E := Ela n) (eOk (Bjx hn h) rfl) Tryz.func94 rfl (by kernel_rfl) rfl (by simp [sC,Ela,EC,E0]) ?_
  refine Bk (T :=
    ∀ (x:Nat),True->SM x/\ifB (decide (Z0 < (LI (Nd.ki n)))) (Jb n) (SM x/\ifB (Qb0 n == Z0) (Jb n) (SM x/\SM x/\Be (Z0 <= Qb1 n/\Qb1 n < Qb0 n) (ifB (Sm.kd (List.getD (Jz n) (Int.toNat (Qb1 n)) YU) != Z1) (Jb n) (SM x/\SM x/\∃ (x_1:Unit),wkL (Qjw n) (Qjw n)/\∀ (y:Unit),True->(SM x/\SM (YX n))/\∃ (x_2:Unit),wkL (Qjx n) (Qjx n)/\∀ (y:Unit),True->SM x/\ifB (Qb3 n == (2:Int)) (ifB (Qjy n) (Jb n) (QjC n x)) (ifB (Qb3 n == (3:Int)) (ifB (!Qjy n) (Jb n) (QjC n x)) (ifB (Qb3 n == (4:Int)) (ifB (!Qjz n) (Jb n) (QjB x n)) (Jb n)))))))) (by kernel_rfl) ?_
  delta DA GI LI LN N1 N4 SI SM Z0 Z1 ZI Jz Qjo Qjp YX Qjw Qjx Qb3 Qjy Qjz Jb QjA QjB QjC Qb0 Qb1 Qb2 YT YU J7
  try simp only [<- dm]
  try simp only [<- dn]
  simp only [ne_eq,Bh,Bc,decide_eq_true_eq,decide_eq_false_iff_not,true_and,and_true,beq_iff_eq,bne_iff_ne,bne_eq_false_iff_eq,beq_eq_false_iff_ne,Bool.not_eq_true',Bool.not_eq_false',exists_const,forall_const]
  have e1:n.ki.isEmpty = (n.ki.length == 0) := by cases n.ki <;> rfl
  have e2:n.bo.isEmpty = (n.bo.length == 0) := by cases n.bo <;> rfl
  have hlen := (It hn).2.2
  unfold By at hlen
  by_cases hb:n.bo.length = 0
  · skip
    repeat' (first | exact Bi _ | refine And.intro ?_ ?_ | intro _)
    all_goals first
      | (exfalso; omega)
      | (unfold Wv; rw [e1,e2,hb]; simp; done)
  · have w:IntKind.i64.wrap ((n.bo.length:Int) - 1) = ((n.bo.length - 1:Nat):Int) := by rw [Bb (by omega) (by omega)]; omega
    simp only [w,Int.toNat_natCast]
    have e3:(n.bo.length == 0) = false := by simpa using hb
    repeat' (first | exact Bi _ | refine And.intro ?_ ?_ | intro _)
    all_goals first
      | omega
      | (unfold Wv; rw [e1,e2,e3]; simp_all; done)
      | (have h9 : n.ki.isEmpty = false := by rw [e1, beq_eq_false_iff_ne]; omega
         unfold Wv; rw [h9]; simp; done)
def BjU(n:Nd):Con:=fun k ds S=>match k with
 |93=>match ds with
  | [_,.int .i64 q]=>some (pA ds S (.bool (Ug n q)) (isN2 n ds [.int .i64 q]))
  |_=>none
 |94=>some (pA ds S (.bool (Wv n&&CL true n.bo)) (isN2 n ds []))
 |95=>some (pA ds S (.bool (C9 n)) (isN2 n ds []))
 |96=>some (pA ds S (.bool (C4 n)) (isN2 n ds []))
 |60=>some (pA ds S (.bool (n.ki.any fun b=>!BL b)) (wkL ds [gsl 15 Nd.row1 n.ki,.fn (.func 97) [] []]))
 |_=>none
def BnY(b:Nd):Con:=fun k ds S=>match k with
 |64=>some (pA ds S (.bool (BL b)) (isN b ds []))
 |_=>none
noncomputable def En1(b:Nd):Senv:=EC (BnY b) 6 3 [] (fun _=>([],[]))
theorem Bqf(b:Nd)(h:RNode b):CS 97 [.agg b.row1] ⟨[],[]⟩ (.bool (!BL b)):=by
 refine CS.of (Bf (A:=sS _ _ _) (x:=()) (E:=En1 b) (eOk ?_ rfl) Tryz.func97 rfl (by kernel_rfl) rfl (by simp[sS,En1,EC,E0]) ?_)
 ·intro k ds S A hh
  try unfold BnY at hh
  try dsimp only at hh
  split at hh
  ·injection hh with hh;subst hh
   exact Bv fun e=>CD.at_ (CD.isN h e) _
  ·cases hh
 refine Bk (T :=
  ∀(x:Nat),True->SM x/\∃(x:Unit),isN b [D.agg (Nd.rowE b)] []/\∀(y:Unit),True->RT ((!BL b)=!BL b)) (by kernel_rfl) ?_
 delta DA GI LN N1 N4 SI SM Z0 ZI RT
 try simp only[<- dm]
 try simp only[<- dn]
 simp only[implies_true,true_and,and_true,exists_const,forall_const]
 first
  |exact BB _ _
  |exact fun _=>BB _ _
theorem BiC{n:Nd}(hn:n.sm)(ho:n.va.ok)(h1:RBody n.bo true)(h2:∀b∈n.ki,RNode b):ConOk Tryz.prog (BjU n):=by
 intro k ds S A hh
 have hl:=I1 (It hn).2.1
 unfold BjU at hh
 split at hh
 ·split at hh
  ·injection hh with hh;subst hh
   exact Bv fun e=>CD.at_ (CD.wk (Bm2 n _) e) _
  ·cases hh
 ·injection hh with hh;subst hh
  exact Bv fun e=>CD.at_ (CD.wk (Bml n hn h1) e) _
 ·injection hh with hh;subst hh
  exact Bv fun e=>CD.at_ (CD.wk (Bqn n ho) e) _
 ·injection hh with hh;subst hh
  exact Bv fun e=>CD.at_ (CD.wk (Bp0 n hl) e) _
 ·injection hh with hh;subst hh
  exact Bv fun e=>CD.at_ (CD.wk (CS.cd (Nxc_ok n.ki (fun b=>!BL b) (fun b hb=>Bqf b (h2 b hb)) hl)) e) _
 ·cases hh
noncomputable def End(n:Nd):Senv:=EC (BjU n) 25 3 [7,10] (fun _=>([],[]))
def V2(a:Nd):Int:=Nd.kd a
def QjG:Arr:=DA
def Qb5(a:Nd):List Nd:=Nd.ki a
def Qb6:Nd:=Nd.mk Z0 Z0 Z0 [] Z0 Z0 QjG [] [] Z0 Z0 Z0
def QjH(a:Nd):D:=D.sl 15 (LN (Qb5 a)) (fun i=>Nd.row1 (List.getD (Qb5 a) i Qb6)) Mode.any
def Qb7(a:Nd):List Sm:=Nd.bo a
def QjI(a:Nd):D:=D.agg (Nd.row2 a)
def V3(a:Nd):Bool:=BL a
def QjJ(a:Nd):Prop:=True/\∃(_y:Unit),True/\false=V3 a/\True/\True
def Qb8(a:Nd):Prop:=isN2 a [QjI a] []
def QjK(a:Nd):List D:=[QjH a,D.fn (Fn.func (97:Nat)) [] []]
theorem BnR(n:Nd)(hn:n.sm)(ho:n.va.ok)(h1:RBody n.bo true)(h2:∀b∈n.ki,RNode b):RNode n:=by
 refine Bf (A:=sC _ _) (x:=()) (E:=End n) (eOk (BiC hn ho h1 h2) rfl) Tryz.func64 rfl (by kernel_rfl) rfl (by simp[sC,End,EC,E0]) ?_
 refine Bk (T :=
  ∀(x:Nat),True->SM x/\SM x/\∃(x_1:Unit),isN2 n [QjI n,ZI (V2 n)] [ZI (V2 n)]/\∀(y:Unit),True->ifB (!Ug n (V2 n)) (QjJ n) (SM x/\ifB (V2 n==10) (SM x/\∃(x:Unit),Qb8 n/\∀(y:Unit),True->RT ((Wv n&&CL true (Qb7 n))=V3 n)) (SM x/\∃(x_2:Unit),Qb8 n/\∀(y:Unit),True->ifB (C9 n) (RT (true=V3 n)) (SM x/\∃(x_3:Unit),Qb8 n/\∀(y:Unit),True->ifB (C4 n) (SM x/\∃(x:Unit),wkL (QjK n) (QjK n)/\∀(y:Unit),True->RT ((!List.any (Qb5 n) fun (b:Nd)=>!V3 b)=V3 n)) (QjJ n))))) (by kernel_rfl) ?_
 delta DA GI LN N1 N4 SI SM Z0 ZI V2 QjG Qb5 Qb6 QjH Qb7 QjI V3 QjJ Qb8 QjK RT
 try simp only[<- dm]
 try simp only[<- dn]
 simp only[ne_eq,Bh,true_and,and_true,beq_iff_eq,beq_eq_false_iff_ne,Bool.not_eq_true',Bool.not_eq_false',exists_const,forall_const]
 have e:n.ki.all BL=!(n.ki.any fun b=>!BL b):=List.all_eq_not_any_not
 rw[Ea,e]
 repeat' (first | exact Mg n _ | exact Bi _ | refine And.intro ?_ ?_ | intro _)
 all_goals first
  |(simp_all;done)
def Be5(prs:List (List UInt8×Int))(names:List (List UInt8)):Prop:=∀s,(Ge prs s).getD 0=(names.count s:Int)
theorem U7(nm:List UInt8)(v:Int):∀(l:List (List UInt8×Int)) (s:List UInt8),Ge (UC l nm v) s=if nm=s then some v else Ge l s
 | [],s=>by
  simp only[UC,Ge]
 |(t,n)::r,s=>by
  simp only[UC]
  by_cases e:t=nm
  ·rw[if_pos e]
   simp only[Ge,e]
   by_cases e2:nm=s
   ·rw[if_pos e2,if_pos e2]
   ·rw[if_neg e2,if_neg e2,if_neg e2]
  ·rw[if_neg e]
   simp only[Ge,U7 nm v r s]
   by_cases e2:t=s
   ·rw[if_pos e2,if_pos e2,if_neg (fun e3=>e (e2.trans e3.symm))]
   ·rw[if_neg e2,if_neg e2]
theorem Blf{prs:List (List UInt8×Int)}{names:List (List UInt8)}(h:Be5 prs names)(nm:List UInt8):Be5 (UC prs nm ((Ge prs nm).getD 0+1)) (names++[nm]):=by
 intro s
 rw[U7,List.count_append,h nm]
 by_cases e:nm=s
 ·subst e
  rw[if_pos rfl]
  simp
 ·rw[if_neg e,h s]
  simp[e]
theorem Bjy{prs:List (List UInt8×Int)}{names:List (List UInt8)}(h:Be5 prs names)(nm:List UInt8):((Ge prs nm).getD 0+1=1)↔names.contains nm=false:=by
 rw[h nm]
 constructor
 ·intro e
  have:names.count nm=0:=by omega
  simpa using List.count_eq_zero.1 this
 ·intro e
  have:names.count nm=0:=List.count_eq_zero.2 (by simpa using e)
  omega
def BlA:Con:=fun k ds S=>match k with
 |64=>some (pE (β:=Nd) ds S (fun b=>.bool (BL b)) (fun b=>isN b ds []/\RNode b))
 |65=>some (pE (β:=Nd) ds S (fun b=>.bool (Iu b)) (fun b=>isN b ds []))
 |66=>match ds with
  | [.str s]=>some (pA ds S (.bool (Cz s)) True)
  |_=>none
 |_=>none
theorem Bjj:ConOk Tryz.prog BlA:=by
 intro k ds S A hh
 unfold BlA at hh
 split at hh
 ·injection hh with hh;subst hh
  exact EJ fun b ⟨e,h⟩=>CD.at_ (CD.isN h e) _
 ·injection hh with hh;subst hh
  exact EJ fun b e=>CD.at_ (CD.isN (BjP b) e) _
 ·split at hh
  ·injection hh with hh;subst hh
   exact Bv fun _=>CD.at_ (Bor _) _
  ·cases hh
 ·cases hh
structure BoI (l:List Sm) (g:Bool) (i:Nat) (r:Bool) (prs:List (List UInt8×Int)):Prop where
 le:i<=l.length
 cnt:r=true->Be5 prs (Cu (l.take i))
 tot:CL g l=(r&&Eh g (Cu (l.take i)) (l.drop i))
noncomputable def Ebo(l:List Sm)(g:Bool):Senv:={ EC BlA 128 2 [4,5,6,8,9,14,15,16,17,32,37,38,57,98] (fun _=>([],[])) with
 mg:=fun _=>2
 ann:=fun b env _S=>match b with
  |0=>match Ab.look env 6 with
   |.map _k x=>some { slots:=[16,5],keep:=[0,1,6,14,15],α:=Nat×Bool×List (List UInt8×Int),st:=fun y=>([.int .i64 y.1,.bool y.2.1],⟨[(0,x,.amap .i64 y.2.2)],[]⟩),inv:=fun y=>BoI l g y.1 y.2.1 y.2.2,mu:=fun y=>l.length-y.1 }
   |_=>none
  |_=>none }
def JA(a:List Sm)(b:Bool)(c:Nat)(d:Bool)(e:List (List UInt8×Int)):Prop:=BoI a b c d e
def V4:Arr:=DA
def J8:Nd:=Nd.mk Z0 Z0 Z0 [] Z0 Z0 V4 [] [] Z0 Z0 Z0
def J9:Sm:=Sm.mk Z0 Z0 [] Z0 J8 J8
def Va(a:List Sm)(b:Nat):Sm:=List.getD a (Int.toNat (↑b:Int)) J9
def QW(a:List Sm)(b:Nat):Nd:=Sm.nd (Va a b)
def QjL(a:List Sm)(b:Nat):Int:=Nd.kd (QW a b)
def Qb9(a:List Sm)(b:Nat):Int:=Nd.cl (QW a b)
def Qca(a:Nd):Bool:=BL a
def Qcb(a:List Sm)(b:Nat):Int:=Sm.kd (Va a b)
def Qcc(a:List Sm)(b:Nat):Bool:=Qb9 a b==Z1
def V5(a:List Sm)(b:Nat):List UInt8:=Sm.nm (Va a b)
def QjP(a:List Sm)(b:Nat):Bool:=V5 a b==[]
def QjQ(a:List Sm)(b:Nat):Int:=Sm.sl (Va a b)
def QjR(a:List Sm)(b:Nat):Bool:=QjQ a b==Z0
def QX(a:List Sm)(b:Nat):Nd:=Sm.te (Va a b)
def QjS(a:List Sm)(b:Nat):Int:=Nd.cl (QX a b)
def Qcd(a:Nd)(b:List Sm)(c:Nat):Prop:=isN a [D.agg (Nd.rowE (QX b c))] []
def Vb(a:List Sm)(b:Nat):Sm:=List.getD a b J9
def Qvr(a:List Sm):D:=D.sl 34 (LN a) (fun i=>(Sm.row1 (Vb a i))) Mode.any
def Qj2(a:List Sm):Prop:=SM (Qvr a)
def V6(a:List Sm)(b:Bool)(c:Nat):Prop:=Qj2 a/\SM (D.bool b)/\SM (D.map N0 c)/\Qj2 a/\SM (ZI (LI a))/\True
def Y4(a b:Nat):Prop:=IntKind.wrap IntKind.i64 ((↑a:Int)+Z1)=(↑b:Int)
def Qj3(a b:Nat)(c:Nd)(d:Bool):Prop:=Y4 a b/\Iu c=d/\True
def KU(a:List Sm)(b:Bool)(c d:Nat)(e:List (List UInt8×Int)):Prop:=V6 a b c/\∃(y:Nat×Bool×List (List UInt8×Int)),JA a b y.1 y.2.1 y.2.2/\LN a-y.1<LN a-d/\(Y4 d y.1/\false=y.2.1/\True)/\(SM c/\e=y.2.2/\True)/\True
def Qj4(a:List (List UInt8×Int))(b:List Sm)(c:Nat):List (List UInt8×Int):=UC a (V5 b c) (IntKind.wrap IntKind.i64 (Option.getD (Ge a (V5 b c)) Z0+Z1))
def Qj5(a:Nat)(b:List (List UInt8×Int))(c:List Sm)(d:Nat)(e:List (List UInt8×Int)):Prop:=(SM a/\Qj4 b c d=e/\True)/\True
def Y5(a:List Sm)(b:Bool)(c d:Nat)(e:List (List UInt8×Int)):Prop:=V6 a b c/\∃(y:Nat×Bool×List (List UInt8×Int)),JA a b y.1 y.2.1 y.2.2/\LN a-y.1<LN a-d/\(Y4 d y.1/\false=y.2.1/\True)/\Qj5 c e a d y.2.2
def Qce(a:Nat)(b:List Sm)(c:Nat)(d:Bool)(e:Nat)(f:List (List UInt8×Int)):Prop:=SM a/\ifB (decide (Z0<=QjQ b c)) (SM a/\∃(x:Nd),Qcd x b c/\∀(_y:Unit),True->V6 b d e/\∃(y:Nat×Bool×List (List UInt8×Int)),JA b d y.1 y.2.1 y.2.2/\LN b-y.1<LN b-c/\Qj3 c y.1 x y.2.1/\Qj5 e f b c y.2.2) (Y5 b d e c f)
def Qj6(a:Bool)(b:List Sm):Prop:=True/\∃(_y:Unit),True/\false=CL a b/\True/\True
theorem BfC(l:List Sm)(g:Bool)(hl:l.length<=By)(h:∀s∈l,RNode s.nd/\RNode s.te):RBody l g:=by
 refine Bf (A:=sC _ _) (x:=()) (E:=Ebo l g) (eOk Bjj rfl) Tryz.func36 rfl (by kernel_rfl) rfl (by simp[sC,Ebo,EC,E0]) ?_
 refine Bk (T :=
  ∀(y:Nat),True->(∃(x:Nat×Bool×List (List UInt8×Int)),JA l g x.1 x.2.1 x.2.2/\(Z0=(NI x.1)/\decide ((LI l)<=1000)=x.2.1/\True)/\(SM y/\CN (List (List UInt8×Int)) [] x.2.2/\True)/\True)/\∀(x:Nat×Bool×List (List UInt8×Int)),JA l g x.1 x.2.1 x.2.2->ifB (decide ((NI x.1)<(LI l))) (Be (Z0<=(NI x.1)/\(NI x.1)<(LI l)) (∀(x_1:Nat),y≠x_1/\True->SM x_1/\ifB x.2.1 (SM x_1/\ifB (decide (Z0<=Sm.at_ (Va l x.1))) (SM x_1/\∃(x_2:Nd),(isN x_2 [D.agg (Nd.rowE (Sm.nd (List.getD l (Int.toNat (↑ x.1 : Int)) (Sm.mk 0 0 [] 0 (Nd.mk 0 0 0 [] 0 0 (Arr.mk 0 [] [] []) [] [] 0 0 0) (Nd.mk 0 0 0 [] 0 0 (Arr.mk 0 [] [] []) [] [] 0 0 0)))))] []/\RNode x_2)/\∀(y_1:Unit),True->ifB (!Qca x_2) (RT (Qca x_2=CL g l)) (SM x_1/\SM x_1/\ifB (Qcb l x.1==Z1) (ifB (Qcc l x.1) (SM x_1/\ifB (QjP l x.1) (SM x_1/\ifB (QjR l x.1) (SM x_1/\∃(x_3:Nd),Qcd x_3 l x.1/\∀(y_2:Unit),True->V6 l g y/\∃(y_3:Nat×Bool×List (List UInt8×Int)),JA l g y_3.1 y_3.2.1 y_3.2.2/\LN l-y_3.1<LN l-x.1/\Qj3 x.1 y_3.1 x_3 y_3.2.1/\(SM y/\x.2.2=y_3.2.2/\True)/\True) (KU l g y x.1 x.2.2)) (KU l g y x.1 x.2.2)) (KU l g y x.1 x.2.2)) (ifB (Qcb l x.1==2) (SM x_1/\SM y/\SM y/\SM x_1/\∃(x_3:Unit),True/\∀(y_2:Unit),True->ifB (Cz (V5 l x.1)) (SM x_1/\SM y/\ifB (Option.getD (Ge (Qj4 x.2.2 l x.1) (V5 l x.1)) Z0==Z1) (ifB (Qcc l x.1) (Qce x_1 l x.1 g y x.2.2) (ifB (Qb9 l x.1==2) (Qce x_1 l x.1 g y x.2.2) (SM x_1/\ifB (QjL l x.1==10) (Qce x_1 l x.1 g y x.2.2) (Y5 l g y x.1 x.2.2)))) (Y5 l g y x.1 x.2.2)) (Y5 l g y x.1 x.2.2)) (ifB (Qcb l x.1==3) (ifB g (SM x_1/\∃(x_3:Nd),(Qcd x_3 l x.1/\RNode x_3)/\∀(y_2:Unit),True->ifB (Qca x_3) (SM x_1/\ifB (QjS l x.1==Z1) (ifB (Qcc l x.1) (SM x_1/\ifB (QjP l x.1) (SM x_1/\V6 l g y/\∃(y_3:Nat×Bool×List (List UInt8×Int)),JA l g y_3.1 y_3.2.1 y_3.2.2/\LN l-y_3.1<LN l-x.1/\(Y4 x.1 y_3.1/\QjR l x.1=y_3.2.1/\True)/\(SM y/\x.2.2=y_3.2.2/\True)/\True) (KU l g y x.1 x.2.2)) (KU l g y x.1 x.2.2)) (KU l g y x.1 x.2.2)) (KU l g y x.1 x.2.2)) (KU l g y x.1 x.2.2)) (KU l g y x.1 x.2.2))))) (Qj6 g l)) (Qj6 g l))) (RT (x.2.1=CL g l))) (by kernel_rfl) ?_
 delta DA GI LI LN N0 N1 N4 NI SI SM Z0 Z1 ZI JA V4 Qca Qcb Qcc V5 QjP QjQ J8 QjR QX QjS Qcd J9 Vb Va Qvr Qj2 V6 Y4 Qj3 QW KU Qj4 Qj5 Y5 Qce Qj6 QjL Qb9 RT
 try simp only[<- dm]
 try simp only[<- dn]
 simp only[ne_eq,Int.toNat_natCast,Bh,Bc,decide_eq_true_eq,decide_eq_false_iff_not,true_and,and_true,beq_iff_eq,beq_eq_false_iff_ne,Bool.not_eq_true',Bool.not_eq_false',exists_const,forall_const,Prod.exists]
 intro y
 unfold By at hl
 have hnd1:(decide ((l.length:Int)<=1000))=decide (l.length<=1000):=decide_eq_decide.2 (by omega)
 refine⟨⟨0,decide ((l.length:Int)<=1000),[],⟨Nat.zero_le _,fun _ s=>by simp[Ge,Cu],?_⟩,⟨rfl,rfl⟩,rfl⟩,?_⟩
 ·rw[hnd1]
  rfl
 rintro ⟨i,r,prs⟩ hI
 simp only at hI ⊢
 refine⟨fun hlt=>⟨⟨by omega,hlt⟩,fun z _=>?_⟩,fun hge=>?_⟩
 ·have hlt':i<l.length:=by omega
  have hm:=IR hlt'
  have hnm:=Uw hlt'
  obtain ⟨hnd,hte⟩:=h _ hm
  have tot:=hI.tot
  rw[Bep hlt',Iz] at tot
  have w:IntKind.i64.wrap ((i:Int)+1)=((i+1:Nat):Int):=by rw[Bb (by omega) (by omega)];rfl
  have go : ∀(r2 : Bool) (prs2 : List (List UInt8×Int)), (r2=true -> Be5 prs2 (Cu (l.take (i+1)))) -> CL g l=(r2&&Eh g (Cu (l.take (i+1))) (l.drop (i+1))) ->
    ∃a a_1 b,BoI l g a a_1 b/\l.length-a<l.length-i/\(IntKind.i64.wrap ((i:Int)+1)=(a:Int)/\r2=a_1)/\prs2=b:=fun r2 prs2 c1 c2 =>
   ⟨i+1,r2,prs2,⟨hlt',c1,c2⟩,by omega,⟨w,rfl⟩,rfl⟩
  have hcount:∀nm,(Cu (l.take i)).count nm<=8589934592:=fun nm=>by
   have h1:=List.count_le_length (a:=nm) (l:=Cu (l.take i))
   have h2:(Cu (l.take i)).length<=(l.take i).length:=by
    unfold Cu
    rw[List.length_map]
    exact List.length_filter_le _ _
   rw[List.length_take] at h2
   omega
  generalize Eh g (Cu (l.take (i+1))) (l.drop (i+1))=rest at tot go
  generalize hs:l.getD i default=s at *
  cases r with
  |false =>
   simp only[Bool.false_and] at tot
   simp[tot]
  |true =>
   have hc:=hI.cnt rfl
   have wc:IntKind.i64.wrap ((Ge prs s.nm).getD 0+1)=(Ge prs s.nm).getD 0+1:=by
    have:=hcount s.nm
    rw[hc s.nm]
    exact Bb (by omega) (by omega)
   have one:=Bjy hc s.nm
   have put:=Blf hc s.nm
   simp only[wc,U7,if_true,Option.getD_some,one]
   have c1:s.kd≠2->Be5 prs (Cu (l.take (i+1))):=fun e=>by rw[hnm,if_neg e];exact hc
   have c2:s.kd=2->Be5 (UC prs s.nm ((Ge prs s.nm).getD 0+1)) (Cu (l.take (i+1))):=fun e=>by rw[hnm,if_pos e];exact put
   clear hs hI hm h hc put
   repeat' (first
    |exact fun _=>c1 (by omega)
    |exact fun _=>c2 (by assumption)
    |refine⟨s.nd,⟨BB _ _,hnd⟩,?_⟩
    |refine⟨s.te,⟨BB _ _,hte⟩,?_⟩
    |refine⟨s.te,BB _ _,?_⟩
    |refine go _ _ ?_ ?_
    |refine And.intro ?_ ?_
    |intro _)
   all_goals first
    |(clear c1 c2 hnm go;rw[tot];simp_all;done)
    |(clear c1 c2 hnm go;rw[tot];simp_all;omega)
    |trace_state
 ·have e:i=l.length:=by have:=hI.le;omega
  have tot:=hI.tot
  rw[e,Bd7 (Nat.le_refl _),Bool.and_true] at tot
  exact tot.symm
def T1(s:Int)(k:Nat):Int:=if s+(k:Int)<=16385 then s+(k:Int) else 16385
theorem Bkl{l:List Nd}{i:Nat}(h:i<l.length):szL (l.take (i+1))=szL (l.take i)+szN (l.getD i default):=by
 rw[CC h,Tk]
 simp only[szL]
 omega
theorem Bdu(l:List Nd)(i:Nat):szL (l.take i)<=szL l:=by
 have h:=Tk (l.take i) (l.drop i)
 rw[List.take_append_drop] at h
 omega
def Bmw(xs xc:Nat)(s:Int):St:=⟨[(2,xc,.cells [.fn (.func 63) [] [.ref 1 xs 0,.ref 2 xc 0]]),(1,xs,.cells [.int .i64 s])],[]⟩
def sSz(xs xc:Nat)(q:Nd×Int->Prop):FnSpec where
 β:=Nd×Int
 α:=Unit
 args:=fun y=>[.agg y.1.row1,.ref 1 xs 0,.ref 2 xc 0]
 st:=fun y=>Bmw xs xc y.2
 pre:=q
 post:=fun _ _=>True
 res:=fun _ _=>.ret (.tup [])
 out:=fun y _=>Bmw xs xc (T1 y.2 (szN y.1))
def Ud(xs xc:Nat):FnSpec where
 β:=Nd×Int
 α:=Unit
 args:=fun y=>[.agg y.1.row2,.ref 1 xs 0,.ref 2 xc 0]
 st:=fun y=>Bmw xs xc y.2
 pre:=fun _=>True
 post:=fun _ _=>True
 res:=fun _ _=>.ret (.tup [])
 out:=fun y _=>Bmw xs xc (T1 y.2 (szN y.1))
def BjV(xs xc:Nat)(n:Nd):Con:=fun k ds S=>match k with
 |61=>some (pA ds S (gsl 15 Nd.row1 (BH n)) (isN2 n ds []))
 |63=>some (sSz xs xc (fun y=>y.1∈BH n/\0<=y.2/\y.2<=16384))
 |_=>none
noncomputable def Esz1(xs xc:Nat)(n:Nd)(s:Int):Senv:={ EC (BjV xs xc n) 21 4 [5,9,10,11,12,16] (fun _=>([],[])) with
 ann:=fun b _ _S=>match b with
  |0=>some { slots:=[11],keep:=[0,1,2,3,9,10],α:=Nat×Int,st:=fun y=>([.int .i64 y.1],⟨[(2,xc,.cells [.fn (.func 63) [] [.ref 1 xs 0,.ref 2 xc 0]]),(1,xs,.cells [.int .i64 y.2])],[]⟩),inv:=fun y=>y.1<=(BH n).length/\y.2=T1 (s+1) (szL ((BH n).take y.1)),mu:=fun y=>(BH n).length-y.1 }
  |_=>none }
def Y6(a:Nd):Arr:=Nd.va a
def Qj7(a:Nd):Int:=Arr.k (Y6 a)
def Qj8(a:Nd):List Int:=Arr.sh (Y6 a)
def Qj9(a:Nd):Nat:=LN (Qj8 a)
def Qka(a:Nd)(b:Nat):List D:=[ZI (GI (Qj8 a) b)]
def Qkb(a:Nd):List Int:=Arr.nu (Y6 a)
def Qkc(a:Nd):Nat:=LN (Qkb a)
def Qkd(a:Nd)(b:Nat):List D:=[ZI (GI (Qkb a) b)]
def Qke(a:Nd):List Arr:=Arr.it (Y6 a)
def Qkf(a:Nd):Nat:=LN (Qke a)
def Qcf:Arr:=DA
def Qkg(a:Nd)(b:Nat):List D:=Arr.row (List.getD (Qke a) b Qcf)
def Vc:Nd:=Nd.mk Z0 Z0 Z0 [] Z0 Z0 Qcf [] [] Z0 Z0 Z0
def Qkh(a:Nd)(b:Nat):Nd:=List.getD (Nd.ki a) b Vc
def Qki:Sm:=Sm.mk Z0 Z0 [] Z0 Vc Vc
def Qkj(a:Nd)(b:Nat):Sm:=List.getD (Nd.bo a) b Qki
def Qkk(a:Nd):D:=D.agg (Nd.row2 a)
def V7(a:Nd):List Nd:=BH a
def V8(a:Nd):Nat:=LN (V7 a)
def Qcg(a:Nat)(b:Nd)(c d:Int):Prop:=a<=V8 b/\c=T1 (d+Z1) (szL (List.take a (V7 b)))
def Qvs(a b:Nat):D:=D.fn (Fn.func (63:Nat)) [] [D.ref N1 a N0,D.ref N2 b N0]
def Y7(a b:Nat):Prop:=SM (Qvs a b)/\True
def Qch(a:Nd):Int:=(NI (V8 a))
def Qkl(a:Int)(b:Nd):Int:=T1 a (szN b)
def Qkm(a b:Nat)(c d:Int)(e:Nd):Prop:=True/\∃(_y:Unit),True/\True/\(SM a/\Y7 b a/\SM b/\(c=Qkl d e/\True)/\True)/\True
def Q0(a:Nd)(b:Nat):Nd:=List.getD (V7 a) (Int.toNat (↑b:Int)) Vc
def Y8(a:Nd)(b:Nat):Arr:=Nd.va (Q0 a b)
def Qkn(a:Nd)(b:Nat):List Int:=Arr.sh (Y8 a b)
def Qko(a:Nd)(b:Nat):Nat:=LN (Qkn a b)
def Qkp(a:Nd)(b:Nat):List Int:=Arr.nu (Y8 a b)
def Qkq(a:Nd)(b:Nat):Nat:=LN (Qkp a b)
def Qkr(a:Nd)(b:Nat):List Arr:=Arr.it (Y8 a b)
def Qks(a:Nd)(b:Nat):Nat:=LN (Qkr a b)
def Qkt(a:Nd)(b:Nat):List Nd:=Nd.ki (Q0 a b)
def Qku(a:Nd)(b:Nat):Nat:=LN (Qkt a b)
def Qkv(a:Nd)(b:Nat):List Sm:=Nd.bo (Q0 a b)
def Qkw(a:Nd)(b:Nat):Nat:=LN (Qkv a b)
def Qvt(a:Nd):D:=D.sl 15 (V8 a) (fun i=>Nd.row1 (List.getD (V7 a) i Vc)) Mode.any
theorem Bk2(xs xc : Nat)(n : Nd)(s : Int)(hn : n.sm)(h0 : 0<=s)(h1 : s<=16384)(h : ∀b∈BH n, ∀z, 0<=z -> z<=16384 -> ACalls Tryz.prog 63 ((Ud xs xc).args (b, z)) ((Ud xs xc).st (b, z)) (SpecR (Ud xs xc) (b, z))) :
  ACalls Tryz.prog 63 ((Ud xs xc).args (n,s)) ((Ud xs xc).st (n,s)) (SpecR (Ud xs xc) (n,s)):=by
 obtain ⟨_,k1,k2⟩:=It hn
 refine Bf (A:=Ud xs xc) (x:=(n,s)) (E:=Esz1 xs xc n s) (eOk ?_ rfl) Tryz.func63 rfl (by kernel_rfl) rfl (by simp[Ud,Esz1,EC,E0]) ?_
 ·intro k ds S A hh
  try unfold BjV at hh
  try dsimp only at hh
  split at hh
  ·injection hh with hh;subst hh
   exact Bv fun e=>CD.at_ (CD.wk (Blz n k1 k2) e) _
  ·injection hh with hh;subst hh
   refine ConOk.plain (fun y hy=>?_) rfl rfl
   refine ((h y.1 hy.1 y.2 hy.2.1 hy.2.2).wkArgs ?_).mono fun _ _ ⟨u,q1,q2,q3⟩=>⟨u,q1,q2,q3⟩
   simp only[Ud,sSz,wkL,wkD]
   exact⟨TJ _,by simp[Bg,Ba],by simp[Bg,Ba],trivial⟩
  ·cases hh
 refine Bk (T :=
  ∀(x:Nat),xc≠x/\xs≠x/\True->SM xs/\SM xs/\SM x/\∃(x_1:Unit),isN2 n [Qkk n] []/\∀(y:Unit),True->(∃(x:Nat×Int),Qcg x.1 n x.2 s/\(Z0=(NI x.1)/\True)/\(SM xc/\Y7 xs xc/\SM xs/\(IntKind.wrap IntKind.i64 (s+Z1)=x.2/\True)/\True)/\True)/\∀(x_2:Nat×Int),Qcg x_2.1 n x_2.2 s->ifB (decide ((NI x_2.1)<Qch n)) (Be (Z0<=(NI x_2.1)/\(NI x_2.1)<Qch n) (∀(x_3:Nat),xc≠x_3/\xs≠x_3/\True->SM x_3/\SM xs/\ifB (decide ((16384:Int)<x_2.2)) (Qkm xc xs x_2.2 s n) (SM xc/\SM x_3/\∃(x_4:Nd×Int),((Nd.kd (Q0 n x_2.1)=Nd.kd x_4.1/\Nd.at_ (Q0 n x_2.1)=Nd.at_ x_4.1/\Nd.cl (Q0 n x_2.1)=Nd.cl x_4.1/\Nd.tx (Q0 n x_2.1)=Nd.tx x_4.1/\Nd.pr (Q0 n x_2.1)=Nd.pr x_4.1/\Nd.op (Q0 n x_2.1)=Nd.op x_4.1/\Arr.k (Y8 n x_2.1)=Qj7 x_4.1/\(Qko n x_2.1=Qj9 x_4.1/\(∀(i:Nat),i<Qko n x_2.1->[ZI (GI (Qkn n x_2.1) i)]=Qka x_4.1 i)/\True)/\(Qkq n x_2.1=Qkc x_4.1/\(∀(i:Nat),i<Qkq n x_2.1->[ZI (GI (Qkp n x_2.1) i)]=Qkd x_4.1 i)/\True)/\(Qks n x_2.1=Qkf x_4.1/\(∀(i:Nat),i<Qks n x_2.1->Arr.row (List.getD (Qkr n x_2.1) i Qcf)=Qkg x_4.1 i)/\True)/\(Qku n x_2.1=LN (Nd.ki x_4.1)/\(∀(i:Nat),i<Qku n x_2.1->Nd.row (List.getD (Qkt n x_2.1) i Vc)=Nd.row (Qkh x_4.1 i))/\True)/\(Qkw n x_2.1=LN (Nd.bo x_4.1)/\(∀(i:Nat),i<Qkw n x_2.1->Sm.row (List.getD (Qkv n x_2.1) i Qki)=Sm.row (Qkj x_4.1 i))/\True)/\Nd.de (Q0 n x_2.1)=Nd.de x_4.1/\Nd.sl (Q0 n x_2.1)=Nd.sl x_4.1/\Nd.ss (Q0 n x_2.1)=Nd.ss x_4.1/\True)/\SM xs/\SM xc/\True)/\((SM xc/\Y7 xs xc/\SM xs/\(x_2.2=x_4.2/\True)/\True)/\True)/\(x_4.1∈V7 n/\Z0<=x_4.2/\x_4.2<=16384)/\∀(y:Unit),True->(SM (Qkk n)/\SM (D.ref N1 xs N0)/\SM (D.ref N2 xc N0)/\SM (D.ref (3:Nat) x N0)/\SM (Qvt n)/\SM (ZI (Qch n))/\True)/\∃(y:Nat×Int),Qcg y.1 n y.2 s/\V8 n-y.1<V8 n-x_2.1/\(IntKind.wrap IntKind.i64 ((NI x_2.1)+Z1)=(NI y.1)/\True)/\(SM xc/\Y7 xs xc/\SM xs/\(Qkl x_4.2 x_4.1=y.2/\True)/\True)/\True))) (Qkm xc xs x_2.2 s n)) (by kernel_rfl) ?_
 delta DA GI LN N0 N1 N2 N4 NI SM Z0 Z1 ZI Y6 Qj7 Qcf Qkg Vc Qkh Qki Qkj Qkk V7 V8 Qcg Qj8 Qvs Y7 Qch Qkl Qkm Q0 Y8 Qkn Qko Qkp Qj9 Qkq Qkr Qks Qkt Qku Qkv Qkw Qvt Qka Qkb Qkc Qkd Qke Qkf
 try simp only[<- dm]
 try simp only[<- dn]
 simp only[ne_eq,Int.toNat_natCast,Bh,Bc,decide_eq_true_eq,decide_eq_false_iff_not,true_and,and_true,exists_const,forall_const,Prod.exists]
 have hsz:=Tz n
 have w1:IntKind.i64.wrap (s+1)=s+1:=Bb (by omega) (by omega)
 intro x _
 refine⟨Mg n _,⟨0,s+1,⟨Nat.zero_le _,by simp only[List.take_zero,szL,T1];split<;>omega⟩,rfl,w1⟩,?_⟩
 rintro ⟨i,c⟩ ⟨hi,hc⟩
 simp only at hi hc ⊢
 have hl:=BcC hn
 unfold maxLen at hl
 have hle:=Bdu (BH n) i
 refine⟨fun hlt=>⟨⟨by omega,hlt⟩,fun _ _=>⟨fun hb=>?_,fun hb=>?_⟩⟩,fun hge=>?_⟩
 ·rw[hc]
  unfold T1 at hc ⊢
  split at hc<;>split<;>omega
 ·have hlt':i<(BH n).length:=by omega
  have ht:=Bkl hlt'
  refine⟨(BH n).getD i default,c,⟨rfl,rfl,rfl,rfl,rfl,rfl,rfl,⟨rfl,fun _ _=>rfl⟩,⟨rfl,fun _ _=>rfl⟩,⟨rfl,fun _ _=>rfl⟩,⟨rfl,fun _ _=>rfl⟩,⟨rfl,fun _ _=>rfl⟩,rfl,rfl,rfl⟩,rfl,⟨CY hlt',?_,by omega⟩,i+1,T1 c (szN ((BH n).getD i default)),⟨hlt',?_⟩,by omega,Bb (by omega) (by omega),rfl⟩
  ·unfold T1 at hc
   split at hc<;>omega
  ·rw[ht]
   unfold T1 at hc ⊢
   split at hc<;>split<;>split<;>omega
 ·have e:i=(BH n).length:=by omega
  rw[e,List.take_length] at hc
  rw[hc]
  unfold T1
  split<;>split<;>omega
theorem Bkp(xs xc:Nat)(n:Nd)(s:Int)(hn:n.sm)(h0:0<=s)(h1:s<=16384):ACalls Tryz.prog 63 ((Ud xs xc).args (n,s)) ((Ud xs xc).st (n,s)) (SpecR (Ud xs xc) (n,s)) :=
 Bk2 xs xc n s hn h0 h1 fun b hb z z0 z1=>Bkp xs xc b z (Tw hn hb) z0 z1
termination_by szN n
decreasing_by exact IB hb
def EK(n:Nd):Int:=if szN n<=16385 then (szN n:Int) else 16385
def Bix(n:Nd):Con:=fun k ds _=>match k with
 |63=>match ds with
  | [_,.ref _ xs _,.ref _ xc _]=>some (sSz xs xc (fun y=>y.1=n/\y.2=0))
  |_=>none
 |_=>none
noncomputable def Eszs(n:Nd):Senv:=EC (Bix n) 11 5 [] (fun _=>([],[]))
def Y9(a:Nd):Arr:=Nd.va a
def Qkx(a:Nd):Int:=Arr.k (Y9 a)
def Qky(a:Nd):List Int:=Arr.sh (Y9 a)
def Qci(a:Nd):Nat:=LN (Qky a)
def Qkz(a:Nd)(b:Nat):List D:=[ZI (GI (Qky a) b)]
def QkA(a:Nd):List Int:=Arr.nu (Y9 a)
def Qcj(a:Nd):Nat:=LN (QkA a)
def QkB(a:Nd)(b:Nat):List D:=[ZI (GI (QkA a) b)]
def QkC(a:Nd):List Arr:=Arr.it (Y9 a)
def Qck(a:Nd):Nat:=LN (QkC a)
def QkD:Arr:=DA
def QkE(a:Nd)(b:Nat):List D:=Arr.row (List.getD (QkC a) b QkD)
def Qcl(a:Nd):Nat:=LN (Nd.ki a)
def Qcm:Nd:=Nd.mk Z0 Z0 Z0 [] Z0 Z0 QkD [] [] Z0 Z0 Z0
def QkF(a:Nd)(b:Nat):List D:=Nd.row (List.getD (Nd.ki a) b Qcm)
def Qcn(a:Nd):Nat:=LN (Nd.bo a)
def QkG(a:Nd)(b:Nat):List D:=Sm.row (List.getD (Nd.bo a) b (Sm.mk Z0 Z0 [] Z0 Qcm Qcm))
def QkH(a:Int)(b:Nd):Int:=T1 a (szN b)
theorem BjA(n:Nd)(hn:n.sm):CD 35 [.agg n.row1] (.int .i64 (EK n)):=by
 refine Bf (A:=sC _ _) (x:=()) (E:=Eszs n) (eOk ?_ rfl) Tryz.func35 rfl (by kernel_rfl) rfl (by simp[sC,Eszs,EC,E0]) ?_
 ·intro k ds S A hh
  try unfold Bix at hh
  try dsimp only at hh
  split at hh
  ·split at hh
   ·injection hh with hh;subst hh
    refine ConOk.plain (fun y hy=>?_) rfl rfl
    obtain ⟨y,z⟩:=y
    obtain ⟨rfl,rfl⟩:y=n/\z=0:=hy
    refine ((Bkp _ _ y 0 hn (by omega) (by omega)).wkArgs ?_).mono fun _ _ ⟨u,q1,q2,q3⟩=>⟨u,q1,q2,q3⟩
    simp only[Ud,sSz,wkL,wkD]
    exact⟨TJ _,by simp[Bg,Ba],by simp[Bg,Ba],trivial⟩
   ·cases hh
  ·cases hh
 refine Bk (T :=
  ∀(x:Nat),True->∀(x_1:Nat),x≠x_1/\True->SM x_1/\∀(x_2:Nat),x_1≠x_2/\x≠x_2/\True->SM x_2/\SM x_2/\SM x/\∃(x:Nd×Int),((Nd.kd n=Nd.kd x.1/\Nd.at_ n=Nd.at_ x.1/\Nd.cl n=Nd.cl x.1/\Nd.tx n=Nd.tx x.1/\Nd.pr n=Nd.pr x.1/\Nd.op n=Nd.op x.1/\Qkx n=Qkx x.1/\(Qci n=Qci x.1/\(∀(i:Nat),i<Qci n->Qkz n i=Qkz x.1 i)/\True)/\(Qcj n=Qcj x.1/\(∀(i:Nat),i<Qcj n->QkB n i=QkB x.1 i)/\True)/\(Qck n=Qck x.1/\(∀(i:Nat),i<Qck n->QkE n i=QkE x.1 i)/\True)/\(Qcl n=Qcl x.1/\(∀(i:Nat),i<Qcl n->QkF n i=QkF x.1 i)/\True)/\(Qcn n=Qcn x.1/\(∀(i:Nat),i<Qcn n->QkG n i=QkG x.1 i)/\True)/\Nd.de n=Nd.de x.1/\Nd.sl n=Nd.sl x.1/\Nd.ss n=Nd.ss x.1/\True)/\SM x_1/\SM x_2/\True)/\((SM x_2/\(D.fn (Fn.func (63:Nat)) [] [D.ref (max (N0+N1) N0) x_1 N0,D.ref (max N2 (max (N0+N1) N0)) x_2 N0]=D.fn (Fn.func (63:Nat)) [] [D.ref N1 x_1 N0,D.ref N2 x_2 N0]/\True)/\SM x_1/\(Z0=x.2/\True)/\True)/\True)/\(x.1=n/\x.2=Z0)/\∀(y:Unit),True->SM x_1/\RT ((if (16385:Int)<QkH x.2 x.1 then (16385:Int) else QkH x.2 x.1)=EK n)) (by kernel_rfl) ?_
 delta DA GI LN N0 N1 N2 SM Z0 ZI Y9 Qkx Qky Qci Qkz QkA Qcj QkB QkC Qck QkD QkE Qcl Qcm QkF Qcn QkG QkH RT
 try simp only[<- dm]
 try simp only[<- dn]
 simp only[ne_eq,true_and,and_true,exists_const,forall_const,Prod.exists]
 refine fun _ _ _ _ _=>⟨n,0,⟨rfl,rfl,rfl,rfl,rfl,rfl,rfl,⟨rfl,fun _ _=>rfl⟩,⟨rfl,fun _ _=>rfl⟩,⟨rfl,fun _ _=>rfl⟩,⟨rfl,fun _ _=>rfl⟩,⟨rfl,fun _ _=>rfl⟩,rfl,rfl,rfl⟩,⟨rfl,rfl⟩,⟨rfl,rfl⟩,?_⟩
 unfold T1 EK
 split<;>split<;>split<;>omega
theorem BaY{n:Nd}(h:n.ok):n.va.ok:=by
 cases n with
 |mk kd at_ cl tx pr op va ki bo de sl ss =>
  simp only[Nd.ok] at h
  exact h.2.1
theorem Baq{n:Nd}(h:n.ok):∀b∈n.ki,b.ok:=by
 cases n with
 |mk kd at_ cl tx pr op va ki bo de sl ss =>
  simp only[Nd.ok] at h
  exact (TV _).1 h.2.2.1
theorem T8{n:Nd}(h:n.ok):∀s∈n.bo,s.ok:=by
 cases n with
 |mk kd at_ cl tx pr op va ki bo de sl ss =>
  simp only[Nd.ok] at h
  exact (Ua _).1 h.2.2.2
theorem EH{s:Sm}(h:s.ok):s.te.ok/\s.nd.ok:=by
 cases s with
 |mk kd at_ nm sl te nd =>
  simp only[Sm.ok] at h
  exact h.2
theorem ME{s:Sm}(h:s.sm):s.te.sm/\s.nd.sm:=by
 cases s with
 |mk kd at_ nm sl te nd =>
  simp only[Sm.sm] at h
  exact h.2
theorem BaW(n:Nd)(ho:n.ok)(hn:n.sm):RNode n :=
 BnR n hn (BaY ho) (BfC n.bo true (It hn).2.2 fun s hs =>
  have h1:=EH (T8 ho s hs)
  have h2:=ME (Bar hn s hs)
  ⟨BaW s.nd h1.2 h2.2,BaW s.te h1.1 h2.1⟩) fun b hb=>BaW b (Baq ho b hb) (Tw hn (GC hb))
termination_by SizeOf.sizeOf n
decreasing_by
 ·have:=Nd.size_stmt hs
  have:=Sm.size_nd s
  omega
 ·have:=Nd.size_stmt hs
  have:=Sm.size_te s
  omega
 ·exact Nd.size_kid hb
theorem BoV(l:List Sm)(g:Bool)(hl:l.length<=By)(ho:∀s∈l,s.ok)(hs:∀s∈l,s.sm):RBody l g :=
 BfC l g hl fun s h=>⟨BaW s.nd (EH (ho s h)).2 (ME (hs s h)).2,BaW s.te (EH (ho s h)).1 (ME (hs s h)).1⟩
def Bfe(n:Nd):Con:=fun k ds S=>match k with
 |34=>some (pA ds S (.bool (Cm n 60)) (isN n ds [.int .i64 60]))
 |35=>some (pA ds S (.int .i64 (EK n)) (isN n ds []))
 |64=>some (pA ds S (.bool (BL n)) (isN n ds []))
 |_=>none
theorem Bif{n:Nd}(ho:n.ok)(hn:n.sm):ConOk Tryz.prog (Bfe n):=by
 intro k ds S A hh
 unfold Bfe at hh
 split at hh
 ·injection hh with hh;subst hh
  exact Bv fun e=>CD.at_ (CD.isN (BjX n 60 hn (by unfold Bs;omega)) e) _
 ·injection hh with hh;subst hh
  exact Bv fun e=>CD.at_ (CD.wk (BjA n hn) e) _
 ·injection hh with hh;subst hh
  exact Bv fun e=>CD.at_ (CD.isN (BaW n ho hn) e) _
 ·cases hh
noncomputable def Ecks(n:Nd):Senv:=EC (Bfe n) 14 4 [6,10] (fun _=>([],[]))
def QkK(a:Nd):D:=D.agg (Nd.rowE a)
def Zb(a:Nd):Int:=Ek a
def QkL(a:Nd):Prop:=isN a [QkK a] []
theorem BpI(n:Nd)(ho:n.ok)(hn:n.sm):CD 104 [.agg n.row1] (.int .i64 (Ek n)):=by
 refine Bf (A:=sC _ _) (x:=()) (E:=Ecks n) (eOk (Bif ho hn) rfl) Tryz.func104 rfl (by kernel_rfl) rfl (by simp[sC,Ecks,EC,E0]) ?_
 refine Bk (T :=
  ∀(x:Nat),True->SM x/\∃(x_1:Unit),isN n [QkK n,ZI 60] [ZI 60]/\∀(y:Unit),True->ifB (Cm n (60:Int)) (RT ((8:Int)=Zb n)) (SM x/\∃(x_2:Unit),QkL n/\∀(y:Unit),True->ifB (decide ((16384:Int)<EK n)) (RT ((21:Int)=Zb n)) (SM x/\∃(x:Unit),QkL n/\∀(y:Unit),True->ifB (!BL n) (RT ((11:Int)=Zb n)) (RT (Z0=Zb n))))) (by kernel_rfl) ?_
 delta DA GI LN N1 N4 SI SM Z0 ZI QkK Zb QkL RT
 try simp only[<- dm]
 try simp only[<- dn]
 simp only[Bh,decide_eq_true_eq,decide_eq_false_iff_not,true_and,and_true,Bool.not_eq_true',Bool.not_eq_false',exists_const,forall_const]
 have e1:Cm n 60=true↔60<dpN n:=by unfold Cm;rw[decide_eq_true_eq];omega
 have e2:16384<EK n↔16384<szN n:=by unfold EK;split<;>omega
 have e3:Cm n 60=false↔¬60<dpN n:=by rw[<- e1];simp
 simp only[e1,e2,e3]
 unfold Ek
 refine⟨BB _ _,fun h=>(if_pos h).symm,fun h=>?_⟩
 rw[if_neg h]
 refine⟨BB _ _,fun h=>(if_pos h).symm,fun h=>?_⟩
 rw[if_neg h]
 refine⟨BB _ _,fun h=>?_,fun h=>?_⟩
 ·rw[h];rfl
 ·rw[h];rfl
def WN(l:List Nd):Bool:=l.any fun b=>Cm b 60
def BdY(l:List Sm):Bool:=l.any fun s=>WN (Bn s)
def Gc:List Nd->Int
 | []=>0
 |x::r=>EK x+Gc r
def IW:List Sm->Int
 | []=>0
 |s::r=>Gc (Bn s)+IW r
theorem BhL{l:List Nd}{i:Nat}(h:i<l.length):WN (l.take (i+1))=(WN (l.take i)||Cm (l.getD i default) 60):=by
 unfold WN
 rw[CC h,List.any_append]
 simp
theorem Bhk{l:List Sm}{i:Nat}(h:i<l.length):BdY (l.take (i+1))=(BdY (l.take i)||WN (Bn (l.getD i default))):=by
 unfold BdY
 rw[CC h,List.any_append]
 simp
theorem Wk:∀a b:List Nd,Gc (a++b)=Gc a+Gc b
 | [],b=>by simp only[List.nil_append,Gc];omega
 |x::a,b=>by simp only[List.cons_append,Gc,Wk a b];omega
theorem Bdq:∀a b:List Sm,IW (a++b)=IW a+IW b
 | [],b=>by simp only[List.nil_append,IW];omega
 |x::a,b=>by simp only[List.cons_append,IW,Bdq a b];omega
theorem Bhv{l:List Nd}{i:Nat}(h:i<l.length):Gc (l.take (i+1))=Gc (l.take i)+EK (l.getD i default):=by
 rw[CC h,Wk]
 simp only[Gc]
 omega
theorem Bg8{l:List Sm}{i:Nat}(h:i<l.length):IW (l.take (i+1))=IW (l.take i)+Gc (Bn (l.getD i default)):=by
 rw[CC h,Bdq]
 simp only[IW]
 omega
theorem BdO(n:Nd):0<=EK n/\EK n<=16385:=by
 unfold EK
 split<;>omega
theorem UD:∀l:List Nd,0<=Gc l/\Gc l<=16385*(l.length:Int)
 | []=>by simp[Gc]
 |x::r=>by
  have:=BdO x
  have:=UD r
  simp only[Gc,List.length_cons]
  omega
theorem Bgj:∀l:List Sm,0<=IW l/\IW l<=32770*(l.length:Int)
 | []=>by simp[IW]
 |s::r=>by
  have h1:=UD (Bn s)
  have:=Bgj r
  have:=Gz s
  simp only[IW,List.length_cons]
  omega
theorem BgE:∀l:List Nd,Gc l<=(szL l:Int)/\(szL l<=16384->Gc l=(szL l:Int))/\(16384<szL l->16384<Gc l)
 | []=>by simp[Gc,szL]
 |x::r=>by
  have:=BgE r
  have:=UD r
  have h:EK x=if szN x<=16385 then (szN x:Int) else 16385:=rfl
  simp only[Gc,szL]
  split at h<;>omega
theorem Bab:∀l:List Sm,IW l=Gc (l.flatMap Bn)
 | []=>by simp only[IW,List.flatMap_nil,Gc]
 |s::r=>by simp only[IW,List.flatMap_cons,Wk,Bab r]
theorem Bnp(l:List Sm):16384<IW l↔16384<szB l:=by
 rw[Bab,Tx]
 have:=BgE (l.flatMap Bn)
 omega
theorem BaB:∀l:List Sm,BdY l=WN (l.flatMap Bn)
 | []=>rfl
 |s::r=>by
  have:=BaB r
  unfold BdY WN at this ⊢
  rw[List.any_cons,this,List.flatMap_cons,List.any_append]
theorem Bnu(l:List Sm):BdY l=true↔60<dpB l:=by
 rw[BaB,T4]
 unfold WN
 rw[Ry]
 constructor
 ·rintro ⟨_,h⟩;omega
 ·intro h
  refine⟨fun e=>?_,by omega⟩
  rw[e] at h
  simp[dpL] at h
def BiE(l:List Sm):Con:=fun k ds S=>match k with
 |33=>some (pE (β:=Sm) ds S (fun s=>gsl 15 Nd.row1 (Bn s)) (fun s=>isS s ds []))
 |34=>some (pE (β:=Nd) ds S (fun b=>.bool (Cm b 60)) (fun b=>isN b ds [.int .i64 60]/\b.sm))
 |35=>some (pE (β:=Nd) ds S (fun b=>.int .i64 (EK b)) (fun b=>isN b ds []/\b.sm))
 |36=>some (pA ds S (.bool (CL false l)) (wkL ds [gsl 34 Sm.row1 l,.bool false]))
 |37=>some (pA ds S (.bool (Bcf l)) (wkL ds [gsl 34 Sm.row1 l]))
 |_=>none
theorem Biz{l:List Sm}(hl:l.length<=By)(ho:∀s∈l,s.ok)(hs:∀s∈l,s.sm):ConOk Tryz.prog (BiE l):=by
 intro k ds S A hh
 unfold BiE at hh
 split at hh
 ·injection hh with hh;subst hh
  exact EJ fun s e=>CD.at_ (CD.wk (BiA s) e) _
 ·injection hh with hh;subst hh
  exact EJ fun b ⟨e,hb⟩=>CD.at_ (CD.isN (BjX b 60 hb (by unfold Bs;omega)) e) _
 ·injection hh with hh;subst hh
  exact EJ fun b ⟨e,hb⟩=>CD.at_ (CD.wk (BjA b hb) e) _
 ·injection hh with hh;subst hh
  exact Bv fun e=>CD.at_ (CD.wk (BoV l false hl ho hs) e) _
 ·injection hh with hh;subst hh
  exact Bv fun e=>CD.at_ (CD.wk (BqC l (I1 hl) hs) e) _
 ·cases hh
noncomputable def Epr(l:List Sm):Senv:={ EC (BiE l) 72 5 [6,8,10,12,16,18,19,20,21,25,26,27,28,38,40,41,42,43,47,48,49,50,59,62] (fun _=>([],[])) with
 mg:=fun _=>2
 ann:=fun b env S=>match b with
  |0=>some { slots:=[20,4],keep:=[0,1,3,18,19],α:=Nat×Bool,st:=fun y=>([.int .i64 y.1,.bool y.2],S),inv:=fun y=>y.1<=l.length/\y.2=BdY (l.take y.1),mu:=fun y=>l.length-y.1 }
  |2=>match Ab.look env 25,Ab.look env 20,Ab.look env 4 with
   |.sl _ n _f _,.int _ i,.bool t=>some { slots:=[27,4],keep:=[0,1,3,18,19,20,25,26],α:=Nat×Bool,st:=fun y=>([.int .i64 y.1,.bool y.2],S),inv:=fun y=>y.1<=n/\y.2=(t||WN ((Bn (l.getD i.toNat default)).take y.1)),mu:=fun y=>n-y.1 }
   |_,_,_=>none
  |4=>some { slots:=[42,3],keep:=[0,1,40,41],α:=Nat×Int,st:=fun y=>([.int .i64 y.1,.int .i64 y.2],S),inv:=fun y=>y.1<=l.length/\y.2=IW (l.take y.1),mu:=fun y=>l.length-y.1 }
  |6=>match Ab.look env 47,Ab.look env 42,Ab.look env 3 with
   |.sl _ n _f _,.int _ i,.int _ t=>some { slots:=[49,3],keep:=[0,1,40,41,42,47,48],α:=Nat×Int,st:=fun y=>([.int .i64 y.1,.int .i64 y.2],S),inv:=fun y=>y.1<=n/\y.2=t+Gc ((Bn (l.getD i.toNat default)).take y.1),mu:=fun y=>n-y.1 }
   |_,_,_=>none
  |_=>none }
def V9(a:List Sm):Int:=CI a
def Qcp(a:Nat)(b:List Sm)(c:Bool):Prop:=a<=LN b/\c=BdY (List.take a b)
def Vd:Arr:=DA
def KV:Nd:=Nd.mk Z0 Z0 Z0 [] Z0 Z0 Vd [] [] Z0 Z0 Z0
def JB:Sm:=Sm.mk Z0 Z0 [] Z0 KV KV
def Ve(a:List Sm)(b:Nat):Sm:=List.getD a b JB
def QkS(a:List Sm)(b:Nat):List D:=(Sm.row1 (Ve a b))
def QkT(a:Nat)(b:List Sm):Prop:=SM a/\((SM (LN b)/\(∀(i:Nat),i<LN b->SM (QkS b i))/\True)/\True)/\True
def Ze(a:Nat)(b:List Sm):Prop:=QkT a b/\True
def JC(a:List Sm)(b:Nat):Sm:=List.getD a (Int.toNat (↑b:Int)) JB
def QkU(a:List Sm)(b:Nat):Int:=Sm.kd (JC a b)
def QkV(a:List Sm)(b:Nat):Int:=Sm.at_ (JC a b)
def QkW(a:List Sm)(b:Nat):List UInt8:=Sm.nm (JC a b)
def QkX(a:List Sm)(b:Nat):Int:=Sm.sl (JC a b)
def Q4(a:List Sm)(b:Nat):Nd:=Sm.te (JC a b)
def QkY(a:List Sm)(b:Nat):Int:=Nd.kd (Q4 a b)
def QkZ(a:List Sm)(b:Nat):Int:=Nd.at_ (Q4 a b)
def Qk0(a:List Sm)(b:Nat):Int:=Nd.cl (Q4 a b)
def Qk1(a:List Sm)(b:Nat):List UInt8:=Nd.tx (Q4 a b)
def Qk2(a:List Sm)(b:Nat):Int:=Nd.pr (Q4 a b)
def Qk3(a:List Sm)(b:Nat):Int:=Nd.op (Q4 a b)
def Zf(a:List Sm)(b:Nat):Arr:=Nd.va (Q4 a b)
def Qk4(a:List Sm)(b:Nat):Int:=Arr.k (Zf a b)
def Qk5(a:List Sm)(b:Nat):List Int:=Arr.sh (Zf a b)
def Qcq(a:List Sm)(b:Nat):Nat:=LN (Qk5 a b)
def Qk6(a:List Sm)(b c:Nat):List D:=[ZI (GI (Qk5 a b) c)]
def Qk7(a:List Sm)(b:Nat):List Int:=Arr.nu (Zf a b)
def Qcr(a:List Sm)(b:Nat):Nat:=LN (Qk7 a b)
def Qk8(a:List Sm)(b c:Nat):List D:=[ZI (GI (Qk7 a b) c)]
def Qk9(a:List Sm)(b:Nat):List Arr:=Arr.it (Zf a b)
def Qcs(a:List Sm)(b:Nat):Nat:=LN (Qk9 a b)
def Qla(a:List Sm)(b c:Nat):List D:=Arr.row (List.getD (Qk9 a b) c Vd)
def Qlb(a:List Sm)(b:Nat):List Nd:=Nd.ki (Q4 a b)
def Qct(a:List Sm)(b:Nat):Nat:=LN (Qlb a b)
def Qlc(a:List Sm)(b c:Nat):List D:=Nd.row (List.getD (Qlb a b) c KV)
def Qld(a:List Sm)(b:Nat):List Sm:=Nd.bo (Q4 a b)
def Qcu(a:List Sm)(b:Nat):Nat:=LN (Qld a b)
def Qle(a:List Sm)(b c:Nat):List D:=Sm.row (List.getD (Qld a b) c JB)
def Qlf(a:List Sm)(b:Nat):Int:=Nd.de (Q4 a b)
def Qlg(a:List Sm)(b:Nat):Int:=Nd.sl (Q4 a b)
def Qlh(a:List Sm)(b:Nat):Int:=Nd.ss (Q4 a b)
def Q5(a:List Sm)(b:Nat):Nd:=Sm.nd (JC a b)
def Qli(a:List Sm)(b:Nat):Int:=Nd.kd (Q5 a b)
def Qlj(a:List Sm)(b:Nat):Int:=Nd.at_ (Q5 a b)
def Qlk(a:List Sm)(b:Nat):Int:=Nd.cl (Q5 a b)
def Qll(a:List Sm)(b:Nat):List UInt8:=Nd.tx (Q5 a b)
def Qlm(a:List Sm)(b:Nat):Int:=Nd.pr (Q5 a b)
def Qln(a:List Sm)(b:Nat):Int:=Nd.op (Q5 a b)
def Zg(a:List Sm)(b:Nat):Arr:=Nd.va (Q5 a b)
def Qlo(a:List Sm)(b:Nat):Int:=Arr.k (Zg a b)
def Qlp(a:List Sm)(b:Nat):List Int:=Arr.sh (Zg a b)
def Qcv(a:List Sm)(b:Nat):Nat:=LN (Qlp a b)
def Qlq(a:List Sm)(b c:Nat):List D:=[ZI (GI (Qlp a b) c)]
def Qlr(a:List Sm)(b:Nat):List Int:=Arr.nu (Zg a b)
def Qcw(a:List Sm)(b:Nat):Nat:=LN (Qlr a b)
def Qls(a:List Sm)(b c:Nat):List D:=[ZI (GI (Qlr a b) c)]
def Qlt(a:List Sm)(b:Nat):List Arr:=Arr.it (Zg a b)
def Qcx(a:List Sm)(b:Nat):Nat:=LN (Qlt a b)
def Qlu(a:List Sm)(b c:Nat):List D:=Arr.row (List.getD (Qlt a b) c Vd)
def Qlv(a:List Sm)(b:Nat):List Nd:=Nd.ki (Q5 a b)
def Qcy(a:List Sm)(b:Nat):Nat:=LN (Qlv a b)
def Qlw(a:List Sm)(b c:Nat):List D:=Nd.row (List.getD (Qlv a b) c KV)
def Qlx(a:List Sm)(b:Nat):List Sm:=Nd.bo (Q5 a b)
def Qcz(a:List Sm)(b:Nat):Nat:=LN (Qlx a b)
def Qly(a:List Sm)(b c:Nat):List D:=Sm.row (List.getD (Qlx a b) c JB)
def Qlz(a:List Sm)(b:Nat):Int:=Nd.de (Q5 a b)
def QlA(a:List Sm)(b:Nat):Int:=Nd.sl (Q5 a b)
def QlB(a:List Sm)(b:Nat):Int:=Nd.ss (Q5 a b)
def QlC(a:Sm)(b:List Sm)(c:Nat):Prop:=isS a [D.agg [ZI (QkU b c),ZI (QkV b c),D.str (QkW b c),ZI (QkX b c),ZI (QkY b c),ZI (QkZ b c),ZI (Qk0 b c),D.str (Qk1 b c),ZI (Qk2 b c),ZI (Qk3 b c),ZI (Qk4 b c),D.sl N1 (Qcq b c) (fun i=>Qk6 b c i) Mode.any,D.sl N1 (Qcr b c) (fun i=>Qk8 b c i) Mode.any,D.sl N4 (Qcs b c) (fun i=>Qla b c i) Mode.any,D.sl 15 (Qct b c) (fun i=>Qlc b c i) Mode.any,D.sl 34 (Qcu b c) (fun i=>Qle b c i) Mode.any,ZI (Qlf b c),ZI (Qlg b c),ZI (Qlh b c),ZI (Qli b c),ZI (Qlj b c),ZI (Qlk b c),D.str (Qll b c),ZI (Qlm b c),ZI (Qln b c),ZI (Qlo b c),D.sl N1 (Qcv b c) (fun i=>Qlq b c i) Mode.any,D.sl N1 (Qcw b c) (fun i=>Qls b c i) Mode.any,D.sl N4 (Qcx b c) (fun i=>Qlu b c i) Mode.any,D.sl 15 (Qcy b c) (fun i=>Qlw b c i) Mode.any,D.sl 34 (Qcz b c) (fun i=>Qly b c i) Mode.any,ZI (Qlz b c),ZI (QlA b c),ZI (QlB b c)]] []
def QcA(a:Sm):List Nd:=Bn a
def Vf(a:Sm):Nat:=LN (QcA a)
def QlD(a:Nat)(b:List Sm)(c:Nat):List Nd:=List.take a (Bn (JC b c))
def Zh(a:Nat)(b:Sm)(c d:Bool)(e:List Sm)(f:Nat):Prop:=a<=Vf b/\c=(d||WN (QlD a e f))
def Xa(a:Nat)(b:List Sm)(c d:Nat):Prop:=(SM a/\(SM (QkU b c)/\SM (QkV b c)/\SM (QkW b c)/\SM (QkX b c)/\SM (QkY b c)/\SM (QkZ b c)/\SM (Qk0 b c)/\SM (Qk1 b c)/\SM (Qk2 b c)/\SM (Qk3 b c)/\SM (Qk4 b c)/\(SM (Qcq b c)/\(∀(i:Nat),i<Qcq b c->SM (Qk6 b c i))/\True)/\(SM (Qcr b c)/\(∀(i:Nat),i<Qcr b c->SM (Qk8 b c i))/\True)/\(SM (Qcs b c)/\(∀(i:Nat),i<Qcs b c->SM (Qla b c i))/\True)/\(SM (Qct b c)/\(∀(i:Nat),i<Qct b c->SM (Qlc b c i))/\True)/\(SM (Qcu b c)/\(∀(i:Nat),i<Qcu b c->SM (Qle b c i))/\True)/\SM (Qlf b c)/\SM (Qlg b c)/\SM (Qlh b c)/\SM (Qli b c)/\SM (Qlj b c)/\SM (Qlk b c)/\SM (Qll b c)/\SM (Qlm b c)/\SM (Qln b c)/\SM (Qlo b c)/\(SM (Qcv b c)/\(∀(i:Nat),i<Qcv b c->SM (Qlq b c i))/\True)/\(SM (Qcw b c)/\(∀(i:Nat),i<Qcw b c->SM (Qls b c i))/\True)/\(SM (Qcx b c)/\(∀(i:Nat),i<Qcx b c->SM (Qlu b c i))/\True)/\(SM (Qcy b c)/\(∀(i:Nat),i<Qcy b c->SM (Qlw b c i))/\True)/\(SM (Qcz b c)/\(∀(i:Nat),i<Qcz b c->SM (Qly b c i))/\True)/\SM (Qlz b c)/\SM (QlA b c)/\SM (QlB b c)/\True)/\QkT d b)/\True
def Zi(a:Sm):Int:=(NI (Vf a))
def QlE(a:Nat)(b:Sm):Bool:=decide ((↑a:Int)<Zi b)
def QcB(a:List Sm):D:=D.sl 34 (LN a) (fun i=>QkS a i) Mode.any
def QcC(a:List Sm):List D:=[QcB a]
def QvA(a:List Sm):D:=D.agg (QcC a)
def Zj(a:List Sm):Prop:=SM (QvA a)
def Zk(a:Nat):Prop:=SM (D.ref N0 a N0)
def QlF(a:List Sm):Prop:=SM (QcB a)
def QvB(a:Sm):D:=D.sl 15 (Vf a) (fun i=>Nd.row1 (List.getD (QcA a) i KV)) Mode.any
def QlG(a:List Sm)(b:Nat)(c:Sm):Prop:=QlF a/\SM (ZI (LI a))/\SM (ZI (↑b:Int))/\SM (QvB c)/\SM (ZI (Zi c))/\True
def QlH(a:List Sm)(b c:Nat)(d:Sm):Prop:=Zj a/\Zk b/\SM (ZI Z0)/\QlG a c d
def QcD(a:Sm)(b c:Nat):Prop:=Vf a-b<Vf a-c
def Xb(a b:Nat):Prop:=IntKind.wrap IntKind.i64 ((↑a:Int)+Z1)=(↑b:Int)
def Q6(a:Sm)(b:Nat):Nd:=List.getD (QcA a) (Int.toNat (↑b:Int)) KV
def QlL(a:Sm)(b:Nat):D:=D.agg (Nd.rowE (Q6 a b))
def QlM(a:List Sm):Prop:=QlF a/\SM (ZI (LI a))/\True
def QcE(a:Nat)(b:List Sm)(c:Int):Prop:=a<=LN b/\c=IW (List.take a b)
def QcF(a:Nat)(b:Sm)(c d:Int)(e:List Sm)(f:Nat):Prop:=a<=Vf b/\c=d+Gc (QlD a e f)
def QlN(a:List Sm):List D:=[QcB a,D.bool false]
def QlO(a:List Sm):Prop:=True/\∃(_y:Unit),True/\(11:Int)=V9 a/\True/\True
theorem BpX(l:List Sm)(hl:l.length<=By)(ho:∀s∈l,s.ok)(hs:∀s∈l,s.sm):CD 15 [.agg [gsl 34 Sm.row1 l]] (.int .i64 (CI l)):=by
 refine Bf (A:=sC _ _) (x:=()) (E:=Epr l) (eOk (Biz hl ho hs) rfl) Tryz.func15 rfl (by kernel_rfl) rfl (by simp[sC,Epr,EC,E0]) ?_
 refine Bk (T :=
  ∀(x:Nat),True->SM x/\ifB (decide ((1000:Int)<(LI l))) (RT ((2:Int)=V9 l)) (SM x/\(∃(x_1:Nat×Bool),Qcp x_1.1 l x_1.2/\(Z0=(NI x_1.1)/\false=x_1.2/\True)/\Ze x l)/\∀(x_1:Nat×Bool),Qcp x_1.1 l x_1.2->ifB (decide ((NI x_1.1)<(LI l))) (Be (Z0<=(NI x_1.1)/\(NI x_1.1)<(LI l)) (∀(x_2:Nat),x≠x_2/\True->SM x_2/\SM x_2/\∃(x_3:Sm),QlC x_3 l x_1.1/\∀(y:Unit),True->(∃(x_4:Nat×Bool),Zh x_4.1 x_3 x_4.2 x_1.2 l x_1.1/\(Z0=(NI x_4.1)/\x_1.2=x_4.2/\True)/\Xa x_2 l x_1.1 x)/\∀(x_4:Nat×Bool),Zh x_4.1 x_3 x_4.2 x_1.2 l x_1.1->ifB (QlE x_4.1 x_3) (Be (Z0<=(NI x_4.1)/\(NI x_4.1)<Zi x_3) (∀(x_5:Nat),x_2≠x_5/\x≠x_5/\True->SM x_5/\ifB x_4.2 (QlH l x x_1.1 x_3/\∃(y:Nat×Bool),Zh y.1 x_3 y.2 x_1.2 l x_1.1/\QcD x_3 y.1 x_4.1/\(Xb x_4.1 y.1/\true=y.2/\True)/\Xa x_2 l x_1.1 x) (SM x_5/\∃(x_6:Nd),(isN x_6 [QlL x_3 x_4.1,ZI 60] [ZI 60]/\Nd.sm x_6)/\∀(y:Unit),True->QlH l x x_1.1 x_3/\∃(y:Nat×Bool),Zh y.1 x_3 y.2 x_1.2 l x_1.1/\QcD x_3 y.1 x_4.1/\(Xb x_4.1 y.1/\Cm x_6 (60:Int)=y.2/\True)/\Xa x_2 l x_1.1 x))) ((Zj l/\Zk x/\SM (ZI Z0)/\QlM l)/\∃(y:Nat×Bool),Qcp y.1 l y.2/\LN l-y.1<LN l-x_1.1/\(Xb x_1.1 y.1/\x_4.2=y.2/\True)/\Ze x l))) (ifB x_1.2 (RT ((8:Int)=V9 l)) (SM x/\(∃(x_2:Nat×Int),QcE x_2.1 l x_2.2/\(Z0=(NI x_2.1)/\Z0=x_2.2/\True)/\Ze x l)/\∀(x_2:Nat×Int),QcE x_2.1 l x_2.2->ifB (decide ((NI x_2.1)<(LI l))) (Be (Z0<=(NI x_2.1)/\(NI x_2.1)<(LI l)) (∀(x_3:Nat),x≠x_3/\True->SM x_3/\SM x_3/\∃(x_4:Sm),QlC x_4 l x_2.1/\∀(y:Unit),True->(∃(x_5:Nat×Int),QcF x_5.1 x_4 x_5.2 x_2.2 l x_2.1/\(Z0=(NI x_5.1)/\x_2.2=x_5.2/\True)/\Xa x_3 l x_2.1 x)/\∀(x_5:Nat×Int),QcF x_5.1 x_4 x_5.2 x_2.2 l x_2.1->ifB (QlE x_5.1 x_4) (Be (Z0<=(NI x_5.1)/\(NI x_5.1)<Zi x_4) (∀(x_6:Nat),x_3≠x_6/\x≠x_6/\True->SM x_6/\SM x_6/\∃(x_7:Nd),(isN x_7 [QlL x_4 x_5.1] []/\Nd.sm x_7)/\∀(y:Unit),True->(Zj l/\Zk x/\QlG l x_2.1 x_4)/\∃(y:Nat×Int),QcF y.1 x_4 y.2 x_2.2 l x_2.1/\QcD x_4 y.1 x_5.1/\(Xb x_5.1 y.1/\IntKind.wrap IntKind.i64 (x_5.2+EK x_7)=y.2/\True)/\Xa x_3 l x_2.1 x)) ((Zj l/\Zk x/\QlM l)/\∃(y:Nat×Int),QcE y.1 l y.2/\LN l-y.1<LN l-x_2.1/\(Xb x_2.1 y.1/\x_5.2=y.2/\True)/\Ze x l))) (ifB (decide ((16384:Int)<x_2.2)) (RT ((21:Int)=V9 l)) (SM x/\∃(x_3:Unit),wkL (QlN l) (QlN l)/\∀(y:Unit),True->ifB (!CL false l) (QlO l) (SM x/\∃(x:Unit),wkL (QcC l) (QcC l)/\∀(y:Unit),True->ifB (Bcf l) (QlO l) (RT (Z0=V9 l))))))))) (by kernel_rfl) ?_
 delta DA GI LI LN N0 N1 N4 NI SI SM Z0 Z1 ZI Qcp QcC QvA Zj Zk QlF QvB QlG QlH QcD Xb Vd Q6 QlL QlM QcE KV QcF QlN QlO JB Ve QkS QkT Ze JC QkU QkV QkW QkX Q4 QkY QkZ Qk0 Qk1 Qk2 Qk3 Zf Qk4 Qk5 Qcq Qk6 Qk7 Qcr Qk8 Qk9 Qcs Qla Qlb Qct Qlc Qld Qcu Qle Qlf Qlg Qlh Q5 Qli Qlj Qlk Qll Qlm Qln Zg Qlo Qlp Qcv Qlq Qlr Qcw Qls Qlt Qcx Qlu Qlv Qcy Qlw Qlx Qcz Qly Qlz QlA V9 QlB QlC QcA Vf QlD Zh Xa Zi QlE QcB RT
 try simp only[<- dm]
 try simp only[<- dn]
 simp only[ne_eq,implies_true,Int.toNat_natCast,Bh,Bc,decide_eq_true_eq,decide_eq_false_iff_not,true_and,and_true,Bool.not_eq_true',Bool.not_eq_false',exists_const,forall_const,Prod.exists]
 unfold By at hl
 have hr:CI l=if 1000<l.length then 2 else if 60<dpB l then 8 else if 16384<szB l then 21 else if (CL false l&&!Bcf l)=true then 0 else 11:=rfl
 rw[hr]
 intro x
 refine⟨fun h=>by rw[if_pos (by omega)],fun h=>?_⟩
 rw[if_neg (by omega)]
 refine⟨⟨0,false,⟨Nat.zero_le _,rfl⟩,rfl,rfl⟩,?_⟩
 rintro ⟨i,t⟩ ⟨hi,ht⟩
 simp only at hi ht ⊢
 refine⟨fun hlt=>⟨⟨by omega,hlt⟩,fun z _=>?_⟩,fun hge=>?_⟩
 ·have hlt':i<l.length:=by omega
  have hsm:=Rb (hs _ (IR hlt'))
  have h2:=Gz (l.getD i default)
  have hta:=Bhk hlt'
  refine⟨l.getD i default,Ie _ _,⟨0,t,⟨Nat.zero_le _,by simp[WN]⟩,rfl,rfl⟩,?_⟩
  rintro ⟨j,u⟩ ⟨hj,hu⟩
  simp only at hj hu ⊢
  refine⟨fun hl2=>⟨⟨by omega,hl2⟩,fun _ _=>?_⟩,fun hg2=>?_⟩
  ·have hl2':j<(Bn (l.getD i default)).length:=by omega
   have htd:=BhL hl2'
   have w:IntKind.i64.wrap ((j:Int)+1)=((j+1:Nat):Int):=by rw[Bb (by omega) (by omega)];rfl
   refine⟨fun e=>⟨j+1,true,⟨hl2',?_⟩,by omega,w,rfl⟩,fun e=>⟨(Bn (l.getD i default)).getD j default,⟨BB _ _,hsm _ (CY hl2')⟩,j+1,_,⟨hl2',?_⟩,by omega,w,rfl⟩⟩
   ·rw[htd,<- Bool.or_assoc,<- hu,e];rfl
   ·rw[htd,<- Bool.or_assoc,<- hu,e];rfl
  ·have e:j=(Bn (l.getD i default)).length:=by omega
   refine⟨i+1,u,⟨hlt',?_⟩,by omega,by rw[Bb (by omega) (by omega)];rfl,rfl⟩
   rw[hta,<- ht,hu,e,List.take_length]
 ·have e:i=l.length:=by omega
  rw[e,List.take_length] at ht
  have hdp:=Bnu l
  rw[<- ht] at hdp
  refine⟨fun h3=>by rw[if_pos (hdp.1 h3)],fun h3=>?_⟩
  rw[if_neg (fun h4=>by rw[hdp.2 h4] at h3;cases h3)]
  refine⟨⟨0,0,⟨Nat.zero_le _,rfl⟩,rfl,rfl⟩,?_⟩
  rintro ⟨k,c⟩ ⟨hk,hc⟩
  simp only at hk hc ⊢
  have hb:=Bgj (l.take k)
  rw[List.length_take] at hb
  refine⟨fun hlt=>⟨⟨by omega,hlt⟩,fun z _=>?_⟩,fun hge=>?_⟩
  ·have hlt':k<l.length:=by omega
   have hsm:=Rb (hs _ (IR hlt'))
   have h2:=Gz (l.getD k default)
   have hta:=Bg8 hlt'
   refine⟨l.getD k default,Ie _ _,⟨0,c,⟨Nat.zero_le _,by simp[Gc]⟩,rfl,rfl⟩,?_⟩
   rintro ⟨j,u⟩ ⟨hj,hu⟩
   simp only at hj hu ⊢
   refine⟨fun hl2=>⟨⟨by omega,hl2⟩,fun _ _=>?_⟩,fun hg2=>?_⟩
   ·have hl2':j<(Bn (l.getD k default)).length:=by omega
    have htd:=Bhv hl2'
    have hz:=UD ((Bn (l.getD k default)).take j)
    rw[List.length_take] at hz
    have hs1:=BdO ((Bn (l.getD k default)).getD j default)
    have w:IntKind.i64.wrap ((j:Int)+1)=((j+1:Nat):Int):=by rw[Bb (by omega) (by omega)];rfl
    have w2:IntKind.i64.wrap (u+EK ((Bn (l.getD k default)).getD j default))=u+EK ((Bn (l.getD k default)).getD j default):=Bb (by omega) (by omega)
    refine⟨(Bn (l.getD k default)).getD j default,⟨BB _ _,hsm _ (CY hl2')⟩,j+1,u+EK ((Bn (l.getD k default)).getD j default),⟨hl2',?_⟩,by omega,w,w2⟩
    rw[htd,hu]
    omega
   ·have e:j=(Bn (l.getD k default)).length:=by omega
    refine⟨k+1,u,⟨hlt',?_⟩,by omega,by rw[Bb (by omega) (by omega)];rfl,rfl⟩
    rw[hta,<- hc,hu,e,List.take_length]
  ·have e:k=l.length:=by omega
   rw[e,List.take_length] at hc
   have hsz:=Bnp l
   rw[<- hc] at hsz
   refine⟨fun h4=>by rw[if_pos (hsz.1 h4)],fun h4=>?_⟩
   rw[if_neg (fun h5=>h4 (hsz.2 h5))]
   exact⟨Bi _,fun h5=>by rw[h5];rfl,fun h5=>⟨Bi _,fun h6=>by rw[h5,h6];rfl,fun h6=>by rw[h5,h6];rfl⟩⟩
def _root_.Go.Ab.cellsO(os:List (Nat×Nat×AObj))(k:Nat):List D:=match Bt os k with
 |some (_,.cells ds)=>ds
 |_=>[]
theorem ACalls.wkEnd{P:Program}{k:FuncId}{ds:List D}{S:St}{R R':AEnd->St->Prop}(h:ACalls P k ds S R)(hr:∀r S',R r S'->∃r',(∀C e,RepEnd C r e->RepEnd C r' e)/\R' r' S'):ACalls P k ds S R' :=
 ⟨h.1,fun C F args w ha hs=>(h.2 C F args w ha hs).mono fun _ _ ⟨C',_r,S',h1,h2,h3,h4⟩=>let ⟨r',q0,q2⟩:=hr _ _ h4;⟨C',r',S',h1,h2,q0 _ _ h3,q2⟩⟩
theorem Bcv(a:Arr):wkL a.row1 a.row:=by
 cases a with
 |mk k s n is =>
  simp only[Arr.row,Arr.row1,Arr.k,Arr.sh,Arr.nu,Arr.it,gsl,isl,wkL,wkD,Bg,Ba]
  refine⟨⟨by simp[kEq],trivial⟩,⟨by simp,trivial,fun i _=>by simp[kEq],by simp[BE]⟩,⟨by simp,trivial,fun i _=>by simp[kEq],by simp[BE]⟩,⟨by simp,by simp[GD],fun i hi=>?_,by simp[BE]⟩,trivial⟩
  have:(Tp is).getD i []=(is.getD i default).row:=by
   rw[GD];simp[List.getD_eq_getElem?_getD,hi]
  rw[this]
  exact Bi _
theorem BjF{k:Int}{s:List Int}{nn ni:Nat}(h:Cq k s nn ni=0):s.length<=8:=by
 unfold Cq at h
 by_cases hk:k=1\/k=2\/k=3
 ·rw[if_pos hk] at h
  by_cases hd:El s≠0
  ·rw[if_pos hd] at h;exact (hd h).elim
  ·have hd:El s=0:=by simpa using hd
   unfold El at hd
   by_cases h8:8<s.length
   ·rw[if_pos h8] at hd;omega
   ·omega
 ·rw[if_neg hk] at h;omega
def _root_.Go.Ab.refKey:D->Nat
 |.ref k _ _=>k
 |_=>0
def _root_.Go.Ab.vkey(os:List (Nat×Nat×AObj))(k:Nat):Nat:=match cellsO os k with
 | [_,_,_,.vs kv _ _ _ _]=>kv
 |_=>0
def zrow:List D:=[.int .i64 0,.sl 1 0 (fun _=>[]) .nil,.sl 1 0 (fun _=>[]) .nil,.sl 1 0 (fun _=>[]) .nil]
def clR(its:List Arr)(i j:Nat):List D:=match Nat.blt j i with
 |true=>(its.getD j default).row1
 |false=>zrow
def sCl(row row':Arr->List D)(q:Arr->Prop):FnSpec where
 β:=Arr
 α:=Unit
 args:=fun a=>[.agg (row a)]
 st:=fun _=>⟨[],[]⟩
 pre:=q
 post:=fun _ _=>True
 res:=fun a _=>.ret (.agg (row' a))
 out:=fun _ _=>⟨[],[]⟩
def Mr(its:List Arr):Con:=fun k _ _=>match k with
 |204=>some (sCl Arr.row1 Arr.row1 (fun b=>b∈its))
 |_=>none
theorem RH{its:List Arr}{i j:Nat}(h:j<i):clR its i j=(its.getD j default).row1:=by
 unfold clR
 have:Nat.blt j i=true:=by simpa using h
 rw[this]
theorem BlE{its:List Arr}{i j:Nat}(h:¬j<i):clR its i j=zrow:=by
 unfold clR
 cases hb:Nat.blt j i with
 |false=>rfl
 |true=>exact (h (by simpa using hb)).elim
noncomputable def Ecl(a:Arr):Senv:={ EC (Mr a.it) 47 6 [32,33,34,35] (fun id=>match id with | 1=>([0,1,2,3,4,6,7,8,10,11,12,5,9,13,14,15,16],[5,9,13,15,16]) | 7=>([0,1,2,3,4,5,6],[4,6]) | _=>([],[])) with
 gz:=fun r=>match r with
  |9=>[.cell 17 1,.cell 17 2,.cell 17 3]
  |_=>[]
 cut:=fun id _ S=>match id with
  |1=>some { slots:=[3],keep:=[],α:=(Nat×Nat)×Nat×Nat,st:=fun y=>([.ref 17 y.2.2 0],⟨[(17,y.2.2,.cells [.int .i64 a.k,.vs 7 y.1.1 a.sh.length a.sh.length 1,.vs 11 y.1.2 a.nu.length a.nu.length 1,.vs 15 y.2.1 a.it.length a.it.length 4]),(15,y.2.1,.vec 4 a.it.length a.it.length (clR a.it 0)),(11,y.1.2,.vec 1 a.nu.length a.nu.length (fun _=>[.int .i64 0])),(7,y.1.1,.vec 1 a.sh.length a.sh.length (fun _=>[.int .i64 0]))]++S.objs,[]⟩),inv:=fun _=>True,mu:=fun _=>0 }
  |_=>none
 ann:=fun b env S=>match b with
  |0=>some { slots:=[34],keep:=[1,2,3,32,33],α:=Nat,st:=fun i=>([.int .i64 i],⟨Gu S.objs (vkey S.objs (refKey (Ab.look env 3))) (.vec 4 a.it.length a.it.length (clR a.it i)),S.toks⟩),inv:=fun i=>i<=a.it.length,mu:=fun i=>a.it.length-i }
  |_=>none }
def KW(a:Arr):Nat:=LN (Arr.sh a)
def Qd(a:Arr):Int:=(NI (KW a))
def Qq(a:Arr):Int:=(8:Int)*Qd a
def JD(a:Arr):List Arr:=Arr.it a
def Qu(a:Arr):Nat:=LN (JD a)
def Zm:Arr:=DA
def Xc(a:Arr)(b:Nat):Arr:=List.getD (JD a) b Zm
def QvE(a:Arr)(b:Nat):List Int:=Arr.sh (Xc a b)
def QvF(a:Arr)(b:Nat):List Int:=Arr.nu (Xc a b)
def QlP(a:Arr)(b:Nat):List Arr:=Arr.it (Xc a b)
def QcG(a:Arr)(b:Nat):List D:=[ZI (Arr.k (Xc a b)),SI (QvE a b),SI (QvF a b),D.sl N4 (LN (QlP a b)) (fun i=>Arr.row (List.getD (QlP a b) i Zm)) Mode.any]
def QvG(a:Arr):D:=D.sl N4 (Qu a) (fun i=>QcG a i) Mode.any
def QlQ(a:Arr):Prop:=SM (QvG a)
def Qv(a:Nat)(b:Arr):Prop:=SM a/\QlQ b
def KX(a:Arr):Nat:=LN (Arr.nu a)
def Zn(a:Arr)(b:Nat):List D:=[ZI (GI (Arr.nu a) b)]
def QlR(a:Arr):D:=D.sl N1 (KX a) (fun i=>Zn a i) Mode.any
def Qw(a:Nat)(b:Arr):Prop:=SM a/\SM (QlR b)
def QcH(a:Arr):Int:=Arr.k a
def QlS(a:Arr):D:=ZI (QcH a)
def Qg(a:Nat)(b:Arr):Prop:=SM a/\SM (QlS b)
def Qe(a:Arr):Int:=(NI (KX a))
def Qr(a:Arr):Int:=(8:Int)*Qe a
def QB(a b c d:Nat):Prop:=a≠b/\c≠b/\d≠b/\True
def Qb(a:Arr):Int:=(NI (Qu a))
def Qs(a:Arr):Int:=(80:Int)*Qb a
def Qh(a b c d e:Nat):Prop:=a≠b/\QB c b d e
def Qi(a b c d e f:Nat):Prop:=a≠b/\Qh c b d e f
def Zo(a:Arr):Prop:=SM (QcH a)
def Zp(a:Arr):Prop:=Int.toNat (Qd a)=KW a
def Zq(a:Arr):Prop:=Int.toNat (Qe a)=KX a
def Zr(a:Arr):Prop:=Int.toNat (Qb a)=Qu a
def QcI:D:=D.sl N1 N0 (fun _x=>[]) Mode.nil
def QlT(a:Arr)(b:Nat):List D:=clR (JD a) N0 b
def QlU:Prop:=SM [ZI Z0]
def QcJ:Prop:=SM N0/\(∀(i:Nat),i<N0->CN (List D) [] [])/\True
def Jc(a:Arr):Prop:=SM (KW a)
def Zs(a:Arr)(b:Nat):List D:=[ZI (GI (Arr.sh a) b)]
def QlV(a:Arr):Prop:=∀(i:Nat),i<KW a->SM (Zs a i)
def QlW(a:Arr):Prop:=Jc a/\QlV a/\True
def Jd(a:Arr):Prop:=SM (KX a)
def QlX(a:Arr):Prop:=∀(i:Nat),i<KX a->SM (Zn a i)
def QlY(a:Arr):Prop:=Jd a/\QlX a/\True
def KY(a:Arr):Prop:=SM (Qu a)
def Xd(a:Nat)(b:Arr):Prop:=a<Qu b
def QlZ(a b:Nat)(c:Arr):Prop:=SM a/\(SM Z0/\QcJ/\QcJ/\QcJ/\True)/\SM b/\(Zo c/\QlW c/\QlY c/\(KY c/\(∀(i:Nat),Xd i c->SM (QcG c i))/\True)/\True)/\True
def Qk(a:Nat)(b:Arr)(c d e f g:Nat):Prop:=Qg a b/\SM c/\∃(x:(Nat×Nat)×Nat×Nat),True/\(c=x.2.2/\True)/\(c=x.2.2/\(Zo b/\(d=x.1.1/\Zp b/\Zp b)/\(e=x.1.2/\Zq b/\Zq b)/\(f=x.2.1/\Zr b/\Zr b)/\True)/\f=x.2.1/\(Zr b/\Zr b/\∀(i:Nat),i<Int.toNat (Qb b)->[ZI Z0,QcI,QcI,QcI]=QlT b i)/\e=x.1.2/\(Zq b/\Zq b/\∀(i:Nat),i<Int.toNat (Qe b)->QlU)/\d=x.1.1/\(Zp b/\Zp b/\∀(i:Nat),i<Int.toNat (Qd b)->QlU)/\QlZ g a b)/\True
def Ql0(a:Arr):D:=D.sl N1 (KW a) (fun i=>Zs a i) Mode.any
def Qx(a:Nat)(b:Arr):Prop:=SM a/\SM (Ql0 b)
def QcK(a:Nat)(b:Arr):Prop:=a<=Qu b
def Ql1(a:Arr)(b c d:Nat):Prop:=Zo a/\(SM b/\Jc a/\Jc a)/\(SM c/\Jd a/\Jd a)/\(SM d/\KY a/\KY a)/\True
def Zt(a:Arr)(b c:Nat):List D:=clR (JD a) b c
def Ql2(a:Nat)(b:Arr)(c d e:Nat):Prop:=SM a/\(Jd b/\Jd b/\QlX b)/\SM c/\(Jc b/\Jc b/\QlV b)/\QlZ d e b
def Zu(a:Arr)(b:Nat):Arr:=List.getD (JD a) (Int.toNat (↑b:Int)) Zm
def Ql3(a:Arr)(b:Nat):List Int:=Arr.sh (Zu a b)
def Ql4(a:Arr)(b:Nat):Nat:=LN (Ql3 a b)
def Ql5(a:Arr)(b:Nat):List Int:=Arr.nu (Zu a b)
def Ql6(a:Arr)(b:Nat):Nat:=LN (Ql5 a b)
def Ql7(a:Arr)(b:Nat):List Arr:=Arr.it (Zu a b)
def Ql8(a:Arr)(b:Nat):Nat:=LN (Ql7 a b)
def Ql9(a:Arr)(b:Nat):List D:=Arr.row (Xc a b)
def QvH(a:Nat)(b:Arr):D:=D.vs (15:Nat) a (Qu b) (Qu b) N4
def QcL(a:D):Bool:=match a with | D.unk=>false | D.agg _cs=>false | D.tup _ds=>false | _x=>true
theorem Bnm(a : Arr)(ha : a.nu.length<=1000000 /\ a.it.length<=1000000 /\ a.sh.length<=1000000)(hc : ConOk Tryz.prog (Mr a.it)) :
  ACalls Tryz.prog 204 ((sCl Arr.row2 Arr.row2 (fun _=>True)).args a) ⟨[],[]⟩ (SpecR (sCl Arr.row2 Arr.row2 (fun _=>True)) a):=by
 refine Bf (A:=sCl Arr.row2 Arr.row2 (fun _=>True)) (x:=a) (E:=Ecl a) (eOk hc rfl) Tryz.func204 rfl (by kernel_rfl) rfl (by simp[sCl,Ecl,EC,E0]) ?_
 refine Bk (T :=
  ∀(x:Nat),True->∀(x_1:Nat),x≠x_1/\True->(SM x/\SM x/\SM x/\SM x/\Be (Z0<=Qd a/\Qd a<=Qd a/\Qq a<=281474976710656/\Qd a<=9223372036854775807) (∀(x_2:Nat),x_1≠x_2/\x≠x_2/\True->Qv x a/\Qw x a/\Qg x a/\Be (Z0<=Qe a/\Qe a<=Qe a/\Qr a<=281474976710656/\Qe a<=9223372036854775807) (∀(x_3:Nat),QB x_2 x_3 x_1 x->Qv x a/\Qg x a/\Be (Z0<=Qb a/\Qb a<=Qb a/\Qs a<=281474976710656/\Qb a<=9223372036854775807) (∀(x_4:Nat),Qh x_3 x_4 x_2 x_1 x->Qg x a/\∀(x_5:Nat),Qi x_4 x_5 x_3 x_2 x_1 x->Qk x a x_5 x_2 x_3 x_4 x_1)/\∀(x_4:Nat),Qh x_3 x_4 x_2 x_1 x->Qv x a/\Qg x a/\Be (Z0<=Qb a/\Qb a<=Qb a/\Qs a<=281474976710656/\Qb a<=9223372036854775807) (∀(x_5:Nat),Qi x_4 x_5 x_3 x_2 x_1 x->Qk x a x_4 x_2 x_3 x_5 x_1))/\Be (Z0<=Qb a/\Qb a<=Qb a/\Qs a<=281474976710656/\Qb a<=9223372036854775807) (∀(x_3:Nat),QB x_2 x_3 x_1 x->Qw x a/\Qg x a/\Be (Z0<=Qe a/\Qe a<=Qe a/\Qr a<=281474976710656/\Qe a<=9223372036854775807) (∀(x_4:Nat),Qh x_3 x_4 x_2 x_1 x->Qg x a/\∀(x_5:Nat),Qi x_4 x_5 x_3 x_2 x_1 x->Qk x a x_5 x_2 x_4 x_3 x_1)/\∀(x_4:Nat),Qh x_3 x_4 x_2 x_1 x->Qw x a/\Qg x a/\Be (Z0<=Qe a/\Qe a<=Qe a/\Qr a<=281474976710656/\Qe a<=9223372036854775807) (∀(x_5:Nat),Qi x_4 x_5 x_3 x_2 x_1 x->Qk x a x_4 x_2 x_5 x_3 x_1))/\∀(x_3:Nat),QB x_2 x_3 x_1 x->Qv x a/\Qw x a/\Qg x a/\Be (Z0<=Qe a/\Qe a<=Qe a/\Qr a<=281474976710656/\Qe a<=9223372036854775807) (∀(x_4:Nat),Qh x_3 x_4 x_2 x_1 x->Qv x a/\Qg x a/\Be (Z0<=Qb a/\Qb a<=Qb a/\Qs a<=281474976710656/\Qb a<=9223372036854775807) (∀(x_5:Nat),Qi x_4 x_5 x_3 x_2 x_1 x->Qk x a x_3 x_2 x_4 x_5 x_1))/\Be (Z0<=Qb a/\Qb a<=Qb a/\Qs a<=281474976710656/\Qb a<=9223372036854775807) (∀(x_4:Nat),Qh x_3 x_4 x_2 x_1 x->Qw x a/\Qg x a/\Be (Z0<=Qe a/\Qe a<=Qe a/\Qr a<=281474976710656/\Qe a<=9223372036854775807) (∀(x_5:Nat),Qi x_4 x_5 x_3 x_2 x_1 x->Qk x a x_3 x_2 x_5 x_4 x_1)))/\Be (Z0<=Qe a/\Qe a<=Qe a/\Qr a<=281474976710656/\Qe a<=9223372036854775807) (∀(x_2:Nat),x_1≠x_2/\x≠x_2/\True->Qv x a/\Qx x a/\Qg x a/\Be (Z0<=Qd a/\Qd a<=Qd a/\Qq a<=281474976710656/\Qd a<=9223372036854775807) (∀(x_3:Nat),QB x_2 x_3 x_1 x->Qv x a/\Qg x a/\Be (Z0<=Qb a/\Qb a<=Qb a/\Qs a<=281474976710656/\Qb a<=9223372036854775807) (∀(x_4:Nat),Qh x_3 x_4 x_2 x_1 x->Qg x a/\∀(x_5:Nat),Qi x_4 x_5 x_3 x_2 x_1 x->Qk x a x_5 x_3 x_2 x_4 x_1)/\∀(x_4:Nat),Qh x_3 x_4 x_2 x_1 x->Qv x a/\Qg x a/\Be (Z0<=Qb a/\Qb a<=Qb a/\Qs a<=281474976710656/\Qb a<=9223372036854775807) (∀(x_5:Nat),Qi x_4 x_5 x_3 x_2 x_1 x->Qk x a x_4 x_3 x_2 x_5 x_1))/\Be (Z0<=Qb a/\Qb a<=Qb a/\Qs a<=281474976710656/\Qb a<=9223372036854775807) (∀(x_3:Nat),QB x_2 x_3 x_1 x->Qx x a/\Qg x a/\Be (Z0<=Qd a/\Qd a<=Qd a/\Qq a<=281474976710656/\Qd a<=9223372036854775807) (∀(x_4:Nat),Qh x_3 x_4 x_2 x_1 x->Qg x a/\∀(x_5:Nat),Qi x_4 x_5 x_3 x_2 x_1 x->Qk x a x_5 x_4 x_2 x_3 x_1)/\∀(x_4:Nat),Qh x_3 x_4 x_2 x_1 x->Qx x a/\Qg x a/\Be (Z0<=Qd a/\Qd a<=Qd a/\Qq a<=281474976710656/\Qd a<=9223372036854775807) (∀(x_5:Nat),Qi x_4 x_5 x_3 x_2 x_1 x->Qk x a x_4 x_5 x_2 x_3 x_1))/\∀(x_3:Nat),QB x_2 x_3 x_1 x->Qv x a/\Qx x a/\Qg x a/\Be (Z0<=Qd a/\Qd a<=Qd a/\Qq a<=281474976710656/\Qd a<=9223372036854775807) (∀(x_4:Nat),Qh x_3 x_4 x_2 x_1 x->Qv x a/\Qg x a/\Be (Z0<=Qb a/\Qb a<=Qb a/\Qs a<=281474976710656/\Qb a<=9223372036854775807) (∀(x_5:Nat),Qi x_4 x_5 x_3 x_2 x_1 x->Qk x a x_3 x_4 x_2 x_5 x_1))/\Be (Z0<=Qb a/\Qb a<=Qb a/\Qs a<=281474976710656/\Qb a<=9223372036854775807) (∀(x_4:Nat),Qh x_3 x_4 x_2 x_1 x->Qx x a/\Qg x a/\Be (Z0<=Qd a/\Qd a<=Qd a/\Qq a<=281474976710656/\Qd a<=9223372036854775807) (∀(x_5:Nat),Qi x_4 x_5 x_3 x_2 x_1 x->Qk x a x_3 x_5 x_2 x_4 x_1)))/\Be (Z0<=Qb a/\Qb a<=Qb a/\Qs a<=281474976710656/\Qb a<=9223372036854775807) (∀(x_2:Nat),x_1≠x_2/\x≠x_2/\True->Qw x a/\Qx x a/\Qg x a/\Be (Z0<=Qd a/\Qd a<=Qd a/\Qq a<=281474976710656/\Qd a<=9223372036854775807) (∀(x_3:Nat),QB x_2 x_3 x_1 x->Qw x a/\Qg x a/\Be (Z0<=Qe a/\Qe a<=Qe a/\Qr a<=281474976710656/\Qe a<=9223372036854775807) (∀(x_4:Nat),Qh x_3 x_4 x_2 x_1 x->Qg x a/\∀(x_5:Nat),Qi x_4 x_5 x_3 x_2 x_1 x->Qk x a x_5 x_3 x_4 x_2 x_1)/\∀(x_4:Nat),Qh x_3 x_4 x_2 x_1 x->Qw x a/\Qg x a/\Be (Z0<=Qe a/\Qe a<=Qe a/\Qr a<=281474976710656/\Qe a<=9223372036854775807) (∀(x_5:Nat),Qi x_4 x_5 x_3 x_2 x_1 x->Qk x a x_4 x_3 x_5 x_2 x_1))/\Be (Z0<=Qe a/\Qe a<=Qe a/\Qr a<=281474976710656/\Qe a<=9223372036854775807) (∀(x_3:Nat),QB x_2 x_3 x_1 x->Qx x a/\Qg x a/\Be (Z0<=Qd a/\Qd a<=Qd a/\Qq a<=281474976710656/\Qd a<=9223372036854775807) (∀(x_4:Nat),Qh x_3 x_4 x_2 x_1 x->Qg x a/\∀(x_5:Nat),Qi x_4 x_5 x_3 x_2 x_1 x->Qk x a x_5 x_4 x_3 x_2 x_1)/\∀(x_4:Nat),Qh x_3 x_4 x_2 x_1 x->Qx x a/\Qg x a/\Be (Z0<=Qd a/\Qd a<=Qd a/\Qq a<=281474976710656/\Qd a<=9223372036854775807) (∀(x_5:Nat),Qi x_4 x_5 x_3 x_2 x_1 x->Qk x a x_4 x_5 x_3 x_2 x_1))/\∀(x_3:Nat),QB x_2 x_3 x_1 x->Qw x a/\Qx x a/\Qg x a/\Be (Z0<=Qd a/\Qd a<=Qd a/\Qq a<=281474976710656/\Qd a<=9223372036854775807) (∀(x_4:Nat),Qh x_3 x_4 x_2 x_1 x->Qw x a/\Qg x a/\Be (Z0<=Qe a/\Qe a<=Qe a/\Qr a<=281474976710656/\Qe a<=9223372036854775807) (∀(x_5:Nat),Qi x_4 x_5 x_3 x_2 x_1 x->Qk x a x_3 x_4 x_5 x_2 x_1))/\Be (Z0<=Qe a/\Qe a<=Qe a/\Qr a<=281474976710656/\Qe a<=9223372036854775807) (∀(x_4:Nat),Qh x_3 x_4 x_2 x_1 x->Qx x a/\Qg x a/\Be (Z0<=Qd a/\Qd a<=Qd a/\Qq a<=281474976710656/\Qd a<=9223372036854775807) (∀(x_5:Nat),Qi x_4 x_5 x_3 x_2 x_1 x->Qk x a x_3 x_5 x_4 x_2 x_1)))/\∀(x_2:Nat),x_1≠x_2/\x≠x_2/\True->Qv x a/\Qw x a/\Qx x a/\Qg x a/\Be (Z0<=Qd a/\Qd a<=Qd a/\Qq a<=281474976710656/\Qd a<=9223372036854775807) (∀(x_3:Nat),QB x_2 x_3 x_1 x->Qv x a/\Qw x a/\Qg x a/\Be (Z0<=Qe a/\Qe a<=Qe a/\Qr a<=281474976710656/\Qe a<=9223372036854775807) (∀(x_4:Nat),Qh x_3 x_4 x_2 x_1 x->Qv x a/\Qg x a/\Be (Z0<=Qb a/\Qb a<=Qb a/\Qs a<=281474976710656/\Qb a<=9223372036854775807) (∀(x_5:Nat),Qi x_4 x_5 x_3 x_2 x_1 x->Qk x a x_2 x_3 x_4 x_5 x_1))/\Be (Z0<=Qb a/\Qb a<=Qb a/\Qs a<=281474976710656/\Qb a<=9223372036854775807) (∀(x_4:Nat),Qh x_3 x_4 x_2 x_1 x->Qw x a/\Qg x a/\Be (Z0<=Qe a/\Qe a<=Qe a/\Qr a<=281474976710656/\Qe a<=9223372036854775807) (∀(x_5:Nat),Qi x_4 x_5 x_3 x_2 x_1 x->Qk x a x_2 x_3 x_5 x_4 x_1)))/\Be (Z0<=Qe a/\Qe a<=Qe a/\Qr a<=281474976710656/\Qe a<=9223372036854775807) (∀(x_3:Nat),QB x_2 x_3 x_1 x->Qv x a/\Qx x a/\Qg x a/\Be (Z0<=Qd a/\Qd a<=Qd a/\Qq a<=281474976710656/\Qd a<=9223372036854775807) (∀(x_4:Nat),Qh x_3 x_4 x_2 x_1 x->Qv x a/\Qg x a/\Be (Z0<=Qb a/\Qb a<=Qb a/\Qs a<=281474976710656/\Qb a<=9223372036854775807) (∀(x_5:Nat),Qi x_4 x_5 x_3 x_2 x_1 x->Qk x a x_2 x_4 x_3 x_5 x_1))/\Be (Z0<=Qb a/\Qb a<=Qb a/\Qs a<=281474976710656/\Qb a<=9223372036854775807) (∀(x_4:Nat),Qh x_3 x_4 x_2 x_1 x->Qx x a/\Qg x a/\Be (Z0<=Qd a/\Qd a<=Qd a/\Qq a<=281474976710656/\Qd a<=9223372036854775807) (∀(x_5:Nat),Qi x_4 x_5 x_3 x_2 x_1 x->Qk x a x_2 x_5 x_3 x_4 x_1)))/\Be (Z0<=Qb a/\Qb a<=Qb a/\Qs a<=281474976710656/\Qb a<=9223372036854775807) (∀(x_3:Nat),QB x_2 x_3 x_1 x->Qw x a/\Qx x a/\Qg x a/\Be (Z0<=Qd a/\Qd a<=Qd a/\Qq a<=281474976710656/\Qd a<=9223372036854775807) (∀(x_4:Nat),Qh x_3 x_4 x_2 x_1 x->Qw x a/\Qg x a/\Be (Z0<=Qe a/\Qe a<=Qe a/\Qr a<=281474976710656/\Qe a<=9223372036854775807) (∀(x_5:Nat),Qi x_4 x_5 x_3 x_2 x_1 x->Qk x a x_2 x_4 x_5 x_3 x_1))/\Be (Z0<=Qe a/\Qe a<=Qe a/\Qr a<=281474976710656/\Qe a<=9223372036854775807) (∀(x_4:Nat),Qh x_3 x_4 x_2 x_1 x->Qx x a/\Qg x a/\Be (Z0<=Qd a/\Qd a<=Qd a/\Qq a<=281474976710656/\Qd a<=9223372036854775807) (∀(x_5:Nat),Qi x_4 x_5 x_3 x_2 x_1 x->Qk x a x_2 x_5 x_4 x_3 x_1))))/\∀(x_2:(Nat×Nat)×Nat×Nat),True->SM x_2.2.2/\SM x/\SM x_2.1.1/\Jc a/\Jc a/\SM x_2.2.2/\SM x/\SM x_2.1.2/\Jd a/\Jd a/\SM x/\(∃(x_3:Nat),QcK x_3 a/\(Z0=(↑x_3:Int)/\True)/\(SM x_2.2.2/\Ql1 a x_2.1.1 x_2.1.2 x_2.2.1/\SM x_2.2.1/\(KY a/\KY a/\∀(i:Nat),Xd i a->QlT a i=Zt a x_3 i)/\Ql2 x_2.1.2 a x_2.1.1 x_1 x)/\True)/\∀(x_3:Nat),QcK x_3 a->ifB (decide ((↑x_3:Int)<Qb a)) (Be (Z0<=(↑x_3:Int)/\(↑x_3:Int)<Qb a) (∀(x_4:Nat),x_2.2.2≠x_4/\Qi x_2.2.1 x_4 x_2.1.2 x_2.1.1 x_1 x->SM x_4/\SM x_2.2.2/\SM x_4/\∃(x_5:Arr),((Arr.k (Zu a x_3)=QcH x_5/\(Ql4 a x_3=KW x_5/\(∀(i:Nat),i<Ql4 a x_3->[ZI (GI (Ql3 a x_3) i)]=Zs x_5 i)/\True)/\(Ql6 a x_3=KX x_5/\(∀(i:Nat),i<Ql6 a x_3->[ZI (GI (Ql5 a x_3) i)]=Zn x_5 i)/\True)/\(Ql8 a x_3=Qu x_5/\(∀(i:Nat),i<Ql8 a x_3->Arr.row (List.getD (Ql7 a x_3) i Zm)=Ql9 x_5 i)/\True)/\True)/\True)/\(True/\True)/\x_5∈JD a/\∀(y:Unit),True->(SM x_2.2.2/\SM (QvH x_2.2.1 a))/\Be (Z0<=(↑x_3:Int)/\(↑x_3:Int)<Qb a) (SM x_2.2.1/\Be (Int.toNat (↑x_3:Int)<Qu a) ((SM (D.ref N0 x N0)/\SM (D.ref (max (N0+N1) N0) x_1 N0)/\SM (D.ref (17:Nat) x_2.2.2 N0)/\QlQ a/\SM (ZI (Qb a))/\True)/\∃(y:Nat),QcK y a/\Qu a-y<Qu a-x_3/\(IntKind.wrap IntKind.i64 ((↑x_3:Int)+Z1)=(↑y:Int)/\True)/\(SM x_2.2.2/\Ql1 a x_2.1.1 x_2.1.2 x_2.2.1/\SM x_2.2.1/\(KY a/\KY a/\∀(i:Nat),Xd i a->OO (clR (JD a) x_3) (Int.toNat (↑x_3:Int)) [QlS x_5,Ql0 x_5,QlR x_5,D.sl N4 (Qu x_5) (fun i=>Ql9 x_5 i) Mode.any] i=Zt a y i)/\Ql2 x_2.1.2 a x_2.1.1 x_1 x)/\True)))) (SM x_2.1.1/\Jc a/\Be (KW a<=KW a) ((∀(i:Nat),i<KW a->(List.all (Zs a i) fun (x:D)=>QcL x)=true)/\∀(t:Nat),SM x_2.1.2/\Jd a/\Be (KX a<=KX a) ((∀(i:Nat),i<KX a->(List.all (Zn a i) fun (x:D)=>QcL x)=true)/\∀(t:Nat),SM x_2.2.1/\KY a/\Be (Qu a<=Qu a) ((∀(i:Nat),Xd i a->(List.all (Zt a x_3 i) fun (x:D)=>QcL x)=true)/\∀(t:Nat),SM x_2.2.2/\SM x_1/\(SM x_1/\True)/\∃(y:Unit),True/\(Zo a/\QlW a/\QlY a/\(KY a/\(∀(i:Nat),Xd i a->Zt a x_3 i=QcG a i)/\True)/\True)/\True/\True))))) (by kernel_rfl) ?_
 delta DA GI LN N0 N1 N4 NI SI SM Z0 Z1 ZI KW Qd QcG QvG QlQ Qv KX Zn QlR Qw QcH QlS Qq Qg Qe Qr QB Qb Qs Qh Qi Zo Zp JD Zq Zr QcI QlT QlU QcJ Jc Zs QlV QlW Qu Jd QlX QlY KY Xd QlZ Qk Ql0 Qx QcK Zm Ql1 Zt Ql2 Zu Ql3 Ql4 Ql5 Ql6 Ql7 Ql8 Xc Ql9 QvH QcL QvE QvF QlP
 have da:(default:Arr)=Arr.mk 0 [] [] []:=rfl
 simp only[<- da,eq_self,implies_true,Int.toNat_natCast,Bh,Bc,decide_eq_true_eq,decide_eq_false_iff_not,true_and,and_true,exists_const,forall_const]
 obtain ⟨l1,l2,l3⟩:=ha
 refine fun x x1 hx=>⟨?_,?_⟩
 ·repeat' (first | (refine⟨((_,_),_,_),rfl,rfl,⟨rfl,rfl,rfl⟩,rfl,fun _ _=>rfl,rfl,rfl⟩) | (refine And.intro ?_ ?_) | intro _ | omega)
 refine fun y=>⟨⟨0,Nat.zero_le _,rfl,fun _ _=>rfl⟩,fun i hi=>⟨fun hlt=>⟨⟨by omega,hlt⟩,fun x4 _=>⟨a.it.getD i default,⟨rfl,⟨rfl,fun _ _=>rfl⟩,⟨rfl,fun _ _=>rfl⟩,rfl,fun _ _=>rfl⟩,GR (by omega),⟨by omega,hlt⟩,by omega,i+1,by omega,by omega,Bb (by omega) (by omega),fun j hj=>?_⟩⟩,fun hge=>⟨Nat.le_refl _,fun _ _=>rfl,Nat.le_refl _,fun _ _=>rfl,Nat.le_refl _,fun j hj=>?_,fun j hj=>?_⟩⟩⟩
 ·by_cases e:j=i
  ·subst e
   rw[RH (by omega)]
   simp only[OO,if_true]
   rfl
  ·simp only[OO,e,if_false]
   by_cases e2:j<i
   ·rw[RH e2,RH (by omega)]
   ·rw[BlE e2,BlE (by omega)]
 ·rw[RH (by omega)];rfl
 ·rw[RH (by omega)];rfl
theorem Bh4(a:Arr):wkL a.row2 a.row1:=by
 simp only[Arr.row1,Arr.row2,gsl,isl,wkL,wkD,Bg,Ba]
 exact⟨⟨by simp[kEq],trivial⟩,⟨by simp,trivial,fun i _=>by simp[kEq],by simp[BE]⟩,⟨by simp,trivial,fun i _=>by simp[kEq],by simp[BE]⟩,⟨by simp,trivial,fun i _=>Bcv _,by simp[BE]⟩,trivial⟩
theorem Baw:∀(l:List Arr) (d w:Int) (r:Int×Int),G3 l d w=some r->∀x∈l,(BG x).1=0
 | [],_,_,_,_,x,hx=>by cases hx
 |y::l,d,w,r,h,x,hx=>by
  rw[G3] at h
  split at h
  ·cases h
  ·rename_i hy
   rcases List.mem_cons.1 hx with rfl | hx
   ·simpa using hy
   ·exact Baw l _ _ r h x hx
theorem Gx{k:Int}{s n:List Int}{is:List Arr}(h:(BG (.mk k s n is)).1=0):s.length<=8/\n.length<=65536/\is.length<=65536/\∀x∈is,(BG x).1=0:=by
 rw[BG] at h
 by_cases h0:Cq k s n.length is.length≠0
 ·rw[if_pos h0] at h;exact (h0 h).elim
 ·rw[if_neg h0] at h
  have h0:Cq k s n.length is.length=0:=by simpa using h0
  have hs:=OA h0
  refine⟨BjF h0,hs.1,hs.2,?_⟩
  by_cases hb:n.any (Gd k)=true
  ·rw[if_pos hb] at h;simp at h
  ·rw[if_neg hb] at h
   cases hr:G3 is 0 ((n.length:Int)+is.length) with
   |none=>rw[hr] at h;simp at h
   |some r=>exact Baw _ _ _ r hr
theorem BeG:∀(a:Arr),(BG a).1=0->ACalls Tryz.prog 204 [.agg a.row1] ⟨[],[]⟩ (SpecR (sCl Arr.row1 Arr.row1 (fun _=>True)) a)
 |.mk k s n is,h=>by
  obtain ⟨h1,h2,h3,h4⟩:=Gx h
  have hc:ConOk Tryz.prog (Mr (Arr.mk k s n is).it):=by
   intro k' ds S A hk
   unfold Mr at hk
   split at hk
   ·injection hk with hk;subst hk
    refine ConOk.plain (fun (b:Arr) hb=>?_) rfl rfl
    have hb':b∈is:=hb
    exact (BeG b (h4 b hb')).mono fun _ _ ⟨y,q1,q2,q3⟩=>⟨y,q1,q2,q3⟩
   ·cases hk
  have hm:=Bnm (.mk k s n is) ⟨by show n.length<=_;omega,by show is.length<=_;omega,by show s.length<=_;omega⟩ hc
  have hm2:ACalls Tryz.prog 204 [.agg (Arr.mk k s n is).row1] ⟨[],[]⟩ (SpecR (sCl Arr.row2 Arr.row2 (fun _=>True)) (.mk k s n is)):=by
   refine ACalls.wkArgs hm ?_
   simp only[sCl,wkL,wkD]
   exact⟨UP _,trivial⟩
  refine ACalls.wkEnd hm2 fun r S' ⟨y,q1,q2,q3⟩=>?_
  subst q2 q3
  refine⟨.ret (.agg (Arr.mk k s n is).row1),fun C e he=>?_,⟨(),trivial,rfl,rfl⟩⟩
  cases e with
  |returned v =>
   refine Mi (.agg (Arr.mk k s n is).row2) _ ?_ C v he
   simp only[wkD]
   exact Bh4 _
  |panicked _=>exact he.elim
  |outgrown=>exact he.elim
termination_by a=>SizeOf.sizeOf a
decreasing_by
 have:=List.sizeOf_lt_of_mem hb'
 simp;omega
def M7(k:Int):Arr:=if k=1 then .mk 1 [] [0] [] else if k=2 then .mk 2 [] [32] [] else if k=3 then .mk 3 [] [] [.mk 1 [0] [] []] else .mk 0 [] [] []
def Io(w:Nat):D:=.sl w 0 (fun _=>[]) .nil
def E8(k:Int):D :=
 if k=1 then .agg [.int .i64 1,Io 1,.sl 1 1 (fun i=>[[D.int .i64 0]].getD i []) .full,Io 1]
 else if k=2 then .agg [.int .i64 2,Io 1,.sl 1 1 (fun i=>[[D.int .i64 32]].getD i []) .full,Io 1]
 else if k=3 then .agg [.int .i64 3,Io 1,Io 1,.sl 4 1 (fun i=>[[D.int .i64 1,.sl 1 1 (fun i=>[[D.int .i64 0]].getD i []) .full,Io 1,Io 1]].getD i []) .full]
 else .agg [.int .i64 0,Io 1,Io 1,Io 1]
noncomputable def Efl:Senv:=EC R5 20 3 [4,5,9,13] (fun _=>([],[]))
def JE:D:=D.sl N1 N0 (fun _x=>[]) Mode.nil
def Qma:D:=D.sl N1 N1 (fun i=>List.getD [[ZI Z0]] i []) Mode.full
def QcM:List D:=[JE]
def Zv(a:Int):D:=E8 a
def Qmb:List D:=JE::QcM
theorem BnO(k : Int)(ns nn ni : Nat)(f g h : Nat -> List D) :
  ACalls Tryz.prog 179 [.agg [.int .i64 k,.sl 1 ns f .any,.sl 1 nn g .any,.sl 4 ni h .any]] ⟨[],[]⟩ (SpecR (sC [.agg [.int .i64 k,.sl 1 ns f .any,.sl 1 nn g .any,.sl 4 ni h .any]] (E8 k)) ()):=by
 refine Bf (A:=sC _ _) (x:=()) (E:=Efl) (eOk Tj rfl) Tryz.func179 rfl (by kernel_rfl) rfl (by simp[sC,Efl,EC,E0]) ?_
 refine Bk (T :=
  ∀(x:Nat),True->∀(x_1:Nat),x≠x_1/\True->SM x/\ifB (k==Z1) (SM x_1/\(SM x_1/\True)/\∃(y:Unit),True/\Bg (D.agg (ZI Z1::JE::Qma::QcM)) (Zv k)/\True/\True) (ifB (k==2) (SM x_1/\(SM x_1/\True)/\∃(y:Unit),True/\Bg (D.agg (ZI 2::JE::D.sl N1 N1 (fun i=>List.getD [[ZI 32]] i []) Mode.full::QcM)) (Zv k)/\True/\True) (ifB (k==3) (SM x_1/\(SM x_1/\True)/\∃(y:Unit),True/\Bg (D.agg [ZI 3,JE,JE,D.sl N4 N1 (fun i=>List.getD [ZI Z1::Qma::Qmb] i []) Mode.full]) (Zv k)/\True/\True) (SM x_1/\(SM x_1/\True)/\∃(y:Unit),True/\Bg (D.agg (ZI Z0::JE::Qmb)) (Zv k)/\True/\True)))) (by kernel_rfl) ?_
 delta N0 N1 N4 SM Z0 Z1 ZI JE Qma QcM Zv Qmb
 simp only[Bh,true_and,and_true,beq_iff_eq,beq_eq_false_iff_ne,ne_eq,exists_const,forall_const]
 intro _ _ _
 refine⟨fun h=>?_,fun h1=>⟨fun h=>?_,fun h2=>⟨fun h=>?_,fun h3=>?_⟩⟩⟩
 ·subst h;exact Bd _
 ·subst h;exact Bd _
 ·subst h;exact Bd _
 ·simp only[E8,if_neg h1,if_neg h2,if_neg h3];exact Bd _
theorem Ba1{α:Type}[Inhabited α](w:Nat)(g:α->List D):wkD (Io 1) (gsl w g []):=by
 simp[Io,gsl,wkD,chk,BE,Uj]
theorem EY:wkD (Io 1) (isl [] .any):=by
 simp[Io,isl,wkD,chk,BE]
theorem BnL:wkD (Io 1) (.sl 4 ([]:List (List D)).length (fun i=>([]:List (List D)).getD i []) .any):=by
 simp[Io,wkD,chk,BE,Uj]
theorem Bbe(z:Int):wkD (.sl 1 1 (fun i=>[[D.int .i64 z]].getD i []) .full) (isl [z] .any):=by
 simp only[isl,wkD,Ba]
 refine⟨by simp,by simp,fun i hi=>?_,by simp[BE]⟩
 have:i=0:=by omega
 subst this
 exact Bi _
theorem BnT(k:Int):wkD (E8 k) (.agg (M7 k).row1):=by
 unfold E8 M7
 split
 ·simp only[wkD,wkL,Arr.row1,Arr.k,Arr.sh,Arr.nu,Arr.it]
  exact⟨Bd _,EY,Bbe _,Ba1 _ _,trivial⟩
 split
 ·simp only[wkD,wkL,Arr.row1,Arr.k,Arr.sh,Arr.nu,Arr.it]
  exact⟨Bd _,EY,Bbe _,Ba1 _ _,trivial⟩
 split
 ·simp only[wkD,wkL,Arr.row1,Arr.k,Arr.sh,Arr.nu,Arr.it]
  refine⟨Bd _,EY,EY,?_,trivial⟩
  simp only[gsl,wkD,Ba]
  refine⟨by simp,by simp,fun i hi=>?_,by simp[BE]⟩
  have:i=0:=by omega
  subst this
  simp only[List.getD_cons_zero,Arr.row,wkL,wkD,Tp]
  exact⟨Bd _,Bbe _,EY,BnL,trivial⟩
 ·simp only[wkD,wkL,Arr.row1,Arr.k,Arr.sh,Arr.nu,Arr.it]
  exact⟨Bd _,EY,EY,Ba1 _ _,trivial⟩
theorem Bn0{k:Nat}{ds:List D}{d d':D}(h:ACalls Tryz.prog k ds ⟨[],[]⟩ (SpecR (sC ds d) ()))(hw:wkD d d'):ACalls Tryz.prog k ds ⟨[],[]⟩ (SpecR (sC ds d') ()):=by
 refine ACalls.wkEnd h fun r S' ⟨y,q1,q2,q3⟩=>?_
 subst q2 q3
 refine⟨.ret d',fun C e he=>?_,⟨(),trivial,rfl,rfl⟩⟩
 cases e with
 |returned v=>exact Mi d d' hw C v he
 |panicked _=>exact he.elim
 |outgrown=>exact he.elim
def atA(a:Arr)(i:Nat):Arr:=if a.k=3 then .mk 3 [] [] [a.it.getD i default] else .mk a.k [] [a.nu.getD i 0] []
def atD(a:Arr)(i:Nat):D :=
 if a.k=3 then .agg [.int .i64 a.k,Io 1,Io 1,.sl 4 1 (fun j=>[(a.it.getD i default).row1].getD j []) .full]
 else .agg [.int .i64 a.k,Io 1,.sl 1 1 (fun j=>[[D.int .i64 (a.nu.getD i 0)]].getD j []) .full,Io 1]
noncomputable def Eat(a:Arr):Senv:=EC (Mr a.it) 36 3 [4,12,16] (fun id=>match id with | 4=>([0,1,2,3,4,5,6,7,8,9,10],[7,8,10]) | 5=>([0,1,2,3,4,5,6,7,8,9],[7,9]) | _=>([],[]))
def JF(a:Arr):Int:=Arr.k a
def QcN(a:Arr):List Int:=Arr.nu a
def Zw(a:Arr):Nat:=LN (QcN a)
def Vg:D:=D.sl N1 N0 (fun _x=>[]) Mode.nil
def Qmc:List D:=[Vg]
def QcO(a:Nat)(b:Arr)(c:Nat):Prop:=SM a/\(SM a/\True)/\∃(_y:Unit),True/\Bg (D.agg (ZI Z0::Vg::Vg::Qmc)) (atD b c)/\True/\True
def Zx(a:Arr):List Arr:=Arr.it a
def Zy(a:Arr):Nat:=LN (Zx a)
def QcP:Arr:=DA
def Zz(a:Arr)(b:Nat):Arr:=List.getD (Zx a) (Int.toNat (↑b:Int)) QcP
def Qmd(a:Arr)(b:Nat):List Int:=Arr.sh (Zz a b)
def Qme(a:Arr)(b:Nat):Nat:=LN (Qmd a b)
def Qmf(a:Arr)(b:Nat):List D:=[ZI (GI (Arr.sh a) b)]
def Qmg(a:Arr)(b:Nat):List Int:=Arr.nu (Zz a b)
def Qmh(a:Arr)(b:Nat):Nat:=LN (Qmg a b)
def Qmi(a:Arr)(b:Nat):List D:=[ZI (GI (QcN a) b)]
def Qmj(a:Arr)(b:Nat):List Arr:=Arr.it (Zz a b)
def Qmk(a:Arr)(b:Nat):Nat:=LN (Qmj a b)
def Qml(a:Arr)(b:Nat):List D:=Arr.row (List.getD (Zx a) b QcP)
def ZA(a:Arr):D:=ZI (JF a)
def QcQ(a:Nat)(b:Arr):Prop:=SM a/\SM (ZA b)
def Qmm(a:Nat)(b:Arr)(c d:Nat):Prop:=SM a/\ifB (JF b==3) (SM a/\SM a/\Be (Z0<=(↑c:Int)/\(↑c:Int)<(NI (Zy b))) (∃(x:Arr),((Arr.k (Zz b c)=JF x/\(Qme b c=LN (Arr.sh x)/\(∀(i:Nat),i<Qme b c->[ZI (GI (Qmd b c) i)]=Qmf x i)/\True)/\(Qmh b c=Zw x/\(∀(i:Nat),i<Qmh b c->[ZI (GI (Qmg b c) i)]=Qmi x i)/\True)/\(Qmk b c=Zy x/\(∀(i:Nat),i<Qmk b c->Arr.row (List.getD (Qmj b c) i QcP)=Qml x i)/\True)/\True)/\True)/\(True/\True)/\x∈Zx b/\∀(_y:Unit),True->QcQ a b/\QcQ a b/\SM d/\(SM d/\True)/\∃(_y:Unit),True/\Bg (D.agg [ZA b,Vg,Vg,D.sl N4 N1 (fun i=>List.getD [[ZA x,D.sl N1 (LN (Arr.sh x)) (fun i=>Qmf x i) Mode.any,D.sl N1 (Zw x) (fun i=>Qmi x i) Mode.any,D.sl N4 (Zy x) (fun i=>Qml x i) Mode.any]] i []) Mode.full]) (atD b c)/\True/\True)) (SM a/\SM a/\Be (Z0<=(↑c:Int)/\(↑c:Int)<(NI (Zw b))) (QcQ a b/\SM d/\(SM d/\True)/\∃(_y:Unit),True/\Bg (D.agg (ZA b::Vg::D.sl N1 N1 (fun i=>List.getD [[ZI (GI (QcN b) (Int.toNat (↑c:Int)))]] i []) Mode.full::Qmc)) (atD b c)/\True/\True))
def Qmn(a:Nat)(b:Arr)(c d e:Nat):Prop:=SM a/\True/\ifB (decide ((NI (Zw b))<=(↑c:Int))) (QcO d b c) (Qmm e b c d)
def Qmo(a:Arr)(b c d e:Nat):Prop:=ifB (JF a==3) (SM b/\True/\ifB (decide ((NI (Zy a))<=(↑c:Int))) (QcO d a c) (Qmm e a c d)) (True/\QcO d a c)
theorem BnW(a : Arr)(i : Nat)(hk : a.k=1 \/ a.k=2 \/ a.k=3)(hi : (i : Int)<Bcm a.k a.nu.length a.it.length)(hc : ConOk Tryz.prog (Mr a.it)) :
  ACalls Tryz.prog 180 [.agg a.row2,.int .i64 i] ⟨[],[]⟩ (SpecR (sC [.agg a.row2,.int .i64 i] (atD a i)) ()):=by
 refine Bf (A:=sC _ _) (x:=()) (E:=Eat a) (eOk hc rfl) Tryz.func180 rfl (by kernel_rfl) rfl (by simp[sC,Eat,EC,E0]) ?_
 refine Bk (T :=
  ∀(x:Nat),True->∀(x_1:Nat),x≠x_1/\True->SM x/\∀(x_2:Nat),x_1≠x_2/\x≠x_2/\True->SM x_2/\ifB (JF a==Z1) (ifB (JF a==Z1) (Qmn x_2 a i x_1 x) (Qmo a x_2 i x_1 x)) (ifB (JF a==2) (Qmn x_2 a i x_1 x) (Qmo a x_2 i x_1 x))) (by kernel_rfl) ?_
 delta DA GI LN N0 N1 N4 NI SM Z0 Z1 ZI JF QcN Qmd Qme Qmf Qmg Qmh Qmi Qmj Qmk Qml ZA Zw QcQ Qmm Qmn Qmo Vg Qmc QcO Zx Zy QcP Zz
 have da:(default:Arr)=Arr.mk 0 [] [] []:=rfl
 simp only[<- da,Bh,Bc,decide_eq_true_eq,decide_eq_false_iff_not,true_and,and_true,beq_iff_eq,beq_eq_false_iff_ne,ne_eq,exists_const,forall_const,Int.toNat_natCast]
 have h12:a.k≠3->i<a.nu.length:=fun h3=>by
  have h:a.k=1\/a.k=2:=by omega
  rw[Bcm,if_pos h] at hi;omega
 have h3:a.k=3->i<a.it.length:=fun h3=>by
  rw[Bcm,if_neg (by omega),if_pos h3] at hi;omega
 clear hi
 repeat' (first | intro _ | refine And.intro ?_ ?_)
 all_goals first
  |omega
  |(exfalso;omega)
  |exact⟨a.it.getD i default,⟨rfl,⟨rfl,fun _ _=>rfl⟩,⟨rfl,fun _ _=>rfl⟩,rfl,fun _ _=>rfl⟩,GR (by omega),by rw[atD,if_pos (by assumption)];exact Bd _⟩
  |(rw[atD,if_neg (by omega)];exact Bd _)
theorem Bqz(a:Arr)(i:Nat):wkD (atD a i) (.agg (atA a i).row1):=by
 unfold atD atA
 split
 ·rename_i h3
  rw[h3]
  simp only[wkD,wkL,Arr.row1]
  refine⟨Bd _,EY,EY,?_,trivial⟩
  simp only[gsl,wkD,Ba]
  refine⟨by simp,by simp[Arr.it],fun j hj=>?_,by simp[BE]⟩
  have:j=0:=by omega
  subst this
  simp only[List.getD_cons_zero,Arr.it]
  exact Bcv _
 ·simp only[wkD,wkL,Arr.row1]
  exact⟨Bd _,EY,Bbe _,Ba1 _ _,trivial⟩
theorem BaT{k:Int}{s:List Int}{nn ni:Nat}(h:Cq k s nn ni=0):k=1\/k=2\/k=3:=by
 unfold Cq at h
 by_cases hk:k=1\/k=2\/k=3
 ·exact hk
 ·rw[if_neg hk] at h;simp at h
theorem BkH{a:Arr}(h:(BG a).1=0):Cq a.k a.sh a.nu.length a.it.length=0:=by
 cases a with
 |mk k s n is =>
  rw[BG] at h
  by_cases h0:Cq k s n.length is.length≠0
  ·rw[if_pos h0] at h;exact (h0 h).elim
  ·exact Decidable.not_not.1 h0
theorem BiR{a:Arr}(h:(BG a).1=0):ConOk Tryz.prog (Mr a.it):=by
 intro k' ds S A hk
 unfold Mr at hk
 split at hk
 ·injection hk with hk;subst hk
  refine ConOk.plain (fun (b:Arr) hb=>?_) rfl rfl
  cases a with
  |mk k s n is=>exact (BeG b ((Gx h).2.2.2 b hb)).mono fun _ _ ⟨y,q1,q2,q3⟩=>⟨y,q1,q2,q3⟩
 ·cases hk
def jT(sep:List UInt8)(l:List (List UInt8)):List UInt8:=l.flatMap fun x=>sep++x
theorem BY(x:List UInt8)(l:List (List UInt8))(sep:List UInt8):Lib.join (x::l) sep=x++jT sep l:=by
 unfold Lib.join
 induction l generalizing x with
 |nil=>simp[jT,List.intercalate]
 |cons y l ih =>
  have:=ih y
  simp only[List.intercalate,List.intersperse_cons_cons,List.flatten_cons] at this ⊢
  rw[this]
  simp[jT]
theorem Wz(sep:List UInt8):Lib.join [] sep=[]:=by simp[Lib.join,List.intercalate]
def jR(sep:List UInt8)(i:Nat)(l:List (List UInt8)):List UInt8:=if i=0 then Lib.join l sep else jT sep l
structure JHd (sep:List UInt8) (l:List (List UInt8)) (i:Nat) (out:List UInt8):Prop where
 hi:i<=l.length
 ho:out++jR sep i (l.drop i)=Lib.join l sep
theorem JHd.init(sep:List UInt8)(l:List (List UInt8)):JHd sep l 0 []:=⟨Nat.zero_le _,by simp[jR]⟩
theorem WT{l:List (List UInt8)}{i:Nat}(h:i<l.length):l.drop i=l.getD i []::l.drop (i+1):=by
 rw[List.drop_eq_getElem_cons h,List.getD_eq_getElem?_getD,List.getElem?_eq_getElem h];rfl
theorem JHd.step0{sep:List UInt8}{l:List (List UInt8)}{out:List UInt8}(h:JHd sep l 0 out)(hlt:0<l.length):JHd sep l (0+1) (out++l.getD 0 []):=by
 refine⟨by omega,?_⟩
 have:=h.ho
 rw[WT hlt,jR,if_pos rfl,BY] at this
 rw[<- this,jR,if_neg (by omega),List.append_assoc]
theorem JHd.step{sep:List UInt8}{l:List (List UInt8)}{i:Nat}{out:List UInt8}(h:JHd sep l i out)(h0:i≠0)(hlt:i<l.length):JHd sep l (i+1) (out++sep++l.getD i []):=by
 refine⟨by omega,?_⟩
 have:=h.ho
 rw[WT hlt,jR,if_neg h0] at this
 rw[<- this,jR,if_neg (by omega)]
 simp[jT]
theorem JHd.len{sep:List UInt8}{l:List (List UInt8)}{i:Nat}{out:List UInt8}(h:JHd sep l i out):out.length<=(Lib.join l sep).length:=by
 have:=congrArg List.length h.ho
 simp only[List.length_append] at this;omega
theorem JHd.done{sep:List UInt8}{l:List (List UInt8)}{i:Nat}{out:List UInt8}(h:JHd sep l i out)(hge:¬i<l.length):out=Lib.join l sep:=by
 have:=h.ho
 rw[List.drop_of_length_le (by omega)] at this
 have e:jR sep i []=[]:=by unfold jR;split<;>simp[jT,Wz]
 rw[e,List.append_nil] at this
 exact this
def Ih(l:List Int):List UInt8:=Lib.join (l.map Bu) [32]
theorem Blv(sep:List UInt8)(b:Nat):∀l:List (List UInt8),(∀x∈l,x.length<=b)->(jT sep l).length<=(sep.length+b)*l.length
 | [],_=>by simp[jT]
 |x::l,h=>by
  have h1:=Blv sep b l fun y hy=>h y (List.mem_cons_of_mem _ hy)
  have h2:=h x List.mem_cons_self
  simp only[jT,List.flatMap_cons,List.length_append,List.length_cons,Nat.mul_succ] at h1 ⊢
  omega
theorem Bk9(sep:List UInt8)(b:Nat)(l:List (List UInt8))(h:∀x∈l,x.length<=b):(Lib.join l sep).length<=(sep.length+b)*l.length:=by
 cases l with
 |nil=>simp[Wz]
 |cons x l =>
  have h1:=Blv sep b l fun y hy=>h y (List.mem_cons_of_mem _ hy)
  have h2:=h x List.mem_cons_self
  rw[BY]
  simp only[List.length_append,List.length_cons,Nat.mul_succ]
  omega
theorem MK{l:List Int}(h:∀z∈l,Bs z):(Ih l).length<=22*l.length:=by
 have:=Bk9 [32] 21 (l.map Bu) (fun x hx=>by
  obtain ⟨z,hz,rfl⟩:=List.mem_map.1 hx
  exact (MP (h z hz)).2)
 simpa[Ih] using this
theorem mapS{l:List Int}{i:Nat}(h:i<l.length):(l.map Bu).getD i []=Bu (l.getD i 0):=by
 simp[List.getD_eq_getElem?_getD,List.getElem?_map,List.getElem?_eq_getElem h]
noncomputable def Ejn:Senv:=EC WJ 5 1 [2] (fun _=>([],[]))
def Qmp(a:List (List UInt8)):List (List UInt8):=BF (LN a) fun i=>[D.str (List.getD a i [])]
theorem Bcw(l:List (List UInt8))(h:Gf l [32]):ACalls Tryz.prog 177 [ssl l .any] ⟨[],[]⟩ (SpecR (sC [ssl l .any] (.str (Lib.join l [32]))) ()):=by
 refine Bf (A:=sC _ _) (x:=()) (E:=Ejn) (eOk Mh rfl) Tryz.func177 rfl (by kernel_rfl) rfl (by simp[sC,Ejn,EC,E0]) ?_
 refine Bk (T :=
  ((C3 (LN l) fun i=>[D.str (List.getD l i [])])=true/\Gf (Qmp l) [(32:UInt8)])/\∀(y:Unit),True->RT (Lib.join (Qmp l) [(32:UInt8)]=Lib.join l [(32:UInt8)])) (by kernel_rfl) ?_
 delta LN Qmp RT
 simp only[Iw (l:=l) rfl (fun _ _=>rfl),Md (l:=l) rfl (fun _ _=>rfl),h,and_true,exists_const,implies_true]
theorem tyB:Tryz.prog.underlying 55=some (.pointer 58):=Tryz.underlying55
theorem tyU:Tryz.prog.underlying 117=some .unsafePointer:=Tryz.underlying117
theorem Blu:∃j,Tryz.prog.info? 58=some j/\j.size=2:=Option.map_eq_some_iff.1 (show (Tryz.prog.info? 58).map (·.size)=some 2 by kernel_rfl)
theorem Bp8:liesAt Tryz.prog Tryz.prog.depth 58 (2 / Tryz.prog.cellsOf 58) 0 58 1=true:=by kernel_rfl
theorem BfF(b : Nat)(w : World)(h0 : w.cell? ⟨b, 0, none⟩=some (.pointer (some ⟨b, 0, none⟩))) :
  Calls Tryz.prog 44 #[.pointer (some ⟨b,0,none⟩)] w fun e w'=>e=.returned (.tuple #[])/\w'=w:=by
 obtain ⟨j,hj,hjs⟩:=Blu
 go_enter Tryz.func44,Tryz.ntmps44
 go_wp2
 rw[Lib.run_neq_ptr_same w _ tyB hj]
 go_wp2
 go_end0
 exact⟨rfl,rfl⟩
theorem BjJ(b : Nat)(w : World)(h0 : w.cell? ⟨b, 0, none⟩=some (.pointer none))(hsh : w.shape? b=some (58, 2))(hfz : w.frozen? ⟨b, 0, none⟩=false) :
  Calls Tryz.prog 44 #[.pointer (some ⟨b,0,none⟩)] w fun e w'=>e=.returned (.tuple #[])/\w'=w.setCell ⟨b,0,none⟩ (.pointer (some ⟨b,0,none⟩)):=by
 obtain ⟨j,hj,hjs⟩:=Blu
 go_enter Tryz.func44,Tryz.ntmps44
 go_wp2
 rw[Lib.run_to_unsafe w ⟨b,0,none⟩ tyB tyU hj (by rw[hjs];decide) hsh (Nat.zero_lt_succ 1)]
 simp only[Result.andThen]
 rw[Oper.upon_value]
 go_wp2
 rw[run_callFunc_extern Tryz.func76 (by kernel_rfl) (by kernel_rfl) (by kernel_rfl) (e:=Extern.AbiNoEscape.same) (by kernel_rfl)]
 rw[Lib.run_noEscape]
 simp only[Result.andThen]
 rw[Oper.upon_value]
 go_wp2
 rw[Lib.run_from_unsafe w ⟨b,0,none⟩ tyU tyB hj hsh Bp8]
 simp only[Result.andThen]
 rw[Oper.upon_value]
 go_wp2
 go_end0
 exact⟨rfl,rfl⟩
def sCc(k x E:Nat)(d:D):FnSpec where
 β:=Unit
 α:=Unit
 args:=fun _=>[.ref k x 0]
 st:=fun _=>⟨[(k,x,.bld 58 E d)],[]⟩
 pre:=fun _=>True
 post:=fun _ _=>True
 res:=fun _ _=>.ret (.tup [])
 out:=fun _ _=>⟨[(k,x,.bld 58 E d)],[]⟩
theorem Bqu(k x E:Nat)(d:D):ACalls Tryz.prog 44 ((sCc k x E d).args ()) ((sCc k x E d).st ()) (SpecR (sCc k x E d) ()):=by
 refine⟨⟨_,Tryz.func44,by kernel_rfl,by kernel_rfl⟩,fun C F args w ha hs=>?_⟩
 obtain ⟨u,e,hu⟩:=CE ha
 have e2:args=[u].toArray:=by rw[<- e]
 subst e2
 simp only[Rep] at hu
 subst hu
 have hg:Bt ((sCc k x E d).st ()).objs k=some (x,.bld 58 E d):=by simp[sCc,Bt]
 obtain ⟨c1,c2,v0,v1,fz,h1,h2,h3,h4,h5⟩:=hs.obj_of hg
 have fin:∀w',Sat C (((sCc k x E d).st ()).add F) w'->∃C' r S',C.le C'/\Sat C' (S'.add F) w'/\RepEnd C' r (.returned (.tuple #[]))/\SpecR (sCc k x E d) () r S':=fun w' h =>
  ⟨C,.ret (.tup []),_,.refl C,h,by simp[RepEnd,Rep,RepL],(),trivial,rfl,rfl⟩
 rcases h3 with rfl | rfl
 ·have hc:w.cell? ⟨x,0,none⟩=some (.pointer none):=by rw[cell_of_heap h1];rfl
  have hsh:w.shape? x=some (58,2):=by simp[World.shape?,h1]
  have hfz:w.frozen? ⟨x,0,none⟩=false:=B8 h1 h2 (by simp)
  refine (BjJ x w hc hsh hfz).mono fun e w' ⟨he,hw⟩=>?_
  subst he hw
  refine fin _ ?_
  have hr:=Cs h1 (o:=0) (.pointer (some ⟨x,0,none⟩))
  have:=hs.replace (o':=.bld 58 E d) (w':=w.setCell ⟨x,0,none⟩ (.pointer (some ⟨x,0,none⟩))) hg (by simp) (fun j hj=>Go.RowKit.Below.heap_setCell _ _ _ _ hj) rfl rfl rfl ⟨.pointer (some ⟨x,0,none⟩),v1,fz,by simpa using hr,by simpa using h2.set 0 (.pointer (some ⟨x,0,none⟩)),.inr rfl,h4,h5⟩
  simpa[sCc,St.set,Gu] using this
 ·have hc:w.cell? ⟨x,0,none⟩=some (.pointer (some ⟨x,0,none⟩)):=by rw[cell_of_heap h1];rfl
  refine (BfF x w hc).mono fun e w' ⟨he,hw⟩=>?_
  subst he hw
  exact fin _ hs
def BdU:Con:=fun k ds S=>match k with
 |44=>match ds with
  | [.ref k x 0]=>match Bt S.objs k with
   |some (y,.bld T E d)=>some ((sCc k x E d).fits () (y=x/\T=58/\Ot d=true))
   |_=>none
  |_=>none
 |_=>none
theorem WG:ConOk Tryz.prog BdU:=by
 intro k ds S A h
 unfold BdU at h
 split at h
 ·split at h
  ·rename_i k x
   split at h
   ·rename_i y T E d hg
    injection h with h;subst h
    refine⟨fun _ _=>Bqu k x E d,fun _ _ hy=>?_,fun h=>nomatch h⟩
    obtain ⟨⟨rfl,rfl,ht⟩,_⟩:=hy
    refine⟨⟨by simp[Bg,chk],trivial⟩,Ba.2 ⟨rfl,?_,trivial⟩⟩
    simp only[FnSpec.fits,sCc,leO,hg]
    exact⟨trivial,Ba.2 ⟨by simp[ht],Bd _⟩,trivial⟩
   ·cases h
  ·cases h
 ·cases h
def sWs(f:List UInt8)(E x t:Nat)(l:List UInt8)(r:AEnd)(ar:List D):FnSpec where
 β:=Unit
 α:=Nat
 args:=fun _=>.ref 0 x 0::ar
 st:=fun _=>⟨[(0,x,.bld 58 E (bsl l (.tok 0 t)))],[(0,t)]⟩
 pre:=fun _=>True
 post:=fun _ _=>True
 res:=fun _ _=>r
 out:=fun _ t'=>⟨[(0,x,.bld 58 E (bsl (l++f) (.tok 0 t')))],[(0,t')]⟩
noncomputable def Ews:Senv:={ EC BdU 19 2 [4,5] (fun _=>([],[])) with own:=fun t=>Nat.beq t 56 }
theorem Bn2(x t : Nat)(l s : List UInt8)(hl : l.length+s.length<=140737488355328) :
  ACalls Tryz.prog 39 ((sWs s 5 x t l (.ret (.tup [.int .i64 s.length,.nili])) [.str s]).args ()) ((sWs s 5 x t l (.ret (.tup [.int .i64 s.length,.nili])) [.str s]).st ()) (SpecR (sWs s 5 x t l (.ret (.tup [.int .i64 s.length,.nili])) [.str s]) ()):=by
 refine Bf (A:=sWs s 5 x t l (.ret (.tup [.int .i64 s.length,.nili])) [.str s]) (x:=()) (E:=Ews) (eOk WG rfl) Tryz.func39 rfl (by kernel_rfl) rfl (by simp[sWs,Ews,EC,E0]) ?_
 refine Bk (T :=
  ((SM x/\SM (58:Nat)/\SM true)/\True)/\∀(y:Unit),True->SM x/\SM t/\Be ((LN l+LN s)*N1<=140737488355328/\LN l+LN s<=9223372036854775807) (∀(t1:Nat),(t % (1000003:Nat)=N6->t1 % (1000003:Nat)=N6)->SM x/\(t % (1000003:Nat)=N6->t1 % (1000003:Nat)=N6)/\True/\∃(y:Nat),True/\(SM (LI s)/\True/\True)/\(SM x/\(LN l+LN s=LN (l++s)/\(∀(i:Nat),i<LN l+LN s->BW (LN l) (fun i=>[ZB (BI l i)]) (fun i=>[ZB (BI s i)]) i=[ZB (BI (l++s) i)])/\t1=y)/\True)/\t1=y/\True)) (by kernel_rfl) ?_
 delta BI LI LN N1 N6 SM U0 ZB
 refine⟨⟨⟨rfl,rfl,rfl⟩,trivial⟩,fun _ _=>⟨rfl,rfl,?_⟩⟩
 rw[Bc]
 exact⟨by omega,fun t1 ht=>⟨rfl,ht,trivial,t1,trivial,⟨rfl,trivial,trivial⟩,⟨rfl,⟨by rw[List.length_append],BbL rfl (fun _ _=>rfl) (fun _ _=>rfl),rfl⟩,trivial⟩,rfl,trivial⟩⟩
noncomputable def Ewb:Senv:={ EC BdU 17 2 [4] (fun _=>([],[])) with own:=fun t=>Nat.beq t 56 }
theorem Boj(x t : Nat)(l : List UInt8)(b : UInt8)(hl : l.length+1<=140737488355328) :
  ACalls Tryz.prog 21 ((sWs [b] 5 x t l (.ret .nili) [.int .u8 (b.toNat:Int)]).args ()) ((sWs [b] 5 x t l (.ret .nili) [.int .u8 (b.toNat:Int)]).st ()) (SpecR (sWs [b] 5 x t l (.ret .nili) [.int .u8 (b.toNat:Int)]) ()):=by
 refine Bf (A:=sWs [b] 5 x t l (.ret .nili) [.int .u8 (b.toNat:Int)]) (x:=()) (E:=Ewb) (eOk WG rfl) Tryz.func21 rfl (by kernel_rfl) rfl (by simp[sWs,Ewb,EC,E0]) ?_
 refine Bk (T :=
  ((SM x/\SM (58:Nat)/\SM true)/\True)/\∀(y:Unit),True->SM x/\SM t/\Be ((LN l+N1)*N1<=140737488355328/\LN l+N1<=9223372036854775807) (∀(t1:Nat),(t % (1000003:Nat)=N6->t1 % (1000003:Nat)=N6)->SM x/\(t % (1000003:Nat)=N6->t1 % (1000003:Nat)=N6)/\True/\∃(y:Nat),True/\True/\(SM x/\(LN l+N1=LN (l++[b])/\(∀(i:Nat),i<LN l+N1->BW (LN l) (fun i=>[ZB (BI l i)]) (fun i=>List.getD [[ZB (NI (UInt8.toNat b))]] i []) i=[ZB (BI (l++[b]) i)])/\t1=y)/\True)/\t1=y/\True)) (by kernel_rfl) ?_
 delta BI LN N1 N6 NI SM U0 ZB
 refine⟨⟨⟨rfl,rfl,rfl⟩,trivial⟩,fun _ _=>⟨rfl,rfl,?_⟩⟩
 rw[Bc]
 exact⟨by omega,fun t1 ht=>⟨rfl,ht,trivial,t1,trivial,trivial,⟨rfl,⟨by simp,BcK rfl (fun _ _=>rfl) rfl,rfl⟩,trivial⟩,rfl,trivial⟩⟩
def sBw(f:List UInt8)(k kt x t:Nat)(l:List UInt8)(r:AEnd)(ar:List D):FnSpec where
 β:=Unit
 α:=Nat
 args:=fun _=>.ref k x 0::ar
 st:=fun _=>⟨[(k,x,.bld 58 5 (bsl l (.tok kt t)))],[(kt,t)]⟩
 pre:=fun _=>True
 post:=fun _ _=>True
 res:=fun _ _=>r
 out:=fun _ t'=>⟨[(k,x,.bld 58 5 (bsl (l++f) (.tok kt t')))],[(kt,t')]⟩
theorem Bdr{g : Nat}{f : List UInt8}(k kt x t : Nat){l : List UInt8}{r : AEnd}{ar : List D}(h : ACalls Tryz.prog g ((sWs f 5 x t l r ar).args ()) ((sWs f 5 x t l r ar).st ()) (SpecR (sWs f 5 x t l r ar) ())) :
  ACalls Tryz.prog g ((sBw f k kt x t l r ar).args ()) ((sBw f k kt x t l r ar).st ()) (SpecR (sBw f k kt x t l r ar) ()):=by
 refine h.respec (A':=sBw f k kt x t l r ar) (x':=()) ?_ ?_ fun y _=>⟨y,trivial,?_,?_⟩
 ·simp[sBw,sWs,Br,Bg,chk,Bj]
 ·simp[sBw,sWs,T0,ON,T9,CT,Bg,chk,bsl,BE,Ot]
 ·simp only[sBw,sWs];cases r<;>simp[Ii,Bd]
 ·simp[sBw,sWs,T0,ON,T9,CT,Bg,chk,bsl,BE,Ot];rfl
theorem BkV(b g cap cs : Nat)(p : Value)(fz : Nat×Nat)(arr : Array Value)(fg : Nat×Nat)(l : List UInt8)(w : World)(h0 : l≠[])(hn : l.length<=cap)(hcs : l.length<=arr.size)(h63 : l.length<=9223372036854775807)
  (hbk:w.heap[b]? =some (.cells #[p,.slice (some ⟨g,0,none⟩) l.length cap] cs fz)) (hg:w.heap[g]? =some (.cells arr 5 fg))
  (hcell:∀j x,l[j]? =some x->w.cell? ⟨g,j,none⟩=some (.int .u8 x.toNat)) :
  Calls Tryz.prog 22 #[.pointer (some ⟨b,0,none⟩)] w fun e w'=>e=.returned (.string ⟨l.toArray⟩)/\w'=w.drew.freeze ⟨g,0,none⟩ l.length:=by
 have hl0:l.length≠0:=by simpa using h0
 have c1:w.drew.cell? ⟨b,1,none⟩=some (.slice (some ⟨g,0,none⟩) l.length cap):=by
  have:w.drew.heap[b]? =some (.cells #[p,.slice (some ⟨g,0,none⟩) l.length cap] cs fz):=hbk
  rw[cell_of_heap this];rfl
 have hSD:(Builtin.unsafeSliceData_ #[56] 93 #[.slice (some ⟨g,0,none⟩) l.length cap]).run Tryz.prog w.drew=.ok (.pointer (some ⟨g,0,none⟩)) w.drew :=
  Lib.run_unsafeSliceData_row _ _ _ _ _ _ (by omega)
 have hUS:(Builtin.unsafeString_ #[93,3] 9 #[.pointer (some ⟨g,0,none⟩),.int .i64 l.length]).run Tryz.prog w.drew=.ok (.string ⟨l.toArray⟩) (w.drew.freeze ⟨g,0,none⟩ l.length):=by
  refine Lib.run_unsafeString_row w.drew 93 3 9 5 Tryz.underlying93 (by kernel_rfl) g arr.size (by have hg':w.drew.heap[g]? =some (.cells arr 5 fg):=hg;simp[World.shape?,hg']) l h0 hcs h63 ?_
  intro j x hx
  have e:w.drew.cell? ⟨g,j,none⟩=some (.int .u8 x.toNat):=hcell j x hx
  have e2:(if j=0 then (⟨g,0,none⟩:Addr) else ⟨g,j,none⟩)=⟨g,j,none⟩:=by split<;>simp_all
  simpa[Addr.add,e2] using e
 have mixed:Tryz.prog.follows .mixedOrders=true:=by kernel_rfl
 go_enter Tryz.func22,Tryz.ntmps22
 go_wp2
 go_region_o
 all_goals (go_wp2;go_ret;exact⟨rfl,rfl⟩)
theorem BmE(b cs : Nat)(p : Value)(fz : Nat×Nat)(w : World)(hbk : w.heap[b]? =some (.cells #[p, .slice none 0 0] cs fz)) :
  Calls Tryz.prog 22 #[.pointer (some ⟨b,0,none⟩)] w fun e w'=>e=.returned (.string ⟨#[]⟩)/\Go.RowKit.Below w.heap.size w w':=by
 have hUS:∀W,(Builtin.unsafeString_ #[93,3] 9 #[.pointer none,.int .i64 0]).run Tryz.prog W=.ok (.string .empty) W:=fun W=>Lib.run_unsafeString_none W _ _ _ none
 have c1:w.drew.cell? ⟨b,1,none⟩=some (.slice none 0 0):=by
  have:w.drew.heap[b]? =some (.cells #[p,.slice none 0 0] cs fz):=hbk
  rw[cell_of_heap this];rfl
 have hSD:(Builtin.unsafeSliceData_ #[56] 93 #[.slice none 0 0]).run Tryz.prog w.drew=.ok (.pointer none) w.drew:=Lib.run_unsafeSliceData_nil _ _ _ _ _
 have mixed:Tryz.prog.follows .mixedOrders=true:=by kernel_rfl
 go_enter Tryz.func22,Tryz.ntmps22
 go_wp2
 go_region_o
 all_goals (go_wp2;go_ret;exact⟨rfl,Go.RowKit.Below.drew (Go.RowKit.Below.refl _ w)⟩)
theorem BkG(b g cap cs : Nat)(p : Value)(fz : Nat×Nat)(w : World)(hc0 : cap≠0)(hbk : w.heap[b]? =some (.cells #[p, .slice (some ⟨g, 0, none⟩) 0 cap] cs fz)) :
  Calls Tryz.prog 22 #[.pointer (some ⟨b,0,none⟩)] w fun e w'=>e=.returned (.string ⟨#[]⟩)/\Go.RowKit.Below w.heap.size w w':=by
 have hUS:∀W,(Builtin.unsafeString_ #[93,3] 9 #[.pointer (some ⟨g,0,none⟩),.int .i64 0]).run Tryz.prog W=.ok (.string .empty) W:=fun W=>Lib.run_unsafeString_none W _ _ _ _
 have c1:w.drew.cell? ⟨b,1,none⟩=some (.slice (some ⟨g,0,none⟩) 0 cap):=by
  have:w.drew.heap[b]? =some (.cells #[p,.slice (some ⟨g,0,none⟩) 0 cap] cs fz):=hbk
  rw[cell_of_heap this];rfl
 have hSD:(Builtin.unsafeSliceData_ #[56] 93 #[.slice (some ⟨g,0,none⟩) 0 cap]).run Tryz.prog w.drew=.ok (.pointer (some ⟨g,0,none⟩)) w.drew :=
  Lib.run_unsafeSliceData_row _ _ _ _ _ _ hc0
 clear hc0
 have mixed:Tryz.prog.follows .mixedOrders=true:=by kernel_rfl
 go_enter Tryz.func22,Tryz.ntmps22
 go_wp2
 go_region_o
 all_goals (go_wp2;go_ret;exact⟨rfl,Go.RowKit.Below.drew (Go.RowKit.Below.refl _ w)⟩)
theorem BeU(b g cs : Nat)(p : Value)(fz fg : Nat×Nat)(arr : Array Value)(E : Nat)(w : World)(hg : w.heap[g]? =some (.cells arr E fg))(hbk : w.heap[b]? =some (.cells #[p, .slice (some ⟨g, 0, none⟩) 0 0] cs fz)) :
  Calls Tryz.prog 22 #[.pointer (some ⟨b,0,none⟩)] w fun e w'=>e=.returned (.string ⟨#[]⟩)/\Go.RowKit.Below w.heap.size w w':=by
 have hUS:∀W q,(Builtin.unsafeString_ #[93,3] 9 #[.pointer q,.int .i64 0]).run Tryz.prog W=.ok (.string .empty) W:=fun W q=>Lib.run_unsafeString_none W _ _ _ q
 have hb:b<w.heap.size:=(Array.getElem?_eq_some_iff.1 hbk).1
 have c1:w.drew.cell? ⟨b,1,none⟩=some (.slice (some ⟨g,0,none⟩) 0 0):=by
  have:w.drew.heap[b]? =some (.cells #[p,.slice (some ⟨g,0,none⟩) 0 0] cs fz):=hbk
  rw[cell_of_heap this];rfl
 have c0:w.cell? ⟨b,1,none⟩=some (.slice (some ⟨g,0,none⟩) 0 0):=c1
 have hSD:(Builtin.unsafeSliceData_ #[56] 93 #[.slice (some ⟨g,0,none⟩) 0 0]).run Tryz.prog w.drew=.ok (.pointer (some ⟨w.drew.heap.size,0,none⟩)) (w.drew.alloc (.view ⟨g,0,none⟩ 5)) :=
  Lib.run_unsafeSliceData_zero _ _ _ _ Tryz.underlying93 _ _ (E,arr.size) (by have hg':w.drew.heap[g]? =some (.cells arr E fg):=hg;simp[World.shape?,hg'])
 have hSD0:(Builtin.unsafeSliceData_ #[56] 93 #[.slice (some ⟨g,0,none⟩) 0 0]).run Tryz.prog w=.ok (.pointer (some ⟨w.heap.size,0,none⟩)) (w.alloc (.view ⟨g,0,none⟩ 5)) :=
  Lib.run_unsafeSliceData_zero _ _ _ _ Tryz.underlying93 _ _ (E,arr.size) (by simp[World.shape?,hg])
 have c2:(w.drew.alloc (.view ⟨g,0,none⟩ 5)).cell? ⟨b,1,none⟩=some (.slice (some ⟨g,0,none⟩) 0 0):=by
  rw[World.cell?_alloc_lt _ _ _ hb];exact c1
 have c3:(w.alloc (.view ⟨g,0,none⟩ 5)).drew.cell? ⟨b,1,none⟩=some (.slice (some ⟨g,0,none⟩) 0 0):=c2
 have mixed:Tryz.prog.follows .mixedOrders=true:=by kernel_rfl
 go_enter Tryz.func22,Tryz.ntmps22
 go_wp2
 go_region_o
 all_goals (go_wp2;go_ret;exact⟨rfl,(Go.RowKit.Below.drew (Go.RowKit.Below.refl _ w)).alloc (Nat.le_refl _) _⟩)
theorem WM{C:Ctx}{S:St}{w:World}{g n:Nat}(H:Sat C S w)(hg:C.w0.heap.size<=g)(ho:∀p∈S.objs,p.2.1≠g)(ht:∀t∈S.toks,∀x,C.tok t.2=some x->¬x.clash g):Sat C S (w.freeze ⟨g,0,none⟩ n):=by
 have hne:∀k,k≠g->(w.freeze ⟨g,0,none⟩ n).heap[k]? =w.heap[k]? :=by
  intro k hk
  unfold World.freeze;split<;>simp[Array.getElem?_modify,Ne.symm hk]
 have hcell:∀a,(w.freeze ⟨g,0,none⟩ n).cell? a=w.cell? a:=by
  intro a
  unfold World.cell?
  by_cases e:a.block=g
  ·rw[e]
   unfold World.freeze
   by_cases h0:n=0
   ·rw[if_pos h0]
   ·rw[if_neg h0]
    simp only[Array.getElem?_modify,if_true]
    cases w.heap[g]? with
    |none=>rfl
    |some o=>cases o<;>rfl
  ·rw[hne _ e]
 refine⟨H.below.trans ⟨by unfold World.freeze;split<;>rfl,by unfold World.freeze;split<;>rfl,by unfold World.freeze;split<;>rfl,by unfold World.freeze;split<;>simp,fun k hk=>hne k (by omega)⟩,fun b o v h=>(hcell _).trans (H.imm b o v h),H.one,fun p hp=>?_,H.nodup,fun t htm=>?_,H.tnodup,H.tfin,H.tdist⟩
 ·obtain ⟨h1,h2,h3⟩:=H.objs p hp
  exact⟨h1,h2,h3.of_heap (hne _ (ho p hp))⟩
 ·obtain ⟨x,h1,h2,h3⟩:=H.toks t htm
  exact⟨x,h1,h2.of_heap fun b hb=>hne b fun e=>ht t htm x h1 (e ▸ hb),h3⟩
def sBs(k kt x t:Nat)(l:List UInt8):FnSpec where
 β:=Unit
 α:=Unit
 args:=fun _=>[.ref k x 0]
 st:=fun _=>⟨[(k,x,.bld 58 5 (bsl l (.tok kt t)))],[(kt,t)]⟩
 pre:=fun _=>True
 post:=fun _ _=>True
 res:=fun _ _=>.ret (.str l)
 out:=fun _ _=>⟨[],[]⟩
theorem BfD(k kt x t:Nat)(l:List UInt8)(h63:l.length<=9223372036854775807):ACalls Tryz.prog 22 ((sBs k kt x t l).args ()) ((sBs k kt x t l).st ()) (SpecR (sBs k kt x t l) ()):=by
 refine⟨⟨_,Tryz.func22,by kernel_rfl,by kernel_rfl⟩,fun C F args w ha hs=>?_⟩
 obtain ⟨u,e,hu⟩:=CE ha
 have e2:args=[u].toArray:=by rw[<- e]
 subst e2
 simp only[Rep] at hu
 subst hu
 have hg:Bt ((sBs k kt x t l).st ()).objs k=some (x,.bld 58 5 (bsl l (.tok kt t))):=by simp[sBs,Bt]
 obtain ⟨c1,c2,v0,v1,fz,h1,h2,h3,h4,h5⟩:=hs.obj_of hg
 have h5:Eu t=5+1:=h5
 simp only[bsl,Rep] at h4
 obtain ⟨a,len,cap,rfl,hh,hr⟩:=h4
 have hlen:len=l.length:=hh.1
 subst hlen
 have hF:Sat C F w:=by
  have h:=hs.le (S':=⟨[],[]⟩) ⟨List.nil_sublist _,List.nil_sublist _⟩
  simpa[St.add] using h
 have fin:∀w',Sat C F w'->∃C' r S',C.le C'/\Sat C' (S'.add F) w'/\RepEnd C' r (.returned (.string ⟨l.toArray⟩))/\SpecR (sBs k kt x t l) () r S':=fun w' h =>
  ⟨C,.ret (.str l),⟨[],[]⟩,.refl C,h,by simp[RepEnd,Rep],(),trivial,rfl,rfl⟩
 have h6:=hh.2.2.2.2.2
 have hcap:l.length<=cap:=hh.2.1
 simp only at h6
 have hmem:(kt,t)∈(((sBs k kt x t l).st ()).add F).toks:=by simp[sBs,St.add]
 obtain ⟨q,q1,q2,q3⟩:=hs.toks (kt,t) hmem
 simp only at q1
 rw[q1] at h6
 cases q with
 |no =>
  simp only at h6
  have ha0:a=none:=h6.2 (by rw[h5];omega)
  subst ha0
  have hl0:=(hh.2.2.2.1 rfl)
  have hl:l=[]:=List.length_eq_zero_iff.1 hl0.1
  subst hl
  obtain rfl:cap=0:=hl0.2
  refine (BmE x _ v0 fz w h1).mono fun e w' ⟨he,hb⟩=>?_
  subst he
  exact fin w' (hF.kept hb)
 | «at» g n cp wd =>
  obtain ⟨rfl,rfl,rfl,rfl⟩:=h6
  obtain ⟨p1,p2,arr,E,fg,p3,p4,p5,p6⟩:=q2
  have hE:E=5:=Nat.succ.inj ((p6 (by simp only;rw[h5];omega)).trans h5)
  subst hE
  by_cases hl:l=[]
  ·subst hl
   by_cases hc:cp=0
   ·subst hc
    refine (BeU x g _ v0 fz fg arr _ w p3 h1).mono fun e w' ⟨he,hb⟩=>?_
    subst he
    exact fin w' (hF.kept hb)
   ·refine (BkG x g cp _ v0 fz w hc h1).mono fun e w' ⟨he,hb⟩=>?_
    subst he
    exact fin w' (hF.kept hb)
  ·refine (BkV x g cp _ v0 fz arr fg l w hl hcap (by rw[p5];omega) h63 h1 p3 fun j y hy=>?_).mono fun e w' ⟨he,hw⟩=>?_
   ·have hj:j<l.length:=(List.getElem?_eq_some_iff.1 hy).1
    have hrow:=(hr ⟨g,0,none⟩ rfl j hj).2
    simp only[RepCells] at hrow
    obtain ⟨⟨v,i1,i2⟩,_⟩:=hrow
    simp only[Rep] at i2
    subst i2
    have:=hs.imm _ _ _ i1
    have e:l.getD j 0=y:=by rw[List.getD_eq_getElem?_getD,hy];rfl
    rw[e] at this
    simpa using this
   ·subst he hw
    refine fin _ (WM hF.drew p1 (fun p hp e=>q3 p (by simp[St.add,hp]) e.symm) fun s hs2 y hy hcl=>?_)
    cases y with
    |no=>exact hcl
    | «at» b' n' c' wd' =>
     have hcl:b'=g:=hcl
     have hnd:=hs.tnodup
     simp only[St.add,sBs,List.cons_append,List.nil_append,List.map_cons,List.nodup_cons] at hnd
     have hne:t≠s.2:=fun e=>hnd.1 (e ▸ List.mem_map_of_mem hs2)
     exact hs.tdist (kt,t) s _ _ _ _ _ _ _ _ hmem (by simp[St.add,hs2]) hne q1 hy hcl.symm
def Bgu(ts:List (Nat×Nat))(kt t:Nat):Prop :=
 match Mf ts kt with
 |some t'=>t'=t
 |none=>False
def Bhy(ts:List (Nat×Nat))(x y T E kt t n:Nat)(g:Nat->List D):Prop:=y=x/\T=58/\E=5/\Bgu ts kt t/\Cg n g=true
def Co(z:Int):UInt8:=UInt8.ofNat z.toNat
def Bi7:Con:=fun k ds S=>match k with
 |39=>match ds with
  | [.ref k x 0,.str s]=>match Bt S.objs k with
   |some (y,.bld T E (.sl 1 n g (.tok kt t)))=>some ((sBw s k kt x t (bytesOf n g) (.ret (.tup [.int .i64 s.length,.nili])) [.str s]).fits () (Bhy S.toks x y T E kt t n g/\n+s.length<=140737488355328))
   |_=>none
  |_=>none
 |21=>match ds with
  | [.ref k x 0,.int .u8 z]=>match Bt S.objs k with
   |some (y,.bld T E (.sl 1 n g (.tok kt t)))=>some ((sBw [Co z] k kt x t (bytesOf n g) (.ret .nili) [.int .u8 z]).fits () (Bhy S.toks x y T E kt t n g/\(0<=z/\z<=255)/\n+1<=140737488355328))
   |_=>none
  |_=>none
 |22=>match ds with
  | [.ref k x 0]=>match Bt S.objs k with
   |some (y,.bld T E (.sl 1 n g (.tok kt t)))=>some ((sBs k kt x t (bytesOf n g)).fits () (Bhy S.toks x y T E kt t n g/\n<=140737488355328))
   |_=>none
  |_=>none
 |k=>WJ k ds S
theorem T7{z:Int}(h:0<=z/\z<=255):((Co z).toNat:Int)=z:=by
 unfold Co
 rw[UInt8.toNat_ofNat'];omega
theorem Bbi{os : List (Nat×Nat×AObj)}{k x y T E n kt t : Nat}{g : Nat -> List D}(hg : Bt os k=some (y, .bld T E (.sl 1 n g (.tok kt t))))(h1 : y=x)(h2 : T=58)(h3 : E=5)(hr : Cg n g=true) :
  leO [(k,x,.bld 58 5 (bsl (bytesOf n g) (.tok kt t)))] os:=by
 subst h1 h2 h3
 simp only[leO,hg,CT]
 exact⟨trivial,Ba.2 ⟨by simp[Ot,bsl],OF hr⟩,trivial⟩
theorem IS{ts:List (Nat×Nat)}{kt t:Nat}(h:Bgu ts kt t):leT [(kt,t)] ts:=by
 unfold Bgu at h
 simp only[leT]
 split at h
 ·rename_i t' e;rw[e];exact⟨h,trivial⟩
 ·exact h.elim
theorem BlS:ConOk Tryz.prog Bi7:=by
 intro k ds S A h
 unfold Bi7 at h
 split at h
 ·split at h
  ·split at h
   ·rename_i k x s _ y T E n g kt t hg
    injection h with h;subst h
    have key:∀p:n+s.length<=140737488355328,ACalls Tryz.prog 39 ((sBw s k kt x t (bytesOf n g) (.ret (.tup [.int .i64 s.length,.nili])) [.str s]).args ()) ((sBw s k kt x t (bytesOf n g) (.ret (.tup [.int .i64 s.length,.nili])) [.str s]).st ()) (SpecR (sBw s k kt x t (bytesOf n g) (.ret (.tup [.int .i64 s.length,.nili])) [.str s]) ()):=fun p =>
     Bdr k kt x t (Bn2 x t (bytesOf n g) s (by simpa[bytesOf] using p))
    refine⟨fun _ hy=>key hy.1.2,fun _ _ hy=>?_,fun h=>nomatch h⟩
    obtain ⟨⟨⟨h1,h2,h3,h4,h5⟩,_⟩,_⟩:=hy
    exact⟨⟨by simp[Bg,chk],by simp[Bg],trivial⟩,Ba.2 ⟨rfl,Bbi hg h1 h2 h3 h5,IS h4⟩⟩
   ·cases h
  ·cases h
 ·split at h
  ·split at h
   ·rename_i k x z _ y T E n g kt t hg
    injection h with h;subst h
    have key:∀p:(0<=z/\z<=255)/\n+1<=140737488355328,ACalls Tryz.prog 21 ((sBw [Co z] k kt x t (bytesOf n g) (.ret .nili) [.int .u8 z]).args ()) ((sBw [Co z] k kt x t (bytesOf n g) (.ret .nili) [.int .u8 z]).st ()) (SpecR (sBw [Co z] k kt x t (bytesOf n g) (.ret .nili) [.int .u8 z]) ()):=fun p=>by
     have:=Bdr k kt x t (Boj x t (bytesOf n g) (Co z) (by simpa[bytesOf] using p.2))
     rw[T7 p.1] at this
     exact this
    refine⟨fun _ hy=>key hy.1.2,fun _ _ hy=>?_,fun h=>nomatch h⟩
    obtain ⟨⟨⟨h1,h2,h3,h4,h5⟩,_⟩,_⟩:=hy
    exact⟨⟨by simp[Bg,chk],Bd _,trivial⟩,Ba.2 ⟨rfl,Bbi hg h1 h2 h3 h5,IS h4⟩⟩
   ·cases h
  ·cases h
 ·split at h
  ·split at h
   ·rename_i k x _ y T E n g kt t hg
    injection h with h;subst h
    refine⟨fun _ hy=>BfD k kt x t (bytesOf n g) (by have:=hy.1.2;simp[bytesOf];omega),fun _ _ hy=>?_,fun h=>nomatch h⟩
    obtain ⟨⟨⟨h1,h2,h3,h4,h5⟩,_⟩,_⟩:=hy
    exact⟨⟨by simp[Bg,chk],trivial⟩,Ba.2 ⟨rfl,Bbi hg h1 h2 h3 h5,IS h4⟩⟩
   ·cases h
  ·cases h
 ·exact Mh _ _ _ _ h
theorem Bnk(t y:Nat)(l:List UInt8):Bhy [(0,t)] y y 58 5 0 t l.length (fun i=>[.int .u8 ((l.getD i 0).toNat:Int)]):=⟨rfl,rfl,rfl,rfl,Ix l⟩
theorem BaO{n:Int}(h:n<0):Bu n=95::(Lib.itoa n).drop 1:=by
 simp only[Bu,Lib.itoa,if_pos h];rfl
theorem BaC{n:Int}(h:¬n<0):Bu n=Lib.itoa n:=by
 simp only[Bu,Lib.itoa,if_neg h]
theorem Bda(l:List UInt8):[].append l=l:=rfl
noncomputable def Ess(l:List Int):Senv:={ EC Bi7 28 1 [2,3,4,5,6,7,8,9,10,15,20] (fun _=>([],[])) with
 bd:=fun t=>match t with
  |58=>some 5
  |_=>none
 ann:=fun b _ S=>match b with
  |0=>some { slots:=[9],keep:=[0,1,3,7,8],α:=Nat×Nat×List UInt8,st:=fun y=>([.int .i64 y.1],⟨Gu S.objs 0 (.bld 58 5 (bsl y.2.2 (.tok 0 y.2.1))),[(0,y.2.1)]⟩),inv:=fun y=>JHd [32] (l.map Bu) y.1 y.2.2,mu:=fun y=>l.length-y.1 }
  |_=>none }
def Vh(a:List Int)(b:Nat)(c:List UInt8):Prop:=JHd [(32:UInt8)] (List.map Bu a) b c
def JG(a:List UInt8)(b:Nat):List D:=[ZB (BI a b)]
def ZC(a b:Nat)(c:List UInt8):Prop:=Bhy [(N0,a)] b b (58:Nat) (5:Nat) N0 a (LN c) fun i=>JG c i
def ZD(a:List Int)(b:Nat):List UInt8:=Lib.itoa (GI a (Int.toNat (↑b:Int)))
def QcR(a:List Int)(b:Nat):Nat:=LN (ZD a b)
def JH(a:List Int)(b:Nat):Int:=(NI (QcR a b))
def Qmq(a:List Int)(b:Nat):List UInt8:=List.drop N1 (List.take (Int.toNat (JH a b)) (ZD a b))
def Qmr(a:List Int)(b:Nat):Nat:=N1+LN (Qmq a b)
def ZE(a:List UInt8):List UInt8:=bytesOf (LN a) fun i=>JG a i
def Qms(a:List UInt8):List UInt8:=ZE a++[Co (32:Int)]
def ZF(a:List UInt8):Nat:=LN (Qms a)
def Qmt(a:List UInt8)(b:Nat):List D:=[ZB (BI (Qms a) b)]
def Qmu(a b:Nat)(c:List UInt8):Prop:=Bhy [(N0,a)] b b (58:Nat) (5:Nat) N0 a (ZF c) fun i=>Qmt c i
def QcS(a:List Int)(b:Nat):List UInt8:=(95:UInt8)::List.append [] (Qmq a b)
def Qmv(a:List Int)(b:Nat):Nat:=LN (QcS a b)
def QvI(a:List Int):D:=SI a
def Qmw(a:List Int):Prop:=SM (QvI a)
def ZG(a:List Int)(b:Nat):Prop:=Qmw a/\SM D.unk/\SM (D.ref N0 b N0)/\Qmw a/\SM (ZI (LI a))/\True
def ZH(a b:Nat):Prop:=IntKind.wrap IntKind.i64 ((↑a:Int)+Z1)=(↑b:Int)/\True
def Qmx(a:List UInt8):List UInt8:=bytesOf (ZF a) fun i=>Qmt a i
def Qmy(a:List UInt8)(b:List Int)(c:Nat):List UInt8:=Qmx a++QcS b c
def Qmz(a:List UInt8)(b:List Int)(c:Nat):Nat:=LN (Qmy a b c)
def QmA(a:List UInt8)(b:List Int)(c:Nat):List UInt8:=Qmx a++ZD b c
def QmB(a:List UInt8)(b:List Int)(c:Nat):Nat:=LN (QmA a b c)
def QmC(a:List UInt8)(b:List Int)(c:Nat):List UInt8:=ZE a++QcS b c
def QmD(a:List UInt8)(b:List Int)(c:Nat):Nat:=LN (QmC a b c)
def QmE(a:List UInt8)(b:List Int)(c:Nat):List UInt8:=ZE a++ZD b c
def QmF(a:List UInt8)(b:List Int)(c:Nat):Nat:=LN (QmE a b c)
theorem BlU(l:List Int)(hl:l.length<=1099511627776)(hc:∀z∈l,Bs z):ACalls Tryz.prog 181 [isl l .any] ⟨[],[]⟩ (SpecR (sC [isl l .any] (.str (Ih l))) ()):=by
 refine Bf (A:=sC _ _) (x:=()) (E:=Ess l) (eOk BlS rfl) Tryz.func181 rfl (by kernel_rfl) rfl (by simp[sC,Ess,EC,E0]) ?_
 refine Bk (T :=
  ∀(y t:Nat),True->(∃(x:Nat×Nat×List UInt8),Vh l x.1 x.2.2/\(Z0=(NI x.1)/\True)/\(SM y/\(N0=LN x.2.2/\(∀(i:Nat),i<N0->CN (List D) [] (JG x.2.2 i))/\t=x.2.1)/\True)/\t=x.2.1/\True)/\∀(x:Nat×Nat×List UInt8),Vh l x.1 x.2.2->ifB (decide ((NI x.1)<(LI l))) (Be (Z0<=(NI x.1)/\(NI x.1)<(LI l)) (ifB (decide (Z0<(NI x.1))) (((ZC x.2.1 y x.2.2/\(Z0<=32/\(32:Int)<=255)/\LN x.2.2+N1<=140737488355328)/\True)/\∀(y_1:Nat),True->Bs (GI l (TN x.1))/\∀(y_2:Unit),True->ifB (decide (GI l (TN x.1)<Z0)) (Be (Z0<=Z1/\Z1<=JH l x.1/\JH l x.1<=JH l x.1) (Be (Qmr l x.1<=9223372036854775807) (((Qmu y_1 y x.2.2/\ZF x.2.2+Qmv l x.1<=140737488355328)/\True)/\∀(y_3:Nat),True->ZG l y/\∃(y_4:Nat×Nat×List UInt8),Vh l y_4.1 y_4.2.2/\LN l-y_4.1<LN l-x.1/\ZH x.1 y_4.1/\(SM y/\(Qmz x.2.2 l x.1=LN y_4.2.2/\(∀(i:Nat),i<Qmz x.2.2 l x.1->[ZB (BI (Qmy x.2.2 l x.1) i)]=JG y_4.2.2 i)/\y_3=y_4.2.1)/\True)/\y_3=y_4.2.1/\True))) (((Qmu y_1 y x.2.2/\ZF x.2.2+QcR l x.1<=140737488355328)/\True)/\∀(y_3:Nat),True->ZG l y/\∃(y_4:Nat×Nat×List UInt8),Vh l y_4.1 y_4.2.2/\LN l-y_4.1<LN l-x.1/\ZH x.1 y_4.1/\(SM y/\(QmB x.2.2 l x.1=LN y_4.2.2/\(∀(i:Nat),i<QmB x.2.2 l x.1->[ZB (BI (QmA x.2.2 l x.1) i)]=JG y_4.2.2 i)/\y_3=y_4.2.1)/\True)/\y_3=y_4.2.1/\True)) (Bs (GI l (TN x.1))/\∀(y_1:Unit),True->ifB (decide (GI l (TN x.1)<Z0)) (Be (Z0<=Z1/\Z1<=JH l x.1/\JH l x.1<=JH l x.1) (Be (Qmr l x.1<=9223372036854775807) (((ZC x.2.1 y x.2.2/\LN x.2.2+Qmv l x.1<=140737488355328)/\True)/\∀(y_2:Nat),True->ZG l y/\∃(y_3:Nat×Nat×List UInt8),Vh l y_3.1 y_3.2.2/\LN l-y_3.1<LN l-x.1/\ZH x.1 y_3.1/\(SM y/\(QmD x.2.2 l x.1=LN y_3.2.2/\(∀(i:Nat),i<QmD x.2.2 l x.1->[ZB (BI (QmC x.2.2 l x.1) i)]=JG y_3.2.2 i)/\y_2=y_3.2.1)/\True)/\y_2=y_3.2.1/\True))) (((ZC x.2.1 y x.2.2/\LN x.2.2+QcR l x.1<=140737488355328)/\True)/\∀(y_2:Nat),True->ZG l y/\∃(y_3:Nat×Nat×List UInt8),Vh l y_3.1 y_3.2.2/\LN l-y_3.1<LN l-x.1/\ZH x.1 y_3.1/\(SM y/\(QmF x.2.2 l x.1=LN y_3.2.2/\(∀(i:Nat),i<QmF x.2.2 l x.1->[ZB (BI (QmE x.2.2 l x.1) i)]=JG y_3.2.2 i)/\y_2=y_3.2.1)/\True)/\y_2=y_3.2.1/\True)))) (((ZC x.2.1 y x.2.2/\LN x.2.2<=140737488355328)/\True)/\∀(y:Unit),True->RT (ZE x.2.2=Ih l))) (by kernel_rfl) ?_
 delta BI GI LI LN N0 N1 NI SI SM TN U0 Z0 Z1 ZB ZI Vh JG ZF Qmt Qmu QcS Qmv QvI Qmw ZG ZH Qmx ZC Qmy Qmz QmA QmB QmC QmD QmE QmF ZD QcR JH Qmq Qmr ZE Qms RT
 simp only[Bh,Bc,decide_eq_true_eq,true_and,and_true,exists_const,forall_const,Int.toNat_natCast,eq_self,Cp,Bnk,List.take_length,Bda]
 intro t
 refine⟨⟨(0,t,[]),JHd.init _ _,rfl,⟨rfl,fun i hi=>absurd hi (by omega),rfl⟩,rfl⟩,?_⟩
 rintro ⟨i,t1,out⟩ hh
 simp only at hh ⊢
 have h1:=hh.len
 have hd:=MK hc
 have hdd:Lib.join (l.map Bu) [32]=Ih l:=rfl
 rw[hdd] at h1
 refine⟨fun hlt=>?_,fun hge=>?_⟩
 ·have hlt':i<l.length:=by omega
  have hz:=hc _ (Bjd hlt')
  have hi:=Rz hz
  have hb:Co 32=32:=rfl
  have hm:i<(l.map Bu).length:=by simpa using hlt'
  have st:i≠0->JHd [32] (l.map Bu) (i+1) (out++[Co 32]++Bu (l.getD i 0)):=fun h0=>by
   have:=hh.step h0 hm
   rw[mapS hlt'] at this
   exact this
  have st0:i=0->JHd [32] (l.map Bu) (i+1) (out++Bu (l.getD i 0)):=fun h0=>by
   subst h0
   have:=hh.step0 hm
   rw[mapS hlt'] at this
   exact this
  refine⟨⟨by omega,by omega⟩,fun h0=>⟨⟨⟨by omega,by omega⟩,by omega⟩,hz,fun hn=>⟨⟨by omega,by omega,by omega⟩,by rw[List.length_drop];omega,?_,fun t3=>⟨(i+1,t3,out++[Co 32]++95::List.drop 1 (Lib.itoa (l.getD i 0))),?_,by simp only;omega,Bb (by omega) (by omega),⟨rfl,fun _ _=>rfl,rfl⟩,rfl⟩⟩,fun hn=>⟨?_,fun t3=>⟨(i+1,t3,out++[Co 32]++Lib.itoa (l.getD i 0)),?_,by simp only;omega,Bb (by omega) (by omega),⟨rfl,fun _ _=>rfl,rfl⟩,rfl⟩⟩⟩,
   fun h0=>⟨hz,fun hn=>⟨⟨by omega,by omega,by omega⟩,by rw[List.length_drop];omega,?_,fun t3=>⟨(i+1,t3,out++95::List.drop 1 (Lib.itoa (l.getD i 0))),?_,by simp only;omega,Bb (by omega) (by omega),⟨rfl,fun _ _=>rfl,rfl⟩,rfl⟩⟩,fun hn=>⟨?_,fun t3=>⟨(i+1,t3,out++Lib.itoa (l.getD i 0)),?_,by simp only;omega,Bb (by omega) (by omega),⟨rfl,fun _ _=>rfl,rfl⟩,rfl⟩⟩⟩⟩
  ·simp only[List.length_append,List.length_cons,List.length_nil,List.length_drop];omega
  ·rw[<- BaO hn];exact st (by omega)
  ·simp only[List.length_append,List.length_cons,List.length_nil];omega
  ·rw[<- BaC (n:=l.getD i 0) (by simpa using hn)];exact st (by omega)
  ·simp only[List.length_cons,List.length_drop];omega
  ·rw[<- BaO hn];exact st0 (by simpa using h0)
  ·omega
  ·rw[<- BaC (n:=l.getD i 0) (by simpa using hn)];exact st0 (by simpa using h0)
 ·have hge':¬i<l.length:=by simpa using hge
  have hd:=hh.done (by simpa using hge')
  exact⟨by omega,hd⟩
def Bh8:List UInt8:=[98,111,120,32]
def WF:List UInt8:=[32,114,101,115,104,97,112,101,32]
def G7(k:Int)(n:List Int)(ls:List (List UInt8)):List UInt8 :=
 if k=1 then Bu (n.getD 0 0) else if k=2 then Gn 39 [n.getD 0 0] else Bh8++ls.getD 0 []
def Wq(l:List UInt8):List UInt8:=40::(Bh8++l++[41])
def M5(k:Int)(n:List Int)(ls:List (List UInt8)):List UInt8 :=
 if k=2 then Gn 34 n else Lib.join (n.map Bu++ls.map Wq) [32]
def BdT(k:Int):List UInt8:=if k=1 then Bu 0 else if k=2 then Gn 39 [32] else Bh8++(Ih [0]++WF++Bu 0)
def TG(k:Int)(s n:List Int)(ls:List (List UInt8)):List UInt8 :=
 if s.length=0 then G7 k n ls
 else if s.length=1/\(k=2\/1<n.length+ls.length) then M5 k n ls
 else Ih s++WF++(if n.length+ls.length=0 then BdT k else if n.length+ls.length=1 then G7 k n ls else M5 k n ls)
mutual
def BU:Arr->List UInt8
 |.mk k s n is=>TG k s n (M9 is)
def M9:List Arr->List (List UInt8)
 | []=>[]
 |a::r=>BU a::M9 r
end
theorem MZ:∀l:List Arr,M9 l=l.map BU
 | []=>rfl
 |a::l=>by simp only[M9,List.map_cons,MZ l]
theorem BbC(a:Arr):BU a=TG a.k a.sh a.nu (a.it.map BU):=by
 cases a with
 |mk k s n is=>rw[BU,MZ];rfl
def Ca:List (List UInt8)->Nat
 | []=>0
 |x::l=>x.length+Ca l
theorem Bhf:∀l:List (List UInt8),(l.getD 0 []).length<=Ca l
 | []=>by simp[Ca]
 |x::l=>by simp[Ca]
theorem Ul:∀l r:List (List UInt8),Ca (l++r)=Ca l+Ca r
 | [],r=>by simp[Ca]
 |x::l,r=>by simp only[List.cons_append,Ca,Ul l r];omega
theorem Blg(sep:List UInt8):∀l:List (List UInt8),(jT sep l).length=sep.length*l.length+Ca l
 | []=>by simp[jT,Ca]
 |x::l=>by
  have:=Blg sep l
  simp only[jT,List.flatMap_cons,List.length_append,List.length_cons,Nat.mul_succ,Ca] at this ⊢
  omega
theorem Tl(sep:List UInt8)(l:List (List UInt8)):(Lib.join l sep).length<=sep.length*l.length+Ca l:=by
 cases l with
 |nil=>simp[Wz]
 |cons x l =>
  rw[BY]
  have:=Blg sep l
  simp only[List.length_append,List.length_cons,Nat.mul_succ,Ca]
  omega
theorem BdJ:∀l:List Int,(∀z∈l,Bs z)->Ca (l.map Bu)<=21*l.length
 | [],_=>by simp[Ca]
 |x::l,h=>by
  have h1:=BdJ l fun y hy=>h y (List.mem_cons_of_mem _ hy)
  have h2:=MP (h x List.mem_cons_self)
  simp only[List.map_cons,Ca,List.length_cons];omega
theorem Bdw:∀l:List (List UInt8),Ca (l.map Wq)=6*l.length+Ca l
 | []=>by simp[Ca]
 |x::l=>by
  have:=Bdw l
  simp only[List.map_cons,Ca,List.length_cons,this,Wq,Bh8,List.length_append,List.length_nil];omega
theorem W1(q:Int)(l:List Int):(Gn q l).length<=8+6*l.length:=by
 have h1:=E7 q
 have h2:=O4 q l
 simp only[Gn,List.length_append];omega
theorem BaQ{z:Int}(h:Bs z):(Bu z).length<=21:=(MP h).2
theorem BcL{l:List Int}(h:∀z∈l,Bs z):Bs (l.getD 0 0):=by
 cases l with
 |nil=>exact⟨by decide,by decide⟩
 |cons x l=>exact h x List.mem_cons_self
theorem BaL(k:Int){n:List Int}(hn:∀z∈n,Bs z)(ls:List (List UInt8)):(G7 k n ls).length<=21+Ca ls:=by
 have h1:=BaQ (BcL hn)
 have h2:=W1 39 [n.getD 0 0]
 have h3:=Bhf ls
 simp only[List.length_cons,List.length_nil] at h2
 unfold G7 Bh8
 split
 ·omega
 split
 ·omega
 ·simp only[List.length_append,List.length_cons,List.length_nil];omega
theorem U1(k:Int){n:List Int}(hn:∀z∈n,Bs z)(ls:List (List UInt8)):(M5 k n ls).length<=8+22*n.length+7*ls.length+Ca ls:=by
 have h1:=W1 34 n
 have h2:=Tl [32] (n.map Bu++ls.map Wq)
 have h3:=BdJ n hn
 have h4:=Bdw ls
 rw[Ul] at h2
 simp only[List.length_append,List.length_map,List.length_cons,List.length_nil] at h2
 unfold M5
 split<;>omega
theorem Bat(k:Int):(BdT k).length<=60:=by
 have h0:Bs 0:=⟨by decide,by decide⟩
 have h1:=BaQ h0
 have h2:=W1 39 [32]
 have h3:=MK (l:=[0]) (by simpa using h0)
 simp only[List.length_cons,List.length_nil] at h2 h3
 unfold BdT Bh8 WF
 split
 ·omega
 split
 ·omega
 ·simp only[List.length_append,List.length_cons,List.length_nil];omega
theorem BdV(k : Int){s n : List Int}(hs8 : s.length<=8)(hs : ∀z∈s, Bs z)(hn : ∀z∈n, Bs z)(ls : List (List UInt8)) :
  (TG k s n ls).length<=300+22*n.length+7*ls.length+Ca ls:=by
 have h1:=BaL k hn ls
 have h2:=U1 k hn ls
 have h3:=Bat k
 have h4:=MK hs
 unfold TG WF
 split
 ·omega
 split
 ·omega
 ·simp only[List.length_append,List.length_cons,List.length_nil]
  split
  ·omega
  split<;>omega
mutual
def Ba9:Arr->Nat
 |.mk _ _ n is=>n.length+RE is
def RE:List Arr->Nat
 | []=>0
 |a::r=>1+Ba9 a+RE r
end
theorem WW:∀a:Arr,a.ok->(BG a).1=0->(BU a).length<=600*Ba9 a+300
 |.mk k s n is,ho,h=>by
  obtain ⟨h1,_,_,h4⟩:=Gx h
  simp only[Arr.ok] at ho
  obtain ⟨_,hs,hn,_,_,_,hi⟩:=ho
  have hi:=(M3 _).1 hi
  have key:∀l:List Arr,(∀x∈l,x∈is)->7*l.length+Ca (M9 l)<=600*RE l:=fun l=>by
   induction l with
   |nil=>simp[M9,Ca,RE]
   |cons x l ih =>
    intro hl
    have h5:=ih fun y hy=>hl y (List.mem_cons_of_mem _ hy)
    have hx:x∈is:=hl x List.mem_cons_self
    have h6:=WW x (hi x hx) (h4 x hx)
    simp only[M9,Ca,RE,List.length_cons];omega
  have hk:=key is fun x hx=>hx
  have h7:=BdV k h1 hs hn (M9 is)
  have h8:(M9 is).length=is.length:=by rw[MZ,List.length_map]
  simp only[BU,Ba9]
  omega
termination_by a=>SizeOf.sizeOf a
decreasing_by
 have:=List.sizeOf_lt_of_mem hx
 simp;omega
theorem Bc2:∀(l:List Arr) (d w:Int) (r:Int×Int),G3 l d w=some r->262145<=w->262145<=r.2
 | [],d,w,r,h,hw=>by rw[G3] at h;injection h with h;subst h;exact hw
 |x::l,d,w,r,h,hw=>by
  rw[G3] at h
  split at h
  ·cases h
  ·have hb:=(Il x).2.1
   refine Bc2 l _ _ r h ?_
   split<;>omega
theorem Bb8:∀(l:List Arr),(∀x∈l,(BG x).1=0->(BG x).2.2=Ba9 x)->∀(d w:Int) (r:Int×Int),G3 l d w=some r->r.2<=262144->r.2=w+RE l-l.length
 | [],_,d,w,r,h,_=>by rw[G3] at h;injection h with h;subst h;simp[RE]
 |x::l,hx,d,w,r,h,hr=>by
  rw[G3] at h
  split at h
  ·cases h
  ·rename_i h0
   have h0:(BG x).1=0:=Decidable.not_not.1 h0
   have h1:=hx x List.mem_cons_self h0
   by_cases hb:262145<w+(BG x).2.2
   ·rw[if_pos hb] at h
    have:=Bc2 l _ _ r h (Int.le_refl _)
    omega
   ·rw[if_neg hb] at h
    have:=Bb8 l (fun y hy=>hx y (List.mem_cons_of_mem _ hy)) _ _ r h hr
    simp only[RE,List.length_cons]
    omega
theorem BcP:∀a:Arr,(BG a).1=0->(BG a).2.2=Ba9 a
 |.mk k s n is,h=>by
  have hx:∀x∈is,(BG x).1=0->(BG x).2.2=Ba9 x:=fun x hx h=>BcP x h
  rw[BG] at h ⊢
  by_cases h0:Cq k s n.length is.length≠0
  ·rw[if_pos h0] at h;exact (h0 h).elim
  ·rw[if_neg h0] at h ⊢
   by_cases hb:n.any (Gd k)=true
   ·rw[if_pos hb] at h;simp at h
   ·rw[if_neg hb] at h ⊢
    cases hr:G3 is 0 ((n.length:Int)+is.length) with
    |none=>rw[hr] at h;simp at h
    |some r =>
     rw[hr] at h
     simp only at h ⊢
     by_cases hc:16<r.1\/262144<r.2
     ·rw[if_pos hc] at h;simp at h
     ·rw[if_neg hc]
      have:=Bb8 is hx _ _ r hr (by omega)
      simp only[Ba9]
      omega
termination_by a=>SizeOf.sizeOf a
decreasing_by
 have:=List.sizeOf_lt_of_mem hx
 simp;omega
theorem Bje{a:Arr}(h:(BG a).1=0):Ba9 a<=262144:=by
 have h1:=BcP a h
 have h2:=Il a
 omega
theorem Bo8{a:Arr}(ho:a.ok)(h:(BG a).1=0):(BU a).length<=157286700:=by
 have h1:=WW a ho h
 have h2:=Bje h
 omega
def BgH(its:List Arr):Con:=fun k ds S=>match k with
 |158=>some (sRc Arr.row1 (fun b=>b∈its) (fun b=>.str (BU b)))
 |177=>match ds with
  | [.sl 1 n f m]=>some (pC [.sl 1 n f m] (.str (Lib.join (BF n f) [32])) (C3 n f=true/\Gf (BF n f) [32]))
  |_=>none
 |k=>WJ k ds S
theorem Blp{its:List Arr}(ih:∀b∈its,ACalls Tryz.prog 158 ((sRc Arr.row2 (fun _=>True) (fun b=>.str (BU b))).args b) ⟨[],[]⟩ (SpecR (sRc Arr.row2 (fun _=>True) (fun b=>.str (BU b))) b)):ConOk Tryz.prog (BgH its):=by
 intro k ds S A h
 unfold BgH at h
 split at h
 ·injection h with h;subst h
  exact ConOk.plain (fun b hb=>BaZ (ih b hb)) rfl rfl
 ·split at h
  ·injection h with h;subst h
   exact BM fun ⟨h1,h2⟩=>⟨Bj _,Cb (us:=[ssl (BF _ _) .any]) ⟨Me h1,trivial⟩ (Bcw _ h2)⟩
  ·cases h
 ·exact Mh _ _ _ _ h
noncomputable def Evc(a:Arr):Senv:={ EC (BgH a.it) 44 4 [5,7,10,15,16,17,18,28,29,30,31] (fun _=>([],[])) with
 gh:=fun b=>match b with
  |0=>[.slot 3]
  |_=>[]
 ann:=fun b _ S=>match b with
  |0=>some { slots:=[17,3],keep:=[1,15,16],α:=Nat×Nat×List (List UInt8),st:=fun y=>([.int .i64 y.1,ssl y.2.2 (.tok 0 y.2.1)],⟨S.objs,[(0,y.2.1)]⟩),inv:=fun y=>y.1<=a.nu.length/\y.2.2=(a.nu.take y.1).map Bu,mu:=fun y=>a.nu.length-y.1 }
  |2=>some { slots:=[30,3],keep:=[1,28,29],α:=Nat×Nat×List (List UInt8),st:=fun y=>([.int .i64 y.1,ssl y.2.2 (.tok 0 y.2.1)],⟨S.objs,[(0,y.2.1)]⟩),inv:=fun y=>y.1<=a.it.length/\y.2.2=a.nu.map Bu++(a.it.take y.1).map (fun b=>Wq (BU b)),mu:=fun y=>a.it.length-y.1 }
  |_=>none }
theorem Ta{l : List (List UInt8)}{s : List UInt8} :
  ∀i,i<l.length+1->BW l.length (fun i=>[D.str (l.getD i [])]) (fun i=>[D.str ([s].getD i [])]) i=[D.str ((l++[s]).getD i [])]:=by
 intro i hi
 simp only[BW]
 split
 ·rename_i hlt
  simp[List.getD_eq_getElem?_getD,List.getElem?_append_left hlt]
 ·have:i=l.length:=by omega
  subst this
  simp[List.getD_eq_getElem?_getD]
theorem Bgl{α:Type}{l:List α}{i:Nat}(d:α)(h:i<l.length):l.take (i+1)=l.take i++[l.getD i d]:=by
 rw[List.take_add_one,List.getElem?_eq_getElem h,List.getD_eq_getElem?_getD,List.getElem?_eq_getElem h];rfl
theorem Bnn{a:Arr}(h:(BG a).1=0)(h2:a.k=2):∀c∈a.nu,0<=c/\c<=1114111:=by
 cases a with
 |mk k s n is =>
  have h2:k=2:=h2
  subst h2
  rw[BG] at h
  by_cases h0:Cq 2 s n.length is.length≠0
  ·rw[if_pos h0] at h;exact (h0 h).elim
  ·rw[if_neg h0] at h
   by_cases hb:n.any (Gd 2)=true
   ·rw[if_pos hb] at h;simp at h
   ·intro c hc
    have hb:¬Gd 2 c=true:=fun h=>hb (List.any_eq_true.2 ⟨c,hc,h⟩)
    have:Bdv c=true:=by simpa[Gd] using hb
    simp only[Bdv,Bool.and_eq_true,decide_eq_true_eq] at this
    omega
theorem Bhj{a:Arr}(ho:a.ok)(h:(BG a).1=0):7*a.it.length+Ca (a.it.map BU)<=157286400:=by
 have ht:=Bje h
 cases a with
 |mk k s n is =>
  obtain ⟨_,_,_,h4⟩:=Gx h
  simp only[Arr.ok] at ho
  have hi:=(M3 _).1 ho.2.2.2.2.2.2
  have key:∀l:List Arr,(∀x∈l,x∈is)->7*l.length+Ca (l.map BU)<=600*RE l:=fun l=>by
   induction l with
   |nil=>simp[Ca,RE]
   |cons x l ih =>
    intro hl
    have h5:=ih fun y hy=>hl y (List.mem_cons_of_mem _ hy)
    have hx:x∈is:=hl x List.mem_cons_self
    have h6:=WW x (hi x hx) (h4 x hx)
    simp only[List.map_cons,Ca,RE,List.length_cons];omega
  have hk:=key is fun x hx=>hx
  simp only[Ba9] at ht
  show 7*is.length+Ca (is.map BU)<=_
  omega
theorem UN:∀ {l:List Arr} {x:Arr},x∈l->(BU x).length<=Ca (l.map BU)
 |y::l,x,h=>by
  simp only[List.map_cons,Ca]
  rcases List.mem_cons.1 h with rfl | h
  ·omega
  ·have:=UN h;omega
theorem BkQ{a:Arr}(ho:a.ok)(h:(BG a).1=0):a.sh.length<=8/\a.nu.length<=65536/\a.it.length<=65536/\(∀z∈a.sh,Bs z)/\∀z∈a.nu,Bs z:=by
 cases a with
 |mk k s n is =>
  obtain ⟨h1,h2,h3,_⟩:=Gx h
  simp only[Arr.ok] at ho
  exact⟨h1,h2,h3,ho.2.1,ho.2.2.1⟩
structure LOk (a:Arr):Prop where
 kd:a.k=1\/a.k=2\/a.k=3
 s8:a.sh.length<=8
 n6:a.nu.length<=65536
 i6:a.it.length<=65536
 si:∀z∈a.sh,Bs z
 ni:∀z∈a.nu,Bs z
 sum:7*a.it.length+Ca (a.it.map BU)<=157286400
 chr:a.k=2->∀c∈a.nu,0<=c/\c<=1114111
 no:a.k≠3->a.it=[]
 bx:a.k=3->a.nu=[]
 sc:a.sh.length=0->a.nu.length+a.it.length=1
def ZJ(a:Arr):Int:=Arr.k a
def JI(a:Arr):List Int:=Arr.nu a
def KC(a:Arr):Nat:=LN (JI a)
def Xe(a:Arr)(b:Nat):List D:=[ZI (GI (JI a) b)]
def QmG(a:Arr):List Int:=Bp (KC a) fun i=>Xe a i
def Vi(a:Arr):List Arr:=Arr.it a
def QmH(a:Arr):List UInt8:=M5 (ZJ a) (JI a) (List.map BU (Vi a))
def QcT(a:Nat)(b:Arr)(c:List (List UInt8)):Prop:=a<=KC b/\c=List.map Bu (List.take a (JI b))
def KZ(a:List (List UInt8))(b:Nat):List D:=[D.str (List.getD a b [])]
def QcU(a:Arr):Nat:=LN (Arr.sh a)
def QmI(a:Arr)(b:Nat):List D:=[ZI (GI (Arr.sh a) b)]
def Je(a:Arr):Nat:=LN (Vi a)
def ZK:Arr:=DA
def Xf(a:Arr)(b:Nat):Arr:=List.getD (Vi a) b ZK
def QvJ(a:Arr)(b:Nat):List Int:=Arr.sh (Xf a b)
def QvK(a:Arr)(b:Nat):List Int:=Arr.nu (Xf a b)
def QmJ(a:Arr)(b:Nat):List Arr:=Arr.it (Xf a b)
def QmK(a:Arr)(b:Nat):List D:=[ZI (Arr.k (Xf a b)),SI (QvJ a b),SI (QvK a b),D.sl N4 (LN (QmJ a b)) (fun i=>Arr.row (List.getD (QmJ a b) i ZK)) Mode.any]
def ZL(a:Nat)(b:Arr)(c d:Nat):Prop:=(SM a/\(SM (ZJ b)/\(SM (QcU b)/\(∀(i:Nat),i<QcU b->SM (QmI b i))/\True)/\(SM (KC b)/\(∀(i:Nat),i<KC b->SM (Xe b i))/\True)/\(SM (Je b)/\(∀(i:Nat),i<Je b->SM (QmK b i))/\True)/\True)/\True)/\c=d/\True
def QcV(a:Arr):Int:=(NI (KC a))
def QvL(a:Arr):D:=D.sl N1 (KC a) (fun i=>Xe a i) Mode.any
def ZM(a:Arr):List UInt8:=BU a
def QcW(a:Nat)(c:Arr)(d:List (List UInt8)):Prop:=a<=Je c/\d=List.map Bu (JI c)++List.map (fun (b:Arr)=>Wq (ZM b)) (List.take a (Vi c))
def QcX(a:Arr):Int:=(NI (Je a))
def ZN(a:Arr)(b:Nat):Arr:=List.getD (Vi a) (Int.toNat (↑b:Int)) ZK
def QmL(a:Arr)(b:Nat):List Int:=Arr.sh (ZN a b)
def QmM(a:Arr)(b:Nat):Nat:=LN (QmL a b)
def QmN(a:Arr)(b:Nat):List Int:=Arr.nu (ZN a b)
def QmO(a:Arr)(b:Nat):Nat:=LN (QmN a b)
def QmP(a:Arr)(b:Nat):List Arr:=Arr.it (ZN a b)
def QmQ(a:Arr)(b:Nat):Nat:=LN (QmP a b)
def QvM(a:Arr):D:=D.sl N4 (Je a) (fun i=>QmK a i) Mode.any
def QmR(a:List (List UInt8)):List (List UInt8):=BF (LN a) fun i=>KZ a i
theorem BiF(a : Arr)(ho : LOk a)(hc : ConOk Tryz.prog (BgH a.it)) :
  ACalls Tryz.prog 178 ((sRc Arr.row2 (fun _=>True) (fun a=>.str (M5 a.k a.nu (a.it.map BU)))).args a) ⟨[],[]⟩ (SpecR (sRc Arr.row2 (fun _=>True) (fun a=>.str (M5 a.k a.nu (a.it.map BU)))) a):=by
 refine Bf (A:=sRc Arr.row2 (fun _=>True) (fun a=>.str (M5 a.k a.nu (a.it.map BU)))) (x:=a) (E:=Evc a) (eOk hc rfl) Tryz.func178 rfl (by kernel_rfl) rfl (by simp[sRc,Evc,EC,E0]) ?_
 refine Bk (T :=
  ∀(x:Nat),True->SM x/\ifB (ZJ a==2) (SM x/\(KC a<=1099511627776/\(IntsP (KC a) fun i=>Xe a i)/\∀(c:Int),c∈QmG a->Z0<=c/\c<=1114111)/\∀(y:Unit),True->RT (Gn (34:Int) (QmG a)=QmH a)) (SM x/\∀(t:Nat),(∃(x_1:Nat×Nat×List (List UInt8)),QcT x_1.1 a x_1.2.2/\(Z0=(NI x_1.1)/\(N0=LN x_1.2.2/\(∀(i:Nat),i<N0->CN (List D) [] (KZ x_1.2.2 i))/\t=x_1.2.1)/\True)/\ZL x a t x_1.2.1)/\∀(x_1:Nat×Nat×List (List UInt8)),QcT x_1.1 a x_1.2.2->ifB (decide ((NI x_1.1)<QcV a)) (Be (Z0<=(NI x_1.1)/\(NI x_1.1)<QcV a) (Bs (GI (JI a) (TN x_1.1))/\∀(y:Unit),True->SM x_1.2.1/\Be ((LN x_1.2.2+N1)*16<=140737488355328/\LN x_1.2.2+N1<=9223372036854775807) (∀(t:Nat),(SM (D.ref N0 x N0)/\SM (QvL a)/\SM (ZI (QcV a))/\True)/\∃(y:Nat×Nat×List (List UInt8)),QcT y.1 a y.2.2/\KC a-y.1<KC a-x_1.1/\(IntKind.wrap IntKind.i64 ((NI x_1.1)+Z1)=(NI y.1)/\(LN x_1.2.2+N1=LN y.2.2/\(∀(i:Nat),i<LN x_1.2.2+N1->BW (LN x_1.2.2) (fun i=>KZ x_1.2.2 i) (fun i=>[D.str (List.getD [Bu (GI (JI a) (TN x_1.1))] i [])]) i=KZ y.2.2 i)/\t=y.2.1)/\True)/\ZL x a t y.2.1))) (SM x/\(∃(x_2:Nat×Nat×List (List UInt8)),QcW x_2.1 a x_2.2.2/\(Z0=(NI x_2.1)/\(LN x_1.2.2=LN x_2.2.2/\(∀(i:Nat),i<LN x_1.2.2->KZ x_1.2.2 i=KZ x_2.2.2 i)/\x_1.2.1=x_2.2.1)/\True)/\ZL x a x_1.2.1 x_2.2.1)/\∀(x_2:Nat×Nat×List (List UInt8)),QcW x_2.1 a x_2.2.2->ifB (decide ((NI x_2.1)<QcX a)) (Be (Z0<=(NI x_2.1)/\(NI x_2.1)<QcX a) (∀(x_3:Nat),x≠x_3/\True->SM x_3/\SM x_3/\∃(x_4:Arr),((Arr.k (ZN a x_2.1)=ZJ x_4/\(QmM a x_2.1=QcU x_4/\(∀(i:Nat),i<QmM a x_2.1->[ZI (GI (QmL a x_2.1) i)]=QmI x_4 i)/\True)/\(QmO a x_2.1=KC x_4/\(∀(i:Nat),i<QmO a x_2.1->[ZI (GI (QmN a x_2.1) i)]=Xe x_4 i)/\True)/\(QmQ a x_2.1=Je x_4/\(∀(i:Nat),i<QmQ a x_2.1->Arr.row (List.getD (QmP a x_2.1) i ZK)=Arr.row (Xf x_4 i))/\True)/\True)/\True)/\(True/\True)/\x_4∈Vi a/\∀(y:Unit),True->Be ((5:Nat)+LN (ZM x_4)<=9223372036854775807) (Be (LN ((40:UInt8)::(98:UInt8)::(111:UInt8)::(120:UInt8)::(32:UInt8)::List.append [] (ZM x_4))+N1<=9223372036854775807) (SM x_2.2.1/\Be ((LN x_2.2.2+N1)*16<=140737488355328/\LN x_2.2.2+N1<=9223372036854775807) (∀(t:Nat),(SM (D.ref N0 x N0)/\SM (QvM a)/\SM (ZI (QcX a))/\True)/\∃(y:Nat×Nat×List (List UInt8)),QcW y.1 a y.2.2/\Je a-y.1<Je a-x_2.1/\(IntKind.wrap IntKind.i64 ((NI x_2.1)+Z1)=(NI y.1)/\(LN x_2.2.2+N1=LN y.2.2/\(∀(i:Nat),i<LN x_2.2.2+N1->BW (LN x_2.2.2) (fun i=>KZ x_2.2.2 i) (fun i=>[D.str (List.getD [(40:UInt8)::(98:UInt8)::(111:UInt8)::(120:UInt8)::(32:UInt8)::List.append (List.append [] (ZM x_4)) [(41:UInt8)]] i [])]) i=KZ y.2.2 i)/\t=y.2.1)/\True)/\ZL x a t y.2.1))))) (((C3 (LN x_2.2.2) fun i=>KZ x_2.2.2 i)=true/\Gf (QmR x_2.2.2) [(32:UInt8)])/\∀(y:Unit),True->RT (Lib.join (QmR x_2.2.2) [(32:UInt8)]=QmH a))))) (by kernel_rfl) ?_
 delta DA GI LN N0 N1 N4 NI SI SM TN Z0 Z1 ZI ZJ JI QmI Je ZK Xf QvJ QvK QmJ QmK ZL QcV KC QvL ZM QcW QcX ZN QmL QmM QmN QmO QmP Xe QmQ QvM QmR QmG Vi QmH QcT KZ QcU RT
 have da:(default:Arr)=Arr.mk 0 [] [] []:=rfl
 simp only[<- da,Bh,Bc,decide_eq_true_eq,decide_eq_false_iff_not,true_and,and_true,beq_iff_eq,beq_eq_false_iff_ne,ne_eq,exists_const,forall_const,Int.toNat_natCast]
 simp only[Cl]
 obtain ⟨_,l1,l2,l3,l4,l5,hsum,hchr,_,_,_⟩:=ho
 have tt:(∀i:Nat,i<a.sh.length->True)/\(∀i:Nat,i<a.nu.length->True)/\∀i:Nat,i<a.it.length->True:=⟨fun _ _=>trivial,fun _ _=>trivial,fun _ _=>trivial⟩
 intro x
 refine⟨fun h2=>⟨⟨by omega,CF _,hchr h2⟩,by rw[M5,if_pos h2]⟩,fun h2 t=>⟨⟨(0,t,[]),⟨Nat.zero_le _,rfl⟩,⟨rfl,rfl,fun i hi=>absurd hi (by omega),rfl⟩,tt,rfl⟩,?_⟩⟩
 rintro ⟨i,t1,out⟩ ⟨hi,he⟩
 simp only at hi he ⊢
 have ho1:out.length=i:=by rw[he,List.length_map,List.length_take];omega
 refine⟨fun hlt=>?_,fun hge=>⟨⟨(0,t1,out),⟨Nat.zero_le _,?_⟩,⟨rfl,rfl,fun _ _=>rfl,rfl⟩,tt,rfl⟩,?_⟩⟩
 ·have hlt':i<a.nu.length:=by omega
  refine⟨⟨by omega,by omega⟩,l5 _ (Bjd hlt'),⟨by omega,by omega⟩,fun t2=>⟨(i+1,t2,out++[Bu (a.nu.getD i 0)]),⟨by simp only;omega,?_⟩,by simp only;omega,⟨Bb (by omega) (by omega),by simp,Ta,rfl⟩,tt,rfl⟩⟩
  simp only
  rw[Bgl 0 hlt',List.map_append,he];rfl
 ·have:i=a.nu.length:=by omega
  subst this
  rw[he];simp
 rintro ⟨j,t3,o2⟩ ⟨hj,he2⟩
 simp only at hj he2 ⊢
 have ho2:o2.length=a.nu.length+j:=by rw[he2,List.length_append,List.length_map,List.length_map,List.length_take];omega
 refine⟨fun hlt=>⟨⟨by omega,by omega⟩,fun x3 _=>?_⟩,fun hge=>?_⟩
 ·have hlt':j<a.it.length:=by omega
  have hm:=GR hlt'
  have hl:=UN hm
  refine⟨a.it.getD j default,⟨rfl,⟨rfl,fun _ _=>rfl⟩,⟨rfl,fun _ _=>rfl⟩,rfl,fun _ _=>rfl⟩,hm,by omega,?_,⟨by omega,by omega⟩,fun t4=>⟨(j+1,t4,o2++[Wq (BU (a.it.getD j default))]),⟨by simp only;omega,?_⟩,by simp only;omega,⟨Bb (by omega) (by omega),by simp,Ta,rfl⟩,tt,rfl⟩⟩
  ·simp only[List.length_cons,Bda];omega
  ·simp only
   rw[Bgl default hlt',List.map_append,he2,List.append_assoc];rfl
 ·have hj':j=a.it.length:=by omega
  subst hj'
  rw[List.take_length] at he2
  have hv:Lib.join o2 [32]=M5 a.k a.nu (a.it.map BU):=by
   rw[M5,if_neg h2,he2,List.map_map];rfl
  have hvl:=U1 a.k l5 (a.it.map BU)
  rw[List.length_map] at hvl
  rw[Iw (l:=o2) rfl (fun _ _=>rfl)]
  exact⟨⟨Md (l:=o2) rfl (fun _ _=>rfl),by omega,by rw[hv];omega⟩,hv⟩
def sAt(q:Arr->Prop):FnSpec where
 β:=Arr
 α:=Unit
 args:=fun a=>[.agg a.row2,.int .i64 0]
 st:=fun _=>⟨[],[]⟩
 pre:=q
 post:=fun _ _=>True
 res:=fun a _=>.ret (.agg (atA a 0).row1)
 out:=fun _ _=>⟨[],[]⟩
def Bgf(a:Arr)(q:Arr->Prop):Con:=fun k ds S=>match k with
 |158=>some (sRc Arr.row1 q (fun b=>.str (BU b)))
 |178=>some (sRc Arr.row2 (fun b=>b=a) (fun b=>.str (M5 b.k b.nu (b.it.map BU))))
 |179=>some (sRc Arr.row2 (fun b=>b=a) (fun b=>.agg (M7 b.k).row1))
 |180=>some (sAt (fun b=>b=a/\a.nu.length+a.it.length=1))
 |181=>match ds with
  | [.sl 1 n f m]=>some (pC [.sl 1 n f m] (.str (Ih (Bp n f))) (IntsP n f/\n<=1099511627776/\∀z∈Bp n f,Bs z))
  |_=>none
 |177=>match ds with
  | [.sl 1 n f m]=>some (pC [.sl 1 n f m] (.str (Lib.join (BF n f) [32])) (C3 n f=true/\Gf (BF n f) [32]))
  |_=>none
 |k=>WJ k ds S
theorem BpT(x y:List UInt8):Lib.join [x,y] [32]=x++32::y:=by rw[BY];simp[jT]
theorem BpV(x y z:List UInt8):Lib.join [x,y,z] [32]=x++(32::(y++32::z)):=by rw[BY];simp[jT]
theorem BqN(x y:List UInt8):BF 2 (fun i=>[D.str ([x,y].getD i [])])=[x,y]:=rfl
theorem Bp1(x y z:List UInt8):BF 3 (fun i=>[D.str ([x,y,z].getD i [])])=[x,y,z]:=rfl
theorem Bpo(x y:List UInt8):C3 2 (fun i=>[D.str ([x,y].getD i [])])=true:=rfl
theorem BoQ(x y z:List UInt8):C3 3 (fun i=>[D.str ([x,y,z].getD i [])])=true:=rfl
theorem Bqi(z:Int):Bp 1 (fun i=>[[D.int .i64 z]].getD i [])=[z]:=rfl
theorem Bpc(z:Int):IntsP 1 (fun i=>[[D.int .i64 z]].getD i []):=fun i hi=>by
 have:i=0:=by omega
 subst this;rfl
theorem Bdz{k:Int}(h:k=1\/k=2\/k=3):BU (M7 k)=BdT k:=by
 rcases h with rfl | rfl | rfl
 ·rfl
 ·rfl
 ·rfl
theorem R7(k:Int)(n:List Int)(is:List Arr):BU (.mk k [] n is)=G7 k n (is.map BU):=by
 rw[BU,MZ,TG,if_pos List.length_nil]
theorem Bi4{a:Arr}(kd:a.k=1\/a.k=2\/a.k=3)(bx:a.k=3->a.nu=[])(h:a.nu.length+a.it.length=1):BU (atA a 0)=G7 a.k a.nu (a.it.map BU):=by
 unfold atA
 by_cases h3:a.k=3
 ·rw[if_pos h3,R7,h3]
  cases hi:a.it with
  |nil=>rw[bx h3,hi] at h;simp at h
  |cons x l=>rfl
 ·rw[if_neg h3,R7,G7,G7]
  by_cases h1:a.k=1
  ·rw[if_pos h1,if_pos h1];rfl
  ·rw[if_neg h1,if_neg h1,if_pos (by omega),if_pos (by omega)];rfl
noncomputable def Elf(a:Arr)(q:Arr->Prop):Senv:=EC (Bgf a q) 90 5 [12,27,43,55,71,74,79] (fun _=>([],[]))
def KD(a:Arr):Nat:=LN (Arr.sh a)
def Xg(a:Arr):Bool:=(NI (KD a))==Z0
def KM(a:Arr):Int:=Arr.k a
def QcY(a:Arr):Bool:=bif Xg a then KM a==Z1 else false
def ZO(a:Arr):List Int:=Arr.nu a
def Jf(a:Arr):Nat:=LN (ZO a)
def QcZ(a:Arr):Int:=(NI (Jf a))
def Qc0(a:Arr):Int:=GI (ZO a) N0
def Jg(a:Arr):List UInt8:=BU a
def ZP(a:Arr):Bool:=KM a==2
def Qc1(a:Arr):Bool:=bif Xg a then ZP a else false
def QmS(a:Arr)(b:Nat):List D:=List.getD [[ZI (Qc0 a)]] b []
def QmT(a:Arr):List Int:=Bp N1 fun i=>QmS a i
def ZQ(a:Arr):List Arr:=Arr.it a
def K0(a:Arr):Nat:=LN (ZQ a)
def Vj:Arr:=DA
def ZR(a:Arr):Arr:=List.getD (ZQ a) N0 Vj
def QmU(a:Arr):List Int:=Arr.sh (ZR a)
def QmV(a:Arr):Nat:=LN (QmU a)
def JJ(a:Arr)(b:Nat):List D:=[ZI (GI (Arr.sh a) b)]
def QmW(a:Arr):List Int:=Arr.nu (ZR a)
def QmX(a:Arr):Nat:=LN (QmW a)
def Xh(a:Arr)(b:Nat):List D:=[ZI (GI (ZO a) b)]
def QmY(a:Arr):List Arr:=Arr.it (ZR a)
def QmZ(a:Arr):Nat:=LN (QmY a)
def Xi(a:Arr)(b:Nat):Arr:=List.getD (ZQ a) b Vj
def Qc2(a:Arr)(b:Nat):List D:=Arr.row (Xi a b)
def Qm0(a:Arr)(b:Nat):List D:=[D.str (List.getD [[(98:UInt8),(111:UInt8),(120:UInt8)],Jg a] b [])]
def Qm1(a:Arr):List (List UInt8):=BF N2 fun i=>Qm0 a i
def Qm2(a:Arr):Bool:=(NI (KD a))==Z1
def Qc3(a:Arr):Int:=IntKind.wrap IntKind.i64 (QcZ a+(NI (K0 a)))
def Qm3(a:Arr):Bool:=decide (Z1<Qc3 a)
def ZS(a:Arr):Bool:=bif Qm2 a then bif ZP a then true else Qm3 a else false
def QvN(a:Arr)(b:Nat):List Int:=Arr.sh (Xi a b)
def QvO(a:Arr)(b:Nat):List Int:=Arr.nu (Xi a b)
def Qm4(a:Arr)(b:Nat):List Arr:=Arr.it (Xi a b)
def Qm5(a:Arr)(b:Nat):List D:=[ZI (Arr.k (Xi a b)),SI (QvN a b),SI (QvO a b),D.sl N4 (LN (Qm4 a b)) (fun i=>Arr.row (List.getD (Qm4 a b) i Vj)) Mode.any]
def Qm6(a b:Arr):Prop:=KM a=KM b/\(KD a=KD b/\(∀(i:Nat),i<KD a->JJ a i=JJ b i)/\True)/\(Jf a=Jf b/\(∀(i:Nat),i<Jf a->Xh a i=Xh b i)/\True)/\(K0 a=K0 b/\(∀(i:Nat),i<K0 a->Qm5 a i=Qm5 b i)/\True)/\True
def Qc4(a b:Arr):Prop:=Qm6 a b/\True
def Qm7(a:Arr):List UInt8:=M5 (KM a) (ZO a) (List.map BU (ZQ a))
def ZT(a:Arr):Arr:=M7 (KM a)
def Qm8(a:Arr):List Int:=Arr.sh (ZT a)
def Qm9(a:Arr):Nat:=LN (Qm8 a)
def Qna(a:Arr):List Int:=Arr.nu (ZT a)
def Qnb(a:Arr):Nat:=LN (Qna a)
def Qnc(a:Arr):List Arr:=Arr.it (ZT a)
def Qnd(a:Arr):Nat:=LN (Qnc a)
def Qne(a:Arr):List Int:=Bp (KD a) fun i=>JJ a i
def Qnf(a:Arr):Prop:=(IntsP (KD a) fun i=>JJ a i)/\KD a<=1099511627776/\∀(z:Int),z∈Qne a->Bs z
def Qng(a:Arr):List UInt8:=Ih (Qne a)
def Qnh(a b:Arr)(c:Nat):List D:=[D.str (List.getD [Qng a,[(114:UInt8),(101:UInt8),(115:UInt8),(104:UInt8),(97:UInt8),(112:UInt8),(101:UInt8)],Jg b] c [])]
def Qni(a b:Arr):List (List UInt8):=BF (3:Nat) fun i=>Qnh a b i
def Qnj(a:Arr->Prop)(b:Arr)(c:Nat)(d:Arr):Prop:=(True/\True)/\a b/\∀(_y:Unit),True->SM c/\Qnf d/\∀(_y:Unit),True->((C3 (3:Nat) fun i=>Qnh d b i)=true/\Gf (Qni d b) [(32:UInt8)])/\∀(_y:Unit),True->True/\∃(_y:Unit),True/\Lib.join (Qni d b) [(32:UInt8)]=Jg d/\True/\True
def ZU(a:Arr):Arr:=atA a N0
def Qnk(a:Arr):List Int:=Arr.sh (ZU a)
def Qnl(a:Arr):Nat:=LN (Qnk a)
def Qnm(a:Arr):List Int:=Arr.nu (ZU a)
def Qnn(a:Arr):Nat:=LN (Qnm a)
def Qno(a:Arr):List Arr:=Arr.it (ZU a)
def Qnp(a:Arr):Nat:=LN (Qno a)
def Qnq(a b:Arr)(c:Nat):List D:=[D.str (List.getD [Qng a,[(114:UInt8),(101:UInt8),(115:UInt8),(104:UInt8),(97:UInt8),(112:UInt8),(101:UInt8)],Qm7 b] c [])]
def Qnr(a b:Arr):List (List UInt8):=BF (3:Nat) fun i=>Qnq a b i
theorem RL(a : Arr)(q : Arr -> Prop)(ho : LOk a)(hi : ∀b∈a.it, q b)(h0 : a.sh.length≠0 -> a.nu.length+a.it.length=0 -> q (M7 a.k))(h1 : a.sh.length≠0 -> a.nu.length+a.it.length=1 -> q (atA a 0))(hc : ConOk Tryz.prog (Bgf a q)) :
  ACalls Tryz.prog 158 ((sRc Arr.row2 (fun _=>True) (fun b=>.str (BU b))).args a) ⟨[],[]⟩ (SpecR (sRc Arr.row2 (fun _=>True) (fun b=>.str (BU b))) a):=by
 refine Bf (A:=sRc Arr.row2 (fun _=>True) (fun b=>.str (BU b))) (x:=a) (E:=Elf a q) (eOk hc rfl) Tryz.func158 rfl (by kernel_rfl) rfl (by simp[sRc,Elf,EC,E0]) ?_
 refine Bk (T :=
  ∀(x:Nat),True->SM x/\SM x/\(SM x/\ifB (Xg a) (SM x/\(KM a==Z1)=QcY a/\True) (false=QcY a/\True))/\ifB (QcY a) (SM x/\Be (Z0<=Z0/\Z0<QcZ a) (Bs (Qc0 a)/\∀(y:Unit),True->RT (Bu (Qc0 a)=Jg a))) ((SM x/\ifB (Xg a) (SM x/\ZP a=Qc1 a/\True) (false=Qc1 a/\True))/\ifB (Qc1 a) (SM x/\Be (Z0<=Z0/\Z0<QcZ a) ((N1<=1099511627776/\(IntsP N1 fun i=>QmS a i)/\∀(c:Int),c∈QmT a->Z0<=c/\c<=1114111)/\∀(y:Unit),True->RT (Gn (39:Int) (QmT a)=Jg a))) (SM x/\ifB (Xg a) (SM x/\Be (Z0<=Z0/\Z0<(NI (K0 a))) (∃(x:Arr),((Arr.k (ZR a)=KM x/\(QmV a=KD x/\(∀(i:Nat),i<QmV a->[ZI (GI (QmU a) i)]=JJ x i)/\True)/\(QmX a=Jf x/\(∀(i:Nat),i<QmX a->[ZI (GI (QmW a) i)]=Xh x i)/\True)/\(QmZ a=K0 x/\(∀(i:Nat),i<QmZ a->Arr.row (List.getD (QmY a) i Vj)=Qc2 x i)/\True)/\True)/\True)/\(True/\True)/\q x/\∀(y:Unit),True->((C3 N2 fun i=>Qm0 x i)=true/\Gf (Qm1 x) [(32:UInt8)])/\∀(y:Unit),True->RT (Lib.join (Qm1 x) [(32:UInt8)]=Jg a))) ((SM x/\ifB (Qm2 a) (SM x/\ifB (ZP a) (true=ZS a/\True) (Qm3 a=ZS a/\True)) (false=ZS a/\True))/\ifB (ZS a) (SM x/\∃(x:Arr),Qc4 a x/\(True/\True)/\x=a/\∀(y:Unit),True->RT (Qm7 x=Jg a)) (ifB (Qc3 a==Z0) (SM x/\∃(x_1:Arr),Qc4 a x_1/\(True/\True)/\x_1=a/\∀(y:Unit),True->∃(x_2:Arr),((Arr.k (ZT x_1)=KM x_2/\(Qm9 x_1=KD x_2/\(∀(i:Nat),i<Qm9 x_1->[ZI (GI (Qm8 x_1) i)]=JJ x_2 i)/\True)/\(Qnb x_1=Jf x_2/\(∀(i:Nat),i<Qnb x_1->[ZI (GI (Qna x_1) i)]=Xh x_2 i)/\True)/\(Qnd x_1=K0 x_2/\(∀(i:Nat),i<Qnd x_1->Arr.row (List.getD (Qnc x_1) i Vj)=Qc2 x_2 i)/\True)/\True)/\True)/\Qnj q x_2 x a) (ifB (Qc3 a==Z1) (SM x/\∃(x_1:Arr),(Qm6 a x_1/\SM Z0/\True)/\(True/\True)/\(x_1=a/\Jf a+K0 a=N1)/\∀(y:Unit),True->∃(x_2:Arr),((Arr.k (ZU x_1)=KM x_2/\(Qnl x_1=KD x_2/\(∀(i:Nat),i<Qnl x_1->[ZI (GI (Qnk x_1) i)]=JJ x_2 i)/\True)/\(Qnn x_1=Jf x_2/\(∀(i:Nat),i<Qnn x_1->[ZI (GI (Qnm x_1) i)]=Xh x_2 i)/\True)/\(Qnp x_1=K0 x_2/\(∀(i:Nat),i<Qnp x_1->Arr.row (List.getD (Qno x_1) i Vj)=Qc2 x_2 i)/\True)/\True)/\True)/\Qnj q x_2 x a) (SM x/\∃(x_1:Arr),Qc4 a x_1/\(True/\True)/\x_1=a/\∀(y:Unit),True->SM x/\Qnf a/\∀(y:Unit),True->((C3 (3:Nat) fun i=>Qnq a x_1 i)=true/\Gf (Qnr a x_1) [(32:UInt8)])/\∀(y:Unit),True->RT (Lib.join (Qnr a x_1) [(32:UInt8)]=Jg a)))))))) (by kernel_rfl) ?_
 delta DA GI LN N0 N1 N2 N4 NI SI SM Z0 Z1 ZI KD Xg Qc1 QmS QmT ZQ K0 Vj ZR QmU QmV JJ KM QmW QmX Xh QmY QmZ Xi Qc2 Qm0 Qm1 Qm2 QcY Qc3 Qm3 ZS QvN QvO Qm4 Qm5 Qm6 Qc4 Qm7 ZO ZT Qm8 Qm9 Qna Qnb Qnc Qnd Qne Qnf Qng Jf Qnh Qni Qnj ZU Qnk Qnl Qnm Qnn Qno Qnp QcZ Qnq Qnr Qc0 Jg ZP RT
 have da:(default:Arr)=Arr.mk 0 [] [] []:=rfl
 simp only[<- da,Bh,Bc,decide_eq_true_eq,decide_eq_false_iff_not,true_and,and_true,beq_iff_eq,Bool.cond_false_right,Bool.cond_true_left,Bool.and_eq_true,Bool.and_eq_false_iff,Bool.or_eq_true,Bool.or_eq_false_iff,beq_eq_false_iff_ne,ne_eq,exists_const,forall_const,Cl]
 obtain ⟨kd,s8,n6,i6,si,ni,hsum,hchr,hno,hbx,hsc⟩:=ho
 have hw:IntKind.i64.wrap ((a.nu.length:Int)+(a.it.length:Int))=(a.nu.length:Int)+(a.it.length:Int):=Bb (by omega) (by omega)
 have tt:(∀i:Nat,i<a.sh.length->True)/\(∀i:Nat,i<a.nu.length->True)/\∀i:Nat,i<a.it.length->True:=⟨fun _ _=>trivial,fun _ _=>trivial,fun _ _=>trivial⟩
 simp only[hw,BbC a]
 simp only[BqN,Bp1,Bpo,BoQ,Bqi,Gf,BpT,BpV,true_and]
 have hnu:a.sh.length=0->a.k≠3->a.nu.length=1:=fun h1 h2=>by
  have:=hsc h1
  rw[hno h2] at this
  simpa using this
 have hit:a.sh.length=0->a.k=3->a.it.length=1:=fun h1 h2=>by
  have:=hsc h1
  rw[hbx h2] at this
  simpa using this
 refine⟨⟨fun h=>by rw[h];rfl,fun h=>by rw[beq_eq_false_iff_ne.2 h];rfl⟩,fun ⟨hs,hk⟩=>?_,fun hn1=>⟨⟨fun h=>by rw[h];rfl,fun h=>by rw[beq_eq_false_iff_ne.2 h];rfl⟩,fun ⟨hs,hk⟩=>?_,fun hn2=>⟨fun hs=>?_,fun hs=>?_⟩⟩⟩
 ·have:=hnu (by omega) (by omega)
  exact⟨⟨by omega,by omega⟩,BcL ni,by rw[TG,if_pos (by omega),G7,if_pos hk]⟩
 ·have:=hnu (by omega) (by omega)
  refine⟨⟨by omega,by omega⟩,⟨by omega,Bpc _,?_⟩,by rw[TG,if_pos (by omega),G7,if_neg (by omega),if_pos hk]⟩
  intro c hc
  rw[List.mem_singleton] at hc
  subst hc
  exact hchr hk _ (Bjd (by omega))
 ·have hk:a.k=3:=by omega
  have h1:=hit (by omega) hk
  have hm:=GR (l:=a.it) (i:=0) (by omega)
  have hl:=UN hm
  refine⟨⟨by omega,by omega⟩,a.it.getD 0 default,⟨rfl,⟨rfl,fun _ _=>rfl⟩,⟨rfl,fun _ _=>rfl⟩,rfl,fun _ _=>rfl⟩,hi _ hm,⟨by simp,?_⟩,?_⟩
  ·simp only[List.length_append,List.length_cons,List.length_nil];omega
  ·rw[TG,if_pos (by omega),G7,if_neg (by omega),if_neg (by omega)]
   have:(a.it.map BU).getD 0 []=BU (a.it.getD 0 default):=by
    simp[List.getD_eq_getElem?_getD,List.getElem?_map,List.getElem?_eq_getElem (show 0<a.it.length by omega)]
   rw[this];rfl
 ·have hd:=MK si
  have hfl:=Bat a.k
  have hsl:=BaL a.k ni (a.it.map BU)
  have hvl:=U1 a.k ni (a.it.map BU)
  rw[List.length_map] at hvl
  have len:∀e:List UInt8,e.length<=200000000->[Ih a.sh,[114,101,115,104,97,112,101],e].length<=140737488355328/\(Ih a.sh++32::([114,101,115,104,97,112,101]++32::e)).length<=140737488355328:=fun e he=>by
   refine⟨by simp,?_⟩
   simp only[List.length_append,List.length_cons,List.length_nil];omega
  have eqn:∀e:List UInt8,Ih a.sh++32::([114,101,115,104,97,112,101]++32::e)=Ih a.sh++WF++e:=fun e=>by simp[WF]
  refine⟨⟨fun h=>⟨fun h2=>by rw[h,h2];rfl,fun h2=>by rw[h,beq_eq_false_iff_ne.2 h2];rfl⟩,fun h=>by rw[beq_eq_false_iff_ne.2 h];rfl⟩,fun ⟨h2,h3⟩=>⟨a,⟨rfl,⟨rfl,fun _ _=>rfl⟩,⟨rfl,fun _ _=>rfl⟩,rfl,fun _ _=>rfl⟩,rfl,?_⟩,fun hn=>?_⟩
  ·rw[TG,if_neg (by omega),if_pos ⟨by omega,by rw[List.length_map];omega⟩]
  have hlk:TG a.k a.sh a.nu (a.it.map BU)=Ih a.sh++WF++(if a.nu.length+a.it.length=0 then BdT a.k else if a.nu.length+a.it.length=1 then G7 a.k a.nu (a.it.map BU) else M5 a.k a.nu (a.it.map BU)):=by
   rw[TG,if_neg (by omega),if_neg (by rw[List.length_map];omega),List.length_map]
  rw[hlk]
  refine⟨fun hz=>⟨a,⟨rfl,⟨rfl,fun _ _=>rfl⟩,⟨rfl,fun _ _=>rfl⟩,rfl,fun _ _=>rfl⟩,rfl,M7 a.k,⟨rfl,⟨rfl,fun _ _=>rfl⟩,⟨rfl,fun _ _=>rfl⟩,rfl,fun _ _=>rfl⟩,h0 (by omega) (by omega),⟨CF _,by omega,si⟩,?_,?_⟩,fun hz=>⟨fun h2=>⟨a,⟨rfl,⟨rfl,fun _ _=>rfl⟩,⟨rfl,fun _ _=>rfl⟩,rfl,fun _ _=>rfl⟩,⟨rfl,by omega⟩,atA a 0,⟨rfl,⟨rfl,fun _ _=>rfl⟩,⟨rfl,fun _ _=>rfl⟩,rfl,fun _ _=>rfl⟩,h1 (by omega) (by omega),⟨CF _,by omega,si⟩,?_,?_⟩,fun h2=>⟨a,⟨rfl,⟨rfl,fun _ _=>rfl⟩,⟨rfl,fun _ _=>rfl⟩,rfl,fun _ _=>rfl⟩,rfl,⟨CF _,by omega,si⟩,?_,?_⟩⟩⟩
  ·rw[Bdz kd];exact len _ (by omega)
  ·rw[Bdz kd,eqn,if_pos (by omega)]
  ·rw[Bi4 kd hbx (by omega)];exact len _ (by omega)
  ·rw[Bi4 kd hbx (by omega),eqn,if_neg (by omega),if_pos (by omega)]
  ·exact len _ (by omega)
  ·rw[eqn,if_neg (by omega),if_neg (by omega)]
def Lit(a:Arr):Prop:=ACalls Tryz.prog 158 ((sRc Arr.row2 (fun _=>True) (fun b=>.str (BU b))).args a) ⟨[],[]⟩ (SpecR (sRc Arr.row2 (fun _=>True) (fun b=>.str (BU b))) a)
theorem Bhq(a:Arr):ACalls Tryz.prog 179 [.agg a.row2] ⟨[],[]⟩ (SpecR (sC [.agg a.row2] (.agg (M7 a.k).row1)) ()):=Bn0 (BnO a.k _ _ _ _ _ _) (BnT a.k)
theorem RN{a:Arr}{q:Arr->Prop}(hq:∀b,q b->Lit b)(hv:∀b∈a.it,Lit b)(ho:LOk a)(hcl:a.nu.length+a.it.length=1->ConOk Tryz.prog (Mr a.it)):ConOk Tryz.prog (Bgf a q):=by
 intro k ds S A h
 unfold Bgf at h
 split at h
 ·injection h with h;subst h
  exact ConOk.plain (fun b hb=>BaZ (hq b hb)) rfl rfl
 ·injection h with h;subst h
  refine ConOk.plain (fun b hb=>?_) rfl rfl
  have hb:b=a:=hb
  rw[hb]
  exact (BiF a ho (Blp hv)).mono fun _ _ ⟨y,q1,q2,q3⟩=>⟨y,q1,q2,q3⟩
 ·injection h with h;subst h
  refine ConOk.plain (fun b hb=>?_) rfl rfl
  have hb:b=a:=hb
  rw[hb]
  exact (Bhq a).mono fun _ _ ⟨y,q1,q2,q3⟩=>⟨y,q1,q2,q3⟩
 ·injection h with h;subst h
  refine ConOk.plain (fun b hb=>?_) rfl rfl
  obtain ⟨hb,h1⟩:b=a/\a.nu.length+a.it.length=1:=hb
  rw[hb]
  have hsz:((0:Nat):Int)<Bcm a.k a.nu.length a.it.length:=by
   unfold Bcm
   by_cases h3:a.k=3
   ·rw[if_neg (by omega),if_pos h3]
    have:=ho.bx h3
    rw[this] at h1
    simp at h1
    omega
   ·rw[if_pos (by have:=ho.kd;omega)]
    have:=ho.no h3
    rw[this] at h1
    simp at h1
    omega
  exact (Bn0 (BnW a 0 ho.kd hsz (hcl h1)) (Bqz a 0)).mono fun _ _ ⟨y,q1,q2,q3⟩=>⟨y,q1,q2,q3⟩
 ·split at h
  ·injection h with h;subst h
   exact BM fun ⟨h1,h2,h3⟩=>⟨Bj _,Cb (Eb h1) (BlU _ (by rw[B3];exact h2) h3)⟩
  ·cases h
 ·split at h
  ·injection h with h;subst h
   exact BM fun ⟨h1,h2⟩=>⟨Bj _,Cb (us:=[ssl (BF _ _) .any]) ⟨Me h1,trivial⟩ (Bcw _ h2)⟩
  ·cases h
 ·exact Mh _ _ _ _ h
theorem Bi9{its:List Arr}(h:∀b∈its,(BG b).1=0):ConOk Tryz.prog (Mr its):=by
 intro k' ds S A hk
 unfold Mr at hk
 split at hk
 ·injection hk with hk;subst hk
  exact ConOk.plain (fun (b:Arr) hb=>(BeG b (h b hb)).mono fun _ _ ⟨y,q1,q2,q3⟩=>⟨y,q1,q2,q3⟩) rfl rfl
 ·cases hk
theorem Ba4{a:Arr}(ho:LOk a)(hs:a.sh.length=0)(ih:∀b∈a.it,Lit b)(hv:∀b∈a.it,(BG b).1=0):Lit a :=
 RL a (·∈a.it) ho (fun _ hb=>hb) (fun h=>absurd hs h) (fun h=>absurd hs h) (RN ih ih ho fun _=>Bi9 hv)
theorem BhS:LOk (.mk 1 [] [0] []):=⟨.inl rfl,by decide,by decide,by decide,by simp[Arr.sh],by simp[Arr.nu,Bs],by simp[Arr.it,Ca],fun h=>absurd h (by decide),fun _=>rfl,fun h=>absurd h (by decide),fun _=>rfl⟩
theorem BaI:Lit (.mk 1 [] [0] []):=Ba4 BhS rfl (fun b hb=>by cases hb) (fun b hb=>by cases hb)
theorem BhR:LOk (.mk 2 [] [32] []):=⟨.inr (.inl rfl),by decide,by decide,by decide,by simp[Arr.sh],by simp[Arr.nu,Bs],by simp[Arr.it,Ca],by simp[Arr.nu],fun _=>rfl,fun h=>absurd h (by decide),fun _=>rfl⟩
theorem Bhd:Lit (.mk 2 [] [32] []):=Ba4 BhR rfl (fun b hb=>by cases hb) (fun b hb=>by cases hb)
theorem Bon:LOk (.mk 1 [0] [] []):=⟨.inl rfl,by decide,by decide,by decide,by simp[Arr.sh,Bs],by simp[Arr.nu],by simp[Arr.it,Ca],fun h=>absurd h (by decide),fun _=>rfl,fun h=>absurd h (by decide),fun h=>absurd h (by decide)⟩
theorem Bqg:Lit (.mk 1 [0] [] []):=by
 refine RL _ (·=.mk 1 [] [0] []) Bon (fun b hb=>by cases hb) (fun _ _=>rfl) (fun _ h=>by cases h) ?_
 refine RN (fun b hb=>?_) (fun b hb=>by cases hb) Bon (fun h=>by cases h)
 subst hb
 exact BaI
theorem BqB:(BG (.mk 1 [0] [] [])).1=0:=by decide
theorem Bqe:(BU (.mk 1 [0] [] [])).length<=600:=by
 have:=BdV 1 (s:=[0]) (n:=[]) (by decide) (by simp[Bs]) (by simp) []
 rw[BU]
 simp only[M9,Ca,List.length_nil] at this ⊢
 omega
theorem Bg3:LOk (.mk 3 [] [] [.mk 1 [0] [] []]):=⟨.inr (.inr rfl),by decide,by decide,by decide,by simp[Arr.sh],by simp[Arr.nu],by have:=Bqe;simp only[Arr.it,Ca,List.map_cons,List.map_nil,List.length_cons,List.length_nil];omega,fun h=>absurd h (by decide),fun h=>absurd rfl h,fun _=>rfl,fun _=>rfl⟩
theorem BhD:Lit (.mk 3 [] [] [.mk 1 [0] [] []]):=by
 refine Ba4 Bg3 rfl (fun b hb=>?_) (fun b hb=>?_)
 ·have:b=.mk 1 [0] [] []:=List.mem_singleton.1 hb
  subst this;exact Bqg
 ·have:b=.mk 1 [0] [] []:=List.mem_singleton.1 hb
  subst this;exact BqB
theorem BiH{k:Int}(h:k=1\/k=2\/k=3):Lit (M7 k):=by
 rcases h with rfl | rfl | rfl
 ·exact BaI
 ·exact Bhd
 ·exact BhD
theorem BeA{k:Int}{s:List Int}{nn ni:Nat}(h:Cq k s nn ni=0):(k≠3->ni=0/\(nn:Int)=C5 s)/\(k=3->nn=0/\(ni:Int)=C5 s):=by
 have hk:=BaT h
 unfold Cq at h
 rw[if_pos hk] at h
 by_cases hd:El s≠0
 ·rw[if_pos hd] at h;exact (hd h).elim
 ·rw[if_neg hd] at h
  by_cases hc:((if k=3 then (ni:Int) else nn)≠C5 s)\/((if k=3 then (nn:Int) else ni)≠0)
  ·rw[if_pos hc] at h;simp at h
  ·have h1:(if k=3 then (ni:Int) else nn)=C5 s:=Decidable.not_not.1 fun h=>hc (.inl h)
   have h2:(if k=3 then (nn:Int) else ni)=0:=Decidable.not_not.1 fun h=>hc (.inr h)
   refine⟨fun h3=>?_,fun h3=>?_⟩
   ·rw[if_neg h3] at h1 h2
    exact⟨by omega,h1⟩
   ·rw[if_pos h3] at h1 h2
    exact⟨by omega,h1⟩
theorem Bfb{a:Arr}(ho:a.ok)(h:(BG a).1=0):LOk a:=by
 have hf:=BkH h
 obtain ⟨p1,p2⟩:=BeA hf
 obtain ⟨l1,l2,l3,l4,l5⟩:=BkQ ho h
 refine⟨BaT hf,l1,l2,l3,l4,l5,Bhj ho h,Bnn h,fun h3=>List.length_eq_zero_iff.1 (p1 h3).1,fun h3=>List.length_eq_zero_iff.1 (p2 h3).1,fun hs=>?_⟩
 have hs:a.sh=[]:=List.length_eq_zero_iff.1 hs
 have h1:C5 a.sh=1:=by rw[hs];rfl
 by_cases h3:a.k=3
 ·have:=p2 h3;omega
 ·have:=p1 h3;omega
theorem BoN{a:Arr}(lo:LOk a)(h1:a.nu.length+a.it.length=1):LOk (atA a 0):=by
 unfold atA
 by_cases h3:a.k=3
 ·rw[if_pos h3]
  have h2:a.it.length=1:=by have:=lo.bx h3;rw[this] at h1;simpa using h1
  have hm:=GR (l:=a.it) (i:=0) (by omega)
  have hl:=UN hm
  have hs:=lo.sum
  exact⟨.inr (.inr rfl),by simp[Arr.sh],by simp[Arr.nu],by simp[Arr.it],by simp[Arr.sh],by simp[Arr.nu],by show 7*1+((BU (a.it.getD 0 default)).length+0)<=_;omega,fun h=>absurd h (by show ¬(3:Int)=2;decide),fun h=>absurd rfl h,fun _=>rfl,fun _=>rfl⟩
 ·rw[if_neg h3]
  have h2:a.nu.length=1:=by have:=lo.no h3;rw[this] at h1;simpa using h1
  have hm:a.nu.getD 0 0∈a.nu:=Bjd (by omega)
  refine⟨lo.kd,by simp[Arr.sh],by simp[Arr.nu],by simp[Arr.it],by simp[Arr.sh],?_,by simp[Arr.it,Ca],?_,fun _=>rfl,fun h=>absurd h h3,fun _=>rfl⟩
  ·intro z hz
   have:z=a.nu.getD 0 0:=List.mem_singleton.1 hz
   rw[this];exact lo.ni _ hm
  ·intro h z hz
   have:z=a.nu.getD 0 0:=List.mem_singleton.1 hz
   rw[this];exact lo.chr h _ hm
theorem Bf3:∀(a:Arr),a.ok->(BG a).1=0->Lit a
 |.mk k s n is,ho,h=>by
  have lo:=Bfb ho h
  have hv:=(Gx h).2.2.2
  have hok:∀b∈is,b.ok:=by
   simp only[Arr.ok] at ho
   exact (M3 _).1 ho.2.2.2.2.2.2
  have ih:∀b∈is,Lit b:=fun b hb=>Bf3 b (hok b hb) (hv b hb)
  refine RL (.mk k s n is) (fun b=>b∈is\/b=M7 k\/(b=atA (.mk k s n is) 0/\n.length+is.length=1)) lo (fun b hb=>.inl hb) (fun _ _=>.inr (.inl rfl)) (fun _ h1=>.inr (.inr ⟨rfl,h1⟩)) (RN (fun b hb=>?_) ih lo fun _=>BiR h)
  rcases hb with hb | hb | ⟨hb,h1⟩
  ·exact ih b hb
  ·rw[hb];exact BiH lo.kd
  ·rw[hb]
   have hsub:∀c∈(atA (.mk k s n is) 0).it,c∈is:=by
    intro c hc
    unfold atA at hc
    by_cases h3:(Arr.mk k s n is).k=3
    ·rw[if_pos h3] at hc
     have h2:is.length=1:=by
      have h4:n=[]:=lo.bx h3
      rw[h4] at h1;simpa using h1
     have:c=is.getD 0 default:=List.mem_singleton.1 hc
     rw[this];exact GR (by omega)
    ·rw[if_neg h3] at hc;cases hc
   refine Ba4 (BoN lo h1) ?_ (fun c hc=>ih c (hsub c hc)) (fun c hc=>hv c (hsub c hc))
   unfold atA
   split<;>rfl
termination_by a=>SizeOf.sizeOf a
decreasing_by
 have:=List.sizeOf_lt_of_mem hb
 simp;omega
def OD(a:Arr):List UInt8:=if (BG a).1=0 then BU a else []
def Bi6(a:Arr):Con:=fun k _ _=>match k with
 |123=>some (sRc Arr.row1 (fun b=>b=a) (fun b=>.int .i64 (BG b).1))
 |158=>some (sRc Arr.row1 (fun b=>b=a/\(BG a).1=0) (fun b=>.str (BU b)))
 |_=>none
theorem Bjf{a:Arr}(ho:a.ok):ConOk Tryz.prog (Bi6 a):=by
 intro k ds S A h
 unfold Bi6 at h
 split at h
 ·injection h with h;subst h
  refine ConOk.plain (fun b hb=>?_) rfl rfl
  have hb:b=a:=hb
  rw[hb]
  exact (Bol a ho).mono fun _ _ ⟨y,q1,q2,q3⟩=>⟨y,q1,q2,q3⟩
 ·injection h with h;subst h
  refine ConOk.plain (fun b hb=>?_) rfl rfl
  obtain ⟨hb,h1⟩:b=a/\(BG a).1=0:=hb
  rw[hb]
  exact BaZ (Bf3 a ho h1)
 ·cases h
noncomputable def Elt(a:Arr):Senv:=EC (Bi6 a) 8 3 [5] (fun _=>([],[]))
def Qc5(a:Arr):Nat:=LN (Arr.sh a)
def Qns(a:Arr)(b:Nat):List D:=[ZI (GI (Arr.sh a) b)]
def Qc6(a:Arr):Nat:=LN (Arr.nu a)
def Qnt(a:Arr)(b:Nat):List D:=[ZI (GI (Arr.nu a) b)]
def Qc7(a:Arr):Nat:=LN (Arr.it a)
def Qnu(a:Arr)(b:Nat):List D:=Arr.row (GA (Arr.it a) b)
def Qnv(a b:Arr):Prop:=(Arr.k a=Arr.k b/\(Qc5 a=Qc5 b/\(∀(i:Nat),i<Qc5 a->Qns a i=Qns b i)/\True)/\(Qc6 a=Qc6 b/\(∀(i:Nat),i<Qc6 a->Qnt a i=Qnt b i)/\True)/\(Qc7 a=Qc7 b/\(∀(i:Nat),i<Qc7 a->Qnu a i=Qnu b i)/\True)/\True)/\True
theorem Bnt(a : Arr)(ho : a.ok) :
  ACalls Tryz.prog 127 ((sRc Arr.row1 (fun _=>True) (fun b=>.str (OD b))).args a) ⟨[],[]⟩ (SpecR (sRc Arr.row1 (fun _=>True) (fun b=>.str (OD b))) a):=by
 refine Bf (A:=sRc Arr.row1 (fun _=>True) (fun b=>.str (OD b))) (x:=a) (E:=Elt a) (eOk (Bjf ho) rfl) Tryz.func127 rfl (by kernel_rfl) rfl (by simp[sRc,Elt,EC,E0]) ?_
 refine Bk (T :=
  ∀(x:Nat),True->SM x/\∃(x_1:Arr),Qnv a x_1/\(True/\True)/\x_1=a/\∀(y:Unit),True->ifB (Prod.fst (BG x_1) != Z0) (RT (CN (List UInt8) [] (OD a))) (SM x/\∃(x:Arr),Qnv a x/\(True/\True)/\(x=a/\Prod.fst (BG a)=Z0)/\∀(y:Unit),True->RT (BU x=OD a))) (by kernel_rfl) ?_
 delta DA GA GI LN SM Z0 ZI Qc5 Qns Qc6 Qnt Qc7 Qnu Qnv RT
 have da:(default:Arr)=Arr.mk 0 [] [] []:=rfl
 simp only[<- da,Bh,true_and,and_true,bne_iff_ne,ne_eq,exists_const,forall_const]
 refine⟨a,⟨rfl,⟨rfl,fun _ _=>rfl⟩,⟨rfl,fun _ _=>rfl⟩,rfl,fun _ _=>rfl⟩,rfl,fun h=>by rw[OD,if_neg h],fun h=>?_⟩
 have h:(BG a).1=0:=by simpa using h
 exact⟨a,⟨rfl,⟨rfl,fun _ _=>rfl⟩,⟨rfl,fun _ _=>rfl⟩,rfl,fun _ _=>rfl⟩,⟨rfl,h⟩,by rw[OD,if_pos h]⟩
def Bkn(x:List UInt8):List UInt8:=[40,32]++x++[32,41]
def Er(ks:List Int)(k:Int)(x:List UInt8):List UInt8:=if ks.contains k=true then Bkn x else x
def kAt(l:List Nd)(i:Nat):Int:=(l.getD i default).kd
def Bh3(ks:List Int):List Nd->List (List UInt8)->List (List UInt8)
 |n::l,x::r=>Er ks n.kd x::Bh3 ks l r
 |_,_=>[]
mutual
def BD:Nd->List UInt8
 |.mk kd _ _ tx pr op va ki bo _ _ _ =>
  if kd=1 then OD va
  else if kd=2 then tx
  else if kd=6 then [88]
  else if kd=7 then [89]
  else if kd=8 then [97,114,103]
  else if kd=11 then [115,101,108,102]
  else if kd=12 then [70]
  else if kd=13 then [71]
  else if kd=9 then Ci pr
  else if kd=17 then opT op
  else if kd=3 then Lib.join (Bh3 [3,4,5] ki (BO ki)) [32]
  else if kd=4 then Er [16] (kAt ki 0) ((BO ki).getD 0 [])++[32]++(BO ki).getD 1 []
  else if kd=5 then Er [4,5] (kAt ki 1) ((BO ki).getD 1 [])++[32]++Er [16] (kAt ki 0) ((BO ki).getD 0 [])++[32]++(BO ki).getD 2 []
  else if kd=16 then Lib.join (Bh3 [4,5,16] ki (BO ki)) [32]
  else if kd=14 then Er [16] (kAt ki 1) ((BO ki).getD 1 [])++[32]++(BO ki).getD 0 []
  else if kd=15 then Er [16] (kAt ki 1) ((BO ki).getD 1 [])++[32]++(BO ki).getD 0 []++[32]++Er [3,4,5,16,14,15] (kAt ki 2) ((BO ki).getD 2 [])
  else [123,32]++Lib.join (BcX bo) [32,59,32]++[32,125]
def BO:List Nd->List (List UInt8)
 | []=>[]
 |x::r=>BD x::BO r
def BcX:List Sm->List (List UInt8)
 | []=>[]
 |x::r=>EM x::BcX r
def EM:Sm->List UInt8
 |.mk kd _ nm _ te nd=>if kd=2 then nm++[32,60,45,32]++BD nd else if kd=3 then BD te++[32,58,32]++BD nd else BD nd
end
theorem BaV:∀l:List Nd,BO l=l.map BD
 | []=>by simp only[BO,List.map_nil]
 |x::r=>by simp only[BO,List.map_cons,BaV r]
theorem Baa:∀l:List Sm,BcX l=l.map EM
 | []=>by simp only[BcX,List.map_nil]
 |x::r=>by simp only[BcX,List.map_cons,Baa r]
def BQ(ks:List Int)(n:Nd):List UInt8:=Er ks n.kd (BD n)
theorem Bcg(ks:List Int):∀l:List Nd,Bh3 ks l (BO l)=l.map (BQ ks)
 | []=>by simp only[Bh3,List.map_nil]
 |x::r=>by simp only[BO,Bh3,List.map_cons,Bcg ks r];rfl
theorem Oz{l:List Nd}{i:Nat}(h:i<l.length):(BO l).getD i []=BD (l.getD i default):=by
 rw[BaV]
 simp[List.getD_eq_getElem?_getD,h]
theorem RG(s:Sm):EM s=if s.kd=2 then s.nm++[32,60,45,32]++BD s.nd else if s.kd=3 then BD s.te++[32,58,32]++BD s.nd else BD s.nd:=by
 cases s
 simp only[EM]
 rfl
def Oh(n:Nd):List UInt8:=if Ek n=0 then BD n else []
theorem Us{n:Nd}{l:List Int}(h:BA n l=true):n.ki.length=l.length:=by
 unfold BA at h
 rw[beq_iff_eq] at h
 have:=congrArg List.length h
 simpa using this
theorem CR{n:Nd}(h:BL n=true)(hk:n.kd≠10):C9 n=true\/(C4 n=true/\∀x∈n.ki,BL x=true):=by
 rw[Ea,Bool.and_eq_true] at h
 have h:=h.2
 rw[if_neg hk,Bool.or_eq_true,Bool.and_eq_true] at h
 rcases h with h | h
 ·exact .inl h
 ·exact .inr ⟨h.1,fun x hx=>List.all_eq_true.1 h.2 x hx⟩
end
end Go.Proofs.YtaagdbcaeokjkaaGreatDoor
