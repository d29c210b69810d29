/- resolve: Program, Right and Same answer as the reference, and a resolved program resolves to itself -/
import Derived.Test.YtfbfnhbafjmnaaaGreatSb1
namespace Go.Proofs.YtfbfnhbafjmnaaaGreat
open Go Go.Ab
set_option maxRecDepth 100000
noncomputable section
theorem Ig(n:Nd)(ho:n.ok)(hn:n.sm):RVal n :=
 W2 n hn (Ih ho) (MI n.bo (BZ hn).2.2 fun s hs =>
  have h1:=BM (Co ho s hs)
  have h2:=By (Cu hn s hs)
  ⟨Ig s.nd h1.2 h2.2,Ig s.te h1.1 h2.1,h1.1,h2.1⟩) fun b hb=>Ig b (Ip ho b hb) (Cv hn (BQ hb))
termination_by SizeOf.sizeOf n
decreasing_by
 ·have:=Nd.size_stmt hs
  have:=Sm.size_nd s
  omega
 ·have:=Nd.size_stmt hs
  have:=Sm.size_te s
  omega
 ·exact Nd.size_kid hb
theorem Bcw(l:List Sm)(hl:l.length<=BX)(ho:∀s∈l,s.ok)(hs:∀s∈l,s.sm):RBdy l :=
 MI l hl fun s h=>⟨Ig s.nd (BM (ho s h)).2 (By (hs s h)).2,Ig s.te (BM (ho s h)).1 (By (hs s h)).1,(BM (ho s h)).1,(By (hs s h)).1⟩
def O1(l:List Sm):Con:=fun k ds S=>match k with
 |80=>match ds with
  | [_,.int .i64 q]=>some (pA ds S (.bool (Ca l q)) (wkL ds [gsl 34 Sm.row1 l,.int .i64 q]))
  |_=>none
 |_=>none
theorem UV{l:List Sm}(hl:l.length<=maxLen)(h:∀s∈l,s.sm):ConOk Tryz.prog (O1 l):=by
 intro k ds S A hh
 unfold O1 at hh
 split at hh
 ·split at hh
  ·injection hh with hh;subst hh
   exact Bm fun e=>CD.at_ (CD.wk (RF _ l hl h) e) _
  ·cases hh
 ·cases hh
noncomputable def Erou(l:List Sm):Senv:={ EC (O1 l) 39 1 [2,3,7,15] (fun _=>([],[])) with
 mg:=fun _=>2
 ann:=fun b _ S=>match b with
  |0=>some { slots:=[3],keep:=[0],α:=Nat,st:=fun i=>([.int .i64 i],S),inv:=fun i=>i<=l.length/\∀j,j<i->((l.getD j default).kd != 3)=true,mu:=fun i=>l.length-i }
  |_=>none }
def QiZ:Nd:=Nd.mk Z0 Z0 Z0 [] Z0 Z0 DA [] [] Z0 Z0 Z0
def Qi0:Sm:=Sm.mk Z0 Z0 [] Z0 QiZ QiZ
def Qi1(a:List Sm)(b:Nat):Sm:=List.getD a b Qi0
def QbC(a:Nat)(b:List Sm):Prop:=a<=LN b/\∀(j:Nat),j<a->(Sm.kd (Qi1 b j) != (3:Int))=true
def Xy(a:List Sm):Prop:=True/\∃(_y:Unit),True/\false=Is a/\True/\True
def JZ(a:List Sm):D:=D.sl 34 (LN a) (fun i=>Sm.row1 (Qi1 a i)) Mode.any
def Qi2(a:List Sm):List D:=[JZ a,ZI 12]
def Qi3(a:List Sm):List D:=[JZ a,ZI 13]
def Qi4(a:List Sm):List D:=[JZ a,ZI 6]
def Qi5(a:List Sm):List D:=[JZ a,ZI 7]
def Qi6(a:List Sm):List D:=[JZ a,ZI 11]
theorem Be7(l:List Sm)(hl:l.length<=maxLen)(h:∀s∈l,s.sm):CD 48 [gsl 34 Sm.row1 l] (.bool (Is l)):=by
 refine Bh (A:=sC _ _) (x:=()) (E:=Erou l) (eOk (UV hl h) rfl) Tryz.func48 rfl (by kernel_rfl) rfl (by simp[sC,Erou,EC,E0]) ?_
 refine Bl (T :=
  (∃(x:Nat),QbC x l/\(Z0=(↑x:Int)/\True)/\True/\True)/\∀(x:Nat),QbC x l->ifB (decide ((↑x:Int)<(LI l))) (Bf (Z0<=(↑x:Int)/\(↑x:Int)<(LI l)) (ifB (Sm.kd (List.getD l (Int.toNat (↑x:Int)) Qi0)==3) (Xy l) ((SM (JZ l)/\True)/\∃(y:Nat),QbC y l/\LN l-y<LN l-x/\(IntKind.wrap IntKind.i64 ((↑x:Int)+Z1)=(↑y:Int)/\True)/\True/\True))) (∃(x:Unit),wkL (Qi2 l) (Qi2 l)/\∀(y:Unit),True->ifB (!Ca l (12:Int)) (∃(x:Unit),wkL (Qi3 l) (Qi3 l)/\∀(y:Unit),True->ifB (!Ca l (13:Int)) (∃(x:Unit),wkL (Qi4 l) (Qi4 l)/\∀(y:Unit),True->ifB (!Ca l (6:Int)) (∃(x:Unit),wkL (Qi5 l) (Qi5 l)/\∀(y:Unit),True->ifB (!Ca l (7:Int)) (∃(x:Unit),wkL (Qi6 l) (Qi6 l)/\∀(y:Unit),True->RT ((!Ca l (11:Int))=Is l)) (Xy l)) (Xy l)) (Xy l)) (Xy l))) (by kernel_rfl) ?_
 delta DA LI LN SM Z0 Z1 ZI QiZ Qi0 Qi6 Qi1 QbC Xy JZ Qi2 Qi3 Qi4 Qi5 RT
 try simp only[<- dm]
 try simp only[<- dn]
 simp only[ne_eq,Int.toNat_natCast,Bg,Be,decide_eq_true_eq,decide_eq_false_iff_not,true_and,and_true,beq_iff_eq,bne_iff_ne,beq_eq_false_iff_ne,Bool.not_eq_true',Bool.not_eq_false',exists_const,forall_const]
 unfold maxLen at hl
 refine⟨⟨0,⟨Nat.zero_le _,fun j hj=>absurd hj (by omega)⟩,rfl⟩,fun i hi'=>⟨fun hlt=>?_,fun hge=>?_⟩⟩
 ·obtain ⟨i1,hi⟩:=hi'
  have hi1:i<l.length:=by omega
  refine⟨⟨by omega,by omega⟩,fun c=>?_,fun c=>⟨i+1,⟨hi1,fun j hj=>?_⟩,by omega,Bb (by omega) (by omega)⟩⟩
  ·unfold Is
   rw[W7 (p:=fun s:Sm=>s.kd != 3) hi1 (by simpa using c)];rfl
  ·by_cases e':j=i
   ·rw[e'];simpa using c
   ·exact hi j (by omega)
 ·obtain ⟨i1,hi⟩:=hi'
  have a:(l.all fun s=>s.kd != 3)=true:=TJ fun j hj=>by simpa using hi j (by omega)
  unfold Is
  rw[a,Bool.true_and]
  repeat' (first | exact Bc _ | refine And.intro ?_ ?_ | intro _)
  all_goals first
   |(simp_all;done)
   |(simp_all;omega)
theorem Be3(k:Nat):60<CE k 60↔60<k:=by unfold CE;split<;>omega
theorem UF(k:Nat):16384<BA k 16384↔16384<k:=by unfold BA;split<;>omega
def dpS(s:Sm):Bool:=decide (60<dpM s)
def O7(l:List Sm):Con:=fun k ds S=>match k with
 |35=>some (pE (β:=Nd) ds S (fun b=>.int .i64 (CE (dpN b) 60)) (fun b=>isN b ds [.int .i64 60]/\b.sm))
 |46=>some (pA ds S (.int .i64 (BA (szB l) 16384)) (wkL ds [gsl 34 Sm.row1 l,.int .i64 16384]))
 |47=>some (pA ds S (.bool (BF true l)) (wkL ds [gsl 34 Sm.row1 l]))
 |48=>some (pA ds S (.bool (Is l)) (wkL ds [gsl 34 Sm.row1 l]))
 |_=>none
theorem Uz{l:List Sm}(hl:l.length<=BX)(ho:∀s∈l,s.ok)(hs:∀s∈l,s.sm):ConOk Tryz.prog (O7 l):=by
 intro k ds S A hh
 unfold O7 at hh
 split at hh
 ·injection hh with hh;subst hh
  exact B7 fun b ⟨e,hb⟩=>CD.at_ (CD.isN (WY b hb 60 (by omega) (by omega)) e) _
 ·injection hh with hh;subst hh
  exact Bm fun e=>CD.at_ (CD.wk (Bcr l hl hs _ (by omega) (by omega)) e) _
 ·injection hh with hh;subst hh
  exact Bm fun e=>CD.at_ (CD.wk (Bcw l hl ho hs) e) _
 ·injection hh with hh;subst hh
  exact Bm fun e=>CD.at_ (CD.wk (Be7 l (BD hl) hs) e) _
 ·cases hh
theorem TW:∀l:List Sm,l.any dpS=decide (60<dpB l)
 | []=>by simp[dpB]
 |s::l=>by
  have e:dpB (s::l)=max (dpM s) (dpB l):=by simp only[dpB]
  rw[List.any_cons,TW l,dpS,Bool.eq_iff_iff,e]
  simp only[Bool.or_eq_true,decide_eq_true_eq]
  omega
noncomputable def Erpr(l:List Sm):Senv:={ EC (O7 l) 56 4 [7,12,41,45,55] (fun _=>([],[])) with
 mg:=fun _=>2
 ann:=fun b _ S=>match b with
  |0=>some { slots:=[3],keep:=[0,1],α:=Nat,st:=fun i=>([.int .i64 i],S),inv:=fun i=>i<=l.length/\∀j,j<i->dpS (l.getD j default)=false,mu:=fun i=>l.length-i }
  |_=>none }
def Xz(a:List Sm):Int:=Bw a
def XA:Arr:=DA
def J0:Nd:=Nd.mk Z0 Z0 Z0 [] Z0 Z0 XA [] [] Z0 Z0 Z0
def J1:Sm:=Sm.mk Z0 Z0 [] Z0 J0 J0
def Jn(a:List Sm)(b:Nat):Sm:=List.getD a b J1
def QbD(a:Nat)(b:List Sm):Prop:=a<=LN b/\∀(j:Nat),j<a->dpS (Jn b j)=false
def Ka(a:List Sm)(b:Nat):Nd:=Sm.te (Jn a b)
def ZP(a:List Sm)(b:Nat):Arr:=Nd.va (Ka a b)
def QpS(a:List Sm)(b:Nat):List Int:=Arr.sh (ZP a b)
def QpT(a:List Sm)(b:Nat):List Int:=Arr.nu (ZP a b)
def Qi7(a:List Sm)(b:Nat):List Arr:=Arr.it (ZP a b)
def Qi8(a:List Sm)(b:Nat):List Nd:=Nd.ki (Ka a b)
def Qi9(a:List Sm)(b:Nat):List Sm:=Nd.bo (Ka a b)
def Kb(a:List Sm)(b:Nat):Nd:=Sm.nd (Jn a b)
def ZQ(a:List Sm)(b:Nat):Arr:=Nd.va (Kb a b)
def QpU(a:List Sm)(b:Nat):List Int:=Arr.sh (ZQ a b)
def QpV(a:List Sm)(b:Nat):List Int:=Arr.nu (ZQ a b)
def Qja(a:List Sm)(b:Nat):List Arr:=Arr.it (ZQ a b)
def Qjb(a:List Sm)(b:Nat):List Nd:=Nd.ki (Kb a b)
def Qjc(a:List Sm)(b:Nat):List Sm:=Nd.bo (Kb a b)
def Qjd(a:List Sm)(b:Nat):List D:=[ZI (Sm.kd (Jn a b)),ZI (Sm.at_ (Jn a b)),D.str (Sm.nm (Jn a b)),ZI (Sm.sl (Jn a b)),ZI (Nd.kd (Ka a b)),ZI (Nd.at_ (Ka a b)),ZI (Nd.cl (Ka a b)),D.str (Nd.tx (Ka a b)),ZI (Nd.pr (Ka a b)),ZI (Nd.op (Ka a b)),ZI (Arr.k (ZP a b)),SI (QpS a b),SI (QpT a b),D.sl N4 (LN (Qi7 a b)) (fun i=>Arr.row (List.getD (Qi7 a b) i XA)) Mode.any,D.sl 15 (LN (Qi8 a b)) (fun i=>Nd.row (List.getD (Qi8 a b) i J0)) Mode.any,D.sl 34 (LN (Qi9 a b)) (fun i=>Sm.row (List.getD (Qi9 a b) i J1)) Mode.any,ZI (Nd.de (Ka a b)),ZI (Nd.sl (Ka a b)),ZI (Nd.ss (Ka a b)),ZI (Nd.kd (Kb a b)),ZI (Nd.at_ (Kb a b)),ZI (Nd.cl (Kb a b)),D.str (Nd.tx (Kb a b)),ZI (Nd.pr (Kb a b)),ZI (Nd.op (Kb a b)),ZI (Arr.k (ZQ a b)),SI (QpU a b),SI (QpV a b),D.sl N4 (LN (Qja a b)) (fun i=>Arr.row (List.getD (Qja a b) i XA)) Mode.any,D.sl 15 (LN (Qjb a b)) (fun i=>Nd.row (List.getD (Qjb a b) i J0)) Mode.any,D.sl 34 (LN (Qjc a b)) (fun i=>Sm.row (List.getD (Qjc a b) i J1)) Mode.any,ZI (Nd.de (Kb a b)),ZI (Nd.sl (Kb a b)),ZI (Nd.ss (Kb a b))]
def Qje(a:Nat)(b:List Sm):Prop:=(SM a/\((SM (LN b)/\(∀(i:Nat),i<LN b->SM (Qjd b i))/\True)/\True)/\True)/\True
def QbE(a:List Sm)(b:Nat):Sm:=List.getD a (Int.toNat (↑b:Int)) J1
def Kc(a:List Sm)(b:Nat):Nd:=Sm.nd (QbE a b)
def ZR(a:List Sm)(b:Nat):Arr:=Nd.va (Kc a b)
def QpW(a:List Sm)(b:Nat):List Int:=Arr.sh (ZR a b)
def QpX(a:List Sm)(b:Nat):List Int:=Arr.nu (ZR a b)
def Qjf(a:List Sm)(b:Nat):List Arr:=Arr.it (ZR a b)
def Qjg(a:List Sm)(b:Nat):List Nd:=Nd.ki (Kc a b)
def Qjh(a:List Sm)(b:Nat):List Sm:=Nd.bo (Kc a b)
def ZS:List D:=[ZI 60]
def Qji(a:Nd):Bool:=decide ((60:Int)<CE (dpN a) (60:Int))
def Qjj(a:List Sm):Prop:=True/\∃(_y:Unit),True/\(8:Int)=Xz a/\True/\True
def Kd(a:List Sm)(b:Nat):Nd:=Sm.te (QbE a b)
def ZT(a:List Sm)(b:Nat):Arr:=Nd.va (Kd a b)
def QpY(a:List Sm)(b:Nat):List Int:=Arr.sh (ZT a b)
def QpZ(a:List Sm)(b:Nat):List Int:=Arr.nu (ZT a b)
def Qjk(a:List Sm)(b:Nat):List Arr:=Arr.it (ZT a b)
def Qjl(a:List Sm)(b:Nat):List Nd:=Nd.ki (Kd a b)
def Qjm(a:List Sm)(b:Nat):List Sm:=Nd.bo (Kd a b)
def Qjn(a:List Sm):D:=D.sl 34 (LN a) (fun i=>Qjd a i) Mode.any
def QbF(a:List Sm):List D:=[Qjn a]
def Qp0(a:List Sm):D:=D.agg (QbF a)
def Qjo(a:List Sm)(b c:Nat):Prop:=(SM (Qp0 a)/\SM (D.ref N0 b N0)/\True)/\∃(y:Nat),QbD y a/\LN a-y<LN a-c/\(IntKind.wrap IntKind.i64 ((↑c:Int)+Z1)=(↑y:Int)/\True)/\Qje b a
def Qjp(a:List Sm):List D:=[Qjn a,ZI 16384]
def Qjq(a:List Sm):Prop:=wkL (QbF a) (QbF a)
def Qjr(a:List Sm):Prop:=True/\∃(_y:Unit),True/\(11:Int)=Xz a/\True/\True
theorem BbO(l:List Sm)(hl:l.length<=BX)(ho:∀s∈l,s.ok)(hs:∀s∈l,s.sm):CD 23 [.agg [gsl 34 Sm.row1 l]] (.int .i64 (Bw l)):=by
 refine Bh (A:=sC _ _) (x:=()) (E:=Erpr l) (eOk (Uz hl ho hs) rfl) Tryz.func23 rfl (by kernel_rfl) rfl (by simp[sC,Erpr,EC,E0]) ?_
 refine Bl (T :=
  ∀(x:Nat),True->SM x/\ifB (decide ((1000:Int)<(LI l))) (RT ((2:Int)=Xz l)) ((∃(x_1:Nat),QbD x_1 l/\(Z0=(↑x_1:Int)/\True)/\Qje x l)/\∀(x_1:Nat),QbD x_1 l->SM x/\ifB (decide ((↑x_1:Int)<(LI l))) (SM x/\Bf (Z0<=(↑x_1:Int)/\(↑x_1:Int)<(LI l)) (∃(x_2:Nd),(isN x_2 (D.agg [ZI (Nd.kd (Kc l x_1)),ZI (Nd.at_ (Kc l x_1)),ZI (Nd.cl (Kc l x_1)),D.str (Nd.tx (Kc l x_1)),ZI (Nd.pr (Kc l x_1)),ZI (Nd.op (Kc l x_1)),ZI (Arr.k (ZR l x_1)),SI (QpW l x_1),SI (QpX l x_1),D.sl N4 (LN (Qjf l x_1)) (fun i=>Arr.row (List.getD (Qjf l x_1) i XA)) Mode.any,D.sl 15 (LN (Qjg l x_1)) (fun i=>Nd.row (List.getD (Qjg l x_1) i J0)) Mode.any,D.sl 34 (LN (Qjh l x_1)) (fun i=>Sm.row (List.getD (Qjh l x_1) i J1)) Mode.any,ZI (Nd.de (Kc l x_1)),ZI (Nd.sl (Kc l x_1)),ZI (Nd.ss (Kc l x_1))]::ZS) ZS/\Nd.sm x_2)/\∀(y:Unit),True->ifB (Qji x_2) (Qjj l) (SM x/\Bf (Z0<=(↑x_1:Int)/\(↑x_1:Int)<(LI l)) (ifB (Sm.kd (QbE l x_1)==3) (SM x/\Bf (Z0<=(↑x_1:Int)/\(↑x_1:Int)<(LI l)) (∃(x_3:Nd),(isN x_3 (D.agg [ZI (Nd.kd (Kd l x_1)),ZI (Nd.at_ (Kd l x_1)),ZI (Nd.cl (Kd l x_1)),D.str (Nd.tx (Kd l x_1)),ZI (Nd.pr (Kd l x_1)),ZI (Nd.op (Kd l x_1)),ZI (Arr.k (ZT l x_1)),SI (QpY l x_1),SI (QpZ l x_1),D.sl N4 (LN (Qjk l x_1)) (fun i=>Arr.row (List.getD (Qjk l x_1) i XA)) Mode.any,D.sl 15 (LN (Qjl l x_1)) (fun i=>Nd.row (List.getD (Qjl l x_1) i J0)) Mode.any,D.sl 34 (LN (Qjm l x_1)) (fun i=>Sm.row (List.getD (Qjm l x_1) i J1)) Mode.any,ZI (Nd.de (Kd l x_1)),ZI (Nd.sl (Kd l x_1)),ZI (Nd.ss (Kd l x_1))]::ZS) ZS/\Nd.sm x_3)/\∀(y:Unit),True->ifB (Qji x_3) (Qjj l) (Qjo l x x_1))) (Qjo l x x_1))))) (SM x/\∃(x_2:Unit),wkL (Qjp l) (Qjp l)/\∀(y:Unit),True->ifB (decide ((16384:Int)<BA (szB l) (16384:Int))) (RT ((21:Int)=Xz l)) (SM x/\∃(x_3:Unit),Qjq l/\∀(y:Unit),True->ifB (!BF true l) (Qjr l) (SM x/\∃(x:Unit),Qjq l/\∀(y:Unit),True->ifB (!Is l) (Qjr l) (RT (Z0=Xz l))))))) (by kernel_rfl) ?_
 delta DA GI LI LN N0 N1 N4 SI SM Z0 Z1 ZI Xz XA J0 J1 Jn QbD Ka ZP QpS QpT Qi7 Qi8 Qi9 Kb ZQ QpU QpV Qja Qjb Qjc Qjd Qje QbE Kc ZR QpW QpX Qjf Qjg Qjh ZS Qji Qjj Kd ZT QpY QpZ Qjk Qjl Qjm Qjn QbF Qp0 Qjo Qjp Qjq Qjr RT
 try simp only[<- dm]
 try simp only[<- dn]
 simp only[ne_eq,implies_true,Int.toNat_natCast,Bg,Be,decide_eq_true_eq,decide_eq_false_iff_not,true_and,and_true,beq_iff_eq,beq_eq_false_iff_ne,Bool.not_eq_true',Bool.not_eq_false',exists_const,forall_const]
 unfold BX at hl
 simp only[Be3,UF]
 have hr:Bw l=if 1000<l.length then 2 else if 60<dpB l then 8 else if 16384<szB l then 21 else if (BF true l&&Is l)=true then 0 else 11:=by rw[Tb];rfl
 have da:=TW l
 rw[hr]
 refine⟨fun c=>by rw[if_pos (by omega)],fun c=>?_⟩
 rw[if_neg (by omega)]
 refine⟨⟨0,⟨Nat.zero_le _,fun j hj=>absurd hj (by omega)⟩,rfl⟩,fun i ⟨i1,hi⟩=>⟨fun hlt=>?_,fun hge=>?_⟩⟩
 ·have hi1:i<l.length:=by omega
  obtain ⟨q1,q2⟩:=By (hs _ (CT hi1))
  have hd:=WH (l.getD i default)
  have w:IntKind.i64.wrap ((i:Int)+1)=((i+1:Nat):Int):=by rw[Bb (by omega) (by omega)];rfl
  have yes:60<dpM (l.getD i default)->8=(if 60<dpB l then (8:Int) else if 16384<szB l then 21 else if (BF true l&&Is l)=true then 0 else 11):=fun h2=>by
   have:l.any dpS=true:=I9 hi1 (decide_eq_true h2)
   rw[da,decide_eq_true_eq] at this
   rw[if_pos this]
  have go:¬60<dpM (l.getD i default)->∃y,(y<=l.length/\∀(j:Nat),j<y->dpS (l.getD j default)=false)/\l.length-y<l.length-i/\IntKind.i64.wrap ((i:Int)+1)=(y:Int):=fun h2 =>
   ⟨i+1,⟨hi1,fun j hj=>by
    by_cases e':j=i
    ·rw[e'];exact decide_eq_false h2
    ·exact hi j (by omega)⟩,by omega,w⟩
  refine⟨⟨by omega,hlt⟩,(l.getD i default).nd,⟨BH _ _,q2⟩,fun b=>yes ?_,fun b=>⟨⟨by omega,hlt⟩,fun k3=>⟨⟨by omega,hlt⟩,(l.getD i default).te,⟨BH _ _,q1⟩,fun b2=>yes ?_,fun b2=>go ?_⟩,fun k3=>go ?_⟩⟩
  ·rw[hd];split<;>omega
  ·rw[hd,if_pos k3];omega
  ·rw[hd,if_pos k3];omega
  ·rw[hd,if_neg k3];exact b
 ·have a:l.any dpS=false:=Tf fun j hj=>hi j (by omega)
  rw[da,decide_eq_false_iff_not] at a
  rw[if_neg a]
  refine⟨Bc _,fun b=>by rw[if_pos b],fun b=>?_⟩
  rw[if_neg b]
  refine⟨Bc _,fun b1=>?_,fun b1=>⟨Bc _,fun b2=>?_,fun b2=>?_⟩⟩
  ·rw[b1];rfl
  ·rw[b1,b2];rfl
  ·rw[b1,b2];rfl
open Go Go.Ab Go.Proofs Go.RowKit Go.Shelf
attribute [local go_sem] Oper.semAt_some
def lkA(x:Option (Nat×Nat×Int)):Int×Int×Int×Bool:=match x with
 |some (d,i,c)=>(d,i,c,true)
 |none=>(0,0,0,false)
theorem RO{sc:Scp}{d:Nat}(h:d<sc.length):sc.reverse.getD (sc.length-1-d) []=sc.getD d []:=by
 rw[List.getD_eq_getElem?_getD,List.getElem?_reverse (by omega),List.getD_eq_getElem?_getD]
 congr 2
 omega
theorem M5(x:Option (Nat×Int)):Gy 0 x=x:=by cases x<;>rfl
theorem Ms(d e:Nat)(x:Option (Nat×Int)):Gy d (Gy e x)=Gy (d+e) x:=by
 cases x with
 |none=>rfl
 |some y=>simp[Gy];omega
def UU:D->Nat
 |.int _ z=>z.toNat
 |_=>0
noncomputable def Elk(sc:Scp)(nm:List UInt8):Senv:={ EC CK 55 3 [4,5,6,7,8,9,10,15,31,39] (fun id=>match id with | 9=>([0,1,2,3,4,5,6,7,8,9,10,11,12,13,14,15,16,17,18],[]) | _=>([],[])) with
 ann:=fun b env S=>match b with
  |0=>some { slots:=[8],keep:=[0,1,2,3],α:=Nat,st:=fun d=>([.int .i64 (d:Nat)],S),inv:=fun d=>LkO nm sc d,mu:=fun d=>sc.length-d }
  |2=>some { slots:=[10],keep:=[0,1,2,3,8,9],α:=Nat,st:=fun i=>([.int .i64 (i:Nat)],S),inv:=fun i=>LkI nm (sc.getD (UU (Ab.look env 8)) []) i,mu:=fun i=>(sc.getD (UU (Ab.look env 8)) []).length-i }
  |_=>none }
def Qjs(a:Scp)(b:Nat):List D:=[D.sl N1 (LN (nmF (List.getD (List.reverse a) b []))) (fun i=>[D.str (List.getD (nmF (List.getD (List.reverse a) b [])) i [])]) Mode.any]
def Qjt(a:Scp)(b:Nat):List D:=[SI (clF (List.getD (List.reverse a) b []))]
def Qju(a:Nat)(b:Scp):Prop:=(SM a/\((SM (LN b)/\(∀(i:Nat),i<LN b->SM (Qjs b i))/\True)/\(SM (LN b)/\(∀(i:Nat),i<LN b->SM (Qjt b i))/\True)/\True)/\True)/\True
def Qjv(a b:Nat)(c:Scp):Prop:=(Z0=(↑a:Int)/\True)/\Qju b c
def XB(a:Scp)(b:Nat):Int:=IntKind.wrap IntKind.i64 (IntKind.wrap IntKind.i64 ((LI a)-Z1)-(↑b:Int))
def QbG(a:List UInt8)(b:Scp)(c d:Nat):Prop:=LkI a (List.getD b (UU (ZI (↑c:Int))) []) d
def Qjw(a:Scp)(b:Nat):Frm1:=List.getD (List.reverse a) (Int.toNat (XB a b)) []
def QbH(a:Scp)(b:Nat):List (List UInt8):=nmF (Qjw a b)
def Qjx(a:Scp)(b:Nat):Nat:=LN (QbH a b)
def Qjy(a:Scp)(b:Nat):Int:=(NI (Qjx a b))
def Qjz(a:Scp)(b:Nat):List Int:=clF (Qjw a b)
def Qp1(a:Scp):D:=D.agg [D.sl N1 (LN a) (fun i=>Qjs a i) Mode.any,D.sl N1 (LN a) (fun i=>Qjt a i) Mode.any]
def QjA(a:Scp):Prop:=SM (Qp1 a)
def Qp2(a:Scp)(b:Nat):D:=D.sl N1 (Qjx a b) (fun i=>[D.str (List.getD (QbH a b) i [])]) Mode.any
def QjB(a b c:Nat)(d:Scp):Prop:=(IntKind.wrap IntKind.i64 ((↑a:Int)+Z1)=(↑b:Int)/\True)/\Qju c d
theorem Bji(sc:Scp)(nm:List UInt8)(h:sc.length<=1000000/\∀f∈sc,f.length<=1000000):CD 61 [.agg (scC sc),.str nm] (.tup [.int .i64 (lkA (Bv nm sc)).1,.int .i64 (lkA (Bv nm sc)).2.1,.int .i64 (lkA (Bv nm sc)).2.2.1,.bool (lkA (Bv nm sc)).2.2.2]):=by
 refine Bh (A:=sC _ _) (x:=()) (E:=Elk sc nm) (eOk BE rfl) Tryz.func61 rfl (by kernel_rfl) rfl (by simp[sC,Elk,EC,E0]) ?_
 refine Bl (T :=
  ∀(x:Nat),True->(∃(x_1:Nat),LkO nm sc x_1/\Qjv x_1 x sc)/\∀(x_1:Nat),LkO nm sc x_1->SM x/\ifB (decide ((↑x_1:Int)<(LI sc))) (SM x/\SM x/\Bf (Z0<=XB sc x_1/\XB sc x_1<(LI sc)) ((∃(x_2:Nat),QbG nm sc x_1 x_2/\Qjv x_2 x sc)/\∀(x_2:Nat),QbG nm sc x_1 x_2->ifB (decide ((↑x_2:Int)<Qjy sc x_1)) (Bf (Z0<=(↑x_2:Int)/\(↑x_2:Int)<Qjy sc x_1) (ifB (List.getD (QbH sc x_1) (Int.toNat (↑x_2:Int)) []==nm) (SM x/\SM x/\Bf (Z0<=XB sc x_1/\XB sc x_1<(LI sc)) (Bf (Z0<=(↑x_2:Int)/\(↑x_2:Int)<(LI (Qjz sc x_1))) (True/\∃(y:Unit),True/\((↑x_1:Int)=Prod.fst (lkA (Bv nm sc))/\(↑x_2:Int)=Prod.fst (Prod.snd (lkA (Bv nm sc)))/\GI (Qjz sc x_1) (Int.toNat (↑x_2:Int))=Prod.fst (Prod.snd (Prod.snd (lkA (Bv nm sc))))/\true=Prod.snd (Prod.snd (Prod.snd (lkA (Bv nm sc))))/\True)/\True/\True))) ((QjA sc/\SM (D.str nm)/\SM (D.ref N0 x N0)/\SM D.unk/\SM (ZI (↑x_1:Int))/\SM (Qp2 sc x_1)/\True)/\∃(y:Nat),QbG nm sc x_1 y/\LN (List.getD sc (UU (ZI (↑x_1:Int))) [])-y<LN (List.getD sc (UU (ZI (↑x_1:Int))) [])-x_2/\QjB x_2 y x sc))) ((QjA sc/\SM (D.str nm)/\SM (D.ref N0 x N0)/\SM D.unk/\True)/\∃(y:Nat),LkO nm sc y/\LN sc-y<LN sc-x_1/\QjB x_1 y x sc))) (True/\∃(y:Unit),True/\(Z0=Prod.fst (lkA (Bv nm sc))/\Z0=Prod.fst (Prod.snd (lkA (Bv nm sc)))/\Z0=Prod.fst (Prod.snd (Prod.snd (lkA (Bv nm sc))))/\false=Prod.snd (Prod.snd (Prod.snd (lkA (Bv nm sc))))/\True)/\True/\True)) (by kernel_rfl) ?_
 delta GI LI LN N0 N1 NI SI SM Z0 Z1 ZI Qjs Qjt Qjz Qp1 QjA Qp2 QjB Qju Qjv XB QbG Qjw QbH Qjx Qjy
 simp only[eq_self,ne_eq,implies_true,Int.toNat_natCast,Bg,Be,decide_eq_true_eq,decide_eq_false_iff_not,true_and,and_true,beq_iff_eq,beq_eq_false_iff_ne,exists_const,forall_const]
 have hw:∀d:Nat,d<sc.length->IntKind.i64.wrap (IntKind.i64.wrap ((List.length sc:Int)-1)-(d:Int))=((sc.length-1-d:Nat):Int):=fun d hd=>by
  rw[Bb (n:=(List.length sc:Int)-1) (by omega) (by omega),Bb (by omega) (by omega)]
  omega
 refine⟨⟨0,⟨Nat.zero_le _,(Tk _).symm⟩,rfl⟩,fun d hd=>⟨fun hlt=>?_,fun hge=>?_⟩⟩
 ·have hlt':d<sc.length:=by simpa using hlt
  rw[hw d hlt']
  simp only[Int.toNat_natCast,RO hlt',UU]
  have hstep:sc.drop d=sc.getD d []::sc.drop (d+1):=BN hlt'
  have hmem:sc.getD d []∈sc:=by rw[List.getD_eq_getElem?_getD,List.getElem?_eq_getElem hlt'];exact List.getElem_mem hlt'
  have hfl:=h.2 _ hmem
  generalize hf:sc.getD d []=f at *
  have hn:(nmF f).length=f.length:=by simp[nmF]
  have hc:(clF f).length=f.length:=by simp[clF]
  have b0:(0:Int)<=((sc.length-1-d:Nat):Int)/\((sc.length-1-d:Nat):Int)<(sc.length:Int):=⟨by omega,by omega⟩
  refine⟨b0,⟨0,⟨Nat.zero_le _,(M5 _).symm⟩,rfl⟩,fun i hi=>⟨fun hli=>?_,fun hgi=>?_⟩⟩
  ·have hli':i<f.length:=by rw[hn] at hli;simpa using hli
   have hs2:f.drop i=f.getD i ([],0)::f.drop (i+1):=by
    rw[List.drop_eq_getElem_cons hli']
    simp[List.getD_eq_getElem?_getD,hli']
   have e1:(nmF f).getD i []=(f.getD i ([],0)).1:=Gb f i
   have e2:(clF f).getD i 0=(f.getD i ([],0)).2:=Mb f i
   refine⟨⟨Int.natCast_nonneg i,hli⟩,fun he=>?_,fun he=>?_⟩
   ·rw[e1] at he
    have hsl:Cx nm f=some (i,(f.getD i ([],0)).2):=by
     rw[hi.eq,hs2,Cx,if_pos he]
     simp[Gy]
    have hl:Bv nm sc=some (d,i,(f.getD i ([],0)).2):=by
     rw[hd.eq,hstep,Bv,hsl]
     simp[GF]
    rw[hl,e2]
    exact⟨b0,⟨Int.natCast_nonneg i,by rw[hc];omega⟩,rfl,rfl,rfl,rfl⟩
   ·rw[e1] at he
    refine⟨i+1,⟨hli',?_⟩,by omega,by rw[Bb (by omega) (by omega)];rfl⟩
    rw[hi.eq,hs2,Cx,if_neg he]
    have:=Ms i 1 (Cx nm (f.drop (i+1)))
    rw[<- this]
    rfl
  ·have hie:i=f.length:=by have:=hi.le;rw[hn] at hgi;omega
   refine⟨d+1,⟨hlt',?_⟩,by omega,by rw[Bb (by omega) (by omega)];rfl⟩
   have hsl:Cx nm f=none:=by
    rw[hi.eq,hie,List.drop_length];rfl
   rw[hd.eq,hstep,Bv,hsl]
   have:=M8 d 1 (Bv nm (sc.drop (d+1)))
   rw[<- this]
   rfl
 ·have hde:d=sc.length:=by have:=hd.le;omega
  have hl:Bv nm sc=none:=by
   rw[hd.eq,hde,List.drop_length];rfl
  rw[hl]
  exact⟨rfl,rfl,rfl,rfl⟩
theorem Gw(f:Frm1)(r:Scp){i:Nat}(hi:i<r.length):B2 (f::r) i=B2 r i:=by
 unfold B2
 rw[List.reverse_cons,List.getD_eq_getElem?_getD,List.getElem?_append_left (by simpa using hi),<- List.getD_eq_getElem?_getD]
theorem Gq(f:Frm1)(r:Scp){i:Nat}(hi:i<r.length):B1 (f::r) i=B1 r i:=by
 unfold B1
 rw[List.reverse_cons,List.getD_eq_getElem?_getD,List.getElem?_append_left (by simpa using hi),<- List.getD_eq_getElem?_getD]
theorem I1(f:Frm1)(r:Scp):B2 (f::r) r.length=[ssl (nmF f) .any]:=by
 unfold B2
 rw[List.reverse_cons,List.getD_eq_getElem?_getD,List.getElem?_append_right (by simp)]
 simp
theorem IX(f:Frm1)(r:Scp):B1 (f::r) r.length=[isl (clF f) .any]:=by
 unfold B1
 rw[List.reverse_cons,List.getD_eq_getElem?_getD,List.getElem?_append_right (by simp)]
 simp
theorem RY{F : Scp -> Nat -> List D}(sc : Scp){G : List D}(h1 : ∀i, i<sc.length -> F ([]::sc) i=F sc i)(h2 : wkL G (F ([]::sc) sc.length))(i : Nat)(hi : i<0+sc.length+1) :
  wkL (Bt (0+sc.length) (Bt 0 (fun _=>[]) (F sc)) (fun i=>[G].getD i []) i) (F ([]::sc) i):=by
 by_cases h:i<sc.length
 ·have e:Bt (0+sc.length) (Bt 0 (fun _=>[]) (F sc)) (fun i=>[G].getD i []) i=F sc i:=by simp[Bt,h]
  rw[e,h1 i h]
  exact Bc _
 ·obtain rfl:i=sc.length:=by omega
  have e:Bt (0+sc.length) (Bt 0 (fun _=>[]) (F sc)) (fun i=>[G].getD i []) sc.length=G:=by simp[Bt]
  rw[e]
  exact h2
theorem Baf{F : Scp -> Nat -> List D}(f g : Frm1)(r : Scp){G : List D}(h1 : ∀i, i<r.length -> F (g::r) i=F (f::r) i)(h2 : wkL G (F (g::r) r.length))(i : Nat)(hi : i<r.length+1) :
  wkL (Bt r.length (Bt 0 (fun _=>[]) (F (f::r))) (fun i=>[G].getD i []) i) (F (g::r) i):=by
 by_cases h:i<r.length
 ·have e:Bt r.length (Bt 0 (fun _=>[]) (F (f::r))) (fun i=>[G].getD i []) i=F (f::r) i:=by simp[Bt,h]
  rw[e,h1 i h]
  exact Bc _
 ·obtain rfl:i=r.length:=by omega
  have e:Bt r.length (Bt 0 (fun _=>[]) (F (f::r))) (fun i=>[G].getD i []) r.length=G:=by simp[Bt]
  rw[e]
  exact h2
noncomputable def Eop:Senv:=EC CK 21 4 [] (fun _=>([],[]))
def K1(a:Scp):Nat:=N0+LN a+N1
def QjC(a:Nat):List D:=List.getD [[D.sl N1 N0 (fun _x=>[]) Mode.nil]] a []
theorem BdG(sc:Scp)(h:sc.length<=1000000):CD 25 [.agg (scC sc)] (.agg (scC ([]::sc))):=by
 refine CD.ofW (Ct (E:=Eop) (eOk BE rfl) Tryz.func25 rfl (by kernel_rfl) rfl (by simp[Eop,EC,E0]) ?_)
 refine Bl (T :=
  ∀(x:Nat),True->∀(x_1:Nat),x≠x_1/\True->∀(x_2:Nat),x_1≠x_2/\x≠x_2/\True->SM x_2/\SM x/\Bf ((N0+LN sc)*24<=140737488355328/\N0+LN sc<=9223372036854775807) (∀(t:Nat),SM t/\Bf (K1 sc*24<=140737488355328/\K1 sc<=9223372036854775807) (∀(t:Nat),SM x_2/\SM x_2/\SM x/\Bf ((N0+LN sc)*24<=140737488355328/\N0+LN sc<=9223372036854775807) (∀(t:Nat),SM t/\Bf (K1 sc*24<=140737488355328/\K1 sc<=9223372036854775807) (∀(t:Nat),SM x_2/\SM x_2/\SM x_1/\(SM x_1/\True)/\(K1 sc=LN ([]::sc)/\(∀(i:Nat),i<K1 sc->wkL (Bt (N0+LN sc) (Bt N0 (fun x=>[]) (B2 sc)) (fun i=>QjC i) i) (B2 ([]::sc) i))/\True)/\(K1 sc=LN ([]::sc)/\(∀(i:Nat),i<K1 sc->wkL (Bt (N0+LN sc) (Bt N0 (fun x=>[]) (B1 sc)) (fun i=>QjC i) i) (B1 ([]::sc) i))/\True)/\True))))) (by kernel_rfl) ?_
 delta LN N0 N1 SM K1 QjC
 simp only[eq_self,ne_eq,Be,true_and,and_true,forall_const]
 intro _ _ _ _ _
 refine⟨⟨by omega,by omega⟩,⟨by omega,by omega⟩,⟨by omega,by omega⟩,⟨by omega,by omega⟩,⟨by simp,fun i hi=>?_⟩,by simp,fun i hi=>?_⟩
 ·exact RY (F:=B2) sc (fun i h=>Gw [] sc h) (by rw[I1];simp[wkL,wkD,ssl,nmF,Ba,EI,BG]) i hi
 ·exact RY (F:=B1) sc (fun i h=>Gq [] sc h) (by rw[IX];simp[wkL,wkD,isl,clF,Ba,EI,BG]) i hi
theorem Bcd(f : Frm1)(r : Scp)(nm : List UInt8)(c : Int)(t : Nat)(i : Nat)(hi : i<r.length+1) :
  wkL (Bt r.length (Bt 0 (fun _=>[]) (B2 (f::r))) (fun i=>[[.sl 1 (f.length+1) (Bt f.length (Bt 0 (fun _=>[D.str []]) fun i=>[D.str ((nmF f).getD i [])]) fun i=>[D.str ([nm].getD i [])]) (.tok 1 t)]].getD i []) i) (B2 ((f++[(nm,c)])::r) i):=by
 refine Baf (F:=B2) f (f++[(nm,c)]) r (fun i h=>by rw[Gw _ _ h,Gw _ _ h]) ?_ i hi
 rw[I1]
 refine⟨?_,trivial⟩
 simp only[ssl,wkD,Ba]
 refine⟨by simp,by simp[nmF],fun j hj=>?_,by simp[BG]⟩
 have e:Bt f.length (Bt 0 (fun _=>[D.str []]) fun i=>[D.str ((nmF f).getD i [])]) (fun i=>[D.str ([nm].getD i [])]) j=Bt f.length (fun j=>[D.str ((nmF f).getD j [])]) (fun i=>[D.str ([nm].getD i [])]) j:=by
  simp[Bt]
 rw[e,Bfm f nm c j hj]
 exact Bc _
theorem BbC(f : Frm1)(r : Scp)(nm : List UInt8)(c : Int)(t : Nat)(i : Nat)(hi : i<r.length+1) :
  wkL (Bt r.length (Bt 0 (fun _=>[]) (B1 (f::r))) (fun i=>[[.sl 1 (f.length+1) (Bt f.length (Bt 0 (fun _=>[D.str []]) fun i=>[D.int .i64 ((clF f).getD i 0)]) fun i=>[[D.int .i64 c]].getD i []) (.tok 3 t)]].getD i []) i) (B1 ((f++[(nm,c)])::r) i):=by
 refine Baf (F:=B1) f (f++[(nm,c)]) r (fun i h=>by rw[Gq _ _ h,Gq _ _ h]) ?_ i hi
 rw[IX]
 refine⟨?_,trivial⟩
 simp only[isl,wkD,Ba]
 refine⟨by simp,by simp[clF],fun j hj=>?_,by simp[BG]⟩
 have e:Bt f.length (Bt 0 (fun _=>[D.str []]) fun i=>[D.int .i64 ((clF f).getD i 0)]) (fun i=>[[D.int .i64 c]].getD i []) j=Bt f.length (fun j=>[D.int .i64 ((clF f).getD j 0)]) (fun i=>[[D.int .i64 c]].getD i []) j:=by
  simp[Bt]
 rw[e,Bfl f nm c j hj]
 exact Bc _
noncomputable def Edf:Senv:=EC CK 54 4 [6,7,8] (fun id=>match id with | 3=>([0,1,2,3,4,5,8,9,10,11,12,14,6,7,13,15,16,17,18,19,20],[6,7,13,15,16,17,18,20]) | 4=>([0,1,2,3,4,5,8,9,10,11,12,14,6,7,13,15,16,17,18,19,20],[6,7,13,15,16,17,18,20]) | _=>([],[]))
def KB(a:Frm1)(b:Scp):Int:=IntKind.wrap IntKind.i64 ((LI (a::b))-Z1)
def Ke(a:Frm1)(b:Scp):Nat:=N0+(Int.toNat (KB a b)-N0)
def K2(a:Frm1)(b:Scp):Nat:=Ke a b*24
def Qp3(a:Frm1)(b:Scp):D:=D.sl N1 (LN (a::b)) (fun i=>[D.sl N1 (LN (nmF (List.getD (List.reverse (a::b)) i []))) (fun i_1=>[D.str (List.getD (nmF (List.getD (List.reverse (a::b)) i [])) i_1 [])]) Mode.any]) Mode.any
def KC(a:Nat)(b:Frm1)(c:Scp):Prop:=SM a/\SM (Qp3 b c)
def QjD(a:Frm1)(b:Scp):Frm1:=List.getD (List.reverse (a::b)) (Int.toNat (KB a b)) []
def QjE(a:Frm1)(b:Scp):List (List UInt8):=nmF (QjD a b)
def ZU(a:Frm1)(b:Scp):Nat:=N0+LN (QjE a b)
def QbI(a:Frm1)(b:Scp):Nat:=ZU a b+N1
def J2(a:Frm1)(b:Scp):Nat:=Ke a b+N1
def QjF(a:Frm1)(b:Scp):Nat:=J2 a b*24
def Qp4(a:Frm1)(b:Scp):D:=D.sl N1 (LN (a::b)) (fun i=>[SI (clF (List.getD (List.reverse (a::b)) i []))]) Mode.any
def KD(a:Nat)(b:Frm1)(c:Scp):Prop:=SM a/\SM (Qp4 b c)
def QjG(a:Frm1)(b:Scp):List Int:=clF (QjD a b)
def ZV(a:Frm1)(b:Scp):Nat:=N0+LN (QjG a b)
def QbJ(a:Frm1)(b:Scp):Nat:=ZV a b+N1
def QjH(a:Frm1)(b:Scp)(c:List UInt8)(d:Int):Prop:=J2 a b=LN ((a++[(c,d)])::b)
def QjI(a:Frm1)(b:Scp)(c d e:Nat)(f:List UInt8)(g:Int)(h:Nat):Prop:=Bf (ZV a b*8<=140737488355328/\ZV a b<=9223372036854775807) (∀(t:Nat),SM t/\Bf (QbJ a b*8<=140737488355328/\QbJ a b<=9223372036854775807) (∀(t:Nat),SM c/\Bf (QjF a b<=140737488355328/\J2 a b<=9223372036854775807) (∀(_t_1:Nat),SM d/\SM d/\SM e/\(SM e/\True)/\(QjH a b f g/\(∀(i:Nat),i<J2 a b->wkL (Bt (Ke a b) (Bt N0 (fun _x=>[]) fun i=>[D.sl N1 (LN (nmF (List.getD (List.reverse (a::b)) (N0+i) []))) (fun i_1=>[D.str (List.getD (nmF (List.getD (List.reverse (a::b)) (N0+i) [])) i_1 [])]) Mode.any]) (fun i=>List.getD [[D.sl N1 (QbI a b) (Bt (ZU a b) (Bt N0 (fun _i=>[D.str []]) fun i=>[D.str (List.getD (QjE a b) i [])]) fun i=>[D.str (List.getD [f] i [])]) (Mode.tok N1 h)]] i []) i) [D.sl N1 (LN (nmF (List.getD (List.reverse ((a++[(f,g)])::b)) i []))) (fun i_1=>[D.str (List.getD (nmF (List.getD (List.reverse ((a++[(f,g)])::b)) i [])) i_1 [])]) Mode.any])/\True)/\(QjH a b f g/\(∀(i:Nat),i<J2 a b->wkL (Bt (Ke a b) (Bt N0 (fun _x=>[]) fun i=>[SI (clF (List.getD (List.reverse (a::b)) (N0+i) []))]) (fun i=>List.getD [[D.sl N1 (QbJ a b) (Bt (ZV a b) (Bt N0 (fun _i=>[D.str []]) fun i=>[ZI (GI (QjG a b) i)]) fun i=>List.getD [[ZI g]] i []) (Mode.tok (3:Nat) t)]] i []) i) [SI (clF (List.getD (List.reverse ((a++[(f,g)])::b)) i []))])/\True)/\True)))
def QbK(a:Nat)(b:Frm1)(c:Scp)(d e f:Nat)(g:List UInt8)(h:Int)(k:Nat):Prop:=KD a b c/\QjI b c d e f g h k
def QjJ(a:Nat)(b:Frm1)(c:Scp)(d e f:Nat)(g:List UInt8)(h:Int)(k:Nat):Prop:=KD a b c/\QjI b c d e f g h k/\QbK a b c d e f g h k
def QjK(a:Nat)(b:Frm1)(c:Scp)(d e f:Nat)(g:List UInt8)(h:Int)(k:Nat):Prop:=KD a b c/\QbK a b c d e f g h k
def J3(a:Nat):Prop:=SM a/\SM (D.sl N1 N0 (fun _x=>[]) Mode.nil)
def QjL(a:Nat)(b:Frm1)(c:Scp)(d e:Nat)(f:List UInt8)(g:Int)(h:Nat):Prop:=KD a b c/\KD a b c/\J3 d/\Bf (K2 b c<=140737488355328/\Ke b c<=9223372036854775807) (∀(t:Nat),QbK a b c t d e f g h)
def QjM(a:Frm1)(b:Scp)(c d e f:Nat)(g:List UInt8)(h:Int):Prop:=Bf (ZU a b*16<=140737488355328/\ZU a b<=9223372036854775807) (∀(t:Nat),SM t/\Bf (QbI a b*16<=140737488355328/\QbI a b<=9223372036854775807) (∀(t:Nat),SM c/\Bf (QjF a b<=140737488355328/\J2 a b<=9223372036854775807) (∀(_t_1:Nat),SM d/\SM d/\SM e/\Bf (Z0<=Z0/\Z0<=KB a b/\KB a b<=(LI (a::b))) (SM e/\Bf (Z0<=KB a b/\KB a b<(LI (a::b))) (Bf (K2 a b<=140737488355328/\Ke a b<=9223372036854775807) (∀(t_2:Nat),KD e a b/\QjJ e a b t_2 d f g h t/\QjK e a b t_2 d f g h t)/\(KD e a b/\KD e a b/\J3 d/\Bf (K2 a b<=140737488355328/\Ke a b<=9223372036854775807) (∀(t_2:Nat),QjJ e a b t_2 d f g h t)/\QjL e a b d f g h t)/\KD e a b/\KD e a b/\J3 d/\Bf (K2 a b<=140737488355328/\Ke a b<=9223372036854775807) (∀(t_2:Nat),QjK e a b t_2 d f g h t)/\QjL e a b d f g h t)))))
def QbL(a:Nat)(b:Frm1)(c:Scp)(d e f:Nat)(g:List UInt8)(h:Int):Prop:=KC a b c/\QjM b c d e a f g h
def QjN(a:Nat)(b:Frm1)(c:Scp)(d e f:Nat)(g:List UInt8)(h:Int):Prop:=KC a b c/\QjM b c d e a f g h/\QbL a b c d e f g h
def QjO(a:Nat)(b:Frm1)(c:Scp)(d e f:Nat)(g:List UInt8)(h:Int):Prop:=KC a b c/\QbL a b c d e f g h
def QjP(a:Nat)(b:Frm1)(c:Scp)(d e:Nat)(f:List UInt8)(g:Int):Prop:=KC a b c/\KC a b c/\J3 d/\Bf (K2 b c<=140737488355328/\Ke b c<=9223372036854775807) (∀(t:Nat),QbL a b c t d e f g)
theorem Bh7(f:Frm1)(r:Scp)(nm:List UInt8)(c:Int)(h:r.length<=1000000)(hf:f.length<=1000000):CD 50 [.agg (scC (f::r)),.str nm,.int .i64 c] (.agg (scC ((f++[(nm,c)])::r))):=by
 refine CD.ofW (Ct (E:=Edf) (eOk BE rfl) Tryz.func50 rfl (by kernel_rfl) rfl (by simp[Edf,EC,E0]) ?_)
 refine Bl (T :=
  ∀(x:Nat),True->∀(x_1:Nat),x≠x_1/\True->∀(x_2:Nat),x_1≠x_2/\x≠x_2/\True->SM x/\SM x_2/\SM x/\Bf (Z0<=Z0/\Z0<=KB f r/\KB f r<=(LI (f::r))) (SM x/\Bf (Z0<=KB f r/\KB f r<(LI (f::r))) (Bf (K2 f r<=140737488355328/\Ke f r<=9223372036854775807) (∀(t:Nat),KC x f r/\QjN x f r t x_2 x_1 nm c/\QjO x f r t x_2 x_1 nm c)/\(KC x f r/\KC x f r/\J3 x_2/\Bf (K2 f r<=140737488355328/\Ke f r<=9223372036854775807) (∀(t:Nat),QjN x f r t x_2 x_1 nm c)/\QjP x f r x_2 x_1 nm c)/\KC x f r/\KC x f r/\J3 x_2/\Bf (K2 f r<=140737488355328/\Ke f r<=9223372036854775807) (∀(t:Nat),QjO x f r t x_2 x_1 nm c)/\QjP x f r x_2 x_1 nm c))) (by kernel_rfl) ?_
 delta GI LI LN N0 N1 SI SM Z0 Z1 ZI KB Ke K2 Qp3 KC QjD QjE ZU QbI J2 QjF Qp4 KD QjG ZV QbJ QjH QjI QbK QjJ QjK J3 QjL QjM QbL QjN QjO QjP
 simp only[eq_self,ne_eq,Be,true_and,and_true,forall_const]
 have hw:IntKind.i64.wrap (((f::r).length:Nat)-1)=(r.length:Nat):=by
  have e:(((f::r).length:Nat):Int)=r.length+1:=by simp
  rw[e,Bb (by omega) (by omega)]
  omega
 have hl:(f::r).reverse.getD r.length []=f:=by
  rw[List.reverse_cons,List.getD_eq_getElem?_getD,List.getElem?_append_right (by simp)]
  simp
 have hn:(nmF f).length=f.length:=by simp[nmF]
 have hc:(clF f).length=f.length:=by simp[clF]
 have hL:((f::r).length:Nat)=r.length+1:=rfl
 intro _ _ _ _ _
 simp only[hw,Int.toNat_natCast,Nat.sub_zero,Nat.zero_add,hl,hn,hc]
 have hL':(((f::r).length:Nat):Int)=r.length+1:=by simp
 repeat' first | apply And.intro | intro _
 all_goals first | omega | rfl | exact Bcd f r nm c _ _ ‹_› | exact BbC f r nm c _ _ ‹_›
def Bfv(x:Except Flt (List Sm×Frm1))(r:AEnd):Prop:=match x with
 |.ok z=>r=.ret (.tup [gsl 34 Sm.row1 z.1,.int .i64 (z.2.length:Nat),CY (0,0,[])])
 |.error e=>r=.ret (.tup [gsl 34 Sm.row1 [],.int .i64 0,CY e])
def VRb(sc:Scp)(l:List Sm):Prop:=CZ 24 [.agg (scC ([]::sc)),gsl 34 Sm.row1 l] (Bfv (rvB sc [] l))
noncomputable def _root_.Go.Ab.inlR(con:Con)(k:Nat)(ds:List D)(S:St)(R:AEnd->St->Prop):Prop :=
 match Nat.beq k 49 with
 |true=>match ds with
  | [s,a]=>∃z:Scp×Nd,(s=.agg (scC z.1)/\a=.agg z.2.row1/\VRn z.1 z.2)/\(∀m,rvN z.1 z.2=.ok m->R (.ret (.tup [.agg (Nd.row1 m),CY (0,0,[])])) S)/\∀e,rvN z.1 z.2=.error e->e.1≠0->∀m:Nd,R (.ret (.tup [.agg (Nd.row1 m),CY e])) S
  |_=>False
 |false=>match Nat.beq k 24 with
  |true=>match ds with
   | [s,l]=>∃z:Scp×List Sm,(s=.agg (scC ([]::z.1))/\l=gsl 34 Sm.row1 z.2/\VRb z.1 z.2)/\(∀w,rvB z.1 [] z.2=.ok w->R (.ret (.tup [gsl 34 Sm.row1 w.1,.int .i64 (w.2.length:Nat),CY (0,0,[])])) S)/\∀e,rvB z.1 [] z.2=.error e->e.1≠0->R (.ret (.tup [gsl 34 Sm.row1 [],.int .i64 0,CY e])) S
   |_=>False
  |false=>Tg { E0 con 0 0 [] (fun _=>([],[])) with auto:=true } (EP IO) 9 k ds S R
theorem GQ{con:Con}(hc:ConOk Tryz.prog con)(k:Nat)(ds:List D)(S:St)(R:AEnd->St->Prop)(h:Go.Ab.inlR con k ds S R):ACalls Tryz.prog k ds S R:=by
 unfold Go.Ab.inlR at h
 split at h
 ·rename_i hk
  have hk:=Nat.eq_of_beq_eq_true hk
  subst hk
  split at h
  ·obtain ⟨z,⟨rfl,rfl,h3⟩,h4,h5⟩:=h
   refine CZ.any h3.down fun r hr=>?_
   unfold Bg1 at hr
   split at hr
   ·rename_i m hm
    subst hr
    exact h4 m hm
   ·rename_i e he
    obtain ⟨m,rfl⟩:=hr
    exact h5 e he (Oz _ _ _ he) m
  ·exact h.elim
 ·split at h
  ·rename_i hk
   have hk:=Nat.eq_of_beq_eq_true hk
   subst hk
   split at h
   ·obtain ⟨z,⟨rfl,rfl,h3⟩,h4,h5⟩:=h
    refine CZ.any h3 fun r hr=>?_
    unfold Bfv at hr
    split at hr
    ·rename_i m hm
     subst hr
     exact h4 m hm
    ·rename_i e he
     subst hr
     exact h5 e he (Tz _ _ _ _ he)
   ·exact h.elim
  ·exact GT (E:={ E0 con 0 0 [] (fun _=>([],[])) with auto:=true }) It hc mix Ew Ic 9 k ds S R h
def _root_.Go.Ab.endRn(X:Except Flt Nd)(e:AEnd)(_:St):Prop:=match e with
 |.ret (.tup [u,d])=>(∃m,X=.ok m/\wkD u (.agg (Nd.row2 m))/\Br d (CY (0,0,[])))\/∃e,X=.error e/\(∃m,wkD u (.agg (Nd.row2 m)))/\Br d (CY e)
 |_=>False
theorem Tt{x:Except Flt Nd}{k:Nat}{ds:List D}(h:ACalls Tryz.prog k ds ⟨[],[]⟩ (Go.Ab.endRn x)):CZ k ds (Bg1 x):=by
 refine ACalls.wkEnd h fun r S' hr=>?_
 unfold Go.Ab.endRn at hr
 have hb:∀ {C:Ctx} {u:D} {m:Nd},wkD u (.agg (Nd.row2 m))->∀v,Rep C u v->Rep C (.agg m.row1) v:=fun {C u m} h1 v hv=>by
  refine CB (.agg (Nd.row2 m)) _ ?_ C v (CB _ _ h1 C v hv)
  simp only[wkD]
  exact TG m
 split at hr
 ·rename_i u d
  rcases hr with ⟨m,rfl,h1,h2⟩ | ⟨e',rfl,⟨m,h1⟩,h2⟩
  ·refine⟨.ret (.tup [.agg m.row1,CY (0,0,[])]),fun C e he=>?_,rfl⟩
   cases e with
   |returned v=>exact M1 (hb h1) (fun v=>Bp _ _ h2 C v) v he
   |panicked _=>exact he.elim
   |outgrown=>exact he.elim
  ·refine⟨.ret (.tup [.agg m.row1,CY e']),fun C e he=>?_,m,rfl⟩
   cases e with
   |returned v=>exact M1 (hb h1) (fun v=>Bp _ _ h2 C v) v he
   |panicked _=>exact he.elim
   |outgrown=>exact he.elim
 ·exact hr.elim
def I6(sc:Scp):Prop:=sc.length<=1000000/\∀f∈sc,f.length<=1000000
def IW(sc:Scp)(nm:List UInt8):Con:=fun k ds S=>match k with
 |61=>some (pA ds S (.tup [.int .i64 (lkA (Bv nm sc)).1,.int .i64 (lkA (Bv nm sc)).2.1,.int .i64 (lkA (Bv nm sc)).2.2.1,.bool (lkA (Bv nm sc)).2.2.2]) (ds=[.agg (scC sc),.str nm]))
 |25=>some (pA ds S (.agg (scC ([]::sc))) (ds=[.agg (scC sc)]))
 |_=>none
theorem Gc{sc:Scp}(hs:I6 sc)(nm:List UInt8):ConOk Tryz.prog (IW sc nm):=by
 intro k ds S A hh
 unfold IW at hh
 split at hh
 ·injection hh with hh;subst hh
  exact Bm fun e=>by subst e;exact CD.at_ (Bji sc nm hs) _
 ·injection hh with hh;subst hh
  exact Bm fun e=>by subst e;exact CD.at_ (BdG sc hs.1) _
 ·cases hh
theorem R0:wkD CM (gsl 15 Nd.row1 []):=by
 simp[CM,gsl,wkD,Ba,EI,BG]
noncomputable def Era(sc:Scp)(nm:List UInt8):Senv:={ EC (IW sc nm) 104 17 [22,33,43,58,78,93] (fun id=>match id with | 7=>([0,1,2,3,4,5,6,7],[6,7]) | 9=>([0,1,2,3,4,5,6,7],[6,7]) | 14=>([0,2,3,1,4,5,6,7,8,9,10,11,12],[1,4,9,12]) | 17=>([0,1,2,3],[2,3]) | 22=>([0,1,2,3,4,5,6,7,8,9,10,11,12,13],[6,10,11,12,13]) | 24=>([0,1,2,3],[2,3]) | _=>([],[])) with
 unr:=fun _=>2
 inl:=Go.Ab.inlR (IW sc nm) }
def QbM(a:Scp):D:=D.agg [D.sl N1 (LN a) (fun i=>[D.sl N1 (LN (nmF (List.getD (List.reverse a) i []))) (fun i_1=>[D.str (List.getD (nmF (List.getD (List.reverse a) i [])) i_1 [])]) Mode.any]) Mode.any,D.sl N1 (LN a) (fun i=>[SI (clF (List.getD (List.reverse a) i []))]) Mode.any]
def KE(a b:Nat):Prop:=SM a/\SM b/\True
def XC(a:Arr):D:=ZI (Arr.k a)
def XD(a:Arr):D:=SI (Arr.sh a)
def XE(a:Arr):D:=SI (Arr.nu a)
def QbN:Arr:=DA
def XF(a:Arr):D:=D.sl N4 (LN (Arr.it a)) (fun i=>Arr.row (List.getD (Arr.it a) i QbN)) Mode.any
def ZW:Nd:=Nd.mk Z0 Z0 Z0 [] Z0 Z0 QbN [] [] Z0 Z0 Z0
def ZX:D:=D.sl 15 N0 (fun _i=>Nd.row1 ZW) Mode.any
def QbO:Sm:=Sm.mk Z0 Z0 [] Z0 ZW ZW
def J4(a:List Sm):D:=D.sl 34 (LN a) (fun i=>Sm.row1 (List.getD a i QbO)) Mode.any
def QjQ:List D:=[ZI Z0,ZI Z0,ZI Z0]
def QjR(a:List Sm):List D:=J4 a::QjQ
def ZY(a:Nd):Arr:=Nd.va a
def Qp5(a:Nd):List Int:=Arr.sh (ZY a)
def Qp6(a:Nd):List Int:=Arr.nu (ZY a)
def QjS(a:Nd):List Arr:=Arr.it (ZY a)
def XG(a:Nd):List D:=[ZI (Nd.kd a),ZI (Nd.at_ a),ZI (Nd.cl a),D.str (Nd.tx a),ZI (Nd.pr a),ZI (Nd.op a),ZI (Arr.k (ZY a)),SI (Qp5 a),SI (Qp6 a),D.sl N4 (LN (QjS a)) (fun i=>Arr.row (List.getD (QjS a) i QbN)) Mode.any,D.sl 15 (LN (Nd.ki a)) (fun i=>Nd.row1 (List.getD (Nd.ki a) i ZW)) Mode.any,D.sl 34 (LN (Nd.bo a)) (fun i=>Sm.row1 (List.getD (Nd.bo a) i QbO)) Mode.any,ZI (Nd.de a),ZI (Nd.sl a),ZI (Nd.ss a)]
def QbP(a b c:Int)(d:List UInt8)(e f:Int)(g:Arr)(h:List Sm)(k:Nd):Prop:=wkL (ZI a::ZI b::ZI c::D.str d::ZI e::ZI f::XC g::XD g::XE g::XF g::ZX::QjR h) (XG k)
def K3:Prop:=SM N0/\(∀(i:Nat),i<N0->BV (List D) [] [])/\True
def XH(a:Int)(b:List UInt8):Prop:=a=Z0/\K3/\K3/\BV (List UInt8) b []/\True
def QjT(a b c:Int)(d:List UInt8)(e f:Int)(g:Arr)(h:List Sm):Prop:=∃(m:Nd),QbP a b c d e f g h m
def XI(a b:Int)(c d:List UInt8):Prop:=a=b/\K3/\K3/\c=d/\True
def QjU(a b c:Int)(d:List UInt8)(e f:Int)(g:Arr)(h:List Sm)(k:Scp)(l:Nd):Prop:=wkL [ZI a,ZI b,ZI c,D.str d,ZI e,ZI f,XC g,XD g,XE g,XF g,ZX,J4 h,ZI (Prod.fst (lkA (Bv d k))),ZI (Prod.fst (Prod.snd (lkA (Bv d k)))),ZI Z0] (XG l)
def XJ:Prop:=SM Z0/\SM Z0/\K3/\K3/\BV (List UInt8) [] []/\True
def XK(a b:Int)(c:List UInt8):Prop:=Z0=a/\Z0=b/\K3/\K3/\BV (List UInt8) [] c/\True
def QjV(a:Scp):Prop:=[QbM a]=[D.agg (scC a)]
def ZZ(a:Nat)(b:List Sm):Prop:=SM a/\SM (J4 b)
def QbQ(a b:Scp)(c d:List Sm):Prop:=D.agg (scC ([]::a))=D.agg (scC ([]::b))/\J4 c=J4 d/\VRb b d
def Z2(a b c d e:Nat):Prop:=a≠b/\c≠b/\d≠b/\e≠b/\True
def XL:D:=D.sl N1 N0 (fun _x=>[]) Mode.nil
def QbR:D:=D.agg [ZI Z0,ZI Z0,XL,XL,D.str []]
def J5(a b c:Int)(d:List UInt8)(e f:Int)(g:Arr)(h:List Sm)(k:Frm1)(l:Nd):Prop:=wkL [ZI a,ZI b,ZI c,D.str d,ZI e,ZI f,XC g,XD g,XE g,XF g,ZX,J4 h,ZI Z0,ZI Z0,ZI (LI k)] (XG l)
def QbS(a b:Int)(c:List UInt8):D:=D.agg [ZI a,ZI b,XL,XL,D.str c]
def J6(a b c:Int)(d:List UInt8)(e f:Int)(g:Arr)(h:Nd):Prop:=wkL (ZI a::ZI b::ZI c::D.str d::ZI e::ZI f::XC g::XD g::XE g::XF g::ZX::D.sl 34 N0 (fun _i=>Sm.row1 QbO) Mode.any::QjQ) (XG h)
def QjW(a b c:Int)(d:List UInt8)(e f:Int)(g:Arr)(h:List Sm)(k:Nd):Prop:=wkL (ZI a::ZI b::ZI c::D.str d::ZI e::ZI f::XC g::XD g::XE g::XF g::XL::QjR h) (XG k)
theorem Bca(sc : Scp)(kd at_ cl : Int)(tx : List UInt8)(pr op : Int)(va : Arr)(bo : List Sm)(de sl ss : Int)(hs : I6 sc)(hb : kd=10 -> VRb sc bo)(X : Except Flt Nd)(hX : X=rvN sc (.mk kd at_ cl tx pr op va [] bo de sl ss)) :
  ACalls Tryz.prog 49 [.agg (scC sc),.agg (BiO kd at_ cl tx pr op va bo de sl ss)] ⟨[],[]⟩ (Go.Ab.endRn X):=by
 refine Ct (E:=Era sc tx) (O5 (Gc hs tx) (GQ (Gc hs tx)) rfl) Tryz.func49 rfl (by kernel_rfl) rfl (by simp[Era,EC,E0]) ?_
 refine Bl (T :=
  ∀(x:Nat),True->∀(x_1:Nat),x≠x_1/\True->∀(x_2:Nat),x_1≠x_2/\x≠x_2/\True->∀(x_3:Nat),x_2≠x_3/\x_1≠x_3/\x≠x_3/\True->SM x_1/\SM x_1/\SM x_1/\SM x_1/\ifB (kd==2) (SM x/\SM x_1/\∃(x:Unit),[QbM sc,D.str tx]=[D.agg (scC sc),D.str tx]/\∀(y:Unit),True->ifB (!Prod.snd (Prod.snd (Prod.snd (lkA (Bv tx sc))))) (SM x_1/\SM x_1/\SM x_1/\SM x_2/\(SM x_1/\SM (D.str tx))/\(SM x_1/\SM (ZI at_))/\SM x_3/\KE x_2 x_3/\((∃(m:Nd),X=Except.ok m/\QbP kd at_ cl tx pr op va bo m/\(28:Int)=Z0/\XH at_ tx)\/∃(e:Flt),X=Except.error e/\QjT kd at_ cl tx pr op va bo/\(28:Int)=e.1/\XI at_ e.2.1 tx e.2.2)) (SM x_1/\ifB (Prod.fst (Prod.snd (Prod.snd (lkA (Bv tx sc)))) != cl) (SM x_1/\SM x_1/\SM x_1/\SM x_2/\(SM x_1/\SM (D.str tx))/\(SM x_1/\SM (ZI at_))/\SM x_3/\KE x_2 x_3/\((∃(m:Nd),X=Except.ok m/\QbP kd at_ cl tx pr op va bo m/\(11:Int)=Z0/\XH at_ tx)\/∃(e:Flt),X=Except.error e/\QjT kd at_ cl tx pr op va bo/\(11:Int)=e.1/\XI at_ e.2.1 tx e.2.2)) (SM x_1/\SM x_1/\SM x_1/\SM x_2/\SM x_3/\KE x_2 x_3/\((∃(m:Nd),X=Except.ok m/\QjU kd at_ cl tx pr op va bo sc m/\XJ)\/∃(e:Flt),X=Except.error e/\(∃(m:Nd),QjU kd at_ cl tx pr op va bo sc m)/\XK e.1 e.2.1 e.2.2)))) (SM x_1/\ifB (kd==10) (SM x/\SM x_1/\(∃(x_4:Unit),QjV sc/\∀(y:Unit),True->ZZ x_1 bo/\(∃(z:Scp×List Sm),QbQ sc z.1 bo z.2/\(∀(w:List Sm×Frm1),rvB z.1 [] z.2=Except.ok w->∀(x_5:Nat),Z2 x_3 x_5 x_2 x_1 x->SM x_5/\SM x_1/\SM x_1/\SM x_1/\SM x_5/\SM x_2/\(SM x_5/\SM QbR)/\SM x_3/\KE x_2 x_3/\((∃(m:Nd),X=Except.ok m/\J5 kd at_ cl tx pr op va w.1 w.2 m/\XJ)\/∃(e:Flt),X=Except.error e/\(∃(m:Nd),J5 kd at_ cl tx pr op va w.1 w.2 m)/\XK e.1 e.2.1 e.2.2))/\∀(e:Flt),rvB z.1 [] z.2=Except.error e->e.1≠Z0->∀(x_5:Nat),Z2 x_3 x_5 x_2 x_1 x->SM x_5/\SM x_1/\SM x_1/\SM x_1/\SM x_5/\SM x_2/\(SM x_5/\SM (QbS e.1 e.2.1 e.2.2))/\SM x_3/\KE x_2 x_3/\((∃(m:Nd),X=Except.ok m/\J6 kd at_ cl tx pr op va m/\e.1=Z0/\XH e.2.1 e.2.2)\/∃(e_1:Flt),X=Except.error e_1/\(∃(m:Nd),J6 kd at_ cl tx pr op va m)/\e.1=e_1.1/\XI e.2.1 e_1.2.1 e.2.2 e_1.2.2))/\∀(x_5:Nat),Z2 x_3 x_5 x_2 x_1 x->ZZ x_1 bo/\∃(z:Scp×List Sm),QbQ sc z.1 bo z.2/\(∀(w:List Sm×Frm1),rvB z.1 [] z.2=Except.ok w->SM x_5/\SM x_1/\SM x_1/\SM x_1/\SM x_5/\SM x_2/\(SM x_5/\SM QbR)/\SM x_3/\KE x_2 x_3/\((∃(m:Nd),X=Except.ok m/\J5 kd at_ cl tx pr op va w.1 w.2 m/\XJ)\/∃(e:Flt),X=Except.error e/\(∃(m:Nd),J5 kd at_ cl tx pr op va w.1 w.2 m)/\XK e.1 e.2.1 e.2.2))/\∀(e:Flt),rvB z.1 [] z.2=Except.error e->e.1≠Z0->SM x_5/\SM x_1/\SM x_1/\SM x_1/\SM x_5/\SM x_2/\(SM x_5/\SM (QbS e.1 e.2.1 e.2.2))/\SM x_3/\KE x_2 x_3/\((∃(m:Nd),X=Except.ok m/\J6 kd at_ cl tx pr op va m/\e.1=Z0/\XH e.2.1 e.2.2)\/∃(e_1:Flt),X=Except.error e_1/\(∃(m:Nd),J6 kd at_ cl tx pr op va m)/\e.1=e_1.1/\XI e.2.1 e_1.2.1 e.2.2 e_1.2.2))/\∀(x_4:Nat),Z2 x_3 x_4 x_2 x_1 x->ZZ x_1 bo/\(SM x/\SM (QbM sc))/\∃(x:Unit),QjV sc/\∀(y:Unit),True->ZZ x_1 bo/\∃(z:Scp×List Sm),QbQ sc z.1 bo z.2/\(∀(w:List Sm×Frm1),rvB z.1 [] z.2=Except.ok w->SM x_4/\SM x_1/\SM x_1/\SM x_1/\SM x_4/\SM x_2/\(SM x_4/\SM QbR)/\SM x_3/\KE x_2 x_3/\((∃(m:Nd),X=Except.ok m/\J5 kd at_ cl tx pr op va w.1 w.2 m/\XJ)\/∃(e:Flt),X=Except.error e/\(∃(m:Nd),J5 kd at_ cl tx pr op va w.1 w.2 m)/\XK e.1 e.2.1 e.2.2))/\∀(e:Flt),rvB z.1 [] z.2=Except.error e->e.1≠Z0->SM x_4/\SM x_1/\SM x_1/\SM x_1/\SM x_4/\SM x_2/\(SM x_4/\SM (QbS e.1 e.2.1 e.2.2))/\SM x_3/\KE x_2 x_3/\((∃(m:Nd),X=Except.ok m/\J6 kd at_ cl tx pr op va m/\e.1=Z0/\XH e.2.1 e.2.2)\/∃(e_1:Flt),X=Except.error e_1/\(∃(m:Nd),J6 kd at_ cl tx pr op va m)/\e.1=e_1.1/\XI e.2.1 e_1.2.1 e.2.2 e_1.2.2)) (SM x_1/\SM x_1/\SM x_1/\SM x_2/\SM x_3/\KE x_2 x_3/\((∃(m:Nd),X=Except.ok m/\QjW kd at_ cl tx pr op va bo m/\XJ)\/∃(e:Flt),X=Except.error e/\(∃(m:Nd),QjW kd at_ cl tx pr op va bo m)/\XK e.1 e.2.1 e.2.2)))) (by kernel_rfl) ?_
 delta DA GI LI LN N0 N1 N4 SI SM Z0 ZI QbM KE J4 QjQ QjR ZY Qp5 Qp6 QjS XG QbP K3 XC XH QjT XI QjU XJ XK QjV ZZ QbQ Z2 XD XL QbR J5 QbS J6 QjW XE QbN XF ZW ZX QbO
 try simp only[<- dm]
 try simp only[<- dn]
 simp only[ne_eq,implies_true,Bg,true_and,and_true,beq_iff_eq,bne_iff_ne,bne_eq_false_iff_eq,beq_eq_false_iff_ne,Bool.not_eq_true',Bool.not_eq_false',exists_const,forall_const,Prod.exists]
 rw[rvN] at hX
 simp only[rvL] at hX
 have nc:∀bo' de' sl' ss',wkL (BiO kd at_ cl tx pr op va bo' de' sl' ss') (Nd.row2 (.mk kd at_ cl tx pr op va [] bo' de' sl' ss')):=fun _ _ _ _=>Bc _
 refine fun _ _ _ _ _ _ _=>⟨fun h2=>⟨rfl,fun hn=>?_,fun hn=>⟨fun hc=>?_,fun hc=>?_⟩⟩,fun h2=>⟨fun h10=>⟨⟨rfl,?_,fun _ _=>?_⟩,fun _ _=>⟨rfl,?_⟩⟩,fun h10=>?_⟩⟩
 ·cases hl:Bv tx sc with
  |some y=>rw[hl] at hn;exact absurd hn (by obtain ⟨d,i,c⟩:=y;simp[lkA])
  |none =>
   rw[if_pos h2,hl] at hX
   exact .inr ⟨28,at_,tx,hX,⟨_,nc bo 0 0 0⟩,rfl,rfl,rfl⟩
 ·cases hl:Bv tx sc with
  |none=>rw[hl] at hn;exact absurd hn (by simp[lkA])
  |some y =>
   obtain ⟨d,i,c⟩:=y
   rw[if_pos h2,hl] at hX
   rw[hl] at hc
   simp only[lkA] at hc
   simp only[if_neg hc] at hX
   exact .inr ⟨11,at_,tx,hX,⟨_,nc bo 0 0 0⟩,rfl,rfl,rfl⟩
 ·cases hl:Bv tx sc with
  |none=>rw[hl] at hn;exact absurd hn (by simp[lkA])
  |some y =>
   obtain ⟨d,i,c⟩:=y
   rw[if_pos h2,hl] at hX
   rw[hl] at hc
   simp only[lkA] at hc ⊢
   simp only[if_pos hc] at hX
   exact .inl ⟨_,hX,nc bo d i 0⟩
 iterate 3
  ·rw[if_neg h2,if_pos h10] at hX
   refine⟨sc,bo,⟨rfl,rfl,hb h10⟩,fun w hw=>?_,fun e he _=>?_⟩
   ·intros
    rw[hw] at hX
    exact .inl ⟨_,hX,nc w.1 0 0 w.2.length⟩
   ·intros
    rw[he] at hX
    exact .inr ⟨e.1,e.2.1,e.2.2,hX,⟨_,nc [] 0 0 0⟩,rfl,rfl,rfl⟩
 ·rw[if_neg h2,if_neg h10] at hX
  exact .inl ⟨_,hX,Bd _,Bd _,Bd _,Bd _,Bd _,Bd _,Bd _,Bd _,Bd _,Bd _,R0,Bd _,Bd _,Bd _,Bd _,trivial⟩
theorem Bih(sc:Scp)(n:Nd)(hk:n.ki=[])(hs:I6 sc)(hb:n.kd=10->VRb sc n.bo):VRn sc n:=by
 cases n with
 |mk kd at_ cl tx pr op va ki bo de sl ss =>
  obtain rfl:ki=[]:=hk
  exact Tt (Bca sc kd at_ cl tx pr op va bo de sl ss hs hb _ rfl)
theorem BeL(l:List Nd)(k:Nat):wkD (.sl 15 l.length (fun j=>Nd.row1 (l.getD j default)) (.tok 0 k)) (gsl 15 Nd.row1 l):=by
 simp only[gsl,wkD,Ba]
 exact⟨by simp,trivial,fun _ _=>Bc _,by simp[BG]⟩
noncomputable def Exb(sc:Scp)(nm:List UInt8)(ki:List Nd):Senv:={ EC (IW sc nm) 104 17 [22,33,43,58,78,93] (fun id=>match id with | 7=>([0,1,2,3,4,5,6,7],[6,7]) | 9=>([0,1,2,3,4,5,6,7],[6,7]) | 14=>([0,2,3,1,4,5,6,7,8,9,10,11,12],[1,4,9,12]) | 17=>([0,1,2,3],[2,3]) | 22=>([0,1,2,3,4,5,6,7,8,9,10,11,12,13],[6,10,11,12,13]) | 24=>([0,1,2,3],[2,3]) | _=>([],[])) with
 inl:=Go.Ab.inlR (IW sc nm)
 gh:=fun b=>match b with
  |0=>[.slot 1500013]
  |_=>[]
 ann:=fun b _env S=>match b with
  |0=>some { slots:=[14,13],keep:=[2,3,4,5],α:=Nat×List Nd×Nat,st:=fun y=>([.int .i64 (y.1:Nat),.sl 15 y.2.1.length (fun j=>Nd.row1 (y.2.1.getD j default)) (.tok 0 y.2.2)],⟨S.objs,[(0,y.2.2)]⟩),inv:=fun y=>KJ sc ki y.2.1 y.1,mu:=fun y=>ki.length-y.1 }
  |_=>none }
def XM(a:Scp):D:=D.agg [D.sl N1 (LN a) (B2 a) Mode.any,D.sl N1 (LN a) (B1 a) Mode.any]
def Qp7(a:Scp)(b:List UInt8):List D:=[XM a,D.str b]
def Qr(a b:Nat):Prop:=SM a/\SM b/\True
def XN(a:Arr):D:=ZI (Arr.k a)
def Qh(a:Arr):Nat:=LN (Arr.sh a)
def QB(a:Arr)(b:Nat):List D:=[ZI (GI (Arr.sh a) b)]
def XO(a:Arr):D:=D.sl N1 (Qh a) (fun i=>QB a i) Mode.any
def Qi(a:Arr):Nat:=LN (Arr.nu a)
def QC(a:Arr)(b:Nat):List D:=[ZI (GI (Arr.nu a) b)]
def XP(a:Arr):D:=D.sl N1 (Qi a) (fun i=>QC a i) Mode.any
def Qj(a:Arr):Nat:=LN (Arr.it a)
def Qx:Arr:=DA
def QE(a:Arr)(b:Nat):List D:=Arr.row (List.getD (Arr.it a) b Qx)
def XQ(a:Arr):D:=D.sl N4 (Qj a) (fun i=>QE a i) Mode.any
def Qq:Nd:=Nd.mk Z0 Z0 Z0 [] Z0 Z0 Qx [] [] Z0 Z0 Z0
def Qb(a:List Nd)(b:Nat):List D:=Nd.row1 (List.getD a b Qq)
def XR(a:List Nd):D:=D.sl 15 (LN a) (fun i=>Qb a i) Mode.any
def Qy:Sm:=Sm.mk Z0 Z0 [] Z0 Qq Qq
def QF(a:List Sm)(b:Nat):List D:=Sm.row1 (List.getD a b Qy)
def J7(a:List Sm):D:=D.sl 34 (LN a) (fun i=>QF a i) Mode.any
def QjX:List D:=[ZI Z0,ZI Z0,ZI Z0]
def QjY(a:List Sm):List D:=J7 a::QjX
def XS(a:Nd):List D:=Nd.row2 a
def KM(a b c:Int)(d:List UInt8)(e f:Int)(g:Arr)(h:List Nd)(k:List Sm)(l:Nd):Prop:=wkL (ZI a::ZI b::ZI c::D.str d::ZI e::ZI f::XN g::XO g::XP g::XQ g::XR h::QjY k) (XS l)
def Qa:Prop:=SM N0/\(∀(i:Nat),i<N0->BV (List D) [] [])/\True
def QbT(a:Int)(b:List UInt8):Prop:=a=Z0/\Qa/\Qa/\BV (List UInt8) b []/\True
def K4(a b c:Int)(d:List UInt8)(e f:Int)(g:Arr)(h:List Nd)(k:List Sm):Prop:=∃(m:Nd),KM a b c d e f g h k m
def QbU(a b:Int)(c d:List UInt8):Prop:=a=b/\Qa/\Qa/\c=d/\True
def QjZ(a b c:Int)(d:List UInt8)(e f:Int)(g:Arr)(h:List Nd)(k:List Sm)(l:Scp)(m:Nd):Prop:=wkL [ZI a,ZI b,ZI c,D.str d,ZI e,ZI f,XN g,XO g,XP g,XQ g,XR h,J7 k,ZI (Prod.fst (lkA (Bv d l))),ZI (Prod.fst (Prod.snd (lkA (Bv d l)))),ZI Z0] (XS m)
def Qp:Prop:=SM Z0/\SM Z0/\Qa/\Qa/\BV (List UInt8) [] []/\True
def XT(a b:Int)(c:List UInt8):Prop:=Z0=a/\Z0=b/\Qa/\Qa/\BV (List UInt8) [] c/\True
def Qp8(a:Scp):List D:=[XM a]
def Qj0(a:Scp):Prop:=SM (Qp8 a)
def Z3(a:Nat)(b:List Sm):Prop:=SM a/\SM (J7 b)
def Qj1(a:Scp):D:=D.agg [D.sl N1 (LN ([]::a)) (B2 ([]::a)) Mode.any,D.sl N1 (LN ([]::a)) (B1 ([]::a)) Mode.any]
def QbV(a b:Scp)(c d:List Sm):Prop:=Qj1 a=Qj1 b/\J7 c=J7 d/\VRb b d
def Kz(a b c d e:Nat):Prop:=a≠b/\c≠b/\d≠b/\e≠b/\True
def Z4:D:=D.sl N1 N0 (fun _x=>[]) Mode.nil
def QbW:D:=D.agg [ZI Z0,ZI Z0,Z4,Z4,D.str []]
def J8(a b c:Int)(d:List UInt8)(e f:Int)(g:Arr)(h:List Nd)(k:List Sm)(l:Frm1)(m:Nd):Prop:=wkL [ZI a,ZI b,ZI c,D.str d,ZI e,ZI f,XN g,XO g,XP g,XQ g,XR h,J7 k,ZI Z0,ZI Z0,ZI (LI l)] (XS m)
def Qp9(a b:Int)(c:List UInt8):D:=D.agg [ZI a,ZI b,Z4,Z4,D.str c]
def KN(a:Nat)(b c:Int)(d:List UInt8):Prop:=SM a/\SM (Qp9 b c d)
def J9(a b c:Int)(d:List UInt8)(e f:Int)(g:Arr)(h:List Nd)(k:Nd):Prop:=wkL (ZI a::ZI b::ZI c::D.str d::ZI e::ZI f::XN g::XO g::XP g::XQ g::XR h::D.sl 34 N0 (fun _i=>Sm.row1 Qy) Mode.any::QjX) (XS k)
def KO(a b:Int)(c:List UInt8):Prop:=a=Z0/\QbT b c
def KP(a b c d:Int)(e f:List UInt8):Prop:=a=b/\QbU c d e f
def XU(a:Nat)(b:Scp):Prop:=SM a/\SM (XM b)
def Qk:Prop:=SM Z0/\SM Z0/\SM Z0/\True
def Kf(a:List Nd)(b:Nat):Nd:=List.getD a (Int.toNat (↑b:Int)) Qq
def Z5(a:List Nd)(b:Nat):Arr:=Nd.va (Kf a b)
def Qqa(a:List Nd)(b:Nat):List Int:=Arr.sh (Z5 a b)
def Qqb(a:List Nd)(b:Nat):List Int:=Arr.nu (Z5 a b)
def Qj2(a:List Nd)(b:Nat):List Arr:=Arr.it (Z5 a b)
def Qj3(a:List Nd)(b:Nat):List Nd:=Nd.ki (Kf a b)
def Qj4(a:List Nd)(b:Nat):List Sm:=Nd.bo (Kf a b)
def XV(a b:Scp)(c:List Nd)(d:Nat)(e:Nd):Prop:=XM a=XM b/\D.agg [ZI (Nd.kd (Kf c d)),ZI (Nd.at_ (Kf c d)),ZI (Nd.cl (Kf c d)),D.str (Nd.tx (Kf c d)),ZI (Nd.pr (Kf c d)),ZI (Nd.op (Kf c d)),ZI (Arr.k (Z5 c d)),SI (Qqa c d),SI (Qqb c d),D.sl N4 (LN (Qj2 c d)) (fun i=>Arr.row (List.getD (Qj2 c d) i Qx)) Mode.any,D.sl 15 (LN (Qj3 c d)) (fun i=>Nd.row (List.getD (Qj3 c d) i Qq)) Mode.any,D.sl 34 (LN (Qj4 c d)) (fun i=>Sm.row (List.getD (Qj4 c d) i Qy)) Mode.any,ZI (Nd.de (Kf c d)),ZI (Nd.sl (Kf c d)),ZI (Nd.ss (Kf c d))]=D.agg (Nd.row1 e)/\VRn b e
def XW(a:Scp)(b c:Nd):Prop:=rvN a b=Except.ok c
def KF(a b c d e f:Nat):Prop:=a≠b/\Kz c b d e f
def Kg(a:Nat):D:=D.ref (max (3:Nat) (max (N1+N1) (max (N0+N1) N0))) a N0
def Qz(a:Nd):Arr:=Nd.va a
def Kh(a:Nd):List Int:=Arr.sh (Qz a)
def Ki(a:Nd):List Int:=Arr.nu (Qz a)
def Ql(a:Nd):List Arr:=Arr.it (Qz a)
def XX(a:Scp)(b:Nd)(c:Flt):Prop:=rvN a b=Except.error c
def Z6(a:Nat)(b:List Nd):Prop:=SM a/\SM (XR b)
def Qj5(a b c:Int)(d:List UInt8)(e f:Int)(g:Arr)(h:List Nd)(k:Nat)(l:List Sm)(m:Nd):Prop:=wkL (ZI a::ZI b::ZI c::D.str d::ZI e::ZI f::XN g::XO g::XP g::XQ g::D.sl 15 (LN h) (fun j=>Qb h j) (Mode.tok N0 k)::QjY l) (XS m)
theorem BbB(sc : Scp)(kd at_ cl : Int)(tx : List UInt8)(pr op : Int)(va : Arr)(ki : List Nd)(bo : List Sm)(de sl ss : Int)(hs : I6 sc)(hki : ki≠[] /\ ki.length<=1000000)(h2 : kd≠2)(h10 : kd≠10)(hn : ∀b∈ki, VRn sc b)(X : Except Flt Nd)(hX : X=rvN sc (.mk kd at_ cl tx pr op va ki bo de sl ss)) :
  ACalls Tryz.prog 49 [.agg (scC sc),.agg [.int .i64 kd,.int .i64 at_,.int .i64 cl,.str tx,.int .i64 pr,.int .i64 op,.int .i64 va.k,isl va.sh .any,isl va.nu .any,gsl 4 Arr.row va.it,gsl 15 Nd.row1 ki,gsl 34 Sm.row1 bo,.int .i64 de,.int .i64 sl,.int .i64 ss]] ⟨[],[]⟩ (Go.Ab.endRn X):=by
 refine Ct (E:=Exb sc tx ki) (O5 (Gc hs tx) (GQ (Gc hs tx)) rfl) Tryz.func49 rfl (by kernel_rfl) rfl (by simp[Exb,EC,E0]) ?_
 refine Bl (T :=
  ∀(x:Nat),True->∀(x_1:Nat),x≠x_1/\True->∀(x_2:Nat),x_1≠x_2/\x≠x_2/\True->∀(x_3:Nat),x_2≠x_3/\x_1≠x_3/\x≠x_3/\True->SM x_1/\SM x_1/\SM x_1/\SM x_1/\ifB (kd==2) (SM x/\SM x_1/\∃(x:Unit),SM (Qp7 sc tx)/\∀(y:Unit),True->ifB (!Prod.snd (Prod.snd (Prod.snd (lkA (Bv tx sc))))) (SM x_1/\SM x_1/\SM x_1/\SM x_2/\(SM x_1/\SM (D.str tx))/\(SM x_1/\SM (ZI at_))/\SM x_3/\Qr x_2 x_3/\((∃(m:Nd),X=Except.ok m/\KM kd at_ cl tx pr op va ki bo m/\(28:Int)=Z0/\QbT at_ tx)\/∃(e:Flt),X=Except.error e/\K4 kd at_ cl tx pr op va ki bo/\(28:Int)=e.1/\QbU at_ e.2.1 tx e.2.2)) (SM x_1/\ifB (Prod.fst (Prod.snd (Prod.snd (lkA (Bv tx sc)))) != cl) (SM x_1/\SM x_1/\SM x_1/\SM x_2/\(SM x_1/\SM (D.str tx))/\(SM x_1/\SM (ZI at_))/\SM x_3/\Qr x_2 x_3/\((∃(m:Nd),X=Except.ok m/\KM kd at_ cl tx pr op va ki bo m/\(11:Int)=Z0/\QbT at_ tx)\/∃(e:Flt),X=Except.error e/\K4 kd at_ cl tx pr op va ki bo/\(11:Int)=e.1/\QbU at_ e.2.1 tx e.2.2)) (SM x_1/\SM x_1/\SM x_1/\SM x_2/\SM x_3/\Qr x_2 x_3/\((∃(m:Nd),X=Except.ok m/\QjZ kd at_ cl tx pr op va ki bo sc m/\Qp)\/∃(e:Flt),X=Except.error e/\(∃(m:Nd),QjZ kd at_ cl tx pr op va ki bo sc m)/\XT e.1 e.2.1 e.2.2)))) (SM x_1/\ifB (kd==10) (SM x/\SM x_1/\(∃(x_4:Unit),Qj0 sc/\∀(y:Unit),True->Z3 x_1 bo/\(∃(z:Scp×List Sm),QbV sc z.1 bo z.2/\(∀(w:List Sm×Frm1),rvB z.1 [] z.2=Except.ok w->∀(x_5:Nat),Kz x_3 x_5 x_2 x_1 x->SM x_5/\SM x_1/\SM x_1/\SM x_1/\SM x_5/\SM x_2/\(SM x_5/\SM QbW)/\SM x_3/\Qr x_2 x_3/\((∃(m:Nd),X=Except.ok m/\J8 kd at_ cl tx pr op va ki w.1 w.2 m/\Qp)\/∃(e:Flt),X=Except.error e/\(∃(m:Nd),J8 kd at_ cl tx pr op va ki w.1 w.2 m)/\XT e.1 e.2.1 e.2.2))/\∀(e:Flt),rvB z.1 [] z.2=Except.error e->e.1≠Z0->∀(x_5:Nat),Kz x_3 x_5 x_2 x_1 x->SM x_5/\SM x_1/\SM x_1/\SM x_1/\SM x_5/\SM x_2/\KN x_5 e.1 e.2.1 e.2.2/\SM x_3/\Qr x_2 x_3/\((∃(m:Nd),X=Except.ok m/\J9 kd at_ cl tx pr op va ki m/\KO e.1 e.2.1 e.2.2)\/∃(e_1:Flt),X=Except.error e_1/\(∃(m:Nd),J9 kd at_ cl tx pr op va ki m)/\KP e.1 e_1.1 e.2.1 e_1.2.1 e.2.2 e_1.2.2))/\∀(x_5:Nat),Kz x_3 x_5 x_2 x_1 x->Z3 x_1 bo/\∃(z:Scp×List Sm),QbV sc z.1 bo z.2/\(∀(w:List Sm×Frm1),rvB z.1 [] z.2=Except.ok w->SM x_5/\SM x_1/\SM x_1/\SM x_1/\SM x_5/\SM x_2/\(SM x_5/\SM QbW)/\SM x_3/\Qr x_2 x_3/\((∃(m:Nd),X=Except.ok m/\J8 kd at_ cl tx pr op va ki w.1 w.2 m/\Qp)\/∃(e:Flt),X=Except.error e/\(∃(m:Nd),J8 kd at_ cl tx pr op va ki w.1 w.2 m)/\XT e.1 e.2.1 e.2.2))/\∀(e:Flt),rvB z.1 [] z.2=Except.error e->e.1≠Z0->SM x_5/\SM x_1/\SM x_1/\SM x_1/\SM x_5/\SM x_2/\KN x_5 e.1 e.2.1 e.2.2/\SM x_3/\Qr x_2 x_3/\((∃(m:Nd),X=Except.ok m/\J9 kd at_ cl tx pr op va ki m/\KO e.1 e.2.1 e.2.2)\/∃(e_1:Flt),X=Except.error e_1/\(∃(m:Nd),J9 kd at_ cl tx pr op va ki m)/\KP e.1 e_1.1 e.2.1 e_1.2.1 e.2.2 e_1.2.2))/\∀(x_4:Nat),Kz x_3 x_4 x_2 x_1 x->Z3 x_1 bo/\XU x sc/\∃(x:Unit),Qj0 sc/\∀(y:Unit),True->Z3 x_1 bo/\∃(z:Scp×List Sm),QbV sc z.1 bo z.2/\(∀(w:List Sm×Frm1),rvB z.1 [] z.2=Except.ok w->SM x_4/\SM x_1/\SM x_1/\SM x_1/\SM x_4/\SM x_2/\(SM x_4/\SM QbW)/\SM x_3/\Qr x_2 x_3/\((∃(m:Nd),X=Except.ok m/\J8 kd at_ cl tx pr op va ki w.1 w.2 m/\Qp)\/∃(e:Flt),X=Except.error e/\(∃(m:Nd),J8 kd at_ cl tx pr op va ki w.1 w.2 m)/\XT e.1 e.2.1 e.2.2))/\∀(e:Flt),rvB z.1 [] z.2=Except.error e->e.1≠Z0->SM x_4/\SM x_1/\SM x_1/\SM x_1/\SM x_4/\SM x_2/\KN x_4 e.1 e.2.1 e.2.2/\SM x_3/\Qr x_2 x_3/\((∃(m:Nd),X=Except.ok m/\J9 kd at_ cl tx pr op va ki m/\KO e.1 e.2.1 e.2.2)\/∃(e_1:Flt),X=Except.error e_1/\(∃(m:Nd),J9 kd at_ cl tx pr op va ki m)/\KP e.1 e_1.1 e.2.1 e_1.2.1 e.2.2 e_1.2.2)) (∀(t:Nat),(∃(x_4:Nat×List Nd×Nat),KJ sc ki x_4.2.1 x_4.1/\(Z0=(NI x_4.1)/\(N0=LN x_4.2.1/\(∀(i:Nat),i<N0->BV (List D) [] (Qb x_4.2.1 i))/\t=x_4.2.2)/\True)/\(SM x_3/\Qp/\SM x_2/\(SM Z0/\SM Z0/\SM Z0/\BV (List UInt8) [] []/\SM Z0/\SM Z0/\SM Z0/\Qa/\Qa/\Qa/\Qa/\Qa/\Qk)/\SM x_1/\(SM kd/\SM at_/\SM cl/\SM tx/\SM pr/\SM op/\SM (Arr.k va)/\(SM (Qh va)/\(∀(i:Nat),i<Qh va->SM (QB va i))/\True)/\(SM (Qi va)/\(∀(i:Nat),i<Qi va->SM (QC va i))/\True)/\(SM (Qj va)/\(∀(i:Nat),i<Qj va->SM (QE va i))/\True)/\(SM (LN ki)/\(∀(i:Nat),i<LN ki->SM (Qb ki i))/\True)/\(SM (LN bo)/\(∀(i:Nat),i<LN bo->SM (QF bo i))/\True)/\Qk)/\SM x/\((SM (LN sc)/\(∀(i:Nat),i<LN sc->SM (B2 sc i))/\True)/\(SM (LN sc)/\(∀(i:Nat),i<LN sc->SM (B1 sc i))/\True)/\True)/\True)/\t=x_4.2.2/\True)/\∀(x_4:Nat×List Nd×Nat),KJ sc ki x_4.2.1 x_4.1->SM x_1/\ifB (decide ((NI x_4.1)<(LI ki))) (SM x/\SM x_1/\Bf (Z0<=(NI x_4.1)/\(NI x_4.1)<(LI ki)) ((∃(z:Scp×Nd),XV sc z.1 ki x_4.1 z.2/\(∀(m:Nd),XW z.1 z.2 m->(∀(x_5:Nat),Kz x_3 x_5 x_2 x_1 x->∀(x_6:Nat),KF x_5 x_6 x_3 x_2 x_1 x->SM x_5/\SM x_6/\SM x_6/\SM x_5/\SM x_4.2.2/\Bf ((LN x_4.2.1+N1)*208<=140737488355328/\LN x_4.2.1+N1<=9223372036854775807) (∀(t:Nat),(SM (D.ref N0 x N0)/\SM (D.ref (max (N0+N1) N0) x_1 N0)/\SM (D.ref (max (N1+N1) (max (N0+N1) N0)) x_2 N0)/\SM (Kg x_3)/\True)/\∃(y:Nat×List Nd×Nat),KJ sc ki y.2.1 y.1/\LN ki-y.1<LN ki-x_4.1/\(IntKind.wrap IntKind.i64 ((NI x_4.1)+Z1)=(NI y.1)/\(LN x_4.2.1+N1=LN y.2.1/\(∀(i:Nat),i<LN x_4.2.1+N1->Bt (LN x_4.2.1) (fun j=>Qb x_4.2.1 j) (fun i=>List.getD [[ZI (Nd.kd m),ZI (Nd.at_ m),ZI (Nd.cl m),D.str (Nd.tx m),ZI (Nd.pr m),ZI (Nd.op m),ZI (Arr.k (Qz m)),SI (Kh m),SI (Ki m),D.sl N4 (LN (Ql m)) (fun i=>Arr.row (List.getD (Ql m) i Qx)) Mode.any,D.sl 15 (LN (Nd.ki m)) (fun i=>Nd.row (List.getD (Nd.ki m) i Qq)) Mode.any,D.sl 34 (LN (Nd.bo m)) (fun i=>Sm.row (List.getD (Nd.bo m) i Qy)) Mode.any,ZI (Nd.de m),ZI (Nd.sl m),ZI (Nd.ss m)]] i []) i=Qb y.2.1 i)/\t=y.2.2)/\True)/\(SM x_3/\Qp/\SM x_2/\(SM Z0/\SM Z0/\SM Z0/\BV (List UInt8) [] []/\SM Z0/\SM Z0/\SM Z0/\Qa/\Qa/\Qa/\Qa/\Qa/\Qk)/\SM x_1/\(SM kd/\SM at_/\SM cl/\SM tx/\SM pr/\SM op/\SM (Arr.k va)/\(SM (Qh va)/\(∀(i:Nat),i<Qh va->SM (QB va i))/\True)/\(SM (Qi va)/\(∀(i:Nat),i<Qi va->SM (QC va i))/\True)/\(SM (Qj va)/\(∀(i:Nat),i<Qj va->SM (QE va i))/\True)/\(SM (LN ki)/\(∀(i:Nat),i<LN ki->SM (Qb ki i))/\True)/\(SM (LN bo)/\(∀(i:Nat),i<LN bo->SM (QF bo i))/\True)/\Qk)/\SM x/\((SM (LN sc)/\(∀(i:Nat),i<LN sc->SM (B2 sc i))/\True)/\(SM (LN sc)/\(∀(i:Nat),i<LN sc->SM (B1 sc i))/\True)/\True)/\True)/\t=y.2.2/\True))/\∀(x_5:Nat),Kz x_3 x_5 x_2 x_1 x->∀(x_6:Nat),KF x_5 x_6 x_3 x_2 x_1 x->SM x_6/\SM x_5/\SM x_5/\SM x_6/\SM x_4.2.2/\Bf ((LN x_4.2.1+N1)*208<=140737488355328/\LN x_4.2.1+N1<=9223372036854775807) (∀(t:Nat),(SM (D.ref N0 x N0)/\SM (D.ref (max (N0+N1) N0) x_1 N0)/\SM (D.ref (max (N1+N1) (max (N0+N1) N0)) x_2 N0)/\SM (Kg x_3)/\True)/\∃(y:Nat×List Nd×Nat),KJ sc ki y.2.1 y.1/\LN ki-y.1<LN ki-x_4.1/\(IntKind.wrap IntKind.i64 ((NI x_4.1)+Z1)=(NI y.1)/\(LN x_4.2.1+N1=LN y.2.1/\(∀(i:Nat),i<LN x_4.2.1+N1->Bt (LN x_4.2.1) (fun j=>Qb x_4.2.1 j) (fun i=>List.getD [[ZI (Nd.kd m),ZI (Nd.at_ m),ZI (Nd.cl m),D.str (Nd.tx m),ZI (Nd.pr m),ZI (Nd.op m),ZI (Arr.k (Qz m)),SI (Kh m),SI (Ki m),D.sl N4 (LN (Ql m)) (fun i=>Arr.row (List.getD (Ql m) i Qx)) Mode.any,D.sl 15 (LN (Nd.ki m)) (fun i=>Nd.row (List.getD (Nd.ki m) i Qq)) Mode.any,D.sl 34 (LN (Nd.bo m)) (fun i=>Sm.row (List.getD (Nd.bo m) i Qy)) Mode.any,ZI (Nd.de m),ZI (Nd.sl m),ZI (Nd.ss m)]] i []) i=Qb y.2.1 i)/\t=y.2.2)/\True)/\(SM x_3/\Qp/\SM x_2/\(SM Z0/\SM Z0/\SM Z0/\BV (List UInt8) [] []/\SM Z0/\SM Z0/\SM Z0/\Qa/\Qa/\Qa/\Qa/\Qa/\Qk)/\SM x_1/\(SM kd/\SM at_/\SM cl/\SM tx/\SM pr/\SM op/\SM (Arr.k va)/\(SM (Qh va)/\(∀(i:Nat),i<Qh va->SM (QB va i))/\True)/\(SM (Qi va)/\(∀(i:Nat),i<Qi va->SM (QC va i))/\True)/\(SM (Qj va)/\(∀(i:Nat),i<Qj va->SM (QE va i))/\True)/\(SM (LN ki)/\(∀(i:Nat),i<LN ki->SM (Qb ki i))/\True)/\(SM (LN bo)/\(∀(i:Nat),i<LN bo->SM (QF bo i))/\True)/\Qk)/\SM x/\((SM (LN sc)/\(∀(i:Nat),i<LN sc->SM (B2 sc i))/\True)/\(SM (LN sc)/\(∀(i:Nat),i<LN sc->SM (B1 sc i))/\True)/\True)/\True)/\t=y.2.2/\True))/\∀(e:Flt),XX z.1 z.2 e->e.1≠Z0->∀(m:Nd),(∀(x_5:Nat),Kz x_3 x_5 x_2 x_1 x->∀(x_6:Nat),KF x_5 x_6 x_3 x_2 x_1 x->SM x_5/\SM x_6/\SM x_6/\ifB (e.1 != Z0) (SM x_1/\SM x_6/\SM x_2/\KN x_6 e.1 e.2.1 e.2.2/\SM x_3/\Qr x_2 x_3/\((∃(m:Nd),X=Except.ok m/\KM kd at_ cl tx pr op va ki bo m/\KO e.1 e.2.1 e.2.2)\/∃(e_1:Flt),X=Except.error e_1/\K4 kd at_ cl tx pr op va ki bo/\KP e.1 e_1.1 e.2.1 e_1.2.1 e.2.2 e_1.2.2)) (SM x_5/\SM x_4.2.2/\Bf ((LN x_4.2.1+N1)*208<=140737488355328/\LN x_4.2.1+N1<=9223372036854775807) (∀(t:Nat),(SM (D.ref N0 x N0)/\SM (D.ref (max (N0+N1) N0) x_1 N0)/\SM (D.ref (max (N1+N1) (max (N0+N1) N0)) x_2 N0)/\SM (Kg x_3)/\True)/\∃(y:Nat×List Nd×Nat),KJ sc ki y.2.1 y.1/\LN ki-y.1<LN ki-x_4.1/\(IntKind.wrap IntKind.i64 ((NI x_4.1)+Z1)=(NI y.1)/\(LN x_4.2.1+N1=LN y.2.1/\(∀(i:Nat),i<LN x_4.2.1+N1->Bt (LN x_4.2.1) (fun j=>Qb x_4.2.1 j) (fun i=>List.getD [[ZI (Nd.kd m),ZI (Nd.at_ m),ZI (Nd.cl m),D.str (Nd.tx m),ZI (Nd.pr m),ZI (Nd.op m),ZI (Arr.k (Qz m)),SI (Kh m),SI (Ki m),D.sl N4 (LN (Ql m)) (fun i=>Arr.row (List.getD (Ql m) i Qx)) Mode.any,D.sl 15 (LN (Nd.ki m)) (fun i=>Nd.row (List.getD (Nd.ki m) i Qq)) Mode.any,D.sl 34 (LN (Nd.bo m)) (fun i=>Sm.row (List.getD (Nd.bo m) i Qy)) Mode.any,ZI (Nd.de m),ZI (Nd.sl m),ZI (Nd.ss m)]] i []) i=Qb y.2.1 i)/\t=y.2.2)/\True)/\(SM x_3/\Qp/\SM x_2/\(SM Z0/\SM Z0/\SM Z0/\BV (List UInt8) [] []/\SM Z0/\SM Z0/\SM Z0/\Qa/\Qa/\Qa/\Qa/\Qa/\Qk)/\SM x_1/\(SM kd/\SM at_/\SM cl/\SM tx/\SM pr/\SM op/\SM (Arr.k va)/\(SM (Qh va)/\(∀(i:Nat),i<Qh va->SM (QB va i))/\True)/\(SM (Qi va)/\(∀(i:Nat),i<Qi va->SM (QC va i))/\True)/\(SM (Qj va)/\(∀(i:Nat),i<Qj va->SM (QE va i))/\True)/\(SM (LN ki)/\(∀(i:Nat),i<LN ki->SM (Qb ki i))/\True)/\(SM (LN bo)/\(∀(i:Nat),i<LN bo->SM (QF bo i))/\True)/\Qk)/\SM x/\((SM (LN sc)/\(∀(i:Nat),i<LN sc->SM (B2 sc i))/\True)/\(SM (LN sc)/\(∀(i:Nat),i<LN sc->SM (B1 sc i))/\True)/\True)/\True)/\t=y.2.2/\True)))/\∀(x_5:Nat),Kz x_3 x_5 x_2 x_1 x->∀(x_6:Nat),KF x_5 x_6 x_3 x_2 x_1 x->SM x_6/\SM x_5/\SM x_5/\ifB (e.1 != Z0) (SM x_1/\SM x_5/\SM x_2/\KN x_5 e.1 e.2.1 e.2.2/\SM x_3/\Qr x_2 x_3/\((∃(m:Nd),X=Except.ok m/\KM kd at_ cl tx pr op va ki bo m/\KO e.1 e.2.1 e.2.2)\/∃(e_1:Flt),X=Except.error e_1/\K4 kd at_ cl tx pr op va ki bo/\KP e.1 e_1.1 e.2.1 e_1.2.1 e.2.2 e_1.2.2)) (SM x_6/\SM x_4.2.2/\Bf ((LN x_4.2.1+N1)*208<=140737488355328/\LN x_4.2.1+N1<=9223372036854775807) (∀(t:Nat),(SM (D.ref N0 x N0)/\SM (D.ref (max (N0+N1) N0) x_1 N0)/\SM (D.ref (max (N1+N1) (max (N0+N1) N0)) x_2 N0)/\SM (Kg x_3)/\True)/\∃(y:Nat×List Nd×Nat),KJ sc ki y.2.1 y.1/\LN ki-y.1<LN ki-x_4.1/\(IntKind.wrap IntKind.i64 ((NI x_4.1)+Z1)=(NI y.1)/\(LN x_4.2.1+N1=LN y.2.1/\(∀(i:Nat),i<LN x_4.2.1+N1->Bt (LN x_4.2.1) (fun j=>Qb x_4.2.1 j) (fun i=>List.getD [[ZI (Nd.kd m),ZI (Nd.at_ m),ZI (Nd.cl m),D.str (Nd.tx m),ZI (Nd.pr m),ZI (Nd.op m),ZI (Arr.k (Qz m)),SI (Kh m),SI (Ki m),D.sl N4 (LN (Ql m)) (fun i=>Arr.row (List.getD (Ql m) i Qx)) Mode.any,D.sl 15 (LN (Nd.ki m)) (fun i=>Nd.row (List.getD (Nd.ki m) i Qq)) Mode.any,D.sl 34 (LN (Nd.bo m)) (fun i=>Sm.row (List.getD (Nd.bo m) i Qy)) Mode.any,ZI (Nd.de m),ZI (Nd.sl m),ZI (Nd.ss m)]] i []) i=Qb y.2.1 i)/\t=y.2.2)/\True)/\(SM x_3/\Qp/\SM x_2/\(SM Z0/\SM Z0/\SM Z0/\BV (List UInt8) [] []/\SM Z0/\SM Z0/\SM Z0/\Qa/\Qa/\Qa/\Qa/\Qa/\Qk)/\SM x_1/\(SM kd/\SM at_/\SM cl/\SM tx/\SM pr/\SM op/\SM (Arr.k va)/\(SM (Qh va)/\(∀(i:Nat),i<Qh va->SM (QB va i))/\True)/\(SM (Qi va)/\(∀(i:Nat),i<Qi va->SM (QC va i))/\True)/\(SM (Qj va)/\(∀(i:Nat),i<Qj va->SM (QE va i))/\True)/\(SM (LN ki)/\(∀(i:Nat),i<LN ki->SM (Qb ki i))/\True)/\(SM (LN bo)/\(∀(i:Nat),i<LN bo->SM (QF bo i))/\True)/\Qk)/\SM x/\((SM (LN sc)/\(∀(i:Nat),i<LN sc->SM (B2 sc i))/\True)/\(SM (LN sc)/\(∀(i:Nat),i<LN sc->SM (B1 sc i))/\True)/\True)/\True)/\t=y.2.2/\True)))/\(∀(x_5:Nat),Kz x_3 x_5 x_2 x_1 x->Z6 x_1 ki/\XU x sc/\(∃(z:Scp×Nd),XV sc z.1 ki x_4.1 z.2/\(∀(m:Nd),XW z.1 z.2 m->∀(x_6:Nat),KF x_5 x_6 x_3 x_2 x_1 x->SM x_5/\SM x_6/\SM x_6/\SM x_5/\SM x_4.2.2/\Bf ((LN x_4.2.1+N1)*208<=140737488355328/\LN x_4.2.1+N1<=9223372036854775807) (∀(t:Nat),(SM (D.ref N0 x N0)/\SM (D.ref (max (N0+N1) N0) x_1 N0)/\SM (D.ref (max (N1+N1) (max (N0+N1) N0)) x_2 N0)/\SM (Kg x_3)/\True)/\∃(y:Nat×List Nd×Nat),KJ sc ki y.2.1 y.1/\LN ki-y.1<LN ki-x_4.1/\(IntKind.wrap IntKind.i64 ((NI x_4.1)+Z1)=(NI y.1)/\(LN x_4.2.1+N1=LN y.2.1/\(∀(i:Nat),i<LN x_4.2.1+N1->Bt (LN x_4.2.1) (fun j=>Qb x_4.2.1 j) (fun i=>List.getD [[ZI (Nd.kd m),ZI (Nd.at_ m),ZI (Nd.cl m),D.str (Nd.tx m),ZI (Nd.pr m),ZI (Nd.op m),ZI (Arr.k (Qz m)),SI (Kh m),SI (Ki m),D.sl N4 (LN (Ql m)) (fun i=>Arr.row (List.getD (Ql m) i Qx)) Mode.any,D.sl 15 (LN (Nd.ki m)) (fun i=>Nd.row (List.getD (Nd.ki m) i Qq)) Mode.any,D.sl 34 (LN (Nd.bo m)) (fun i=>Sm.row (List.getD (Nd.bo m) i Qy)) Mode.any,ZI (Nd.de m),ZI (Nd.sl m),ZI (Nd.ss m)]] i []) i=Qb y.2.1 i)/\t=y.2.2)/\True)/\(SM x_3/\Qp/\SM x_2/\(SM Z0/\SM Z0/\SM Z0/\BV (List UInt8) [] []/\SM Z0/\SM Z0/\SM Z0/\Qa/\Qa/\Qa/\Qa/\Qa/\Qk)/\SM x_1/\(SM kd/\SM at_/\SM cl/\SM tx/\SM pr/\SM op/\SM (Arr.k va)/\(SM (Qh va)/\(∀(i:Nat),i<Qh va->SM (QB va i))/\True)/\(SM (Qi va)/\(∀(i:Nat),i<Qi va->SM (QC va i))/\True)/\(SM (Qj va)/\(∀(i:Nat),i<Qj va->SM (QE va i))/\True)/\(SM (LN ki)/\(∀(i:Nat),i<LN ki->SM (Qb ki i))/\True)/\(SM (LN bo)/\(∀(i:Nat),i<LN bo->SM (QF bo i))/\True)/\Qk)/\SM x/\((SM (LN sc)/\(∀(i:Nat),i<LN sc->SM (B2 sc i))/\True)/\(SM (LN sc)/\(∀(i:Nat),i<LN sc->SM (B1 sc i))/\True)/\True)/\True)/\t=y.2.2/\True))/\∀(e:Flt),XX z.1 z.2 e->e.1≠Z0->∀(m:Nd) (x_6:Nat),KF x_5 x_6 x_3 x_2 x_1 x->SM x_5/\SM x_6/\SM x_6/\ifB (e.1 != Z0) (SM x_1/\SM x_6/\SM x_2/\KN x_6 e.1 e.2.1 e.2.2/\SM x_3/\Qr x_2 x_3/\((∃(m:Nd),X=Except.ok m/\KM kd at_ cl tx pr op va ki bo m/\KO e.1 e.2.1 e.2.2)\/∃(e_1:Flt),X=Except.error e_1/\K4 kd at_ cl tx pr op va ki bo/\KP e.1 e_1.1 e.2.1 e_1.2.1 e.2.2 e_1.2.2)) (SM x_5/\SM x_4.2.2/\Bf ((LN x_4.2.1+N1)*208<=140737488355328/\LN x_4.2.1+N1<=9223372036854775807) (∀(t:Nat),(SM (D.ref N0 x N0)/\SM (D.ref (max (N0+N1) N0) x_1 N0)/\SM (D.ref (max (N1+N1) (max (N0+N1) N0)) x_2 N0)/\SM (Kg x_3)/\True)/\∃(y:Nat×List Nd×Nat),KJ sc ki y.2.1 y.1/\LN ki-y.1<LN ki-x_4.1/\(IntKind.wrap IntKind.i64 ((NI x_4.1)+Z1)=(NI y.1)/\(LN x_4.2.1+N1=LN y.2.1/\(∀(i:Nat),i<LN x_4.2.1+N1->Bt (LN x_4.2.1) (fun j=>Qb x_4.2.1 j) (fun i=>List.getD [[ZI (Nd.kd m),ZI (Nd.at_ m),ZI (Nd.cl m),D.str (Nd.tx m),ZI (Nd.pr m),ZI (Nd.op m),ZI (Arr.k (Qz m)),SI (Kh m),SI (Ki m),D.sl N4 (LN (Ql m)) (fun i=>Arr.row (List.getD (Ql m) i Qx)) Mode.any,D.sl 15 (LN (Nd.ki m)) (fun i=>Nd.row (List.getD (Nd.ki m) i Qq)) Mode.any,D.sl 34 (LN (Nd.bo m)) (fun i=>Sm.row (List.getD (Nd.bo m) i Qy)) Mode.any,ZI (Nd.de m),ZI (Nd.sl m),ZI (Nd.ss m)]] i []) i=Qb y.2.1 i)/\t=y.2.2)/\True)/\(SM x_3/\Qp/\SM x_2/\(SM Z0/\SM Z0/\SM Z0/\BV (List UInt8) [] []/\SM Z0/\SM Z0/\SM Z0/\Qa/\Qa/\Qa/\Qa/\Qa/\Qk)/\SM x_1/\(SM kd/\SM at_/\SM cl/\SM tx/\SM pr/\SM op/\SM (Arr.k va)/\(SM (Qh va)/\(∀(i:Nat),i<Qh va->SM (QB va i))/\True)/\(SM (Qi va)/\(∀(i:Nat),i<Qi va->SM (QC va i))/\True)/\(SM (Qj va)/\(∀(i:Nat),i<Qj va->SM (QE va i))/\True)/\(SM (LN ki)/\(∀(i:Nat),i<LN ki->SM (Qb ki i))/\True)/\(SM (LN bo)/\(∀(i:Nat),i<LN bo->SM (QF bo i))/\True)/\Qk)/\SM x/\((SM (LN sc)/\(∀(i:Nat),i<LN sc->SM (B2 sc i))/\True)/\(SM (LN sc)/\(∀(i:Nat),i<LN sc->SM (B1 sc i))/\True)/\True)/\True)/\t=y.2.2/\True)))/\∀(x_6:Nat),KF x_5 x_6 x_3 x_2 x_1 x->Z6 x_1 ki/\XU x sc/\∃(z:Scp×Nd),XV sc z.1 ki x_4.1 z.2/\(∀(m:Nd),XW z.1 z.2 m->SM x_5/\SM x_6/\SM x_6/\SM x_5/\SM x_4.2.2/\Bf ((LN x_4.2.1+N1)*208<=140737488355328/\LN x_4.2.1+N1<=9223372036854775807) (∀(t:Nat),(SM (D.ref N0 x N0)/\SM (D.ref (max (N0+N1) N0) x_1 N0)/\SM (D.ref (max (N1+N1) (max (N0+N1) N0)) x_2 N0)/\SM (Kg x_3)/\True)/\∃(y:Nat×List Nd×Nat),KJ sc ki y.2.1 y.1/\LN ki-y.1<LN ki-x_4.1/\(IntKind.wrap IntKind.i64 ((NI x_4.1)+Z1)=(NI y.1)/\(LN x_4.2.1+N1=LN y.2.1/\(∀(i:Nat),i<LN x_4.2.1+N1->Bt (LN x_4.2.1) (fun j=>Qb x_4.2.1 j) (fun i=>List.getD [[ZI (Nd.kd m),ZI (Nd.at_ m),ZI (Nd.cl m),D.str (Nd.tx m),ZI (Nd.pr m),ZI (Nd.op m),ZI (Arr.k (Qz m)),SI (Kh m),SI (Ki m),D.sl N4 (LN (Ql m)) (fun i=>Arr.row (List.getD (Ql m) i Qx)) Mode.any,D.sl 15 (LN (Nd.ki m)) (fun i=>Nd.row (List.getD (Nd.ki m) i Qq)) Mode.any,D.sl 34 (LN (Nd.bo m)) (fun i=>Sm.row (List.getD (Nd.bo m) i Qy)) Mode.any,ZI (Nd.de m),ZI (Nd.sl m),ZI (Nd.ss m)]] i []) i=Qb y.2.1 i)/\t=y.2.2)/\True)/\(SM x_3/\Qp/\SM x_2/\(SM Z0/\SM Z0/\SM Z0/\BV (List UInt8) [] []/\SM Z0/\SM Z0/\SM Z0/\Qa/\Qa/\Qa/\Qa/\Qa/\Qk)/\SM x_1/\(SM kd/\SM at_/\SM cl/\SM tx/\SM pr/\SM op/\SM (Arr.k va)/\(SM (Qh va)/\(∀(i:Nat),i<Qh va->SM (QB va i))/\True)/\(SM (Qi va)/\(∀(i:Nat),i<Qi va->SM (QC va i))/\True)/\(SM (Qj va)/\(∀(i:Nat),i<Qj va->SM (QE va i))/\True)/\(SM (LN ki)/\(∀(i:Nat),i<LN ki->SM (Qb ki i))/\True)/\(SM (LN bo)/\(∀(i:Nat),i<LN bo->SM (QF bo i))/\True)/\Qk)/\SM x/\((SM (LN sc)/\(∀(i:Nat),i<LN sc->SM (B2 sc i))/\True)/\(SM (LN sc)/\(∀(i:Nat),i<LN sc->SM (B1 sc i))/\True)/\True)/\True)/\t=y.2.2/\True))/\∀(e:Flt),XX z.1 z.2 e->e.1≠Z0->∀(m:Nd),SM x_5/\SM x_6/\SM x_6/\ifB (e.1 != Z0) (SM x_1/\SM x_6/\SM x_2/\KN x_6 e.1 e.2.1 e.2.2/\SM x_3/\Qr x_2 x_3/\((∃(m:Nd),X=Except.ok m/\KM kd at_ cl tx pr op va ki bo m/\KO e.1 e.2.1 e.2.2)\/∃(e_1:Flt),X=Except.error e_1/\K4 kd at_ cl tx pr op va ki bo/\KP e.1 e_1.1 e.2.1 e_1.2.1 e.2.2 e_1.2.2)) (SM x_5/\SM x_4.2.2/\Bf ((LN x_4.2.1+N1)*208<=140737488355328/\LN x_4.2.1+N1<=9223372036854775807) (∀(t:Nat),(SM (D.ref N0 x N0)/\SM (D.ref (max (N0+N1) N0) x_1 N0)/\SM (D.ref (max (N1+N1) (max (N0+N1) N0)) x_2 N0)/\SM (Kg x_3)/\True)/\∃(y:Nat×List Nd×Nat),KJ sc ki y.2.1 y.1/\LN ki-y.1<LN ki-x_4.1/\(IntKind.wrap IntKind.i64 ((NI x_4.1)+Z1)=(NI y.1)/\(LN x_4.2.1+N1=LN y.2.1/\(∀(i:Nat),i<LN x_4.2.1+N1->Bt (LN x_4.2.1) (fun j=>Qb x_4.2.1 j) (fun i=>List.getD [[ZI (Nd.kd m),ZI (Nd.at_ m),ZI (Nd.cl m),D.str (Nd.tx m),ZI (Nd.pr m),ZI (Nd.op m),ZI (Arr.k (Qz m)),SI (Kh m),SI (Ki m),D.sl N4 (LN (Ql m)) (fun i=>Arr.row (List.getD (Ql m) i Qx)) Mode.any,D.sl 15 (LN (Nd.ki m)) (fun i=>Nd.row (List.getD (Nd.ki m) i Qq)) Mode.any,D.sl 34 (LN (Nd.bo m)) (fun i=>Sm.row (List.getD (Nd.bo m) i Qy)) Mode.any,ZI (Nd.de m),ZI (Nd.sl m),ZI (Nd.ss m)]] i []) i=Qb y.2.1 i)/\t=y.2.2)/\True)/\(SM x_3/\Qp/\SM x_2/\(SM Z0/\SM Z0/\SM Z0/\BV (List UInt8) [] []/\SM Z0/\SM Z0/\SM Z0/\Qa/\Qa/\Qa/\Qa/\Qa/\Qk)/\SM x_1/\(SM kd/\SM at_/\SM cl/\SM tx/\SM pr/\SM op/\SM (Arr.k va)/\(SM (Qh va)/\(∀(i:Nat),i<Qh va->SM (QB va i))/\True)/\(SM (Qi va)/\(∀(i:Nat),i<Qi va->SM (QC va i))/\True)/\(SM (Qj va)/\(∀(i:Nat),i<Qj va->SM (QE va i))/\True)/\(SM (LN ki)/\(∀(i:Nat),i<LN ki->SM (Qb ki i))/\True)/\(SM (LN bo)/\(∀(i:Nat),i<LN bo->SM (QF bo i))/\True)/\Qk)/\SM x/\((SM (LN sc)/\(∀(i:Nat),i<LN sc->SM (B2 sc i))/\True)/\(SM (LN sc)/\(∀(i:Nat),i<LN sc->SM (B1 sc i))/\True)/\True)/\True)/\t=y.2.2/\True)))/\∀(x_5:Nat),Kz x_3 x_5 x_2 x_1 x->Z6 x_1 ki/\XU x sc/\(∃(z:Scp×Nd),XV sc z.1 ki x_4.1 z.2/\(∀(m:Nd),XW z.1 z.2 m->∀(x_6:Nat),KF x_5 x_6 x_3 x_2 x_1 x->SM x_6/\SM x_5/\SM x_5/\SM x_6/\SM x_4.2.2/\Bf ((LN x_4.2.1+N1)*208<=140737488355328/\LN x_4.2.1+N1<=9223372036854775807) (∀(t:Nat),(SM (D.ref N0 x N0)/\SM (D.ref (max (N0+N1) N0) x_1 N0)/\SM (D.ref (max (N1+N1) (max (N0+N1) N0)) x_2 N0)/\SM (Kg x_3)/\True)/\∃(y:Nat×List Nd×Nat),KJ sc ki y.2.1 y.1/\LN ki-y.1<LN ki-x_4.1/\(IntKind.wrap IntKind.i64 ((NI x_4.1)+Z1)=(NI y.1)/\(LN x_4.2.1+N1=LN y.2.1/\(∀(i:Nat),i<LN x_4.2.1+N1->Bt (LN x_4.2.1) (fun j=>Qb x_4.2.1 j) (fun i=>List.getD [[ZI (Nd.kd m),ZI (Nd.at_ m),ZI (Nd.cl m),D.str (Nd.tx m),ZI (Nd.pr m),ZI (Nd.op m),ZI (Arr.k (Qz m)),SI (Kh m),SI (Ki m),D.sl N4 (LN (Ql m)) (fun i=>Arr.row (List.getD (Ql m) i Qx)) Mode.any,D.sl 15 (LN (Nd.ki m)) (fun i=>Nd.row (List.getD (Nd.ki m) i Qq)) Mode.any,D.sl 34 (LN (Nd.bo m)) (fun i=>Sm.row (List.getD (Nd.bo m) i Qy)) Mode.any,ZI (Nd.de m),ZI (Nd.sl m),ZI (Nd.ss m)]] i []) i=Qb y.2.1 i)/\t=y.2.2)/\True)/\(SM x_3/\Qp/\SM x_2/\(SM Z0/\SM Z0/\SM Z0/\BV (List UInt8) [] []/\SM Z0/\SM Z0/\SM Z0/\Qa/\Qa/\Qa/\Qa/\Qa/\Qk)/\SM x_1/\(SM kd/\SM at_/\SM cl/\SM tx/\SM pr/\SM op/\SM (Arr.k va)/\(SM (Qh va)/\(∀(i:Nat),i<Qh va->SM (QB va i))/\True)/\(SM (Qi va)/\(∀(i:Nat),i<Qi va->SM (QC va i))/\True)/\(SM (Qj va)/\(∀(i:Nat),i<Qj va->SM (QE va i))/\True)/\(SM (LN ki)/\(∀(i:Nat),i<LN ki->SM (Qb ki i))/\True)/\(SM (LN bo)/\(∀(i:Nat),i<LN bo->SM (QF bo i))/\True)/\Qk)/\SM x/\((SM (LN sc)/\(∀(i:Nat),i<LN sc->SM (B2 sc i))/\True)/\(SM (LN sc)/\(∀(i:Nat),i<LN sc->SM (B1 sc i))/\True)/\True)/\True)/\t=y.2.2/\True))/\∀(e:Flt),XX z.1 z.2 e->e.1≠Z0->∀(m:Nd) (x_6:Nat),KF x_5 x_6 x_3 x_2 x_1 x->SM x_6/\SM x_5/\SM x_5/\ifB (e.1 != Z0) (SM x_1/\SM x_5/\SM x_2/\KN x_5 e.1 e.2.1 e.2.2/\SM x_3/\Qr x_2 x_3/\((∃(m:Nd),X=Except.ok m/\KM kd at_ cl tx pr op va ki bo m/\KO e.1 e.2.1 e.2.2)\/∃(e_1:Flt),X=Except.error e_1/\K4 kd at_ cl tx pr op va ki bo/\KP e.1 e_1.1 e.2.1 e_1.2.1 e.2.2 e_1.2.2)) (SM x_6/\SM x_4.2.2/\Bf ((LN x_4.2.1+N1)*208<=140737488355328/\LN x_4.2.1+N1<=9223372036854775807) (∀(t:Nat),(SM (D.ref N0 x N0)/\SM (D.ref (max (N0+N1) N0) x_1 N0)/\SM (D.ref (max (N1+N1) (max (N0+N1) N0)) x_2 N0)/\SM (Kg x_3)/\True)/\∃(y:Nat×List Nd×Nat),KJ sc ki y.2.1 y.1/\LN ki-y.1<LN ki-x_4.1/\(IntKind.wrap IntKind.i64 ((NI x_4.1)+Z1)=(NI y.1)/\(LN x_4.2.1+N1=LN y.2.1/\(∀(i:Nat),i<LN x_4.2.1+N1->Bt (LN x_4.2.1) (fun j=>Qb x_4.2.1 j) (fun i=>List.getD [[ZI (Nd.kd m),ZI (Nd.at_ m),ZI (Nd.cl m),D.str (Nd.tx m),ZI (Nd.pr m),ZI (Nd.op m),ZI (Arr.k (Qz m)),SI (Kh m),SI (Ki m),D.sl N4 (LN (Ql m)) (fun i=>Arr.row (List.getD (Ql m) i Qx)) Mode.any,D.sl 15 (LN (Nd.ki m)) (fun i=>Nd.row (List.getD (Nd.ki m) i Qq)) Mode.any,D.sl 34 (LN (Nd.bo m)) (fun i=>Sm.row (List.getD (Nd.bo m) i Qy)) Mode.any,ZI (Nd.de m),ZI (Nd.sl m),ZI (Nd.ss m)]] i []) i=Qb y.2.1 i)/\t=y.2.2)/\True)/\(SM x_3/\Qp/\SM x_2/\(SM Z0/\SM Z0/\SM Z0/\BV (List UInt8) [] []/\SM Z0/\SM Z0/\SM Z0/\Qa/\Qa/\Qa/\Qa/\Qa/\Qk)/\SM x_1/\(SM kd/\SM at_/\SM cl/\SM tx/\SM pr/\SM op/\SM (Arr.k va)/\(SM (Qh va)/\(∀(i:Nat),i<Qh va->SM (QB va i))/\True)/\(SM (Qi va)/\(∀(i:Nat),i<Qi va->SM (QC va i))/\True)/\(SM (Qj va)/\(∀(i:Nat),i<Qj va->SM (QE va i))/\True)/\(SM (LN ki)/\(∀(i:Nat),i<LN ki->SM (Qb ki i))/\True)/\(SM (LN bo)/\(∀(i:Nat),i<LN bo->SM (QF bo i))/\True)/\Qk)/\SM x/\((SM (LN sc)/\(∀(i:Nat),i<LN sc->SM (B2 sc i))/\True)/\(SM (LN sc)/\(∀(i:Nat),i<LN sc->SM (B1 sc i))/\True)/\True)/\True)/\t=y.2.2/\True)))/\∀(x_6:Nat),KF x_5 x_6 x_3 x_2 x_1 x->Z6 x_1 ki/\XU x sc/\∃(z:Scp×Nd),XV sc z.1 ki x_4.1 z.2/\(∀(m:Nd),XW z.1 z.2 m->SM x_6/\SM x_5/\SM x_5/\SM x_6/\SM x_4.2.2/\Bf ((LN x_4.2.1+N1)*208<=140737488355328/\LN x_4.2.1+N1<=9223372036854775807) (∀(t:Nat),(SM (D.ref N0 x N0)/\SM (D.ref (max (N0+N1) N0) x_1 N0)/\SM (D.ref (max (N1+N1) (max (N0+N1) N0)) x_2 N0)/\SM (Kg x_3)/\True)/\∃(y:Nat×List Nd×Nat),KJ sc ki y.2.1 y.1/\LN ki-y.1<LN ki-x_4.1/\(IntKind.wrap IntKind.i64 ((NI x_4.1)+Z1)=(NI y.1)/\(LN x_4.2.1+N1=LN y.2.1/\(∀(i:Nat),i<LN x_4.2.1+N1->Bt (LN x_4.2.1) (fun j=>Qb x_4.2.1 j) (fun i=>List.getD [[ZI (Nd.kd m),ZI (Nd.at_ m),ZI (Nd.cl m),D.str (Nd.tx m),ZI (Nd.pr m),ZI (Nd.op m),ZI (Arr.k (Qz m)),SI (Kh m),SI (Ki m),D.sl N4 (LN (Ql m)) (fun i=>Arr.row (List.getD (Ql m) i Qx)) Mode.any,D.sl 15 (LN (Nd.ki m)) (fun i=>Nd.row (List.getD (Nd.ki m) i Qq)) Mode.any,D.sl 34 (LN (Nd.bo m)) (fun i=>Sm.row (List.getD (Nd.bo m) i Qy)) Mode.any,ZI (Nd.de m),ZI (Nd.sl m),ZI (Nd.ss m)]] i []) i=Qb y.2.1 i)/\t=y.2.2)/\True)/\(SM x_3/\Qp/\SM x_2/\(SM Z0/\SM Z0/\SM Z0/\BV (List UInt8) [] []/\SM Z0/\SM Z0/\SM Z0/\Qa/\Qa/\Qa/\Qa/\Qa/\Qk)/\SM x_1/\(SM kd/\SM at_/\SM cl/\SM tx/\SM pr/\SM op/\SM (Arr.k va)/\(SM (Qh va)/\(∀(i:Nat),i<Qh va->SM (QB va i))/\True)/\(SM (Qi va)/\(∀(i:Nat),i<Qi va->SM (QC va i))/\True)/\(SM (Qj va)/\(∀(i:Nat),i<Qj va->SM (QE va i))/\True)/\(SM (LN ki)/\(∀(i:Nat),i<LN ki->SM (Qb ki i))/\True)/\(SM (LN bo)/\(∀(i:Nat),i<LN bo->SM (QF bo i))/\True)/\Qk)/\SM x/\((SM (LN sc)/\(∀(i:Nat),i<LN sc->SM (B2 sc i))/\True)/\(SM (LN sc)/\(∀(i:Nat),i<LN sc->SM (B1 sc i))/\True)/\True)/\True)/\t=y.2.2/\True))/\∀(e:Flt),XX z.1 z.2 e->e.1≠Z0->∀(m:Nd),SM x_6/\SM x_5/\SM x_5/\ifB (e.1 != Z0) (SM x_1/\SM x_5/\SM x_2/\KN x_5 e.1 e.2.1 e.2.2/\SM x_3/\Qr x_2 x_3/\((∃(m:Nd),X=Except.ok m/\KM kd at_ cl tx pr op va ki bo m/\KO e.1 e.2.1 e.2.2)\/∃(e_1:Flt),X=Except.error e_1/\K4 kd at_ cl tx pr op va ki bo/\KP e.1 e_1.1 e.2.1 e_1.2.1 e.2.2 e_1.2.2)) (SM x_6/\SM x_4.2.2/\Bf ((LN x_4.2.1+N1)*208<=140737488355328/\LN x_4.2.1+N1<=9223372036854775807) (∀(t:Nat),(SM (D.ref N0 x N0)/\SM (D.ref (max (N0+N1) N0) x_1 N0)/\SM (D.ref (max (N1+N1) (max (N0+N1) N0)) x_2 N0)/\SM (Kg x_3)/\True)/\∃(y:Nat×List Nd×Nat),KJ sc ki y.2.1 y.1/\LN ki-y.1<LN ki-x_4.1/\(IntKind.wrap IntKind.i64 ((NI x_4.1)+Z1)=(NI y.1)/\(LN x_4.2.1+N1=LN y.2.1/\(∀(i:Nat),i<LN x_4.2.1+N1->Bt (LN x_4.2.1) (fun j=>Qb x_4.2.1 j) (fun i=>List.getD [[ZI (Nd.kd m),ZI (Nd.at_ m),ZI (Nd.cl m),D.str (Nd.tx m),ZI (Nd.pr m),ZI (Nd.op m),ZI (Arr.k (Qz m)),SI (Kh m),SI (Ki m),D.sl N4 (LN (Ql m)) (fun i=>Arr.row (List.getD (Ql m) i Qx)) Mode.any,D.sl 15 (LN (Nd.ki m)) (fun i=>Nd.row (List.getD (Nd.ki m) i Qq)) Mode.any,D.sl 34 (LN (Nd.bo m)) (fun i=>Sm.row (List.getD (Nd.bo m) i Qy)) Mode.any,ZI (Nd.de m),ZI (Nd.sl m),ZI (Nd.ss m)]] i []) i=Qb y.2.1 i)/\t=y.2.2)/\True)/\(SM x_3/\Qp/\SM x_2/\(SM Z0/\SM Z0/\SM Z0/\BV (List UInt8) [] []/\SM Z0/\SM Z0/\SM Z0/\Qa/\Qa/\Qa/\Qa/\Qa/\Qk)/\SM x_1/\(SM kd/\SM at_/\SM cl/\SM tx/\SM pr/\SM op/\SM (Arr.k va)/\(SM (Qh va)/\(∀(i:Nat),i<Qh va->SM (QB va i))/\True)/\(SM (Qi va)/\(∀(i:Nat),i<Qi va->SM (QC va i))/\True)/\(SM (Qj va)/\(∀(i:Nat),i<Qj va->SM (QE va i))/\True)/\(SM (LN ki)/\(∀(i:Nat),i<LN ki->SM (Qb ki i))/\True)/\(SM (LN bo)/\(∀(i:Nat),i<LN bo->SM (QF bo i))/\True)/\Qk)/\SM x/\((SM (LN sc)/\(∀(i:Nat),i<LN sc->SM (B2 sc i))/\True)/\(SM (LN sc)/\(∀(i:Nat),i<LN sc->SM (B1 sc i))/\True)/\True)/\True)/\t=y.2.2/\True)))) (SM x_1/\SM x_1/\SM x_2/\SM x_3/\Qr x_2 x_3/\((∃(m:Nd),X=Except.ok m/\Qj5 kd at_ cl tx pr op va x_4.2.1 x_4.2.2 bo m/\Qp)\/∃(e:Flt),X=Except.error e/\(∃(m:Nd),Qj5 kd at_ cl tx pr op va x_4.2.1 x_4.2.2 bo m)/\XT e.1 e.2.1 e.2.2))))) (by kernel_rfl) ?_
 delta DA GI LI LN N0 N1 N4 NI SI SM Z0 Z1 ZI XM Qp7 Qj Qx QE XQ Qq Qb XR Qy QF J7 Qr QjX QjY XS KM Qa QbT K4 QbU QjZ Qp XN XT Qp8 Qj0 Z3 Qj1 QbV Kz Z4 QbW J8 Qh Qp9 KN J9 KO KP XU Qk Kf Z5 Qqa QB Qqb Qj2 Qj3 Qj4 XV XW KF Kg Qz Kh XO Ki Ql XX Z6 Qj5 Qi QC XP
 try simp only[<- dm]
 try simp only[<- dn]
 simp only[ne_eq,implies_true,Int.toNat_natCast,Bg,Be,decide_eq_true_eq,decide_eq_false_iff_not,true_and,and_true,beq_iff_eq,bne_iff_ne,bne_eq_false_iff_eq,beq_eq_false_iff_ne,Bool.not_eq_true',Bool.not_eq_false',exists_const,forall_const,Prod.exists]
 refine fun _ _ _ _ _ _ _=>⟨fun h=>absurd h h2,fun _=>⟨fun h=>absurd h h10,fun _=>?_⟩⟩
 have nc:∀ki',wkL [.int .i64 kd,.int .i64 at_,.int .i64 cl,.str tx,.int .i64 pr,.int .i64 op,.int .i64 va.k,isl va.sh .any,isl va.nu .any,gsl 4 Arr.row va.it,gsl 15 Nd.row1 ki',gsl 34 Sm.row1 bo,.int .i64 0,.int .i64 0,.int .i64 0] (Nd.row2 (.mk kd at_ cl tx pr op va ki' bo 0 0 0)):=fun _=>Bc _
 rw[rvN] at hX
 refine fun t=>⟨⟨0,[],t,KJ.zero sc ki,⟨rfl,rfl,fun _ h=>absurd h (Nat.not_lt_zero _),rfl⟩,rfl⟩,?_⟩
 rintro ⟨i,cur,k⟩ hI
 simp only at hI
 refine⟨fun hlt=>?_,fun hge=>?_⟩
 ·have hlt':i<ki.length:=by simpa using hlt
  have hle:=hI.len
  have hw:IntKind.i64.wrap ((i:Int)+1)=((i+1:Nat):Int):=by rw[Bb (by omega) (by omega)];rfl
  have more:∀m,rvN sc (ki.getD i default)=.ok m->((cur.length+1)*208<=140737488355328/\cur.length+1<=9223372036854775807)/\∀t:Nat,∃(a:Nat) (a_1:List Nd) (b:Nat),KJ sc ki a_1 a/\ki.length-a<ki.length-i/\(IntKind.i64.wrap ((i:Int)+1)=((a:Nat):Int)/\cur.length+1=a_1.length/\(∀j,j<cur.length+1->Bt cur.length (fun j=>(cur.getD j default).row1) (fun j=>[m.row1].getD j []) j=(a_1.getD j default).row1)/\t=b)/\t=b:=fun m hm =>
   ⟨⟨by omega,by omega⟩,fun t=>⟨i+1,cur++[m],t,hI.ok hlt' hm,by omega,⟨hw,by simp,fun j hj=>by
    simp only[Bt]
    split
    ·rename_i h
     rw[List.getD_eq_getElem?_getD,List.getD_eq_getElem?_getD,List.getElem?_append_left h]
    ·rename_i h
     obtain rfl:j=cur.length:=by omega
     simp[List.getD_eq_getElem?_getD],rfl⟩,rfl⟩⟩
  have b1:(0:Int)<=(i:Int)/\(i:Int)<(ki.length:Int):=⟨Int.natCast_nonneg i,hlt⟩
  have hb:=hn _ (Ci hlt')
  have er:∀e,rvN sc (ki.getD i default)=.error e->X=.error e:=fun e he=>by
   rw[hI.err hlt' he] at hX
   exact hX
  have done:∀e:Flt,rvN sc (ki.getD i default)=.error e->∃a a_1 b,X=.error (a,a_1,b)/\(∃m,wkL [.int .i64 kd,.int .i64 at_,.int .i64 cl,.str tx,.int .i64 pr,.int .i64 op,.int .i64 va.k,isl va.sh .any,isl va.nu .any,gsl 4 Arr.row va.it,gsl 15 Nd.row1 ki,gsl 34 Sm.row1 bo,.int .i64 0,.int .i64 0,.int .i64 0] (Nd.row2 m))/\e.1=a/\e.2.1=a_1/\e.2.2=b:=fun e he =>
   ⟨e.1,e.2.1,e.2.2,er e he,⟨_,nc ki⟩,rfl,rfl,rfl⟩
  clear hX hI
  repeat' first | exact b1 | refine⟨sc,ki.getD i default,⟨rfl,rfl,hb⟩,?_⟩ | exact more _ ‹rvN sc (ki.getD i default)=.ok _› | exact Or.inr (done _ ‹rvN sc (ki.getD i default)=.error _›) | exact absurd ‹_=_› ‹¬_=_› | apply And.intro | intro _
 ·have hd:=hI.done (i:=i) (by simpa using hge)
  rw[hd] at hX
  simp only[if_neg h2,if_neg h10] at hX
  exact .inl ⟨_,hX,Bd _,Bd _,Bd _,Bd _,Bd _,Bd _,Bd _,Bd _,Bd _,Bd _,BeL cur k,Bd _,Bd _,Bd _,Bd _,trivial⟩
theorem BiE(sc:Scp)(n:Nd)(hk:n.ki≠[]/\n.ki.length<=1000000)(h2:n.kd≠2)(h10:n.kd≠10)(hs:I6 sc)(hn:∀b∈n.ki,VRn sc b):VRn sc n:=by
 cases n with
 |mk kd at_ cl tx pr op va ki bo de sl ss =>
  exact Tt (BbB sc kd at_ cl tx pr op va ki bo de sl ss hs hk h2 h10 hn _ rfl)
def _root_.Go.Ab.endRb(X:Except Flt (List Sm×Frm1))(e:AEnd)(_:St):Prop:=match e with
 |.ret (.tup [u,n,d])=>(∃z,X=.ok z/\Br u (gsl 34 Sm.row1 z.1)/\Br n (.int .i64 (z.2.length:Nat))/\Br d (CY (0,0,[])))\/∃e,X=.error e/\wkD u CM/\Br n (.int .i64 0)/\Br d (CY e)
 |_=>False
theorem Bax:wkD CM (gsl 34 Sm.row1 []):=by
 simp[CM,gsl,wkD,Ba,EI,BG]
theorem M9{C:Ctx}{u u' n n' d d':D}(hu:∀v,Rep C u v->Rep C u' v)(hn:∀v,Rep C n v->Rep C n' v)(hd:∀v,Rep C d v->Rep C d' v)(v:Value)(h:Rep C (.tup [u,n,d]) v):Rep C (.tup [u',n',d']) v:=by
 simp only[Rep,RepL] at h ⊢
 obtain ⟨vs,e,x,xs,e1,r1,y,ys,e2,r2,z,zs,e3,r3,e4⟩:=h
 exact⟨vs,e,x,xs,e1,hu x r1,y,ys,e2,hn y r2,z,zs,e3,hd z r3,e4⟩
theorem BbX{x:Except Flt (List Sm×Frm1)}{k:Nat}{ds:List D}(h:ACalls Tryz.prog k ds ⟨[],[]⟩ (Go.Ab.endRb x)):CZ k ds (Bfv x):=by
 refine ACalls.wkEnd h fun r S' hr=>?_
 unfold Go.Ab.endRb at hr
 split at hr
 ·rename_i u n d
  rcases hr with ⟨z,rfl,h1,h2,h3⟩ | ⟨e',rfl,h1,h2,h3⟩
  ·refine⟨.ret (.tup [gsl 34 Sm.row1 z.1,.int .i64 (z.2.length:Nat),CY (0,0,[])]),fun C e he=>?_,rfl⟩
   cases e with
   |returned v=>exact M9 (fun v=>Bp _ _ h1 C v) (fun v=>Bp _ _ h2 C v) (fun v=>Bp _ _ h3 C v) v he
   |panicked _=>exact he.elim
   |outgrown=>exact he.elim
  ·refine⟨.ret (.tup [gsl 34 Sm.row1 [],.int .i64 0,CY e']),fun C e he=>?_,rfl⟩
   cases e with
   |returned v=>exact M9 (fun v hv=>CB _ _ Bax C v (CB _ _ h1 C v hv)) (fun v=>Bp _ _ h2 C v) (fun v=>Bp _ _ h3 C v) v he
   |panicked _=>exact he.elim
   |outgrown=>exact he.elim
 ·exact hr.elim
def TP(sc:Scp):Con:=fun k ds S=>match k with
 |50=>some (pE (β:=Frm1×List UInt8×Int) ds S (fun x=>.agg (scC ((x.1++[(x.2.1,x.2.2)])::sc))) (fun x=>ds=[.agg (scC (x.1::sc)),.str x.2.1,.int .i64 x.2.2]/\x.1.length<=1000000))
 |_=>none
theorem MT{sc:Scp}(hs:sc.length<=1000000):ConOk Tryz.prog (TP sc):=by
 intro k ds S A hh
 unfold TP at hh
 split at hh
 ·injection hh with hh;subst hh
  refine B7 fun x ⟨e,h⟩=>?_
  subst e
  exact CD.at_ (Bh7 x.1 sc x.2.1 x.2.2 hs h) _
 ·cases hh
noncomputable def Erc(sc:Scp)(l:List Sm):Senv:={ EC (TP sc) 75 3 [4,5,6,7,8,9,10,11,12,13,14,18,28,38,51,57] (fun id=>match id with | 11=>([0,1,2,3],[3]) | 15=>([0,1,2,3],[3]) | _=>([],[])) with
 inl:=Go.Ab.inlR (TP sc)
 gh:=fun b=>match b with
  |0=>[.slot 3400007]
  |_=>[]
 ann:=fun b _env S=>match b with
  |0=>some { slots:=[9,8,7],keep:=[1,2,6],α:=Nat×Frm1×List Sm×Nat,st:=fun y=>([.int .i64 (y.1:Nat),.int .i64 (y.2.1.length:Nat),.sl 34 y.2.2.1.length (fun j=>Sm.row1 (y.2.2.1.getD j default)) (.tok 0 y.2.2.2)],⟨Gv S.objs 0 (.cells (scC (y.2.1::sc))),[(0,y.2.2.2)]⟩),inv:=fun y=>BJ sc l y.2.2.1 y.2.1 y.1,mu:=fun y=>l.length-y.1 }
  |_=>none }
def Va(a:Scp)(b c:List Sm)(d:Frm1)(e:Nat):Prop:=BJ a b c d e
def Vb:Arr:=DA
def Jo:Nd:=Nd.mk Z0 Z0 Z0 [] Z0 Z0 Vb [] [] Z0 Z0 Z0
def Jp:Sm:=Sm.mk Z0 Z0 [] Z0 Jo Jo
def Vc(a:List Sm)(b:Nat):Sm:=List.getD a b Jp
def Kj(a:List Sm)(b:Nat):Nd:=Sm.te (Vc a b)
def Z7(a:List Sm)(b:Nat):Arr:=Nd.va (Kj a b)
def Qqc(a:List Sm)(b:Nat):List Int:=Arr.sh (Z7 a b)
def Qqd(a:List Sm)(b:Nat):List Int:=Arr.nu (Z7 a b)
def Qj6(a:List Sm)(b:Nat):List Arr:=Arr.it (Z7 a b)
def Qj7(a:List Sm)(b:Nat):List Nd:=Nd.ki (Kj a b)
def Qj8(a:List Sm)(b:Nat):List Sm:=Nd.bo (Kj a b)
def Kk(a:List Sm)(b:Nat):Nd:=Sm.nd (Vc a b)
def Z8(a:List Sm)(b:Nat):Arr:=Nd.va (Kk a b)
def Qqe(a:List Sm)(b:Nat):List Int:=Arr.sh (Z8 a b)
def Qqf(a:List Sm)(b:Nat):List Int:=Arr.nu (Z8 a b)
def Qj9(a:List Sm)(b:Nat):List Arr:=Arr.it (Z8 a b)
def Qka(a:List Sm)(b:Nat):List Nd:=Nd.ki (Kk a b)
def Qkb(a:List Sm)(b:Nat):List Sm:=Nd.bo (Kk a b)
def Kl(a:List Sm)(b:Nat):List D:=[ZI (Sm.kd (Vc a b)),ZI (Sm.at_ (Vc a b)),D.str (Sm.nm (Vc a b)),ZI (Sm.sl (Vc a b)),ZI (Nd.kd (Kj a b)),ZI (Nd.at_ (Kj a b)),ZI (Nd.cl (Kj a b)),D.str (Nd.tx (Kj a b)),ZI (Nd.pr (Kj a b)),ZI (Nd.op (Kj a b)),ZI (Arr.k (Z7 a b)),SI (Qqc a b),SI (Qqd a b),D.sl N4 (LN (Qj6 a b)) (fun i=>Arr.row (List.getD (Qj6 a b) i Vb)) Mode.any,D.sl 15 (LN (Qj7 a b)) (fun i=>Nd.row (List.getD (Qj7 a b) i Jo)) Mode.any,D.sl 34 (LN (Qj8 a b)) (fun i=>Sm.row (List.getD (Qj8 a b) i Jp)) Mode.any,ZI (Nd.de (Kj a b)),ZI (Nd.sl (Kj a b)),ZI (Nd.ss (Kj a b)),ZI (Nd.kd (Kk a b)),ZI (Nd.at_ (Kk a b)),ZI (Nd.cl (Kk a b)),D.str (Nd.tx (Kk a b)),ZI (Nd.pr (Kk a b)),ZI (Nd.op (Kk a b)),ZI (Arr.k (Z8 a b)),SI (Qqe a b),SI (Qqf a b),D.sl N4 (LN (Qj9 a b)) (fun i=>Arr.row (List.getD (Qj9 a b) i Vb)) Mode.any,D.sl 15 (LN (Qka a b)) (fun i=>Nd.row (List.getD (Qka a b) i Jo)) Mode.any,D.sl 34 (LN (Qkb a b)) (fun i=>Sm.row (List.getD (Qkb a b) i Jp)) Mode.any,ZI (Nd.de (Kk a b)),ZI (Nd.sl (Kk a b)),ZI (Nd.ss (Kk a b))]
def K5:Prop:=SM N0/\(∀(i:Nat),i<N0->BV (List D) [] [])/\True
def Z9:Prop:=SM Z0/\SM Z0/\K5/\K5/\BV (List UInt8) [] []/\True
def Ha(a:Frm1)(b:Scp)(c:Nat):List D:=B2 (a::b) c
def Hb(a:Frm1)(b:Scp)(c:Nat):List D:=B1 (a::b) c
def XY(a:List Sm)(b:Nat):Sm:=List.getD a (Int.toNat (↑b:Int)) Jp
def QbX(a:List Sm)(b:Nat):Int:=Sm.kd (XY a b)
def QbY(a:Frm1)(b:Scp):D:=D.agg [D.sl N1 (LN (a::b)) (B2 (a::b)) Mode.any,D.sl N1 (LN (a::b)) (B1 (a::b)) Mode.any]
def Qkc(a:Frm1)(b c:Scp):Prop:=QbY a b=D.agg [D.sl N1 (LN c) (B2 c) Mode.any,D.sl N1 (LN c) (B1 c) Mode.any]
def Km(a:List Sm)(b:Nat):Nd:=Sm.te (XY a b)
def Qkd(a:List Sm)(b:Nat):D:=ZI (Nd.kd (Km a b))
def Qke(a:List Sm)(b:Nat):D:=ZI (Nd.at_ (Km a b))
def Qkf(a:List Sm)(b:Nat):D:=ZI (Nd.cl (Km a b))
def Qkg(a:List Sm)(b:Nat):D:=D.str (Nd.tx (Km a b))
def Qkh(a:List Sm)(b:Nat):D:=ZI (Nd.pr (Km a b))
def Qki(a:List Sm)(b:Nat):D:=ZI (Nd.op (Km a b))
def Hc(a:List Sm)(b:Nat):Arr:=Nd.va (Km a b)
def Qkj(a:List Sm)(b:Nat):D:=ZI (Arr.k (Hc a b))
def Qqg(a:List Sm)(b:Nat):List Int:=Arr.sh (Hc a b)
def Qkk(a:List Sm)(b:Nat):D:=SI (Qqg a b)
def Qqh(a:List Sm)(b:Nat):List Int:=Arr.nu (Hc a b)
def Qkl(a:List Sm)(b:Nat):D:=SI (Qqh a b)
def Qkm(a:List Sm)(b:Nat):List Arr:=Arr.it (Hc a b)
def Qkn(a:List Sm)(b:Nat):D:=D.sl N4 (LN (Qkm a b)) (fun i=>Arr.row (List.getD (Qkm a b) i Vb)) Mode.any
def Qko(a:List Sm)(b:Nat):List Nd:=Nd.ki (Km a b)
def Qkp(a:List Sm)(b:Nat):D:=D.sl 15 (LN (Qko a b)) (fun i=>Nd.row (List.getD (Qko a b) i Jo)) Mode.any
def Qkq(a:List Sm)(b:Nat):List Sm:=Nd.bo (Km a b)
def Qkr(a:List Sm)(b:Nat):D:=D.sl 34 (LN (Qkq a b)) (fun i=>Sm.row (List.getD (Qkq a b) i Jp)) Mode.any
def Qks(a:List Sm)(b:Nat):D:=ZI (Nd.de (Km a b))
def Qkt(a:List Sm)(b:Nat):D:=ZI (Nd.sl (Km a b))
def Qku(a:List Sm)(b:Nat):D:=ZI (Nd.ss (Km a b))
def QbZ(a:Nd):D:=ZI (Nd.cl a)
def Hd(a:Nd):Arr:=Nd.va a
def Qkv(a:Nd):D:=ZI (Arr.k (Hd a))
def Qqi(a:Nd):List Int:=Arr.sh (Hd a)
def Qkw(a:Nd):D:=SI (Qqi a)
def Qqj(a:Nd):List Int:=Arr.nu (Hd a)
def Qkx(a:Nd):D:=SI (Qqj a)
def Qky(a:Nd):List Arr:=Arr.it (Hd a)
def Qkz(a:Nd):D:=D.sl N4 (LN (Qky a)) (fun i=>Arr.row (List.getD (Qky a) i Vb)) Mode.any
def QkA(a:Nd):D:=D.sl 15 (LN (Nd.ki a)) (fun i=>Nd.row (List.getD (Nd.ki a) i Jo)) Mode.any
def QkB(a:Nd):D:=D.sl 34 (LN (Nd.bo a)) (fun i=>Sm.row (List.getD (Nd.bo a) i Jp)) Mode.any
def Qb0(a:Nd):List D:=[ZI (Nd.kd a),ZI (Nd.at_ a),QbZ a,D.str (Nd.tx a),ZI (Nd.pr a),ZI (Nd.op a),Qkv a,Qkw a,Qkx a,Qkz a,QkA a,QkB a,ZI (Nd.de a),ZI (Nd.sl a),ZI (Nd.ss a)]
def QkC(a:Nd):D:=D.agg (Qb0 a)
def He(a:Scp)(b c:Nd):Prop:=rvN a b=Except.ok c
def XZ(a b c d:Nat):Prop:=a≠b/\c≠b/\d≠b/\True
def Kn(a b c d e:Nat):Prop:=a≠b/\XZ c b d e
def Ko(a:List Sm)(b:Nat):Nd:=Sm.nd (XY a b)
def Hf(a:List Sm)(b:Nat):Arr:=Nd.va (Ko a b)
def Qqk(a:List Sm)(b:Nat):List Int:=Arr.sh (Hf a b)
def Qql(a:List Sm)(b:Nat):List Int:=Arr.nu (Hf a b)
def QkD(a:List Sm)(b:Nat):List Arr:=Arr.it (Hf a b)
def QkE(a:List Sm)(b:Nat):List Nd:=Nd.ki (Ko a b)
def QkF(a:List Sm)(b:Nat):List Sm:=Nd.bo (Ko a b)
def Qb1(a:Frm1)(b c:Scp)(d:List Sm)(e:Nat)(f:Nd):Prop:=Qkc a b c/\D.agg [ZI (Nd.kd (Ko d e)),ZI (Nd.at_ (Ko d e)),ZI (Nd.cl (Ko d e)),D.str (Nd.tx (Ko d e)),ZI (Nd.pr (Ko d e)),ZI (Nd.op (Ko d e)),ZI (Arr.k (Hf d e)),SI (Qqk d e),SI (Qql d e),D.sl N4 (LN (QkD d e)) (fun i=>Arr.row (List.getD (QkD d e) i Vb)) Mode.any,D.sl 15 (LN (QkE d e)) (fun i=>Nd.row (List.getD (QkE d e) i Jo)) Mode.any,D.sl 34 (LN (QkF d e)) (fun i=>Sm.row (List.getD (QkF d e) i Jp)) Mode.any,ZI (Nd.de (Ko d e)),ZI (Nd.sl (Ko d e)),ZI (Nd.ss (Ko d e))]=QkC f/\VRn c f
def QkG(a:List Sm)(b:Nat):Bool:=QbX a b==2
def X0(a:List Sm)(b:Nat):D:=D.str (Sm.nm (XY a b))
def QkH(a:Frm1)(b:Scp)(c:List Sm)(d:Nat)(e:Nd)(f:Frm1)(g:List UInt8)(h:Int):Prop:=[QbY a b,X0 c d,QbZ e]=[QbY f b,D.str g,ZI h]/\LN f<=1000000
def Hg(a:List Sm):Nat:=(LN a+N1)*456
def Qqm(a:List Sm):D:=D.sl 34 (LN a) (fun i=>Kl a i) Mode.any
def Hh(a:List Sm)(b c:Nat):Prop:=SM (Qqm a)/\SM (D.ref N0 b N0)/\SM (D.ref (max (N0+N1) N0) c N0)/\True
def Hi(a b:Nat):Prop:=IntKind.wrap IntKind.i64 ((↑a:Int)+Z1)=(↑b:Int)
def Hj(a:List Sm)(b:Nat):D:=ZI (QbX a b)
def Hk(a:List Sm)(b:Nat):D:=ZI (Sm.at_ (XY a b))
def QkI(a b:Nd):List D:=ZI (Nd.kd a)::ZI (Nd.at_ a)::QbZ a::D.str (Nd.tx a)::ZI (Nd.pr a)::ZI (Nd.op a)::Qkv a::Qkw a::Qkx a::Qkz a::QkA a::QkB a::ZI (Nd.de a)::ZI (Nd.sl a)::ZI (Nd.ss a)::Qb0 b
def QkJ(a b:Nat)(c:Frm1)(d:List UInt8)(e:Int)(f:Scp)(g:Frm1)(h k:Nat):Prop:=(SM a/\Z9/\SM b/\((LN ((c++[(d,e)])::f)=LN (g::f)/\(∀(i:Nat),i<LN ((c++[(d,e)])::f)->B2 ((c++[(d,e)])::f) i=Ha g f i)/\True)/\(LN ((c++[(d,e)])::f)=LN (g::f)/\(∀(i:Nat),i<LN ((c++[(d,e)])::f)->B1 ((c++[(d,e)])::f) i=Hb g f i)/\True)/\True)/\True)/\h=k/\True
def QkK(a b:Nat)(c:Frm1)(d:Scp)(e:Frm1)(f g:Nat):Prop:=(SM a/\Z9/\SM b/\((LN (c::d)=LN (e::d)/\(∀(i:Nat),i<LN (c::d)->Ha c d i=Ha e d i)/\True)/\(LN (c::d)=LN (e::d)/\(∀(i:Nat),i<LN (c::d)->Hb c d i=Hb e d i)/\True)/\True)/\True)/\f=g/\True
def Hl(a b:Nat)(c:List Sm)(d e:Nat)(f:Frm1)(g:Scp)(h:Nd)(k:Nat)(l:List Sm)(m:Nat)(n:Nd):Prop:=SM a/\SM b/\SM b/\ifB (QkG c d) (SM b/\SM e/\SM b/\SM a/\∃(x:Frm1×List UInt8×Int),QkH f g c d h x.1 x.2.1 x.2.2/\∀(_y:Unit),True->SM e/\SM b/\SM k/\Bf (Hg l<=140737488355328/\LN l+N1<=9223372036854775807) (∀(t:Nat),Hh c e m/\∃(y:Nat×Frm1×List Sm×Nat),Va g c y.2.2.1 y.2.1 y.1/\LN c-y.1<LN c-d/\(Hi d y.1/\IntKind.wrap IntKind.i64 ((LI f)+Z1)=(LI y.2.1)/\(LN l+N1=LN y.2.2.1/\(∀(i:Nat),i<LN l+N1->Bt (LN l) (fun j=>Kl l j) (fun i=>List.getD [Hj c d::Hk c d::X0 c d::ZI (LI f)::QkI n h] i []) i=Kl y.2.2.1 i)/\t=y.2.2.2)/\True)/\QkJ m e x.1 x.2.1 x.2.2 g y.2.1 t y.2.2.2)) (SM b/\SM k/\Bf (Hg l<=140737488355328/\LN l+N1<=9223372036854775807) (∀(t:Nat),Hh c e m/\∃(y:Nat×Frm1×List Sm×Nat),Va g c y.2.2.1 y.2.1 y.1/\LN c-y.1<LN c-d/\(Hi d y.1/\(LI f)=(LI y.2.1)/\(LN l+N1=LN y.2.2.1/\(∀(i:Nat),i<LN l+N1->Bt (LN l) (fun j=>Kl l j) (fun i=>List.getD [Hj c d::Hk c d::X0 c d::ZI Z0::QkI n h] i []) i=Kl y.2.2.1 i)/\t=y.2.2.2)/\True)/\QkK m e f g y.2.1 t y.2.2.2))
def Hm(a:Scp)(b:Nd)(c:Flt):Prop:=rvN a b=Except.error c
def Hn(a b:Nat)(c:Except Flt (List Sm×Frm1))(d f:Int)(g:List UInt8):Prop:=SM a/\SM b/\(SM b/\True)/\((∃(z:List Sm×Frm1),c=Except.ok z/\False/\Z0=(LI z.2)/\d=Z0/\f=Z0/\K5/\K5/\BV (List UInt8) g []/\True)\/∃(e:Flt),c=Except.error e/\(SM N0/\(∀(i:Nat),i<N0->wkL [] [])/\True)/\SM Z0/\d=e.1/\f=e.2.1/\K5/\K5/\g=e.2.2/\True)
def QkL(a:List Sm)(b:Nat)(c:Nd):List D:=Qkd a b::Qke a b::Qkf a b::Qkg a b::Qkh a b::Qki a b::Qkj a b::Qkk a b::Qkl a b::Qkn a b::Qkp a b::Qkr a b::Qks a b::Qkt a b::Qku a b::Qb0 c
def QkM(a b:Nat)(c:List Sm)(d e:Nat)(f:Frm1)(g:Scp)(h:Nd)(k:Nat)(l:List Sm)(m:Nat):Prop:=SM a/\SM b/\SM b/\ifB (QkG c d) (SM b/\SM e/\SM b/\SM a/\∃(x:Frm1×List UInt8×Int),QkH f g c d h x.1 x.2.1 x.2.2/\∀(_y:Unit),True->SM e/\SM b/\SM k/\Bf (Hg l<=140737488355328/\LN l+N1<=9223372036854775807) (∀(t:Nat),Hh c e m/\∃(y:Nat×Frm1×List Sm×Nat),Va g c y.2.2.1 y.2.1 y.1/\LN c-y.1<LN c-d/\(Hi d y.1/\IntKind.wrap IntKind.i64 ((LI f)+Z1)=(LI y.2.1)/\(LN l+N1=LN y.2.2.1/\(∀(i:Nat),i<LN l+N1->Bt (LN l) (fun j=>Kl l j) (fun i=>List.getD [Hj c d::Hk c d::X0 c d::ZI (LI f)::QkL c d h] i []) i=Kl y.2.2.1 i)/\t=y.2.2.2)/\True)/\QkJ m e x.1 x.2.1 x.2.2 g y.2.1 t y.2.2.2)) (SM b/\SM k/\Bf (Hg l<=140737488355328/\LN l+N1<=9223372036854775807) (∀(t:Nat),Hh c e m/\∃(y:Nat×Frm1×List Sm×Nat),Va g c y.2.2.1 y.2.1 y.1/\LN c-y.1<LN c-d/\(Hi d y.1/\(LI f)=(LI y.2.1)/\(LN l+N1=LN y.2.2.1/\(∀(i:Nat),i<LN l+N1->Bt (LN l) (fun j=>Kl l j) (fun i=>List.getD [Hj c d::Hk c d::X0 c d::ZI Z0::QkL c d h] i []) i=Kl y.2.2.1 i)/\t=y.2.2.2)/\True)/\QkK m e f g y.2.1 t y.2.2.2))
theorem BcN(sc : Scp)(l : List Sm)(hs : sc.length<=1000000)(hl : l.length<=100000)(hn : ∀f, f.length<=l.length -> ∀s∈l, (s.kd=3 -> VRn (f::sc) s.te) /\ VRn (f::sc) s.nd)(X : Except Flt (List Sm×Frm1))(hX : X=rvB sc [] l) :
  ACalls Tryz.prog 24 [.agg (scC ([]::sc)),gsl 34 Sm.row1 l] ⟨[],[]⟩ (Go.Ab.endRb X):=by
 refine Ct (E:=Erc sc l) (O5 (MT hs) (GQ (MT hs)) rfl) Tryz.func24 rfl (by kernel_rfl) rfl (by simp[Erc,EC,E0]) ?_
 refine Bl (T :=
  ∀(x:Nat),True->∀(x_1:Nat),x≠x_1/\True->∀(t:Nat),(∃(x_2:Nat×Frm1×List Sm×Nat),Va sc l x_2.2.2.1 x_2.2.1 x_2.1/\(Z0=(NI x_2.1)/\Z0=(LI x_2.2.1)/\(N0=LN x_2.2.2.1/\(∀(i:Nat),i<N0->BV (List D) [] (Kl x_2.2.2.1 i))/\t=x_2.2.2.2)/\True)/\(SM x_1/\Z9/\SM x/\((LN ([]::sc)=LN (x_2.2.1::sc)/\(∀(i:Nat),i<LN ([]::sc)->B2 ([]::sc) i=Ha x_2.2.1 sc i)/\True)/\(LN ([]::sc)=LN (x_2.2.1::sc)/\(∀(i:Nat),i<LN ([]::sc)->B1 ([]::sc) i=Hb x_2.2.1 sc i)/\True)/\True)/\True)/\t=x_2.2.2.2/\True)/\∀(x_2:Nat×Frm1×List Sm×Nat),Va sc l x_2.2.2.1 x_2.2.1 x_2.1->ifB (decide ((NI x_2.1)<(LI l))) (Bf (Z0<=(NI x_2.1)/\(NI x_2.1)<(LI l)) (∀(x_3:Nat),x_1≠x_3/\x≠x_3/\True->SM x_3/\SM x_3/\SM x_3/\ifB (QbX l x_2.1==3) (SM x/\SM x_3/\∃(z:Scp×Nd),(Qkc x_2.2.1 sc z.1/\D.agg [Qkd l x_2.1,Qke l x_2.1,Qkf l x_2.1,Qkg l x_2.1,Qkh l x_2.1,Qki l x_2.1,Qkj l x_2.1,Qkk l x_2.1,Qkl l x_2.1,Qkn l x_2.1,Qkp l x_2.1,Qkr l x_2.1,Qks l x_2.1,Qkt l x_2.1,Qku l x_2.1]=QkC z.2/\VRn z.1 z.2)/\(∀(m:Nd),He z.1 z.2 m->∀(x_4:Nat),XZ x_3 x_4 x_1 x->∀(x_5:Nat),Kn x_4 x_5 x_3 x_1 x->SM x_4/\SM x_5/\SM x_5/\SM x_4/\SM x_3/\SM x/\SM x_3/\∃(z:Scp×Nd),Qb1 x_2.2.1 sc z.1 l x_2.1 z.2/\(∀(m_1:Nd),He z.1 z.2 m_1->∀(x_6:Nat),x_5≠x_6/\Kn x_4 x_6 x_3 x_1 x->∀(x_7:Nat),x_6≠x_7/\x_5≠x_7/\Kn x_4 x_7 x_3 x_1 x->SM x_6/\SM x_7/\SM x_7/\Hl x_6 x_3 l x_2.1 x x_2.2.1 sc m_1 x_2.2.2.2 x_2.2.2.1 x_1 m)/\∀(e:Flt),Hm z.1 z.2 e->e.1≠Z0->∀(m_1:Nd) (x_6:Nat),x_5≠x_6/\Kn x_4 x_6 x_3 x_1 x->∀(x_7:Nat),x_6≠x_7/\x_5≠x_7/\Kn x_4 x_7 x_3 x_1 x->SM x_6/\SM x_7/\SM x_7/\ifB (e.1 != Z0) (Hn x_7 x_1 X e.1 e.2.1 e.2.2) (Hl x_6 x_3 l x_2.1 x x_2.2.1 sc m_1 x_2.2.2.2 x_2.2.2.1 x_1 m))/\∀(e:Flt),Hm z.1 z.2 e->e.1≠Z0->∀(m:Nd) (x_4:Nat),XZ x_3 x_4 x_1 x->∀(x_5:Nat),Kn x_4 x_5 x_3 x_1 x->SM x_4/\SM x_5/\SM x_5/\ifB (e.1 != Z0) (Hn x_5 x_1 X e.1 e.2.1 e.2.2) (SM x_4/\SM x_3/\SM x/\SM x_3/\∃(z:Scp×Nd),Qb1 x_2.2.1 sc z.1 l x_2.1 z.2/\(∀(m_1:Nd),He z.1 z.2 m_1->∀(x_6:Nat),x_5≠x_6/\Kn x_4 x_6 x_3 x_1 x->∀(x_7:Nat),x_6≠x_7/\x_5≠x_7/\Kn x_4 x_7 x_3 x_1 x->SM x_6/\SM x_7/\SM x_7/\Hl x_6 x_3 l x_2.1 x x_2.2.1 sc m_1 x_2.2.2.2 x_2.2.2.1 x_1 m)/\∀(e:Flt),Hm z.1 z.2 e->e.1≠Z0->∀(m_1:Nd) (x_6:Nat),x_5≠x_6/\Kn x_4 x_6 x_3 x_1 x->∀(x_7:Nat),x_6≠x_7/\x_5≠x_7/\Kn x_4 x_7 x_3 x_1 x->SM x_6/\SM x_7/\SM x_7/\ifB (e.1 != Z0) (Hn x_7 x_1 X e.1 e.2.1 e.2.2) (Hl x_6 x_3 l x_2.1 x x_2.2.1 sc m_1 x_2.2.2.2 x_2.2.2.1 x_1 m))) (SM x/\SM x_3/\∃(z:Scp×Nd),Qb1 x_2.2.1 sc z.1 l x_2.1 z.2/\(∀(m:Nd),He z.1 z.2 m->∀(x_4:Nat),XZ x_3 x_4 x_1 x->∀(x_5:Nat),Kn x_4 x_5 x_3 x_1 x->SM x_4/\SM x_5/\SM x_5/\QkM x_4 x_3 l x_2.1 x x_2.2.1 sc m x_2.2.2.2 x_2.2.2.1 x_1)/\∀(e:Flt),Hm z.1 z.2 e->e.1≠Z0->∀(m:Nd) (x_4:Nat),XZ x_3 x_4 x_1 x->∀(x_5:Nat),Kn x_4 x_5 x_3 x_1 x->SM x_4/\SM x_5/\SM x_5/\ifB (e.1 != Z0) (Hn x_5 x_1 X e.1 e.2.1 e.2.2) (QkM x_4 x_3 l x_2.1 x x_2.2.1 sc m x_2.2.2.2 x_2.2.2.1 x_1)))) (SM x_1/\(SM x_1/\True)/\((∃(z:List Sm×Frm1),X=Except.ok z/\(LN x_2.2.2.1=LN z.1/\(∀(i:Nat),i<LN x_2.2.2.1->Kl x_2.2.2.1 i=Kl z.1 i)/\True)/\(LI x_2.2.1)=(LI z.2)/\Z9)\/∃(e:Flt),X=Except.error e/\False/\(LI x_2.2.1)=Z0/\Z0=e.1/\Z0=e.2.1/\K5/\K5/\BV (List UInt8) [] e.2.2/\True))) (by kernel_rfl) ?_
 delta DA GI LI LN N0 N1 N4 NI SI SM Z0 Z1 ZI Va Vb Qj7 Qj8 Kk Z8 Qqe Qqf Qj9 Qka Qkb Kl Jo K5 Z9 Ha Hb XY QbX QbY Qkc Km Qkd Jp Qke Qkf Qkg Qkh Qki Hc Qkj Qqg Qkk Qqh Vc Qkl Qkm Qkn Qko Qkp Qkq Qkr Qks Qkt Qku Kj QbZ Hd Qkv Qqi Qkw Qqj Qkx Qky Qkz QkA Z7 QkB Qb0 QkC He XZ Kn Ko Hf Qqk Qql Qqc QkD QkE QkF Qb1 QkG X0 QkH Hg Qqm Hh Qqd Hi Hj Hk QkI QkJ QkK Hl Hm Hn QkL Qj6 QkM
 try simp only[<- dm]
 try simp only[<- dn]
 simp (maxSteps:=2000000) only[ne_eq,implies_true,Int.toNat_natCast,Bg,Be,decide_eq_true_eq,decide_eq_false_iff_not,true_and,and_true,beq_iff_eq,bne_iff_ne,bne_eq_false_iff_eq,beq_eq_false_iff_ne,forall_const,Prod.exists]
 refine fun _ _ _ t=>⟨⟨0,[],[],t,BJ.zero sc l,⟨rfl,rfl,rfl,fun _ h=>absurd h (Nat.not_lt_zero _),rfl⟩,⟨⟨rfl,fun _ _=>rfl⟩,rfl,fun _ _=>rfl⟩,rfl⟩,?_⟩
 rintro ⟨i,f,out,k⟩ hI
 simp only at hI
 have hfl:=hI.fl
 have hle:=hI.len
 have hil:=hI.le
 refine⟨fun hlt=>?_,fun hge=>?_⟩
 ·have hlt':i<l.length:=by simpa using hlt
  have hvn:=hn f (by omega) _ (CT hlt')
  have b1:(0:Int)<=(i:Int)/\(i:Int)<(l.length:Int):=⟨Int.natCast_nonneg i,hlt⟩
  have hw:IntKind.i64.wrap ((i:Int)+1)=((i+1:Nat):Int):=by rw[Bb (by omega) (by omega)];rfl
  have hw2:IntKind.i64.wrap ((f.length:Int)+1)=((f.length+1:Nat):Int):=by rw[Bb (by omega) (by omega)];rfl
  have hM:=BbT sc f (l.getD i default)
  have rows:∀(t:Sm) (j:Nat),j<out.length+1->Bt out.length (fun j=>Sm.row1 (out.getD j default)) (fun j=>[Sm.row1 t].getD j []) j=Sm.row1 ((out++[t]).getD j default):=fun t j hj=>by
   simp only[Bt]
   split
   ·rename_i h
    rw[List.getD_eq_getElem?_getD,List.getD_eq_getElem?_getD,List.getElem?_append_left h]
   ·rename_i h
    obtain rfl:j=out.length:=by omega
    simp[List.getD_eq_getElem?_getD]
  have more:∀t,rvM sc f (l.getD i default)=.ok t->t.kd≠2->((out.length+1)*456<=140737488355328/\out.length+1<=9223372036854775807)/\∀q:Nat,∃(a:Nat) (a_1:Frm1) (a_2:List Sm) (b:Nat),BJ sc l a_2 a_1 a/\l.length-a<l.length-i/\(IntKind.i64.wrap ((i:Int)+1)=((a:Nat):Int)/\((f.length:Nat):Int)=((a_1.length:Nat):Int)/\out.length+1=a_2.length/\(∀j,j<out.length+1->Bt out.length (fun j=>Sm.row1 (out.getD j default)) (fun j=>[Sm.row1 t].getD j []) j=Sm.row1 (a_2.getD j default))/\q=b)/\(((f::sc).length=(a_1::sc).length/\∀j,j<(f::sc).length->B2 (f::sc) j=B2 (a_1::sc) j)/\(f::sc).length=(a_1::sc).length/\∀j,j<(f::sc).length->B1 (f::sc) j=B1 (a_1::sc) j)/\q=b:=fun t ht h2=>by
   have h:=hI.ok hlt' ht
   unfold Iz at h
   rw[if_neg h2] at h
   exact⟨⟨by omega,by omega⟩,fun q=>⟨i+1,f,out++[t],q,h,by omega,⟨hw,rfl,by simp,fun j hj=>rows t j hj,rfl⟩,⟨⟨rfl,fun _ _=>rfl⟩,rfl,fun _ _=>rfl⟩,rfl⟩⟩
  have more2:∀t,rvM sc f (l.getD i default)=.ok t->t.kd=2->∃(a:Frm1) (a_1:List UInt8) (b:Int),([D.agg (scC (f::sc)),.str t.nm,.int .i64 t.nd.cl]=[.agg (scC (a::sc)),.str a_1,.int .i64 b]/\a.length<=1000000)/\((out.length+1)*456<=140737488355328/\out.length+1<=9223372036854775807)/\∀q:Nat,∃(a_2:Nat) (a_3:Frm1) (a_4:List Sm) (b_1:Nat),BJ sc l a_4 a_3 a_2/\l.length-a_2<l.length-i/\(IntKind.i64.wrap ((i:Int)+1)=((a_2:Nat):Int)/\IntKind.i64.wrap (((f.length:Nat):Int)+1)=((a_3.length:Nat):Int)/\out.length+1=a_4.length/\(∀j,j<out.length+1->Bt out.length (fun j=>Sm.row1 (out.getD j default)) (fun j=>[Sm.row1 t].getD j []) j=Sm.row1 (a_4.getD j default))/\q=b_1)/\((((a++[(a_1,b)])::sc).length=(a_3::sc).length/\∀j,j<((a++[(a_1,b)])::sc).length->B2 ((a++[(a_1,b)])::sc) j=B2 (a_3::sc) j)/\((a++[(a_1,b)])::sc).length=(a_3::sc).length/\∀j,j<((a++[(a_1,b)])::sc).length->B1 ((a++[(a_1,b)])::sc) j=B1 (a_3::sc) j)/\q=b_1:=fun t ht h2=>by
   have h:=hI.ok hlt' ht
   unfold Iz at h
   rw[if_pos h2] at h
   exact⟨f,t.nm,t.nd.cl,⟨rfl,by omega⟩,⟨by omega,by omega⟩,fun q=>⟨i+1,_,out++[t],q,h,by omega,⟨hw,by rw[hw2];simp,by simp,fun j hj=>rows t j hj,rfl⟩,⟨⟨rfl,fun _ _=>rfl⟩,rfl,fun _ _=>rfl⟩,rfl⟩⟩
  have err:∀e:Flt,rvM sc f (l.getD i default)=.error e->∃a a_1 b,X=Except.error (a,a_1,b)/\(∀i:Nat,i<0->wkL [] [])/\e.1=a/\e.2.1=a_1/\e.2.2=b:=fun e he =>
   ⟨_,_,_,hX.trans (hI.err hlt' he),fun _ h=>absurd h (Nat.not_lt_zero _),rfl,rfl,rfl⟩
  refine⟨b1,fun _ _=>⟨fun h3=>⟨f::sc,(l.getD i default).te,⟨rfl,rfl,hvn.1 h3⟩,fun m hm=>?_,fun e he h0 m=>?_⟩,fun h3=>⟨f::sc,(l.getD i default).nd,⟨rfl,rfl,hvn.2⟩,fun m hm=>?_,fun e he h0 m=>?_⟩⟩⟩
  ·rw[if_pos h3,hm] at hM
   simp only at hM
   intro _ _ _ _
   refine⟨f::sc,(l.getD i default).nd,⟨rfl,rfl,hvn.2⟩,fun m2 hm2=>?_,fun e he h0 m2=>?_⟩
   ·rw[hm2] at hM
    intro _ _ _ _
    exact⟨fun h2=>absurd (h3.symm.trans h2) (by decide),fun h2=>more _ hM h2⟩
   ·rw[he] at hM
    intro _ _ _ _
    exact⟨fun _=>.inr (err e hM),fun h=>absurd h h0⟩
  ·rw[if_pos h3,he] at hM
   intro _ _ _ _
   exact⟨fun _=>.inr (err e hM),fun h=>absurd h h0⟩
  ·rw[if_neg h3,hm] at hM
   simp only at hM
   intro _ _ _ _
   refine⟨fun h2=>?_,fun h2=>?_⟩
   ·rw[if_pos h2] at hM
    exact more2 _ hM h2
   ·rw[if_neg h2] at hM
    exact more _ hM h2
  ·rw[if_neg h3,he] at hM
   intro _ _ _ _
   exact⟨fun _=>.inr (err e hM),fun h=>absurd h h0⟩
 ·have hd:=hI.done (i:=i) (by simpa using hge)
  exact .inl ⟨out,f,hX.trans hd,⟨rfl,fun _ _=>rfl⟩,rfl⟩
theorem BdH(sc:Scp)(l:List Sm)(hs:sc.length<=1000000)(hl:l.length<=100000)(hn:∀f,f.length<=l.length->∀s∈l,(s.kd=3->VRn (f::sc) s.te)/\VRn (f::sc) s.nd):VRb sc l :=
 BbX (BcN sc l hs hl hn _ rfl)
theorem Il(n:Nd)(hv:BC n=true)(sc:Scp)(hs:∀f∈sc,f.length<=1000000)(hd:sc.length+dpN n<=900000):VRn sc n:=by
 obtain ⟨_,h2,h3⟩:=T9 hv
 have hsR:I6 sc:=⟨by omega,hs⟩
 by_cases hk:n.ki=[]
 ·refine Bih sc n hk hsR fun h10=>?_
  have hb:=h3 h10
  unfold BF at hb
  rw[Bool.and_eq_true,decide_eq_true_eq] at hb
  refine BdH sc n.bo (by omega) (by omega) fun f hf s hsm=>?_
  have hmem:=Ez hb.2 s hsm
  have hdp:∀x∈Bs s,dpN x<dpN n:=fun x hx=>by
   rw[EW n]
   have:x∈B0 n:=List.mem_append_right _ (List.mem_flatMap.2 ⟨s,hsm,hx⟩)
   have:=E4 this
   omega
  have hfs:∀g∈f::sc,g.length<=1000000:=fun g hg=>by
   rcases List.mem_cons.1 hg with rfl | hg
   ·omega
   ·exact hs g hg
  refine⟨fun q=>Il s.te (hmem.2 q) (f::sc) hfs ?_,Il s.nd hmem.1 (f::sc) hfs ?_⟩
  ·have:=hdp s.te (by unfold Bs;rw[if_pos q];simp)
   simp only[List.length_cons]
   omega
  ·have:=hdp s.nd (by unfold Bs;split<;>simp)
   simp only[List.length_cons]
   omega
 ·obtain ⟨q1,q2,q3⟩:=h2 hk
  refine BiE sc n ⟨hk,by omega⟩ q1 q2 hsR fun b hb=>Il b ((ER hv).1 b hb) sc hs ?_
  have:b∈B0 n:=List.mem_append_left _ hb
  have:=E4 this
  rw[EW n] at hd
  omega
termination_by SizeOf.sizeOf n
decreasing_by
 ·have:=Nd.size_stmt hsm
  have:=Sm.size_te s
  omega
 ·have:=Nd.size_stmt hsm
  have:=Sm.size_nd s
  omega
 ·exact Nd.size_kid hb
theorem Bfi(l:List Sm)(hr:Bw l=0):VRb [] l:=by
 unfold Bw at hr
 split at hr
 ·omega
 ·split at hr
  ·omega
  ·rename_i hdp
   split at hr
   ·omega
   ·split at hr
    ·rename_i hv
     rw[Bool.and_eq_true] at hv
     have hb:=hv.1
     unfold BF at hb
     rw[Bool.and_eq_true,decide_eq_true_eq] at hb
     refine BdH [] l (by simp) (by omega) fun f hf s hsm=>?_
     have hmem:=Ez hb.2 s hsm
     have hdp2:∀x∈Bs s,dpN x<=60:=fun x hx=>by
      have h1:=E4 (List.mem_flatMap.2 ⟨s,hsm,hx⟩)
      rw[<- GY] at h1
      omega
     have hfs:∀g∈[f],g.length<=1000000:=fun g hg=>by
      rw[List.mem_singleton.1 hg]
      omega
     refine⟨fun q=>Il s.te (hmem.2 q) [f] hfs ?_,Il s.nd hmem.1 [f] hfs ?_⟩
     ·have:=hdp2 s.te (by unfold Bs;rw[if_pos q];simp)
      simp only[List.length_cons,List.length_nil]
      omega
     ·have:=hdp2 s.nd (by unfold Bs;split<;>simp)
      simp only[List.length_cons,List.length_nil]
      omega
    ·omega
theorem BfM:CD 25 [.agg [CM,CM]] (.agg (scC [[]])) :=
 ACalls.wkArgs (BdG [] (by simp)) (by simp[wkL,wkD,scC,CM,Ba,EI,BG])
def TT(l:List Sm):Con:=fun k ds S=>match k with
 |23=>some (pA ds S (.int .i64 (Bw l)) (ds=[.agg [gsl 34 Sm.row1 l]]))
 |25=>some (pA ds S (.agg (scC [[]])) (ds=[.agg [CM,CM]]))
 |_=>none
theorem Of{l:List Sm}(hl:l.length<=BX)(ho:∀s∈l,s.ok)(hs:∀s∈l,s.sm):ConOk Tryz.prog (TT l):=by
 intro k ds S A hh
 unfold TT at hh
 split at hh
 ·injection hh with hh;subst hh
  exact Bm fun e=>by subst e;exact CD.at_ (BbO l hl ho hs) _
 ·injection hh with hh;subst hh
  exact Bm fun e=>by subst e;exact CD.at_ BfM _
 ·cases hh
noncomputable def Erpg(l:List Sm):Senv:={ EC (TT l) 33 8 [11,26] (fun id=>match id with | 4=>([0,2,3,1,4,5,6,7,8,9,10,11,12],[1,4,9,12]) | 6=>([0,1,2,3],[2,3]) | _=>([],[])) with inl:=Go.Ab.inlR (TT l) }
def QkN:Nd:=Nd.mk Z0 Z0 Z0 [] Z0 Z0 DA [] [] Z0 Z0 Z0
def QkO:Sm:=Sm.mk Z0 Z0 [] Z0 QkN QkN
def Ho(a:List Sm)(b:Nat):List D:=Sm.row1 (List.getD a b QkO)
def Hp(a:List Sm):D:=D.sl 34 (LN a) (fun i=>Ho a i) Mode.any
def Qqn(a:List Sm):List D:=[D.agg [Hp a]]
def KQ:Prop:=SM N0/\(∀(i:Nat),i<N0->BV (List D) [] [])/\True
def QkP:Prop:=SM Z0/\KQ/\KQ/\BV (List UInt8) [] []/\True
def QkQ:Prop:=KQ/\SM Z0/\True
def QkR(a:Int)(b:List UInt8):Prop:=Z0=a/\KQ/\KQ/\BV (List UInt8) [] b/\True
def Hq:D:=D.sl N1 N0 (fun _x=>[]) Mode.nil
def Qqo:List D:=[D.agg [Hq,Hq]]
def QkS:Prop:=SM Qqo
def Qb2(a:Nat)(b:List Sm):Prop:=SM a/\SM (Hp b)
def QkT(a:Scp)(b c:List Sm):Prop:=D.agg [D.sl N1 N1 (B2 [[]]) Mode.any,D.sl N1 N1 (B1 [[]]) Mode.any]=D.agg [D.sl N1 (LN ([]::a)) (B2 ([]::a)) Mode.any,D.sl N1 (LN ([]::a)) (B1 ([]::a)) Mode.any]/\Hp b=Hp c/\VRb a c
def QkU:Prop:=SM Z0/\QkP
def QkV(a b:Int)(c:List UInt8):Prop:=Z0=a/\QkR b c
def QkW(a b c:Nat)(d:Except Flt (List Sm×Frm1))(f:List Sm)(g:Frm1):Prop:=SM a/\SM a/\SM b/\SM c/\(SM b/\SM c/\True)/\((∃(z:List Sm×Frm1),d=Except.ok z/\((LN f=LN z.1/\(∀(i:Nat),i<LN f->Ho f i=Ho z.1 i)/\True)/\(LI g)=(LI z.2)/\True)/\QkU)\/∃(e:Flt),d=Except.error e/\(False/\(LI g)=Z0/\True)/\QkV e.1 e.2.1 e.2.2)
def Qqp(a b:Int)(c:List UInt8):D:=D.agg [ZI a,ZI b,Hq,Hq,D.str c]
def QkX(a:Nat)(b:Int)(c:Nat)(d:Int)(f:List UInt8)(g:Nat)(h:Except Flt (List Sm×Frm1)):Prop:=SM a/\SM a/\ifB (b != Z0) (SM a/\SM c/\(SM a/\SM (Qqp b d f))/\SM g/\(SM c/\SM g/\True)/\((∃(z:List Sm×Frm1),h=Except.ok z/\(False/\Z0=(LI z.2)/\True)/\b=Z0/\d=Z0/\KQ/\KQ/\BV (List UInt8) f []/\True)\/∃(e:Flt),h=Except.error e/\QkQ/\b=e.1/\d=e.2.1/\KQ/\KQ/\f=e.2.2/\True)) (SM c/\SM g/\(SM c/\SM g/\True)/\((∃(z:List Sm×Frm1),h=Except.ok z/\((N0=LN z.1/\(∀(i:Nat),i<N0->Sm.row1 QkO=Ho z.1 i)/\True)/\Z0=(LI z.2)/\True)/\QkU)\/∃(e:Flt),h=Except.error e/\(False/\SM Z0/\True)/\QkV e.1 e.2.1 e.2.2))
def QkY(a:Nat)(b:List Sm)(c d f:Nat)(g:Except Flt (List Sm×Frm1)):Prop:=Qb2 a b/\∃(z:Scp×List Sm),QkT z.1 b z.2/\(∀(w:List Sm×Frm1),rvB z.1 [] z.2=Except.ok w->QkW c d f g w.1 w.2)/\∀(e:Flt),rvB z.1 [] z.2=Except.error e->e.1≠Z0->QkX c e.1 d e.2.1 e.2.2 f g
theorem WI(l : List Sm)(hl : l.length<=BX)(ho : ∀s∈l, s.ok)(hs : ∀s∈l, s.sm)(X : Except Flt (List Sm×Frm1))(hX : X=rvP l) :
  ACalls Tryz.prog 9 [.agg [gsl 34 Sm.row1 l]] ⟨[],[]⟩ (Go.Ab.endPg l X):=by
 refine Ct (E:=Erpg l) (O5 (Of hl ho hs) (GQ (Of hl ho hs)) rfl) Tryz.func9 rfl (by kernel_rfl) rfl (by simp[Erpg,EC,E0]) ?_
 refine Bl (T :=
  ∀(x:Nat),True->∀(x_1:Nat),x≠x_1/\True->∀(x_2:Nat),x_1≠x_2/\x≠x_2/\True->SM x/\∃(x_3:Unit),SM (Qqn l)/\∀(y:Unit),True->ifB (Bw l != Z0) (SM x_1/\SM x_2/\(SM x_1/\SM x_2/\True)/\((∃(z:List Sm×Frm1),X=Except.ok z/\(False/\Z0=(LI z.2)/\True)/\Bw l=Z0/\QkP)\/∃(e:Flt),X=Except.error e/\QkQ/\Bw l=e.1/\QkR e.2.1 e.2.2)) (SM x/\(∃(x_4:Unit),QkS/\∀(y:Unit),True->Qb2 x l/\(∃(z:Scp×List Sm),QkT z.1 l z.2/\(∀(w:List Sm×Frm1),rvB z.1 [] z.2=Except.ok w->∀(x_5:Nat),x_2≠x_5/\x_1≠x_5/\x≠x_5/\True->QkW x_5 x_1 x_2 X w.1 w.2)/\∀(e:Flt),rvB z.1 [] z.2=Except.error e->e.1≠Z0->∀(x_5:Nat),x_2≠x_5/\x_1≠x_5/\x≠x_5/\True->QkX x_5 e.1 x_1 e.2.1 e.2.2 x_2 X)/\∀(x_5:Nat),x_2≠x_5/\x_1≠x_5/\x≠x_5/\True->QkY x l x_5 x_1 x_2 X)/\∀(x_4:Nat),x_2≠x_4/\x_1≠x_4/\x≠x_4/\True->Qb2 x l/\∃(x_5:Unit),QkS/\∀(y:Unit),True->QkY x l x_4 x_1 x_2 X)) (by kernel_rfl) ?_
 delta DA LI LN N0 N1 SM Z0 ZI QkN QkO Qqo QkS Qb2 QkT QkU QkV QkW Qqp QkX QkY Ho Hp Qqn KQ QkP QkQ QkR Hq
 try simp only[<- dm]
 try simp only[<- dn]
 simp only[ne_eq,implies_true,Bg,true_and,and_true,bne_iff_ne,bne_eq_false_iff_eq,exists_const,forall_const,Prod.exists]
 have hr:Bw l≠0->X=.error (Bw l,0,[]):=fun h=>hX.trans (by unfold rvP;rw[if_pos h])
 have hz:Bw l=0->X=rvB [] [] l:=fun h=>hX.trans (by unfold rvP;rw[if_neg (by simp[h])])
 clear hX
 repeat' first | refine⟨[],l,⟨rfl,rfl,Bfi l ‹Bw l=0›⟩,?_⟩ | exact absurd ‹(_:Int)=0› ‹¬_=_› | exact .inl ⟨_,_,(hz ‹Bw l=0›).trans ‹rvB [] [] l=.ok _›,⟨rfl,fun _ _=>rfl⟩,rfl⟩ | exact .inr ⟨_,_,_,(hz ‹Bw l=0›).trans ‹rvB [] [] l=.error _›,rfl,rfl,rfl⟩ | exact .inr ⟨_,_,_,hr ‹¬Bw l=0›,rfl,rfl,rfl⟩ | apply And.intro | intro _
theorem BfC(l:List Sm)(hl:l.length<=BX)(ho:∀s∈l,s.ok)(hs:∀s∈l,s.sm):CD 9 [.agg [gsl 34 Sm.row1 l]] (pgD l) :=
 R3 (WI l hl ho hs _ rfl)
def RXS(a b:Nd):Prop:=CD 51 [.agg a.row2,.agg b.row2] (.bool (Bk (exN a) (exN b)))
noncomputable def W1:Con:=fun k ds S=>match k with
 |51=>some (pE (β:=Nd×Nd) ds S (fun x=>.bool (Bk (exN x.1) (exN x.2))) (fun x=>wkL ds [.agg x.1.row1,.agg x.2.row1]/\RXS x.1 x.2))
 |_=>none
theorem W0:ConOk Tryz.prog W1:=by
 intro k ds S A hh
 unfold W1 at hh
 split at hh
 ·injection hh with hh;subst hh
  exact B7 fun x ⟨e,h1⟩=>CD.at_ (CD.wk (CD.wk h1 GD) e) _
 ·cases hh
noncomputable def Xbd(l m:List Sm):Senv:={ EC W1 77 2 [4,5,9,76] (fun id=>match id with | 4=>([0,1,2,3,4,5,6,7,8,9,10,11,12,13,14,15,16,17,18,19,20,21,22,23,24,25,26,27,28,29,30,31,32,33,34,35,36,37,38,39,40,41,42,43,44,45,46,47,48,49,50,51,52,53,54,55,56,57,58,59,60,61,62,63,64],[48,62]) | _=>([],[])) with
 mg:=fun _=>2
 ann:=fun q _ S=>match q with
  |0=>some { slots:=[5],keep:=[0,1,2,3],α:=Nat,st:=fun i=>([.int .i64 i],S),inv:=fun i=>i<=l.length/\∀j,j<i->exM (l.getD j default)=exM (m.getD j default),mu:=fun i=>l.length-i }
  |_=>none }
def X1:Arr:=DA
def Vd:Nd:=Nd.mk Z0 Z0 Z0 [] Z0 Z0 X1 [] [] Z0 Z0 Z0
def Ve:Sm:=Sm.mk Z0 Z0 [] Z0 Vd Vd
def Jq(a:List Sm)(b:Nat):Sm:=List.getD a b Ve
def QkZ(a:List Sm)(b:Nat):Sm:=exM (Jq a b)
def Qb3(a:Nat)(b c:List Sm):Prop:=a<=LN b/\∀(j:Nat),j<a->QkZ b j=QkZ c j
def X2(a:List Sm)(b:Nat):Sm:=List.getD a (Int.toNat (↑b:Int)) Ve
def Qk0(a:List Sm)(b:Nat):Int:=Sm.kd (X2 a b)
def X3(a b:List Sm):Prop:=True/\∃(_y:Unit),True/\false=Bk (List.map exM a) (List.map exM b)/\True/\True
def Qk1(a:List Sm)(b:Nat):List UInt8:=Sm.nm (X2 a b)
def Qk2(a:List Sm)(b:Nat):Int:=Sm.sl (X2 a b)
def Kp(a:List Sm)(b:Nat):Nd:=Sm.te (X2 a b)
def Hr(a:List Sm)(b:Nat):Arr:=Nd.va (Kp a b)
def Qqq(a:List Sm)(b:Nat):List Int:=Arr.sh (Hr a b)
def Qqr(a:List Sm)(b:Nat):List Int:=Arr.nu (Hr a b)
def Qk3(a:List Sm)(b:Nat):List Arr:=Arr.it (Hr a b)
def Qk4(a:List Sm)(b:Nat):List Nd:=Nd.ki (Kp a b)
def Qk5(a:List Sm)(b:Nat):List Sm:=Nd.bo (Kp a b)
def Qk6(a:List Sm)(b:Nat):D:=D.agg [ZI (Nd.kd (Kp a b)),ZI (Nd.at_ (Kp a b)),ZI (Nd.cl (Kp a b)),D.str (Nd.tx (Kp a b)),ZI (Nd.pr (Kp a b)),ZI (Nd.op (Kp a b)),ZI (Arr.k (Hr a b)),SI (Qqq a b),SI (Qqr a b),D.sl N4 (LN (Qk3 a b)) (fun i=>Arr.row (List.getD (Qk3 a b) i X1)) Mode.any,D.sl 15 (LN (Qk4 a b)) (fun i=>Nd.row (List.getD (Qk4 a b) i Vd)) Mode.any,D.sl 34 (LN (Qk5 a b)) (fun i=>Sm.row (List.getD (Qk5 a b) i Ve)) Mode.any,ZI (Nd.de (Kp a b)),ZI (Nd.sl (Kp a b)),ZI (Nd.ss (Kp a b))]
def Qk7(a b:Nd):List D:=[D.agg (Nd.row1 a),D.agg (Nd.row1 b)]
def Qk8(a b:Nd):Bool:=!Bk (exN a) (exN b)
def Kq(a:List Sm)(b:Nat):Nd:=Sm.nd (X2 a b)
def Hs(a:List Sm)(b:Nat):Arr:=Nd.va (Kq a b)
def Qqs(a:List Sm)(b:Nat):List Int:=Arr.sh (Hs a b)
def Qqt(a:List Sm)(b:Nat):List Int:=Arr.nu (Hs a b)
def Qk9(a:List Sm)(b:Nat):List Arr:=Arr.it (Hs a b)
def Qla(a:List Sm)(b:Nat):List Nd:=Nd.ki (Kq a b)
def Qlb(a:List Sm)(b:Nat):List Sm:=Nd.bo (Kq a b)
def Qlc(a:List Sm)(b:Nat):D:=D.agg [ZI (Nd.kd (Kq a b)),ZI (Nd.at_ (Kq a b)),ZI (Nd.cl (Kq a b)),D.str (Nd.tx (Kq a b)),ZI (Nd.pr (Kq a b)),ZI (Nd.op (Kq a b)),ZI (Arr.k (Hs a b)),SI (Qqs a b),SI (Qqt a b),D.sl N4 (LN (Qk9 a b)) (fun i=>Arr.row (List.getD (Qk9 a b) i X1)) Mode.any,D.sl 15 (LN (Qla a b)) (fun i=>Nd.row (List.getD (Qla a b) i Vd)) Mode.any,D.sl 34 (LN (Qlb a b)) (fun i=>Sm.row (List.getD (Qlb a b) i Ve)) Mode.any,ZI (Nd.de (Kq a b)),ZI (Nd.sl (Kq a b)),ZI (Nd.ss (Kq a b))]
def Kr(a:List Sm)(b:Nat):Nd:=Sm.te (Jq a b)
def Ht(a:List Sm)(b:Nat):Arr:=Nd.va (Kr a b)
def Qqu(a:List Sm)(b:Nat):List Int:=Arr.sh (Ht a b)
def Qqv(a:List Sm)(b:Nat):List Int:=Arr.nu (Ht a b)
def Qld(a:List Sm)(b:Nat):List Arr:=Arr.it (Ht a b)
def Qle(a:List Sm)(b:Nat):List Nd:=Nd.ki (Kr a b)
def Qlf(a:List Sm)(b:Nat):List Sm:=Nd.bo (Kr a b)
def Ks(a:List Sm)(b:Nat):Nd:=Sm.nd (Jq a b)
def Hu(a:List Sm)(b:Nat):Arr:=Nd.va (Ks a b)
def Qqw(a:List Sm)(b:Nat):List Int:=Arr.sh (Hu a b)
def Qqx(a:List Sm)(b:Nat):List Int:=Arr.nu (Hu a b)
def Qlg(a:List Sm)(b:Nat):List Arr:=Arr.it (Hu a b)
def Qlh(a:List Sm)(b:Nat):List Nd:=Nd.ki (Ks a b)
def Qli(a:List Sm)(b:Nat):List Sm:=Nd.bo (Ks a b)
def Qqy(a:List Sm):D:=D.sl 34 (LN a) (fun i=>[ZI (Sm.kd (Jq a i)),ZI (Sm.at_ (Jq a i)),D.str (Sm.nm (Jq a i)),ZI (Sm.sl (Jq a i)),ZI (Nd.kd (Kr a i)),ZI (Nd.at_ (Kr a i)),ZI (Nd.cl (Kr a i)),D.str (Nd.tx (Kr a i)),ZI (Nd.pr (Kr a i)),ZI (Nd.op (Kr a i)),ZI (Arr.k (Ht a i)),SI (Qqu a i),SI (Qqv a i),D.sl N4 (LN (Qld a i)) (fun i_1=>Arr.row (List.getD (Qld a i) i_1 X1)) Mode.any,D.sl 15 (LN (Qle a i)) (fun i_1=>Nd.row (List.getD (Qle a i) i_1 Vd)) Mode.any,D.sl 34 (LN (Qlf a i)) (fun i_1=>Sm.row (List.getD (Qlf a i) i_1 Ve)) Mode.any,ZI (Nd.de (Kr a i)),ZI (Nd.sl (Kr a i)),ZI (Nd.ss (Kr a i)),ZI (Nd.kd (Ks a i)),ZI (Nd.at_ (Ks a i)),ZI (Nd.cl (Ks a i)),D.str (Nd.tx (Ks a i)),ZI (Nd.pr (Ks a i)),ZI (Nd.op (Ks a i)),ZI (Arr.k (Hu a i)),SI (Qqw a i),SI (Qqx a i),D.sl N4 (LN (Qlg a i)) (fun i_1=>Arr.row (List.getD (Qlg a i) i_1 X1)) Mode.any,D.sl 15 (LN (Qlh a i)) (fun i_1=>Nd.row (List.getD (Qlh a i) i_1 Vd)) Mode.any,D.sl 34 (LN (Qli a i)) (fun i_1=>Sm.row (List.getD (Qli a i) i_1 Ve)) Mode.any,ZI (Nd.de (Ks a i)),ZI (Nd.sl (Ks a i)),ZI (Nd.ss (Ks a i))]) Mode.any
def Qlj(a:List Sm):Prop:=SM (Qqy a)
theorem MJ(l m:List Sm)(he:l.length=m.length)(hl:l.length<=maxLen)(h:∀x∈l,∀y∈m,RXS x.te y.te/\RXS x.nd y.nd):CD 27 [gsl 34 Sm.row1 l,gsl 34 Sm.row1 m] (.bool (Bk (l.map exM) (m.map exM))):=by
 refine Bh (A:=sC _ _) (x:=()) (E:=Xbd l m) (eOk W0 rfl) Tryz.func27 rfl (by kernel_rfl) rfl (by simp[sC,Xbd,EC,E0]) ?_
 refine Bl (T :=
  (∃(x:Nat),Qb3 x l m/\(Z0=(↑x:Int)/\True)/\True/\True)/\∀(x:Nat),Qb3 x l m->ifB (decide ((↑x:Int)<(LI l))) (Bf (Z0<=(↑x:Int)/\(↑x:Int)<(LI l)) (Bf (Z0<=(↑x:Int)/\(↑x:Int)<(LI m)) (ifB (Qk0 l x != Qk0 m x) (X3 l m) (Bf (Z0<=(↑x:Int)/\(↑x:Int)<(LI l)) (Bf (Z0<=(↑x:Int)/\(↑x:Int)<(LI m)) (ifB (Qk1 l x != Qk1 m x) (X3 l m) (Bf (Z0<=(↑x:Int)/\(↑x:Int)<(LI l)) (Bf (Z0<=(↑x:Int)/\(↑x:Int)<(LI m)) (ifB (Qk2 l x != Qk2 m x) (X3 l m) (Bf (Z0<=(↑x:Int)/\(↑x:Int)<(LI l)) (Bf (Z0<=(↑x:Int)/\(↑x:Int)<(LI m)) (∃(x_1:Nd×Nd),(wkL [Qk6 l x,Qk6 m x] (Qk7 x_1.1 x_1.2)/\RXS x_1.1 x_1.2)/\∀(y:Unit),True->ifB (Qk8 x_1.1 x_1.2) (X3 l m) (Bf (Z0<=(↑x:Int)/\(↑x:Int)<(LI l)) (Bf (Z0<=(↑x:Int)/\(↑x:Int)<(LI m)) (∃(x_2:Nd×Nd),(wkL [Qlc l x,Qlc m x] (Qk7 x_2.1 x_2.2)/\RXS x_2.1 x_2.2)/\∀(y:Unit),True->ifB (Qk8 x_2.1 x_2.2) (X3 l m) ((Qlj l/\Qlj m/\SM D.unk/\SM D.unk/\True)/\∃(y:Nat),Qb3 y l m/\LN l-y<LN l-x/\(IntKind.wrap IntKind.i64 ((↑x:Int)+Z1)=(↑y:Int)/\True)/\True/\True)))))))))))))))) (RT (true=Bk (List.map exM l) (List.map exM m)))) (by kernel_rfl) ?_
 delta DA GI LI LN N1 N4 SI SM Z0 Z1 ZI X1 Vd Qk2 Kp Hr Qqq Qqr Qk3 Qk4 Qk5 Qk6 Qk7 Ve Qk8 Kq Hs Qqs Qqt Qk9 Qla Qlb Qlc Kr Jq Ht Qqu Qqv Qld Qle Qlf Ks Hu Qqw Qqx QkZ Qlg Qlh Qli Qqy Qlj Qb3 X2 Qk0 X3 Qk1 RT
 try simp only[<- dm]
 try simp only[<- dn]
 simp only[ne_eq,Int.toNat_natCast,Bg,Be,decide_eq_true_eq,decide_eq_false_iff_not,true_and,and_true,bne_iff_ne,bne_eq_false_iff_eq,Bool.not_eq_true',Bool.not_eq_false',exists_const,forall_const,Prod.exists]
 have gm:∀ {i:Nat},i<l.length->i<m.length->l.getD i default∈l/\m.getD i default∈m:=fun h1 h2=>⟨by rw[List.getD_eq_getElem?_getD,List.getElem?_eq_getElem h1];exact List.getElem_mem h1,by rw[List.getD_eq_getElem?_getD,List.getElem?_eq_getElem h2];exact List.getElem_mem h2⟩
 have no:∀ {α:Type} {x y:α},Bk x y=false->x≠y:=fun h e=>by rw[Bq.2 e] at h;cases h
 have gmap:∀ {l:List Sm} {i:Nat},i<l.length->(l.map exM).getD i (exM default)=exM (l.getD i default):=fun h=>by simp[List.getD_eq_getElem?_getD,h]
 have neq:∀ {i:Nat},i<l.length->exM (l.getD i default)≠exM (m.getD i default)->false=Bk (l.map exM) (m.map exM):=fun hi hn=>Bi fun e=>hn (by rw[<- gmap hi,<- gmap (by omega),e])
 simp only[maxLen] at hl
 refine⟨⟨0,⟨Nat.zero_le _,fun j hj=>absurd hj (by omega)⟩,rfl⟩,fun i ⟨i1,hi⟩=>⟨fun hlt=>?_,fun hge=>Ee ?_⟩⟩
 ·have hi1:i<l.length:=by omega
  have hi2:i<m.length:=by omega
  obtain ⟨q1,q2⟩:=h _ (gm hi1 hi2).1 _ (gm hi1 hi2).2
  have iff:=BbZ (l.getD i default) (m.getD i default)
  refine⟨⟨by omega,by omega⟩,⟨by omega,by omega⟩,fun a1=>neq hi1 fun e=>a1 (iff.1 e).1,fun a1=>⟨⟨by omega,by omega⟩,⟨by omega,by omega⟩,fun a2=>neq hi1 fun e=>a2 (iff.1 e).2.1,fun a2=>⟨⟨by omega,by omega⟩,⟨by omega,by omega⟩,fun a0=>neq hi1 fun e=>a0 (iff.1 e).2.2.1,fun a0=>⟨⟨by omega,by omega⟩,⟨by omega,by omega⟩,(l.getD i default).te,(m.getD i default).te,⟨Bc _,q1⟩,fun a3=>neq hi1 fun e=>no a3 (iff.1 e).2.2.2.1,fun a3=>⟨⟨by omega,by omega⟩,⟨by omega,by omega⟩,(l.getD i default).nd,(m.getD i default).nd,⟨Bc _,q2⟩,?_⟩⟩⟩⟩⟩
  have fin:Bk (exN (l.getD i default).nd) (exN (m.getD i default).nd)=true->∃y,(y<=l.length/\∀(j:Nat),j<y->exM (l.getD j default)=exM (m.getD j default))/\l.length-y<l.length-i/\IntKind.i64.wrap ((i:Int)+1)=(y:Int):=fun a4 =>
   ⟨i+1,⟨hi1,fun j hj=>by
    by_cases q:j=i
    ·rw[q];exact iff.2 ⟨a1,a2,a0,Bq.1 a3,Bq.1 a4⟩
    ·exact hi j (by omega)⟩,by omega,Bb (by omega) (by omega)⟩
  exact⟨fun a4=>neq hi1 fun e=>no a4 (iff.1 e).2.2.2.2,fin⟩
 ·refine CJ (exM default) (by simpa using he) fun j hj=>?_
  have hj:j<l.length:=by simpa using hj
  rw[gmap hj,gmap (by omega)]
  exact hi j (by omega)
noncomputable def Rt(a b:Nd):Con:=fun k ds S=>match k with
 |51=>some (pE (β:=Nd×Nd) ds S (fun x=>.bool (Bk (exN x.1) (exN x.2))) (fun x=>wkL ds [.agg x.1.row1,.agg x.2.row1]/\RXS x.1 x.2))
 |81=>some (pA ds S (.bool (Cz a.va b.va)) (wkL ds [.agg a.va.row1,.agg b.va.row1]))
 |27=>some (pA ds S (.bool (Bk (a.bo.map exM) (b.bo.map exM))) (a.bo.length=b.bo.length/\wkL ds [gsl 34 Sm.row1 a.bo,gsl 34 Sm.row1 b.bo]))
 |_=>none
noncomputable def Xsm(a b:Nd):Senv:={ EC (Rt a b) 110 6 [85,90,104] (fun id=>match id with | 6=>([0,1,2,3,4,5,6,7,8,9,10,11],[10]) | _=>([],[])) with
 mg:=fun _=>2
 ann:=fun q _ S=>match q with
  |0=>some { slots:=[5],keep:=[0,1,2,3],α:=Nat,st:=fun i=>([.int .i64 i],S),inv:=fun i=>i<=a.ki.length/\∀j,j<i->exN (a.ki.getD j default)=exN (b.ki.getD j default),mu:=fun i=>a.ki.length-i }
  |_=>none }
def Hv(a:Nd):Int:=Nd.kd a
def Qb4(a b:Nd):Bool:=Bk (exN a) (exN b)
def Kt(a b:Nd):Prop:=True/\∃(_y:Unit),True/\false=Qb4 a b/\True/\True
def Hw(a:Nd):Int:=Nd.cl a
def Hx(a:Nd):List UInt8:=Nd.tx a
def Hy(a:Nd):Int:=Nd.pr a
def Hz(a:Nd):Int:=Nd.op a
def HA(a:Nd):Int:=Nd.de a
def HB(a:Nd):Int:=Nd.sl a
def HC(a:Nd):Int:=Nd.ss a
def Vf(a:Nd):Arr:=Nd.va a
def Qlk(a:Nd):Int:=Arr.k (Vf a)
def Qll(a:Nd):D:=ZI (Qlk a)
def Qlm(a:Nd):List Int:=Arr.sh (Vf a)
def Qb5(a:Nd):Nat:=LN (Qlm a)
def Qln(a:Nd)(b:Nat):List D:=[ZI (GI (Qlm a) b)]
def Qlo(a:Nd):D:=D.sl N1 (Qb5 a) (fun i=>Qln a i) Mode.any
def Qlp(a:Nd):List Int:=Arr.nu (Vf a)
def Qb6(a:Nd):Nat:=LN (Qlp a)
def Qlq(a:Nd)(b:Nat):List D:=[ZI (GI (Qlp a) b)]
def Qlr(a:Nd):D:=D.sl N1 (Qb6 a) (fun i=>Qlq a i) Mode.any
def Qls(a:Nd):List Arr:=Arr.it (Vf a)
def Qb7(a:Nd):Nat:=LN (Qls a)
def Qb8:Arr:=DA
def Qlt(a:Nd)(b:Nat):List D:=Arr.row (List.getD (Qls a) b Qb8)
def Qlu(a:Nd):D:=D.sl N4 (Qb7 a) (fun i=>Qlt a i) Mode.any
def Qlv(a:Nd):D:=D.agg [Qll a,Qlo a,Qlr a,Qlu a]
def Qlw(a b:Nd):List D:=[Qlv a,Qlv b]
def Jr(a:Nd):Nat:=LN (Nd.ki a)
def X4(a:Nd):Int:=(NI (Jr a))
def Js(a:Nd):Nat:=LN (Nd.bo a)
def X5:Nd:=Nd.mk Z0 Z0 Z0 [] Z0 Z0 Qb8 [] [] Z0 Z0 Z0
def Qlx(a:Nd)(b:Nat):Nd:=List.getD (Nd.ki a) b X5
def Qly(a:Nd)(b:Nat):Nd:=exN (Qlx a b)
def Qb9(a:Nat)(b c:Nd):Prop:=a<=Jr b/\∀(j:Nat),j<a->Qly b j=Qly c j
def Qlz(a:Nd):Int:=Nd.at_ a
def QlA(a:Nd)(b:Nat):List D:=Nd.row1 (Qlx a b)
def QlB:Sm:=Sm.mk Z0 Z0 [] Z0 X5 X5
def QlC(a:Nd)(b:Nat):List D:=Sm.row1 (List.getD (Nd.bo a) b QlB)
def QlD(a:Nd):Prop:=SM (Hv a)/\SM (Qlz a)/\SM (Hw a)/\SM (Hx a)/\SM (Hy a)/\SM (Hz a)/\SM (Qlk a)/\(SM (Qb5 a)/\(∀(i:Nat),i<Qb5 a->SM (Qln a i))/\True)/\(SM (Qb6 a)/\(∀(i:Nat),i<Qb6 a->SM (Qlq a i))/\True)/\(SM (Qb7 a)/\(∀(i:Nat),i<Qb7 a->SM (Qlt a i))/\True)/\(SM (Jr a)/\(∀(i:Nat),i<Jr a->SM (QlA a i))/\True)/\(SM (Js a)/\(∀(i:Nat),i<Js a->SM (QlC a i))/\True)/\SM (HA a)/\SM (HB a)/\SM (HC a)/\True
def QlE(a:Nat)(b:Nd)(c:Nat)(d:Nd):Prop:=(SM a/\QlD b/\SM c/\QlD d/\True)/\True
def Ku(a:Nd)(b:Nat):Nd:=List.getD (Nd.ki a) (Int.toNat (↑b:Int)) X5
def HD(a:Nd)(b:Nat):Arr:=Nd.va (Ku a b)
def Qqz(a:Nd)(b:Nat):List Int:=Arr.sh (HD a b)
def QqA(a:Nd)(b:Nat):List Int:=Arr.nu (HD a b)
def QlF(a:Nd)(b:Nat):List Arr:=Arr.it (HD a b)
def QlG(a:Nd)(b:Nat):List Nd:=Nd.ki (Ku a b)
def QlH(a:Nd)(b:Nat):List Sm:=Nd.bo (Ku a b)
def QlI(a:Nd)(b:Nat):D:=D.agg [ZI (Nd.kd (Ku a b)),ZI (Nd.at_ (Ku a b)),ZI (Nd.cl (Ku a b)),D.str (Nd.tx (Ku a b)),ZI (Nd.pr (Ku a b)),ZI (Nd.op (Ku a b)),ZI (Arr.k (HD a b)),SI (Qqz a b),SI (QqA a b),D.sl N4 (LN (QlF a b)) (fun i=>Arr.row (List.getD (QlF a b) i Qb8)) Mode.any,D.sl 15 (LN (QlG a b)) (fun i=>Nd.row (List.getD (QlG a b) i X5)) Mode.any,D.sl 34 (LN (QlH a b)) (fun i=>Sm.row (List.getD (QlH a b) i QlB)) Mode.any,ZI (Nd.de (Ku a b)),ZI (Nd.sl (Ku a b)),ZI (Nd.ss (Ku a b))]
def Qca(a:Nd):D:=D.sl 34 (Js a) (fun i=>QlC a i) Mode.any
def QqB(a:Nd):D:=D.agg [ZI (Hv a),ZI (Qlz a),ZI (Hw a),D.str (Hx a),ZI (Hy a),ZI (Hz a),Qll a,Qlo a,Qlr a,Qlu a,D.sl 15 (Jr a) (fun i=>QlA a i) Mode.any,Qca a,ZI (HA a),ZI (HB a),ZI (HC a)]
def QlJ(a:Nd):Prop:=SM (QqB a)
def QlK(a b:Nd):List D:=[Qca a,Qca b]
theorem Bau(a b:Nd)(ha:a.sm/\a.va.ok)(hb:b.sm/\b.va.ok)(h1:∀x∈a.ki,∀y∈b.ki,RXS x y)(h2:∀x∈a.bo,∀y∈b.bo,RXS x.te y.te/\RXS x.nd y.nd):RXS a b:=by
 refine Bh (A:=sC _ _) (x:=()) (E:=Xsm a b) (eOk ?_ rfl) Tryz.func51 rfl (by kernel_rfl) rfl (by simp[sC,Xsm,EC,E0]) ?_
 ·intro k ds S A hh
  unfold Rt at hh
  have a1:=BZ ha.1
  split at hh
  ·injection hh with hh;subst hh
   exact B7 fun x ⟨e,h1⟩=>CD.at_ (CD.wk (CD.wk h1 GD) e) _
  ·injection hh with hh;subst hh
   refine Bm fun e=>CD.at_ (CD.wk (us:=[.agg a.va.row1,.agg b.va.row1]) ?_ e) _
   exact (GP (q':=fun _=>True) (E7 a.va b.va ha.2 hb.2)).mono fun _ _ ⟨y,q1,q2,q3⟩=>⟨(),trivial,q2,q3⟩
  ·injection hh with hh;subst hh
   exact Bm fun ⟨hl,e⟩=>CD.at_ (CD.wk (MJ a.bo b.bo hl (BD a1.2.2) h2) e) _
  ·cases hh
 refine Bl (T :=
  ∀(x:Nat),True->∀(x_1:Nat),x≠x_1/\True->SM x/\SM x_1/\ifB (Hv a != Hv b) (Kt a b) (SM x/\SM x_1/\ifB (Hw a != Hw b) (Kt a b) (SM x/\SM x_1/\ifB (Hx a != Hx b) (Kt a b) (SM x/\SM x_1/\ifB (Hy a != Hy b) (Kt a b) (SM x/\SM x_1/\ifB (Hz a != Hz b) (Kt a b) (SM x/\SM x_1/\ifB (HA a != HA b) (Kt a b) (SM x/\SM x_1/\ifB (HB a != HB b) (Kt a b) (SM x/\SM x_1/\ifB (HC a != HC b) (Kt a b) (SM x/\SM x_1/\∃(x_2:Unit),wkL (Qlw a b) (Qlw a b)/\∀(y:Unit),True->ifB (!Cz (Vf a) (Vf b)) (Kt a b) (SM x/\SM x_1/\ifB (X4 a != X4 b) (Kt a b) (SM x/\SM x_1/\ifB ((NI (Js a)) != (NI (Js b))) (Kt a b) ((∃(x_3:Nat),Qb9 x_3 a b/\(Z0=(↑x_3:Int)/\True)/\QlE x_1 b x a)/\∀(x_3:Nat),Qb9 x_3 a b->SM x/\ifB (decide ((↑x_3:Int)<X4 a)) (SM x/\Bf (Z0<=(↑x_3:Int)/\(↑x_3:Int)<X4 a) (SM x_1/\Bf (Z0<=(↑x_3:Int)/\(↑x_3:Int)<X4 b) (∃(x_4:Nd×Nd),(wkL [QlI a x_3,QlI b x_3] [D.agg (Nd.row1 x_4.1),D.agg (Nd.row1 x_4.2)]/\RXS x_4.1 x_4.2)/\∀(y:Unit),True->ifB (!Qb4 x_4.1 x_4.2) (Kt a b) ((QlJ a/\QlJ b/\SM (D.ref N0 x N0)/\SM (D.ref (max (N0+N1) N0) x_1 N0)/\True)/\∃(y:Nat),Qb9 y a b/\Jr a-y<Jr a-x_3/\(IntKind.wrap IntKind.i64 ((↑x_3:Int)+Z1)=(↑y:Int)/\True)/\QlE x_1 b x a)))) (SM x/\SM x_1/\∃(x:Unit),(Js a=Js b/\wkL (QlK a b) (QlK a b))/\∀(y:Unit),True->RT (Bk (List.map exM (Nd.bo a)) (List.map exM (Nd.bo b))=Qb4 a b)))))))))))))) (by kernel_rfl) ?_
 delta DA GI LN N0 N1 N4 NI SI SM Z0 Z1 ZI Hv Qb4 Kt Hw Hx Hy Hz HA HB HC Vf Qlk Qll Qlm Qb5 Qln Qlo Qlp Qb6 Qlq Qlr Qls Qb7 Qb8 Qlt Qlu Qlv Qlw Jr X4 Js X5 Qlx Qly Qb9 Qlz QlA QlB QlC QlD QlE Ku HD Qqz QqA QlF QlG QlH QlI Qca QqB QlJ QlK RT
 try simp only[<- dm]
 try simp only[<- dn]
 simp only[ne_eq,implies_true,Int.toNat_natCast,Bg,Be,decide_eq_true_eq,decide_eq_false_iff_not,true_and,and_true,bne_iff_ne,bne_eq_false_iff_eq,Bool.not_eq_true',Bool.not_eq_false',exists_const,forall_const,Prod.exists]
 have iff:=BcD a b
 have no:∀ {α:Type} {x y:α},Bk x y=false->x≠y:=fun h e=>by rw[Bq.2 e] at h;cases h
 have na:Cz a.va b.va=false->a.va≠b.va:=fun h e=>by rw[B8.2 e] at h;cases h
 have hl:=BD (BZ ha.1).2.1
 unfold maxLen at hl
 have gmap:∀ {l:List Nd} {i:Nat},i<l.length->(l.map exN).getD i (exN default)=exN (l.getD i default):=fun h=>by simp[List.getD_eq_getElem?_getD,h]
 refine fun u v _=>⟨fun c=>Bi fun e=>c (iff.1 e).1,fun a1=>⟨fun c=>Bi fun e=>c (iff.1 e).2.1,fun a2=>⟨fun c=>Bi fun e=>c (iff.1 e).2.2.1,fun a3=>⟨fun c=>Bi fun e=>c (iff.1 e).2.2.2.1,fun a4=>⟨fun c=>Bi fun e=>c (iff.1 e).2.2.2.2.1,fun a5=>⟨fun c=>Bi fun e=>c (iff.1 e).2.2.2.2.2.1,fun a6=>⟨fun c=>Bi fun e=>c (iff.1 e).2.2.2.2.2.2.1,fun a7=>⟨fun c=>Bi fun e=>c (iff.1 e).2.2.2.2.2.2.2.1,fun a8=>⟨Bc _,fun c=>Bi fun e=>na c (iff.1 e).2.2.2.2.2.2.2.2.1,fun a9=>⟨fun c=>Bi fun e=>?_,fun hk=>⟨fun c=>Bi fun e=>?_,fun hb2=>⟨⟨0,⟨Nat.zero_le _,fun j hj=>absurd hj (by omega)⟩,rfl⟩,fun i ⟨i1,hi⟩=>⟨fun hlt=>?_,fun hge=>?_⟩⟩⟩⟩⟩⟩⟩⟩⟩⟩⟩⟩⟩
 ·have:=congrArg List.length (iff.1 e).2.2.2.2.2.2.2.2.2.1
  simp only[List.length_map] at this
  omega
 ·have:=congrArg List.length (iff.1 e).2.2.2.2.2.2.2.2.2.2
  simp only[List.length_map] at this
  omega
 ·have hi1:i<a.ki.length:=by omega
  have hi2:i<b.ki.length:=by omega
  refine⟨⟨by omega,by omega⟩,⟨by omega,by omega⟩,a.ki.getD i default,b.ki.getD i default,⟨Bc _,h1 _ (Ci hi1) _ (Ci hi2)⟩,fun c=>Bi fun e=>no c ?_,fun c=>⟨i+1,⟨hi1,fun j hj=>?_⟩,by omega,Bb (by omega) (by omega)⟩⟩
  ·rw[<- gmap hi1,<- gmap hi2,(iff.1 e).2.2.2.2.2.2.2.2.2.1]
  ·by_cases q:j=i
   ·rw[q];exact Bq.1 c
   ·exact hi j (by omega)
 ·have hki:a.ki.map exN=b.ki.map exN:=by
   refine CJ (exN default) (by simp only[List.length_map];omega) fun j hj=>?_
   have hj:j<a.ki.length:=by simpa using hj
   rw[gmap hj,gmap (by omega)]
   exact hi j (by omega)
  refine⟨⟨by omega,Bc _⟩,?_⟩
  exact Cw ⟨fun e=>iff.2 ⟨a1,a2,a3,a4,a5,a6,a7,a8,B8.1 a9,hki,e⟩,fun e=>(iff.1 e).2.2.2.2.2.2.2.2.2.2⟩
theorem If(a b:Nd)(ha:a.ok/\a.sm)(hb:b.ok/\b.sm):RXS a b :=
  Bau a b ⟨ha.2,Ih ha.1⟩ ⟨hb.2,Ih hb.1⟩ (fun x hx y hy => If x y ⟨Ip ha.1 x hx,Cv ha.2 (BQ hx)⟩ ⟨Ip hb.1 y hy,Cv hb.2 (BQ hy)⟩) fun x hx y hy =>
    ⟨If x.te y.te ⟨(BM (Co ha.1 x hx)).1,(By (Cu ha.2 x hx)).1⟩ ⟨(BM (Co hb.1 y hy)).1,(By (Cu hb.2 y hy)).1⟩,
     If x.nd y.nd ⟨(BM (Co ha.1 x hx)).2,(By (Cu ha.2 x hx)).2⟩ ⟨(BM (Co hb.1 y hy)).2,(By (Cu hb.2 y hy)).2⟩⟩
termination_by SizeOf.sizeOf a
decreasing_by
  · exact Nd.size_kid hx
  · have := Nd.size_stmt hx
    have := Sm.size_te x
    omega
  · have := Nd.size_stmt hx
    have := Sm.size_nd x
    omega
noncomputable def W5(a b:List Sm):Con:=fun k ds S=>match k with
 |27=>some (pA ds S (.bool (Bk (a.map exM) (b.map exM))) (a.length=b.length/\wkL ds [gsl 34 Sm.row1 a,gsl 34 Sm.row1 b]))
 |_=>none
theorem RG{a b:List Sm}(ha:okS a)(hb:okS b):ConOk Tryz.prog (W5 a b) := by
  intro k ds S A hh
  unfold W5 at hh
  split at hh
  · injection hh with hh; subst hh
    exact Bm fun ⟨hl,e⟩ => CD.at_ (CD.wk (MJ a b hl (BD ha.1) fun x hx y hy =>
      ⟨If _ _ ⟨(BM (ha.2.1 x hx)).1,(By (ha.2.2 x hx)).1⟩ ⟨(BM (hb.2.1 y hy)).1,(By (hb.2.2 y hy)).1⟩,
       If _ _ ⟨(BM (ha.2.1 x hx)).2,(By (ha.2.2 x hx)).2⟩ ⟨(BM (hb.2.1 y hy)).2,(By (hb.2.2 y hy)).2⟩⟩) e) _
  · cases hh
noncomputable def Xus(a b:List Sm):Senv:={ EC (W5 a b) 26 5 [] (fun _=>([],[])) with mg:=fun _=>2 }
def QlL:Nd:=Nd.mk Z0 Z0 Z0 [] Z0 Z0 DA [] [] Z0 Z0 Z0
def QlM(a:List Sm):D:=D.sl 34 (LN a) (fun i=>Sm.row1 (List.getD a i (Sm.mk Z0 Z0 [] Z0 QlL QlL))) Mode.any
def QlN(a b:List Sm):List D:=[QlM a,QlM b]
def QlO(a b:Int)(c d:List Sm):Prop:=True/\∃(_y:Unit),True/\false=(decide (a=b)&&Bk (List.map exM c) (List.map exM d))/\True/\True
theorem BcE(a b:List Sm)(na nb:Int)(ha:okS a)(hb:okS b):CD 11 [unD a na,unD b nb] (.bool (decide (na=nb)&&Bk (a.map exM) (b.map exM))):=by
 refine Bh (A:=sC _ _) (x:=()) (E:=Xus a b) (eOk (RG ha hb) rfl) Tryz.func11 rfl (by kernel_rfl) rfl (by simp[sC,Xus,EC,E0]) ?_
 refine Bl (T :=
  ∀(x:Nat),True->∀(x_1:Nat),x≠x_1/\True->SM x/\SM x_1/\ifB (na==nb) (SM x/\SM x_1/\ifB ((LI a)==(LI b)) (SM x/\SM x_1/\∃(x:Unit),(LN a=LN b/\wkL (QlN a b) (QlN a b))/\∀(y:Unit),True->RT (Bk (List.map exM a) (List.map exM b)=(decide (na=nb)&&Bk (List.map exM a) (List.map exM b)))) (QlO na nb a b)) (QlO na nb a b)) (by kernel_rfl) ?_
 delta DA LI LN SM Z0 QlN QlO QlL QlM RT
 try simp only[<- dm]
 try simp only[<- dn]
 simp only[ne_eq,Bg,true_and,and_true,beq_iff_eq,beq_eq_false_iff_ne,exists_const,forall_const]
 refine fun _ _ _=>⟨fun h=>⟨fun h2=>⟨⟨by omega,Bc _⟩,by rw[decide_eq_true h,Bool.true_and]⟩,fun h2=>?_⟩,fun h=>by rw[decide_eq_false h,Bool.false_and]⟩
 rw[decide_eq_true h,Bool.true_and]
 refine Bi fun e=>h2 ?_
 have:=congrArg List.length e
 simp only[List.length_map] at this
 omega
noncomputable def Bii(b:List Sm)(n:Int):Con:=fun k ds S=>match k with
 |23=>some (pA ds S (.int .i64 (Bw b)) (ds=[.agg [gsl 34 Sm.row1 b]]))
 |9=>some (pA ds S (pgD b) (ds=[.agg [gsl 34 Sm.row1 b]]))
 |11=>some (pA ds S (.bool (OL b n)) (ds=[unD b n,unD (pgB b) (pgN b)]))
 |_=>none
theorem Bjf{b:List Sm}(hb:okS b)(n:Int):ConOk Tryz.prog (Bii b n):=by
 intro k ds S A hh
 unfold Bii at hh
 split at hh
 ·injection hh with hh;subst hh
  exact Bm fun e=>by subst e;exact CD.at_ (BbO b hb.1 hb.2.1 hb.2.2) _
 ·injection hh with hh;subst hh
  exact Bm fun e=>by subst e;exact CD.at_ (BfC b hb.1 hb.2.1 hb.2.2) _
 ·injection hh with hh;subst hh
  exact Bm fun e=>by subst e;exact CD.at_ (BcE b (pgB b) n (pgN b) hb (Ur hb).1) _
 ·cases hh
noncomputable def Xru(b:List Sm)(n:Int):Senv:={ EC (Bii b n) 29 6 [11,28] (fun _=>([],[])) with mg:=fun _=>2 }
def QDA:Nd:=Nd.mk Z0 Z0 Z0 [] Z0 Z0 DA [] [] Z0 Z0 Z0
def QDB:Sm:=Sm.mk Z0 Z0 [] Z0 QDA QDA
def QDC(a:List Sm):D:=D.sl 34 (LN a) (fun i=>Sm.row1 (List.getD a i QDB)) Mode.any
def QHt(a:List Sm):List D:=[D.agg [QDC a]]
def QDD(a:List Sm):Prop:=SM (QHt a)
def QDE(a:List Sm)(b:Int):Prop:=True/\∃(_y:Unit),True/\(11:Int)=rtU a b/\True/\True
def QHu(a:List Sm)(b:Int):List D:=[D.agg [QDC a,ZI b],D.agg [D.sl 34 (LN (pgB a)) (fun i=>Sm.row1 (List.getD (pgB a) i QDB)) Mode.any,ZI (pgN a)]]
theorem BmA(b:List Sm)(n:Int)(hb:okS b):CD 14 [unD b n] (.int .i64 (rtU b n)):=by
 refine Bh (A:=sC _ _) (x:=()) (E:=Xru b n) (eOk (Bjf hb n) rfl) Tryz.func14 rfl (by kernel_rfl) rfl (by simp[sC,Xru,EC,E0]) ?_
 refine Bl (T :=
  ∀(x:Nat),True->SM x/\∃(x_1:Unit),QDD b/\∀(y:Unit),True->ifB (Bw b != Z0) (RT (Bw b=rtU b n)) (SM x/\∃(x_2:Unit),QDD b/\∀(y:Unit),True->∀(x_3:Nat),x≠x_3/\True->∀(x_4:Nat),x_3≠x_4/\x≠x_4/\True->SM x_3/\SM x_4/\SM x_4/\ifB (Prod.fst (pgF b) != Z0) (QDE b n) (SM x/\SM x_3/\∃(x:Unit),SM (QHu b n)/\∀(y:Unit),True->ifB (!OL b n) (QDE b n) (RT (Z0=rtU b n))))) (by kernel_rfl) ?_
 delta DA LN SM Z0 ZI QDA QDB QDC QHt QDD QDE QHu RT
 try simp only[<- dm]
 try simp only[<- dn]
 simp only[ne_eq,Bg,true_and,and_true,bne_iff_ne,bne_eq_false_iff_eq,Bool.not_eq_true',Bool.not_eq_false',exists_const,forall_const]
 have e1:Bw b≠0->Bw b=rtU b n:=fun h=>by rw[rtU,if_pos h]
 have e2:Bw b=0->(pgF b).1≠0->11=rtU b n:=fun h h2=>by rw[rtU,if_neg (by simp[h]),if_pos h2]
 have e3:Bw b=0->(pgF b).1=0->OL b n=false->11=rtU b n:=fun h h2 h3=>by rw[rtU,if_neg (by simp[h]),if_neg (by simp[h2]),if_neg (by simp[h3])]
 have e4:Bw b=0->(pgF b).1=0->OL b n=true->0=rtU b n:=fun h h2 h3=>by rw[rtU,if_neg (by simp[h]),if_neg (by simp[h2]),if_pos h3]
 repeat' first | exact e1 ‹_› | exact e2 ‹_› ‹_› | exact e3 ‹_› ‹_› ‹_› | exact e4 ‹_› ‹_› ‹_› | exact trivial | apply And.intro | intro _ | rfl
noncomputable def T7(a b:List Sm)(na nb:Int):Bool:=decide (na=nb)&&Bk (a.map exM) (b.map exM)
theorem Bez(a b:List Sm)(na nb:Int):T7 b a nb na=T7 a b na nb:=by
 unfold T7
 have h1:decide (nb=na)=decide (na=nb):=by rw[decide_eq_decide];exact eq_comm
 rw[h1,Cw (a:=b.map exM) (b:=a.map exM) (c:=a.map exM) (d:=b.map exM) eq_comm]
noncomputable def BeB(a b:List Sm)(na nb:Int):Con:=fun k ds S=>match k with
 |13=>some (pA ds S (.int .i64 (rtU a na)) (ds=[unD a na]))
 |14=>some (pA ds S (.int .i64 (rtU a na)) (ds=[unD a na]))
 |15=>some (pA ds S (.bool (T7 a b na nb)) (ds=[unD a na,unD b nb]\/ds=[unD b nb,unD a na]))
 |11=>some (pA ds S (.bool (T7 a b na nb)) (ds=[unD a na,unD b nb]))
 |12=>some (pA ds S (.bool true) (ds=[]))
 |_=>none
theorem Bha(hk:CD 12 [] (.bool true)){a b:List Sm}(na nb:Int)(ha:okS a)(hb:okS b):ConOk Tryz.prog (BeB a b na nb):=by
 intro k ds S A hh
 unfold BeB at hh
 split at hh
 ·injection hh with hh;subst hh
  exact Bm fun e=>by rw[e];exact CD.at_ (Bf8 a na ha) _
 ·injection hh with hh;subst hh
  exact Bm fun e=>by rw[e];exact CD.at_ (BmA a na ha) _
 ·injection hh with hh;subst hh
  refine Bm fun e=>?_
  rcases e with e | e
  ·rw[e];exact CD.at_ (Bb4 a b na nb ha hb) _
  ·rw[e,<- Bez];exact CD.at_ (Bb4 b a nb na hb ha) _
 ·injection hh with hh;subst hh
  exact Bm fun e=>by rw[e];exact CD.at_ (BcE a b na nb ha hb) _
 ·injection hh with hh;subst hh
  exact Bm fun e=>by rw[e];exact CD.at_ hk _
 ·cases hh
noncomputable def Erul(a b:List Sm)(na nb:Int):Senv:={ EC (BeB a b na nb) 31 5 [] (fun id=>match id with | 1=>([0,2,1,3,4,5,6,7,9,10,8,11,12,13,14,15,16,18,19,17,20,21,22,23,24,25,26],[1,3,8,11,17,20,24]) | _=>([],[])) with mg:=fun _=>2 }
def QDF:Nd:=Nd.mk Z0 Z0 Z0 [] Z0 Z0 DA [] [] Z0 Z0 Z0
def Qtt(a:List Sm)(b:Int):D:=D.agg [D.sl 34 (LN a) (fun i=>Sm.row1 (List.getD a i (Sm.mk Z0 Z0 [] Z0 QDF QDF))) Mode.any,ZI b]
def QDG(a:List Sm)(b:Int):List D:=[Qtt a b]
def QDH(a:List Sm)(b:Int):Prop:=SM (QDG a b)
def Qmm(a:Nat)(b:List Sm)(c:Int):Prop:=SM a/\SM (Qtt b c)
def Qtu(a:List Sm)(b:Int)(c:List Sm)(d:Int):List D:=Qtt a b::QDG c d
def QqC(a:List Sm)(b:Int)(c:List Sm)(d:Int):Prop:=SM (Qtu a b c d)
def QDI(a:List Sm)(b:Int)(c:List Sm)(d:Int):Prop:=Qtu a b c d=Qtu c d a b
def Qtv:Prop:=True/\∃(_y:Unit),True/\false=true/\True/\True
theorem BeA(hk:CD 12 [] (.bool true))(a b:List Sm)(na nb:Int)(ha:okS a)(hb:okS b):CD 4 [unD a na,unD b nb] (.bool true):=by
 refine Bh (A:=sC _ _) (x:=()) (E:=Erul a b na nb) (eOk (Bha hk na nb ha hb) rfl) Tryz.func4 rfl (by kernel_rfl) rfl (by simp[sC,Erul,EC,E0]) ?_
 refine Bl (T :=
  ∀(x:Nat),True->∀(x_1:Nat),x≠x_1/\True->SM x/\SM x/\∃(x_2:Unit),QDH a na/\∀(y:Unit),True->Qmm x a na/\∃(x_3:Unit),QDH a na/\∀(y:Unit),True->ifB (rtU a na==rtU a na) (SM x/\SM x_1/\SM x/\SM x_1/\∃(x_4:Unit),(QqC a na b nb\/QDI a na b nb)/\∀(y:Unit),True->Qmm x_1 b nb/\Qmm x a na/\∃(x_5:Unit),QqC a na b nb/\∀(y:Unit),True->ifB (T7 a b na nb==T7 a b na nb) (SM x_1/\SM x/\SM x/\SM x_1/\∃(x_6:Unit),(QDI b nb a na\/QqC b nb a na)/\∀(y:Unit),True->Qmm x_1 b nb/\Qmm x a na/\∃(x:Unit),QqC a na b nb/\∀(y:Unit),True->ifB (T7 a b na nb==T7 a b na nb) (∃(x:Unit),BV (List D) [] []/\∀(y:Unit),True->RT (SM true)) Qtv) Qtv) Qtv) (by kernel_rfl) ?_
 delta DA LN SM Z0 ZI QDF Qtt QDG QDH Qmm Qtu QqC QDI Qtv RT
 try simp only[<- dm]
 try simp only[<- dn]
 simp only[eq_self,ne_eq,implies_true,Bg,true_and,and_true,beq_iff_eq,beq_eq_false_iff_ne,exists_const,forall_const]
 repeat' first | exact trivial | exact absurd trivial ‹¬True› | exact Or.inl trivial | exact Or.inr trivial | rfl | apply And.intro | intro _
open Go Go.Ab Go.RowKit
def RUn:List D->Prop:=fun ds=>∃(l:List Sm) (n:Int),okS l/\ds=[lsl 34 (CV l),.int .i64 n]
theorem Bk1(W:World)(n:Nat):ReadAt Tryz.prog W n 26 RUn:=by
 cases n with
 |zero=>exact .zero _ _
 |succ m =>
  have hb:ReadAt Tryz.prog W m 22 (RSliceA 34 RSm):=by
   cases m with
   |zero=>exact .zero _ _
   |succ k=>exact Eq (w:=34) Tryz.underlying22 (by kernel_rfl) (by decide) (by decide +kernel) (Wq W k fun j _=>BcH W j)
  refine (EV Tryz.underlying26 (by kernel_rfl) (Rs:=[RSliceA 34 RSm,RInt .i64]) ⟨hb,Ix Tryz.underlying3 W m,trivial⟩).mono ?_
  rintro ds ⟨_,_,⟨l,h1,h2,rfl⟩,⟨_,_,⟨z,rfl,_,_⟩,h3,rfl⟩,rfl⟩
  obtain rfl:_=[]:=h3
  obtain ⟨bo,qb,rfl⟩:=IL (g:=Sm.row) (Q:=fun a=>a.ok/\a.sm) (fun x hx=>hx) l h1
  refine⟨bo,z,⟨by simpa using h2,fun s hs=>(qb s hs).1,fun s hs=>(qb s hs).2⟩,?_⟩
  simp only[CA,lsl,List.append_nil,List.cons_append,List.nil_append]
theorem CD.isUU{k:Nat}{a b:List Sm}{n m:Int}{d:D}(h:CD k [unD a n,unD b m] d):CD k [.agg [lsl 34 (CV a),.int .i64 n],.agg [lsl 34 (CV b),.int .i64 m]] d:=by
 refine CD.wk (CD.wk h (ds:=[.agg [gsl 34 Sm.row a,.int .i64 n],.agg [gsl 34 Sm.row b,.int .i64 m]]) ?_) ?_
 ·simp only[wkL,unD,wkD];exact⟨⟨O8 BfW,BY _,trivial⟩,⟨O8 BfW,BY _,trivial⟩,trivial⟩
 ·simp only[wkL,wkD];exact⟨⟨Bbz a,BY _,trivial⟩,⟨Bbz b,BY _,trivial⟩,trivial⟩
noncomputable def BkA:Array Value:=#[.agg #[.slice none 0 0,.int .i64 0],.agg #[.slice none 0 0,.int .i64 0]]
theorem Bhm(os:Os):laidMet Tryz.prog ON ((EA os).forCall (fun _ _=>0) ⟨#[],BkA,[]⟩).memory :=
 ⟨[],(by first | exact .nil | constructor | simp[DataW.LaidVars,ON]),List.nodup_nil,fun _ _ h=>(by cases h)⟩
theorem Bl2(os:Os){H:Type}(enc:TypeId×Value->H):∃x,DataW.whole enc Tryz.prog ((EA os).forCall (fun _ _=>0) ⟨#[],BkA,[]⟩).memory [26,26] [] false (BkA).toList 8=some x/\Rows.uptoSmall H (x.1++x.2.1)=true :=
 UM (by kernel_rfl)
theorem BhV{H : Type}{enc : TypeId×Value -> H}
  (W:World) (base:Nat) (args:Array Value) (ds gs:List (DataW H)) (before:List MemPlace)
  (hval:∀(j:Nat) t v,Tryz.f4.params[j]? =some t->args[j]? =some v->Value.okWide Tryz.prog W .any base t v)
  (hW:DataW.Whole enc Tryz.prog Tryz.f4.params.toList Rows.resolveUnitsSpec.vars false W args.toList ds gs before)
  (hsz:(DataW.weightsEach Tryz.prog (Tryz.f4.params.toList++Rows.resolveUnitsSpec.plain.varTypes Tryz.prog) (ds++gs)).all (·<=BX)=true) (hL:laidMetH Tryz.prog ON W) :
  Calls Tryz.prog 4 args W fun e W'=>∃v,e=.returned v/\Rows.resolveUnitsSpec.post enc Tryz.prog Tryz.f4 false true false false W args v W':=by
 refine Mg (rs:=[(26,RUn),(26,RUn)]) laid (by rw[Tryz.params4];kernel_rfl) rfl (fun ds hd=>?_) (rt:=4) rfl Tryz.underlying4 (by rw[Tryz.params4];rfl) ?_ W (Bcs hL) base args ds gs before hval hW hsz ?_
 ·rw[Tryz.params4] at hd
  match ds,hd with
  | [_,_],_=>exact⟨rfl,rfl,rfl⟩
 ·intro r hr
  simp only[List.mem_cons,List.not_mem_nil,or_false,or_self] at hr
  subst hr
  exact Bk1
 ·intro Ds h
  obtain ⟨dx,_,rfl,hx,h⟩:=h.agg (by kernel_rfl)
  obtain ⟨dy,_,rfl,hy,h⟩:=h.agg (by kernel_rfl)
  obtain rfl:=h.nil
  obtain ⟨x,n,hokx,rfl⟩:=hx
  obtain ⟨y,m,hoky,rfl⟩:=hy
  exact (CD.isUU (BeA BjD x y n m hokx hoky)).mono fun r S' ⟨_,_,hr,_⟩=>hr
theorem Bky(os : Os)(started : os.Started)(H : Type)(enc : TypeId×Value -> H)(F : Stop.Interp) :
  ReturnsInHanded {} Tryz.checked os 4 .any ((Rows.OpenSpec.upto Rows.resolveUnitsSpec).preRow enc Tryz.prog Tryz.f4 Rows.resolveUnitsUptoRow.domain false Rows.resolveUnitsUptoRow.laid) (((Rows.OpenSpec.upto Rows.resolveUnitsSpec).at F).post enc Tryz.prog Tryz.f4 false true false false):=by
 obtain ⟨x,hx,hxk⟩:=Bl2 os enc
 refine returnsInHanded_of_row (C:=Tryz.checked) (s:=Rows.OpenSpec.upto Rows.resolveUnitsSpec) own started (by kernel_rfl) Tryz.func4
  (witness_row_at (enc:=enc) (C:=Tryz.checked) false (EA os) BkA rfl (by kernel_rfl) (by kernel_rfl) (by kernel_rfl)
   (OpenSpec.preRow_of_cond 8 hx rfl (fun k hk=>by cases hk;exact hxk) (by kernel_rfl) (Bhm os))) ?_
 intro W base args ds gs before hval hW _ hk _ hL _ _
 refine BhV W base args ds gs before hval hW ?_ hL
 have e:Tryz.f4.params.toList++Rows.resolveUnitsSpec.plain.varTypes Tryz.prog=[26,26]:=by rw[Tryz.params4];kernel_rfl
 rw[e]
 exact BbM BjX (by decide +kernel) (hk _ rfl)
theorem BmO:Rows.ResolveUnitsUptoSaid :=
 OpenClaim.holds_of_cond 4 Tryz.f4 rfl rfl rfl rfl rfl rfl rfl ⟨rfl,rfl,rfl,rfl,rfl⟩ rfl rfl rfl rfl rfl (by kernel_rfl) Tryz.func4 (by kernel_rfl)
  (of_decide_eq_true (by kernel_rfl)) (by unfold Func.isWrapper;first | (rw[if_pos (by decide +kernel)];kernel_rfl) | (rw[if_neg (by decide +kernel)];exact⟨rfl,rfl⟩))
  (fun os started H enc _ F=>by rw[OpenClaim.pre_eq_preRow];exact Bky os started H enc F)
theorem provedResolveUnits:Rows.ResolveUnitsUptoSaid:=BmO
end
end Go.Proofs.YtfbfnhbafjmnaaaGreat
