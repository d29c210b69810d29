/- Functions of the given program and what each of them computes: lemmas towards the statement, their conditions stated with each of them. -/
import Derived.Test.YtfbfnhbafjmnaaaGreatS3
namespace Go.Proofs.YtfbfnhbafjmnaaaGreat
open Go Go.Ab
set_option maxRecDepth 100000
noncomputable section
def BfV:D:=.sl 1 0 (fun _=>[]) .nil
def Bhb:List Int->D
 | []=>BfV
 |z::l=>.sl 1 (l.length+1) (fun i=>((z::l).map fun z=>[D.int .i64 z]).getD i []) .full
def Bdn(w:Nat):List (List D)->D
 | []=>BfV
 |r::l=>.sl w (l.length+1) (fun i=>(r::l).getD i []) .full
def BkX:List Arr->D
 | []=>BfV
 |a::l=>gsl 4 Arr.row (a::l)
mutual
def Nd.lit:Nd->List D
 |.mk kd at_ cl tx pr op va ki bo de sl ss=>[.int .i64 kd,.int .i64 at_,.int .i64 cl,.str tx,.int .i64 pr,.int .i64 op,.int .i64 va.k,Bhb va.sh,Bhb va.nu,BkX va.it,Bdn 15 (Gl ki),Bdn 34 (Ey bo),.int .i64 de,.int .i64 sl,.int .i64 ss]
def Sm.lit:Sm->List D
 |.mk kd at_ nm sl te nd=>.int .i64 kd::.int .i64 at_::.str nm::.int .i64 sl::(te.lit++nd.lit)
def Gl:List Nd->List (List D)
 | []=>[]
 |x::r=>x.lit::Gl r
def Ey:List Sm->List (List D)
 | []=>[]
 |x::r=>x.lit::Ey r
end
theorem Bd9:∀l:List Int,wkD (Bhb l) (isl l .any)
 | []=>by simp[Bhb,BfV,isl,wkD,Ba,BB]
 |z::l=>by
  simp only[Bhb,isl,wkD,Ba]
  refine⟨by simp,by simp,fun i hi=>?_,by simp[BB]⟩
  have hi:i<(z::l).length:=by simpa using hi
  have e:((z::l).map fun z=>[D.int .i64 z]).getD i []=[D.int .i64 ((z::l).getD i 0)]:=by
   rw[List.getD_eq_getElem?_getD,List.getElem?_map,List.getD_eq_getElem?_getD,List.getElem?_eq_getElem hi]
   rfl
  rw[e]
  exact Bc _
theorem BjL:∀l:List Arr,wkD (BkX l) (gsl 4 Arr.row l)
 | []=>by simp[BkX,BfV,gsl,wkD,Ba,BB,M1]
 |a::l=>Bb _
theorem Baj{w:Nat}:∀ {a b:List (List D)},a.length=b.length->(∀i,i<a.length->wkL (a.getD i []) (b.getD i []))->wkD (Bdn w a) (lsl w b)
 | [],[],_,_=>by simp[Bdn,BfV,lsl,wkD,Ba,BB,M1]
 | [],_::_,h,_=>by simp at h
 |_::_,[],h,_=>by simp at h
 |x::a,y::b,h,h2=>by
  simp only[Bdn,lsl,wkD,Ba]
  exact⟨by simp,by simpa using h,fun i hi=>h2 i (by simpa using hi),by simp[BB]⟩
theorem Wg:∀l:List Nd,(Gl l).length=l.length
 | []=>by simp only[Gl,List.length_nil]
 |x::r=>by simp only[Gl,List.length_cons,Wg r]
theorem Ik:∀l:List Sm,(Ey l).length=l.length
 | []=>by simp only[Ey,List.length_nil]
 |x::r=>by simp only[Ey,List.length_cons,Ik r]
mutual
theorem Baf:∀n:Nd,wkL n.lit n.row
 |.mk kd at_ cl tx pr op va ki bo de sl ss=>by
  simp only[Nd.lit,Nd.row,wkL]
  refine⟨Bb _,Bb _,Bb _,Bb _,Bb _,Bb _,Bb _,Bd9 _,Bd9 _,BjL _,Baj ?_ (BeJ ki),Baj ?_ (Ub bo),Bb _,Bb _,Bb _,trivial⟩
  ·rw[Wg,EL,List.length_map]
  ·rw[Ik,Cc,List.length_map]
theorem BkO:∀s:Sm,wkL s.lit s.row
 |.mk kd at_ nm sl te nd=>by
  simp only[Sm.lit,Sm.row,wkL]
  exact⟨Bb _,Bb _,Bb _,Bb _,Oo (Baf te) (Baf nd)⟩
theorem BeJ:∀(l:List Nd) (i:Nat),i<(Gl l).length->wkL ((Gl l).getD i []) ((Gu l).getD i [])
 | [],i,h=>by simp[Gl] at h
 |x::r,0,_=>by simp only[Gl,Gu,List.getD_cons_zero];exact Baf x
 |x::r,i+1,h=>by
  simp only[Gl,Gu,List.getD_cons_succ]
  exact BeJ r i (by simpa[Gl] using h)
theorem Ub:∀(l:List Sm) (i:Nat),i<(Ey l).length->wkL ((Ey l).getD i []) ((CX l).getD i [])
 | [],i,h=>by simp[Ey] at h
 |x::r,0,_=>by simp only[Ey,CX,List.getD_cons_zero];exact BkO x
 |x::r,i+1,h=>by
  simp only[Ey,CX,List.getD_cons_succ]
  exact Ub r i (by simpa[Ey] using h)
end
def isR(b:Nd)(ds:List D)(ex:List D):Prop:=wkL ds (.agg b.row::ex)
def isP(l:List Sm)(ds:List D)(ex:List D):Prop:=wkL ds (.agg [lsl 34 (CX l)]::ex)
theorem Bj0(b:Nd)(ds:List D)(h:ds=[.agg b.lit]):isR b ds []:=by
 subst h
 simp only[isR,wkL,wkD]
 exact⟨Baf b,trivial⟩
theorem BkE(l:List Sm):wkD (Bdn 34 (Ey l)) (lsl 34 (CX l)):=Baj (by rw[Ik,Cc,List.length_map]) (Ub l)
theorem BiR(l:List Sm)(ds:List D)(h:ds=[.agg [Bdn 34 (Ey l)]]):isP l ds []:=by
 subst h
 simp only[isP,wkL,wkD]
 exact⟨⟨BkE l,trivial⟩,trivial⟩
theorem Bgc(b:Nd)(ex:List D):wkL (.agg b.row::ex) (.agg b.row1::ex):=by
 simp only[wkL,wkD];exact⟨BaW b,Bc _⟩
theorem CD.isR{k:Nat}{n:Nd}{ds:List D}{d:D}(h:CD k [.agg n.row1] d)(hi:isR n ds []):CD k ds d:=CD.wk (CD.wk h (Bgc n [])) hi
theorem BiV(l:List Sm):wkD (lsl 34 (CX l)) (gsl 34 Sm.row l):=by rw[Cc];exact Bds
theorem CD.isP{k:Nat}{l:List Sm}{ds:List D}{d:D}(h:CD k [.agg [gsl 34 Sm.row1 l]] d)(hi:isP l ds []):CD k ds d:=by
 refine CD.wk (CD.wk (CD.wk h (us:=[.agg [gsl 34 Sm.row1 l]]) ?_) (ds:=[.agg [lsl 34 (CX l)]]) (us:=[.agg [gsl 34 Sm.row l]]) ?_) hi
 ·simp only[wkL,wkD];exact⟨⟨U5 Bkt,trivial⟩,trivial⟩
 ·simp only[wkL,wkD];exact⟨⟨BiV l,trivial⟩,trivial⟩
def nmN(c:UInt8)(cl:Int):Nd:=.mk 2 0 cl [c] 0 0 (.mk 0 [] [] []) [] [] 0 0 0
def zN:Nd:=.mk 0 0 0 [] 0 0 (.mk 0 [] [] []) [] [] 0 0 0
def oN:Nd:=.mk 1 0 1 [] 0 0 (.mk 1 [] [1] []) [] [] 0 0 0
def lN:Nd:=.mk 4 0 1 [] 0 0 (.mk 0 [] [] []) [nmN 102 2,nmN 97 1] [] 0 0 0
def TK:List Sm:=[.mk 2 0 [102] 0 zN (.mk 10 0 2 [] 0 0 (.mk 0 [] [] []) [] [.mk 1 0 [] 0 zN (nmN 97 1)] 0 0 0),.mk 1 0 [] 0 zN lN]
def MG:List Sm:=.mk 2 0 [97] 0 zN oN::TK
def Tw:List Sm:=[.mk 2 0 [97] 0 zN oN,.mk 2 0 [102] 1 zN (.mk 10 0 2 [] 0 0 (.mk 0 [] [] []) [] [.mk 1 0 [] 0 zN (.mk 2 0 1 [97] 0 0 (.mk 0 [] [] []) [] [] 1 0 0)] 0 0 0),.mk 1 0 [] 0 zN (.mk 4 0 1 [] 0 0 (.mk 0 [] [] []) [.mk 2 0 2 [102] 0 0 (.mk 0 [] [] []) [] [] 0 1 0,.mk 2 0 1 [97] 0 0 (.mk 0 [] [] []) [] [] 0 0 0] [] 0 0 0)]
theorem BcY:BP MG=0:=by decide +kernel
theorem T0:rvP MG=.ok (Tw,[([97],1),([102],2)]):=by
 unfold rvP
 rw[if_neg (by simp[BcY])]
 rfl
theorem BcZ:BP TK=0:=by decide +kernel
theorem BjE:rvP TK=.error (28,0,[97]):=by
 unfold rvP
 rw[if_neg (by simp[BcZ])]
 rfl
theorem Rl:BP []=0:=by decide +kernel
theorem Blz:pgD MG=.tup [unD Tw 2,RK (0,0,[])]:=by
 unfold pgD pgB pgN pgF
 rw[T0]
 rfl
theorem BkL:pgD TK=.tup [unD [] 0,RK (28,0,[97])]:=by
 unfold pgD pgB pgN pgF
 rw[BjE]
 rfl
theorem Bhm:pgB MG=Tw:=by unfold pgB;rw[T0]
theorem Blc:pgN MG=2:=by unfold pgN;rw[T0];rfl
theorem Blu:(pgF MG).1=0:=by unfold pgF;rw[T0]
theorem Bjk:rtU Tw 2=0:=by
 obtain ⟨h1,h2,h3,h4,_⟩:=BhH Blu
 rw[Bhm] at h1 h2 h3 h4
 rw[Blc] at h3
 unfold rtU Bcc
 rw[if_neg (by simp[h1]),h4,if_neg (by simp),h2,h3,Bda,if_pos rfl]
theorem Blf:rtU [] 1=11:=by
 have h:rvP []=.ok ([],[]):=by
  unfold rvP
  rw[if_neg (by simp[Rl])]
  rfl
 unfold rtU Bcc pgF pgN
 rw[if_neg (by simp[Rl]),h]
 simp
theorem IK:okS TK:=by
 refine⟨by decide,fun s hs=>?_,fun s hs=>?_⟩
 ·rcases List.mem_cons.1 hs with rfl | hs
  ·simp[Sm.ok,zN,nmN,Nd.ok,Arr.ok,okL,IA,GY,BY,maxLen]
  ·rw[List.mem_singleton.1 hs]
   simp[Sm.ok,zN,lN,nmN,Nd.ok,Arr.ok,okL,IA,GY,BY,maxLen]
 ·rcases List.mem_cons.1 hs with rfl | hs
  ·simp[Sm.sm,zN,nmN,Nd.sm,Arr.sm,smL,IC,GM,BU]
  ·rw[List.mem_singleton.1 hs]
   simp[Sm.sm,zN,lN,nmN,Nd.sm,Arr.sm,smL,IC,GM,BU]
theorem OM:okS MG:=by
 refine⟨by decide,fun s hs=>?_,fun s hs=>?_⟩
 ·rcases List.mem_cons.1 hs with rfl | hs
  ·simp[Sm.ok,zN,oN,Nd.ok,Arr.ok,okL,IA,GY,BY,maxLen]
  ·exact IK.2.1 s hs
 ·rcases List.mem_cons.1 hs with rfl | hs
  ·simp[Sm.sm,zN,oN,Nd.sm,Arr.sm,smL,IC,GM,BU]
  ·exact IK.2.2 s hs
theorem Bfw:okS Tw:=by rw[<- Bhm];exact (Bij OM).1
theorem BkC(l:List Sm){n:Nat}{f:Nat->List D}{m:Ab.Mode}(hn:n=l.length)(hm:BB m .any)(h:∀i,i<n->f i=(Ey l).getD i []):isP l [.agg [.sl 34 n f m]] []:=by
 subst hn
 unfold isP
 simp only[wkL,lsl,wkD,Ba]
 refine⟨⟨⟨by simp,by rw[Cc,List.length_map],fun i hi=>?_,hm⟩,trivial⟩,trivial⟩
 rw[h i hi]
 exact Ub l i (by rw[Ik];exact hi)
def Ba6:Con:=fun k ds S=>match k with
 |8=>match ds with
  | [.agg [.sl _ n _ _]]=>match Nat.beq n 3 with
   |true=>some (pA ds S (.tup [unD Tw 2,RK (0,0,[])]) (isP MG ds []))
   |false=>some (pA ds S (.tup [unD [] 0,RK (28,0,[97])]) (isP TK ds []))
  |_=>none
 |16=>some (pA ds S (ssl [[97],[102]] .any) (isR lN ds []))
 |13=>match ds with
  | [.agg [.sl _ n _ _,_]]=>match Nat.beq n 3 with
   |true=>some (pA ds S (.int .i64 0) (wkL ds [unD Tw 2]))
   |false=>some (pA ds S (.int .i64 11) (wkL ds [unD [] 1]))
  |_=>none
 |_=>none
theorem BaT(hF:CD 16 [.agg lN.row1] (ssl [[97],[102]] .any)):ConOk Tryz.prog Ba6:=by
 intro k ds S A hh
 unfold Ba6 at hh
 split at hh
 ·split at hh
  ·split at hh
   ·injection hh with hh;subst hh
    have:=BeC MG OM.1 OM.2.1 OM.2.2
    rw[Blz] at this
    exact Bs fun e=>CD.at_ (CD.isP this e) _
   ·injection hh with hh;subst hh
    have:=BeC TK IK.1 IK.2.1 IK.2.2
    rw[BkL] at this
    exact Bs fun e=>CD.at_ (CD.isP this e) _
  ·cases hh
 ·injection hh with hh;subst hh
  exact Bs fun e=>CD.at_ (CD.isR hF e) _
 ·split at hh
  ·split at hh
   ·injection hh with hh;subst hh
    have:=Bku Tw 2 Bfw
    rw[Bjk] at this
    exact Bs fun e=>CD.at_ (CD.wk this e) _
   ·injection hh with hh;subst hh
    have:=Bku [] 1 ⟨by simp,by simp,by simp⟩
    rw[Blf] at this
    exact Bs fun e=>CD.at_ (CD.wk this e) _
  ·cases hh
 ·cases hh
noncomputable def Erk:Senv:={ EC Ba6 141 5 [6,7,54] (fun id=>match id with | 4=>([0,1,2,3,4,5,6,7,8,9,10,11,12,13,14,15,16,17,18,19,20],[17,18,19,20]) | _=>([],[])) with
 mg:=fun _=>2
 inl:=MS { E0 Ba6 0 0 [] (fun _=>([],[])) with auto:=true } (Ee G3) 9 }
def QT(a:Nat):Prop:=SM a/\True
def Jq:Arr:=DA
def Jr:Nd:=Nd.mk Z0 Z0 Z0 [] Z0 Z0 Jq [] [] Z0 Z0 Z0
def Qm3:Sm:=Sm.mk (2:Int) Z0 [(97:UInt8)] Z0 Jr (Nd.mk Z1 Z0 Z1 [] Z0 Z0 (Arr.mk Z1 [] [Z1] []) [] [] Z0 Z0 Z0)
def Qm4:Nd:=Nd.mk (2:Int) Z0 Z1 [(97:UInt8)] Z0 Z0 Jq [] [] Z0 Z0 Z0
def Qm5:List Nd:=[Qm4]
def Qm6:Nd:=Nd.mk (4:Int) Z0 Z1 [] Z0 Z0 Jq (Nd.mk (2:Int) Z0 (2:Int) [(102:UInt8)] Z0 Z0 Jq [] [] Z0 Z0 Z0::Qm5) [] Z0 Z0 Z0
def Qm7:List Sm:=[Sm.mk (2:Int) Z0 [(102:UInt8)] Z0 Jr (Nd.mk (10:Int) Z0 (2:Int) [] Z0 Z0 Jq [] [Sm.mk Z1 Z0 [] Z0 Jr Qm4] Z0 Z0 Z0),Sm.mk Z1 Z0 [] Z0 Jr Qm6]
def Qe:D:=ZI Z0
def JU:D:=D.str []
def Qp:D:=D.sl N1 N0 (fun _x=>[]) Mode.nil
def Qm8:List D:=[Qe,Qe,Qe]
def Qm9:List D:=Qp::Qm8
def Qna:List D:=Qp::Qp::Qm9
def Qnb:List D:=Qe::Qe::Qe::Qp::Qp::Qna
def Qnc:List D:=ZI 2::Qe::ZI Z1::D.str [97]::Qnb
def Qnd:List D:=ZI 4::Qe::ZI Z1::JU::Qe::Qe::Qe::Qp::Qp::Qp::D.sl 15 N2 (fun i=>List.getD [ZI 2::Qe::ZI 2::D.str [102]::Qnb,Qnc] i []) Mode.full::Qm9
def Qne:List (List D):=[ZI 2::Qe::D.str [97]::Qe::Qe::Qe::Qe::JU::Qe::Qe::Qe::Qp::Qp::Qp::Qp::Qp::Qe::Qe::Qe::ZI Z1::Qe::ZI Z1::JU::Qe::Qe::ZI Z1::Qp::D.sl N1 N1 (fun i=>List.getD [[ZI Z1]] i []) Mode.full::Qna,ZI 2::Qe::D.str [102]::Qe::Qe::Qe::Qe::JU::Qe::Qe::Qe::Qp::Qp::Qp::Qp::Qp::Qe::Qe::Qe::ZI 10::Qe::ZI 2::JU::Qe::Qe::Qe::Qp::Qp::Qp::Qp::D.sl 34 N1 (fun i=>List.getD [ZI Z1::Qe::JU::Qe::Qe::Qe::Qe::JU::Qe::Qe::Qe::Qp::Qp::Qp::Qp::Qp::Qe::Qe::Qe::Qnc] i []) Mode.full::Qm8,ZI Z1::Qe::JU::Qe::Qe::Qe::Qe::JU::Qe::Qe::Qe::Qp::Qp::Qp::Qp::Qp::Qe::Qe::Qe::Qnd]
def Qc3(a b c d e f g h k l:Nat):Prop:=a≠b/\c≠b/\d≠b/\e≠b/\f≠b/\g≠b/\h≠b/\k≠b/\l≠b/\True
def Qc4:Sm:=Sm.mk Z0 Z0 [] Z0 Jr Jr
def Xm(a:Nat):Sm:=List.getD [Qm3,Sm.mk (2:Int) Z0 [(102:UInt8)] Z1 Jr (Nd.mk (10:Int) Z0 (2:Int) [] Z0 Z0 Jq [] [Sm.mk Z1 Z0 [] Z0 Jr (Nd.mk (2:Int) Z0 Z1 [(97:UInt8)] Z0 Z0 Jq [] [] Z1 Z0 Z0)] Z0 Z0 Z0),Sm.mk Z1 Z0 [] Z0 Jr (Nd.mk (4:Int) Z0 Z1 [] Z0 Z0 Jq (Nd.mk (2:Int) Z0 (2:Int) [(102:UInt8)] Z0 Z0 Jq [] [] Z0 Z1 Z0::Qm5) [] Z0 Z0 Z0)] a Qc4
def Qnf(a:Nat):Int:=Sm.kd (Xm a)
def Qng(a:Nat):Int:=Sm.at_ (Xm a)
def Qnh(a:Nat):List UInt8:=Sm.nm (Xm a)
def Qni(a:Nat):Int:=Sm.sl (Xm a)
def K0(a:Nat):Nd:=Sm.te (Xm a)
def Qnj(a:Nat):Int:=Nd.kd (K0 a)
def Qnk(a:Nat):Int:=Nd.at_ (K0 a)
def Qnl(a:Nat):Int:=Nd.cl (K0 a)
def Qnm(a:Nat):List UInt8:=Nd.tx (K0 a)
def Qnn(a:Nat):Int:=Nd.pr (K0 a)
def Qno(a:Nat):Int:=Nd.op (K0 a)
def HU(a:Nat):Arr:=Nd.va (K0 a)
def Qnp(a:Nat):Int:=Arr.k (HU a)
def Qnq(a:Nat):List Int:=Arr.sh (HU a)
def Qc5(a:Nat):Nat:=LN (Qnq a)
def Qnr(a b:Nat):Int:=GI (Qnq a) b
def Qns(a:Nat):List Int:=Arr.nu (HU a)
def Qc6(a:Nat):Nat:=LN (Qns a)
def Qnt(a b:Nat):Int:=GI (Qns a) b
def Qnu(a:Nat):List Arr:=Arr.it (HU a)
def Qc7(a:Nat):Nat:=LN (Qnu a)
def Qc8(a b:Nat):List D:=Arr.row (List.getD (Qnu a) b Jq)
def Qnv(a:Nat):List Nd:=Nd.ki (K0 a)
def Qc9(a:Nat):Nat:=LN (Qnv a)
def Qda(a b:Nat):List D:=Nd.row (List.getD (Qnv a) b Jr)
def Qnw(a:Nat):List Sm:=Nd.bo (K0 a)
def Qdb(a:Nat):Nat:=LN (Qnw a)
def Qdc(a b:Nat):List D:=Sm.row (List.getD (Qnw a) b Qc4)
def Qnx(a:Nat):Int:=Nd.de (K0 a)
def Qny(a:Nat):Int:=Nd.sl (K0 a)
def Qnz(a:Nat):Int:=Nd.ss (K0 a)
def K1(a:Nat):Nd:=Sm.nd (Xm a)
def QnA(a:Nat):Int:=Nd.kd (K1 a)
def QnB(a:Nat):Int:=Nd.at_ (K1 a)
def QnC(a:Nat):Int:=Nd.cl (K1 a)
def QnD(a:Nat):List UInt8:=Nd.tx (K1 a)
def QnE(a:Nat):Int:=Nd.pr (K1 a)
def QnF(a:Nat):Int:=Nd.op (K1 a)
def HV(a:Nat):Arr:=Nd.va (K1 a)
def QnG(a:Nat):Int:=Arr.k (HV a)
def QnH(a:Nat):List Int:=Arr.sh (HV a)
def Qdd(a:Nat):Nat:=LN (QnH a)
def QnI(a b:Nat):Int:=GI (QnH a) b
def QnJ(a:Nat):List Int:=Arr.nu (HV a)
def Qde(a:Nat):Nat:=LN (QnJ a)
def QnK(a b:Nat):Int:=GI (QnJ a) b
def QnL(a:Nat):List Arr:=Arr.it (HV a)
def Qdf(a:Nat):Nat:=LN (QnL a)
def Qdg(a b:Nat):List D:=Arr.row (List.getD (QnL a) b Jq)
def QnM(a:Nat):List Nd:=Nd.ki (K1 a)
def Qdh(a:Nat):Nat:=LN (QnM a)
def Qdi(a b:Nat):List D:=Nd.row (List.getD (QnM a) b Jr)
def QnN(a:Nat):List Sm:=Nd.bo (K1 a)
def Qdj(a:Nat):Nat:=LN (QnN a)
def Qdk(a b:Nat):List D:=Sm.row (List.getD (QnN a) b Qc4)
def QnO(a:Nat):Int:=Nd.de (K1 a)
def QnP(a:Nat):Int:=Nd.sl (K1 a)
def QnQ(a:Nat):Int:=Nd.ss (K1 a)
def Qte:D:=D.sl 34 (3:Nat) (fun i=>[ZI (Qnf i),ZI (Qng i),D.str (Qnh i),ZI (Qni i),ZI (Qnj i),ZI (Qnk i),ZI (Qnl i),D.str (Qnm i),ZI (Qnn i),ZI (Qno i),ZI (Qnp i),D.sl N1 (Qc5 i) (fun i_1=>[ZI (Qnr i i_1)]) Mode.any,D.sl N1 (Qc6 i) (fun i_1=>[ZI (Qnt i i_1)]) Mode.any,D.sl N4 (Qc7 i) (fun i_1=>Qc8 i i_1) Mode.any,D.sl 15 (Qc9 i) (fun i_1=>Qda i i_1) Mode.any,D.sl 34 (Qdb i) (fun i_1=>Qdc i i_1) Mode.any,ZI (Qnx i),ZI (Qny i),ZI (Qnz i),ZI (QnA i),ZI (QnB i),ZI (QnC i),D.str (QnD i),ZI (QnE i),ZI (QnF i),ZI (QnG i),D.sl N1 (Qdd i) (fun i_1=>[ZI (QnI i i_1)]) Mode.any,D.sl N1 (Qde i) (fun i_1=>[ZI (QnK i i_1)]) Mode.any,D.sl N4 (Qdf i) (fun i_1=>Qdg i i_1) Mode.any,D.sl 15 (Qdh i) (fun i_1=>Qdi i i_1) Mode.any,D.sl 34 (Qdj i) (fun i_1=>Qdk i i_1) Mode.any,ZI (QnO i),ZI (QnP i),ZI (QnQ i)]) Mode.any
def JG(a:Nat):Prop:=SM a/\SM Qte
def Qdl(a b c d e f g h k l m:Nat):Prop:=a≠b/\Qc3 c b d e f g h k l m
def Qq(a b c d e f g h k l m n:Nat):Prop:=a≠b/\Qdl c b d e f g h k l m n
def QnR:Prop:=isP Qm7 [D.agg [D.sl 34 N2 (fun i=>List.getD Qne (N1+i) []) Mode.any]] []
def QnS(a b c d e f g h:Nat):Prop:=SM a/\SM b/\SM c/\SM a/\SM d/\QT d/\∃(_x:Unit),isR Qm6 [D.agg Qnd] []/\∀(_y:Unit),True->SM e/\SM e/\SM f/\SM f/\SM g/\SM g/\SM h/\∃(_x:Unit),(((SM (3:Nat)/\(∀(i:Nat),i<3->SM (Qnf i)/\SM (Qng i)/\SM (Qnh i)/\SM (Qni i)/\SM (Qnj i)/\SM (Qnk i)/\SM (Qnl i)/\SM (Qnm i)/\SM (Qnn i)/\SM (Qno i)/\SM (Qnp i)/\(SM (Qc5 i)/\(∀(i_1:Nat),i_1<Qc5 i->SM (Qnr i i_1)/\True)/\True)/\(SM (Qc6 i)/\(∀(i_1:Nat),i_1<Qc6 i->SM (Qnt i i_1)/\True)/\True)/\(SM (Qc7 i)/\(∀(i_1:Nat),i_1<Qc7 i->wkL (Qc8 i i_1) (Qc8 i i_1))/\True)/\(SM (Qc9 i)/\(∀(i_1:Nat),i_1<Qc9 i->wkL (Qda i i_1) (Qda i i_1))/\True)/\(SM (Qdb i)/\(∀(i_1:Nat),i_1<Qdb i->wkL (Qdc i i_1) (Qdc i i_1))/\True)/\SM (Qnx i)/\SM (Qny i)/\SM (Qnz i)/\SM (QnA i)/\SM (QnB i)/\SM (QnC i)/\SM (QnD i)/\SM (QnE i)/\SM (QnF i)/\SM (QnG i)/\(SM (Qdd i)/\(∀(i_1:Nat),i_1<Qdd i->SM (QnI i i_1)/\True)/\True)/\(SM (Qde i)/\(∀(i_1:Nat),i_1<Qde i->SM (QnK i i_1)/\True)/\True)/\(SM (Qdf i)/\(∀(i_1:Nat),i_1<Qdf i->wkL (Qdg i i_1) (Qdg i i_1))/\True)/\(SM (Qdh i)/\(∀(i_1:Nat),i_1<Qdh i->wkL (Qdi i i_1) (Qdi i i_1))/\True)/\(SM (Qdj i)/\(∀(i_1:Nat),i_1<Qdj i->wkL (Qdk i i_1) (Qdk i i_1))/\True)/\SM (QnO i)/\SM (QnP i)/\SM (QnQ i)/\True)/\True)/\SM (2:Int)/\True)/\True)/\∀(_y:Unit),True->∃(_x:Unit),(((SM N0/\(∀(i:Nat),i<N0->False)/\True)/\SM Z1/\True)/\True)/\∀(_y:Unit),True->True/\∃(_y:Unit),True/\SM true/\True/\True
theorem BlA(hF:CD 16 [.agg lN.row1] (ssl [[97],[102]] .any)):CD 12 [] (.bool true):=by
 refine Bi (A:=sC _ _) (x:=()) (E:=Erk) (WI (BaT hF) (E9 (E:={ E0 Ba6 0 0 [] (fun _=>([],[])) with auto:=true }) Gn (BaT hF) mix CR Gx 9) rfl) Tryz.func12 rfl (by kernel_rfl) rfl (by simp[sC,Erk,EC,E0]) ?_
 refine Bj (T :=
  ∀(x:Nat),True->∀(x_1:Nat),x≠x_1/\True->SM x_1/\∀(x_2:Nat),x_1≠x_2/\x≠x_2/\True->SM x_2/\QT x_2/\∀(x_3:Nat),x_2≠x_3/\x_1≠x_3/\x≠x_3/\True->SM x_3/\∀(x_4:Nat),x_3≠x_4/\x_2≠x_4/\x_1≠x_4/\x≠x_4/\True->SM x_4/\QT x_4/\∀(x_5:Nat),x_4≠x_5/\x_3≠x_5/\x_2≠x_5/\x_1≠x_5/\x≠x_5/\True->SM x_5/\QT x_5/\∀(x_6:Nat),x_5≠x_6/\x_4≠x_6/\x_3≠x_6/\x_2≠x_6/\x_1≠x_6/\x≠x_6/\True->SM x_6/\SM x_1/\SM x_3/\SM x_6/\SM x/\QT x/\∃(x_7:Unit),isP (Qm3::Qm7) [D.agg [D.sl 34 (3:Nat) (fun i=>List.getD Qne i []) Mode.full]] []/\∀(y:Unit),True->∀(x_8:Nat),x_6≠x_8/\x_5≠x_8/\x_4≠x_8/\x_3≠x_8/\x_2≠x_8/\x_1≠x_8/\x≠x_8/\True->∀(x_9:Nat),x_8≠x_9/\x_6≠x_9/\x_5≠x_9/\x_4≠x_9/\x_3≠x_9/\x_2≠x_9/\x_1≠x_9/\x≠x_9/\True->SM x_8/\SM x_9/\SM x_9/\SM x_8/\SM x_8/\SM x_8/\SM x_8/\SM x_8/\SM x_8/\SM x_8/\(∀(x_10:Nat),Qc3 x_9 x_10 x_8 x_6 x_5 x_4 x_3 x_2 x_1 x->JG x_8/\JG x_8/\∀(x_11:Nat),Qdl x_10 x_11 x_9 x_8 x_6 x_5 x_4 x_3 x_2 x_1 x->JG x_8/\JG x_8/\SM x_10/\JG x_8/\SM x_11/\∀(x_12:Nat),Qq x_11 x_12 x_10 x_9 x_8 x_6 x_5 x_4 x_3 x_2 x_1 x->∀(x_13:Nat),x_12≠x_13/\Qq x_11 x_13 x_10 x_9 x_8 x_6 x_5 x_4 x_3 x_2 x_1 x->SM x_13/\∀(x_14:Nat),x_13≠x_14/\x_12≠x_14/\Qq x_11 x_14 x_10 x_9 x_8 x_6 x_5 x_4 x_3 x_2 x_1 x->SM x_14/\QT x_14/\∀(x_15:Nat),x_14≠x_15/\x_13≠x_15/\x_12≠x_15/\Qq x_11 x_15 x_10 x_9 x_8 x_6 x_5 x_4 x_3 x_2 x_1 x->SM x_15/\∀(x_16:Nat),x_15≠x_16/\x_14≠x_16/\x_13≠x_16/\x_12≠x_16/\Qq x_11 x_16 x_10 x_9 x_8 x_6 x_5 x_4 x_3 x_2 x_1 x->SM x_16/\QT x_16/\∀(x_17:Nat),x_16≠x_17/\x_15≠x_17/\x_14≠x_17/\x_13≠x_17/\x_12≠x_17/\Qq x_11 x_17 x_10 x_9 x_8 x_6 x_5 x_4 x_3 x_2 x_1 x->SM x_17/\QT x_17/\∀(x_18:Nat),x_17≠x_18/\x_16≠x_18/\x_15≠x_18/\x_14≠x_18/\x_13≠x_18/\x_12≠x_18/\Qq x_11 x_18 x_10 x_9 x_8 x_6 x_5 x_4 x_3 x_2 x_1 x->SM x_18/\SM x_13/\SM x_15/\SM x_18/\SM x_12/\QT x_12/\∃(x_19:Unit),QnR/\∀(y:Unit),True->∀(x_20:Nat),x_18≠x_20/\x_17≠x_20/\x_16≠x_20/\x_15≠x_20/\x_14≠x_20/\x_13≠x_20/\x_12≠x_20/\Qq x_11 x_20 x_10 x_9 x_8 x_6 x_5 x_4 x_3 x_2 x_1 x->∀(x_21:Nat),x_20≠x_21/\x_18≠x_21/\x_17≠x_21/\x_16≠x_21/\x_15≠x_21/\x_14≠x_21/\x_13≠x_21/\x_12≠x_21/\Qq x_11 x_21 x_10 x_9 x_8 x_6 x_5 x_4 x_3 x_2 x_1 x->SM x_20/\SM x_21/\∀(x_22:Nat),x_21≠x_22/\x_20≠x_22/\x_18≠x_22/\x_17≠x_22/\x_16≠x_22/\x_15≠x_22/\x_14≠x_22/\x_13≠x_22/\x_12≠x_22/\Qq x_11 x_22 x_10 x_9 x_8 x_6 x_5 x_4 x_3 x_2 x_1 x->∀(x_23:Nat),x_22≠x_23/\x_21≠x_23/\x_20≠x_23/\x_18≠x_23/\x_17≠x_23/\x_16≠x_23/\x_15≠x_23/\x_14≠x_23/\x_13≠x_23/\x_12≠x_23/\Qq x_11 x_23 x_10 x_9 x_8 x_6 x_5 x_4 x_3 x_2 x_1 x->SM x_23/\∀(x_24:Nat),x_23≠x_24/\x_22≠x_24/\x_21≠x_24/\x_20≠x_24/\x_18≠x_24/\x_17≠x_24/\x_16≠x_24/\x_15≠x_24/\x_14≠x_24/\x_13≠x_24/\x_12≠x_24/\Qq x_11 x_24 x_10 x_9 x_8 x_6 x_5 x_4 x_3 x_2 x_1 x->SM x_24/\QT x_24/\∀(x_25:Nat),x_24≠x_25/\x_23≠x_25/\x_22≠x_25/\x_21≠x_25/\x_20≠x_25/\x_18≠x_25/\x_17≠x_25/\x_16≠x_25/\x_15≠x_25/\x_14≠x_25/\x_13≠x_25/\x_12≠x_25/\Qq x_11 x_25 x_10 x_9 x_8 x_6 x_5 x_4 x_3 x_2 x_1 x->SM x_25/\∀(x_26:Nat),x_25≠x_26/\x_24≠x_26/\x_23≠x_26/\x_22≠x_26/\x_21≠x_26/\x_20≠x_26/\x_18≠x_26/\x_17≠x_26/\x_16≠x_26/\x_15≠x_26/\x_14≠x_26/\x_13≠x_26/\x_12≠x_26/\Qq x_11 x_26 x_10 x_9 x_8 x_6 x_5 x_4 x_3 x_2 x_1 x->SM x_26/\QT x_26/\∀(x_27:Nat),x_26≠x_27/\x_25≠x_27/\x_24≠x_27/\x_23≠x_27/\x_22≠x_27/\x_21≠x_27/\x_20≠x_27/\x_18≠x_27/\x_17≠x_27/\x_16≠x_27/\x_15≠x_27/\x_14≠x_27/\x_13≠x_27/\x_12≠x_27/\Qq x_11 x_27 x_10 x_9 x_8 x_6 x_5 x_4 x_3 x_2 x_1 x->SM x_27/\QT x_27/\∀(x_28:Nat),x_27≠x_28/\x_26≠x_28/\x_25≠x_28/\x_24≠x_28/\x_23≠x_28/\x_22≠x_28/\x_21≠x_28/\x_20≠x_28/\x_18≠x_28/\x_17≠x_28/\x_16≠x_28/\x_15≠x_28/\x_14≠x_28/\x_13≠x_28/\x_12≠x_28/\Qq x_11 x_28 x_10 x_9 x_8 x_6 x_5 x_4 x_3 x_2 x_1 x->QnS x_28 x_23 x_25 x_22 x_10 x_11 x_21 x_8)/\∀(x_10:Nat),Qc3 x_9 x_10 x_8 x_6 x_5 x_4 x_3 x_2 x_1 x->JG x_8/\JG x_8/\∀(x_11:Nat),Qdl x_10 x_11 x_9 x_8 x_6 x_5 x_4 x_3 x_2 x_1 x->JG x_8/\JG x_8/\SM x_11/\JG x_8/\SM x_10/\∀(x_12:Nat),Qq x_11 x_12 x_10 x_9 x_8 x_6 x_5 x_4 x_3 x_2 x_1 x->∀(x_13:Nat),x_12≠x_13/\Qq x_11 x_13 x_10 x_9 x_8 x_6 x_5 x_4 x_3 x_2 x_1 x->SM x_13/\∀(x_14:Nat),x_13≠x_14/\x_12≠x_14/\Qq x_11 x_14 x_10 x_9 x_8 x_6 x_5 x_4 x_3 x_2 x_1 x->SM x_14/\QT x_14/\∀(x_15:Nat),x_14≠x_15/\x_13≠x_15/\x_12≠x_15/\Qq x_11 x_15 x_10 x_9 x_8 x_6 x_5 x_4 x_3 x_2 x_1 x->SM x_15/\∀(x_16:Nat),x_15≠x_16/\x_14≠x_16/\x_13≠x_16/\x_12≠x_16/\Qq x_11 x_16 x_10 x_9 x_8 x_6 x_5 x_4 x_3 x_2 x_1 x->SM x_16/\QT x_16/\∀(x_17:Nat),x_16≠x_17/\x_15≠x_17/\x_14≠x_17/\x_13≠x_17/\x_12≠x_17/\Qq x_11 x_17 x_10 x_9 x_8 x_6 x_5 x_4 x_3 x_2 x_1 x->SM x_17/\QT x_17/\∀(x_18:Nat),x_17≠x_18/\x_16≠x_18/\x_15≠x_18/\x_14≠x_18/\x_13≠x_18/\x_12≠x_18/\Qq x_11 x_18 x_10 x_9 x_8 x_6 x_5 x_4 x_3 x_2 x_1 x->SM x_18/\SM x_13/\SM x_15/\SM x_18/\SM x_12/\QT x_12/\∃(x_19:Unit),QnR/\∀(y:Unit),True->∀(x_20:Nat),x_18≠x_20/\x_17≠x_20/\x_16≠x_20/\x_15≠x_20/\x_14≠x_20/\x_13≠x_20/\x_12≠x_20/\Qq x_11 x_20 x_10 x_9 x_8 x_6 x_5 x_4 x_3 x_2 x_1 x->∀(x_21:Nat),x_20≠x_21/\x_18≠x_21/\x_17≠x_21/\x_16≠x_21/\x_15≠x_21/\x_14≠x_21/\x_13≠x_21/\x_12≠x_21/\Qq x_11 x_21 x_10 x_9 x_8 x_6 x_5 x_4 x_3 x_2 x_1 x->SM x_20/\SM x_21/\∀(x_22:Nat),x_21≠x_22/\x_20≠x_22/\x_18≠x_22/\x_17≠x_22/\x_16≠x_22/\x_15≠x_22/\x_14≠x_22/\x_13≠x_22/\x_12≠x_22/\Qq x_11 x_22 x_10 x_9 x_8 x_6 x_5 x_4 x_3 x_2 x_1 x->∀(x_23:Nat),x_22≠x_23/\x_21≠x_23/\x_20≠x_23/\x_18≠x_23/\x_17≠x_23/\x_16≠x_23/\x_15≠x_23/\x_14≠x_23/\x_13≠x_23/\x_12≠x_23/\Qq x_11 x_23 x_10 x_9 x_8 x_6 x_5 x_4 x_3 x_2 x_1 x->SM x_23/\∀(x_24:Nat),x_23≠x_24/\x_22≠x_24/\x_21≠x_24/\x_20≠x_24/\x_18≠x_24/\x_17≠x_24/\x_16≠x_24/\x_15≠x_24/\x_14≠x_24/\x_13≠x_24/\x_12≠x_24/\Qq x_11 x_24 x_10 x_9 x_8 x_6 x_5 x_4 x_3 x_2 x_1 x->SM x_24/\QT x_24/\∀(x_25:Nat),x_24≠x_25/\x_23≠x_25/\x_22≠x_25/\x_21≠x_25/\x_20≠x_25/\x_18≠x_25/\x_17≠x_25/\x_16≠x_25/\x_15≠x_25/\x_14≠x_25/\x_13≠x_25/\x_12≠x_25/\Qq x_11 x_25 x_10 x_9 x_8 x_6 x_5 x_4 x_3 x_2 x_1 x->SM x_25/\∀(x_26:Nat),x_25≠x_26/\x_24≠x_26/\x_23≠x_26/\x_22≠x_26/\x_21≠x_26/\x_20≠x_26/\x_18≠x_26/\x_17≠x_26/\x_16≠x_26/\x_15≠x_26/\x_14≠x_26/\x_13≠x_26/\x_12≠x_26/\Qq x_11 x_26 x_10 x_9 x_8 x_6 x_5 x_4 x_3 x_2 x_1 x->SM x_26/\QT x_26/\∀(x_27:Nat),x_26≠x_27/\x_25≠x_27/\x_24≠x_27/\x_23≠x_27/\x_22≠x_27/\x_21≠x_27/\x_20≠x_27/\x_18≠x_27/\x_17≠x_27/\x_16≠x_27/\x_15≠x_27/\x_14≠x_27/\x_13≠x_27/\x_12≠x_27/\Qq x_11 x_27 x_10 x_9 x_8 x_6 x_5 x_4 x_3 x_2 x_1 x->SM x_27/\QT x_27/\∀(x_28:Nat),x_27≠x_28/\x_26≠x_28/\x_25≠x_28/\x_24≠x_28/\x_23≠x_28/\x_22≠x_28/\x_21≠x_28/\x_20≠x_28/\x_18≠x_28/\x_17≠x_28/\x_16≠x_28/\x_15≠x_28/\x_14≠x_28/\x_13≠x_28/\x_12≠x_28/\Qq x_11 x_28 x_10 x_9 x_8 x_6 x_5 x_4 x_3 x_2 x_1 x->QnS x_28 x_23 x_25 x_22 x_11 x_10 x_21 x_8) (by kernel_rfl) ?_
 delta DA GI LN N0 N1 N2 N4 SM Z0 Z1 ZI QT Jq Qp Qm8 Qm9 Qna Qnb Qnc Qnd Qne Qc3 Qc4 Jr Xm Qnf Qng Qnh Qni K0 Qnj Qnk Qnl Qnm Qm3 Qnn Qno HU Qnp Qnq Qc5 Qnr Qns Qc6 Qnt Qm4 Qnu Qc7 Qc8 Qnv Qc9 Qda Qnw Qdb Qdc Qnx Qm5 Qny Qnz K1 QnA QnB QnC QnD QnE QnF HV Qm6 QnG QnH Qdd QnI QnJ Qde QnK QnL Qdf Qdg Qm7 QnM Qdh Qdi QnN Qdj Qdk QnO QnP QnQ Qte Qe JG Qdl Qq QnR QnS JU
 simp only[eq_self,ne_eq,implies_true,true_and,and_true,exists_const,forall_const]
 repeat' first | exact BiR MG _ (by kernel_rfl) | exact Bj0 lN _ (by kernel_rfl) | exact BkC TK rfl (by simp[BB]) (fun i hi=>match i,hi with | 0,_=>by kernel_rfl | 1,_=>by kernel_rfl) | exact Bc _ | exact absurd trivial ‹¬True› | rfl | apply And.intro | intro _
 all_goals exact absurd ‹(_:Nat)<0› (Nat.not_lt_zero _)
noncomputable def Ekd:Senv:={ EC CM 19 6 [7] (fun _=>([],[])) with unr:=fun _=>4,inl:=MS { E0 CM 0 0 [] (fun _=>([],[])) with auto:=true } (Ee G3) 12 }
theorem BlD:CD 31 [.agg lN.row1,.int .i64 60] (.bool false):=by
 refine Bi (A:=sC _ _) (x:=()) (E:=Ekd) (WI BE (E9 (E:={ E0 CM 0 0 [] (fun _=>([],[])) with auto:=true }) Gn BE mix CR Gx 12) rfl) Tryz.func31 rfl (by kernel_rfl) rfl (by simp[sC,Ekd,EC,E0]) ?_
 refine Bj (T :=
  ∀(x:Nat),True->∀(x_1:Nat),x≠x_1/\True->SM x_1/\∀(x_2:Nat),x_1≠x_2/\x≠x_2/\True->SM x_2/\SM x/\SM x_2/\∀(x_3:Nat),x_2≠x_3/\x_1≠x_3/\x≠x_3/\True->SM x_3/\SM x_1/\∀(x_4:Nat),x_3≠x_4/\x_2≠x_4/\x_1≠x_4/\x≠x_4/\True->∀(x_5:Nat),x_4≠x_5/\x_3≠x_5/\x_2≠x_5/\x_1≠x_5/\x≠x_5/\True->SM x_5/\∀(x_6:Nat),x_5≠x_6/\x_4≠x_6/\x_3≠x_6/\x_2≠x_6/\x_1≠x_6/\x≠x_6/\True->SM x_6/\SM x_4/\SM x_6/\True/\True/\SM x_4/\True/\True/\True/\True/\∀(x_7:Nat),x_6≠x_7/\x_5≠x_7/\x_4≠x_7/\x_3≠x_7/\x_2≠x_7/\x_1≠x_7/\x≠x_7/\True->SM x_7/\SM x_1/\∀(x_8:Nat),x_7≠x_8/\x_6≠x_8/\x_5≠x_8/\x_4≠x_8/\x_3≠x_8/\x_2≠x_8/\x_1≠x_8/\x≠x_8/\True->∀(x_9:Nat),x_8≠x_9/\x_7≠x_9/\x_6≠x_9/\x_5≠x_9/\x_4≠x_9/\x_3≠x_9/\x_2≠x_9/\x_1≠x_9/\x≠x_9/\True->SM x_9/\∀(x_10:Nat),x_9≠x_10/\x_8≠x_10/\x_7≠x_10/\x_6≠x_10/\x_5≠x_10/\x_4≠x_10/\x_3≠x_10/\x_2≠x_10/\x_1≠x_10/\x≠x_10/\True->SM x_10/\SM x_8/\SM x_10/\True/\True/\SM x_8/\True/\True/\True/\True/\True/\True/\SM x/\True/\True/\RT (SM false)) (by kernel_rfl) ?_
 delta SM RT
 simp only[eq_self,ne_eq,implies_true,and_true,exists_const]
noncomputable def Ekl:Senv:={ EC CM 8 1 [2] (fun _=>([],[])) with unr:=fun _=>4,inl:=MS { E0 CM 0 0 [] (fun _=>([],[])) with auto:=true } (Ee G3) 12 }
theorem BlM:CD 60 [.int .u64 2] (.int .i64 2):=by
 refine Bi (A:=sC _ _) (x:=()) (E:=Ekl) (WI BE (E9 (E:={ E0 CM 0 0 [] (fun _=>([],[])) with auto:=true }) Gn BE mix CR Gx 12) rfl) Tryz.func60 rfl (by kernel_rfl) rfl (by simp[sC,Ekl,EC,E0]) ?_
 refine Bj (T :=
  True/\RT (SM (2:Int))) (by kernel_rfl) ?_
 delta SM RT
 simp only[eq_self,and_true,exists_const]
noncomputable def frO(k:Nat):Option Frm:=match Ee G3 k with
 |some A=>some { A with own:=fun t=>Nat.beq t 49 }
 |none=>none
theorem Blk:FrmOk Tryz.prog frO:=fun k A h=>by
 unfold frO at h
 split at h
 ·rename_i B hB
  injection h with h
  subst h
  exact CR k B hB
 ·cases h
def Bck:Con:=fun k ds S=>match k with
 |31=>some (pA ds S (.bool false) (wkL ds [.agg lN.row1,.int .i64 60]))
 |60=>some (pA ds S (.int .i64 2) (ds=[.int .u64 2]))
 |_=>none
noncomputable def Ekf:Senv:={ EC Bck 14 5 [6] (fun _=>([],[])) with
 unr:=fun _=>4
 gz:=fun r=>match r with
  |6=>[.slot 4]
  |_=>[],inl:=MS { E0 Bck 0 0 [] (fun _=>([],[])) with auto:=true } frO 12 }
theorem BbE:ConOk Tryz.prog Bck:=by
 intro k ds S A hh
 unfold Bck at hh
 split at hh
 ·injection hh with hh;subst hh
  exact Bs fun e=>CD.at_ (CD.wk BlD e) _
 ·injection hh with hh;subst hh
  exact Bs fun e=>by rw[e];exact CD.at_ BlM _
 ·cases hh
def QB:Prop:=SM Z0
def HW:Prop:=Cw (List UInt8) [] []
def Vj:Prop:=SM N0/\(∀(i:Nat),i<N0->SM (GI [] i)/\True)/\True
def Yt:Prop:=SM N0/\(∀(i:Nat),i<N0->True)/\True
def Qdm:Prop:=SM N0/\(∀(i:Nat),i<N0->QB/\Vj/\Vj/\Yt/\True)/\True
def Qdn:Arr:=DA
def QnT(a:Nat):List D:=Nd.row (List.getD [Nd.mk (2:Int) Z0 (2:Int) [(102:UInt8)] Z0 Z0 Qdn [] [] Z0 Z0 Z0,Nd.mk (2:Int) Z0 Z1 [(97:UInt8)] Z0 Z0 Qdn [] [] Z0 Z0 Z0] a (Nd.mk Z0 Z0 Z0 [] Z0 Z0 Qdn [] [] Z0 Z0 Z0))
def QnU:Prop:=QB/\QB/\QB/\True
def QnV(a:Nat):List D:=ET (ET (fun i=>if i<N1 then [D.str (List.getD [[(102:UInt8)]] i [])] else [D.str (List.getD [[(97:UInt8)]] (i-N1) [])]) N1 [D.str [102]]) N0 [D.str [97]] a
theorem Bl7:CD 16 [.agg lN.row1] (ssl [[97],[102]] .any):=by
 refine CD.ofW (CK (E:=Ekf) (WI BbE (E9 (E:={ E0 Bck 0 0 [] (fun _=>([],[])) with auto:=true }) Gn BbE mix Blk Gx 12) rfl) Tryz.func16 rfl (by kernel_rfl) rfl (by simp[Ekf,EC,E0]) ?_)
 refine Bj (T :=
  ∀(x:Nat),True->SM x/\∃(x_1:Unit),((SM (4:Int)/\QB/\SM Z1/\HW/\QB/\QB/\QB/\Vj/\Vj/\Qdm/\(SM N2/\(∀(i:Nat),i<N2->wkL (QnT i) (QnT i))/\True)/\(SM N0/\(∀(i:Nat),i<N0->QB/\QB/\HW/\QB/\QB/\QB/\QB/\HW/\QB/\QB/\QB/\Vj/\Vj/\Qdm/\Yt/\Yt/\QB/\QB/\QB/\QB/\QB/\QB/\HW/\QB/\QB/\QB/\Vj/\Vj/\Qdm/\Yt/\Yt/\QnU)/\True)/\QnU)/\SM (60:Int)/\True)/\∀(y:Unit),True->SM x/\∀(x_2:Nat),x≠x_2/\True->SM x_2/\SM x_2/\∀(x_3:Nat),x_2≠x_3/\x≠x_3/\True->SM x_3/\SM x_3/\∀(x_4:Nat),x_3≠x_4/\x_2≠x_4/\x≠x_4/\True->SM x_4/\SM x_4/\True/\SM x_4/\∀(y cap':Nat),x_4≠y/\x_3≠y/\x_2≠y/\x≠y/\True->N1<=cap'->SM x_4/\SM x_4/\True/\∀(x_5:Nat),y≠x_5/\x_4≠x_5/\x_3≠x_5/\x_2≠x_5/\x≠x_5/\True->SM x_5/\SM x_5/\∀(x_6:Nat),x_5≠x_6/\y≠x_6/\x_4≠x_6/\x_3≠x_6/\x_2≠x_6/\x≠x_6/\True->SM x_6/\SM x_6/\True/\SM x_6/\SM y/\SM cap'/\∀(y cap':Nat),N2<=cap'->SM x_6/\SM x_6/\True/\SM x_2/\True/\∃(x:Unit),SM [D.int IntKind.u64 (2:Int)]/\∀(y_1:Unit),True->SM y/\SM y/\True/\True/\SM y/\SM y/\SM y/\SM y/\True/\True/\True/\SM y/\SM cap'/\(∀(i:Nat),i<N2->(List.all (QnV i) fun (x:D)=>match x with | D.unk=>false | D.agg cs=>false | D.tup ds=>false | x=>true)=true)/\∀(t:Nat),True/\True/\SM N2/\(∀(i:Nat),i<N2->wkL (QnV i) [D.str (List.getD [[(97:UInt8)],[(102:UInt8)]] i [])])/\True) (by kernel_rfl) ?_
 delta DA GI N0 N1 N2 SM Z0 Z1 QB HW Vj Yt Qdm Qdn QnT QnU QnV
 simp only[eq_self,ne_eq,implies_true,true_and,and_true,exists_const,forall_const]
 repeat' first | exact Bc _ | apply And.intro | intro _
 ·rename_i i hi
  match i,hi with
  |0,_=>rfl
  |1,_=>rfl
 ·rename_i i hi
  match i,hi with
  |0,_=>exact Bc _
  |1,_=>exact Bc _
theorem Bkz:CD 12 [] (.bool true):=BlA Bl7
open Go Go.Ab Go.RowKit
theorem own:ownKnob Tryz.prog.godebug=none:=by kernel_rfl
theorem laid:laidOutB Tryz.prog=true:=by kernel_rfl
def UZ:List (String×DataW Unit):=[]
theorem T1{W:World}(_:laidMetH Tryz.prog UZ W):G0 W:=trivial
noncomputable def Gb(os:Os):World:=World.holding Tryz.prog os ⟨#[],#[],[]⟩
def TSl:List Nat:=List.range 199
theorem Bkl:∀t∈TSl,UF Tryz.prog TSl t=true:=List.all_eq_true.1 (show TSl.all (UF Tryz.prog TSl)=true by kernel_rfl)
theorem Rj{α:Type}{o:Option α}{p:α->Bool}(h:(match o with | some x=>p x | none=>false)=true):∃x,o=some x/\p x=true:=by
 cases o with
 |none=>cases h
 |some x=>exact⟨x,rfl,h⟩
mutual
/-- The names in a node that no open body defines,in the order of their places. -/
def fnN(sc:Scp):Nd->List (List UInt8)
 |.mk kd _ _ tx _ _ _ ki bo _ _ _=>(if kd=2 then (match Bp tx sc with | none=>[tx] | some _=>[]) else [])++(fnL sc ki++fnB sc [] bo)
def fnL(sc:Scp):List Nd->List (List UInt8)
 | []=>[]
 |x::r=>fnN sc x++fnL sc r
def fnB(sc:Scp)(f:Frm1):List Sm->List (List UInt8)
 | []=>[]
 |s::r=>fnM (f::sc) s++fnB sc (Ce f s) r
def fnM(sc:Scp):Sm->List (List UInt8)
 |.mk kd _ _ _ te nd=>(if kd=3 then fnN sc te else [])++fnN sc nd
end
theorem Ban(sc:Scp)(s:Sm):fnM sc s=(if s.kd=3 then fnN sc s.te else [])++fnN sc s.nd:=by
 cases s
 rw[fnM]
 rfl
mutual
theorem GP:∀(n:Nd) (sc:Scp),(fnN sc n).length<=szN n
 |.mk kd _ _ tx _ _ _ ki bo _ _ _,sc=>by
  rw[fnN,szN]
  have h1:=Bef ki sc
  have h2:=BeK bo sc []
  have h3:(if kd=2 then (match Bp tx sc with | none=>[tx] | some _=>[]) else ([]:List (List UInt8))).length<=1:=by
   split
   ·split<;>simp
   ·simp
  simp only[List.length_append]
  omega
theorem Bef:∀(l:List Nd) (sc:Scp),(fnL sc l).length<=szL l
 | [],_=>by rw[fnL,szL];simp
 |x::r,sc=>by
  rw[fnL,szL,List.length_append]
  have:=GP x sc
  have:=Bef r sc
  omega
theorem BeK:∀(l:List Sm) (sc:Scp) (f:Frm1),(fnB sc f l).length<=szB l
 | [],_,_=>by rw[fnB,szB];simp
 |s::r,sc,f=>by
  rw[fnB,szB,List.length_append]
  have:=BeK r sc (Ce f s)
  have:=BjO s (f::sc)
  omega
theorem BjO:∀(s:Sm) (sc:Scp),(fnM sc s).length<=szM s
 |.mk kd _ _ _ te nd,sc=>by
  rw[fnM,szM,List.length_append]
  have:=GP te sc
  have:=GP nd sc
  by_cases h:kd=3
  ·rw[if_pos h,if_pos h];omega
  ·rw[if_neg h,if_neg h];simp only[List.length_nil];omega
end
def CC(s:List UInt8):List (List UInt8)->List (List UInt8)
 | []=>[s]
 |x::r=>if x<s then x::CC s r else if x=s then x::r else s::x::r
def CY(L:List (List UInt8))(ns:List (List UInt8)):List (List UInt8):=ns.foldl (fun a s=>CC s a) L
theorem Wl(s:List UInt8):∀L,(CC s L).length<=L.length+1
 | []=>by simp[CC]
 |x::r=>by
  rw[CC]
  have:=Wl s r
  split
  ·simp only[List.length_cons];omega
  ·split<;>simp
theorem G5:∀(ns L:List (List UInt8)),(CY L ns).length<=L.length+ns.length
 | [],L=>by simp[CY]
 |s::ns,L=>by
  have h1:=G5 ns (CC s L)
  have h2:=Wl s L
  show (CY (CC s L) ns).length<=_
  simp only[List.length_cons]
  omega
theorem UQ(L a b:List (List UInt8)):CY L (a++b)=CY (CY L a) b:=by
 unfold CY
 rw[List.foldl_append]
structure AtI (s:List UInt8) (L:List (List UInt8)) (i:Nat):Prop where
 le:i<=L.length
 eq:CC s L=L.take i++CC s (L.drop i)
theorem AtI.zero(s:List UInt8)(L:List (List UInt8)):AtI s L 0:=⟨Nat.zero_le _,by simp⟩
theorem AtI.step{s:List UInt8}{L:List (List UInt8)}{i:Nat}(h:AtI s L i)(hi:i<L.length)(hlt:L.getD i []<s):AtI s L (i+1):=by
 refine⟨hi,?_⟩
 have hd:L.drop i=L.getD i []::L.drop (i+1):=by
  rw[List.drop_eq_getElem_cons hi]
  simp[List.getD_eq_getElem?_getD,hi]
 have ht:L.take (i+1)=L.take i++[L.getD i []]:=by
  rw[List.take_succ_eq_append_getElem hi]
  simp[List.getD_eq_getElem?_getD,hi]
 rw[h.eq,hd,CC,if_pos hlt,ht]
 simp
theorem AtI.new{s:List UInt8}{L:List (List UInt8)}{i:Nat}(h:AtI s L i)(hn:i<L.length->¬L.getD i []<s/\¬L.getD i []=s):CC s L=(L.take i++[s])++L.drop i:=by
 by_cases hi:i<L.length
 ·have hd:L.drop i=L.getD i []::L.drop (i+1):=by
   rw[List.drop_eq_getElem_cons hi]
   simp[List.getD_eq_getElem?_getD,hi]
  rw[h.eq,hd,CC,if_neg (hn hi).1,if_neg (hn hi).2]
  simp
 ·have:L.drop i=[]:=List.drop_eq_nil_of_le (by omega)
  rw[h.eq,this,CC]
  simp
def BZ:Nat:=9+1
def VFr(sc:Scp)(n:Nd):Prop:=∀(L:List (List UInt8)) (t:Nat),Bx t=BZ->L.length+(fnN sc n).length<=1000000000 ->
 ACalls Tryz.prog 32 [frD sc,.agg n.row2,ssl L (.tok 0 t)] ⟨[],[(0,t)]⟩ (fun r S'=>∃t',Bx t'=BZ/\r=.ret (ssl (L++fnN sc n) (.tok 0 t'))/\S'=⟨[],[(0,t')]⟩)
def okF(sc:Scp):Prop:=(∀f∈sc,f.length<=1000000)/\sc.length<=1000000
theorem VFr.down{sc : Scp}{n : Nd}(h : VFr sc n){L : List (List UInt8)}{t : Nat}(ht : Bx t=BZ)(hl : L.length+(fnN sc n).length<=1000000000){d : D}(hd : wkD d (ssl L (.tok 0 t))) :
  ACalls Tryz.prog 32 [frD sc,.agg n.row1,d] ⟨[],[(0,t)]⟩ (fun r S'=>∃t',Bx t'=BZ/\r=.ret (ssl (L++fnN sc n) (.tok 0 t'))/\S'=⟨[],[(0,t')]⟩):=by
 refine (h L t ht hl).wkArgs ?_
 simp only[wkL,wkD]
 exact⟨Bb _,GC n,hd,trivial⟩
noncomputable def _root_.Go.Ab.inlF(con:Con)(sc:Scp)(k:Nat)(ds:List D)(S:St)(R:AEnd->St->Prop):Prop :=
 match Nat.beq k 32 with
 |true=>match ds with
  | [.ref kx x 0,a,.sl 1 m F (.tok 0 t)]=>match IQ S.toks 0 with
   |some u=>match BG S.objs kx with
    |some (y,.cells cs)=>(cs.all M0&&cs.all B2)=true/\∃z:Frm1×Nd×List (List UInt8),(u=t/\y=x/\wkL cs (frR z.1 sc)/\a=.agg z.2.1.row1/\wkD (.sl 1 m F (.tok 0 t)) (ssl z.2.2 (.tok 0 t))/\VFr (z.1::sc) z.2.1/\Bx t=BZ/\z.2.2.length+(fnN (z.1::sc) z.2.1).length<=1000000000)/\∀t',Bx t'=BZ->R (.ret (ssl (z.2.2++fnN (z.1::sc) z.2.1) (.tok 0 t'))) ⟨S.objs,(0,t')::Cp S.toks 0⟩
    |_=>False
   |none=>False
  | [f,a,.sl 1 m F (.tok 0 t)]=>match IQ S.toks 0 with
   |some u=>∃z:Nd×List (List UInt8),(u=t/\f=frD sc/\a=.agg z.1.row1/\wkD (.sl 1 m F (.tok 0 t)) (ssl z.2 (.tok 0 t))/\VFr sc z.1/\Bx t=BZ/\z.2.length+(fnN sc z.1).length<=1000000000)/\∀t',Bx t'=BZ->R (.ret (ssl (z.2++fnN sc z.1) (.tok 0 t'))) ⟨S.objs,(0,t')::Cp S.toks 0⟩
   |none=>False
  |_=>False
 |false=>match Nat.beq k 58 with
  |true=>match ds with
   | [f,.str nm]=>(f=frD sc/\okF sc)/\(Bp nm sc=none->R (.ret (.tup [.nilp,.int .i64 (sc.length:Nat)])) S)/\∀(d:Int) (row:List D),Bp nm sc≠none->R (.ret (.tup [.pt row,.int .i64 d])) S
   |_=>False
  |false=>MS { E0 con 0 0 [] (fun _=>([],[])) with auto:=true } (Ee G3) 9 k ds S R
theorem Blh(nm:List UInt8):CD 58 [.nilp,.str nm] (.tup [.nilp,.int .i64 0]):=by
 refine CD.ofW (CK (E:={ EC CM 25 2 [4,5,6,16] (fun _=>([],[])) with unr:=fun _=>2 }) (eOk BE rfl) Tryz.func58 rfl (by kernel_rfl) rfl (by simp[EC,E0]) ?_)
 refine Bj (T :=
  True/\True/\SM Z0/\True) (by kernel_rfl) ?_
 delta SM Z0
 simp only[eq_self,and_true]
 try trivial
theorem Bfm{S:St}{t:Nat}(h:IQ S.toks 0=some t):S.toks.Perm ((0,t)::Cp S.toks 0):=by
 obtain ⟨l1,l2,e1,e2⟩:=Gs h
 rw[e2,e1]
 exact List.perm_middle
theorem VFr.toks{sc : Scp}{n : Nd}(h : VFr sc n){L : List (List UInt8)}{t : Nat}(ht : Bx t=BZ)(hl : L.length+(fnN sc n).length<=1000000000){d : D}(hd : wkD d (ssl L (.tok 0 t))){S : St}(hg : IQ S.toks 0=some t)(os : List (Nat×Nat×AObj)) :
  ACalls Tryz.prog 32 [frD sc,.agg n.row1,d] ⟨os,S.toks⟩ (fun r S'=>∃t',Bx t'=BZ/\r=.ret (ssl (L++fnN sc n) (.tok 0 t'))/\S'=⟨os,(0,t')::Cp S.toks 0⟩):=by
 refine (((h.down ht hl hd).frame ⟨os,Cp S.toks 0⟩).perm (S':=⟨os,S.toks⟩) (by simp[St.add]) (by simpa[St.add] using Bfm hg)).mono ?_
 rintro r S' ⟨S0,⟨t',h1,h2,rfl⟩,rfl⟩
 exact⟨t',h1,h2,by simp[St.add]⟩
theorem BfP(L:List (List UInt8))(m:Ab.Mode):BT (ssl L m):=by
 simp only[ssl,BT,It,B6,Ru]
 exact fun i _=>⟨trivial,trivial,trivial⟩
theorem Bd0{con:Con}(hc:ConOk Tryz.prog con)(sc:Scp)(k:Nat)(ds:List D)(S:St)(R:AEnd->St->Prop)(h:Go.Ab.inlF con sc k ds S R):ACalls Tryz.prog k ds S R:=by
 unfold Go.Ab.inlF at h
 split at h
 ·rename_i hk
  have hk:=Nat.eq_of_beq_eq_true hk
  subst hk
  split at h
  ·rename_i kx x a m F t
   split at h
   ·rename_i u hu
    split at h
    ·rename_i y cs hg
     obtain ⟨h0,⟨f,b,L⟩,⟨rfl,rfl,h1,rfl,h2,h3,h4,h5⟩,h6⟩:=h
     simp only[Bool.and_eq_true] at h0
     simp only at h1 h2 h3 h5 h6
     have h7:=ACalls.lendT_at (P:=Tryz.prog) (k:=kx) (x:=y) (cs:=cs) (cs':=frR f sc) (rest:=[.agg b.row1,.sl 1 m F (.tok 0 u)]) (S:=S) (R:=fun r T'=>∃t',Bx t'=BZ/\r=.ret (ssl (L++fnN (f::sc) b) (.tok 0 t'))/\T'=(0,t')::Cp S.toks 0) hg h0.1 h0.2 h1 (by
      have:=VFr.toks h3 h4 h5 h2 hu []
      rw[Ws] at this
      refine this.mono ?_
      rintro r S' ⟨t',q1,q2,rfl⟩
      exact⟨rfl,t',q1,q2,rfl⟩) (by
      rintro r T' ⟨t',_,rfl,_⟩
      exact BfP (L++fnN (f::sc) b) (.tok 0 t'))
     refine h7.mono ?_
     rintro r S' ⟨T',⟨t',q1,rfl,rfl⟩,rfl⟩
     exact h6 t' q1
    ·exact h.elim
   ·exact h.elim
  ·rename_i f a m F t _
   split at h
   ·rename_i u hu
    obtain ⟨⟨b,L⟩,⟨rfl,rfl,rfl,h2,h3,h4,h5⟩,h6⟩:=h
    simp only at h2 h3 h5 h6
    refine (VFr.toks h3 h4 h5 h2 hu S.objs).mono ?_
    rintro r S' ⟨t',q1,rfl,rfl⟩
    exact h6 t' q1
   ·exact h.elim
  ·exact h.elim
 ·split at h
  ·rename_i hk
   have hk:=Nat.eq_of_beq_eq_true hk
   subst hk
   split at h
   ·rename_i f nm
    obtain ⟨⟨rfl,h1⟩,h2,h3⟩:=h
    cases sc with
    |nil =>
     have:=CD.at_ (Blh nm) S
     refine ACalls.mono this ?_
     rintro r S' ⟨rfl,rfl⟩
     exact h2 rfl
    |cons f0 r0 =>
     refine CZ.any (Bkk f0 r0 nm h1.1 h1.2) fun r hr=>?_
     rcases hr with ⟨q1,rfl⟩ | ⟨d,i,c,f,r,q1,q2,q3,rfl⟩
     ·exact h2 q1
     ·exact h3 d _ (by rw[q1];simp)
   ·exact h.elim
  ·exact E9 (E:={ E0 con 0 0 [] (fun _=>([],[])) with auto:=true }) Gn hc mix CR Gx 9 k ds S R h
structure KF (sc:Scp) (ki:List Nd) (B A:List (List UInt8)) (i:Nat) (L:List (List UInt8)) (t:Nat):Prop where
 le:i<=ki.length
 ty:Bx t=BZ
 tot:A=L++(fnL sc (ki.drop i)++B)
structure BF (sc:Scp) (bo:List Sm) (A:List (List UInt8)) (i:Nat) (L:List (List UInt8)) (t:Nat) (f:Frm1):Prop where
 le:i<=bo.length
 fl:f.length<=i
 ty:Bx t=BZ
 tot:A=L++fnB sc f (bo.drop i)
theorem Ro(f:Frm1)(s:Sm):(Ce f s).length<=f.length+1:=by
 unfold Ce
 split
 ·simp
 ·omega
theorem KF.step{sc:Scp}{ki:List Nd}{B A L:List (List UInt8)}{i t t':Nat}(h:KF sc ki B A i L t)(hi:i<ki.length)(ht:Bx t'=BZ):KF sc ki B A (i+1) (L++fnN sc (ki.getD i default)) t' :=
 ⟨hi,ht,by rw[h.tot,Bt hi,fnL];simp⟩
theorem KF.size{sc:Scp}{ki:List Nd}{B A L:List (List UInt8)}{i t:Nat}(h:KF sc ki B A i L t)(hi:i<ki.length)(hL:A.length<=1000000000):L.length+(fnN sc (ki.getD i default)).length<=1000000000:=by
 have:=congrArg List.length h.tot
 rw[Bt hi,fnL] at this
 simp only[List.length_append] at this
 omega
theorem KF.done{sc:Scp}{ki:List Nd}{B A L:List (List UInt8)}{i t:Nat}(h:KF sc ki B A i L t)(hi:¬i<ki.length):A=L++B:=by
 have e:=h.tot
 rw[show i=ki.length by have:=h.le;omega,List.drop_length,fnL,List.nil_append] at e
 exact e
theorem BF.step{sc : Scp}{bo : List Sm}{A L : List (List UInt8)}{i t : Nat}{f : Frm1}(h : BF sc bo A i L t f)(hi : i<bo.length) :
  A=L++(((if (bo.getD i default).kd=3 then fnN (f::sc) (bo.getD i default).te else [])++fnN (f::sc) (bo.getD i default).nd)++fnB sc (Ce f (bo.getD i default)) (bo.drop (i+1))):=by
 rw[<- Ban]
 have e:=h.tot
 rwa [Bt hi,fnB] at e
theorem BF.next{sc:Scp}{bo:List Sm}{A L L':List (List UInt8)}{i t t':Nat}{f g:Frm1}(h:BF sc bo A i L t f)(hi:i<bo.length)(hg:g=Ce f (bo.getD i default))(ht:Bx t'=BZ)(e:A=L'++fnB sc (Ce f (bo.getD i default)) (bo.drop (i+1))):BF sc bo A (i+1) L' t' g :=
 ⟨hi,by have:=Ro f (bo.getD i default);have:=h.fl;rw[hg];omega,ht,by rw[hg];exact e⟩
theorem BF.done{sc:Scp}{bo:List Sm}{A L:List (List UInt8)}{i t:Nat}{f:Frm1}(h:BF sc bo A i L t f)(hi:¬i<bo.length):A=L:=by
 have e:=h.tot
 rw[show i=bo.length by have:=h.le;omega,List.drop_length,fnB,List.append_nil] at e
 exact e
theorem Bd4(f:Frm1)(sc:Scp)(m1 m2:Ab.Mode):(([.sl 1 f.length (fun j=>[.str ((nmF f).getD j [])]) m1,.sl 1 f.length (fun j=>[.int .i64 ((clF f).getD j 0)]) m2,frD sc]:List D).all M0&&([.sl 1 f.length (fun j=>[.str ((nmF f).getD j [])]) m1,.sl 1 f.length (fun j=>[.int .i64 ((clF f).getD j 0)]) m2,frD sc]:List D).all B2)=true:=by
 cases sc<;>rfl
theorem Bgd(f:Frm1)(sc:Scp)(k1 k2:Nat):wkL [.sl 1 f.length (fun j=>[.str ((nmF f).getD j [])]) (.tok 1 k1),.sl 1 f.length (fun j=>[.int .i64 ((clF f).getD j 0)]) (.tok 2 k2),frD sc] (frR f sc):=by
 simp only[frR,ssl,isl,wkL,wkD,Ba]
 refine⟨⟨by simp,by simp[nmF],fun _ _=>?_,by simp[BB]⟩,⟨by simp,by simp[clF],fun _ _=>?_,by simp[BB]⟩,Bb _,trivial⟩
 ·exact⟨BM _,trivial⟩
 ·exact⟨BM _,trivial⟩
theorem Bde{a : Nat}{F G : Nat -> List D}{L r : List (List UInt8)}(ha : a=L.length)(hF : ∀i, i<a -> F i=[D.str (L.getD i [])])(hG : ∀i, i<r.length -> G i=[D.str (r.getD i [])]) :
  ∀i,i<a+r.length->Br a F G i=[D.str ((L++r).getD i [])]:=by
 intro i hi
 subst ha
 simp only[Br]
 split
 ·rename_i h
  rw[hF i h]
  simp[List.getD_eq_getElem?_getD,List.getElem?_append_left h]
 ·rename_i h
  rw[hG _ (by omega)]
  simp[List.getD_eq_getElem?_getD,List.getElem?_append_right (Nat.le_of_not_lt h)]
def _root_.Go.Ab.endFr(A:List (List UInt8))(r:AEnd)(S:St):Prop:=match r with
 |.ret d=>match IQ S.toks 0 with
  |some t=>Bx t=BZ/\Bk d (ssl A (.tok 0 t))/\leS ⟨[],[(0,t)]⟩ S
  |none=>False
 |_=>False
noncomputable def Efr(f0:Frm1)(r0:Scp)(ki:List Nd)(bo:List Sm)(A:List (List UInt8)):Senv:={ EC CM 84 3 [4,6,7,8,10,11,13,16,25,32,33,34,35,46,51,52,53,54,59,72] (fun id=>match id with | 19=>([0,1,2,3,4,5,6,7,8],[8]) | _=>([],[])) with
 inl:=inlF CM (f0::r0)
 own:=fun t=>Nat.beq t 49
 gh:=fun b=>match b with
  |2=>[.cell 1 100,.cell 1 101]
  |_=>[]
 ann:=fun b _env S=>match b with
  |0=>some { slots:=[34,2],keep:=[0,4,32,33],α:=Nat×List (List UInt8)×Nat,st:=fun y=>([.int .i64 (y.1:Nat),ssl y.2.1 (.tok 0 y.2.2)],⟨S.objs,[(0,y.2.2)]⟩),inv:=fun y=>KF (f0::r0) ki (fnB (f0::r0) [] bo) A y.1 y.2.1 y.2.2,mu:=fun y=>ki.length-y.1 }
  |2=>some { slots:=[53,2],keep:=[0,4,11,51,52],α:=(Nat×List (List UInt8)×Nat)×Frm1×Nat×Nat,st:=fun y=>([.int .i64 (y.1.1:Nat),ssl y.1.2.1 (.tok 0 y.1.2.2)],⟨C5 S.objs 1 (.cells [.sl 1 y.2.1.length (fun j=>[.str ((nmF y.2.1).getD j [])]) (.tok 1 y.2.2.1),.sl 1 y.2.1.length (fun j=>[.int .i64 ((clF y.2.1).getD j 0)]) (.tok 2 y.2.2.2),.pt (frR f0 r0)]),[(0,y.1.2.2),(1,y.2.2.1),(2,y.2.2.2)]⟩),inv:=fun y=>BF (f0::r0) bo A y.1.1 y.1.2.1 y.1.2.2 y.2.1,mu:=fun y=>bo.length-y.1.1 }
  |_=>none }
def Qx(a:Frm1)(b:Nat):List D:=[D.str (List.getD (nmF a) b [])]
def QnW(a:Frm1):D:=D.sl N1 (LN (nmF a)) (fun i=>Qx a i) Mode.any
def Qy(a:Frm1)(b:Nat):List D:=[ZI (GI (clF a) b)]
def QnX(a:Frm1):D:=D.sl N1 (LN (clF a)) (fun i=>Qy a i) Mode.any
def Qdo(a:Frm1)(b:Scp):D:=D.pt [QnW a,QnX a,frD b]
def HX(a:Frm1)(b:Scp):Prop:=Qdo a b=frD (a::b)
def JV(a:Frm1)(b:Scp)(c:List Nd)(d:List Sm)(e:List (List UInt8))(f:Nat)(g:List (List UInt8))(h:Nat):Prop:=KF (a::b) c (fnB (a::b) [] d) e f g h
def Q8(a:List (List UInt8))(b:Nat):List D:=[D.str (List.getD a b [])]
def Qf(a:Arr):Nat:=LN (Arr.sh a)
def Qg(a:Arr):Nat:=LN (Arr.nu a)
def Qh(a:Arr):Nat:=LN (Arr.it a)
def Js:Arr:=DA
def QK(a:Arr)(b:Nat):List D:=Arr.row (List.getD (Arr.it a) b Js)
def Q9:Nd:=Nd.mk Z0 Z0 Z0 [] Z0 Z0 Js [] [] Z0 Z0 Z0
def K2(a:List Nd)(b:Nat):Nd:=List.getD a b Q9
def HY(a:List Nd)(b:Nat):Arr:=Nd.va (K2 a b)
def Qtf(a:List Nd)(b:Nat):List Int:=Arr.sh (HY a b)
def Qtg(a:List Nd)(b:Nat):List Int:=Arr.nu (HY a b)
def QnY(a:List Nd)(b:Nat):List Arr:=Arr.it (HY a b)
def QnZ(a:List Nd)(b:Nat):List Nd:=Nd.ki (K2 a b)
def Qn0(a:List Nd)(b:Nat):List Sm:=Nd.bo (K2 a b)
def Jt:Sm:=Sm.mk Z0 Z0 [] Z0 Q9 Q9
def QG(a:List Nd)(b:Nat):List D:=[ZI (Nd.kd (K2 a b)),ZI (Nd.at_ (K2 a b)),ZI (Nd.cl (K2 a b)),D.str (Nd.tx (K2 a b)),ZI (Nd.pr (K2 a b)),ZI (Nd.op (K2 a b)),ZI (Arr.k (HY a b)),SI (Qtf a b),SI (Qtg a b),D.sl N4 (LN (QnY a b)) (fun i=>Arr.row (List.getD (QnY a b) i Js)) Mode.any,D.sl 15 (LN (QnZ a b)) (fun i=>Nd.row (List.getD (QnZ a b) i Q9)) Mode.any,D.sl 34 (LN (Qn0 a b)) (fun i=>Sm.row (List.getD (Qn0 a b) i Jt)) Mode.any,ZI (Nd.de (K2 a b)),ZI (Nd.sl (K2 a b)),ZI (Nd.ss (K2 a b))]
def QH(a:List Sm)(b:Nat):List D:=Sm.row1 (List.getD a b Jt)
def Qr(a:List Nd)(b:Nat):Nd:=List.getD a (Int.toNat (↑b:Int)) Q9
def Xn(a:List Nd)(b:Nat):Arr:=Nd.va (Qr a b)
def Qdp(a:List Nd)(b:Nat):List Int:=Arr.sh (Xn a b)
def Qdq(a:List Nd)(b:Nat):List Int:=Arr.nu (Xn a b)
def Xo(a:List Nd)(b:Nat):List Arr:=Arr.it (Xn a b)
def Xp(a:List Nd)(b:Nat):List Nd:=Nd.ki (Qr a b)
def Xq(a:List Nd)(b:Nat):List Sm:=Nd.bo (Qr a b)
def HZ(a:Nd):Arr:=Nd.va a
def Qth(a:Nd):List Int:=Arr.sh (HZ a)
def Qti(a:Nd):List Int:=Arr.nu (HZ a)
def Qn1(a:Nd):List Arr:=Arr.it (HZ a)
def VI(a:Nd):D:=D.agg [ZI (Nd.kd a),ZI (Nd.at_ a),ZI (Nd.cl a),D.str (Nd.tx a),ZI (Nd.pr a),ZI (Nd.op a),ZI (Arr.k (HZ a)),SI (Qth a),SI (Qti a),D.sl N4 (LN (Qn1 a)) (fun i=>Arr.row (List.getD (Qn1 a) i Js)) Mode.any,D.sl 15 (LN (Nd.ki a)) (fun i=>Nd.row (List.getD (Nd.ki a) i Q9)) Mode.any,D.sl 34 (LN (Nd.bo a)) (fun i=>Sm.row (List.getD (Nd.bo a) i Jt)) Mode.any,ZI (Nd.de a),ZI (Nd.sl a),ZI (Nd.ss a)]
def H0(a b:List (List UInt8))(c:Nat):Prop:=LN a=LN b/\(∀(i:Nat),i<LN a->wkL (Q8 a i) (Q8 b i))/\SM c
def Yu(a:Frm1)(b:Scp):Prop:=SM (Qdo a b)
def Qdr(a:List Nd):D:=D.sl 15 (LN a) (fun i=>QG a i) Mode.any
def Qn2(a b:List (List UInt8)):Prop:=∀(i:Nat),i<LN a->Q8 a i=Q8 b i
def Yv(a:Nat)(b c:List (List UInt8))(d e:Nat):Prop:=Z0=(↑a:Int)/\(LN b=LN c/\Qn2 b c/\d=e)/\True
def Q2(a:Frm1)(b:Scp):Prop:=Yu a b/\True
def JW(a:List Sm)(b:Nat):Sm:=List.getD a (Int.toNat (↑b:Int)) Jt
def JX(a:List Sm)(b:Nat):Int:=Sm.kd (JW a b)
def Qds(a:Frm1)(b c:Nat)(d:Frm1)(e:Scp):List D:=[D.sl N1 (LN a) (fun j=>Qx a j) (Mode.tok N1 b),D.sl N1 (LN a) (fun j=>Qy a j) (Mode.tok N2 c),Qdo d e]
def JY(a:Frm1)(b c:Nat)(d:Frm1)(e:Scp):Prop:=(List.all (Qds a b c d e) M0&&List.all (Qds a b c d e) B2)=true
def JZ(a:Frm1)(b c:Nat)(d:Frm1)(e:Scp)(f:Frm1):Prop:=wkL (Qds a b c d e) [QnW f,QnX f,frD (d::e)]
def Qs(a:List Sm)(b:Nat):Nd:=Sm.te (JW a b)
def Xr(a:List Sm)(b:Nat):Arr:=Nd.va (Qs a b)
def Qdt(a:List Sm)(b:Nat):List Int:=Arr.sh (Xr a b)
def Qdu(a:List Sm)(b:Nat):List Int:=Arr.nu (Xr a b)
def Xs(a:List Sm)(b:Nat):List Arr:=Arr.it (Xr a b)
def Xt(a:List Sm)(b:Nat):List Nd:=Nd.ki (Qs a b)
def Xu(a:List Sm)(b:Nat):List Sm:=Nd.bo (Qs a b)
def H1(a b:Frm1)(c:Scp)(d:Nd)(e:Nat)(f:List (List UInt8)):Prop:=VFr (a::b::c) d/\Bx e=BZ/\LN f+LN (fnN (a::b::c) d)<=1000000000
def Xv(a b:List (List UInt8))(c:Nat)(d e:Frm1)(f:Scp)(g:Nd):Prop:=H0 a b c/\H1 d e f g c b
def K3(a:List Sm)(b:Nat):Nd:=Sm.nd (JW a b)
def VJ(a:List Sm)(b:Nat):D:=ZI (Nd.cl (K3 a b))
def H2(a:List Sm)(b:Nat):Arr:=Nd.va (K3 a b)
def Qtj(a:List Sm)(b:Nat):List Int:=Arr.sh (H2 a b)
def Qtk(a:List Sm)(b:Nat):List Int:=Arr.nu (H2 a b)
def Qn3(a:List Sm)(b:Nat):List Arr:=Arr.it (H2 a b)
def Qn4(a:List Sm)(b:Nat):List Nd:=Nd.ki (K3 a b)
def Qn5(a:List Sm)(b:Nat):List Sm:=Nd.bo (K3 a b)
def Xw(a:List Sm)(b:Nat)(c:Nd):Prop:=D.agg [ZI (Nd.kd (K3 a b)),ZI (Nd.at_ (K3 a b)),VJ a b,D.str (Nd.tx (K3 a b)),ZI (Nd.pr (K3 a b)),ZI (Nd.op (K3 a b)),ZI (Arr.k (H2 a b)),SI (Qtj a b),SI (Qtk a b),D.sl N4 (LN (Qn3 a b)) (fun i=>Arr.row (List.getD (Qn3 a b) i Js)) Mode.any,D.sl 15 (LN (Qn4 a b)) (fun i=>Nd.row (List.getD (Qn4 a b) i Q9)) Mode.any,D.sl 34 (LN (Qn5 a b)) (fun i=>Sm.row (List.getD (Qn5 a b) i Jt)) Mode.any,ZI (Nd.de (K3 a b)),ZI (Nd.sl (K3 a b)),ZI (Nd.ss (K3 a b))]=VI c
def Qtl(a:List Sm):D:=D.sl 34 (LN a) (fun i=>QH a i) Mode.any
def K4(a:Frm1)(b:Scp)(c d:Nat)(e:List Sm):Prop:=Yu a b/\SM (D.ref N0 c N0)/\SM (D.ref (max (N0+N1) N0) d N0)/\SM (Qtl e)/\SM (ZI (LI e))/\True
def K5(a b:Nat)(c:List (List UInt8))(d e:Frm1)(f:Scp)(g:Nd)(h:List (List UInt8))(k l:Nat):Prop:=IntKind.wrap IntKind.i64 ((↑a:Int)+Z1)=(↑b:Int)/\(LN (c++fnN (d::e::f) g)=LN h/\(∀(i:Nat),i<LN (c++fnN (d::e::f) g)->[D.str (List.getD (c++fnN (d::e::f) g) i [])]=Q8 h i)/\k=l)/\True
def Xx(a:Nat)(b c:List (List UInt8)):Prop:=True/\Bx a=BZ/\(LN b=LN c/\Qn2 b c/\SM a)/\True/\SM a/\True
theorem Bi9(f0 : Frm1)(r0 : Scp)(kd at_ cl : Int)(tx : List UInt8)(pr op : Int)(va : Arr)(ki : List Nd)(bo : List Sm)(de sl ss : Int)(L : List (List UInt8))(t : Nat)(ht : Bx t=BZ)(A : List (List UInt8))(hA : A=L++fnN (f0::r0) (.mk kd at_ cl tx pr op va ki bo de sl ss))(hL : A.length<=1000000000)
  (hs:okF (f0::r0)) (hki:ki.length<=1000000) (hbo:bo.length<=900000) (hn:∀b∈ki,VFr (f0::r0) b) (hb:∀f,f.length<=bo.length->∀s∈bo,(s.kd=3->VFr (f::(f0::r0)) s.te)/\VFr (f::(f0::r0)) s.nd) :
  ACalls Tryz.prog 32 [.pt (frR f0 r0),.agg [.int .i64 kd,.int .i64 at_,.int .i64 cl,.str tx,.int .i64 pr,.int .i64 op,.int .i64 va.k,isl va.sh .any,isl va.nu .any,gsl 4 Arr.row va.it,gsl 15 Nd.row1 ki,gsl 34 Sm.row1 bo,.int .i64 de,.int .i64 sl,.int .i64 ss],ssl L (.tok 0 t)] ⟨[],[(0,t)]⟩ (Go.Ab.endFr A):=by
 refine CK (E:=Efr f0 r0 ki bo A) (WI BE (Bd0 BE _) rfl) Tryz.func32 rfl (by kernel_rfl) rfl (by simp[Efr,EC,E0]) ?_
 refine Bj (T :=
  ∀(x:Nat),True->SM x/\ifB (kd==2) (SM x/\(HX f0 r0/\okF (f0::r0))/\(Bp tx (f0::r0)=none->SM x/\SM t/\Bd ((LN L+N1)*16<=140737488355328/\LN L+N1<=9223372036854775807) (∀(t1:Nat),(Bx t=10->Bx t1=10)->SM x/\(∃(x_1:Nat×List (List UInt8)×Nat),JV f0 r0 ki bo A x_1.1 x_1.2.1 x_1.2.2/\(Z0=(NI x_1.1)/\(LN L+N1=LN x_1.2.1/\(∀(i:Nat),i<LN L+N1->Br (LN L) (fun i=>Q8 L i) (fun i=>[D.str (List.getD [tx] i [])]) i=Q8 x_1.2.1 i)/\t1=x_1.2.2)/\True)/\(SM x/\(SM kd/\SM at_/\SM cl/\SM tx/\SM pr/\SM op/\SM (Arr.k va)/\(SM (Qf va)/\(∀(i:Nat),i<Qf va->SM [ZI (GI (Arr.sh va) i)])/\True)/\(SM (Qg va)/\(∀(i:Nat),i<Qg va->SM [ZI (GI (Arr.nu va) i)])/\True)/\(SM (Qh va)/\(∀(i:Nat),i<Qh va->SM (QK va i))/\True)/\(SM (LN ki)/\(∀(i:Nat),i<LN ki->SM (QG ki i))/\True)/\(SM (LN bo)/\(∀(i:Nat),i<LN bo->SM (QH bo i))/\True)/\SM de/\SM sl/\SM ss/\True)/\True)/\t1=x_1.2.2/\True)/\∀(x_1:Nat×List (List UInt8)×Nat),JV f0 r0 ki bo A x_1.1 x_1.2.1 x_1.2.2->ifB (decide ((NI x_1.1)<(LI ki))) (Bd (Z0<=(NI x_1.1)/\(NI x_1.1)<(LI ki)) (∀(x_2:Nat),x≠x_2/\True->SM x_2/\SM x_2/\∃(z:Nd×List (List UInt8)),(SM x_1.2.2/\HX f0 r0/\D.agg [ZI (Nd.kd (Qr ki x_1.1)),ZI (Nd.at_ (Qr ki x_1.1)),ZI (Nd.cl (Qr ki x_1.1)),D.str (Nd.tx (Qr ki x_1.1)),ZI (Nd.pr (Qr ki x_1.1)),ZI (Nd.op (Qr ki x_1.1)),ZI (Arr.k (Xn ki x_1.1)),SI (Qdp ki x_1.1),SI (Qdq ki x_1.1),D.sl N4 (LN (Xo ki x_1.1)) (fun i=>Arr.row (List.getD (Xo ki x_1.1) i Js)) Mode.any,D.sl 15 (LN (Xp ki x_1.1)) (fun i=>Nd.row (List.getD (Xp ki x_1.1) i Q9)) Mode.any,D.sl 34 (LN (Xq ki x_1.1)) (fun i=>Sm.row (List.getD (Xq ki x_1.1) i Jt)) Mode.any,ZI (Nd.de (Qr ki x_1.1)),ZI (Nd.sl (Qr ki x_1.1)),ZI (Nd.ss (Qr ki x_1.1))]=VI z.1/\H0 x_1.2.1 z.2 x_1.2.2/\VFr (f0::r0) z.1/\Bx x_1.2.2=BZ/\LN z.2+LN (fnN (f0::r0) z.1)<=1000000000)/\∀(t':Nat),Bx t'=BZ->(Yu f0 r0/\SM (D.ref N0 x N0)/\SM (Qdr ki)/\SM (ZI (LI ki))/\True)/\∃(y:Nat×List (List UInt8)×Nat),JV f0 r0 ki bo A y.1 y.2.1 y.2.2/\LN ki-y.1<LN ki-x_1.1/\(IntKind.wrap IntKind.i64 ((NI x_1.1)+Z1)=(NI y.1)/\(LN (z.2++fnN (f0::r0) z.1)=LN y.2.1/\(∀(i:Nat),i<LN (z.2++fnN (f0::r0) z.1)->[D.str (List.getD (z.2++fnN (f0::r0) z.1) i [])]=Q8 y.2.1 i)/\t'=y.2.2)/\True)/\(SM x/\(SM kd/\SM at_/\SM cl/\SM tx/\SM pr/\SM op/\SM (Arr.k va)/\(SM (Qf va)/\(∀(i:Nat),i<Qf va->SM [ZI (GI (Arr.sh va) i)])/\True)/\(SM (Qg va)/\(∀(i:Nat),i<Qg va->SM [ZI (GI (Arr.nu va) i)])/\True)/\(SM (Qh va)/\(∀(i:Nat),i<Qh va->SM (QK va i))/\True)/\(SM (LN ki)/\(∀(i:Nat),i<LN ki->SM (QG ki i))/\True)/\(SM (LN bo)/\(∀(i:Nat),i<LN bo->SM (QH bo i))/\True)/\SM de/\SM sl/\SM ss/\True)/\True)/\t'=y.2.2/\True)) (SM x/\ifB (decide (Z0<(LI bo))) (∀(x_2:Nat),x≠x_2/\True->SM x/\∀(t t_1:Nat),(∃(x_3:(Nat×List (List UInt8)×Nat)×Frm1×Nat×Nat),BF (f0::r0) bo A x_3.1.1 x_3.1.2.1 x_3.1.2.2 x_3.2.1/\Yv x_3.1.1 x_1.2.1 x_3.1.2.1 x_1.2.2 x_3.1.2.2/\(SM x_2/\((N0=LN x_3.2.1/\(∀(i:Nat),i<N0->Cw (List D) [] (Qx x_3.2.1 i))/\t=x_3.2.2.1)/\(N0=LN x_3.2.1/\(∀(i:Nat),i<N0->Cw (List D) [] (Qy x_3.2.1 i))/\t_1=x_3.2.2.2)/\Q2 f0 r0)/\SM x/\(SM kd/\SM at_/\SM cl/\SM tx/\SM pr/\SM op/\SM (Arr.k va)/\(SM (Qf va)/\(∀(i:Nat),i<Qf va->SM [ZI (GI (Arr.sh va) i)])/\True)/\(SM (Qg va)/\(∀(i:Nat),i<Qg va->SM [ZI (GI (Arr.nu va) i)])/\True)/\(SM (Qh va)/\(∀(i:Nat),i<Qh va->SM (QK va i))/\True)/\(SM (LN ki)/\(∀(i:Nat),i<LN ki->SM (QG ki i))/\True)/\(SM (LN bo)/\(∀(i:Nat),i<LN bo->SM (QH bo i))/\True)/\SM de/\SM sl/\SM ss/\True)/\True)/\x_1.2.2=x_3.1.2.2/\t=x_3.2.2.1/\t_1=x_3.2.2.2/\True)/\∀(x_3:(Nat×List (List UInt8)×Nat)×Frm1×Nat×Nat),BF (f0::r0) bo A x_3.1.1 x_3.1.2.1 x_3.1.2.2 x_3.2.1->ifB (decide ((NI x_3.1.1)<(LI bo))) (Bd (Z0<=(NI x_3.1.1)/\(NI x_3.1.1)<(LI bo)) (∀(x_4:Nat),x_2≠x_4/\x≠x_4/\True->SM x_4/\SM x_4/\ifB (JX bo x_3.1.1==3) (SM x_4/\JY x_3.2.1 x_3.2.2.1 x_3.2.2.2 f0 r0/\∃(z:Frm1×Nd×List (List UInt8)),(SM x_3.1.2.2/\SM x_2/\JZ x_3.2.1 x_3.2.2.1 x_3.2.2.2 f0 r0 z.1/\D.agg [ZI (Nd.kd (Qs bo x_3.1.1)),ZI (Nd.at_ (Qs bo x_3.1.1)),ZI (Nd.cl (Qs bo x_3.1.1)),D.str (Nd.tx (Qs bo x_3.1.1)),ZI (Nd.pr (Qs bo x_3.1.1)),ZI (Nd.op (Qs bo x_3.1.1)),ZI (Arr.k (Xr bo x_3.1.1)),SI (Qdt bo x_3.1.1),SI (Qdu bo x_3.1.1),D.sl N4 (LN (Xs bo x_3.1.1)) (fun i=>Arr.row (List.getD (Xs bo x_3.1.1) i Js)) Mode.any,D.sl 15 (LN (Xt bo x_3.1.1)) (fun i=>Nd.row (List.getD (Xt bo x_3.1.1) i Q9)) Mode.any,D.sl 34 (LN (Xu bo x_3.1.1)) (fun i=>Sm.row (List.getD (Xu bo x_3.1.1) i Jt)) Mode.any,ZI (Nd.de (Qs bo x_3.1.1)),ZI (Nd.sl (Qs bo x_3.1.1)),ZI (Nd.ss (Qs bo x_3.1.1))]=VI z.2.1/\Xv x_3.1.2.1 z.2.2 x_3.1.2.2 z.1 f0 r0 z.2.1)/\∀(t':Nat),Bx t'=BZ->SM x_4/\JY x_3.2.1 x_3.2.2.1 x_3.2.2.2 f0 r0/\∃(z_1:Frm1×Nd×List (List UInt8)),(SM t'/\SM x_2/\JZ x_3.2.1 x_3.2.2.1 x_3.2.2.2 f0 r0 z_1.1/\Xw bo x_3.1.1 z_1.2.1/\(LN (z.2.2++fnN (z.1::f0::r0) z.2.1)=LN z_1.2.2/\(∀(i:Nat),i<LN (z.2.2++fnN (z.1::f0::r0) z.2.1)->wkL [D.str (List.getD (z.2.2++fnN (z.1::f0::r0) z.2.1) i [])] (Q8 z_1.2.2 i))/\SM t')/\H1 z_1.1 f0 r0 z_1.2.1 t' z_1.2.2)/\∀(t':Nat),Bx t'=BZ->SM x_4/\ifB (JX bo x_3.1.1==2) (SM x_4/\SM x_4/\SM x_2/\SM x_3.2.2.1/\Bd ((LN x_3.2.1+N1)*16<=140737488355328/\LN x_3.2.1+N1<=9223372036854775807) (∀(t:Nat),SM x_2/\SM x_2/\SM x_3.2.2.2/\Bd ((LN x_3.2.1+N1)*8<=140737488355328/\LN x_3.2.1+N1<=9223372036854775807) (∀(t_2:Nat),SM x_2/\SM x_2/\True/\K4 f0 r0 x x_2 bo/\∃(y:(Nat×List (List UInt8)×Nat)×Frm1×Nat×Nat),BF (f0::r0) bo A y.1.1 y.1.2.1 y.1.2.2 y.2.1/\LN bo-y.1.1<LN bo-x_3.1.1/\K5 x_3.1.1 y.1.1 z_1.2.2 z_1.1 f0 r0 z_1.2.1 y.1.2.1 t' y.1.2.2/\(SM x_2/\((LN x_3.2.1+N1=LN y.2.1/\(∀(i:Nat),i<LN x_3.2.1+N1->Br (LN x_3.2.1) (fun j=>Qx x_3.2.1 j) (fun i=>[D.str (List.getD [Sm.nm (JW bo x_3.1.1)] i [])]) i=Qx y.2.1 i)/\t=y.2.2.1)/\(LN x_3.2.1+N1=LN y.2.1/\(∀(i:Nat),i<LN x_3.2.1+N1->Br (LN x_3.2.1) (fun j=>Qy x_3.2.1 j) (fun i=>List.getD [[VJ bo x_3.1.1]] i []) i=Qy y.2.1 i)/\t_2=y.2.2.2)/\Q2 f0 r0)/\SM x/\(SM kd/\SM at_/\SM cl/\SM tx/\SM pr/\SM op/\SM (Arr.k va)/\(SM (Qf va)/\(∀(i:Nat),i<Qf va->SM [ZI (GI (Arr.sh va) i)])/\True)/\(SM (Qg va)/\(∀(i:Nat),i<Qg va->SM [ZI (GI (Arr.nu va) i)])/\True)/\(SM (Qh va)/\(∀(i:Nat),i<Qh va->SM (QK va i))/\True)/\(SM (LN ki)/\(∀(i:Nat),i<LN ki->SM (QG ki i))/\True)/\(SM (LN bo)/\(∀(i:Nat),i<LN bo->SM (QH bo i))/\True)/\SM de/\SM sl/\SM ss/\True)/\True)/\t'=y.1.2.2/\t=y.2.2.1/\t_2=y.2.2.2/\True))) (K4 f0 r0 x x_2 bo/\∃(y:(Nat×List (List UInt8)×Nat)×Frm1×Nat×Nat),BF (f0::r0) bo A y.1.1 y.1.2.1 y.1.2.2 y.2.1/\LN bo-y.1.1<LN bo-x_3.1.1/\K5 x_3.1.1 y.1.1 z_1.2.2 z_1.1 f0 r0 z_1.2.1 y.1.2.1 t' y.1.2.2/\(SM x_2/\((LN x_3.2.1=LN y.2.1/\(∀(i:Nat),i<LN x_3.2.1->Qx x_3.2.1 i=Qx y.2.1 i)/\x_3.2.2.1=y.2.2.1)/\(LN x_3.2.1=LN y.2.1/\(∀(i:Nat),i<LN x_3.2.1->Qy x_3.2.1 i=Qy y.2.1 i)/\x_3.2.2.2=y.2.2.2)/\Q2 f0 r0)/\SM x/\(SM kd/\SM at_/\SM cl/\SM tx/\SM pr/\SM op/\SM (Arr.k va)/\(SM (Qf va)/\(∀(i:Nat),i<Qf va->SM [ZI (GI (Arr.sh va) i)])/\True)/\(SM (Qg va)/\(∀(i:Nat),i<Qg va->SM [ZI (GI (Arr.nu va) i)])/\True)/\(SM (Qh va)/\(∀(i:Nat),i<Qh va->SM (QK va i))/\True)/\(SM (LN ki)/\(∀(i:Nat),i<LN ki->SM (QG ki i))/\True)/\(SM (LN bo)/\(∀(i:Nat),i<LN bo->SM (QH bo i))/\True)/\SM de/\SM sl/\SM ss/\True)/\True)/\t'=y.1.2.2/\x_3.2.2.1=y.2.2.1/\x_3.2.2.2=y.2.2.2/\True)) (SM x_4/\JY x_3.2.1 x_3.2.2.1 x_3.2.2.2 f0 r0/\∃(z:Frm1×Nd×List (List UInt8)),(SM x_3.1.2.2/\SM x_2/\JZ x_3.2.1 x_3.2.2.1 x_3.2.2.2 f0 r0 z.1/\Xw bo x_3.1.1 z.2.1/\Xv x_3.1.2.1 z.2.2 x_3.1.2.2 z.1 f0 r0 z.2.1)/\∀(t':Nat),Bx t'=BZ->SM x_4/\ifB (JX bo x_3.1.1==2) (SM x_4/\SM x_4/\SM x_2/\SM x_3.2.2.1/\Bd ((LN x_3.2.1+N1)*16<=140737488355328/\LN x_3.2.1+N1<=9223372036854775807) (∀(t:Nat),SM x_2/\SM x_2/\SM x_3.2.2.2/\Bd ((LN x_3.2.1+N1)*8<=140737488355328/\LN x_3.2.1+N1<=9223372036854775807) (∀(t_2:Nat),SM x_2/\SM x_2/\True/\K4 f0 r0 x x_2 bo/\∃(y:(Nat×List (List UInt8)×Nat)×Frm1×Nat×Nat),BF (f0::r0) bo A y.1.1 y.1.2.1 y.1.2.2 y.2.1/\LN bo-y.1.1<LN bo-x_3.1.1/\K5 x_3.1.1 y.1.1 z.2.2 z.1 f0 r0 z.2.1 y.1.2.1 t' y.1.2.2/\(SM x_2/\((LN x_3.2.1+N1=LN y.2.1/\(∀(i:Nat),i<LN x_3.2.1+N1->Br (LN x_3.2.1) (fun j=>Qx x_3.2.1 j) (fun i=>[D.str (List.getD [Sm.nm (JW bo x_3.1.1)] i [])]) i=Qx y.2.1 i)/\t=y.2.2.1)/\(LN x_3.2.1+N1=LN y.2.1/\(∀(i:Nat),i<LN x_3.2.1+N1->Br (LN x_3.2.1) (fun j=>Qy x_3.2.1 j) (fun i=>List.getD [[VJ bo x_3.1.1]] i []) i=Qy y.2.1 i)/\t_2=y.2.2.2)/\Q2 f0 r0)/\SM x/\(SM kd/\SM at_/\SM cl/\SM tx/\SM pr/\SM op/\SM (Arr.k va)/\(SM (Qf va)/\(∀(i:Nat),i<Qf va->SM [ZI (GI (Arr.sh va) i)])/\True)/\(SM (Qg va)/\(∀(i:Nat),i<Qg va->SM [ZI (GI (Arr.nu va) i)])/\True)/\(SM (Qh va)/\(∀(i:Nat),i<Qh va->SM (QK va i))/\True)/\(SM (LN ki)/\(∀(i:Nat),i<LN ki->SM (QG ki i))/\True)/\(SM (LN bo)/\(∀(i:Nat),i<LN bo->SM (QH bo i))/\True)/\SM de/\SM sl/\SM ss/\True)/\True)/\t'=y.1.2.2/\t=y.2.2.1/\t_2=y.2.2.2/\True))) (K4 f0 r0 x x_2 bo/\∃(y:(Nat×List (List UInt8)×Nat)×Frm1×Nat×Nat),BF (f0::r0) bo A y.1.1 y.1.2.1 y.1.2.2 y.2.1/\LN bo-y.1.1<LN bo-x_3.1.1/\K5 x_3.1.1 y.1.1 z.2.2 z.1 f0 r0 z.2.1 y.1.2.1 t' y.1.2.2/\(SM x_2/\((LN x_3.2.1=LN y.2.1/\(∀(i:Nat),i<LN x_3.2.1->Qx x_3.2.1 i=Qx y.2.1 i)/\x_3.2.2.1=y.2.2.1)/\(LN x_3.2.1=LN y.2.1/\(∀(i:Nat),i<LN x_3.2.1->Qy x_3.2.1 i=Qy y.2.1 i)/\x_3.2.2.2=y.2.2.2)/\Q2 f0 r0)/\SM x/\(SM kd/\SM at_/\SM cl/\SM tx/\SM pr/\SM op/\SM (Arr.k va)/\(SM (Qf va)/\(∀(i:Nat),i<Qf va->SM [ZI (GI (Arr.sh va) i)])/\True)/\(SM (Qg va)/\(∀(i:Nat),i<Qg va->SM [ZI (GI (Arr.nu va) i)])/\True)/\(SM (Qh va)/\(∀(i:Nat),i<Qh va->SM (QK va i))/\True)/\(SM (LN ki)/\(∀(i:Nat),i<LN ki->SM (QG ki i))/\True)/\(SM (LN bo)/\(∀(i:Nat),i<LN bo->SM (QH bo i))/\True)/\SM de/\SM sl/\SM ss/\True)/\True)/\t'=y.1.2.2/\x_3.2.2.1=y.2.2.1/\x_3.2.2.2=y.2.2.2/\True)))) (Xx x_3.1.2.2 x_3.1.2.1 A)) (Xx x_1.2.2 x_1.2.1 A))))/\∀(d:Int) (row:List D),Bp tx (f0::r0)≠none->SM x/\(∃(x_1:Nat×List (List UInt8)×Nat),JV f0 r0 ki bo A x_1.1 x_1.2.1 x_1.2.2/\Yv x_1.1 L x_1.2.1 t x_1.2.2/\(SM x/\(SM kd/\SM at_/\SM cl/\SM tx/\SM pr/\SM op/\SM (Arr.k va)/\(SM (Qf va)/\(∀(i:Nat),i<Qf va->SM [ZI (GI (Arr.sh va) i)])/\True)/\(SM (Qg va)/\(∀(i:Nat),i<Qg va->SM [ZI (GI (Arr.nu va) i)])/\True)/\(SM (Qh va)/\(∀(i:Nat),i<Qh va->SM (QK va i))/\True)/\(SM (LN ki)/\(∀(i:Nat),i<LN ki->SM (QG ki i))/\True)/\(SM (LN bo)/\(∀(i:Nat),i<LN bo->SM (QH bo i))/\True)/\SM de/\SM sl/\SM ss/\True)/\True)/\t=x_1.2.2/\True)/\∀(x_1:Nat×List (List UInt8)×Nat),JV f0 r0 ki bo A x_1.1 x_1.2.1 x_1.2.2->ifB (decide ((NI x_1.1)<(LI ki))) (Bd (Z0<=(NI x_1.1)/\(NI x_1.1)<(LI ki)) (∀(x_2:Nat),x≠x_2/\True->SM x_2/\SM x_2/\∃(z:Nd×List (List UInt8)),(SM x_1.2.2/\HX f0 r0/\D.agg [ZI (Nd.kd (Qr ki x_1.1)),ZI (Nd.at_ (Qr ki x_1.1)),ZI (Nd.cl (Qr ki x_1.1)),D.str (Nd.tx (Qr ki x_1.1)),ZI (Nd.pr (Qr ki x_1.1)),ZI (Nd.op (Qr ki x_1.1)),ZI (Arr.k (Xn ki x_1.1)),SI (Qdp ki x_1.1),SI (Qdq ki x_1.1),D.sl N4 (LN (Xo ki x_1.1)) (fun i=>Arr.row (List.getD (Xo ki x_1.1) i Js)) Mode.any,D.sl 15 (LN (Xp ki x_1.1)) (fun i=>Nd.row (List.getD (Xp ki x_1.1) i Q9)) Mode.any,D.sl 34 (LN (Xq ki x_1.1)) (fun i=>Sm.row (List.getD (Xq ki x_1.1) i Jt)) Mode.any,ZI (Nd.de (Qr ki x_1.1)),ZI (Nd.sl (Qr ki x_1.1)),ZI (Nd.ss (Qr ki x_1.1))]=VI z.1/\H0 x_1.2.1 z.2 x_1.2.2/\VFr (f0::r0) z.1/\Bx x_1.2.2=BZ/\LN z.2+LN (fnN (f0::r0) z.1)<=1000000000)/\∀(t':Nat),Bx t'=BZ->(Yu f0 r0/\SM (D.ref N0 x N0)/\SM (Qdr ki)/\SM (ZI (LI ki))/\True)/\∃(y:Nat×List (List UInt8)×Nat),JV f0 r0 ki bo A y.1 y.2.1 y.2.2/\LN ki-y.1<LN ki-x_1.1/\(IntKind.wrap IntKind.i64 ((NI x_1.1)+Z1)=(NI y.1)/\(LN (z.2++fnN (f0::r0) z.1)=LN y.2.1/\(∀(i:Nat),i<LN (z.2++fnN (f0::r0) z.1)->[D.str (List.getD (z.2++fnN (f0::r0) z.1) i [])]=Q8 y.2.1 i)/\t'=y.2.2)/\True)/\(SM x/\(SM kd/\SM at_/\SM cl/\SM tx/\SM pr/\SM op/\SM (Arr.k va)/\(SM (Qf va)/\(∀(i:Nat),i<Qf va->SM [ZI (GI (Arr.sh va) i)])/\True)/\(SM (Qg va)/\(∀(i:Nat),i<Qg va->SM [ZI (GI (Arr.nu va) i)])/\True)/\(SM (Qh va)/\(∀(i:Nat),i<Qh va->SM (QK va i))/\True)/\(SM (LN ki)/\(∀(i:Nat),i<LN ki->SM (QG ki i))/\True)/\(SM (LN bo)/\(∀(i:Nat),i<LN bo->SM (QH bo i))/\True)/\SM de/\SM sl/\SM ss/\True)/\True)/\t'=y.2.2/\True)) (SM x/\ifB (decide (Z0<(LI bo))) (∀(x_2:Nat),x≠x_2/\True->SM x/\∀(t t_1:Nat),(∃(x_3:(Nat×List (List UInt8)×Nat)×Frm1×Nat×Nat),BF (f0::r0) bo A x_3.1.1 x_3.1.2.1 x_3.1.2.2 x_3.2.1/\Yv x_3.1.1 x_1.2.1 x_3.1.2.1 x_1.2.2 x_3.1.2.2/\(SM x_2/\((N0=LN x_3.2.1/\(∀(i:Nat),i<N0->Cw (List D) [] (Qx x_3.2.1 i))/\t=x_3.2.2.1)/\(N0=LN x_3.2.1/\(∀(i:Nat),i<N0->Cw (List D) [] (Qy x_3.2.1 i))/\t_1=x_3.2.2.2)/\Q2 f0 r0)/\SM x/\(SM kd/\SM at_/\SM cl/\SM tx/\SM pr/\SM op/\SM (Arr.k va)/\(SM (Qf va)/\(∀(i:Nat),i<Qf va->SM [ZI (GI (Arr.sh va) i)])/\True)/\(SM (Qg va)/\(∀(i:Nat),i<Qg va->SM [ZI (GI (Arr.nu va) i)])/\True)/\(SM (Qh va)/\(∀(i:Nat),i<Qh va->SM (QK va i))/\True)/\(SM (LN ki)/\(∀(i:Nat),i<LN ki->SM (QG ki i))/\True)/\(SM (LN bo)/\(∀(i:Nat),i<LN bo->SM (QH bo i))/\True)/\SM de/\SM sl/\SM ss/\True)/\True)/\x_1.2.2=x_3.1.2.2/\t=x_3.2.2.1/\t_1=x_3.2.2.2/\True)/\∀(x_3:(Nat×List (List UInt8)×Nat)×Frm1×Nat×Nat),BF (f0::r0) bo A x_3.1.1 x_3.1.2.1 x_3.1.2.2 x_3.2.1->ifB (decide ((NI x_3.1.1)<(LI bo))) (Bd (Z0<=(NI x_3.1.1)/\(NI x_3.1.1)<(LI bo)) (∀(x_4:Nat),x_2≠x_4/\x≠x_4/\True->SM x_4/\SM x_4/\ifB (JX bo x_3.1.1==3) (SM x_4/\JY x_3.2.1 x_3.2.2.1 x_3.2.2.2 f0 r0/\∃(z:Frm1×Nd×List (List UInt8)),(SM x_3.1.2.2/\SM x_2/\JZ x_3.2.1 x_3.2.2.1 x_3.2.2.2 f0 r0 z.1/\D.agg [ZI (Nd.kd (Qs bo x_3.1.1)),ZI (Nd.at_ (Qs bo x_3.1.1)),ZI (Nd.cl (Qs bo x_3.1.1)),D.str (Nd.tx (Qs bo x_3.1.1)),ZI (Nd.pr (Qs bo x_3.1.1)),ZI (Nd.op (Qs bo x_3.1.1)),ZI (Arr.k (Xr bo x_3.1.1)),SI (Qdt bo x_3.1.1),SI (Qdu bo x_3.1.1),D.sl N4 (LN (Xs bo x_3.1.1)) (fun i=>Arr.row (List.getD (Xs bo x_3.1.1) i Js)) Mode.any,D.sl 15 (LN (Xt bo x_3.1.1)) (fun i=>Nd.row (List.getD (Xt bo x_3.1.1) i Q9)) Mode.any,D.sl 34 (LN (Xu bo x_3.1.1)) (fun i=>Sm.row (List.getD (Xu bo x_3.1.1) i Jt)) Mode.any,ZI (Nd.de (Qs bo x_3.1.1)),ZI (Nd.sl (Qs bo x_3.1.1)),ZI (Nd.ss (Qs bo x_3.1.1))]=VI z.2.1/\Xv x_3.1.2.1 z.2.2 x_3.1.2.2 z.1 f0 r0 z.2.1)/\∀(t':Nat),Bx t'=BZ->SM x_4/\JY x_3.2.1 x_3.2.2.1 x_3.2.2.2 f0 r0/\∃(z_1:Frm1×Nd×List (List UInt8)),(SM t'/\SM x_2/\JZ x_3.2.1 x_3.2.2.1 x_3.2.2.2 f0 r0 z_1.1/\Xw bo x_3.1.1 z_1.2.1/\(LN (z.2.2++fnN (z.1::f0::r0) z.2.1)=LN z_1.2.2/\(∀(i:Nat),i<LN (z.2.2++fnN (z.1::f0::r0) z.2.1)->wkL [D.str (List.getD (z.2.2++fnN (z.1::f0::r0) z.2.1) i [])] (Q8 z_1.2.2 i))/\SM t')/\H1 z_1.1 f0 r0 z_1.2.1 t' z_1.2.2)/\∀(t':Nat),Bx t'=BZ->SM x_4/\ifB (JX bo x_3.1.1==2) (SM x_4/\SM x_4/\SM x_2/\SM x_3.2.2.1/\Bd ((LN x_3.2.1+N1)*16<=140737488355328/\LN x_3.2.1+N1<=9223372036854775807) (∀(t:Nat),SM x_2/\SM x_2/\SM x_3.2.2.2/\Bd ((LN x_3.2.1+N1)*8<=140737488355328/\LN x_3.2.1+N1<=9223372036854775807) (∀(t_2:Nat),SM x_2/\SM x_2/\True/\K4 f0 r0 x x_2 bo/\∃(y:(Nat×List (List UInt8)×Nat)×Frm1×Nat×Nat),BF (f0::r0) bo A y.1.1 y.1.2.1 y.1.2.2 y.2.1/\LN bo-y.1.1<LN bo-x_3.1.1/\K5 x_3.1.1 y.1.1 z_1.2.2 z_1.1 f0 r0 z_1.2.1 y.1.2.1 t' y.1.2.2/\(SM x_2/\((LN x_3.2.1+N1=LN y.2.1/\(∀(i:Nat),i<LN x_3.2.1+N1->Br (LN x_3.2.1) (fun j=>Qx x_3.2.1 j) (fun i=>[D.str (List.getD [Sm.nm (JW bo x_3.1.1)] i [])]) i=Qx y.2.1 i)/\t=y.2.2.1)/\(LN x_3.2.1+N1=LN y.2.1/\(∀(i:Nat),i<LN x_3.2.1+N1->Br (LN x_3.2.1) (fun j=>Qy x_3.2.1 j) (fun i=>List.getD [[VJ bo x_3.1.1]] i []) i=Qy y.2.1 i)/\t_2=y.2.2.2)/\Q2 f0 r0)/\SM x/\(SM kd/\SM at_/\SM cl/\SM tx/\SM pr/\SM op/\SM (Arr.k va)/\(SM (Qf va)/\(∀(i:Nat),i<Qf va->SM [ZI (GI (Arr.sh va) i)])/\True)/\(SM (Qg va)/\(∀(i:Nat),i<Qg va->SM [ZI (GI (Arr.nu va) i)])/\True)/\(SM (Qh va)/\(∀(i:Nat),i<Qh va->SM (QK va i))/\True)/\(SM (LN ki)/\(∀(i:Nat),i<LN ki->SM (QG ki i))/\True)/\(SM (LN bo)/\(∀(i:Nat),i<LN bo->SM (QH bo i))/\True)/\SM de/\SM sl/\SM ss/\True)/\True)/\t'=y.1.2.2/\t=y.2.2.1/\t_2=y.2.2.2/\True))) (K4 f0 r0 x x_2 bo/\∃(y:(Nat×List (List UInt8)×Nat)×Frm1×Nat×Nat),BF (f0::r0) bo A y.1.1 y.1.2.1 y.1.2.2 y.2.1/\LN bo-y.1.1<LN bo-x_3.1.1/\K5 x_3.1.1 y.1.1 z_1.2.2 z_1.1 f0 r0 z_1.2.1 y.1.2.1 t' y.1.2.2/\(SM x_2/\((LN x_3.2.1=LN y.2.1/\(∀(i:Nat),i<LN x_3.2.1->Qx x_3.2.1 i=Qx y.2.1 i)/\x_3.2.2.1=y.2.2.1)/\(LN x_3.2.1=LN y.2.1/\(∀(i:Nat),i<LN x_3.2.1->Qy x_3.2.1 i=Qy y.2.1 i)/\x_3.2.2.2=y.2.2.2)/\Q2 f0 r0)/\SM x/\(SM kd/\SM at_/\SM cl/\SM tx/\SM pr/\SM op/\SM (Arr.k va)/\(SM (Qf va)/\(∀(i:Nat),i<Qf va->SM [ZI (GI (Arr.sh va) i)])/\True)/\(SM (Qg va)/\(∀(i:Nat),i<Qg va->SM [ZI (GI (Arr.nu va) i)])/\True)/\(SM (Qh va)/\(∀(i:Nat),i<Qh va->SM (QK va i))/\True)/\(SM (LN ki)/\(∀(i:Nat),i<LN ki->SM (QG ki i))/\True)/\(SM (LN bo)/\(∀(i:Nat),i<LN bo->SM (QH bo i))/\True)/\SM de/\SM sl/\SM ss/\True)/\True)/\t'=y.1.2.2/\x_3.2.2.1=y.2.2.1/\x_3.2.2.2=y.2.2.2/\True)) (SM x_4/\JY x_3.2.1 x_3.2.2.1 x_3.2.2.2 f0 r0/\∃(z:Frm1×Nd×List (List UInt8)),(SM x_3.1.2.2/\SM x_2/\JZ x_3.2.1 x_3.2.2.1 x_3.2.2.2 f0 r0 z.1/\Xw bo x_3.1.1 z.2.1/\Xv x_3.1.2.1 z.2.2 x_3.1.2.2 z.1 f0 r0 z.2.1)/\∀(t':Nat),Bx t'=BZ->SM x_4/\ifB (JX bo x_3.1.1==2) (SM x_4/\SM x_4/\SM x_2/\SM x_3.2.2.1/\Bd ((LN x_3.2.1+N1)*16<=140737488355328/\LN x_3.2.1+N1<=9223372036854775807) (∀(t:Nat),SM x_2/\SM x_2/\SM x_3.2.2.2/\Bd ((LN x_3.2.1+N1)*8<=140737488355328/\LN x_3.2.1+N1<=9223372036854775807) (∀(t_2:Nat),SM x_2/\SM x_2/\True/\K4 f0 r0 x x_2 bo/\∃(y:(Nat×List (List UInt8)×Nat)×Frm1×Nat×Nat),BF (f0::r0) bo A y.1.1 y.1.2.1 y.1.2.2 y.2.1/\LN bo-y.1.1<LN bo-x_3.1.1/\K5 x_3.1.1 y.1.1 z.2.2 z.1 f0 r0 z.2.1 y.1.2.1 t' y.1.2.2/\(SM x_2/\((LN x_3.2.1+N1=LN y.2.1/\(∀(i:Nat),i<LN x_3.2.1+N1->Br (LN x_3.2.1) (fun j=>Qx x_3.2.1 j) (fun i=>[D.str (List.getD [Sm.nm (JW bo x_3.1.1)] i [])]) i=Qx y.2.1 i)/\t=y.2.2.1)/\(LN x_3.2.1+N1=LN y.2.1/\(∀(i:Nat),i<LN x_3.2.1+N1->Br (LN x_3.2.1) (fun j=>Qy x_3.2.1 j) (fun i=>List.getD [[VJ bo x_3.1.1]] i []) i=Qy y.2.1 i)/\t_2=y.2.2.2)/\Q2 f0 r0)/\SM x/\(SM kd/\SM at_/\SM cl/\SM tx/\SM pr/\SM op/\SM (Arr.k va)/\(SM (Qf va)/\(∀(i:Nat),i<Qf va->SM [ZI (GI (Arr.sh va) i)])/\True)/\(SM (Qg va)/\(∀(i:Nat),i<Qg va->SM [ZI (GI (Arr.nu va) i)])/\True)/\(SM (Qh va)/\(∀(i:Nat),i<Qh va->SM (QK va i))/\True)/\(SM (LN ki)/\(∀(i:Nat),i<LN ki->SM (QG ki i))/\True)/\(SM (LN bo)/\(∀(i:Nat),i<LN bo->SM (QH bo i))/\True)/\SM de/\SM sl/\SM ss/\True)/\True)/\t'=y.1.2.2/\t=y.2.2.1/\t_2=y.2.2.2/\True))) (K4 f0 r0 x x_2 bo/\∃(y:(Nat×List (List UInt8)×Nat)×Frm1×Nat×Nat),BF (f0::r0) bo A y.1.1 y.1.2.1 y.1.2.2 y.2.1/\LN bo-y.1.1<LN bo-x_3.1.1/\K5 x_3.1.1 y.1.1 z.2.2 z.1 f0 r0 z.2.1 y.1.2.1 t' y.1.2.2/\(SM x_2/\((LN x_3.2.1=LN y.2.1/\(∀(i:Nat),i<LN x_3.2.1->Qx x_3.2.1 i=Qx y.2.1 i)/\x_3.2.2.1=y.2.2.1)/\(LN x_3.2.1=LN y.2.1/\(∀(i:Nat),i<LN x_3.2.1->Qy x_3.2.1 i=Qy y.2.1 i)/\x_3.2.2.2=y.2.2.2)/\Q2 f0 r0)/\SM x/\(SM kd/\SM at_/\SM cl/\SM tx/\SM pr/\SM op/\SM (Arr.k va)/\(SM (Qf va)/\(∀(i:Nat),i<Qf va->SM [ZI (GI (Arr.sh va) i)])/\True)/\(SM (Qg va)/\(∀(i:Nat),i<Qg va->SM [ZI (GI (Arr.nu va) i)])/\True)/\(SM (Qh va)/\(∀(i:Nat),i<Qh va->SM (QK va i))/\True)/\(SM (LN ki)/\(∀(i:Nat),i<LN ki->SM (QG ki i))/\True)/\(SM (LN bo)/\(∀(i:Nat),i<LN bo->SM (QH bo i))/\True)/\SM de/\SM sl/\SM ss/\True)/\True)/\t'=y.1.2.2/\x_3.2.2.1=y.2.2.1/\x_3.2.2.2=y.2.2.2/\True)))) (Xx x_3.1.2.2 x_3.1.2.1 A)) (Xx x_1.2.2 x_1.2.1 A))) (SM x/\(∃(x_1:Nat×List (List UInt8)×Nat),JV f0 r0 ki bo A x_1.1 x_1.2.1 x_1.2.2/\Yv x_1.1 L x_1.2.1 t x_1.2.2/\(SM x/\(SM kd/\SM at_/\SM cl/\SM tx/\SM pr/\SM op/\SM (Arr.k va)/\(SM (Qf va)/\(∀(i:Nat),i<Qf va->SM [ZI (GI (Arr.sh va) i)])/\True)/\(SM (Qg va)/\(∀(i:Nat),i<Qg va->SM [ZI (GI (Arr.nu va) i)])/\True)/\(SM (Qh va)/\(∀(i:Nat),i<Qh va->SM (QK va i))/\True)/\(SM (LN ki)/\(∀(i:Nat),i<LN ki->SM (QG ki i))/\True)/\(SM (LN bo)/\(∀(i:Nat),i<LN bo->SM (QH bo i))/\True)/\SM de/\SM sl/\SM ss/\True)/\True)/\t=x_1.2.2/\True)/\∀(x_1:Nat×List (List UInt8)×Nat),JV f0 r0 ki bo A x_1.1 x_1.2.1 x_1.2.2->ifB (decide ((NI x_1.1)<(LI ki))) (Bd (Z0<=(NI x_1.1)/\(NI x_1.1)<(LI ki)) (∀(x_2:Nat),x≠x_2/\True->SM x_2/\SM x_2/\∃(z:Nd×List (List UInt8)),(SM x_1.2.2/\HX f0 r0/\D.agg [ZI (Nd.kd (Qr ki x_1.1)),ZI (Nd.at_ (Qr ki x_1.1)),ZI (Nd.cl (Qr ki x_1.1)),D.str (Nd.tx (Qr ki x_1.1)),ZI (Nd.pr (Qr ki x_1.1)),ZI (Nd.op (Qr ki x_1.1)),ZI (Arr.k (Xn ki x_1.1)),SI (Qdp ki x_1.1),SI (Qdq ki x_1.1),D.sl N4 (LN (Xo ki x_1.1)) (fun i=>Arr.row (List.getD (Xo ki x_1.1) i Js)) Mode.any,D.sl 15 (LN (Xp ki x_1.1)) (fun i=>Nd.row (List.getD (Xp ki x_1.1) i Q9)) Mode.any,D.sl 34 (LN (Xq ki x_1.1)) (fun i=>Sm.row (List.getD (Xq ki x_1.1) i Jt)) Mode.any,ZI (Nd.de (Qr ki x_1.1)),ZI (Nd.sl (Qr ki x_1.1)),ZI (Nd.ss (Qr ki x_1.1))]=VI z.1/\H0 x_1.2.1 z.2 x_1.2.2/\VFr (f0::r0) z.1/\Bx x_1.2.2=BZ/\LN z.2+LN (fnN (f0::r0) z.1)<=1000000000)/\∀(t':Nat),Bx t'=BZ->(Yu f0 r0/\SM (D.ref N0 x N0)/\SM (Qdr ki)/\SM (ZI (LI ki))/\True)/\∃(y:Nat×List (List UInt8)×Nat),JV f0 r0 ki bo A y.1 y.2.1 y.2.2/\LN ki-y.1<LN ki-x_1.1/\(IntKind.wrap IntKind.i64 ((NI x_1.1)+Z1)=(NI y.1)/\(LN (z.2++fnN (f0::r0) z.1)=LN y.2.1/\(∀(i:Nat),i<LN (z.2++fnN (f0::r0) z.1)->[D.str (List.getD (z.2++fnN (f0::r0) z.1) i [])]=Q8 y.2.1 i)/\t'=y.2.2)/\True)/\(SM x/\(SM kd/\SM at_/\SM cl/\SM tx/\SM pr/\SM op/\SM (Arr.k va)/\(SM (Qf va)/\(∀(i:Nat),i<Qf va->SM [ZI (GI (Arr.sh va) i)])/\True)/\(SM (Qg va)/\(∀(i:Nat),i<Qg va->SM [ZI (GI (Arr.nu va) i)])/\True)/\(SM (Qh va)/\(∀(i:Nat),i<Qh va->SM (QK va i))/\True)/\(SM (LN ki)/\(∀(i:Nat),i<LN ki->SM (QG ki i))/\True)/\(SM (LN bo)/\(∀(i:Nat),i<LN bo->SM (QH bo i))/\True)/\SM de/\SM sl/\SM ss/\True)/\True)/\t'=y.2.2/\True)) (SM x/\ifB (decide (Z0<(LI bo))) (∀(x_2:Nat),x≠x_2/\True->SM x/\∀(t t_1:Nat),(∃(x_3:(Nat×List (List UInt8)×Nat)×Frm1×Nat×Nat),BF (f0::r0) bo A x_3.1.1 x_3.1.2.1 x_3.1.2.2 x_3.2.1/\Yv x_3.1.1 x_1.2.1 x_3.1.2.1 x_1.2.2 x_3.1.2.2/\(SM x_2/\((N0=LN x_3.2.1/\(∀(i:Nat),i<N0->Cw (List D) [] (Qx x_3.2.1 i))/\t=x_3.2.2.1)/\(N0=LN x_3.2.1/\(∀(i:Nat),i<N0->Cw (List D) [] (Qy x_3.2.1 i))/\t_1=x_3.2.2.2)/\Q2 f0 r0)/\SM x/\(SM kd/\SM at_/\SM cl/\SM tx/\SM pr/\SM op/\SM (Arr.k va)/\(SM (Qf va)/\(∀(i:Nat),i<Qf va->SM [ZI (GI (Arr.sh va) i)])/\True)/\(SM (Qg va)/\(∀(i:Nat),i<Qg va->SM [ZI (GI (Arr.nu va) i)])/\True)/\(SM (Qh va)/\(∀(i:Nat),i<Qh va->SM (QK va i))/\True)/\(SM (LN ki)/\(∀(i:Nat),i<LN ki->SM (QG ki i))/\True)/\(SM (LN bo)/\(∀(i:Nat),i<LN bo->SM (QH bo i))/\True)/\SM de/\SM sl/\SM ss/\True)/\True)/\x_1.2.2=x_3.1.2.2/\t=x_3.2.2.1/\t_1=x_3.2.2.2/\True)/\∀(x_3:(Nat×List (List UInt8)×Nat)×Frm1×Nat×Nat),BF (f0::r0) bo A x_3.1.1 x_3.1.2.1 x_3.1.2.2 x_3.2.1->ifB (decide ((NI x_3.1.1)<(LI bo))) (Bd (Z0<=(NI x_3.1.1)/\(NI x_3.1.1)<(LI bo)) (∀(x_4:Nat),x_2≠x_4/\x≠x_4/\True->SM x_4/\SM x_4/\ifB (JX bo x_3.1.1==3) (SM x_4/\JY x_3.2.1 x_3.2.2.1 x_3.2.2.2 f0 r0/\∃(z:Frm1×Nd×List (List UInt8)),(SM x_3.1.2.2/\SM x_2/\JZ x_3.2.1 x_3.2.2.1 x_3.2.2.2 f0 r0 z.1/\D.agg [ZI (Nd.kd (Qs bo x_3.1.1)),ZI (Nd.at_ (Qs bo x_3.1.1)),ZI (Nd.cl (Qs bo x_3.1.1)),D.str (Nd.tx (Qs bo x_3.1.1)),ZI (Nd.pr (Qs bo x_3.1.1)),ZI (Nd.op (Qs bo x_3.1.1)),ZI (Arr.k (Xr bo x_3.1.1)),SI (Qdt bo x_3.1.1),SI (Qdu bo x_3.1.1),D.sl N4 (LN (Xs bo x_3.1.1)) (fun i=>Arr.row (List.getD (Xs bo x_3.1.1) i Js)) Mode.any,D.sl 15 (LN (Xt bo x_3.1.1)) (fun i=>Nd.row (List.getD (Xt bo x_3.1.1) i Q9)) Mode.any,D.sl 34 (LN (Xu bo x_3.1.1)) (fun i=>Sm.row (List.getD (Xu bo x_3.1.1) i Jt)) Mode.any,ZI (Nd.de (Qs bo x_3.1.1)),ZI (Nd.sl (Qs bo x_3.1.1)),ZI (Nd.ss (Qs bo x_3.1.1))]=VI z.2.1/\Xv x_3.1.2.1 z.2.2 x_3.1.2.2 z.1 f0 r0 z.2.1)/\∀(t':Nat),Bx t'=BZ->SM x_4/\JY x_3.2.1 x_3.2.2.1 x_3.2.2.2 f0 r0/\∃(z_1:Frm1×Nd×List (List UInt8)),(SM t'/\SM x_2/\JZ x_3.2.1 x_3.2.2.1 x_3.2.2.2 f0 r0 z_1.1/\Xw bo x_3.1.1 z_1.2.1/\(LN (z.2.2++fnN (z.1::f0::r0) z.2.1)=LN z_1.2.2/\(∀(i:Nat),i<LN (z.2.2++fnN (z.1::f0::r0) z.2.1)->wkL [D.str (List.getD (z.2.2++fnN (z.1::f0::r0) z.2.1) i [])] (Q8 z_1.2.2 i))/\SM t')/\H1 z_1.1 f0 r0 z_1.2.1 t' z_1.2.2)/\∀(t':Nat),Bx t'=BZ->SM x_4/\ifB (JX bo x_3.1.1==2) (SM x_4/\SM x_4/\SM x_2/\SM x_3.2.2.1/\Bd ((LN x_3.2.1+N1)*16<=140737488355328/\LN x_3.2.1+N1<=9223372036854775807) (∀(t:Nat),SM x_2/\SM x_2/\SM x_3.2.2.2/\Bd ((LN x_3.2.1+N1)*8<=140737488355328/\LN x_3.2.1+N1<=9223372036854775807) (∀(t_2:Nat),SM x_2/\SM x_2/\True/\K4 f0 r0 x x_2 bo/\∃(y:(Nat×List (List UInt8)×Nat)×Frm1×Nat×Nat),BF (f0::r0) bo A y.1.1 y.1.2.1 y.1.2.2 y.2.1/\LN bo-y.1.1<LN bo-x_3.1.1/\K5 x_3.1.1 y.1.1 z_1.2.2 z_1.1 f0 r0 z_1.2.1 y.1.2.1 t' y.1.2.2/\(SM x_2/\((LN x_3.2.1+N1=LN y.2.1/\(∀(i:Nat),i<LN x_3.2.1+N1->Br (LN x_3.2.1) (fun j=>Qx x_3.2.1 j) (fun i=>[D.str (List.getD [Sm.nm (JW bo x_3.1.1)] i [])]) i=Qx y.2.1 i)/\t=y.2.2.1)/\(LN x_3.2.1+N1=LN y.2.1/\(∀(i:Nat),i<LN x_3.2.1+N1->Br (LN x_3.2.1) (fun j=>Qy x_3.2.1 j) (fun i=>List.getD [[VJ bo x_3.1.1]] i []) i=Qy y.2.1 i)/\t_2=y.2.2.2)/\Q2 f0 r0)/\SM x/\(SM kd/\SM at_/\SM cl/\SM tx/\SM pr/\SM op/\SM (Arr.k va)/\(SM (Qf va)/\(∀(i:Nat),i<Qf va->SM [ZI (GI (Arr.sh va) i)])/\True)/\(SM (Qg va)/\(∀(i:Nat),i<Qg va->SM [ZI (GI (Arr.nu va) i)])/\True)/\(SM (Qh va)/\(∀(i:Nat),i<Qh va->SM (QK va i))/\True)/\(SM (LN ki)/\(∀(i:Nat),i<LN ki->SM (QG ki i))/\True)/\(SM (LN bo)/\(∀(i:Nat),i<LN bo->SM (QH bo i))/\True)/\SM de/\SM sl/\SM ss/\True)/\True)/\t'=y.1.2.2/\t=y.2.2.1/\t_2=y.2.2.2/\True))) (K4 f0 r0 x x_2 bo/\∃(y:(Nat×List (List UInt8)×Nat)×Frm1×Nat×Nat),BF (f0::r0) bo A y.1.1 y.1.2.1 y.1.2.2 y.2.1/\LN bo-y.1.1<LN bo-x_3.1.1/\K5 x_3.1.1 y.1.1 z_1.2.2 z_1.1 f0 r0 z_1.2.1 y.1.2.1 t' y.1.2.2/\(SM x_2/\((LN x_3.2.1=LN y.2.1/\(∀(i:Nat),i<LN x_3.2.1->Qx x_3.2.1 i=Qx y.2.1 i)/\x_3.2.2.1=y.2.2.1)/\(LN x_3.2.1=LN y.2.1/\(∀(i:Nat),i<LN x_3.2.1->Qy x_3.2.1 i=Qy y.2.1 i)/\x_3.2.2.2=y.2.2.2)/\Q2 f0 r0)/\SM x/\(SM kd/\SM at_/\SM cl/\SM tx/\SM pr/\SM op/\SM (Arr.k va)/\(SM (Qf va)/\(∀(i:Nat),i<Qf va->SM [ZI (GI (Arr.sh va) i)])/\True)/\(SM (Qg va)/\(∀(i:Nat),i<Qg va->SM [ZI (GI (Arr.nu va) i)])/\True)/\(SM (Qh va)/\(∀(i:Nat),i<Qh va->SM (QK va i))/\True)/\(SM (LN ki)/\(∀(i:Nat),i<LN ki->SM (QG ki i))/\True)/\(SM (LN bo)/\(∀(i:Nat),i<LN bo->SM (QH bo i))/\True)/\SM de/\SM sl/\SM ss/\True)/\True)/\t'=y.1.2.2/\x_3.2.2.1=y.2.2.1/\x_3.2.2.2=y.2.2.2/\True)) (SM x_4/\JY x_3.2.1 x_3.2.2.1 x_3.2.2.2 f0 r0/\∃(z:Frm1×Nd×List (List UInt8)),(SM x_3.1.2.2/\SM x_2/\JZ x_3.2.1 x_3.2.2.1 x_3.2.2.2 f0 r0 z.1/\Xw bo x_3.1.1 z.2.1/\Xv x_3.1.2.1 z.2.2 x_3.1.2.2 z.1 f0 r0 z.2.1)/\∀(t':Nat),Bx t'=BZ->SM x_4/\ifB (JX bo x_3.1.1==2) (SM x_4/\SM x_4/\SM x_2/\SM x_3.2.2.1/\Bd ((LN x_3.2.1+N1)*16<=140737488355328/\LN x_3.2.1+N1<=9223372036854775807) (∀(t:Nat),SM x_2/\SM x_2/\SM x_3.2.2.2/\Bd ((LN x_3.2.1+N1)*8<=140737488355328/\LN x_3.2.1+N1<=9223372036854775807) (∀(t_2:Nat),SM x_2/\SM x_2/\True/\K4 f0 r0 x x_2 bo/\∃(y:(Nat×List (List UInt8)×Nat)×Frm1×Nat×Nat),BF (f0::r0) bo A y.1.1 y.1.2.1 y.1.2.2 y.2.1/\LN bo-y.1.1<LN bo-x_3.1.1/\K5 x_3.1.1 y.1.1 z.2.2 z.1 f0 r0 z.2.1 y.1.2.1 t' y.1.2.2/\(SM x_2/\((LN x_3.2.1+N1=LN y.2.1/\(∀(i:Nat),i<LN x_3.2.1+N1->Br (LN x_3.2.1) (fun j=>Qx x_3.2.1 j) (fun i=>[D.str (List.getD [Sm.nm (JW bo x_3.1.1)] i [])]) i=Qx y.2.1 i)/\t=y.2.2.1)/\(LN x_3.2.1+N1=LN y.2.1/\(∀(i:Nat),i<LN x_3.2.1+N1->Br (LN x_3.2.1) (fun j=>Qy x_3.2.1 j) (fun i=>List.getD [[VJ bo x_3.1.1]] i []) i=Qy y.2.1 i)/\t_2=y.2.2.2)/\Q2 f0 r0)/\SM x/\(SM kd/\SM at_/\SM cl/\SM tx/\SM pr/\SM op/\SM (Arr.k va)/\(SM (Qf va)/\(∀(i:Nat),i<Qf va->SM [ZI (GI (Arr.sh va) i)])/\True)/\(SM (Qg va)/\(∀(i:Nat),i<Qg va->SM [ZI (GI (Arr.nu va) i)])/\True)/\(SM (Qh va)/\(∀(i:Nat),i<Qh va->SM (QK va i))/\True)/\(SM (LN ki)/\(∀(i:Nat),i<LN ki->SM (QG ki i))/\True)/\(SM (LN bo)/\(∀(i:Nat),i<LN bo->SM (QH bo i))/\True)/\SM de/\SM sl/\SM ss/\True)/\True)/\t'=y.1.2.2/\t=y.2.2.1/\t_2=y.2.2.2/\True))) (K4 f0 r0 x x_2 bo/\∃(y:(Nat×List (List UInt8)×Nat)×Frm1×Nat×Nat),BF (f0::r0) bo A y.1.1 y.1.2.1 y.1.2.2 y.2.1/\LN bo-y.1.1<LN bo-x_3.1.1/\K5 x_3.1.1 y.1.1 z.2.2 z.1 f0 r0 z.2.1 y.1.2.1 t' y.1.2.2/\(SM x_2/\((LN x_3.2.1=LN y.2.1/\(∀(i:Nat),i<LN x_3.2.1->Qx x_3.2.1 i=Qx y.2.1 i)/\x_3.2.2.1=y.2.2.1)/\(LN x_3.2.1=LN y.2.1/\(∀(i:Nat),i<LN x_3.2.1->Qy x_3.2.1 i=Qy y.2.1 i)/\x_3.2.2.2=y.2.2.2)/\Q2 f0 r0)/\SM x/\(SM kd/\SM at_/\SM cl/\SM tx/\SM pr/\SM op/\SM (Arr.k va)/\(SM (Qf va)/\(∀(i:Nat),i<Qf va->SM [ZI (GI (Arr.sh va) i)])/\True)/\(SM (Qg va)/\(∀(i:Nat),i<Qg va->SM [ZI (GI (Arr.nu va) i)])/\True)/\(SM (Qh va)/\(∀(i:Nat),i<Qh va->SM (QK va i))/\True)/\(SM (LN ki)/\(∀(i:Nat),i<LN ki->SM (QG ki i))/\True)/\(SM (LN bo)/\(∀(i:Nat),i<LN bo->SM (QH bo i))/\True)/\SM de/\SM sl/\SM ss/\True)/\True)/\t'=y.1.2.2/\x_3.2.2.1=y.2.2.1/\x_3.2.2.2=y.2.2.2/\True)))) (Xx x_3.1.2.2 x_3.1.2.1 A)) (Xx x_1.2.2 x_1.2.1 A)))) (by kernel_rfl) ?_
 delta DA GI LI LN N0 N1 N2 N4 NI SI SM Z0 Z1 ZI Qx QnW Qh Js QK Q9 K2 HY Qtf Qtg QnY QnZ Qy Qn0 Jt QG QH Qr Xn Qdp Qdq Xo Xp QnX Xq HZ Qth Qti Qn1 VI H0 Yu Qdr Qn2 Qdo Yv Q2 JW JX Qds JY JZ Qs Xr Qdt HX Qdu Xs Xt Xu H1 Xv K3 VJ H2 Qtj JV Qtk Qn3 Qn4 Qn5 Xw Qtl K4 K5 Xx Q8 Qf Qg
 try simp only[<- dm]
 try simp only[<- dn]
 simp only[ne_eq,implies_true,Int.toNat_natCast,Bh,Bf,decide_eq_true_eq,decide_eq_false_iff_not,true_and,and_true,beq_iff_eq,beq_eq_false_iff_ne,forall_const,Prod.exists]
 have hA1:A=L++((if kd=2 then (match Bp tx (f0::r0) with | none=>[tx] | some _=>[]) else [])++(fnL (f0::r0) ki++fnB (f0::r0) [] bo)):=by rw[hA,fnN]<;>rfl
 have hLl:L.length<=A.length:=by rw[hA,List.length_append];omega
 have en1:kd=2->Bp tx (f0::r0)=none->∀t1,Bx t1=BZ->KF (f0::r0) ki (fnB (f0::r0) [] bo) A 0 (L++[tx]) t1:=fun h2 hk t1 ht1=>⟨Nat.zero_le _,ht1,by rw[hA1,if_pos h2,hk];simp⟩
 have en2:kd=2->¬Bp tx (f0::r0)=none->KF (f0::r0) ki (fnB (f0::r0) [] bo) A 0 L t:=fun h2 hk=>⟨Nat.zero_le _,ht,by
  rw[hA1,if_pos h2]
  cases he:Bp tx (f0::r0) with
  |none=>exact (hk he).elim
  |some y=>simp⟩
 have en3:¬kd=2->KF (f0::r0) ki (fnB (f0::r0) [] bo) A 0 L t:=fun h2=>⟨Nat.zero_le _,ht,by rw[hA1,if_neg h2];simp⟩
 clear hA hA1
 refine fun x=>⟨fun h2=>⟨⟨rfl,hs⟩,fun hlk=>⟨⟨by omega,by omega⟩,fun t1 ht1=>⟨⟨0,L++[tx],t1,en1 h2 hlk t1 (ht1 ht),⟨rfl,by simp,fun j hj=>Bde (L:=L) (r:=[tx]) (by simp) (fun _ _=>rfl) (fun _ _=>rfl) j hj,rfl⟩,rfl⟩,?_⟩⟩,fun hlk=>⟨⟨0,L,t,en2 h2 hlk,⟨rfl,rfl,fun _ _=>rfl,rfl⟩,rfl⟩,?_⟩⟩,fun h2=>⟨⟨0,L,t,en3 h2,⟨rfl,rfl,fun _ _=>rfl,rfl⟩,rfl⟩,?_⟩⟩
 all_goals
  clear en1 en2 en3
  rintro ⟨i,L1,t1⟩ hK
  simp only at hK ⊢
  refine⟨fun hlt=>?_,fun hge=>?_⟩
  ·have hi:i<ki.length:=by omega
   exact⟨⟨Int.natCast_nonneg i,hlt⟩,fun _ _=>⟨ki.getD i default,L1,⟨rfl,rfl,⟨rfl,fun _ _=>Bc _⟩,hn _ (GJ hi),hK.ty,hK.size hi hL⟩,fun t' ht'=>⟨i+1,_,t',hK.step hi ht',by omega,⟨Be (by omega) (by omega),rfl,fun _ _=>rfl,rfl⟩,rfl⟩⟩⟩
  ·have hd:=hK.done (by omega)
   refine⟨fun _ x2 _ t2 t3=>⟨⟨0,L1,t1,[],t2,t3,⟨Nat.zero_le _,Nat.le_refl _,hK.ty,hd⟩,⟨rfl,rfl,fun _ _=>rfl,rfl⟩,⟨⟨rfl,fun _ h=>absurd h (Nat.not_lt_zero _),rfl⟩,rfl,fun _ h=>absurd h (Nat.not_lt_zero _),rfl⟩,rfl,rfl,rfl⟩,?_⟩,fun hb0=>?_⟩
   ·rintro ⟨⟨i,L2,t4⟩,f,k1,k2⟩ hB
    simp only at hB ⊢
    refine⟨fun hlt=>?_,fun hge2=>?_⟩
    ·have hi:i<bo.length:=by omega
     have hfl:=hB.fl
     have hw:IntKind.i64.wrap ((i:Int)+1)=((i+1:Nat):Int):=Be (by omega) (by omega)
     have hst:=hB.step hi
     have hvn:=hb f (by omega) _ (E6 hi)
     have rf:=Bd4 f (f0::r0) (.tok 1 k1) (.tok 2 k2)
     have wk:=Bgd f (f0::r0) k1 k2
     have hlen:=congrArg List.length hst
     simp only[List.length_append] at hlen
     refine⟨⟨Int.natCast_nonneg i,hlt⟩,fun _ _=>⟨fun h3=>?_,fun h3=>?_⟩⟩
     ·rw[if_pos h3] at hst hlen
      refine⟨rf,f,_,L2,⟨wk,rfl,⟨rfl,fun _ _=>Bc _⟩,hvn.1 h3,hB.ty,by omega⟩,fun t5 ht5=>⟨rf,f,_,_,⟨wk,rfl,⟨rfl,fun _ _=>Bc _⟩,hvn.2,ht5,by rw[List.length_append];omega⟩,fun t6 ht6=>⟨fun h2=>absurd (h3.symm.trans h2) (by decide),fun h2=>?_⟩⟩⟩
      refine⟨i+1,_,t6,f,k1,k2,hB.next hi (by unfold Ce;rw[if_neg h2]) ht6 (by rw[hst];simp),by omega,⟨hw,rfl,fun _ _=>rfl,rfl⟩,⟨⟨rfl,fun _ _=>rfl,rfl⟩,rfl,fun _ _=>rfl,rfl⟩,rfl,rfl,rfl⟩
     ·rw[if_neg h3] at hst hlen
      simp only[List.length_nil] at hlen
      refine⟨rf,f,_,L2,⟨wk,rfl,⟨rfl,fun _ _=>Bc _⟩,hvn.2,hB.ty,by omega⟩,fun t5 ht5=>⟨fun h2=>?_,fun h2=>?_⟩⟩
      ·refine⟨⟨by omega,by omega⟩,fun t7=>⟨⟨by omega,by omega⟩,fun t8=>⟨i+1,_,t5,f++[((bo.getD i default).nm,(bo.getD i default).nd.cl)],t7,t8,hB.next hi (by unfold Ce;rw[if_pos h2]) ht5 (by rw[hst];simp),by omega,⟨hw,rfl,fun _ _=>rfl,rfl⟩,⟨⟨by simp,fun j hj=>Baz f _ _ j hj,rfl⟩,by simp,fun j hj=>RP f _ _ j hj,rfl⟩,rfl,rfl,rfl⟩⟩⟩
      ·exact⟨i+1,_,t5,f,k1,k2,hB.next hi (by unfold Ce;rw[if_neg h2]) ht5 (by rw[hst];simp),by omega,⟨hw,rfl,fun _ _=>rfl,rfl⟩,⟨⟨rfl,fun _ _=>rfl,rfl⟩,rfl,fun _ _=>rfl,rfl⟩,rfl,rfl,rfl⟩
    ·have hd2:=hB.done (by omega)
     subst hd2
     exact⟨hB.ty,rfl,fun _ _=>rfl⟩
   ·have:bo=[]:=List.eq_nil_of_length_eq_zero (by omega)
    subst this
    rw[fnB,List.append_nil] at hd
    subst hd
    exact⟨hK.ty,rfl,fun _ _=>rfl⟩
noncomputable def Efn(ki:List Nd)(bo:List Sm)(A:List (List UInt8)):Senv:={ EC CM 84 3 [4,6,7,8,10,11,13,16,25,32,33,34,35,46,51,52,53,54,59,72] (fun id=>match id with | 19=>([0,1,2,3,4,5,6,7,8],[8]) | _=>([],[])) with
 inl:=inlF CM []
 own:=fun t=>Nat.beq t 49
 gh:=fun b=>match b with
  |2=>[.cell 1 100,.cell 1 101]
  |_=>[]
 ann:=fun b _env S=>match b with
  |0=>some { slots:=[34,2],keep:=[0,4,32,33],α:=Nat×List (List UInt8)×Nat,st:=fun y=>([.int .i64 (y.1:Nat),ssl y.2.1 (.tok 0 y.2.2)],⟨S.objs,[(0,y.2.2)]⟩),inv:=fun y=>KF [] ki (fnB [] [] bo) A y.1 y.2.1 y.2.2,mu:=fun y=>ki.length-y.1 }
  |2=>some { slots:=[53,2],keep:=[0,4,11,51,52],α:=(Nat×List (List UInt8)×Nat)×Frm1×Nat×Nat,st:=fun y=>([.int .i64 (y.1.1:Nat),ssl y.1.2.1 (.tok 0 y.1.2.2)],⟨C5 S.objs 1 (.cells [.sl 1 y.2.1.length (fun j=>[.str ((nmF y.2.1).getD j [])]) (.tok 1 y.2.2.1),.sl 1 y.2.1.length (fun j=>[.int .i64 ((clF y.2.1).getD j 0)]) (.tok 2 y.2.2.2),.nilp]),[(0,y.1.2.2),(1,y.2.2.1),(2,y.2.2.2)]⟩),inv:=fun y=>BF [] bo A y.1.1 y.1.2.1 y.1.2.2 y.2.1,mu:=fun y=>bo.length-y.1.1 }
  |_=>none }
def H3:Prop:=D.nilp=frD []
def J0(a:List Nd)(b:List Sm)(c:List (List UInt8))(d:Nat)(e:List (List UInt8))(f:Nat):Prop:=KF [] a (fnB [] [] b) c d e f
def Ka(a:List (List UInt8))(b:Nat):List D:=[D.str (List.getD a b [])]
def Qi(a:Arr):Nat:=LN (Arr.sh a)
def Qj(a:Arr):Nat:=LN (Arr.nu a)
def Qk(a:Arr):Nat:=LN (Arr.it a)
def Ju:Arr:=DA
def QL(a:Arr)(b:Nat):List D:=Arr.row (List.getD (Arr.it a) b Ju)
def Kb:Nd:=Nd.mk Z0 Z0 Z0 [] Z0 Z0 Ju [] [] Z0 Z0 Z0
def K6(a:List Nd)(b:Nat):Nd:=List.getD a b Kb
def H4(a:List Nd)(b:Nat):Arr:=Nd.va (K6 a b)
def Qtm(a:List Nd)(b:Nat):List Int:=Arr.sh (H4 a b)
def Qtn(a:List Nd)(b:Nat):List Int:=Arr.nu (H4 a b)
def Qn6(a:List Nd)(b:Nat):List Arr:=Arr.it (H4 a b)
def Qn7(a:List Nd)(b:Nat):List Nd:=Nd.ki (K6 a b)
def Qn8(a:List Nd)(b:Nat):List Sm:=Nd.bo (K6 a b)
def Jv:Sm:=Sm.mk Z0 Z0 [] Z0 Kb Kb
def QI(a:List Nd)(b:Nat):List D:=[ZI (Nd.kd (K6 a b)),ZI (Nd.at_ (K6 a b)),ZI (Nd.cl (K6 a b)),D.str (Nd.tx (K6 a b)),ZI (Nd.pr (K6 a b)),ZI (Nd.op (K6 a b)),ZI (Arr.k (H4 a b)),SI (Qtm a b),SI (Qtn a b),D.sl N4 (LN (Qn6 a b)) (fun i=>Arr.row (List.getD (Qn6 a b) i Ju)) Mode.any,D.sl 15 (LN (Qn7 a b)) (fun i=>Nd.row (List.getD (Qn7 a b) i Kb)) Mode.any,D.sl 34 (LN (Qn8 a b)) (fun i=>Sm.row (List.getD (Qn8 a b) i Jv)) Mode.any,ZI (Nd.de (K6 a b)),ZI (Nd.sl (K6 a b)),ZI (Nd.ss (K6 a b))]
def QJ(a:List Sm)(b:Nat):List D:=Sm.row1 (List.getD a b Jv)
def Qt(a:List Nd)(b:Nat):Nd:=List.getD a (Int.toNat (↑b:Int)) Kb
def Xy(a:List Nd)(b:Nat):Arr:=Nd.va (Qt a b)
def Qdv(a:List Nd)(b:Nat):List Int:=Arr.sh (Xy a b)
def Qdw(a:List Nd)(b:Nat):List Int:=Arr.nu (Xy a b)
def Xz(a:List Nd)(b:Nat):List Arr:=Arr.it (Xy a b)
def XA(a:List Nd)(b:Nat):List Nd:=Nd.ki (Qt a b)
def XB(a:List Nd)(b:Nat):List Sm:=Nd.bo (Qt a b)
def H5(a:Nd):Arr:=Nd.va a
def Qto(a:Nd):List Int:=Arr.sh (H5 a)
def Qtp(a:Nd):List Int:=Arr.nu (H5 a)
def Qn9(a:Nd):List Arr:=Arr.it (H5 a)
def VK(a:Nd):D:=D.agg [ZI (Nd.kd a),ZI (Nd.at_ a),ZI (Nd.cl a),D.str (Nd.tx a),ZI (Nd.pr a),ZI (Nd.op a),ZI (Arr.k (H5 a)),SI (Qto a),SI (Qtp a),D.sl N4 (LN (Qn9 a)) (fun i=>Arr.row (List.getD (Qn9 a) i Ju)) Mode.any,D.sl 15 (LN (Nd.ki a)) (fun i=>Nd.row (List.getD (Nd.ki a) i Kb)) Mode.any,D.sl 34 (LN (Nd.bo a)) (fun i=>Sm.row (List.getD (Nd.bo a) i Jv)) Mode.any,ZI (Nd.de a),ZI (Nd.sl a),ZI (Nd.ss a)]
def H6(a b:List (List UInt8))(c:Nat):Prop:=LN a=LN b/\(∀(i:Nat),i<LN a->wkL (Ka a i) (Ka b i))/\SM c
def Qdx(a:List Nd):D:=D.sl 15 (LN a) (fun i=>QI a i) Mode.any
def Qoa(a b:List (List UInt8)):Prop:=∀(i:Nat),i<LN a->Ka a i=Ka b i
def Yw(a:Nat)(b c:List (List UInt8))(d e:Nat):Prop:=Z0=(↑a:Int)/\(LN b=LN c/\Qoa b c/\d=e)/\True
def Qz(a:Frm1)(b:Nat):List D:=[D.str (List.getD (nmF a) b [])]
def QA(a:Frm1)(b:Nat):List D:=[ZI (GI (clF a) b)]
def J1(a:List Sm)(b:Nat):Sm:=List.getD a (Int.toNat (↑b:Int)) Jv
def J2(a:List Sm)(b:Nat):Int:=Sm.kd (J1 a b)
def Qdy(a:Frm1)(b c:Nat):List D:=[D.sl N1 (LN a) (fun j=>Qz a j) (Mode.tok N1 b),D.sl N1 (LN a) (fun j=>QA a j) (Mode.tok N2 c),D.nilp]
def J3(a:Frm1)(b c:Nat):Prop:=(List.all (Qdy a b c) M0&&List.all (Qdy a b c) B2)=true
def J4(a:Frm1)(b c:Nat)(d:Frm1):Prop:=wkL (Qdy a b c) [D.sl N1 (LN (nmF d)) (fun i=>Qz d i) Mode.any,D.sl N1 (LN (clF d)) (fun i=>QA d i) Mode.any,frD []]
def Qu(a:List Sm)(b:Nat):Nd:=Sm.te (J1 a b)
def XC(a:List Sm)(b:Nat):Arr:=Nd.va (Qu a b)
def Qdz(a:List Sm)(b:Nat):List Int:=Arr.sh (XC a b)
def QdA(a:List Sm)(b:Nat):List Int:=Arr.nu (XC a b)
def XD(a:List Sm)(b:Nat):List Arr:=Arr.it (XC a b)
def XE(a:List Sm)(b:Nat):List Nd:=Nd.ki (Qu a b)
def XF(a:List Sm)(b:Nat):List Sm:=Nd.bo (Qu a b)
def H7(a:Frm1)(b:Nd)(c:Nat)(d:List (List UInt8)):Prop:=VFr [a] b/\Bx c=BZ/\LN d+LN (fnN [a] b)<=1000000000
def XG(a b:List (List UInt8))(c:Nat)(d:Frm1)(e:Nd):Prop:=H6 a b c/\H7 d e c b
def K7(a:List Sm)(b:Nat):Nd:=Sm.nd (J1 a b)
def VL(a:List Sm)(b:Nat):D:=ZI (Nd.cl (K7 a b))
def H8(a:List Sm)(b:Nat):Arr:=Nd.va (K7 a b)
def Qtq(a:List Sm)(b:Nat):List Int:=Arr.sh (H8 a b)
def Qtr(a:List Sm)(b:Nat):List Int:=Arr.nu (H8 a b)
def Qob(a:List Sm)(b:Nat):List Arr:=Arr.it (H8 a b)
def Qoc(a:List Sm)(b:Nat):List Nd:=Nd.ki (K7 a b)
def Qod(a:List Sm)(b:Nat):List Sm:=Nd.bo (K7 a b)
def XH(a:List Sm)(b:Nat)(c:Nd):Prop:=D.agg [ZI (Nd.kd (K7 a b)),ZI (Nd.at_ (K7 a b)),VL a b,D.str (Nd.tx (K7 a b)),ZI (Nd.pr (K7 a b)),ZI (Nd.op (K7 a b)),ZI (Arr.k (H8 a b)),SI (Qtq a b),SI (Qtr a b),D.sl N4 (LN (Qob a b)) (fun i=>Arr.row (List.getD (Qob a b) i Ju)) Mode.any,D.sl 15 (LN (Qoc a b)) (fun i=>Nd.row (List.getD (Qoc a b) i Kb)) Mode.any,D.sl 34 (LN (Qod a b)) (fun i=>Sm.row (List.getD (Qod a b) i Jv)) Mode.any,ZI (Nd.de (K7 a b)),ZI (Nd.sl (K7 a b)),ZI (Nd.ss (K7 a b))]=VK c
def Qts(a:List Sm):D:=D.sl 34 (LN a) (fun i=>QJ a i) Mode.any
def K8(a b:Nat)(c:List Sm):Prop:=SM D.nilp/\SM (D.ref N0 a N0)/\SM (D.ref (max (N0+N1) N0) b N0)/\SM (Qts c)/\SM (ZI (LI c))/\True
def K9(a b:Nat)(c:List (List UInt8))(d:Frm1)(e:Nd)(f:List (List UInt8))(g h:Nat):Prop:=IntKind.wrap IntKind.i64 ((↑a:Int)+Z1)=(↑b:Int)/\(LN (c++fnN [d] e)=LN f/\(∀(i:Nat),i<LN (c++fnN [d] e)->[D.str (List.getD (c++fnN [d] e) i [])]=Ka f i)/\g=h)/\True
def XI(a:Nat)(b c:List (List UInt8)):Prop:=True/\Bx a=BZ/\(LN b=LN c/\Qoa b c/\SM a)/\True/\SM a/\True
theorem BgG  (kd at_ cl : Int)(tx : List UInt8)(pr op : Int)(va : Arr)(ki : List Nd)(bo : List Sm)(de sl ss : Int)(L : List (List UInt8))(t : Nat)(ht : Bx t=BZ)(A : List (List UInt8))(hA : A=L++fnN [] (.mk kd at_ cl tx pr op va ki bo de sl ss))(hL : A.length<=1000000000)
  (hs:okF []) (hki:ki.length<=1000000) (hbo:bo.length<=900000) (hn:∀b∈ki,VFr [] b) (hb:∀f,f.length<=bo.length->∀s∈bo,(s.kd=3->VFr (f::[]) s.te)/\VFr (f::[]) s.nd) :
  ACalls Tryz.prog 32 [.nilp,.agg [.int .i64 kd,.int .i64 at_,.int .i64 cl,.str tx,.int .i64 pr,.int .i64 op,.int .i64 va.k,isl va.sh .any,isl va.nu .any,gsl 4 Arr.row va.it,gsl 15 Nd.row1 ki,gsl 34 Sm.row1 bo,.int .i64 de,.int .i64 sl,.int .i64 ss],ssl L (.tok 0 t)] ⟨[],[(0,t)]⟩ (Go.Ab.endFr A):=by
 refine CK (E:=Efn ki bo A) (WI BE (Bd0 BE _) rfl) Tryz.func32 rfl (by kernel_rfl) rfl (by simp[Efn,EC,E0]) ?_
 refine Bj (T :=
  ∀(x:Nat),True->SM x/\ifB (kd==2) (SM x/\(H3/\okF [])/\(Bp tx []=none->SM x/\SM t/\Bd ((LN L+N1)*16<=140737488355328/\LN L+N1<=9223372036854775807) (∀(t1:Nat),(Bx t=10->Bx t1=10)->SM x/\(∃(x_1:Nat×List (List UInt8)×Nat),J0 ki bo A x_1.1 x_1.2.1 x_1.2.2/\(Z0=(NI x_1.1)/\(LN L+N1=LN x_1.2.1/\(∀(i:Nat),i<LN L+N1->Br (LN L) (fun i=>Ka L i) (fun i=>[D.str (List.getD [tx] i [])]) i=Ka x_1.2.1 i)/\t1=x_1.2.2)/\True)/\(SM x/\(SM kd/\SM at_/\SM cl/\SM tx/\SM pr/\SM op/\SM (Arr.k va)/\(SM (Qi va)/\(∀(i:Nat),i<Qi va->SM [ZI (GI (Arr.sh va) i)])/\True)/\(SM (Qj va)/\(∀(i:Nat),i<Qj va->SM [ZI (GI (Arr.nu va) i)])/\True)/\(SM (Qk va)/\(∀(i:Nat),i<Qk va->SM (QL va i))/\True)/\(SM (LN ki)/\(∀(i:Nat),i<LN ki->SM (QI ki i))/\True)/\(SM (LN bo)/\(∀(i:Nat),i<LN bo->SM (QJ bo i))/\True)/\SM de/\SM sl/\SM ss/\True)/\True)/\t1=x_1.2.2/\True)/\∀(x_1:Nat×List (List UInt8)×Nat),J0 ki bo A x_1.1 x_1.2.1 x_1.2.2->ifB (decide ((NI x_1.1)<(LI ki))) (Bd (Z0<=(NI x_1.1)/\(NI x_1.1)<(LI ki)) (∀(x_2:Nat),x≠x_2/\True->SM x_2/\SM x_2/\∃(z:Nd×List (List UInt8)),(SM x_1.2.2/\H3/\D.agg [ZI (Nd.kd (Qt ki x_1.1)),ZI (Nd.at_ (Qt ki x_1.1)),ZI (Nd.cl (Qt ki x_1.1)),D.str (Nd.tx (Qt ki x_1.1)),ZI (Nd.pr (Qt ki x_1.1)),ZI (Nd.op (Qt ki x_1.1)),ZI (Arr.k (Xy ki x_1.1)),SI (Qdv ki x_1.1),SI (Qdw ki x_1.1),D.sl N4 (LN (Xz ki x_1.1)) (fun i=>Arr.row (List.getD (Xz ki x_1.1) i Ju)) Mode.any,D.sl 15 (LN (XA ki x_1.1)) (fun i=>Nd.row (List.getD (XA ki x_1.1) i Kb)) Mode.any,D.sl 34 (LN (XB ki x_1.1)) (fun i=>Sm.row (List.getD (XB ki x_1.1) i Jv)) Mode.any,ZI (Nd.de (Qt ki x_1.1)),ZI (Nd.sl (Qt ki x_1.1)),ZI (Nd.ss (Qt ki x_1.1))]=VK z.1/\H6 x_1.2.1 z.2 x_1.2.2/\VFr [] z.1/\Bx x_1.2.2=BZ/\LN z.2+LN (fnN [] z.1)<=1000000000)/\∀(t':Nat),Bx t'=BZ->(SM D.nilp/\SM (D.ref N0 x N0)/\SM (Qdx ki)/\SM (ZI (LI ki))/\True)/\∃(y:Nat×List (List UInt8)×Nat),J0 ki bo A y.1 y.2.1 y.2.2/\LN ki-y.1<LN ki-x_1.1/\(IntKind.wrap IntKind.i64 ((NI x_1.1)+Z1)=(NI y.1)/\(LN (z.2++fnN [] z.1)=LN y.2.1/\(∀(i:Nat),i<LN (z.2++fnN [] z.1)->[D.str (List.getD (z.2++fnN [] z.1) i [])]=Ka y.2.1 i)/\t'=y.2.2)/\True)/\(SM x/\(SM kd/\SM at_/\SM cl/\SM tx/\SM pr/\SM op/\SM (Arr.k va)/\(SM (Qi va)/\(∀(i:Nat),i<Qi va->SM [ZI (GI (Arr.sh va) i)])/\True)/\(SM (Qj va)/\(∀(i:Nat),i<Qj va->SM [ZI (GI (Arr.nu va) i)])/\True)/\(SM (Qk va)/\(∀(i:Nat),i<Qk va->SM (QL va i))/\True)/\(SM (LN ki)/\(∀(i:Nat),i<LN ki->SM (QI ki i))/\True)/\(SM (LN bo)/\(∀(i:Nat),i<LN bo->SM (QJ bo i))/\True)/\SM de/\SM sl/\SM ss/\True)/\True)/\t'=y.2.2/\True)) (SM x/\ifB (decide (Z0<(LI bo))) (∀(x_2:Nat),x≠x_2/\True->SM x/\∀(t t_1:Nat),(∃(x_3:(Nat×List (List UInt8)×Nat)×Frm1×Nat×Nat),BF [] bo A x_3.1.1 x_3.1.2.1 x_3.1.2.2 x_3.2.1/\Yw x_3.1.1 x_1.2.1 x_3.1.2.1 x_1.2.2 x_3.1.2.2/\(SM x_2/\((N0=LN x_3.2.1/\(∀(i:Nat),i<N0->Cw (List D) [] (Qz x_3.2.1 i))/\t=x_3.2.2.1)/\(N0=LN x_3.2.1/\(∀(i:Nat),i<N0->Cw (List D) [] (QA x_3.2.1 i))/\t_1=x_3.2.2.2)/\True/\True)/\SM x/\(SM kd/\SM at_/\SM cl/\SM tx/\SM pr/\SM op/\SM (Arr.k va)/\(SM (Qi va)/\(∀(i:Nat),i<Qi va->SM [ZI (GI (Arr.sh va) i)])/\True)/\(SM (Qj va)/\(∀(i:Nat),i<Qj va->SM [ZI (GI (Arr.nu va) i)])/\True)/\(SM (Qk va)/\(∀(i:Nat),i<Qk va->SM (QL va i))/\True)/\(SM (LN ki)/\(∀(i:Nat),i<LN ki->SM (QI ki i))/\True)/\(SM (LN bo)/\(∀(i:Nat),i<LN bo->SM (QJ bo i))/\True)/\SM de/\SM sl/\SM ss/\True)/\True)/\x_1.2.2=x_3.1.2.2/\t=x_3.2.2.1/\t_1=x_3.2.2.2/\True)/\∀(x_3:(Nat×List (List UInt8)×Nat)×Frm1×Nat×Nat),BF [] bo A x_3.1.1 x_3.1.2.1 x_3.1.2.2 x_3.2.1->ifB (decide ((NI x_3.1.1)<(LI bo))) (Bd (Z0<=(NI x_3.1.1)/\(NI x_3.1.1)<(LI bo)) (∀(x_4:Nat),x_2≠x_4/\x≠x_4/\True->SM x_4/\SM x_4/\ifB (J2 bo x_3.1.1==3) (SM x_4/\J3 x_3.2.1 x_3.2.2.1 x_3.2.2.2/\∃(z:Frm1×Nd×List (List UInt8)),(SM x_3.1.2.2/\SM x_2/\J4 x_3.2.1 x_3.2.2.1 x_3.2.2.2 z.1/\D.agg [ZI (Nd.kd (Qu bo x_3.1.1)),ZI (Nd.at_ (Qu bo x_3.1.1)),ZI (Nd.cl (Qu bo x_3.1.1)),D.str (Nd.tx (Qu bo x_3.1.1)),ZI (Nd.pr (Qu bo x_3.1.1)),ZI (Nd.op (Qu bo x_3.1.1)),ZI (Arr.k (XC bo x_3.1.1)),SI (Qdz bo x_3.1.1),SI (QdA bo x_3.1.1),D.sl N4 (LN (XD bo x_3.1.1)) (fun i=>Arr.row (List.getD (XD bo x_3.1.1) i Ju)) Mode.any,D.sl 15 (LN (XE bo x_3.1.1)) (fun i=>Nd.row (List.getD (XE bo x_3.1.1) i Kb)) Mode.any,D.sl 34 (LN (XF bo x_3.1.1)) (fun i=>Sm.row (List.getD (XF bo x_3.1.1) i Jv)) Mode.any,ZI (Nd.de (Qu bo x_3.1.1)),ZI (Nd.sl (Qu bo x_3.1.1)),ZI (Nd.ss (Qu bo x_3.1.1))]=VK z.2.1/\XG x_3.1.2.1 z.2.2 x_3.1.2.2 z.1 z.2.1)/\∀(t':Nat),Bx t'=BZ->SM x_4/\J3 x_3.2.1 x_3.2.2.1 x_3.2.2.2/\∃(z_1:Frm1×Nd×List (List UInt8)),(SM t'/\SM x_2/\J4 x_3.2.1 x_3.2.2.1 x_3.2.2.2 z_1.1/\XH bo x_3.1.1 z_1.2.1/\(LN (z.2.2++fnN [z.1] z.2.1)=LN z_1.2.2/\(∀(i:Nat),i<LN (z.2.2++fnN [z.1] z.2.1)->wkL [D.str (List.getD (z.2.2++fnN [z.1] z.2.1) i [])] (Ka z_1.2.2 i))/\SM t')/\H7 z_1.1 z_1.2.1 t' z_1.2.2)/\∀(t':Nat),Bx t'=BZ->SM x_4/\ifB (J2 bo x_3.1.1==2) (SM x_4/\SM x_4/\SM x_2/\SM x_3.2.2.1/\Bd ((LN x_3.2.1+N1)*16<=140737488355328/\LN x_3.2.1+N1<=9223372036854775807) (∀(t:Nat),SM x_2/\SM x_2/\SM x_3.2.2.2/\Bd ((LN x_3.2.1+N1)*8<=140737488355328/\LN x_3.2.1+N1<=9223372036854775807) (∀(t_2:Nat),SM x_2/\SM x_2/\True/\K8 x x_2 bo/\∃(y:(Nat×List (List UInt8)×Nat)×Frm1×Nat×Nat),BF [] bo A y.1.1 y.1.2.1 y.1.2.2 y.2.1/\LN bo-y.1.1<LN bo-x_3.1.1/\K9 x_3.1.1 y.1.1 z_1.2.2 z_1.1 z_1.2.1 y.1.2.1 t' y.1.2.2/\(SM x_2/\((LN x_3.2.1+N1=LN y.2.1/\(∀(i:Nat),i<LN x_3.2.1+N1->Br (LN x_3.2.1) (fun j=>Qz x_3.2.1 j) (fun i=>[D.str (List.getD [Sm.nm (J1 bo x_3.1.1)] i [])]) i=Qz y.2.1 i)/\t=y.2.2.1)/\(LN x_3.2.1+N1=LN y.2.1/\(∀(i:Nat),i<LN x_3.2.1+N1->Br (LN x_3.2.1) (fun j=>QA x_3.2.1 j) (fun i=>List.getD [[VL bo x_3.1.1]] i []) i=QA y.2.1 i)/\t_2=y.2.2.2)/\True/\True)/\SM x/\(SM kd/\SM at_/\SM cl/\SM tx/\SM pr/\SM op/\SM (Arr.k va)/\(SM (Qi va)/\(∀(i:Nat),i<Qi va->SM [ZI (GI (Arr.sh va) i)])/\True)/\(SM (Qj va)/\(∀(i:Nat),i<Qj va->SM [ZI (GI (Arr.nu va) i)])/\True)/\(SM (Qk va)/\(∀(i:Nat),i<Qk va->SM (QL va i))/\True)/\(SM (LN ki)/\(∀(i:Nat),i<LN ki->SM (QI ki i))/\True)/\(SM (LN bo)/\(∀(i:Nat),i<LN bo->SM (QJ bo i))/\True)/\SM de/\SM sl/\SM ss/\True)/\True)/\t'=y.1.2.2/\t=y.2.2.1/\t_2=y.2.2.2/\True))) (K8 x x_2 bo/\∃(y:(Nat×List (List UInt8)×Nat)×Frm1×Nat×Nat),BF [] bo A y.1.1 y.1.2.1 y.1.2.2 y.2.1/\LN bo-y.1.1<LN bo-x_3.1.1/\K9 x_3.1.1 y.1.1 z_1.2.2 z_1.1 z_1.2.1 y.1.2.1 t' y.1.2.2/\(SM x_2/\((LN x_3.2.1=LN y.2.1/\(∀(i:Nat),i<LN x_3.2.1->Qz x_3.2.1 i=Qz y.2.1 i)/\x_3.2.2.1=y.2.2.1)/\(LN x_3.2.1=LN y.2.1/\(∀(i:Nat),i<LN x_3.2.1->QA x_3.2.1 i=QA y.2.1 i)/\x_3.2.2.2=y.2.2.2)/\True/\True)/\SM x/\(SM kd/\SM at_/\SM cl/\SM tx/\SM pr/\SM op/\SM (Arr.k va)/\(SM (Qi va)/\(∀(i:Nat),i<Qi va->SM [ZI (GI (Arr.sh va) i)])/\True)/\(SM (Qj va)/\(∀(i:Nat),i<Qj va->SM [ZI (GI (Arr.nu va) i)])/\True)/\(SM (Qk va)/\(∀(i:Nat),i<Qk va->SM (QL va i))/\True)/\(SM (LN ki)/\(∀(i:Nat),i<LN ki->SM (QI ki i))/\True)/\(SM (LN bo)/\(∀(i:Nat),i<LN bo->SM (QJ bo i))/\True)/\SM de/\SM sl/\SM ss/\True)/\True)/\t'=y.1.2.2/\x_3.2.2.1=y.2.2.1/\x_3.2.2.2=y.2.2.2/\True)) (SM x_4/\J3 x_3.2.1 x_3.2.2.1 x_3.2.2.2/\∃(z:Frm1×Nd×List (List UInt8)),(SM x_3.1.2.2/\SM x_2/\J4 x_3.2.1 x_3.2.2.1 x_3.2.2.2 z.1/\XH bo x_3.1.1 z.2.1/\XG x_3.1.2.1 z.2.2 x_3.1.2.2 z.1 z.2.1)/\∀(t':Nat),Bx t'=BZ->SM x_4/\ifB (J2 bo x_3.1.1==2) (SM x_4/\SM x_4/\SM x_2/\SM x_3.2.2.1/\Bd ((LN x_3.2.1+N1)*16<=140737488355328/\LN x_3.2.1+N1<=9223372036854775807) (∀(t:Nat),SM x_2/\SM x_2/\SM x_3.2.2.2/\Bd ((LN x_3.2.1+N1)*8<=140737488355328/\LN x_3.2.1+N1<=9223372036854775807) (∀(t_2:Nat),SM x_2/\SM x_2/\True/\K8 x x_2 bo/\∃(y:(Nat×List (List UInt8)×Nat)×Frm1×Nat×Nat),BF [] bo A y.1.1 y.1.2.1 y.1.2.2 y.2.1/\LN bo-y.1.1<LN bo-x_3.1.1/\K9 x_3.1.1 y.1.1 z.2.2 z.1 z.2.1 y.1.2.1 t' y.1.2.2/\(SM x_2/\((LN x_3.2.1+N1=LN y.2.1/\(∀(i:Nat),i<LN x_3.2.1+N1->Br (LN x_3.2.1) (fun j=>Qz x_3.2.1 j) (fun i=>[D.str (List.getD [Sm.nm (J1 bo x_3.1.1)] i [])]) i=Qz y.2.1 i)/\t=y.2.2.1)/\(LN x_3.2.1+N1=LN y.2.1/\(∀(i:Nat),i<LN x_3.2.1+N1->Br (LN x_3.2.1) (fun j=>QA x_3.2.1 j) (fun i=>List.getD [[VL bo x_3.1.1]] i []) i=QA y.2.1 i)/\t_2=y.2.2.2)/\True/\True)/\SM x/\(SM kd/\SM at_/\SM cl/\SM tx/\SM pr/\SM op/\SM (Arr.k va)/\(SM (Qi va)/\(∀(i:Nat),i<Qi va->SM [ZI (GI (Arr.sh va) i)])/\True)/\(SM (Qj va)/\(∀(i:Nat),i<Qj va->SM [ZI (GI (Arr.nu va) i)])/\True)/\(SM (Qk va)/\(∀(i:Nat),i<Qk va->SM (QL va i))/\True)/\(SM (LN ki)/\(∀(i:Nat),i<LN ki->SM (QI ki i))/\True)/\(SM (LN bo)/\(∀(i:Nat),i<LN bo->SM (QJ bo i))/\True)/\SM de/\SM sl/\SM ss/\True)/\True)/\t'=y.1.2.2/\t=y.2.2.1/\t_2=y.2.2.2/\True))) (K8 x x_2 bo/\∃(y:(Nat×List (List UInt8)×Nat)×Frm1×Nat×Nat),BF [] bo A y.1.1 y.1.2.1 y.1.2.2 y.2.1/\LN bo-y.1.1<LN bo-x_3.1.1/\K9 x_3.1.1 y.1.1 z.2.2 z.1 z.2.1 y.1.2.1 t' y.1.2.2/\(SM x_2/\((LN x_3.2.1=LN y.2.1/\(∀(i:Nat),i<LN x_3.2.1->Qz x_3.2.1 i=Qz y.2.1 i)/\x_3.2.2.1=y.2.2.1)/\(LN x_3.2.1=LN y.2.1/\(∀(i:Nat),i<LN x_3.2.1->QA x_3.2.1 i=QA y.2.1 i)/\x_3.2.2.2=y.2.2.2)/\True/\True)/\SM x/\(SM kd/\SM at_/\SM cl/\SM tx/\SM pr/\SM op/\SM (Arr.k va)/\(SM (Qi va)/\(∀(i:Nat),i<Qi va->SM [ZI (GI (Arr.sh va) i)])/\True)/\(SM (Qj va)/\(∀(i:Nat),i<Qj va->SM [ZI (GI (Arr.nu va) i)])/\True)/\(SM (Qk va)/\(∀(i:Nat),i<Qk va->SM (QL va i))/\True)/\(SM (LN ki)/\(∀(i:Nat),i<LN ki->SM (QI ki i))/\True)/\(SM (LN bo)/\(∀(i:Nat),i<LN bo->SM (QJ bo i))/\True)/\SM de/\SM sl/\SM ss/\True)/\True)/\t'=y.1.2.2/\x_3.2.2.1=y.2.2.1/\x_3.2.2.2=y.2.2.2/\True)))) (XI x_3.1.2.2 x_3.1.2.1 A)) (XI x_1.2.2 x_1.2.1 A))))/\∀(d:Int) (row:List D),Bp tx []≠none->SM x/\(∃(x_1:Nat×List (List UInt8)×Nat),J0 ki bo A x_1.1 x_1.2.1 x_1.2.2/\Yw x_1.1 L x_1.2.1 t x_1.2.2/\(SM x/\(SM kd/\SM at_/\SM cl/\SM tx/\SM pr/\SM op/\SM (Arr.k va)/\(SM (Qi va)/\(∀(i:Nat),i<Qi va->SM [ZI (GI (Arr.sh va) i)])/\True)/\(SM (Qj va)/\(∀(i:Nat),i<Qj va->SM [ZI (GI (Arr.nu va) i)])/\True)/\(SM (Qk va)/\(∀(i:Nat),i<Qk va->SM (QL va i))/\True)/\(SM (LN ki)/\(∀(i:Nat),i<LN ki->SM (QI ki i))/\True)/\(SM (LN bo)/\(∀(i:Nat),i<LN bo->SM (QJ bo i))/\True)/\SM de/\SM sl/\SM ss/\True)/\True)/\t=x_1.2.2/\True)/\∀(x_1:Nat×List (List UInt8)×Nat),J0 ki bo A x_1.1 x_1.2.1 x_1.2.2->ifB (decide ((NI x_1.1)<(LI ki))) (Bd (Z0<=(NI x_1.1)/\(NI x_1.1)<(LI ki)) (∀(x_2:Nat),x≠x_2/\True->SM x_2/\SM x_2/\∃(z:Nd×List (List UInt8)),(SM x_1.2.2/\H3/\D.agg [ZI (Nd.kd (Qt ki x_1.1)),ZI (Nd.at_ (Qt ki x_1.1)),ZI (Nd.cl (Qt ki x_1.1)),D.str (Nd.tx (Qt ki x_1.1)),ZI (Nd.pr (Qt ki x_1.1)),ZI (Nd.op (Qt ki x_1.1)),ZI (Arr.k (Xy ki x_1.1)),SI (Qdv ki x_1.1),SI (Qdw ki x_1.1),D.sl N4 (LN (Xz ki x_1.1)) (fun i=>Arr.row (List.getD (Xz ki x_1.1) i Ju)) Mode.any,D.sl 15 (LN (XA ki x_1.1)) (fun i=>Nd.row (List.getD (XA ki x_1.1) i Kb)) Mode.any,D.sl 34 (LN (XB ki x_1.1)) (fun i=>Sm.row (List.getD (XB ki x_1.1) i Jv)) Mode.any,ZI (Nd.de (Qt ki x_1.1)),ZI (Nd.sl (Qt ki x_1.1)),ZI (Nd.ss (Qt ki x_1.1))]=VK z.1/\H6 x_1.2.1 z.2 x_1.2.2/\VFr [] z.1/\Bx x_1.2.2=BZ/\LN z.2+LN (fnN [] z.1)<=1000000000)/\∀(t':Nat),Bx t'=BZ->(SM D.nilp/\SM (D.ref N0 x N0)/\SM (Qdx ki)/\SM (ZI (LI ki))/\True)/\∃(y:Nat×List (List UInt8)×Nat),J0 ki bo A y.1 y.2.1 y.2.2/\LN ki-y.1<LN ki-x_1.1/\(IntKind.wrap IntKind.i64 ((NI x_1.1)+Z1)=(NI y.1)/\(LN (z.2++fnN [] z.1)=LN y.2.1/\(∀(i:Nat),i<LN (z.2++fnN [] z.1)->[D.str (List.getD (z.2++fnN [] z.1) i [])]=Ka y.2.1 i)/\t'=y.2.2)/\True)/\(SM x/\(SM kd/\SM at_/\SM cl/\SM tx/\SM pr/\SM op/\SM (Arr.k va)/\(SM (Qi va)/\(∀(i:Nat),i<Qi va->SM [ZI (GI (Arr.sh va) i)])/\True)/\(SM (Qj va)/\(∀(i:Nat),i<Qj va->SM [ZI (GI (Arr.nu va) i)])/\True)/\(SM (Qk va)/\(∀(i:Nat),i<Qk va->SM (QL va i))/\True)/\(SM (LN ki)/\(∀(i:Nat),i<LN ki->SM (QI ki i))/\True)/\(SM (LN bo)/\(∀(i:Nat),i<LN bo->SM (QJ bo i))/\True)/\SM de/\SM sl/\SM ss/\True)/\True)/\t'=y.2.2/\True)) (SM x/\ifB (decide (Z0<(LI bo))) (∀(x_2:Nat),x≠x_2/\True->SM x/\∀(t t_1:Nat),(∃(x_3:(Nat×List (List UInt8)×Nat)×Frm1×Nat×Nat),BF [] bo A x_3.1.1 x_3.1.2.1 x_3.1.2.2 x_3.2.1/\Yw x_3.1.1 x_1.2.1 x_3.1.2.1 x_1.2.2 x_3.1.2.2/\(SM x_2/\((N0=LN x_3.2.1/\(∀(i:Nat),i<N0->Cw (List D) [] (Qz x_3.2.1 i))/\t=x_3.2.2.1)/\(N0=LN x_3.2.1/\(∀(i:Nat),i<N0->Cw (List D) [] (QA x_3.2.1 i))/\t_1=x_3.2.2.2)/\True/\True)/\SM x/\(SM kd/\SM at_/\SM cl/\SM tx/\SM pr/\SM op/\SM (Arr.k va)/\(SM (Qi va)/\(∀(i:Nat),i<Qi va->SM [ZI (GI (Arr.sh va) i)])/\True)/\(SM (Qj va)/\(∀(i:Nat),i<Qj va->SM [ZI (GI (Arr.nu va) i)])/\True)/\(SM (Qk va)/\(∀(i:Nat),i<Qk va->SM (QL va i))/\True)/\(SM (LN ki)/\(∀(i:Nat),i<LN ki->SM (QI ki i))/\True)/\(SM (LN bo)/\(∀(i:Nat),i<LN bo->SM (QJ bo i))/\True)/\SM de/\SM sl/\SM ss/\True)/\True)/\x_1.2.2=x_3.1.2.2/\t=x_3.2.2.1/\t_1=x_3.2.2.2/\True)/\∀(x_3:(Nat×List (List UInt8)×Nat)×Frm1×Nat×Nat),BF [] bo A x_3.1.1 x_3.1.2.1 x_3.1.2.2 x_3.2.1->ifB (decide ((NI x_3.1.1)<(LI bo))) (Bd (Z0<=(NI x_3.1.1)/\(NI x_3.1.1)<(LI bo)) (∀(x_4:Nat),x_2≠x_4/\x≠x_4/\True->SM x_4/\SM x_4/\ifB (J2 bo x_3.1.1==3) (SM x_4/\J3 x_3.2.1 x_3.2.2.1 x_3.2.2.2/\∃(z:Frm1×Nd×List (List UInt8)),(SM x_3.1.2.2/\SM x_2/\J4 x_3.2.1 x_3.2.2.1 x_3.2.2.2 z.1/\D.agg [ZI (Nd.kd (Qu bo x_3.1.1)),ZI (Nd.at_ (Qu bo x_3.1.1)),ZI (Nd.cl (Qu bo x_3.1.1)),D.str (Nd.tx (Qu bo x_3.1.1)),ZI (Nd.pr (Qu bo x_3.1.1)),ZI (Nd.op (Qu bo x_3.1.1)),ZI (Arr.k (XC bo x_3.1.1)),SI (Qdz bo x_3.1.1),SI (QdA bo x_3.1.1),D.sl N4 (LN (XD bo x_3.1.1)) (fun i=>Arr.row (List.getD (XD bo x_3.1.1) i Ju)) Mode.any,D.sl 15 (LN (XE bo x_3.1.1)) (fun i=>Nd.row (List.getD (XE bo x_3.1.1) i Kb)) Mode.any,D.sl 34 (LN (XF bo x_3.1.1)) (fun i=>Sm.row (List.getD (XF bo x_3.1.1) i Jv)) Mode.any,ZI (Nd.de (Qu bo x_3.1.1)),ZI (Nd.sl (Qu bo x_3.1.1)),ZI (Nd.ss (Qu bo x_3.1.1))]=VK z.2.1/\XG x_3.1.2.1 z.2.2 x_3.1.2.2 z.1 z.2.1)/\∀(t':Nat),Bx t'=BZ->SM x_4/\J3 x_3.2.1 x_3.2.2.1 x_3.2.2.2/\∃(z_1:Frm1×Nd×List (List UInt8)),(SM t'/\SM x_2/\J4 x_3.2.1 x_3.2.2.1 x_3.2.2.2 z_1.1/\XH bo x_3.1.1 z_1.2.1/\(LN (z.2.2++fnN [z.1] z.2.1)=LN z_1.2.2/\(∀(i:Nat),i<LN (z.2.2++fnN [z.1] z.2.1)->wkL [D.str (List.getD (z.2.2++fnN [z.1] z.2.1) i [])] (Ka z_1.2.2 i))/\SM t')/\H7 z_1.1 z_1.2.1 t' z_1.2.2)/\∀(t':Nat),Bx t'=BZ->SM x_4/\ifB (J2 bo x_3.1.1==2) (SM x_4/\SM x_4/\SM x_2/\SM x_3.2.2.1/\Bd ((LN x_3.2.1+N1)*16<=140737488355328/\LN x_3.2.1+N1<=9223372036854775807) (∀(t:Nat),SM x_2/\SM x_2/\SM x_3.2.2.2/\Bd ((LN x_3.2.1+N1)*8<=140737488355328/\LN x_3.2.1+N1<=9223372036854775807) (∀(t_2:Nat),SM x_2/\SM x_2/\True/\K8 x x_2 bo/\∃(y:(Nat×List (List UInt8)×Nat)×Frm1×Nat×Nat),BF [] bo A y.1.1 y.1.2.1 y.1.2.2 y.2.1/\LN bo-y.1.1<LN bo-x_3.1.1/\K9 x_3.1.1 y.1.1 z_1.2.2 z_1.1 z_1.2.1 y.1.2.1 t' y.1.2.2/\(SM x_2/\((LN x_3.2.1+N1=LN y.2.1/\(∀(i:Nat),i<LN x_3.2.1+N1->Br (LN x_3.2.1) (fun j=>Qz x_3.2.1 j) (fun i=>[D.str (List.getD [Sm.nm (J1 bo x_3.1.1)] i [])]) i=Qz y.2.1 i)/\t=y.2.2.1)/\(LN x_3.2.1+N1=LN y.2.1/\(∀(i:Nat),i<LN x_3.2.1+N1->Br (LN x_3.2.1) (fun j=>QA x_3.2.1 j) (fun i=>List.getD [[VL bo x_3.1.1]] i []) i=QA y.2.1 i)/\t_2=y.2.2.2)/\True/\True)/\SM x/\(SM kd/\SM at_/\SM cl/\SM tx/\SM pr/\SM op/\SM (Arr.k va)/\(SM (Qi va)/\(∀(i:Nat),i<Qi va->SM [ZI (GI (Arr.sh va) i)])/\True)/\(SM (Qj va)/\(∀(i:Nat),i<Qj va->SM [ZI (GI (Arr.nu va) i)])/\True)/\(SM (Qk va)/\(∀(i:Nat),i<Qk va->SM (QL va i))/\True)/\(SM (LN ki)/\(∀(i:Nat),i<LN ki->SM (QI ki i))/\True)/\(SM (LN bo)/\(∀(i:Nat),i<LN bo->SM (QJ bo i))/\True)/\SM de/\SM sl/\SM ss/\True)/\True)/\t'=y.1.2.2/\t=y.2.2.1/\t_2=y.2.2.2/\True))) (K8 x x_2 bo/\∃(y:(Nat×List (List UInt8)×Nat)×Frm1×Nat×Nat),BF [] bo A y.1.1 y.1.2.1 y.1.2.2 y.2.1/\LN bo-y.1.1<LN bo-x_3.1.1/\K9 x_3.1.1 y.1.1 z_1.2.2 z_1.1 z_1.2.1 y.1.2.1 t' y.1.2.2/\(SM x_2/\((LN x_3.2.1=LN y.2.1/\(∀(i:Nat),i<LN x_3.2.1->Qz x_3.2.1 i=Qz y.2.1 i)/\x_3.2.2.1=y.2.2.1)/\(LN x_3.2.1=LN y.2.1/\(∀(i:Nat),i<LN x_3.2.1->QA x_3.2.1 i=QA y.2.1 i)/\x_3.2.2.2=y.2.2.2)/\True/\True)/\SM x/\(SM kd/\SM at_/\SM cl/\SM tx/\SM pr/\SM op/\SM (Arr.k va)/\(SM (Qi va)/\(∀(i:Nat),i<Qi va->SM [ZI (GI (Arr.sh va) i)])/\True)/\(SM (Qj va)/\(∀(i:Nat),i<Qj va->SM [ZI (GI (Arr.nu va) i)])/\True)/\(SM (Qk va)/\(∀(i:Nat),i<Qk va->SM (QL va i))/\True)/\(SM (LN ki)/\(∀(i:Nat),i<LN ki->SM (QI ki i))/\True)/\(SM (LN bo)/\(∀(i:Nat),i<LN bo->SM (QJ bo i))/\True)/\SM de/\SM sl/\SM ss/\True)/\True)/\t'=y.1.2.2/\x_3.2.2.1=y.2.2.1/\x_3.2.2.2=y.2.2.2/\True)) (SM x_4/\J3 x_3.2.1 x_3.2.2.1 x_3.2.2.2/\∃(z:Frm1×Nd×List (List UInt8)),(SM x_3.1.2.2/\SM x_2/\J4 x_3.2.1 x_3.2.2.1 x_3.2.2.2 z.1/\XH bo x_3.1.1 z.2.1/\XG x_3.1.2.1 z.2.2 x_3.1.2.2 z.1 z.2.1)/\∀(t':Nat),Bx t'=BZ->SM x_4/\ifB (J2 bo x_3.1.1==2) (SM x_4/\SM x_4/\SM x_2/\SM x_3.2.2.1/\Bd ((LN x_3.2.1+N1)*16<=140737488355328/\LN x_3.2.1+N1<=9223372036854775807) (∀(t:Nat),SM x_2/\SM x_2/\SM x_3.2.2.2/\Bd ((LN x_3.2.1+N1)*8<=140737488355328/\LN x_3.2.1+N1<=9223372036854775807) (∀(t_2:Nat),SM x_2/\SM x_2/\True/\K8 x x_2 bo/\∃(y:(Nat×List (List UInt8)×Nat)×Frm1×Nat×Nat),BF [] bo A y.1.1 y.1.2.1 y.1.2.2 y.2.1/\LN bo-y.1.1<LN bo-x_3.1.1/\K9 x_3.1.1 y.1.1 z.2.2 z.1 z.2.1 y.1.2.1 t' y.1.2.2/\(SM x_2/\((LN x_3.2.1+N1=LN y.2.1/\(∀(i:Nat),i<LN x_3.2.1+N1->Br (LN x_3.2.1) (fun j=>Qz x_3.2.1 j) (fun i=>[D.str (List.getD [Sm.nm (J1 bo x_3.1.1)] i [])]) i=Qz y.2.1 i)/\t=y.2.2.1)/\(LN x_3.2.1+N1=LN y.2.1/\(∀(i:Nat),i<LN x_3.2.1+N1->Br (LN x_3.2.1) (fun j=>QA x_3.2.1 j) (fun i=>List.getD [[VL bo x_3.1.1]] i []) i=QA y.2.1 i)/\t_2=y.2.2.2)/\True/\True)/\SM x/\(SM kd/\SM at_/\SM cl/\SM tx/\SM pr/\SM op/\SM (Arr.k va)/\(SM (Qi va)/\(∀(i:Nat),i<Qi va->SM [ZI (GI (Arr.sh va) i)])/\True)/\(SM (Qj va)/\(∀(i:Nat),i<Qj va->SM [ZI (GI (Arr.nu va) i)])/\True)/\(SM (Qk va)/\(∀(i:Nat),i<Qk va->SM (QL va i))/\True)/\(SM (LN ki)/\(∀(i:Nat),i<LN ki->SM (QI ki i))/\True)/\(SM (LN bo)/\(∀(i:Nat),i<LN bo->SM (QJ bo i))/\True)/\SM de/\SM sl/\SM ss/\True)/\True)/\t'=y.1.2.2/\t=y.2.2.1/\t_2=y.2.2.2/\True))) (K8 x x_2 bo/\∃(y:(Nat×List (List UInt8)×Nat)×Frm1×Nat×Nat),BF [] bo A y.1.1 y.1.2.1 y.1.2.2 y.2.1/\LN bo-y.1.1<LN bo-x_3.1.1/\K9 x_3.1.1 y.1.1 z.2.2 z.1 z.2.1 y.1.2.1 t' y.1.2.2/\(SM x_2/\((LN x_3.2.1=LN y.2.1/\(∀(i:Nat),i<LN x_3.2.1->Qz x_3.2.1 i=Qz y.2.1 i)/\x_3.2.2.1=y.2.2.1)/\(LN x_3.2.1=LN y.2.1/\(∀(i:Nat),i<LN x_3.2.1->QA x_3.2.1 i=QA y.2.1 i)/\x_3.2.2.2=y.2.2.2)/\True/\True)/\SM x/\(SM kd/\SM at_/\SM cl/\SM tx/\SM pr/\SM op/\SM (Arr.k va)/\(SM (Qi va)/\(∀(i:Nat),i<Qi va->SM [ZI (GI (Arr.sh va) i)])/\True)/\(SM (Qj va)/\(∀(i:Nat),i<Qj va->SM [ZI (GI (Arr.nu va) i)])/\True)/\(SM (Qk va)/\(∀(i:Nat),i<Qk va->SM (QL va i))/\True)/\(SM (LN ki)/\(∀(i:Nat),i<LN ki->SM (QI ki i))/\True)/\(SM (LN bo)/\(∀(i:Nat),i<LN bo->SM (QJ bo i))/\True)/\SM de/\SM sl/\SM ss/\True)/\True)/\t'=y.1.2.2/\x_3.2.2.1=y.2.2.1/\x_3.2.2.2=y.2.2.2/\True)))) (XI x_3.1.2.2 x_3.1.2.1 A)) (XI x_1.2.2 x_1.2.1 A))) (SM x/\(∃(x_1:Nat×List (List UInt8)×Nat),J0 ki bo A x_1.1 x_1.2.1 x_1.2.2/\Yw x_1.1 L x_1.2.1 t x_1.2.2/\(SM x/\(SM kd/\SM at_/\SM cl/\SM tx/\SM pr/\SM op/\SM (Arr.k va)/\(SM (Qi va)/\(∀(i:Nat),i<Qi va->SM [ZI (GI (Arr.sh va) i)])/\True)/\(SM (Qj va)/\(∀(i:Nat),i<Qj va->SM [ZI (GI (Arr.nu va) i)])/\True)/\(SM (Qk va)/\(∀(i:Nat),i<Qk va->SM (QL va i))/\True)/\(SM (LN ki)/\(∀(i:Nat),i<LN ki->SM (QI ki i))/\True)/\(SM (LN bo)/\(∀(i:Nat),i<LN bo->SM (QJ bo i))/\True)/\SM de/\SM sl/\SM ss/\True)/\True)/\t=x_1.2.2/\True)/\∀(x_1:Nat×List (List UInt8)×Nat),J0 ki bo A x_1.1 x_1.2.1 x_1.2.2->ifB (decide ((NI x_1.1)<(LI ki))) (Bd (Z0<=(NI x_1.1)/\(NI x_1.1)<(LI ki)) (∀(x_2:Nat),x≠x_2/\True->SM x_2/\SM x_2/\∃(z:Nd×List (List UInt8)),(SM x_1.2.2/\H3/\D.agg [ZI (Nd.kd (Qt ki x_1.1)),ZI (Nd.at_ (Qt ki x_1.1)),ZI (Nd.cl (Qt ki x_1.1)),D.str (Nd.tx (Qt ki x_1.1)),ZI (Nd.pr (Qt ki x_1.1)),ZI (Nd.op (Qt ki x_1.1)),ZI (Arr.k (Xy ki x_1.1)),SI (Qdv ki x_1.1),SI (Qdw ki x_1.1),D.sl N4 (LN (Xz ki x_1.1)) (fun i=>Arr.row (List.getD (Xz ki x_1.1) i Ju)) Mode.any,D.sl 15 (LN (XA ki x_1.1)) (fun i=>Nd.row (List.getD (XA ki x_1.1) i Kb)) Mode.any,D.sl 34 (LN (XB ki x_1.1)) (fun i=>Sm.row (List.getD (XB ki x_1.1) i Jv)) Mode.any,ZI (Nd.de (Qt ki x_1.1)),ZI (Nd.sl (Qt ki x_1.1)),ZI (Nd.ss (Qt ki x_1.1))]=VK z.1/\H6 x_1.2.1 z.2 x_1.2.2/\VFr [] z.1/\Bx x_1.2.2=BZ/\LN z.2+LN (fnN [] z.1)<=1000000000)/\∀(t':Nat),Bx t'=BZ->(SM D.nilp/\SM (D.ref N0 x N0)/\SM (Qdx ki)/\SM (ZI (LI ki))/\True)/\∃(y:Nat×List (List UInt8)×Nat),J0 ki bo A y.1 y.2.1 y.2.2/\LN ki-y.1<LN ki-x_1.1/\(IntKind.wrap IntKind.i64 ((NI x_1.1)+Z1)=(NI y.1)/\(LN (z.2++fnN [] z.1)=LN y.2.1/\(∀(i:Nat),i<LN (z.2++fnN [] z.1)->[D.str (List.getD (z.2++fnN [] z.1) i [])]=Ka y.2.1 i)/\t'=y.2.2)/\True)/\(SM x/\(SM kd/\SM at_/\SM cl/\SM tx/\SM pr/\SM op/\SM (Arr.k va)/\(SM (Qi va)/\(∀(i:Nat),i<Qi va->SM [ZI (GI (Arr.sh va) i)])/\True)/\(SM (Qj va)/\(∀(i:Nat),i<Qj va->SM [ZI (GI (Arr.nu va) i)])/\True)/\(SM (Qk va)/\(∀(i:Nat),i<Qk va->SM (QL va i))/\True)/\(SM (LN ki)/\(∀(i:Nat),i<LN ki->SM (QI ki i))/\True)/\(SM (LN bo)/\(∀(i:Nat),i<LN bo->SM (QJ bo i))/\True)/\SM de/\SM sl/\SM ss/\True)/\True)/\t'=y.2.2/\True)) (SM x/\ifB (decide (Z0<(LI bo))) (∀(x_2:Nat),x≠x_2/\True->SM x/\∀(t t_1:Nat),(∃(x_3:(Nat×List (List UInt8)×Nat)×Frm1×Nat×Nat),BF [] bo A x_3.1.1 x_3.1.2.1 x_3.1.2.2 x_3.2.1/\Yw x_3.1.1 x_1.2.1 x_3.1.2.1 x_1.2.2 x_3.1.2.2/\(SM x_2/\((N0=LN x_3.2.1/\(∀(i:Nat),i<N0->Cw (List D) [] (Qz x_3.2.1 i))/\t=x_3.2.2.1)/\(N0=LN x_3.2.1/\(∀(i:Nat),i<N0->Cw (List D) [] (QA x_3.2.1 i))/\t_1=x_3.2.2.2)/\True/\True)/\SM x/\(SM kd/\SM at_/\SM cl/\SM tx/\SM pr/\SM op/\SM (Arr.k va)/\(SM (Qi va)/\(∀(i:Nat),i<Qi va->SM [ZI (GI (Arr.sh va) i)])/\True)/\(SM (Qj va)/\(∀(i:Nat),i<Qj va->SM [ZI (GI (Arr.nu va) i)])/\True)/\(SM (Qk va)/\(∀(i:Nat),i<Qk va->SM (QL va i))/\True)/\(SM (LN ki)/\(∀(i:Nat),i<LN ki->SM (QI ki i))/\True)/\(SM (LN bo)/\(∀(i:Nat),i<LN bo->SM (QJ bo i))/\True)/\SM de/\SM sl/\SM ss/\True)/\True)/\x_1.2.2=x_3.1.2.2/\t=x_3.2.2.1/\t_1=x_3.2.2.2/\True)/\∀(x_3:(Nat×List (List UInt8)×Nat)×Frm1×Nat×Nat),BF [] bo A x_3.1.1 x_3.1.2.1 x_3.1.2.2 x_3.2.1->ifB (decide ((NI x_3.1.1)<(LI bo))) (Bd (Z0<=(NI x_3.1.1)/\(NI x_3.1.1)<(LI bo)) (∀(x_4:Nat),x_2≠x_4/\x≠x_4/\True->SM x_4/\SM x_4/\ifB (J2 bo x_3.1.1==3) (SM x_4/\J3 x_3.2.1 x_3.2.2.1 x_3.2.2.2/\∃(z:Frm1×Nd×List (List UInt8)),(SM x_3.1.2.2/\SM x_2/\J4 x_3.2.1 x_3.2.2.1 x_3.2.2.2 z.1/\D.agg [ZI (Nd.kd (Qu bo x_3.1.1)),ZI (Nd.at_ (Qu bo x_3.1.1)),ZI (Nd.cl (Qu bo x_3.1.1)),D.str (Nd.tx (Qu bo x_3.1.1)),ZI (Nd.pr (Qu bo x_3.1.1)),ZI (Nd.op (Qu bo x_3.1.1)),ZI (Arr.k (XC bo x_3.1.1)),SI (Qdz bo x_3.1.1),SI (QdA bo x_3.1.1),D.sl N4 (LN (XD bo x_3.1.1)) (fun i=>Arr.row (List.getD (XD bo x_3.1.1) i Ju)) Mode.any,D.sl 15 (LN (XE bo x_3.1.1)) (fun i=>Nd.row (List.getD (XE bo x_3.1.1) i Kb)) Mode.any,D.sl 34 (LN (XF bo x_3.1.1)) (fun i=>Sm.row (List.getD (XF bo x_3.1.1) i Jv)) Mode.any,ZI (Nd.de (Qu bo x_3.1.1)),ZI (Nd.sl (Qu bo x_3.1.1)),ZI (Nd.ss (Qu bo x_3.1.1))]=VK z.2.1/\XG x_3.1.2.1 z.2.2 x_3.1.2.2 z.1 z.2.1)/\∀(t':Nat),Bx t'=BZ->SM x_4/\J3 x_3.2.1 x_3.2.2.1 x_3.2.2.2/\∃(z_1:Frm1×Nd×List (List UInt8)),(SM t'/\SM x_2/\J4 x_3.2.1 x_3.2.2.1 x_3.2.2.2 z_1.1/\XH bo x_3.1.1 z_1.2.1/\(LN (z.2.2++fnN [z.1] z.2.1)=LN z_1.2.2/\(∀(i:Nat),i<LN (z.2.2++fnN [z.1] z.2.1)->wkL [D.str (List.getD (z.2.2++fnN [z.1] z.2.1) i [])] (Ka z_1.2.2 i))/\SM t')/\H7 z_1.1 z_1.2.1 t' z_1.2.2)/\∀(t':Nat),Bx t'=BZ->SM x_4/\ifB (J2 bo x_3.1.1==2) (SM x_4/\SM x_4/\SM x_2/\SM x_3.2.2.1/\Bd ((LN x_3.2.1+N1)*16<=140737488355328/\LN x_3.2.1+N1<=9223372036854775807) (∀(t:Nat),SM x_2/\SM x_2/\SM x_3.2.2.2/\Bd ((LN x_3.2.1+N1)*8<=140737488355328/\LN x_3.2.1+N1<=9223372036854775807) (∀(t_2:Nat),SM x_2/\SM x_2/\True/\K8 x x_2 bo/\∃(y:(Nat×List (List UInt8)×Nat)×Frm1×Nat×Nat),BF [] bo A y.1.1 y.1.2.1 y.1.2.2 y.2.1/\LN bo-y.1.1<LN bo-x_3.1.1/\K9 x_3.1.1 y.1.1 z_1.2.2 z_1.1 z_1.2.1 y.1.2.1 t' y.1.2.2/\(SM x_2/\((LN x_3.2.1+N1=LN y.2.1/\(∀(i:Nat),i<LN x_3.2.1+N1->Br (LN x_3.2.1) (fun j=>Qz x_3.2.1 j) (fun i=>[D.str (List.getD [Sm.nm (J1 bo x_3.1.1)] i [])]) i=Qz y.2.1 i)/\t=y.2.2.1)/\(LN x_3.2.1+N1=LN y.2.1/\(∀(i:Nat),i<LN x_3.2.1+N1->Br (LN x_3.2.1) (fun j=>QA x_3.2.1 j) (fun i=>List.getD [[VL bo x_3.1.1]] i []) i=QA y.2.1 i)/\t_2=y.2.2.2)/\True/\True)/\SM x/\(SM kd/\SM at_/\SM cl/\SM tx/\SM pr/\SM op/\SM (Arr.k va)/\(SM (Qi va)/\(∀(i:Nat),i<Qi va->SM [ZI (GI (Arr.sh va) i)])/\True)/\(SM (Qj va)/\(∀(i:Nat),i<Qj va->SM [ZI (GI (Arr.nu va) i)])/\True)/\(SM (Qk va)/\(∀(i:Nat),i<Qk va->SM (QL va i))/\True)/\(SM (LN ki)/\(∀(i:Nat),i<LN ki->SM (QI ki i))/\True)/\(SM (LN bo)/\(∀(i:Nat),i<LN bo->SM (QJ bo i))/\True)/\SM de/\SM sl/\SM ss/\True)/\True)/\t'=y.1.2.2/\t=y.2.2.1/\t_2=y.2.2.2/\True))) (K8 x x_2 bo/\∃(y:(Nat×List (List UInt8)×Nat)×Frm1×Nat×Nat),BF [] bo A y.1.1 y.1.2.1 y.1.2.2 y.2.1/\LN bo-y.1.1<LN bo-x_3.1.1/\K9 x_3.1.1 y.1.1 z_1.2.2 z_1.1 z_1.2.1 y.1.2.1 t' y.1.2.2/\(SM x_2/\((LN x_3.2.1=LN y.2.1/\(∀(i:Nat),i<LN x_3.2.1->Qz x_3.2.1 i=Qz y.2.1 i)/\x_3.2.2.1=y.2.2.1)/\(LN x_3.2.1=LN y.2.1/\(∀(i:Nat),i<LN x_3.2.1->QA x_3.2.1 i=QA y.2.1 i)/\x_3.2.2.2=y.2.2.2)/\True/\True)/\SM x/\(SM kd/\SM at_/\SM cl/\SM tx/\SM pr/\SM op/\SM (Arr.k va)/\(SM (Qi va)/\(∀(i:Nat),i<Qi va->SM [ZI (GI (Arr.sh va) i)])/\True)/\(SM (Qj va)/\(∀(i:Nat),i<Qj va->SM [ZI (GI (Arr.nu va) i)])/\True)/\(SM (Qk va)/\(∀(i:Nat),i<Qk va->SM (QL va i))/\True)/\(SM (LN ki)/\(∀(i:Nat),i<LN ki->SM (QI ki i))/\True)/\(SM (LN bo)/\(∀(i:Nat),i<LN bo->SM (QJ bo i))/\True)/\SM de/\SM sl/\SM ss/\True)/\True)/\t'=y.1.2.2/\x_3.2.2.1=y.2.2.1/\x_3.2.2.2=y.2.2.2/\True)) (SM x_4/\J3 x_3.2.1 x_3.2.2.1 x_3.2.2.2/\∃(z:Frm1×Nd×List (List UInt8)),(SM x_3.1.2.2/\SM x_2/\J4 x_3.2.1 x_3.2.2.1 x_3.2.2.2 z.1/\XH bo x_3.1.1 z.2.1/\XG x_3.1.2.1 z.2.2 x_3.1.2.2 z.1 z.2.1)/\∀(t':Nat),Bx t'=BZ->SM x_4/\ifB (J2 bo x_3.1.1==2) (SM x_4/\SM x_4/\SM x_2/\SM x_3.2.2.1/\Bd ((LN x_3.2.1+N1)*16<=140737488355328/\LN x_3.2.1+N1<=9223372036854775807) (∀(t:Nat),SM x_2/\SM x_2/\SM x_3.2.2.2/\Bd ((LN x_3.2.1+N1)*8<=140737488355328/\LN x_3.2.1+N1<=9223372036854775807) (∀(t_2:Nat),SM x_2/\SM x_2/\True/\K8 x x_2 bo/\∃(y:(Nat×List (List UInt8)×Nat)×Frm1×Nat×Nat),BF [] bo A y.1.1 y.1.2.1 y.1.2.2 y.2.1/\LN bo-y.1.1<LN bo-x_3.1.1/\K9 x_3.1.1 y.1.1 z.2.2 z.1 z.2.1 y.1.2.1 t' y.1.2.2/\(SM x_2/\((LN x_3.2.1+N1=LN y.2.1/\(∀(i:Nat),i<LN x_3.2.1+N1->Br (LN x_3.2.1) (fun j=>Qz x_3.2.1 j) (fun i=>[D.str (List.getD [Sm.nm (J1 bo x_3.1.1)] i [])]) i=Qz y.2.1 i)/\t=y.2.2.1)/\(LN x_3.2.1+N1=LN y.2.1/\(∀(i:Nat),i<LN x_3.2.1+N1->Br (LN x_3.2.1) (fun j=>QA x_3.2.1 j) (fun i=>List.getD [[VL bo x_3.1.1]] i []) i=QA y.2.1 i)/\t_2=y.2.2.2)/\True/\True)/\SM x/\(SM kd/\SM at_/\SM cl/\SM tx/\SM pr/\SM op/\SM (Arr.k va)/\(SM (Qi va)/\(∀(i:Nat),i<Qi va->SM [ZI (GI (Arr.sh va) i)])/\True)/\(SM (Qj va)/\(∀(i:Nat),i<Qj va->SM [ZI (GI (Arr.nu va) i)])/\True)/\(SM (Qk va)/\(∀(i:Nat),i<Qk va->SM (QL va i))/\True)/\(SM (LN ki)/\(∀(i:Nat),i<LN ki->SM (QI ki i))/\True)/\(SM (LN bo)/\(∀(i:Nat),i<LN bo->SM (QJ bo i))/\True)/\SM de/\SM sl/\SM ss/\True)/\True)/\t'=y.1.2.2/\t=y.2.2.1/\t_2=y.2.2.2/\True))) (K8 x x_2 bo/\∃(y:(Nat×List (List UInt8)×Nat)×Frm1×Nat×Nat),BF [] bo A y.1.1 y.1.2.1 y.1.2.2 y.2.1/\LN bo-y.1.1<LN bo-x_3.1.1/\K9 x_3.1.1 y.1.1 z.2.2 z.1 z.2.1 y.1.2.1 t' y.1.2.2/\(SM x_2/\((LN x_3.2.1=LN y.2.1/\(∀(i:Nat),i<LN x_3.2.1->Qz x_3.2.1 i=Qz y.2.1 i)/\x_3.2.2.1=y.2.2.1)/\(LN x_3.2.1=LN y.2.1/\(∀(i:Nat),i<LN x_3.2.1->QA x_3.2.1 i=QA y.2.1 i)/\x_3.2.2.2=y.2.2.2)/\True/\True)/\SM x/\(SM kd/\SM at_/\SM cl/\SM tx/\SM pr/\SM op/\SM (Arr.k va)/\(SM (Qi va)/\(∀(i:Nat),i<Qi va->SM [ZI (GI (Arr.sh va) i)])/\True)/\(SM (Qj va)/\(∀(i:Nat),i<Qj va->SM [ZI (GI (Arr.nu va) i)])/\True)/\(SM (Qk va)/\(∀(i:Nat),i<Qk va->SM (QL va i))/\True)/\(SM (LN ki)/\(∀(i:Nat),i<LN ki->SM (QI ki i))/\True)/\(SM (LN bo)/\(∀(i:Nat),i<LN bo->SM (QJ bo i))/\True)/\SM de/\SM sl/\SM ss/\True)/\True)/\t'=y.1.2.2/\x_3.2.2.1=y.2.2.1/\x_3.2.2.2=y.2.2.2/\True)))) (XI x_3.1.2.2 x_3.1.2.1 A)) (XI x_1.2.2 x_1.2.1 A)))) (by kernel_rfl) ?_
 delta DA GI LI LN N0 N1 N2 N4 NI SI SM Z0 Z1 ZI H3 J0 H4 Qtm Qtn Qn6 Qn7 Qn8 Jv QI QJ Qt Ka Xy Qdv Qdw Xz XA XB H5 Qto Qtp Qn9 Qi VK H6 Qdx Qoa Yw Qz QA J1 J2 Qdy Qj J3 J4 Qu XC Qdz QdA XD XE XF H7 Qk XG K7 VL H8 Qtq Qtr Qob Qoc Qod XH Ju Qts K8 K9 XI QL Kb K6
 try simp only[<- dm]
 try simp only[<- dn]
 simp only[ne_eq,implies_true,Int.toNat_natCast,Bh,Bf,decide_eq_true_eq,decide_eq_false_iff_not,true_and,and_true,beq_iff_eq,beq_eq_false_iff_ne,forall_const,Prod.exists]
 have hA1:A=L++((if kd=2 then (match Bp tx [] with | none=>[tx] | some _=>[]) else [])++(fnL [] ki++fnB [] [] bo)):=by rw[hA,fnN]<;>rfl
 have hLl:L.length<=A.length:=by rw[hA,List.length_append];omega
 have en1:kd=2->Bp tx []=none->∀t1,Bx t1=BZ->KF [] ki (fnB [] [] bo) A 0 (L++[tx]) t1:=fun h2 hk t1 ht1=>⟨Nat.zero_le _,ht1,by rw[hA1,if_pos h2,hk];simp⟩
 have en2:kd=2->¬Bp tx []=none->KF [] ki (fnB [] [] bo) A 0 L t:=fun h2 hk=>⟨Nat.zero_le _,ht,by
  rw[hA1,if_pos h2]
  cases he:Bp tx [] with
  |none=>exact (hk he).elim
  |some y=>simp⟩
 have en3:¬kd=2->KF [] ki (fnB [] [] bo) A 0 L t:=fun h2=>⟨Nat.zero_le _,ht,by rw[hA1,if_neg h2];simp⟩
 clear hA hA1
 refine fun x=>⟨fun h2=>⟨⟨rfl,hs⟩,fun hlk=>⟨⟨by omega,by omega⟩,fun t1 ht1=>⟨⟨0,L++[tx],t1,en1 h2 hlk t1 (ht1 ht),⟨rfl,by simp,fun j hj=>Bde (L:=L) (r:=[tx]) (by simp) (fun _ _=>rfl) (fun _ _=>rfl) j hj,rfl⟩,rfl⟩,?_⟩⟩,fun hlk=>⟨⟨0,L,t,en2 h2 hlk,⟨rfl,rfl,fun _ _=>rfl,rfl⟩,rfl⟩,?_⟩⟩,fun h2=>⟨⟨0,L,t,en3 h2,⟨rfl,rfl,fun _ _=>rfl,rfl⟩,rfl⟩,?_⟩⟩
 all_goals
  clear en1 en2 en3
  rintro ⟨i,L1,t1⟩ hK
  simp only at hK ⊢
  refine⟨fun hlt=>?_,fun hge=>?_⟩
  ·have hi:i<ki.length:=by omega
   exact⟨⟨Int.natCast_nonneg i,hlt⟩,fun _ _=>⟨ki.getD i default,L1,⟨rfl,rfl,⟨rfl,fun _ _=>Bc _⟩,hn _ (GJ hi),hK.ty,hK.size hi hL⟩,fun t' ht'=>⟨i+1,_,t',hK.step hi ht',by omega,⟨Be (by omega) (by omega),rfl,fun _ _=>rfl,rfl⟩,rfl⟩⟩⟩
  ·have hd:=hK.done (by omega)
   refine⟨fun _ x2 _ t2 t3=>⟨⟨0,L1,t1,[],t2,t3,⟨Nat.zero_le _,Nat.le_refl _,hK.ty,hd⟩,⟨rfl,rfl,fun _ _=>rfl,rfl⟩,⟨⟨rfl,fun _ h=>absurd h (Nat.not_lt_zero _),rfl⟩,rfl,fun _ h=>absurd h (Nat.not_lt_zero _),rfl⟩,rfl,rfl,rfl⟩,?_⟩,fun hb0=>?_⟩
   ·rintro ⟨⟨i,L2,t4⟩,f,k1,k2⟩ hB
    simp only at hB ⊢
    refine⟨fun hlt=>?_,fun hge2=>?_⟩
    ·have hi:i<bo.length:=by omega
     have hfl:=hB.fl
     have hw:IntKind.i64.wrap ((i:Int)+1)=((i+1:Nat):Int):=Be (by omega) (by omega)
     have hst:=hB.step hi
     have hvn:=hb f (by omega) _ (E6 hi)
     have rf:=Bd4 f [] (.tok 1 k1) (.tok 2 k2)
     have wk:=Bgd f [] k1 k2
     have hlen:=congrArg List.length hst
     simp only[List.length_append] at hlen
     refine⟨⟨Int.natCast_nonneg i,hlt⟩,fun _ _=>⟨fun h3=>?_,fun h3=>?_⟩⟩
     ·rw[if_pos h3] at hst hlen
      refine⟨rf,f,_,L2,⟨wk,rfl,⟨rfl,fun _ _=>Bc _⟩,hvn.1 h3,hB.ty,by omega⟩,fun t5 ht5=>⟨rf,f,_,_,⟨wk,rfl,⟨rfl,fun _ _=>Bc _⟩,hvn.2,ht5,by rw[List.length_append];omega⟩,fun t6 ht6=>⟨fun h2=>absurd (h3.symm.trans h2) (by decide),fun h2=>?_⟩⟩⟩
      refine⟨i+1,_,t6,f,k1,k2,hB.next hi (by unfold Ce;rw[if_neg h2]) ht6 (by rw[hst];simp),by omega,⟨hw,rfl,fun _ _=>rfl,rfl⟩,⟨⟨rfl,fun _ _=>rfl,rfl⟩,rfl,fun _ _=>rfl,rfl⟩,rfl,rfl,rfl⟩
     ·rw[if_neg h3] at hst hlen
      simp only[List.length_nil] at hlen
      refine⟨rf,f,_,L2,⟨wk,rfl,⟨rfl,fun _ _=>Bc _⟩,hvn.2,hB.ty,by omega⟩,fun t5 ht5=>⟨fun h2=>?_,fun h2=>?_⟩⟩
      ·refine⟨⟨by omega,by omega⟩,fun t7=>⟨⟨by omega,by omega⟩,fun t8=>⟨i+1,_,t5,f++[((bo.getD i default).nm,(bo.getD i default).nd.cl)],t7,t8,hB.next hi (by unfold Ce;rw[if_pos h2]) ht5 (by rw[hst];simp),by omega,⟨hw,rfl,fun _ _=>rfl,rfl⟩,⟨⟨by simp,fun j hj=>Baz f _ _ j hj,rfl⟩,by simp,fun j hj=>RP f _ _ j hj,rfl⟩,rfl,rfl,rfl⟩⟩⟩
      ·exact⟨i+1,_,t5,f,k1,k2,hB.next hi (by unfold Ce;rw[if_neg h2]) ht5 (by rw[hst];simp),by omega,⟨hw,rfl,fun _ _=>rfl,rfl⟩,⟨⟨rfl,fun _ _=>rfl,rfl⟩,rfl,fun _ _=>rfl,rfl⟩,rfl,rfl,rfl⟩
    ·have hd2:=hB.done (by omega)
     subst hd2
     exact⟨hB.ty,rfl,fun _ _=>rfl⟩
   ·have:bo=[]:=List.eq_nil_of_length_eq_zero (by omega)
    subst this
    rw[fnB,List.append_nil] at hd
    subst hd
    exact⟨hK.ty,rfl,fun _ _=>rfl⟩
open Go Go.Ab Go.Sort
def Ek(A:List (List UInt8))(cap:Nat):AObj:=.vec 1 A.length cap fun i=>[.str (A.getD i [])]
theorem My{C:Ctx}:∀(A:List (List UInt8)) (vs:List Value),RepL C (A.map D.str) vs↔vs=A.map encStr
 | [],vs=>by simp[RepL]
 |a::A,vs=>by
  simp only[List.map_cons,RepL,Rep]
  constructor
  ·rintro ⟨x,xs,rfl,rfl,h⟩
   rw[(My A xs).1 h]
  ·rintro rfl
   exact⟨_,_,rfl,rfl,(My A _).2 rfl⟩
theorem BeU(A:List (List UInt8)):((List.range A.length).map fun i=>[D.str (A.getD i [])]).flatten=A.map D.str:=by
 have h:(List.range A.length).map (fun i=>[D.str (A.getD i [])])=A.map fun a=>[D.str a]:=by
  apply List.ext_getElem (by simp)
  intro i h1 h2
  simp only[List.length_map,List.length_range] at h1
  simp[List.getD_eq_getElem?_getD,List.getElem?_eq_getElem h1]
 rw[h]
 clear h
 induction A with
 |nil=>rfl
 |cons a A ih=>simp only[List.map_cons,List.flatten_cons,ih];rfl
theorem Um{C:Ctx}:∀(xs ys:List D) (vs:List Value),RepL C (xs++ys) vs->∃us ws,vs=us++ws/\RepL C xs us/\RepL C ys ws
 | [],ys,vs,h=>⟨[],vs,rfl,rfl,h⟩
 |x::xs,ys,vs,h=>by
  simp only[List.cons_append,RepL] at h
  obtain ⟨v,ws,rfl,h1,h2⟩:=h
  obtain ⟨us,zs,rfl,h3,h4⟩:=Um xs ys ws h2
  exact⟨v::us,zs,rfl,⟨v,us,rfl,h1,h3⟩,h4⟩
theorem IL{C:Ctx}{w:World}{x:Nat}{A:List (List UInt8)}{cap:Nat}:ObjAt C w x (Ek A cap)↔A.length<=cap/\∃arr E fz rest,w.heap[x]? =some (.cells arr E fz)/\Thawed arr fz/\arr.toList=A.map encStr++rest/\rest.length=cap-A.length:=by
 simp only[Ek,ObjAt,Cj,BeU,Nat.mul_one]
 constructor
 ·rintro ⟨h1,_,arr,E,fz,h3,h4,h5⟩
  obtain ⟨us,ws,e,h6,h7⟩:=Um _ _ _ h5
  rw[(My A us).1 h6] at e
  exact⟨h1,arr,E,fz,ws,h3,h4,e,by simpa using h7.length⟩
 ·rintro ⟨h1,arr,E,fz,rest,h3,h4,h5,h6⟩
  refine⟨h1,fun _ _=>rfl,arr,E,fz,h3,h4,?_⟩
  rw[h5]
  refine RepL.append ((My A _).2 rfl) ?_
  rw[<- h6]
  exact RepL.unks rest
theorem ACalls.nil_tok{P:Program}{k:FuncId}{a b:D}{w0 e:Nat}{f:Nat->List D}{R:AEnd->St->Prop}(he:e<1000003)(h:∀t,Bx t=e->ACalls P k [a,b,.sl w0 0 f (.tok 0 t)] ⟨[],[(0,t)]⟩ R):ACalls P k [a,b,.sl w0 0 f .nil] ⟨[],[]⟩ R:=by
 refine⟨(h e (Nat.mod_eq_of_lt he)).1,fun C F args w ha hs=>?_⟩
 obtain ⟨t,t1,t2,t3⟩:=hs.tok_typed he
 have hle:C.le (C.tokd t .no):=Ctx.tokd_le t1
 have hs2:Sat (C.tokd t .no) (St.add ⟨[],[(0,t)]⟩ F) w:=(hs.tok_no 0 t1 t2).perm (by simp[St.add]) (by simp[St.add])
 refine ((h t t3).2 _ F args w ?_ hs2).mono ?_
 ·simp only[RepL] at ha ⊢
  obtain ⟨v1,l1,e1,r1,v2,l2,e2,r2,v3,l3,e3,r3,r4⟩:=ha
  refine⟨v1,l1,e1,Rep.mono hle _ _ r1,v2,l2,e2,Rep.mono hle _ _ r2,v3,l3,e3,?_,r4⟩
  rw[OT] at r3 ⊢
  obtain ⟨a',len,cap,rfl,⟨h1,h2,h3,h4,h5,h6⟩,h7⟩:=r3
  simp only at h6
  subst h6
  refine⟨none,len,cap,rfl,⟨h1,h2,h3,h4,h5,?_⟩,fun x hx=>(nomatch hx)⟩
  simp only[Ctx.tokd,if_true]
  exact⟨(h4 rfl).2,fun _=>by trivial⟩
 ·rintro e w' ⟨C',r,S',q1,q2⟩
  exact⟨C',r,S',hle.trans q1,q2⟩
theorem ACalls.thaw{P : Program}{k : FuncId}{ds : List D}{A : List (List UInt8)}(kt : Nat)(hG : G0Keeps)(hl : B4 ds)
  (h:ACalls P k ds ⟨[],[]⟩ (fun r S'=>∃t,Bx t≠0/\r=.ret (ssl A (.tok 0 t))/\S'=⟨[],[(0,t)]⟩)) :
  ACalls P k ds ⟨[],[]⟩ (fun r S'=>(A=[]/\r=.ret (.sl 1 0 (fun _=>[]) .nil)/\S'=⟨[],[]⟩)\/∃x cap,r=.ret (.vs kt x A.length cap 1)/\S'=⟨[(kt,x,Ek A cap)],[]⟩):=by
 refine⟨h.1,fun C F args w ha hs=>?_⟩
 let C2:Ctx:=⟨w,hG _ _ C.ok hs.below,C.imm,C.tok⟩
 have hsat:Sat C2 (St.add ⟨[],[]⟩ ⟨[],[]⟩) w:=⟨Go.RowKit.Below.refl _ _,hs.imm,hs.one,fun _ hp=>(nomatch hp),by simp[St.add],fun _ ht=>(nomatch ht),by simp[St.add],hs.tfin,fun _ _ _ _ _ _ _ _ _ _ ht=>(nomatch ht)⟩
 refine (h.2 C2 ⟨[],[]⟩ args w (Ef (C:=C) (C2:=C2) (fun _ _ _ h=>h) rfl _ _ hl ha) hsat).mono ?_
 rintro e w' ⟨C2',r,S',h1,h2,h3,t,ht,rfl,rfl⟩
 have hb:Go.RowKit.Below w.heap.size w w':=by have:=h2.below;rw[h1.w0] at this;exact this
 have hk:=hs.kept hb
 cases e with
 |panicked _=>exact h3.elim
 |outgrown=>exact h3.elim
 |returned v =>
  simp only[RepEnd,ssl,Rep] at h3
  obtain ⟨a,len,cap,rfl,⟨q1,q2,q3,q4,q5,q6⟩,q7⟩:=h3
  obtain ⟨y,y1,y2,_⟩:=h2.toks (0,t) (by simp[St.add])
  simp only at y1 y2
  simp only[y1] at q6
  cases y with
  |no =>
   obtain ⟨q8,q9⟩:=q6
   obtain rfl:=q9 ht
   obtain ⟨q10,q11⟩:=q4 rfl
   have hA:A=[]:=List.eq_nil_of_length_eq_zero q10
   refine⟨C,.ret (.sl 1 0 (fun _=>[]) .nil),⟨[],[]⟩,.refl C,hk,?_,.inl ⟨hA,rfl,rfl⟩⟩
   simp only[RepEnd,Rep]
   exact⟨none,len,cap,rfl,⟨by omega,by omega,q3,fun _=>⟨rfl,q11⟩,fun _ h=>(nomatch h),rfl⟩,fun _ h=>(nomatch h)⟩
  | «at» b n cap' wd =>
   obtain ⟨rfl,-,e3,e4⟩:=q6
   obtain ⟨z1,z2,arr,E,fz,z3,z4,z5,_⟩:=y2
   rw[h1.w0] at z1
   simp only[C2] at z1
   have hfresh:∀o,C.imm b o=none:=fun o=>by
    cases hv:C.imm b o with
    |none=>rfl
    |some v=>have:=hs.imm_lt hv;omega
   rw[e3,e4,Nat.mul_one] at z5
   have hcells:∀i,i<A.length->arr.toList[i]? =some (encStr (A.getD i [])):=fun i hi=>by
    obtain ⟨_,q8⟩:=q7 _ rfl i hi
    simp only[RepCells,Rep] at q8
    obtain ⟨⟨v,i1,i2⟩,_⟩:=q8
    have:=h2.imm _ _ _ i1
    rw[BC z3] at this
    subst i2
    simpa using this
   refine⟨C,.ret (.vs kt b A.length cap 1),⟨[(kt,b,Ek A cap)],[]⟩,.refl C,?_,?_,.inr ⟨b,cap,rfl,rfl⟩⟩
   ·have hobj:ObjAt C w' b (Ek A cap):=by
     refine IL.2 ⟨by omega,arr,E,fz,arr.toList.drop A.length,z3,z4,?_,by simp[z5]⟩
     have:arr.toList.take A.length=A.map encStr:=by
      apply List.ext_getElem?
      intro i
      by_cases hi:i<A.length
      ·rw[List.getElem?_take_of_lt hi,hcells i hi]
       simp[List.getD_eq_getElem?_getD,hi]
      ·rw[List.getElem?_take_eq_none (by omega),List.getElem?_eq_none (by simp;omega)]
     rw[<- this,List.take_append_drop]
    have hge:=hs.base_le
    refine⟨hk.below,hk.imm,hk.one,fun p hp=>?_,?_,fun s hs'=>?_,hk.tnodup,hk.tfin,hk.tdist⟩
    ·rcases List.mem_cons.1 (show p∈(kt,b,Ek A cap)::F.objs from hp) with rfl | hp
     ·exact⟨by simp only;omega,hfresh,hobj⟩
     ·exact hk.objs p (by simpa[St.add] using hp)
    ·simp only[St.add,List.cons_append,List.nil_append,List.map_cons,List.nodup_cons]
     refine⟨fun hm=>?_,by simpa[St.add] using hk.nodup⟩
     obtain ⟨p,hp,e⟩:=List.mem_map.1 hm
     have:=(hs.objs p (by simpa[St.add] using hp)).2.2.lt
     omega
    ·obtain ⟨y,a1,a2,a3⟩:=hk.toks s (by simpa[St.add] using hs')
     refine⟨y,a1,a2,fun p hp=>?_⟩
     rcases List.mem_cons.1 (show p∈(kt,b,Ek A cap)::F.objs from hp) with rfl | hp
     ·intro hc
      obtain ⟨y',b1,b2,_⟩:=hs.toks s (by simpa[St.add] using hs')
      rw[a1] at b1;cases b1
      have:=b2.lt hc
      simp only at this
      omega
     ·exact a3 p (by simpa[St.add] using hp)
   ·simp only[RepEnd,Rep]
    exact⟨by rw[q1],by omega,q3⟩
theorem BgX{arr:Array Value}{A B:List (List UInt8)}{rest:List Value}(h:arr.toList=A.map encStr++rest)(hl:B.length=A.length):(putCells encStr 0 B.toArray arr).toList=B.map encStr++rest:=by
 have hs:arr.size=A.length+rest.length:=by
  have:=congrArg List.length h
  simpa using this
 apply List.ext_getElem?
 intro i
 rw[Array.getElem?_toList]
 by_cases hi:i<B.length
 ·rw[List.getElem?_append_left (by simpa using hi)]
  simp[putCells,hi,show i<arr.size by omega]
 ·rw[List.getElem?_append_right (by simpa using hi)]
  have h2:arr[i]? =rest[i-B.length]? :=by
   rw[<- Array.getElem?_toList,h,List.getElem?_append_right (by simp;omega)]
   simp[hl]
  rw[List.length_map,<- h2]
  simp[putCells,Array.getElem?_mapIdx,hi]
theorem Ug{w:World}{x:Nat}{arr:Array Value}{E:TypeId}{fz:Nat×Nat}{A:List (List UInt8)}{rest:List Value}(h1:w.heap[x]? =some (.cells arr E fz))(h2:Thawed arr fz)(h3:arr.toList=A.map encStr++rest):Holds encStr w x 0 A.toArray:=by
 intro j hj
 have hj':j<A.length:=by simpa using hj
 have hs:arr.size=A.length+rest.length:=by
  have:=congrArg List.length h3
  simpa using this
 rw[Nat.zero_add,BC h1]
 refine⟨?_,Cs h1 h2 (by omega)⟩
 rw[<- Array.getElem?_toList,h3,List.getElem?_append_left (by simpa using hj')]
 simp[hj']
theorem Ben{C : Ctx}{F : St}{w : World}{k x : Nat}{A B : List (List UInt8)}{cap : Nat}(hs : Sat C (St.add ⟨[(k, x, Ek A cap)], []⟩ F) w)(hl : B.length=A.length)(n : Nat) :
  Sat C (St.add ⟨[(k,x,Ek B cap)],[]⟩ F) (putRow encStr (Sort.ahead w n) x 0 B.toArray):=by
 have hg:BG (⟨[(k,x,Ek A cap)],[]⟩:St).objs k=some (x,Ek A cap):=by simp[BG]
 obtain ⟨_,_,ho⟩:=hs.obj_of hg
 obtain ⟨h1,arr,E,fz,rest,h2,h3,h4,h5⟩:=IL.1 ho
 have key:=hs.replace (w':=putRow encStr (Sort.ahead w n) x 0 B.toArray) (o':=Ek B cap) hg (by simp[putRow,mapBlock,Sort.ahead]) (fun j hj=>by simp[putRow,mapBlock,Sort.ahead,Array.getElem?_modify,Ne.symm hj]) rfl rfl rfl (IL.2 ⟨by omega,putCells encStr 0 B.toArray arr,E,fz,rest,by simp[putRow,mapBlock,Sort.ahead,Array.getElem?_modify,h2,onCells],?_,BgX h4 hl,by omega⟩)
 ·simpa[St.set,C5] using key
 ·have:(putCells encStr 0 B.toArray arr).size=arr.size:=by simp[putCells]
  rcases h3 with h3 | h3
  ·exact .inl h3
  ·exact .inr (by rw[this];exact h3)
theorem Bl0(k x : Nat)(A : List (List UInt8))(cap : Nat)(hA : A.length<=1000000000) :
  ACalls Tryz.prog 33 [.vs k x A.length cap 1] ⟨[(k,x,Ek A cap)],[]⟩ (fun r S'=>r=.ret (.tup [])/\S'=⟨[(k,x,Ek (A.mergeSort fun a b=>decide (a<=b)) cap)],[]⟩):=by
 refine⟨⟨_,Tryz.func33,by kernel_rfl,by kernel_rfl⟩,fun C F args w ha hs=>?_⟩
 obtain ⟨v,e,hv⟩:=Cq ha
 have e2:args=#[v]:=by
  have:args=[v].toArray:=by rw[<- e]
  simpa using this
 subst e2
 simp only[Rep] at hv
 obtain ⟨rfl,hc1,hc2⟩:=hv
 obtain ⟨_,_,ho⟩:=hs.obj_of (k:=k) (x:=x) (o:=Ek A cap) (by simp[BG])
 obtain ⟨h1,arr,E,fz,rest,h2,h3,h4,h5⟩:=IL.1 ho
 refine (Tryz.slices_Sort_string x 0 cap A w (Ug h2 h3 h4) ho.lt (by omega)).mono ?_
 rintro e w' ⟨rfl,n,os,rfl⟩
 have hs2:=Ben hs (B:=A.mergeSort fun a b=>decide (a<=b)) (by simp) n
 refine⟨C,.ret (.tup []),_,.refl C,hs2.kept ?_,by simp[RepEnd,Rep,RepL],rfl,rfl⟩
 exact⟨rfl,rfl,rfl,by simp,fun j hj=>by
  have hj:j<w.heap.size:=by simpa using hj
  simp[grow,Array.getElem?_append,hj]⟩
theorem BlN(k x : Nat)(A : List (List UInt8))(cap : Nat)(hA : A.length<=1000000000) :
  ACalls Tryz.prog 34 [.vs k x A.length cap 1] ⟨[(k,x,Ek A cap)],[]⟩ (fun r S'=>r=.ret (.vs k x (Lib.compact A).length cap 1)/\S'=⟨[(k,x,Ek (Lib.compact A++List.replicate (A.length-(Lib.compact A).length) []) cap)],[]⟩):=by
 refine⟨⟨_,Tryz.func34,by kernel_rfl,by kernel_rfl⟩,fun C F args w ha hs=>?_⟩
 obtain ⟨v,e,hv⟩:=Cq ha
 have e2:args=#[v]:=by
  have:args=[v].toArray:=by rw[<- e]
  simpa using this
 subst e2
 simp only[Rep] at hv
 obtain ⟨rfl,hc1,hc2⟩:=hv
 obtain ⟨_,_,ho⟩:=hs.obj_of (k:=k) (x:=x) (o:=Ek A cap) (by simp[BG])
 obtain ⟨h1,arr,E,fz,rest,h2,h3,h4,h5⟩:=IL.1 ho
 refine (Tryz.slices_Compact_string x 0 cap A w (Ug h2 h3 h4) (by omega) h1).mono ?_
 rintro e w' ⟨rfl,q,rfl⟩
 have hle:=Lib.compact_length_le A
 refine⟨C,.ret (.vs k x (Lib.compact A).length cap 1),_,.refl C,Ben hs (B:=Lib.compact A++List.replicate (A.length-(Lib.compact A).length) []) (by simp;omega) q,?_,rfl,rfl⟩
 simp only[RepEnd,Rep]
 exact⟨trivial,by omega,hc2⟩
theorem Bai:∀l:List Nd,l.length<=szL l
 | []=>by simp[szL]
 |x::r=>by
  have:=Bai r
  have:=Bey x
  rw[szL,List.length_cons]
  omega
theorem T3:∀l:List Sm,l.length<=szB l
 | []=>by simp[szB]
 |s::r=>by
  have:=T3 r
  have h:1<=szM s:=by
   cases s with
   |mk kd _ _ _ te nd =>
    have:=Bey nd
    rw[szM]
    split<;>omega
  rw[szB,List.length_cons]
  omega
theorem BbK(n:Nd):szN n=1+szL n.ki+szB n.bo:=by
 cases n
 rw[szN]
 rfl
theorem BdJ{k:Nat}{ds:List D}{S:St}{A:List (List UInt8)}(h:ACalls Tryz.prog k ds S (Go.Ab.endFr A)):ACalls Tryz.prog k ds S (fun r S'=>∃t',Bx t'=BZ/\r=.ret (ssl A (.tok 0 t'))/\S'=⟨[],[(0,t')]⟩):=by
 refine h.weaken fun r S' hr=>?_
 unfold Go.Ab.endFr at hr
 split at hr
 ·rename_i d
  split at hr
  ·rename_i t' _
   obtain ⟨h1,h2,h3⟩:=hr
   exact⟨.ret (ssl A (.tok 0 t')),⟨[],[(0,t')]⟩,h2,UL h3,t',h1,rfl,rfl⟩
  ·exact hr.elim
 ·exact hr.elim
theorem Bat(n:Nd)(sc:Scp)(hs:∀f∈sc,f.length<=1000000)(hd:sc.length+szN n<=900000):VFr sc n:=by
 have hz:=BbK n
 have h1:=Bai n.ki
 have h2:=T3 n.bo
 have hok:okF sc:=⟨hs,by omega⟩
 have hn:∀b∈n.ki,VFr sc b:=fun b hb=>Bat b sc hs (by have:=C7 (Co hb);omega)
 have hb:∀f,f.length<=n.bo.length->∀s∈n.bo,(s.kd=3->VFr (f::sc) s.te)/\VFr (f::sc) s.nd:=fun f hf s hsm=>by
  have hfs:∀g∈f::sc,g.length<=1000000:=fun g hg=>by
   rcases List.mem_cons.1 hg with rfl | hg
   ·omega
   ·exact hs g hg
  have hin:∀x∈Bg s,szN x<szN n:=fun x hx=>C7 (List.mem_append_right _ (List.mem_flatMap.2 ⟨s,hsm,hx⟩))
  refine⟨fun q=>Bat s.te (f::sc) hfs ?_,Bat s.nd (f::sc) hfs ?_⟩
  ·have:=hin s.te (by unfold Bg;rw[if_pos q];simp)
   simp only[List.length_cons]
   omega
  ·have:=hin s.nd (by unfold Bg;split<;>simp)
   simp only[List.length_cons]
   omega
 intro L t ht hL
 rw[<- List.length_append] at hL
 cases n with
 |mk kd at_ cl tx pr op va ki bo de sl ss =>
  simp only[Nd.ki,Nd.bo] at hn hb h1 h2 hz
  cases sc with
  |nil=>exact BdJ (BgG kd at_ cl tx pr op va ki bo de sl ss L t ht _ rfl hL hok (by omega) (by omega) hn hb)
  |cons f0 r0=>exact BdJ (Bi9 f0 r0 kd at_ cl tx pr op va ki bo de sl ss L t ht _ rfl hL hok (by omega) (by omega) hn hb)
termination_by szN n
decreasing_by
 ·exact C7 (Co hb)
 ·exact hin s.te (by unfold Bg;rw[if_pos q];simp)
 ·exact hin s.nd (by unfold Bg;split<;>simp)
theorem Bk5(kt : Nat)(n : Nd)(hd : szN n<=900000) :
  ACalls Tryz.prog 32 [.nilp,.agg n.row1,.sl 1 0 (fun _=>[]) .nil] ⟨[],[]⟩
   (fun r S'=>(fnN [] n=[]/\r=.ret (.sl 1 0 (fun _=>[]) .nil)/\S'=⟨[],[]⟩)\/∃x cap,r=.ret (.vs kt x (fnN [] n).length cap 1)/\S'=⟨[(kt,x,Ek (fnN [] n) cap)],[]⟩):=by
 refine ACalls.thaw kt Bb5 ?_ (ACalls.nil_tok (e:=BZ) (by decide) fun t ht=>?_)
 ·simp only[B4,Cn]
  exact⟨trivial,(Th n).2,⟨trivial,fun i hi=>absurd hi (Nat.not_lt_zero _)⟩,trivial⟩
 ·have h:=VFr.down (Bat n [] (fun _ h=>(nomatch h)) (by simpa using hd)) (L:=[]) (t:=t) ht (by have:=GP n [];simp only[List.length_nil];omega) (d:=.sl 1 0 (fun _=>[]) (.tok 0 t)) (by
   simp only[ssl,wkD]
   exact Ba.2 ⟨by simp,rfl,fun i hi=>absurd hi (Nat.not_lt_zero _),by simp[BB]⟩)
  refine h.mono ?_
  rintro r S' ⟨t',q1,q2,q3⟩
  exact⟨t',by rw[q1];decide,q2,q3⟩
def VQf(sc:Scp)(n:Nd):Prop:=∀L:List (List UInt8),L.length+(fnN sc n).length<=1000000000->CD 36 [.agg (scC sc),.agg n.row2,ssl L .any] (ssl (CY L (fnN sc n)) .any)
theorem VQf.down{sc:Scp}{n:Nd}(h:VQf sc n){L:List (List UInt8)}(hl:L.length+(fnN sc n).length<=1000000000):CD 36 [.agg (scC sc),.agg n.row1,ssl L .any] (ssl (CY L (fnN sc n)) .any):=by
 refine CD.wk (h L hl) ?_
 simp only[wkL]
 exact⟨Bb _,by simp only[wkD];exact GC n,Bb _,trivial⟩
structure KQ (sc:Scp) (ki:List Nd) (B A:List (List UInt8)) (i:Nat) (L:List (List UInt8)):Prop where
 le:i<=ki.length
 sz:L.length+((fnL sc (ki.drop i)).length+B.length)<=1000000000
 tot:A=CY L (fnL sc (ki.drop i)++B)
structure BQ (sc:Scp) (bo:List Sm) (A:List (List UInt8)) (i:Nat) (L:List (List UInt8)) (f:Frm1):Prop where
 le:i<=bo.length
 fl:f.length<=i
 sz:L.length+(fnB sc f (bo.drop i)).length<=1000000000
 tot:A=CY L (fnB sc f (bo.drop i))
theorem KQ.step{sc:Scp}{ki:List Nd}{B A L:List (List UInt8)}{i:Nat}(h:KQ sc ki B A i L)(hi:i<ki.length):L.length+(fnN sc (ki.getD i default)).length<=1000000000/\KQ sc ki B A (i+1) (CY L (fnN sc (ki.getD i default))):=by
 have h1:=h.sz
 have h2:=h.tot
 have h3:=G5 (fnN sc (ki.getD i default)) L
 rw[Bt hi,fnL] at h1 h2
 simp only[List.length_append] at h1
 refine⟨by omega,hi,by omega,?_⟩
 rw[h2,List.append_assoc,UQ]
theorem KQ.done{sc:Scp}{ki:List Nd}{B A L:List (List UInt8)}{i:Nat}(h:KQ sc ki B A i L)(hi:¬i<ki.length):L.length+B.length<=1000000000/\A=CY L B:=by
 have h1:=h.sz
 have h2:=h.tot
 rw[show i=ki.length by have:=h.le;omega,List.drop_length,fnL] at h1 h2
 simp only[List.length_nil,Nat.zero_add] at h1
 exact⟨h1,h2⟩
theorem BQ.step{sc : Scp}{bo : List Sm}{A L : List (List UInt8)}{i : Nat}{f : Frm1}(h : BQ sc bo A i L f)(hi : i<bo.length){X : List (List UInt8)}(hX : fnM (f::sc) (bo.getD i default)=X) :
  L.length+X.length<=1000000000/\∀g,g=Ce f (bo.getD i default)->BQ sc bo A (i+1) (CY L X) g:=by
 have h1:=h.sz
 have h2:=h.tot
 have h3:=G5 X L
 rw[Bt hi,fnB,hX] at h1 h2
 simp only[List.length_append] at h1
 refine⟨by omega,fun g hg=>⟨hi,?_,?_,?_⟩⟩
 ·have:=Ro f (bo.getD i default)
  have:=h.fl
  rw[hg];omega
 ·rw[hg];omega
 ·rw[h2,hg,UQ]
theorem BQ.done{sc:Scp}{bo:List Sm}{A L:List (List UInt8)}{i:Nat}{f:Frm1}(h:BQ sc bo A i L f)(hi:¬i<bo.length):A=L:=by
 have h2:=h.tot
 rw[show i=bo.length by have:=h.le;omega,List.drop_length,fnB] at h2
 exact h2
def BcW(xm:Nat)(m:Int)(l:List Nd)(p:Nd->Bool):Con:=fun k ds S=>match k with
 |54=>some (pE (β:=Nd) ds S (fun b=>.bool (p b)) (fun b=>isN b ds [.ref 1 xm 0]/\b∈l/\S=⟨[(1,xm,.cells [.int .i64 m])],[]⟩))
 |_=>none
theorem BfF(xm:Nat)(m:Int){l:List Nd}{p:Nd->Bool}(h:∀b∈l,CS 54 (.agg b.row1::[.ref 1 xm 0]) ⟨[(1,xm,.cells [.int .i64 m])],[]⟩ (.bool (p b))):ConOk Tryz.prog (BcW xm m l p):=by
 intro k ds S A hh
 unfold BcW at hh
 split at hh
 ·injection hh with hh;subst hh
  refine Cl fun b ⟨e,hb,hs⟩=>?_
  rw[hs]
  exact (h b hb).wk e
 ·cases hh
noncomputable def ETxx(xm:Nat)(m:Int)(l:List Nd)(p:Nd->Bool):Senv:={ EC (BcW xm m l p) 19 2 [4,5,7,8,9,16] (fun _=>([],[])) with
 ann:=fun b _ S=>match b with
  |0=>some { slots:=[8],keep:=[0,1,6,7],α:=Nat,st:=fun i=>([.int .i64 i],S),inv:=fun i=>IdxG p l i,mu:=fun i=>l.length-i }
  |_=>none }
def H9(a:Nat)(b:Int):Prop:=(SM a/\(SM b/\True)/\True)/\True
def Qoe:Arr:=DA
def Yx:Nd:=Nd.mk Z0 Z0 Z0 [] Z0 Z0 Qoe [] [] Z0 Z0 Z0
def Ja(a:List Nd)(b:Nat):Nd:=List.getD a (Int.toNat (↑b:Int)) Yx
def Qaa(a:List Nd)(b:Nat):Arr:=Nd.va (Ja a b)
def Qtt(a:List Nd)(b:Nat):List Int:=Arr.sh (Qaa a b)
def Qtu(a:List Nd)(b:Nat):List Int:=Arr.nu (Qaa a b)
def Qof(a:List Nd)(b:Nat):List Arr:=Arr.it (Qaa a b)
def Qog(a:List Nd)(b:Nat):List Nd:=Nd.ki (Ja a b)
def Qoh(a:List Nd)(b:Nat):List Sm:=Nd.bo (Ja a b)
def Qtv(a:Nat)(b:Int):St:=St.mk [(N1,a,AObj.cells [ZI b])] []
def Qtw(a:List Nd):D:=D.sl 15 (LN a) (fun i=>Nd.row1 (List.getD a i Yx)) Mode.any
theorem Txx_ok(xm : Nat)(m : Int)(l : List Nd)(p : Nd -> Bool)(h : ∀b∈l, CS 54 (.agg b.row1::[.ref 1 xm 0]) ⟨[(1, xm, .cells [.int .i64 m])], []⟩ (.bool (p b)))(hl : l.length<=maxLen) :
  CS 84 [gsl 15 Nd.row1 l,.fn (.func 54) [] [.ref 1 xm 0]] ⟨[(1,xm,.cells [.int .i64 m])],[]⟩ (.int .i64 (Cg p l 0)):=by
 refine CS.of (Bi (A:=sS _ _ _) (x:=()) (E:=ETxx xm m l p) (eOk (BfF xm m h) rfl) Tryz.func84 rfl (by kernel_rfl) rfl (by simp[sS,ETxx,EC,E0]) ?_)
 refine Bj (T :=
  (∃(x:Nat),IdxG p l x/\(Z0=(↑x:Int)/\True)/\H9 xm m)/\∀(x:Nat),IdxG p l x->ifB (decide ((↑x:Int)<(LI l))) (Bd (Z0<=(↑x:Int)/\(↑x:Int)<(LI l)) (∃(x_1:Nd),(isN x_1 [D.agg [ZI (Nd.kd (Ja l x)),ZI (Nd.at_ (Ja l x)),ZI (Nd.cl (Ja l x)),D.str (Nd.tx (Ja l x)),ZI (Nd.pr (Ja l x)),ZI (Nd.op (Ja l x)),ZI (Arr.k (Qaa l x)),SI (Qtt l x),SI (Qtu l x),D.sl N4 (LN (Qof l x)) (fun i=>Arr.row (List.getD (Qof l x) i Qoe)) Mode.any,D.sl 15 (LN (Qog l x)) (fun i=>Nd.row (List.getD (Qog l x) i Yx)) Mode.any,D.sl 34 (LN (Qoh l x)) (fun i=>Sm.row (List.getD (Qoh l x) i (Sm.mk Z0 Z0 [] Z0 Yx Yx))) Mode.any,ZI (Nd.de (Ja l x)),ZI (Nd.sl (Ja l x)),ZI (Nd.ss (Ja l x))],D.ref N1 xm N0] [D.ref N1 xm N0]/\x_1∈l/\SM (Qtv xm m))/\∀(y:Unit),True->ifB (p x_1) (True/\∃(y:Unit),True/\(↑x:Int)=Cg p l Z0/\H9 xm m) ((SM (Qtw l)/\SM (D.fn (Fn.func (54:Nat)) [] [D.ref N1 xm N0])/\SM D.unk/\SM (ZI (LI l))/\True)/\∃(y:Nat),IdxG p l y/\LN l-y<LN l-x/\(IntKind.wrap IntKind.i64 ((↑x:Int)+Z1)=(↑y:Int)/\True)/\H9 xm m))) (True/\∃(y:Unit),True/\(-1:Int)=Cg p l Z0/\H9 xm m)) (by kernel_rfl) ?_
 delta DA GI LI LN N0 N1 N4 SI SM Z0 Z1 ZI H9 Qoe Qtv Qtw Yx Ja Qaa Qtt Qtu Qof Qog Qoh
 try simp only[<- dn]
 simp only[Int.toNat_natCast,Bh,Bf,decide_eq_true_eq,decide_eq_false_iff_not,true_and,and_true,exists_const]
 simp only[maxLen] at hl
 refine⟨⟨0,⟨Nat.zero_le _,by simp⟩,rfl⟩,fun i hh=>⟨fun hlt=>?_,fun hge=>(hh.done hge).symm⟩⟩
 have hlt':i<l.length:=by omega
 obtain ⟨s1,s2⟩:=hh.step hlt'
 have hm:l.getD i default∈l:=by rw[List.getD_eq_getElem?_getD,List.getElem?_eq_getElem hlt'];exact List.getElem_mem hlt'
 refine⟨⟨by omega,hlt⟩,l.getD i default,?_,fun _ _=>⟨fun e=>(s1 e).symm,fun e=>⟨i+1,s2 e,by omega,Be (by omega) (by omega)⟩⟩⟩
 first
  |exact⟨Bc _,hm,rfl⟩
  |exact⟨Bc _,hm⟩
def Bh4(xm:Nat)(m:Int)(l:List Nd)(p:Nd->Bool):Con:=fun k ds S=>match k with
 |84=>some (pA ds S (.int .i64 (Cg p l 0)) (wkL ds [gsl 15 Nd.row1 l,.fn (.func 54) [] [.ref 1 xm 0]]/\S=⟨[(1,xm,.cells [.int .i64 m])],[]⟩))
 |_=>none
noncomputable def ETxc(xm:Nat)(m:Int)(l:List Nd)(p:Nd->Bool):Senv:=EC (Bh4 xm m l p) 9 2 [4] (fun _=>([],[]))
def Qoi(a:List Nd)(b:Nat):List D:=[D.sl 15 (LN a) (fun i=>Nd.row1 (List.getD a i (Nd.mk Z0 Z0 Z0 [] Z0 Z0 DA [] [] Z0 Z0 Z0))) Mode.any,D.fn (Fn.func (54:Nat)) [] [D.ref N1 b N0]]
def Qtx(a:Nat)(b:Int):St:=St.mk [(N1,a,AObj.cells [ZI b])] []
theorem Txc_ok(xm : Nat)(m : Int)(l : List Nd)(p : Nd -> Bool)(h : ∀b∈l, CS 54 (.agg b.row1::[.ref 1 xm 0]) ⟨[(1, xm, .cells [.int .i64 m])], []⟩ (.bool (p b)))(hl : l.length<=maxLen) :
  CS 55 [gsl 15 Nd.row1 l,.fn (.func 54) [] [.ref 1 xm 0]] ⟨[(1,xm,.cells [.int .i64 m])],[]⟩ (.bool (l.any p)):=by
 refine CS.of (Bi (A:=sS _ _ _) (x:=()) (E:=ETxc xm m l p) (eOk ?_ rfl) Tryz.func55 rfl (by kernel_rfl) rfl (by simp[sS,ETxc,EC,E0]) ?_)
 ·intro k ds S A hh
  try unfold Bh4 at hh
  try dsimp only at hh
  split at hh
  ·injection hh with hh;subst hh
   refine Bs fun ⟨e,hs⟩=>?_
   rw[hs]
   exact (Txx_ok xm m l p h hl).wk e
  ·cases hh
 refine Bj (T :=
  ∃(x:Unit),(wkL (Qoi l xm) (Qoi l xm)/\SM (Qtx xm m))/\∀(y:Unit),True->True/\∃(y:Unit),True/\decide (Z0<=Cg p l Z0)=List.any l p/\(SM xm/\(SM m/\True)/\True)/\True) (by kernel_rfl) ?_
 delta DA LN N0 N1 SM Z0 ZI Qoi Qtx
 simp only[true_and,and_true,exists_const,forall_const]
 first
  |exact⟨Bc _,Ch _ l 0 (Int.le_refl _)⟩
  |exact⟨⟨Bc _,rfl⟩,Ch _ l 0 (Int.le_refl _)⟩
def Bc6(xi:Nat)(xm:Nat)(m:Int)(l:List Sm)(p:Sm->Bool):Con:=fun k ds S=>match k with
 |57=>some (pE (β:=Sm) ds S (fun b=>.bool (p b)) (fun b=>isS b ds [.ref 2 xi 0]/\b∈l/\S=⟨[(2,xi,.cells [.fn (.func 54) [] [.ref 1 xm 0]]),(1,xm,.cells [.int .i64 m])],[]⟩))
 |_=>none
theorem Bfz(xi:Nat)(xm:Nat)(m:Int){l:List Sm}{p:Sm->Bool}(h:∀b∈l,CS 57 (.agg b.row1::[.ref 2 xi 0]) ⟨[(2,xi,.cells [.fn (.func 54) [] [.ref 1 xm 0]]),(1,xm,.cells [.int .i64 m])],[]⟩ (.bool (p b))):ConOk Tryz.prog (Bc6 xi xm m l p):=by
 intro k ds S A hh
 unfold Bc6 at hh
 split at hh
 ·injection hh with hh;subst hh
  refine Cl fun b ⟨e,hb,hs⟩=>?_
  rw[hs]
  exact (h b hb).wk e
 ·cases hh
noncomputable def EUxx(xi:Nat)(xm:Nat)(m:Int)(l:List Sm)(p:Sm->Bool):Senv:={ EC (Bc6 xi xm m l p) 19 2 [4,5,7,8,9,16] (fun _=>([],[])) with
 ann:=fun b _ S=>match b with
  |0=>some { slots:=[8],keep:=[0,1,6,7],α:=Nat,st:=fun i=>([.int .i64 i],S),inv:=fun i=>IdxG p l i,mu:=fun i=>l.length-i }
  |_=>none }
def Qoj(a:Nat):D:=D.fn (Fn.func (54:Nat)) [] [D.ref N1 a N0]
def Qab(a b:Nat)(c:Int):Prop:=(SM a/\(SM (Qoj b)/\True)/\SM b/\(SM c/\True)/\True)/\True
def QdB:Arr:=DA
def Qac:Nd:=Nd.mk Z0 Z0 Z0 [] Z0 Z0 QdB [] [] Z0 Z0 Z0
def Qad:Sm:=Sm.mk Z0 Z0 [] Z0 Qac Qac
def XJ(a:List Sm)(b:Nat):Sm:=List.getD a (Int.toNat (↑b:Int)) Qad
def Jb(a:List Sm)(b:Nat):Nd:=Sm.te (XJ a b)
def Qae(a:List Sm)(b:Nat):Arr:=Nd.va (Jb a b)
def Qty(a:List Sm)(b:Nat):List Int:=Arr.sh (Qae a b)
def Qtz(a:List Sm)(b:Nat):List Int:=Arr.nu (Qae a b)
def Qok(a:List Sm)(b:Nat):List Arr:=Arr.it (Qae a b)
def Qol(a:List Sm)(b:Nat):List Nd:=Nd.ki (Jb a b)
def Qom(a:List Sm)(b:Nat):List Sm:=Nd.bo (Jb a b)
def Jc(a:List Sm)(b:Nat):Nd:=Sm.nd (XJ a b)
def Qaf(a:List Sm)(b:Nat):Arr:=Nd.va (Jc a b)
def QtA(a:List Sm)(b:Nat):List Int:=Arr.sh (Qaf a b)
def QtB(a:List Sm)(b:Nat):List Int:=Arr.nu (Qaf a b)
def Qon(a:List Sm)(b:Nat):List Arr:=Arr.it (Qaf a b)
def Qoo(a:List Sm)(b:Nat):List Nd:=Nd.ki (Jc a b)
def Qop(a:List Sm)(b:Nat):List Sm:=Nd.bo (Jc a b)
def QtC(a b:Nat)(c:Int):St:=St.mk [(N2,a,AObj.cells [Qoj b]),(N1,b,AObj.cells [ZI c])] []
def QtD(a:List Sm):D:=D.sl 34 (LN a) (fun i=>Sm.row1 (List.getD a i Qad)) Mode.any
theorem Uxx_ok(xi : Nat)(xm : Nat)(m : Int)(l : List Sm)(p : Sm -> Bool)(h : ∀b∈l, CS 57 (.agg b.row1::[.ref 2 xi 0]) ⟨[(2, xi, .cells [.fn (.func 54) [] [.ref 1 xm 0]]), (1, xm, .cells [.int .i64 m])], []⟩ (.bool (p b)))(hl : l.length<=maxLen) :
  CS 85 [gsl 34 Sm.row1 l,.fn (.func 57) [] [.ref 2 xi 0]] ⟨[(2,xi,.cells [.fn (.func 54) [] [.ref 1 xm 0]]),(1,xm,.cells [.int .i64 m])],[]⟩ (.int .i64 (Cg p l 0)):=by
 refine CS.of (Bi (A:=sS _ _ _) (x:=()) (E:=EUxx xi xm m l p) (eOk (Bfz xi xm m h) rfl) Tryz.func85 rfl (by kernel_rfl) rfl (by simp[sS,EUxx,EC,E0]) ?_)
 refine Bj (T :=
  (∃(x:Nat),IdxG p l x/\(Z0=(↑x:Int)/\True)/\Qab xi xm m)/\∀(x:Nat),IdxG p l x->ifB (decide ((↑x:Int)<(LI l))) (Bd (Z0<=(↑x:Int)/\(↑x:Int)<(LI l)) (∃(x_1:Sm),(isS x_1 [D.agg [ZI (Sm.kd (XJ l x)),ZI (Sm.at_ (XJ l x)),D.str (Sm.nm (XJ l x)),ZI (Sm.sl (XJ l x)),ZI (Nd.kd (Jb l x)),ZI (Nd.at_ (Jb l x)),ZI (Nd.cl (Jb l x)),D.str (Nd.tx (Jb l x)),ZI (Nd.pr (Jb l x)),ZI (Nd.op (Jb l x)),ZI (Arr.k (Qae l x)),SI (Qty l x),SI (Qtz l x),D.sl N4 (LN (Qok l x)) (fun i=>Arr.row (List.getD (Qok l x) i QdB)) Mode.any,D.sl 15 (LN (Qol l x)) (fun i=>Nd.row (List.getD (Qol l x) i Qac)) Mode.any,D.sl 34 (LN (Qom l x)) (fun i=>Sm.row (List.getD (Qom l x) i Qad)) Mode.any,ZI (Nd.de (Jb l x)),ZI (Nd.sl (Jb l x)),ZI (Nd.ss (Jb l x)),ZI (Nd.kd (Jc l x)),ZI (Nd.at_ (Jc l x)),ZI (Nd.cl (Jc l x)),D.str (Nd.tx (Jc l x)),ZI (Nd.pr (Jc l x)),ZI (Nd.op (Jc l x)),ZI (Arr.k (Qaf l x)),SI (QtA l x),SI (QtB l x),D.sl N4 (LN (Qon l x)) (fun i=>Arr.row (List.getD (Qon l x) i QdB)) Mode.any,D.sl 15 (LN (Qoo l x)) (fun i=>Nd.row (List.getD (Qoo l x) i Qac)) Mode.any,D.sl 34 (LN (Qop l x)) (fun i=>Sm.row (List.getD (Qop l x) i Qad)) Mode.any,ZI (Nd.de (Jc l x)),ZI (Nd.sl (Jc l x)),ZI (Nd.ss (Jc l x))],D.ref N2 xi N0] [D.ref N2 xi N0]/\x_1∈l/\SM (QtC xi xm m))/\∀(y:Unit),True->ifB (p x_1) (True/\∃(y:Unit),True/\(↑x:Int)=Cg p l Z0/\Qab xi xm m) ((SM (QtD l)/\SM (D.fn (Fn.func (57:Nat)) [] [D.ref N2 xi N0])/\SM D.unk/\SM (ZI (LI l))/\True)/\∃(y:Nat),IdxG p l y/\LN l-y<LN l-x/\(IntKind.wrap IntKind.i64 ((↑x:Int)+Z1)=(↑y:Int)/\True)/\Qab xi xm m))) (True/\∃(y:Unit),True/\(-1:Int)=Cg p l Z0/\Qab xi xm m)) (by kernel_rfl) ?_
 delta DA GI LI LN N0 N1 N2 N4 SI SM Z0 Z1 ZI Qoj Qab QdB Qac Qad XJ Jb Qae Qty Qtz Qok Qol Qom Jc Qaf QtA QtB Qon Qoo Qop QtC QtD
 try simp only[<- dn]
 simp only[Int.toNat_natCast,Bh,Bf,decide_eq_true_eq,decide_eq_false_iff_not,true_and,and_true,exists_const]
 simp only[maxLen] at hl
 refine⟨⟨0,⟨Nat.zero_le _,by simp⟩,rfl⟩,fun i hh=>⟨fun hlt=>?_,fun hge=>(hh.done hge).symm⟩⟩
 have hlt':i<l.length:=by omega
 obtain ⟨s1,s2⟩:=hh.step hlt'
 have hm:l.getD i default∈l:=by rw[List.getD_eq_getElem?_getD,List.getElem?_eq_getElem hlt'];exact List.getElem_mem hlt'
 refine⟨⟨by omega,hlt⟩,l.getD i default,?_,fun _ _=>⟨fun e=>(s1 e).symm,fun e=>⟨i+1,s2 e,by omega,Be (by omega) (by omega)⟩⟩⟩
 first
  |exact⟨Bc _,hm,rfl⟩
  |exact⟨Bc _,hm⟩
def Bhu(xi:Nat)(xm:Nat)(m:Int)(l:List Sm)(p:Sm->Bool):Con:=fun k ds S=>match k with
 |85=>some (pA ds S (.int .i64 (Cg p l 0)) (wkL ds [gsl 34 Sm.row1 l,.fn (.func 57) [] [.ref 2 xi 0]]/\S=⟨[(2,xi,.cells [.fn (.func 54) [] [.ref 1 xm 0]]),(1,xm,.cells [.int .i64 m])],[]⟩))
 |_=>none
noncomputable def EUxc(xi:Nat)(xm:Nat)(m:Int)(l:List Sm)(p:Sm->Bool):Senv:=EC (Bhu xi xm m l p) 9 2 [4] (fun _=>([],[]))
def Qoq:Nd:=Nd.mk Z0 Z0 Z0 [] Z0 Z0 DA [] [] Z0 Z0 Z0
def Qor(a:List Sm)(b:Nat):List D:=[D.sl 34 (LN a) (fun i=>Sm.row1 (List.getD a i (Sm.mk Z0 Z0 [] Z0 Qoq Qoq))) Mode.any,D.fn (Fn.func (57:Nat)) [] [D.ref N2 b N0]]
def Qos(a:Nat):D:=D.fn (Fn.func (54:Nat)) [] [D.ref N1 a N0]
def QtE(a b:Nat)(c:Int):St:=St.mk [(N2,a,AObj.cells [Qos b]),(N1,b,AObj.cells [ZI c])] []
theorem Uxc_ok(xi : Nat)(xm : Nat)(m : Int)(l : List Sm)(p : Sm -> Bool)(h : ∀b∈l, CS 57 (.agg b.row1::[.ref 2 xi 0]) ⟨[(2, xi, .cells [.fn (.func 54) [] [.ref 1 xm 0]]), (1, xm, .cells [.int .i64 m])], []⟩ (.bool (p b)))(hl : l.length<=maxLen) :
  CS 56 [gsl 34 Sm.row1 l,.fn (.func 57) [] [.ref 2 xi 0]] ⟨[(2,xi,.cells [.fn (.func 54) [] [.ref 1 xm 0]]),(1,xm,.cells [.int .i64 m])],[]⟩ (.bool (l.any p)):=by
 refine CS.of (Bi (A:=sS _ _ _) (x:=()) (E:=EUxc xi xm m l p) (eOk ?_ rfl) Tryz.func56 rfl (by kernel_rfl) rfl (by simp[sS,EUxc,EC,E0]) ?_)
 ·intro k ds S A hh
  try unfold Bhu at hh
  try dsimp only at hh
  split at hh
  ·injection hh with hh;subst hh
   refine Bs fun ⟨e,hs⟩=>?_
   rw[hs]
   exact (Uxx_ok xi xm m l p h hl).wk e
  ·cases hh
 refine Bj (T :=
  ∃(x:Unit),(wkL (Qor l xi) (Qor l xi)/\SM (QtE xi xm m))/\∀(y:Unit),True->True/\∃(y:Unit),True/\decide (Z0<=Cg p l Z0)=List.any l p/\(SM xi/\(SM (Qos xm)/\True)/\SM xm/\(SM m/\True)/\True)/\True) (by kernel_rfl) ?_
 delta DA LN N0 N1 N2 SM Z0 ZI Qoq Qor Qos QtE
 simp only[true_and,and_true,exists_const,forall_const]
 first
  |exact⟨Bc _,Ch _ l 0 (Int.le_refl _)⟩
  |exact⟨⟨Bc _,rfl⟩,Ch _ l 0 (Int.le_refl _)⟩
def BkQ(xi xm:Nat)(m:Int):St:=⟨[(2,xi,.cells [.fn (.func 54) [] [.ref 1 xm 0]]),(1,xm,.cells [.int .i64 m])],[]⟩
def Bkj(b:Nd)(m:Int):Con:=fun k ds S=>match k with
 |31=>some (pA ds S (.bool (BD b m)) (isN b ds [.int .i64 m]))
 |_=>none
noncomputable def Et1(b:Nd)(m:Int):Senv:=EC (Bkj b (m-1)) 8 4 [] (fun _=>([],[]))
def Qag(a:Nd):Arr:=Nd.va a
def QtF(a:Nd):List Int:=Arr.sh (Qag a)
def QtG(a:Nd):List Int:=Arr.nu (Qag a)
def Qot(a:Nd):List Arr:=Arr.it (Qag a)
def Qou:Arr:=DA
def QdC:Nd:=Nd.mk Z0 Z0 Z0 [] Z0 Z0 Qou [] [] Z0 Z0 Z0
theorem Bko(b : Nd)(m : Int)(hm : BY m)(h1 : 1<=m)(h : CD 31 [.agg b.row1, .int .i64 (m-1)] (.bool (BD b (m-1))))(xm : Nat) :
  CS 54 [.agg b.row1,.ref 1 xm 0] ⟨[(1,xm,.cells [.int .i64 m])],[]⟩ (.bool (BD b (m-1))):=by
 refine CS.of (Bi (A:=sS _ _ _) (x:=()) (E:=Et1 b m) (eOk ?_ rfl) Tryz.func54 rfl (by kernel_rfl) rfl (by simp[sS,Et1,EC,E0]) ?_)
 ·intro k ds S A hh
  try unfold Bkj at hh
  try dsimp only at hh
  split at hh
  ·injection hh with hh;subst hh
   exact Bs fun e=>CD.at_ (h.wk e) _
  ·cases hh
 refine Bj (T :=
  ∀(x:Nat),xm≠x/\True->SM x/\SM xm/\∃(x:Unit),isN b [D.agg [ZI (Nd.kd b),ZI (Nd.at_ b),ZI (Nd.cl b),D.str (Nd.tx b),ZI (Nd.pr b),ZI (Nd.op b),ZI (Arr.k (Qag b)),SI (QtF b),SI (QtG b),D.sl N4 (LN (Qot b)) (fun i=>Arr.row (List.getD (Qot b) i Qou)) Mode.any,D.sl 15 (LN (Nd.ki b)) (fun i=>Nd.row (List.getD (Nd.ki b) i QdC)) Mode.any,D.sl 34 (LN (Nd.bo b)) (fun i=>Sm.row (List.getD (Nd.bo b) i (Sm.mk Z0 Z0 [] Z0 QdC QdC))) Mode.any,ZI (Nd.de b),ZI (Nd.sl b),ZI (Nd.ss b)],ZI (IntKind.wrap IntKind.i64 (m-Z1))] [ZI (m-Z1)]/\∀(y:Unit),True->True/\∃(y:Unit),True/\SM (BD b (m-Z1))/\(SM xm/\(SM m/\True)/\True)/\True) (by kernel_rfl) ?_
 delta DA GI LN N1 N4 SI SM Z0 Z1 ZI Qag QtF QtG Qot Qou QdC
 simp only[eq_self,ne_eq,implies_true,true_and,and_true,exists_const]
 have w:IntKind.i64.wrap (m-1)=m-1:=by unfold BY at hm;exact Be (by omega) (by omega)
 rw[w]
 exact fun _ _=>B1 _ _
def Bkr(l:List Nd)(xi xm:Nat)(m:Int):Con:=fun k ds S=>match k with
 |54=>some (pE (β:=Nd) ds S (fun b=>.bool (BD b (m-1))) (fun b=>isN b ds [.ref 1 xm 0]/\b∈l/\∃o,S=⟨o::(BkQ xi xm m).objs,[]⟩))
 |_=>none
noncomputable def Et2(l:List Nd)(xi xm:Nat)(m:Int):Senv:=EC (Bkr l xi xm m) 19 4 [] (fun _=>([],[]))
def Jd(a:Sm):Nd:=Sm.te a
def Qov(a:Sm):D:=ZI (Nd.kd (Jd a))
def Qow(a:Sm):D:=ZI (Nd.at_ (Jd a))
def Qox(a:Sm):D:=ZI (Nd.cl (Jd a))
def Qoy(a:Sm):D:=D.str (Nd.tx (Jd a))
def Qoz(a:Sm):D:=ZI (Nd.pr (Jd a))
def QoA(a:Sm):D:=ZI (Nd.op (Jd a))
def Qah(a:Sm):Arr:=Nd.va (Jd a)
def QoB(a:Sm):D:=ZI (Arr.k (Qah a))
def QtH(a:Sm):List Int:=Arr.sh (Qah a)
def QoC(a:Sm):D:=SI (QtH a)
def QtI(a:Sm):List Int:=Arr.nu (Qah a)
def QoD(a:Sm):D:=SI (QtI a)
def QoE(a:Sm):List Arr:=Arr.it (Qah a)
def QdD:Arr:=DA
def QoF(a:Sm):D:=D.sl N4 (LN (QoE a)) (fun i=>Arr.row (List.getD (QoE a) i QdD)) Mode.any
def QoG(a:Sm):List Nd:=Nd.ki (Jd a)
def Qai:Nd:=Nd.mk Z0 Z0 Z0 [] Z0 Z0 QdD [] [] Z0 Z0 Z0
def QoH(a:Sm):D:=D.sl 15 (LN (QoG a)) (fun i=>Nd.row (List.getD (QoG a) i Qai)) Mode.any
def QoI(a:Sm):List Sm:=Nd.bo (Jd a)
def QoJ:Sm:=Sm.mk Z0 Z0 [] Z0 Qai Qai
def QoK(a:Sm):D:=D.sl 34 (LN (QoI a)) (fun i=>Sm.row (List.getD (QoI a) i QoJ)) Mode.any
def QoL(a:Sm):D:=ZI (Nd.de (Jd a))
def QoM(a:Sm):D:=ZI (Nd.sl (Jd a))
def QoN(a:Sm):D:=ZI (Nd.ss (Jd a))
def Yy(a:Nat):List D:=[D.ref N1 a N0]
def Je(a:Sm):Nd:=Sm.nd a
def Qaj(a:Sm):Arr:=Nd.va (Je a)
def QtJ(a:Sm):List Int:=Arr.sh (Qaj a)
def QtK(a:Sm):List Int:=Arr.nu (Qaj a)
def QoO(a:Sm):List Arr:=Arr.it (Qaj a)
def QoP(a:Sm):List Nd:=Nd.ki (Je a)
def QoQ(a:Sm):List Sm:=Nd.bo (Je a)
def QoR(a:Sm):List D:=[ZI (Nd.kd (Je a)),ZI (Nd.at_ (Je a)),ZI (Nd.cl (Je a)),D.str (Nd.tx (Je a)),ZI (Nd.pr (Je a)),ZI (Nd.op (Je a)),ZI (Arr.k (Qaj a)),SI (QtJ a),SI (QtK a),D.sl N4 (LN (QoO a)) (fun i=>Arr.row (List.getD (QoO a) i QdD)) Mode.any,D.sl 15 (LN (QoP a)) (fun i=>Nd.row (List.getD (QoP a) i Qai)) Mode.any,D.sl 34 (LN (QoQ a)) (fun i=>Sm.row (List.getD (QoQ a) i QoJ)) Mode.any,ZI (Nd.de (Je a)),ZI (Nd.sl (Je a)),ZI (Nd.ss (Je a))]
def QoS(a:Nat):D:=D.fn (Fn.func (54:Nat)) [] (Yy a)
def QoT(a b:Nat)(c:Int):List (Nat×Nat×AObj):=[(N2,a,AObj.cells [QoS b]),(N1,b,AObj.cells [ZI c])]
def QoU(a:Sm)(b:Nd)(c d e:Nat)(f:Int):Prop:=b∈Bg a/\∃(o:Nat×Nat×AObj),St.mk (((3:Nat),c,AObj.cells (ZI (Sm.kd a)::ZI (Sm.at_ a)::D.str (Sm.nm a)::ZI (Sm.sl a)::Qov a::Qow a::Qox a::Qoy a::Qoz a::QoA a::QoB a::QoC a::QoD a::QoF a::QoH a::QoK a::QoL a::QoM a::QoN a::QoR a))::QoT d e f) []=St.mk (o::QoT d e f) []
def QdE(a:Nd)(b:Int):Bool:=BD a (b-Z1)
def QoV(a:Sm)(c:Int):Bool:=List.any (Bg a) fun (b:Nd)=>QdE b c
def QoW(a b:Nat)(c:Int):Prop:=(SM a/\(SM (QoS b)/\True)/\SM b/\(SM c/\True)/\True)/\True
def QoX(a b:Nat)(c:Sm)(d:Nat)(e:Int):Prop:=SM a/\SM b/\∃(x:Nd),(isN x (D.agg (QoR c)::Yy d) (Yy d)/\QoU c x b a d e)/\∀(_y:Unit),True->True/\∃(_y:Unit),True/\QdE x e=QoV c e/\QoW a d e
theorem Bma(s : Sm)(xi xm : Nat)(m : Int)(h : ∀b∈Bg s, CS 54 [.agg b.row1, .ref 1 xm 0] ⟨[(1, xm, .cells [.int .i64 m])], []⟩ (.bool (BD b (m-1)))) :
  CS 57 [.agg s.row1,.ref 2 xi 0] (BkQ xi xm m) (.bool ((Bg s).any fun b=>BD b (m-1))):=by
 refine CS.of (Bi (A:=sS _ _ _) (x:=()) (E:=Et2 (Bg s) xi xm m) (eOk ?_ rfl) Tryz.func57 rfl (by kernel_rfl) rfl (by simp[sS,Et2,EC,E0]) ?_)
 ·intro k ds S A hh
  try unfold Bkr at hh
  try dsimp only at hh
  split at hh
  ·injection hh with hh;subst hh
   refine Cl fun b ⟨e,hb,o,hS⟩=>?_
   rw[hS]
   exact CS.front o (CS.front _ ((h b hb).wk e))
  ·cases hh
 refine Bj (T :=
  ∀(x:Nat),xi≠x/\xm≠x/\True->SM x/\ifB (Sm.kd s==3) (SM xi/\SM x/\∃(x_1:Nd),(isN x_1 (D.agg [Qov s,Qow s,Qox s,Qoy s,Qoz s,QoA s,QoB s,QoC s,QoD s,QoF s,QoH s,QoK s,QoL s,QoM s,QoN s]::Yy xm) (Yy xm)/\QoU s x_1 x xi xm m)/\∀(y:Unit),True->ifB (QdE x_1 m) (True/\∃(y:Unit),True/\true=QoV s m/\QoW xi xm m) (QoX xi x s xm m)) (QoX xi x s xm m)) (by kernel_rfl) ?_
 delta DA GI LN N0 N1 N2 N4 SI SM Z0 Z1 ZI Qoy Qoz QoA Qah QoB QtH QoC QtI QoD QoE QdD QoF QoG Qai QoH QoI QoJ QoK QoL QoM QoN Yy Je Qaj QtJ QtK QoO QoP QoQ QoR QoS QoT QoU QdE QoV QoW QoX Jd Qov Qow Qox
 try simp only[<- dm]
 try simp only[<- dn]
 simp only[ne_eq,Bh,true_and,and_true,beq_iff_eq,beq_eq_false_iff_ne,exists_const,forall_const,Prod.exists]
 refine fun x _=>⟨fun h3=>⟨s.te,⟨B1 _ _,by unfold Bg;rw[if_pos h3];simp,_,_,_,rfl⟩,fun h1=>?_,fun h1=>⟨s.nd,⟨B1 _ _,by unfold Bg;split<;>simp,_,_,_,rfl⟩,?_⟩⟩,fun h3=>⟨s.nd,⟨B1 _ _,by unfold Bg;split<;>simp,_,_,_,rfl⟩,?_⟩⟩
 ·unfold Bg
  rw[if_pos h3]
  simp[h1]
 ·unfold Bg
  rw[if_pos h3]
  simp[h1]
 ·unfold Bg
  rw[if_neg h3]
  simp
theorem Bcn(n:Nd)(m:Int):BD n m=(decide (m<1)||((n.ki.any fun b=>BD b (m-1))||n.bo.any fun s=>(Bg s).any fun b=>BD b (m-1))):=by
 rw[Beb,BK,List.any_append,List.any_flatMap]
def Bkx(n:Nd)(m:Int):Con:=fun k ds S=>match k with
 |55=>match ds with
  | [_,.fn _ _ [.ref _ xm _]]=>some (pA ds S (.bool (n.ki.any fun b=>BD b (m-1))) (1<=m/\wkL ds [gsl 15 Nd.row1 n.ki,.fn (.func 54) [] [.ref 1 xm 0]]/\∃o F,S=⟨o::(1,xm,.cells [.int .i64 m])::F,[]⟩))
  |_=>none
 |56=>match ds with
  | [_,.fn _ _ [.ref _ xi _]]=>some (pE (β:=Nat) ds S (fun _=>.bool (n.bo.any fun s=>(Bg s).any fun b=>BD b (m-1))) (fun xm=>1<=m/\wkL ds [gsl 34 Sm.row1 n.bo,.fn (.func 57) [] [.ref 2 xi 0]]/\∃F,S=⟨(BkQ xi xm m).objs++F,[]⟩))
  |_=>none
 |_=>none
noncomputable def Etd(n:Nd)(m:Int):Senv:=EC (Bkx n m) 19 6 [7] (fun _=>([],[]))
def QoY(a:Nd)(b:Int):Prop:=True/\∃(_y:Unit),True/\true=BD a b/\True/\True
def QoZ:Arr:=DA
def QdF:Nd:=Nd.mk Z0 Z0 Z0 [] Z0 Z0 QoZ [] [] Z0 Z0 Z0
def QdG(a:Nd):D:=D.sl 15 (LN (Nd.ki a)) (fun i=>Nd.row1 (List.getD (Nd.ki a) i QdF)) Mode.any
def Qo0(a:Nat):List D:=[D.fn (Fn.func (54:Nat)) [] [D.ref (max (N0+N1) N0) a N0]]
def Qo1(a:Nat):List D:=[D.fn (Fn.func (54:Nat)) [] [D.ref N1 a N0]]
def Qak(a:Nd):Arr:=Nd.va a
def QtL(a:Nd):List Int:=Arr.sh (Qak a)
def QtM(a:Nd):List Int:=Arr.nu (Qak a)
def Qo2(a:Nd):List Arr:=Arr.it (Qak a)
def QdH(a:Nd):D:=D.sl 34 (LN (Nd.bo a)) (fun i=>Sm.row1 (List.getD (Nd.bo a) i (Sm.mk Z0 Z0 [] Z0 QdF QdF))) Mode.any
def Qo3(a b:Nat)(c:Int)(d:Nat)(e:Nd):St:=St.mk [(max N2 (max (N0+N1) N0),a,AObj.cells (Qo0 b)),(max (N0+N1) N0,b,AObj.cells [ZI c]),(N0,d,AObj.cells [ZI (Nd.kd e),ZI (Nd.at_ e),ZI (Nd.cl e),D.str (Nd.tx e),ZI (Nd.pr e),ZI (Nd.op e),ZI (Arr.k (Qak e)),SI (QtL e),SI (QtM e),D.sl N4 (LN (Qo2 e)) (fun i=>Arr.row (List.getD (Qo2 e) i QoZ)) Mode.any,QdG e,QdH e,ZI (Nd.de e),ZI (Nd.sl e),ZI (Nd.ss e)])] []
theorem BiT(n : Nd)(m : Int)(hn : n.sm)(hm : BY m)(h : 1<=m -> ∀b∈BK n, CD 31 [.agg b.row1, .int .i64 (m-1)] (.bool (BD b (m-1)))) :
  CD 31 [.agg n.row2,.int .i64 m] (.bool (BD n m)):=by
 obtain ⟨_,k1,k2⟩:=EM hn
 refine Bi (A:=sC _ _) (x:=()) (E:=Etd n m) (eOk ?_ rfl) Tryz.func31 rfl (by kernel_rfl) rfl (by simp[sC,Etd,EC,E0]) ?_
 ·intro k ds S A hh
  try unfold Bkx at hh
  try dsimp only at hh
  split at hh
  ·split at hh
   ·injection hh with hh;subst hh
    refine Bs fun ⟨h1,e,o,F,hS⟩=>?_
    rw[hS]
    exact CS.front o (CS.frame ⟨F,[]⟩ (CS.wk (Txc_ok _ m n.ki (fun b=>BD b (m-1)) (fun b hb=>Bko b m hm h1 (h h1 b (Co hb)) _) (Ci k1)) e))
   ·cases hh
  ·split at hh
   ·injection hh with hh;subst hh
    refine Cl fun xm ⟨h1,e,F,hS⟩=>?_
    rw[hS]
    exact CS.frame ⟨F,[]⟩ (CS.wk (Uxc_ok _ xm m n.bo (fun s=>(Bg s).any fun b=>BD b (m-1)) (fun s hs=>Bma s _ xm m fun b hb=>Bko b m hm h1 (h h1 b (List.mem_append_right _ (List.mem_flatMap.2 ⟨s,hs,hb⟩))) _) (Ci k2)) e)
   ·cases hh
  ·cases hh
 refine Bj (T :=
  ∀(x:Nat),True->∀(x_1:Nat),x≠x_1/\True->SM x_1/\ifB (decide (m<Z1)) (QoY n m) (∀(x_2:Nat),x_1≠x_2/\x≠x_2/\True->SM x_2/\SM x/\SM x_2/\∃(x_3:Unit),(Z1<=m/\wkL (QdG n::Qo0 x_1) (QdG n::Qo1 x_1)/\∃(o:Nat×Nat×AObj),∃(F:List (Nat×Nat×AObj)),Qo3 x_2 x_1 m x n=St.mk (o::(N1,x_1,AObj.cells [ZI m])::F) [])/\∀(y:Unit),True->ifB (List.any (Nd.ki n) fun (b:Nd)=>BD b (m-Z1)) (QoY n m) (SM x/\∃(x_4:Nat),(Z1<=m/\wkL [QdH n,D.fn (Fn.func (57:Nat)) [] [D.ref (max N2 (max (N0+N1) N0)) x_2 N0]] [QdH n,D.fn (Fn.func (57:Nat)) [] [D.ref N2 x_2 N0]]/\∃(F:List (Nat×Nat×AObj)),Qo3 x_2 x_1 m x n=St.mk ((N2,x_2,AObj.cells (Qo1 x_4))::(N1,x_4,AObj.cells [ZI m])::List.append [] F) [])/\∀(y:Unit),True->RT ((List.any (Nd.bo n) fun (s:Sm)=>List.any (Bg s) fun (b:Nd)=>BD b (m-Z1))=BD n m)))) (by kernel_rfl) ?_
 delta DA GI LN N0 N1 N2 N4 SI SM Z0 Z1 ZI QoY QoZ QdF QdG Qo0 Qo1 Qak QtL QtM Qo2 QdH Qo3 RT
 simp only[eq_self,ne_eq,Bh,decide_eq_true_eq,decide_eq_false_iff_not,true_and,and_true,exists_const,forall_const,Prod.exists]
 have e:=Bcn n m
 refine fun x x1 _=>⟨fun h=>by rw[e];simp[h],fun h x2 _=>⟨⟨by omega,Bc _,_,_,_,_,rfl⟩,fun h1=>?_,fun h1=>⟨x1,⟨by omega,Bc _,_,rfl⟩,?_⟩⟩⟩
 ·rw[e,h1];simp
 ·rw[e,h1];simp[h]
theorem BhB(n:Nd)(m:Int)(hn:n.sm)(hm:BY m):CD 31 [.agg n.row2,.int .i64 m] (.bool (BD n m)):=by
 refine BiT n m hn hm fun h1 b hb=>CD.down (BhB b (m-1) (IP hn hb) ?_)
 unfold BY at hm ⊢
 omega
termination_by szN n
decreasing_by exact C7 hb
def EY(l:List (List UInt8)):List (List UInt8):=l.mergeSort fun a b=>decide (a<=b)
def EA(l:List (List UInt8)):List (List UInt8):=Lib.compact l
def TF(l:List (List UInt8)):List (List UInt8):=EA l++List.replicate (l.length-(EA l).length) []
def CJ(n:Nd):List (List UInt8):=if BD n 60=true then [] else EA (EY (fnN [] n))
theorem BfL(A:List (List UInt8)):(TF A).length=A.length:=by
 have:=Lib.compact_length_le A
 unfold TF EA
 simp
 omega
noncomputable def _root_.Go.Ab.inlG(con:Con)(n:Nd)(k:Nat)(ds:List D)(S:St)(R:AEnd->St->Prop):Prop :=
 match Nat.beq k 32 with
 |true=>match ds with
  | [.nilp,a,.sl 1 0 _ .nil]=>(a=.agg n.row1/\szN n<=900000)/\(fnN [] n=[]->R (.ret (.sl 1 0 (fun _=>[]) .nil)) S)/\∀x cap:Nat,R (.ret (.vs 7 x (fnN [] n).length cap 1)) ⟨(7,x,Ek (fnN [] n) cap)::S.objs,S.toks⟩
  |_=>False
 |false=>match Nat.beq k 33 with
  |true=>match ds with
   | [.sl 1 0 _ .nil]=>R (.ret (.tup [])) S
   | [.vs kt x m cap 1]=>∃A:List (List UInt8),(BG S.objs kt=some (x,Ek A cap)/\m=A.length/\A.length<=1000000000)/\R (.ret (.tup [])) ⟨C5 S.objs kt (Ek (EY A) cap),S.toks⟩
   |_=>False
  |false=>match Nat.beq k 34 with
   |true=>match ds with
    | [.sl 1 0 _ .nil]=>R (.ret (.sl 1 0 (fun _=>[]) .nil)) S
    | [.vs kt x m cap 1]=>∃A:List (List UInt8),(BG S.objs kt=some (x,Ek A cap)/\m=A.length/\A.length<=1000000000)/\R (.ret (.vs kt x (EA A).length cap 1)) ⟨C5 S.objs kt (.vec 1 m cap fun i=>[.str ((TF A).getD i [])]),S.toks⟩
    |_=>False
   |false=>MS { E0 con 0 0 [] (fun _=>([],[])) with auto:=true } (Ee G3) 9 k ds S R
theorem Be9{k:Nat}{v:D}(h:∀(cap:Nat) (w:World),∃x,(∀C,Rep C v x)/\Calls Tryz.prog k #[.slice none 0 cap] w fun e w'=>e=.returned x/\w'=w)(hf:FnOk Tryz.prog k)(f:Nat->List D):CD k [.sl 1 0 f .nil] v:=by
 refine ACalls.mono (R:=fun r S'=>r=.ret v/\S'=⟨[],[]⟩) ⟨hf,fun C F args w ha hs=>?_⟩ fun _ _ ⟨h1,h2⟩=>⟨(),trivial,h1,h2⟩
 obtain ⟨u,e,hv⟩:=Cq ha
 have e2:args=#[u]:=by
  have:args=[u].toArray:=by rw[<- e]
  simpa using this
 subst e2
 simp only[Rep] at hv
 obtain ⟨a,len,cap,rfl,⟨h1,_,_,_,_,h6⟩,_⟩:=hv
 simp only at h6
 subst h1 h6
 obtain ⟨x,hx,hc⟩:=h cap w
 refine hc.mono ?_
 rintro e w' ⟨rfl,rfl⟩
 exact⟨C,.ret v,⟨[],[]⟩,.refl C,hs,hx C,rfl,rfl⟩
theorem BkW(f:Nat->List D):CD 33 [.sl 1 0 f .nil] (.tup []) :=
 Be9 (fun cap w=>⟨_,fun _=>by simp[Rep,RepL],Tryz.slices_Sort_string_none none cap w⟩) ⟨_,Tryz.func33,by kernel_rfl,by kernel_rfl⟩ f
theorem Blv(f:Nat->List D):ACalls Tryz.prog 34 [.sl 1 0 f .nil] ⟨[],[]⟩ (fun r S'=>r=.ret (.sl 1 0 (fun _=>[]) .nil)/\S'=⟨[],[]⟩):=by
 refine⟨⟨_,Tryz.func34,by kernel_rfl,by kernel_rfl⟩,fun C F args w ha hs=>?_⟩
 obtain ⟨u,e,hv⟩:=Cq ha
 have e2:args=#[u]:=by
  have:args=[u].toArray:=by rw[<- e]
  simpa using this
 subst e2
 simp only[Rep] at hv
 obtain ⟨a,len,cap,rfl,hh,_⟩:=hv
 have hh2:=hh
 obtain ⟨h1,_,_,_,_,h6⟩:=hh
 simp only at h6
 subst h1 h6
 refine (Tryz.slices_Compact_string_empty none cap w).mono ?_
 rintro e w' ⟨rfl,rfl⟩
 refine⟨C,.ret (.sl 1 0 (fun _=>[]) .nil),⟨[],[]⟩,.refl C,hs,?_,rfl,rfl⟩
 simp only[RepEnd,Rep]
 exact⟨none,0,cap,rfl,hh2,fun _ h=>(nomatch h)⟩
theorem CV.at{k kt x:Nat}{ds:List D}{o:AObj}{d:D}{o':AObj}(h:ACalls Tryz.prog k ds ⟨[(kt,x,o)],[]⟩ (fun r S'=>r=.ret d/\S'=⟨[(kt,x,o')],[]⟩)){S:St}(hg:BG S.objs kt=some (x,o)):ACalls Tryz.prog k ds S (fun r S'=>r=.ret d/\S'=⟨C5 S.objs kt o',S.toks⟩):=by
 refine (ACalls.at_obj hg (R:=fun r o2=>r=.ret d/\o2=o') (h.mono ?_)).mono ?_
 ·rintro r S' ⟨rfl,rfl⟩;exact⟨o',⟨rfl,rfl⟩,rfl⟩
 ·rintro r S' ⟨_,⟨rfl,rfl⟩,rfl⟩;exact⟨rfl,rfl⟩
theorem BjI{con:Con}(hc:ConOk Tryz.prog con)(n:Nd)(k:Nat)(ds:List D)(S:St)(R:AEnd->St->Prop)(h:Go.Ab.inlG con n k ds S R):ACalls Tryz.prog k ds S R:=by
 unfold Go.Ab.inlG at h
 split at h
 ·rename_i hk
  have hk:=Nat.eq_of_beq_eq_true hk
  subst hk
  split at h
  ·rename_i a f
   obtain ⟨⟨rfl,h1⟩,h2,h3⟩:=h
   have h4:ACalls Tryz.prog 32 [.nilp,.agg n.row1,.sl 1 0 f .nil] ⟨[],[]⟩ _:=(Bk5 7 n h1).wkArgs ⟨Bb _,Bb _,by
    simp only[wkD]
    exact Ba.2 ⟨by simp,by trivial,fun i hi=>absurd hi (Nat.not_lt_zero _),by simp[BB]⟩,trivial⟩
   refine ((ACalls.frame h4 S).from fun C F w H=>by simpa[St.add] using H).mono ?_
   rintro r S' ⟨S0,hr,rfl⟩
   rcases hr with ⟨q1,rfl,rfl⟩ | ⟨x,cap,rfl,rfl⟩
   ·exact h2 q1
   ·exact h3 x cap
  ·exact h.elim
 ·split at h
  ·rename_i hk
   have hk:=Nat.eq_of_beq_eq_true hk
   subst hk
   split at h
   ·refine ACalls.mono (CD.at_ (BkW _) S) ?_
    rintro r S' ⟨rfl,rfl⟩
    exact h
   ·rename_i kt x m cap
    obtain ⟨A,⟨q1,rfl,q2⟩,q3⟩:=h
    refine ACalls.mono (CV.at (Bl0 kt x A cap q2) q1) ?_
    rintro r S' ⟨rfl,rfl⟩
    exact q3
   ·exact h.elim
  ·split at h
   ·rename_i hk
    have hk:=Nat.eq_of_beq_eq_true hk
    subst hk
    split at h
    ·rename_i f
     refine ((ACalls.frame (Blv f) S).from fun C F w H=>by simpa[St.add] using H).mono ?_
     rintro r S' ⟨S0,⟨rfl,rfl⟩,rfl⟩
     exact h
    ·rename_i kt x m cap
     obtain ⟨A,⟨q1,rfl,q2⟩,q3⟩:=h
     refine ACalls.mono (CV.at (BlN kt x A cap q2) q1) ?_
     rintro r S' ⟨rfl,rfl⟩
     have e:Ek (Lib.compact A++List.replicate (A.length-(Lib.compact A).length) []) cap=.vec 1 A.length cap fun i=>[.str ((TF A).getD i [])]:=by
      show Ek (TF A) cap=_
      unfold Ek
      rw[BfL]
     rw[e]
     exact q3
    ·exact h.elim
   ·exact E9 (E:={ E0 con 0 0 [] (fun _=>([],[])) with auto:=true }) Gn hc mix CR Gx 9 k ds S R h
def BdV(n:Nd):Con:=fun k ds S=>match k with
 |31=>some (pA ds S (.bool (BD n 60)) (isN n ds [.int .i64 60]))
 |_=>none
theorem BbF{n:Nd}(hn:n.sm):ConOk Tryz.prog (BdV n):=by
 intro k ds S A hh
 unfold BdV at hh
 split at hh
 ·injection hh with hh;subst hh
  exact Bs fun e=>CD.at_ (CD.wk (CD.down (BhB n 60 hn (by unfold BY;omega))) e) _
 ·cases hh
noncomputable def Egf(n:Nd):Senv:={ EC (BdV n) 14 5 [6] (fun _=>([],[])) with
 gr:=[.slot 2]
 inl:=inlG (BdV n) n }
def Qal(a:Nd):Arr:=Nd.va a
def QtN(a:Nd):List Int:=Arr.sh (Qal a)
def QtO(a:Nd):List Int:=Arr.nu (Qal a)
def Qo4(a:Nd):List Arr:=Arr.it (Qal a)
def Qo5:Arr:=DA
def QdI:Nd:=Nd.mk Z0 Z0 Z0 [] Z0 Z0 Qo5 [] [] Z0 Z0 Z0
def Qo6(a:Nd):D:=D.agg [ZI (Nd.kd a),ZI (Nd.at_ a),ZI (Nd.cl a),D.str (Nd.tx a),ZI (Nd.pr a),ZI (Nd.op a),ZI (Arr.k (Qal a)),SI (QtN a),SI (QtO a),D.sl N4 (LN (Qo4 a)) (fun i=>Arr.row (List.getD (Qo4 a) i Qo5)) Mode.any,D.sl 15 (LN (Nd.ki a)) (fun i=>Nd.row (List.getD (Nd.ki a) i QdI)) Mode.any,D.sl 34 (LN (Nd.bo a)) (fun i=>Sm.row (List.getD (Nd.bo a) i (Sm.mk Z0 Z0 [] Z0 QdI QdI))) Mode.any,ZI (Nd.de a),ZI (Nd.sl a),ZI (Nd.ss a)]
def Qo7(a:Nd):Prop:=∀(_t:Nat),True/\∃(_y:Unit),True/\(N0=LN (CJ a)/\(∀(i:Nat),i<N0->Cw (List D) [] [D.str (List.getD (CJ a) i [])])/\True)/\True/\True
def Yz(a:Nd):List (List UInt8):=fnN [] a
theorem Bj8(n:Nd)(hn:n.sm)(hd:szN n<=900000):CD 16 [.agg n.row1] (ssl (CJ n) .any):=by
 refine Bi (A:=sC _ _) (x:=()) (E:=Egf n) (WI (BbF hn) (BjI (BbF hn) n) rfl) Tryz.func16 rfl (by kernel_rfl) rfl (by simp[sC,Egf,EC,E0]) ?_
 refine Bj (T :=
  ∀(x:Nat),True->SM x/\∃(x_1:Unit),isN n [Qo6 n,ZI 60] [ZI 60]/\∀(y:Unit),True->ifB (BD n (60:Int)) (Qo7 n) (SM x/\(SM (Qo6 n)/\szN n<=900000)/\(Cw (List (List UInt8)) (Yz n) []->Qo7 n)/\∀(x cap:Nat),∃(A:List (List UInt8)),(some (x,Ek (Yz n) cap)=some (x,Ek A cap)/\LN (Yz n)=LN A/\LN A<=1000000000)/\∃(A_1:List (List UInt8)),(some (x,Ek (EY A) cap)=some (x,Ek A_1 cap)/\LN (Yz n)=LN A_1/\LN A_1<=1000000000)/\SM x/\SM cap/\Bd (LN (EA A_1)<=LN (Yz n)) ((∀(i:Nat),i<LN (EA A_1)->(List.all [D.str (List.getD (TF A_1) i [])] fun (x:D)=>match x with | D.unk=>false | D.agg cs=>false | D.tup ds=>false | x=>true)=true)/\∀(t:Nat),True/\∃(y:Unit),True/\(LN (EA A_1)=LN (CJ n)/\(∀(i:Nat),i<LN (EA A_1)->[D.str (List.getD (TF A_1) i [])]=[D.str (List.getD (CJ n) i [])])/\True)/\True/\True))) (by kernel_rfl) ?_
 delta DA GI LN N0 N1 N4 SI SM Z0 ZI Qal QtN QtO Qo4 Qo5 QdI Qo6 Qo7 Yz
 try simp only[<- dm]
 try simp only[<- dn]
 simp only[Bh,Bf,true_and,and_true,exists_const,forall_const]
 have hl:=GP n []
 have hs:(EY (fnN [] n)).length=(fnN [] n).length:=by simp[EY]
 have hc:=Lib.compact_length_le (EY (fnN [] n))
 refine⟨B1 n _,fun h=>?_,fun h=>⟨hd,fun he=>?_,fun x cap=>⟨fnN [] n,⟨rfl,rfl,by omega⟩,EY (fnN [] n),⟨rfl,hs.symm,by omega⟩,by rw[<- hs];exact hc,fun _ _=>rfl,?_⟩⟩⟩
 ·have e:CJ n=[]:=by rw[CJ,if_pos h]
  rw[e]
  exact⟨rfl,fun i hi=>absurd hi (Nat.not_lt_zero _)⟩
 ·have e:CJ n=[]:=by
   rw[CJ,h,if_neg (by decide)]
   rw[show fnN [] n=[] from he]
   simp[EA,EY,Lib.compact,Lib.compactUpTo]
  rw[e]
  exact⟨rfl,fun i hi=>absurd hi (Nat.not_lt_zero _)⟩
 ·have e:CJ n=EA (EY (fnN [] n)):=by rw[CJ,h,if_neg (by decide)]
  rw[e]
  refine⟨rfl,fun i hi=>?_⟩
  unfold TF
  rw[List.getD_eq_getElem?_getD,List.getElem?_append_left hi,<- List.getD_eq_getElem?_getD]
def EZ(n:Nd):List (List UInt8):=if BD n 60=true then [] else CY [] (fnN [] n)
theorem Bhl{a b:List UInt8}(h:a<=b):a<b\/a=b:=by
 by_cases q:a<b
 ·exact .inl q
 ·exact .inr (List.le_antisymm h (List.not_lt.1 q))
theorem Wk:∀ {A B:List (List UInt8)},A.Pairwise (·<·)->B.Pairwise (·<·)->(∀x,x∈A↔x∈B)->A=B
 | [],[],_,_,_=>rfl
 | [],b::B,_,_,h=>by have:=(h b).2 (by simp);cases this
 |a::A,[],_,_,h=>by have:=(h a).1 (by simp);cases this
 |a::A,b::B,ha,hb,h=>by
  rw[List.pairwise_cons] at ha hb
  have e:a=b:=by
   rcases List.mem_cons.1 ((h a).1 (by simp)) with e | h1
   ·exact e
   ·rcases List.mem_cons.1 ((h b).2 (by simp)) with e | h2
    ·exact e.symm
    ·exact absurd (List.lt_trans (ha.1 b h2) (hb.1 a h1)) (List.lt_irrefl a)
  subst e
  rw[Wk ha.2 hb.2 fun x=>?_]
  constructor
  ·intro hx
   rcases List.mem_cons.1 ((h x).1 (List.mem_cons_of_mem _ hx)) with e | h1
   ·subst e;exact absurd (ha.1 x hx) (List.lt_irrefl x)
   ·exact h1
  ·intro hx
   rcases List.mem_cons.1 ((h x).2 (List.mem_cons_of_mem _ hx)) with e | h1
   ·subst e;exact absurd (hb.1 x hx) (List.lt_irrefl x)
   ·exact h1
theorem Ud{s x:List UInt8}:∀ {L:List (List UInt8)},x∈CC s L↔x=s\/x∈L
 | []=>by simp[CC]
 |y::r=>by
  rw[CC]
  split
  ·rw[List.mem_cons,Ud,List.mem_cons]
   constructor
   ·rintro (h | h | h)
    ·exact .inr (.inl h)
    ·exact .inl h
    ·exact .inr (.inr h)
   ·rintro (h | h | h)
    ·exact .inr (.inl h)
    ·exact .inl h
    ·exact .inr (.inr h)
  ·split
   ·rename_i e
    subst e
    constructor
    ·exact .inr
    ·rintro (h | h)
     ·rw[h];simp
     ·exact h
   ·rw[List.mem_cons]
theorem Ts{s:List UInt8}:∀ {L:List (List UInt8)},L.Pairwise (·<·)->(CC s L).Pairwise (·<·)
 | [],_=>by simp[CC]
 |y::r,h=>by
  have h2:=List.pairwise_cons.1 h
  rw[CC]
  split
  ·rename_i hlt
   refine List.pairwise_cons.2 ⟨fun x hx=>?_,Ts h2.2⟩
   rcases Ud.1 hx with e | hx
   ·rw[e];exact hlt
   ·exact h2.1 x hx
  ·rename_i hnl
   split
   ·exact h
   ·rename_i hne
    have hlt:s<y:=by
     rcases Bhl (List.not_lt.1 hnl) with h | h
     ·exact h
     ·exact absurd h.symm hne
    refine List.pairwise_cons.2 ⟨fun x hx=>?_,h⟩
    rcases List.mem_cons.1 hx with e | hx
    ·rw[e];exact hlt
    ·exact List.lt_trans hlt (h2.1 x hx)
theorem Bbr{x:List UInt8}:∀ {ns L:List (List UInt8)},x∈CY L ns↔x∈L\/x∈ns
 | [],L=>by simp[CY]
 |s::ns,L=>by
  show x∈CY (CC s L) ns↔_
  rw[Bbr,Ud,List.mem_cons]
  constructor
  ·rintro ((h | h) | h)
   ·exact .inr (.inl h)
   ·exact .inl h
   ·exact .inr (.inr h)
  ·rintro (h | h | h)
   ·exact .inl (.inr h)
   ·exact .inl (.inl h)
   ·exact .inr h
theorem Tv:∀ {ns L:List (List UInt8)},L.Pairwise (·<·)->(CY L ns).Pairwise (·<·)
 | [],_,h=>h
 |s::ns,L,h=>by
  show (CY (CC s L) ns).Pairwise (·<·)
  exact Tv (Ts h)
theorem Bbo{Z:List (List UInt8)}{x:List UInt8}:x∈EA Z↔x∈Z:=by
 unfold EA Lib.compact Lib.compactUpTo
 simp only[List.mem_map,List.mem_filter,List.mem_range]
 constructor
 ·rintro ⟨i,⟨h1,_⟩,rfl⟩
  simp[h1]
 ·intro hx
  obtain ⟨k,hk,e⟩:=List.getElem_of_mem hx
  have key:∀k,(hk:k<Z.length)->Z[k]=x->∃i,(i<Z.length/\Lib.keeps Z.toArray i=true)/\Z.toArray[i]! =x:=by
   intro k
   induction k with
   |zero=>exact fun hk e=>⟨0,⟨hk,by simp[Lib.keeps]⟩,by simpa[hk] using e⟩
   |succ k ih =>
    intro hk e
    by_cases h:Z[k]'(by omega)=x
    ·exact ih (by omega) h
    ·refine⟨k+1,⟨hk,?_⟩,by simpa[hk] using e⟩
     simp only[Lib.keeps,decide_eq_true_eq]
     right
     simp only[Nat.add_sub_cancel]
     have h1:Z.toArray[k+1]! =Z[k+1]:=by simp[hk]
     have h2:Z.toArray[k]! =Z[k]'(by omega):=by simp[show k<Z.length by omega]
     rw[h1,h2,e]
     exact fun q=>h q.symm
  exact key k hk e
theorem BbT{Z:List (List UInt8)}(h:Z.Pairwise (·<=·)):(EA Z).Pairwise (·<·):=by
 unfold EA Lib.compact Lib.compactUpTo
 rw[List.pairwise_map]
 have hr:((List.range Z.length).filter (Lib.keeps Z.toArray)).Pairwise (·<·):=List.pairwise_lt_range.filter _
 refine List.Pairwise.imp_of_mem ?_ hr
 intro i j hi hj hlt
 obtain ⟨hi,_⟩:=List.mem_filter.1 hi
 obtain ⟨hj,hk⟩:=List.mem_filter.1 hj
 rw[List.mem_range] at hi hj
 have g:∀a,a<Z.length->∀b,b<Z.length->a<=b->Z.toArray[a]! <=Z.toArray[b]! :=fun a ha b hb hab=>by
  have h1:Z.toArray[a]! =Z[a]:=by simp[ha]
  have h2:Z.toArray[b]! =Z[b]:=by simp[hb]
  rw[h1,h2]
  rcases Nat.lt_or_eq_of_le hab with q | q
  ·exact List.pairwise_iff_getElem.1 h a b ha hb q
  ·subst q;exact List.le_refl _
 simp only[Lib.keeps,decide_eq_true_eq] at hk
 rcases hk with hk | hk
 ·omega
 ·have h1:=g i hi (j-1) (by omega) (by omega)
  have h2:=g (j-1) (by omega) j hj (by omega)
  rcases Bhl h2 with q | q
  ·rcases Bhl h1 with q1 | q1
   ·exact List.lt_trans q1 q
   ·rw[q1];exact q
  ·exact absurd q.symm hk
theorem BaX(l:List (List UInt8)):(EY l).Pairwise (·<=·):=by
 have:=List.pairwise_mergeSort (le:=fun a b:List UInt8=>decide (a<=b)) (by simp only[decide_eq_true_eq];exact fun a b c h k=>List.le_trans h k) (by simp only[Bool.or_eq_true,decide_eq_true_eq];exact fun a b=>List.le_total a b) l
 simpa[EY] using this
theorem Bg2(l:List (List UInt8)):EA (EY l)=CY [] l:=by
 refine Wk (BbT (BaX l)) (Tv List.Pairwise.nil) fun x=>?_
 rw[Bbo,Bbr]
 simp[EY]
theorem Bew(n:Nd):CJ n=EZ n:=by
 unfold CJ EZ
 rw[Bg2]
open Rows in
theorem U1{H:Type}:∀ {l:List (DataW H)} {i:Nat} {x:DataW H},l[i]? =some x->uptoBulk x<=uptoBulkAll l
 | [],i,x,h=>by simp at h
 |a::l,0,x,h=>by
  simp only[List.getElem?_cons_zero,Option.some.injEq] at h
  subst h
  simp only[uptoBulkAll];omega
 |a::l,i+1,x,h=>by
  have:=U1 (l:=l) (i:=i) (x:=x) (by simpa using h)
  simp only[uptoBulkAll];omega
open Rows in
theorem Bbt{H:Type}:∀ {l:List (DataW H)} {i j:Nat} {x y:DataW H},l[i]? =some x->l[j]? =some y->i<j->uptoBulk x+uptoBulk y<=uptoBulkAll l
 | [],i,j,x,y,h,_,_=>by simp at h
 |a::l,0,j+1,x,y,h,k,_=>by
  have:=U1 (l:=l) (i:=j) (x:=y) (by simpa using k)
  simp only[List.getElem?_cons_zero,Option.some.injEq] at h
  subst h
  simp only[uptoBulkAll];omega
 |a::l,i+1,j+1,x,y,h,k,hij=>by
  have:=Bbt (l:=l) (i:=i) (j:=j) (x:=x) (y:=y) (by simpa using h) (by simpa using k) (by omega)
  simp only[uptoBulkAll];omega
open Rows in
theorem Rx{H:Type}{l:List (DataW H)}{i j:Nat}{x y:DataW H}(hi:l[i+1]? =some x)(hj:l[j+1]? =some y)(hij:i<j):1+uptoBulk x+uptoBulk y<=uptoBulkAll l:=by
 cases l with
 |nil=>simp at hi
 |cons a l =>
  have h1:=Bbt (l:=l) (i:=i) (j:=j) (by simpa using hi) (by simpa using hj) hij
  have h2:=Ux a
  simp only[uptoBulkAll];omega
theorem Beg{W:World}{hG:G0 W}{b:Nat}:∀ {ds:List D} {cs:List Value} {o:Nat},RepCells (Ew W hG) b o ds->cs.length=ds.length->(∀j,j<cs.length->W.cell? ⟨b,o+j,none⟩=cs[j]?)->RepL (Ew W hG) ds cs
 | [],[],_,_,_,_=>by simp[RepL]
 | [],_::_,_,_,h,_=>by simp at h
 |_::_,[],_,_,h,_=>by simp at h
 |d::ds,c::cs,o,h,hl,hc=>by
  simp only[RepCells] at h
  obtain ⟨⟨v,h1,h2⟩,h3⟩:=h
  have e0:=hc 0 (by simp)
  have h1:(W.cell? ⟨b,o,none⟩).filter (·.oneCell')=some v:=h1
  have hv:v=c:=by
   simp only[Nat.add_zero,List.getElem?_cons_zero] at e0
   rw[e0] at h1
   simp only[Option.filter_some] at h1
   split at h1
   ·injection h1 with h1;exact h1.symm
   ·cases h1
  subst hv
  simp only[RepL]
  exact⟨v,cs,rfl,h2,Beg h3 (by simpa using hl) fun j hj=>by
   have:=hc (j+1) (by simpa using hj)
   rw[List.getElem?_cons_succ] at this
   rw[<- this,Nat.add_assoc,Nat.add_comm 1 j]⟩
theorem Tl{α : Type}{W : World}{hG : G0 W}{H : Type}{enc : TypeId×Value -> H}{t e w n : Nat}{g : α -> List D}{f : α -> Nat}(hg : ∀a, (g a).length=w)(ht : Tryz.prog.underlying t=some (.slice e))(hw : Tryz.prog.cellsOf e=w)
  (l:List α) (he:∀a∈l,∀(cs:List Value) (x:DataW H×List MemPlace),DataW.trod enc Tryz.prog W 0 (fun _=>true) true n e cs=some x->RepL (Ew W hG) (g a) cs->f a<=Rows.uptoBulk x.1)
  {v:Value} {x:DataW H×List MemPlace} (h:DataW.trod enc Tryz.prog W 0 (fun _=>true) true (n+1) t [v]=some x) (hr:Rep (Ew W hG) (lsl w (l.map g)) v):(l.map f).sum<=Rows.uptoBulk x.1:=by
 simp only[lsl,Rep] at hr
 obtain ⟨a,len,cap,rfl,⟨h1,h2,h3,h4,h5,_⟩,h6⟩:=hr
 rw[List.length_map] at h1
 cases a with
 |none =>
  obtain ⟨h7,_⟩:=h4 rfl
  rw[List.length_map] at h7
  rw[List.eq_nil_of_length_eq_zero h7]
  simp
 |some a =>
  simp only[DataW.trod,ht,hw] at h
  split at h
  ·rename_i hb
   obtain ⟨els,hels,h⟩:=Option.bind_eq_some_iff.1 h
   obtain ⟨rest,hrest,hde⟩:=Option.map_eq_some_iff.1 h
   subst hde
   simp only[Rows.uptoBulk]
   have hlen:els.length=len:=by simpa using mapM_some_length hels
   have key:∀m,m<=l.length->((l.take m).map f).sum<=Rows.uptoBulkAll ((els.take m).map (·.1)):=by
    intro m
    induction m with
    |zero=>exact fun _=>by simp
    |succ m ih =>
     intro hm
     have ih:=ih (by omega)
     have hml:m<l.length:=by omega
     have hme:m<els.length:=by omega
     have q:=mapM_some_get hels m m (by rw[List.getElem?_range (by omega)])
     rw[List.getElem?_eq_getElem hme] at q
     obtain ⟨cs',q1,q2⟩:=Option.bind_eq_some_iff.1 q
     obtain ⟨hl,hq⟩:=Tc q1
     have hsp:a.spot=none:=h5 a rfl (by omega)
     obtain ⟨r1,r2⟩:=h6 a rfl m (by simpa using hml)
     have e1:(l.map g).getD m []=g l[m]:=by simp[List.getD_eq_getElem?_getD,hml]
     rw[e1] at r2
     have hrl:RepL (Ew W hG) (g l[m]) cs':=by
      refine Beg r2 (by rw[hl,hg]) fun j hj=>?_
      have:=hq j (by omega)
      rw[Oj hsp,Oj rfl] at this
      exact this
     have hc:=he l[m] (List.getElem_mem hml) cs' _ q2 hrl
     rw[List.take_succ_eq_append_getElem hml,List.take_succ_eq_append_getElem hme]
     simp only[List.map_append,List.sum_append,List.map_cons,List.map_nil,List.sum_cons,List.sum_nil,Nat.add_zero]
     have app:∀(a b:List (DataW H)),Rows.uptoBulkAll (a++b)=Rows.uptoBulkAll a+Rows.uptoBulkAll b:=by
      intro a b
      induction a with
      |nil=>simp[Rows.uptoBulkAll]
      |cons x a ih=>simp only[List.cons_append,Rows.uptoBulkAll,ih];omega
     rw[app]
     simp only[Rows.uptoBulkAll]
     omega
   have k:=key l.length (Nat.le_refl _)
   rw[List.take_length,List.take_of_length_le (by omega)] at k
   omega
  ·cases h
theorem MM{W : World}{H : Type}{enc : TypeId×Value -> H}{t n : Nat}{fs : Array Field}(ht : Tryz.prog.underlying t=some (.struct fs)){cs : List Value}{x : DataW H×List MemPlace}(h : DataW.trod enc Tryz.prog W 0 (fun _=>true) true (n+1) t cs=some x) :
  ∃xs:List (DataW H×List MemPlace),Rows.uptoBulk x.1=Rows.uptoBulkAll (xs.map (·.1))+1/\∀(i:Nat) (f:Field),fs.toList[i]? =some f->∃y,(xs.map (·.1))[i]? =some y.1/\DataW.trod enc Tryz.prog W 0 (fun _=>true) true n f.type ((cs.drop f.offset).take (Tryz.prog.cellsOf f.type))=some y:=by
 unfold DataW.trod at h
 rw[ht] at h
 simp only at h
 split at h
 ·obtain ⟨xs,hx,hde⟩:=Option.map_eq_some_iff.1 h
  subst hde
  refine⟨xs,by simp only[Rows.uptoBulk],fun i f hf=>?_⟩
  have q:=mapM_some_get hx i f hf
  have hl:xs.length=fs.toList.length:=mapM_some_length hx
  have hi:i<xs.length:=by
   have:=(List.getElem?_eq_some_iff.1 hf).1
   omega
  rw[List.getElem?_eq_getElem hi] at q
  exact⟨xs[i],by simp[hi],q⟩
 ·cases h
theorem BeL:∀l:List Nd,(l.map fun a=>2*szN a).sum=2*szL l
 | []=>by simp[szL]
 |x::r=>by simp only[szL,List.map_cons,List.sum_cons,BeL r];omega
theorem RF:∀l:List Sm,(l.map fun a=>2*szM a).sum=2*szB l
 | []=>by simp[szB]
 |x::r=>by simp only[szB,List.map_cons,List.sum_cons,RF r];omega
theorem I8(n:Nd):n.row.length=15:=by cases n;simp[Nd.row]
theorem Ri(s:Sm):s.row.length=34:=by cases s;simp[Sm.row,I8]
theorem M4{C:Ctx}{ds:List D}{cs:List Value}(h:RepL C ds cs)(o w:Nat){es:List D}(e:(ds.drop o).take w=es):RepL C es ((cs.drop o).take w):=by
 rw[<- e]
 exact (h.drop o).take w
theorem BgO{W : World}{hG : G0 W}{H : Type}{enc : TypeId×Value -> H}{m : Nat}(ih : ∀j, j<m -> ∀(n : Nd) (cs : List Value) (x : DataW H×List MemPlace), DataW.trod enc Tryz.prog W 0 (fun _=>true) true j 48 cs=some x -> RepL (Ew W hG) n.row cs -> 2*szN n<=Rows.uptoBulk x.1)
  (s:Sm) (cs:List Value) (x:DataW H×List MemPlace) (h:DataW.trod enc Tryz.prog W 0 (fun _=>true) true m 55 cs=some x) (hr:RepL (Ew W hG) s.row cs):2*szM s<=Rows.uptoBulk x.1:=by
 cases m with
 |zero=>simp[DataW.trod] at h
 |succ m =>
  obtain ⟨xs,hb,hf⟩:=MM Tryz.underlying55 h
  obtain ⟨y4,a4,b4⟩:=hf 4 _ rfl
  obtain ⟨y5,a5,b5⟩:=hf 5 _ rfl
  have c:Tryz.prog.cellsOf 48=15:=by kernel_rfl
  have b4:DataW.trod enc Tryz.prog W 0 (fun _=>true) true m 48 ((cs.drop 4).take (Tryz.prog.cellsOf 48))=some y4:=b4
  have b5:DataW.trod enc Tryz.prog W 0 (fun _=>true) true m 48 ((cs.drop 19).take (Tryz.prog.cellsOf 48))=some y5:=b5
  rw[c] at b4 b5
  cases s with
  |mk kd at_ nm sl te nd =>
   have r4:RepL (Ew W hG) te.row ((cs.drop 4).take 15):=M4 hr 4 15 (by
    simp only[Sm.row,List.drop_succ_cons,List.drop_zero]
    exact List.take_left' (I8 te))
   have r5:RepL (Ew W hG) nd.row ((cs.drop 19).take 15):=M4 hr 19 15 (by
    simp only[Sm.row,List.drop_succ_cons]
    rw[List.drop_left' (I8 te)]
    exact List.take_of_length_le (by rw[I8];omega))
   have k4:=ih m (by omega) te _ _ b4 r4
   have k5:=ih m (by omega) nd _ _ b5 r5
   have:=Rx (i:=3) (j:=4) a4 a5 (by omega)
   rw[hb,szM]
   split<;>omega
theorem BhM{W:World}{hG:G0 W}{H:Type}{enc:TypeId×Value->H}(m:Nat):∀(n:Nd) (cs:List Value) (x:DataW H×List MemPlace),DataW.trod enc Tryz.prog W 0 (fun _=>true) true m 48 cs=some x->RepL (Ew W hG) n.row cs->2*szN n<=Rows.uptoBulk x.1:=by
 induction m using Nat.strongRecOn with
 |_ m ih =>
  intro n cs x h hr
  cases m with
  |zero=>simp[DataW.trod] at h
  |succ m =>
   obtain ⟨xs,hb,hf⟩:=MM Tryz.underlying48 h
   obtain ⟨y7,a7,b7⟩:=hf 7 _ rfl
   obtain ⟨y8,a8,b8⟩:=hf 8 _ rfl
   have c7:Tryz.prog.cellsOf 46=1:=by kernel_rfl
   have c8:Tryz.prog.cellsOf 22=1:=by kernel_rfl
   have b7:DataW.trod enc Tryz.prog W 0 (fun _=>true) true m 46 ((cs.drop 10).take (Tryz.prog.cellsOf 46))=some y7:=b7
   have b8:DataW.trod enc Tryz.prog W 0 (fun _=>true) true m 22 ((cs.drop 11).take (Tryz.prog.cellsOf 22))=some y8:=b8
   rw[c7] at b7
   rw[c8] at b8
   cases n with
   |mk kd at_ cl tx pr op va ki bo de sl ss =>
    have r7:RepL (Ew W hG) [lsl 15 (ki.map Nd.row)] ((cs.drop 10).take 1):=M4 hr 10 1 (by rw[Nd.row,<- EL];rfl)
    have r8:RepL (Ew W hG) [lsl 34 (bo.map Sm.row)] ((cs.drop 11).take 1):=M4 hr 11 1 (by rw[Nd.row,<- Cc];rfl)
    obtain ⟨v7,e7,q7⟩:=Cq r7
    obtain ⟨v8,e8,q8⟩:=Cq r8
    rw[e7] at b7
    rw[e8] at b8
    cases m with
    |zero=>simp[DataW.trod] at b7
    |succ m =>
     have k7:=Tl (f:=fun a=>2*szN a) (w:=15) (g:=Nd.row) I8 Tryz.underlying46 (by kernel_rfl) ki (fun a _ cs x hx hr=>ih m (by omega) a cs x hx hr) b7 q7
     have k8:=Tl (f:=fun a=>2*szM a) (w:=34) (g:=Sm.row) Ri Tryz.underlying22 (by kernel_rfl) bo (fun a _ cs x hx hr=>BgO (fun j hj=>ih j (by omega)) a cs x hx hr) b8 q8
     rw[BeL] at k7
     rw[RF] at k8
     have:=Rx (i:=6) (j:=7) a7 a8 (by omega)
     rw[hb,szN]
     omega
end
end Go.Proofs.YtfbfnhbafjmnaaaGreat
