/- Functions of the given program and what each of them computes: lemmas towards the statement, their conditions stated with each of them. -/
import Derived.Test.YtfbfnhbafjmnaaaGreatS3
namespace Go.Proofs.YtfbfnhbafjmnaaaGreat
open Go Go.Ab
set_option maxRecDepth 100000
noncomputable section
def Bhe:D:=.sl 1 0 (fun _=>[]) .nil
def Bjv:List Int->D
 | []=>Bhe
 |z::l=>.sl 1 (l.length+1) (fun i=>((z::l).map fun z=>[D.int .i64 z]).getD i []) .full
def BfL(w:Nat):List (List D)->D
 | []=>Bhe
 |r::l=>.sl w (l.length+1) (fun i=>(r::l).getD i []) .full
def Bma:List Arr->D
 | []=>Bhe
 |a::l=>gsl 4 Arr.row (a::l)
mutual
def Nd.lit:Nd->List D
 |.mk kd at_ cl tx pr op va ki bo de sl ss=>[.int .i64 kd,.int .i64 at_,.int .i64 cl,.str tx,.int .i64 pr,.int .i64 op,.int .i64 va.k,Bjv va.sh,Bjv va.nu,Bma va.it,BfL 15 (Ib ki),BfL 34 (Gh bo),.int .i64 de,.int .i64 sl,.int .i64 ss]
def Sm.lit:Sm->List D
 |.mk kd at_ nm sl te nd=>.int .i64 kd::.int .i64 at_::.str nm::.int .i64 sl::(te.lit++nd.lit)
def Ib:List Nd->List (List D)
 | []=>[]
 |x::r=>x.lit::Ib r
def Gh:List Sm->List (List D)
 | []=>[]
 |x::r=>x.lit::Gh r
end
theorem BfR:∀l:List Int,wkD (Bjv l) (isl l .any)
 | []=>by simp[Bjv,Bhe,isl,wkD,Ba,BG]
 |z::l=>by
  simp only[Bjv,isl,wkD,Ba]
  refine⟨by simp,by simp,fun i hi=>?_,by simp[BG]⟩
  have hi:i<(z::l).length:=by simpa using hi
  have e:((z::l).map fun z=>[D.int .i64 z]).getD i []=[D.int .i64 ((z::l).getD i 0)]:=by
   rw[List.getD_eq_getElem?_getD,List.getElem?_map,List.getD_eq_getElem?_getD,List.getElem?_eq_getElem hi]
   rfl
  rw[e]
  exact Bc _
theorem BkQ:∀l:List Arr,wkD (Bma l) (gsl 4 Arr.row l)
 | []=>by simp[Bma,Bhe,gsl,wkD,Ba,BG,EI]
 |a::l=>Bd _
theorem BbP{w:Nat}:∀ {a b:List (List D)},a.length=b.length->(∀i,i<a.length->wkL (a.getD i []) (b.getD i []))->wkD (BfL w a) (lsl w b)
 | [],[],_,_=>by simp[BfL,Bhe,lsl,wkD,Ba,BG,EI]
 | [],_::_,h,_=>by simp at h
 |_::_,[],h,_=>by simp at h
 |x::a,y::b,h,h2=>by
  simp only[BfL,lsl,wkD,Ba]
  exact⟨by simp,by simpa using h,fun i hi=>h2 i (by simpa using hi),by simp[BG]⟩
theorem Bav:∀l:List Nd,(Ib l).length=l.length
 | []=>by simp only[Ib,List.length_nil]
 |x::r=>by simp only[Ib,List.length_cons,Bav r]
theorem Mx:∀l:List Sm,(Gh l).length=l.length
 | []=>by simp only[Gh,List.length_nil]
 |x::r=>by simp only[Gh,List.length_cons,Mx r]
mutual
theorem Bcn:∀n:Nd,wkL n.lit n.row
 |.mk kd at_ cl tx pr op va ki bo de sl ss=>by
  simp only[Nd.lit,Nd.row,wkL]
  refine⟨Bd _,Bd _,Bd _,Bd _,Bd _,Bd _,Bd _,BfR _,BfR _,BkQ _,BbP ?_ (BgE ki),BbP ?_ (Wx bo),Bd _,Bd _,Bd _,trivial⟩
  ·rw[Bav,G8,List.length_map]
  ·rw[Mx,CA,List.length_map]
theorem Bmy:∀s:Sm,wkL s.lit s.row
 |.mk kd at_ nm sl te nd=>by
  simp only[Sm.lit,Sm.row,wkL]
  exact⟨Bd _,Bd _,Bd _,Bd _,Tu (Bcn te) (Bcn nd)⟩
theorem BgE:∀(l:List Nd) (i:Nat),i<(Ib l).length->wkL ((Ib l).getD i []) ((Ii l).getD i [])
 | [],i,h=>by simp[Ib] at h
 |x::r,0,_=>by simp only[Ib,Ii,List.getD_cons_zero];exact Bcn x
 |x::r,i+1,h=>by
  simp only[Ib,Ii,List.getD_cons_succ]
  exact BgE r i (by simpa[Ib] using h)
theorem Wx:∀(l:List Sm) (i:Nat),i<(Gh l).length->wkL ((Gh l).getD i []) ((CV l).getD i [])
 | [],i,h=>by simp[Gh] at h
 |x::r,0,_=>by simp only[Gh,CV,List.getD_cons_zero];exact Bmy x
 |x::r,i+1,h=>by
  simp only[Gh,CV,List.getD_cons_succ]
  exact Wx r i (by simpa[Gh] using h)
end
def isR(b:Nd)(ds:List D)(ex:List D):Prop:=wkL ds (.agg b.row::ex)
def isP(l:List Sm)(ds:List D)(ex:List D):Prop:=wkL ds (.agg [lsl 34 (CV l)]::ex)
theorem Bk4(b:Nd)(ds:List D)(h:ds=[.agg b.lit]):isR b ds []:=by
 subst h
 simp only[isR,wkL,wkD]
 exact⟨Bcn b,trivial⟩
theorem BlV(l:List Sm):wkD (BfL 34 (Gh l)) (lsl 34 (CV l)):=BbP (by rw[Mx,CA,List.length_map]) (Wx l)
theorem BkD(l:List Sm)(ds:List D)(h:ds=[.agg [BfL 34 (Gh l)]]):isP l ds []:=by
 subst h
 simp only[isP,wkL,wkD]
 exact⟨⟨BlV l,trivial⟩,trivial⟩
theorem BiY(b:Nd)(ex:List D):wkL (.agg b.row::ex) (.agg b.row1::ex):=by
 simp only[wkL,wkD];exact⟨Bf0 b,Bc _⟩
theorem CD.isR{k:Nat}{n:Nd}{ds:List D}{d:D}(h:CD k [.agg n.row1] d)(hi:isR n ds []):CD k ds d:=CD.wk (CD.wk h (BiY n [])) hi
theorem Bbz(l:List Sm):wkD (lsl 34 (CV l)) (gsl 34 Sm.row l):=by rw[CA];exact BeR
theorem CD.isP{k:Nat}{l:List Sm}{ds:List D}{d:D}(h:CD k [.agg [gsl 34 Sm.row1 l]] d)(hi:isP l ds []):CD k ds d:=by
 refine CD.wk (CD.wk (CD.wk h (us:=[.agg [gsl 34 Sm.row1 l]]) ?_) (ds:=[.agg [lsl 34 (CV l)]]) (us:=[.agg [gsl 34 Sm.row l]]) ?_) hi
 ·simp only[wkL,wkD];exact⟨⟨O8 BfW,trivial⟩,trivial⟩
 ·simp only[wkL,wkD];exact⟨⟨Bbz l,trivial⟩,trivial⟩
def nmN(c:UInt8)(cl:Int):Nd:=.mk 2 0 cl [c] 0 0 (.mk 0 [] [] []) [] [] 0 0 0
def zN:Nd:=.mk 0 0 0 [] 0 0 (.mk 0 [] [] []) [] [] 0 0 0
def oN:Nd:=.mk 1 0 1 [] 0 0 (.mk 1 [] [1] []) [] [] 0 0 0
def lN:Nd:=.mk 4 0 1 [] 0 0 (.mk 0 [] [] []) [nmN 102 2,nmN 97 1] [] 0 0 0
def U1:List Sm:=[.mk 2 0 [102] 0 zN (.mk 10 0 2 [] 0 0 (.mk 0 [] [] []) [] [.mk 1 0 [] 0 zN (nmN 97 1)] 0 0 0),.mk 1 0 [] 0 zN lN]
def OM:List Sm:=.mk 2 0 [97] 0 zN oN::U1
def Wb:List Sm:=[.mk 2 0 [97] 0 zN oN,.mk 2 0 [102] 1 zN (.mk 10 0 2 [] 0 0 (.mk 0 [] [] []) [] [.mk 1 0 [] 0 zN (.mk 2 0 1 [97] 0 0 (.mk 0 [] [] []) [] [] 1 0 0)] 0 0 0),.mk 1 0 [] 0 zN (.mk 4 0 1 [] 0 0 (.mk 0 [] [] []) [.mk 2 0 2 [102] 0 0 (.mk 0 [] [] []) [] [] 0 1 0,.mk 2 0 1 [97] 0 0 (.mk 0 [] [] []) [] [] 0 0 0] [] 0 0 0)]
theorem Be4:Bw OM=0:=by decide +kernel
theorem Wl:rvP OM=.ok (Wb,[([97],1),([102],2)]):=by
 unfold rvP
 rw[if_neg (by simp[Be4])]
 rfl
theorem Bes:Bw U1=0:=by decide +kernel
theorem BkF:rvP U1=.error (28,0,[97]):=by
 unfold rvP
 rw[if_neg (by simp[Bes])]
 rfl
theorem Bbd:Bw []=0:=by decide +kernel
theorem BmG:pgD OM=.tup [unD Wb 2,CY (0,0,[])]:=by
 unfold pgD pgB pgN pgF
 rw[Wl]
 rfl
theorem Bmt:pgD U1=.tup [unD [] 0,CY (28,0,[97])]:=by
 unfold pgD pgB pgN pgF
 rw[BkF]
 rfl
theorem BiQ:pgB OM=Wb:=by unfold pgB;rw[Wl]
theorem BmI:pgN OM=2:=by unfold pgN;rw[Wl];rfl
theorem Bmc:(pgF OM).1=0:=by unfold pgF;rw[Wl]
theorem BkV:rtU Wb 2=0:=by
 obtain ⟨h1,h2,h3,h4,_⟩:=MS Bmc
 rw[BiQ] at h1 h2 h3 h4
 rw[BmI] at h3
 unfold rtU OL
 rw[if_neg (by simp[h1]),h4,if_neg (by simp),h2,h3,I7,if_pos rfl]
theorem Bmh:rtU [] 1=11:=by
 have h:rvP []=.ok ([],[]):=by
  unfold rvP
  rw[if_neg (by simp[Bbd])]
  rfl
 unfold rtU OL pgF pgN
 rw[if_neg (by simp[Bbd]),h]
 simp
theorem ME:okS U1:=by
 refine⟨by decide,fun s hs=>?_,fun s hs=>?_⟩
 ·rcases List.mem_cons.1 hs with rfl | hs
  ·simp[Sm.ok,zN,nmN,Nd.ok,Arr.ok,okL,IE,GM,Cs,maxLen]
  ·rw[List.mem_singleton.1 hs]
   simp[Sm.ok,zN,lN,nmN,Nd.ok,Arr.ok,okL,IE,GM,Cs,maxLen]
 ·rcases List.mem_cons.1 hs with rfl | hs
  ·simp[Sm.sm,zN,nmN,Nd.sm,Arr.sm,smL,IF,GL,BX]
  ·rw[List.mem_singleton.1 hs]
   simp[Sm.sm,zN,lN,nmN,Nd.sm,Arr.sm,smL,IF,GL,BX]
theorem T4:okS OM:=by
 refine⟨by decide,fun s hs=>?_,fun s hs=>?_⟩
 ·rcases List.mem_cons.1 hs with rfl | hs
  ·simp[Sm.ok,zN,oN,Nd.ok,Arr.ok,okL,IE,GM,Cs,maxLen]
  ·exact ME.2.1 s hs
 ·rcases List.mem_cons.1 hs with rfl | hs
  ·simp[Sm.sm,zN,oN,Nd.sm,Arr.sm,smL,IF,GL,BX]
  ·exact ME.2.2 s hs
theorem Bg7:okS Wb:=by rw[<- BiQ];exact (Ur T4).1
theorem Bmp(l:List Sm){n:Nat}{f:Nat->List D}{m:Ab.Mode}(hn:n=l.length)(hm:BG m .any)(h:∀i,i<n->f i=(Gh l).getD i []):isP l [.agg [.sl 34 n f m]] []:=by
 subst hn
 unfold isP
 simp only[wkL,lsl,wkD,Ba]
 refine⟨⟨⟨by simp,by rw[CA,List.length_map],fun i hi=>?_,hm⟩,trivial⟩,trivial⟩
 rw[h i hi]
 exact Wx l i (by rw[Mx];exact hi)
def BdB:Con:=fun k ds S=>match k with
 |8=>match ds with
  | [.agg [.sl _ n _ _]]=>match Nat.beq n 3 with
   |true=>some (pA ds S (.tup [unD Wb 2,CY (0,0,[])]) (isP OM ds []))
   |false=>some (pA ds S (.tup [unD [] 0,CY (28,0,[97])]) (isP U1 ds []))
  |_=>none
 |16=>some (pA ds S (ssl [[97],[102]] .any) (isR lN ds []))
 |13=>match ds with
  | [.agg [.sl _ n _ _,_]]=>match Nat.beq n 3 with
   |true=>some (pA ds S (.int .i64 0) (wkL ds [unD Wb 2]))
   |false=>some (pA ds S (.int .i64 11) (wkL ds [unD [] 1]))
  |_=>none
 |_=>none
theorem Bc8(hF:CD 16 [.agg lN.row1] (ssl [[97],[102]] .any)):ConOk Tryz.prog BdB:=by
 intro k ds S A hh
 unfold BdB at hh
 split at hh
 ·split at hh
  ·split at hh
   ·injection hh with hh;subst hh
    have:=Bdz OM T4.1 T4.2.1 T4.2.2
    rw[BmG] at this
    exact Bm fun e=>CD.at_ (CD.isP this e) _
   ·injection hh with hh;subst hh
    have:=Bdz U1 ME.1 ME.2.1 ME.2.2
    rw[Bmt] at this
    exact Bm fun e=>CD.at_ (CD.isP this e) _
  ·cases hh
 ·injection hh with hh;subst hh
  exact Bm fun e=>CD.at_ (CD.isR hF e) _
 ·split at hh
  ·split at hh
   ·injection hh with hh;subst hh
    have:=Bf8 Wb 2 Bg7
    rw[BkV] at this
    exact Bm fun e=>CD.at_ (CD.wk this e) _
   ·injection hh with hh;subst hh
    have:=Bf8 [] 1 ⟨by simp,by simp,by simp⟩
    rw[Bmh] at this
    exact Bm fun e=>CD.at_ (CD.wk this e) _
  ·cases hh
 ·cases hh
noncomputable def Erk:Senv:={ EC BdB 141 5 [6,7,54] (fun id=>match id with | 4=>([0,1,2,3,4,5,6,7,8,9,10,11,12,13,14,15,16,17,18,19,20],[17,18,19,20]) | _=>([],[])) with
 mg:=fun _=>2
 inl:=Tg { E0 BdB 0 0 [] (fun _=>([],[])) with auto:=true } (EP IO) 9 }
def KS(a:Nat):Prop:=SM a/\True
def Yg:Arr:=DA
def Yh:Nd:=Nd.mk Z0 Z0 Z0 [] Z0 Z0 Yg [] [] Z0 Z0 Z0
def QCB:Sm:=Sm.mk (2:Int) Z0 [(97:UInt8)] Z0 Yh (Nd.mk Z1 Z0 Z1 [] Z0 Z0 (Arr.mk Z1 [] [Z1] []) [] [] Z0 Z0 Z0)
def QCC:Nd:=Nd.mk (2:Int) Z0 Z1 [(97:UInt8)] Z0 Z0 Yg [] [] Z0 Z0 Z0
def QCD:List Nd:=[QCC]
def QCE:Nd:=Nd.mk (4:Int) Z0 Z1 [] Z0 Z0 Yg (Nd.mk (2:Int) Z0 (2:Int) [(102:UInt8)] Z0 Z0 Yg [] [] Z0 Z0 Z0::QCD) [] Z0 Z0 Z0
def QCF:List Sm:=[Sm.mk (2:Int) Z0 [(102:UInt8)] Z0 Yh (Nd.mk (10:Int) Z0 (2:Int) [] Z0 Z0 Yg [] [Sm.mk Z1 Z0 [] Z0 Yh QCC] Z0 Z0 Z0),Sm.mk Z1 Z0 [] Z0 Yh QCE]
def Qg:D:=ZI Z0
def HN:D:=D.str []
def Qs:D:=D.sl N1 N0 (fun _x=>[]) Mode.nil
def QCG:List D:=[Qg,Qg,Qg]
def QCH:List D:=Qs::QCG
def QCI:List D:=Qs::Qs::QCH
def QCJ:List D:=Qg::Qg::Qg::Qs::Qs::QCI
def QCK:List D:=ZI 2::Qg::ZI Z1::D.str [97]::QCJ
def QCL:List D:=ZI 4::Qg::ZI Z1::HN::Qg::Qg::Qg::Qs::Qs::Qs::D.sl 15 N2 (fun i=>List.getD [ZI 2::Qg::ZI 2::D.str [102]::QCJ,QCK] i []) Mode.full::QCH
def QCM:List (List D):=[ZI 2::Qg::D.str [97]::Qg::Qg::Qg::Qg::HN::Qg::Qg::Qg::Qs::Qs::Qs::Qs::Qs::Qg::Qg::Qg::ZI Z1::Qg::ZI Z1::HN::Qg::Qg::ZI Z1::Qs::D.sl N1 N1 (fun i=>List.getD [[ZI Z1]] i []) Mode.full::QCI,ZI 2::Qg::D.str [102]::Qg::Qg::Qg::Qg::HN::Qg::Qg::Qg::Qs::Qs::Qs::Qs::Qs::Qg::Qg::Qg::ZI 10::Qg::ZI 2::HN::Qg::Qg::Qg::Qs::Qs::Qs::Qs::D.sl 34 N1 (fun i=>List.getD [ZI Z1::Qg::HN::Qg::Qg::Qg::Qg::HN::Qg::Qg::Qg::Qs::Qs::Qs::Qs::Qs::Qg::Qg::Qg::QCK] i []) Mode.full::QCG,ZI Z1::Qg::HN::Qg::Qg::Qg::Qg::HN::Qg::Qg::Qg::Qs::Qs::Qs::Qs::Qs::Qg::Qg::Qg::QCL]
def Qs7(a b c d e f g h k l:Nat):Prop:=a≠b/\c≠b/\d≠b/\e≠b/\f≠b/\g≠b/\h≠b/\k≠b/\l≠b/\True
def Qs8:Sm:=Sm.mk Z0 Z0 [] Z0 Yh Yh
def Qc8(a:Nat):Sm:=List.getD [QCB,Sm.mk (2:Int) Z0 [(102:UInt8)] Z1 Yh (Nd.mk (10:Int) Z0 (2:Int) [] Z0 Z0 Yg [] [Sm.mk Z1 Z0 [] Z0 Yh (Nd.mk (2:Int) Z0 Z1 [(97:UInt8)] Z0 Z0 Yg [] [] Z1 Z0 Z0)] Z0 Z0 Z0),Sm.mk Z1 Z0 [] Z0 Yh (Nd.mk (4:Int) Z0 Z1 [] Z0 Z0 Yg (Nd.mk (2:Int) Z0 (2:Int) [(102:UInt8)] Z0 Z0 Yg [] [] Z0 Z1 Z0::QCD) [] Z0 Z0 Z0)] a Qs8
def QCN(a:Nat):Int:=Sm.kd (Qc8 a)
def QCO(a:Nat):Int:=Sm.at_ (Qc8 a)
def QCP(a:Nat):List UInt8:=Sm.nm (Qc8 a)
def QCQ(a:Nat):Int:=Sm.sl (Qc8 a)
def V3(a:Nat):Nd:=Sm.te (Qc8 a)
def QCR(a:Nat):Int:=Nd.kd (V3 a)
def QCS(a:Nat):Int:=Nd.at_ (V3 a)
def QCT(a:Nat):Int:=Nd.cl (V3 a)
def QCU(a:Nat):List UInt8:=Nd.tx (V3 a)
def QCV(a:Nat):Int:=Nd.pr (V3 a)
def QCW(a:Nat):Int:=Nd.op (V3 a)
def Qow(a:Nat):Arr:=Nd.va (V3 a)
def QCX(a:Nat):Int:=Arr.k (Qow a)
def QCY(a:Nat):List Int:=Arr.sh (Qow a)
def Qs9(a:Nat):Nat:=LN (QCY a)
def QCZ(a b:Nat):Int:=GI (QCY a) b
def QC0(a:Nat):List Int:=Arr.nu (Qow a)
def Qta(a:Nat):Nat:=LN (QC0 a)
def QC1(a b:Nat):Int:=GI (QC0 a) b
def QC2(a:Nat):List Arr:=Arr.it (Qow a)
def Qtb(a:Nat):Nat:=LN (QC2 a)
def Qtc(a b:Nat):List D:=Arr.row (List.getD (QC2 a) b Yg)
def QC3(a:Nat):List Nd:=Nd.ki (V3 a)
def Qtd(a:Nat):Nat:=LN (QC3 a)
def Qte(a b:Nat):List D:=Nd.row (List.getD (QC3 a) b Yh)
def QC4(a:Nat):List Sm:=Nd.bo (V3 a)
def Qtf(a:Nat):Nat:=LN (QC4 a)
def Qtg(a b:Nat):List D:=Sm.row (List.getD (QC4 a) b Qs8)
def QC5(a:Nat):Int:=Nd.de (V3 a)
def QC6(a:Nat):Int:=Nd.sl (V3 a)
def QC7(a:Nat):Int:=Nd.ss (V3 a)
def V4(a:Nat):Nd:=Sm.nd (Qc8 a)
def QC8(a:Nat):Int:=Nd.kd (V4 a)
def QC9(a:Nat):Int:=Nd.at_ (V4 a)
def QDa(a:Nat):Int:=Nd.cl (V4 a)
def QDb(a:Nat):List UInt8:=Nd.tx (V4 a)
def QDc(a:Nat):Int:=Nd.pr (V4 a)
def QDd(a:Nat):Int:=Nd.op (V4 a)
def Qox(a:Nat):Arr:=Nd.va (V4 a)
def QDe(a:Nat):Int:=Arr.k (Qox a)
def QDf(a:Nat):List Int:=Arr.sh (Qox a)
def Qth(a:Nat):Nat:=LN (QDf a)
def QDg(a b:Nat):Int:=GI (QDf a) b
def QDh(a:Nat):List Int:=Arr.nu (Qox a)
def Qti(a:Nat):Nat:=LN (QDh a)
def QDi(a b:Nat):Int:=GI (QDh a) b
def QDj(a:Nat):List Arr:=Arr.it (Qox a)
def Qtj(a:Nat):Nat:=LN (QDj a)
def Qtk(a b:Nat):List D:=Arr.row (List.getD (QDj a) b Yg)
def QDk(a:Nat):List Nd:=Nd.ki (V4 a)
def Qtl(a:Nat):Nat:=LN (QDk a)
def Qtm(a b:Nat):List D:=Nd.row (List.getD (QDk a) b Yh)
def QDl(a:Nat):List Sm:=Nd.bo (V4 a)
def Qtn(a:Nat):Nat:=LN (QDl a)
def Qto(a b:Nat):List D:=Sm.row (List.getD (QDl a) b Qs8)
def QDm(a:Nat):Int:=Nd.de (V4 a)
def QDn(a:Nat):Int:=Nd.sl (V4 a)
def QDo(a:Nat):Int:=Nd.ss (V4 a)
def QHo:D:=D.sl 34 (3:Nat) (fun i=>[ZI (QCN i),ZI (QCO i),D.str (QCP i),ZI (QCQ i),ZI (QCR i),ZI (QCS i),ZI (QCT i),D.str (QCU i),ZI (QCV i),ZI (QCW i),ZI (QCX i),D.sl N1 (Qs9 i) (fun i_1=>[ZI (QCZ i i_1)]) Mode.any,D.sl N1 (Qta i) (fun i_1=>[ZI (QC1 i i_1)]) Mode.any,D.sl N4 (Qtb i) (fun i_1=>Qtc i i_1) Mode.any,D.sl 15 (Qtd i) (fun i_1=>Qte i i_1) Mode.any,D.sl 34 (Qtf i) (fun i_1=>Qtg i i_1) Mode.any,ZI (QC5 i),ZI (QC6 i),ZI (QC7 i),ZI (QC8 i),ZI (QC9 i),ZI (QDa i),D.str (QDb i),ZI (QDc i),ZI (QDd i),ZI (QDe i),D.sl N1 (Qth i) (fun i_1=>[ZI (QDg i i_1)]) Mode.any,D.sl N1 (Qti i) (fun i_1=>[ZI (QDi i i_1)]) Mode.any,D.sl N4 (Qtj i) (fun i_1=>Qtk i i_1) Mode.any,D.sl 15 (Qtl i) (fun i_1=>Qtm i i_1) Mode.any,D.sl 34 (Qtn i) (fun i_1=>Qto i i_1) Mode.any,ZI (QDm i),ZI (QDn i),ZI (QDo i)]) Mode.any
def Yp(a:Nat):Prop:=SM a/\SM QHo
def Qtp(a b c d e f g h k l m:Nat):Prop:=a≠b/\Qs7 c b d e f g h k l m
def Qt(a b c d e f g h k l m n:Nat):Prop:=a≠b/\Qtp c b d e f g h k l m n
def QDp:Prop:=isP QCF [D.agg [D.sl 34 N2 (fun i=>List.getD QCM (N1+i) []) Mode.any]] []
def QDq(a b c d e f g h:Nat):Prop:=SM a/\SM b/\SM c/\SM a/\SM d/\KS d/\∃(_x:Unit),isR QCE [D.agg QCL] []/\∀(_y:Unit),True->SM e/\SM e/\SM f/\SM f/\SM g/\SM g/\SM h/\∃(_x:Unit),(((SM (3:Nat)/\(∀(i:Nat),i<3->SM (QCN i)/\SM (QCO i)/\SM (QCP i)/\SM (QCQ i)/\SM (QCR i)/\SM (QCS i)/\SM (QCT i)/\SM (QCU i)/\SM (QCV i)/\SM (QCW i)/\SM (QCX i)/\(SM (Qs9 i)/\(∀(i_1:Nat),i_1<Qs9 i->SM (QCZ i i_1)/\True)/\True)/\(SM (Qta i)/\(∀(i_1:Nat),i_1<Qta i->SM (QC1 i i_1)/\True)/\True)/\(SM (Qtb i)/\(∀(i_1:Nat),i_1<Qtb i->wkL (Qtc i i_1) (Qtc i i_1))/\True)/\(SM (Qtd i)/\(∀(i_1:Nat),i_1<Qtd i->wkL (Qte i i_1) (Qte i i_1))/\True)/\(SM (Qtf i)/\(∀(i_1:Nat),i_1<Qtf i->wkL (Qtg i i_1) (Qtg i i_1))/\True)/\SM (QC5 i)/\SM (QC6 i)/\SM (QC7 i)/\SM (QC8 i)/\SM (QC9 i)/\SM (QDa i)/\SM (QDb i)/\SM (QDc i)/\SM (QDd i)/\SM (QDe i)/\(SM (Qth i)/\(∀(i_1:Nat),i_1<Qth i->SM (QDg i i_1)/\True)/\True)/\(SM (Qti i)/\(∀(i_1:Nat),i_1<Qti i->SM (QDi i i_1)/\True)/\True)/\(SM (Qtj i)/\(∀(i_1:Nat),i_1<Qtj i->wkL (Qtk i i_1) (Qtk i i_1))/\True)/\(SM (Qtl i)/\(∀(i_1:Nat),i_1<Qtl i->wkL (Qtm i i_1) (Qtm i i_1))/\True)/\(SM (Qtn i)/\(∀(i_1:Nat),i_1<Qtn i->wkL (Qto i i_1) (Qto i i_1))/\True)/\SM (QDm i)/\SM (QDn i)/\SM (QDo i)/\True)/\True)/\SM (2:Int)/\True)/\True)/\∀(_y:Unit),True->∃(_x:Unit),(((SM N0/\(∀(i:Nat),i<N0->False)/\True)/\SM Z1/\True)/\True)/\∀(_y:Unit),True->True/\∃(_y:Unit),True/\SM true/\True/\True
theorem Bm0(hF:CD 16 [.agg lN.row1] (ssl [[97],[102]] .any)):CD 12 [] (.bool true):=by
 refine Bh (A:=sC _ _) (x:=()) (E:=Erk) (O5 (Bc8 hF) (GT (E:={ E0 BdB 0 0 [] (fun _=>([],[])) with auto:=true }) It (Bc8 hF) mix Ew Ic 9) rfl) Tryz.func12 rfl (by kernel_rfl) rfl (by simp[sC,Erk,EC,E0]) ?_
 refine Bl (T :=
  ∀(x:Nat),True->∀(x_1:Nat),x≠x_1/\True->SM x_1/\∀(x_2:Nat),x_1≠x_2/\x≠x_2/\True->SM x_2/\KS x_2/\∀(x_3:Nat),x_2≠x_3/\x_1≠x_3/\x≠x_3/\True->SM x_3/\∀(x_4:Nat),x_3≠x_4/\x_2≠x_4/\x_1≠x_4/\x≠x_4/\True->SM x_4/\KS x_4/\∀(x_5:Nat),x_4≠x_5/\x_3≠x_5/\x_2≠x_5/\x_1≠x_5/\x≠x_5/\True->SM x_5/\KS x_5/\∀(x_6:Nat),x_5≠x_6/\x_4≠x_6/\x_3≠x_6/\x_2≠x_6/\x_1≠x_6/\x≠x_6/\True->SM x_6/\SM x_1/\SM x_3/\SM x_6/\SM x/\KS x/\∃(x_7:Unit),isP (QCB::QCF) [D.agg [D.sl 34 (3:Nat) (fun i=>List.getD QCM i []) Mode.full]] []/\∀(y:Unit),True->∀(x_8:Nat),x_6≠x_8/\x_5≠x_8/\x_4≠x_8/\x_3≠x_8/\x_2≠x_8/\x_1≠x_8/\x≠x_8/\True->∀(x_9:Nat),x_8≠x_9/\x_6≠x_9/\x_5≠x_9/\x_4≠x_9/\x_3≠x_9/\x_2≠x_9/\x_1≠x_9/\x≠x_9/\True->SM x_8/\SM x_9/\SM x_9/\SM x_8/\SM x_8/\SM x_8/\SM x_8/\SM x_8/\SM x_8/\SM x_8/\(∀(x_10:Nat),Qs7 x_9 x_10 x_8 x_6 x_5 x_4 x_3 x_2 x_1 x->Yp x_8/\Yp x_8/\∀(x_11:Nat),Qtp x_10 x_11 x_9 x_8 x_6 x_5 x_4 x_3 x_2 x_1 x->Yp x_8/\Yp x_8/\SM x_10/\Yp x_8/\SM x_11/\∀(x_12:Nat),Qt x_11 x_12 x_10 x_9 x_8 x_6 x_5 x_4 x_3 x_2 x_1 x->∀(x_13:Nat),x_12≠x_13/\Qt x_11 x_13 x_10 x_9 x_8 x_6 x_5 x_4 x_3 x_2 x_1 x->SM x_13/\∀(x_14:Nat),x_13≠x_14/\x_12≠x_14/\Qt x_11 x_14 x_10 x_9 x_8 x_6 x_5 x_4 x_3 x_2 x_1 x->SM x_14/\KS x_14/\∀(x_15:Nat),x_14≠x_15/\x_13≠x_15/\x_12≠x_15/\Qt x_11 x_15 x_10 x_9 x_8 x_6 x_5 x_4 x_3 x_2 x_1 x->SM x_15/\∀(x_16:Nat),x_15≠x_16/\x_14≠x_16/\x_13≠x_16/\x_12≠x_16/\Qt x_11 x_16 x_10 x_9 x_8 x_6 x_5 x_4 x_3 x_2 x_1 x->SM x_16/\KS x_16/\∀(x_17:Nat),x_16≠x_17/\x_15≠x_17/\x_14≠x_17/\x_13≠x_17/\x_12≠x_17/\Qt x_11 x_17 x_10 x_9 x_8 x_6 x_5 x_4 x_3 x_2 x_1 x->SM x_17/\KS x_17/\∀(x_18:Nat),x_17≠x_18/\x_16≠x_18/\x_15≠x_18/\x_14≠x_18/\x_13≠x_18/\x_12≠x_18/\Qt x_11 x_18 x_10 x_9 x_8 x_6 x_5 x_4 x_3 x_2 x_1 x->SM x_18/\SM x_13/\SM x_15/\SM x_18/\SM x_12/\KS x_12/\∃(x_19:Unit),QDp/\∀(y:Unit),True->∀(x_20:Nat),x_18≠x_20/\x_17≠x_20/\x_16≠x_20/\x_15≠x_20/\x_14≠x_20/\x_13≠x_20/\x_12≠x_20/\Qt x_11 x_20 x_10 x_9 x_8 x_6 x_5 x_4 x_3 x_2 x_1 x->∀(x_21:Nat),x_20≠x_21/\x_18≠x_21/\x_17≠x_21/\x_16≠x_21/\x_15≠x_21/\x_14≠x_21/\x_13≠x_21/\x_12≠x_21/\Qt x_11 x_21 x_10 x_9 x_8 x_6 x_5 x_4 x_3 x_2 x_1 x->SM x_20/\SM x_21/\∀(x_22:Nat),x_21≠x_22/\x_20≠x_22/\x_18≠x_22/\x_17≠x_22/\x_16≠x_22/\x_15≠x_22/\x_14≠x_22/\x_13≠x_22/\x_12≠x_22/\Qt x_11 x_22 x_10 x_9 x_8 x_6 x_5 x_4 x_3 x_2 x_1 x->∀(x_23:Nat),x_22≠x_23/\x_21≠x_23/\x_20≠x_23/\x_18≠x_23/\x_17≠x_23/\x_16≠x_23/\x_15≠x_23/\x_14≠x_23/\x_13≠x_23/\x_12≠x_23/\Qt x_11 x_23 x_10 x_9 x_8 x_6 x_5 x_4 x_3 x_2 x_1 x->SM x_23/\∀(x_24:Nat),x_23≠x_24/\x_22≠x_24/\x_21≠x_24/\x_20≠x_24/\x_18≠x_24/\x_17≠x_24/\x_16≠x_24/\x_15≠x_24/\x_14≠x_24/\x_13≠x_24/\x_12≠x_24/\Qt x_11 x_24 x_10 x_9 x_8 x_6 x_5 x_4 x_3 x_2 x_1 x->SM x_24/\KS x_24/\∀(x_25:Nat),x_24≠x_25/\x_23≠x_25/\x_22≠x_25/\x_21≠x_25/\x_20≠x_25/\x_18≠x_25/\x_17≠x_25/\x_16≠x_25/\x_15≠x_25/\x_14≠x_25/\x_13≠x_25/\x_12≠x_25/\Qt x_11 x_25 x_10 x_9 x_8 x_6 x_5 x_4 x_3 x_2 x_1 x->SM x_25/\∀(x_26:Nat),x_25≠x_26/\x_24≠x_26/\x_23≠x_26/\x_22≠x_26/\x_21≠x_26/\x_20≠x_26/\x_18≠x_26/\x_17≠x_26/\x_16≠x_26/\x_15≠x_26/\x_14≠x_26/\x_13≠x_26/\x_12≠x_26/\Qt x_11 x_26 x_10 x_9 x_8 x_6 x_5 x_4 x_3 x_2 x_1 x->SM x_26/\KS x_26/\∀(x_27:Nat),x_26≠x_27/\x_25≠x_27/\x_24≠x_27/\x_23≠x_27/\x_22≠x_27/\x_21≠x_27/\x_20≠x_27/\x_18≠x_27/\x_17≠x_27/\x_16≠x_27/\x_15≠x_27/\x_14≠x_27/\x_13≠x_27/\x_12≠x_27/\Qt x_11 x_27 x_10 x_9 x_8 x_6 x_5 x_4 x_3 x_2 x_1 x->SM x_27/\KS x_27/\∀(x_28:Nat),x_27≠x_28/\x_26≠x_28/\x_25≠x_28/\x_24≠x_28/\x_23≠x_28/\x_22≠x_28/\x_21≠x_28/\x_20≠x_28/\x_18≠x_28/\x_17≠x_28/\x_16≠x_28/\x_15≠x_28/\x_14≠x_28/\x_13≠x_28/\x_12≠x_28/\Qt x_11 x_28 x_10 x_9 x_8 x_6 x_5 x_4 x_3 x_2 x_1 x->QDq x_28 x_23 x_25 x_22 x_10 x_11 x_21 x_8)/\∀(x_10:Nat),Qs7 x_9 x_10 x_8 x_6 x_5 x_4 x_3 x_2 x_1 x->Yp x_8/\Yp x_8/\∀(x_11:Nat),Qtp x_10 x_11 x_9 x_8 x_6 x_5 x_4 x_3 x_2 x_1 x->Yp x_8/\Yp x_8/\SM x_11/\Yp x_8/\SM x_10/\∀(x_12:Nat),Qt x_11 x_12 x_10 x_9 x_8 x_6 x_5 x_4 x_3 x_2 x_1 x->∀(x_13:Nat),x_12≠x_13/\Qt x_11 x_13 x_10 x_9 x_8 x_6 x_5 x_4 x_3 x_2 x_1 x->SM x_13/\∀(x_14:Nat),x_13≠x_14/\x_12≠x_14/\Qt x_11 x_14 x_10 x_9 x_8 x_6 x_5 x_4 x_3 x_2 x_1 x->SM x_14/\KS x_14/\∀(x_15:Nat),x_14≠x_15/\x_13≠x_15/\x_12≠x_15/\Qt x_11 x_15 x_10 x_9 x_8 x_6 x_5 x_4 x_3 x_2 x_1 x->SM x_15/\∀(x_16:Nat),x_15≠x_16/\x_14≠x_16/\x_13≠x_16/\x_12≠x_16/\Qt x_11 x_16 x_10 x_9 x_8 x_6 x_5 x_4 x_3 x_2 x_1 x->SM x_16/\KS x_16/\∀(x_17:Nat),x_16≠x_17/\x_15≠x_17/\x_14≠x_17/\x_13≠x_17/\x_12≠x_17/\Qt x_11 x_17 x_10 x_9 x_8 x_6 x_5 x_4 x_3 x_2 x_1 x->SM x_17/\KS x_17/\∀(x_18:Nat),x_17≠x_18/\x_16≠x_18/\x_15≠x_18/\x_14≠x_18/\x_13≠x_18/\x_12≠x_18/\Qt x_11 x_18 x_10 x_9 x_8 x_6 x_5 x_4 x_3 x_2 x_1 x->SM x_18/\SM x_13/\SM x_15/\SM x_18/\SM x_12/\KS x_12/\∃(x_19:Unit),QDp/\∀(y:Unit),True->∀(x_20:Nat),x_18≠x_20/\x_17≠x_20/\x_16≠x_20/\x_15≠x_20/\x_14≠x_20/\x_13≠x_20/\x_12≠x_20/\Qt x_11 x_20 x_10 x_9 x_8 x_6 x_5 x_4 x_3 x_2 x_1 x->∀(x_21:Nat),x_20≠x_21/\x_18≠x_21/\x_17≠x_21/\x_16≠x_21/\x_15≠x_21/\x_14≠x_21/\x_13≠x_21/\x_12≠x_21/\Qt x_11 x_21 x_10 x_9 x_8 x_6 x_5 x_4 x_3 x_2 x_1 x->SM x_20/\SM x_21/\∀(x_22:Nat),x_21≠x_22/\x_20≠x_22/\x_18≠x_22/\x_17≠x_22/\x_16≠x_22/\x_15≠x_22/\x_14≠x_22/\x_13≠x_22/\x_12≠x_22/\Qt x_11 x_22 x_10 x_9 x_8 x_6 x_5 x_4 x_3 x_2 x_1 x->∀(x_23:Nat),x_22≠x_23/\x_21≠x_23/\x_20≠x_23/\x_18≠x_23/\x_17≠x_23/\x_16≠x_23/\x_15≠x_23/\x_14≠x_23/\x_13≠x_23/\x_12≠x_23/\Qt x_11 x_23 x_10 x_9 x_8 x_6 x_5 x_4 x_3 x_2 x_1 x->SM x_23/\∀(x_24:Nat),x_23≠x_24/\x_22≠x_24/\x_21≠x_24/\x_20≠x_24/\x_18≠x_24/\x_17≠x_24/\x_16≠x_24/\x_15≠x_24/\x_14≠x_24/\x_13≠x_24/\x_12≠x_24/\Qt x_11 x_24 x_10 x_9 x_8 x_6 x_5 x_4 x_3 x_2 x_1 x->SM x_24/\KS x_24/\∀(x_25:Nat),x_24≠x_25/\x_23≠x_25/\x_22≠x_25/\x_21≠x_25/\x_20≠x_25/\x_18≠x_25/\x_17≠x_25/\x_16≠x_25/\x_15≠x_25/\x_14≠x_25/\x_13≠x_25/\x_12≠x_25/\Qt x_11 x_25 x_10 x_9 x_8 x_6 x_5 x_4 x_3 x_2 x_1 x->SM x_25/\∀(x_26:Nat),x_25≠x_26/\x_24≠x_26/\x_23≠x_26/\x_22≠x_26/\x_21≠x_26/\x_20≠x_26/\x_18≠x_26/\x_17≠x_26/\x_16≠x_26/\x_15≠x_26/\x_14≠x_26/\x_13≠x_26/\x_12≠x_26/\Qt x_11 x_26 x_10 x_9 x_8 x_6 x_5 x_4 x_3 x_2 x_1 x->SM x_26/\KS x_26/\∀(x_27:Nat),x_26≠x_27/\x_25≠x_27/\x_24≠x_27/\x_23≠x_27/\x_22≠x_27/\x_21≠x_27/\x_20≠x_27/\x_18≠x_27/\x_17≠x_27/\x_16≠x_27/\x_15≠x_27/\x_14≠x_27/\x_13≠x_27/\x_12≠x_27/\Qt x_11 x_27 x_10 x_9 x_8 x_6 x_5 x_4 x_3 x_2 x_1 x->SM x_27/\KS x_27/\∀(x_28:Nat),x_27≠x_28/\x_26≠x_28/\x_25≠x_28/\x_24≠x_28/\x_23≠x_28/\x_22≠x_28/\x_21≠x_28/\x_20≠x_28/\x_18≠x_28/\x_17≠x_28/\x_16≠x_28/\x_15≠x_28/\x_14≠x_28/\x_13≠x_28/\x_12≠x_28/\Qt x_11 x_28 x_10 x_9 x_8 x_6 x_5 x_4 x_3 x_2 x_1 x->QDq x_28 x_23 x_25 x_22 x_11 x_10 x_21 x_8) (by kernel_rfl) ?_
 delta DA GI LN N0 N1 N2 N4 SM Z0 Z1 ZI KS Yg Qs QCG QCH QCI QCJ QCK QCL QCM Qs7 Qs8 Yh Qc8 QCN QCO QCP QCQ V3 QCR QCS QCT QCU QCB QCV QCW Qow QCX QCY Qs9 QCZ QC0 Qta QC1 QCC QC2 Qtb Qtc QC3 Qtd Qte QC4 Qtf Qtg QC5 QCD QC6 QC7 V4 QC8 QC9 QDa QDb QDc QDd Qox QCE QDe QDf Qth QDg QDh Qti QDi QDj Qtj Qtk QCF QDk Qtl Qtm QDl Qtn Qto QDm QDn QDo QHo Qg Yp Qtp Qt QDp QDq HN
 simp only[eq_self,ne_eq,implies_true,true_and,and_true,exists_const,forall_const]
 repeat' first | exact BkD OM _ (by kernel_rfl) | exact Bk4 lN _ (by kernel_rfl) | exact Bmp U1 rfl (by simp[BG]) (fun i hi=>match i,hi with | 0,_=>by kernel_rfl | 1,_=>by kernel_rfl) | exact Bc _ | exact absurd trivial ‹¬True› | rfl | apply And.intro | intro _
 all_goals exact absurd ‹(_:Nat)<0› (Nat.not_lt_zero _)
noncomputable def Ekd:Senv:={ EC CK 19 6 [7] (fun _=>([],[])) with unr:=fun _=>4,inl:=Tg { E0 CK 0 0 [] (fun _=>([],[])) with auto:=true } (EP IO) 12 }
theorem Bm7:CD 31 [.agg lN.row1,.int .i64 60] (.bool false):=by
 refine Bh (A:=sC _ _) (x:=()) (E:=Ekd) (O5 BE (GT (E:={ E0 CK 0 0 [] (fun _=>([],[])) with auto:=true }) It BE mix Ew Ic 12) rfl) Tryz.func31 rfl (by kernel_rfl) rfl (by simp[sC,Ekd,EC,E0]) ?_
 refine Bl (T :=
  ∀(x:Nat),True->∀(x_1:Nat),x≠x_1/\True->SM x_1/\∀(x_2:Nat),x_1≠x_2/\x≠x_2/\True->SM x_2/\SM x/\SM x_2/\∀(x_3:Nat),x_2≠x_3/\x_1≠x_3/\x≠x_3/\True->SM x_3/\SM x_1/\∀(x_4:Nat),x_3≠x_4/\x_2≠x_4/\x_1≠x_4/\x≠x_4/\True->∀(x_5:Nat),x_4≠x_5/\x_3≠x_5/\x_2≠x_5/\x_1≠x_5/\x≠x_5/\True->SM x_5/\∀(x_6:Nat),x_5≠x_6/\x_4≠x_6/\x_3≠x_6/\x_2≠x_6/\x_1≠x_6/\x≠x_6/\True->SM x_6/\SM x_4/\SM x_6/\True/\True/\SM x_4/\True/\True/\True/\True/\∀(x_7:Nat),x_6≠x_7/\x_5≠x_7/\x_4≠x_7/\x_3≠x_7/\x_2≠x_7/\x_1≠x_7/\x≠x_7/\True->SM x_7/\SM x_1/\∀(x_8:Nat),x_7≠x_8/\x_6≠x_8/\x_5≠x_8/\x_4≠x_8/\x_3≠x_8/\x_2≠x_8/\x_1≠x_8/\x≠x_8/\True->∀(x_9:Nat),x_8≠x_9/\x_7≠x_9/\x_6≠x_9/\x_5≠x_9/\x_4≠x_9/\x_3≠x_9/\x_2≠x_9/\x_1≠x_9/\x≠x_9/\True->SM x_9/\∀(x_10:Nat),x_9≠x_10/\x_8≠x_10/\x_7≠x_10/\x_6≠x_10/\x_5≠x_10/\x_4≠x_10/\x_3≠x_10/\x_2≠x_10/\x_1≠x_10/\x≠x_10/\True->SM x_10/\SM x_8/\SM x_10/\True/\True/\SM x_8/\True/\True/\True/\True/\True/\True/\SM x/\True/\True/\RT (SM false)) (by kernel_rfl) ?_
 delta SM RT
 simp only[eq_self,ne_eq,implies_true,and_true,exists_const]
noncomputable def Ekl:Senv:={ EC CK 8 1 [2] (fun _=>([],[])) with unr:=fun _=>4,inl:=Tg { E0 CK 0 0 [] (fun _=>([],[])) with auto:=true } (EP IO) 12 }
theorem BmT:CD 60 [.int .u64 2] (.int .i64 2):=by
 refine Bh (A:=sC _ _) (x:=()) (E:=Ekl) (O5 BE (GT (E:={ E0 CK 0 0 [] (fun _=>([],[])) with auto:=true }) It BE mix Ew Ic 12) rfl) Tryz.func60 rfl (by kernel_rfl) rfl (by simp[sC,Ekl,EC,E0]) ?_
 refine Bl (T :=
  True/\RT (SM (2:Int))) (by kernel_rfl) ?_
 delta SM RT
 simp only[eq_self,and_true,exists_const]
noncomputable def frO(k:Nat):Option Frm:=match EP IO k with
 |some A=>some { A with own:=fun t=>Nat.beq t 49 }
 |none=>none
theorem BlX:FrmOk Tryz.prog frO:=fun k A h=>by
 unfold frO at h
 split at h
 ·rename_i B hB
  injection h with h
  subst h
  exact Ew k B hB
 ·cases h
def Beg:Con:=fun k ds S=>match k with
 |31=>some (pA ds S (.bool false) (wkL ds [.agg lN.row1,.int .i64 60]))
 |60=>some (pA ds S (.int .i64 2) (ds=[.int .u64 2]))
 |_=>none
noncomputable def Ekf:Senv:={ EC Beg 14 5 [6] (fun _=>([],[])) with
 unr:=fun _=>4
 gz:=fun r=>match r with
  |6=>[.slot 4]
  |_=>[],inl:=Tg { E0 Beg 0 0 [] (fun _=>([],[])) with auto:=true } frO 12 }
theorem Bc0:ConOk Tryz.prog Beg:=by
 intro k ds S A hh
 unfold Beg at hh
 split at hh
 ·injection hh with hh;subst hh
  exact Bm fun e=>CD.at_ (CD.wk Bm7 e) _
 ·injection hh with hh;subst hh
  exact Bm fun e=>by rw[e];exact CD.at_ BmT _
 ·cases hh
def QI:Prop:=SM Z0
def Qoy:Prop:=BV (List UInt8) [] []
def HZ:Prop:=SM N0/\(∀(i:Nat),i<N0->SM (GI [] i)/\True)/\True
def Qml:Prop:=SM N0/\(∀(i:Nat),i<N0->True)/\True
def Qtq:Prop:=SM N0/\(∀(i:Nat),i<N0->QI/\HZ/\HZ/\Qml/\True)/\True
def Qtr:Arr:=DA
def QDr(a:Nat):List D:=Nd.row (List.getD [Nd.mk (2:Int) Z0 (2:Int) [(102:UInt8)] Z0 Z0 Qtr [] [] Z0 Z0 Z0,Nd.mk (2:Int) Z0 Z1 [(97:UInt8)] Z0 Z0 Qtr [] [] Z0 Z0 Z0] a (Nd.mk Z0 Z0 Z0 [] Z0 Z0 Qtr [] [] Z0 Z0 Z0))
def QDs:Prop:=QI/\QI/\QI/\True
def QDt(a:Nat):List D:=GJ (GJ (fun i=>if i<N1 then [D.str (List.getD [[(102:UInt8)]] i [])] else [D.str (List.getD [[(97:UInt8)]] (i-N1) [])]) N1 [D.str [102]]) N0 [D.str [97]] a
theorem BmW:CD 16 [.agg lN.row1] (ssl [[97],[102]] .any):=by
 refine CD.ofW (Ct (E:=Ekf) (O5 Bc0 (GT (E:={ E0 Beg 0 0 [] (fun _=>([],[])) with auto:=true }) It Bc0 mix BlX Ic 12) rfl) Tryz.func16 rfl (by kernel_rfl) rfl (by simp[Ekf,EC,E0]) ?_)
 refine Bl (T :=
  ∀(x:Nat),True->SM x/\∃(x_1:Unit),((SM (4:Int)/\QI/\SM Z1/\Qoy/\QI/\QI/\QI/\HZ/\HZ/\Qtq/\(SM N2/\(∀(i:Nat),i<N2->wkL (QDr i) (QDr i))/\True)/\(SM N0/\(∀(i:Nat),i<N0->QI/\QI/\Qoy/\QI/\QI/\QI/\QI/\Qoy/\QI/\QI/\QI/\HZ/\HZ/\Qtq/\Qml/\Qml/\QI/\QI/\QI/\QI/\QI/\QI/\Qoy/\QI/\QI/\QI/\HZ/\HZ/\Qtq/\Qml/\Qml/\QDs)/\True)/\QDs)/\SM (60:Int)/\True)/\∀(y:Unit),True->SM x/\∀(x_2:Nat),x≠x_2/\True->SM x_2/\SM x_2/\∀(x_3:Nat),x_2≠x_3/\x≠x_3/\True->SM x_3/\SM x_3/\∀(x_4:Nat),x_3≠x_4/\x_2≠x_4/\x≠x_4/\True->SM x_4/\SM x_4/\True/\SM x_4/\∀(y cap':Nat),x_4≠y/\x_3≠y/\x_2≠y/\x≠y/\True->N1<=cap'->SM x_4/\SM x_4/\True/\∀(x_5:Nat),y≠x_5/\x_4≠x_5/\x_3≠x_5/\x_2≠x_5/\x≠x_5/\True->SM x_5/\SM x_5/\∀(x_6:Nat),x_5≠x_6/\y≠x_6/\x_4≠x_6/\x_3≠x_6/\x_2≠x_6/\x≠x_6/\True->SM x_6/\SM x_6/\True/\SM x_6/\SM y/\SM cap'/\∀(y cap':Nat),N2<=cap'->SM x_6/\SM x_6/\True/\SM x_2/\True/\∃(x:Unit),SM [D.int IntKind.u64 (2:Int)]/\∀(y_1:Unit),True->SM y/\SM y/\True/\True/\SM y/\SM y/\SM y/\SM y/\True/\True/\True/\SM y/\SM cap'/\(∀(i:Nat),i<N2->(List.all (QDt i) fun (x:D)=>match x with | D.unk=>false | D.agg cs=>false | D.tup ds=>false | x=>true)=true)/\∀(t:Nat),True/\True/\SM N2/\(∀(i:Nat),i<N2->wkL (QDt i) [D.str (List.getD [[(97:UInt8)],[(102:UInt8)]] i [])])/\True) (by kernel_rfl) ?_
 delta DA GI N0 N1 N2 SM Z0 Z1 QI Qoy HZ Qml Qtq Qtr QDr QDs QDt
 simp only[eq_self,ne_eq,implies_true,true_and,and_true,exists_const,forall_const]
 repeat' first | exact Bc _ | apply And.intro | intro _
 ·rename_i i hi
  match i,hi with
  |0,_=>rfl
  |1,_=>rfl
 ·rename_i i hi
  match i,hi with
  |0,_=>exact Bc _
  |1,_=>exact Bc _
theorem BjD:CD 12 [] (.bool true):=Bm0 BmW
open Go Go.Ab Go.RowKit
theorem own:ownKnob Tryz.prog.godebug=none:=by kernel_rfl
theorem laid:laidOutB Tryz.prog=true:=by kernel_rfl
def ON:List (String×DataW Unit):=[]
theorem Bcs{W:World}(_:laidMetH Tryz.prog ON W):G0 W:=trivial
noncomputable def EA(os:Os):World:=World.holding Tryz.prog os ⟨#[],#[],[]⟩
def TSl:List Nat:=List.range 199
theorem BjX:∀t∈TSl,Rw Tryz.prog TSl t=true:=List.all_eq_true.1 (show TSl.all (Rw Tryz.prog TSl)=true by kernel_rfl)
theorem UM{α:Type}{o:Option α}{p:α->Bool}(h:(match o with | some x=>p x | none=>false)=true):∃x,o=some x/\p x=true:=by
 cases o with
 |none=>cases h
 |some x=>exact⟨x,rfl,h⟩
end
end Go.Proofs.YtfbfnhbafjmnaaaGreat
