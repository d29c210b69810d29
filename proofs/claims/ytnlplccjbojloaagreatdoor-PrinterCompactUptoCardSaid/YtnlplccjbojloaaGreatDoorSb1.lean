/- The text of any program, for reading or compact, agrees with the reference. -/
import Derived.Test.YtnlplccjbojloaaGreatDoorS7
namespace Go.Proofs.YtnlplccjbojloaaGreatDoor
open Go Go.Ab
set_option maxRecDepth 100000
noncomputable section
theorem BcS(ps:List Pt):∀i,i<=ps.length->(wrF true (ps.take i)).1.length<=(wrF false (ps.take i)).1.length
 |0,_=>by simp[wrF]
 |i+1,h=>by
  have hi:i<ps.length:=by omega
  have ih:=BcS ps i (by omega)
  obtain ⟨a1,a2⟩:=G4 true ps i (by omega)
  obtain ⟨b1,b2⟩:=G4 false ps i (by omega)
  rw[IM true hi,IM false hi]
  unfold wrS
  split
  ·simp only[List.length_append,cond_true,cond_false,List.length_cons,List.length_nil,Gk]
   omega
  ·have hb:(blB true (wrF true (ps.take i)).2.1 (prT (ps.getD i .sp))).length<=(blB false (wrF false (ps.take i)).2.1 (prT (ps.getD i .sp))).length:=by
    unfold blB
    rw[a2,b2]
    generalize (if 0<i/\Bby (ps.getD (i-1) .sp)=false then prT (ps.getD (i-1) .sp) else [])=y
    cases y.isEmpty<;>cases Eh y (prT (ps.getD i .sp))<;>simp
   simp only[List.length_append]
   omega
theorem Bfa(l:List Sm):(EN l).length<=(Ch l).length:=by
 unfold EN Ch
 by_cases h:B1 l=0
 ·rw[if_pos h]
  by_cases hl:l=[]
  ·subst hl;simp[ptB,ptJ,wrF]
  ·rw[if_pos ⟨h,hl⟩]
   have:=BcS (ptB l) (ptB l).length (Nat.le_refl _)
   rw[List.take_length] at this
   rw[List.length_append]
   omega
 ·rw[if_neg h];simp
noncomputable def Elc(l:List Sm):Senv:={ EC (Bgc l) 25 4 [6] (fun _=>([],[])) with mg:=fun _=>2 }
def Qnj:Arr:=DA
def Qgl:Nd:=Nd.mk Z0 Z0 Z0 [] Z0 Z0 Qnj [] [] Z0 Z0 Z0
def Qnk:Sm:=Sm.mk Z0 Z0 [] Z0 Qgl Qgl
def Zd(a:List Sm)(b:Nat):Sm:=List.getD a b Qnk
def QNA(a:List Sm):List D:=[D.agg [D.sl 34 (LN a) (fun i=>(Sm.row1 (Zd a i))) Mode.any]]
def Qgo(a:List Sm):Prop:=wkL (QNA a) (QNA a)
def QNB:Prop:=∃(_x:Unit),Cw (List D) [] []/\∀(_y:Unit),True->True/\∃(_y:Unit),True/\SM true/\True/\True
def Qnl(a:List Sm):List UInt8:=EN a
def QNC:Prop:=True/\∃(_y:Unit),True/\false=true/\True/\True
theorem Bdf(l:List Sm)(h:okS l):CD 4 [.agg [gsl 34 Sm.row1 l]] (.bool true):=by
 refine Bg (A:=sC _ _) (x:=()) (E:=Elc l) (eOk (BcB h) rfl) Tryz.func4 rfl (by kernel_rfl) rfl (by simp[sC,Elc,EC,E0]) ?_
 refine Bi (T :=
  ∀(x:Nat),True->SM x/\∃(x_1:Unit),Qgo l/\∀(y:Bool),True->ifB (!y) QNB (SM x/\∃(x_2:Unit),Qgo l/\∀(y:Unit),True->SM x/\∃(x_3:Unit),Qgo l/\∀(y:Unit),True->ifB (Qnl l==Qnl l) (SM x/\∃(x:Unit),Qgo l/\∀(y:Unit),True->ifB (decide ((LI (Qnl l))<=(LI (Ch l)))) QNB QNC) QNC)) (by kernel_rfl) ?_
 delta DA GI LI LN N1 N4 SI SM Z0 ZI Qnj Qgl Qnk Zd QNA Qgo QNB Qnl QNC
 try simp only[<- dm]
 try simp only[<- dn]
 simp only[eq_self,ne_eq,implies_true,Bf,decide_eq_true_eq,decide_eq_false_iff_not,true_and,and_true,beq_iff_eq,beq_eq_false_iff_ne,Bool.not_eq_true',Bool.not_eq_false',exists_const,forall_const]
 have hs:=Bfa l
 exact⟨Be _,fun y _=>⟨Be _,Be _,⟨Be _,fun h=>absurd (by omega) h⟩,fun h=>absurd trivial h⟩⟩
theorem Bcd(l:List Sm)(h:okS l):ACalls Tryz.prog 4 [.agg [lsl 34 (Ee l)]] ⟨[],[]⟩ (SpecR (sC [.agg [lsl 34 (Ee l)]] (.bool true)) ()) :=
 CD.isP (Bdf l h) (Be _)
open Go Go.Ab Go.RowKit
noncomputable def BnG:Array Value:=#[.agg #[.slice none 0 0]]
theorem Bh8(os:Os):laidMet Tryz.prog Bas ((GZ os).forCall (fun _ _=>0) ⟨#[],BnG,[]⟩).memory :=
 laidMet_of_run' 8 (by kernel_rfl) (by kernel_rfl)
theorem BoJ(os:Os){H:Type}(enc:TypeId×Value->H):∃x,DataW.whole enc Tryz.prog ((GZ os).forCall (fun _ _=>0) ⟨#[],BnG,[]⟩).memory [24] [] false (BnG).toList 8=some x/\Rows.uptoSmall H (x.1++x.2.1)=true :=
 Bap (by kernel_rfl)
theorem BhV{H : Type}{enc : TypeId×Value -> H}
  (W:World) (base:Nat) (args:Array Value) (ds gs:List (DataW H)) (before:List MemPlace)
  (hval:∀(j:Nat) t v,Tryz.f4.params[j]? =some t->args[j]? =some v->Value.okWide Tryz.prog W .any base t v)
  (hW:DataW.Whole enc Tryz.prog Tryz.f4.params.toList Rows.printerCompactSpec.vars false W args.toList ds gs before)
  (hsz:(DataW.weightsEach Tryz.prog (Tryz.f4.params.toList++Rows.printerCompactSpec.plain.varTypes Tryz.prog) (ds++gs)).all (·<=BC)=true) (hL:laidMetH Tryz.prog Bas W) :
  Calls Tryz.prog 4 args W fun e W'=>∃v,e=.returned v/\Rows.printerCompactSpec.post enc Tryz.prog Tryz.f4 false true false false W args v W':=by
 refine Tr (rs:=[(24,RPg)]) laid (by rw[Tryz.params4];kernel_rfl) rfl (fun ds hd=>?_) (rt:=4) rfl Tryz.underlying4 (by rw[Tryz.params4];rfl) ?_ W (BgJ hL) base args ds gs before hval hW hsz ?_
 ·rw[Tryz.params4] at hd
  match ds,hd with
  | [_],_=>exact⟨rfl,rfl,rfl⟩
 ·intro r hr
  simp only[List.mem_cons,List.not_mem_nil,or_false] at hr
  subst hr
  exact Bgq
 ·intro Ds h
  obtain ⟨dx,_,rfl,hx,h⟩:=h.agg (by kernel_rfl)
  obtain rfl:=h.nil
  obtain ⟨x,hokx,rfl⟩:=hx
  exact (Bcd x hokx).mono fun r S' ⟨_,_,hr,_⟩=>hr
theorem Bmp(os : Os)(started : os.Started)(H : Type)(enc : TypeId×Value -> H)(F : Stop.Interp) :
  ReturnsInHanded {} Tryz.checked os 4 .any ((Rows.OpenSpec.upto Rows.printerCompactSpec).preRow enc Tryz.prog Tryz.f4 Rows.printerCompactUptoRow.domain false Rows.printerCompactUptoRow.laid) (((Rows.OpenSpec.upto Rows.printerCompactSpec).at F).post enc Tryz.prog Tryz.f4 false true false false):=by
 obtain ⟨x,hx,hxk⟩:=BoJ os enc
 refine returnsInHanded_of_row (C:=Tryz.checked) (s:=Rows.OpenSpec.upto Rows.printerCompactSpec) own started (by kernel_rfl) Tryz.func4
  (witness_row_at (enc:=enc) (C:=Tryz.checked) false (GZ os) BnG rfl (by kernel_rfl) (by kernel_rfl) (by kernel_rfl)
   (OpenSpec.preRow_of_cond 8 hx rfl (fun k hk=>by cases hk;exact hxk) (by kernel_rfl) (Bh8 os))) ?_
 intro W base args ds gs before hval hW _ hk _ hL _ _
 refine BhV W base args ds gs before hval hW ?_ hL
 have e:Tryz.f4.params.toList++Rows.printerCompactSpec.plain.varTypes Tryz.prog=[24]:=by rw[Tryz.params4];kernel_rfl
 rw[e]
 exact BgE Bn8 (by decide +kernel) (hk _ rfl)
theorem Bp6:Rows.PrinterCompactUptoSaid :=
 OpenClaim.holds_of_cond 4 Tryz.f4 rfl rfl rfl rfl rfl rfl rfl ⟨rfl,rfl,rfl,rfl,rfl⟩ rfl rfl rfl rfl rfl (by kernel_rfl) Tryz.func4 (by kernel_rfl)
  (of_decide_eq_true (by kernel_rfl)) (by unfold Func.isWrapper;first | (rw[if_pos (by decide +kernel)];kernel_rfl) | (rw[if_neg (by decide +kernel)];exact⟨rfl,rfl⟩))
  (fun os started H enc _ F=>by rw[OpenClaim.pre_eq_preRow];exact Bmp os started H enc F)
theorem Bo7(f : FuncId)(fn : Func)(hf : Tryz.pinned.checked.prog.funcNamed "arraylang/arraylanglaw13.PrinterCompact" = some f)(hfn : Tryz.pinned.checked.prog.funcs[f]? = some fn) :
  false=Tryz.pinned.checked.prog.looks []/\∀(j:Nat) t,fn.params[j]? =some t->Tryz.pinned.checked.prog.wantsStandIn t=false:=by
 obtain rfl : f = 4 := Option.some.inj ((show Tryz.prog.funcNamed "arraylang/arraylanglaw13.PrinterCompact" = some 4 by kernel_rfl).symm.trans hf) |>.symm
 obtain rfl:fn=Tryz.f4:=(Option.some.inj (Tryz.func4.symm.trans hfn)).symm
 refine⟨by kernel_rfl,fun j t ht=>?_⟩
 rw[Tryz.params4] at ht
 have hm:t∈[24]:=by simpa using Array.mem_of_getElem? ht
 simp only[List.mem_cons,List.not_mem_nil,or_false] at hm
 subst hm
 exact (show Tryz.prog.wantsStandIn 24=false by kernel_rfl)
theorem provedPrinterCompact:Rows.PrinterCompactUptoCardSaid :=
 Claim7.holds_tied_plain_at .later [] _ _ _ _ Bp6 (fun _ h=>by cases h) (by kernel_rfl) (fun _ h=>by cases h) printerCompactUpto_row_tie rfl ⟨rfl,rfl⟩ (by kernel_rfl) rfl Bo7 (by kernel_rfl)
end
end Go.Proofs.YtnlplccjbojloaaGreatDoor
