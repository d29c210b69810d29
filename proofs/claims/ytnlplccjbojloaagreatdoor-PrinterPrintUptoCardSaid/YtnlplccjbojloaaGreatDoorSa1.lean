/- The text of any program, for reading or compact, agrees with the reference. -/
import Derived.Test.YtnlplccjbojloaaGreatDoorS7
namespace Go.Proofs.YtnlplccjbojloaaGreatDoor
open Go Go.Ab
set_option maxRecDepth 100000
noncomputable section
noncomputable def Elp(l:List Sm):Senv:={ EC (Bgc l) 15 3 [5] (fun id=>match id with | 3=>([0,2,1,3,4,5,6,7,8],[1,3,6]) | _=>([],[])) with mg:=fun _=>2 }
def Qng:Arr:=DA
def Qgi:Nd:=Nd.mk Z0 Z0 Z0 [] Z0 Z0 Qng [] [] Z0 Z0 Z0
def Qnh:Sm:=Sm.mk Z0 Z0 [] Z0 Qgi Qgi
def Zc(a:List Sm)(b:Nat):Sm:=List.getD a b Qnh
def QNr(a:List Sm):D:=D.agg [D.sl 34 (LN a) (fun i=>(Sm.row1 (Zc a i))) Mode.any]
def QNs(a:List Sm):List D:=[QNr a]
def Qni(a:List Sm):Prop:=wkL (QNs a) (QNs a)
def QNt:Prop:=∃(_x:Unit),Cw (List D) [] []/\∀(_y:Unit),True->True/\∃(_y:Unit),True/\SM true/\True/\True
theorem Bhk(l:List Sm)(h:okS l):CD 3 [.agg [gsl 34 Sm.row1 l]] (.bool true):=by
 refine Bg (A:=sC _ _) (x:=()) (E:=Elp l) (eOk (BcB h) rfl) Tryz.func3 rfl (by kernel_rfl) rfl (by simp[sC,Elp,EC,E0]) ?_
 refine Bi (T :=
  ∀(x:Nat),True->SM x/\∃(x_1:Unit),Qni l/\∀(y:Bool),True->ifB (!y) QNt (SM x/\SM x/\∃(x_2:Unit),Qni l/\∀(y:Unit),True->(SM x/\SM (QNr l))/\∃(x:Unit),Qni l/\∀(y:Unit),True->ifB (Ch l==Ch l) QNt (RT (false=true)))) (by kernel_rfl) ?_
 delta DA GI LN N1 N4 SI SM Z0 ZI Qng Qgi Qnh Zc QNr QNs Qni QNt RT
 try simp only[<- dm]
 try simp only[<- dn]
 simp only[eq_self,ne_eq,implies_true,Bf,true_and,and_true,beq_iff_eq,beq_eq_false_iff_ne,Bool.not_eq_true',Bool.not_eq_false',exists_const,forall_const]
 exact⟨Be _,fun y _=>⟨Be _,Be _,fun h=>absurd trivial h⟩⟩
theorem BhX(l:List Sm)(h:okS l):ACalls Tryz.prog 3 [.agg [lsl 34 (Ee l)]] ⟨[],[]⟩ (SpecR (sC [.agg [lsl 34 (Ee l)]] (.bool true)) ()) :=
 CD.isP (Bhk l h) (Be _)
open Go Go.Ab Go.RowKit
noncomputable def BnH:Array Value:=#[.agg #[.slice none 0 0]]
theorem BhU(os:Os):laidMet Tryz.prog Bas ((GZ os).forCall (fun _ _=>0) ⟨#[],BnH,[]⟩).memory :=
 laidMet_of_run' 8 (by kernel_rfl) (by kernel_rfl)
theorem Bpj(os:Os){H:Type}(enc:TypeId×Value->H):∃x,DataW.whole enc Tryz.prog ((GZ os).forCall (fun _ _=>0) ⟨#[],BnH,[]⟩).memory [24] [] false (BnH).toList 8=some x/\Rows.uptoSmall H (x.1++x.2.1)=true :=
 Bap (by kernel_rfl)
theorem BhJ{H : Type}{enc : TypeId×Value -> H}
  (W:World) (base:Nat) (args:Array Value) (ds gs:List (DataW H)) (before:List MemPlace)
  (hval:∀(j:Nat) t v,Tryz.f3.params[j]? =some t->args[j]? =some v->Value.okWide Tryz.prog W .any base t v)
  (hW:DataW.Whole enc Tryz.prog Tryz.f3.params.toList Rows.printerPrintSpec.vars false W args.toList ds gs before)
  (hsz:(DataW.weightsEach Tryz.prog (Tryz.f3.params.toList++Rows.printerPrintSpec.plain.varTypes Tryz.prog) (ds++gs)).all (·<=BC)=true) (hL:laidMetH Tryz.prog Bas W) :
  Calls Tryz.prog 3 args W fun e W'=>∃v,e=.returned v/\Rows.printerPrintSpec.post enc Tryz.prog Tryz.f3 false true false false W args v W':=by
 refine Tr (rs:=[(24,RPg)]) laid (by rw[Tryz.params3];kernel_rfl) rfl (fun ds hd=>?_) (rt:=4) rfl Tryz.underlying4 (by rw[Tryz.params3];rfl) ?_ W (BgJ hL) base args ds gs before hval hW hsz ?_
 ·rw[Tryz.params3] at hd
  match ds,hd with
  | [_],_=>exact⟨rfl,rfl,rfl⟩
 ·intro r hr
  simp only[List.mem_cons,List.not_mem_nil,or_false] at hr
  subst hr
  exact Bgq
 ·intro Ds h
  obtain ⟨dx,_,rfl,hx,h⟩:=h.agg (by kernel_rfl)
  obtain rfl:=h.nil
  obtain ⟨x,hokx,rfl⟩:=hx
  exact (BhX x hokx).mono fun r S' ⟨_,_,hr,_⟩=>hr
theorem BmC(os : Os)(started : os.Started)(H : Type)(enc : TypeId×Value -> H)(F : Stop.Interp) :
  ReturnsInHanded {} Tryz.checked os 3 .any ((Rows.OpenSpec.upto Rows.printerPrintSpec).preRow enc Tryz.prog Tryz.f3 Rows.printerPrintUptoRow.domain false Rows.printerPrintUptoRow.laid) (((Rows.OpenSpec.upto Rows.printerPrintSpec).at F).post enc Tryz.prog Tryz.f3 false true false false):=by
 obtain ⟨x,hx,hxk⟩:=Bpj os enc
 refine returnsInHanded_of_row (C:=Tryz.checked) (s:=Rows.OpenSpec.upto Rows.printerPrintSpec) own started (by kernel_rfl) Tryz.func3
  (witness_row_at (enc:=enc) (C:=Tryz.checked) false (GZ os) BnH rfl (by kernel_rfl) (by kernel_rfl) (by kernel_rfl)
   (OpenSpec.preRow_of_cond 8 hx rfl (fun k hk=>by cases hk;exact hxk) (by kernel_rfl) (BhU os))) ?_
 intro W base args ds gs before hval hW _ hk _ hL _ _
 refine BhJ W base args ds gs before hval hW ?_ hL
 have e:Tryz.f3.params.toList++Rows.printerPrintSpec.plain.varTypes Tryz.prog=[24]:=by rw[Tryz.params3];kernel_rfl
 rw[e]
 exact BgE Bn8 (by decide +kernel) (hk _ rfl)
theorem BqP:Rows.PrinterPrintUptoSaid :=
 OpenClaim.holds_of_cond 3 Tryz.f3 rfl rfl rfl rfl rfl rfl rfl ⟨rfl,rfl,rfl,rfl,rfl⟩ rfl rfl rfl rfl rfl (by kernel_rfl) Tryz.func3 (by kernel_rfl)
  (of_decide_eq_true (by kernel_rfl)) (by unfold Func.isWrapper;first | (rw[if_pos (by decide +kernel)];kernel_rfl) | (rw[if_neg (by decide +kernel)];exact⟨rfl,rfl⟩))
  (fun os started H enc _ F=>by rw[OpenClaim.pre_eq_preRow];exact BmC os started H enc F)
theorem BpI(f : FuncId)(fn : Func)(hf : Tryz.pinned.checked.prog.funcNamed "arraylang/arraylanglaw13.PrinterPrint" = some f)(hfn : Tryz.pinned.checked.prog.funcs[f]? = some fn) :
  false=Tryz.pinned.checked.prog.looks []/\∀(j:Nat) t,fn.params[j]? =some t->Tryz.pinned.checked.prog.wantsStandIn t=false:=by
 obtain rfl : f = 3 := Option.some.inj ((show Tryz.prog.funcNamed "arraylang/arraylanglaw13.PrinterPrint" = some 3 by kernel_rfl).symm.trans hf) |>.symm
 obtain rfl:fn=Tryz.f3:=(Option.some.inj (Tryz.func3.symm.trans hfn)).symm
 refine⟨by kernel_rfl,fun j t ht=>?_⟩
 rw[Tryz.params3] at ht
 have hm:t∈[24]:=by simpa using Array.mem_of_getElem? ht
 simp only[List.mem_cons,List.not_mem_nil,or_false] at hm
 subst hm
 exact (show Tryz.prog.wantsStandIn 24=false by kernel_rfl)
theorem provedPrinterPrint:Rows.PrinterPrintUptoCardSaid :=
 Claim7.holds_tied_plain_at .later [] _ _ _ _ BqP (fun _ h=>by cases h) (by kernel_rfl) (fun _ h=>by cases h) printerPrintUpto_row_tie rfl ⟨rfl,rfl⟩ (by kernel_rfl) rfl BpI (by kernel_rfl)
end
end Go.Proofs.YtnlplccjbojloaaGreatDoor
