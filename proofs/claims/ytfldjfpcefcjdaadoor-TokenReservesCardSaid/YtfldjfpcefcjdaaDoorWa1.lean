/- The law's function returns true for every input, and its arguments read afterwards as before. -/
import Derived.Test.YtfldjfpcefcjdaaDoorW3
import Derived.Test.YtfldjfpcefcjdaaDoorProg
import Derived.Lib.LaidTab
import Derived.Lib.ItoaNum
import Derived.Lib.TrailingZeros
import Derived.Shelf.Unicode.DecodeSlow
import Derived.Calls
import Derived.Below
import Derived.Laws.Entries
import Derived.Laws.Build
import Derived.Laws.Concat
import Derived.Laws.AppendOwn
import Derived.Laws.IdiomStrings
import Derived.Laws.BytesString
import Derived.Laws.NewFold
import Derived.Laws.MakeOwn
import Derived.Laws.IdiomCopy
import Derived.Laws.Shifts
import Derived.Laws.Strings
import Derived.Laws.Strings2
import Derived.Laws.Strings3
import Derived.Laws.RangeString
import Derived.Laws.Cover4
import Derived.Lib.DecodeN
import Derived.MapKept
import Derived.Laws.StructEq
import Derived.Orders
import Derived.Scope
import Derived.ProofKit
import Derived.WalkKit
import Derived.OpenShut
import Derived.Recover
import Derived.KernelRfl
import Derived.Shelf.Strings.Builder1
import Derived.Shelf.Strings.Builder2
import Derived.Shelf.Strings.OnBuilder
import Derived.Shelf.Small.Utf8
import Derived.Shelf.Unicode.ValidAny
import Derived.Shelf.Strconv.Itoa0
import Derived.Shelf.Strconv.Itoa1
import Derived.Shelf.LaysM
import Derived.Shelf.Strconv.Itoa2
import Derived.Shelf.Strconv.Itoa3
import Derived.Shelf.Strconv.Itoa4
import Derived.Shelf.Strings.Prefix
import Derived.Shelf.Unicode.Latin
import Derived.Shelf.Unicode.Decode
import Derived.Shelf.Unicode.DecodeAny
import Derived.Shelf.Unicode.CaseLookup
import Derived.Shelf.Unicode.CaseConvert
import Derived.Shelf.Unicode.CaseTo
import Derived.Shelf.Unicode.CaseLaid
import Derived.Lib.Builder
import Derived.Lib.UnsafeStr
import Derived.Lib.AppendIntMem
import Derived.Lib.ItoaLen
import Derived.Lib.MapLaws
import Derived.Lib.Join
import Derived.Test.YtfldjfpcefcjdaaDoorCards
import Derived.Test.YtfldjfpcefcjdaaDoorTie
import Derived.Deep.DeepHandedRow
import Derived.Deep.DeepLaidRun
import Derived.Deep.DeepWitnessRowRef
import Derived.Lib.LaidIn
import Derived.Lib.LaidU8T
import Derived.Lib.LaidCaseMet
import Derived.PinnedBridge
import Derived.Stop.LaidErr
namespace Go.Proofs.YtfldjfpcefcjdaaDoor
open Go Go.Ab
set_option maxRecDepth 100000
noncomputable def El1:Senv := EC conLx 15 1 [2,5] (fun _ => ([],[]))
noncomputable section
def tr5q0:Prop := ∃ (_x:Unit),True∧(True∧True)∧True∧∀ (_y:Unit),True→True∧∃ (_y:Unit),True∧SM true∧True∧True
end
theorem law_reserves (s:List UInt8) (hs:s.length ≤ maxB):ACalls Tryd.prog 4 [.str s] ⟨[],[]⟩ (SpecR (sC [.str s] (.bool true)) ()) := by
  refine con_of (A := sC _ _) (x := ()) (E := El1) (eOk conLx_ok rfl) Tryd.func4 rfl (by kernel_rfl) rfl (by simp [sC,El1,EC,E0]) ?_
  refine vc_eq (T :=
    ifB (decide ((100:Int) < (LI s))) tr5q0 (True∧∀ (y:Unit),True→LN s ≤ (140737488351232:Nat)∧∀ (y:Unit),True→ifB (resB s == resB s) tr5q0 (True∧∃ (y:Unit),True∧false = true∧True∧True))) (by kernel_rfl) ?_
  delta LI LN SM tr5q0
  simp only [eq_self,ne_eq,implies_true,ifB_iff,decide_eq_true_eq,decide_eq_false_iff_not,true_and,and_true,beq_iff_eq,beq_eq_false_iff_ne,exists_const,forall_const]
  exact fun _ => ⟨hs,fun h => (h trivial).elim⟩
end Go.Proofs.YtfldjfpcefcjdaaDoor
namespace Go.Proofs.YtfldjfpcefcjdaaDoor
open Go Go.Ab Go.RowKit
set_option maxRecDepth 100000
noncomputable def wit2:Array Value := #[.string ⟨#[]⟩]
theorem laid_met2 (os:Os):laidMet Tryd.prog laidL ((laidWorld os).forCall (fun _ _ => 0) ⟨#[],wit2,[]⟩).memory :=
  laid_metA os wit2
theorem reads2 (os:Os) {H:Type} (enc:TypeId × Value→H):∃ x,DataW.whole enc Tryd.prog ((laidWorld os).forCall (fun _ _ => 0) ⟨#[],wit2,[]⟩).memory [9] [] false (wit2).toList 8 = some x :=
  Option.isSome_iff_exists.1 (by kernel_rfl)
theorem contract2 {H : Type} {enc : TypeId × Value → H}
    (W:World) (base:Nat) (args:Array Value) (ds gs:List (DataW H)) (before:List MemPlace)
    (hval:∀ (j:Nat) t v,Tryd.f4.params[j]? = some t→args[j]? = some v→Value.okWide Tryd.prog W .any base t v)
    (hW:DataW.Whole enc Tryd.prog Tryd.f4.params.toList Rows.tokenReservesSpec.vars false W args.toList ds gs before)
    (hsz:(DataW.weightsEach Tryd.prog (Tryd.f4.params.toList ++ Rows.tokenReservesSpec.plain.varTypes Tryd.prog) (ds ++ gs)).all (· ≤ reachBytes) = true) (hL:laidMetH Tryd.prog laidL W) :
    Calls Tryd.prog 4 args W fun e W' => ∃ v,e = .returned v∧Rows.tokenReservesSpec.post enc Tryd.prog Tryd.f4 false true false false W args v W' := by
  refine law_contract (rs := [(9,RStr)]) laid (by rw [Tryd.params4]; kernel_rfl) rfl (fun ds hd => ?_) (rt := 4) rfl Tryd.underlying4 (by rw [Tryd.params4]; rfl) ?_ W (g0_laid hL) base args ds gs before hval hW hsz ?_
  · rw [Tryd.params4] at hd
    match ds,hd with
    | [_],_ => exact ⟨rfl,rfl,rfl⟩
  · intro r hr
    simp only [List.mem_cons,List.not_mem_nil,or_false,or_self] at hr
    subst hr
    exact read_string Tryd.underlying9
  · intro Ds h
    obtain ⟨dx,_,rfl,hx,h⟩ := h.flat (by kernel_rfl)
    obtain rfl := h.nil
    obtain ⟨x,ex,hokx⟩ := hx
    injection ex with ex _
    subst ex
    exact (law_reserves x hokx).mono fun r S' ⟨_,_,hr,_⟩ => hr
theorem lifted2 (os : Os) (started : os.Started) (H : Type) (enc : TypeId × Value → H) (F : Stop.Interp) :
    ReturnsInHanded {} Tryd.checked os 4 .any ((OpenSpec.ofChange Rows.tokenReservesSpec).preRow enc Tryd.prog Tryd.f4 Rows.tokenReservesRow.domain false Rows.tokenReservesRow.laid) (((OpenSpec.ofChange Rows.tokenReservesSpec).at F).post enc Tryd.prog Tryd.f4 false true false false) := by
  obtain ⟨x,hx⟩ := reads2 os enc
  refine returnsInHanded_of_row (C := Tryd.checked) (s := OpenSpec.ofChange Rows.tokenReservesSpec) own started (by kernel_rfl) Tryd.func4
    (witness_row_atRef (enc := enc) (C := Tryd.checked) false (laidWorld os) wit2 rfl (by kernel_rfl) (by kernel_rfl) (by kernel_rfl)
      (OpenSpec.preRow_of_cond 8 hx rfl (fun k hk => by cases hk) (by kernel_rfl) (laid_met2 os))) ?_
  intro W base args ds gs before hval hW _ _ hsz hL _ _
  exact contract2 W base args ds gs before hval hW hsz hL
theorem said2:Rows.TokenReservesSaid :=
  OpenClaim.holds_of_cond 4 Tryd.f4 rfl rfl rfl rfl rfl rfl rfl ⟨rfl,rfl,rfl,rfl,rfl⟩ rfl rfl rfl rfl rfl (by kernel_rfl) Tryd.func4 (by kernel_rfl)
    (of_decide_eq_true (by kernel_rfl)) (by unfold Func.isWrapper; first | (rw [if_pos (by decide +kernel)]; kernel_rfl) | (rw [if_neg (by decide +kernel)]; exact ⟨rfl,rfl⟩))
    (fun os started H enc _ F => by rw [OpenClaim.pre_eq_preRow]; exact lifted2 os started H enc F)
theorem plain2 (f : FuncId) (fn : Func) (hf : Tryd.pinned.checked.prog.funcNamed "arraylang/arraylanglaw08.TokenReserves" = some f) (hfn : Tryd.pinned.checked.prog.funcs[f]? = some fn) :
    true = Tryd.pinned.checked.prog.looks []∧∀ (j:Nat) t,fn.params[j]? = some t→Tryd.pinned.checked.prog.wantsStandIn t = false := by
  obtain rfl : f = 4 := Option.some.inj ((show Tryd.prog.funcNamed "arraylang/arraylanglaw08.TokenReserves" = some 4 by kernel_rfl).symm.trans hf) |>.symm
  obtain rfl:fn = Tryd.f4 := (Option.some.inj (Tryd.func4.symm.trans hfn)).symm
  refine ⟨by kernel_rfl,fun j t ht => ?_⟩
  rw [Tryd.params4] at ht
  have hm:t ∈ [9] := by simpa using Array.mem_of_getElem? ht
  simp only [List.mem_cons,List.not_mem_nil,or_false,or_self] at hm
  subst hm
  exact (show Tryd.prog.wantsStandIn 9 = false by kernel_rfl)
theorem provedTokenReserves:Rows.TokenReservesCardSaid :=
  Claim7.holds_tied_plain_at .later [] _ _ _ _ said2 (fun _ h => by cases h) (by kernel_rfl) (fun _ h => by cases h) tokenReserves_row_tie rfl ⟨rfl,rfl⟩ (by kernel_rfl) rfl plain2 (by kernel_rfl)
end Go.Proofs.YtfldjfpcefcjdaaDoor
