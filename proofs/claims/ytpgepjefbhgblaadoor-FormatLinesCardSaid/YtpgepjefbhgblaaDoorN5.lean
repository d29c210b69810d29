/- For every array, the law FormatLines of arraylanglaw05 returns true and leaves its argument as it was; the three listed tables of the library hold what the program's text lays in them (the card ties them). -/
import Derived.Test.YtpgepjefbhgblaaDoorN4
namespace Go.Proofs.YtpgepjefbhgblaaDoor
open Go Go.Ab Go.RowKit
set_option maxRecDepth 100000
theorem lifted2 (os : Os) (started : os.Started) (H : Type) (enc : TypeId × Value → H) (F : Stop.Interp) :
    ReturnsInHanded {} Tryd.checked os 4 .any ((OpenSpec.ofChange Rows.formatLinesSpec).preRow enc Tryd.prog Tryd.f4 Rows.formatLinesRow.domain false Rows.formatLinesRow.laid) (((OpenSpec.ofChange Rows.formatLinesSpec).at F).post enc Tryd.prog Tryd.f4 false true false false) := by
  obtain ⟨x, hx⟩ := reads1 os enc
  refine returnsInHanded_of_row (C := Tryd.checked) (s := OpenSpec.ofChange Rows.formatLinesSpec) own started (by kernel_rfl) Tryd.func4
    (witness_row_at (enc := enc) (C := Tryd.checked) false (laidWorld os) #[arr0] rfl (by kernel_rfl) (by kernel_rfl) (by kernel_rfl)
      (OpenSpec.preRow_of_cond 8 hx rfl (fun k hk => by cases hk) (by kernel_rfl) (laid_met1 os))) ?_
  intro W base args ds gs before hval hW _ _ _ hL _ _
  exact contract1 rfl rfl rfl (fun ds hd => match ds, hd with
    | [_], _ => ⟨rfl, rfl, rfl⟩) law_lines W base args ds gs before hval hW hL
theorem said2 : Rows.FormatLinesSaid :=
  OpenClaim.holds_of_cond 4 Tryd.f4 rfl rfl rfl rfl rfl rfl rfl ⟨rfl, rfl, rfl, rfl, rfl⟩ rfl rfl rfl rfl rfl (by kernel_rfl) Tryd.func4 (by kernel_rfl)
    (of_decide_eq_true (by kernel_rfl)) (by unfold Func.isWrapper; first | (rw [if_pos (by decide +kernel)]; kernel_rfl) | (rw [if_neg (by decide +kernel)]; exact ⟨rfl, rfl⟩))
    (fun os started H enc _ F => by rw [OpenClaim.pre_eq_preRow]; exact lifted2 os started H enc F)
theorem plain2 (f : FuncId) (fn : Func) (hf : Tryd.pinned.checked.prog.funcNamed "arraylang/arraylanglaw05.FormatLines" = some f) (hfn : Tryd.pinned.checked.prog.funcs[f]? = some fn) :
    false = Tryd.pinned.checked.prog.looks [] ∧ ∀ (j : Nat) t, fn.params[j]? = some t → Tryd.pinned.checked.prog.wantsStandIn t = false := by
  obtain rfl : f = 4 := Option.some.inj ((show Tryd.prog.funcNamed "arraylang/arraylanglaw05.FormatLines" = some 4 by kernel_rfl).symm.trans hf) |>.symm
  obtain rfl : fn = Tryd.f4 := (Option.some.inj (Tryd.func4.symm.trans hfn)).symm
  refine ⟨by kernel_rfl, fun j t ht => ?_⟩
  rw [Tryd.params4] at ht
  have hm : t ∈ [26] := by simpa using Array.mem_of_getElem? ht
  obtain rfl : t = 26 := List.mem_singleton.1 hm
  exact (show Tryd.prog.wantsStandIn 26 = false by kernel_rfl)
theorem provedLines : Rows.FormatLinesCardSaid :=
  Claim7.holds_tied_plain_at .later [] _ _ _ _ said2 (fun _ h => by cases h) (by kernel_rfl) (fun _ h => by cases h) formatLines_row_tie rfl ⟨rfl, rfl⟩ (by kernel_rfl) rfl plain2 (by kernel_rfl)
end Go.Proofs.YtpgepjefbhgblaaDoor
