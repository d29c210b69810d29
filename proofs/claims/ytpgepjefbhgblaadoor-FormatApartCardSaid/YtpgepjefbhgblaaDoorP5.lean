/- For every two arrays, the law FormatApart of arraylanglaw05 returns true and leaves its argument as it was; the three listed tables of the library hold what the program's text lays in them (the card ties them). -/
import Derived.Test.YtpgepjefbhgblaaDoorP4
namespace Go.Proofs.YtpgepjefbhgblaaDoor
open Go Go.Ab Go.RowKit
set_option maxRecDepth 100000
theorem laid_met2 (os : Os) : laidMet Tryd.prog laidL ((laidWorld os).forCall (fun _ _ => 0) ⟨#[], #[arr0, arr0], []⟩).memory :=
  laidMet_of_run' 8 (by kernel_rfl) (by kernel_rfl)
theorem reads2 (os : Os) {H : Type} (enc : TypeId × Value → H) : ∃ x, DataW.whole enc Tryd.prog ((laidWorld os).forCall (fun _ _ => 0) ⟨#[], #[arr0, arr0], []⟩).memory [26, 26] [] false #[arr0, arr0].toList 8 = some x :=
  Option.isSome_iff_exists.1 (by kernel_rfl)
theorem contract2 {k : FuncId} {fn : Func} {s : ChangeSpec} {H : Type} {enc : TypeId × Value → H} (hp : fn.params = #[26, 26]) (hrt : fn.resultTypes = #[4]) (hvars : s.vars = []) (hs : ∀ ds : List (DataW H), ds.length = 2 → (s.fn H ds).results = [.lit (.bool true)] ∧ (s.fn H ds).args = ds ∧ (s.fn H ds).vars = [])
    (law : ∀ a b : Arr, a.ok → b.ok → ACalls Tryd.prog k [.agg a.row1, .agg b.row1] ⟨[], []⟩ (SpecR (sC [.agg a.row1, .agg b.row1] (.bool true)) ()))
    (W : World) (base : Nat) (args : Array Value) (ds gs : List (DataW H)) (before : List MemPlace)
    (hval : ∀ (j : Nat) t v, fn.params[j]? = some t → args[j]? = some v → Value.okWide Tryd.prog W .any base t v)
    (hW : DataW.Whole enc Tryd.prog fn.params.toList s.vars false W args.toList ds gs before) (hL : laidMetH Tryd.prog laidL W) :
    Calls Tryd.prog k args W fun e W' => ∃ v, e = .returned v ∧ s.post enc Tryd.prog fn false true false false W args v W' := by
  refine law_contract (rs := [(26, RArr), (26, RArr)]) laid (by rw [hp]; kernel_rfl) hvars (fun ds hd => hs ds (by rw [hp] at hd; exact hd)) hrt Tryd.underlying4 (by rw [hp]; rfl) ?_ W (g0_laid hL) base args ds gs before hval hW ?_
  · intro r hr
    simp only [List.mem_cons, List.not_mem_nil, or_false, or_self] at hr
    subst hr
    exact fun W n hG => read_arr W n hG
  · intro Ds h
    obtain ⟨cs, _, rfl, h1, h⟩ := h.agg (by kernel_rfl)
    obtain ⟨cs2, _, rfl, h2, h⟩ := h.agg (by kernel_rfl)
    obtain rfl := h.nil
    obtain ⟨a, ha, rfl⟩ := h1
    obtain ⟨b, hb, rfl⟩ := h2
    have h2 := ACalls.wkArgs (ds := [.agg a.row, .agg b.row]) (law a b ha hb) (by simp only [wkL, wkD]; exact ⟨row_wk _, row_wk _, trivial⟩)
    exact h2.mono fun r S' ⟨_, _, hr, _⟩ => hr
theorem lifted4 (os : Os) (started : os.Started) (H : Type) (enc : TypeId × Value → H) (F : Stop.Interp) :
    ReturnsInHanded {} Tryd.checked os 6 .any ((OpenSpec.ofChange Rows.formatApartSpec).preRow enc Tryd.prog Tryd.f6 Rows.formatApartRow.domain false Rows.formatApartRow.laid) (((OpenSpec.ofChange Rows.formatApartSpec).at F).post enc Tryd.prog Tryd.f6 false true false false) := by
  obtain ⟨x, hx⟩ := reads2 os enc
  refine returnsInHanded_of_row (C := Tryd.checked) (s := OpenSpec.ofChange Rows.formatApartSpec) own started (by kernel_rfl) Tryd.func6
    (witness_row_at (enc := enc) (C := Tryd.checked) false (laidWorld os) #[arr0, arr0] rfl (by kernel_rfl) (by kernel_rfl) (by kernel_rfl)
      (OpenSpec.preRow_of_cond 8 hx rfl (fun k hk => by cases hk) (by kernel_rfl) (laid_met2 os))) ?_
  intro W base args ds gs before hval hW _ _ _ hL _ _
  exact contract2 rfl rfl rfl (fun ds hd => match ds, hd with
    | [_, _], _ => ⟨rfl, rfl, rfl⟩) law_apart W base args ds gs before hval hW hL
theorem said4 : Rows.FormatApartSaid :=
  OpenClaim.holds_of_cond 6 Tryd.f6 rfl rfl rfl rfl rfl rfl rfl ⟨rfl, rfl, rfl, rfl, rfl⟩ rfl rfl rfl rfl rfl (by kernel_rfl) Tryd.func6 (by kernel_rfl)
    (of_decide_eq_true (by kernel_rfl)) (by unfold Func.isWrapper; first | (rw [if_pos (by decide +kernel)]; kernel_rfl) | (rw [if_neg (by decide +kernel)]; exact ⟨rfl, rfl⟩))
    (fun os started H enc _ F => by rw [OpenClaim.pre_eq_preRow]; exact lifted4 os started H enc F)
theorem plain4 (f : FuncId) (fn : Func) (hf : Tryd.pinned.checked.prog.funcNamed "arraylang/arraylanglaw05.FormatApart" = some f) (hfn : Tryd.pinned.checked.prog.funcs[f]? = some fn) :
    false = Tryd.pinned.checked.prog.looks [] ∧ ∀ (j : Nat) t, fn.params[j]? = some t → Tryd.pinned.checked.prog.wantsStandIn t = false := by
  obtain rfl : f = 6 := Option.some.inj ((show Tryd.prog.funcNamed "arraylang/arraylanglaw05.FormatApart" = some 6 by kernel_rfl).symm.trans hf) |>.symm
  obtain rfl : fn = Tryd.f6 := (Option.some.inj (Tryd.func6.symm.trans hfn)).symm
  refine ⟨by kernel_rfl, fun j t ht => ?_⟩
  rw [Tryd.params6] at ht
  have hm : t ∈ [26, 26] := by simpa using Array.mem_of_getElem? ht
  obtain rfl : t = 26 := by simpa using hm
  exact (show Tryd.prog.wantsStandIn 26 = false by kernel_rfl)
theorem provedApart : Rows.FormatApartCardSaid :=
  Claim7.holds_tied_plain_at .later [] _ _ _ _ said4 (fun _ h => by cases h) (by kernel_rfl) (fun _ h => by cases h) formatApart_row_tie rfl ⟨rfl, rfl⟩ (by kernel_rfl) rfl plain4 (by kernel_rfl)
end Go.Proofs.YtpgepjefbhgblaaDoor
