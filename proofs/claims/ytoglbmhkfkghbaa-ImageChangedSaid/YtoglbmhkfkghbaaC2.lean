/- Functions of the given program and what each of them computes: lemmas towards the statement, their conditions stated with each of them. -/
import Derived.Test.YtoglbmhkfkghbaaC1
namespace Go.Proofs.Ytoglbmhkfkghbaa
open Go Go.Ab

/-! ### arrays: the walk of validity -/
def visSt (xb : Nat) : St := ⟨[(1, xb, .cells [.fn (.func 56) [] [.ref 1 xb 0]])], []⟩
def visD (a : Arr) : D := .tup [.int .i64 (chkA a).1, .int .i64 (chkA a).2.1, .int .i64 (chkA a).2.2]
noncomputable def Enum : Senv := EC con0 9 1 [2] (fun _ => ([], []))
theorem num_ok (z : Int) : ACalls Try.prog 58 [.int .i64 z] ⟨[], []⟩ (SpecR (sC [.int .i64 z] (.bool (numB z))) ()) := by
  refine con_of (A := sC _ _) (x := ()) (E := Enum) (eOk con0_ok rfl) Try.func58 rfl (by kernel_rfl) rfl (by simp [sC, Enum, EC, E0]) ?_
  refine vc_eq (T :=
      ifB (decide ((-4611686018427387903 : Int) ≤ z)) ((decide (z ≤ (4611686018427387903 : Int)) = bif decide ((-4611686018427387903 : Int) ≤ z) then decide (z ≤ (4611686018427387903 : Int)) else false) ∧ True) ((false =
      bif decide ((-4611686018427387903 : Int) ≤ z) then decide (z ≤ (4611686018427387903 : Int)) else false) ∧ True) ∧ True ∧ ∃ (y : Unit), True ∧ (bif decide ((-4611686018427387903 : Int) ≤ z) then decide (z ≤
      (4611686018427387903 : Int)) else false) = numB z ∧ True ∧ True) (by kernel_rfl) ?_
  simp only [ifB_iff, decide_eq_true_eq, decide_eq_false_iff_not, true_and, and_true, Bool.cond_false_right, exists_const]
  refine ⟨⟨fun h => by rw [decide_eq_true h]; rfl, fun h => by rw [decide_eq_false h]; rfl⟩, rfl⟩
noncomputable def Echr : Senv := EC con0 17 1 [2] (fun _ => ([], []))
theorem chr_ok (z : Int) : ACalls Try.prog 59 [.int .i64 z] ⟨[], []⟩ (SpecR (sC [.int .i64 z] (.bool (chrB z))) ()) := by
  refine con_of (A := sC _ _) (x := ()) (E := Echr) (eOk con0_ok rfl) Try.func59 rfl (by kernel_rfl) rfl (by simp [sC, Echr, EC, E0]) ?_
  refine vc_eq (T :=
      ifB (decide (Z0 ≤ z)) (ifB (decide (z ≤ (1114111 : Int))) (ifB (decide (z < (55296 : Int))) ((true = bif bif decide (Z0 ≤ z) then decide (z ≤ (1114111 : Int)) else false then bif decide (z < (55296 : Int)) then
      true else decide ((57343 : Int) < z) else false) ∧ True) ((decide ((57343 : Int) < z) = bif bif decide (Z0 ≤ z) then decide (z ≤ (1114111 : Int)) else false then bif decide (z < (55296 : Int)) then true else decide
      ((57343 : Int) < z) else false) ∧ True)) ((false = bif bif decide (Z0 ≤ z) then decide (z ≤ (1114111 : Int)) else false then bif decide (z < (55296 : Int)) then true else decide ((57343 : Int) < z) else false) ∧
      True)) ((false = bif bif decide (Z0 ≤ z) then decide (z ≤ (1114111 : Int)) else false then bif decide (z < (55296 : Int)) then true else decide ((57343 : Int) < z) else false) ∧ True) ∧ True ∧ ∃ (y : Unit), True ∧
      (bif bif decide (Z0 ≤ z) then decide (z ≤ (1114111 : Int)) else false then bif decide (z < (55296 : Int)) then true else decide ((57343 : Int) < z) else false) = chrB z ∧ True ∧ True) (by kernel_rfl) ?_
  delta Z0
  simp only [ifB_iff, decide_eq_true_eq, decide_eq_false_iff_not, true_and, and_true, Bool.cond_false_right, Bool.cond_true_left, exists_const]
  refine ⟨⟨fun h1 => ⟨fun h2 => ⟨fun h3 => by simp [h1, h2, h3], fun h3 => by simp [h1, h2, h3]⟩, fun h2 => by simp [h1, h2]⟩, fun h1 => by simp [h1]⟩, rfl⟩
/-- The contract of the recursive closure. -/
def sVis (row : Arr → List D) (xb : Nat) (q : Arr → Prop) : FnSpec where
  β := Arr
  α := Unit
  args := fun a => [.agg (row a), .ref 1 xb 0]
  st := fun _ => ⟨[(1, xb, .cells [.fn (.func 56) [] [.ref 1 xb 0]])], []⟩
  pre := q
  post := fun _ _ => True
  res := fun a _ => .ret (.tup [.int .i64 (chkA a).1, .int .i64 (chkA a).2.1, .int .i64 (chkA a).2.2])
  out := fun _ _ => ⟨[(1, xb, .cells [.fn (.func 56) [] [.ref 1 xb 0]])], []⟩
def conVis (xb : Nat) (its : List Arr) : Con := fun k ds S => match k with
  | 56 => some (sVis Arr.row1 xb (fun b => b ∈ its))
  | 57 => match ds with
    | [.agg [.int .i64 k, .sl 1 n f _, .sl 1 nn g _, .sl 4 ni h _]] => some (pC ds (.int .i64 (formS k (intsD n f) nn ni)) (IntsP n f ∧ n ≤ maxLen ∧ nn ≤ maxLen ∧ ni ≤ maxLen))
    | _ => none
  | 58 => match ds with
    | [.int .i64 z] => some (pC [.int .i64 z] (.bool (numB z)) True)
    | _ => none
  | 59 => match ds with
    | [.int .i64 z] => some (pC [.int .i64 z] (.bool (chrB z)) True)
    | _ => none
  | k => conAr k ds S
theorem conVis_ok {xb : Nat} {its : List Arr} (ih : ∀ b ∈ its, ACalls Try.prog 56 ((sVis Arr.row2 xb (fun _ => True)).args b) ((sVis Arr.row2 xb (fun _ => True)).st b) (SpecR (sVis Arr.row2 xb (fun _ => True)) b)) : ConOk Try.prog (conVis xb its) := by
  intro k ds S A h
  unfold conVis at h
  split at h
  · injection h with h; subst h
    refine ConOk.plain (fun b hb => ?_) rfl rfl
    refine ((ih b hb).wkArgs ?_).mono fun _ _ ⟨y, h1, h2, h3⟩ => ⟨y, h1, h2, h3⟩
    simp only [sVis, wkL, wkD]
    exact ⟨row1_wk b, by simp [weakD, chk_iff]⟩
  · split at h
    · rename_i k n f _ nn g _ ni g' _
      injection h with h; subst h
      refine pC_ok fun ⟨h1, h2, h3, h4⟩ => ⟨weakL_refl _, sC_weak (us := [.agg [.int .i64 k, isl (intsD n f) .any, .sl 1 nn g .any, .sl 4 ni g' .any]]) ?_ (form_ok _ _ _ _ _ _ (by rw [intsD_len]; exact h2) h3 h4)⟩
      refine ⟨?_, trivial⟩
      simp only [weakD, weakL]
      refine ⟨by simp [chk_iff, kEq], (isl_weak h1).1, ?_, ?_, trivial⟩
      · simp [chk_iff, weakM]
      · simp [chk_iff, weakM]
    · cases h
  · split at h
    · injection h with h; subst h
      exact pC_ok fun _ => ⟨weakL_refl _, num_ok _⟩
    · cases h
  · split at h
    · injection h with h; subst h
      exact pC_ok fun _ => ⟨weakL_refl _, chr_ok _⟩
    · cases h
  · exact conAr_ok _ _ _ _ h
theorem chkA_eq (a : Arr) : chkA a = if formS a.k a.sh a.nu.length a.it.length ≠ 0 then (formS a.k a.sh a.nu.length a.it.length, 0, 0)
    else if a.nu.any (badK a.k) then (17, 0, 0)
    else match chkL a.it 0 ((a.nu.length : Int) + a.it.length) with
      | none => (17, 0, 0)
      | some r => if 16 < r.1 ∨ 262144 < r.2 then (21, 0, 0) else (0, r.1, r.2) := by
  cases a with
  | mk k s n is => rw [chkA]; rfl
theorem sizeS_le {s : List Int} : sizeS s ≤ 65536 := by
  unfold sizeS
  split
  · omega
  · cases hg : goO s 1 with
    | none => simp
    | some p => have := goO_le s 1 (by omega) p hg; simpa using this
theorem form_small {k : Int} {s : List Int} {nn ni : Nat} (h : formS k s nn ni = 0) : nn ≤ 65536 ∧ ni ≤ 65536 := by
  have hs := sizeS_le (s := s)
  unfold formS at h
  by_cases hk : k = 1 ∨ k = 2 ∨ k = 3
  · rw [if_pos hk] at h
    by_cases hd : dimsS s ≠ 0
    · rw [if_pos hd] at h; exact (hd h).elim
    · rw [if_neg hd] at h
      by_cases hc : ((if k = 3 then (ni : Int) else nn) ≠ sizeS s) ∨ ((if k = 3 then (nn : Int) else ni) ≠ 0)
      · rw [if_pos hc] at h; omega
      · simp only [not_or, ne_eq, Decidable.not_not] at hc
        obtain ⟨c1, c2⟩ := hc
        by_cases k3 : k = 3 <;> simp only [k3, if_true, if_false] at c1 c2 <;> omega
  · rw [if_neg hk] at h; omega
theorem mem_getD {α : Type} [Inhabited α] {l : List α} {i : Nat} (h : i < l.length) : l.getD i default ∈ l := by
  rw [List.getD_eq_getElem?_getD, List.getElem?_eq_getElem h]; exact List.getElem_mem h
def cutV (k : Int) (d8 : D) (S : St) : Option LoopAnn :=
  match d8 with
  | .int _ z => some { slots := [45], keep := [], α := Unit, st := fun _ => ([.bool (badK k z)], S), inv := fun _ => True, mu := fun _ => 0 }
  | _ => none
noncomputable def Evis (xb : Nat) (a : Arr) : Senv := { EC (conVis xb a.it) 87 7 [8, 9, 10, 12, 13, 14, 15, 19, 22, 23, 24, 25, 45, 55, 56, 57, 58, 69, 84] (fun id => match id with | 10 => ([0, 1, 2, 3, 4, 5, 6, 7, 8], []) | _ => ([], [])) with
  cut := fun id env S => match id with
    | 7 => cutV a.k (Ab.look env 8) S
    | _ => none
  ann := fun b _ S => match b with
    | 0 => some { slots := [24], keep := [0, 1, 2, 22, 23], α := Nat, st := fun i => ([.int .i64 i], S), inv := fun i => i ≤ a.nu.length ∧ ∀ z ∈ a.nu.take i, badK a.k z = false, mu := fun i => a.nu.length - i }
    | 2 => some { slots := [57, 9, 10], keep := [0, 1, 2, 55, 56], α := Nat × Int × Int, st := fun y => ([.int .i64 y.1, .int .i64 y.2.1, .int .i64 y.2.2], S), inv := fun y => y.1 ≤ a.it.length ∧ 0 ≤ y.2.1 ∧ y.2.1 ≤ 17 ∧ 0 ≤ y.2.2 ∧ y.2.2 ≤ 262145 ∧ chkL (a.it.drop y.1) y.2.1 y.2.2 = chkL a.it 0 ((a.nu.length : Int) + a.it.length), mu := fun y => a.it.length - y.1 }
    | _ => none }
theorem vis_step (xb : Nat) (a : Arr) (ha : a.nu.length ≤ maxLen ∧ a.it.length ≤ maxLen ∧ a.sh.length ≤ maxLen) (ih : ∀ b ∈ a.it, ACalls Try.prog 56 ((sVis Arr.row2 xb (fun _ => True)).args b) ((sVis Arr.row2 xb (fun _ => True)).st b) (SpecR (sVis Arr.row2 xb (fun _ => True)) b)) :
    ACalls Try.prog 56 ((sVis Arr.row2 xb (fun _ => True)).args a) ((sVis Arr.row2 xb (fun _ => True)).st a) (SpecR (sVis Arr.row2 xb (fun _ => True)) a) := by
  refine con_of (A := sVis Arr.row2 xb (fun _ => True)) (x := a) (E := Evis xb a) (eOk (conVis_ok ih) rfl) Try.func56 rfl (by kernel_rfl) rfl (by simp [sVis, Evis, EC, E0]) ?_
  refine vc_eq (T :=
      ∀ (x : Nat), xb ≠ x ∧ True → SM x ∧ ((IntsP (LN (Arr.sh a)) fun (i : Nat) => [ZI (GI (Arr.sh a) i)]) ∧ LN (Arr.sh a) ≤ (9223372036854775807 : Nat) ∧ LN (Arr.nu a) ≤ (9223372036854775807 : Nat) ∧ LN (Arr.it a) ≤
      (9223372036854775807 : Nat)) ∧ ∀ (y : Unit), True → ifB (formS (Arr.k a) (intsD (LN (Arr.sh a)) fun (i : Nat) => [ZI (GI (Arr.sh a) i)]) (LN (Arr.nu a)) (LN (Arr.it a)) != Z0) (True ∧ ∃ (y : Unit), True ∧ (formS
      (Arr.k a) (intsD (LN (Arr.sh a)) fun (i : Nat) => [ZI (GI (Arr.sh a) i)]) (LN (Arr.nu a)) (LN (Arr.it a)) = Prod.fst (chkA a) ∧ Z0 = Prod.fst (Prod.snd (chkA a)) ∧ Z0 = Prod.snd (Prod.snd (chkA a)) ∧ True) ∧ (SM xb
      ∧ (SM (D.fn (Fn.func (56 : Nat)) [] [D.ref N1 xb N0]) ∧ True) ∧ True) ∧ True) (SM x ∧ (∃ (x_1 : Nat), (x_1 ≤ LN (Arr.nu a) ∧ ∀ (z : Int), z ∈ List.take x_1 (Arr.nu a) → badK (Arr.k a) z = false) ∧ (Z0 = (↑x_1 :
      Int) ∧ True) ∧ (SM x ∧ (SM (Arr.k a) ∧ (SM (LN (Arr.sh a)) ∧ (∀ (i : Nat), i < LN (Arr.sh a) → SM [ZI (GI (Arr.sh a) i)]) ∧ True) ∧ (SM (LN (Arr.nu a)) ∧ (∀ (i : Nat), i < LN (Arr.nu a) → SM [ZI (GI (Arr.nu a) i)])
      ∧ True) ∧ (SM (LN (Arr.it a)) ∧ (∀ (i : Nat), i < LN (Arr.it a) → SM [ZI (Arr.k (GA (Arr.it a) i)), SI (Arr.sh (GA (Arr.it a) i)), SI (Arr.nu (GA (Arr.it a) i)), D.sl N4 (LN (Arr.it (GA (Arr.it a) i))) (fun (i_1 :
      Nat) => Arr.row (GA (Arr.it (GA (Arr.it a) i)) i_1)) Mode.any]) ∧ True) ∧ True) ∧ SM xb ∧ (SM (D.fn (Fn.func (56 : Nat)) [] [D.ref N1 xb N0]) ∧ True) ∧ True) ∧ True) ∧ ∀ (x_1 : Nat), (x_1 ≤ LN (Arr.nu a) ∧ ∀ (z :
      Int), z ∈ List.take x_1 (Arr.nu a) → badK (Arr.k a) z = false) → ifB (decide ((↑x_1 : Int) < (LI (Arr.nu a)))) (side (Z0 ≤ (↑x_1 : Int) ∧ (↑x_1 : Int) < (LI (Arr.nu a))) ((SM x ∧ ifB (Arr.k a == Z1) (True ∧ ∀ (y :
      Unit), True → ifB (!numB (GI (Arr.nu a) (Int.toNat (↑x_1 : Int)))) (∃ (x_2 : Unit), True ∧ (true = badK (Arr.k a) (GI (Arr.nu a) (Int.toNat (↑x_1 : Int))) ∧ True) ∧ (SM x ∧ (SM (Arr.k a) ∧ (SM (LN (Arr.sh a)) ∧ (∀
      (i : Nat), i < LN (Arr.sh a) → SM [ZI (GI (Arr.sh a) i)]) ∧ True) ∧ (SM (LN (Arr.nu a)) ∧ (∀ (i : Nat), i < LN (Arr.nu a) → SM [ZI (GI (Arr.nu a) i)]) ∧ True) ∧ (SM (LN (Arr.it a)) ∧ (∀ (i : Nat), i < LN (Arr.it a)
      → SM [ZI (Arr.k (GA (Arr.it a) i)), SI (Arr.sh (GA (Arr.it a) i)), SI (Arr.nu (GA (Arr.it a) i)), D.sl N4 (LN (Arr.it (GA (Arr.it a) i))) (fun (i_1 : Nat) => Arr.row (GA (Arr.it (GA (Arr.it a) i)) i_1)) Mode.any])
      ∧ True) ∧ True) ∧ SM xb ∧ (SM (D.fn (Fn.func (56 : Nat)) [] [D.ref N1 xb N0]) ∧ True) ∧ True) ∧ True) (SM x ∧ ifB (Arr.k a == (2 : Int)) (True ∧ ∀ (y : Unit), True → ∃ (x_2 : Unit), True ∧ ((!chrB (GI (Arr.nu a)
      (Int.toNat (↑x_1 : Int)))) = badK (Arr.k a) (GI (Arr.nu a) (Int.toNat (↑x_1 : Int))) ∧ True) ∧ (SM x ∧ (SM (Arr.k a) ∧ (SM (LN (Arr.sh a)) ∧ (∀ (i : Nat), i < LN (Arr.sh a) → SM [ZI (GI (Arr.sh a) i)]) ∧ True) ∧
      (SM (LN (Arr.nu a)) ∧ (∀ (i : Nat), i < LN (Arr.nu a) → SM [ZI (GI (Arr.nu a) i)]) ∧ True) ∧ (SM (LN (Arr.it a)) ∧ (∀ (i : Nat), i < LN (Arr.it a) → SM [ZI (Arr.k (GA (Arr.it a) i)), SI (Arr.sh (GA (Arr.it a) i)),
      SI (Arr.nu (GA (Arr.it a) i)), D.sl N4 (LN (Arr.it (GA (Arr.it a) i))) (fun (i_1 : Nat) => Arr.row (GA (Arr.it (GA (Arr.it a) i)) i_1)) Mode.any]) ∧ True) ∧ True) ∧ SM xb ∧ (SM (D.fn (Fn.func (56 : Nat)) [] [D.ref
      N1 xb N0]) ∧ True) ∧ True) ∧ True) (∃ (x_2 : Unit), True ∧ (false = badK (Arr.k a) (GI (Arr.nu a) (Int.toNat (↑x_1 : Int))) ∧ True) ∧ (SM x ∧ (SM (Arr.k a) ∧ (SM (LN (Arr.sh a)) ∧ (∀ (i : Nat), i < LN (Arr.sh a) →
      SM [ZI (GI (Arr.sh a) i)]) ∧ True) ∧ (SM (LN (Arr.nu a)) ∧ (∀ (i : Nat), i < LN (Arr.nu a) → SM [ZI (GI (Arr.nu a) i)]) ∧ True) ∧ (SM (LN (Arr.it a)) ∧ (∀ (i : Nat), i < LN (Arr.it a) → SM [ZI (Arr.k (GA (Arr.it a)
      i)), SI (Arr.sh (GA (Arr.it a) i)), SI (Arr.nu (GA (Arr.it a) i)), D.sl N4 (LN (Arr.it (GA (Arr.it a) i))) (fun (i_1 : Nat) => Arr.row (GA (Arr.it (GA (Arr.it a) i)) i_1)) Mode.any]) ∧ True) ∧ True) ∧ SM xb ∧ (SM
      (D.fn (Fn.func (56 : Nat)) [] [D.ref N1 xb N0]) ∧ True) ∧ True) ∧ True))) (SM x ∧ ifB (Arr.k a == (2 : Int)) (True ∧ ∀ (y : Unit), True → ∃ (x_2 : Unit), True ∧ ((!chrB (GI (Arr.nu a) (Int.toNat (↑x_1 : Int)))) =
      badK (Arr.k a) (GI (Arr.nu a) (Int.toNat (↑x_1 : Int))) ∧ True) ∧ (SM x ∧ (SM (Arr.k a) ∧ (SM (LN (Arr.sh a)) ∧ (∀ (i : Nat), i < LN (Arr.sh a) → SM [ZI (GI (Arr.sh a) i)]) ∧ True) ∧ (SM (LN (Arr.nu a)) ∧ (∀ (i :
      Nat), i < LN (Arr.nu a) → SM [ZI (GI (Arr.nu a) i)]) ∧ True) ∧ (SM (LN (Arr.it a)) ∧ (∀ (i : Nat), i < LN (Arr.it a) → SM [ZI (Arr.k (GA (Arr.it a) i)), SI (Arr.sh (GA (Arr.it a) i)), SI (Arr.nu (GA (Arr.it a) i)),
      D.sl N4 (LN (Arr.it (GA (Arr.it a) i))) (fun (i_1 : Nat) => Arr.row (GA (Arr.it (GA (Arr.it a) i)) i_1)) Mode.any]) ∧ True) ∧ True) ∧ SM xb ∧ (SM (D.fn (Fn.func (56 : Nat)) [] [D.ref N1 xb N0]) ∧ True) ∧ True) ∧
      True) (∃ (x_2 : Unit), True ∧ (false = badK (Arr.k a) (GI (Arr.nu a) (Int.toNat (↑x_1 : Int))) ∧ True) ∧ (SM x ∧ (SM (Arr.k a) ∧ (SM (LN (Arr.sh a)) ∧ (∀ (i : Nat), i < LN (Arr.sh a) → SM [ZI (GI (Arr.sh a) i)]) ∧
      True) ∧ (SM (LN (Arr.nu a)) ∧ (∀ (i : Nat), i < LN (Arr.nu a) → SM [ZI (GI (Arr.nu a) i)]) ∧ True) ∧ (SM (LN (Arr.it a)) ∧ (∀ (i : Nat), i < LN (Arr.it a) → SM [ZI (Arr.k (GA (Arr.it a) i)), SI (Arr.sh (GA (Arr.it
      a) i)), SI (Arr.nu (GA (Arr.it a) i)), D.sl N4 (LN (Arr.it (GA (Arr.it a) i))) (fun (i_1 : Nat) => Arr.row (GA (Arr.it (GA (Arr.it a) i)) i_1)) Mode.any]) ∧ True) ∧ True) ∧ SM xb ∧ (SM (D.fn (Fn.func (56 : Nat)) []
      [D.ref N1 xb N0]) ∧ True) ∧ True) ∧ True))) ∧ ∀ (x_2 : Unit), True → ifB (badK (Arr.k a) (GI (Arr.nu a) (Int.toNat (↑x_1 : Int)))) (True ∧ ∃ (y : Unit), True ∧ ((17 : Int) = Prod.fst (chkA a) ∧ Z0 = Prod.fst
      (Prod.snd (chkA a)) ∧ Z0 = Prod.snd (Prod.snd (chkA a)) ∧ True) ∧ (SM xb ∧ (SM (D.fn (Fn.func (56 : Nat)) [] [D.ref N1 xb N0]) ∧ True) ∧ True) ∧ True) ((SM (D.agg [ZI (Arr.k a), SI (Arr.sh a), SI (Arr.nu a), D.sl
      N4 (LN (Arr.it a)) (fun (i : Nat) => [ZI (Arr.k (GA (Arr.it a) i)), SI (Arr.sh (GA (Arr.it a) i)), SI (Arr.nu (GA (Arr.it a) i)), D.sl N4 (LN (Arr.it (GA (Arr.it a) i))) (fun (i_1 : Nat) => Arr.row (GA (Arr.it (GA
      (Arr.it a) i)) i_1)) Mode.any]) Mode.any]) ∧ SM (D.ref N1 xb N0) ∧ SM (D.ref N2 x N0) ∧ SM (SI (Arr.nu a)) ∧ SM (ZI (LI (Arr.nu a))) ∧ True) ∧ ∃ (y : Nat), (y ≤ LN (Arr.nu a) ∧ ∀ (z : Int), z ∈ List.take y (Arr.nu
      a) → badK (Arr.k a) z = false) ∧ LN (Arr.nu a) - y < LN (Arr.nu a) - x_1 ∧ (IntKind.wrap IntKind.i64 ((↑x_1 : Int) + Z1) = (↑y : Int) ∧ True) ∧ (SM x ∧ (SM (Arr.k a) ∧ (SM (LN (Arr.sh a)) ∧ (∀ (i : Nat), i < LN
      (Arr.sh a) → SM [ZI (GI (Arr.sh a) i)]) ∧ True) ∧ (SM (LN (Arr.nu a)) ∧ (∀ (i : Nat), i < LN (Arr.nu a) → SM [ZI (GI (Arr.nu a) i)]) ∧ True) ∧ (SM (LN (Arr.it a)) ∧ (∀ (i : Nat), i < LN (Arr.it a) → SM [ZI (Arr.k
      (GA (Arr.it a) i)), SI (Arr.sh (GA (Arr.it a) i)), SI (Arr.nu (GA (Arr.it a) i)), D.sl N4 (LN (Arr.it (GA (Arr.it a) i))) (fun (i_1 : Nat) => Arr.row (GA (Arr.it (GA (Arr.it a) i)) i_1)) Mode.any]) ∧ True) ∧ True)
      ∧ SM xb ∧ (SM (D.fn (Fn.func (56 : Nat)) [] [D.ref N1 xb N0]) ∧ True) ∧ True) ∧ True))) (SM x ∧ SM x ∧ SM x ∧ (∃ (x_2 : Nat × Int × Int), (x_2.1 ≤ LN (Arr.it a) ∧ Z0 ≤ x_2.2.1 ∧ x_2.2.1 ≤ (17 : Int) ∧ Z0 ≤ x_2.2.2
      ∧ x_2.2.2 ≤ (262145 : Int) ∧ chkL (List.drop x_2.1 (Arr.it a)) x_2.2.1 x_2.2.2 = chkL (Arr.it a) Z0 ((LI (Arr.nu a)) + (LI (Arr.it a)))) ∧ (Z0 = (NI x_2.1) ∧ Z0 = x_2.2.1 ∧ IntKind.wrap IntKind.i64 ((LI (Arr.nu a))
      + (LI (Arr.it a))) = x_2.2.2 ∧ True) ∧ (SM x ∧ (SM (Arr.k a) ∧ (SM (LN (Arr.sh a)) ∧ (∀ (i : Nat), i < LN (Arr.sh a) → SM [ZI (GI (Arr.sh a) i)]) ∧ True) ∧ (SM (LN (Arr.nu a)) ∧ (∀ (i : Nat), i < LN (Arr.nu a) → SM
      [ZI (GI (Arr.nu a) i)]) ∧ True) ∧ (SM (LN (Arr.it a)) ∧ (∀ (i : Nat), i < LN (Arr.it a) → SM [ZI (Arr.k (GA (Arr.it a) i)), SI (Arr.sh (GA (Arr.it a) i)), SI (Arr.nu (GA (Arr.it a) i)), D.sl N4 (LN (Arr.it (GA
      (Arr.it a) i))) (fun (i_1 : Nat) => Arr.row (GA (Arr.it (GA (Arr.it a) i)) i_1)) Mode.any]) ∧ True) ∧ True) ∧ SM xb ∧ (SM (D.fn (Fn.func (56 : Nat)) [] [D.ref N1 xb N0]) ∧ True) ∧ True) ∧ True) ∧ ∀ (x_2 : Nat × Int
      × Int), x_2.1 ≤ LN (Arr.it a) ∧ Z0 ≤ x_2.2.1 ∧ x_2.2.1 ≤ (17 : Int) ∧ Z0 ≤ x_2.2.2 ∧ x_2.2.2 ≤ (262145 : Int) ∧ chkL (List.drop x_2.1 (Arr.it a)) x_2.2.1 x_2.2.2 = chkL (Arr.it a) Z0 ((LI (Arr.nu a)) + (LI (Arr.it
      a))) → ifB (decide ((NI x_2.1) < (LI (Arr.it a)))) (side (Z0 ≤ (NI x_2.1) ∧ (NI x_2.1) < (LI (Arr.it a))) (∀ (x_3 : Nat), x ≠ x_3 ∧ xb ≠ x_3 ∧ True → SM x_3 ∧ SM xb ∧ SM x_3 ∧ ∃ (x_4 : Arr), ((Arr.k (GA (Arr.it a)
      (TN x_2.1)) = Arr.k x_4 ∧ (LN (Arr.sh (GA (Arr.it a) (TN x_2.1))) = LN (Arr.sh x_4) ∧ (∀ (i : Nat), i < LN (Arr.sh (GA (Arr.it a) (TN x_2.1))) → [ZI (GI (Arr.sh (GA (Arr.it a) (TN x_2.1))) i)] = [ZI (GI (Arr.sh
      x_4) i)]) ∧ True) ∧ (LN (Arr.nu (GA (Arr.it a) (TN x_2.1))) = LN (Arr.nu x_4) ∧ (∀ (i : Nat), i < LN (Arr.nu (GA (Arr.it a) (TN x_2.1))) → [ZI (GI (Arr.nu (GA (Arr.it a) (TN x_2.1))) i)] = [ZI (GI (Arr.nu x_4) i)])
      ∧ True) ∧ (LN (Arr.it (GA (Arr.it a) (TN x_2.1))) = LN (Arr.it x_4) ∧ (∀ (i : Nat), i < LN (Arr.it (GA (Arr.it a) (TN x_2.1))) → Arr.row (GA (Arr.it (GA (Arr.it a) (TN x_2.1))) i) = Arr.row (GA (Arr.it x_4) i)) ∧
      True) ∧ True) ∧ SM xb ∧ True) ∧ ((SM xb ∧ (SM (D.fn (Fn.func (56 : Nat)) [] [D.ref N1 xb N0]) ∧ True) ∧ True) ∧ True) ∧ x_4 ∈ Arr.it a ∧ ∀ (y : Unit), True → ifB (Prod.fst (chkA x_4) != Z0) (True ∧ ∃ (y : Unit),
      True ∧ ((17 : Int) = Prod.fst (chkA a) ∧ Z0 = Prod.fst (Prod.snd (chkA a)) ∧ Z0 = Prod.snd (Prod.snd (chkA a)) ∧ True) ∧ (SM xb ∧ (SM (D.fn (Fn.func (56 : Nat)) [] [D.ref N1 xb N0]) ∧ True) ∧ True) ∧ True) ((SM
      (D.agg [ZI (Arr.k a), SI (Arr.sh a), SI (Arr.nu a), D.sl N4 (LN (Arr.it a)) (fun (i : Nat) => [ZI (Arr.k (GA (Arr.it a) i)), SI (Arr.sh (GA (Arr.it a) i)), SI (Arr.nu (GA (Arr.it a) i)), D.sl N4 (LN (Arr.it (GA
      (Arr.it a) i))) (fun (i_1 : Nat) => Arr.row (GA (Arr.it (GA (Arr.it a) i)) i_1)) Mode.any]) Mode.any]) ∧ SM (D.ref N1 xb N0) ∧ SM (D.ref N2 x N0) ∧ SM (D.sl N4 (LN (Arr.it a)) (fun (i : Nat) => [ZI (Arr.k (GA
      (Arr.it a) i)), SI (Arr.sh (GA (Arr.it a) i)), SI (Arr.nu (GA (Arr.it a) i)), D.sl N4 (LN (Arr.it (GA (Arr.it a) i))) (fun (i_1 : Nat) => Arr.row (GA (Arr.it (GA (Arr.it a) i)) i_1)) Mode.any]) Mode.any) ∧ SM (ZI
      (LI (Arr.it a))) ∧ True) ∧ ∃ (y : Nat × Int × Int), (y.1 ≤ LN (Arr.it a) ∧ Z0 ≤ y.2.1 ∧ y.2.1 ≤ (17 : Int) ∧ Z0 ≤ y.2.2 ∧ y.2.2 ≤ (262145 : Int) ∧ chkL (List.drop y.1 (Arr.it a)) y.2.1 y.2.2 = chkL (Arr.it a) Z0
      ((LI (Arr.nu a)) + (LI (Arr.it a)))) ∧ LN (Arr.it a) - y.1 < LN (Arr.it a) - x_2.1 ∧ (IntKind.wrap IntKind.i64 ((NI x_2.1) + Z1) = (NI y.1) ∧ (if x_2.2.1 < IntKind.wrap IntKind.i64 (Prod.fst (Prod.snd (chkA x_4)) +
      Z1) then IntKind.wrap IntKind.i64 (Prod.fst (Prod.snd (chkA x_4)) + Z1) else x_2.2.1) = y.2.1 ∧ (if (262145 : Int) < IntKind.wrap IntKind.i64 (x_2.2.2 + Prod.snd (Prod.snd (chkA x_4))) then (262145 : Int) else
      IntKind.wrap IntKind.i64 (x_2.2.2 + Prod.snd (Prod.snd (chkA x_4)))) = y.2.2 ∧ True) ∧ (SM x ∧ (SM (Arr.k a) ∧ (SM (LN (Arr.sh a)) ∧ (∀ (i : Nat), i < LN (Arr.sh a) → SM [ZI (GI (Arr.sh a) i)]) ∧ True) ∧ (SM (LN
      (Arr.nu a)) ∧ (∀ (i : Nat), i < LN (Arr.nu a) → SM [ZI (GI (Arr.nu a) i)]) ∧ True) ∧ (SM (LN (Arr.it a)) ∧ (∀ (i : Nat), i < LN (Arr.it a) → SM [ZI (Arr.k (GA (Arr.it a) i)), SI (Arr.sh (GA (Arr.it a) i)), SI
      (Arr.nu (GA (Arr.it a) i)), D.sl N4 (LN (Arr.it (GA (Arr.it a) i))) (fun (i_1 : Nat) => Arr.row (GA (Arr.it (GA (Arr.it a) i)) i_1)) Mode.any]) ∧ True) ∧ True) ∧ SM xb ∧ (SM (D.fn (Fn.func (56 : Nat)) [] [D.ref N1
      xb N0]) ∧ True) ∧ True) ∧ True))) (ifB (decide ((16 : Int) < x_2.2.1)) ((true = bif decide ((16 : Int) < x_2.2.1) then true else decide ((262144 : Int) < x_2.2.2)) ∧ True) ((decide ((262144 : Int) < x_2.2.2) = bif
      decide ((16 : Int) < x_2.2.1) then true else decide ((262144 : Int) < x_2.2.2)) ∧ True) ∧ ifB (bif decide ((16 : Int) < x_2.2.1) then true else decide ((262144 : Int) < x_2.2.2)) (True ∧ ∃ (y : Unit), True ∧ ((21 :
      Int) = Prod.fst (chkA a) ∧ Z0 = Prod.fst (Prod.snd (chkA a)) ∧ Z0 = Prod.snd (Prod.snd (chkA a)) ∧ True) ∧ (SM xb ∧ (SM (D.fn (Fn.func (56 : Nat)) [] [D.ref N1 xb N0]) ∧ True) ∧ True) ∧ True) (True ∧ ∃ (y : Unit),
      True ∧ (Z0 = Prod.fst (chkA a) ∧ x_2.2.1 = Prod.fst (Prod.snd (chkA a)) ∧ x_2.2.2 = Prod.snd (Prod.snd (chkA a)) ∧ True) ∧ (SM xb ∧ (SM (D.fn (Fn.func (56 : Nat)) [] [D.ref N1 xb N0]) ∧ True) ∧ True) ∧ True))))) (by kernel_rfl) ?_
  delta DA GA GI LI LN N0 N1 N2 N4 NI SI SM TN Z0 Z1 ZI
  have da : (default : Arr) = Arr.mk 0 [] [] [] := rfl
  simp only [← da, intsD_isl, idxB_any, Int.toNat_natCast, ifB_iff, side_iff, decide_eq_true_eq, decide_eq_false_iff_not, true_and, and_true, beq_iff_eq, bne_iff_ne, Bool.cond_false_right, Bool.cond_true_left, Bool.and_eq_true, Bool.and_eq_false_iff, beq_eq_false_iff_ne, ne_eq, exists_const, forall_const]
  intro x _
  have hA := chkA_eq a
  obtain ⟨l1, l2, l3⟩ := ha
  have tt : (∀ i : Nat, i < a.sh.length → True) ∧ (∀ i : Nat, i < a.nu.length → True) ∧ ∀ i : Nat, i < a.it.length → True := ⟨fun _ _ => trivial, fun _ _ => trivial, fun _ _ => trivial⟩
  refine ⟨⟨intsP_isl _, l3, l1, l2⟩, fun h => ?_, fun h => ⟨⟨0, ⟨Nat.zero_le _, by simp⟩, rfl, tt⟩, fun i hi => ⟨fun hlt => ?_, fun hge => ?_⟩⟩⟩
  · rw [hA, if_pos h]; exact ⟨rfl, rfl, rfl⟩
  · have h0 : formS a.k a.sh a.nu.length a.it.length = 0 := by simpa using h
    have hsm := form_small h0
    have hlt' : i < a.nu.length := by omega
    have hmem : a.nu.getD i 0 ∈ a.nu := by rw [List.getD_eq_getElem?_getD, List.getElem?_eq_getElem hlt']; exact List.getElem_mem hlt'
    have htk : a.nu.take (i + 1) = a.nu.take i ++ [a.nu.getD i 0] := by
      rw [List.take_add_one]; simp [List.getD_eq_getElem?_getD, hlt']
    generalize a.nu.getD i 0 = z at *
    refine ⟨by omega, ?_, fun hb => ?_, fun hb => ⟨i + 1, ⟨by omega, fun y hy => ?_⟩, by omega, wrap_i64' (by omega) (by omega), tt⟩⟩
    · refine ⟨fun k1 => ⟨fun hn => ⟨by simp at hn; simp [badK, k1, hn], tt⟩, fun hn => ⟨fun k2 => by omega, fun k2 => ⟨by simp at hn; simp [badK, k1, hn], tt⟩⟩⟩, fun k1 => ⟨fun k2 => ⟨by simp [badK, k2], tt⟩, fun k2 => ⟨by simp [badK, k1, k2], tt⟩⟩⟩
    · have : a.nu.any (badK a.k) = true := List.any_eq_true.2 ⟨z, hmem, hb⟩
      rw [hA, if_neg (by simp [h0]), if_pos this]
      exact ⟨rfl, rfl, rfl⟩
    · rw [htk, List.mem_append] at hy
      rcases hy with hy | hy
      · exact hi.2 y hy
      · simp at hy; rw [hy]; exact hb
  · have h0 : formS a.k a.sh a.nu.length a.it.length = 0 := by simpa using h
    have hsm := form_small h0
    have hii : i = a.nu.length := by omega
    rw [hii, List.take_length] at hi
    have hany : ¬ a.nu.any (badK a.k) = true := by
      rw [List.any_eq_true]
      rintro ⟨z, hz, hb⟩
      rw [hi.2 z hz] at hb
      cases hb
    rw [if_neg (by simp [h0]), if_neg hany] at hA
    refine ⟨⟨(0, 0, (a.nu.length : Int) + a.it.length), ⟨Nat.zero_le _, Int.le_refl _, by simp, by simp only; omega, by simp only; omega, by simp⟩, ⟨rfl, rfl, wrap_i64' (by omega) (by omega)⟩, tt⟩, ?_⟩
    rintro ⟨j, d, w⟩ ⟨b1, b2, b3, b4, b5, hch⟩
    simp only at b1 b2 b3 b4 b5 hch ⊢
    refine ⟨fun hlt => ⟨by omega, fun x3 _ => ?_⟩, fun hge => ?_⟩
    · have hlt' : j < a.it.length := by omega
      have hbd := chkA_bounds (a.it.getD j default)
      rw [drop_step hlt', chkL] at hch
      refine ⟨a.it.getD j default, ⟨rfl, ⟨rfl, fun _ _ => rfl⟩, ⟨rfl, fun _ _ => rfl⟩, rfl, fun _ _ => rfl⟩, mem_getD hlt', fun herr => ?_, fun hok => ?_⟩
      · rw [if_pos herr] at hch
        rw [← hch] at hA
        rw [hA]
        exact ⟨rfl, rfl, rfl⟩
      · have hok : (chkA (a.it.getD j default)).1 = 0 := by simpa using hok
        rw [if_neg (fun hne => hne hok)] at hch
        have w1 : IntKind.i64.wrap ((chkA (a.it.getD j default)).2.1 + 1) = (chkA (a.it.getD j default)).2.1 + 1 := wrap_i64' (by omega) (by omega)
        have w2 : IntKind.i64.wrap (w + (chkA (a.it.getD j default)).2.2) = w + (chkA (a.it.getD j default)).2.2 := wrap_i64' (by omega) (by omega)
        rw [w1, w2]
        refine ⟨(j + 1, (if d < (chkA (a.it.getD j default)).2.1 + 1 then (chkA (a.it.getD j default)).2.1 + 1 else d), (if 262145 < w + (chkA (a.it.getD j default)).2.2 then 262145 else w + (chkA (a.it.getD j default)).2.2)), ⟨by simp only; omega, ?_, ?_, ?_, ?_, hch⟩, by simp only; omega, ⟨wrap_i64' (by omega) (by omega), rfl, rfl⟩, tt⟩
        · simp only; split <;> omega
        · simp only; split <;> omega
        · simp only; split <;> omega
        · simp only; split <;> omega
    · have hj : j = a.it.length := by omega
      rw [hj, List.drop_length, chkL] at hch
      rw [← hch] at hA
      simp only at hA
      refine ⟨⟨fun h1 => by rw [decide_eq_true h1]; rfl, fun h1 => by rw [decide_eq_false h1]; rfl⟩, fun hc => ?_, fun hc => ?_⟩
      · rw [Bool.or_eq_true, decide_eq_true_eq, decide_eq_true_eq] at hc
        rw [if_pos hc] at hA
        rw [hA]; exact ⟨rfl, rfl, rfl⟩
      · rw [Bool.or_eq_false_iff, decide_eq_false_iff_not, decide_eq_false_iff_not] at hc
        rw [if_neg (by omega)] at hA
        rw [hA]; exact ⟨rfl, rfl, rfl⟩
end Go.Proofs.Ytoglbmhkfkghbaa
namespace Go.Proofs.Ytoglbmhkfkghbaa
open Go Go.Ab

/-! ### array.Right -/
theorem vis_all : ∀ (a : Arr), a.ok → ∀ xb, ACalls Try.prog 56 ((sVis Arr.row2 xb (fun _ => True)).args a) ((sVis Arr.row2 xb (fun _ => True)).st a) (SpecR (sVis Arr.row2 xb (fun _ => True)) a)
  | .mk k s n is, h, xb => by
    have h' := h
    simp only [Arr.ok] at h'
    obtain ⟨_, _, _, h1, h2, h3, h4⟩ := h'
    refine vis_step xb (.mk k s n is) ⟨h2, h3, h1⟩ fun b hb => ?_
    have hb' : b ∈ is := hb
    exact vis_all b ((okL_iff _).1 h4 b hb') xb
termination_by a => SizeOf.sizeOf a
decreasing_by
  have := List.sizeOf_lt_of_mem hb'
  simp; omega
theorem vis1_all (a : Arr) (ha : a.ok) (xb : Nat) (q : Arr → Prop) : ACalls Try.prog 56 ((sVis Arr.row1 xb q).args a) ((sVis Arr.row1 xb q).st a) (SpecR (sVis Arr.row1 xb q) a) := by
  refine ((vis_all a ha xb).wkArgs ?_).mono fun _ _ ⟨y, h1, h2, h3⟩ => ⟨y, h1, h2, h3⟩
  simp only [sVis, wkL, wkD]
  exact ⟨row1_wk a, by simp [weakD, chk_iff]⟩
def conRi (a : Arr) : Con := fun k ds _ => match k with
  | 56 => match ds with
    | [_, .ref _ xb _] => some (sVis Arr.row1 xb (fun b => b = a))
    | _ => none
  | _ => none
theorem conRi_ok {a : Arr} (ha : a.ok) : ConOk Try.prog (conRi a) := by
  intro k ds S A h
  unfold conRi at h
  split at h
  · split at h
    · injection h with h; subst h
      refine ConOk.plain (fun b hb => ?_) rfl rfl
      have hb : b = a := hb
      rw [hb]
      exact vis1_all a ha _ _
    · cases h
  · cases h
noncomputable def Eri (a : Arr) : Senv := EC (conRi a) 16 7 [] (fun _ => ([], []))
theorem ri_ok (a : Arr) (ha : a.ok) : ACalls Try.prog 35 [.agg a.row1] ⟨[], []⟩ (SpecR (sC [.agg a.row1] (.int .i64 (chkA a).1)) ()) := by
  refine con_of (A := sC _ _) (x := ()) (E := Eri a) (eOk (conRi_ok ha) rfl) Try.func35 rfl (by kernel_rfl) rfl (by simp [sC, Eri, EC, E0]) ?_
  refine vc_eq (T :=
      ∀ (x : Nat), True → ∀ (x_1 : Nat), x ≠ x_1 ∧ True → SM x_1 ∧ SM x_1 ∧ SM x ∧ ∃ (x : Arr), ((Arr.k a = Arr.k x ∧ (LN (Arr.sh a) = LN (Arr.sh x) ∧ (∀ (i : Nat), i < LN (Arr.sh a) → [ZI (GI (Arr.sh a) i)] = [ZI (GI
      (Arr.sh x) i)]) ∧ True) ∧ (LN (Arr.nu a) = LN (Arr.nu x) ∧ (∀ (i : Nat), i < LN (Arr.nu a) → [ZI (GI (Arr.nu a) i)] = [ZI (GI (Arr.nu x) i)]) ∧ True) ∧ (LN (Arr.it a) = LN (Arr.it x) ∧ (∀ (i : Nat), i < LN (Arr.it
      a) → Arr.row (GA (Arr.it a) i) = Arr.row (GA (Arr.it x) i)) ∧ True) ∧ True) ∧ SM x_1 ∧ True) ∧ ((SM x_1 ∧ (D.fn (Fn.func (56 : Nat)) [] [D.ref (max (N0 + N1) N0) x_1 N0] = D.fn (Fn.func (56 : Nat)) [] [D.ref N1 x_1
      N0] ∧ True) ∧ True) ∧ True) ∧ x = a ∧ ∀ (y : Unit), True → True ∧ ∃ (y : Unit), True ∧ Prod.fst (chkA x) = Prod.fst (chkA a) ∧ True ∧ True) (by kernel_rfl) ?_
  delta DA GA GI LN N0 N1 SM Z0 ZI
  intro x _ x1 hx
  exact ⟨rfl, rfl, rfl, a, ⟨⟨rfl, ⟨rfl, fun _ _ => rfl, trivial⟩, ⟨rfl, fun _ _ => rfl, trivial⟩, ⟨rfl, fun _ _ => rfl, trivial⟩, trivial⟩, rfl, trivial⟩, ⟨⟨rfl, ⟨rfl, trivial⟩, trivial⟩, trivial⟩, rfl, fun _ _ => ⟨trivial, (), trivial, rfl, trivial, trivial⟩⟩
end Go.Proofs.Ytoglbmhkfkghbaa
namespace Go.Proofs.Ytoglbmhkfkghbaa
open Go Go.Ab

/-! ### arrays, the reference: numbers, sizes, weights -/
noncomputable def Ernum : Senv := EC con0 9 1 [2] (fun _ => ([], []))
theorem rnum_ok (z : Int) : ACalls Try.prog 86 [.int .i64 z] ⟨[], []⟩ (SpecR (sC [.int .i64 z] (.bool (numB z))) ()) := by
  refine con_of (A := sC _ _) (x := ()) (E := Ernum) (eOk con0_ok rfl) Try.func86 rfl (by kernel_rfl) rfl (by simp [sC, Ernum, EC, E0]) ?_
  refine vc_eq (T :=
      ifB (decide ((-4611686018427387903 : Int) ≤ z)) ((decide (z ≤ (4611686018427387903 : Int)) = bif decide ((-4611686018427387903 : Int) ≤ z) then decide (z ≤ (4611686018427387903 : Int)) else false) ∧ True) ((false =
      bif decide ((-4611686018427387903 : Int) ≤ z) then decide (z ≤ (4611686018427387903 : Int)) else false) ∧ True) ∧ True ∧ ∃ (y : Unit), True ∧ (bif decide ((-4611686018427387903 : Int) ≤ z) then decide (z ≤
      (4611686018427387903 : Int)) else false) = numB z ∧ True ∧ True) (by kernel_rfl) ?_
  simp only [ifB_iff, decide_eq_true_eq, decide_eq_false_iff_not, true_and, and_true, Bool.cond_false_right, exists_const]
  refine ⟨⟨fun h => by rw [decide_eq_true h]; rfl, fun h => by rw [decide_eq_false h]; rfl⟩, rfl⟩
noncomputable def Erchr : Senv := EC con0 17 1 [2] (fun _ => ([], []))
theorem rchr_ok (z : Int) : ACalls Try.prog 87 [.int .i64 z] ⟨[], []⟩ (SpecR (sC [.int .i64 z] (.bool (chrB z))) ()) := by
  refine con_of (A := sC _ _) (x := ()) (E := Erchr) (eOk con0_ok rfl) Try.func87 rfl (by kernel_rfl) rfl (by simp [sC, Erchr, EC, E0]) ?_
  refine vc_eq (T :=
      ifB (decide (Z0 ≤ z)) (ifB (decide (z ≤ (1114111 : Int))) (ifB (decide (z < (55296 : Int))) ((true = bif bif decide (Z0 ≤ z) then decide (z ≤ (1114111 : Int)) else false then bif decide (z < (55296 : Int)) then
      true else decide ((57343 : Int) < z) else false) ∧ True) ((decide ((57343 : Int) < z) = bif bif decide (Z0 ≤ z) then decide (z ≤ (1114111 : Int)) else false then bif decide (z < (55296 : Int)) then true else decide
      ((57343 : Int) < z) else false) ∧ True)) ((false = bif bif decide (Z0 ≤ z) then decide (z ≤ (1114111 : Int)) else false then bif decide (z < (55296 : Int)) then true else decide ((57343 : Int) < z) else false) ∧
      True)) ((false = bif bif decide (Z0 ≤ z) then decide (z ≤ (1114111 : Int)) else false then bif decide (z < (55296 : Int)) then true else decide ((57343 : Int) < z) else false) ∧ True) ∧ True ∧ ∃ (y : Unit), True ∧
      (bif bif decide (Z0 ≤ z) then decide (z ≤ (1114111 : Int)) else false then bif decide (z < (55296 : Int)) then true else decide ((57343 : Int) < z) else false) = chrB z ∧ True ∧ True) (by kernel_rfl) ?_
  delta Z0
  simp only [ifB_iff, decide_eq_true_eq, decide_eq_false_iff_not, true_and, and_true, Bool.cond_false_right, Bool.cond_true_left, exists_const]
  refine ⟨⟨fun h1 => ⟨fun h2 => ⟨fun h3 => by simp [h1, h2, h3], fun h3 => by simp [h1, h2, h3]⟩, fun h2 => by simp [h1, h2]⟩, fun h1 => by simp [h1]⟩, rfl⟩
def sizeR (k : Int) (nn ni : Nat) : Int := if k = 1 ∨ k = 2 then nn else if k = 3 then ni else 0
noncomputable def Esz : Senv := EC con0 16 3 [4, 5, 11] (fun _ => ([], []))
theorem sz_ok (k : Int) (ns nn ni : Nat) (f g h : Nat → List D) :
    ACalls Try.prog 84 [.agg [.int .i64 k, .sl 1 ns f .any, .sl 1 nn g .any, .sl 4 ni h .any]] ⟨[], []⟩ (SpecR (sC [.agg [.int .i64 k, .sl 1 ns f .any, .sl 1 nn g .any, .sl 4 ni h .any]] (.int .i64 (sizeR k nn ni))) ()) := by
  refine con_of (A := sC _ _) (x := ()) (E := Esz) (eOk con0_ok rfl) Try.func84 rfl (by kernel_rfl) rfl (by simp [sC, Esz, EC, E0]) ?_
  refine vc_eq (T :=
      ∀ (x : Nat), True → SM x ∧ ifB (k == Z1) (ifB (k == Z1) (SM x ∧ True ∧ ∃ (y : Unit), True ∧ (↑nn : Int) = sizeR k nn ni ∧ True ∧ True) (ifB (k == (3 : Int)) (SM x ∧ True ∧ ∃ (y : Unit), True ∧ (↑ni : Int) = sizeR k
      nn ni ∧ True ∧ True) (True ∧ ∃ (y : Unit), True ∧ Z0 = sizeR k nn ni ∧ True ∧ True))) (ifB (k == (2 : Int)) (SM x ∧ True ∧ ∃ (y : Unit), True ∧ (↑nn : Int) = sizeR k nn ni ∧ True ∧ True) (ifB (k == (3 : Int)) (SM x
      ∧ True ∧ ∃ (y : Unit), True ∧ (↑ni : Int) = sizeR k nn ni ∧ True ∧ True) (True ∧ ∃ (y : Unit), True ∧ Z0 = sizeR k nn ni ∧ True ∧ True)))) (by kernel_rfl) ?_
  delta SM Z0 Z1
  simp only [ifB_iff, side_iff, decide_eq_true_eq, decide_eq_false_iff_not, true_and, and_true, beq_iff_eq, bne_iff_ne, Bool.cond_false_right, Bool.cond_true_left, beq_eq_false_iff_ne, ne_eq, exists_const, forall_const]
  repeat' (first
    | refine And.intro ?_ ?_
    | intro _)
  all_goals first
    | (simp_all [sizeR]; done)
    | grind [sizeR]
    | trace_state
def conRf : Con := fun k ds S => match k with
  | 84 => match ds with
    | [.agg [.int .i64 k, .sl 1 _ _ _, .sl 1 nn _ _, .sl 4 ni _ _]] => some (pC ds (.int .i64 (sizeR k nn ni)) True)
    | _ => none
  | 86 => match ds with
    | [.int .i64 z] => some (pC [.int .i64 z] (.bool (numB z)) True)
    | _ => none
  | 87 => match ds with
    | [.int .i64 z] => some (pC [.int .i64 z] (.bool (chrB z)) True)
    | _ => none
  | k => conAr k ds S
theorem conRf_ok : ConOk Try.prog conRf := by
  intro k ds S A h
  unfold conRf at h
  split at h
  · split at h
    · rename_i k ns f _ nn g _ ni g' _
      injection h with h; subst h
      refine pC_ok fun _ => ⟨weakL_refl _, sC_weak (us := [.agg [.int .i64 k, .sl 1 ns f .any, .sl 1 nn g .any, .sl 4 ni g' .any]]) ?_ (sz_ok _ _ _ _ _ _ _)⟩
      refine ⟨?_, trivial⟩
      simp only [weakD, weakL]
      refine ⟨by simp [chk_iff, kEq], ?_, ?_, ?_, trivial⟩
      · simp [chk_iff, weakM]
      · simp [chk_iff, weakM]
      · simp [chk_iff, weakM]
    · cases h
  · split at h
    · injection h with h; subst h
      exact pC_ok fun _ => ⟨weakL_refl _, rnum_ok _⟩
    · cases h
  · split at h
    · injection h with h; subst h
      exact pC_ok fun _ => ⟨weakL_refl _, rchr_ok _⟩
    · cases h
  · exact conAr_ok _ _ _ _ h
mutual
def wtA : Arr → Int
  | .mk k _ n is => min (wtL k is (sizeR k n.length is.length)) 262145
def wtL (k : Int) : List Arr → Int → Int
  | [], n => n
  | x :: r, n => if k = 3 ∧ n ≤ 262144 then wtL k r (n + wtA x) else n
end
theorem wtA_eq (a : Arr) : wtA a = min (wtL a.k a.it (sizeR a.k a.nu.length a.it.length)) 262145 := by
  cases a with
  | mk k s n is => rw [wtA]; rfl
theorem wtL_pos (k : Int) : ∀ (l : List Arr) (n : Int), 0 ≤ n → (∀ x ∈ l, 0 ≤ wtA x) → 0 ≤ wtL k l n
  | [], n, h, _ => by rw [wtL]; exact h
  | x :: r, n, h, h2 => by
    rw [wtL]
    have := h2 x (by simp)
    split
    · exact wtL_pos k r _ (by omega) fun y hy => h2 y (by simp [hy])
    · exact h
theorem wtA_bounds : ∀ (a : Arr), 0 ≤ wtA a ∧ wtA a ≤ 262145
  | .mk k s n is => by
    rw [wtA]
    have hs : 0 ≤ sizeR k n.length is.length := by unfold sizeR; split <;> (try split) <;> omega
    have := wtL_pos k is _ hs fun x hx => (wtA_bounds x).1
    omega
termination_by a => SizeOf.sizeOf a
decreasing_by
  have := List.sizeOf_lt_of_mem hx
  simp; omega
/-- The contract of a recursive function of arrays. -/
def sRc (row : Arr → List D) (q : Arr → Prop) (r : Arr → D) : FnSpec where
  β := Arr
  α := Unit
  args := fun a => [.agg (row a)]
  st := fun _ => ⟨[], []⟩
  pre := q
  post := fun _ _ => True
  res := fun a _ => .ret (r a)
  out := fun _ _ => ⟨[], []⟩
def conWt (its : List Arr) : Con := fun k ds S => match k with
  | 88 => some (sRc Arr.row1 (fun b => b ∈ its) (fun b => .int .i64 (wtA b)))
  | k => conRf k ds S
theorem sRc_row {k : Nat} {q q' : Arr → Prop} {r : Arr → D} {b : Arr} (h : ACalls Try.prog k ((sRc Arr.row2 q r).args b) ⟨[], []⟩ (SpecR (sRc Arr.row2 q r) b)) : ACalls Try.prog k ((sRc Arr.row1 q' r).args b) ⟨[], []⟩ (SpecR (sRc Arr.row1 q' r) b) := by
  refine (h.wkArgs ?_).mono fun _ _ ⟨y, h1, h2, h3⟩ => ⟨y, h1, h2, h3⟩
  simp only [sRc, wkL, wkD]
  exact ⟨row1_wk b, trivial⟩
theorem conWt_ok {its : List Arr} (ih : ∀ b ∈ its, ACalls Try.prog 88 ((sRc Arr.row2 (fun _ => True) (fun b => .int .i64 (wtA b))).args b) ⟨[], []⟩ (SpecR (sRc Arr.row2 (fun _ => True) (fun b => .int .i64 (wtA b))) b)) : ConOk Try.prog (conWt its) := by
  intro k ds S A h
  unfold conWt at h
  split at h
  · injection h with h; subst h
    exact ConOk.plain (fun b hb => sRc_row (ih b hb)) rfl rfl
  · exact conRf_ok _ _ _ _ h
noncomputable def Ewt (a : Arr) : Senv := { EC (conWt a.it) 33 5 [20] (fun _ => ([], [])) with
  ann := fun b _ S => match b with
    | 0 => some { slots := [3, 4], keep := [0, 1, 2], α := Nat × Int, st := fun y => ([.int .i64 y.2, .int .i64 y.1], S), inv := fun y => y.1 ≤ a.it.length ∧ 0 ≤ y.2 ∧ y.2 ≤ maxLen ∧ wtL a.k (a.it.drop y.1) y.2 = wtL a.k a.it (sizeR a.k a.nu.length a.it.length), mu := fun y => a.it.length - y.1 }
    | _ => none }
theorem wt_step (a : Arr) (ha : a.nu.length ≤ maxLen ∧ a.it.length ≤ maxLen ∧ a.sh.length ≤ maxLen) (ih : ∀ b ∈ a.it, ACalls Try.prog 88 ((sRc Arr.row2 (fun _ => True) (fun b => .int .i64 (wtA b))).args b) ⟨[], []⟩ (SpecR (sRc Arr.row2 (fun _ => True) (fun b => .int .i64 (wtA b))) b)) :
    ACalls Try.prog 88 ((sRc Arr.row2 (fun _ => True) (fun b => .int .i64 (wtA b))).args a) ⟨[], []⟩ (SpecR (sRc Arr.row2 (fun _ => True) (fun b => .int .i64 (wtA b))) a) := by
  refine con_of (A := sRc Arr.row2 (fun _ => True) (fun b => .int .i64 (wtA b))) (x := a) (E := Ewt a) (eOk (conWt_ok ih) rfl) Try.func88 rfl (by kernel_rfl) rfl (by simp [sRc, Ewt, EC, E0]) ?_
  refine vc_eq (T :=
      ∀ (x : Nat), True → SM x ∧ True ∧ ∀ (y : Unit), True → (∃ (x_1 : Nat × Int), (x_1.1 ≤ LN (Arr.it a) ∧ Z0 ≤ x_1.2 ∧ x_1.2 ≤ (9223372036854775807 : Int) ∧ wtL (Arr.k a) (List.drop x_1.1 (Arr.it a)) x_1.2 = wtL (Arr.k
      a) (Arr.it a) (sizeR (Arr.k a) (LN (Arr.nu a)) (LN (Arr.it a)))) ∧ (sizeR (Arr.k a) (LN (Arr.nu a)) (LN (Arr.it a)) = x_1.2 ∧ Z0 = (NI x_1.1) ∧ True) ∧ (SM x ∧ (SM (Arr.k a) ∧ (SM (LN (Arr.sh a)) ∧ (∀ (i : Nat), i
      < LN (Arr.sh a) → SM [ZI (GI (Arr.sh a) i)]) ∧ True) ∧ (SM (LN (Arr.nu a)) ∧ (∀ (i : Nat), i < LN (Arr.nu a) → SM [ZI (GI (Arr.nu a) i)]) ∧ True) ∧ (SM (LN (Arr.it a)) ∧ (∀ (i : Nat), i < LN (Arr.it a) → SM [ZI
      (Arr.k (GA (Arr.it a) i)), SI (Arr.sh (GA (Arr.it a) i)), SI (Arr.nu (GA (Arr.it a) i)), D.sl N4 (LN (Arr.it (GA (Arr.it a) i))) (fun (i_1 : Nat) => Arr.row (GA (Arr.it (GA (Arr.it a) i)) i_1)) Mode.any]) ∧ True) ∧
      True) ∧ True) ∧ True) ∧ ∀ (x_1 : Nat × Int), x_1.1 ≤ LN (Arr.it a) ∧ Z0 ≤ x_1.2 ∧ x_1.2 ≤ (9223372036854775807 : Int) ∧ wtL (Arr.k a) (List.drop x_1.1 (Arr.it a)) x_1.2 = wtL (Arr.k a) (Arr.it a) (sizeR (Arr.k a)
      (LN (Arr.nu a)) (LN (Arr.it a))) → (SM x ∧ ifB (decide ((NI x_1.1) < (LI (Arr.it a)))) (SM x ∧ ifB (Arr.k a == (3 : Int)) ((decide (x_1.2 ≤ (262144 : Int)) = bif bif decide ((NI x_1.1) < (LI (Arr.it a))) then Arr.k
      a == (3 : Int) else false then decide (x_1.2 ≤ (262144 : Int)) else false) ∧ True) ((false = bif bif decide ((NI x_1.1) < (LI (Arr.it a))) then Arr.k a == (3 : Int) else false then decide (x_1.2 ≤ (262144 : Int))
      else false) ∧ True)) ((false = bif bif decide ((NI x_1.1) < (LI (Arr.it a))) then Arr.k a == (3 : Int) else false then decide (x_1.2 ≤ (262144 : Int)) else false) ∧ True)) ∧ ifB (bif bif decide ((NI x_1.1) < (LI
      (Arr.it a))) then Arr.k a == (3 : Int) else false then decide (x_1.2 ≤ (262144 : Int)) else false) (SM x ∧ side (Z0 ≤ (NI x_1.1) ∧ (NI x_1.1) < (LI (Arr.it a))) (∃ (x_2 : Arr), ((Arr.k (GA (Arr.it a) (TN x_1.1)) =
      Arr.k x_2 ∧ (LN (Arr.sh (GA (Arr.it a) (TN x_1.1))) = LN (Arr.sh x_2) ∧ (∀ (i : Nat), i < LN (Arr.sh (GA (Arr.it a) (TN x_1.1))) → [ZI (GI (Arr.sh (GA (Arr.it a) (TN x_1.1))) i)] = [ZI (GI (Arr.sh x_2) i)]) ∧ True)
      ∧ (LN (Arr.nu (GA (Arr.it a) (TN x_1.1))) = LN (Arr.nu x_2) ∧ (∀ (i : Nat), i < LN (Arr.nu (GA (Arr.it a) (TN x_1.1))) → [ZI (GI (Arr.nu (GA (Arr.it a) (TN x_1.1))) i)] = [ZI (GI (Arr.nu x_2) i)]) ∧ True) ∧ (LN
      (Arr.it (GA (Arr.it a) (TN x_1.1))) = LN (Arr.it x_2) ∧ (∀ (i : Nat), i < LN (Arr.it (GA (Arr.it a) (TN x_1.1))) → Arr.row (GA (Arr.it (GA (Arr.it a) (TN x_1.1))) i) = Arr.row (GA (Arr.it x_2) i)) ∧ True) ∧ True) ∧
      True) ∧ (True ∧ True) ∧ x_2 ∈ Arr.it a ∧ ∀ (y : Unit), True → (SM (D.agg [ZI (Arr.k a), SI (Arr.sh a), SI (Arr.nu a), D.sl N4 (LN (Arr.it a)) (fun (i : Nat) => [ZI (Arr.k (GA (Arr.it a) i)), SI (Arr.sh (GA (Arr.it
      a) i)), SI (Arr.nu (GA (Arr.it a) i)), D.sl N4 (LN (Arr.it (GA (Arr.it a) i))) (fun (i_1 : Nat) => Arr.row (GA (Arr.it (GA (Arr.it a) i)) i_1)) Mode.any]) Mode.any]) ∧ SM (D.ref N0 x N0) ∧ SM (ZI Z0) ∧ True) ∧ ∃ (y
      : Nat × Int), (y.1 ≤ LN (Arr.it a) ∧ Z0 ≤ y.2 ∧ y.2 ≤ (9223372036854775807 : Int) ∧ wtL (Arr.k a) (List.drop y.1 (Arr.it a)) y.2 = wtL (Arr.k a) (Arr.it a) (sizeR (Arr.k a) (LN (Arr.nu a)) (LN (Arr.it a)))) ∧ LN
      (Arr.it a) - y.1 < LN (Arr.it a) - x_1.1 ∧ (IntKind.wrap IntKind.i64 (x_1.2 + wtA x_2) = y.2 ∧ IntKind.wrap IntKind.i64 ((NI x_1.1) + Z1) = (NI y.1) ∧ True) ∧ (SM x ∧ (SM (Arr.k a) ∧ (SM (LN (Arr.sh a)) ∧ (∀ (i :
      Nat), i < LN (Arr.sh a) → SM [ZI (GI (Arr.sh a) i)]) ∧ True) ∧ (SM (LN (Arr.nu a)) ∧ (∀ (i : Nat), i < LN (Arr.nu a) → SM [ZI (GI (Arr.nu a) i)]) ∧ True) ∧ (SM (LN (Arr.it a)) ∧ (∀ (i : Nat), i < LN (Arr.it a) → SM
      [ZI (Arr.k (GA (Arr.it a) i)), SI (Arr.sh (GA (Arr.it a) i)), SI (Arr.nu (GA (Arr.it a) i)), D.sl N4 (LN (Arr.it (GA (Arr.it a) i))) (fun (i_1 : Nat) => Arr.row (GA (Arr.it (GA (Arr.it a) i)) i_1)) Mode.any]) ∧
      True) ∧ True) ∧ True) ∧ True)) (True ∧ ∃ (y : Unit), True ∧ (if (262145 : Int) < x_1.2 then (262145 : Int) else x_1.2) = wtA a ∧ True ∧ True)) (by kernel_rfl) ?_
  delta DA GA GI LI LN N0 N1 N4 NI SI SM TN Z0 Z1 ZI
  have da : (default : Arr) = Arr.mk 0 [] [] [] := rfl
  simp only [← da, Int.toNat_natCast, ifB_iff, side_iff, decide_eq_true_eq, decide_eq_false_iff_not, true_and, and_true, beq_iff_eq, bne_iff_ne, Bool.cond_false_right, Bool.cond_true_left, Bool.and_eq_true, Bool.and_eq_false_iff, beq_eq_false_iff_ne, ne_eq, exists_const, forall_const]
  obtain ⟨l1, l2, l3⟩ := ha
  simp only [maxLen] at l1 l2 l3
  have tt : (∀ i : Nat, i < a.sh.length → True) ∧ (∀ i : Nat, i < a.nu.length → True) ∧ ∀ i : Nat, i < a.it.length → True := ⟨fun _ _ => trivial, fun _ _ => trivial, fun _ _ => trivial⟩
  have hsz : 0 ≤ sizeR a.k a.nu.length a.it.length ∧ sizeR a.k a.nu.length a.it.length ≤ 9223372036854775807 := by
    unfold sizeR; split <;> (try split) <;> omega
  refine ⟨⟨(0, sizeR a.k a.nu.length a.it.length), ⟨Nat.zero_le _, hsz.1, hsz.2, rfl⟩, ⟨rfl, rfl⟩, tt⟩, ?_⟩
  rintro ⟨j, n⟩ ⟨b1, b2, b3, hch⟩
  simp only at b1 b2 b3 hch ⊢
  refine ⟨⟨fun h1 => ⟨fun h2 => by simp [h1, h2], fun h2 => by simp [h2]⟩, fun h1 => by simp [h1]⟩, fun ⟨⟨h1, h2⟩, h3⟩ => ⟨by omega, ?_⟩, fun hc => ?_⟩
  · have hlt' : j < a.it.length := by omega
    have hbd := wtA_bounds (a.it.getD j default)
    rw [drop_step hlt', wtL, if_pos ⟨h2, h3⟩] at hch
    refine ⟨a.it.getD j default, ⟨rfl, ⟨rfl, fun _ _ => rfl⟩, ⟨rfl, fun _ _ => rfl⟩, rfl, fun _ _ => rfl⟩, mem_getD hlt', (j + 1, n + wtA (a.it.getD j default)), ⟨by simp only; omega, by simp only; omega, by simp only; omega, hch⟩, by simp only; omega, ⟨wrap_i64' (by omega) (by omega), wrap_i64' (by omega) (by omega)⟩, tt⟩
  · have he : wtL a.k (a.it.drop j) n = n := by
      by_cases hj : j < a.it.length
      · rw [drop_step hj, wtL, if_neg (by rintro ⟨h2, h3⟩; rcases hc with (h | h) | h <;> omega)]
      · rw [List.drop_eq_nil_of_le (by omega), wtL]
    rw [he] at hch
    rw [wtA_eq, ← hch]
    split <;> omega
theorem wt_all : ∀ (a : Arr), a.ok → ACalls Try.prog 88 ((sRc Arr.row2 (fun _ => True) (fun b => .int .i64 (wtA b))).args a) ⟨[], []⟩ (SpecR (sRc Arr.row2 (fun _ => True) (fun b => .int .i64 (wtA b))) a)
  | .mk k s n is, h => by
    have h' := h
    simp only [Arr.ok] at h'
    obtain ⟨_, _, _, h1, h2, h3, h4⟩ := h'
    refine wt_step (.mk k s n is) ⟨h2, h3, h1⟩ fun b hb => ?_
    have hb' : b ∈ is := hb
    exact wt_all b ((okL_iff _).1 h4 b hb')
termination_by a => SizeOf.sizeOf a
decreasing_by
  have := List.sizeOf_lt_of_mem hb'
  simp; omega
end Go.Proofs.Ytoglbmhkfkghbaa
namespace Go.Proofs.Ytoglbmhkfkghbaa
open Go Go.Ab

/-! ### arrays, the reference: validity -/
theorem chkL_sat : ∀ (l : List Arr) (d d' w' : Int), chkL l d 262145 = some (d', w') → w' = 262145
  | [], d, d', w', h => by rw [chkL] at h; injection h with h; injection h with e1 e2; omega
  | x :: r, d, d', w', h => by
    rw [chkL] at h
    have := chkA_bounds x
    split at h
    · cases h
    · have e : (if (262145 : Int) < 262145 + (chkA x).2.2 then 262145 else 262145 + (chkA x).2.2) = 262145 := by split <;> omega
      rw [e] at h; exact chkL_sat r _ d' w' h
theorem wtL_chk (k : Int) : ∀ (l : List Arr) (d w d' w' : Int), chkL l d w = some (d', w') → (k = 3 ∨ l = []) → (∀ x ∈ l, (chkA x).1 = 0 → wtA x = (chkA x).2.2) → ∀ n, min n 262145 = w → min (wtL k l n) 262145 = w'
  | [], d, w, d', w', h, _, _, n, hn => by
    rw [chkL] at h; injection h with h; injection h with e1 e2; rw [wtL]; omega
  | x :: r, d, w, d', w', h, hk, h3, n, hn => by
    have hk : k = 3 := hk.resolve_right (by simp)
    rw [chkL] at h
    have hb := chkA_bounds x
    split at h
    · cases h
    · rename_i hx
      have hx : (chkA x).1 = 0 := by simpa using hx
      have hwx := h3 x (by simp) hx
      rw [wtL]
      by_cases hn2 : n ≤ 262144
      · rw [if_pos ⟨hk, hn2⟩]
        refine wtL_chk k r _ _ d' w' h (.inl hk) (fun y hy => h3 y (by simp [hy])) _ ?_
        split <;> omega
      · rw [if_neg (fun e => hn2 e.2)]
        have hw : w = 262145 := by omega
        rw [hw] at h
        have : (if (262145 : Int) < 262145 + (chkA x).2.2 then 262145 else 262145 + (chkA x).2.2) = 262145 := by split <;> omega
        rw [this] at h
        have := chkL_sat r _ _ _ h
        omega
theorem form_zero {k : Int} {s : List Int} {nn ni : Nat} (h : formS k s nn ni = 0) : (k = 3 ∧ nn = 0) ∨ ((k = 1 ∨ k = 2) ∧ ni = 0) := by
  unfold formS at h
  by_cases hk : k = 1 ∨ k = 2 ∨ k = 3
  · rw [if_pos hk] at h
    by_cases hd : dimsS s ≠ 0
    · rw [if_pos hd] at h; exact (hd h).elim
    · rw [if_neg hd] at h
      by_cases hc : ((if k = 3 then (ni : Int) else nn) ≠ sizeS s) ∨ ((if k = 3 then (nn : Int) else ni) ≠ 0)
      · rw [if_pos hc] at h; omega
      · simp only [not_or, ne_eq, Decidable.not_not] at hc
        obtain ⟨c1, c2⟩ := hc
        by_cases k3 : k = 3
        · simp only [k3, if_true] at c2; left; omega
        · simp only [k3, if_false] at c2; right; omega
  · rw [if_neg hk] at h; omega
theorem wt_of {a : Arr} {r : Int × Int} (h0 : formS a.k a.sh a.nu.length a.it.length = 0) (hr : chkL a.it 0 ((a.nu.length : Int) + a.it.length) = some r) (h3 : ∀ x ∈ a.it, (chkA x).1 = 0 → wtA x = (chkA x).2.2) : wtA a = r.2 := by
  have hz := form_zero h0
  have hs := form_small h0
  rw [wtA_eq]
  refine wtL_chk a.k a.it 0 _ r.1 r.2 hr ?_ h3 _ ?_
  · rcases hz with ⟨h1, _⟩ | ⟨_, h2⟩
    · exact .inl h1
    · exact .inr (List.length_eq_zero_iff.1 h2)
  · unfold sizeR
    rcases hz with ⟨h1, h2⟩ | ⟨h1, h2⟩
    · rw [if_neg (by omega), if_pos h1]; omega
    · rw [if_pos h1]; omega
theorem wt_chk : ∀ (a : Arr), (chkA a).1 = 0 → wtA a = (chkA a).2.2
  | .mk k s n is, h => by
    have ih : ∀ x ∈ (Arr.mk k s n is).it, (chkA x).1 = 0 → wtA x = (chkA x).2.2 := fun x hx => by
      have hx' : x ∈ is := hx
      exact wt_chk x
    have hA := chkA_eq (Arr.mk k s n is)
    generalize Arr.mk k s n is = a at *
    by_cases h0 : formS a.k a.sh a.nu.length a.it.length = 0
    · rw [if_neg (fun e => e h0)] at hA
      by_cases h1 : a.nu.any (badK a.k) = true
      · rw [if_pos h1] at hA; rw [hA] at h; cases h
      · rw [if_neg h1] at hA
        cases hr : chkL a.it 0 ((a.nu.length : Int) + a.it.length) with
        | none => rw [hr] at hA; simp only at hA; rw [hA] at h; cases h
        | some r =>
          rw [hr] at hA
          simp only at hA
          split at hA
          · rw [hA] at h; cases h
          · rw [hA]; exact wt_of h0 hr ih
    · rw [if_pos h0] at hA; rw [hA] at h; exact (h0 h).elim
termination_by a => SizeOf.sizeOf a
decreasing_by
  have := List.sizeOf_lt_of_mem hx'
  simp; omega
def resC (b : Arr) : D := .tup [.int .i64 (chkA b).1, .int .i64 (chkA b).2.1]
def conCk (a : Arr) : Con := fun k ds S => match k with
  | 65 => some (sRc Arr.row1 (fun b => b ∈ a.it) (fun b => .tup [.int .i64 (chkA b).1, .int .i64 (chkA b).2.1]))
  | 88 => some (sRc Arr.row2 (fun b => b = a) (fun b => .int .i64 (wtA b)))
  | k => conRf k ds S
theorem conCk_ok {a : Arr} (ha : a.ok) (ih : ∀ b ∈ a.it, ACalls Try.prog 65 ((sRc Arr.row2 (fun _ => True) resC).args b) ⟨[], []⟩ (SpecR (sRc Arr.row2 (fun _ => True) resC) b)) : ConOk Try.prog (conCk a) := by
  intro k ds S A h
  unfold conCk at h
  split at h
  · injection h with h; subst h
    exact ConOk.plain (fun b hb => sRc_row (r := resC) (ih b hb)) rfl rfl
  · injection h with h; subst h
    refine ConOk.plain (fun b hb => ?_) rfl rfl
    have hb : b = a := hb
    rw [hb]
    exact (wt_all a ha).mono fun _ _ ⟨y, h1, h2, h3⟩ => ⟨y, h1, h2, h3⟩
  · exact conRf_ok _ _ _ _ h
def cutW (a : Arr) (d : D) (S : St) : Option LoopAnn :=
  match d with
  | .int _ i => some { slots := [76], keep := [], α := Unit, st := fun _ => ([.bool (badK a.k (a.nu.getD i.toNat 0))], S), inv := fun _ => True, mu := fun _ => 0 }
  | _ => none
noncomputable def Eck (a : Arr) : Senv := { EC (conCk a) 107 11 [18, 23, 30, 43, 48, 76, 81, 94, 105] (fun id => match id with | 9 => ([0, 2, 3, 1, 4, 5, 6, 7, 8, 9], [1, 4]) | _ => ([], [])) with
  cut := fun id env S => match id with
    | 14 => cutW a (Ab.look env 6) S
    | _ => none
  ann := fun b _ S => match b with
    | 0 => some { slots := [6], keep := [0, 1, 2, 3], α := Nat, st := fun i => ([.int .i64 i], S), inv := fun i => i ≤ a.nu.length ∧ ∀ z ∈ a.nu.take i, badK a.k z = false, mu := fun i => a.nu.length - i }
    | 2 => some { slots := [8, 7], keep := [0, 1, 2, 3], α := Nat × Int × Int, st := fun y => ([.int .i64 y.1, .int .i64 y.2.1], S), inv := fun y => y.1 ≤ a.it.length ∧ 0 ≤ y.2.1 ∧ y.2.1 ≤ 17 ∧ 0 ≤ y.2.2 ∧ y.2.2 ≤ 262145 ∧ chkL (a.it.drop y.1) y.2.1 y.2.2 = chkL a.it 0 ((a.nu.length : Int) + a.it.length), mu := fun y => a.it.length - y.1 }
    | _ => none }
theorem ck_step (a : Arr) (hok : a.ok) (ha : a.nu.length ≤ maxLen ∧ a.it.length ≤ maxLen ∧ a.sh.length ≤ maxLen) (ih : ∀ b ∈ a.it, ACalls Try.prog 65 ((sRc Arr.row2 (fun _ => True) resC).args b) ⟨[], []⟩ (SpecR (sRc Arr.row2 (fun _ => True) resC) b)) :
    ACalls Try.prog 65 ((sRc Arr.row2 (fun _ => True) resC).args a) ⟨[], []⟩ (SpecR (sRc Arr.row2 (fun _ => True) resC) a) := by
  refine con_of (A := sRc Arr.row2 (fun _ => True) resC) (x := a) (E := Eck a) (eOk (conCk_ok hok ih) rfl) Try.func65 rfl (by kernel_rfl) rfl (by simp [sRc, Eck, EC, E0]) ?_
  simp only [sRc, resC]
  refine vc_eq (T :=
      ∀ (x : Nat), True → (SM x ∧ ifB (decide (Arr.k a < Z1)) ((true = bif decide (Arr.k a < Z1) then true else decide ((3 : Int) < Arr.k a)) ∧ True) (SM x ∧ (decide ((3 : Int) < Arr.k a) = bif decide (Arr.k a < Z1) then
      true else decide ((3 : Int) < Arr.k a)) ∧ True)) ∧ ifB (bif decide (Arr.k a < Z1) then true else decide ((3 : Int) < Arr.k a)) (True ∧ ∃ (y : Unit), True ∧ ((14 : Int) = Prod.fst (chkA a) ∧ Z0 = Prod.fst (Prod.snd
      (chkA a)) ∧ True) ∧ True ∧ True) (SM x ∧ (IntsP (LN (Arr.sh a)) fun (i : Nat) => [ZI (GI (Arr.sh a) i)]) ∧ ∀ (y : Unit), True → ifB (dimsS (intsD (LN (Arr.sh a)) fun (i : Nat) => [ZI (GI (Arr.sh a) i)]) != Z0)
      (True ∧ ∃ (y : Unit), True ∧ (dimsS (intsD (LN (Arr.sh a)) fun (i : Nat) => [ZI (GI (Arr.sh a) i)]) = Prod.fst (chkA a) ∧ Z0 = Prod.fst (Prod.snd (chkA a)) ∧ True) ∧ True ∧ True) (SM x ∧ SM x ∧ ifB (Arr.k a == (3 :
      Int)) (SM x ∧ SM x ∧ SM x ∧ True ∧ ∀ (y : Unit), True → (SM x ∧ SM (SI (Arr.sh a))) ∧ ((IntsP (LN (Arr.sh a)) fun (i : Nat) => [ZI (GI (Arr.sh a) i)]) ∧ dimsS (intsD (LN (Arr.sh a)) fun (i : Nat) => [ZI (GI (Arr.sh
      a) i)]) = Z0) ∧ ∀ (y : Unit), True → ifB (sizeR (Arr.k a) (LN (Arr.nu a)) (LN (Arr.it a)) != sizeS (intsD (LN (Arr.sh a)) fun (i : Nat) => [ZI (GI (Arr.sh a) i)])) (True ∧ ∃ (y : Unit), True ∧ ((16 : Int) =
      Prod.fst (chkA a) ∧ Z0 = Prod.fst (Prod.snd (chkA a)) ∧ True) ∧ True ∧ True) (ifB (decide (Z0 < (LI (Arr.nu a)))) (True ∧ ∃ (y : Unit), True ∧ ((16 : Int) = Prod.fst (chkA a) ∧ Z0 = Prod.fst (Prod.snd (chkA a)) ∧
      True) ∧ True ∧ True) ((∃ (x_1 : Nat), (x_1 ≤ LN (Arr.nu a) ∧ ∀ (z : Int), z ∈ List.take x_1 (Arr.nu a) → badK (Arr.k a) z = false) ∧ (Z0 = (↑x_1 : Int) ∧ True) ∧ (SM x ∧ (SM (Arr.k a) ∧ (SM (LN (Arr.sh a)) ∧ (∀ (i
      : Nat), i < LN (Arr.sh a) → SM [ZI (GI (Arr.sh a) i)]) ∧ True) ∧ (SM (LN (Arr.nu a)) ∧ (∀ (i : Nat), i < LN (Arr.nu a) → SM [ZI (GI (Arr.nu a) i)]) ∧ True) ∧ (SM (LN (Arr.it a)) ∧ (∀ (i : Nat), i < LN (Arr.it a) →
      SM [ZI (Arr.k (GA (Arr.it a) i)), SI (Arr.sh (GA (Arr.it a) i)), SI (Arr.nu (GA (Arr.it a) i)), D.sl N4 (LN (Arr.it (GA (Arr.it a) i))) (fun (i_1 : Nat) => Arr.row (GA (Arr.it (GA (Arr.it a) i)) i_1)) Mode.any]) ∧
      True) ∧ True) ∧ True) ∧ True) ∧ ∀ (x_1 : Nat), (x_1 ≤ LN (Arr.nu a) ∧ ∀ (z : Int), z ∈ List.take x_1 (Arr.nu a) → badK (Arr.k a) z = false) → SM x ∧ ifB (decide ((↑x_1 : Int) < (LI (Arr.nu a)))) ((SM x ∧ ifB (Arr.k
      a == Z1) (SM x ∧ side (Z0 ≤ (↑x_1 : Int) ∧ (↑x_1 : Int) < (LI (Arr.nu a))) (True ∧ ∀ (y : Unit), True → ifB (!numB (GI (Arr.nu a) (Int.toNat (↑x_1 : Int)))) (∃ (x_2 : Unit), True ∧ (true = badK (Arr.k a) (GI
      (Arr.nu a) (Int.toNat (↑x_1 : Int))) ∧ True) ∧ (SM x ∧ (SM (Arr.k a) ∧ (SM (LN (Arr.sh a)) ∧ (∀ (i : Nat), i < LN (Arr.sh a) → SM [ZI (GI (Arr.sh a) i)]) ∧ True) ∧ (SM (LN (Arr.nu a)) ∧ (∀ (i : Nat), i < LN (Arr.nu
      a) → SM [ZI (GI (Arr.nu a) i)]) ∧ True) ∧ (SM (LN (Arr.it a)) ∧ (∀ (i : Nat), i < LN (Arr.it a) → SM [ZI (Arr.k (GA (Arr.it a) i)), SI (Arr.sh (GA (Arr.it a) i)), SI (Arr.nu (GA (Arr.it a) i)), D.sl N4 (LN (Arr.it
      (GA (Arr.it a) i))) (fun (i_1 : Nat) => Arr.row (GA (Arr.it (GA (Arr.it a) i)) i_1)) Mode.any]) ∧ True) ∧ True) ∧ True) ∧ True) (SM x ∧ ifB (Arr.k a == (2 : Int)) (SM x ∧ side (Z0 ≤ (↑x_1 : Int) ∧ (↑x_1 : Int) <
      (LI (Arr.nu a))) (True ∧ ∀ (y : Unit), True → ∃ (x_2 : Unit), True ∧ ((!chrB (GI (Arr.nu a) (Int.toNat (↑x_1 : Int)))) = badK (Arr.k a) (GI (Arr.nu a) (Int.toNat (↑x_1 : Int))) ∧ True) ∧ (SM x ∧ (SM (Arr.k a) ∧ (SM
      (LN (Arr.sh a)) ∧ (∀ (i : Nat), i < LN (Arr.sh a) → SM [ZI (GI (Arr.sh a) i)]) ∧ True) ∧ (SM (LN (Arr.nu a)) ∧ (∀ (i : Nat), i < LN (Arr.nu a) → SM [ZI (GI (Arr.nu a) i)]) ∧ True) ∧ (SM (LN (Arr.it a)) ∧ (∀ (i :
      Nat), i < LN (Arr.it a) → SM [ZI (Arr.k (GA (Arr.it a) i)), SI (Arr.sh (GA (Arr.it a) i)), SI (Arr.nu (GA (Arr.it a) i)), D.sl N4 (LN (Arr.it (GA (Arr.it a) i))) (fun (i_1 : Nat) => Arr.row (GA (Arr.it (GA (Arr.it
      a) i)) i_1)) Mode.any]) ∧ True) ∧ True) ∧ True) ∧ True)) (∃ (x_2 : Unit), True ∧ (false = badK (Arr.k a) (GI (Arr.nu a) (Int.toNat (↑x_1 : Int))) ∧ True) ∧ (SM x ∧ (SM (Arr.k a) ∧ (SM (LN (Arr.sh a)) ∧ (∀ (i :
      Nat), i < LN (Arr.sh a) → SM [ZI (GI (Arr.sh a) i)]) ∧ True) ∧ (SM (LN (Arr.nu a)) ∧ (∀ (i : Nat), i < LN (Arr.nu a) → SM [ZI (GI (Arr.nu a) i)]) ∧ True) ∧ (SM (LN (Arr.it a)) ∧ (∀ (i : Nat), i < LN (Arr.it a) → SM
      [ZI (Arr.k (GA (Arr.it a) i)), SI (Arr.sh (GA (Arr.it a) i)), SI (Arr.nu (GA (Arr.it a) i)), D.sl N4 (LN (Arr.it (GA (Arr.it a) i))) (fun (i_1 : Nat) => Arr.row (GA (Arr.it (GA (Arr.it a) i)) i_1)) Mode.any]) ∧
      True) ∧ True) ∧ True) ∧ True)))) (SM x ∧ ifB (Arr.k a == (2 : Int)) (SM x ∧ side (Z0 ≤ (↑x_1 : Int) ∧ (↑x_1 : Int) < (LI (Arr.nu a))) (True ∧ ∀ (y : Unit), True → ∃ (x_2 : Unit), True ∧ ((!chrB (GI (Arr.nu a)
      (Int.toNat (↑x_1 : Int)))) = badK (Arr.k a) (GI (Arr.nu a) (Int.toNat (↑x_1 : Int))) ∧ True) ∧ (SM x ∧ (SM (Arr.k a) ∧ (SM (LN (Arr.sh a)) ∧ (∀ (i : Nat), i < LN (Arr.sh a) → SM [ZI (GI (Arr.sh a) i)]) ∧ True) ∧
      (SM (LN (Arr.nu a)) ∧ (∀ (i : Nat), i < LN (Arr.nu a) → SM [ZI (GI (Arr.nu a) i)]) ∧ True) ∧ (SM (LN (Arr.it a)) ∧ (∀ (i : Nat), i < LN (Arr.it a) → SM [ZI (Arr.k (GA (Arr.it a) i)), SI (Arr.sh (GA (Arr.it a) i)),
      SI (Arr.nu (GA (Arr.it a) i)), D.sl N4 (LN (Arr.it (GA (Arr.it a) i))) (fun (i_1 : Nat) => Arr.row (GA (Arr.it (GA (Arr.it a) i)) i_1)) Mode.any]) ∧ True) ∧ True) ∧ True) ∧ True)) (∃ (x_2 : Unit), True ∧ (false =
      badK (Arr.k a) (GI (Arr.nu a) (Int.toNat (↑x_1 : Int))) ∧ True) ∧ (SM x ∧ (SM (Arr.k a) ∧ (SM (LN (Arr.sh a)) ∧ (∀ (i : Nat), i < LN (Arr.sh a) → SM [ZI (GI (Arr.sh a) i)]) ∧ True) ∧ (SM (LN (Arr.nu a)) ∧ (∀ (i :
      Nat), i < LN (Arr.nu a) → SM [ZI (GI (Arr.nu a) i)]) ∧ True) ∧ (SM (LN (Arr.it a)) ∧ (∀ (i : Nat), i < LN (Arr.it a) → SM [ZI (Arr.k (GA (Arr.it a) i)), SI (Arr.sh (GA (Arr.it a) i)), SI (Arr.nu (GA (Arr.it a) i)),
      D.sl N4 (LN (Arr.it (GA (Arr.it a) i))) (fun (i_1 : Nat) => Arr.row (GA (Arr.it (GA (Arr.it a) i)) i_1)) Mode.any]) ∧ True) ∧ True) ∧ True) ∧ True))) ∧ ∀ (x_2 : Unit), True → ifB (badK (Arr.k a) (GI (Arr.nu a)
      (Int.toNat (↑x_1 : Int)))) (True ∧ ∃ (y : Unit), True ∧ ((17 : Int) = Prod.fst (chkA a) ∧ Z0 = Prod.fst (Prod.snd (chkA a)) ∧ True) ∧ True ∧ True) ((SM (D.agg [ZI (Arr.k a), SI (Arr.sh a), SI (Arr.nu a), D.sl N4
      (LN (Arr.it a)) (fun (i : Nat) => [ZI (Arr.k (GA (Arr.it a) i)), SI (Arr.sh (GA (Arr.it a) i)), SI (Arr.nu (GA (Arr.it a) i)), D.sl N4 (LN (Arr.it (GA (Arr.it a) i))) (fun (i_1 : Nat) => Arr.row (GA (Arr.it (GA
      (Arr.it a) i)) i_1)) Mode.any]) Mode.any]) ∧ SM (D.ref N0 x N0) ∧ SM (ZI Z0) ∧ SM (ZI Z0) ∧ True) ∧ ∃ (y : Nat), (y ≤ LN (Arr.nu a) ∧ ∀ (z : Int), z ∈ List.take y (Arr.nu a) → badK (Arr.k a) z = false) ∧ LN (Arr.nu
      a) - y < LN (Arr.nu a) - x_1 ∧ (IntKind.wrap IntKind.i64 ((↑x_1 : Int) + Z1) = (↑y : Int) ∧ True) ∧ (SM x ∧ (SM (Arr.k a) ∧ (SM (LN (Arr.sh a)) ∧ (∀ (i : Nat), i < LN (Arr.sh a) → SM [ZI (GI (Arr.sh a) i)]) ∧ True)
      ∧ (SM (LN (Arr.nu a)) ∧ (∀ (i : Nat), i < LN (Arr.nu a) → SM [ZI (GI (Arr.nu a) i)]) ∧ True) ∧ (SM (LN (Arr.it a)) ∧ (∀ (i : Nat), i < LN (Arr.it a) → SM [ZI (Arr.k (GA (Arr.it a) i)), SI (Arr.sh (GA (Arr.it a)
      i)), SI (Arr.nu (GA (Arr.it a) i)), D.sl N4 (LN (Arr.it (GA (Arr.it a) i))) (fun (i_1 : Nat) => Arr.row (GA (Arr.it (GA (Arr.it a) i)) i_1)) Mode.any]) ∧ True) ∧ True) ∧ True) ∧ True)) ((∃ (x_2 : Nat × Int × Int),
      (x_2.1 ≤ LN (Arr.it a) ∧ Z0 ≤ x_2.2.1 ∧ x_2.2.1 ≤ (17 : Int) ∧ Z0 ≤ x_2.2.2 ∧ x_2.2.2 ≤ (262145 : Int) ∧ chkL (List.drop x_2.1 (Arr.it a)) x_2.2.1 x_2.2.2 = chkL (Arr.it a) Z0 ((LI (Arr.nu a)) + (LI (Arr.it a)))) ∧
      (Z0 = (NI x_2.1) ∧ Z0 = x_2.2.1 ∧ True) ∧ (SM x ∧ (SM (Arr.k a) ∧ (SM (LN (Arr.sh a)) ∧ (∀ (i : Nat), i < LN (Arr.sh a) → SM [ZI (GI (Arr.sh a) i)]) ∧ True) ∧ (SM (LN (Arr.nu a)) ∧ (∀ (i : Nat), i < LN (Arr.nu a) →
      SM [ZI (GI (Arr.nu a) i)]) ∧ True) ∧ (SM (LN (Arr.it a)) ∧ (∀ (i : Nat), i < LN (Arr.it a) → SM [ZI (Arr.k (GA (Arr.it a) i)), SI (Arr.sh (GA (Arr.it a) i)), SI (Arr.nu (GA (Arr.it a) i)), D.sl N4 (LN (Arr.it (GA
      (Arr.it a) i))) (fun (i_1 : Nat) => Arr.row (GA (Arr.it (GA (Arr.it a) i)) i_1)) Mode.any]) ∧ True) ∧ True) ∧ True) ∧ True) ∧ ∀ (x_2 : Nat × Int × Int), x_2.1 ≤ LN (Arr.it a) ∧ Z0 ≤ x_2.2.1 ∧ x_2.2.1 ≤ (17 : Int) ∧
      Z0 ≤ x_2.2.2 ∧ x_2.2.2 ≤ (262145 : Int) ∧ chkL (List.drop x_2.1 (Arr.it a)) x_2.2.1 x_2.2.2 = chkL (Arr.it a) Z0 ((LI (Arr.nu a)) + (LI (Arr.it a))) → SM x ∧ ifB (decide ((NI x_2.1) < (LI (Arr.it a)))) (SM x ∧ side
      (Z0 ≤ (NI x_2.1) ∧ (NI x_2.1) < (LI (Arr.it a))) (∃ (x_3 : Arr), ((Arr.k (GA (Arr.it a) (TN x_2.1)) = Arr.k x_3 ∧ (LN (Arr.sh (GA (Arr.it a) (TN x_2.1))) = LN (Arr.sh x_3) ∧ (∀ (i : Nat), i < LN (Arr.sh (GA (Arr.it
      a) (TN x_2.1))) → [ZI (GI (Arr.sh (GA (Arr.it a) (TN x_2.1))) i)] = [ZI (GI (Arr.sh x_3) i)]) ∧ True) ∧ (LN (Arr.nu (GA (Arr.it a) (TN x_2.1))) = LN (Arr.nu x_3) ∧ (∀ (i : Nat), i < LN (Arr.nu (GA (Arr.it a) (TN
      x_2.1))) → [ZI (GI (Arr.nu (GA (Arr.it a) (TN x_2.1))) i)] = [ZI (GI (Arr.nu x_3) i)]) ∧ True) ∧ (LN (Arr.it (GA (Arr.it a) (TN x_2.1))) = LN (Arr.it x_3) ∧ (∀ (i : Nat), i < LN (Arr.it (GA (Arr.it a) (TN x_2.1)))
      → Arr.row (GA (Arr.it (GA (Arr.it a) (TN x_2.1))) i) = Arr.row (GA (Arr.it x_3) i)) ∧ True) ∧ True) ∧ True) ∧ (True ∧ True) ∧ x_3 ∈ Arr.it a ∧ ∀ (y : Unit), True → ifB (Prod.fst (chkA x_3) != Z0) (True ∧ ∃ (y :
      Unit), True ∧ ((17 : Int) = Prod.fst (chkA a) ∧ Z0 = Prod.fst (Prod.snd (chkA a)) ∧ True) ∧ True ∧ True) ((SM (D.agg [ZI (Arr.k a), SI (Arr.sh a), SI (Arr.nu a), D.sl N4 (LN (Arr.it a)) (fun (i : Nat) => [ZI (Arr.k
      (GA (Arr.it a) i)), SI (Arr.sh (GA (Arr.it a) i)), SI (Arr.nu (GA (Arr.it a) i)), D.sl N4 (LN (Arr.it (GA (Arr.it a) i))) (fun (i_1 : Nat) => Arr.row (GA (Arr.it (GA (Arr.it a) i)) i_1)) Mode.any]) Mode.any]) ∧ SM
      (D.ref N0 x N0) ∧ SM (ZI Z0) ∧ SM (ZI Z0) ∧ True) ∧ ∃ (y : Nat × Int × Int), (y.1 ≤ LN (Arr.it a) ∧ Z0 ≤ y.2.1 ∧ y.2.1 ≤ (17 : Int) ∧ Z0 ≤ y.2.2 ∧ y.2.2 ≤ (262145 : Int) ∧ chkL (List.drop y.1 (Arr.it a)) y.2.1
      y.2.2 = chkL (Arr.it a) Z0 ((LI (Arr.nu a)) + (LI (Arr.it a)))) ∧ LN (Arr.it a) - y.1 < LN (Arr.it a) - x_2.1 ∧ (IntKind.wrap IntKind.i64 ((NI x_2.1) + Z1) = (NI y.1) ∧ (if x_2.2.1 < IntKind.wrap IntKind.i64
      (Prod.fst (Prod.snd (chkA x_3)) + Z1) then IntKind.wrap IntKind.i64 (Prod.fst (Prod.snd (chkA x_3)) + Z1) else x_2.2.1) = y.2.1 ∧ True) ∧ (SM x ∧ (SM (Arr.k a) ∧ (SM (LN (Arr.sh a)) ∧ (∀ (i : Nat), i < LN (Arr.sh
      a) → SM [ZI (GI (Arr.sh a) i)]) ∧ True) ∧ (SM (LN (Arr.nu a)) ∧ (∀ (i : Nat), i < LN (Arr.nu a) → SM [ZI (GI (Arr.nu a) i)]) ∧ True) ∧ (SM (LN (Arr.it a)) ∧ (∀ (i : Nat), i < LN (Arr.it a) → SM [ZI (Arr.k (GA
      (Arr.it a) i)), SI (Arr.sh (GA (Arr.it a) i)), SI (Arr.nu (GA (Arr.it a) i)), D.sl N4 (LN (Arr.it (GA (Arr.it a) i))) (fun (i_1 : Nat) => Arr.row (GA (Arr.it (GA (Arr.it a) i)) i_1)) Mode.any]) ∧ True) ∧ True) ∧
      True) ∧ True))) (ifB (decide ((16 : Int) < x_2.2.1)) (True ∧ ∃ (y : Unit), True ∧ ((21 : Int) = Prod.fst (chkA a) ∧ Z0 = Prod.fst (Prod.snd (chkA a)) ∧ True) ∧ True ∧ True) (SM x ∧ ∃ (x : Arr), ((Arr.k a = Arr.k x
      ∧ (LN (Arr.sh a) = LN (Arr.sh x) ∧ (∀ (i : Nat), i < LN (Arr.sh a) → [ZI (GI (Arr.sh a) i)] = [ZI (GI (Arr.sh x) i)]) ∧ True) ∧ (LN (Arr.nu a) = LN (Arr.nu x) ∧ (∀ (i : Nat), i < LN (Arr.nu a) → [ZI (GI (Arr.nu a)
      i)] = [ZI (GI (Arr.nu x) i)]) ∧ True) ∧ (LN (Arr.it a) = LN (Arr.it x) ∧ (∀ (i : Nat), i < LN (Arr.it a) → [ZI (Arr.k (GA (Arr.it a) i)), SI (Arr.sh (GA (Arr.it a) i)), SI (Arr.nu (GA (Arr.it a) i)), D.sl N4 (LN
      (Arr.it (GA (Arr.it a) i))) (fun (i_1 : Nat) => Arr.row (GA (Arr.it (GA (Arr.it a) i)) i_1)) Mode.any] = [ZI (Arr.k (GA (Arr.it x) i)), SI (Arr.sh (GA (Arr.it x) i)), SI (Arr.nu (GA (Arr.it x) i)), D.sl N4 (LN
      (Arr.it (GA (Arr.it x) i))) (fun (i_1 : Nat) => Arr.row (GA (Arr.it (GA (Arr.it x) i)) i_1)) Mode.any]) ∧ True) ∧ True) ∧ True) ∧ (True ∧ True) ∧ x = a ∧ ∀ (y : Unit), True → ifB (decide ((262144 : Int) < wtA x))
      (True ∧ ∃ (y : Unit), True ∧ ((21 : Int) = Prod.fst (chkA a) ∧ Z0 = Prod.fst (Prod.snd (chkA a)) ∧ True) ∧ True ∧ True) (True ∧ ∃ (y : Unit), True ∧ (Z0 = Prod.fst (chkA a) ∧ x_2.2.1 = Prod.fst (Prod.snd (chkA a))
      ∧ True) ∧ True ∧ True))))))) (SM x ∧ SM x ∧ True ∧ ∀ (y : Unit), True → (SM x ∧ SM (SI (Arr.sh a))) ∧ ((IntsP (LN (Arr.sh a)) fun (i : Nat) => [ZI (GI (Arr.sh a) i)]) ∧ dimsS (intsD (LN (Arr.sh a)) fun (i : Nat) =>
      [ZI (GI (Arr.sh a) i)]) = Z0) ∧ ∀ (y : Unit), True → ifB (sizeR (Arr.k a) (LN (Arr.nu a)) (LN (Arr.it a)) != sizeS (intsD (LN (Arr.sh a)) fun (i : Nat) => [ZI (GI (Arr.sh a) i)])) (True ∧ ∃ (y : Unit), True ∧ ((16
      : Int) = Prod.fst (chkA a) ∧ Z0 = Prod.fst (Prod.snd (chkA a)) ∧ True) ∧ True ∧ True) (ifB (decide (Z0 < (LI (Arr.it a)))) (True ∧ ∃ (y : Unit), True ∧ ((16 : Int) = Prod.fst (chkA a) ∧ Z0 = Prod.fst (Prod.snd
      (chkA a)) ∧ True) ∧ True ∧ True) ((∃ (x_1 : Nat), (x_1 ≤ LN (Arr.nu a) ∧ ∀ (z : Int), z ∈ List.take x_1 (Arr.nu a) → badK (Arr.k a) z = false) ∧ (Z0 = (↑x_1 : Int) ∧ True) ∧ (SM x ∧ (SM (Arr.k a) ∧ (SM (LN (Arr.sh
      a)) ∧ (∀ (i : Nat), i < LN (Arr.sh a) → SM [ZI (GI (Arr.sh a) i)]) ∧ True) ∧ (SM (LN (Arr.nu a)) ∧ (∀ (i : Nat), i < LN (Arr.nu a) → SM [ZI (GI (Arr.nu a) i)]) ∧ True) ∧ (SM (LN (Arr.it a)) ∧ (∀ (i : Nat), i < LN
      (Arr.it a) → SM [ZI (Arr.k (GA (Arr.it a) i)), SI (Arr.sh (GA (Arr.it a) i)), SI (Arr.nu (GA (Arr.it a) i)), D.sl N4 (LN (Arr.it (GA (Arr.it a) i))) (fun (i_1 : Nat) => Arr.row (GA (Arr.it (GA (Arr.it a) i)) i_1))
      Mode.any]) ∧ True) ∧ True) ∧ True) ∧ True) ∧ ∀ (x_1 : Nat), (x_1 ≤ LN (Arr.nu a) ∧ ∀ (z : Int), z ∈ List.take x_1 (Arr.nu a) → badK (Arr.k a) z = false) → SM x ∧ ifB (decide ((↑x_1 : Int) < (LI (Arr.nu a)))) ((SM x
      ∧ ifB (Arr.k a == Z1) (SM x ∧ side (Z0 ≤ (↑x_1 : Int) ∧ (↑x_1 : Int) < (LI (Arr.nu a))) (True ∧ ∀ (y : Unit), True → ifB (!numB (GI (Arr.nu a) (Int.toNat (↑x_1 : Int)))) (∃ (x_2 : Unit), True ∧ (true = badK (Arr.k
      a) (GI (Arr.nu a) (Int.toNat (↑x_1 : Int))) ∧ True) ∧ (SM x ∧ (SM (Arr.k a) ∧ (SM (LN (Arr.sh a)) ∧ (∀ (i : Nat), i < LN (Arr.sh a) → SM [ZI (GI (Arr.sh a) i)]) ∧ True) ∧ (SM (LN (Arr.nu a)) ∧ (∀ (i : Nat), i < LN
      (Arr.nu a) → SM [ZI (GI (Arr.nu a) i)]) ∧ True) ∧ (SM (LN (Arr.it a)) ∧ (∀ (i : Nat), i < LN (Arr.it a) → SM [ZI (Arr.k (GA (Arr.it a) i)), SI (Arr.sh (GA (Arr.it a) i)), SI (Arr.nu (GA (Arr.it a) i)), D.sl N4 (LN
      (Arr.it (GA (Arr.it a) i))) (fun (i_1 : Nat) => Arr.row (GA (Arr.it (GA (Arr.it a) i)) i_1)) Mode.any]) ∧ True) ∧ True) ∧ True) ∧ True) (SM x ∧ ifB (Arr.k a == (2 : Int)) (SM x ∧ side (Z0 ≤ (↑x_1 : Int) ∧ (↑x_1 :
      Int) < (LI (Arr.nu a))) (True ∧ ∀ (y : Unit), True → ∃ (x_2 : Unit), True ∧ ((!chrB (GI (Arr.nu a) (Int.toNat (↑x_1 : Int)))) = badK (Arr.k a) (GI (Arr.nu a) (Int.toNat (↑x_1 : Int))) ∧ True) ∧ (SM x ∧ (SM (Arr.k
      a) ∧ (SM (LN (Arr.sh a)) ∧ (∀ (i : Nat), i < LN (Arr.sh a) → SM [ZI (GI (Arr.sh a) i)]) ∧ True) ∧ (SM (LN (Arr.nu a)) ∧ (∀ (i : Nat), i < LN (Arr.nu a) → SM [ZI (GI (Arr.nu a) i)]) ∧ True) ∧ (SM (LN (Arr.it a)) ∧
      (∀ (i : Nat), i < LN (Arr.it a) → SM [ZI (Arr.k (GA (Arr.it a) i)), SI (Arr.sh (GA (Arr.it a) i)), SI (Arr.nu (GA (Arr.it a) i)), D.sl N4 (LN (Arr.it (GA (Arr.it a) i))) (fun (i_1 : Nat) => Arr.row (GA (Arr.it (GA
      (Arr.it a) i)) i_1)) Mode.any]) ∧ True) ∧ True) ∧ True) ∧ True)) (∃ (x_2 : Unit), True ∧ (false = badK (Arr.k a) (GI (Arr.nu a) (Int.toNat (↑x_1 : Int))) ∧ True) ∧ (SM x ∧ (SM (Arr.k a) ∧ (SM (LN (Arr.sh a)) ∧ (∀
      (i : Nat), i < LN (Arr.sh a) → SM [ZI (GI (Arr.sh a) i)]) ∧ True) ∧ (SM (LN (Arr.nu a)) ∧ (∀ (i : Nat), i < LN (Arr.nu a) → SM [ZI (GI (Arr.nu a) i)]) ∧ True) ∧ (SM (LN (Arr.it a)) ∧ (∀ (i : Nat), i < LN (Arr.it a)
      → SM [ZI (Arr.k (GA (Arr.it a) i)), SI (Arr.sh (GA (Arr.it a) i)), SI (Arr.nu (GA (Arr.it a) i)), D.sl N4 (LN (Arr.it (GA (Arr.it a) i))) (fun (i_1 : Nat) => Arr.row (GA (Arr.it (GA (Arr.it a) i)) i_1)) Mode.any])
      ∧ True) ∧ True) ∧ True) ∧ True)))) (SM x ∧ ifB (Arr.k a == (2 : Int)) (SM x ∧ side (Z0 ≤ (↑x_1 : Int) ∧ (↑x_1 : Int) < (LI (Arr.nu a))) (True ∧ ∀ (y : Unit), True → ∃ (x_2 : Unit), True ∧ ((!chrB (GI (Arr.nu a)
      (Int.toNat (↑x_1 : Int)))) = badK (Arr.k a) (GI (Arr.nu a) (Int.toNat (↑x_1 : Int))) ∧ True) ∧ (SM x ∧ (SM (Arr.k a) ∧ (SM (LN (Arr.sh a)) ∧ (∀ (i : Nat), i < LN (Arr.sh a) → SM [ZI (GI (Arr.sh a) i)]) ∧ True) ∧
      (SM (LN (Arr.nu a)) ∧ (∀ (i : Nat), i < LN (Arr.nu a) → SM [ZI (GI (Arr.nu a) i)]) ∧ True) ∧ (SM (LN (Arr.it a)) ∧ (∀ (i : Nat), i < LN (Arr.it a) → SM [ZI (Arr.k (GA (Arr.it a) i)), SI (Arr.sh (GA (Arr.it a) i)),
      SI (Arr.nu (GA (Arr.it a) i)), D.sl N4 (LN (Arr.it (GA (Arr.it a) i))) (fun (i_1 : Nat) => Arr.row (GA (Arr.it (GA (Arr.it a) i)) i_1)) Mode.any]) ∧ True) ∧ True) ∧ True) ∧ True)) (∃ (x_2 : Unit), True ∧ (false =
      badK (Arr.k a) (GI (Arr.nu a) (Int.toNat (↑x_1 : Int))) ∧ True) ∧ (SM x ∧ (SM (Arr.k a) ∧ (SM (LN (Arr.sh a)) ∧ (∀ (i : Nat), i < LN (Arr.sh a) → SM [ZI (GI (Arr.sh a) i)]) ∧ True) ∧ (SM (LN (Arr.nu a)) ∧ (∀ (i :
      Nat), i < LN (Arr.nu a) → SM [ZI (GI (Arr.nu a) i)]) ∧ True) ∧ (SM (LN (Arr.it a)) ∧ (∀ (i : Nat), i < LN (Arr.it a) → SM [ZI (Arr.k (GA (Arr.it a) i)), SI (Arr.sh (GA (Arr.it a) i)), SI (Arr.nu (GA (Arr.it a) i)),
      D.sl N4 (LN (Arr.it (GA (Arr.it a) i))) (fun (i_1 : Nat) => Arr.row (GA (Arr.it (GA (Arr.it a) i)) i_1)) Mode.any]) ∧ True) ∧ True) ∧ True) ∧ True))) ∧ ∀ (x_2 : Unit), True → ifB (badK (Arr.k a) (GI (Arr.nu a)
      (Int.toNat (↑x_1 : Int)))) (True ∧ ∃ (y : Unit), True ∧ ((17 : Int) = Prod.fst (chkA a) ∧ Z0 = Prod.fst (Prod.snd (chkA a)) ∧ True) ∧ True ∧ True) ((SM (D.agg [ZI (Arr.k a), SI (Arr.sh a), SI (Arr.nu a), D.sl N4
      (LN (Arr.it a)) (fun (i : Nat) => [ZI (Arr.k (GA (Arr.it a) i)), SI (Arr.sh (GA (Arr.it a) i)), SI (Arr.nu (GA (Arr.it a) i)), D.sl N4 (LN (Arr.it (GA (Arr.it a) i))) (fun (i_1 : Nat) => Arr.row (GA (Arr.it (GA
      (Arr.it a) i)) i_1)) Mode.any]) Mode.any]) ∧ SM (D.ref N0 x N0) ∧ SM (ZI Z0) ∧ SM (ZI Z0) ∧ True) ∧ ∃ (y : Nat), (y ≤ LN (Arr.nu a) ∧ ∀ (z : Int), z ∈ List.take y (Arr.nu a) → badK (Arr.k a) z = false) ∧ LN (Arr.nu
      a) - y < LN (Arr.nu a) - x_1 ∧ (IntKind.wrap IntKind.i64 ((↑x_1 : Int) + Z1) = (↑y : Int) ∧ True) ∧ (SM x ∧ (SM (Arr.k a) ∧ (SM (LN (Arr.sh a)) ∧ (∀ (i : Nat), i < LN (Arr.sh a) → SM [ZI (GI (Arr.sh a) i)]) ∧ True)
      ∧ (SM (LN (Arr.nu a)) ∧ (∀ (i : Nat), i < LN (Arr.nu a) → SM [ZI (GI (Arr.nu a) i)]) ∧ True) ∧ (SM (LN (Arr.it a)) ∧ (∀ (i : Nat), i < LN (Arr.it a) → SM [ZI (Arr.k (GA (Arr.it a) i)), SI (Arr.sh (GA (Arr.it a)
      i)), SI (Arr.nu (GA (Arr.it a) i)), D.sl N4 (LN (Arr.it (GA (Arr.it a) i))) (fun (i_1 : Nat) => Arr.row (GA (Arr.it (GA (Arr.it a) i)) i_1)) Mode.any]) ∧ True) ∧ True) ∧ True) ∧ True)) ((∃ (x_2 : Nat × Int × Int),
      (x_2.1 ≤ LN (Arr.it a) ∧ Z0 ≤ x_2.2.1 ∧ x_2.2.1 ≤ (17 : Int) ∧ Z0 ≤ x_2.2.2 ∧ x_2.2.2 ≤ (262145 : Int) ∧ chkL (List.drop x_2.1 (Arr.it a)) x_2.2.1 x_2.2.2 = chkL (Arr.it a) Z0 ((LI (Arr.nu a)) + (LI (Arr.it a)))) ∧
      (Z0 = (NI x_2.1) ∧ Z0 = x_2.2.1 ∧ True) ∧ (SM x ∧ (SM (Arr.k a) ∧ (SM (LN (Arr.sh a)) ∧ (∀ (i : Nat), i < LN (Arr.sh a) → SM [ZI (GI (Arr.sh a) i)]) ∧ True) ∧ (SM (LN (Arr.nu a)) ∧ (∀ (i : Nat), i < LN (Arr.nu a) →
      SM [ZI (GI (Arr.nu a) i)]) ∧ True) ∧ (SM (LN (Arr.it a)) ∧ (∀ (i : Nat), i < LN (Arr.it a) → SM [ZI (Arr.k (GA (Arr.it a) i)), SI (Arr.sh (GA (Arr.it a) i)), SI (Arr.nu (GA (Arr.it a) i)), D.sl N4 (LN (Arr.it (GA
      (Arr.it a) i))) (fun (i_1 : Nat) => Arr.row (GA (Arr.it (GA (Arr.it a) i)) i_1)) Mode.any]) ∧ True) ∧ True) ∧ True) ∧ True) ∧ ∀ (x_2 : Nat × Int × Int), x_2.1 ≤ LN (Arr.it a) ∧ Z0 ≤ x_2.2.1 ∧ x_2.2.1 ≤ (17 : Int) ∧
      Z0 ≤ x_2.2.2 ∧ x_2.2.2 ≤ (262145 : Int) ∧ chkL (List.drop x_2.1 (Arr.it a)) x_2.2.1 x_2.2.2 = chkL (Arr.it a) Z0 ((LI (Arr.nu a)) + (LI (Arr.it a))) → SM x ∧ ifB (decide ((NI x_2.1) < (LI (Arr.it a)))) (SM x ∧ side
      (Z0 ≤ (NI x_2.1) ∧ (NI x_2.1) < (LI (Arr.it a))) (∃ (x_3 : Arr), ((Arr.k (GA (Arr.it a) (TN x_2.1)) = Arr.k x_3 ∧ (LN (Arr.sh (GA (Arr.it a) (TN x_2.1))) = LN (Arr.sh x_3) ∧ (∀ (i : Nat), i < LN (Arr.sh (GA (Arr.it
      a) (TN x_2.1))) → [ZI (GI (Arr.sh (GA (Arr.it a) (TN x_2.1))) i)] = [ZI (GI (Arr.sh x_3) i)]) ∧ True) ∧ (LN (Arr.nu (GA (Arr.it a) (TN x_2.1))) = LN (Arr.nu x_3) ∧ (∀ (i : Nat), i < LN (Arr.nu (GA (Arr.it a) (TN
      x_2.1))) → [ZI (GI (Arr.nu (GA (Arr.it a) (TN x_2.1))) i)] = [ZI (GI (Arr.nu x_3) i)]) ∧ True) ∧ (LN (Arr.it (GA (Arr.it a) (TN x_2.1))) = LN (Arr.it x_3) ∧ (∀ (i : Nat), i < LN (Arr.it (GA (Arr.it a) (TN x_2.1)))
      → Arr.row (GA (Arr.it (GA (Arr.it a) (TN x_2.1))) i) = Arr.row (GA (Arr.it x_3) i)) ∧ True) ∧ True) ∧ True) ∧ (True ∧ True) ∧ x_3 ∈ Arr.it a ∧ ∀ (y : Unit), True → ifB (Prod.fst (chkA x_3) != Z0) (True ∧ ∃ (y :
      Unit), True ∧ ((17 : Int) = Prod.fst (chkA a) ∧ Z0 = Prod.fst (Prod.snd (chkA a)) ∧ True) ∧ True ∧ True) ((SM (D.agg [ZI (Arr.k a), SI (Arr.sh a), SI (Arr.nu a), D.sl N4 (LN (Arr.it a)) (fun (i : Nat) => [ZI (Arr.k
      (GA (Arr.it a) i)), SI (Arr.sh (GA (Arr.it a) i)), SI (Arr.nu (GA (Arr.it a) i)), D.sl N4 (LN (Arr.it (GA (Arr.it a) i))) (fun (i_1 : Nat) => Arr.row (GA (Arr.it (GA (Arr.it a) i)) i_1)) Mode.any]) Mode.any]) ∧ SM
      (D.ref N0 x N0) ∧ SM (ZI Z0) ∧ SM (ZI Z0) ∧ True) ∧ ∃ (y : Nat × Int × Int), (y.1 ≤ LN (Arr.it a) ∧ Z0 ≤ y.2.1 ∧ y.2.1 ≤ (17 : Int) ∧ Z0 ≤ y.2.2 ∧ y.2.2 ≤ (262145 : Int) ∧ chkL (List.drop y.1 (Arr.it a)) y.2.1
      y.2.2 = chkL (Arr.it a) Z0 ((LI (Arr.nu a)) + (LI (Arr.it a)))) ∧ LN (Arr.it a) - y.1 < LN (Arr.it a) - x_2.1 ∧ (IntKind.wrap IntKind.i64 ((NI x_2.1) + Z1) = (NI y.1) ∧ (if x_2.2.1 < IntKind.wrap IntKind.i64
      (Prod.fst (Prod.snd (chkA x_3)) + Z1) then IntKind.wrap IntKind.i64 (Prod.fst (Prod.snd (chkA x_3)) + Z1) else x_2.2.1) = y.2.1 ∧ True) ∧ (SM x ∧ (SM (Arr.k a) ∧ (SM (LN (Arr.sh a)) ∧ (∀ (i : Nat), i < LN (Arr.sh
      a) → SM [ZI (GI (Arr.sh a) i)]) ∧ True) ∧ (SM (LN (Arr.nu a)) ∧ (∀ (i : Nat), i < LN (Arr.nu a) → SM [ZI (GI (Arr.nu a) i)]) ∧ True) ∧ (SM (LN (Arr.it a)) ∧ (∀ (i : Nat), i < LN (Arr.it a) → SM [ZI (Arr.k (GA
      (Arr.it a) i)), SI (Arr.sh (GA (Arr.it a) i)), SI (Arr.nu (GA (Arr.it a) i)), D.sl N4 (LN (Arr.it (GA (Arr.it a) i))) (fun (i_1 : Nat) => Arr.row (GA (Arr.it (GA (Arr.it a) i)) i_1)) Mode.any]) ∧ True) ∧ True) ∧
      True) ∧ True))) (ifB (decide ((16 : Int) < x_2.2.1)) (True ∧ ∃ (y : Unit), True ∧ ((21 : Int) = Prod.fst (chkA a) ∧ Z0 = Prod.fst (Prod.snd (chkA a)) ∧ True) ∧ True ∧ True) (SM x ∧ ∃ (x : Arr), ((Arr.k a = Arr.k x
      ∧ (LN (Arr.sh a) = LN (Arr.sh x) ∧ (∀ (i : Nat), i < LN (Arr.sh a) → [ZI (GI (Arr.sh a) i)] = [ZI (GI (Arr.sh x) i)]) ∧ True) ∧ (LN (Arr.nu a) = LN (Arr.nu x) ∧ (∀ (i : Nat), i < LN (Arr.nu a) → [ZI (GI (Arr.nu a)
      i)] = [ZI (GI (Arr.nu x) i)]) ∧ True) ∧ (LN (Arr.it a) = LN (Arr.it x) ∧ (∀ (i : Nat), i < LN (Arr.it a) → [ZI (Arr.k (GA (Arr.it a) i)), SI (Arr.sh (GA (Arr.it a) i)), SI (Arr.nu (GA (Arr.it a) i)), D.sl N4 (LN
      (Arr.it (GA (Arr.it a) i))) (fun (i_1 : Nat) => Arr.row (GA (Arr.it (GA (Arr.it a) i)) i_1)) Mode.any] = [ZI (Arr.k (GA (Arr.it x) i)), SI (Arr.sh (GA (Arr.it x) i)), SI (Arr.nu (GA (Arr.it x) i)), D.sl N4 (LN
      (Arr.it (GA (Arr.it x) i))) (fun (i_1 : Nat) => Arr.row (GA (Arr.it (GA (Arr.it x) i)) i_1)) Mode.any]) ∧ True) ∧ True) ∧ True) ∧ (True ∧ True) ∧ x = a ∧ ∀ (y : Unit), True → ifB (decide ((262144 : Int) < wtA x))
      (True ∧ ∃ (y : Unit), True ∧ ((21 : Int) = Prod.fst (chkA a) ∧ Z0 = Prod.fst (Prod.snd (chkA a)) ∧ True) ∧ True ∧ True) (True ∧ ∃ (y : Unit), True ∧ (Z0 = Prod.fst (chkA a) ∧ x_2.2.1 = Prod.fst (Prod.snd (chkA a))
      ∧ True) ∧ True ∧ True)))))))))) (by kernel_rfl) ?_
  delta DA GA GI LI LN N0 N1 N4 NI SI SM TN Z0 Z1 ZI
  have da : (default : Arr) = Arr.mk 0 [] [] [] := rfl
  simp only [← da, intsD_isl, idxB_any, Int.toNat_natCast, ifB_iff, side_iff, decide_eq_true_eq, decide_eq_false_iff_not, true_and, and_true, beq_iff_eq, bne_iff_ne, Bool.cond_false_right, Bool.cond_true_left, Bool.and_eq_true, Bool.and_eq_false_iff, beq_eq_false_iff_ne, ne_eq, exists_const, forall_const]
  have hA := chkA_eq a
  obtain ⟨l1, l2, l3⟩ := ha
  simp only [maxLen] at l1 l2 l3
  have tt : (∀ i : Nat, i < a.sh.length → True) ∧ (∀ i : Nat, i < a.nu.length → True) ∧ ∀ i : Nat, i < a.it.length → True := ⟨fun _ _ => trivial, fun _ _ => trivial, fun _ _ => trivial⟩
  have bad : ∀ e, formS a.k a.sh a.nu.length a.it.length = e → e ≠ 0 → e = (chkA a).1 ∧ 0 = (chkA a).2.1 := fun e h1 h2 => by
    rw [if_pos (by rw [h1]; exact h2), h1] at hA
    rw [hA]; exact ⟨rfl, rfl⟩
  refine ⟨⟨fun h => by simp [h], fun h => by simp [h]⟩, fun h => bad 14 ?_ (by decide), fun h => ⟨intsP_isl _, fun hd => bad _ ?_ hd, fun hd => ?_⟩⟩
  · rw [Bool.or_eq_true, decide_eq_true_eq, decide_eq_true_eq] at h
    unfold formS; rw [if_neg (by omega)]
  · rw [Bool.or_eq_false_iff, decide_eq_false_iff_not, decide_eq_false_iff_not] at h
    unfold formS; rw [if_pos (by omega), if_pos hd]
  rw [Bool.or_eq_false_iff, decide_eq_false_iff_not, decide_eq_false_iff_not] at h
  have hd0 : dimsS a.sh = 0 := by simpa using hd
  have hk : a.k = 1 ∨ a.k = 2 ∨ a.k = 3 := by omega
  have hf : formS a.k a.sh a.nu.length a.it.length = if ((if a.k = 3 then (a.it.length : Int) else a.nu.length) ≠ sizeS a.sh) ∨ ((if a.k = 3 then (a.nu.length : Int) else a.it.length) ≠ 0) then 16 else 0 := by
    unfold formS; rw [if_pos hk, if_neg (fun e => e hd0)]
  have hsz : sizeR a.k a.nu.length a.it.length = if a.k = 3 then (a.it.length : Int) else a.nu.length := by
    unfold sizeR
    by_cases k3 : a.k = 3
    · rw [if_neg (by omega), if_pos k3, if_pos k3]
    · rw [if_pos (by omega), if_neg k3]
  rw [← hsz] at hf
  refine ⟨fun k3 => ⟨⟨intsP_isl _, hd0⟩, fun hs => bad 16 (by rw [hf, if_pos (.inl hs)]) (by decide), fun hs => ⟨fun ho => bad 16 (by rw [hf, if_pos (.inr (by rw [if_pos k3]; omega))]) (by decide), fun ho => ?_⟩⟩,
    fun k3 => ⟨⟨intsP_isl _, hd0⟩, fun hs => bad 16 (by rw [hf, if_pos (.inl hs)]) (by decide), fun hs => ⟨fun ho => bad 16 (by rw [hf, if_pos (.inr (by rw [if_neg k3]; omega))]) (by decide), fun ho => ?_⟩⟩⟩
  all_goals
    have hs' : sizeR a.k a.nu.length a.it.length = sizeS a.sh := by simpa using hs
    have h0 : formS a.k a.sh a.nu.length a.it.length = 0 := by
      rw [hf, if_neg]
      rintro (h1 | h1)
      · exact h1 hs'
      · simp only [k3, if_true, if_false] at h1; omega
    clear hf hs hsz
    have hsm := form_small h0
    refine ⟨⟨0, ⟨Nat.zero_le _, by simp⟩, rfl, tt⟩, fun i hi => ⟨fun hlt => ?_, fun hge => ?_⟩⟩
    · have hlt' : i < a.nu.length := by omega
      have hmem : a.nu.getD i 0 ∈ a.nu := by rw [List.getD_eq_getElem?_getD, List.getElem?_eq_getElem hlt']; exact List.getElem_mem hlt'
      have htk : a.nu.take (i + 1) = a.nu.take i ++ [a.nu.getD i 0] := by
        rw [List.take_add_one]; simp [List.getD_eq_getElem?_getD, hlt']
      generalize a.nu.getD i 0 = z at *
      refine ⟨⟨fun k1 => ⟨⟨by omega, hlt⟩, fun hn => ⟨by simp at hn; simp [badK, k1, hn], tt⟩, fun hn => ⟨fun k2 => by omega, fun k2 => ⟨by simp at hn; simp [badK, k1, hn], tt⟩⟩⟩, fun k1 => ⟨fun k2 => ⟨⟨by omega, hlt⟩, by simp [badK, k2], tt⟩, fun k2 => ⟨by simp [badK, k1, k2], tt⟩⟩⟩, fun hb => ?_, fun hb => ⟨i + 1, ⟨by omega, fun y hy => ?_⟩, by omega, wrap_i64' (by omega) (by omega), tt⟩⟩
      · have : a.nu.any (badK a.k) = true := List.any_eq_true.2 ⟨z, hmem, hb⟩
        rw [if_neg (fun e => e h0), if_pos this] at hA
        rw [hA]
        exact ⟨rfl, rfl⟩
      · rw [htk, List.mem_append] at hy
        rcases hy with hy | hy
        · exact hi.2 y hy
        · simp at hy; rw [hy]; exact hb
    · have hii : i = a.nu.length := by omega
      rw [hii, List.take_length] at hi
      have hany : ¬ a.nu.any (badK a.k) = true := by
        rw [List.any_eq_true]
        rintro ⟨z, hz, hb⟩
        rw [hi.2 z hz] at hb
        cases hb
      rw [if_neg (fun e => e h0), if_neg hany] at hA
      refine ⟨⟨(0, 0, (a.nu.length : Int) + a.it.length), ⟨Nat.zero_le _, Int.le_refl _, by simp, by simp only; omega, by simp only; omega, by simp⟩, ⟨rfl, rfl⟩, tt⟩, ?_⟩
      rintro ⟨j, d, w⟩ ⟨b1, b2, b3, b4, b5, hch⟩
      simp only at b1 b2 b3 b4 b5 hch ⊢
      refine ⟨fun hlt => ⟨⟨by omega, hlt⟩, ?_⟩, fun hge => ?_⟩
      · have hlt' : j < a.it.length := by omega
        have hbd := chkA_bounds (a.it.getD j default)
        rw [drop_step hlt', chkL] at hch
        refine ⟨a.it.getD j default, ⟨rfl, ⟨rfl, fun _ _ => rfl⟩, ⟨rfl, fun _ _ => rfl⟩, rfl, fun _ _ => rfl⟩, mem_getD hlt', fun herr => ?_, fun hok => ?_⟩
        · rw [if_pos herr] at hch
          rw [← hch] at hA
          rw [hA]
          exact ⟨rfl, rfl⟩
        · have hok : (chkA (a.it.getD j default)).1 = 0 := by simpa using hok
          rw [if_neg (fun hne => hne hok)] at hch
          have w1 : IntKind.i64.wrap ((chkA (a.it.getD j default)).2.1 + 1) = (chkA (a.it.getD j default)).2.1 + 1 := wrap_i64' (by omega) (by omega)
          rw [w1]
          refine ⟨(j + 1, (if d < (chkA (a.it.getD j default)).2.1 + 1 then (chkA (a.it.getD j default)).2.1 + 1 else d), (if 262145 < w + (chkA (a.it.getD j default)).2.2 then 262145 else w + (chkA (a.it.getD j default)).2.2)), ⟨by simp only; omega, ?_, ?_, ?_, ?_, hch⟩, by simp only; omega, ⟨wrap_i64' (by omega) (by omega), rfl⟩, tt⟩
          · simp only; split <;> omega
          · simp only; split <;> omega
          · simp only; split <;> omega
          · simp only; split <;> omega
      · have hj : j = a.it.length := by omega
        rw [hj, List.drop_length, chkL] at hch
        have hw := wt_of h0 hch.symm fun x _ hx => wt_chk x hx
        rw [← hch] at hA
        simp only at hA hw
        refine ⟨fun hc => ?_, fun hc => ⟨a, ⟨rfl, ⟨rfl, fun _ _ => rfl⟩, ⟨rfl, fun _ _ => rfl⟩, rfl, fun _ _ => rfl⟩, rfl, fun hq => ?_, fun hq => ?_⟩⟩
        · rw [if_pos (.inl hc)] at hA
          rw [hA]; exact ⟨rfl, rfl⟩
        · rw [if_pos (.inr (by omega))] at hA
          rw [hA]; exact ⟨rfl, rfl⟩
        · rw [if_neg (by omega)] at hA
          rw [hA]; exact ⟨rfl, rfl⟩
theorem ck_all : ∀ (a : Arr), a.ok → ACalls Try.prog 65 ((sRc Arr.row2 (fun _ => True) resC).args a) ⟨[], []⟩ (SpecR (sRc Arr.row2 (fun _ => True) resC) a)
  | .mk k s n is, h => by
    have h' := h
    simp only [Arr.ok] at h'
    obtain ⟨_, _, _, h1, h2, h3, h4⟩ := h'
    refine ck_step (.mk k s n is) h ⟨h2, h3, h1⟩ fun b hb => ?_
    have hb' : b ∈ is := hb
    exact ck_all b ((okL_iff _).1 h4 b hb')
termination_by a => SizeOf.sizeOf a
decreasing_by
  have := List.sizeOf_lt_of_mem hb'
  simp; omega
end Go.Proofs.Ytoglbmhkfkghbaa
namespace Go.Proofs.Ytoglbmhkfkghbaa
open Go Go.Ab

/-! ### arrays: both validities, and over lists -/
theorem sRc_row0 {k : Nat} {q q' : Arr → Prop} {r : Arr → D} {b : Arr} (h : ACalls Try.prog k ((sRc Arr.row1 q r).args b) ⟨[], []⟩ (SpecR (sRc Arr.row1 q r) b)) : ACalls Try.prog k ((sRc Arr.row q' r).args b) ⟨[], []⟩ (SpecR (sRc Arr.row q' r) b) := by
  refine (h.wkArgs ?_).mono fun _ _ ⟨y, h1, h2, h3⟩ => ⟨y, h1, h2, h3⟩
  simp only [sRc, wkL, wkD]
  exact ⟨row_wk b, trivial⟩
theorem sRc_q {k : Nat} {row : Arr → List D} {q q' : Arr → Prop} {r : Arr → D} {b : Arr} (h : ACalls Try.prog k ((sRc row q r).args b) ⟨[], []⟩ (SpecR (sRc row q r) b)) : ACalls Try.prog k ((sRc row q' r).args b) ⟨[], []⟩ (SpecR (sRc row q' r) b) :=
  h.mono fun _ _ ⟨y, h1, h2, h3⟩ => ⟨y, h1, h2, h3⟩
def errA (a : Arr) : D := .int .i64 (chkA a).1
def conRr (a : Arr) : Con := fun k _ _ => match k with
  | 65 => some (sRc Arr.row2 (fun b => b = a) (fun b => .tup [.int .i64 (chkA b).1, .int .i64 (chkA b).2.1]))
  | 35 => some (sRc Arr.row1 (fun b => b = a) (fun b => .int .i64 (chkA b).1))
  | _ => none
theorem conRr_ok {a : Arr} (ha : a.ok) : ConOk Try.prog (conRr a) := by
  intro k ds S A h
  unfold conRr at h
  split at h
  · injection h with h; subst h
    refine ConOk.plain (fun b hb => ?_) rfl rfl
    have hb : b = a := hb
    rw [hb]
    exact sRc_q (r := resC) (ck_all a ha)
  · injection h with h; subst h
    refine ConOk.plain (fun b hb => ?_) rfl rfl
    have hb : b = a := hb
    rw [hb]
    exact (ri_ok a ha).mono fun _ _ ⟨y, h1, h2, h3⟩ => ⟨(), trivial, h2, h3⟩
  · cases h
noncomputable def Err (a : Arr) : Senv := EC (conRr a) 11 5 [] (fun _ => ([], []))
theorem rri_ok (a : Arr) (ha : a.ok) : ACalls Try.prog 42 ((sRc Arr.row2 (fun _ => True) errA).args a) ⟨[], []⟩ (SpecR (sRc Arr.row2 (fun _ => True) errA) a) := by
  refine con_of (A := sRc Arr.row2 (fun _ => True) errA) (x := a) (E := Err a) (eOk (conRr_ok ha) rfl) Try.func42 rfl (by kernel_rfl) rfl (by simp [sRc, Err, EC, E0]) ?_
  simp only [sRc, errA]
  refine vc_eq (T :=
      ∀ (x : Nat), True → SM x ∧ ∃ (x : Arr), ((Arr.k a = Arr.k x ∧ (LN (Arr.sh a) = LN (Arr.sh x) ∧ (∀ (i : Nat), i < LN (Arr.sh a) → [ZI (GI (Arr.sh a) i)] = [ZI (GI (Arr.sh x) i)]) ∧ True) ∧ (LN (Arr.nu a) = LN
      (Arr.nu x) ∧ (∀ (i : Nat), i < LN (Arr.nu a) → [ZI (GI (Arr.nu a) i)] = [ZI (GI (Arr.nu x) i)]) ∧ True) ∧ (LN (Arr.it a) = LN (Arr.it x) ∧ (∀ (i : Nat), i < LN (Arr.it a) → [ZI (Arr.k (GA (Arr.it a) i)), SI (Arr.sh
      (GA (Arr.it a) i)), SI (Arr.nu (GA (Arr.it a) i)), D.sl N4 (LN (Arr.it (GA (Arr.it a) i))) (fun (i_1 : Nat) => Arr.row (GA (Arr.it (GA (Arr.it a) i)) i_1)) Mode.any] = [ZI (Arr.k (GA (Arr.it x) i)), SI (Arr.sh (GA
      (Arr.it x) i)), SI (Arr.nu (GA (Arr.it x) i)), D.sl N4 (LN (Arr.it (GA (Arr.it x) i))) (fun (i_1 : Nat) => Arr.row (GA (Arr.it (GA (Arr.it x) i)) i_1)) Mode.any]) ∧ True) ∧ True) ∧ True) ∧ (True ∧ True) ∧ x = a ∧ ∀
      (y : Unit), True → True ∧ ∃ (y : Unit), True ∧ Prod.fst (chkA x) = Prod.fst (chkA a) ∧ True ∧ True) (by kernel_rfl) ?_
  delta DA GA GI LN N1 N4 SI SM Z0 ZI
  simp only [and_true, exists_const]
  intro x _
  exact ⟨trivial, a, ⟨rfl, ⟨rfl, fun _ _ => rfl⟩, ⟨rfl, fun _ _ => rfl⟩, rfl, fun _ _ => rfl⟩, trivial, rfl, fun _ _ => ⟨trivial, trivial, rfl⟩⟩
def badA (a : Arr) : D := .bool ((chkA a).1 != 0)
noncomputable def Ebad (a : Arr) : Senv := EC (conRr a) 6 3 [] (fun _ => ([], []))
theorem bad_ok (a : Arr) (ha : a.ok) : ACalls Try.prog 34 ((sRc Arr.row1 (fun _ => True) badA).args a) ⟨[], []⟩ (SpecR (sRc Arr.row1 (fun _ => True) badA) a) := by
  refine con_of (A := sRc Arr.row1 (fun _ => True) badA) (x := a) (E := Ebad a) (eOk (conRr_ok ha) rfl) Try.func34 rfl (by kernel_rfl) rfl (by simp [sRc, Ebad, EC, E0]) ?_
  simp only [sRc, badA]
  refine vc_eq (T :=
      ∀ (x : Nat), True → SM x ∧ ∃ (x : Arr), ((Arr.k a = Arr.k x ∧ (LN (Arr.sh a) = LN (Arr.sh x) ∧ (∀ (i : Nat), i < LN (Arr.sh a) → [ZI (GI (Arr.sh a) i)] = [ZI (GI (Arr.sh x) i)]) ∧ True) ∧ (LN (Arr.nu a) = LN
      (Arr.nu x) ∧ (∀ (i : Nat), i < LN (Arr.nu a) → [ZI (GI (Arr.nu a) i)] = [ZI (GI (Arr.nu x) i)]) ∧ True) ∧ (LN (Arr.it a) = LN (Arr.it x) ∧ (∀ (i : Nat), i < LN (Arr.it a) → Arr.row (GA (Arr.it a) i) = Arr.row (GA
      (Arr.it x) i)) ∧ True) ∧ True) ∧ True) ∧ (True ∧ True) ∧ x = a ∧ ∀ (y : Unit), True → True ∧ ∃ (y : Unit), True ∧ (Prod.fst (chkA x) != Z0) = (Prod.fst (chkA a) != Z0) ∧ True ∧ True) (by kernel_rfl) ?_
  delta DA GA GI LN SM Z0 ZI
  simp only [and_true, exists_const]
  intro x _
  exact ⟨trivial, a, ⟨rfl, ⟨rfl, fun _ _ => rfl⟩, ⟨rfl, fun _ _ => rfl⟩, rfl, fun _ _ => rfl⟩, trivial, rfl, fun _ _ => ⟨trivial, trivial, rfl⟩⟩
/-! the place of the first -/
def idxG {α : Type} (p : α → Bool) : List α → Int → Int
  | [], _ => -1
  | x :: r, i => if p x then i else idxG p r (i + 1)
theorem idxG_any {α : Type} (p : α → Bool) : ∀ (l : List α) (i : Int), 0 ≤ i → (decide (0 ≤ idxG p l i)) = l.any p
  | [], i, _ => by simp [idxG]
  | x :: r, i, h => by
    rw [idxG]
    by_cases hx : p x = true
    · rw [if_pos hx]; simp [hx, h]
    · rw [if_neg hx, idxG_any p r (i + 1) (by omega)]; simp [hx]
structure IdxG {α : Type} (p : α → Bool) (l : List α) (i : Nat) : Prop where
  hi : i ≤ l.length
  hg : idxG p (l.drop i) i = idxG p l 0
theorem IdxG.step {α : Type} [Inhabited α] {p : α → Bool} {l : List α} {i : Nat} (h : IdxG p l i) (hlt : i < l.length) : (p (l.getD i default) = true → idxG p l 0 = i) ∧ (p (l.getD i default) = false → IdxG p l (i + 1)) := by
  have hg := h.hg
  rw [drop_step hlt, idxG] at hg
  refine ⟨fun e => ?_, fun e => ?_⟩
  · rw [if_pos e] at hg; exact hg.symm
  · rw [if_neg (by rw [e]; exact Bool.false_ne_true)] at hg; exact ⟨by omega, hg⟩
theorem IdxG.done {α : Type} {p : α → Bool} {l : List α} {i : Nat} (h : IdxG p l i) (hge : ¬ (i : Int) < l.length) : idxG p l 0 = -1 := by
  have hg := h.hg
  have : i = l.length := by have := h.hi; omega
  rw [this, List.drop_length, idxG] at hg
  exact hg.symm
theorem row_four (a : Arr) : a.row.length = 4 := by
  cases a with
  | mk k s n is => rfl
def conBa (l : List Arr) : Con := fun k _ _ => match k with
  | 34 => some (sRc Arr.row (fun b => b ∈ l) (fun b => .bool ((chkA b).1 != 0)))
  | _ => none
theorem conBa_ok {l : List Arr} (h : ∀ a ∈ l, a.ok) : ConOk Try.prog (conBa l) := by
  intro k ds S A hh
  unfold conBa at hh
  split at hh
  · injection hh with hh; subst hh
    exact ConOk.plain (fun b hb => sRc_row0 (r := badA) (bad_ok b (h b hb))) rfl rfl
  · cases hh
noncomputable def Eix (l : List Arr) : Senv := { EC (conBa l) 19 2 [4, 5, 7, 8, 9, 16] (fun _ => ([], [])) with
  ann := fun b _ _ => match b with
    | 0 => some { slots := [8], keep := [0, 1, 6, 7], α := Nat, st := fun i => ([.int .i64 i], ⟨[], []⟩), inv := fun i => IdxG (fun a => (chkA a).1 != 0) l i, mu := fun i => l.length - i }
    | _ => none }
theorem ix_ok (l : List Arr) (h : ∀ a ∈ l, a.ok) (hl : l.length ≤ maxLen) : ACalls Try.prog 55 [gsl 4 Arr.row l, .fn (.func 34) [] []] ⟨[], []⟩ (SpecR (sC [gsl 4 Arr.row l, .fn (.func 34) [] []] (.int .i64 (idxG (fun a => (chkA a).1 != 0) l 0))) ()) := by
  refine con_of (A := sC _ _) (x := ()) (E := Eix l) (eOk (conBa_ok h) rfl) Try.func55 rfl (by kernel_rfl) rfl (by simp [sC, Eix, EC, E0]) ?_
  refine vc_eq (T :=
      (∃ (x : Nat), IdxG (fun (a : Arr) => Prod.fst (chkA a) != Z0) l x ∧ (Z0 = (↑x : Int) ∧ True) ∧ True ∧ True) ∧ ∀ (x : Nat), IdxG (fun (a : Arr) => Prod.fst (chkA a) != Z0) l x → ifB (decide ((↑x : Int) < (LI l)))
      (side (Z0 ≤ (↑x : Int) ∧ (↑x : Int) < (LI l)) (side (N4 ≤ LN (Arr.row (GA l (Int.toNat (↑x : Int))))) (∃ (x_1 : Arr), (weakL (List.take N4 (List.drop N0 (Arr.row (GA l (Int.toNat (↑x : Int)))))) (Arr.row x_1) ∧
      True) ∧ (True ∧ True) ∧ x_1 ∈ l ∧ ∀ (y : Unit), True → ifB (Prod.fst (chkA x_1) != Z0) (True ∧ ∃ (y : Unit), True ∧ (↑x : Int) = idxG (fun (a : Arr) => Prod.fst (chkA a) != Z0) l Z0 ∧ True ∧ True) ((SM (D.sl N4 (LN
      l) (fun (i : Nat) => Arr.row (GA l i)) Mode.any) ∧ SM (D.fn (Fn.func (34 : Nat)) [] []) ∧ SM D.unk ∧ SM (ZI (LI l)) ∧ True) ∧ ∃ (y : Nat), IdxG (fun (a : Arr) => Prod.fst (chkA a) != Z0) l y ∧ LN l - y < LN l - x ∧
      (IntKind.wrap IntKind.i64 ((↑x : Int) + Z1) = (↑y : Int) ∧ True) ∧ True ∧ True)))) (True ∧ ∃ (y : Unit), True ∧ (-1 : Int) = idxG (fun (a : Arr) => Prod.fst (chkA a) != Z0) l Z0 ∧ True ∧ True)) (by kernel_rfl) ?_
  delta DA GA LI LN N0 N4 SM Z0 Z1 ZI
  simp only [Int.toNat_natCast, ifB_iff, side_iff, decide_eq_true_eq, decide_eq_false_iff_not, true_and, and_true, exists_const]
  simp only [maxLen] at hl
  refine ⟨⟨0, ⟨Nat.zero_le _, by simp⟩, rfl⟩, fun i hh => ⟨fun hlt => ?_, fun hge => (hh.done hge).symm⟩⟩
  have hlt' : i < l.length := by omega
  obtain ⟨s1, s2⟩ := hh.step hlt'
  have r4 := row_four (l.getD i default)
  refine ⟨⟨by omega, hlt⟩, Nat.le_of_eq r4.symm, l.getD i default, ?_, mem_getD hlt', fun _ _ => ⟨fun e => (s1 e).symm, fun e => ⟨i + 1, s2 e, by omega, wrap_i64' (by omega) (by omega)⟩⟩⟩
  have da : (default : Arr) = Arr.mk 0 [] [] [] := rfl
  rw [← da, List.drop_zero, List.take_of_length_le (Nat.le_of_eq r4)]
  exact weakL_refl _
/-! a list has one that is not right -/
noncomputable def Ecf (l : List Arr) : Senv := EC (fun k ds _ => match k with
  | 55 => some (pC ds (.int .i64 (idxG (fun a => (chkA a).1 != 0) l 0)) (ds = [gsl 4 Arr.row l, .fn (.func 34) [] []]))
  | _ => none) 9 2 [4] (fun _ => ([], []))
theorem cf_ok (l : List Arr) (h : ∀ a ∈ l, a.ok) (hl : l.length ≤ maxLen) : ACalls Try.prog 33 [gsl 4 Arr.row l, .fn (.func 34) [] []] ⟨[], []⟩ (SpecR (sC [gsl 4 Arr.row l, .fn (.func 34) [] []] (.bool (l.any fun a => (chkA a).1 != 0))) ()) := by
  refine con_of (A := sC _ _) (x := ()) (E := Ecf l) (eOk ?_ rfl) Try.func33 rfl (by kernel_rfl) rfl (by simp [sC, Ecf, EC, E0]) ?_
  · intro k ds S A hh
    dsimp only at hh
    split at hh
    · injection hh with hh; subst hh
      refine pC_ok fun e => ⟨weakL_refl _, ?_⟩
      rw [e]
      exact ix_ok l h hl
    · cases hh
  refine vc_eq (T :=
      SM [D.sl N4 (LN l) (fun (i : Nat) => Arr.row (GA l i)) Mode.any, D.fn (Fn.func (34 : Nat)) [] []] ∧ ∀ (y : Unit), True → True ∧ ∃ (y : Unit), True ∧ (decide (Z0 ≤ idxG (fun (a : Arr) => Prod.fst (chkA a) != Z0) l
      Z0) = List.any l fun (a : Arr) => Prod.fst (chkA a) != Z0) ∧ True ∧ True) (by kernel_rfl) ?_
  delta DA GA LN N4 SM Z0
  simp only [Int.toNat_natCast, ifB_iff, side_iff, decide_eq_true_eq, decide_eq_false_iff_not, true_and, and_true, exists_const]
  exact fun _ _ => idxG_any _ l 0 (Int.le_refl _)
end Go.Proofs.Ytoglbmhkfkghbaa
namespace Go.Proofs.Ytoglbmhkfkghbaa
open Go Go.Ab
set_option maxRecDepth 100000

/-! ### arrays as bytes -/
mutual
def arrB : Arr → List UInt8
  | .mk k s n is => numsB [k, (s.length : Int)] ++ numsB s ++ numsB n ++ arrBL is
def arrBL : List Arr → List UInt8
  | [] => []
  | a :: r => arrB a ++ arrBL r
end
mutual
def szA : Arr → Nat
  | .mk _ s n is => 2 + s.length + n.length + szL is
def szL : List Arr → Nat
  | [] => 0
  | a :: r => szA a + szL r
end
theorem arrB_eq (a : Arr) : arrB a = numsB [a.k, (a.sh.length : Int)] ++ numsB a.sh ++ numsB a.nu ++ arrBL a.it := by
  cases a with
  | mk k s n is => rw [arrB]; rfl
theorem szA_eq (a : Arr) : szA a = 2 + a.sh.length + a.nu.length + szL a.it := by
  cases a with
  | mk k s n is => rw [szA]; rfl
mutual
theorem arrB_len : ∀ a : Arr, (arrB a).length ≤ 10 * szA a
  | .mk k s n is => by
    have h1 := numsB_len [k, (s.length : Int)]
    have h2 := numsB_len s
    have h3 := numsB_len n
    have h4 := arrBL_len is
    simp only [arrB, szA, List.length_append, List.length_cons, List.length_nil] at h1 ⊢
    omega
theorem arrBL_len : ∀ l : List Arr, (arrBL l).length ≤ 10 * szL l
  | [] => by simp [arrBL]
  | a :: r => by
    have h1 := arrB_len a
    have h2 := arrBL_len r
    simp only [arrBL, szL, List.length_append]
    omega
end
theorem arrBL_app : ∀ (l r : List Arr), arrBL (l ++ r) = arrBL l ++ arrBL r
  | [], r => by simp [arrBL]
  | a :: l, r => by simp only [List.cons_append, arrBL, arrBL_app l r, List.append_assoc]
theorem szL_app : ∀ (l r : List Arr), szL (l ++ r) = szL l + szL r
  | [], r => by simp [szL]
  | a :: l, r => by simp only [List.cons_append, szL, szL_app l r, Nat.add_assoc]
theorem arrBL_take {l : List Arr} {i : Nat} (h : i < l.length) : arrBL (l.take (i + 1)) = arrBL (l.take i) ++ arrB (l.getD i default) := by
  rw [take_step h, arrBL_app]; simp [arrBL]
theorem szL_take {l : List Arr} {i : Nat} (h : i < l.length) : szL (l.take i) + szA (l.getD i default) ≤ szL l := by
  have e := szL_app (l.take i) (l.drop i)
  rw [List.take_append_drop, drop_step h, szL] at e
  omega
def sWa (row : Arr → List D) (q : Arr → Prop) : FnSpec where
  β := Nat × Nat × List UInt8 × Arr
  α := Nat × List UInt8
  args := fun b => [.ref 0 b.1 0, .agg (row b.2.2.2)]
  st := fun b => ⟨[(0, b.1, .cells [bsl b.2.2.1 (.tok 0 b.2.1)])], [(0, b.2.1)]⟩
  pre := fun b => q b.2.2.2 ∧ b.2.2.1.length + 10 * szA b.2.2.2 ≤ 70368744177664
  post := fun b y => y.2 = b.2.2.1 ++ arrB b.2.2.2
  res := fun _ _ => .ret (.tup [])
  out := fun b y => ⟨[(0, b.1, .cells [bsl y.2 (.tok 0 y.1)])], [(0, y.1)]⟩
def conWa (its : List Arr) : Con := fun k ds S => match k with
  | 41 => some (sWa Arr.row1 (fun b => b ∈ its))
  | k => conW con0 k ds S
noncomputable def Ewa (x : Nat) (l : List UInt8) (a : Arr) : Senv := { EC (conWa a.it) 33 2 [3, 5, 23, 24, 25, 26] (fun _ => ([], [])) with
  ann := fun b _ _ => match b with
    | 0 => some { slots := [25], keep := [0, 23, 24], α := Nat × Nat × List UInt8, st := fun y => ([.int .i64 y.1], ⟨[(0, x, .cells [bsl y.2.2 (.tok 0 y.2.1)])], [(0, y.2.1)]⟩), inv := fun y => y.1 ≤ a.it.length ∧ y.2.2 = l ++ numsB [a.k, (a.sh.length : Int)] ++ numsB a.sh ++ numsB a.nu ++ arrBL (a.it.take y.1), mu := fun y => a.it.length - y.1 }
    | _ => none }
theorem wa_step (x t : Nat) (l : List UInt8) (a : Arr) (ha : a.nu.length ≤ maxLen ∧ a.it.length ≤ maxLen ∧ a.sh.length ≤ maxLen) (ho : inI64 a.k ∧ (∀ z ∈ a.sh, inI64 z) ∧ (∀ z ∈ a.nu, inI64 z)) (hl : l.length + 10 * szA a ≤ 70368744177664)
    (hc : ConOk Try.prog (conWa a.it)) :
    ACalls Try.prog 41 ((sWa Arr.row2 (fun _ => True)).args (x, t, l, a)) ((sWa Arr.row2 (fun _ => True)).st (x, t, l, a)) (SpecR (sWa Arr.row2 (fun _ => True)) (x, t, l, a)) := by
  refine con_of (A := sWa Arr.row2 (fun _ => True)) (x := (x, t, l, a)) (E := Ewa x l a) (eOk hc rfl) Try.func41 rfl (by kernel_rfl) rfl (by simp [sWa, Ewa, EC, E0]) ?_
  refine vc_eq (T :=
      ∀ (x_1 : Nat), x ≠ x_1 ∧ True → SM x_1 ∧ SM x_1 ∧ ((SM x ∧ tokIs [(N0, t)] N0 t ∧ fitP (LN l) (fun (i : Nat) => [ZB (BI l i)]) N2 fun (i : Nat) => List.getD [[ZI (Arr.k a)], [ZI (LI (Arr.sh a))]] i []) ∧ True) ∧ ∀
      (y : Nat × List UInt8), y.2 = (bytesOf (LN l) fun (i : Nat) => [ZB (BI l i)]) ++ numsB [rowInt [ZI (Arr.k a)], rowInt [ZI (LI (Arr.sh a))]] → SM x_1 ∧ ((SM x ∧ tokIs [(N0, y.1)] N0 y.1 ∧ fitP (LN y.2) (fun (i :
      Nat) => [ZB (BI y.2 i)]) (LN (Arr.sh a)) fun (i : Nat) => [ZI (GI (Arr.sh a) i)]) ∧ True) ∧ ∀ (y_1 : Nat × List UInt8), y_1.2 = (bytesOf (LN y.2) fun (i : Nat) => [ZB (BI y.2 i)]) ++ numsB (intsOf (LN (Arr.sh a))
      fun (i : Nat) => [ZI (GI (Arr.sh a) i)]) → SM x_1 ∧ ((SM x ∧ tokIs [(N0, y_1.1)] N0 y_1.1 ∧ fitP (LN y_1.2) (fun (i : Nat) => [ZB (BI y_1.2 i)]) (LN (Arr.nu a)) fun (i : Nat) => [ZI (GI (Arr.nu a) i)]) ∧ True) ∧ ∀
      (y : Nat × List UInt8), y.2 = (bytesOf (LN y_1.2) fun (i : Nat) => [ZB (BI y_1.2 i)]) ++ numsB (intsOf (LN (Arr.nu a)) fun (i : Nat) => [ZI (GI (Arr.nu a) i)]) → SM x_1 ∧ (∃ (x_2 : Nat × Nat × List UInt8), (x_2.1 ≤
      LN (Arr.it a) ∧ x_2.2.2 = l ++ numsB [Arr.k a, (LI (Arr.sh a))] ++ numsB (Arr.sh a) ++ numsB (Arr.nu a) ++ arrBL (List.take x_2.1 (Arr.it a))) ∧ (Z0 = (NI x_2.1) ∧ True) ∧ (SM x ∧ ((LN y.2 = LN x_2.2.2 ∧ (∀ (i :
      Nat), i < LN y.2 → [ZB (BI y.2 i)] = [ZB (BI x_2.2.2 i)]) ∧ y.1 = x_2.2.1) ∧ True) ∧ True) ∧ y.1 = x_2.2.1 ∧ True) ∧ ∀ (x_2 : Nat × Nat × List UInt8), x_2.1 ≤ LN (Arr.it a) ∧ x_2.2.2 = l ++ numsB [Arr.k a, (LI
      (Arr.sh a))] ++ numsB (Arr.sh a) ++ numsB (Arr.nu a) ++ arrBL (List.take x_2.1 (Arr.it a)) → ifB (decide ((NI x_2.1) < (LI (Arr.it a)))) (side (Z0 ≤ (NI x_2.1) ∧ (NI x_2.1) < (LI (Arr.it a))) (∀ (x_3 : Nat), x ≠
      x_3 ∧ True → SM x_3 ∧ SM x_3 ∧ ∃ (x_4 : Nat × Nat × List UInt8 × Arr), (x = x_4.1 ∧ (Arr.k (GA (Arr.it a) (TN x_2.1)) = Arr.k x_4.2.2.2 ∧ (LN (Arr.sh (GA (Arr.it a) (TN x_2.1))) = LN (Arr.sh x_4.2.2.2) ∧ (∀ (i :
      Nat), i < LN (Arr.sh (GA (Arr.it a) (TN x_2.1))) → [ZI (GI (Arr.sh (GA (Arr.it a) (TN x_2.1))) i)] = [ZI (GI (Arr.sh x_4.2.2.2) i)]) ∧ True) ∧ (LN (Arr.nu (GA (Arr.it a) (TN x_2.1))) = LN (Arr.nu x_4.2.2.2) ∧ (∀ (i
      : Nat), i < LN (Arr.nu (GA (Arr.it a) (TN x_2.1))) → [ZI (GI (Arr.nu (GA (Arr.it a) (TN x_2.1))) i)] = [ZI (GI (Arr.nu x_4.2.2.2) i)]) ∧ True) ∧ (LN (Arr.it (GA (Arr.it a) (TN x_2.1))) = LN (Arr.it x_4.2.2.2) ∧ (∀
      (i : Nat), i < LN (Arr.it (GA (Arr.it a) (TN x_2.1))) → Arr.row (GA (Arr.it (GA (Arr.it a) (TN x_2.1))) i) = Arr.row (GA (Arr.it x_4.2.2.2) i)) ∧ True) ∧ True) ∧ True) ∧ ((x = x_4.1 ∧ ((LN x_2.2.2 = LN x_4.2.2.1 ∧
      (∀ (i : Nat), i < LN x_2.2.2 → [ZB (BI x_2.2.2 i)] = [ZB (BI x_4.2.2.1 i)]) ∧ x_2.2.1 = x_4.2.1) ∧ True) ∧ True) ∧ x_2.2.1 = x_4.2.1 ∧ True) ∧ (x_4.2.2.2 ∈ Arr.it a ∧ LN x_4.2.2.1 + (10 : Nat) * szA x_4.2.2.2 ≤
      (70368744177664 : Nat)) ∧ ∀ (y : Nat × List UInt8), y.2 = x_4.2.2.1 ++ arrB x_4.2.2.2 → (SM (D.ref N0 x N0) ∧ SM (D.sl N4 (LN (Arr.it a)) (fun (i : Nat) => [ZI (Arr.k (GA (Arr.it a) i)), SI (Arr.sh (GA (Arr.it a)
      i)), SI (Arr.nu (GA (Arr.it a) i)), D.sl N4 (LN (Arr.it (GA (Arr.it a) i))) (fun (i_1 : Nat) => Arr.row (GA (Arr.it (GA (Arr.it a) i)) i_1)) Mode.any]) Mode.any) ∧ SM (ZI (LI (Arr.it a))) ∧ True) ∧ ∃ (y_2 : Nat ×
      Nat × List UInt8), (y_2.1 ≤ LN (Arr.it a) ∧ y_2.2.2 = l ++ numsB [Arr.k a, (LI (Arr.sh a))] ++ numsB (Arr.sh a) ++ numsB (Arr.nu a) ++ arrBL (List.take y_2.1 (Arr.it a))) ∧ LN (Arr.it a) - y_2.1 < LN (Arr.it a) -
      x_2.1 ∧ (IntKind.wrap IntKind.i64 ((NI x_2.1) + Z1) = (NI y_2.1) ∧ True) ∧ (x_4.1 = x ∧ ((LN y.2 = LN y_2.2.2 ∧ (∀ (i : Nat), i < LN y.2 → [ZB (BI y.2 i)] = [ZB (BI y_2.2.2 i)]) ∧ y.1 = y_2.2.1) ∧ True) ∧ True) ∧
      y.1 = y_2.2.1 ∧ True)) (True ∧ ∃ (y : Nat × List UInt8), y.2 = l ++ arrB a ∧ True ∧ (SM x ∧ ((LN x_2.2.2 = LN y.2 ∧ (∀ (i : Nat), i < LN x_2.2.2 → [ZB (BI x_2.2.2 i)] = [ZB (BI y.2 i)]) ∧ x_2.2.1 = y.1) ∧ True) ∧
      True) ∧ x_2.2.1 = y.1 ∧ True)) (by kernel_rfl) ?_
  delta BI DA GA GI LI LN N0 N1 N2 N4 NI SI SM TN U0 Z0 Z1 ZB ZI
  have da : (default : Arr) = Arr.mk 0 [] [] [] := rfl
  simp only [← da, eq_self, implies_true, Int.toNat_natCast, ifB_iff, side_iff, decide_eq_true_eq, decide_eq_false_iff_not, true_and, and_true, exists_const, forall_const, Prod.forall, forall_eq, bytesOf_bsl, rowsB_bsl]
  obtain ⟨l1, l2, l3⟩ := ha
  simp only [maxLen] at l1 l2 l3
  obtain ⟨o1, o2, o3⟩ := ho
  have hz := szA_eq a
  have hb : ∀ i, i ≤ a.it.length → (l ++ numsB [a.k, (a.sh.length : Int)] ++ numsB a.sh ++ numsB a.nu ++ arrBL (a.it.take i)).length ≤ l.length + 10 * (2 + a.sh.length + a.nu.length) + 10 * szL (a.it.take i) := by
    intro i _
    have h1 := numsB_len [a.k, (a.sh.length : Int)]
    have h2 := numsB_len a.sh
    have h3 := numsB_len a.nu
    have h4 := arrBL_len (a.it.take i)
    simp only [List.length_append, List.length_cons, List.length_nil] at h1 ⊢
    omega
  have hb0 := hb 0 (Nat.zero_le _)
  simp only [List.take_zero, arrBL, szL, List.append_nil, Nat.mul_zero, Nat.add_zero] at hb0
  have e2 : intsOf a.sh.length (fun i => [D.int .i64 (a.sh.getD i 0)]) = a.sh := intsOf_isl _
  have e3 : intsOf a.nu.length (fun i => [D.int .i64 (a.nu.getD i 0)]) = a.nu := intsOf_isl _
  simp only [e2, e3, rowInt]
  intro b1 _
  have hlen1 : (l ++ numsB [a.k, (a.sh.length : Int)]).length ≤ l.length + 20 := by
    have h1 := numsB_len [a.k, (a.sh.length : Int)]
    simp only [List.length_append, List.length_cons, List.length_nil] at h1 ⊢
    omega
  have hlen2 : (l ++ numsB [a.k, (a.sh.length : Int)] ++ numsB a.sh).length ≤ l.length + 20 + 10 * a.sh.length := by
    have h2 := numsB_len a.sh
    rw [List.length_append]
    omega
  refine ⟨⟨tok_is _ _, fit_lit l [a.k, (a.sh.length : Int)] ?_ (by simp only [List.length_cons, List.length_nil]; omega)⟩, fun t1 => ⟨⟨tok_is _ _, fit_isl o2 (by omega)⟩, fun t2 => ⟨⟨tok_is _ _, fit_isl o3 (by omega)⟩, fun t3 => ⟨⟨(0, t3, l ++ numsB [a.k, (a.sh.length : Int)] ++ numsB a.sh ++ numsB a.nu), ⟨Nat.zero_le _, by simp [arrBL]⟩, rfl, ⟨rfl, fun i _ => rfl, rfl⟩, rfl⟩, ?_⟩⟩⟩⟩
  · intro z hz
    simp only [List.mem_cons, List.not_mem_nil, or_false] at hz
    rcases hz with rfl | rfl
    · exact o1
    · simp only [inI64]; omega
  rintro i t4 b ⟨hi, rfl⟩
  refine ⟨fun hlt => ⟨⟨by omega, hlt⟩, fun _ _ => ?_⟩, fun hge => ?_⟩
  · have hlt' : i < a.it.length := by omega
    have h5 := szL_take hlt'
    have h6 := hb i hi
    refine ⟨(x, t4, _, a.it.getD i default), ⟨rfl, rfl, ⟨rfl, fun _ _ => rfl⟩, ⟨rfl, fun _ _ => rfl⟩, rfl, fun _ _ => rfl⟩, ⟨⟨rfl, rfl, fun _ _ => rfl, rfl⟩, rfl⟩, ⟨mem_getD hlt', by simp only; omega⟩, fun t5 => ⟨(i + 1, t5, l ++ numsB [a.k, (a.sh.length : Int)] ++ numsB a.sh ++ numsB a.nu ++ arrBL (a.it.take (i + 1))), ⟨by simp only; omega, rfl⟩, by simp only; omega, wrap_i64' (by omega) (by omega), ⟨rfl, ?_, ?_, rfl⟩, rfl⟩⟩
    · simp only [arrBL_take hlt', List.append_assoc]
    · intro j hj
      simp only [arrBL_take hlt', List.append_assoc]
  · have hi' : i = a.it.length := by omega
    subst hi'
    refine ⟨(t4, l ++ arrB a), rfl, ⟨?_, fun i _ => ?_, rfl⟩, rfl⟩
    · simp only [List.take_length, arrB_eq a, List.append_assoc]
    · simp only [List.take_length, arrB_eq a, List.append_assoc]
theorem sWa_row {row row' : Arr → List D} {q q' : Arr → Prop} {b : Nat × Nat × List UInt8 × Arr} (hw : wkL (row' b.2.2.2) (row b.2.2.2)) (h : ACalls Try.prog 41 ((sWa row q).args b) ((sWa row q).st b) (SpecR (sWa row q) b)) : ACalls Try.prog 41 ((sWa row' q').args b) ((sWa row' q').st b) (SpecR (sWa row' q') b) := by
  refine (h.wkArgs ?_).mono fun _ _ ⟨y, h1, h2, h3⟩ => ⟨y, h1, h2, h3⟩
  simp only [sWa, wkL, wkD]
  exact ⟨by simp [weakD, chk_iff, kEq], hw, trivial⟩
theorem wa_all : ∀ (a : Arr), a.ok → ∀ (x t : Nat) (l : List UInt8), l.length + 10 * szA a ≤ 70368744177664 → ACalls Try.prog 41 ((sWa Arr.row2 (fun _ => True)).args (x, t, l, a)) ((sWa Arr.row2 (fun _ => True)).st (x, t, l, a)) (SpecR (sWa Arr.row2 (fun _ => True)) (x, t, l, a))
  | .mk k s n is, h, x, t, l, hl => by
    have h' := h
    simp only [Arr.ok] at h'
    obtain ⟨o1, o2, o3, h1, h2, h3, h4⟩ := h'
    refine wa_step x t l (.mk k s n is) ⟨h2, h3, h1⟩ ⟨o1, o2, o3⟩ hl ?_
    intro k' ds S A hk
    unfold conWa at hk
    split at hk
    · injection hk with hk; subst hk
      refine ConOk.plain (fun b hb => ?_) rfl rfl
      obtain ⟨x', t', l', b'⟩ := b
      obtain ⟨q1, q2⟩ := hb
      have hb' : b' ∈ is := q1
      exact sWa_row (row1_wk b') (wa_all b' ((okL_iff _).1 h4 b' hb') x' t' l' q2)
    · exact conW_ok con0_ok _ _ _ _ hk
termination_by a => SizeOf.sizeOf a
decreasing_by
  have := List.sizeOf_lt_of_mem hb'
  simp only [Arr.mk.sizeOf_spec]
  omega
end Go.Proofs.Ytoglbmhkfkghbaa
namespace Go.Proofs.Ytoglbmhkfkghbaa
open Go Go.Ab
set_option maxRecDepth 100000

/-! ### the reference's numbers as bytes -/
def sNm (kt : Nat) (n : Int) : FnSpec where
  β := Unit
  α := Nat
  args := fun _ => [.int .i64 n]
  st := fun _ => ⟨[], []⟩
  pre := fun _ => True
  post := fun _ _ => True
  res := fun _ y => .ret (bsl (uBf 9 (zig n)) (.tok kt y))
  out := fun _ y => ⟨[], [(kt, y)]⟩
theorem and127 (u : Nat) (hu : u < 18446744073709551616) : andI .u64 (u : Int) 127 = ((u % 128 : Nat) : Int) := by
  have := andI_nat (k := .u64) rfl (a := u) (b := 127) (by simpa [IntKind.bits] using hu) (by simp [IntKind.bits])
  rw [show ((127 : Nat) : Int) = 127 from rfl] at this
  rw [this, show (127 : Nat) = 2 ^ 7 - 1 from rfl, Nat.and_two_pow_sub_one_eq_mod]
theorem orC (u : Nat) (hu : u < 18446744073709551616) : orI .u8 (IntKind.u8.wrap (andI .u64 (u : Int) 127)) 128 = ((UInt8.ofNat (u % 128 + 128)).toNat : Int) := by
  rw [and127 u hu, orB, Nat.mod_mod]
noncomputable def Enm (n : Int) : Senv := { EC con0 29 1 [2, 3, 4, 9, 14] (fun _ => ([], [])) with
  gh := fun b => match b with
    | 0 => [.slot 4]
    | _ => []
  ann := fun b _ _ => match b with
    | 0 => some { slots := [3, 4], keep := [0], α := Nat × Nat × List UInt8 × Nat, st := fun y => ([.int .u64 y.2.1, bsl y.2.2.1 (.tok 0 y.2.2.2)], ⟨[], [(0, y.2.2.2)]⟩), inv := fun y => y.1 ≤ 9 ∧ y.2.1 < 2 ^ (64 - 7 * y.1) ∧ y.2.2.1.length ≤ y.1 ∧ y.2.2.1 ++ uBf (9 - y.1) y.2.1 = uBf 9 (zig n), mu := fun y => y.2.1 }
    | _ => none }
theorem nm_ok (n : Int) (hn : inI64 n) : ACalls Try.prog 45 [.int .i64 n] ⟨[], []⟩ (SpecR (sNm 0 n) ()) := by
  refine con_of (A := sNm 0 n) (x := ()) (E := Enm n) (eOk con0_ok rfl) Try.func45 rfl (by kernel_rfl) rfl (by simp [sNm, Enm, EC, E0]) ?_
  refine vc_eq (T :=
      ifB (decide (n < Z0)) (∀ (t : Nat), (∃ (x : Nat × Nat × List UInt8 × Nat), (x.1 ≤ (9 : Nat) ∧ x.2.1 < N2 ^ ((64 : Nat) - (7 : Nat) * x.1) ∧ LN x.2.2.1 ≤ x.1 ∧ x.2.2.1 ++ uBf ((9 : Nat) - x.1) x.2.1 = uBf (9 : Nat)
      (zig n)) ∧ (notI IntKind.u64 (IntKind.wrap IntKind.u64 (IntKind.wrap IntKind.u64 n * (2 : Int))) = (NI x.2.1) ∧ (N0 = LN x.2.2.1 ∧ (∀ (i : Nat), i < N0 → eqOf (List D) [] [ZB (BI x.2.2.1 i)]) ∧ t = x.2.2.2) ∧ True)
      ∧ True ∧ t = x.2.2.2 ∧ True) ∧ ∀ (x : Nat × Nat × List UInt8 × Nat), x.1 ≤ (9 : Nat) ∧ x.2.1 < N2 ^ ((64 : Nat) - (7 : Nat) * x.1) ∧ LN x.2.2.1 ≤ x.1 ∧ x.2.2.1 ++ uBf ((9 : Nat) - x.1) x.2.1 = uBf (9 : Nat) (zig n)
      → ifB (decide ((128 : Int) ≤ (NI x.2.1))) (SM x.2.2.2 ∧ side ((LN x.2.2.1 + N1) * N1 ≤ (140737488355328 : Nat) ∧ LN x.2.2.1 + N1 ≤ (9223372036854775807 : Nat)) (∀ (t : Nat), (SM (ZI n) ∧ True) ∧ ∃ (y : Nat × Nat ×
      List UInt8 × Nat), (y.1 ≤ (9 : Nat) ∧ y.2.1 < N2 ^ ((64 : Nat) - (7 : Nat) * y.1) ∧ LN y.2.2.1 ≤ y.1 ∧ y.2.2.1 ++ uBf ((9 : Nat) - y.1) y.2.1 = uBf (9 : Nat) (zig n)) ∧ y.2.1 < x.2.1 ∧ (Int.fdiv (NI x.2.1) (128 :
      Int) = (NI y.2.1) ∧ (LN x.2.2.1 + N1 = LN y.2.2.1 ∧ (∀ (i : Nat), i < LN x.2.2.1 + N1 → appF (LN x.2.2.1) (fun (i : Nat) => [ZB (BI x.2.2.1 i)]) (fun (i : Nat) => List.getD [[ZB (orI IntKind.u8 (IntKind.wrap
      IntKind.u8 (andI IntKind.u64 (NI x.2.1) (127 : Int))) (128 : Int))]] i []) i = [ZB (BI y.2.2.1 i)]) ∧ t = y.2.2.2) ∧ True) ∧ True ∧ t = y.2.2.2 ∧ True)) (SM x.2.2.2 ∧ side ((LN x.2.2.1 + N1) * N1 ≤ (140737488355328
      : Nat) ∧ LN x.2.2.1 + N1 ≤ (9223372036854775807 : Nat)) (∀ (t : Nat), True ∧ ∃ (y : Nat), True ∧ (LN x.2.2.1 + N1 = LN (uBf (9 : Nat) (zig n)) ∧ (∀ (i : Nat), i < LN x.2.2.1 + N1 → appF (LN x.2.2.1) (fun (i : Nat)
      => [ZB (BI x.2.2.1 i)]) (fun (i : Nat) => List.getD [[ZB (IntKind.wrap IntKind.u8 (NI x.2.1))]] i []) i = [ZB (BI (uBf (9 : Nat) (zig n)) i)]) ∧ t = y) ∧ True ∧ t = y ∧ True))) (∀ (t : Nat), (∃ (x : Nat × Nat ×
      List UInt8 × Nat), (x.1 ≤ (9 : Nat) ∧ x.2.1 < N2 ^ ((64 : Nat) - (7 : Nat) * x.1) ∧ LN x.2.2.1 ≤ x.1 ∧ x.2.2.1 ++ uBf ((9 : Nat) - x.1) x.2.1 = uBf (9 : Nat) (zig n)) ∧ (IntKind.wrap IntKind.u64 (IntKind.wrap
      IntKind.u64 n * (2 : Int)) = (NI x.2.1) ∧ (N0 = LN x.2.2.1 ∧ (∀ (i : Nat), i < N0 → eqOf (List D) [] [ZB (BI x.2.2.1 i)]) ∧ t = x.2.2.2) ∧ True) ∧ True ∧ t = x.2.2.2 ∧ True) ∧ ∀ (x : Nat × Nat × List UInt8 × Nat),
      x.1 ≤ (9 : Nat) ∧ x.2.1 < N2 ^ ((64 : Nat) - (7 : Nat) * x.1) ∧ LN x.2.2.1 ≤ x.1 ∧ x.2.2.1 ++ uBf ((9 : Nat) - x.1) x.2.1 = uBf (9 : Nat) (zig n) → ifB (decide ((128 : Int) ≤ (NI x.2.1))) (SM x.2.2.2 ∧ side ((LN
      x.2.2.1 + N1) * N1 ≤ (140737488355328 : Nat) ∧ LN x.2.2.1 + N1 ≤ (9223372036854775807 : Nat)) (∀ (t : Nat), (SM (ZI n) ∧ True) ∧ ∃ (y : Nat × Nat × List UInt8 × Nat), (y.1 ≤ (9 : Nat) ∧ y.2.1 < N2 ^ ((64 : Nat) -
      (7 : Nat) * y.1) ∧ LN y.2.2.1 ≤ y.1 ∧ y.2.2.1 ++ uBf ((9 : Nat) - y.1) y.2.1 = uBf (9 : Nat) (zig n)) ∧ y.2.1 < x.2.1 ∧ (Int.fdiv (NI x.2.1) (128 : Int) = (NI y.2.1) ∧ (LN x.2.2.1 + N1 = LN y.2.2.1 ∧ (∀ (i : Nat),
      i < LN x.2.2.1 + N1 → appF (LN x.2.2.1) (fun (i : Nat) => [ZB (BI x.2.2.1 i)]) (fun (i : Nat) => List.getD [[ZB (orI IntKind.u8 (IntKind.wrap IntKind.u8 (andI IntKind.u64 (NI x.2.1) (127 : Int))) (128 : Int))]] i
      []) i = [ZB (BI y.2.2.1 i)]) ∧ t = y.2.2.2) ∧ True) ∧ True ∧ t = y.2.2.2 ∧ True)) (SM x.2.2.2 ∧ side ((LN x.2.2.1 + N1) * N1 ≤ (140737488355328 : Nat) ∧ LN x.2.2.1 + N1 ≤ (9223372036854775807 : Nat)) (∀ (t : Nat),
      True ∧ ∃ (y : Nat), True ∧ (LN x.2.2.1 + N1 = LN (uBf (9 : Nat) (zig n)) ∧ (∀ (i : Nat), i < LN x.2.2.1 + N1 → appF (LN x.2.2.1) (fun (i : Nat) => [ZB (BI x.2.2.1 i)]) (fun (i : Nat) => List.getD [[ZB (IntKind.wrap
      IntKind.u8 (NI x.2.1))]] i []) i = [ZB (BI (uBf (9 : Nat) (zig n)) i)]) ∧ t = y) ∧ True ∧ t = y ∧ True)))) (by kernel_rfl) ?_
  delta BI LN N0 N1 N2 NI SM U0 Z0 ZB ZI
  simp only [eq_self, implies_true, Int.toNat_natCast, ifB_iff, side_iff, decide_eq_true_eq, decide_eq_false_iff_not, true_and, and_true, exists_const, forall_const, Prod.forall]
  have hn' : i64B n = true := i64B_iff.2 hn
  refine ⟨fun hneg t => ⟨⟨(0, zig n, [], t), ⟨by simp only; omega, (zig_neg hneg hn').2, Nat.le_refl _, rfl⟩, ⟨(zig_neg hneg hn').1, rfl, fun i hi => absurd hi (Nat.not_lt_zero i), rfl⟩, rfl⟩, ?_⟩, fun hpos t => ⟨⟨(0, zig n, [], t), ⟨by simp only; omega, (zig_pos hpos hn').2, Nat.le_refl _, rfl⟩, ⟨(zig_pos hpos hn').1, rfl, fun i hi => absurd hi (Nat.not_lt_zero i), rfl⟩, rfl⟩, ?_⟩⟩
  all_goals
    rintro j u b ⟨h1, h2, h3, h4⟩
    refine ⟨fun h8 => ⟨by omega, fun t1 => ?_⟩, fun h8 => ⟨by omega, fun t1 => ?_⟩⟩
    · have hj : j ≤ 8 := by
        by_cases e : j = 9
        · subst e; simp at h2; omega
        · omega
      have hu : u < 18446744073709551616 := Nat.lt_of_lt_of_le h2 (Nat.pow_le_pow_right (by omega) (show 64 - 7 * j ≤ 64 by omega))
      refine ⟨(j + 1, u / 128, b ++ [UInt8.ofNat (u % 128 + 128)], t1), ⟨by simp only; omega, ?_, by simp only [List.length_append, List.length_cons, List.length_nil]; omega, ?_⟩, by simp only; omega, ⟨fdiv_nat u 128, by simp, fun i hi => app_row (orC u hu) i hi, rfl⟩, rfl⟩
      · have e : 64 - 7 * j = (64 - 7 * (j + 1)) + 7 := by omega
        rw [e, Nat.pow_add] at h2
        simp only
        omega
      · rw [← h4, show 9 - j = (9 - (j + 1)) + 1 by omega, uBf_go (by omega)]; simp
    · have e : uBf 9 (zig n) = b ++ [UInt8.ofNat u] := by rw [← h4, uBf_end (by omega)]
      rw [e]
      exact ⟨t1, ⟨by simp, fun i hi => app_row (wrapU8 (by omega)) i hi, rfl⟩, rfl⟩
theorem nmK_ok (kt : Nat) (n : Int) (hn : inI64 n) : ACalls Try.prog 45 [.int .i64 n] ⟨[], []⟩ (SpecR (sNm kt n) ()) := by
  refine (nm_ok n hn).respec (A := sNm 0 n) (x := ()) (A' := sNm kt n) (x' := ()) ?_ ?_ fun y _ => ⟨y, trivial, ?_, ?_⟩
  · exact weakL_refl _
  · simp [sNm, posS, posO, posT]
  · simp [sNm, weakEnd, weakD, chk, bsl, weakM]; rfl
  · simp [sNm, posS, posO, posT]; rfl
def conNm : Con := fun k ds S => match k with
  | 45 => match ds with
    | [.int .i64 n] => some ((sNm (nextTok S.toks) n).fits () (inI64 n))
    | _ => none
  | _ => none
theorem conNm_ok : ConOk Try.prog conNm := by
  intro k ds S A h
  unfold conNm at h
  split at h
  · split at h
    · injection h with h; subst h
      exact ⟨fun _ hy => nmK_ok _ _ hy.1, fun _ _ hy => ⟨weakL_refl _, leS_nil S⟩, fun h => nomatch h⟩
    · cases h
  · cases h
def sNs (kt t : Nat) (b : List UInt8) (ns : List Int) (m : Ab.Mode) : FnSpec where
  β := Unit
  α := Nat × List UInt8
  args := fun _ => [bsl b (.tok kt t), isl ns m]
  st := fun _ => ⟨[], [(kt, t)]⟩
  pre := fun _ => True
  post := fun _ y => y.2 = b ++ numsB ns
  res := fun _ y => .ret (bsl y.2 (.tok kt y.1))
  out := fun _ y => ⟨[], [(kt, y.1)]⟩
theorem app_bsl (l r : List UInt8) {i : Nat} (hi : i < l.length + r.length) : appF l.length (fun i => [D.int .u8 ((l.getD i 0).toNat : Int)]) (fun i => [D.int .u8 ((r.getD i 0).toNat : Int)]) i = [D.int .u8 (((l ++ r).getD i 0).toNat : Int)] := by
  simp only [appF]
  split
  · rename_i hlt
    simp [List.getD_eq_getElem?_getD, List.getElem?_append_left hlt]
  · rename_i hge
    simp [List.getD_eq_getElem?_getD, List.getElem?_append_right (Nat.le_of_not_lt hge)]
noncomputable def Ens (b : List UInt8) (ns : List Int) : Senv := { EC conNm 20 2 [4, 5, 9] (fun _ => ([], [])) with
  ann := fun i _ _ => match i with
    | 0 => some { slots := [5, 0], keep := [1], α := Nat × Nat × List UInt8, st := fun y => ([.int .i64 y.1, bsl y.2.2 (.tok 0 y.2.1)], ⟨[], [(0, y.2.1)]⟩), inv := fun y => y.1 ≤ ns.length ∧ y.2.2 = b ++ numsB (ns.take y.1), mu := fun y => ns.length - y.1 }
    | _ => none }
theorem ns_ok (t : Nat) (b : List UInt8) (ns : List Int) (m : Ab.Mode) (hl : b.length + 10 * ns.length ≤ 70368744177664) (hn : ∀ z ∈ ns, inI64 z) : ACalls Try.prog 47 ((sNs 0 t b ns m).args ()) ((sNs 0 t b ns m).st ()) (SpecR (sNs 0 t b ns m) ()) := by
  refine con_of (A := sNs 0 t b ns m) (x := ()) (E := Ens b ns) (eOk conNm_ok rfl) Try.func47 rfl (by kernel_rfl) rfl (by simp [sNs, Ens, EC, E0]) ?_
  refine vc_eq (T :=
      (∃ (x : Nat × Nat × List UInt8), (x.1 ≤ LN ns ∧ x.2.2 = b ++ numsB (List.take x.1 ns)) ∧ (Z0 = (NI x.1) ∧ (LN b = LN x.2.2 ∧ (∀ (i : Nat), i < LN b → [ZB (BI b i)] = [ZB (BI x.2.2 i)]) ∧ t = x.2.1) ∧ True) ∧ True ∧
      t = x.2.1 ∧ True) ∧ ∀ (x : Nat × Nat × List UInt8), x.1 ≤ LN ns ∧ x.2.2 = b ++ numsB (List.take x.1 ns) → ifB (decide ((NI x.1) < (LI ns))) (side (Z0 ≤ (NI x.1) ∧ (NI x.1) < (LI ns)) ((inI64 (GI ns (TN x.1)) ∧
      True) ∧ ∀ (y : Nat), True → SM x.2.1 ∧ side ((LN x.2.2 + LN (uBf (9 : Nat) (zig (GI ns (TN x.1))))) * N1 ≤ (140737488355328 : Nat) ∧ LN x.2.2 + LN (uBf (9 : Nat) (zig (GI ns (TN x.1)))) ≤ (9223372036854775807 :
      Nat)) (∀ (t : Nat), (SM (D.sl N1 (LN ns) (fun (i : Nat) => [ZI (GI ns i)]) m) ∧ True) ∧ ∃ (y : Nat × Nat × List UInt8), (y.1 ≤ LN ns ∧ y.2.2 = b ++ numsB (List.take y.1 ns)) ∧ LN ns - y.1 < LN ns - x.1 ∧
      (IntKind.wrap IntKind.i64 ((NI x.1) + Z1) = (NI y.1) ∧ (LN x.2.2 + LN (uBf (9 : Nat) (zig (GI ns (TN x.1)))) = LN y.2.2 ∧ (∀ (i : Nat), i < LN x.2.2 + LN (uBf (9 : Nat) (zig (GI ns (TN x.1)))) → appF (LN x.2.2)
      (fun (i : Nat) => [ZB (BI x.2.2 i)]) (fun (i : Nat) => [ZB (BI (uBf (9 : Nat) (zig (GI ns (TN x.1)))) i)]) i = [ZB (BI y.2.2 i)]) ∧ t = y.2.1) ∧ True) ∧ True ∧ t = y.2.1 ∧ True))) (True ∧ ∃ (y : Nat × List UInt8),
      y.2 = b ++ numsB ns ∧ (LN x.2.2 = LN y.2 ∧ (∀ (i : Nat), i < LN x.2.2 → [ZB (BI x.2.2 i)] = [ZB (BI y.2 i)]) ∧ x.2.1 = y.1) ∧ True ∧ x.2.1 = y.1 ∧ True)) (by kernel_rfl) ?_
  delta BI GI LI LN N1 NI SM TN U0 Z0 Z1 ZB ZI
  simp only [eq_self, implies_true, Int.toNat_natCast, ifB_iff, side_iff, decide_eq_true_eq, decide_eq_false_iff_not, true_and, and_true, exists_const, forall_const, Prod.forall]
  refine ⟨⟨(0, t, b), ⟨Nat.zero_le _, by simp [numsB]⟩, ⟨rfl, rfl, fun _ _ => rfl, rfl⟩, rfl⟩, ?_⟩
  rintro i t1 b1 ⟨hi, rfl⟩
  have hb : (b ++ numsB (ns.take i)).length ≤ b.length + 10 * i := by
    have := numsB_len (ns.take i)
    rw [List.length_append]
    simp only [List.length_take] at this
    omega
  refine ⟨fun hlt => ?_, fun hge => ?_⟩
  · have hlt' : i < ns.length := by omega
    have hu := uBf_len 9 (zig (ns.getD i 0))
    have hin : ns.getD i 0 ∈ ns := by
      rw [List.getD_eq_getElem?_getD, List.getElem?_eq_getElem hlt']; exact List.getElem_mem hlt'
    refine ⟨⟨by omega, hlt⟩, hn _ hin, by omega, fun t2 => ⟨(i + 1, t2, b ++ numsB (ns.take (i + 1))), ⟨by simp only; omega, rfl⟩, by simp only; omega, ⟨wrap_i64' (by omega) (by omega), ?_, ?_, rfl⟩, rfl⟩⟩
    · rw [numsB_take ns hlt', ← List.append_assoc]
      exact List.length_append.symm
    · intro j hj
      rw [numsB_take ns hlt', ← List.append_assoc]
      exact app_bsl _ _ hj
  · have hi' : i = ns.length := by omega
    rw [hi', List.take_length]
    exact ⟨(t1, b ++ numsB ns), rfl, ⟨rfl, fun _ _ => rfl, rfl⟩, rfl⟩
theorem nsK_ok (kt t : Nat) (b : List UInt8) (ns : List Int) (m : Ab.Mode) (hl : b.length + 10 * ns.length ≤ 70368744177664) (hn : ∀ z ∈ ns, inI64 z) : ACalls Try.prog 47 ((sNs kt t b ns m).args ()) ((sNs kt t b ns m).st ()) (SpecR (sNs kt t b ns m) ()) := by
  refine (ns_ok t b ns m hl hn).respec (A' := sNs kt t b ns m) (x' := ()) ?_ ?_ fun y hy => ⟨y, hy, ?_, ?_⟩
  · exact ⟨by simp [weakD, chk_iff, weakM, bsl], by simp [weakD, chk_iff, isl, weakM_refl], trivial⟩
  · simp [sNs, posS, posO, posT]
  · simp [sNs, weakEnd, weakD, chk, bsl, weakM]
  · simp [sNs, posS, posO, posT]
def conNs : Con := fun k ds S => match k with
  | 47 => match ds with
    | [.sl 1 n0 g (.tok kt t), .sl 1 n f m] => some ((sNs kt t (bytesOf n0 g) (intsOf n f) m).fits () (tokIs S.toks kt t ∧ fitP n0 g n f))
    | _ => none
  | k => conNm k ds S
theorem conNs_ok : ConOk Try.prog conNs := by
  intro k ds S A h
  unfold conNs at h
  split at h
  · split at h
    · rename_i n0 g kt t n f m
      injection h with h; subst h
      refine ⟨fun _ hy => nsK_ok kt t _ _ m (by simpa [bytesOf, intsOf] using hy.1.2.2.2) (fun z hz => i64B_iff.1 (ints_i64 hy.1.2.2.1 z hz)), fun _ _ hy => ?_, fun h => nomatch h⟩
      obtain ⟨⟨ht, p⟩, _⟩ := hy
      refine ⟨⟨bsl_weak p.1, islW p.2.1, trivial⟩, chk_iff.2 ⟨by simp [FnSpec.fits, sNs, nodupB], trivial, ?_⟩⟩
      unfold tokIs at ht
      simp only [FnSpec.fits, sNs, leT]
      split at ht
      · rename_i t' e; rw [e]; exact ⟨ht, trivial⟩
      · exact ht.elim
    · cases h
  · exact conNm_ok _ _ _ _ h
/-! ### the reference's arrays as bytes -/
def sRa (row : Arr → List D) (q : Arr → Prop) : FnSpec where
  β := Nat × List UInt8 × Arr
  α := Nat × List UInt8
  args := fun b => [bsl b.2.1 (.tok 0 b.1), .agg (row b.2.2)]
  st := fun b => ⟨[], [(0, b.1)]⟩
  pre := fun b => q b.2.2 ∧ b.2.1.length + 10 * szA b.2.2 ≤ 70368744177664
  post := fun b y => y.2 = b.2.1 ++ arrB b.2.2
  res := fun _ y => .ret (bsl y.2 (.tok 0 y.1))
  out := fun _ y => ⟨[], [(0, y.1)]⟩
def conRa (its : List Arr) : Con := fun k ds S => match k with
  | 46 => some (sRa Arr.row1 (fun b => b ∈ its))
  | k => conNs k ds S
noncomputable def Era (l : List UInt8) (a : Arr) : Senv := { EC (conRa a.it) 37 2 [3, 4, 5, 26] (fun _ => ([], [])) with
  ann := fun b _ S => match b with
    | 0 => some { slots := [5, 0], keep := [3], α := Nat × Nat × List UInt8, st := fun y => ([.int .i64 y.1, bsl y.2.2 (.tok 0 y.2.1)], ⟨S.objs, [(0, y.2.1)]⟩), inv := fun y => y.1 ≤ a.it.length ∧ y.2.2 = l ++ numsB [a.k, (a.sh.length : Int)] ++ numsB a.sh ++ numsB a.nu ++ arrBL (a.it.take y.1), mu := fun y => a.it.length - y.1 }
    | _ => none }
theorem ra_step (t : Nat) (l : List UInt8) (a : Arr) (ha : a.nu.length ≤ maxLen ∧ a.it.length ≤ maxLen ∧ a.sh.length ≤ maxLen) (ho : inI64 a.k ∧ (∀ z ∈ a.sh, inI64 z) ∧ (∀ z ∈ a.nu, inI64 z)) (hl : l.length + 10 * szA a ≤ 70368744177664)
    (hc : ConOk Try.prog (conRa a.it)) :
    ACalls Try.prog 46 ((sRa Arr.row2 (fun _ => True)).args (t, l, a)) ((sRa Arr.row2 (fun _ => True)).st (t, l, a)) (SpecR (sRa Arr.row2 (fun _ => True)) (t, l, a)) := by
  refine con_of (A := sRa Arr.row2 (fun _ => True)) (x := (t, l, a)) (E := Era l a) (eOk hc rfl) Try.func46 rfl (by kernel_rfl) rfl (by simp [sRa, Era, EC, E0]) ?_
  refine vc_eq (T :=
      ∀ (x : Nat), True → SM x ∧ SM x ∧ ((tokIs [(N0, t)] N0 t ∧ fitP (LN l) (fun (i : Nat) => [ZB (BI l i)]) N2 fun (i : Nat) => List.getD [[ZI (Arr.k a)], [ZI (LI (Arr.sh a))]] i []) ∧ True) ∧ ∀ (y : Nat × List UInt8),
      y.2 = (bytesOf (LN l) fun (i : Nat) => [ZB (BI l i)]) ++ numsB [rowInt [ZI (Arr.k a)], rowInt [ZI (LI (Arr.sh a))]] → SM x ∧ ((tokIs [(N0, y.1)] N0 y.1 ∧ fitP (LN y.2) (fun (i : Nat) => [ZB (BI y.2 i)]) (LN (Arr.sh
      a)) fun (i : Nat) => [ZI (GI (Arr.sh a) i)]) ∧ True) ∧ ∀ (y_1 : Nat × List UInt8), y_1.2 = (bytesOf (LN y.2) fun (i : Nat) => [ZB (BI y.2 i)]) ++ numsB (intsOf (LN (Arr.sh a)) fun (i : Nat) => [ZI (GI (Arr.sh a)
      i)]) → SM x ∧ ((tokIs [(N0, y_1.1)] N0 y_1.1 ∧ fitP (LN y_1.2) (fun (i : Nat) => [ZB (BI y_1.2 i)]) (LN (Arr.nu a)) fun (i : Nat) => [ZI (GI (Arr.nu a) i)]) ∧ True) ∧ ∀ (y : Nat × List UInt8), y.2 = (bytesOf (LN
      y_1.2) fun (i : Nat) => [ZB (BI y_1.2 i)]) ++ numsB (intsOf (LN (Arr.nu a)) fun (i : Nat) => [ZI (GI (Arr.nu a) i)]) → (∃ (x_1 : Nat × Nat × List UInt8), (x_1.1 ≤ LN (Arr.it a) ∧ x_1.2.2 = l ++ numsB [Arr.k a, (LI
      (Arr.sh a))] ++ numsB (Arr.sh a) ++ numsB (Arr.nu a) ++ arrBL (List.take x_1.1 (Arr.it a))) ∧ (Z0 = (NI x_1.1) ∧ (LN y.2 = LN x_1.2.2 ∧ (∀ (i : Nat), i < LN y.2 → [ZB (BI y.2 i)] = [ZB (BI x_1.2.2 i)]) ∧ y.1 =
      x_1.2.1) ∧ True) ∧ (SM x ∧ (SM (Arr.k a) ∧ (SM (LN (Arr.sh a)) ∧ (∀ (i : Nat), i < LN (Arr.sh a) → SM [ZI (GI (Arr.sh a) i)]) ∧ True) ∧ (SM (LN (Arr.nu a)) ∧ (∀ (i : Nat), i < LN (Arr.nu a) → SM [ZI (GI (Arr.nu a)
      i)]) ∧ True) ∧ (SM (LN (Arr.it a)) ∧ (∀ (i : Nat), i < LN (Arr.it a) → SM [ZI (Arr.k (GA (Arr.it a) i)), SI (Arr.sh (GA (Arr.it a) i)), SI (Arr.nu (GA (Arr.it a) i)), D.sl N4 (LN (Arr.it (GA (Arr.it a) i))) (fun
      (i_1 : Nat) => Arr.row (GA (Arr.it (GA (Arr.it a) i)) i_1)) Mode.any]) ∧ True) ∧ True) ∧ True) ∧ y.1 = x_1.2.1 ∧ True) ∧ ∀ (x_1 : Nat × Nat × List UInt8), x_1.1 ≤ LN (Arr.it a) ∧ x_1.2.2 = l ++ numsB [Arr.k a, (LI
      (Arr.sh a))] ++ numsB (Arr.sh a) ++ numsB (Arr.nu a) ++ arrBL (List.take x_1.1 (Arr.it a)) → SM x ∧ ifB (decide ((NI x_1.1) < (LI (Arr.it a)))) (SM x ∧ side (Z0 ≤ (NI x_1.1) ∧ (NI x_1.1) < (LI (Arr.it a))) (∃ (x_2
      : Nat × List UInt8 × Arr), ((LN x_1.2.2 = LN x_2.2.1 ∧ (∀ (i : Nat), i < LN x_1.2.2 → [ZB (BI x_1.2.2 i)] = [ZB (BI x_2.2.1 i)]) ∧ x_1.2.1 = x_2.1) ∧ (Arr.k (GA (Arr.it a) (TN x_1.1)) = Arr.k x_2.2.2 ∧ (LN (Arr.sh
      (GA (Arr.it a) (TN x_1.1))) = LN (Arr.sh x_2.2.2) ∧ (∀ (i : Nat), i < LN (Arr.sh (GA (Arr.it a) (TN x_1.1))) → [ZI (GI (Arr.sh (GA (Arr.it a) (TN x_1.1))) i)] = [ZI (GI (Arr.sh x_2.2.2) i)]) ∧ True) ∧ (LN (Arr.nu
      (GA (Arr.it a) (TN x_1.1))) = LN (Arr.nu x_2.2.2) ∧ (∀ (i : Nat), i < LN (Arr.nu (GA (Arr.it a) (TN x_1.1))) → [ZI (GI (Arr.nu (GA (Arr.it a) (TN x_1.1))) i)] = [ZI (GI (Arr.nu x_2.2.2) i)]) ∧ True) ∧ (LN (Arr.it
      (GA (Arr.it a) (TN x_1.1))) = LN (Arr.it x_2.2.2) ∧ (∀ (i : Nat), i < LN (Arr.it (GA (Arr.it a) (TN x_1.1))) → Arr.row (GA (Arr.it (GA (Arr.it a) (TN x_1.1))) i) = Arr.row (GA (Arr.it x_2.2.2) i)) ∧ True) ∧ True) ∧
      True) ∧ (True ∧ x_1.2.1 = x_2.1 ∧ True) ∧ (x_2.2.2 ∈ Arr.it a ∧ LN x_2.2.1 + (10 : Nat) * szA x_2.2.2 ≤ (70368744177664 : Nat)) ∧ ∀ (y : Nat × List UInt8), y.2 = x_2.2.1 ++ arrB x_2.2.2 → (SM (D.ref N0 x N0) ∧
      True) ∧ ∃ (y_2 : Nat × Nat × List UInt8), (y_2.1 ≤ LN (Arr.it a) ∧ y_2.2.2 = l ++ numsB [Arr.k a, (LI (Arr.sh a))] ++ numsB (Arr.sh a) ++ numsB (Arr.nu a) ++ arrBL (List.take y_2.1 (Arr.it a))) ∧ LN (Arr.it a) -
      y_2.1 < LN (Arr.it a) - x_1.1 ∧ (IntKind.wrap IntKind.i64 ((NI x_1.1) + Z1) = (NI y_2.1) ∧ (LN y.2 = LN y_2.2.2 ∧ (∀ (i : Nat), i < LN y.2 → [ZB (BI y.2 i)] = [ZB (BI y_2.2.2 i)]) ∧ y.1 = y_2.2.1) ∧ True) ∧ (SM x ∧
      (SM (Arr.k a) ∧ (SM (LN (Arr.sh a)) ∧ (∀ (i : Nat), i < LN (Arr.sh a) → SM [ZI (GI (Arr.sh a) i)]) ∧ True) ∧ (SM (LN (Arr.nu a)) ∧ (∀ (i : Nat), i < LN (Arr.nu a) → SM [ZI (GI (Arr.nu a) i)]) ∧ True) ∧ (SM (LN
      (Arr.it a)) ∧ (∀ (i : Nat), i < LN (Arr.it a) → SM [ZI (Arr.k (GA (Arr.it a) i)), SI (Arr.sh (GA (Arr.it a) i)), SI (Arr.nu (GA (Arr.it a) i)), D.sl N4 (LN (Arr.it (GA (Arr.it a) i))) (fun (i_1 : Nat) => Arr.row
      (GA (Arr.it (GA (Arr.it a) i)) i_1)) Mode.any]) ∧ True) ∧ True) ∧ True) ∧ y.1 = y_2.2.1 ∧ True)) (True ∧ ∃ (y : Nat × List UInt8), y.2 = l ++ arrB a ∧ (LN x_1.2.2 = LN y.2 ∧ (∀ (i : Nat), i < LN x_1.2.2 → [ZB (BI
      x_1.2.2 i)] = [ZB (BI y.2 i)]) ∧ x_1.2.1 = y.1) ∧ True ∧ x_1.2.1 = y.1 ∧ True)) (by kernel_rfl) ?_
  delta BI DA GA GI LI LN N0 N1 N2 N4 NI SI SM TN U0 Z0 Z1 ZB ZI
  have da : (default : Arr) = Arr.mk 0 [] [] [] := rfl
  simp only [← da, eq_self, implies_true, Int.toNat_natCast, ifB_iff, side_iff, decide_eq_true_eq, decide_eq_false_iff_not, true_and, and_true, exists_const, forall_const, Prod.forall, forall_eq, bytesOf_bsl, rowsB_bsl]
  obtain ⟨l1, l2, l3⟩ := ha
  simp only [maxLen] at l1 l2 l3
  obtain ⟨o1, o2, o3⟩ := ho
  have hz := szA_eq a
  have hb : ∀ i, i ≤ a.it.length → (l ++ numsB [a.k, (a.sh.length : Int)] ++ numsB a.sh ++ numsB a.nu ++ arrBL (a.it.take i)).length ≤ l.length + 10 * (2 + a.sh.length + a.nu.length) + 10 * szL (a.it.take i) := by
    intro i _
    have h1 := numsB_len [a.k, (a.sh.length : Int)]
    have h2 := numsB_len a.sh
    have h3 := numsB_len a.nu
    have h4 := arrBL_len (a.it.take i)
    simp only [List.length_append, List.length_cons, List.length_nil] at h1 ⊢
    omega
  have e2 : intsOf a.sh.length (fun i => [D.int .i64 (a.sh.getD i 0)]) = a.sh := intsOf_isl _
  have e3 : intsOf a.nu.length (fun i => [D.int .i64 (a.nu.getD i 0)]) = a.nu := intsOf_isl _
  simp only [e2, e3, rowInt]
  have hlen1 : (l ++ numsB [a.k, (a.sh.length : Int)]).length ≤ l.length + 20 := by
    have h1 := numsB_len [a.k, (a.sh.length : Int)]
    simp only [List.length_append, List.length_cons, List.length_nil] at h1 ⊢
    omega
  have hlen2 : (l ++ numsB [a.k, (a.sh.length : Int)] ++ numsB a.sh).length ≤ l.length + 20 + 10 * a.sh.length := by
    have h2 := numsB_len a.sh
    rw [List.length_append]
    omega
  refine ⟨⟨tok_is _ _, fit_lit l [a.k, (a.sh.length : Int)] ?_ (by simp only [List.length_cons, List.length_nil]; omega)⟩, fun t1 => ⟨⟨tok_is _ _, fit_isl o2 (by omega)⟩, fun t2 => ⟨⟨tok_is _ _, fit_isl o3 (by omega)⟩, fun t3 => ⟨⟨(0, t3, l ++ numsB [a.k, (a.sh.length : Int)] ++ numsB a.sh ++ numsB a.nu), ⟨Nat.zero_le _, by simp [arrBL]⟩, ⟨rfl, rfl, fun i _ => rfl, rfl⟩, rfl⟩, ?_⟩⟩⟩⟩
  · intro z hz
    simp only [List.mem_cons, List.not_mem_nil, or_false] at hz
    rcases hz with rfl | rfl
    · exact o1
    · simp only [inI64]; omega
  rintro i t4 b ⟨hi, rfl⟩
  refine ⟨fun hlt => ⟨⟨by omega, hlt⟩, ?_⟩, fun hge => ?_⟩
  · have hlt' : i < a.it.length := by omega
    have h5 := szL_take hlt'
    have h6 := hb i hi
    refine ⟨(t4, _, a.it.getD i default), ⟨⟨rfl, fun _ _ => rfl, rfl⟩, rfl, ⟨rfl, fun _ _ => rfl⟩, ⟨rfl, fun _ _ => rfl⟩, rfl, fun _ _ => rfl⟩, rfl, ⟨mem_getD hlt', by simp only; omega⟩, fun t5 => ⟨(i + 1, t5, l ++ numsB [a.k, (a.sh.length : Int)] ++ numsB a.sh ++ numsB a.nu ++ arrBL (a.it.take (i + 1))), ⟨by simp only; omega, rfl⟩, by simp only; omega, ⟨wrap_i64' (by omega) (by omega), ?_, ?_, rfl⟩, rfl⟩⟩
    · simp only [arrBL_take hlt', List.append_assoc]
    · intro j hj
      simp only [arrBL_take hlt', List.append_assoc]
  · have hi' : i = a.it.length := by omega
    subst hi'
    refine ⟨(t4, l ++ arrB a), rfl, ⟨?_, fun i _ => ?_, rfl⟩, rfl⟩
    · simp only [List.take_length, arrB_eq a, List.append_assoc]
    · simp only [List.take_length, arrB_eq a, List.append_assoc]
theorem sRa_row {row row' : Arr → List D} {q q' : Arr → Prop} {b : Nat × List UInt8 × Arr} (hw : wkL (row' b.2.2) (row b.2.2)) (h : ACalls Try.prog 46 ((sRa row q).args b) ((sRa row q).st b) (SpecR (sRa row q) b)) : ACalls Try.prog 46 ((sRa row' q').args b) ((sRa row' q').st b) (SpecR (sRa row' q') b) := by
  refine (h.wkArgs ?_).mono fun _ _ ⟨y, h1, h2, h3⟩ => ⟨y, h1, h2, h3⟩
  simp only [sRa, wkL]
  exact ⟨wkD_refl _, hw, trivial⟩
theorem ra_all : ∀ (a : Arr), a.ok → ∀ (t : Nat) (l : List UInt8), l.length + 10 * szA a ≤ 70368744177664 → ACalls Try.prog 46 ((sRa Arr.row2 (fun _ => True)).args (t, l, a)) ((sRa Arr.row2 (fun _ => True)).st (t, l, a)) (SpecR (sRa Arr.row2 (fun _ => True)) (t, l, a))
  | .mk k s n is, h, t, l, hl => by
    have h' := h
    simp only [Arr.ok] at h'
    obtain ⟨o1, o2, o3, h1, h2, h3, h4⟩ := h'
    refine ra_step t l (.mk k s n is) ⟨h2, h3, h1⟩ ⟨o1, o2, o3⟩ hl ?_
    intro k' ds S A hk
    unfold conRa at hk
    split at hk
    · injection hk with hk; subst hk
      refine ConOk.plain (fun b hb => ?_) rfl rfl
      obtain ⟨t', l', b'⟩ := b
      obtain ⟨q1, q2⟩ := hb
      have hb' : b' ∈ is := q1
      exact sRa_row (row1_wk b') (ra_all b' ((okL_iff _).1 h4 b' hb') t' l' q2)
    · exact conNs_ok _ _ _ _ hk
termination_by a => SizeOf.sizeOf a
decreasing_by
  have := List.sizeOf_lt_of_mem hb'
  simp only [Arr.mk.sizeOf_spec]
  omega
end Go.Proofs.Ytoglbmhkfkghbaa
namespace Go.Proofs.Ytoglbmhkfkghbaa
open Go Go.Ab
set_option maxRecDepth 100000

/-! ### programs as bytes -/
def i4B (i : I4) : List UInt8 := numsB [i.a, i.b, i.c, i.d]
def i6B (i : I6) : List UInt8 := numsB [i.a, i.b, i.c, i.d, i.e, i.f]
def funB (f : FnD) : List UInt8 := numsB [f.slots, (f.code.length : Int)] ++ f.code.flatMap i4B
def kerY (k : KeD) : List UInt8 := numsB [k.inputs, (k.ops.length : Int)] ++ (k.ops.flatMap i4B ++ numsB [k.reduce, k.at_])
def lanB (p : LaD) : List UInt8 := numsB [p.regs, (p.code.length : Int)] ++ p.code.flatMap i6B
def tl4 (c : CodD) : List UInt8 := numsB [(c.lanes.length : Int)] ++ c.lanes.flatMap lanB
def tl3 (c : CodD) : List UInt8 := numsB [(c.kers.length : Int)] ++ (c.kers.flatMap kerY ++ tl4 c)
def tl2 (c : CodD) : List UInt8 := numsB [(c.funs.length : Int)] ++ (c.funs.flatMap funB ++ tl3 c)
def codeB (c : CodD) : List UInt8 := numsB [(c.consts.length : Int)] ++ (arrBL c.consts ++ tl2 c)
def CodD.row1 (c : CodD) : List D := [gsl 4 Arr.row1 c.consts, gsl 2 FnD.row c.funs, gsl 4 KeD.row c.kers, gsl 2 LaD.row c.lanes]
theorem code_wk (c : CodD) : wkL c.row c.row1 := by
  simp only [CodD.row, CodD.row1, gsl, wkL, wkD]
  exact ⟨chk_iff.2 ⟨rfl, trivial, fun i _ => row_wk _, by simp [weakM]⟩, chk_iff.2 ⟨rfl, trivial, fun i _ => wkL_refl _, by simp [weakM]⟩, chk_iff.2 ⟨rfl, trivial, fun i _ => wkL_refl _, by simp [weakM]⟩, chk_iff.2 ⟨rfl, trivial, fun i _ => wkL_refl _, by simp [weakM]⟩, trivial⟩
def natOf : D → Nat
  | .int _ z => z.toNat
  | _ => 0
def setB (S : St) (t : Nat) (l : List UInt8) : St := ⟨setO S.objs 0 (.cells [bsl l (.tok 0 t)]), [(0, t)]⟩
def sWc (x : Nat) (l : List UInt8) (c : CodD) (row : List D) : FnSpec where
  β := Unit
  α := Nat × List UInt8
  args := fun _ => [.ref 0 x 0, .agg row]
  st := fun _ => ⟨[(0, x, .cells [bsl l .full])], []⟩
  pre := fun _ => True
  post := fun _ y => y.2 = l ++ codeB c
  res := fun _ _ => .ret (.tup [])
  out := fun _ y => ⟨[(0, x, .cells [bsl y.2 (.tok 0 y.1)])], [(0, y.1)]⟩
def conWc (c : CodD) : Con := fun k ds S => match k with
  | 41 => some (sWa Arr.row1 (fun b => b ∈ c.consts))
  | k => conW con0 k ds S
theorem conWc_ok {c : CodD} (hc : c.ok) : ConOk Try.prog (conWc c) := by
  intro k' ds S A hk
  unfold conWc at hk
  split at hk
  · injection hk with hk; subst hk
    refine ConOk.plain (fun b hb => ?_) rfl rfl
    obtain ⟨x', t', l', b'⟩ := b
    exact sWa_row (row1_wk b') (wa_all b' (hc.1 b' hb.1) x' t' l' hb.2)
  · exact conW_ok con0_ok _ _ _ _ hk
theorem fit_T {b R T : List UInt8} (ns : List Int) (h : b ++ R = T) (hT : T.length ≤ 35184372088832) (hn : ∀ z ∈ ns, inI64 z) (hk : ns.length ≤ 6) : fitP b.length (fun i => [.int .u8 ((b.getD i 0).toNat : Int)]) ns.length (fun i => (ns.map fun z => [D.int .i64 z]).getD i []) := by
  refine fit_lit b ns hn ?_
  have := congrArg List.length h
  rw [List.length_append] at this
  omega
theorem fit_U {b R T : List UInt8} {t : Nat} (ns : List Int) (h : b ++ R = T) (hT : T.length ≤ 35184372088832) (hn : ∀ z ∈ ns, inI64 z) (hk : ns.length ≤ 6) : tokIs [(0, t)] 0 t ∧ fitP b.length (fun i => [.int .u8 ((b.getD i 0).toNat : Int)]) ns.length (fun i => (ns.map fun z => [D.int .i64 z]).getD i []) :=
  ⟨tok_is _ _, fit_T ns h hT hn hk⟩
theorem loop_init {n t : Nat} {b T : List UInt8} (R : Nat → List UInt8) (h : b ++ R 0 = T) :
    ∃ y : Nat × Nat × List UInt8, (y.1 ≤ n ∧ y.2.2 ++ R y.1 = T) ∧ (0 : Int) = (y.1 : Int) ∧ (b.length = y.2.2.length ∧ (∀ i, i < b.length → [D.int .u8 ((b.getD i 0).toNat : Int)] = [D.int .u8 ((y.2.2.getD i 0).toNat : Int)]) ∧ t = y.2.1) ∧ t = y.2.1 :=
  ⟨(0, t, b), ⟨Nat.zero_le _, h⟩, rfl, ⟨rfl, fun _ _ => rfl, rfl⟩, rfl⟩
theorem loop_next {n t a : Nat} {b T : List UInt8} (R : Nat → List UInt8) (ha : a < n) (hn : n ≤ maxLen) (h : b ++ R (a + 1) = T) :
    ∃ y : Nat × Nat × List UInt8, (y.1 ≤ n ∧ y.2.2 ++ R y.1 = T) ∧ n - y.1 < n - a ∧ IntKind.i64.wrap ((a : Int) + 1) = (y.1 : Int) ∧ (b.length = y.2.2.length ∧ (∀ i, i < b.length → [D.int .u8 ((b.getD i 0).toNat : Int)] = [D.int .u8 ((y.2.2.getD i 0).toNat : Int)]) ∧ t = y.2.1) ∧ t = y.2.1 := by
  simp only [maxLen] at hn
  exact ⟨(a + 1, t, b), ⟨by simp only; omega, h⟩, by simp only; omega, wrap_i64' (by omega) (by omega), ⟨rfl, fun _ _ => rfl, rfl⟩, rfl⟩
theorem len_i64 {n : Nat} (h : n ≤ maxLen) : inI64 (n : Int) := by simp only [maxLen, inI64] at *; omega
theorem all1 {a : Int} (ha : inI64 a) : ∀ z ∈ [a], inI64 z := by simpa using ha
theorem all2 {a b : Int} (ha : inI64 a) (hb : inI64 b) : ∀ z ∈ [a, b], inI64 z := by simpa using ⟨ha, hb⟩
theorem all4 {a b c d : Int} (h : inI64 a ∧ inI64 b ∧ inI64 c ∧ inI64 d) : ∀ z ∈ [a, b, c, d], inI64 z := by simpa using h
theorem all6 {a b c d e f : Int} (h : inI64 a ∧ inI64 b ∧ inI64 c ∧ inI64 d ∧ inI64 e ∧ inI64 f) : ∀ z ∈ [a, b, c, d, e, f], inI64 z := by simpa using h
noncomputable def Ewc (l : List UInt8) (c : CodD) : Senv := { EC (conWc c) 169 2 [3, 5, 7, 9, 11, 13, 15, 17, 25, 26, 27, 28, 42, 43, 44, 45, 57, 58, 59, 60, 83, 84, 85, 86, 98, 99, 100, 101, 131, 132, 133, 134, 146, 147, 148, 149] (fun _ => ([], [])) with
  ann := fun b env S => match b with
    | 0 => some { slots := [27], keep := [0, 3, 25, 26], α := Nat × Nat × List UInt8, st := fun y => ([.int .i64 y.1], setB S y.2.1 y.2.2), inv := fun y => y.1 ≤ c.consts.length ∧ y.2.2 ++ (arrBL (c.consts.drop y.1) ++ tl2 c) = l ++ codeB c, mu := fun y => c.consts.length - y.1 }
    | 2 => some { slots := [44], keep := [0, 3, 42, 43], α := Nat × Nat × List UInt8, st := fun y => ([.int .i64 y.1], setB S y.2.1 y.2.2), inv := fun y => y.1 ≤ c.funs.length ∧ y.2.2 ++ ((c.funs.drop y.1).flatMap funB ++ tl3 c) = l ++ codeB c, mu := fun y => c.funs.length - y.1 }
    | 4 => some { slots := [59], keep := [0, 3, 7, 42, 43, 44, 57, 58], α := Nat × Nat × List UInt8, st := fun y => ([.int .i64 y.1], setB S y.2.1 y.2.2), inv := fun y => y.1 ≤ (c.funs.getD (natOf (Ab.look env 44)) default).code.length ∧ y.2.2 ++ (((c.funs.getD (natOf (Ab.look env 44)) default).code.drop y.1).flatMap i4B ++ ((c.funs.drop (natOf (Ab.look env 44) + 1)).flatMap funB ++ tl3 c)) = l ++ codeB c, mu := fun y => (c.funs.getD (natOf (Ab.look env 44)) default).code.length - y.1 }
    | 6 => some { slots := [85], keep := [0, 3, 83, 84], α := Nat × Nat × List UInt8, st := fun y => ([.int .i64 y.1], setB S y.2.1 y.2.2), inv := fun y => y.1 ≤ c.kers.length ∧ y.2.2 ++ ((c.kers.drop y.1).flatMap kerY ++ tl4 c) = l ++ codeB c, mu := fun y => c.kers.length - y.1 }
    | 8 => some { slots := [100], keep := [0, 3, 11, 83, 84, 85, 98, 99], α := Nat × Nat × List UInt8, st := fun y => ([.int .i64 y.1], setB S y.2.1 y.2.2), inv := fun y => y.1 ≤ (c.kers.getD (natOf (Ab.look env 85)) default).ops.length ∧ y.2.2 ++ (((c.kers.getD (natOf (Ab.look env 85)) default).ops.drop y.1).flatMap i4B ++ (numsB [(c.kers.getD (natOf (Ab.look env 85)) default).reduce, (c.kers.getD (natOf (Ab.look env 85)) default).at_] ++ ((c.kers.drop (natOf (Ab.look env 85) + 1)).flatMap kerY ++ tl4 c))) = l ++ codeB c, mu := fun y => (c.kers.getD (natOf (Ab.look env 85)) default).ops.length - y.1 }
    | 10 => some { slots := [133], keep := [0, 3, 131, 132], α := Nat × Nat × List UInt8, st := fun y => ([.int .i64 y.1], setB S y.2.1 y.2.2), inv := fun y => y.1 ≤ c.lanes.length ∧ y.2.2 ++ ((c.lanes.drop y.1).flatMap lanB) = l ++ codeB c, mu := fun y => c.lanes.length - y.1 }
    | 12 => some { slots := [148], keep := [0, 3, 15, 131, 132, 133, 146, 147], α := Nat × Nat × List UInt8, st := fun y => ([.int .i64 y.1], setB S y.2.1 y.2.2), inv := fun y => y.1 ≤ (c.lanes.getD (natOf (Ab.look env 133)) default).code.length ∧ y.2.2 ++ (((c.lanes.getD (natOf (Ab.look env 133)) default).code.drop y.1).flatMap i6B ++ ((c.lanes.drop (natOf (Ab.look env 133) + 1)).flatMap lanB)) = l ++ codeB c, mu := fun y => (c.lanes.getD (natOf (Ab.look env 133)) default).code.length - y.1 }
    | _ => none }
theorem wc_ok (x : Nat) (l : List UInt8) (c : CodD) (hc : c.ok) (hl : l.length + (codeB c).length ≤ 35184372088832) (hs : ∀ a ∈ c.consts, 10 * szA a ≤ 35184372088832) :
    ACalls Try.prog 21 ((sWc x l c c.row1).args ()) ((sWc x l c c.row1).st ()) (SpecR (sWc x l c c.row1) ()) := by
  refine con_of (A := sWc x l c c.row1) (x := ()) (E := Ewc l c) (eOk (conWc_ok hc) rfl) Try.func21 rfl (by kernel_rfl) rfl (by simp [sWc, Ewc, EC, E0]) ?_
  refine vc_eq (T :=
      ∀ (x_1 : Nat), x ≠ x_1 ∧ True → SM x_1 ∧ ((SM x ∧ fitP (LN l) (fun (i : Nat) => [ZB (BI l i)]) N1 fun (i : Nat) => List.getD [[ZI (LI (CodD.consts c))]] i []) ∧ True) ∧ ∀ (y : Nat × List UInt8), y.2 = (bytesOf (LN
      l) fun (i : Nat) => [ZB (BI l i)]) ++ numsB [rowInt [ZI (LI (CodD.consts c))]] → SM x_1 ∧ (∃ (x_2 : Nat × Nat × List UInt8), (x_2.1 ≤ LN (CodD.consts c) ∧ x_2.2.2 ++ (arrBL (List.drop x_2.1 (CodD.consts c)) ++ tl2
      c) = l ++ codeB c) ∧ (Z0 = (NI x_2.1) ∧ True) ∧ (SM x ∧ ((LN y.2 = LN x_2.2.2 ∧ (∀ (i : Nat), i < LN y.2 → [ZB (BI y.2 i)] = [ZB (BI x_2.2.2 i)]) ∧ y.1 = x_2.2.1) ∧ True) ∧ SM x_1 ∧ ((SM (LN (CodD.consts c)) ∧ (∀
      (i : Nat), i < LN (CodD.consts c) → SM [ZI (Arr.k (GC c i)), SI (Arr.sh (GC c i)), SI (Arr.nu (GC c i)), D.sl N4 (LN (Arr.it (GC c i))) (fun (i_1 : Nat) => Arr.row (GA (Arr.it (GC c i)) i_1)) Mode.any]) ∧ True) ∧
      (SM (LN (CodD.funs c)) ∧ (∀ (i : Nat), i < LN (CodD.funs c) → SM [ZI (FnD.slots (GF c i)), S4 (FnD.code (GF c i))]) ∧ True) ∧ (SM (LN (CodD.kers c)) ∧ (∀ (i : Nat), i < LN (CodD.kers c) → SM [ZI (KeD.inputs (GK c
      i)), S4 (KeD.ops (GK c i)), ZI (KeD.reduce (GK c i)), ZI (KeD.at_ (GK c i))]) ∧ True) ∧ (SM (LN (CodD.lanes c)) ∧ (∀ (i : Nat), i < LN (CodD.lanes c) → SM [ZI (LaD.regs (GL c i)), S6 (LaD.code (GL c i))]) ∧ True) ∧
      True) ∧ True) ∧ y.1 = x_2.2.1 ∧ True) ∧ ∀ (x_2 : Nat × Nat × List UInt8), x_2.1 ≤ LN (CodD.consts c) ∧ x_2.2.2 ++ (arrBL (List.drop x_2.1 (CodD.consts c)) ++ tl2 c) = l ++ codeB c → ifB (decide ((NI x_2.1) < (LI
      (CodD.consts c)))) (side (Z0 ≤ (NI x_2.1) ∧ (NI x_2.1) < (LI (CodD.consts c))) (∀ (x_3 : Nat), x ≠ x_3 ∧ x_1 ≠ x_3 ∧ True → SM x_3 ∧ SM x_3 ∧ ∃ (x_4 : Nat × Nat × List UInt8 × Arr), (x = x_4.1 ∧ (Arr.k (GC c (TN
      x_2.1)) = Arr.k x_4.2.2.2 ∧ (LN (Arr.sh (GC c (TN x_2.1))) = LN (Arr.sh x_4.2.2.2) ∧ (∀ (i : Nat), i < LN (Arr.sh (GC c (TN x_2.1))) → [ZI (GI (Arr.sh (GC c (TN x_2.1))) i)] = [ZI (GI (Arr.sh x_4.2.2.2) i)]) ∧
      True) ∧ (LN (Arr.nu (GC c (TN x_2.1))) = LN (Arr.nu x_4.2.2.2) ∧ (∀ (i : Nat), i < LN (Arr.nu (GC c (TN x_2.1))) → [ZI (GI (Arr.nu (GC c (TN x_2.1))) i)] = [ZI (GI (Arr.nu x_4.2.2.2) i)]) ∧ True) ∧ (LN (Arr.it (GC
      c (TN x_2.1))) = LN (Arr.it x_4.2.2.2) ∧ (∀ (i : Nat), i < LN (Arr.it (GC c (TN x_2.1))) → Arr.row (GA (Arr.it (GC c (TN x_2.1))) i) = Arr.row (GA (Arr.it x_4.2.2.2) i)) ∧ True) ∧ True) ∧ True) ∧ ((x = x_4.1 ∧ ((LN
      x_2.2.2 = LN x_4.2.2.1 ∧ (∀ (i : Nat), i < LN x_2.2.2 → [ZB (BI x_2.2.2 i)] = [ZB (BI x_4.2.2.1 i)]) ∧ x_2.2.1 = x_4.2.1) ∧ True) ∧ True) ∧ x_2.2.1 = x_4.2.1 ∧ True) ∧ (x_4.2.2.2 ∈ CodD.consts c ∧ LN x_4.2.2.1 +
      (10 : Nat) * szA x_4.2.2.2 ≤ (70368744177664 : Nat)) ∧ ∀ (y : Nat × List UInt8), y.2 = x_4.2.2.1 ++ arrB x_4.2.2.2 → (SM (D.ref N0 x N0) ∧ SM (D.ref N1 x_1 N0) ∧ SM (D.sl N4 (LN (CodD.consts c)) (fun (i : Nat) =>
      [ZI (Arr.k (GC c i)), SI (Arr.sh (GC c i)), SI (Arr.nu (GC c i)), D.sl N4 (LN (Arr.it (GC c i))) (fun (i_1 : Nat) => Arr.row (GA (Arr.it (GC c i)) i_1)) Mode.any]) Mode.any) ∧ SM (ZI (LI (CodD.consts c))) ∧ True) ∧
      ∃ (y_1 : Nat × Nat × List UInt8), (y_1.1 ≤ LN (CodD.consts c) ∧ y_1.2.2 ++ (arrBL (List.drop y_1.1 (CodD.consts c)) ++ tl2 c) = l ++ codeB c) ∧ LN (CodD.consts c) - y_1.1 < LN (CodD.consts c) - x_2.1 ∧
      (IntKind.wrap IntKind.i64 ((NI x_2.1) + Z1) = (NI y_1.1) ∧ True) ∧ (x_4.1 = x ∧ ((LN y.2 = LN y_1.2.2 ∧ (∀ (i : Nat), i < LN y.2 → [ZB (BI y.2 i)] = [ZB (BI y_1.2.2 i)]) ∧ y.1 = y_1.2.1) ∧ True) ∧ SM x_1 ∧ ((SM (LN
      (CodD.consts c)) ∧ (∀ (i : Nat), i < LN (CodD.consts c) → SM [ZI (Arr.k (GC c i)), SI (Arr.sh (GC c i)), SI (Arr.nu (GC c i)), D.sl N4 (LN (Arr.it (GC c i))) (fun (i_1 : Nat) => Arr.row (GA (Arr.it (GC c i)) i_1))
      Mode.any]) ∧ True) ∧ (SM (LN (CodD.funs c)) ∧ (∀ (i : Nat), i < LN (CodD.funs c) → SM [ZI (FnD.slots (GF c i)), S4 (FnD.code (GF c i))]) ∧ True) ∧ (SM (LN (CodD.kers c)) ∧ (∀ (i : Nat), i < LN (CodD.kers c) → SM
      [ZI (KeD.inputs (GK c i)), S4 (KeD.ops (GK c i)), ZI (KeD.reduce (GK c i)), ZI (KeD.at_ (GK c i))]) ∧ True) ∧ (SM (LN (CodD.lanes c)) ∧ (∀ (i : Nat), i < LN (CodD.lanes c) → SM [ZI (LaD.regs (GL c i)), S6 (LaD.code
      (GL c i))]) ∧ True) ∧ True) ∧ True) ∧ y.1 = y_1.2.1 ∧ True)) (SM x_1 ∧ ((SM x ∧ tokIs [(N0, x_2.2.1)] N0 x_2.2.1 ∧ fitP (LN x_2.2.2) (fun (i : Nat) => [ZB (BI x_2.2.2 i)]) N1 fun (i : Nat) => List.getD [[ZI (LI
      (CodD.funs c))]] i []) ∧ True) ∧ ∀ (y : Nat × List UInt8), y.2 = (bytesOf (LN x_2.2.2) fun (i : Nat) => [ZB (BI x_2.2.2 i)]) ++ numsB [rowInt [ZI (LI (CodD.funs c))]] → SM x_1 ∧ (∃ (x_3 : Nat × Nat × List UInt8),
      (x_3.1 ≤ LN (CodD.funs c) ∧ x_3.2.2 ++ (List.flatMap funB (List.drop x_3.1 (CodD.funs c)) ++ tl3 c) = l ++ codeB c) ∧ (Z0 = (NI x_3.1) ∧ True) ∧ (SM x ∧ ((LN y.2 = LN x_3.2.2 ∧ (∀ (i : Nat), i < LN y.2 → [ZB (BI
      y.2 i)] = [ZB (BI x_3.2.2 i)]) ∧ y.1 = x_3.2.1) ∧ True) ∧ SM x_1 ∧ ((SM (LN (CodD.consts c)) ∧ (∀ (i : Nat), i < LN (CodD.consts c) → SM [ZI (Arr.k (GC c i)), SI (Arr.sh (GC c i)), SI (Arr.nu (GC c i)), D.sl N4 (LN
      (Arr.it (GC c i))) (fun (i_1 : Nat) => Arr.row (GA (Arr.it (GC c i)) i_1)) Mode.any]) ∧ True) ∧ (SM (LN (CodD.funs c)) ∧ (∀ (i : Nat), i < LN (CodD.funs c) → SM [ZI (FnD.slots (GF c i)), S4 (FnD.code (GF c i))]) ∧
      True) ∧ (SM (LN (CodD.kers c)) ∧ (∀ (i : Nat), i < LN (CodD.kers c) → SM [ZI (KeD.inputs (GK c i)), S4 (KeD.ops (GK c i)), ZI (KeD.reduce (GK c i)), ZI (KeD.at_ (GK c i))]) ∧ True) ∧ (SM (LN (CodD.lanes c)) ∧ (∀ (i
      : Nat), i < LN (CodD.lanes c) → SM [ZI (LaD.regs (GL c i)), S6 (LaD.code (GL c i))]) ∧ True) ∧ True) ∧ True) ∧ y.1 = x_3.2.1 ∧ True) ∧ ∀ (x_3 : Nat × Nat × List UInt8), x_3.1 ≤ LN (CodD.funs c) ∧ x_3.2.2 ++
      (List.flatMap funB (List.drop x_3.1 (CodD.funs c)) ++ tl3 c) = l ++ codeB c → ifB (decide ((NI x_3.1) < (LI (CodD.funs c)))) (side (Z0 ≤ (NI x_3.1) ∧ (NI x_3.1) < (LI (CodD.funs c))) (∀ (x_4 : Nat), x ≠ x_4 ∧ x_1 ≠
      x_4 ∧ True → SM x_4 ∧ SM x_4 ∧ SM x_4 ∧ ((SM x ∧ tokIs [(N0, x_3.2.1)] N0 x_3.2.1 ∧ fitP (LN x_3.2.2) (fun (i : Nat) => [ZB (BI x_3.2.2 i)]) N2 fun (i : Nat) => List.getD [[ZI (FnD.slots (GF c (TN x_3.1)))], [ZI
      (LI (FnD.code (GF c (TN x_3.1))))]] i []) ∧ True) ∧ ∀ (y : Nat × List UInt8), y.2 = (bytesOf (LN x_3.2.2) fun (i : Nat) => [ZB (BI x_3.2.2 i)]) ++ numsB [rowInt [ZI (FnD.slots (GF c (TN x_3.1)))], rowInt [ZI (LI
      (FnD.code (GF c (TN x_3.1))))]] → SM x_4 ∧ (∃ (x_5 : Nat × Nat × List UInt8), (x_5.1 ≤ LN (FnD.code (GF c (natOf (ZI (NI x_3.1))))) ∧ x_5.2.2 ++ (List.flatMap i4B (List.drop x_5.1 (FnD.code (GF c (natOf (ZI (NI
      x_3.1)))))) ++ (List.flatMap funB (List.drop (natOf (ZI (NI x_3.1)) + N1) (CodD.funs c)) ++ tl3 c)) = l ++ codeB c) ∧ (Z0 = (NI x_5.1) ∧ True) ∧ (SM x ∧ ((LN y.2 = LN x_5.2.2 ∧ (∀ (i : Nat), i < LN y.2 → [ZB (BI
      y.2 i)] = [ZB (BI x_5.2.2 i)]) ∧ y.1 = x_5.2.1) ∧ True) ∧ SM x_4 ∧ (SM (FnD.slots (GF c (TN x_3.1))) ∧ (SM (LN (FnD.code (GF c (TN x_3.1)))) ∧ (∀ (i : Nat), i < LN (FnD.code (GF c (TN x_3.1))) → SM (R4 (G4
      (FnD.code (GF c (TN x_3.1))) i))) ∧ True) ∧ True) ∧ SM x_1 ∧ ((SM (LN (CodD.consts c)) ∧ (∀ (i : Nat), i < LN (CodD.consts c) → SM [ZI (Arr.k (GC c i)), SI (Arr.sh (GC c i)), SI (Arr.nu (GC c i)), D.sl N4 (LN
      (Arr.it (GC c i))) (fun (i_1 : Nat) => Arr.row (GA (Arr.it (GC c i)) i_1)) Mode.any]) ∧ True) ∧ (SM (LN (CodD.funs c)) ∧ (∀ (i : Nat), i < LN (CodD.funs c) → SM [ZI (FnD.slots (GF c i)), S4 (FnD.code (GF c i))]) ∧
      True) ∧ (SM (LN (CodD.kers c)) ∧ (∀ (i : Nat), i < LN (CodD.kers c) → SM [ZI (KeD.inputs (GK c i)), S4 (KeD.ops (GK c i)), ZI (KeD.reduce (GK c i)), ZI (KeD.at_ (GK c i))]) ∧ True) ∧ (SM (LN (CodD.lanes c)) ∧ (∀ (i
      : Nat), i < LN (CodD.lanes c) → SM [ZI (LaD.regs (GL c i)), S6 (LaD.code (GL c i))]) ∧ True) ∧ True) ∧ True) ∧ y.1 = x_5.2.1 ∧ True) ∧ ∀ (x_5 : Nat × Nat × List UInt8), x_5.1 ≤ LN (FnD.code (GF c (natOf (ZI (NI
      x_3.1))))) ∧ x_5.2.2 ++ (List.flatMap i4B (List.drop x_5.1 (FnD.code (GF c (natOf (ZI (NI x_3.1)))))) ++ (List.flatMap funB (List.drop (natOf (ZI (NI x_3.1)) + N1) (CodD.funs c)) ++ tl3 c)) = l ++ codeB c → ifB
      (decide ((NI x_5.1) < (LI (FnD.code (GF c (TN x_3.1)))))) (side (Z0 ≤ (NI x_5.1) ∧ (NI x_5.1) < (LI (FnD.code (GF c (TN x_3.1))))) (∀ (x_6 : Nat), x ≠ x_6 ∧ x_4 ≠ x_6 ∧ x_1 ≠ x_6 ∧ True → SM x_6 ∧ SM x_6 ∧ SM x_6 ∧
      SM x_6 ∧ SM x_6 ∧ ((SM x ∧ tokIs [(N0, x_5.2.1)] N0 x_5.2.1 ∧ fitP (LN x_5.2.2) (fun (i : Nat) => [ZB (BI x_5.2.2 i)]) N4 fun (i : Nat) => List.getD [[ZI (I4.a (G4 (FnD.code (GF c (TN x_3.1))) (TN x_5.1)))], [ZI
      (I4.b (G4 (FnD.code (GF c (TN x_3.1))) (TN x_5.1)))], [ZI (I4.c (G4 (FnD.code (GF c (TN x_3.1))) (TN x_5.1)))], [ZI (I4.d (G4 (FnD.code (GF c (TN x_3.1))) (TN x_5.1)))]] i []) ∧ True) ∧ ∀ (y : Nat × List UInt8),
      y.2 = (bytesOf (LN x_5.2.2) fun (i : Nat) => [ZB (BI x_5.2.2 i)]) ++ numsB [rowInt [ZI (I4.a (G4 (FnD.code (GF c (TN x_3.1))) (TN x_5.1)))], rowInt [ZI (I4.b (G4 (FnD.code (GF c (TN x_3.1))) (TN x_5.1)))], rowInt
      [ZI (I4.c (G4 (FnD.code (GF c (TN x_3.1))) (TN x_5.1)))], rowInt [ZI (I4.d (G4 (FnD.code (GF c (TN x_3.1))) (TN x_5.1)))]] → (SM (D.ref N0 x N0) ∧ SM (D.ref N1 x_1 N0) ∧ SM (D.ref (max N1 (max (N1 + N1) N0)) x_4
      N0) ∧ SM (D.sl N2 (LN (CodD.funs c)) (fun (i : Nat) => [ZI (FnD.slots (GF c i)), S4 (FnD.code (GF c i))]) Mode.any) ∧ SM (ZI (LI (CodD.funs c))) ∧ SM (ZI (NI x_3.1)) ∧ SM (S4 (FnD.code (GF c (TN x_3.1)))) ∧ SM (ZI
      (LI (FnD.code (GF c (TN x_3.1))))) ∧ True) ∧ ∃ (y_1 : Nat × Nat × List UInt8), (y_1.1 ≤ LN (FnD.code (GF c (natOf (ZI (NI x_3.1))))) ∧ y_1.2.2 ++ (List.flatMap i4B (List.drop y_1.1 (FnD.code (GF c (natOf (ZI (NI
      x_3.1)))))) ++ (List.flatMap funB (List.drop (natOf (ZI (NI x_3.1)) + N1) (CodD.funs c)) ++ tl3 c)) = l ++ codeB c) ∧ LN (FnD.code (GF c (natOf (ZI (NI x_3.1))))) - y_1.1 < LN (FnD.code (GF c (natOf (ZI (NI
      x_3.1))))) - x_5.1 ∧ (IntKind.wrap IntKind.i64 ((NI x_5.1) + Z1) = (NI y_1.1) ∧ True) ∧ (SM x ∧ ((LN y.2 = LN y_1.2.2 ∧ (∀ (i : Nat), i < LN y.2 → [ZB (BI y.2 i)] = [ZB (BI y_1.2.2 i)]) ∧ y.1 = y_1.2.1) ∧ True) ∧
      SM x_4 ∧ (SM (FnD.slots (GF c (TN x_3.1))) ∧ (SM (LN (FnD.code (GF c (TN x_3.1)))) ∧ (∀ (i : Nat), i < LN (FnD.code (GF c (TN x_3.1))) → SM (R4 (G4 (FnD.code (GF c (TN x_3.1))) i))) ∧ True) ∧ True) ∧ SM x_1 ∧ ((SM
      (LN (CodD.consts c)) ∧ (∀ (i : Nat), i < LN (CodD.consts c) → SM [ZI (Arr.k (GC c i)), SI (Arr.sh (GC c i)), SI (Arr.nu (GC c i)), D.sl N4 (LN (Arr.it (GC c i))) (fun (i_1 : Nat) => Arr.row (GA (Arr.it (GC c i))
      i_1)) Mode.any]) ∧ True) ∧ (SM (LN (CodD.funs c)) ∧ (∀ (i : Nat), i < LN (CodD.funs c) → SM [ZI (FnD.slots (GF c i)), S4 (FnD.code (GF c i))]) ∧ True) ∧ (SM (LN (CodD.kers c)) ∧ (∀ (i : Nat), i < LN (CodD.kers c) →
      SM [ZI (KeD.inputs (GK c i)), S4 (KeD.ops (GK c i)), ZI (KeD.reduce (GK c i)), ZI (KeD.at_ (GK c i))]) ∧ True) ∧ (SM (LN (CodD.lanes c)) ∧ (∀ (i : Nat), i < LN (CodD.lanes c) → SM [ZI (LaD.regs (GL c i)), S6
      (LaD.code (GL c i))]) ∧ True) ∧ True) ∧ True) ∧ y.1 = y_1.2.1 ∧ True)) ((SM (D.ref N0 x N0) ∧ SM (D.ref N1 x_1 N0) ∧ SM (D.sl N2 (LN (CodD.funs c)) (fun (i : Nat) => [ZI (FnD.slots (GF c i)), S4 (FnD.code (GF c
      i))]) Mode.any) ∧ SM (ZI (LI (CodD.funs c))) ∧ True) ∧ ∃ (y : Nat × Nat × List UInt8), (y.1 ≤ LN (CodD.funs c) ∧ y.2.2 ++ (List.flatMap funB (List.drop y.1 (CodD.funs c)) ++ tl3 c) = l ++ codeB c) ∧ LN (CodD.funs
      c) - y.1 < LN (CodD.funs c) - x_3.1 ∧ (IntKind.wrap IntKind.i64 ((NI x_3.1) + Z1) = (NI y.1) ∧ True) ∧ (SM x ∧ ((LN x_5.2.2 = LN y.2.2 ∧ (∀ (i : Nat), i < LN x_5.2.2 → [ZB (BI x_5.2.2 i)] = [ZB (BI y.2.2 i)]) ∧
      x_5.2.1 = y.2.1) ∧ True) ∧ SM x_1 ∧ ((SM (LN (CodD.consts c)) ∧ (∀ (i : Nat), i < LN (CodD.consts c) → SM [ZI (Arr.k (GC c i)), SI (Arr.sh (GC c i)), SI (Arr.nu (GC c i)), D.sl N4 (LN (Arr.it (GC c i))) (fun (i_1 :
      Nat) => Arr.row (GA (Arr.it (GC c i)) i_1)) Mode.any]) ∧ True) ∧ (SM (LN (CodD.funs c)) ∧ (∀ (i : Nat), i < LN (CodD.funs c) → SM [ZI (FnD.slots (GF c i)), S4 (FnD.code (GF c i))]) ∧ True) ∧ (SM (LN (CodD.kers c))
      ∧ (∀ (i : Nat), i < LN (CodD.kers c) → SM [ZI (KeD.inputs (GK c i)), S4 (KeD.ops (GK c i)), ZI (KeD.reduce (GK c i)), ZI (KeD.at_ (GK c i))]) ∧ True) ∧ (SM (LN (CodD.lanes c)) ∧ (∀ (i : Nat), i < LN (CodD.lanes c)
      → SM [ZI (LaD.regs (GL c i)), S6 (LaD.code (GL c i))]) ∧ True) ∧ True) ∧ True) ∧ x_5.2.1 = y.2.1 ∧ True))) (SM x_1 ∧ ((SM x ∧ tokIs [(N0, x_3.2.1)] N0 x_3.2.1 ∧ fitP (LN x_3.2.2) (fun (i : Nat) => [ZB (BI x_3.2.2
      i)]) N1 fun (i : Nat) => List.getD [[ZI (LI (CodD.kers c))]] i []) ∧ True) ∧ ∀ (y : Nat × List UInt8), y.2 = (bytesOf (LN x_3.2.2) fun (i : Nat) => [ZB (BI x_3.2.2 i)]) ++ numsB [rowInt [ZI (LI (CodD.kers c))]] →
      SM x_1 ∧ (∃ (x_4 : Nat × Nat × List UInt8), (x_4.1 ≤ LN (CodD.kers c) ∧ x_4.2.2 ++ (List.flatMap kerY (List.drop x_4.1 (CodD.kers c)) ++ tl4 c) = l ++ codeB c) ∧ (Z0 = (NI x_4.1) ∧ True) ∧ (SM x ∧ ((LN y.2 = LN
      x_4.2.2 ∧ (∀ (i : Nat), i < LN y.2 → [ZB (BI y.2 i)] = [ZB (BI x_4.2.2 i)]) ∧ y.1 = x_4.2.1) ∧ True) ∧ SM x_1 ∧ ((SM (LN (CodD.consts c)) ∧ (∀ (i : Nat), i < LN (CodD.consts c) → SM [ZI (Arr.k (GC c i)), SI (Arr.sh
      (GC c i)), SI (Arr.nu (GC c i)), D.sl N4 (LN (Arr.it (GC c i))) (fun (i_1 : Nat) => Arr.row (GA (Arr.it (GC c i)) i_1)) Mode.any]) ∧ True) ∧ (SM (LN (CodD.funs c)) ∧ (∀ (i : Nat), i < LN (CodD.funs c) → SM [ZI
      (FnD.slots (GF c i)), S4 (FnD.code (GF c i))]) ∧ True) ∧ (SM (LN (CodD.kers c)) ∧ (∀ (i : Nat), i < LN (CodD.kers c) → SM [ZI (KeD.inputs (GK c i)), S4 (KeD.ops (GK c i)), ZI (KeD.reduce (GK c i)), ZI (KeD.at_ (GK
      c i))]) ∧ True) ∧ (SM (LN (CodD.lanes c)) ∧ (∀ (i : Nat), i < LN (CodD.lanes c) → SM [ZI (LaD.regs (GL c i)), S6 (LaD.code (GL c i))]) ∧ True) ∧ True) ∧ True) ∧ y.1 = x_4.2.1 ∧ True) ∧ ∀ (x_4 : Nat × Nat × List
      UInt8), x_4.1 ≤ LN (CodD.kers c) ∧ x_4.2.2 ++ (List.flatMap kerY (List.drop x_4.1 (CodD.kers c)) ++ tl4 c) = l ++ codeB c → ifB (decide ((NI x_4.1) < (LI (CodD.kers c)))) (side (Z0 ≤ (NI x_4.1) ∧ (NI x_4.1) < (LI
      (CodD.kers c))) (∀ (x_5 : Nat), x ≠ x_5 ∧ x_1 ≠ x_5 ∧ True → SM x_5 ∧ SM x_5 ∧ SM x_5 ∧ ((SM x ∧ tokIs [(N0, x_4.2.1)] N0 x_4.2.1 ∧ fitP (LN x_4.2.2) (fun (i : Nat) => [ZB (BI x_4.2.2 i)]) N2 fun (i : Nat) =>
      List.getD [[ZI (KeD.inputs (GK c (TN x_4.1)))], [ZI (LI (KeD.ops (GK c (TN x_4.1))))]] i []) ∧ True) ∧ ∀ (y : Nat × List UInt8), y.2 = (bytesOf (LN x_4.2.2) fun (i : Nat) => [ZB (BI x_4.2.2 i)]) ++ numsB [rowInt
      [ZI (KeD.inputs (GK c (TN x_4.1)))], rowInt [ZI (LI (KeD.ops (GK c (TN x_4.1))))]] → SM x_5 ∧ (∃ (x_6 : Nat × Nat × List UInt8), (x_6.1 ≤ LN (KeD.ops (GK c (natOf (ZI (NI x_4.1))))) ∧ x_6.2.2 ++ (List.flatMap i4B
      (List.drop x_6.1 (KeD.ops (GK c (natOf (ZI (NI x_4.1)))))) ++ (numsB [KeD.reduce (GK c (natOf (ZI (NI x_4.1)))), KeD.at_ (GK c (natOf (ZI (NI x_4.1))))] ++ (List.flatMap kerY (List.drop (natOf (ZI (NI x_4.1)) + N1)
      (CodD.kers c)) ++ tl4 c))) = l ++ codeB c) ∧ (Z0 = (NI x_6.1) ∧ True) ∧ (SM x ∧ ((LN y.2 = LN x_6.2.2 ∧ (∀ (i : Nat), i < LN y.2 → [ZB (BI y.2 i)] = [ZB (BI x_6.2.2 i)]) ∧ y.1 = x_6.2.1) ∧ True) ∧ SM x_5 ∧ (SM
      (KeD.inputs (GK c (TN x_4.1))) ∧ (SM (LN (KeD.ops (GK c (TN x_4.1)))) ∧ (∀ (i : Nat), i < LN (KeD.ops (GK c (TN x_4.1))) → SM (R4 (G4 (KeD.ops (GK c (TN x_4.1))) i))) ∧ True) ∧ SM (KeD.reduce (GK c (TN x_4.1))) ∧
      SM (KeD.at_ (GK c (TN x_4.1))) ∧ True) ∧ SM x_1 ∧ ((SM (LN (CodD.consts c)) ∧ (∀ (i : Nat), i < LN (CodD.consts c) → SM [ZI (Arr.k (GC c i)), SI (Arr.sh (GC c i)), SI (Arr.nu (GC c i)), D.sl N4 (LN (Arr.it (GC c
      i))) (fun (i_1 : Nat) => Arr.row (GA (Arr.it (GC c i)) i_1)) Mode.any]) ∧ True) ∧ (SM (LN (CodD.funs c)) ∧ (∀ (i : Nat), i < LN (CodD.funs c) → SM [ZI (FnD.slots (GF c i)), S4 (FnD.code (GF c i))]) ∧ True) ∧ (SM
      (LN (CodD.kers c)) ∧ (∀ (i : Nat), i < LN (CodD.kers c) → SM [ZI (KeD.inputs (GK c i)), S4 (KeD.ops (GK c i)), ZI (KeD.reduce (GK c i)), ZI (KeD.at_ (GK c i))]) ∧ True) ∧ (SM (LN (CodD.lanes c)) ∧ (∀ (i : Nat), i <
      LN (CodD.lanes c) → SM [ZI (LaD.regs (GL c i)), S6 (LaD.code (GL c i))]) ∧ True) ∧ True) ∧ True) ∧ y.1 = x_6.2.1 ∧ True) ∧ ∀ (x_6 : Nat × Nat × List UInt8), x_6.1 ≤ LN (KeD.ops (GK c (natOf (ZI (NI x_4.1))))) ∧
      x_6.2.2 ++ (List.flatMap i4B (List.drop x_6.1 (KeD.ops (GK c (natOf (ZI (NI x_4.1)))))) ++ (numsB [KeD.reduce (GK c (natOf (ZI (NI x_4.1)))), KeD.at_ (GK c (natOf (ZI (NI x_4.1))))] ++ (List.flatMap kerY (List.drop
      (natOf (ZI (NI x_4.1)) + N1) (CodD.kers c)) ++ tl4 c))) = l ++ codeB c → ifB (decide ((NI x_6.1) < (LI (KeD.ops (GK c (TN x_4.1)))))) (side (Z0 ≤ (NI x_6.1) ∧ (NI x_6.1) < (LI (KeD.ops (GK c (TN x_4.1))))) (∀ (x_7
      : Nat), x ≠ x_7 ∧ x_5 ≠ x_7 ∧ x_1 ≠ x_7 ∧ True → SM x_7 ∧ SM x_7 ∧ SM x_7 ∧ SM x_7 ∧ SM x_7 ∧ ((SM x ∧ tokIs [(N0, x_6.2.1)] N0 x_6.2.1 ∧ fitP (LN x_6.2.2) (fun (i : Nat) => [ZB (BI x_6.2.2 i)]) N4 fun (i : Nat) =>
      List.getD [[ZI (I4.a (G4 (KeD.ops (GK c (TN x_4.1))) (TN x_6.1)))], [ZI (I4.b (G4 (KeD.ops (GK c (TN x_4.1))) (TN x_6.1)))], [ZI (I4.c (G4 (KeD.ops (GK c (TN x_4.1))) (TN x_6.1)))], [ZI (I4.d (G4 (KeD.ops (GK c (TN
      x_4.1))) (TN x_6.1)))]] i []) ∧ True) ∧ ∀ (y : Nat × List UInt8), y.2 = (bytesOf (LN x_6.2.2) fun (i : Nat) => [ZB (BI x_6.2.2 i)]) ++ numsB [rowInt [ZI (I4.a (G4 (KeD.ops (GK c (TN x_4.1))) (TN x_6.1)))], rowInt
      [ZI (I4.b (G4 (KeD.ops (GK c (TN x_4.1))) (TN x_6.1)))], rowInt [ZI (I4.c (G4 (KeD.ops (GK c (TN x_4.1))) (TN x_6.1)))], rowInt [ZI (I4.d (G4 (KeD.ops (GK c (TN x_4.1))) (TN x_6.1)))]] → (SM (D.ref N0 x N0) ∧ SM
      (D.ref N1 x_1 N0) ∧ SM (D.ref (max N1 (max (N1 + N1) N0)) x_5 N0) ∧ SM (D.sl N4 (LN (CodD.kers c)) (fun (i : Nat) => [ZI (KeD.inputs (GK c i)), S4 (KeD.ops (GK c i)), ZI (KeD.reduce (GK c i)), ZI (KeD.at_ (GK c
      i))]) Mode.any) ∧ SM (ZI (LI (CodD.kers c))) ∧ SM (ZI (NI x_4.1)) ∧ SM (S4 (KeD.ops (GK c (TN x_4.1)))) ∧ SM (ZI (LI (KeD.ops (GK c (TN x_4.1))))) ∧ True) ∧ ∃ (y_1 : Nat × Nat × List UInt8), (y_1.1 ≤ LN (KeD.ops
      (GK c (natOf (ZI (NI x_4.1))))) ∧ y_1.2.2 ++ (List.flatMap i4B (List.drop y_1.1 (KeD.ops (GK c (natOf (ZI (NI x_4.1)))))) ++ (numsB [KeD.reduce (GK c (natOf (ZI (NI x_4.1)))), KeD.at_ (GK c (natOf (ZI (NI
      x_4.1))))] ++ (List.flatMap kerY (List.drop (natOf (ZI (NI x_4.1)) + N1) (CodD.kers c)) ++ tl4 c))) = l ++ codeB c) ∧ LN (KeD.ops (GK c (natOf (ZI (NI x_4.1))))) - y_1.1 < LN (KeD.ops (GK c (natOf (ZI (NI
      x_4.1))))) - x_6.1 ∧ (IntKind.wrap IntKind.i64 ((NI x_6.1) + Z1) = (NI y_1.1) ∧ True) ∧ (SM x ∧ ((LN y.2 = LN y_1.2.2 ∧ (∀ (i : Nat), i < LN y.2 → [ZB (BI y.2 i)] = [ZB (BI y_1.2.2 i)]) ∧ y.1 = y_1.2.1) ∧ True) ∧
      SM x_5 ∧ (SM (KeD.inputs (GK c (TN x_4.1))) ∧ (SM (LN (KeD.ops (GK c (TN x_4.1)))) ∧ (∀ (i : Nat), i < LN (KeD.ops (GK c (TN x_4.1))) → SM (R4 (G4 (KeD.ops (GK c (TN x_4.1))) i))) ∧ True) ∧ SM (KeD.reduce (GK c (TN
      x_4.1))) ∧ SM (KeD.at_ (GK c (TN x_4.1))) ∧ True) ∧ SM x_1 ∧ ((SM (LN (CodD.consts c)) ∧ (∀ (i : Nat), i < LN (CodD.consts c) → SM [ZI (Arr.k (GC c i)), SI (Arr.sh (GC c i)), SI (Arr.nu (GC c i)), D.sl N4 (LN
      (Arr.it (GC c i))) (fun (i_1 : Nat) => Arr.row (GA (Arr.it (GC c i)) i_1)) Mode.any]) ∧ True) ∧ (SM (LN (CodD.funs c)) ∧ (∀ (i : Nat), i < LN (CodD.funs c) → SM [ZI (FnD.slots (GF c i)), S4 (FnD.code (GF c i))]) ∧
      True) ∧ (SM (LN (CodD.kers c)) ∧ (∀ (i : Nat), i < LN (CodD.kers c) → SM [ZI (KeD.inputs (GK c i)), S4 (KeD.ops (GK c i)), ZI (KeD.reduce (GK c i)), ZI (KeD.at_ (GK c i))]) ∧ True) ∧ (SM (LN (CodD.lanes c)) ∧ (∀ (i
      : Nat), i < LN (CodD.lanes c) → SM [ZI (LaD.regs (GL c i)), S6 (LaD.code (GL c i))]) ∧ True) ∧ True) ∧ True) ∧ y.1 = y_1.2.1 ∧ True)) (SM x_5 ∧ SM x_5 ∧ ((SM x ∧ tokIs [(N0, x_6.2.1)] N0 x_6.2.1 ∧ fitP (LN x_6.2.2)
      (fun (i : Nat) => [ZB (BI x_6.2.2 i)]) N2 fun (i : Nat) => List.getD [[ZI (KeD.reduce (GK c (TN x_4.1)))], [ZI (KeD.at_ (GK c (TN x_4.1)))]] i []) ∧ True) ∧ ∀ (y : Nat × List UInt8), y.2 = (bytesOf (LN x_6.2.2) fun
      (i : Nat) => [ZB (BI x_6.2.2 i)]) ++ numsB [rowInt [ZI (KeD.reduce (GK c (TN x_4.1)))], rowInt [ZI (KeD.at_ (GK c (TN x_4.1)))]] → (SM (D.ref N0 x N0) ∧ SM (D.ref N1 x_1 N0) ∧ SM (D.sl N4 (LN (CodD.kers c)) (fun (i
      : Nat) => [ZI (KeD.inputs (GK c i)), S4 (KeD.ops (GK c i)), ZI (KeD.reduce (GK c i)), ZI (KeD.at_ (GK c i))]) Mode.any) ∧ SM (ZI (LI (CodD.kers c))) ∧ True) ∧ ∃ (y_1 : Nat × Nat × List UInt8), (y_1.1 ≤ LN
      (CodD.kers c) ∧ y_1.2.2 ++ (List.flatMap kerY (List.drop y_1.1 (CodD.kers c)) ++ tl4 c) = l ++ codeB c) ∧ LN (CodD.kers c) - y_1.1 < LN (CodD.kers c) - x_4.1 ∧ (IntKind.wrap IntKind.i64 ((NI x_4.1) + Z1) = (NI
      y_1.1) ∧ True) ∧ (SM x ∧ ((LN y.2 = LN y_1.2.2 ∧ (∀ (i : Nat), i < LN y.2 → [ZB (BI y.2 i)] = [ZB (BI y_1.2.2 i)]) ∧ y.1 = y_1.2.1) ∧ True) ∧ SM x_1 ∧ ((SM (LN (CodD.consts c)) ∧ (∀ (i : Nat), i < LN (CodD.consts
      c) → SM [ZI (Arr.k (GC c i)), SI (Arr.sh (GC c i)), SI (Arr.nu (GC c i)), D.sl N4 (LN (Arr.it (GC c i))) (fun (i_1 : Nat) => Arr.row (GA (Arr.it (GC c i)) i_1)) Mode.any]) ∧ True) ∧ (SM (LN (CodD.funs c)) ∧ (∀ (i :
      Nat), i < LN (CodD.funs c) → SM [ZI (FnD.slots (GF c i)), S4 (FnD.code (GF c i))]) ∧ True) ∧ (SM (LN (CodD.kers c)) ∧ (∀ (i : Nat), i < LN (CodD.kers c) → SM [ZI (KeD.inputs (GK c i)), S4 (KeD.ops (GK c i)), ZI
      (KeD.reduce (GK c i)), ZI (KeD.at_ (GK c i))]) ∧ True) ∧ (SM (LN (CodD.lanes c)) ∧ (∀ (i : Nat), i < LN (CodD.lanes c) → SM [ZI (LaD.regs (GL c i)), S6 (LaD.code (GL c i))]) ∧ True) ∧ True) ∧ True) ∧ y.1 = y_1.2.1
      ∧ True))) (SM x_1 ∧ ((SM x ∧ tokIs [(N0, x_4.2.1)] N0 x_4.2.1 ∧ fitP (LN x_4.2.2) (fun (i : Nat) => [ZB (BI x_4.2.2 i)]) N1 fun (i : Nat) => List.getD [[ZI (LI (CodD.lanes c))]] i []) ∧ True) ∧ ∀ (y : Nat × List
      UInt8), y.2 = (bytesOf (LN x_4.2.2) fun (i : Nat) => [ZB (BI x_4.2.2 i)]) ++ numsB [rowInt [ZI (LI (CodD.lanes c))]] → SM x_1 ∧ (∃ (x_5 : Nat × Nat × List UInt8), (x_5.1 ≤ LN (CodD.lanes c) ∧ x_5.2.2 ++
      List.flatMap lanB (List.drop x_5.1 (CodD.lanes c)) = l ++ codeB c) ∧ (Z0 = (NI x_5.1) ∧ True) ∧ (SM x ∧ ((LN y.2 = LN x_5.2.2 ∧ (∀ (i : Nat), i < LN y.2 → [ZB (BI y.2 i)] = [ZB (BI x_5.2.2 i)]) ∧ y.1 = x_5.2.1) ∧
      True) ∧ SM x_1 ∧ ((SM (LN (CodD.consts c)) ∧ (∀ (i : Nat), i < LN (CodD.consts c) → SM [ZI (Arr.k (GC c i)), SI (Arr.sh (GC c i)), SI (Arr.nu (GC c i)), D.sl N4 (LN (Arr.it (GC c i))) (fun (i_1 : Nat) => Arr.row
      (GA (Arr.it (GC c i)) i_1)) Mode.any]) ∧ True) ∧ (SM (LN (CodD.funs c)) ∧ (∀ (i : Nat), i < LN (CodD.funs c) → SM [ZI (FnD.slots (GF c i)), S4 (FnD.code (GF c i))]) ∧ True) ∧ (SM (LN (CodD.kers c)) ∧ (∀ (i : Nat),
      i < LN (CodD.kers c) → SM [ZI (KeD.inputs (GK c i)), S4 (KeD.ops (GK c i)), ZI (KeD.reduce (GK c i)), ZI (KeD.at_ (GK c i))]) ∧ True) ∧ (SM (LN (CodD.lanes c)) ∧ (∀ (i : Nat), i < LN (CodD.lanes c) → SM [ZI
      (LaD.regs (GL c i)), S6 (LaD.code (GL c i))]) ∧ True) ∧ True) ∧ True) ∧ y.1 = x_5.2.1 ∧ True) ∧ ∀ (x_5 : Nat × Nat × List UInt8), x_5.1 ≤ LN (CodD.lanes c) ∧ x_5.2.2 ++ List.flatMap lanB (List.drop x_5.1
      (CodD.lanes c)) = l ++ codeB c → ifB (decide ((NI x_5.1) < (LI (CodD.lanes c)))) (side (Z0 ≤ (NI x_5.1) ∧ (NI x_5.1) < (LI (CodD.lanes c))) (∀ (x_6 : Nat), x ≠ x_6 ∧ x_1 ≠ x_6 ∧ True → SM x_6 ∧ SM x_6 ∧ SM x_6 ∧
      ((SM x ∧ tokIs [(N0, x_5.2.1)] N0 x_5.2.1 ∧ fitP (LN x_5.2.2) (fun (i : Nat) => [ZB (BI x_5.2.2 i)]) N2 fun (i : Nat) => List.getD [[ZI (LaD.regs (GL c (TN x_5.1)))], [ZI (LI (LaD.code (GL c (TN x_5.1))))]] i []) ∧
      True) ∧ ∀ (y : Nat × List UInt8), y.2 = (bytesOf (LN x_5.2.2) fun (i : Nat) => [ZB (BI x_5.2.2 i)]) ++ numsB [rowInt [ZI (LaD.regs (GL c (TN x_5.1)))], rowInt [ZI (LI (LaD.code (GL c (TN x_5.1))))]] → SM x_6 ∧ (∃
      (x_7 : Nat × Nat × List UInt8), (x_7.1 ≤ LN (LaD.code (GL c (natOf (ZI (NI x_5.1))))) ∧ x_7.2.2 ++ (List.flatMap i6B (List.drop x_7.1 (LaD.code (GL c (natOf (ZI (NI x_5.1)))))) ++ List.flatMap lanB (List.drop
      (natOf (ZI (NI x_5.1)) + N1) (CodD.lanes c))) = l ++ codeB c) ∧ (Z0 = (NI x_7.1) ∧ True) ∧ (SM x ∧ ((LN y.2 = LN x_7.2.2 ∧ (∀ (i : Nat), i < LN y.2 → [ZB (BI y.2 i)] = [ZB (BI x_7.2.2 i)]) ∧ y.1 = x_7.2.1) ∧ True)
      ∧ SM x_6 ∧ (SM (LaD.regs (GL c (TN x_5.1))) ∧ (SM (LN (LaD.code (GL c (TN x_5.1)))) ∧ (∀ (i : Nat), i < LN (LaD.code (GL c (TN x_5.1))) → SM (R6 (G6 (LaD.code (GL c (TN x_5.1))) i))) ∧ True) ∧ True) ∧ SM x_1 ∧ ((SM
      (LN (CodD.consts c)) ∧ (∀ (i : Nat), i < LN (CodD.consts c) → SM [ZI (Arr.k (GC c i)), SI (Arr.sh (GC c i)), SI (Arr.nu (GC c i)), D.sl N4 (LN (Arr.it (GC c i))) (fun (i_1 : Nat) => Arr.row (GA (Arr.it (GC c i))
      i_1)) Mode.any]) ∧ True) ∧ (SM (LN (CodD.funs c)) ∧ (∀ (i : Nat), i < LN (CodD.funs c) → SM [ZI (FnD.slots (GF c i)), S4 (FnD.code (GF c i))]) ∧ True) ∧ (SM (LN (CodD.kers c)) ∧ (∀ (i : Nat), i < LN (CodD.kers c) →
      SM [ZI (KeD.inputs (GK c i)), S4 (KeD.ops (GK c i)), ZI (KeD.reduce (GK c i)), ZI (KeD.at_ (GK c i))]) ∧ True) ∧ (SM (LN (CodD.lanes c)) ∧ (∀ (i : Nat), i < LN (CodD.lanes c) → SM [ZI (LaD.regs (GL c i)), S6
      (LaD.code (GL c i))]) ∧ True) ∧ True) ∧ True) ∧ y.1 = x_7.2.1 ∧ True) ∧ ∀ (x_7 : Nat × Nat × List UInt8), x_7.1 ≤ LN (LaD.code (GL c (natOf (ZI (NI x_5.1))))) ∧ x_7.2.2 ++ (List.flatMap i6B (List.drop x_7.1
      (LaD.code (GL c (natOf (ZI (NI x_5.1)))))) ++ List.flatMap lanB (List.drop (natOf (ZI (NI x_5.1)) + N1) (CodD.lanes c))) = l ++ codeB c → ifB (decide ((NI x_7.1) < (LI (LaD.code (GL c (TN x_5.1)))))) (side (Z0 ≤
      (NI x_7.1) ∧ (NI x_7.1) < (LI (LaD.code (GL c (TN x_5.1))))) (∀ (x_8 : Nat), x ≠ x_8 ∧ x_6 ≠ x_8 ∧ x_1 ≠ x_8 ∧ True → SM x_8 ∧ SM x_8 ∧ SM x_8 ∧ SM x_8 ∧ SM x_8 ∧ SM x_8 ∧ SM x_8 ∧ ((SM x ∧ tokIs [(N0, x_7.2.1)] N0
      x_7.2.1 ∧ fitP (LN x_7.2.2) (fun (i : Nat) => [ZB (BI x_7.2.2 i)]) N6 fun (i : Nat) => List.getD [[ZI (I6.a (G6 (LaD.code (GL c (TN x_5.1))) (TN x_7.1)))], [ZI (I6.b (G6 (LaD.code (GL c (TN x_5.1))) (TN x_7.1)))],
      [ZI (I6.c (G6 (LaD.code (GL c (TN x_5.1))) (TN x_7.1)))], [ZI (I6.d (G6 (LaD.code (GL c (TN x_5.1))) (TN x_7.1)))], [ZI (I6.e (G6 (LaD.code (GL c (TN x_5.1))) (TN x_7.1)))], [ZI (I6.f (G6 (LaD.code (GL c (TN
      x_5.1))) (TN x_7.1)))]] i []) ∧ True) ∧ ∀ (y : Nat × List UInt8), y.2 = (bytesOf (LN x_7.2.2) fun (i : Nat) => [ZB (BI x_7.2.2 i)]) ++ numsB [rowInt [ZI (I6.a (G6 (LaD.code (GL c (TN x_5.1))) (TN x_7.1)))], rowInt
      [ZI (I6.b (G6 (LaD.code (GL c (TN x_5.1))) (TN x_7.1)))], rowInt [ZI (I6.c (G6 (LaD.code (GL c (TN x_5.1))) (TN x_7.1)))], rowInt [ZI (I6.d (G6 (LaD.code (GL c (TN x_5.1))) (TN x_7.1)))], rowInt [ZI (I6.e (G6
      (LaD.code (GL c (TN x_5.1))) (TN x_7.1)))], rowInt [ZI (I6.f (G6 (LaD.code (GL c (TN x_5.1))) (TN x_7.1)))]] → (SM (D.ref N0 x N0) ∧ SM (D.ref N1 x_1 N0) ∧ SM (D.ref (max N1 (max (N1 + N1) N0)) x_6 N0) ∧ SM (D.sl
      N2 (LN (CodD.lanes c)) (fun (i : Nat) => [ZI (LaD.regs (GL c i)), S6 (LaD.code (GL c i))]) Mode.any) ∧ SM (ZI (LI (CodD.lanes c))) ∧ SM (ZI (NI x_5.1)) ∧ SM (S6 (LaD.code (GL c (TN x_5.1)))) ∧ SM (ZI (LI (LaD.code
      (GL c (TN x_5.1))))) ∧ True) ∧ ∃ (y_1 : Nat × Nat × List UInt8), (y_1.1 ≤ LN (LaD.code (GL c (natOf (ZI (NI x_5.1))))) ∧ y_1.2.2 ++ (List.flatMap i6B (List.drop y_1.1 (LaD.code (GL c (natOf (ZI (NI x_5.1)))))) ++
      List.flatMap lanB (List.drop (natOf (ZI (NI x_5.1)) + N1) (CodD.lanes c))) = l ++ codeB c) ∧ LN (LaD.code (GL c (natOf (ZI (NI x_5.1))))) - y_1.1 < LN (LaD.code (GL c (natOf (ZI (NI x_5.1))))) - x_7.1 ∧
      (IntKind.wrap IntKind.i64 ((NI x_7.1) + Z1) = (NI y_1.1) ∧ True) ∧ (SM x ∧ ((LN y.2 = LN y_1.2.2 ∧ (∀ (i : Nat), i < LN y.2 → [ZB (BI y.2 i)] = [ZB (BI y_1.2.2 i)]) ∧ y.1 = y_1.2.1) ∧ True) ∧ SM x_6 ∧ (SM (LaD.regs
      (GL c (TN x_5.1))) ∧ (SM (LN (LaD.code (GL c (TN x_5.1)))) ∧ (∀ (i : Nat), i < LN (LaD.code (GL c (TN x_5.1))) → SM (R6 (G6 (LaD.code (GL c (TN x_5.1))) i))) ∧ True) ∧ True) ∧ SM x_1 ∧ ((SM (LN (CodD.consts c)) ∧
      (∀ (i : Nat), i < LN (CodD.consts c) → SM [ZI (Arr.k (GC c i)), SI (Arr.sh (GC c i)), SI (Arr.nu (GC c i)), D.sl N4 (LN (Arr.it (GC c i))) (fun (i_1 : Nat) => Arr.row (GA (Arr.it (GC c i)) i_1)) Mode.any]) ∧ True)
      ∧ (SM (LN (CodD.funs c)) ∧ (∀ (i : Nat), i < LN (CodD.funs c) → SM [ZI (FnD.slots (GF c i)), S4 (FnD.code (GF c i))]) ∧ True) ∧ (SM (LN (CodD.kers c)) ∧ (∀ (i : Nat), i < LN (CodD.kers c) → SM [ZI (KeD.inputs (GK c
      i)), S4 (KeD.ops (GK c i)), ZI (KeD.reduce (GK c i)), ZI (KeD.at_ (GK c i))]) ∧ True) ∧ (SM (LN (CodD.lanes c)) ∧ (∀ (i : Nat), i < LN (CodD.lanes c) → SM [ZI (LaD.regs (GL c i)), S6 (LaD.code (GL c i))]) ∧ True) ∧
      True) ∧ True) ∧ y.1 = y_1.2.1 ∧ True)) ((SM (D.ref N0 x N0) ∧ SM (D.ref N1 x_1 N0) ∧ SM (D.sl N2 (LN (CodD.lanes c)) (fun (i : Nat) => [ZI (LaD.regs (GL c i)), S6 (LaD.code (GL c i))]) Mode.any) ∧ SM (ZI (LI
      (CodD.lanes c))) ∧ True) ∧ ∃ (y : Nat × Nat × List UInt8), (y.1 ≤ LN (CodD.lanes c) ∧ y.2.2 ++ List.flatMap lanB (List.drop y.1 (CodD.lanes c)) = l ++ codeB c) ∧ LN (CodD.lanes c) - y.1 < LN (CodD.lanes c) - x_5.1
      ∧ (IntKind.wrap IntKind.i64 ((NI x_5.1) + Z1) = (NI y.1) ∧ True) ∧ (SM x ∧ ((LN x_7.2.2 = LN y.2.2 ∧ (∀ (i : Nat), i < LN x_7.2.2 → [ZB (BI x_7.2.2 i)] = [ZB (BI y.2.2 i)]) ∧ x_7.2.1 = y.2.1) ∧ True) ∧ SM x_1 ∧
      ((SM (LN (CodD.consts c)) ∧ (∀ (i : Nat), i < LN (CodD.consts c) → SM [ZI (Arr.k (GC c i)), SI (Arr.sh (GC c i)), SI (Arr.nu (GC c i)), D.sl N4 (LN (Arr.it (GC c i))) (fun (i_1 : Nat) => Arr.row (GA (Arr.it (GC c
      i)) i_1)) Mode.any]) ∧ True) ∧ (SM (LN (CodD.funs c)) ∧ (∀ (i : Nat), i < LN (CodD.funs c) → SM [ZI (FnD.slots (GF c i)), S4 (FnD.code (GF c i))]) ∧ True) ∧ (SM (LN (CodD.kers c)) ∧ (∀ (i : Nat), i < LN (CodD.kers
      c) → SM [ZI (KeD.inputs (GK c i)), S4 (KeD.ops (GK c i)), ZI (KeD.reduce (GK c i)), ZI (KeD.at_ (GK c i))]) ∧ True) ∧ (SM (LN (CodD.lanes c)) ∧ (∀ (i : Nat), i < LN (CodD.lanes c) → SM [ZI (LaD.regs (GL c i)), S6
      (LaD.code (GL c i))]) ∧ True) ∧ True) ∧ True) ∧ x_7.2.1 = y.2.1 ∧ True))) (True ∧ ∃ (y : Nat × List UInt8), y.2 = l ++ codeB c ∧ True ∧ (SM x ∧ ((LN x_5.2.2 = LN y.2 ∧ (∀ (i : Nat), i < LN x_5.2.2 → [ZB (BI x_5.2.2
      i)] = [ZB (BI y.2 i)]) ∧ x_5.2.1 = y.1) ∧ True) ∧ True) ∧ x_5.2.1 = y.1 ∧ True))))) (by kernel_rfl) ?_
  delta BI D4 D6 DA DF DK DL G4 G6 GA GC GF GI GK GL LI LN N0 N1 N2 N4 N6 NI R4 R6 S4 S6 SI SM TN U0 Z0 Z1 ZB ZI
  have da : (default : Arr) = Arr.mk 0 [] [] [] := rfl
  have dF : (default : FnD) = ⟨0, []⟩ := rfl
  have dK : (default : KeD) = ⟨0, [], 0, 0⟩ := rfl
  have dL : (default : LaD) = ⟨0, []⟩ := rfl
  have d4 : (default : I4) = ⟨0, 0, 0, 0⟩ := rfl
  have d6 : (default : I6) = ⟨0, 0, 0, 0, 0, 0⟩ := rfl
  simp only [← da, ← dF, ← dK, ← dL, ← d4, ← d6, eq_self, implies_true, Int.toNat_natCast, ifB_iff, side_iff, decide_eq_true_eq, decide_eq_false_iff_not, true_and, and_true, exists_const, forall_const, Prod.forall, forall_eq, bytesOf_bsl, rowsB_bsl, rowInt, natOf]
  have hT : (l ++ codeB c).length ≤ 35184372088832 := by rw [List.length_append]; exact hl
  obtain ⟨k1, k2, k3, k4, m1, m2, m3, m4⟩ := hc
  intro xb _
  refine ⟨fit_T [(c.consts.length : Int)] (R := codeB c) rfl hT (all1 (len_i64 m1)) (by simp), fun t0 => ⟨loop_init (fun i => arrBL (c.consts.drop i) ++ tl2 c) (by simp only [List.drop_zero, List.append_assoc, codeB]), ?_⟩⟩
  rintro i t b ⟨hi, hb⟩
  refine ⟨fun hlt => ⟨⟨by omega, hlt⟩, fun _ _ => ?_⟩, fun hge => ?_⟩
  · have hlt' : i < c.consts.length := by omega
    have hbl : b.length ≤ 35184372088832 := by
      have := congrArg List.length hb
      rw [List.length_append] at this
      omega
    have hs' := hs _ (mem_getD hlt')
    have e : (b ++ arrB (c.consts.getD i default)) ++ (arrBL (c.consts.drop (i + 1)) ++ tl2 c) = l ++ codeB c := by
      rw [← hb, drop_step hlt', arrBL]; simp only [List.append_assoc]
    obtain ⟨y, q1, q2, q3, q4, q5⟩ := loop_next (t := 0) (fun i => arrBL (c.consts.drop i) ++ tl2 c) hlt' m1 e
    refine ⟨(x, t, b, c.consts.getD i default), ⟨rfl, rfl, ⟨rfl, fun _ _ => rfl⟩, ⟨rfl, fun _ _ => rfl⟩, rfl, fun _ _ => rfl⟩, ⟨⟨rfl, rfl, fun _ _ => rfl, rfl⟩, rfl⟩, ⟨mem_getD hlt', by simp only; omega⟩, fun t' => ?_⟩
    exact ⟨(y.1, t', y.2.2), q1, q2, q3, ⟨rfl, q4.1, q4.2.1, rfl⟩, rfl⟩
  have hi' : i = c.consts.length := by omega
  rw [hi', List.drop_length, arrBL, List.nil_append] at hb
  refine ⟨fit_U [(c.funs.length : Int)] hb hT (all1 (len_i64 m2)) (by simp), fun t0 => ⟨loop_init (fun i => (c.funs.drop i).flatMap funB ++ tl3 c) (by rw [← hb]; simp only [List.drop_zero, List.append_assoc, tl2]), ?_⟩⟩
  clear hb hge hi hi' i t b t0
  rintro i t b ⟨hi, hb⟩
  refine ⟨fun hlt => ⟨⟨by omega, hlt⟩, fun _ _ => ?_⟩, fun hge => ?_⟩
  · have hlt' : i < c.funs.length := by omega
    have kf := k2 _ (mem_getD hlt')
    rw [drop_step hlt', List.flatMap_cons, funB] at hb
    refine ⟨fit_U [(c.funs.getD i default).slots, ((c.funs.getD i default).code.length : Int)] hb hT (all2 kf.1 (len_i64 kf.2.2)) (by simp), fun t0 => ⟨loop_init (fun j => ((c.funs.getD i default).code.drop j).flatMap i4B ++ ((c.funs.drop (i + 1)).flatMap funB ++ tl3 c)) (by rw [← hb]; simp only [List.drop_zero, List.append_assoc]), ?_⟩⟩
    clear hb t b
    rintro j t b ⟨hj, hb⟩
    refine ⟨fun hjl => ⟨⟨by omega, hjl⟩, fun _ _ => ?_⟩, fun hjg => ?_⟩
    · have hj' : j < (c.funs.getD i default).code.length := by omega
      rw [drop_step hj', List.flatMap_cons, i4B] at hb
      exact ⟨fit_U [((c.funs.getD i default).code.getD j default).a, ((c.funs.getD i default).code.getD j default).b, ((c.funs.getD i default).code.getD j default).c, ((c.funs.getD i default).code.getD j default).d] hb hT (all4 (kf.2.1 _ (mem_getD hj'))) (by simp), fun t1 => loop_next (fun j => ((c.funs.getD i default).code.drop j).flatMap i4B ++ ((c.funs.drop (i + 1)).flatMap funB ++ tl3 c)) hj' kf.2.2 (by rw [← hb]; simp only [List.append_assoc])⟩
    · have hj' : j = (c.funs.getD i default).code.length := by omega
      rw [hj', List.drop_length, List.flatMap_nil, List.nil_append] at hb
      exact loop_next (fun i => (c.funs.drop i).flatMap funB ++ tl3 c) hlt' m2 hb
  have hi' : i = c.funs.length := by omega
  rw [hi', List.drop_length, List.flatMap_nil, List.nil_append] at hb
  refine ⟨fit_U [(c.kers.length : Int)] hb hT (all1 (len_i64 m3)) (by simp), fun t0 => ⟨loop_init (fun i => (c.kers.drop i).flatMap kerY ++ tl4 c) (by rw [← hb]; simp only [List.drop_zero, List.append_assoc, tl3]), ?_⟩⟩
  clear hb hge hi hi' i t b t0
  rintro i t b ⟨hi, hb⟩
  refine ⟨fun hlt => ⟨⟨by omega, hlt⟩, fun _ _ => ?_⟩, fun hge => ?_⟩
  · have hlt' : i < c.kers.length := by omega
    have kf := k3 _ (mem_getD hlt')
    rw [drop_step hlt', List.flatMap_cons, kerY] at hb
    refine ⟨fit_U [(c.kers.getD i default).inputs, ((c.kers.getD i default).ops.length : Int)] hb hT (all2 kf.1 (len_i64 kf.2.2.1)) (by simp), fun t0 => ⟨loop_init (fun j => ((c.kers.getD i default).ops.drop j).flatMap i4B ++ (numsB [(c.kers.getD i default).reduce, (c.kers.getD i default).at_] ++ ((c.kers.drop (i + 1)).flatMap kerY ++ tl4 c))) (by rw [← hb]; simp only [List.drop_zero, List.append_assoc]), ?_⟩⟩
    clear hb t b
    rintro j t b ⟨hj, hb⟩
    refine ⟨fun hjl => ⟨⟨by omega, hjl⟩, fun _ _ => ?_⟩, fun hjg => ?_⟩
    · have hj' : j < (c.kers.getD i default).ops.length := by omega
      rw [drop_step hj', List.flatMap_cons, i4B] at hb
      exact ⟨fit_U [((c.kers.getD i default).ops.getD j default).a, ((c.kers.getD i default).ops.getD j default).b, ((c.kers.getD i default).ops.getD j default).c, ((c.kers.getD i default).ops.getD j default).d] hb hT (all4 (kf.2.1 _ (mem_getD hj'))) (by simp), fun t1 => loop_next (fun j => ((c.kers.getD i default).ops.drop j).flatMap i4B ++ (numsB [(c.kers.getD i default).reduce, (c.kers.getD i default).at_] ++ ((c.kers.drop (i + 1)).flatMap kerY ++ tl4 c))) hj' kf.2.2.1 (by rw [← hb]; simp only [List.append_assoc])⟩
    · have hj' : j = (c.kers.getD i default).ops.length := by omega
      rw [hj', List.drop_length, List.flatMap_nil, List.nil_append] at hb
      exact ⟨fit_U [(c.kers.getD i default).reduce, (c.kers.getD i default).at_] hb hT (all2 kf.2.2.2.1 kf.2.2.2.2) (by simp), fun t1 => loop_next (fun i => (c.kers.drop i).flatMap kerY ++ tl4 c) hlt' m3 (by rw [← hb]; simp only [List.append_assoc])⟩
  have hi' : i = c.kers.length := by omega
  rw [hi', List.drop_length, List.flatMap_nil, List.nil_append] at hb
  refine ⟨fit_U [(c.lanes.length : Int)] hb hT (all1 (len_i64 m4)) (by simp), fun t0 => ⟨loop_init (fun i => (c.lanes.drop i).flatMap lanB) (by rw [← hb]; simp only [List.drop_zero, List.append_assoc, tl4]), ?_⟩⟩
  clear hb hge hi hi' i t b t0
  rintro i t b ⟨hi, hb⟩
  refine ⟨fun hlt => ⟨⟨by omega, hlt⟩, fun _ _ => ?_⟩, fun hge => ?_⟩
  · have hlt' : i < c.lanes.length := by omega
    have kf := k4 _ (mem_getD hlt')
    rw [drop_step hlt', List.flatMap_cons, lanB] at hb
    refine ⟨fit_U [(c.lanes.getD i default).regs, ((c.lanes.getD i default).code.length : Int)] hb hT (all2 kf.1 (len_i64 kf.2.2)) (by simp), fun t0 => ⟨loop_init (fun j => ((c.lanes.getD i default).code.drop j).flatMap i6B ++ ((c.lanes.drop (i + 1)).flatMap lanB)) (by rw [← hb]; simp only [List.drop_zero, List.append_assoc]), ?_⟩⟩
    clear hb t b
    rintro j t b ⟨hj, hb⟩
    refine ⟨fun hjl => ⟨⟨by omega, hjl⟩, fun _ _ => ?_⟩, fun hjg => ?_⟩
    · have hj' : j < (c.lanes.getD i default).code.length := by omega
      rw [drop_step hj', List.flatMap_cons, i6B] at hb
      exact ⟨fit_U [((c.lanes.getD i default).code.getD j default).a, ((c.lanes.getD i default).code.getD j default).b, ((c.lanes.getD i default).code.getD j default).c, ((c.lanes.getD i default).code.getD j default).d, ((c.lanes.getD i default).code.getD j default).e, ((c.lanes.getD i default).code.getD j default).f] hb hT (all6 (kf.2.1 _ (mem_getD hj'))) (by simp), fun t1 => loop_next (fun j => ((c.lanes.getD i default).code.drop j).flatMap i6B ++ ((c.lanes.drop (i + 1)).flatMap lanB)) hj' kf.2.2 (by rw [← hb]; simp only [List.append_assoc])⟩
    · have hj' : j = (c.lanes.getD i default).code.length := by omega
      rw [hj', List.drop_length, List.flatMap_nil, List.nil_append] at hb
      exact loop_next (fun i => (c.lanes.drop i).flatMap lanB) hlt' m4 hb
  have hi' : i = c.lanes.length := by omega
  rw [hi', List.drop_length, List.flatMap_nil, List.append_nil] at hb
  exact ⟨(t, b), hb, ⟨rfl, fun _ _ => rfl, rfl⟩, rfl⟩
end Go.Proofs.Ytoglbmhkfkghbaa
namespace Go.Proofs.Ytoglbmhkfkghbaa
open Go Go.Ab

/-! ### checksums -/
def bit1 (c : Nat) : Nat := match c % 2 with
  | 0 => c / 2
  | _ => (c / 2) ^^^ 3988292384
def bits (k c : Nat) : Nat := match k with
  | 0 => c
  | k + 1 => bit1 (bits k c)
def crc (l : List UInt8) (c : Nat) : Nat := match l with
  | [] => c
  | b :: r => crc r (bits 8 (c ^^^ b.toNat))
def sumN (l : List UInt8) : Nat := crc l 4294967295 ^^^ 4294967295

theorem bit1_lt {c : Nat} (h : c < 4294967296) : bit1 c < 4294967296 := by
  unfold bit1
  split
  · omega
  · exact Nat.xor_lt_two_pow (n := 32) (by omega) (by omega)
theorem bits_lt {c : Nat} (h : c < 4294967296) : ∀ k, bits k c < 4294967296
  | 0 => h
  | k + 1 => bit1_lt (bits_lt h k)
theorem byte_xor {c : Nat} (h : c < 4294967296) (b : UInt8) : c ^^^ b.toNat < 4294967296 := Nat.xor_lt_two_pow (n := 32) (by omega) (by have := b.toNat_lt; omega)
theorem crc_lt : ∀ (l : List UInt8) {c : Nat}, c < 4294967296 → crc l c < 4294967296
  | [], _, h => h
  | b :: l, _, h => crc_lt l (bits_lt (byte_xor h b) 8)
theorem crc_app : ∀ (l r : List UInt8) (c : Nat), crc (l ++ r) c = crc r (crc l c)
  | [], _, _ => rfl
  | b :: l, r, c => crc_app l r _
theorem crc_take (l : List UInt8) {x : Nat} (h : x < l.length) (c : Nat) : crc (l.take (x + 1)) c = bits 8 (crc (l.take x) c ^^^ (l.getD x 0).toNat) := by
  rw [List.take_add_one, crc_app, List.getD_eq_getElem?_getD, List.getElem?_eq_getElem h]; rfl
theorem xor32 {a b : Nat} (ha : a < 4294967296) (hb : b < 4294967296) : xorI .u32 a b = ((a ^^^ b : Nat) : Int) := xorI_nat rfl ha hb
theorem and32 {a b : Nat} (ha : a < 4294967296) (hb : b < 4294967296) : andI .u32 a b = ((a &&& b : Nat) : Int) := andI_nat rfl ha hb
theorem not32 {a : Nat} (ha : a < 4294967296) : notI .u32 a = ((a ^^^ 4294967295 : Nat) : Int) := notI_nat rfl ha
theorem wrapB (b : UInt8) : IntKind.u32.wrap (b.toNat : Int) = (b.toNat : Int) := wrap_uns rfl (by have := b.toNat_lt; simp [IntKind.bits]; omega)
theorem low_bit {c : Nat} (h : c < 4294967296) : (andI .u32 (c : Int) 1 == 1) = decide (c % 2 = 1) := by
  have := and32 h (b := 1) (by omega)
  simp only [Int.ofNat_one] at this
  rw [this, Nat.and_one_is_mod]
  by_cases e : c % 2 = 1
  · simp [e]
  · have : c % 2 = 0 := by omega
    simp [this]
theorem half (c : Nat) : Int.fdiv (c : Int) 2 = ((c / 2 : Nat) : Int) := fdiv_nat c 2
theorem bit_1 {c : Nat} (h : c < 4294967296) (e : c % 2 = 1) : xorI .u32 (Int.fdiv (c : Int) 2) 3988292384 = ((bit1 c : Nat) : Int) := by
  rw [half]
  have := xor32 (a := c / 2) (b := 3988292384) (by omega) (by omega)
  rw [show ((3988292384 : Nat) : Int) = 3988292384 from rfl] at this
  rw [this]
  unfold bit1; rw [e]; rfl
theorem bit_0 {c : Nat} (e : c % 2 = 0) : Int.fdiv (c : Int) 2 = ((bit1 c : Nat) : Int) := by
  rw [half]; unfold bit1; rw [e]; rfl
theorem sum_law (l : List UInt8) : notI .u32 ((crc (l.take l.length) 4294967295 : Nat) : Int) = ((sumN l : Nat) : Int) := by
  rw [List.take_length, not32 (crc_lt l (by omega))]; rfl

def sSum : FnSpec where
  β := List UInt8 × Ab.Mode
  α := Unit
  args := fun x => [.sl 1 x.1.length (fun i => [.int .u8 ((x.1.getD i 0).toNat : Int)]) x.2]
  st := fun _ => ⟨[], []⟩
  pre := fun x => x.1.length ≤ 9223372036854775807
  post := fun _ _ => True
  res := fun x _ => .ret (.int .u32 (sumN x.1 : Int))
  out := fun _ _ => ⟨[], []⟩

def inner (l : List UInt8) (d : D) (s1 s2 : Nat) (keep : List Nat) : Option LoopAnn :=
  match d with
  | .int _ z => some { slots := [s1, s2], keep := keep, α := Nat, st := fun k => ([.int .u32 (bits k (crc (l.take z.toNat) 4294967295 ^^^ (l.getD z.toNat 0).toNat) : Int), .int .i64 k], ⟨[], []⟩), inv := fun k => k ≤ 8, mu := fun k => 8 - k }
  | _ => none
noncomputable def E10 (l : List UInt8) : Senv := { EC con0 31 1 [2, 3, 5, 6, 7, 8, 9, 10, 17, 18, 24] (fun _ => ([], [])) with
  ann := fun b env _ => match b with
    | 0 => some { slots := [3, 9], keep := [7, 8], α := Nat, st := fun i => ([.int .u32 (crc (l.take i) 4294967295 : Int), .int .i64 i], ⟨[], []⟩), inv := fun i => i ≤ l.length, mu := fun i => l.length - i }
    | 2 => inner l (Ab.look env 9) 3 17 [7, 8, 9]
    | _ => none }
theorem sum_ok (l : List UInt8) (m : Ab.Mode) (hl : l.length ≤ 9223372036854775807) : ACalls Try.prog 10 (sSum.args (l, m)) (sSum.st (l, m)) (SpecR sSum (l, m)) := by
  refine con_of (A := sSum) (x := (l, m)) (E := E10 l) (eOk con0_ok rfl) Try.func10 rfl (by kernel_rfl) rfl (by simp [sSum, E10, EC, E0]) ?_
  refine vc_eq (T :=
      (∃ (x : Nat), x ≤ LN l ∧ ((4294967295 : Int) = (NI (crc (List.take x l) (4294967295 : Nat))) ∧ Z0 = (↑x : Int) ∧ True) ∧ True ∧ True) ∧ ∀ (x : Nat), x ≤ LN l → ifB (decide ((↑x : Int) < (LI l))) (side (Z0 ≤ (↑x :
      Int) ∧ (↑x : Int) < (LI l)) ((∃ (x_1 : Nat), x_1 ≤ (8 : Nat) ∧ (xorI IntKind.u32 (NI (crc (List.take x l) (4294967295 : Nat))) (IntKind.wrap IntKind.u32 (BI l (Int.toNat (↑x : Int)))) = (NI (bits x_1 (crc
      (List.take (Int.toNat (↑x : Int)) l) (4294967295 : Nat) ^^^ UInt8.toNat (List.getD l (Int.toNat (↑x : Int)) U0)))) ∧ Z0 = (↑x_1 : Int) ∧ True) ∧ True ∧ True) ∧ ∀ (x_1 : Nat), x_1 ≤ (8 : Nat) → ifB (decide ((↑x_1 :
      Int) < (8 : Int))) (ifB (andI IntKind.u32 (NI (bits x_1 (crc (List.take (Int.toNat (↑x : Int)) l) (4294967295 : Nat) ^^^ UInt8.toNat (List.getD l (Int.toNat (↑x : Int)) U0)))) Z1 == Z1) ((SM (D.sl N1 (LN l) (fun (i
      : Nat) => [ZB (BI l i)]) m) ∧ SM (ZI (LI l)) ∧ SM (ZI (↑x : Int)) ∧ True) ∧ ∃ (y : Nat), y ≤ (8 : Nat) ∧ (8 : Nat) - y < (8 : Nat) - x_1 ∧ (xorI IntKind.u32 (Int.fdiv (NI (bits x_1 (crc (List.take (Int.toNat (↑x :
      Int)) l) (4294967295 : Nat) ^^^ UInt8.toNat (List.getD l (Int.toNat (↑x : Int)) U0)))) (2 : Int)) (3988292384 : Int) = (NI (bits y (crc (List.take (Int.toNat (↑x : Int)) l) (4294967295 : Nat) ^^^ UInt8.toNat
      (List.getD l (Int.toNat (↑x : Int)) U0)))) ∧ IntKind.wrap IntKind.i64 ((↑x_1 : Int) + Z1) = (↑y : Int) ∧ True) ∧ True ∧ True) ((SM (D.sl N1 (LN l) (fun (i : Nat) => [ZB (BI l i)]) m) ∧ SM (ZI (LI l)) ∧ SM (ZI (↑x :
      Int)) ∧ True) ∧ ∃ (y : Nat), y ≤ (8 : Nat) ∧ (8 : Nat) - y < (8 : Nat) - x_1 ∧ (Int.fdiv (NI (bits x_1 (crc (List.take (Int.toNat (↑x : Int)) l) (4294967295 : Nat) ^^^ UInt8.toNat (List.getD l (Int.toNat (↑x :
      Int)) U0)))) (2 : Int) = (NI (bits y (crc (List.take (Int.toNat (↑x : Int)) l) (4294967295 : Nat) ^^^ UInt8.toNat (List.getD l (Int.toNat (↑x : Int)) U0)))) ∧ IntKind.wrap IntKind.i64 ((↑x_1 : Int) + Z1) = (↑y :
      Int) ∧ True) ∧ True ∧ True)) ((SM (D.sl N1 (LN l) (fun (i : Nat) => [ZB (BI l i)]) m) ∧ SM (ZI (LI l)) ∧ True) ∧ ∃ (y : Nat), y ≤ LN l ∧ LN l - y < LN l - x ∧ ((NI (bits x_1 (crc (List.take (Int.toNat (↑x : Int))
      l) (4294967295 : Nat) ^^^ UInt8.toNat (List.getD l (Int.toNat (↑x : Int)) U0)))) = (NI (crc (List.take y l) (4294967295 : Nat))) ∧ IntKind.wrap IntKind.i64 ((↑x : Int) + Z1) = (↑y : Int) ∧ True) ∧ True ∧ True)))
      (True ∧ ∃ (y : Unit), True ∧ notI IntKind.u32 (NI (crc (List.take x l) (4294967295 : Nat))) = (NI (sumN l)) ∧ True ∧ True)) (by kernel_rfl) ?_
  delta BI LI LN N1 NI SM U0 Z0 Z1 ZB ZI
  have hc := fun x => crc_lt (l.take x) (c := 4294967295) (by omega)
  refine ⟨⟨0, Nat.zero_le _, ⟨rfl, rfl, trivial⟩, trivial, trivial⟩, fun x hx => ?_⟩
  simp only [ifB_iff, side_iff, decide_eq_true_eq, decide_eq_false_iff_not, Int.toNat_natCast, true_and, and_true]
  refine ⟨fun h => ?_, fun h => ⟨(), ?_⟩⟩
  · have hlt : x < l.length := by omega
    have hb := byte_xor (hc x) (l.getD x 0)
    refine ⟨⟨by omega, h⟩, ?_⟩
    refine ⟨⟨0, by omega, ?_, rfl⟩, fun k hk => ?_⟩
    · rw [wrapB, xor32 (hc x) (by have := (l.getD x 0).toNat_lt; omega)]; rfl
    · have hbk := bits_lt hb k
      simp only [low_bit hbk, decide_eq_true_eq, decide_eq_false_iff_not]
      refine ⟨fun h8 => ⟨fun h1 => ⟨k + 1, by omega, by omega, bit_1 hbk h1, ?_⟩, fun h1 => ⟨k + 1, by omega, by omega, bit_0 (by omega), ?_⟩⟩, fun h8 => ⟨x + 1, by omega, by omega, ?_, ?_⟩⟩
      · exact wrap_i64' (by omega) (by omega)
      · exact wrap_i64' (by omega) (by omega)
      · have : k = 8 := by omega
        subst this
        rw [crc_take l hlt]
      · exact wrap_i64' (by omega) (by omega)
  · have : x = l.length := by omega
    subst this
    exact sum_law l
noncomputable def E11 (l : List UInt8) : Senv := { EC con0 34 1 [2, 3, 4, 5, 6, 10, 21, 29] (fun _ => ([], [])) with
  ann := fun b env _ => match b with
    | 0 => some { slots := [3, 4], keep := [0], α := Nat, st := fun i => ([.int .u32 (crc (l.take i) 4294967295 : Int), .int .i64 i], ⟨[], []⟩), inv := fun i => i ≤ l.length, mu := fun i => l.length - i }
    | 2 => inner l (Ab.look env 4) 3 5 [0, 4]
    | _ => none }
theorem rsum_ok (l : List UInt8) (m : Ab.Mode) (hl : l.length ≤ 9223372036854775807) : ACalls Try.prog 11 (sSum.args (l, m)) (sSum.st (l, m)) (SpecR sSum (l, m)) := by
  refine con_of (A := sSum) (x := (l, m)) (E := E11 l) (eOk con0_ok rfl) Try.func11 rfl (by kernel_rfl) rfl (by simp [sSum, E11, EC, E0]) ?_
  refine vc_eq (T :=
      (∃ (x : Nat), x ≤ LN l ∧ ((4294967295 : Int) = (NI (crc (List.take x l) (4294967295 : Nat))) ∧ Z0 = (↑x : Int) ∧ True) ∧ True ∧ True) ∧ ∀ (x : Nat), x ≤ LN l → ifB (decide ((↑x : Int) < (LI l))) (side (Z0 ≤ (↑x :
      Int) ∧ (↑x : Int) < (LI l)) ((∃ (x_1 : Nat), x_1 ≤ (8 : Nat) ∧ (xorI IntKind.u32 (NI (crc (List.take x l) (4294967295 : Nat))) (IntKind.wrap IntKind.u32 (BI l (Int.toNat (↑x : Int)))) = (NI (bits x_1 (crc
      (List.take (Int.toNat (↑x : Int)) l) (4294967295 : Nat) ^^^ UInt8.toNat (List.getD l (Int.toNat (↑x : Int)) U0)))) ∧ Z0 = (↑x_1 : Int) ∧ True) ∧ True ∧ True) ∧ ∀ (x_1 : Nat), x_1 ≤ (8 : Nat) → ifB (decide ((↑x_1 :
      Int) < (8 : Int))) (ifB (andI IntKind.u32 (NI (bits x_1 (crc (List.take (Int.toNat (↑x : Int)) l) (4294967295 : Nat) ^^^ UInt8.toNat (List.getD l (Int.toNat (↑x : Int)) U0)))) Z1 == Z1) ((SM (D.sl N1 (LN l) (fun (i
      : Nat) => [ZB (BI l i)]) m) ∧ SM (ZI (↑x : Int)) ∧ True) ∧ ∃ (y : Nat), y ≤ (8 : Nat) ∧ (8 : Nat) - y < (8 : Nat) - x_1 ∧ (xorI IntKind.u32 (Int.fdiv (NI (bits x_1 (crc (List.take (Int.toNat (↑x : Int)) l)
      (4294967295 : Nat) ^^^ UInt8.toNat (List.getD l (Int.toNat (↑x : Int)) U0)))) (2 : Int)) (3988292384 : Int) = (NI (bits y (crc (List.take (Int.toNat (↑x : Int)) l) (4294967295 : Nat) ^^^ UInt8.toNat (List.getD l
      (Int.toNat (↑x : Int)) U0)))) ∧ IntKind.wrap IntKind.i64 ((↑x_1 : Int) + Z1) = (↑y : Int) ∧ True) ∧ True ∧ True) ((SM (D.sl N1 (LN l) (fun (i : Nat) => [ZB (BI l i)]) m) ∧ SM (ZI (↑x : Int)) ∧ True) ∧ ∃ (y : Nat),
      y ≤ (8 : Nat) ∧ (8 : Nat) - y < (8 : Nat) - x_1 ∧ (Int.fdiv (NI (bits x_1 (crc (List.take (Int.toNat (↑x : Int)) l) (4294967295 : Nat) ^^^ UInt8.toNat (List.getD l (Int.toNat (↑x : Int)) U0)))) (2 : Int) = (NI
      (bits y (crc (List.take (Int.toNat (↑x : Int)) l) (4294967295 : Nat) ^^^ UInt8.toNat (List.getD l (Int.toNat (↑x : Int)) U0)))) ∧ IntKind.wrap IntKind.i64 ((↑x_1 : Int) + Z1) = (↑y : Int) ∧ True) ∧ True ∧ True))
      ((SM (D.sl N1 (LN l) (fun (i : Nat) => [ZB (BI l i)]) m) ∧ True) ∧ ∃ (y : Nat), y ≤ LN l ∧ LN l - y < LN l - x ∧ ((NI (bits x_1 (crc (List.take (Int.toNat (↑x : Int)) l) (4294967295 : Nat) ^^^ UInt8.toNat
      (List.getD l (Int.toNat (↑x : Int)) U0)))) = (NI (crc (List.take y l) (4294967295 : Nat))) ∧ IntKind.wrap IntKind.i64 ((↑x : Int) + Z1) = (↑y : Int) ∧ True) ∧ True ∧ True))) (True ∧ ∃ (y : Unit), True ∧ xorI
      IntKind.u32 (NI (crc (List.take x l) (4294967295 : Nat))) (4294967295 : Int) = (NI (sumN l)) ∧ True ∧ True)) (by kernel_rfl) ?_
  delta BI LI LN N1 NI SM U0 Z0 Z1 ZB ZI
  have hc := fun x => crc_lt (l.take x) (c := 4294967295) (by omega)
  refine ⟨⟨0, Nat.zero_le _, ⟨rfl, rfl, trivial⟩, trivial, trivial⟩, fun x hx => ?_⟩
  simp only [ifB_iff, side_iff, decide_eq_true_eq, decide_eq_false_iff_not, Int.toNat_natCast, true_and, and_true]
  refine ⟨fun h => ?_, fun h => ⟨(), ?_⟩⟩
  · have hlt : x < l.length := by omega
    have hb := byte_xor (hc x) (l.getD x 0)
    refine ⟨⟨by omega, h⟩, ?_⟩
    refine ⟨⟨0, by omega, ?_, rfl⟩, fun k hk => ?_⟩
    · rw [wrapB, xor32 (hc x) (by have := (l.getD x 0).toNat_lt; omega)]; rfl
    · have hbk := bits_lt hb k
      simp only [low_bit hbk, decide_eq_true_eq, decide_eq_false_iff_not]
      refine ⟨fun h8 => ⟨fun h1 => ⟨k + 1, by omega, by omega, bit_1 hbk h1, ?_⟩, fun h1 => ⟨k + 1, by omega, by omega, bit_0 (by omega), ?_⟩⟩, fun h8 => ⟨x + 1, by omega, by omega, ?_, ?_⟩⟩
      · exact wrap_i64' (by omega) (by omega)
      · exact wrap_i64' (by omega) (by omega)
      · have : k = 8 := by omega
        subst this
        rw [crc_take l hlt]
      · exact wrap_i64' (by omega) (by omega)
  · have : x = l.length := by omega
    subst this
    rw [← sum_law l, not32 (hc _)]
    exact xor32 (b := 4294967295) (hc _) (by omega)
end Go.Proofs.Ytoglbmhkfkghbaa
