/- Functions of the given program and what each of them computes: lemmas towards the statement, their conditions stated with each of them. -/
import Derived.Test.YtpgepjefbhgblaaDoorR3
namespace Go.Proofs.YtpgepjefbhgblaaDoor
open Go Go.Ab
set_option maxRecDepth 100000
theorem join_lens (sep : List UInt8) {l m : List (List UInt8)} (h : l.map List.length = m.map List.length) : (Lib.join l sep).length = (Lib.join m sep).length := by
  have hs : ∀ {l m : List (List UInt8)}, l.map List.length = m.map List.length → sumL l = sumL m := fun {l} => by
    induction l with
    | nil => intro m h; cases m with
      | nil => rfl
      | cons y m => simp at h
    | cons x l ih => intro m h; cases m with
      | nil => simp at h
      | cons y m =>
        simp only [List.map_cons, List.cons.injEq] at h
        simp only [sumL, h.1, ih h.2]
  cases l with
  | nil => cases m with
    | nil => rfl
    | cons y m => simp at h
  | cons x l => cases m with
    | nil => simp at h
    | cons y m =>
      simp only [List.map_cons, List.cons.injEq] at h
      have hl : l.length = m.length := by have := congrArg List.length h.2; simpa using this
      rw [join_cons, join_cons, List.length_append, List.length_append, jT_sum, jT_sum, h.1, hl, hs h.2]
theorem lineK_same {a : Arr} (lo : LOk a) {at0 rows cols : Nat} (hs : at0 + rows * cols ≤ a.nu.length + a.it.length) {r q : Nat} (hr : r < rows) (hq : q < rows) : (lineK a at0 rows cols r).length = (lineK a at0 rows cols q).length := by
  have key : ∀ {r : Nat}, r < rows → (rowK a at0 rows cols r).map List.length = (List.range cols).map (wdS (lenK a at0) cols (rows * cols)) := fun {r} hr => by
    unfold rowK
    rw [List.map_map]
    refine List.map_congr_left fun j hj => ?_
    exact padK_len (wd_ok lo hs hr (List.mem_range.1 hj)).1
  exact join_lens _ ((key hr).trans (key hq).symm)
theorem rows_two {a : Arr} (lo : LOk a) (hv : (chkA a).1 = 0) (h2 : a.sh.length = 2) (h1 : a.sh.getD 1 0 ≠ 0) : ((linesK a).length : Int) = a.sh.getD 0 0 ∧ ∀ i, i < (linesK a).length → ((linesK a).getD i []).length = ((linesK a).getD 0 []).length := by
  obtain ⟨hr, hs, hp⟩ := shape_ok hv
  have hm0 := hp _ (memI (l := a.sh) (i := 0) (by omega))
  have hm1 := hp _ (memI (l := a.sh) (i := 1) (by omega))
  by_cases hz : sizeS a.sh = 0
  · have hl : linesK a = [] := by rw [linesK, if_neg (fun h => h hv), if_neg (by omega), if_neg (by omega), if_pos hz]
    have he : a.sh = [a.sh.getD 0 0, a.sh.getD 1 0] := by
      match h : a.sh, h2 with
      | [x, y], _ => rfl
    have h0 : a.sh.getD 0 0 = 0 := by
      rw [he] at hz hr
      generalize a.sh.getD 0 0 = d at *
      generalize a.sh.getD 1 0 = e at *
      by_cases hd : d = 0
      · exact hd
      · exfalso
        have hd1 : ∀ x ∈ [d, e], 1 ≤ x := by
          intro x hx
          simp only [List.mem_cons, List.not_mem_nil, or_false] at hx
          omega
        simp only [rightS, Bool.and_eq_true] at hr
        cases hg : goO [d, e] 1 with
        | none => rw [hg] at hr; exact absurd hr.2 (by simp)
        | some q =>
          have hq := goO_some hd1 hg
          have hpos := prodN_pos hd1
          rw [sizeS, not_zero hd1, hg] at hz
          have hz : q = 0 := hz
          omega
    rw [hl]
    exact ⟨by simp only [List.length_nil]; omega, fun i hi => absurd hi (by simp)⟩
  · have fu := full_ok lo hv hz
    have hk : linesK a = matK a 0 (rwK a) (clK a) := by
      have := axD_end a
      rw [h2] at this
      rw [linesK, if_neg (fun h => h hv), if_neg (by omega), if_neg (by omega), if_neg hz, this]; rfl
    have hP := prod_two a (by omega)
    rw [h2] at hP
    have hP : prodN a.sh = rwK a * clK a := hP
    have hpr := fu.prod
    rw [hk, matK_len]
    refine ⟨by unfold rwK; rw [h2]; show ((a.sh.getD 0 0).toNat : Int) = _; omega, fun i hi => ?_⟩
    rw [matK_get _ _ _ _ hi, matK_get _ _ _ _ (by omega)]
    exact lineK_same lo (by omega) hi (by omega)
noncomputable def Elw3 (a : Arr) : Senv := { EC (conLw [a]) 67 6 [26, 36, 40, 52] (fun id => match id with | 10 => ([0, 1, 2, 3, 4, 5, 6, 7, 8, 9], []) | _ => ([], [])) with
  ann := fun b _ S => match b with
    | 0 => some { slots := [5, 4], keep := [1, 3], α := Nat, st := fun i => ([.int .i64 i, .str (showL ((linesK a).take i))], S), inv := fun i => i ≤ (linesK a).length, mu := fun i => (linesK a).length - i }
    | _ => none }
noncomputable section
def lw2q0 (p0 : Arr) : Int := Arr.k p0
def lw2q1 (p0 : Arr) : List Int := Arr.sh p0
def lw2q2 (p0 : Arr) : Nat := LN (lw2q1 p0)
def lw2q3 (p0 : Arr) (p1 : Nat) : List D := [ZI (GI (lw2q1 p0) p1)]
def lw2q4 (p0 : Arr) : Nat := LN (Arr.nu p0)
def lw2q5 (p0 : Arr) (p1 : Nat) : List D := [ZI (GI (Arr.nu p0) p1)]
def lw2q6 (p0 : Arr) : Nat := LN (Arr.it p0)
def lw2q7 (p0 : Arr) (p1 : Nat) : List D := Arr.row (GA (Arr.it p0) p1)
def lw2q8 (p0 p1 : Arr) : Prop := (lw2q0 p0 = lw2q0 p1 ∧ (lw2q2 p0 = lw2q2 p1 ∧ (∀ (i : Nat), i < lw2q2 p0 → lw2q3 p0 i = lw2q3 p1 i) ∧ True) ∧ (lw2q4 p0 = lw2q4 p1 ∧ (∀ (i : Nat), i < lw2q4 p0 → lw2q5 p0 i = lw2q5 p1 i) ∧ True) ∧ (lw2q6 p0 = lw2q6 p1 ∧ (∀ (i : Nat), i < lw2q6 p0 → lw2q7 p0 i = lw2q7 p1 i) ∧ True) ∧ True) ∧ True
def lw2q9 (p0 p1 : Arr) : Prop := isA [p0] p1
def lw2q10 : Prop := ∃ (_x : Unit), True ∧ (True ∧ True) ∧ True ∧ ∀ (_y : Unit), True → True ∧ ∃ (_y : Unit), True ∧ SM true ∧ True ∧ True
def lw2q11 (p0 : Arr) : Int := (NI (lw2q2 p0))
def lw2q12 (p0 : Arr) : List (List UInt8) := linesK p0
def lw2q13 (p0 : Arr) : Nat := LN (lw2q12 p0)
def lw2q14 (p0 : Arr) : Int := (NI (lw2q13 p0))
def lw2q15 : Prop := True ∧ ∃ (_y : Unit), True ∧ false = true ∧ True ∧ True
def lw2q16 (p0 : Nat) (p1 : Arr) : Prop := p0 ≤ lw2q13 p1
def lw2q17 (p0 : Nat) (p1 : Arr) : List UInt8 := showL (List.take p0 (lw2q12 p1))
def lw2q18 (p0 : Arr) : Prop := SM (lw2q0 p0) ∧ (SM (lw2q2 p0) ∧ (∀ (i : Nat), i < lw2q2 p0 → SM (lw2q3 p0 i)) ∧ True) ∧ (SM (lw2q4 p0) ∧ (∀ (i : Nat), i < lw2q4 p0 → SM (lw2q5 p0 i)) ∧ True) ∧ (SM (lw2q6 p0) ∧ (∀ (i : Nat), i < lw2q6 p0 → SM (lw2q7 p0 i)) ∧ True) ∧ True
def lw2q19 (p0 : Nat) (p1 : Arr) (p2 : Nat) : Prop := (SM p0 ∧ lw2q18 p1 ∧ SM p2 ∧ lw2q18 p1 ∧ True) ∧ True
def lw2q20 (p0 : Arr) (p1 : Nat) : Nat := LN (List.getD (lw2q12 p0) (Int.toNat (↑p1 : Int)) [])
def lw2q21 (p0 : Arr) (p1 : Nat) : List UInt8 := List.getD (lw2q12 p0) (Int.toNat (↑p1 : Int)) [] ++ [(10 : UInt8)]
def lw2q22 (p0 : Arr) : D := D.sl N1 (lw2q13 p0) (fun (i : Nat) => [D.str (List.getD (lw2q12 p0) i [])]) Mode.any
end
theorem law_rows (a : Arr) (ho : a.ok) : ACalls Tryd.prog 5 [.agg a.row1] ⟨[], []⟩ (SpecR (sC [.agg a.row1] (.bool true)) ()) := by
  refine con_of (A := sC _ _) (x := ()) (E := Elw3 a) (eOk (conLw_ok (by simpa using ho)) rfl) Tryd.func5 rfl (by kernel_rfl) rfl (by simp [sC, Elw3, EC, E0]) ?_
  refine vc_eq (T :=
    ∀ (x : Nat), True → SM x ∧ ∀ (x_1 : Nat), x ≠ x_1 ∧ True → SM x_1 ∧ ∃ (x_2 : Arr), lw2q8 a x_2 ∧ (True ∧ True) ∧ lw2q9 a x_2 ∧ ∀ (y : Unit), True → True ∧ ifB (!decide (wtA x_2 ≤ (400 : Int))) lw2q10 (SM x ∧ ∃ (x_3 : Arr), lw2q8 a x_3 ∧ (True ∧ True) ∧ lw2q9 a x_3 ∧ ∀ (y : Unit), True → ifB (Prod.fst (chkA x_3) != Z0) lw2q10 (SM x ∧ ifB (lw2q11 a != (2 : Int)) lw2q10 (SM x ∧ side (Z0 ≤ Z1 ∧ Z1 < lw2q11 a) (ifB (GI (lw2q1 a) N1 == Z0) lw2q10 (SM x ∧ ∃ (x_4 : Arr), lw2q8 a x_4 ∧ (True ∧ True) ∧ lw2q9 a x_4 ∧ ∀ (y : Unit), True → SM x ∧ side (Z0 ≤ Z0 ∧ Z0 < lw2q11 a) (ifB (lw2q14 x_4 != GI (lw2q1 a) N0) lw2q15 ((∃ (x_5 : Nat), lw2q16 x_5 a ∧ (Z0 = (↑x_5 : Int) ∧ eqOf (List UInt8) [] (lw2q17 x_5 a) ∧ True) ∧ lw2q19 x_1 a x) ∧ ∀ (x_5 : Nat), lw2q16 x_5 a → ifB (decide ((↑x_5 : Int) < lw2q14 x_4)) (side (Z0 ≤ (↑x_5 : Int) ∧ (↑x_5 : Int) < lw2q14 x_4) (side (Z0 ≤ Z0 ∧ Z0 < lw2q14 x_4) (ifB ((NI (lw2q20 x_4 x_5)) != (LI (List.getD (lw2q12 x_4) N0 []))) lw2q15 (side (Z0 ≤ (↑x_5 : Int) ∧ (↑x_5 : Int) < lw2q14 x_4) (side (lw2q20 x_4 x_5 + N1 ≤ (9223372036854775807 : Nat)) (side (LN (lw2q17 x_5 a) + LN (lw2q21 x_4 x_5) ≤ (9223372036854775807 : Nat)) ((SM (D.ref N0 x N0) ∧ SM (lw2q22 x_4) ∧ True) ∧ ∃ (y : Nat), lw2q16 y a ∧ lw2q13 a - y < lw2q13 a - x_5 ∧ (IntKind.wrap IntKind.i64 ((↑x_5 : Int) + Z1) = (↑y : Int) ∧ lw2q17 x_5 a ++ lw2q21 x_4 x_5 = lw2q17 y a ∧ True) ∧ lw2q19 x_1 a x))))))) (SM x ∧ ∃ (x : Arr), lw2q8 a x ∧ (True ∧ True) ∧ lw2q9 a x ∧ ∀ (y : Unit), True → ifB (lw2q17 x_5 a == showK x) lw2q10 lw2q15))))))))) (by kernel_rfl) ?_
  delta DA GA GI LI LN N0 N1 NI SM Z0 Z1 ZI lw2q0 lw2q1 lw2q10 lw2q11 lw2q12 lw2q13 lw2q14 lw2q15 lw2q16 lw2q17 lw2q18 lw2q19 lw2q2 lw2q20 lw2q21 lw2q22 lw2q3 lw2q4 lw2q5 lw2q6 lw2q7 lw2q8 lw2q9
  simp only [ifB_iff, side_iff, decide_eq_true_eq, decide_eq_false_iff_not, true_and, and_true, beq_iff_eq, bne_iff_ne, beq_eq_false_iff_ne, ne_eq, exists_const, forall_const, implies_true, Int.toNat_natCast]
  have hl := tot_len (linesK a)
  have ht := tot_lines ho
  refine fun x x1 _ => ⟨a, self1 a, isA_self a, fun _ => ⟨a, self1 a, isA_self a, fun hv h2 => ?_⟩⟩
  have hv : (chkA a).1 = 0 := by simpa using hv
  have h2 : a.sh.length = 2 := by
    have : (a.sh.length : Int) = 2 := by simpa using h2
    omega
  refine ⟨⟨by omega, by omega⟩, fun h1 => ?_⟩
  obtain ⟨r1, r2⟩ := rows_two (lok_of ho hv) hv h2 h1
  refine ⟨a, self1 a, isA_self a, ⟨by omega, by omega⟩, fun h => absurd r1 h, fun _ => ⟨⟨0, Nat.zero_le _, rfl, rfl⟩, fun i hi => ⟨fun hlt => ?_, fun hge => ⟨a, self1 a, isA_self a, fun h => ?_⟩⟩⟩⟩
  · have hlt' : i < (linesK a).length := by omega
    have h3 := showL_take hlt'
    have h4 := showL_take_len (l := linesK a) (i + 1)
    rw [h3] at h4
    simp only [List.length_append, List.length_cons, List.length_nil] at h4
    refine ⟨⟨by omega, by omega⟩, ⟨by omega, by omega⟩, fun h => absurd (by rw [r2 i hlt']) h, fun _ => ⟨⟨by omega, by omega⟩, by omega, ?_, i + 1, by omega, by omega, wrap_i64' (by omega) (by omega), ?_⟩⟩
    · simp only [List.length_append, List.length_cons, List.length_nil]; omega
    · rw [h3, List.append_assoc]
  · exact absurd (by rw [List.take_of_length_le (by omega)]; rfl) h
end Go.Proofs.YtpgepjefbhgblaaDoor
