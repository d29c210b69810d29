/- Functions of the given program and what each of them computes: lemmas towards the statement, their conditions stated with each of them. -/
import Derived.Test.YtpgepjefbhgblaaDoorP2
import Derived.Test.YtpgepjefbhgblaaDoorCards
import Derived.Test.YtpgepjefbhgblaaDoorTie
import Derived.WalkKit
import Derived.ProofKit
import Derived.OpenShut
import Derived.Deep.DeepHandedRow
import Derived.Lib.LaidTab
import Derived.Stop.LaidErr
namespace Go.Proofs.YtpgepjefbhgblaaDoor
open Go Go.Ab
set_option maxRecDepth 100000
def conC2 (its : List Arr) : Con := fun k _ _ => match k with
  | 69 => some (sCl Arr.row1 Arr.row1 (fun b => b ∈ its))
  | _ => none
noncomputable def Ec2 (a : Arr) : Senv := { EC (conC2 a.it) 33 5 [18] (fun id => match id with | 1 => ([0, 1, 2, 3, 5, 6, 4, 7, 8, 9, 10], [4, 7, 9, 10]) | 5 => ([0, 1, 2, 3, 4, 5, 6, 7, 8, 9, 10, 11], [7, 8, 9, 11]) | _ => ([], [])) with
  gh := fun b => match b with
    | 0 => [.cell 11 403]
    | _ => []
  ann := fun b _env S => match b with
    | 0 => some { slots := [4], keep := [1, 2, 3], α := Nat × Nat, st := fun y => ([.int .i64 y.1], ⟨setO S.objs 11 (.cells ((cellsO S.objs 11).set 3 (.sl 4 y.1 (fun j => (a.it.getD j default).row1) (.tok 2 y.2)))), [(2, y.2)]⟩), inv := fun y => y.1 ≤ a.it.length, mu := fun y => a.it.length - y.1 }
    | _ => none }
theorem app_rw {α : Type} {its : List α} {g : α → List D} (d : α) {j : Nat} :
    ∀ i, i < j + 1 → appF j (fun i => g (its.getD i d)) (fun i => [g (its.getD j d)].getD i []) i = g (its.getD i d) := by
  intro i hi
  simp only [appF]
  split
  · rfl
  · have : i = j := by omega
    subst this
    simp
noncomputable section
def cl2q0 (p0 : Arr) : Nat := LN (Arr.sh p0)
def cl2q1 (p0 : Arr) : Nat := N0 + cl2q0 p0
def cl2q2 (p0 : Arr) : Nat := cl2q1 p0 * (8 : Nat)
def cl2q3 (p0 : Arr) : Nat := LN (Arr.nu p0)
def cl2q4 (p0 : Arr) (p1 : Nat) : List D := [ZI (GI (Arr.nu p0) p1)]
def cl2q5 (p0 : Arr) : D := D.sl N1 (cl2q3 p0) (fun (i : Nat) => cl2q4 p0 i) Mode.any
def cl2q6 (p0 : Nat) (p1 : Arr) : Prop := SM p0 ∧ SM (cl2q5 p1)
def cl2q7 (p0 : Arr) : Int := Arr.k p0
def cl2q8 (p0 : Arr) : D := ZI (cl2q7 p0)
def cl2q9 (p0 : Nat) (p1 : Arr) : Prop := SM p0 ∧ SM (cl2q8 p1)
def cl2q10 (p0 : Arr) : Nat := N0 + cl2q3 p0
def cl2q11 (p0 : Arr) : Nat := cl2q10 p0 * (8 : Nat)
def cl2q12 (p0 : Arr) : List Arr := Arr.it p0
def cl2q13 (p0 : Arr) : Nat := LN (cl2q12 p0)
def cl2q14 (p0 : Nat) (p1 : Arr) : Prop := p0 ≤ cl2q13 p1
def cl2q15 (p0 : Arr) : Prop := SM (cl2q7 p0)
def cl2q16 (p0 : Arr) (p1 : Nat) : List D := [ZI (GI (Arr.sh p0) p1)]
def cl2q17 (p0 : Arr) (p1 : Nat) : List D := appF N0 (fun (_x : Nat) => []) (fun (i : Nat) => cl2q16 p0 i) p1
def cl2q18 (p0 : Arr) (p1 : Nat) : Prop := SM (cl2q1 p0) ∧ (∀ (i : Nat), i < cl2q1 p0 → SM (cl2q17 p0 i)) ∧ SM p1
def cl2q19 (p0 : Arr) (p1 : Nat) : List D := appF N0 (fun (_x : Nat) => []) (fun (i : Nat) => cl2q4 p0 i) p1
def cl2q20 (p0 : Arr) (p1 : Nat) : Prop := SM (cl2q10 p0) ∧ (∀ (i : Nat), i < cl2q10 p0 → SM (cl2q19 p0 i)) ∧ SM p1
def cl2q21 : Arr := DA
def cl2q22 (p0 : Arr) (p1 : Nat) : Arr := List.getD (cl2q12 p0) p1 cl2q21
def cl2q23 (p0 : Arr) (p1 : Nat) : List Int := Arr.sh (cl2q22 p0 p1)
def cl2q24 (p0 : Arr) (p1 : Nat) : List Int := Arr.nu (cl2q22 p0 p1)
def cl2q25 (p0 : Arr) (p1 : Nat) : List Arr := Arr.it (cl2q22 p0 p1)
def cl2q26 (p0 : Arr) (p1 : Nat) : List D := [ZI (Arr.k (cl2q22 p0 p1)), SI (cl2q23 p0 p1), SI (cl2q24 p0 p1), D.sl N4 (LN (cl2q25 p0 p1)) (fun (i : Nat) => Arr.row (List.getD (cl2q25 p0 p1) i cl2q21)) Mode.any]
def cl2q27 : Prop := SM N0 ∧ (∀ (i : Nat), i < N0 → eqOf (List D) [] []) ∧ True
def cl2q28 (p0 : Arr) (p1 : Nat) : Prop := SM (cl2q26 p0 p1)
def cl2q29 (p0 p1 : Nat) (p2 : Arr) : Prop := SM p0 ∧ (SM Z0 ∧ cl2q27 ∧ cl2q27 ∧ cl2q27 ∧ True) ∧ SM p1 ∧ (cl2q15 p2 ∧ (SM (cl2q0 p2) ∧ (∀ (i : Nat), i < cl2q0 p2 → SM (cl2q16 p2 i)) ∧ True) ∧ (SM (cl2q3 p2) ∧ (∀ (i : Nat), i < cl2q3 p2 → SM (cl2q4 p2 i)) ∧ True) ∧ (SM (cl2q13 p2) ∧ (∀ (i : Nat), i < cl2q13 p2 → cl2q28 p2 i) ∧ True) ∧ True) ∧ True
def cl2q30 (p0 : Arr) (p1 : Nat) : Arr := List.getD (cl2q12 p0) (Int.toNat (↑p1 : Int)) cl2q21
def cl2q31 (p0 : Arr) (p1 : Nat) : List Int := Arr.sh (cl2q30 p0 p1)
def cl2q32 (p0 : Arr) (p1 : Nat) : Nat := LN (cl2q31 p0 p1)
def cl2q33 (p0 : Arr) (p1 : Nat) : List Int := Arr.nu (cl2q30 p0 p1)
def cl2q34 (p0 : Arr) (p1 : Nat) : Nat := LN (cl2q33 p0 p1)
def cl2q35 (p0 : Arr) (p1 : Nat) : List Arr := Arr.it (cl2q30 p0 p1)
def cl2q36 (p0 : Arr) (p1 : Nat) : Nat := LN (cl2q35 p0 p1)
def cl2q37 (p0 : Arr) (p1 : Nat) : List D := Arr.row (cl2q22 p0 p1)
def cl2q38 (p0 : Nat) (p1 : Arr) (p2 : Nat) : D := D.sl N4 p0 (fun (j : Nat) => cl2q26 p1 j) (Mode.tok N2 p2)
def cl2q39 (p0 p1 : Nat) (p2 : Arr) (p3 : Nat) : Prop := SM p0 ∧ SM (cl2q38 p1 p2 p3)
def cl2q40 (p0 : Arr) : D := D.sl N1 (cl2q0 p0) (fun (i : Nat) => cl2q16 p0 i) Mode.any
def cl2q41 (p0 : Nat) (p1 : Arr) (p2 p3 p4 p5 : Nat) : Prop := cl2q9 p0 p1 ∧ SM p2 ∧ ∀ (t : Nat), (∃ (x : Nat × Nat), cl2q14 x.1 p1 ∧ (Z0 = (NI x.1) ∧ True) ∧ (SM p2 ∧ (cl2q15 p1 ∧ cl2q18 p1 p3 ∧ cl2q20 p1 p4 ∧ (N0 = x.1 ∧ (∀ (i : Nat), i < N0 → eqOf (List D) [] (cl2q26 p1 i)) ∧ t = x.2) ∧ True) ∧ cl2q29 p5 p0 p1) ∧ t = x.2 ∧ True) ∧ ∀ (x : Nat × Nat), cl2q14 x.1 p1 → SM p0 ∧ ifB (decide ((NI x.1) < (NI (cl2q13 p1)))) (SM p2 ∧ SM p0 ∧ side (Z0 ≤ (NI x.1) ∧ (NI x.1) < (NI (cl2q13 p1))) (∃ (x_1 : Arr), ((Arr.k (cl2q30 p1 x.1) = cl2q7 x_1 ∧ (cl2q32 p1 x.1 = cl2q0 x_1 ∧ (∀ (i : Nat), i < cl2q32 p1 x.1 → [ZI (GI (cl2q31 p1 x.1) i)] = cl2q16 x_1 i) ∧ True) ∧ (cl2q34 p1 x.1 = cl2q3 x_1 ∧ (∀ (i : Nat), i < cl2q34 p1 x.1 → [ZI (GI (cl2q33 p1 x.1) i)] = cl2q4 x_1 i) ∧ True) ∧ (cl2q36 p1 x.1 = cl2q13 x_1 ∧ (∀ (i : Nat), i < cl2q36 p1 x.1 → Arr.row (List.getD (cl2q35 p1 x.1) i cl2q21) = cl2q37 x_1 i) ∧ True) ∧ True) ∧ True) ∧ (True ∧ True) ∧ x_1 ∈ cl2q12 p1 ∧ ∀ (_y : Unit), True → cl2q39 p2 x.1 p1 x.2 ∧ cl2q39 p2 x.1 p1 x.2 ∧ SM x.2 ∧ side ((x.1 + N1) * (80 : Nat) ≤ (140737488355328 : Nat) ∧ x.1 + N1 ≤ (9223372036854775807 : Nat)) (∀ (t : Nat), SM p2 ∧ (SM (D.ref N0 p0 N0) ∧ SM (D.ref (max (N0 + N1) N0) p5 N0) ∧ SM (D.ref (max N2 (max (N0 + N1) N0) + nat_lit 9) p2 N0) ∧ True) ∧ ∃ (y : Nat × Nat), cl2q14 y.1 p1 ∧ cl2q13 p1 - y.1 < cl2q13 p1 - x.1 ∧ (IntKind.wrap IntKind.i64 ((NI x.1) + Z1) = (NI y.1) ∧ True) ∧ (SM p2 ∧ (cl2q15 p1 ∧ cl2q18 p1 p3 ∧ cl2q20 p1 p4 ∧ (x.1 + N1 = y.1 ∧ (∀ (i : Nat), i < x.1 + N1 → appF x.1 (fun (j : Nat) => cl2q26 p1 j) (fun (i : Nat) => List.getD [[cl2q8 x_1, cl2q40 x_1, cl2q5 x_1, D.sl N4 (cl2q13 x_1) (fun (i : Nat) => cl2q37 x_1 i) Mode.any]] i []) i = cl2q26 p1 i) ∧ t = y.2) ∧ True) ∧ cl2q29 p5 p0 p1) ∧ t = y.2 ∧ True))) (SM p2 ∧ SM p5 ∧ (SM p5 ∧ True) ∧ ∃ (_y : Unit), True ∧ (cl2q15 p1 ∧ (cl2q1 p1 = cl2q0 p1 ∧ (∀ (i : Nat), i < cl2q1 p1 → cl2q17 p1 i = cl2q16 p1 i) ∧ True) ∧ (cl2q10 p1 = cl2q3 p1 ∧ (∀ (i : Nat), i < cl2q10 p1 → cl2q19 p1 i = cl2q4 p1 i) ∧ True) ∧ (x.1 = cl2q13 p1 ∧ (∀ (i : Nat), i < x.1 → cl2q28 p1 i) ∧ True) ∧ True) ∧ True ∧ True)
def cl2q42 (p0 : Nat) (p1 : Arr) (p2 p3 p4 : Nat) : Prop := cl2q6 p0 p1 ∧ cl2q9 p0 p1 ∧ side (cl2q11 p1 ≤ (140737488355328 : Nat) ∧ cl2q10 p1 ≤ (9223372036854775807 : Nat)) (∀ (t : Nat), cl2q41 p0 p1 p2 p3 t p4)
end
theorem c2_step (a : Arr) (ha : a.nu.length ≤ 1000000 ∧ a.it.length ≤ 1000000 ∧ a.sh.length ≤ 1000000) (hc : ConOk Tryd.prog (conC2 a.it)) :
    ACalls Tryd.prog 69 ((sCl Arr.row2 Arr.row2 (fun _ => True)).args a) ⟨[], []⟩ (SpecR (sCl Arr.row2 Arr.row2 (fun _ => True)) a) := by
  refine con_of (A := sCl Arr.row2 Arr.row2 (fun _ => True)) (x := a) (E := Ec2 a) (eOk hc rfl) Tryd.func69 rfl (by kernel_rfl) rfl (by simp [sCl, Ec2, EC, E0]) ?_
  refine vc_eq (T :=
    ∀ (x : Nat), True → ∀ (x_1 : Nat), x ≠ x_1 ∧ True → SM x ∧ SM x ∧ SM x ∧ side (cl2q2 a ≤ (140737488355328 : Nat) ∧ cl2q1 a ≤ (9223372036854775807 : Nat)) (∀ (t : Nat), cl2q6 x a ∧ cl2q9 x a ∧ side (cl2q11 a ≤ (140737488355328 : Nat) ∧ cl2q10 a ≤ (9223372036854775807 : Nat)) (∀ (t_1 : Nat), cl2q9 x a ∧ ∀ (x_2 : Nat), x_1 ≠ x_2 ∧ x ≠ x_2 ∧ True → cl2q41 x a x_2 t t_1 x_1) ∧ ∀ (x_2 : Nat), x_1 ≠ x_2 ∧ x ≠ x_2 ∧ True → cl2q42 x a x_2 t x_1) ∧ ∀ (x_2 : Nat), x_1 ≠ x_2 ∧ x ≠ x_2 ∧ True → cl2q6 x a ∧ (SM x ∧ SM (cl2q40 a)) ∧ cl2q9 x a ∧ side (cl2q2 a ≤ (140737488355328 : Nat) ∧ cl2q1 a ≤ (9223372036854775807 : Nat)) (∀ (t : Nat), cl2q42 x a x_2 t x_1)) (by kernel_rfl) ?_
  delta DA GI LN N0 N1 N2 N4 NI SI SM Z0 Z1 ZI cl2q0 cl2q1 cl2q10 cl2q11 cl2q12 cl2q13 cl2q14 cl2q15 cl2q16 cl2q17 cl2q18 cl2q19 cl2q2 cl2q20 cl2q21 cl2q22 cl2q23 cl2q24 cl2q25 cl2q26 cl2q27 cl2q28 cl2q29 cl2q3 cl2q30 cl2q31 cl2q32 cl2q33 cl2q34 cl2q35 cl2q36 cl2q37 cl2q38 cl2q39 cl2q4 cl2q40 cl2q41 cl2q42 cl2q5 cl2q6 cl2q7 cl2q8 cl2q9
  have da : (default : Arr) = Arr.mk 0 [] [] [] := rfl
  simp only [← da, eq_self, implies_true, Int.toNat_natCast, ifB_iff, side_iff, decide_eq_true_eq, decide_eq_false_iff_not, true_and, and_true, exists_const, forall_const]
  obtain ⟨l1, l2, l3⟩ := ha
  repeat' (first | (rintro ⟨j, t⟩ (hj : j ≤ a.it.length)) | intro _ | refine And.intro ?_ ?_)
  all_goals try simp only at *
  all_goals first
    | omega
    | exact ⟨(0, _), Nat.zero_le _, rfl, ⟨rfl, fun i hi => absurd hi (Nat.not_lt_zero _), rfl⟩, rfl⟩
    | exact ⟨a.it.getD j default, ⟨rfl, ⟨rfl, fun _ _ => rfl⟩, ⟨rfl, fun _ _ => rfl⟩, rfl, fun _ _ => rfl⟩, mem_getD (by omega), ⟨by omega, by omega⟩, fun t2 => ⟨(j + 1, t2), by simp only; omega, by simp only; omega, wrap_i64' (by omega) (by omega), ⟨rfl, app_rw (g := Arr.row1) default, rfl⟩, rfl⟩⟩
    | (simp [appF]; done)
    | (have e : j = a.it.length := by omega
       subst e; rfl)
    | trace_state
  done
theorem c2_all : ∀ (a : Arr), (chkA a).1 = 0 → ACalls Tryd.prog 69 [.agg a.row1] ⟨[], []⟩ (SpecR (sCl Arr.row1 Arr.row1 (fun _ => True)) a)
  | .mk k s n is, h => by
    obtain ⟨h1, h2, h3, h4⟩ := chkA_zero h
    have hc : ConOk Tryd.prog (conC2 (Arr.mk k s n is).it) := by
      intro k' ds S A hk
      unfold conC2 at hk
      split at hk
      · injection hk with hk; subst hk
        refine ConOk.plain (fun (b : Arr) hb => ?_) rfl rfl
        have hb' : b ∈ is := hb
        exact (c2_all b (h4 b hb')).mono fun _ _ ⟨y, q1, q2, q3⟩ => ⟨y, q1, q2, q3⟩
      · cases hk
    have hm := c2_step (.mk k s n is) ⟨by show n.length ≤ _; omega, by show is.length ≤ _; omega, by show s.length ≤ _; omega⟩ hc
    have hm2 : ACalls Tryd.prog 69 [.agg (Arr.mk k s n is).row1] ⟨[], []⟩ (SpecR (sCl Arr.row2 Arr.row2 (fun _ => True)) (.mk k s n is)) := by
      refine ACalls.wkArgs hm ?_
      simp only [sCl, wkL, wkD]
      exact ⟨row1_wk _, trivial⟩
    refine ACalls.wkEnd hm2 fun r S' ⟨y, q1, q2, q3⟩ => ?_
    subst q2 q3
    refine ⟨.ret (.agg (Arr.mk k s n is).row1), fun C e he => ?_, ⟨(), trivial, rfl, rfl⟩⟩
    cases e with
    | returned v =>
      refine wkD_weak (.agg (Arr.mk k s n is).row2) _ ?_ C v he
      simp only [wkD]
      exact row2_row1 _
    | panicked _ => exact he.elim
    | outgrown => exact he.elim
termination_by a => SizeOf.sizeOf a
decreasing_by
  have := List.sizeOf_lt_of_mem hb'
  simp; omega
end Go.Proofs.YtpgepjefbhgblaaDoor
namespace Go.Proofs.YtpgepjefbhgblaaDoor
open Go Go.Ab
set_option maxRecDepth 100000
def RCl (a : Arr) : Prop := ACalls Tryd.prog 69 [.agg a.row1] ⟨[], []⟩ (SpecR (sCl Arr.row1 Arr.row1 (fun _ => True)) a)
theorem conCr_of {its : List Arr} (h : ∀ b ∈ its, RCl b) : ConOk Tryd.prog (conCr its) := by
  intro k' ds S A hk
  unfold conCr at hk
  split at hk
  · injection hk with hk; subst hk
    exact ConOk.plain (fun (b : Arr) hb => (h b hb).mono fun _ _ ⟨y, q1, q2, q3⟩ => ⟨y, q1, q2, q3⟩) rfl rfl
  · exact conRf_ok _ _ _ _ hk
theorem rlit_all0 (hcl : ∀ b : Arr, (chkA b).1 = 0 → RCl b) : ∀ (a : Arr), a.ok → (chkA a).1 = 0 → RLit a
  | .mk k s n is, ho, h => by
    have lo := lok_of ho h
    have hv := (chkA_zero h).2.2.2
    have hok : ∀ b ∈ is, b.ok := by
      simp only [Arr.ok] at ho
      exact (okL_iff _).1 ho.2.2.2.2.2.2
    have ih : ∀ b ∈ is, RLit b := fun b hb => rlit_all0 hcl b (hok b hb) (hv b hb)
    refine rlit_row2 (rlit_step (.mk k s n is) lo (conRl_ok lo ih (rfs lo.kd) (fun h1 => ?_) (fun _ => conCr_of fun b hb => hcl b (hv b hb)) (fun h1 _ => rlit_line lo ih (rfs lo.kd) h1)))
    have hsub : ∀ c ∈ (atA (.mk k s n is) 0).it, c ∈ is := by
      intro c hc
      unfold atA at hc
      by_cases h3 : (Arr.mk k s n is).k = 3
      · rw [if_pos h3] at hc
        have h2 : is.length = 1 := by
          have h4 : n = [] := lo.bx h3
          have h1 : n.length + is.length = 1 := h1
          rw [h4] at h1; simpa using h1
        have : c = is.getD 0 default := List.mem_singleton.1 hc
        rw [this]; exact mem_getD (by omega)
      · rw [if_neg h3] at hc; cases hc
    have lo' := lok_at lo h1
    refine rsc_of lo' (lo'.sc ?_) (fun c hc => ih c (hsub c hc))
    unfold atA
    split <;> rfl
termination_by a => SizeOf.sizeOf a
decreasing_by
  have := List.sizeOf_lt_of_mem hb
  simp; omega
theorem rlit_all (a : Arr) (ho : a.ok) (h : (chkA a).1 = 0) : RLit a := rlit_all0 (fun b hb => c2_all b hb) a ho h
end Go.Proofs.YtpgepjefbhgblaaDoor
namespace Go.Proofs.YtpgepjefbhgblaaDoor
open Go Go.Ab
set_option maxRecDepth 100000
def conRt (a : Arr) : Con := fun k _ _ => match k with
  | 15 => some (sRc Arr.row1 (fun b => b = a) errA)
  | 20 => some (sRc Arr.row1 (fun b => b = a ∧ (chkA a).1 = 0) (fun b => .str (litA b)))
  | _ => none
theorem conRt_ok {a : Arr} (ho : a.ok) : ConOk Tryd.prog (conRt a) := by
  intro k ds S A h
  unfold conRt at h
  split at h
  · injection h with h; subst h
    refine ConOk.plain (fun b hb => ?_) rfl rfl
    have hb : b = a := hb
    rw [hb]
    exact sRc_row (rri_ok a ho)
  · injection h with h; subst h
    refine ConOk.plain (fun b hb => ?_) rfl rfl
    obtain ⟨hb, h1⟩ : b = a ∧ (chkA a).1 = 0 := hb
    rw [hb]
    exact sRc_row (rlit_all a ho h1)
  · cases h
noncomputable def Ert (a : Arr) : Senv := EC (conRt a) 8 3 [5] (fun _ => ([], []))
noncomputable section
def le5q0 (p0 : Arr) : Nat := LN (Arr.sh p0)
def le5q1 (p0 : Arr) : Nat := LN (Arr.nu p0)
def le5q2 (p0 : Arr) : Nat := LN (Arr.it p0)
def le5q3 (p0 : Arr) (p1 : Nat) : List D := Arr.row (GA (Arr.it p0) p1)
def le5q4 (p0 p1 : Arr) : Prop := (Arr.k p0 = Arr.k p1 ∧ (le5q0 p0 = le5q0 p1 ∧ (∀ (i : Nat), i < le5q0 p0 → [ZI (GI (Arr.sh p0) i)] = [ZI (GI (Arr.sh p1) i)]) ∧ True) ∧ (le5q1 p0 = le5q1 p1 ∧ (∀ (i : Nat), i < le5q1 p0 → [ZI (GI (Arr.nu p0) i)] = [ZI (GI (Arr.nu p1) i)]) ∧ True) ∧ (le5q2 p0 = le5q2 p1 ∧ (∀ (i : Nat), i < le5q2 p0 → le5q3 p0 i = le5q3 p1 i) ∧ True) ∧ True) ∧ True
end
theorem rlitF_ok (a : Arr) (ho : a.ok) :
    ACalls Tryd.prog 10 ((sRc Arr.row1 (fun _ => True) (fun b => .str (litF b))).args a) ⟨[], []⟩ (SpecR (sRc Arr.row1 (fun _ => True) (fun b => .str (litF b))) a) := by
  refine con_of (A := sRc Arr.row1 (fun _ => True) (fun b => .str (litF b))) (x := a) (E := Ert a) (eOk (conRt_ok ho) rfl) Tryd.func10 rfl (by kernel_rfl) rfl (by simp [sRc, Ert, EC, E0]) ?_
  refine vc_eq (T :=
    ∀ (x : Nat), True → SM x ∧ ∃ (x_1 : Arr), le5q4 a x_1 ∧ (True ∧ True) ∧ x_1 = a ∧ ∀ (y : Unit), True → ifB (Prod.fst (chkA x_1) != Z0) (True ∧ ∃ (y : Unit), True ∧ eqOf (List UInt8) [] (litF a) ∧ True ∧ True) (SM x ∧ ∃ (x : Arr), le5q4 a x ∧ (True ∧ True) ∧ (x = a ∧ Prod.fst (chkA a) = Z0) ∧ ∀ (y : Unit), True → True ∧ ∃ (y : Unit), True ∧ litA x = litF a ∧ True ∧ True)) (by kernel_rfl) ?_
  delta DA GA GI LN SM Z0 ZI le5q0 le5q1 le5q2 le5q3 le5q4
  have da : (default : Arr) = Arr.mk 0 [] [] [] := rfl
  simp only [← da, ifB_iff, true_and, and_true, bne_iff_ne, ne_eq, exists_const, forall_const]
  refine ⟨a, ⟨rfl, ⟨rfl, fun _ _ => rfl⟩, ⟨rfl, fun _ _ => rfl⟩, rfl, fun _ _ => rfl⟩, rfl, fun h => by rw [litF, if_neg h], fun h => ?_⟩
  have h : (chkA a).1 = 0 := by simpa using h
  exact ⟨a, ⟨rfl, ⟨rfl, fun _ _ => rfl⟩, ⟨rfl, fun _ _ => rfl⟩, rfl, fun _ _ => rfl⟩, ⟨rfl, h⟩, by rw [litF, if_pos h]⟩
end Go.Proofs.YtpgepjefbhgblaaDoor
namespace Go.Proofs.YtpgepjefbhgblaaDoor
open Go Go.Ab
set_option maxRecDepth 100000
def cellK (a : Arr) (i : Nat) : List UInt8 :=
  if a.k = 1 then showI (a.nu.getD i 0)
  else if a.k = 3 then 91 :: (litA (a.it.getD i default) ++ [93])
  else if a.nu.getD i 0 < 32 ∨ 126 < a.nu.getD i 0 then [63] else utf8 (a.nu.getD i 0)
def conTx (its : List Arr) : Con := fun k ds S => match k with
  | 19 => some (sRc Arr.row1 (fun b => b ∈ its) (fun b => .str (litA b)))
  | k => conJn k ds S
noncomputable def Etx (a : Arr) : Senv := EC (conTx a.it) 49 3 [4, 5, 15, 27] (fun _ => ([], []))
noncomputable section
def ln1q0 (p0 : Arr) : Int := (LI (Arr.nu p0))
def ln1q1 (p0 : Arr) (p1 : Nat) : Int := GI (Arr.nu p0) (Int.toNat (↑p1 : Int))
def ln1q2 (p0 : Arr) (p1 : Nat) : List UInt8 := cellK p0 p1
def ln1q3 (p0 : Arr) : List Arr := Arr.it p0
def ln1q4 : Arr := DA
def ln1q5 (p0 : Arr) (p1 : Nat) : Arr := List.getD (ln1q3 p0) (Int.toNat (↑p1 : Int)) ln1q4
def ln1q6 (p0 : Arr) (p1 : Nat) : List Int := Arr.sh (ln1q5 p0 p1)
def ln1q7 (p0 : Arr) (p1 : Nat) : Nat := LN (ln1q6 p0 p1)
def ln1q8 (p0 : Arr) (p1 : Nat) : List Int := Arr.nu (ln1q5 p0 p1)
def ln1q9 (p0 : Arr) (p1 : Nat) : Nat := LN (ln1q8 p0 p1)
def ln1q10 (p0 : Arr) (p1 : Nat) : List Arr := Arr.it (ln1q5 p0 p1)
def ln1q11 (p0 : Arr) (p1 : Nat) : Nat := LN (ln1q10 p0 p1)
def ln1q12 (p0 : Arr) (p1 : Nat) : Bool := decide (ln1q1 p0 p1 < (32 : Int))
def ln1q13 (p0 : Arr) (p1 : Nat) : Bool := decide ((126 : Int) < ln1q1 p0 p1)
def ln1q14 (p0 : Arr) (p1 : Nat) : Bool := bif ln1q12 p0 p1 then true else ln1q13 p0 p1
end
theorem text_step (a : Arr) (i : Nat) (lo : LOk a) (hi : i < a.nu.length + a.it.length) (hc : ConOk Tryd.prog (conTx a.it)) :
    ACalls Tryd.prog 21 [.agg a.row2, .int .i64 i] ⟨[], []⟩ (SpecR (sC [.agg a.row2, .int .i64 i] (.str (cellK a i))) ()) := by
  refine con_of (A := sC _ _) (x := ()) (E := Etx a) (eOk hc rfl) Tryd.func21 rfl (by kernel_rfl) rfl (by simp [sC, Etx, EC, E0]) ?_
  refine vc_eq (T :=
    ∀ (x : Nat), True → SM x ∧ ifB (Arr.k a == Z1) (SM x ∧ side (Z0 ≤ (↑i : Int) ∧ (↑i : Int) < ln1q0 a) (inI64 (ln1q1 a i) ∧ ∀ (y : Unit), True → True ∧ ∃ (y : Unit), True ∧ showI (ln1q1 a i) = ln1q2 a i ∧ True ∧ True)) (SM x ∧ ifB (Arr.k a == (3 : Int)) (SM x ∧ side (Z0 ≤ (↑i : Int) ∧ (↑i : Int) < (LI (ln1q3 a))) (∃ (x : Arr), ((Arr.k (ln1q5 a i) = Arr.k x ∧ (ln1q7 a i = LN (Arr.sh x) ∧ (∀ (i_1 : Nat), i_1 < ln1q7 a i → [ZI (GI (ln1q6 a i) i_1)] = [ZI (GI (Arr.sh x) i_1)]) ∧ True) ∧ (ln1q9 a i = LN (Arr.nu x) ∧ (∀ (i_1 : Nat), i_1 < ln1q9 a i → [ZI (GI (ln1q8 a i) i_1)] = [ZI (GI (Arr.nu x) i_1)]) ∧ True) ∧ (ln1q11 a i = LN (ln1q3 x) ∧ (∀ (i_1 : Nat), i_1 < ln1q11 a i → Arr.row (List.getD (ln1q10 a i) i_1 ln1q4) = Arr.row (List.getD (ln1q3 x) i_1 ln1q4)) ∧ True) ∧ True) ∧ True) ∧ (True ∧ True) ∧ x ∈ ln1q3 a ∧ ∀ (y : Unit), True → side (N1 + LN (litA x) ≤ (9223372036854775807 : Nat)) (side (LN ((91 : UInt8) :: List.append [] (litA x)) + N1 ≤ (9223372036854775807 : Nat)) (True ∧ ∃ (y : Unit), True ∧ (91 : UInt8) :: List.append (List.append [] (litA x)) [(93 : UInt8)] = ln1q2 a i ∧ True ∧ True)))) ((SM x ∧ side (Z0 ≤ (↑i : Int) ∧ (↑i : Int) < ln1q0 a) (ifB (ln1q12 a i) (true = ln1q14 a i ∧ True) (SM x ∧ side (Z0 ≤ (↑i : Int) ∧ (↑i : Int) < ln1q0 a) (ln1q13 a i = ln1q14 a i ∧ True)))) ∧ ifB (ln1q14 a i) (True ∧ ∃ (y : Unit), True ∧ [(63 : UInt8)] = ln1q2 a i ∧ True ∧ True) (SM x ∧ side (Z0 ≤ (↑i : Int) ∧ (↑i : Int) < ln1q0 a) (True ∧ ∃ (y : Unit), True ∧ Array.toList (ByteArray.data (Utf8.encode (IntKind.wrap IntKind.i32 (ln1q1 a i)))) = ln1q2 a i ∧ True ∧ True))))) (by kernel_rfl) ?_
  delta DA GI LI LN N1 SM Z0 Z1 ZI ln1q0 ln1q1 ln1q10 ln1q11 ln1q12 ln1q13 ln1q14 ln1q2 ln1q3 ln1q4 ln1q5 ln1q6 ln1q7 ln1q8 ln1q9
  have da : (default : Arr) = Arr.mk 0 [] [] [] := rfl
  simp only [← da, ifB_iff, side_iff, decide_eq_true_eq, decide_eq_false_iff_not, true_and, and_true, beq_iff_eq, Bool.cond_true_left, Bool.or_eq_true, Bool.or_eq_false_iff, beq_eq_false_iff_ne, ne_eq, exists_const, forall_const, Int.toNat_natCast]
  have kd := lo.kd
  have hsum := lo.sum
  have hn : a.k ≠ 3 → i < a.nu.length := fun h3 => by have := lo.no h3; rw [this] at hi; simpa using hi
  have hb : a.k = 3 → i < a.it.length := fun h3 => by have := lo.bx h3; rw [this] at hi; simpa using hi
  refine ⟨fun h1 => ⟨⟨by omega, by omega⟩, lo.ni _ (memI (by omega)), by rw [cellK, if_pos h1]⟩, fun h1 => ⟨fun h3 => ?_, fun h3 => ⟨⟨⟨by omega, by omega⟩, fun h => by rw [decide_eq_true h]; rfl, fun h => ⟨⟨by omega, by omega⟩, by rw [decide_eq_false h]; rfl⟩⟩, fun h => by rw [cellK, if_neg h1, if_neg h3, if_pos h], fun ⟨h4, h5⟩ => ⟨⟨by omega, by omega⟩, ?_⟩⟩⟩⟩
  · have hm := mem_getD (l := a.it) (i := i) (by omega)
    have hl := mem_sum hm
    refine ⟨⟨by omega, by omega⟩, a.it.getD i default, ⟨rfl, ⟨rfl, fun _ _ => rfl⟩, ⟨rfl, fun _ _ => rfl⟩, rfl, fun _ _ => rfl⟩, hm, by omega, by simp only [List.length_cons, app_nil']; omega, ?_⟩
    rw [cellK, if_neg h1, if_pos h3]; rfl
  · have e : IntKind.i32.wrap (a.nu.getD i 0) = a.nu.getD i 0 := by rw [IntKind.wrap_i32]; omega
    rw [e, cellK, if_neg h1, if_neg h3, if_neg (by omega)]; rfl
end Go.Proofs.YtpgepjefbhgblaaDoor
namespace Go.Proofs.YtpgepjefbhgblaaDoor
open Go Go.Ab
set_option maxRecDepth 100000
def conRx (its : List Arr) : Con := fun k ds S => match k with
  | 20 => some (sRc Arr.row1 (fun b => b ∈ its) (fun b => .str (litA b)))
  | k => conJn k ds S
noncomputable def Ecx (a : Arr) : Senv := EC (conRx a.it) 40 3 [4, 5, 7, 16, 24, 36] (fun _ => ([], []))
noncomputable section
def ln2q0 (p0 : Arr) (p1 : Nat) : Int := GI (Arr.nu p0) (Int.toNat (↑p1 : Int))
def ln2q1 (p0 : Arr) (p1 : Nat) : List UInt8 := cellK p0 p1
def ln2q2 (p0 : Arr) (p1 : Nat) : Bool := decide (ln2q0 p0 p1 < (32 : Int))
def ln2q3 (p0 : Arr) (p1 : Nat) : Bool := decide ((126 : Int) < ln2q0 p0 p1)
def ln2q4 (p0 : Arr) (p1 : Nat) : Bool := bif ln2q2 p0 p1 then true else ln2q3 p0 p1
def ln2q5 (p0 : Arr) : List Arr := Arr.it p0
def ln2q6 : Arr := DA
def ln2q7 (p0 : Arr) (p1 : Nat) : Arr := List.getD (ln2q5 p0) (Int.toNat (↑p1 : Int)) ln2q6
def ln2q8 (p0 : Arr) (p1 : Nat) : List Int := Arr.sh (ln2q7 p0 p1)
def ln2q9 (p0 : Arr) (p1 : Nat) : Nat := LN (ln2q8 p0 p1)
def ln2q10 (p0 : Arr) (p1 : Nat) : List Int := Arr.nu (ln2q7 p0 p1)
def ln2q11 (p0 : Arr) (p1 : Nat) : Nat := LN (ln2q10 p0 p1)
def ln2q12 (p0 : Arr) (p1 : Nat) : List Arr := Arr.it (ln2q7 p0 p1)
def ln2q13 (p0 : Arr) (p1 : Nat) : Nat := LN (ln2q12 p0 p1)
end
theorem cell_step (a : Arr) (i : Nat) (lo : LOk a) (hi : i < a.nu.length + a.it.length) (hc : ConOk Tryd.prog (conRx a.it)) :
    ACalls Tryd.prog 54 [.agg a.row2, .int .i64 i] ⟨[], []⟩ (SpecR (sC [.agg a.row2, .int .i64 i] (.str (cellK a i))) ()) := by
  refine con_of (A := sC _ _) (x := ()) (E := Ecx a) (eOk hc rfl) Tryd.func54 rfl (by kernel_rfl) rfl (by simp [sC, Ecx, EC, E0]) ?_
  refine vc_eq (T :=
    ∀ (x : Nat), True → SM x ∧ ifB (Arr.k a == Z1) (SM x ∧ side (Z0 ≤ (↑i : Int) ∧ (↑i : Int) < (LI (Arr.nu a))) (inI64 (ln2q0 a i) ∧ ∀ (y : Unit), True → True ∧ ∃ (y : Unit), True ∧ showI (ln2q0 a i) = ln2q1 a i ∧ True ∧ True)) (ifB (Arr.k a == (2 : Int)) (SM x ∧ side (Z0 ≤ (↑i : Int) ∧ (↑i : Int) < (LI (Arr.nu a))) (ifB (ln2q2 a i) (true = ln2q4 a i ∧ True) (ln2q3 a i = ln2q4 a i ∧ True) ∧ ifB (ln2q4 a i) (True ∧ ∃ (y : Unit), True ∧ [(63 : UInt8)] = ln2q1 a i ∧ True ∧ True) (True ∧ ∃ (y : Unit), True ∧ Array.toList (ByteArray.data (Utf8.encode (IntKind.wrap IntKind.i32 (ln2q0 a i)))) = ln2q1 a i ∧ True ∧ True))) (SM x ∧ side (Z0 ≤ (↑i : Int) ∧ (↑i : Int) < (LI (ln2q5 a))) (∃ (x : Arr), ((Arr.k (ln2q7 a i) = Arr.k x ∧ (ln2q9 a i = LN (Arr.sh x) ∧ (∀ (i_1 : Nat), i_1 < ln2q9 a i → [ZI (GI (ln2q8 a i) i_1)] = [ZI (GI (Arr.sh x) i_1)]) ∧ True) ∧ (ln2q11 a i = LN (Arr.nu x) ∧ (∀ (i_1 : Nat), i_1 < ln2q11 a i → [ZI (GI (ln2q10 a i) i_1)] = [ZI (GI (Arr.nu x) i_1)]) ∧ True) ∧ (ln2q13 a i = LN (ln2q5 x) ∧ (∀ (i_1 : Nat), i_1 < ln2q13 a i → Arr.row (List.getD (ln2q12 a i) i_1 ln2q6) = Arr.row (List.getD (ln2q5 x) i_1 ln2q6)) ∧ True) ∧ True) ∧ True) ∧ (True ∧ True) ∧ x ∈ ln2q5 a ∧ ∀ (y : Unit), True → side (N1 + LN (litA x) ≤ (9223372036854775807 : Nat)) (side (LN ((91 : UInt8) :: List.append [] (litA x)) + N1 ≤ (9223372036854775807 : Nat)) (True ∧ ∃ (y : Unit), True ∧ (91 : UInt8) :: List.append (List.append [] (litA x)) [(93 : UInt8)] = ln2q1 a i ∧ True ∧ True)))))) (by kernel_rfl) ?_
  delta DA GI LI LN N1 SM Z0 Z1 ZI ln2q0 ln2q1 ln2q10 ln2q11 ln2q12 ln2q13 ln2q2 ln2q3 ln2q4 ln2q5 ln2q6 ln2q7 ln2q8 ln2q9
  have da : (default : Arr) = Arr.mk 0 [] [] [] := rfl
  simp only [← da, ifB_iff, side_iff, decide_eq_true_eq, decide_eq_false_iff_not, true_and, and_true, beq_iff_eq, Bool.cond_true_left, Bool.or_eq_true, Bool.or_eq_false_iff, beq_eq_false_iff_ne, ne_eq, exists_const, forall_const, Int.toNat_natCast]
  have kd := lo.kd
  have hsum := lo.sum
  have hn : a.k ≠ 3 → i < a.nu.length := fun h3 => by have := lo.no h3; rw [this] at hi; simpa using hi
  have hb : a.k = 3 → i < a.it.length := fun h3 => by have := lo.bx h3; rw [this] at hi; simpa using hi
  refine ⟨fun h1 => ⟨⟨by omega, by omega⟩, lo.ni _ (memI (by omega)), by rw [cellK, if_pos h1]⟩, fun h1 => ⟨fun h2 => ⟨⟨by omega, by omega⟩, ⟨fun h => by rw [decide_eq_true h]; rfl, fun h => by rw [decide_eq_false h]; rfl⟩, fun h => by rw [cellK, if_neg h1, if_neg (by omega), if_pos h], fun ⟨h4, h5⟩ => ?_⟩, fun h2 => ?_⟩⟩
  · have e : IntKind.i32.wrap (a.nu.getD i 0) = a.nu.getD i 0 := by rw [IntKind.wrap_i32]; omega
    rw [e, cellK, if_neg h1, if_neg (by omega), if_neg (by omega)]; rfl
  · have hm := mem_getD (l := a.it) (i := i) (by omega)
    have hl := mem_sum hm
    refine ⟨⟨by omega, by omega⟩, a.it.getD i default, ⟨rfl, ⟨rfl, fun _ _ => rfl⟩, ⟨rfl, fun _ _ => rfl⟩, rfl, fun _ _ => rfl⟩, hm, by omega, by simp only [List.length_cons, app_nil']; omega, ?_⟩
    rw [cellK, if_neg h1, if_pos (by omega)]; rfl
def sTx (row : Arr → List D) (a : Arr) : FnSpec where
  β := Nat
  α := Unit
  args := fun i => [.agg (row a), .int .i64 i]
  st := fun _ => ⟨[], []⟩
  pre := fun i => i < a.nu.length + a.it.length
  post := fun _ _ => True
  res := fun i _ => .ret (.str (cellK a i))
  out := fun _ _ => ⟨[], []⟩
theorem conTx_ok {its : List Arr} (h : ∀ b ∈ its, b.ok ∧ (chkA b).1 = 0) : ConOk Tryd.prog (conTx its) := by
  intro k ds S A hk
  unfold conTx at hk
  split at hk
  · injection hk with hk; subst hk
    exact ConOk.plain (fun (b : Arr) hb => sRc_row (lit_all b (h b hb).1 (h b hb).2)) rfl rfl
  · exact conJn_ok _ _ _ _ hk
theorem conRx_ok {its : List Arr} (h : ∀ b ∈ its, b.ok ∧ (chkA b).1 = 0) : ConOk Tryd.prog (conRx its) := by
  intro k ds S A hk
  unfold conRx at hk
  split at hk
  · injection hk with hk; subst hk
    exact ConOk.plain (fun (b : Arr) hb => sRc_row (rlit_all b (h b hb).1 (h b hb).2)) rfl rfl
  · exact conJn_ok _ _ _ _ hk
theorem items_ok {a : Arr} (ho : a.ok) (h : (chkA a).1 = 0) : ∀ b ∈ a.it, b.ok ∧ (chkA b).1 = 0 := by
  cases a with
  | mk k s n is =>
    simp only [Arr.ok] at ho
    exact fun b hb => ⟨(okL_iff _).1 ho.2.2.2.2.2.2 b hb, (chkA_zero h).2.2.2 b hb⟩
theorem text_ok {a : Arr} (ho : a.ok) (h : (chkA a).1 = 0) (i : Nat) (hi : i < a.nu.length + a.it.length) : ACalls Tryd.prog 21 ((sTx Arr.row2 a).args i) ⟨[], []⟩ (SpecR (sTx Arr.row2 a) i) :=
  (text_step a i (lok_of ho h) hi (conTx_ok (items_ok ho h))).mono fun _ _ ⟨y, q1, q2, q3⟩ => ⟨y, q1, q2, q3⟩
theorem cell_ok {a : Arr} (ho : a.ok) (h : (chkA a).1 = 0) (i : Nat) (hi : i < a.nu.length + a.it.length) : ACalls Tryd.prog 54 ((sTx Arr.row2 a).args i) ⟨[], []⟩ (SpecR (sTx Arr.row2 a) i) :=
  (cell_step a i (lok_of ho h) hi (conRx_ok (items_ok ho h))).mono fun _ _ ⟨y, q1, q2, q3⟩ => ⟨y, q1, q2, q3⟩
theorem cell_len {a : Arr} (lo : LOk a) (i : Nat) (hi : i < a.nu.length + a.it.length) : (cellK a i).length ≤ 157286402 := by
  unfold cellK
  split
  · have := show_len' (lo.ni _ (memI (l := a.nu) (i := i) (by
      have := lo.no (by omega); rw [this] at hi; simpa using hi)))
    omega
  split
  · have := lo.bx (by omega)
    rw [this] at hi
    have hm := mem_getD (l := a.it) (i := i) (by simpa using hi)
    have hl := mem_sum hm
    have := lo.sum
    simp only [List.length_cons, List.length_append, List.length_nil]; omega
  split
  · simp
  · have := utf8_len (a.nu.getD i 0)
    omega
end Go.Proofs.YtpgepjefbhgblaaDoor
namespace Go.Proofs.YtpgepjefbhgblaaDoor
open Go Go.Ab
set_option maxRecDepth 100000
def wdS (g : Nat → Nat) (cols : Nat) : Nat → Nat → Nat
  | 0, _ => 0
  | i + 1, c => if i % cols = c then (if wdS g cols i c < g i then g i else wdS g cols i c) else wdS g cols i c
def padK (w : Nat) (t : List UInt8) : List UInt8 := Lib.repeatL [32] (w - t.length) ++ t
def sepK (k : Int) : List UInt8 := if k = 2 then [] else [32]
def lenK (a : Arr) (at0 : Nat) (i : Nat) : Nat := (cellK a (at0 + i)).length
def rowK (a : Arr) (at0 rows cols r : Nat) : List (List UInt8) := (List.range cols).map fun j => padK (wdS (lenK a at0) cols (rows * cols) j) (cellK a (at0 + r * cols + j))
def lineK (a : Arr) (at0 rows cols r : Nat) : List UInt8 := Lib.join (rowK a at0 rows cols r) (sepK a.k)
def matK (a : Arr) (at0 rows cols : Nat) : List (List UInt8) := (List.range rows).map fun r => lineK a at0 rows cols r
theorem wdS_le {g : Nat → Nat} {cols B : Nat} : ∀ {i : Nat} (c : Nat), (∀ j, j < i → g j ≤ B) → wdS g cols i c ≤ B
  | 0, _, _ => Nat.zero_le _
  | i + 1, c, h => by
    have h1 := wdS_le (g := g) (cols := cols) (B := B) (i := i) c fun j hj => h j (by omega)
    have h2 := h i (by omega)
    simp only [wdS]
    split
    · split <;> omega
    · exact h1
theorem wdS_ge {g : Nat → Nat} {cols : Nat} : ∀ {i : Nat} {j : Nat}, j < i → g j ≤ wdS g cols i (j % cols)
  | 0, j, h => absurd h (by omega)
  | i + 1, j, h => by
    simp only [wdS]
    by_cases e : j = i
    · subst e
      rw [if_pos rfl]
      split <;> omega
    · have := wdS_ge (g := g) (cols := cols) (i := i) (j := j) (by omega)
      split
      · split <;> omega
      · exact this
theorem lo_size {a : Arr} (lo : LOk a) : a.nu.length + a.it.length ≤ 65536 := by
  have h1 := lo.n6
  have h2 := lo.i6
  by_cases h3 : a.k = 3
  · have := lo.bx h3; rw [this]; simpa using h2
  · have := lo.no h3; rw [this]; simpa using h1
theorem mul_row {r rows cols : Nat} (h : r < rows) : r * cols + cols ≤ rows * cols := by
  have := Nat.mul_le_mul_right cols (show r + 1 ≤ rows from h)
  rw [Nat.add_mul] at this; omega
theorem padK_len {w : Nat} {t : List UInt8} (h : t.length ≤ w) : (padK w t).length = w := by
  simp only [padK, List.length_append, Lib.repeatL_length, List.length_cons, List.length_nil]; omega
theorem rowK_len (a : Arr) (at0 rows cols r : Nat) : (rowK a at0 rows cols r).length = cols := by simp [rowK]
theorem rowK_get (a : Arr) (at0 rows cols r : Nat) {j : Nat} (h : j < cols) : (rowK a at0 rows cols r).getD j [] = padK (wdS (lenK a at0) cols (rows * cols) j) (cellK a (at0 + r * cols + j)) := by
  simp [rowK, List.getD_eq_getElem?_getD, h]
theorem wd_ok {a : Arr} (lo : LOk a) {at0 rows cols : Nat} (hs : at0 + rows * cols ≤ a.nu.length + a.it.length) {r j : Nat} (hr : r < rows) (hj : j < cols) :
    (cellK a (at0 + r * cols + j)).length ≤ wdS (lenK a at0) cols (rows * cols) j ∧ wdS (lenK a at0) cols (rows * cols) j ≤ 157286402 := by
  have hm := mul_row (cols := cols) hr
  refine ⟨?_, wdS_le _ fun i hi => cell_len lo _ (by omega)⟩
  have := wdS_ge (g := lenK a at0) (cols := cols) (i := rows * cols) (j := r * cols + j) (by omega)
  rw [Nat.mul_comm r cols, Nat.mul_add_mod, Nat.mod_eq_of_lt hj] at this
  rw [Nat.mul_comm r cols, Nat.add_assoc]
  exact this
theorem rowK_mem {a : Arr} (lo : LOk a) {at0 rows cols : Nat} (hs : at0 + rows * cols ≤ a.nu.length + a.it.length) {r : Nat} (hr : r < rows) : ∀ x ∈ rowK a at0 rows cols r, x.length ≤ 157286402 := by
  intro x hx
  obtain ⟨j, hj, rfl⟩ := List.mem_map.1 hx
  obtain ⟨h1, h2⟩ := wd_ok lo hs hr (List.mem_range.1 hj)
  rw [padK_len h1]; exact h2
theorem lineK_len {a : Arr} (lo : LOk a) {at0 rows cols : Nat} (hs : at0 + rows * cols ≤ a.nu.length + a.it.length) {r : Nat} (hr : r < rows) : (lineK a at0 rows cols r).length ≤ 157286403 * cols := by
  have := join_len (sepK a.k) 157286402 (rowK a at0 rows cols r) (rowK_mem lo hs hr)
  rw [rowK_len] at this
  refine Nat.le_trans this (Nat.mul_le_mul_right _ ?_)
  unfold sepK
  split <;> simp
theorem row_join {a : Arr} (lo : LOk a) {at0 rows cols : Nat} (hcl : cols ≤ 65536) (hs : at0 + rows * cols ≤ a.nu.length + a.it.length) {r : Nat} (hr : r < rows) : joinOk (rowK a at0 rows cols r) (sepK a.k) := by
  have h1 := lineK_len lo hs hr
  refine ⟨by rw [rowK_len]; omega, ?_⟩
  show (lineK a at0 rows cols r).length ≤ _
  omega
theorem matK_len (a : Arr) (at0 rows cols : Nat) : (matK a at0 rows cols).length = rows := by simp [matK]
theorem tmod_nat (x c : Nat) : ((x : Int)).tmod (c : Int) = ((x % c : Nat) : Int) := (Int.ofNat_tmod x c).symm
end Go.Proofs.YtpgepjefbhgblaaDoor
namespace Go.Proofs.YtpgepjefbhgblaaDoor
open Go Go.Ab
set_option maxRecDepth 100000
def vsKey : D → Nat
  | .vs k _ _ _ _ => k
  | _ => 0
def intOf : D → Int
  | .int _ z => z
  | _ => 0
def wdR (a : Arr) (at0 cols i : Nat) (c : Nat) : List D := [.int .i64 (wdS (lenK a at0) cols i c)]
def conMx (a : Arr) : Con := fun k ds S => match k with
  | 21 => some (sTx Arr.row2 a)
  | 50 => conR k ds S
  | k => conJn k ds S
noncomputable def Emx (a : Arr) (at0 rows cols : Nat) : Senv := { EC (conMx a) 87 5 [8, 9, 10, 11, 12, 13, 14, 15, 16, 17, 20, 25, 26, 27, 48, 49, 50, 52, 53, 54, 55] (fun id => match id with | 8 => ([0, 1, 2, 3, 4, 5, 6, 7, 8, 9, 10, 11, 12, 13, 14, 15, 16, 17, 18], [14, 18]) | _ => ([], [])) with
  gh := fun b => match b with
    | 2 => [.slot 12]
    | 4 => [.slot 14]
    | _ => []
  ann := fun b env S => match b with
    | 0 => some { slots := [26], keep := [1, 2, 3, 4, 9, 10, 25], α := Nat, st := fun i => ([.int .i64 i], ⟨setO S.objs (vsKey (Ab.look env 10)) (.vec 1 cols cols (wdR a at0 cols i)), S.toks⟩), inv := fun i => i ≤ rows * cols, mu := fun i => rows * cols - i }
    | 2 => some { slots := [49, 12], keep := [1, 2, 3, 4, 9, 10, 48], α := Nat × Nat, st := fun y => ([.int .i64 y.1, ssl ((List.range y.1).map fun r => lineK a at0 rows cols r) (.tok 0 y.2)], ⟨S.objs, [(0, y.2)]⟩), inv := fun y => y.1 ≤ rows, mu := fun y => rows - y.1 }
    | 4 => some { slots := [54, 14], keep := [1, 2, 3, 4, 9, 10, 12, 13, 48, 49, 52, 53], α := Nat × Nat, st := fun y => ([.int .i64 y.1, ssl ((rowK a at0 rows cols (Int.toNat (intOf (Ab.look env 13)))).take y.1) (.tok 1 y.2)], ⟨S.objs, (1, y.2) :: S.toks.tail⟩), inv := fun y => y.1 ≤ cols, mu := fun y => cols - y.1 }
    | _ => none }
noncomputable section
def mx1q0 (p0 : Nat) : Nat := Int.toNat (↑p0 : Int)
def mx1q1 (p0 : Arr) (p1 p2 p3 p4 : Nat) : List D := [ZI (NI (wdS (lenK p0 p1) p2 p3 p4))]
def mx1q2 (p0 : Arr) : Nat := LN (Arr.sh p0)
def mx1q3 (p0 : Arr) : Nat := LN (Arr.nu p0)
def mx1q4 (p0 : Arr) : Nat := LN (Arr.it p0)
def mx1q5 : Arr := DA
def mx1q6 (p0 : Arr) (p1 : Nat) : Arr := List.getD (Arr.it p0) p1 mx1q5
def mx1q7 (p0 : Arr) (p1 : Nat) : List Int := Arr.sh (mx1q6 p0 p1)
def mx1q8 (p0 : Arr) (p1 : Nat) : List Int := Arr.nu (mx1q6 p0 p1)
def mx1q9 (p0 : Arr) (p1 : Nat) : List Arr := Arr.it (mx1q6 p0 p1)
def mx1q10 (p0 : Arr) (p1 : Nat) : List D := [ZI (Arr.k (mx1q6 p0 p1)), SI (mx1q7 p0 p1), SI (mx1q8 p0 p1), D.sl N4 (LN (mx1q9 p0 p1)) (fun (i : Nat) => Arr.row (List.getD (mx1q9 p0 p1) i mx1q5)) Mode.any]
def mx1q11 (p0 : Arr) : Prop := SM (Arr.k p0) ∧ (SM (mx1q2 p0) ∧ (∀ (i : Nat), i < mx1q2 p0 → SM [ZI (GI (Arr.sh p0) i)]) ∧ True) ∧ (SM (mx1q3 p0) ∧ (∀ (i : Nat), i < mx1q3 p0 → SM [ZI (GI (Arr.nu p0) i)]) ∧ True) ∧ (SM (mx1q4 p0) ∧ (∀ (i : Nat), i < mx1q4 p0 → SM (mx1q10 p0 i)) ∧ True) ∧ True
def mx1q12 (p0 : Nat) (p1 : Arr) : Prop := SM p0 ∧ mx1q11 p1 ∧ True
def mx1q13 (p0 p1 p2 : Nat) (p3 : Arr) (p4 p5 : Nat) : Prop := ∃ (x : Nat), x ≤ p0 * p1 ∧ (Z0 = (↑x : Int) ∧ True) ∧ (SM p2 ∧ (mx1q0 p1 = p1 ∧ mx1q0 p1 = p1 ∧ ∀ (i : Nat), i < mx1q0 p1 → [ZI Z0] = mx1q1 p3 p4 p1 x i) ∧ mx1q12 p5 p3) ∧ True
def mx1q14 (p0 p1 : Nat) : Int := IntKind.wrap IntKind.i64 ((↑p0 : Int) * (↑p1 : Int))
def mx1q15 (p0 p1 : Nat) : Int := Int.tmod (↑p0 : Int) (↑p1 : Int)
def mx1q16 (p0 : Nat) : Int := (NI (mx1q0 p0))
def mx1q17 (p0 p1 : Nat) : Nat := Int.toNat (mx1q15 p0 p1)
def mx1q18 (p0 : Arr) (p1 p2 p3 : Nat) : Prop := mx1q11 p0 ∧ IntKind.wrap IntKind.i64 ((↑p1 : Int) + (↑p2 : Int)) = (↑p3 : Int) ∧ True
def mx1q19 (p0 : Nat) (p1 : Arr) : Prop := p0 < mx1q3 p1 + mx1q4 p1
def mx1q20 (p0 : Arr) (p1 p2 p3 : Nat) : Int := (NI (wdS (lenK p0 p1) p2 p3 (mx1q17 p3 p2)))
def mx1q21 (p0 : Arr) (p1 p2 p3 : Nat) : D := ZI (mx1q20 p0 p1 p2 p3)
def mx1q22 (p0 p1 p2 : Nat) (p3 : Arr) (p4 : Nat) : Prop := SM p0 ∧ side (mx1q17 p1 p2 < p2) (SM (mx1q21 p3 p4 p2 p1))
def mx1q23 (p0 : Nat) : Prop := SM (ZI (↑p0 : Int))
def mx1q24 (p0 : Nat) : Prop := SM (D.ref N0 p0 N0)
def mx1q25 : Prop := SM (D.str [])
def mx1q26 (p0 p1 : Nat) : D := D.vs (max (N0 + N1) N0) p0 (mx1q0 p1) (mx1q0 p1) N1
def mx1q27 (p0 p1 : Nat) : Prop := SM (mx1q26 p0 p1)
def mx1q28 (p0 p1 p2 : Nat) : Prop := mx1q27 p0 p1 ∧ SM (ZI (mx1q14 p2 p1)) ∧ True
def mx1q29 (p0 p1 : Nat) : Prop := IntKind.wrap IntKind.i64 ((↑p0 : Int) + Z1) = (↑p1 : Int)
def mx1q30 (p0 : Arr) (p1 : Nat) : Int := (LI (cellK p0 p1))
def mx1q31 (p0 p1 p2 p3 : Nat) (p4 : Arr) (p5 p6 p7 : Nat) : Prop := ∃ (y : Nat), y ≤ p0 * p1 ∧ p0 * p1 - y < p0 * p1 - p2 ∧ (mx1q29 p2 y ∧ True) ∧ (SM p3 ∧ (SM p1 ∧ SM p1 ∧ ∀ (i : Nat), i < p1 → updF (fun (c : Nat) => mx1q1 p4 p5 p1 p2 c) (mx1q17 p2 p1) [ZI (if mx1q20 p4 p5 p1 p2 < mx1q30 p4 p6 then mx1q30 p4 p6 else mx1q20 p4 p5 p1 p2)] i = mx1q1 p4 p5 p1 y i) ∧ mx1q12 p7 p4) ∧ True
def mx1q32 (p0 : Arr) (p1 p2 p3 p4 : Nat) : Nat := LN (List.map (fun (r : Nat) => lineK p0 p1 p2 p3 r) (List.range p4))
def mx1q33 (p0 : Arr) (p1 p2 p3 p4 p5 : Nat) : List D := [D.str (List.getD (List.map (fun (r : Nat) => lineK p0 p1 p2 p3 r) (List.range p4)) p5 [])]
def mx1q34 (p0 p1 : Nat) (p2 : Arr) (p3 p4 p5 : Nat) : Prop := SM p0 ∧ (SM p1 ∧ SM p1 ∧ ∀ (i : Nat), i < p1 → SM (mx1q1 p2 p3 p1 p4 i)) ∧ mx1q12 p5 p2
def mx1q35 (p0 p1 : Nat) (p2 : Arr) (p3 p4 p5 p6 p7 : Nat) : Prop := mx1q34 p0 p1 p2 p3 p4 p5 ∧ p6 = p7 ∧ True
def mx1q36 (p0 : Nat) (p1 : Arr) (p2 p3 p4 p5 p6 p7 : Nat) : Prop := ∃ (x : Nat × Nat), x.1 ≤ p0 ∧ (Z0 = (NI x.1) ∧ (N0 = mx1q32 p1 p2 p0 p3 x.1 ∧ (∀ (i : Nat), i < N0 → eqOf (List D) [] (mx1q33 p1 p2 p0 p3 x.1 i)) ∧ p4 = x.2) ∧ True) ∧ mx1q35 p5 p3 p1 p2 p6 p7 p4 x.2
def mx1q37 (p0 : Nat) (p1 : Arr) (p2 p3 p4 p5 : Nat) : Nat := LN (List.take p0 (rowK p1 p2 p3 p4 (Int.toNat (intOf (ZI (↑p5 : Int))))))
def mx1q38 (p0 : Nat) (p1 : Arr) (p2 p3 p4 p5 p6 : Nat) : List D := [D.str (List.getD (List.take p0 (rowK p1 p2 p3 p4 (Int.toNat (intOf (ZI (↑p5 : Int)))))) p6 [])]
def mx1q39 (p0 p1 : Nat) (p2 : Arr) (p3 p4 p5 p6 p7 p8 : Nat) : Prop := mx1q34 p0 p1 p2 p3 p4 p5 ∧ p6 = p7 ∧ SM p8 ∧ True
def mx1q40 (p0 : Nat) (p1 : Arr) (p2 p3 p4 p5 p6 p7 p8 p9 : Nat) : Prop := ∃ (x : Nat × Nat), x.1 ≤ p0 ∧ (Z0 = (NI x.1) ∧ (N0 = mx1q37 x.1 p1 p2 p3 p0 p4 ∧ (∀ (i : Nat), i < N0 → eqOf (List D) [] (mx1q38 x.1 p1 p2 p3 p0 p4 i)) ∧ p5 = x.2) ∧ True) ∧ mx1q39 p6 p0 p1 p2 p7 p8 p5 x.2 p9
def mx1q41 (p0 : Arr) (p1 p2 p3 p4 p5 : Nat) : Prop := mx1q11 p0 ∧ IntKind.wrap IntKind.i64 (IntKind.wrap IntKind.i64 ((↑p1 : Int) + mx1q14 p2 p3) + (↑p4 : Int)) = (↑p5 : Int) ∧ True
def mx1q42 (p0 : Arr) (p1 p2 p3 p4 p5 : Nat) : Int := IntKind.wrap IntKind.i64 ((NI (wdS (lenK p0 p1) p2 p3 (mx1q0 p4))) - mx1q30 p0 p5)
def mx1q43 (p0 : Arr) (p1 p2 p3 p4 p5 : Nat) : Nat := Int.toNat (mx1q42 p0 p1 p2 p3 p4 p5)
def mx1q44 (p0 : Arr) (p1 p2 p3 p4 p5 : Nat) : Prop := Z0 ≤ mx1q42 p0 p1 p2 p3 p4 p5 ∧ mx1q42 p0 p1 p2 p3 p4 p5 ≤ (9223372036854775807 : Int) ∧ N1 * mx1q43 p0 p1 p2 p3 p4 p5 ≤ (140737488355328 : Nat)
def mx1q45 (p0 : Arr) (p1 p2 p3 p4 p5 : Nat) : List UInt8 := Lib.repeatL [(32 : UInt8)] (mx1q43 p0 p1 p2 p3 p4 p5)
def mx1q46 (p0 : Arr) (p1 p2 p3 p4 p5 : Nat) : Nat := LN (mx1q45 p0 p1 p2 p3 p4 p5) + LN (cellK p0 p5)
def mx1q47 (p0 : Nat) (p1 : Arr) (p2 p3 p4 p5 : Nat) : Nat := mx1q37 p0 p1 p2 p3 p4 p5 + N1
def mx1q48 (p0 : Nat) (p1 : Arr) (p2 p3 p4 p5 : Nat) : Nat := mx1q47 p0 p1 p2 p3 p4 p5 * (16 : Nat)
def mx1q49 (p0 : Arr) (p1 p2 p3 p4 p5 : Nat) : D := D.sl N1 (mx1q32 p0 p1 p2 p3 p4) (fun (i : Nat) => mx1q33 p0 p1 p2 p3 p4 i) (Mode.tok N0 p5)
def mx1q50 (p0 p1 : Nat) (p2 : Arr) (p3 p4 p5 p6 : Nat) : Prop := mx1q27 p0 p1 ∧ SM (mx1q49 p2 p3 p4 p1 p5 p6) ∧ mx1q23 p5 ∧ mx1q23 p4 ∧ mx1q23 p5 ∧ mx1q27 p0 p1 ∧ SM (ZI (mx1q16 p1)) ∧ True
def mx1q51 (p0 p1 : Nat) (p2 : Arr) (p3 p4 p5 p6 p7 p8 p9 p10 p11 : Nat) : Prop := ∃ (y : Nat × Nat), y.1 ≤ p0 ∧ p0 - y.1 < p0 - p1 ∧ (mx1q29 p1 y.1 ∧ (mx1q47 p1 p2 p3 p4 p0 p5 = mx1q37 y.1 p2 p3 p4 p0 p5 ∧ (∀ (i : Nat), i < mx1q47 p1 p2 p3 p4 p0 p5 → appF (mx1q37 p1 p2 p3 p4 p0 p5) (fun (i : Nat) => mx1q38 p1 p2 p3 p4 p0 p5 i) (fun (i : Nat) => List.getD [[D.str (mx1q45 p2 p3 p0 p6 p1 p7 ++ cellK p2 p7)]] i []) i = mx1q38 y.1 p2 p3 p4 p0 p5 i) ∧ p8 = y.2) ∧ True) ∧ mx1q39 p9 p0 p2 p3 p6 p10 p8 y.2 p11
def mx1q52 (p0 : Nat) (p1 : Arr) (p2 p3 p4 p5 : Nat) : Prop := (strsB (mx1q37 p0 p1 p2 p3 p4 p5) fun (i : Nat) => mx1q38 p0 p1 p2 p3 p4 p5 i) = true
def mx1q53 (p0 : Nat) (p1 : Arr) (p2 p3 p4 p5 : Nat) : List (List UInt8) := strsOf (mx1q37 p0 p1 p2 p3 p4 p5) fun (i : Nat) => mx1q38 p0 p1 p2 p3 p4 p5 i
def mx1q54 (p0 : Arr) (p1 p2 p3 p4 : Nat) : Nat := mx1q32 p0 p1 p2 p3 p4 + N1
def mx1q55 (p0 p1 p2 : Nat) : Prop := mx1q27 p0 p1 ∧ mx1q23 p2 ∧ True
def mx1q56 (p0 : Arr) (p1 p2 p3 p4 p5 : Nat) : Prop := mx1q54 p0 p1 p2 p3 p4 = mx1q32 p0 p1 p2 p3 p5
def mx1q57 (p0 : Arr) (p1 p2 p3 p4 : Nat) : Prop := True ∧ ∃ (_y : Unit), True ∧ (mx1q32 p0 p1 p2 p3 p4 = LN (matK p0 p1 p2 p3) ∧ (∀ (i : Nat), i < mx1q32 p0 p1 p2 p3 p4 → mx1q33 p0 p1 p2 p3 p4 i = [D.str (List.getD (matK p0 p1 p2 p3) i [])]) ∧ True) ∧ True ∧ True
def mx1q58 : Prop := SM (D.str [(32 : UInt8)])
end
theorem mat_ok (a : Arr) (at0 rows cols : Nat) (lo : LOk a) (hr : rows ≤ 65536) (hcl : cols ≤ 65536) (hs : at0 + rows * cols ≤ a.nu.length + a.it.length) (hc : ConOk Tryd.prog (conMx a)) :
    ACalls Tryd.prog 22 [.agg a.row2, .int .i64 at0, .int .i64 rows, .int .i64 cols] ⟨[], []⟩ (SpecR (sC [.agg a.row2, .int .i64 at0, .int .i64 rows, .int .i64 cols] (ssl (matK a at0 rows cols) .any)) ()) := by
  refine con_of (A := sC _ _) (x := ()) (E := Emx a at0 rows cols) (eOk hc rfl) Tryd.func22 rfl (by kernel_rfl) rfl (by simp [sC, Emx, EC, E0]) ?_
  refine vc_eq (T :=
    ∀ (x : Nat), True → SM x ∧ ifB (Arr.k a == (2 : Int)) (side (Z0 ≤ (↑cols : Int) ∧ (↑cols : Int) ≤ (↑cols : Int) ∧ (8 : Int) * (↑cols : Int) ≤ (281474976710656 : Int) ∧ (↑cols : Int) ≤ (9223372036854775807 : Int)) (∀ (x_1 : Nat), x ≠ x_1 ∧ True → mx1q13 rows cols x_1 a at0 x ∧ ∀ (x_2 : Nat), x_2 ≤ rows * cols → ifB (decide ((↑x_2 : Int) < mx1q14 rows cols)) (side ((↑cols : Int) ≠ Z0) (side ((↑cols : Int) ≠ Z0) (side (Z0 ≤ mx1q15 x_2 cols ∧ mx1q15 x_2 cols < mx1q16 cols) (SM x_1 ∧ side (mx1q17 x_2 cols < cols) (SM x ∧ ∃ (x_3 : Nat), mx1q18 a at0 x_2 x_3 ∧ (True ∧ True) ∧ mx1q19 x_3 a ∧ ∀ (y : Unit), True → mx1q22 x_1 x_2 cols a at0 ∧ side (Z0 ≤ mx1q15 x_2 cols ∧ mx1q15 x_2 cols < mx1q16 cols) (SM x_1 ∧ side (mx1q17 x_2 cols < cols) ((mx1q23 at0 ∧ mx1q23 rows ∧ mx1q23 cols ∧ mx1q24 x ∧ mx1q25 ∧ mx1q28 x_1 cols rows) ∧ mx1q31 rows cols x_2 x_1 a at0 x_3 x))))))) (∀ (t : Nat), mx1q36 rows a at0 cols t x_1 x_2 x ∧ ∀ (x_3 : Nat × Nat), x_3.1 ≤ rows → ifB (decide ((NI x_3.1) < (↑rows : Int))) (∀ (t : Nat), mx1q40 cols a at0 rows x_3.1 t x_1 x_2 x x_3.2 ∧ ∀ (x_4 : Nat × Nat), x_4.1 ≤ cols → ifB (decide ((NI x_4.1) < mx1q16 cols)) (side (Z0 ≤ (NI x_4.1) ∧ (NI x_4.1) < mx1q16 cols) (SM x_1 ∧ side (mx1q0 x_4.1 < cols) (SM x ∧ ∃ (x_5 : Nat), mx1q41 a at0 x_3.1 cols x_4.1 x_5 ∧ (True ∧ True) ∧ mx1q19 x_5 a ∧ ∀ (y : Unit), True → mx1q44 a at0 cols x_2 x_4.1 x_5 ∧ ∀ (y : Unit), True → side (mx1q46 a at0 cols x_2 x_4.1 x_5 ≤ (9223372036854775807 : Nat)) (SM x_4.2 ∧ side (mx1q48 x_4.1 a at0 rows cols x_3.1 ≤ (140737488355328 : Nat) ∧ mx1q47 x_4.1 a at0 rows cols x_3.1 ≤ (9223372036854775807 : Nat)) (∀ (t : Nat), (mx1q23 at0 ∧ mx1q23 rows ∧ mx1q23 cols ∧ mx1q24 x ∧ mx1q25 ∧ mx1q50 x_1 cols a at0 rows x_3.1 x_3.2) ∧ mx1q51 cols x_4.1 a at0 rows x_3.1 x_2 x_5 t x_1 x x_3.2))))) ((mx1q52 x_4.1 a at0 rows cols x_3.1 ∧ joinOk (mx1q53 x_4.1 a at0 rows cols x_3.1) []) ∧ ∀ (y : Unit), True → SM x_3.2 ∧ side (mx1q54 a at0 rows cols x_3.1 * (16 : Nat) ≤ (140737488355328 : Nat) ∧ mx1q54 a at0 rows cols x_3.1 ≤ (9223372036854775807 : Nat)) (∀ (t : Nat), (mx1q23 at0 ∧ mx1q23 rows ∧ mx1q23 cols ∧ mx1q24 x ∧ mx1q25 ∧ mx1q55 x_1 cols rows) ∧ ∃ (y : Nat × Nat), y.1 ≤ rows ∧ rows - y.1 < rows - x_3.1 ∧ (mx1q29 x_3.1 y.1 ∧ (mx1q56 a at0 rows cols x_3.1 y.1 ∧ (∀ (i : Nat), i < mx1q54 a at0 rows cols x_3.1 → appF (mx1q32 a at0 rows cols x_3.1) (fun (i : Nat) => mx1q33 a at0 rows cols x_3.1 i) (fun (i : Nat) => List.getD [[D.str (Lib.join (mx1q53 x_4.1 a at0 rows cols x_3.1) [])]] i []) i = mx1q33 a at0 rows cols y.1 i) ∧ t = y.2) ∧ True) ∧ mx1q35 x_1 cols a at0 x_2 x t y.2))) (mx1q57 a at0 rows cols x_3.1)))) (side (Z0 ≤ (↑cols : Int) ∧ (↑cols : Int) ≤ (↑cols : Int) ∧ (8 : Int) * (↑cols : Int) ≤ (281474976710656 : Int) ∧ (↑cols : Int) ≤ (9223372036854775807 : Int)) (∀ (x_1 : Nat), x ≠ x_1 ∧ True → mx1q13 rows cols x_1 a at0 x ∧ ∀ (x_2 : Nat), x_2 ≤ rows * cols → ifB (decide ((↑x_2 : Int) < mx1q14 rows cols)) (side ((↑cols : Int) ≠ Z0) (side ((↑cols : Int) ≠ Z0) (side (Z0 ≤ mx1q15 x_2 cols ∧ mx1q15 x_2 cols < mx1q16 cols) (SM x_1 ∧ side (mx1q17 x_2 cols < cols) (SM x ∧ ∃ (x_3 : Nat), mx1q18 a at0 x_2 x_3 ∧ (True ∧ True) ∧ mx1q19 x_3 a ∧ ∀ (y : Unit), True → mx1q22 x_1 x_2 cols a at0 ∧ side (Z0 ≤ mx1q15 x_2 cols ∧ mx1q15 x_2 cols < mx1q16 cols) (SM x_1 ∧ side (mx1q17 x_2 cols < cols) ((mx1q23 at0 ∧ mx1q23 rows ∧ mx1q23 cols ∧ mx1q24 x ∧ mx1q58 ∧ mx1q28 x_1 cols rows) ∧ mx1q31 rows cols x_2 x_1 a at0 x_3 x))))))) (∀ (t : Nat), mx1q36 rows a at0 cols t x_1 x_2 x ∧ ∀ (x_3 : Nat × Nat), x_3.1 ≤ rows → ifB (decide ((NI x_3.1) < (↑rows : Int))) (∀ (t : Nat), mx1q40 cols a at0 rows x_3.1 t x_1 x_2 x x_3.2 ∧ ∀ (x_4 : Nat × Nat), x_4.1 ≤ cols → ifB (decide ((NI x_4.1) < mx1q16 cols)) (side (Z0 ≤ (NI x_4.1) ∧ (NI x_4.1) < mx1q16 cols) (SM x_1 ∧ side (mx1q0 x_4.1 < cols) (SM x ∧ ∃ (x_5 : Nat), mx1q41 a at0 x_3.1 cols x_4.1 x_5 ∧ (True ∧ True) ∧ mx1q19 x_5 a ∧ ∀ (y : Unit), True → mx1q44 a at0 cols x_2 x_4.1 x_5 ∧ ∀ (y : Unit), True → side (mx1q46 a at0 cols x_2 x_4.1 x_5 ≤ (9223372036854775807 : Nat)) (SM x_4.2 ∧ side (mx1q48 x_4.1 a at0 rows cols x_3.1 ≤ (140737488355328 : Nat) ∧ mx1q47 x_4.1 a at0 rows cols x_3.1 ≤ (9223372036854775807 : Nat)) (∀ (t : Nat), (mx1q23 at0 ∧ mx1q23 rows ∧ mx1q23 cols ∧ mx1q24 x ∧ mx1q58 ∧ mx1q50 x_1 cols a at0 rows x_3.1 x_3.2) ∧ mx1q51 cols x_4.1 a at0 rows x_3.1 x_2 x_5 t x_1 x x_3.2))))) ((mx1q52 x_4.1 a at0 rows cols x_3.1 ∧ joinOk (mx1q53 x_4.1 a at0 rows cols x_3.1) [(32 : UInt8)]) ∧ ∀ (y : Unit), True → SM x_3.2 ∧ side (mx1q54 a at0 rows cols x_3.1 * (16 : Nat) ≤ (140737488355328 : Nat) ∧ mx1q54 a at0 rows cols x_3.1 ≤ (9223372036854775807 : Nat)) (∀ (t : Nat), (mx1q23 at0 ∧ mx1q23 rows ∧ mx1q23 cols ∧ mx1q24 x ∧ mx1q58 ∧ mx1q55 x_1 cols rows) ∧ ∃ (y : Nat × Nat), y.1 ≤ rows ∧ rows - y.1 < rows - x_3.1 ∧ (mx1q29 x_3.1 y.1 ∧ (mx1q56 a at0 rows cols x_3.1 y.1 ∧ (∀ (i : Nat), i < mx1q54 a at0 rows cols x_3.1 → appF (mx1q32 a at0 rows cols x_3.1) (fun (i : Nat) => mx1q33 a at0 rows cols x_3.1 i) (fun (i : Nat) => List.getD [[D.str (Lib.join (mx1q53 x_4.1 a at0 rows cols x_3.1) [(32 : UInt8)])]] i []) i = mx1q33 a at0 rows cols y.1 i) ∧ t = y.2) ∧ True) ∧ mx1q35 x_1 cols a at0 x_2 x t y.2))) (mx1q57 a at0 rows cols x_3.1))))) (by kernel_rfl) ?_
  delta DA GI LI LN N0 N1 N4 NI SI SM Z0 Z1 ZI mx1q0 mx1q1 mx1q10 mx1q11 mx1q12 mx1q13 mx1q14 mx1q15 mx1q16 mx1q17 mx1q18 mx1q19 mx1q2 mx1q20 mx1q21 mx1q22 mx1q23 mx1q24 mx1q25 mx1q26 mx1q27 mx1q28 mx1q29 mx1q3 mx1q30 mx1q31 mx1q32 mx1q33 mx1q34 mx1q35 mx1q36 mx1q37 mx1q38 mx1q39 mx1q4 mx1q40 mx1q41 mx1q42 mx1q43 mx1q44 mx1q45 mx1q46 mx1q47 mx1q48 mx1q49 mx1q5 mx1q50 mx1q51 mx1q52 mx1q53 mx1q54 mx1q55 mx1q56 mx1q57 mx1q58 mx1q6 mx1q7 mx1q8 mx1q9
  have da : (default : Arr) = Arr.mk 0 [] [] [] := rfl
  simp only [← da, ifB_iff, side_iff, decide_eq_true_eq, decide_eq_false_iff_not, true_and, and_true, beq_iff_eq, beq_eq_false_iff_ne, ne_eq, exists_const, forall_const, implies_true, Int.toNat_natCast, intOf, tmod_nat]
  have hn := lo_size lo
  have hM : rows * cols ≤ 65536 := by omega
  have hw : IntKind.i64.wrap ((rows : Int) * (cols : Int)) = ((rows * cols : Nat) : Int) := by rw [← Int.natCast_mul]; exact wrap_i64' (by omega) (by omega)
  simp only [hw]
  intro x
  refine ⟨fun hk => ?_, fun hk => ?_⟩
  all_goals
    have hsep : ∀ r, r < rows → joinOk (rowK a at0 rows cols r) (sepK a.k) := fun r hr => row_join lo hcl hs hr
    have hline : ∀ r, lineK a at0 rows cols r = Lib.join (rowK a at0 rows cols r) (sepK a.k) := fun r => rfl
    simp only [sepK, hk, if_true, if_false] at hsep hline
    refine ⟨⟨by omega, by omega, by omega, by omega⟩, fun x1 _ => ⟨⟨0, Nat.zero_le _, rfl, fun _ _ => rfl⟩, fun i hi => ⟨fun hlt => ?_, fun hge t => ⟨⟨(0, t), Nat.zero_le _, ⟨rfl, rfl, fun i hi => absurd hi (by omega), rfl⟩, rfl⟩, fun y hy => ⟨fun hlt2 t2 => ⟨⟨(0, t2), Nat.zero_le _, ⟨rfl, by simp, fun i hi => absurd hi (by omega), rfl⟩, rfl⟩, fun z hz => ⟨fun hlt3 => ?_, fun hge3 => ?_⟩⟩, fun hge2 => ?_⟩⟩⟩⟩⟩
    · have hc0 : 0 < cols := by
        rcases Nat.eq_zero_or_pos cols with h | h
        · subst h; simp at hlt; omega
        · exact h
      have hm := Nat.mod_lt i hc0
      refine ⟨by omega, by omega, ⟨by omega, by omega⟩, hm, at0 + i, wrap_i64' (by omega) (by omega), by omega, hm, ⟨by omega, by omega⟩, hm, i + 1, by omega, by omega, wrap_i64' (by omega) (by omega), fun j hj => ?_⟩
      simp only [updF, wdS]
      by_cases e : j = i % cols
      · subst e
        simp only [if_true]
        show [D.int IntKind.i64 (if (wdS (lenK a at0) cols i (i % cols) : Int) < (lenK a at0 i : Nat) then _ else _)] = _
        split
        · rw [if_pos (by omega)]; rfl
        · rw [if_neg (by omega)]
      · rw [if_neg e, if_neg (fun h => e h.symm)]
    · have e : i = rows * cols := by omega
      subst e
      have hr1 : y.1 < rows := by omega
      have hc1 : z.1 < cols := by omega
      have hmr := mul_row (cols := cols) hr1
      obtain ⟨w1, w2⟩ := wd_ok lo hs hr1 hc1
      have wm : IntKind.i64.wrap ((y.1 : Int) * (cols : Int)) = ((y.1 * cols : Nat) : Int) := by rw [← Int.natCast_mul]; exact wrap_i64' (by omega) (by omega)
      have wa : IntKind.i64.wrap ((at0 : Int) + ((y.1 * cols : Nat) : Int)) = ((at0 + y.1 * cols : Nat) : Int) := by rw [← Int.natCast_add]; exact wrap_i64' (by omega) (by omega)
      have wb : IntKind.i64.wrap (((at0 + y.1 * cols : Nat) : Int) + (z.1 : Int)) = ((at0 + y.1 * cols + z.1 : Nat) : Int) := by rw [← Int.natCast_add]; exact wrap_i64' (by omega) (by omega)
      have wc : IntKind.i64.wrap ((wdS (lenK a at0) cols (rows * cols) z.1 : Int) - ((cellK a (at0 + y.1 * cols + z.1)).length : Int)) = ((wdS (lenK a at0) cols (rows * cols) z.1 - (cellK a (at0 + y.1 * cols + z.1)).length : Nat) : Int) := by
        rw [wrap_i64' (by omega) (by omega)]; omega
      have hl : (List.take z.1 (rowK a at0 rows cols y.1)).length = z.1 := by rw [List.length_take, rowK_len]; omega
      refine ⟨⟨by omega, by omega⟩, hc1, at0 + y.1 * cols + z.1, by rw [wm, wa, wb], by omega, ?_⟩
      rw [wc, hl]
      simp only [Int.toNat_natCast]
      refine ⟨⟨by omega, by omega, by omega⟩, ?_, ⟨by omega, by omega⟩, fun t3 => ⟨(z.1 + 1, t3), by simp only; omega, by simp only; omega, ⟨wrap_i64' (by omega) (by omega), by simp only [List.length_take, rowK_len]; omega, ?_, rfl⟩, rfl⟩⟩
      · rw [Lib.repeatL_length]; simp only [List.length_cons, List.length_nil]; omega
      · have ht : List.take (z.1 + 1) (rowK a at0 rows cols y.1) = List.take z.1 (rowK a at0 rows cols y.1) ++ [padK (wdS (lenK a at0) cols (rows * cols) z.1) (cellK a (at0 + y.1 * cols + z.1))] := by
          rw [take_st [] (by rw [rowK_len]; exact hc1), rowK_get _ _ _ _ _ hc1]
        simp only
        rw [ht]
        have := app_str (l := List.take z.1 (rowK a at0 rows cols y.1)) (s := padK (wdS (lenK a at0) cols (rows * cols) z.1) (cellK a (at0 + y.1 * cols + z.1)))
        rw [hl] at this
        exact this
    · have hr1 : y.1 < rows := by omega
      have e : z.1 = cols := by omega
      rw [e, List.take_of_length_le (Nat.le_of_eq (rowK_len a at0 rows cols y.1))]
      rw [strsOf_eq (l := rowK a at0 rows cols y.1) rfl (fun _ _ => rfl), strsB_eq (l := rowK a at0 rows cols y.1) rfl (fun _ _ => rfl)]
      have hl : (List.map (fun r => lineK a at0 rows cols r) (List.range y.1)).length = y.1 := by simp
      rw [hl]
      refine ⟨⟨rfl, hsep _ hr1⟩, ⟨by omega, by omega⟩, fun t3 => ⟨(y.1 + 1, t3), by simp only; omega, by simp only; omega, ⟨wrap_i64' (by omega) (by omega), by simp, ?_, rfl⟩, rfl⟩⟩
      rw [← hline, List.range_succ, List.map_append]
      have := app_str (l := List.map (fun r => lineK a at0 rows cols r) (List.range y.1)) (s := lineK a at0 rows cols y.1)
      rw [hl] at this
      exact this
    · have e : y.1 = rows := by omega
      rw [e]
      exact ⟨rfl, fun _ _ => rfl⟩
end Go.Proofs.YtpgepjefbhgblaaDoor
namespace Go.Proofs.YtpgepjefbhgblaaDoor
open Go Go.Ab
set_option maxRecDepth 100000
noncomputable def Ebl (z : Int) : Senv := { EC con0 15 1 [2, 3, 7] (fun _ => ([], [])) with
  ann := fun b _ S => match b with
    | 0 => some { slots := [3], keep := [0], α := Nat, st := fun p => ([.str (Lib.repeatL [32] p)], S), inv := fun p => 1 ≤ p ∧ p ≤ 2 * z.toNat + 1, mu := fun p => z.toNat - p }
    | _ => none }
noncomputable section
def mx2q0 (p0 : Nat) (p1 : Int) : Prop := N1 ≤ p0 ∧ p0 ≤ N2 * Int.toNat p1 + N1
def mx2q1 (p0 : Nat) : List UInt8 := Lib.repeatL [(32 : UInt8)] p0
end
theorem blanks_ok (z : Int) (h1 : -1099511627776 ≤ z) (h2 : z ≤ 1099511627776) : ACalls Tryd.prog 55 [.int .i64 z] ⟨[], []⟩ (SpecR (sC [.int .i64 z] (.str (Lib.repeatL [32] z.toNat))) ()) := by
  refine con_of (A := sC _ _) (x := ()) (E := Ebl z) (eOk con0_ok rfl) Tryd.func55 rfl (by kernel_rfl) rfl (by simp [sC, Ebl, EC, E0]) ?_
  refine vc_eq (T :=
    (∃ (x : Nat), mx2q0 x z ∧ ([(32 : UInt8)] = mx2q1 x ∧ True) ∧ True ∧ True) ∧ ∀ (x : Nat), mx2q0 x z → ifB (decide ((LI (mx2q1 x)) < z)) (side (LN (mx2q1 x) + LN (mx2q1 x) ≤ (9223372036854775807 : Nat)) ((SM (ZI z) ∧ True) ∧ ∃ (y : Nat), mx2q0 y z ∧ Int.toNat z - y < Int.toNat z - x ∧ (mx2q1 x ++ mx2q1 x = mx2q1 y ∧ True) ∧ True ∧ True)) (side (Z0 ≤ Z0 ∧ (Z0 ≤ if z < Z0 then Z0 else z) ∧ (if z < Z0 then Z0 else z) ≤ (LI (mx2q1 x))) (True ∧ ∃ (y : Unit), True ∧ List.drop N0 (List.take (Int.toNat (if z < Z0 then Z0 else z)) (mx2q1 x)) = Lib.repeatL [(32 : UInt8)] (Int.toNat z) ∧ True ∧ True))) (by kernel_rfl) ?_
  delta LI LN N0 N1 N2 SM Z0 ZI mx2q0 mx2q1
  simp only [ifB_iff, side_iff, decide_eq_true_eq, decide_eq_false_iff_not, true_and, and_true, exists_const]
  refine ⟨⟨1, ⟨by omega, by omega⟩, rfl⟩, fun p hp => ⟨fun hlt => ?_, fun hge => ?_⟩⟩
  · rw [Lib.repeatL_length] at hlt ⊢
    simp only [List.length_cons, List.length_nil] at hlt ⊢
    exact ⟨by omega, p + p, ⟨by omega, by omega⟩, by omega, (Lib.repeatL_add _ _ _).symm⟩
  · rw [Lib.repeatL_length] at hge ⊢
    simp only [List.length_cons, List.length_nil] at hge ⊢
    have e : (if z < 0 then (0 : Int) else z).toNat = z.toNat := by split <;> omega
    refine ⟨⟨by omega, by split <;> omega, by split <;> omega⟩, ?_⟩
    rw [e, List.drop_zero]
    have := Lib.repeatL_take [32] p z.toNat (by omega)
    simpa using this
def rowG (a : Arr) (at0 n : Nat) (g : Nat → Nat) : List (List UInt8) := (List.range n).map fun j => padK (g j) (cellK a (at0 + j))
def conRw (a : Arr) : Con := fun k ds S => match k with
  | 54 => some (sTx Arr.row2 a)
  | 55 => match ds with
    | [.int .i64 z] => some (pC [.int .i64 z] (.str (Lib.repeatL [32] z.toNat)) (-1099511627776 ≤ z ∧ z ≤ 1099511627776))
    | _ => none
  | k => conJn k ds S
def wdF (g : Nat → Nat) (j : Nat) : List D := [.int .i64 (g j)]
noncomputable def Erw (a : Arr) (at0 n : Nat) (g : Nat → Nat) : Senv := { EC (conRw a) 46 4 [6, 7, 8, 9, 14, 23] (fun _ => ([], [])) with
  gh := fun b => match b with
    | 0 => [.slot 7]
    | _ => []
  ann := fun b _ S => match b with
    | 0 => some { slots := [8, 7], keep := [1, 2, 3], α := Nat × Nat × List UInt8, st := fun y => ([.int .i64 y.1, bsl y.2.2 (.tok 0 y.2.1)], ⟨S.objs, [(0, y.2.1)]⟩), inv := fun y => JHd (sepK a.k) (rowG a at0 n g) y.1 y.2.2, mu := fun y => n - y.1 }
    | _ => none }
noncomputable section
def mx2q2 (p0 : Arr) : Int := Arr.k p0
def mx2q3 (p0 : Arr) : List UInt8 := sepK (mx2q2 p0)
def mx2q4 (p0 : Arr) (p1 p2 : Nat) (p3 : Nat → Nat) (p4 : Nat) (p5 : List UInt8) : Prop := JHd (mx2q3 p0) (rowG p0 p1 p2 p3) p4 p5
def mx2q5 (p0 : List UInt8) (p1 : Nat) : List D := [ZB (BI p0 p1)]
def mx2q6 (p0 : Arr) : Nat := LN (Arr.sh p0)
def mx2q7 (p0 : Arr) : Nat := LN (Arr.nu p0)
def mx2q8 (p0 : Arr) : Nat := LN (Arr.it p0)
def mx2q9 : Arr := DA
def mx2q10 (p0 : Arr) (p1 : Nat) : Arr := List.getD (Arr.it p0) p1 mx2q9
def mx2q11 (p0 : Arr) (p1 : Nat) : List Int := Arr.sh (mx2q10 p0 p1)
def mx2q12 (p0 : Arr) (p1 : Nat) : List Int := Arr.nu (mx2q10 p0 p1)
def mx2q13 (p0 : Arr) (p1 : Nat) : List Arr := Arr.it (mx2q10 p0 p1)
def mx2q14 (p0 : Arr) (p1 : Nat) : List D := [ZI (Arr.k (mx2q10 p0 p1)), SI (mx2q11 p0 p1), SI (mx2q12 p0 p1), D.sl N4 (LN (mx2q13 p0 p1)) (fun (i : Nat) => Arr.row (List.getD (mx2q13 p0 p1) i mx2q9)) Mode.any]
def mx2q15 (p0 : Arr) : Prop := SM (mx2q2 p0) ∧ (SM (mx2q6 p0) ∧ (∀ (i : Nat), i < mx2q6 p0 → SM [ZI (GI (Arr.sh p0) i)]) ∧ True) ∧ (SM (mx2q7 p0) ∧ (∀ (i : Nat), i < mx2q7 p0 → SM [ZI (GI (Arr.nu p0) i)]) ∧ True) ∧ (SM (mx2q8 p0) ∧ (∀ (i : Nat), i < mx2q8 p0 → SM (mx2q14 p0 i)) ∧ True) ∧ True
def mx2q16 (p0 : Nat) (p1 : Arr) (p2 p3 : Nat) : Prop := (SM p0 ∧ mx2q15 p1 ∧ True) ∧ p2 = p3 ∧ True
def mx2q17 (p0 : Nat) (p1 : Arr) : Bool := bif decide (Z0 < (↑p0 : Int)) then mx2q2 p1 != (2 : Int) else false
def mx2q18 (p0 : Arr) (p1 p2 p3 : Nat) : Prop := mx2q15 p0 ∧ IntKind.wrap IntKind.i64 ((↑p1 : Int) + (↑p2 : Int)) = (↑p3 : Int) ∧ True
def mx2q19 (p0 : Nat) (p1 : Arr) : Prop := p0 < mx2q7 p1 + mx2q8 p1
def mx2q20 (p0 : Nat → Nat) (p1 : Nat) (p2 : Arr) (p3 : Nat) : Int := IntKind.wrap IntKind.i64 ((NI (p0 (Int.toNat (↑p1 : Int)))) - (LI (cellK p2 p3)))
def mx2q21 (p0 : Nat → Nat) (p1 : Nat) (p2 : Arr) (p3 : Nat) : Prop := (-1099511627776 : Int) ≤ mx2q20 p0 p1 p2 p3 ∧ mx2q20 p0 p1 p2 p3 ≤ (1099511627776 : Int)
def mx2q22 (p0 : Nat → Nat) (p1 : Nat) (p2 : Arr) (p3 : Nat) : List UInt8 := Lib.repeatL [(32 : UInt8)] (Int.toNat (mx2q20 p0 p1 p2 p3))
def mx2q23 (p0 : Nat → Nat) (p1 : Nat) (p2 : Arr) (p3 : Nat) : Nat := LN (mx2q22 p0 p1 p2 p3) + LN (cellK p2 p3)
def mx2q24 (p0 : Nat → Nat) (p1 : Nat) (p2 : Arr) (p3 : Nat) : List UInt8 := mx2q22 p0 p1 p2 p3 ++ cellK p2 p3
def mx2q25 (p0 : Nat → Nat) (p1 : Nat) (p2 : Arr) (p3 : Nat) : Nat := LN (mx2q24 p0 p1 p2 p3)
def mx2q26 (p0 : List UInt8) (p1 : Nat → Nat) (p2 : Nat) (p3 : Arr) (p4 : Nat) : Nat := LN p0 + N1 + mx2q25 p1 p2 p3 p4
def mx2q27 (p0 p1 : Nat) (p2 : Nat → Nat) (p3 : Nat) : Prop := SM (ZI (↑p0 : Int)) ∧ SM (D.sl N1 p1 (fun (j : Nat) => [ZI (NI (p2 j))]) Mode.any) ∧ SM (D.ref N0 p3 N0) ∧ True
def mx2q28 (p0 : Nat → Nat) (p1 : Nat) (p2 : Arr) (p3 p4 : Nat) : List D := [ZB (BI (mx2q24 p0 p1 p2 p3) p4)]
def mx2q29 (p0 : List UInt8) (p1 : Nat → Nat) (p2 : Nat) (p3 : Arr) (p4 : Nat) : Nat := LN p0 + mx2q25 p1 p2 p3 p4
end
theorem rrow_ok (a : Arr) (at0 n : Nat) (g : Nat → Nat) (lo : LOk a) (hn : n ≤ 65536) (hg : ∀ j, j < n → g j ≤ 157286402) (hs : at0 + n ≤ a.nu.length + a.it.length) (hc : ConOk Tryd.prog (conRw a)) :
    ACalls Tryd.prog 26 [.agg a.row2, .int .i64 at0, .sl 1 n (wdF g) .any] ⟨[], []⟩ (SpecR (sC [.agg a.row2, .int .i64 at0, .sl 1 n (wdF g) .any] (.str (Lib.join (rowG a at0 n g) (sepK a.k)))) ()) := by
  refine con_of (A := sC _ _) (x := ()) (E := Erw a at0 n g) (eOk hc rfl) Tryd.func26 rfl (by kernel_rfl) rfl (by simp [sC, Erw, EC, E0]) ?_
  refine vc_eq (T :=
    ∀ (x : Nat), True → ∀ (t : Nat), (∃ (x_1 : Nat × Nat × List UInt8), mx2q4 a at0 n g x_1.1 x_1.2.2 ∧ (Z0 = (NI x_1.1) ∧ (N0 = LN x_1.2.2 ∧ (∀ (i : Nat), i < N0 → eqOf (List D) [] (mx2q5 x_1.2.2 i)) ∧ t = x_1.2.1) ∧ True) ∧ mx2q16 x a t x_1.2.1) ∧ ∀ (x_1 : Nat × Nat × List UInt8), mx2q4 a at0 n g x_1.1 x_1.2.2 → ifB (decide ((NI x_1.1) < (↑n : Int))) (ifB (decide (Z0 < (NI x_1.1))) (SM x ∧ (mx2q2 a != (2 : Int)) = mx2q17 x_1.1 a ∧ True) (false = mx2q17 x_1.1 a ∧ True) ∧ ifB (mx2q17 x_1.1 a) (SM x_1.2.1 ∧ side ((LN x_1.2.2 + N1) * N1 ≤ (140737488355328 : Nat) ∧ LN x_1.2.2 + N1 ≤ (9223372036854775807 : Nat)) (∀ (t : Nat), SM x ∧ ∃ (x_2 : Nat), mx2q18 a at0 x_1.1 x_2 ∧ (True ∧ True) ∧ mx2q19 x_2 a ∧ ∀ (y : Unit), True → side (Z0 ≤ (NI x_1.1) ∧ (NI x_1.1) < (↑n : Int)) (mx2q21 g x_1.1 a x_2 ∧ ∀ (y : Unit), True → side (mx2q23 g x_1.1 a x_2 ≤ (9223372036854775807 : Nat)) (SM t ∧ side (mx2q26 x_1.2.2 g x_1.1 a x_2 * N1 ≤ (140737488355328 : Nat) ∧ mx2q26 x_1.2.2 g x_1.1 a x_2 ≤ (9223372036854775807 : Nat)) (∀ (t : Nat), mx2q27 at0 n g x ∧ ∃ (y : Nat × Nat × List UInt8), mx2q4 a at0 n g y.1 y.2.2 ∧ n - y.1 < n - x_1.1 ∧ (IntKind.wrap IntKind.i64 ((NI x_1.1) + Z1) = (NI y.1) ∧ (mx2q26 x_1.2.2 g x_1.1 a x_2 = LN y.2.2 ∧ (∀ (i : Nat), i < mx2q26 x_1.2.2 g x_1.1 a x_2 → appF (LN x_1.2.2 + N1) (appF (LN x_1.2.2) (fun (i : Nat) => mx2q5 x_1.2.2 i) fun (i : Nat) => List.getD [[ZB (32 : Int)]] i []) (fun (i : Nat) => mx2q28 g x_1.1 a x_2 i) i = mx2q5 y.2.2 i) ∧ t = y.2.1) ∧ True) ∧ mx2q16 x a t y.2.1))))) (SM x ∧ ∃ (x_2 : Nat), mx2q18 a at0 x_1.1 x_2 ∧ (True ∧ True) ∧ mx2q19 x_2 a ∧ ∀ (y : Unit), True → side (Z0 ≤ (NI x_1.1) ∧ (NI x_1.1) < (↑n : Int)) (mx2q21 g x_1.1 a x_2 ∧ ∀ (y : Unit), True → side (mx2q23 g x_1.1 a x_2 ≤ (9223372036854775807 : Nat)) (SM x_1.2.1 ∧ side (mx2q29 x_1.2.2 g x_1.1 a x_2 * N1 ≤ (140737488355328 : Nat) ∧ mx2q29 x_1.2.2 g x_1.1 a x_2 ≤ (9223372036854775807 : Nat)) (∀ (t : Nat), mx2q27 at0 n g x ∧ ∃ (y : Nat × Nat × List UInt8), mx2q4 a at0 n g y.1 y.2.2 ∧ n - y.1 < n - x_1.1 ∧ (IntKind.wrap IntKind.i64 ((NI x_1.1) + Z1) = (NI y.1) ∧ (mx2q29 x_1.2.2 g x_1.1 a x_2 = LN y.2.2 ∧ (∀ (i : Nat), i < mx2q29 x_1.2.2 g x_1.1 a x_2 → appF (LN x_1.2.2) (fun (i : Nat) => mx2q5 x_1.2.2 i) (fun (i : Nat) => mx2q28 g x_1.1 a x_2 i) i = mx2q5 y.2.2 i) ∧ t = y.2.1) ∧ True) ∧ mx2q16 x a t y.2.1))))) (True ∧ chk (true && rowsB (LN x_1.2.2) fun (i : Nat) => mx2q5 x_1.2.2 i) (True ∧ ∃ (y : Unit), True ∧ (bytesOf (LN x_1.2.2) fun (i : Nat) => mx2q5 x_1.2.2 i) = Lib.join (rowG a at0 n g) (mx2q3 a) ∧ True ∧ True))) (by kernel_rfl) ?_
  delta BI DA GI LI LN N0 N1 N4 NI SI SM U0 Z0 Z1 ZB ZI mx2q10 mx2q11 mx2q12 mx2q13 mx2q14 mx2q15 mx2q16 mx2q17 mx2q18 mx2q19 mx2q2 mx2q20 mx2q21 mx2q22 mx2q23 mx2q24 mx2q25 mx2q26 mx2q27 mx2q28 mx2q29 mx2q3 mx2q4 mx2q5 mx2q6 mx2q7 mx2q8 mx2q9
  have da : (default : Arr) = Arr.mk 0 [] [] [] := rfl
  simp only [← da, ifB_iff, side_iff, decide_eq_true_eq, decide_eq_false_iff_not, true_and, and_true, bne_iff_ne, Bool.cond_false_right, Bool.and_eq_true, Bool.and_eq_false_iff, ne_eq, exists_const, forall_const, implies_true, Int.toNat_natCast]
  have hsz := lo_size lo
  have hml : ∀ x ∈ rowG a at0 n g, x.length ≤ 157286402 := by
    intro x hx
    obtain ⟨j, hj, rfl⟩ := List.mem_map.1 hx
    have hj := List.mem_range.1 hj
    have h1 := hg j hj
    have h2 := cell_len lo (at0 + j) (by omega)
    simp only [padK, List.length_append, Lib.repeatL_length, List.length_cons, List.length_nil]; omega
  have hjl := join_len (sepK a.k) 157286402 _ hml
  have hrl : (rowG a at0 n g).length = n := by simp [rowG]
  have hsl : (sepK a.k).length ≤ 1 := by unfold sepK; split <;> simp
  have hjl : (Lib.join (rowG a at0 n g) (sepK a.k)).length ≤ 157286403 * n := by
    rw [hrl] at hjl
    exact Nat.le_trans hjl (Nat.mul_le_mul_right _ (by omega))
  intro t
  refine ⟨⟨(0, t, []), JHd.init _ _, ⟨rfl, rfl, fun i hi => absurd hi (by omega), rfl⟩, rfl⟩, ?_⟩
  rintro ⟨i, t1, out⟩ hh
  simp only at hh ⊢
  refine ⟨fun hlt => ?_, fun hge => ?_⟩
  · have hlt' : i < n := by omega
    have hmi : i < (rowG a at0 n g).length := by omega
    have h1 := hg i hlt'
    have h2 := cell_len lo (at0 + i) (by omega)
    have hget : (rowG a at0 n g).getD i [] = padK (g i) (cellK a (at0 + i)) := by
      simp [rowG, List.getD_eq_getElem?_getD, hlt']
    have wc : (IntKind.i64.wrap ((g i : Int) - ((cellK a (at0 + i)).length : Int))) = (g i : Int) - ((cellK a (at0 + i)).length : Int) := wrap_i64' (by omega) (by omega)
    have wn : ((g i : Int) - ((cellK a (at0 + i)).length : Int)).toNat = g i - (cellK a (at0 + i)).length := by omega
    refine ⟨⟨fun h => by rw [decide_eq_true h]; rfl, fun h => by rw [decide_eq_false h]; rfl⟩, fun ⟨h0, hk⟩ => ?_, fun h0 => ?_⟩
    · have hst := hh.step (by omega) hmi
      have hsl := hst.len
      rw [hget] at hst hsl
      have hsp : sepK a.k = [32] := by rw [sepK, if_neg hk]
      rw [hsp] at hst hsl hjl ⊢
      simp only [List.length_append, List.length_cons, List.length_nil] at hsl
      refine ⟨⟨by omega, by omega⟩, at0 + i, wrap_i64' (by omega) (by omega), by omega, ⟨by omega, by omega⟩, ?_⟩
      rw [wc, wn]
      refine ⟨⟨by omega, by omega⟩, ?_, ⟨?_, ?_⟩, fun t2 => ⟨(i + 1, t2, out ++ [32] ++ padK (g i) (cellK a (at0 + i))), hst, by simp only; omega, ⟨wrap_i64' (by omega) (by omega), ?_, ?_, rfl⟩, rfl⟩⟩
      · rw [Lib.repeatL_length]; simp only [List.length_cons, List.length_nil]; omega
      · show (out.length + 1 + (padK (g i) (cellK a (at0 + i))).length) * 1 ≤ _; omega
      · show out.length + 1 + (padK (g i) (cellK a (at0 + i))).length ≤ _; omega
      · simp only [List.length_append, List.length_cons, List.length_nil, padK]
      · exact app_gen (l := out ++ [32]) (by simp) (app_row' (b := 32) rfl (fun _ _ => rfl) rfl) (fun _ _ => rfl)
    · have hst : JHd (sepK a.k) (rowG a at0 n g) (i + 1) (out ++ padK (g i) (cellK a (at0 + i))) := by
        by_cases e : i = 0
        · subst e
          have := hh.step0 hmi
          rw [hget] at this
          exact this
        · have hk : a.k = 2 := by
            rcases h0 with h | h
            · omega
            · simpa using h
          have := hh.step e hmi
          rw [hget] at this
          have hsp : sepK a.k = [] := by rw [sepK, if_pos hk]
          rw [hsp] at this ⊢
          simpa using this
      have hsl := hst.len
      simp only [List.length_append] at hsl
      refine ⟨at0 + i, wrap_i64' (by omega) (by omega), by omega, ⟨by omega, by omega⟩, ?_⟩
      rw [wc, wn]
      refine ⟨⟨by omega, by omega⟩, ?_, ⟨?_, ?_⟩, fun t2 => ⟨(i + 1, t2, out ++ padK (g i) (cellK a (at0 + i))), hst, by simp only; omega, ⟨wrap_i64' (by omega) (by omega), ?_, ?_, rfl⟩, rfl⟩⟩
      · rw [Lib.repeatL_length]; simp only [List.length_cons, List.length_nil]; omega
      · show (out.length + (padK (g i) (cellK a (at0 + i))).length) * 1 ≤ _; omega
      · show out.length + (padK (g i) (cellK a (at0 + i))).length ≤ _; omega
      · simp only [List.length_append, padK]
      · exact app_gen rfl (fun _ _ => rfl) (fun _ _ => rfl)
  · have hd := hh.done (by omega)
    rw [chk_iff, Bool.true_and]
    refine ⟨rowsB_bsl _, ?_⟩
    rw [bytesOf_bsl, hd]
end Go.Proofs.YtpgepjefbhgblaaDoor
namespace Go.Proofs.YtpgepjefbhgblaaDoor
open Go Go.Ab
set_option maxRecDepth 100000
def wdC (g : Nat → Nat) (cols : Nat) : Nat → Nat → Nat
  | 0, _ => 0
  | i + 1, c => if wdC g cols i c < g (i * cols + c) then g (i * cols + c) else wdC g cols i c
theorem wdC_wdS (g : Nat → Nat) (cols : Nat) : ∀ (r j : Nat), j ≤ cols → ∀ c, c < cols → wdS g cols (r * cols + j) c = if c < j then wdC g cols (r + 1) c else wdC g cols r c := by
  intro r
  induction r with
  | zero =>
    intro j
    induction j with
    | zero => intro _ c hc; simp [wdS, wdC]
    | succ j ih =>
      intro hj c hc
      have := ih (by omega) c hc
      rw [Nat.zero_mul, Nat.zero_add] at this ⊢
      rw [wdS, this, Nat.mod_eq_of_lt (by omega : j < cols)]
      by_cases e : j = c
      · subst e
        rw [if_pos rfl, if_neg (by omega : ¬ j < j), if_pos (by omega : j < j + 1)]
        simp only [wdC, Nat.zero_mul, Nat.zero_add]
        rfl
      · rw [if_neg e]
        by_cases h : c < j
        · rw [if_pos h, if_pos (by omega)]
        · rw [if_neg h, if_neg (by omega)]
  | succ r ihr =>
    intro j
    induction j with
    | zero =>
      intro _ c hc
      have := ihr cols (Nat.le_refl _) c hc
      rw [if_pos hc] at this
      rw [Nat.add_zero, Nat.add_mul, Nat.one_mul, this, if_neg (by omega)]
    | succ j ih =>
      intro hj c hc
      have := ih (by omega) c hc
      rw [← Nat.add_assoc, wdS, this, Nat.mul_comm (r + 1) cols, Nat.mul_add_mod, Nat.mod_eq_of_lt (by omega : j < cols)]
      by_cases e : j = c
      · subst e
        rw [if_pos rfl, if_neg (by omega : ¬ j < j), if_pos (by omega : j < j + 1)]
        rw [Nat.mul_comm cols (r + 1)]
        rfl
      · rw [if_neg e]
        by_cases h : c < j
        · rw [if_pos h, if_pos (by omega)]
        · rw [if_neg h, if_neg (by omega)]
theorem wdC_eq (g : Nat → Nat) (rows cols c : Nat) (hc : c < cols) : wdC g cols rows c = wdS g cols (rows * cols) c := by
  have := wdC_wdS g cols rows 0 (by omega) c hc
  rw [Nat.add_zero, if_neg (by omega)] at this
  exact this.symm
theorem rowG_eq (a : Arr) (at0 rows cols r : Nat) : rowG a (at0 + r * cols) cols (wdC (lenK a at0) cols rows) = rowK a at0 rows cols r := by
  unfold rowG rowK
  refine List.map_congr_left fun j hj => ?_
  rw [wdC_eq _ _ _ _ (List.mem_range.1 hj)]
def wdP (g : Nat → Nat) (rows cols k i : Nat) (c : Nat) : Nat := if c < k then wdC g cols rows c else if c = k then wdC g cols i c else 0
def sRw (a : Arr) (n : Nat) (g : Nat → Nat) : FnSpec where
  β := Nat
  α := Unit
  args := fun p => [.agg a.row2, .int .i64 p, .sl 1 n (wdF g) .any]
  st := fun _ => ⟨[], []⟩
  pre := fun p => p + n ≤ a.nu.length + a.it.length
  post := fun _ _ => True
  res := fun p _ => .ret (.str (Lib.join (rowG a p n g) (sepK a.k)))
  out := fun _ _ => ⟨[], []⟩
def conRm (a : Arr) (n : Nat) (g : Nat → Nat) : Con := fun k ds S => match k with
  | 54 => some (sTx Arr.row2 a)
  | 26 => some (sRw a n g)
  | k => conJn k ds S
noncomputable def Erm (a : Arr) (at0 rows cols : Nat) : Senv := { EC (conRm a cols (wdC (lenK a at0) cols rows)) 61 5 [8, 9, 10, 11, 12, 13, 18, 23, 46] (fun id => match id with | 8 => ([0, 1, 2, 3, 4, 5, 6, 7, 8, 9, 10, 11, 12, 13, 14, 15, 16, 17, 18], [14, 18]) | _ => ([], [])) with
  gh := fun b => match b with
    | 4 => [.slot 9, .slot 12]
    | _ => []
  ann := fun b env S => match b with
    | 0 => some { slots := [10], keep := [1, 2, 3, 4, 9], α := Nat, st := fun k => ([.int .i64 k], ⟨setO S.objs (vsKey (Ab.look env 9)) (.vec 1 cols cols (wdF (wdP (lenK a at0) rows cols k 0))), S.toks⟩), inv := fun k => k ≤ cols, mu := fun k => cols - k }
    | 2 => some { slots := [11], keep := [1, 2, 3, 4, 9, 10], α := Nat, st := fun i => ([.int .i64 i], ⟨setO S.objs (vsKey (Ab.look env 9)) (.vec 1 cols cols (wdF (wdP (lenK a at0) rows cols (Int.toNat (intOf (Ab.look env 10))) i))), S.toks⟩), inv := fun i => i ≤ rows, mu := fun i => rows - i }
    | 4 => some { slots := [13, 12], keep := [1, 2, 3, 4, 9], α := Nat × Nat, st := fun y => ([.int .i64 y.1, ssl ((List.range y.1).map fun r => lineK a at0 rows cols r) (.tok 1 y.2)], ⟨S.objs, (1, y.2) :: S.toks.tail⟩), inv := fun y => y.1 ≤ rows, mu := fun y => rows - y.1 }
    | _ => none }
noncomputable section
def mx3q0 (p0 : Nat) : Nat := Int.toNat (↑p0 : Int)
def mx3q1 (p0 : Arr) (p1 p2 p3 p4 p5 : Nat) : List D := [ZI (NI (wdP (lenK p0 p1) p2 p3 p4 N0 p5))]
def mx3q2 (p0 : Arr) : Nat := LN (Arr.sh p0)
def mx3q3 (p0 : Arr) : Nat := LN (Arr.nu p0)
def mx3q4 (p0 : Arr) : Nat := LN (Arr.it p0)
def mx3q5 : Arr := DA
def mx3q6 (p0 : Arr) (p1 : Nat) : Arr := List.getD (Arr.it p0) p1 mx3q5
def mx3q7 (p0 : Arr) (p1 : Nat) : List Int := Arr.sh (mx3q6 p0 p1)
def mx3q8 (p0 : Arr) (p1 : Nat) : List Int := Arr.nu (mx3q6 p0 p1)
def mx3q9 (p0 : Arr) (p1 : Nat) : List Arr := Arr.it (mx3q6 p0 p1)
def mx3q10 (p0 : Arr) (p1 : Nat) : List D := [ZI (Arr.k (mx3q6 p0 p1)), SI (mx3q7 p0 p1), SI (mx3q8 p0 p1), D.sl N4 (LN (mx3q9 p0 p1)) (fun (i : Nat) => Arr.row (List.getD (mx3q9 p0 p1) i mx3q5)) Mode.any]
def mx3q11 (p0 : Arr) : Prop := SM (Arr.k p0) ∧ (SM (mx3q2 p0) ∧ (∀ (i : Nat), i < mx3q2 p0 → SM [ZI (GI (Arr.sh p0) i)]) ∧ True) ∧ (SM (mx3q3 p0) ∧ (∀ (i : Nat), i < mx3q3 p0 → SM [ZI (GI (Arr.nu p0) i)]) ∧ True) ∧ (SM (mx3q4 p0) ∧ (∀ (i : Nat), i < mx3q4 p0 → SM (mx3q10 p0 i)) ∧ True) ∧ True
def mx3q12 (p0 : Nat) (p1 : Arr) : Prop := SM p0 ∧ mx3q11 p1 ∧ True
def mx3q13 (p0 : Nat) : Nat := Int.toNat (intOf (ZI (↑p0 : Int)))
def mx3q14 (p0 : Arr) (p1 p2 p3 p4 p5 p6 : Nat) : List D := [ZI (NI (wdP (lenK p0 p1) p2 p3 (mx3q13 p4) p5 p6))]
def mx3q15 (p0 : Arr) : Nat := mx3q3 p0 + mx3q4 p0
def mx3q16 (p0 : Arr) (p1 p2 p3 p4 p5 : Nat) : Int := (NI (wdP (lenK p0 p1) p2 p3 (mx3q13 p4) p5 (mx3q0 p4)))
def mx3q17 (p0 : Arr) (p1 p2 p3 p4 p5 : Nat) : D := ZI (mx3q16 p0 p1 p2 p3 p4 p5)
def mx3q18 (p0 : Nat) : Prop := SM (ZI (↑p0 : Int))
def mx3q19 (p0 : Nat) : Prop := SM (D.ref N0 p0 N0)
def mx3q20 (p0 p1 : Nat) : D := D.vs (max (N0 + N1) N0) p0 (mx3q0 p1) (mx3q0 p1) N1
def mx3q21 (p0 p1 : Nat) : Prop := SM (mx3q20 p0 p1)
def mx3q22 (p0 : Arr) (p1 p2 p3 p4 : Nat) : Nat := LN (List.map (fun (r : Nat) => lineK p0 p1 p2 p3 r) (List.range p4))
def mx3q23 (p0 : Arr) (p1 p2 p3 p4 p5 : Nat) : List D := [D.str (List.getD (List.map (fun (r : Nat) => lineK p0 p1 p2 p3 r) (List.range p4)) p5 [])]
def mx3q24 (p0 : Nat) (p1 : Arr) (p2 p3 p4 : Nat) : Prop := mx3q12 p0 p1 ∧ p2 = p3 ∧ SM p4 ∧ True
def mx3q25 (p0 : Arr) (p1 p2 p3 p4 : Nat) : Nat := mx3q22 p0 p1 p2 p3 p4 + N1
def mx3q26 (p0 : Nat) (p1 : Arr) (p2 p3 p4 p5 : Nat) : D := D.sl N1 (mx3q0 p0) (fun (j : Nat) => mx3q1 p1 p2 p3 p0 p4 j) (Mode.tok N0 p5)
end
theorem rmat_ok (a : Arr) (at0 rows cols : Nat) (lo : LOk a) (hr : rows ≤ 65536) (hcl : cols ≤ 65536) (hs : at0 + rows * cols ≤ a.nu.length + a.it.length) (hc : ConOk Tryd.prog (conRm a cols (wdC (lenK a at0) cols rows))) :
    ACalls Tryd.prog 27 [.agg a.row2, .int .i64 at0, .int .i64 rows, .int .i64 cols] ⟨[], []⟩ (SpecR (sC [.agg a.row2, .int .i64 at0, .int .i64 rows, .int .i64 cols] (ssl (matK a at0 rows cols) .any)) ()) := by
  refine con_of (A := sC _ _) (x := ()) (E := Erm a at0 rows cols) (eOk hc rfl) Tryd.func27 rfl (by kernel_rfl) rfl (by simp [sC, Erm, EC, E0]) ?_
  refine vc_eq (T :=
    ∀ (x : Nat), True → side (Z0 ≤ (↑cols : Int) ∧ (↑cols : Int) ≤ (↑cols : Int) ∧ (8 : Int) * (↑cols : Int) ≤ (281474976710656 : Int) ∧ (↑cols : Int) ≤ (9223372036854775807 : Int)) (∀ (x_1 : Nat), x ≠ x_1 ∧ True → (∃ (x_2 : Nat), x_2 ≤ cols ∧ (Z0 = (↑x_2 : Int) ∧ True) ∧ (SM x_1 ∧ (mx3q0 cols = cols ∧ mx3q0 cols = cols ∧ ∀ (i : Nat), i < mx3q0 cols → [ZI Z0] = mx3q1 a at0 rows cols x_2 i) ∧ mx3q12 x a) ∧ True) ∧ ∀ (x_2 : Nat), x_2 ≤ cols → ifB (decide ((↑x_2 : Int) < (↑cols : Int))) ((∃ (x_3 : Nat), x_3 ≤ rows ∧ (Z0 = (↑x_3 : Int) ∧ True) ∧ (SM x_1 ∧ (SM cols ∧ SM cols ∧ ∀ (i : Nat), i < cols → mx3q1 a at0 rows cols x_2 i = mx3q14 a at0 rows cols x_2 x_3 i) ∧ mx3q12 x a) ∧ True) ∧ ∀ (x_3 : Nat), x_3 ≤ rows → ifB (decide ((↑x_3 : Int) < (↑rows : Int))) (side (Z0 ≤ (↑x_2 : Int) ∧ (↑x_2 : Int) < (NI (mx3q0 cols))) (SM x_1 ∧ side (mx3q0 x_2 < cols) (SM x ∧ ∃ (x_4 : Nat), (mx3q11 a ∧ IntKind.wrap IntKind.i64 (IntKind.wrap IntKind.i64 ((↑at0 : Int) + IntKind.wrap IntKind.i64 ((↑x_3 : Int) * (↑cols : Int))) + (↑x_2 : Int)) = (↑x_4 : Int) ∧ True) ∧ (True ∧ True) ∧ x_4 < mx3q15 a ∧ ∀ (y : Unit), True → (SM x_1 ∧ side (mx3q0 x_2 < cols) (SM (mx3q17 a at0 rows cols x_2 x_3))) ∧ side (Z0 ≤ (↑x_2 : Int) ∧ (↑x_2 : Int) < (NI (mx3q0 cols))) (SM x_1 ∧ side (mx3q0 x_2 < cols) ((mx3q18 at0 ∧ mx3q18 rows ∧ mx3q18 cols ∧ mx3q19 x ∧ mx3q21 x_1 cols ∧ mx3q18 x_2 ∧ True) ∧ ∃ (y : Nat), y ≤ rows ∧ rows - y < rows - x_3 ∧ (IntKind.wrap IntKind.i64 ((↑x_3 : Int) + Z1) = (↑y : Int) ∧ True) ∧ (SM x_1 ∧ (SM cols ∧ SM cols ∧ ∀ (i : Nat), i < cols → updF (fun (j : Nat) => mx3q14 a at0 rows cols x_2 x_3 j) (mx3q0 x_2) [ZI (if mx3q16 a at0 rows cols x_2 x_3 < (LI (cellK a x_4)) then (LI (cellK a x_4)) else mx3q16 a at0 rows cols x_2 x_3)] i = mx3q14 a at0 rows cols x_2 y i) ∧ mx3q12 x a) ∧ True))))) ((mx3q18 at0 ∧ mx3q18 rows ∧ mx3q18 cols ∧ mx3q19 x ∧ mx3q21 x_1 cols ∧ True) ∧ ∃ (y : Nat), y ≤ cols ∧ cols - y < cols - x_2 ∧ (IntKind.wrap IntKind.i64 ((↑x_2 : Int) + Z1) = (↑y : Int) ∧ True) ∧ (SM x_1 ∧ (SM cols ∧ SM cols ∧ ∀ (i : Nat), i < cols → mx3q14 a at0 rows cols x_2 x_3 i = mx3q1 a at0 rows cols y i) ∧ mx3q12 x a) ∧ True)) (SM x_1 ∧ cols = mx3q0 cols ∧ side (mx3q0 cols ≤ cols) ((∀ (i : Nat), i < mx3q0 cols → List.all (mx3q1 a at0 rows cols x_2 i) cellOk = true) ∧ ∀ (t t_1 : Nat), (∃ (x_3 : Nat × Nat), x_3.1 ≤ rows ∧ (Z0 = (NI x_3.1) ∧ (N0 = mx3q22 a at0 rows cols x_3.1 ∧ (∀ (i : Nat), i < N0 → eqOf (List D) [] (mx3q23 a at0 rows cols x_3.1 i)) ∧ t_1 = x_3.2) ∧ True) ∧ mx3q24 x a t_1 x_3.2 t) ∧ ∀ (x_3 : Nat × Nat), x_3.1 ≤ rows → ifB (decide ((NI x_3.1) < (↑rows : Int))) (SM x ∧ ∃ (x_4 : Nat), (mx3q11 a ∧ IntKind.wrap IntKind.i64 ((↑at0 : Int) + IntKind.wrap IntKind.i64 ((NI x_3.1) * (↑cols : Int))) = (↑x_4 : Int) ∧ (mx3q0 cols = cols ∧ (∀ (i : Nat), i < mx3q0 cols → mx3q1 a at0 rows cols x_2 i = [ZI (NI (wdC (lenK a at0) cols rows i))]) ∧ True) ∧ True) ∧ (True ∧ True) ∧ x_4 + cols ≤ mx3q15 a ∧ ∀ (y : Unit), True → SM x_3.2 ∧ side (mx3q25 a at0 rows cols x_3.1 * (16 : Nat) ≤ (140737488355328 : Nat) ∧ mx3q25 a at0 rows cols x_3.1 ≤ (9223372036854775807 : Nat)) (∀ (t_2 : Nat), (mx3q18 at0 ∧ mx3q18 rows ∧ mx3q18 cols ∧ mx3q19 x ∧ SM (mx3q26 cols a at0 rows x_2 t) ∧ True) ∧ ∃ (y : Nat × Nat), y.1 ≤ rows ∧ rows - y.1 < rows - x_3.1 ∧ (IntKind.wrap IntKind.i64 ((NI x_3.1) + Z1) = (NI y.1) ∧ (mx3q25 a at0 rows cols x_3.1 = mx3q22 a at0 rows cols y.1 ∧ (∀ (i : Nat), i < mx3q25 a at0 rows cols x_3.1 → appF (mx3q22 a at0 rows cols x_3.1) (fun (i : Nat) => mx3q23 a at0 rows cols x_3.1 i) (fun (i : Nat) => List.getD [[D.str (Lib.join (rowG a x_4 cols (wdC (lenK a at0) cols rows)) (sepK (Arr.k a)))]] i []) i = mx3q23 a at0 rows cols y.1 i) ∧ t_2 = y.2) ∧ True) ∧ mx3q24 x a t_2 y.2 t)) (True ∧ ∃ (y : Unit), True ∧ (mx3q22 a at0 rows cols x_3.1 = LN (matK a at0 rows cols) ∧ (∀ (i : Nat), i < mx3q22 a at0 rows cols x_3.1 → mx3q23 a at0 rows cols x_3.1 i = [D.str (List.getD (matK a at0 rows cols) i [])]) ∧ True) ∧ True ∧ True))))) (by kernel_rfl) ?_
  delta DA GI LI LN N0 N1 N4 NI SI SM Z0 Z1 ZI mx3q0 mx3q1 mx3q10 mx3q11 mx3q12 mx3q13 mx3q14 mx3q15 mx3q16 mx3q17 mx3q18 mx3q19 mx3q2 mx3q20 mx3q21 mx3q22 mx3q23 mx3q24 mx3q25 mx3q26 mx3q3 mx3q4 mx3q5 mx3q6 mx3q7 mx3q8 mx3q9
  have da : (default : Arr) = Arr.mk 0 [] [] [] := rfl
  simp only [← da, ifB_iff, side_iff, decide_eq_true_eq, decide_eq_false_iff_not, true_and, and_true, ne_eq, exists_const, forall_const, implies_true, Int.toNat_natCast, intOf]
  have hn := lo_size lo
  have hM : rows * cols ≤ 65536 := by omega
  intro x
  refine ⟨⟨by omega, by omega, by omega, by omega⟩, fun x1 _ => ⟨⟨0, Nat.zero_le _, rfl, fun i hi => ?_⟩, fun k hk => ⟨fun hlt => ⟨⟨0, Nat.zero_le _, rfl, fun _ _ => rfl⟩, fun i hi => ⟨fun hlt2 => ?_, fun hge => ⟨k + 1, by omega, by omega, wrap_i64' (by omega) (by omega), fun j hj => ?_⟩⟩⟩, fun hge => ⟨Nat.le_refl _, fun _ _ => rfl, fun t => ⟨⟨(0, t), Nat.zero_le _, ⟨rfl, rfl, fun i hi => absurd hi (by omega), rfl⟩, rfl⟩, fun y hy => ⟨fun hlt => ?_, fun hge2 => ?_⟩⟩⟩⟩⟩⟩
  · have : wdP (lenK a at0) rows cols 0 0 i = 0 := by unfold wdP; rw [if_neg (by omega)]; split <;> rfl
    rw [this]; rfl
  · have hk1 : k < cols := by omega
    have hi1 : i < rows := by omega
    have hmr := mul_row (cols := cols) hi1
    have wm : IntKind.i64.wrap ((i : Int) * (cols : Int)) = ((i * cols : Nat) : Int) := by rw [← Int.natCast_mul]; exact wrap_i64' (by omega) (by omega)
    have wa : IntKind.i64.wrap ((at0 : Int) + ((i * cols : Nat) : Int)) = ((at0 + i * cols : Nat) : Int) := by rw [← Int.natCast_add]; exact wrap_i64' (by omega) (by omega)
    have wb : IntKind.i64.wrap (((at0 + i * cols : Nat) : Int) + (k : Int)) = ((at0 + i * cols + k : Nat) : Int) := by rw [← Int.natCast_add]; exact wrap_i64' (by omega) (by omega)
    refine ⟨⟨by omega, by omega⟩, hk1, at0 + i * cols + k, by rw [wm, wa, wb], by omega, hk1, ⟨by omega, by omega⟩, hk1, i + 1, by omega, by omega, wrap_i64' (by omega) (by omega), fun j hj => ?_⟩
    simp only [updF]
    have hl : (cellK a (at0 + i * cols + k)).length = lenK a at0 (i * cols + k) := by unfold lenK; rw [Nat.add_assoc]
    rw [hl]
    by_cases e : j = k
    · subst e
      have e1 : wdP (lenK a at0) rows cols j i j = wdC (lenK a at0) cols i j := by unfold wdP; rw [if_neg (by omega), if_pos rfl]
      have e2 : wdP (lenK a at0) rows cols j (i + 1) j = wdC (lenK a at0) cols (i + 1) j := by unfold wdP; rw [if_neg (by omega), if_pos rfl]
      rw [if_pos rfl]
      show [D.int IntKind.i64 (if (wdP (lenK a at0) rows cols j i j : Int) < (lenK a at0 (i * cols + j) : Nat) then _ else _)] = _
      rw [e1, e2, wdC]
      split
      · rw [if_pos (by omega)]
      · rw [if_neg (by omega)]
    · rw [if_neg e]
      unfold wdP
      rw [if_neg e, if_neg e]
  · have hk1 : k < cols := by omega
    have hi1 : i = rows := by omega
    subst hi1
    have e : wdP (lenK a at0) i cols k i j = wdP (lenK a at0) i cols (k + 1) 0 j := by
      unfold wdP
      by_cases h1 : j < k
      · rw [if_pos h1, if_pos (by omega)]
      · by_cases h2 : j = k
        · rw [if_neg h1, if_pos h2, if_pos (by omega)]
        · rw [if_neg h1, if_neg h2, if_neg (by omega)]
          split <;> rfl
    rw [e]
  · have hy1 : y.1 < rows := by omega
    have hmr := mul_row (cols := cols) hy1
    have wm : IntKind.i64.wrap ((y.1 : Int) * (cols : Int)) = ((y.1 * cols : Nat) : Int) := by rw [← Int.natCast_mul]; exact wrap_i64' (by omega) (by omega)
    have wa : IntKind.i64.wrap ((at0 : Int) + ((y.1 * cols : Nat) : Int)) = ((at0 + y.1 * cols : Nat) : Int) := by rw [← Int.natCast_add]; exact wrap_i64' (by omega) (by omega)
    have hl : (List.map (fun r => lineK a at0 rows cols r) (List.range y.1)).length = y.1 := by simp
    rw [hl]
    refine ⟨at0 + y.1 * cols, ⟨by rw [wm, wa], fun j hj => ?_⟩, by omega, ⟨by omega, by omega⟩, fun t3 => ⟨(y.1 + 1, t3), by simp only; omega, by simp only; omega, ⟨wrap_i64' (by omega) (by omega), by simp, ?_, rfl⟩, rfl⟩⟩
    · have : wdP (lenK a at0) rows cols k 0 j = wdC (lenK a at0) cols rows j := by unfold wdP; rw [if_pos (by omega)]
      rw [this]
    · rw [rowG_eq, List.range_succ, List.map_append]
      have := app_str (l := List.map (fun r => lineK a at0 rows cols r) (List.range y.1)) (s := lineK a at0 rows cols y.1)
      rw [hl] at this
      exact this
  · have e : y.1 = rows := by omega
    rw [e]
    exact ⟨rfl, fun _ _ => rfl⟩
end Go.Proofs.YtpgepjefbhgblaaDoor
namespace Go.Proofs.YtpgepjefbhgblaaDoor
open Go Go.Ab
set_option maxRecDepth 100000
def prodN : List Int → Nat
  | [] => 1
  | d :: r => d.toNat * prodN r
theorem prodN_pos : ∀ {l : List Int}, (∀ d ∈ l, 1 ≤ d) → 1 ≤ prodN l
  | [], _ => Nat.le_refl _
  | d :: r, h => by
    have h1 := prodN_pos (l := r) fun x hx => h x (List.mem_cons_of_mem _ hx)
    have h2 := h d List.mem_cons_self
    exact Nat.mul_pos (by omega) h1
theorem goO_some : ∀ {l : List Int} {p q : Int}, (∀ d ∈ l, 1 ≤ d) → goO l p = some q → q = p * prodN l
  | [], p, q, _, h => by rw [goO] at h; injection h with h; simp [prodN, h]
  | d :: r, p, q, hp, h => by
    have h2 := hp d List.mem_cons_self
    rw [goO] at h
    split at h
    · cases h
    · rw [if_neg (by omega)] at h
      split at h
      · cases h
      · have := goO_some (l := r) (fun x hx => hp x (List.mem_cons_of_mem _ hx)) h
        rw [this, prodN, Int.natCast_mul, Int.toNat_of_nonneg (by omega), Int.mul_assoc]
theorem goO_prod : ∀ {l : List Int} {p : Nat}, (∀ d ∈ l, 1 ≤ d) → 1 ≤ p → p * prodN l ≤ 65536 → goO l p = some ((p * prodN l : Nat) : Int)
  | [], p, _, _, _ => by simp [goO, prodN]
  | d :: r, p, hp, h1, hb => by
    have h2 := hp d List.mem_cons_self
    have h3 := prodN_pos (l := r) fun x hx => hp x (List.mem_cons_of_mem _ hx)
    obtain ⟨n, rfl⟩ : ∃ n : Nat, d = n := ⟨d.toNat, by omega⟩
    simp only [prodN, Int.toNat_natCast] at hb ⊢
    rw [← Nat.mul_assoc] at hb ⊢
    have h4 : p * n ≤ p * n * prodN r := Nat.le_mul_of_pos_right _ h3
    have h5 : n ≤ p * n := Nat.le_mul_of_pos_left _ h1
    have h6 : 1 ≤ p * n := Nat.le_trans (by omega) h5
    rw [goO, if_neg (by omega), if_neg (by omega), if_neg (by rw [← Int.natCast_mul]; omega), ← Int.natCast_mul]
    exact goO_prod (l := r) (fun x hx => hp x (List.mem_cons_of_mem _ hx)) h6 hb
theorem not_zero {l : List Int} (h : ∀ d ∈ l, 1 ≤ d) : l.contains 0 = false := by
  cases hc : l.contains 0 with
  | false => rfl
  | true => have := h 0 (List.contains_iff_mem.1 hc); omega
theorem sizeS_prod {l : List Int} (h : ∀ d ∈ l, 1 ≤ d) (hb : prodN l ≤ 65536) : sizeS l = prodN l := by
  have h2 := goO_prod (p := 1) h (Nat.le_refl _) (by omega)
  rw [sizeS, not_zero h]
  rw [Nat.one_mul] at h2
  have h2 : goO l 1 = some (prodN l : Int) := h2
  rw [h2]; rfl
theorem rightS_prod {l : List Int} (h : ∀ d ∈ l, 1 ≤ d) (hb : prodN l ≤ 65536) (h8 : l.length ≤ 8) : rightS l = true := by
  have h2 := goO_prod (p := 1) h (Nat.le_refl _) (by omega)
  rw [Nat.one_mul] at h2
  have h2 : goO l 1 = some (prodN l : Int) := h2
  simp [rightS, h8, h2]
theorem prodN_append : ∀ (l r : List Int), prodN (l ++ r) = prodN l * prodN r
  | [], r => by simp [prodN]
  | d :: l, r => by simp only [List.cons_append, prodN, prodN_append l r, Nat.mul_assoc]
theorem prodN_drop {l : List Int} (h : ∀ d ∈ l, 1 ≤ d) (i : Nat) : prodN (l.drop i) ≤ prodN l := by
  have := prodN_append (l.take i) (l.drop i)
  rw [List.take_append_drop] at this
  rw [this]
  exact Nat.le_mul_of_pos_left _ (prodN_pos fun d hd => h d (List.mem_of_mem_take hd))
theorem shape_ok {a : Arr} (h : (chkA a).1 = 0) : rightS a.sh = true ∧ (a.nu.length + a.it.length : Int) = sizeS a.sh ∧ ∀ d ∈ a.sh, 0 ≤ d := by
  have hf := chk_form h
  have hk := form_kind hf
  obtain ⟨p1, p2⟩ := form_parts hf
  unfold formS at hf
  rw [if_pos hk] at hf
  by_cases hd : dimsS a.sh ≠ 0
  · rw [if_pos hd] at hf; exact (hd hf).elim
  · have hd : dimsS a.sh = 0 := Decidable.not_not.1 hd
    have hneg : ∀ d ∈ a.sh, 0 ≤ d := by
      intro d hm
      unfold dimsS at hd
      split at hd
      · omega
      split at hd
      · omega
      · rename_i hany
        have : ¬ d < 0 := fun hlt => hany (List.any_eq_true.2 ⟨d, hm, decide_eq_true hlt⟩)
        omega
    refine ⟨?_, ?_, hneg⟩
    · unfold dimsS at hd
      split at hd
      · omega
      split at hd
      · omega
      split at hd
      · rename_i h8 _ hs
        simp only [rightS, Bool.and_eq_true, decide_eq_true_eq]
        exact ⟨by omega, hs⟩
      · omega
    · by_cases h3 : a.k = 3
      · have := p2 h3; omega
      · have := p1 h3; omega
structure Full (a : Arr) : Prop where
  pos : ∀ d ∈ a.sh, 1 ≤ d
  prod : prodN a.sh = a.nu.length + a.it.length
  s8 : a.sh.length ≤ 8
  le : prodN a.sh ≤ 65536
theorem full_ok {a : Arr} (lo : LOk a) (h : (chkA a).1 = 0) (hs : sizeS a.sh ≠ 0) : Full a := by
  obtain ⟨h1, h2, h3⟩ := shape_ok h
  have hz : a.sh.contains 0 = false := by
    cases hc : a.sh.contains 0 with
    | false => rfl
    | true => rw [sizeS, if_pos hc] at hs; exact (hs rfl).elim
  have hpos : ∀ d ∈ a.sh, 1 ≤ d := by
    intro d hd
    have := h3 d hd
    have : d ≠ 0 := fun e => by rw [e] at hd; rw [List.contains_iff_mem.2 hd] at hz; cases hz
    omega
  have hp : (prodN a.sh : Int) = sizeS a.sh := by
    simp only [rightS, Bool.and_eq_true] at h1
    cases hg : goO a.sh 1 with
    | none => rw [hg] at h1; exact absurd h1.2 (by simp)
    | some q =>
      have := goO_some hpos hg
      rw [sizeS, hz, hg]
      simp [this]
  have hsz := lo_size lo
  exact ⟨hpos, by omega, lo.s8, by omega⟩
def sepC : List (List (List UInt8)) → List (List UInt8)
  | [] => []
  | x :: l => x ++ l.flatMap fun y => [] :: y
theorem sepC_snoc (l : List (List (List UInt8))) (x : List (List UInt8)) : sepC (l ++ [x]) = if l = [] then x else sepC l ++ ([] :: x) := by
  cases l with
  | nil => simp [sepC]
  | cons y l => simp [sepC]
def plK (a : Arr) (rows cols : Nat) : List Int → Nat → List (List UInt8)
  | [], at0 => matK a at0 rows cols
  | d :: ds, at0 => sepC ((List.range d.toNat).map fun i => plK a rows cols ds (at0 + i * (prodN ds * (rows * cols))))
theorem sepC_cat (l r : List (List (List UInt8))) : sepC (l ++ r) = if l = [] then sepC r else if r = [] then sepC l else sepC l ++ ([] :: sepC r) := by
  cases l with
  | nil => simp
  | cons x l =>
    cases r with
    | nil => simp
    | cons y r => simp [sepC]
theorem range_mul (m n : Nat) : List.range (m * n) = (List.range m).flatMap fun i => (List.range n).map fun j => i * n + j := by
  induction m with
  | zero => simp
  | succ m ih =>
    rw [Nat.add_mul, Nat.one_mul, List.range_add, ih, List.range_succ, List.flatMap_append]
    simp
theorem sepC_flat {n : Nat} (hn : 0 < n) (f : Nat → List (List UInt8)) : ∀ m, sepC ((List.range m).map fun i => sepC ((List.range n).map fun j => f (i * n + j))) = sepC ((List.range (m * n)).map f)
  | 0 => by simp [sepC]
  | m + 1 => by
    have ih := sepC_flat hn f m
    rw [List.range_succ, List.map_append, List.map_singleton, sepC_cat, range_mul, List.range_succ, List.flatMap_append, List.map_append, sepC_cat, ← range_mul]
    by_cases hm : m = 0
    · subst hm; simp [sepC]
    · have h1 : (List.range m).map (fun i => sepC ((List.range n).map fun j => f (i * n + j))) ≠ [] := by simp [hm]
      have h2 : (List.range (m * n)).map f ≠ [] := by
        have : m * n ≠ 0 := Nat.mul_ne_zero hm (by omega)
        simp []; omega
      have h3 : ¬ List.map f (List.flatMap (fun i => (List.range n).map fun j => i * n + j) [m]) = [] := by simp; omega
      rw [if_neg h1, if_neg h2, if_neg h3, if_neg (by simp), ih]
      simp [sepC]
      rfl
theorem plK_run (a : Arr) (rows cols : Nat) : ∀ (ds : List Int), (∀ d ∈ ds, 1 ≤ d) → ∀ at0, plK a rows cols ds at0 = sepC ((List.range (prodN ds)).map fun p => matK a (at0 + p * (rows * cols)) rows cols)
  | [], _, at0 => by simp [plK, prodN, sepC]
  | d :: ds, h, at0 => by
    have hp := prodN_pos (l := ds) fun x hx => h x (List.mem_cons_of_mem _ hx)
    rw [plK, prodN, ← sepC_flat hp]
    congr 1
    refine List.map_congr_left fun i _ => ?_
    rw [plK_run a rows cols ds (fun x hx => h x (List.mem_cons_of_mem _ hx))]
    congr 1
    refine List.map_congr_left fun j _ => ?_
    congr 1
    rw [Nat.add_mul, Nat.mul_assoc]; omega
end Go.Proofs.YtpgepjefbhgblaaDoor
namespace Go.Proofs.YtpgepjefbhgblaaDoor
open Go Go.Ab
set_option maxRecDepth 100000
noncomputable def Esiz : Senv := EC conAr 8 1 [2, 5] (fun _ => ([], []))
noncomputable section
def mx5q0 (p0 : List Int) : Prop := IntsP (LN p0) fun (i : Nat) => [ZI (GI p0 i)]
def mx5q1 (p0 : List Int) : List Int := intsD (LN p0) fun (i : Nat) => [ZI (GI p0 i)]
def mx5q2 (p0 : List Int) : Bool := rightS (mx5q1 p0)
end
theorem size_ok (l : List Int) (h : rightS l = true) : ACalls Tryd.prog 23 [isl l .any] ⟨[], []⟩ (SpecR (sC [isl l .any] (.int .i64 (sizeS l))) ()) := by
  refine con_of (A := sC _ _) (x := ()) (E := Esiz) (eOk conAr_ok rfl) Tryd.func23 rfl (by kernel_rfl) rfl (by simp [sC, Esiz, EC, E0]) ?_
  refine vc_eq (T :=
    mx5q0 l ∧ ∀ (y : Unit), True → ifB (!mx5q2 l) (True ∧ ∃ (y : Unit), True ∧ (-1 : Int) = sizeS l ∧ True ∧ True) ((mx5q0 l ∧ mx5q2 l = true) ∧ ∀ (y : Unit), True → True ∧ ∃ (y : Unit), True ∧ sizeS (mx5q1 l) = sizeS l ∧ True ∧ True)) (by kernel_rfl) ?_
  delta GI LN Z0 ZI mx5q0 mx5q1 mx5q2
  simp only [intsD_isl, ifB_iff, true_and, and_true, exists_const, forall_const, h]
  exact ⟨intsP_isl l, fun h => by simp at h, fun _ => intsP_isl l⟩
def conSz : Con := fun k ds S => match k with
  | 23 => match ds with
    | [.sl 1 n f _] => some (pC ds (.int .i64 (sizeS (intsD n f))) (IntsP n f ∧ rightS (intsD n f) = true))
    | _ => none
  | k => conAr k ds S
theorem conSz_ok : ConOk Tryd.prog conSz := by
  intro k ds S A h
  unfold conSz at h
  split at h
  · split at h
    · injection h with h; subst h
      exact pC_ok fun ⟨h1, h2⟩ => ⟨weakL_refl _, sC_weak (isl_weak h1) (size_ok _ h2)⟩
    · cases h
  · exact conAr_ok _ _ _ _ h
theorem intsD_drop (l : List Int) (k : Nat) : intsD (l.length - k) (fun i => [D.int .i64 (l.getD (k + i) 0)]) = l.drop k := by
  apply List.ext_getElem
  · simp [intsD]
  · intro i h1 h2
    simp [intsD, intD, List.getD_eq_getElem?_getD]
    rw [List.getElem?_eq_getElem (by simpa using (by simp at h2; omega : k + i < l.length))]
    rfl
def axD (a : Arr) (ax : Nat) : List Int := (a.sh.take (a.sh.length - 2)).drop ax
def rwK (a : Arr) : Nat := (a.sh.getD (a.sh.length - 2) 0).toNat
def clK (a : Arr) : Nat := (a.sh.getD (a.sh.length - 1) 0).toNat
def runP (a : Arr) (ax at0 i : Nat) : List (List UInt8) := sepC ((List.range i).map fun i => plK a (rwK a) (clK a) (axD a (ax + 1)) (at0 + i * (prodN (axD a (ax + 1)) * (rwK a * clK a))))
theorem axD_end (a : Arr) : axD a (a.sh.length - 2) = [] := by
  unfold axD
  exact List.drop_of_length_le (by rw [List.length_take]; omega)
theorem axD_step (a : Arr) {ax : Nat} (h : ax < a.sh.length - 2) : axD a ax = a.sh.getD ax 0 :: axD a (ax + 1) := by
  unfold axD
  have h1 : ax < (a.sh.take (a.sh.length - 2)).length := by rw [List.length_take]; omega
  rw [drop_stepI h1]
  congr 1
  rw [List.getD_eq_getElem?_getD, List.getD_eq_getElem?_getD, List.getElem?_take, if_pos h]
theorem prod_two (a : Arr) (h2 : 2 ≤ a.sh.length) : prodN (a.sh.drop (a.sh.length - 2)) = rwK a * clK a := by
  have h1 : a.sh.length - 2 < a.sh.length := by omega
  rw [drop_stepI h1, show a.sh.length - 2 + 1 = a.sh.length - 1 by omega, drop_stepI (show a.sh.length - 1 < a.sh.length by omega), show a.sh.length - 1 + 1 = a.sh.length by omega, List.drop_length]
  simp [prodN, rwK, clK]
theorem prod_ax (a : Arr) (h2 : 2 ≤ a.sh.length) : ∀ (n ax : Nat), ax + n = a.sh.length - 2 → prodN (a.sh.drop ax) = prodN (axD a ax) * (rwK a * clK a)
  | 0, ax, h => by
    have h : ax = a.sh.length - 2 := by omega
    subst h
    rw [axD_end, prod_two a h2]; simp [prodN]
  | n + 1, ax, h => by
    rw [axD_step a (by omega), drop_stepI (by omega), prodN, prodN, prod_ax a h2 n (ax + 1) (by omega), Nat.mul_assoc]
theorem prod_ax' (a : Arr) (h2 : 2 ≤ a.sh.length) {ax : Nat} (h : ax ≤ a.sh.length - 2) : prodN (a.sh.drop ax) = prodN (axD a ax) * (rwK a * clK a) := prod_ax a h2 (a.sh.length - 2 - ax) ax (by omega)
theorem axD_pos {a : Arr} (fu : Full a) (ax : Nat) : ∀ d ∈ axD a ax, 1 ≤ d := fun d hd => fu.pos d (List.mem_of_mem_take (List.mem_of_mem_drop hd))
theorem sepC_len (B : Nat) : ∀ l : List (List (List UInt8)), (∀ x ∈ l, x.length ≤ B) → (sepC l).length ≤ (B + 1) * l.length
  | [], _ => by simp [sepC]
  | x :: l, h => by
    have h1 := h x List.mem_cons_self
    have key : ∀ l : List (List (List UInt8)), (∀ x ∈ l, x.length ≤ B) → (l.flatMap fun y => [] :: y).length ≤ (B + 1) * l.length := fun l => by
      induction l with
      | nil => simp
      | cons y l ih =>
        intro hl
        have h2 := ih fun z hz => hl z (List.mem_cons_of_mem _ hz)
        have h3 := hl y List.mem_cons_self
        simp only [List.flatMap_cons, List.length_append, List.length_cons, Nat.mul_succ]; omega
    have h2 := key l fun y hy => h y (List.mem_cons_of_mem _ hy)
    simp only [sepC, List.length_append, List.length_cons, Nat.mul_succ]; omega
theorem rc_pos {a : Arr} (fu : Full a) (h2 : 2 ≤ a.sh.length) : 1 ≤ rwK a ∧ 1 ≤ clK a := by
  have m1 : a.sh.getD (a.sh.length - 2) 0 ∈ a.sh := memI (by omega)
  have m2 : a.sh.getD (a.sh.length - 1) 0 ∈ a.sh := memI (by omega)
  have := fu.pos _ m1
  have := fu.pos _ m2
  unfold rwK clK
  omega
theorem rc_le {a : Arr} (fu : Full a) (h2 : 2 ≤ a.sh.length) : rwK a * clK a ≤ 65536 ∧ rwK a ≤ 65536 ∧ clK a ≤ 65536 := by
  have h := prodN_drop fu.pos (a.sh.length - 2)
  rw [prod_two a h2] at h
  have := fu.le
  obtain ⟨p1, p2⟩ := rc_pos fu h2
  have q1 : rwK a ≤ rwK a * clK a := Nat.le_mul_of_pos_right _ p2
  have q2 : clK a ≤ rwK a * clK a := Nat.le_mul_of_pos_left _ p1
  omega
theorem plK_len {a : Arr} (fu : Full a) (h2 : 2 ≤ a.sh.length) {ax : Nat} (h : ax ≤ a.sh.length - 2) (at0 : Nat) : (plK a (rwK a) (clK a) (axD a ax) at0).length ≤ 131072 := by
  rw [plK_run _ _ _ _ (axD_pos fu ax)]
  have h1 := sepC_len (rwK a) ((List.range (prodN (axD a ax))).map fun p => matK a (at0 + p * (rwK a * clK a)) (rwK a) (clK a)) (by
    intro x hx
    obtain ⟨p, _, rfl⟩ := List.mem_map.1 hx
    rw [matK_len]; exact Nat.le_refl _)
  rw [List.length_map, List.length_range, Nat.add_mul, Nat.one_mul] at h1
  have hp := prodN_drop fu.pos ax
  rw [prod_ax' a h2 h] at hp
  have := fu.le
  obtain ⟨p1, p2⟩ := rc_pos fu h2
  have q0 : 1 ≤ rwK a * clK a := Nat.mul_pos p1 p2
  have q1 : prodN (axD a ax) ≤ prodN (axD a ax) * (rwK a * clK a) := Nat.le_mul_of_pos_right _ q0
  have q2 : rwK a * prodN (axD a ax) ≤ prodN (axD a ax) * (rwK a * clK a) := by
    rw [Nat.mul_comm (rwK a)]
    exact Nat.mul_le_mul_left _ (Nat.le_mul_of_pos_right _ p2)
  omega
theorem runP_len {a : Arr} (fu : Full a) (h2 : 2 ≤ a.sh.length) {ax : Nat} (h : ax < a.sh.length - 2) (at0 i : Nat) : (runP a ax at0 i).length ≤ 131073 * i := by
  have h1 := sepC_len 131072 ((List.range i).map fun i => plK a (rwK a) (clK a) (axD a (ax + 1)) (at0 + i * (prodN (axD a (ax + 1)) * (rwK a * clK a)))) (by
    intro x hx
    obtain ⟨p, _, rfl⟩ := List.mem_map.1 hx
    exact plK_len fu h2 (by omega) _)
  rw [List.length_map, List.length_range] at h1
  exact h1
theorem runP_step (a : Arr) (ax at0 i : Nat) : runP a ax at0 (i + 1) = if i = 0 then plK a (rwK a) (clK a) (axD a (ax + 1)) (at0 + i * (prodN (axD a (ax + 1)) * (rwK a * clK a))) else runP a ax at0 i ++ ([] :: plK a (rwK a) (clK a) (axD a (ax + 1)) (at0 + i * (prodN (axD a (ax + 1)) * (rwK a * clK a)))) := by
  unfold runP
  rw [List.range_succ, List.map_append, List.map_singleton, sepC_snoc]
  by_cases h : i = 0
  · subst h; rfl
  · rw [if_neg h, if_neg (by simp [h])]
theorem app_strs {l r : List (List UInt8)} : ∀ i, i < l.length + r.length → appF l.length (fun i => [D.str (l.getD i [])]) (fun i => [D.str (r.getD i [])]) i = [D.str ((l ++ r).getD i [])] := by
  intro i hi
  simp only [appF]
  split
  · rename_i hlt
    simp [List.getD_eq_getElem?_getD, List.getElem?_append_left hlt]
  · rename_i hge
    simp [List.getD_eq_getElem?_getD, List.getElem?_append_right (Nat.not_lt.1 hge)]
theorem app_gs {n : Nat} {l r : List (List UInt8)} {F G : Nat → List D} (hn : n = l.length) (hF : ∀ i, i < n → F i = [.str (l.getD i [])]) (hG : ∀ i, i < r.length → G i = [.str (r.getD i [])]) :
    ∀ i, i < n + r.length → appF n F G i = [.str ((l ++ r).getD i [])] := by
  intro i hi
  subst hn
  rw [← app_strs i hi]
  simp only [appF]
  split
  · exact hF i (by assumption)
  · exact hG _ (by omega)
end Go.Proofs.YtpgepjefbhgblaaDoor
namespace Go.Proofs.YtpgepjefbhgblaaDoor
open Go Go.Ab
set_option maxRecDepth 100000
def plSt (a : Arr) (xr xa xw xc xp : Nat) : St := ⟨[(16, xp, .cells [.fn (.func 24) [] [.ref 1 xr 0, .ref 0 xa 0, .ref 14 xw 0, .ref 15 xc 0, .ref 16 xp 0]]), (15, xc, .cells [.int .i64 (clK a)]), (14, xw, .cells [.int .i64 (rwK a)]), (1, xr, .cells [.int .i64 a.sh.length]), (0, xa, .cells a.row2)], []⟩
def sPl (a : Arr) (xr xa xw xc xp : Nat) (q : Nat × Nat → Prop) : FnSpec where
  β := Nat × Nat
  α := Unit
  args := fun y => [.int .i64 y.1, .int .i64 y.2, .ref 1 xr 0, .ref 0 xa 0, .ref 14 xw 0, .ref 15 xc 0, .ref 16 xp 0]
  st := fun _ => plSt a xr xa xw xc xp
  pre := q
  post := fun _ _ => True
  res := fun y _ => .ret (ssl (plK a (rwK a) (clK a) (axD a y.1) y.2) .any)
  out := fun _ _ => plSt a xr xa xw xc xp
def sMt (a : Arr) : FnSpec where
  β := Nat × Nat × Nat
  α := Unit
  args := fun y => [.agg a.row2, .int .i64 y.1, .int .i64 y.2.1, .int .i64 y.2.2]
  st := fun _ => ⟨[], []⟩
  pre := fun y => y.2.1 ≤ 65536 ∧ y.2.2 ≤ 65536 ∧ y.1 + y.2.1 * y.2.2 ≤ a.nu.length + a.it.length
  post := fun _ _ => True
  res := fun y _ => .ret (ssl (matK a y.1 y.2.1 y.2.2) .any)
  out := fun _ _ => ⟨[], []⟩
def conPl (a : Arr) (xr xa xw xc xp : Nat) (q : Nat × Nat → Prop) : Con := fun k ds S => match k with
  | 24 => some (sPl a xr xa xw xc xp q)
  | 22 => some (sMt a)
  | k => conSz k ds S
noncomputable def Epl (a : Arr) (xr xa xw xc xp ax at0 : Nat) (q : Nat × Nat → Prop) : Senv := { EC (conPl a xr xa xw xc xp q) 52 7 [9, 10, 11, 15, 25, 26, 27, 30] (fun id => match id with | 9 => ([0, 1, 2, 3, 4, 5, 6, 7, 8, 9, 10, 11, 12, 13, 14, 15, 16], [11, 14, 15]) | _ => ([], [])) with
  gh := fun b => match b with
    | 0 => [.slot 10]
    | _ => []
  ann := fun b _ S => match b with
    | 0 => some { slots := [26, 10], keep := [0, 1, 2, 3, 4, 5, 6, 25], α := Nat × Nat, st := fun y => ([.int .i64 y.1, ssl (runP a ax at0 y.1) (.tok 0 y.2)], ⟨S.objs, [(0, y.2)]⟩), inv := fun y => y.1 ≤ (a.sh.getD ax 0).toNat, mu := fun y => (a.sh.getD ax 0).toNat - y.1 }
    | _ => none }
noncomputable section
def ln3q0 (p0 : Arr) : List Int := Arr.sh p0
def ln3q1 (p0 : Arr) : Nat := LN (ln3q0 p0)
def ln3q2 (p0 : Arr) : Int := (NI (ln3q1 p0))
def ln3q3 (p0 : Arr) : Nat := LN (Arr.nu p0)
def ln3q4 (p0 : Arr) : Nat := LN (Arr.it p0)
def ln3q5 : Arr := DA
def ln3q6 (p0 : Arr) (p1 : Nat) : Arr := List.getD (Arr.it p0) p1 ln3q5
def ln3q7 (p0 : Arr) (p1 : Nat) : List Int := Arr.sh (ln3q6 p0 p1)
def ln3q8 (p0 : Arr) (p1 : Nat) : List Int := Arr.nu (ln3q6 p0 p1)
def ln3q9 (p0 : Arr) (p1 : Nat) : List Arr := Arr.it (ln3q6 p0 p1)
def ln3q10 (p0 : Arr) (p1 : Nat) : List D := [ZI (Arr.k (ln3q6 p0 p1)), SI (ln3q7 p0 p1), SI (ln3q8 p0 p1), D.sl N4 (LN (ln3q9 p0 p1)) (fun (i : Nat) => Arr.row (List.getD (ln3q9 p0 p1) i ln3q5)) Mode.any]
def ln3q11 (p0 : Arr) : Prop := SM (Arr.k p0) ∧ (SM (ln3q1 p0) ∧ (∀ (i : Nat), i < ln3q1 p0 → SM [ZI (GI (ln3q0 p0) i)]) ∧ True) ∧ (SM (ln3q3 p0) ∧ (∀ (i : Nat), i < ln3q3 p0 → SM [ZI (GI (Arr.nu p0) i)]) ∧ True) ∧ (SM (ln3q4 p0) ∧ (∀ (i : Nat), i < ln3q4 p0 → SM (ln3q10 p0 i)) ∧ True) ∧ True
def ln3q12 (p0 : Arr) : Int := (NI (rwK p0))
def ln3q13 (p0 : Arr) : Int := (NI (clK p0))
def ln3q14 (p0 : Arr) (p1 p2 : Nat) : List (List UInt8) := plK p0 (rwK p0) (clK p0) (axD p0 p1) p2
def ln3q15 (p0 : Arr) (p1 p2 : Nat) : Nat := LN (ln3q14 p0 p1 p2)
def ln3q16 (p0 : Arr) (p1 p2 p3 : Nat) : List D := [D.str (List.getD (ln3q14 p0 p1 p2) p3 [])]
def ln3q17 (p0 p1 p2 p3 p4 : Nat) : D := D.fn (Fn.func (24 : Nat)) [] [D.ref N1 p0 N0, D.ref N0 p1 N0, D.ref (14 : Nat) p2 N0, D.ref (15 : Nat) p3 N0, D.ref (16 : Nat) p4 N0]
def ln3q18 (p0 p1 p2 p3 p4 : Nat) : Prop := SM (ln3q17 p0 p1 p2 p3 p4)
def ln3q19 (p0 p1 p2 p3 p4 : Nat) (p5 : Arr) : Prop := SM p0 ∧ (ln3q18 p1 p2 p3 p4 p0 ∧ True) ∧ SM p4 ∧ (SM (ln3q13 p5) ∧ True) ∧ SM p3 ∧ (SM (ln3q12 p5) ∧ True) ∧ SM p1 ∧ (SM (ln3q2 p5) ∧ True) ∧ SM p2 ∧ ln3q11 p5 ∧ True
def ln3q20 (p0 p1 p2 p3 p4 : Nat) (p5 : Arr) : Prop := ln3q19 p0 p1 p2 p3 p4 p5 ∧ True
def ln3q21 (p0 : Nat) (p1 : Arr) (p2 : Nat) : Prop := p0 ≤ Int.toNat (GI (ln3q0 p1) p2)
def ln3q22 (p0 : Arr) (p1 p2 p3 : Nat) : Nat := LN (runP p0 p1 p2 p3)
def ln3q23 (p0 : Arr) (p1 p2 p3 p4 : Nat) : List D := [D.str (List.getD (runP p0 p1 p2 p3) p4 [])]
def ln3q24 (p0 p1 p2 p3 p4 : Nat) (p5 : Arr) (p6 p7 : Nat) : Prop := ln3q19 p0 p1 p2 p3 p4 p5 ∧ p6 = p7 ∧ True
def ln3q25 (p0 : Arr) (p1 p2 p3 : Nat) : Nat := ln3q22 p0 p1 p2 p3 + N1
def ln3q26 (p0 : Nat) : Int := IntKind.wrap IntKind.i64 ((↑p0 : Int) + Z1)
def ln3q27 (p0 : Arr) (p1 : Nat) : Nat := Int.toNat (ln3q2 p0) - Int.toNat (ln3q26 p1)
def ln3q28 (p0 : Arr) (p1 p2 : Nat) : List D := [ZI (GI (ln3q0 p0) (Int.toNat (ln3q26 p1) + p2))]
def ln3q29 (p0 : Arr) (p1 : Nat) : List Int := intsD (ln3q27 p0 p1) fun (i : Nat) => ln3q28 p0 p1 i
def ln3q30 (p0 : Arr) (p1 : Nat) : Prop := (IntsP (ln3q27 p0 p1) fun (i : Nat) => ln3q28 p0 p1 i) ∧ rightS (ln3q29 p0 p1) = true
def ln3q31 (p0 p1 p2 p3 p4 : Nat) : Prop := SM p0 ∧ ln3q18 p1 p2 p3 p4 p0
def ln3q32 (p0 p1 : Nat) : Prop := ln3q26 p0 = (↑p1 : Int)
def ln3q33 (p0 p1 p2 p3 : Nat) (p4 : Arr) (p5 p6 p7 p8 p9 p10 : Nat) : Prop := ln3q32 p0 p1 ∧ IntKind.wrap IntKind.i64 ((↑p2 : Int) + IntKind.wrap IntKind.i64 ((↑p3 : Int) * sizeS (ln3q29 p4 p0))) = (↑p5 : Int) ∧ SM p6 ∧ SM p7 ∧ SM p8 ∧ SM p9 ∧ SM p10 ∧ True
def ln3q34 (p0 : Arr) (p1 p2 p3 p4 p5 : Nat) : Nat := ln3q25 p0 p1 p2 p3 + ln3q15 p0 p4 p5
def ln3q35 (p0 : Arr) (p1 : Nat) : D := ZI (GI (ln3q0 p0) (Int.toNat (↑p1 : Int)))
def ln3q36 (p0 p1 p2 p3 p4 p5 p6 : Nat) (p7 : Arr) : Prop := SM (ZI (↑p0 : Int)) ∧ SM (ZI (↑p1 : Int)) ∧ SM (D.ref N1 p2 N0) ∧ SM (D.ref N0 p3 N0) ∧ SM (D.ref (14 : Nat) p4 N0) ∧ SM (D.ref (15 : Nat) p5 N0) ∧ SM (D.ref (16 : Nat) p6 N0) ∧ SM (ln3q35 p7 p0) ∧ True
def ln3q37 (p0 : Arr) (p1 p2 p3 : Nat) : Prop := Int.toNat (GI (ln3q0 p0) p1) - p2 < Int.toNat (GI (ln3q0 p0) p1) - p3
def ln3q38 (p0 : Arr) (p1 p2 p3 p4 p5 : Nat) : Nat := ln3q22 p0 p1 p2 p3 + ln3q15 p0 p4 p5
end
theorem pl_step (a : Arr) (xr xa xw xc xp ax at0 : Nat) (q : Nat × Nat → Prop) (lo : LOk a) (fu : Full a) (h2 : 2 ≤ a.sh.length) (hax : ax ≤ a.sh.length - 2) (hs : at0 + prodN (a.sh.drop ax) ≤ a.nu.length + a.it.length)
    (hq : ∀ b, b + prodN (a.sh.drop (ax + 1)) ≤ a.nu.length + a.it.length → ax + 1 ≤ a.sh.length - 2 → q (ax + 1, b)) (hc : ConOk Tryd.prog (conPl a xr xa xw xc xp q)) :
    ACalls Tryd.prog 24 ((sPl a xr xa xw xc xp (fun _ => True)).args (ax, at0)) ((sPl a xr xa xw xc xp (fun _ => True)).st (ax, at0)) (SpecR (sPl a xr xa xw xc xp (fun _ => True)) (ax, at0)) := by
  refine con_of (A := sPl a xr xa xw xc xp (fun _ => True)) (x := (ax, at0)) (E := Epl a xr xa xw xc xp ax at0 q) (eOk hc rfl) Tryd.func24 rfl (by kernel_rfl) rfl (by simp [sPl, Epl, EC, E0]) ?_
  refine vc_eq (T :=
    SM xr ∧ ifB ((↑ax : Int) == IntKind.wrap IntKind.i64 (ln3q2 a - (2 : Int))) (SM xa ∧ SM xw ∧ SM xc ∧ ∃ (x : Nat × Nat × Nat), (ln3q11 a ∧ (↑at0 : Int) = (NI x.1) ∧ ln3q12 a = (NI x.2.1) ∧ ln3q13 a = (NI x.2.2) ∧ True) ∧ (True ∧ True) ∧ (x.2.1 ≤ (65536 : Nat) ∧ x.2.2 ≤ (65536 : Nat) ∧ x.1 + x.2.1 * x.2.2 ≤ ln3q3 a + ln3q4 a) ∧ ∀ (y : Unit), True → True ∧ ∃ (y : Unit), True ∧ (LN (matK a x.1 x.2.1 x.2.2) = ln3q15 a ax at0 ∧ (∀ (i : Nat), i < LN (matK a x.1 x.2.1 x.2.2) → [D.str (List.getD (matK a x.1 x.2.1 x.2.2) i [])] = ln3q16 a ax at0 i) ∧ True) ∧ ln3q20 xp xr xa xw xc a) (SM xa ∧ side (Z0 ≤ (↑ax : Int) ∧ (↑ax : Int) < ln3q2 a) (∀ (t : Nat), (∃ (x : Nat × Nat), ln3q21 x.1 a ax ∧ (Z0 = (NI x.1) ∧ (N0 = ln3q22 a ax at0 x.1 ∧ (∀ (i : Nat), i < N0 → eqOf (List D) [] (ln3q23 a ax at0 x.1 i)) ∧ t = x.2) ∧ True) ∧ ln3q24 xp xr xa xw xc a t x.2) ∧ ∀ (x : Nat × Nat), ln3q21 x.1 a ax → ifB (decide ((NI x.1) < GI (ln3q0 a) (Int.toNat (↑ax : Int)))) (ifB (decide (Z0 < (NI x.1))) (SM x.2 ∧ side (ln3q25 a ax at0 x.1 * (16 : Nat) ≤ (140737488355328 : Nat) ∧ ln3q25 a ax at0 x.1 ≤ (9223372036854775807 : Nat)) (∀ (t : Nat), SM xp ∧ SM xa ∧ side (Z0 ≤ ln3q26 ax ∧ ln3q26 ax ≤ ln3q2 a ∧ ln3q2 a ≤ ln3q2 a) (ln3q30 a ax ∧ ∀ (y : Unit), True → ln3q31 xp xr xa xw xc ∧ ∃ (x_1 : Nat × Nat), ln3q33 ax x_1.1 at0 x.1 a x_1.2 xr xa xw xc xp ∧ ln3q20 xp xr xa xw xc a ∧ q x_1 ∧ ∀ (y : Unit), True → SM t ∧ side (ln3q34 a ax at0 x.1 x_1.1 x_1.2 * (16 : Nat) ≤ (140737488355328 : Nat) ∧ ln3q34 a ax at0 x.1 x_1.1 x_1.2 ≤ (9223372036854775807 : Nat)) (∀ (t : Nat), ln3q36 ax at0 xr xa xw xc xp a ∧ ∃ (y : Nat × Nat), ln3q21 y.1 a ax ∧ ln3q37 a ax y.1 x.1 ∧ (ln3q32 x.1 y.1 ∧ (ln3q34 a ax at0 x.1 x_1.1 x_1.2 = ln3q22 a ax at0 y.1 ∧ (∀ (i : Nat), i < ln3q34 a ax at0 x.1 x_1.1 x_1.2 → appF (ln3q25 a ax at0 x.1) (appF (ln3q22 a ax at0 x.1) (fun (i : Nat) => ln3q23 a ax at0 x.1 i) fun (i : Nat) => List.getD [[D.str []]] i []) (fun (i : Nat) => ln3q16 a x_1.1 x_1.2 i) i = ln3q23 a ax at0 y.1 i) ∧ t = y.2) ∧ True) ∧ ln3q24 xp xr xa xw xc a t y.2)))) (SM xp ∧ SM xa ∧ side (Z0 ≤ ln3q26 ax ∧ ln3q26 ax ≤ ln3q2 a ∧ ln3q2 a ≤ ln3q2 a) (ln3q30 a ax ∧ ∀ (y : Unit), True → ln3q31 xp xr xa xw xc ∧ ∃ (x_1 : Nat × Nat), ln3q33 ax x_1.1 at0 x.1 a x_1.2 xr xa xw xc xp ∧ ln3q20 xp xr xa xw xc a ∧ q x_1 ∧ ∀ (y : Unit), True → SM x.2 ∧ side (ln3q38 a ax at0 x.1 x_1.1 x_1.2 * (16 : Nat) ≤ (140737488355328 : Nat) ∧ ln3q38 a ax at0 x.1 x_1.1 x_1.2 ≤ (9223372036854775807 : Nat)) (∀ (t : Nat), ln3q36 ax at0 xr xa xw xc xp a ∧ ∃ (y : Nat × Nat), ln3q21 y.1 a ax ∧ ln3q37 a ax y.1 x.1 ∧ (ln3q32 x.1 y.1 ∧ (ln3q38 a ax at0 x.1 x_1.1 x_1.2 = ln3q22 a ax at0 y.1 ∧ (∀ (i : Nat), i < ln3q38 a ax at0 x.1 x_1.1 x_1.2 → appF (ln3q22 a ax at0 x.1) (fun (i : Nat) => ln3q23 a ax at0 x.1 i) (fun (i : Nat) => ln3q16 a x_1.1 x_1.2 i) i = ln3q23 a ax at0 y.1 i) ∧ t = y.2) ∧ True) ∧ ln3q24 xp xr xa xw xc a t y.2)))) (True ∧ ∃ (y : Unit), True ∧ (ln3q22 a ax at0 x.1 = ln3q15 a ax at0 ∧ (∀ (i : Nat), i < ln3q22 a ax at0 x.1 → ln3q23 a ax at0 x.1 i = ln3q16 a ax at0 i) ∧ True) ∧ ln3q20 xp xr xa xw xc a)))) (by kernel_rfl) ?_
  delta DA GI LN N0 N1 N4 NI SI SM Z0 Z1 ZI ln3q0 ln3q1 ln3q10 ln3q11 ln3q12 ln3q13 ln3q14 ln3q15 ln3q16 ln3q17 ln3q18 ln3q19 ln3q2 ln3q20 ln3q21 ln3q22 ln3q23 ln3q24 ln3q25 ln3q26 ln3q27 ln3q28 ln3q29 ln3q3 ln3q30 ln3q31 ln3q32 ln3q33 ln3q34 ln3q35 ln3q36 ln3q37 ln3q38 ln3q4 ln3q5 ln3q6 ln3q7 ln3q8 ln3q9
  have da : (default : Arr) = Arr.mk 0 [] [] [] := rfl
  simp only [← da, ifB_iff, side_iff, decide_eq_true_eq, decide_eq_false_iff_not, true_and, and_true, beq_iff_eq, beq_eq_false_iff_ne, ne_eq, exists_const, forall_const, implies_true, Int.toNat_natCast, Prod.exists]
  have s8 := lo.s8
  have hsz := lo_size lo
  obtain ⟨l1, l2, l3⟩ := rc_le fu h2
  have w2 : IntKind.i64.wrap ((a.sh.length : Int) - 2) = ((a.sh.length - 2 : Nat) : Int) := by rw [wrap_i64' (by omega) (by omega)]; omega
  have w1 : IntKind.i64.wrap ((ax : Int) + 1) = ((ax + 1 : Nat) : Int) := wrap_i64' (by omega) (by omega)
  simp only [w2, w1, Int.toNat_natCast]
  have hpx := prod_ax' a h2 hax
  refine ⟨fun he => ?_, fun hne => ?_⟩
  · have he : ax = a.sh.length - 2 := by omega
    subst he
    rw [axD_end]
    rw [prod_two a h2] at hs
    exact ⟨at0, rwK a, clK a, ⟨rfl, rfl, rfl⟩, ⟨l2, l3, hs⟩, rfl, fun _ _ => rfl⟩
  · have hlt : ax < a.sh.length - 2 := by omega
    have hmem : a.sh.getD ax 0 ∈ a.sh := memI (by omega)
    have hd1 := fu.pos _ hmem
    have hP : prodN (a.sh.drop ax) = (a.sh.getD ax 0).toNat * prodN (a.sh.drop (ax + 1)) := by rw [drop_stepI (by omega), prodN]
    have hP1 := prodN_pos (l := a.sh.drop (ax + 1)) fun d hd => fu.pos d (List.mem_of_mem_drop hd)
    have hPle := prodN_drop fu.pos (ax + 1)
    have hPm := fu.le
    have hdle : (a.sh.getD ax 0).toNat ≤ 65536 := by
      have := Nat.le_mul_of_pos_right (a.sh.getD ax 0).toNat hP1
      have := prodN_drop fu.pos ax
      omega
    have hPa := prod_ax' a h2 (show ax + 1 ≤ a.sh.length - 2 by omega)
    have hint := intsD_drop a.sh (ax + 1)
    have hsS := sizeS_prod (l := a.sh.drop (ax + 1)) (fun d hd => fu.pos d (List.mem_of_mem_drop hd)) (by omega)
    have hrS := rightS_prod (l := a.sh.drop (ax + 1)) (fun d hd => fu.pos d (List.mem_of_mem_drop hd)) (by omega) (by rw [List.length_drop]; omega)
    simp only [hint, hsS, hrS]
    refine ⟨⟨by omega, by omega⟩, fun t => ⟨⟨0, t, Nat.zero_le _, ⟨rfl, rfl, fun i hi => absurd hi (by omega), rfl⟩, rfl⟩, ?_⟩⟩
    rintro ⟨i, t1⟩ hi
    simp only at hi ⊢
    refine ⟨fun hlt2 => ?_, fun hge => ?_⟩
    · have hi1 : i < (a.sh.getD ax 0).toNat := by omega
      have hmr := mul_row (cols := prodN (a.sh.drop (ax + 1))) hi1
      rw [← hP] at hmr
      have wm : IntKind.i64.wrap ((i : Int) * (prodN (a.sh.drop (ax + 1)) : Int)) = ((i * prodN (a.sh.drop (ax + 1)) : Nat) : Int) := by rw [← Int.natCast_mul]; exact wrap_i64' (by omega) (by omega)
      have wa : IntKind.i64.wrap ((at0 : Int) + ((i * prodN (a.sh.drop (ax + 1)) : Nat) : Int)) = ((at0 + i * prodN (a.sh.drop (ax + 1)) : Nat) : Int) := by rw [← Int.natCast_add]; exact wrap_i64' (by omega) (by omega)
      have hpl := plK_len fu h2 (show ax + 1 ≤ a.sh.length - 2 by omega) (at0 + i * prodN (a.sh.drop (ax + 1)))
      have hrl := runP_len fu h2 hlt at0 i
      have hst := runP_step a ax at0 i
      rw [← hPa] at hst
      have hq1 := hq (at0 + i * prodN (a.sh.drop (ax + 1))) (by omega) (by omega)
      have hint2 : IntsP (a.sh.length - (ax + 1)) (fun i => [D.int IntKind.i64 (a.sh.getD (ax + 1 + i) 0)]) := fun _ _ => rfl
      refine ⟨fun h0 => ⟨⟨by omega, by omega⟩, ⟨by omega, by omega, by omega⟩, ⟨hint2, trivial⟩, ax + 1, at0 + i * prodN (a.sh.drop (ax + 1)), ⟨rfl, by rw [wm, wa]⟩, hq1, ⟨by omega, by omega⟩, fun t2 => ⟨i + 1, t2, by omega, by omega, ⟨wrap_i64' (by omega) (by omega), ?_, ?_, rfl⟩, rfl⟩⟩,
        fun h0 => ⟨⟨by omega, by omega, by omega⟩, ⟨hint2, trivial⟩, ax + 1, at0 + i * prodN (a.sh.drop (ax + 1)), ⟨rfl, by rw [wm, wa]⟩, hq1, ⟨by omega, by omega⟩, fun t2 => ⟨i + 1, t2, by omega, by omega, ⟨wrap_i64' (by omega) (by omega), ?_, ?_, rfl⟩, rfl⟩⟩⟩
      · rw [hst, if_neg (by omega)]; simp only [List.length_append, List.length_cons]; omega
      · rw [hst, if_neg (by omega)]
        have := app_gs (n := (runP a ax at0 i).length + 1) (l := runP a ax at0 i ++ [[]]) (r := plK a (rwK a) (clK a) (axD a (ax + 1)) (at0 + i * prodN (a.sh.drop (ax + 1)))) (by simp) (app_str (l := runP a ax at0 i) (s := [])) (fun _ _ => rfl)
        rw [List.append_assoc] at this
        exact this
      · have e : i = 0 := by omega
        subst e
        rw [hst, if_pos rfl]
        show 0 + _ = _
        omega
      · have e : i = 0 := by omega
        subst e
        rw [hst, if_pos rfl]
        exact app_gs (n := (runP a ax at0 0).length) (l := []) rfl (fun _ _ => rfl) (fun _ _ => rfl)
    · have e : i = (a.sh.getD ax 0).toNat := by omega
      subst e
      have : runP a ax at0 (a.sh.getD ax 0).toNat = plK a (rwK a) (clK a) (axD a ax) at0 := by
        rw [axD_step a hlt, plK]; rfl
      rw [this]
      exact ⟨rfl, fun _ _ => rfl⟩
end Go.Proofs.YtpgepjefbhgblaaDoor
namespace Go.Proofs.YtpgepjefbhgblaaDoor
open Go Go.Ab
set_option maxRecDepth 100000
theorem conMx_ok {a : Arr} (ho : a.ok) (h : (chkA a).1 = 0) : ConOk Tryd.prog (conMx a) := by
  intro k ds S A hk
  unfold conMx at hk
  split at hk
  · injection hk with hk; subst hk
    exact ConOk.plain (fun (i : Nat) hi => text_ok ho h i hi) rfl rfl
  · exact conR_ok _ _ _ _ hk
  · exact conJn_ok _ _ _ _ hk
theorem mt_ok {a : Arr} (ho : a.ok) (h : (chkA a).1 = 0) (y : Nat × Nat × Nat) (hy : (sMt a).pre y) : ACalls Tryd.prog 22 ((sMt a).args y) ⟨[], []⟩ (SpecR (sMt a) y) :=
  (mat_ok a y.1 y.2.1 y.2.2 (lok_of ho h) hy.1 hy.2.1 hy.2.2 (conMx_ok ho h)).mono fun _ _ ⟨y, q1, q2, q3⟩ => ⟨y, q1, q2, q3⟩
theorem conPl_ok {a : Arr} (ho : a.ok) (h : (chkA a).1 = 0) {xr xa xw xc xp : Nat} {q : Nat × Nat → Prop} (ih : ∀ y, q y → ACalls Tryd.prog 24 ((sPl a xr xa xw xc xp (fun _ => True)).args y) ((sPl a xr xa xw xc xp (fun _ => True)).st y) (SpecR (sPl a xr xa xw xc xp (fun _ => True)) y)) : ConOk Tryd.prog (conPl a xr xa xw xc xp q) := by
  intro k ds S A hk
  unfold conPl at hk
  split at hk
  · injection hk with hk; subst hk
    exact ConOk.plain (fun y hy => (ih y hy).mono fun _ _ ⟨y, q1, q2, q3⟩ => ⟨y, q1, q2, q3⟩) rfl rfl
  · injection hk with hk; subst hk
    exact ConOk.plain (fun y hy => mt_ok ho h y hy) rfl rfl
  · exact conSz_ok _ _ _ _ hk
theorem pl_all {a : Arr} (ho : a.ok) (h : (chkA a).1 = 0) (fu : Full a) (h2 : 2 ≤ a.sh.length) (xr xa xw xc xp : Nat) : ∀ (n ax at0 : Nat), ax + n = a.sh.length - 2 → at0 + prodN (a.sh.drop ax) ≤ a.nu.length + a.it.length →
    ACalls Tryd.prog 24 ((sPl a xr xa xw xc xp (fun _ => True)).args (ax, at0)) ((sPl a xr xa xw xc xp (fun _ => True)).st (ax, at0)) (SpecR (sPl a xr xa xw xc xp (fun _ => True)) (ax, at0))
  | 0, ax, at0, he, hs => pl_step a xr xa xw xc xp ax at0 (fun _ => False) (lok_of ho h) fu h2 (by omega) hs (fun b _ hb => by omega) (conPl_ok ho h fun y hy => hy.elim)
  | n + 1, ax, at0, he, hs => by
    refine pl_step a xr xa xw xc xp ax at0 (fun y => y.1 = ax + 1 ∧ y.2 + prodN (a.sh.drop (ax + 1)) ≤ a.nu.length + a.it.length) (lok_of ho h) fu h2 (by omega) hs (fun b hb _ => ⟨rfl, hb⟩) (conPl_ok ho h fun y hy => ?_)
    obtain ⟨y1, y2⟩ := y
    obtain ⟨h1, h3⟩ := hy
    simp only at h1 h3
    subst h1
    exact pl_all ho h fu h2 xr xa xw xc xp n (ax + 1) y2 (by omega) h3
def _root_.Go.Ab.FnSpec.when (A : FnSpec) (p : Prop) : FnSpec := { A with pre := fun x => p ∧ A.pre x }
def linesK (a : Arr) : List (List UInt8) :=
  if (chkA a).1 ≠ 0 then []
  else if a.sh.length = 0 then [cellK a 0]
  else if a.sh.length = 1 then matK a 0 1 (a.sh.getD 0 0).toNat
  else if sizeS a.sh = 0 then []
  else plK a (rwK a) (clK a) (axD a 0) 0
def conLs (a : Arr) : Con := fun k ds S => match k with
  | 18 => some (sRc Arr.row2 (fun b => b = a) (fun b => .int .i64 (chkA b).1))
  | 21 => some ((sTx Arr.row2 a).when ((chkA a).1 = 0))
  | 22 => some ((sMt a).when ((chkA a).1 = 0))
  | 24 => match ds with
    | [_, _, .ref _ xr _, .ref _ xa _, .ref _ xw _, .ref _ xc _, .ref _ xp _] => some (sPl a xr xa xw xc xp (fun y => ((chkA a).1 = 0 ∧ sizeS a.sh ≠ 0 ∧ 2 ≤ a.sh.length) ∧ y = (0, 0)))
    | _ => none
  | k => conSz k ds S
theorem conLs_ok {a : Arr} (ho : a.ok) : ConOk Tryd.prog (conLs a) := by
  intro k ds S A hk
  unfold conLs at hk
  split at hk
  · injection hk with hk; subst hk
    refine ConOk.plain (fun (b : Arr) hb => ?_) rfl rfl
    have hb : b = a := hb
    rw [hb]
    exact ((ri_ok a ho).wkArgs (by simp only [sRc, wkL, wkD]; exact ⟨row2_row1 a, trivial⟩)).mono fun _ _ ⟨y, q1, q2, q3⟩ => ⟨y, q1, q2, q3⟩
  · injection hk with hk; subst hk
    exact ConOk.plain (fun (i : Nat) hi => (text_ok ho hi.1 i hi.2).mono fun _ _ ⟨y, q1, q2, q3⟩ => ⟨y, q1, q2, q3⟩) rfl rfl
  · injection hk with hk; subst hk
    exact ConOk.plain (fun (i : Nat × Nat × Nat) hi => (mt_ok ho hi.1 i hi.2).mono fun _ _ ⟨y, q1, q2, q3⟩ => ⟨y, q1, q2, q3⟩) rfl rfl
  · split at hk
    · injection hk with hk; subst hk
      refine ConOk.plain (fun (y : Nat × Nat) hy => ?_) rfl rfl
      obtain ⟨⟨h1, h2, h3⟩, rfl⟩ := hy
      have fu := full_ok (lok_of ho h1) h1 h2
      exact (pl_all ho h1 fu h3 _ _ _ _ _ (a.sh.length - 2) 0 0 (by omega) (by rw [List.drop_zero, fu.prod]; omega)).mono fun _ _ ⟨y, q1, q2, q3⟩ => ⟨y, q1, q2, q3⟩
    · cases hk
  · exact conSz_ok _ _ _ _ hk
noncomputable def Els (a : Arr) : Senv := EC (conLs a) 45 7 [9, 14, 19, 29] (fun id => match id with | 7 => ([0, 1, 2, 3, 4, 5, 6], [5]) | 10 => ([0, 1, 2, 3, 4, 5, 6, 7, 8, 9, 10, 11, 12, 13, 14, 15], [12, 13, 14, 15]) | _ => ([], []))
noncomputable section
def ln4q0 (p0 : Arr) : Int := Arr.k p0
def ln4q1 (p0 : Arr) : List Int := Arr.sh p0
def ln4q2 (p0 : Arr) : Nat := LN (ln4q1 p0)
def ln4q3 (p0 : Arr) (p1 : Nat) : List D := [ZI (GI (ln4q1 p0) p1)]
def ln4q4 (p0 : Arr) : Nat := LN (Arr.nu p0)
def ln4q5 (p0 : Arr) (p1 : Nat) : List D := [ZI (GI (Arr.nu p0) p1)]
def ln4q6 (p0 : Arr) : Nat := LN (Arr.it p0)
def ln4q7 : Arr := DA
def ln4q8 (p0 : Arr) (p1 : Nat) : Arr := List.getD (Arr.it p0) p1 ln4q7
def ln4q9 (p0 : Arr) (p1 : Nat) : List Int := Arr.sh (ln4q8 p0 p1)
def ln4q10 (p0 : Arr) (p1 : Nat) : List Int := Arr.nu (ln4q8 p0 p1)
def ln4q11 (p0 : Arr) (p1 : Nat) : List Arr := Arr.it (ln4q8 p0 p1)
def ln4q12 (p0 : Arr) (p1 : Nat) : List D := [ZI (Arr.k (ln4q8 p0 p1)), SI (ln4q9 p0 p1), SI (ln4q10 p0 p1), D.sl N4 (LN (ln4q11 p0 p1)) (fun (i : Nat) => Arr.row (List.getD (ln4q11 p0 p1) i ln4q7)) Mode.any]
def ln4q13 (p0 : Arr) : Nat := LN (linesK p0)
def ln4q14 (p0 : Arr) (p1 : Nat) : List D := [D.str (List.getD (linesK p0) p1 [])]
def ln4q15 (p0 : Arr) : Prop := True ∧ ∃ (_y : Unit), True ∧ (N0 = ln4q13 p0 ∧ (∀ (i : Nat), i < N0 → eqOf (List D) [] (ln4q14 p0 i)) ∧ True) ∧ True ∧ True
def ln4q16 (p0 : Arr) : Int := (NI (ln4q2 p0))
def ln4q17 (p0 : Arr) : Prop := SM (ln4q0 p0) ∧ (SM (ln4q2 p0) ∧ (∀ (i : Nat), i < ln4q2 p0 → SM (ln4q3 p0 i)) ∧ True) ∧ (SM (ln4q4 p0) ∧ (∀ (i : Nat), i < ln4q4 p0 → SM (ln4q5 p0 i)) ∧ True) ∧ (SM (ln4q6 p0) ∧ (∀ (i : Nat), i < ln4q6 p0 → SM (ln4q12 p0 i)) ∧ True) ∧ True
def ln4q18 (p0 : Arr) : Prop := Prod.fst (chkA p0) = Z0
def ln4q19 (p0 : Arr) : Nat := ln4q4 p0 + ln4q6 p0
def ln4q20 (p0 : Arr) : List Int := intsD (ln4q2 p0) fun (i : Nat) => ln4q3 p0 i
def ln4q21 (p0 : Arr) : Int := IntKind.wrap IntKind.i64 (ln4q16 p0 - (2 : Int))
def ln4q22 (p0 : Arr) : Int := IntKind.wrap IntKind.i64 (ln4q16 p0 - Z1)
def ln4q23 (p0 : Nat) (p1 : Arr) : Prop := SM p0 ∧ SM (ZI (ln4q16 p1))
def ln4q24 (p0 : Arr) : D := D.sl N1 (ln4q2 p0) (fun (i : Nat) => ln4q3 p0 i) Mode.any
def ln4q25 (p0 : Nat) (p1 : Arr) : Prop := SM p0 ∧ SM (ln4q24 p1)
def ln4q26 : Nat := max (N1 + N1) (max (N0 + N1) N0)
def ln4q27 (p0 : Nat) : D := D.ref (ln4q26 + nat_lit 12) p0 N0
def ln4q28 (p0 : Nat) : D := D.ref (ln4q26 + nat_lit 13) p0 N0
def ln4q29 (p0 p1 p2 p3 p4 : Nat) : D := D.fn (Fn.func (24 : Nat)) [] [D.ref N1 p0 N0, D.ref N0 p1 N0, D.ref (14 : Nat) p2 N0, D.ref (15 : Nat) p3 N0, D.ref (16 : Nat) p4 N0]
def ln4q30 (p0 : Nat) (p1 : Arr) (p2 p3 p4 : Nat) : Prop := SM p0 ∧ (GI (ln4q1 p1) (Int.toNat (ln4q22 p1)) = (NI (clK p1)) ∧ True) ∧ SM p2 ∧ (GI (ln4q1 p1) (Int.toNat (ln4q21 p1)) = (NI (rwK p1)) ∧ True) ∧ SM p3 ∧ (SM (ln4q16 p1) ∧ True) ∧ SM p4 ∧ ln4q17 p1 ∧ True
def ln4q31 (p0 : Arr) (p1 p2 : Nat) : List (List UInt8) := plK p0 (rwK p0) (clK p0) (axD p0 p1) p2
def ln4q32 (p0 : Arr) (p1 p2 : Nat) : Nat := LN (ln4q31 p0 p1 p2)
def ln4q33 (p0 : Arr) (p1 : Nat × Nat) (p2 p3 : Nat) : Prop := ((ln4q18 p0 ∧ sizeS (ln4q1 p0) ≠ Z0 ∧ N2 ≤ ln4q2 p0) ∧ p1 = (N0, N0)) ∧ ∀ (_y : Unit), True → True ∧ ∃ (_y : Unit), True ∧ (ln4q32 p0 p2 p3 = ln4q13 p0 ∧ (∀ (i : Nat), i < ln4q32 p0 p2 p3 → [D.str (List.getD (ln4q31 p0 p2 p3) i [])] = ln4q14 p0 i) ∧ True) ∧ True ∧ True
end
theorem lines_ok (a : Arr) (ho : a.ok) :
    ACalls Tryd.prog 11 ((sRc Arr.row2 (fun _ => True) (fun b => ssl (linesK b) .any)).args a) ⟨[], []⟩ (SpecR (sRc Arr.row2 (fun _ => True) (fun b => ssl (linesK b) .any)) a) := by
  refine con_of (A := sRc Arr.row2 (fun _ => True) (fun b => ssl (linesK b) .any)) (x := a) (E := Els a) (eOk (conLs_ok ho) rfl) Tryd.func11 rfl (by kernel_rfl) rfl (by simp [sRc, Els, EC, E0]) ?_
  refine vc_eq (T :=
    ∀ (x : Nat), True → SM x ∧ ∃ (x_1 : Arr), ((ln4q0 a = ln4q0 x_1 ∧ (ln4q2 a = ln4q2 x_1 ∧ (∀ (i : Nat), i < ln4q2 a → ln4q3 a i = ln4q3 x_1 i) ∧ True) ∧ (ln4q4 a = ln4q4 x_1 ∧ (∀ (i : Nat), i < ln4q4 a → ln4q5 a i = ln4q5 x_1 i) ∧ True) ∧ (ln4q6 a = ln4q6 x_1 ∧ (∀ (i : Nat), i < ln4q6 a → ln4q12 a i = ln4q12 x_1 i) ∧ True) ∧ True) ∧ True) ∧ (True ∧ True) ∧ x_1 = a ∧ ∀ (y : Unit), True → ifB (Prod.fst (chkA x_1) != Z0) (ln4q15 a) (SM x ∧ ∀ (x_2 : Nat), x ≠ x_2 ∧ True → SM x_2 ∧ SM x_2 ∧ ifB (ln4q16 a == Z0) (SM x ∧ ∃ (x : Nat), (ln4q17 a ∧ Z0 = (↑x : Int) ∧ True) ∧ (True ∧ True) ∧ (ln4q18 a ∧ x < ln4q19 a) ∧ ∀ (y : Unit), True → True ∧ ∃ (y : Unit), True ∧ (N1 = ln4q13 a ∧ (∀ (i : Nat), i < N1 → List.getD [[D.str (cellK a x)]] i [] = ln4q14 a i) ∧ True) ∧ True ∧ True) (SM x_2 ∧ ifB (ln4q16 a == Z1) (SM x ∧ SM x ∧ side (Z0 ≤ Z0 ∧ Z0 < ln4q16 a) (∃ (x : Nat × Nat × Nat), (ln4q17 a ∧ Z0 = (NI x.1) ∧ Z1 = (NI x.2.1) ∧ GI (ln4q1 a) N0 = (NI x.2.2) ∧ True) ∧ (True ∧ True) ∧ (ln4q18 a ∧ x.2.1 ≤ (65536 : Nat) ∧ x.2.2 ≤ (65536 : Nat) ∧ x.1 + x.2.1 * x.2.2 ≤ ln4q19 a) ∧ ∀ (y : Unit), True → True ∧ ∃ (y : Unit), True ∧ (LN (matK a x.1 x.2.1 x.2.2) = ln4q13 a ∧ (∀ (i : Nat), i < LN (matK a x.1 x.2.1 x.2.2) → [D.str (List.getD (matK a x.1 x.2.1 x.2.2) i [])] = ln4q14 a i) ∧ True) ∧ True ∧ True)) (SM x ∧ ((IntsP (ln4q2 a) fun (i : Nat) => ln4q3 a i) ∧ rightS (ln4q20 a) = true) ∧ ∀ (y : Unit), True → ifB (sizeS (ln4q20 a) == Z0) (ln4q15 a) (SM x ∧ SM x_2 ∧ side (Z0 ≤ ln4q21 a ∧ ln4q21 a < ln4q16 a) (SM x ∧ SM x_2 ∧ side (Z0 ≤ ln4q22 a ∧ ln4q22 a < ln4q16 a) ((∀ (x_3 : Nat), x_2 ≠ x_3 ∧ x ≠ x_3 ∧ True → ln4q23 x_2 a ∧ ln4q25 x a ∧ ln4q23 x_2 a ∧ ln4q25 x a ∧ ∀ (x_4 : Nat), x_3 ≠ x_4 ∧ x_2 ≠ x_4 ∧ x ≠ x_4 ∧ True → ln4q23 x_2 a ∧ ln4q25 x a ∧ ln4q23 x_2 a ∧ ln4q25 x a ∧ SM x_3 ∧ ln4q23 x_2 a ∧ ln4q25 x a ∧ SM x_4 ∧ ∀ (x_5 : Nat), x_4 ≠ x_5 ∧ x_3 ≠ x_5 ∧ x_2 ≠ x_5 ∧ x ≠ x_5 ∧ True → SM x_5 ∧ SM x_5 ∧ ∃ (x_6 : Nat × Nat), (Z0 = (NI x_6.1) ∧ Z0 = (NI x_6.2) ∧ SM x_2 ∧ SM x ∧ SM x_3 ∧ SM x_4 ∧ SM x_5 ∧ True) ∧ ((SM x_5 ∧ (D.fn (Fn.func (24 : Nat)) [] [D.ref (max (N0 + N1) N0) x_2 N0, D.ref N0 x N0, ln4q27 x_3, ln4q28 x_4, D.ref (max ((15 : Nat) + N1) (max ((14 : Nat) + N1) ln4q26)) x_5 N0] = ln4q29 x_2 x x_3 x_4 x_5 ∧ True) ∧ ln4q30 x_4 a x_3 x_2 x) ∧ True) ∧ ln4q33 a x_6 x_6.1 x_6.2) ∧ ∀ (x_3 : Nat), x_2 ≠ x_3 ∧ x ≠ x_3 ∧ True → ln4q23 x_2 a ∧ ln4q25 x a ∧ ln4q23 x_2 a ∧ ln4q25 x a ∧ ∀ (x_4 : Nat), x_3 ≠ x_4 ∧ x_2 ≠ x_4 ∧ x ≠ x_4 ∧ True → ln4q23 x_2 a ∧ ln4q25 x a ∧ ln4q23 x_2 a ∧ ln4q25 x a ∧ SM x_4 ∧ ln4q23 x_2 a ∧ ln4q25 x a ∧ SM x_3 ∧ ∀ (x_5 : Nat), x_4 ≠ x_5 ∧ x_3 ≠ x_5 ∧ x_2 ≠ x_5 ∧ x ≠ x_5 ∧ True → SM x_5 ∧ SM x_5 ∧ ∃ (x_6 : Nat × Nat), (Z0 = (NI x_6.1) ∧ Z0 = (NI x_6.2) ∧ SM x_2 ∧ SM x ∧ SM x_4 ∧ SM x_3 ∧ SM x_5 ∧ True) ∧ ((SM x_5 ∧ (D.fn (Fn.func (24 : Nat)) [] [D.ref (max (N0 + N1) N0) x_2 N0, D.ref N0 x N0, ln4q27 x_4, ln4q28 x_3, D.ref (max ((14 : Nat) + N1) (max ((15 : Nat) + N1) ln4q26)) x_5 N0] = ln4q29 x_2 x x_4 x_3 x_5 ∧ True) ∧ ln4q30 x_3 a x_4 x_2 x) ∧ True) ∧ ln4q33 a x_6 x_6.1 x_6.2))))))) (by kernel_rfl) ?_
  delta DA GI LN N0 N1 N2 N4 NI SI SM Z0 Z1 ZI ln4q0 ln4q1 ln4q10 ln4q11 ln4q12 ln4q13 ln4q14 ln4q15 ln4q16 ln4q17 ln4q18 ln4q19 ln4q2 ln4q20 ln4q21 ln4q22 ln4q23 ln4q24 ln4q25 ln4q26 ln4q27 ln4q28 ln4q29 ln4q3 ln4q30 ln4q31 ln4q32 ln4q33 ln4q4 ln4q5 ln4q6 ln4q7 ln4q8 ln4q9
  have da : (default : Arr) = Arr.mk 0 [] [] [] := rfl
  simp only [← da, ifB_iff, side_iff, true_and, and_true, beq_iff_eq, bne_iff_ne, beq_eq_false_iff_ne, ne_eq, exists_const, forall_const, implies_true, Prod.exists, intsD_isl]
  refine fun x => ⟨a, ⟨rfl, ⟨rfl, fun _ _ => rfl⟩, ⟨rfl, fun _ _ => rfl⟩, rfl, fun _ _ => rfl⟩, rfl, fun hn => ?_, fun hv x2 _ => ?_⟩
  · have : linesK a = [] := by rw [linesK, if_pos hn]
    rw [this]
    exact ⟨rfl, fun i hi => absurd hi (by omega)⟩
  have hv : (chkA a).1 = 0 := by simpa using hv
  have lo := lok_of ho hv
  have s8 := lo.s8
  have hsz := lo_size lo
  obtain ⟨hr, hs, hp⟩ := shape_ok hv
  have hl : linesK a = if a.sh.length = 0 then [cellK a 0] else if a.sh.length = 1 then matK a 0 1 (a.sh.getD 0 0).toNat else if sizeS a.sh = 0 then [] else plK a (rwK a) (clK a) (axD a 0) 0 := by
    rw [linesK, if_neg (fun h => h hv)]
  refine ⟨fun h0 => ?_, fun h0 => ⟨fun h1 => ?_, fun h1 => ⟨⟨intsP_isl _, hr⟩, fun hz => ?_, fun hz => ?_⟩⟩⟩
  · have h0 : a.sh.length = 0 := by omega
    have := lo.sc h0
    rw [hl, if_pos h0]
    exact ⟨0, rfl, ⟨hv, by omega⟩, rfl, fun i hi => by have : i = 0 := by omega
                                                       subst this; rfl⟩
  · have h1 : a.sh.length = 1 := by omega
    rw [hl, if_neg (by omega), if_pos h1]
    have hm : a.sh.getD 0 0 ∈ a.sh := memI (by omega)
    have hm0 := hp _ hm
    have hsz1 : (a.sh.getD 0 0).toNat ≤ a.nu.length + a.it.length := by
      have he : a.sh = [a.sh.getD 0 0] := by
        obtain ⟨x, hx⟩ := List.length_eq_one_iff.1 h1
        rw [hx]; rfl
      rw [he] at hs hr
      generalize a.sh.getD 0 0 = d at *
      by_cases hd : d = 0
      · subst hd; simp
      · have hd1 : ∀ x ∈ [d], 1 ≤ x := by intro x hx; have := List.mem_singleton.1 hx; omega
        simp only [rightS, Bool.and_eq_true] at hr
        cases hg : goO [d] 1 with
        | none => rw [hg] at hr; exact absurd hr.2 (by simp)
        | some q =>
          have hq := goO_some hd1 hg
          rw [sizeS, not_zero hd1, hg] at hs
          simp [prodN] at hq hs
          omega
    exact ⟨⟨by omega, by omega⟩, 0, 1, (a.sh.getD 0 0).toNat, ⟨rfl, rfl, by omega⟩, ⟨hv, by omega, by omega, by omega⟩, rfl, fun _ _ => rfl⟩
  · have : linesK a = [] := by rw [hl, if_neg (by omega), if_neg (by omega), if_pos hz]
    rw [this]
    exact ⟨rfl, fun i hi => absurd hi (by omega)⟩
  · have h2 : 2 ≤ a.sh.length := by omega
    have fu := full_ok lo hv hz
    obtain ⟨p1, p2⟩ := rc_pos fu h2
    have w2 : IntKind.i64.wrap ((a.sh.length : Int) - 2) = ((a.sh.length - 2 : Nat) : Int) := by rw [wrap_i64' (by omega) (by omega)]; omega
    have w1 : IntKind.i64.wrap ((a.sh.length : Int) - 1) = ((a.sh.length - 1 : Nat) : Int) := by rw [wrap_i64' (by omega) (by omega)]; omega
    have e1 : a.sh.getD (a.sh.length - 1) 0 = (clK a : Int) := by
      have := hp (a.sh.getD (a.sh.length - 1) 0) (memI (by omega))
      unfold clK; omega
    have e2 : a.sh.getD (a.sh.length - 2) 0 = (rwK a : Int) := by
      have := hp (a.sh.getD (a.sh.length - 2) 0) (memI (by omega))
      unfold rwK; omega
    have hk : linesK a = plK a (rwK a) (clK a) (axD a 0) 0 := by rw [hl, if_neg (by omega), if_neg (by omega), if_neg hz]
    rw [w1, w2, Int.toNat_natCast, Int.toNat_natCast, e1, e2, hk]
    exact ⟨⟨by omega, by omega⟩, ⟨by omega, by omega⟩, fun x3 _ x4 _ x5 _ => ⟨0, 0, ⟨rfl, rfl⟩, ⟨rfl, rfl, rfl⟩, ⟨⟨hv, hz, h2⟩, rfl⟩, rfl, fun _ _ => rfl⟩, fun x3 _ x4 _ x5 _ => ⟨0, 0, ⟨rfl, rfl⟩, ⟨rfl, rfl, rfl⟩, ⟨⟨hv, hz, h2⟩, rfl⟩, rfl, fun _ _ => rfl⟩⟩
end Go.Proofs.YtpgepjefbhgblaaDoor
namespace Go.Proofs.YtpgepjefbhgblaaDoor
open Go Go.Ab
set_option maxRecDepth 100000
def showL (l : List (List UInt8)) : List UInt8 := l.flatMap fun x => x ++ [10]
def showK (a : Arr) : List UInt8 := showL (linesK a)
def totS : List (List UInt8) → Nat
  | [] => 0
  | x :: l => x.length + 1 + totS l
theorem showL_len : ∀ l : List (List UInt8), (showL l).length = totS l
  | [] => rfl
  | x :: l => by
    have := showL_len l
    simp only [showL, List.flatMap_cons, List.length_append, List.length_cons, List.length_nil, totS] at this ⊢
    omega
theorem totS_append : ∀ l r : List (List UInt8), totS (l ++ r) = totS l + totS r
  | [], r => by simp [totS]
  | x :: l, r => by simp only [List.cons_append, totS, totS_append l r]; omega
theorem totS_le (B : Nat) : ∀ l : List (List UInt8), (∀ x ∈ l, x.length ≤ B) → totS l ≤ (B + 1) * l.length
  | [], _ => by simp [totS]
  | x :: l, h => by
    have h1 := totS_le B l fun y hy => h y (List.mem_cons_of_mem _ hy)
    have h2 := h x List.mem_cons_self
    simp only [totS, List.length_cons, Nat.mul_succ]; omega
theorem totS_sep (B : Nat) : ∀ l : List (List (List UInt8)), (∀ x ∈ l, totS x ≤ B) → totS (sepC l) ≤ (B + 1) * l.length
  | [], _ => by simp [sepC, totS]
  | x :: l, h => by
    have key : ∀ l : List (List (List UInt8)), (∀ x ∈ l, totS x ≤ B) → totS (l.flatMap fun y => [] :: y) ≤ (B + 1) * l.length := fun l => by
      induction l with
      | nil => simp [totS]
      | cons y l ih =>
        intro hl
        have h2 := ih fun z hz => hl z (List.mem_cons_of_mem _ hz)
        have h3 := hl y List.mem_cons_self
        simp only [List.flatMap_cons, totS_append, totS, List.length_cons, List.length_nil, Nat.mul_succ]; omega
    have h2 := key l fun y hy => h y (List.mem_cons_of_mem _ hy)
    have h3 := h x List.mem_cons_self
    simp only [sepC, totS_append, List.length_cons, Nat.mul_succ]; omega
theorem tot_mat {a : Arr} (lo : LOk a) {at0 rows cols : Nat} (hs : at0 + rows * cols ≤ a.nu.length + a.it.length) : totS (matK a at0 rows cols) ≤ (157286403 * cols + 1) * rows := by
  have := totS_le (157286403 * cols) (matK a at0 rows cols) (by
    intro x hx
    obtain ⟨r, hr, rfl⟩ := List.mem_map.1 hx
    exact lineK_len lo hs (List.mem_range.1 hr))
  rw [matK_len] at this
  exact this
theorem tot_lines {a : Arr} (ho : a.ok) : totS (linesK a) ≤ 20000000000000 := by
  unfold linesK
  split
  · simp [totS]
  rename_i hv
  have hv : (chkA a).1 = 0 := Decidable.not_not.1 hv
  have lo := lok_of ho hv
  have hsz := lo_size lo
  split
  · rename_i h0
    have := lo.sc h0
    have := cell_len lo 0 (by omega)
    simp only [totS]; omega
  split
  · rename_i h0 h1
    obtain ⟨hr, hs, hp⟩ := shape_ok hv
    have hm : a.sh.getD 0 0 ∈ a.sh := memI (by omega)
    have hm0 := hp _ hm
    by_cases hz : sizeS a.sh = 0
    · have he : a.sh = [a.sh.getD 0 0] := by
        obtain ⟨x, hx⟩ := List.length_eq_one_iff.1 h1
        rw [hx]; rfl
      have : (a.sh.getD 0 0).toNat = 0 := by
        rw [he] at hz hr hs
        generalize a.sh.getD 0 0 = d at *
        by_cases hd : d = 0
        · subst hd; rfl
        · exfalso
          have hd1 : ∀ x ∈ [d], 1 ≤ x := by intro x hx; have := List.mem_singleton.1 hx; omega
          simp only [rightS, Bool.and_eq_true] at hr
          cases hg : goO [d] 1 with
          | none => rw [hg] at hr; exact absurd hr.2 (by simp)
          | some q =>
            have hq := goO_some hd1 hg
            rw [sizeS, not_zero hd1, hg] at hz
            simp [prodN] at hq hz
            omega
      rw [this]
      have := tot_mat lo (at0 := 0) (rows := 1) (cols := 0) (by omega)
      omega
    · have fu := full_ok lo hv hz
      have he : a.sh = [a.sh.getD 0 0] := by
        obtain ⟨x, hx⟩ := List.length_eq_one_iff.1 h1
        rw [hx]; rfl
      have hpr := fu.prod
      have hle := fu.le
      rw [he] at hpr hle
      simp only [prodN, Nat.mul_one] at hpr hle
      have := tot_mat lo (at0 := 0) (rows := 1) (cols := (a.sh.getD 0 0).toNat) (by omega)
      omega
  split
  · simp [totS]
  · rename_i h0 h1 hz
    have h2 : 2 ≤ a.sh.length := by omega
    have fu := full_ok lo hv hz
    have hP := prod_ax' a h2 (ax := 0) (by omega)
    rw [List.drop_zero, fu.prod] at hP
    have hle := fu.le
    rw [fu.prod] at hle
    obtain ⟨p1, p2⟩ := rc_pos fu h2
    rw [plK_run _ _ _ _ (axD_pos fu 0)]
    have h3 := totS_sep ((157286403 * clK a + 1) * rwK a) ((List.range (prodN (axD a 0))).map fun p => matK a (0 + p * (rwK a * clK a)) (rwK a) (clK a)) (by
      intro x hx
      obtain ⟨p, hp, rfl⟩ := List.mem_map.1 hx
      have := mul_row (cols := rwK a * clK a) (List.mem_range.1 hp)
      exact tot_mat lo (by omega))
    rw [List.length_map, List.length_range] at h3
    have q1 : ((157286403 * clK a + 1) * rwK a + 1) * prodN (axD a 0) = 157286403 * (prodN (axD a 0) * (rwK a * clK a)) + rwK a * prodN (axD a 0) + prodN (axD a 0) := by
      rw [Nat.add_mul, Nat.add_mul, Nat.one_mul, Nat.one_mul, Nat.add_mul]
      congr 2
      rw [Nat.mul_comm (rwK a) (clK a), Nat.mul_assoc, Nat.mul_assoc, Nat.mul_comm (prodN (axD a 0)), Nat.mul_assoc]
    have q0 : 1 ≤ rwK a * clK a := Nat.mul_pos p1 p2
    have q2 : prodN (axD a 0) ≤ prodN (axD a 0) * (rwK a * clK a) := Nat.le_mul_of_pos_right _ q0
    have q3 : rwK a * prodN (axD a 0) ≤ prodN (axD a 0) * (rwK a * clK a) := by
      rw [Nat.mul_comm (rwK a)]
      exact Nat.mul_le_mul_left _ (Nat.le_mul_of_pos_right _ p2)
    rw [q1] at h3
    omega
theorem showL_take {l : List (List UInt8)} {i : Nat} (h : i < l.length) : showL (l.take (i + 1)) = showL (l.take i) ++ l.getD i [] ++ [10] := by
  rw [take_st [] h]
  simp [showL]
theorem showL_take_len {l : List (List UInt8)} (i : Nat) : (showL (l.take i)).length ≤ totS l := by
  rw [showL_len]
  have := totS_append (l.take i) (l.drop i)
  rw [List.take_append_drop] at this
  omega
def conSw (a : Arr) : Con := fun k ds S => match k with
  | 11 => some (sRc Arr.row2 (fun b => b = a) (fun b => ssl (linesK b) .any))
  | k => conBd k ds S
theorem conSw_ok {a : Arr} (ho : a.ok) : ConOk Tryd.prog (conSw a) := by
  intro k ds S A hk
  unfold conSw at hk
  split at hk
  · injection hk with hk; subst hk
    refine ConOk.plain (fun (b : Arr) hb => ?_) rfl rfl
    have hb : b = a := hb
    rw [hb]
    exact (lines_ok a ho).mono fun _ _ ⟨y, q1, q2, q3⟩ => ⟨y, q1, q2, q3⟩
  · exact conBd_ok _ _ _ _ hk
noncomputable def Esw (a : Arr) : Senv := { EC (conSw a) 18 4 [5, 7, 8, 9, 10] (fun _ => ([], [])) with
  bd := fun t => match t with
    | 44 => some 5
    | _ => none
  ann := fun b env S => match b with
    | 0 => some { slots := [9], keep := [3, 7, 8], α := Nat × Nat × List UInt8, st := fun y => ([.int .i64 y.1], ⟨setO S.objs (refKey (Ab.look env 3)) (.bld 44 5 (bsl y.2.2 (.tok 0 y.2.1))), [(0, y.2.1)]⟩), inv := fun y => y.1 ≤ (linesK a).length ∧ y.2.2 = showL ((linesK a).take y.1), mu := fun y => (linesK a).length - y.1 }
    | _ => none }
noncomputable section
def ln5q0 (p0 : Arr) : Int := Arr.k p0
def ln5q1 (p0 : Arr) : Nat := LN (Arr.sh p0)
def ln5q2 (p0 : Arr) (p1 : Nat) : List D := [ZI (GI (Arr.sh p0) p1)]
def ln5q3 (p0 : Arr) : Nat := LN (Arr.nu p0)
def ln5q4 (p0 : Arr) (p1 : Nat) : List D := [ZI (GI (Arr.nu p0) p1)]
def ln5q5 (p0 : Arr) : Nat := LN (Arr.it p0)
def ln5q6 : Arr := DA
def ln5q7 (p0 : Arr) (p1 : Nat) : Arr := List.getD (Arr.it p0) p1 ln5q6
def ln5q8 (p0 : Arr) (p1 : Nat) : List Int := Arr.sh (ln5q7 p0 p1)
def ln5q9 (p0 : Arr) (p1 : Nat) : List Int := Arr.nu (ln5q7 p0 p1)
def ln5q10 (p0 : Arr) (p1 : Nat) : List Arr := Arr.it (ln5q7 p0 p1)
def ln5q11 (p0 : Arr) (p1 : Nat) : List D := [ZI (Arr.k (ln5q7 p0 p1)), SI (ln5q8 p0 p1), SI (ln5q9 p0 p1), D.sl N4 (LN (ln5q10 p0 p1)) (fun (i : Nat) => Arr.row (List.getD (ln5q10 p0 p1) i ln5q6)) Mode.any]
def ln5q12 (p0 : Arr) : List (List UInt8) := linesK p0
def ln5q13 (p0 : Arr) : Nat := LN (ln5q12 p0)
def ln5q14 (p0 : Nat) (p1 : Arr) (p2 : List UInt8) : Prop := p0 ≤ ln5q13 p1 ∧ p2 = showL (List.take p0 (ln5q12 p1))
def ln5q15 (p0 : List UInt8) (p1 : Nat) : List D := [ZB (BI p0 p1)]
def ln5q16 (p0 : Nat) (p1 : Arr) : Prop := SM p0 ∧ (SM (ln5q0 p1) ∧ (SM (ln5q1 p1) ∧ (∀ (i : Nat), i < ln5q1 p1 → SM (ln5q2 p1 i)) ∧ True) ∧ (SM (ln5q3 p1) ∧ (∀ (i : Nat), i < ln5q3 p1 → SM (ln5q4 p1 i)) ∧ True) ∧ (SM (ln5q5 p1) ∧ (∀ (i : Nat), i < ln5q5 p1 → SM (ln5q11 p1 i)) ∧ True) ∧ True) ∧ True
def ln5q17 (p0 : Arr) : Int := (NI (ln5q13 p0))
def ln5q18 (p0 p1 : Nat) (p2 : List UInt8) : Prop := bFit [(N0, p0)] p1 p1 (44 : Nat) (5 : Nat) N0 p0 (LN p2) fun (i : Nat) => ln5q15 p2 i
def ln5q19 (p0 : List UInt8) : List UInt8 := bytesOf (LN p0) fun (i : Nat) => ln5q15 p0 i
def ln5q20 (p0 : List UInt8) (p1 : Arr) (p2 : Nat) : List UInt8 := ln5q19 p0 ++ List.getD (ln5q12 p1) (Int.toNat (↑p2 : Int)) []
def ln5q21 (p0 : List UInt8) (p1 : Arr) (p2 : Nat) : Nat := LN (ln5q20 p0 p1 p2)
def ln5q22 (p0 : List UInt8) (p1 : Arr) (p2 p3 : Nat) : List D := [ZB (BI (ln5q20 p0 p1 p2) p3)]
def ln5q23 (p0 : Arr) : D := D.sl N1 (ln5q13 p0) (fun (i : Nat) => [D.str (List.getD (ln5q12 p0) i [])]) Mode.any
def ln5q24 (p0 : List UInt8) (p1 : Arr) (p2 : Nat) : List UInt8 := (bytesOf (ln5q21 p0 p1 p2) fun (i : Nat) => ln5q22 p0 p1 p2 i) ++ [byteU (10 : Int)]
def ln5q25 (p0 : List UInt8) (p1 : Arr) (p2 : Nat) : Nat := LN (ln5q24 p0 p1 p2)
end
theorem fshow_ok (a : Arr) (ho : a.ok) :
    ACalls Tryd.prog 13 ((sRc Arr.row2 (fun _ => True) (fun b => .str (showK b))).args a) ⟨[], []⟩ (SpecR (sRc Arr.row2 (fun _ => True) (fun b => .str (showK b))) a) := by
  refine con_of (A := sRc Arr.row2 (fun _ => True) (fun b => .str (showK b))) (x := a) (E := Esw a) (eOk (conSw_ok ho) rfl) Tryd.func13 rfl (by kernel_rfl) rfl (by simp [sRc, Esw, EC, E0]) ?_
  refine vc_eq (T :=
    ∀ (x : Nat), True → ∀ (y t : Nat), x ≠ y ∧ True → SM x ∧ ∃ (x_1 : Arr), ((ln5q0 a = ln5q0 x_1 ∧ (ln5q1 a = ln5q1 x_1 ∧ (∀ (i : Nat), i < ln5q1 a → ln5q2 a i = ln5q2 x_1 i) ∧ True) ∧ (ln5q3 a = ln5q3 x_1 ∧ (∀ (i : Nat), i < ln5q3 a → ln5q4 a i = ln5q4 x_1 i) ∧ True) ∧ (ln5q5 a = ln5q5 x_1 ∧ (∀ (i : Nat), i < ln5q5 a → ln5q11 a i = ln5q11 x_1 i) ∧ True) ∧ True) ∧ True) ∧ (True ∧ True) ∧ x_1 = a ∧ ∀ (y_1 : Unit), True → (∃ (x_2 : Nat × Nat × List UInt8), ln5q14 x_2.1 a x_2.2.2 ∧ (Z0 = (NI x_2.1) ∧ True) ∧ (SM y ∧ (N0 = LN x_2.2.2 ∧ (∀ (i : Nat), i < N0 → eqOf (List D) [] (ln5q15 x_2.2.2 i)) ∧ t = x_2.2.1) ∧ ln5q16 x a) ∧ t = x_2.2.1 ∧ True) ∧ ∀ (x_2 : Nat × Nat × List UInt8), ln5q14 x_2.1 a x_2.2.2 → ifB (decide ((NI x_2.1) < ln5q17 x_1)) (side (Z0 ≤ (NI x_2.1) ∧ (NI x_2.1) < ln5q17 x_1) (((ln5q18 x_2.2.1 y x_2.2.2 ∧ LN x_2.2.2 + LN (List.getD (ln5q12 x_1) (TN x_2.1) []) ≤ (140737488355328 : Nat)) ∧ True) ∧ ∀ (y_2 : Nat), True → (((bFit [(N0, y_2)] y y (44 : Nat) (5 : Nat) N0 y_2 (ln5q21 x_2.2.2 x_1 x_2.1) fun (i : Nat) => ln5q22 x_2.2.2 x_1 x_2.1 i) ∧ (Z0 ≤ (10 : Int) ∧ (10 : Int) ≤ (255 : Int)) ∧ ln5q21 x_2.2.2 x_1 x_2.1 + N1 ≤ (140737488355328 : Nat)) ∧ True) ∧ ∀ (y_3 : Nat), True → (SM (D.ref (max (N0 + N1) N0) y N0) ∧ SM (ln5q23 x_1) ∧ SM (ZI (ln5q17 x_1)) ∧ True) ∧ ∃ (y_4 : Nat × Nat × List UInt8), ln5q14 y_4.1 a y_4.2.2 ∧ ln5q13 a - y_4.1 < ln5q13 a - x_2.1 ∧ (IntKind.wrap IntKind.i64 ((NI x_2.1) + Z1) = (NI y_4.1) ∧ True) ∧ (SM y ∧ (ln5q25 x_2.2.2 x_1 x_2.1 = LN y_4.2.2 ∧ (∀ (i : Nat), i < ln5q25 x_2.2.2 x_1 x_2.1 → [ZB (BI (ln5q24 x_2.2.2 x_1 x_2.1) i)] = ln5q15 y_4.2.2 i) ∧ y_3 = y_4.2.1) ∧ ln5q16 x a) ∧ y_3 = y_4.2.1 ∧ True)) (((ln5q18 x_2.2.1 y x_2.2.2 ∧ LN x_2.2.2 ≤ (140737488355328 : Nat)) ∧ True) ∧ ∀ (y : Unit), True → True ∧ ∃ (y : Unit), True ∧ ln5q19 x_2.2.2 = showK a ∧ True ∧ True)) (by kernel_rfl) ?_
  delta BI DA GI LN N0 N1 N4 NI SI SM TN U0 Z0 Z1 ZB ZI ln5q0 ln5q1 ln5q10 ln5q11 ln5q12 ln5q13 ln5q14 ln5q15 ln5q16 ln5q17 ln5q18 ln5q19 ln5q2 ln5q20 ln5q21 ln5q22 ln5q23 ln5q24 ln5q25 ln5q3 ln5q4 ln5q5 ln5q6 ln5q7 ln5q8 ln5q9
  have da : (default : Arr) = Arr.mk 0 [] [] [] := rfl
  simp only [← da, ifB_iff, side_iff, decide_eq_true_eq, decide_eq_false_iff_not, true_and, and_true, exists_const, forall_const, implies_true, Int.toNat_natCast, bytesOf_bsl, bfit_ok]
  have hb : byteU 10 = 10 := rfl
  simp only [hb]
  have ht := tot_lines ho
  have hlen : (linesK a).length ≤ 20000000000000 := by
    have key : ∀ l : List (List UInt8), l.length ≤ totS l := fun l => by
      induction l with
      | nil => simp
      | cons x l ih => simp only [totS, List.length_cons]; omega
    have := key (linesK a)
    omega
  refine fun x y t _ => ⟨a, ⟨rfl, ⟨rfl, fun _ _ => rfl⟩, ⟨rfl, fun _ _ => rfl⟩, rfl, fun _ _ => rfl⟩, rfl, ⟨(0, t, []), ⟨Nat.zero_le _, rfl⟩, rfl, ⟨rfl, fun i hi => absurd hi (by omega), rfl⟩, rfl⟩, ?_⟩
  rintro ⟨i, t1, out⟩ ⟨hi, he⟩
  simp only at hi he ⊢
  have h1 := showL_take_len (l := linesK a) i
  rw [← he] at h1
  refine ⟨fun hlt => ?_, fun hge => ⟨by omega, ?_⟩⟩
  · have hlt' : i < (linesK a).length := by omega
    have h2 := showL_take hlt'
    have h3 := showL_take_len (l := linesK a) (i + 1)
    rw [h2, ← he] at h3
    simp only [List.length_append, List.length_cons, List.length_nil] at h3
    exact ⟨⟨by omega, by omega⟩, by omega, ⟨by omega, by rw [List.length_append]; omega⟩, fun t2 => ⟨(i + 1, t2, out ++ (linesK a).getD i [] ++ [10]), ⟨by simp only; omega, by simp only; rw [h2, ← he]⟩, by simp only; omega, wrap_i64' (by omega) (by omega), ⟨rfl, fun _ _ => rfl, rfl⟩, rfl⟩⟩
  · rw [he, showK, List.take_of_length_le (by omega)]
end Go.Proofs.YtpgepjefbhgblaaDoor
namespace Go.Proofs.YtpgepjefbhgblaaDoor
open Go Go.Ab
set_option maxRecDepth 100000
theorem repL_snoc {C : Ctx} {d : D} : ∀ {ds : List D} {vs : List Value}, RepL C (ds ++ [d]) vs → ∃ us v, vs = us ++ [v] ∧ RepL C ds us ∧ Rep C d v
  | [], vs, h => by
    simp only [List.nil_append, RepL] at h
    obtain ⟨v, _, rfl, h1, rfl⟩ := h
    exact ⟨[], v, rfl, rfl, h1⟩
  | e :: ds, vs, h => by
    simp only [List.cons_append, RepL] at h
    obtain ⟨u, us, rfl, h1, h2⟩ := h
    obtain ⟨ws, v, rfl, h3, h4⟩ := repL_snoc h2
    refine ⟨u :: ws, v, rfl, ?_, h4⟩
    simp only [RepL]
    exact ⟨u, ws, rfl, h1, h3⟩
theorem ACalls.settled {P : Program} {f : FuncId} {ds : List D} {k x n cap w : Nat} {g : Nat → List D} {R : AEnd → St → Prop} (hok : ∀ i, i < n → (g i).all cellOk = true) (h : ACalls P f (ds ++ [.sl w n g .any]) ⟨[], []⟩ R) :
    ACalls P f (ds ++ [.vs k x n cap w]) ⟨[(k, x, .vec w n cap g)], []⟩ R := by
  refine ⟨h.1, fun C F args w0 ha hs => ?_⟩
  obtain ⟨us, v, e, h1, h2⟩ := repL_snoc ha
  obtain ⟨t, ht, hm, hte⟩ := hs.tok_free
  have hg : getO (St.mk [(k, x, AObj.vec w n cap g)] []).objs k = some (x, .vec w n cap g) := by simp [getO]
  obtain ⟨arr, ⟨hle, hs1, hd⟩ | hbad⟩ := Sat.settle hs hg (Nat.le_refl n) hok 0 ht hm hte
  · simp only [Rep] at h2
    have hle2 : (⟨[], []⟩ : St).le ⟨eraseO (St.mk [(k, x, AObj.vec w n cap g)] []).objs k, (0, t) :: (St.mk [(k, x, AObj.vec w n cap g)] []).toks⟩ := ⟨List.nil_sublist _, List.nil_sublist _⟩
    have hs2 := hs1.le hle2
    have hr : RepL (C.grown x (n * w) arr t (.at x n cap w)) (ds ++ [.sl w n g .any]) args.toList := by
      rw [e]
      refine RepL.append (RepL.mono hle _ _ h1) ?_
      simp only [RepL]
      refine ⟨v, [], rfl, ?_, rfl⟩
      rw [h2.1]
      exact weakD_weak (.sl w n g (.tok 0 t)) _ (by simp [weakD, chk, weakM]) _ _ hd
    exact (h.2 _ F args w0 hr hs2).mono fun _ _ ⟨C', r, S', q1, q2, q3, q4⟩ => ⟨C', r, S', hle.trans q1, q2, q3, q4⟩
  · simp only [Rep] at h2
    omega
theorem conRw_ok {a : Arr} (ho : a.ok) (h : (chkA a).1 = 0) : ConOk Tryd.prog (conRw a) := by
  intro k ds S A hk
  unfold conRw at hk
  split at hk
  · injection hk with hk; subst hk
    exact ConOk.plain (fun (i : Nat) hi => cell_ok ho h i hi) rfl rfl
  · split at hk
    · injection hk with hk; subst hk
      exact pC_ok fun ⟨h1, h2⟩ => ⟨weakL_refl _, blanks_ok _ h1 h2⟩
    · cases hk
  · exact conJn_ok _ _ _ _ hk
theorem conRm_ok {a : Arr} (ho : a.ok) (h : (chkA a).1 = 0) {n : Nat} {g : Nat → Nat} (hn : n ≤ 65536) (hg : ∀ j, j < n → g j ≤ 157286402) : ConOk Tryd.prog (conRm a n g) := by
  intro k ds S A hk
  unfold conRm at hk
  split at hk
  · injection hk with hk; subst hk
    exact ConOk.plain (fun (i : Nat) hi => cell_ok ho h i hi) rfl rfl
  · injection hk with hk; subst hk
    exact ConOk.plain (fun (p : Nat) hp => (rrow_ok a p n g (lok_of ho h) hn hg hp (conRw_ok ho h)).mono fun _ _ ⟨y, q1, q2, q3⟩ => ⟨y, q1, q2, q3⟩) rfl rfl
  · exact conJn_ok _ _ _ _ hk
theorem rmt_ok {a : Arr} (ho : a.ok) (h : (chkA a).1 = 0) (y : Nat × Nat × Nat) (hy : (sMt a).pre y) : ACalls Tryd.prog 27 ((sMt a).args y) ⟨[], []⟩ (SpecR (sMt a) y) := by
  obtain ⟨at0, rows, cols⟩ := y
  obtain ⟨h1, h2, h3⟩ := hy
  simp only at h1 h2 h3
  have lo := lok_of ho h
  refine (rmat_ok a at0 rows cols lo h1 h2 h3 (conRm_ok ho h h2 fun j hj => ?_)).mono fun _ _ ⟨y, q1, q2, q3⟩ => ⟨y, q1, q2, q3⟩
  rw [wdC_eq _ _ _ _ hj]
  exact wdS_le _ fun i hi => cell_len lo _ (by omega)
def oneL (a : Arr) (n : Nat) : List UInt8 := Lib.join ((List.range n).map (cellK a)) (sepK a.k)
theorem rowG_zero (a : Arr) (n : Nat) : Lib.join (rowG a 0 n (fun _ => 0)) (sepK a.k) = oneL a n := by
  unfold oneL rowG
  congr 1
  refine List.map_congr_left fun j _ => ?_
  simp [padK, Lib.repeatL]
def sRv (a : Arr) (k x n : Nat) : FnSpec where
  β := Unit
  α := Unit
  args := fun _ => [.agg a.row2, .int .i64 0, .vs k x n n 1]
  st := fun _ => ⟨[(k, x, .vec 1 n n (fun _ => [.int .i64 0]))], []⟩
  pre := fun _ => (chkA a).1 = 0 ∧ n = a.nu.length + a.it.length
  post := fun _ _ => True
  res := fun _ _ => .ret (.str (oneL a n))
  out := fun _ _ => ⟨[], []⟩
def conRn (a : Arr) : Con := fun k ds S => match k with
  | 15 => some (sRc Arr.row2 (fun b => b = a) errA)
  | 26 => match ds with
    | [_, _, .vs k x n _ _] => some (sRv a k x n)
    | _ => none
  | 27 => some ((sMt a).when ((chkA a).1 = 0))
  | k => conRf k ds S
theorem conRn_ok {a : Arr} (ho : a.ok) : ConOk Tryd.prog (conRn a) := by
  intro k ds S A hk
  unfold conRn at hk
  split at hk
  · injection hk with hk; subst hk
    refine ConOk.plain (fun (b : Arr) hb => ?_) rfl rfl
    have hb : b = a := hb
    rw [hb]
    exact rri_ok a ho
  · split at hk
    · rename_i k x n _ _
      injection hk with hk; subst hk
      refine ConOk.plain (fun _ hy => ?_) rfl rfl
      obtain ⟨h1, h2⟩ := hy
      have lo := lok_of ho h1
      have hsz := lo_size lo
      have := rrow_ok a 0 n (fun _ => 0) lo (by omega) (fun _ _ => by omega) (by omega) (conRw_ok ho h1)
      have := ACalls.settled (k := k) (x := x) (n := n) (cap := n) (ds := [.agg a.row2, .int .i64 ((0 : Nat) : Int)]) (fun i _ => rfl) this
      refine this.mono fun r S' ⟨_, q1, q2, q3⟩ => ⟨(), trivial, ?_, q3⟩
      rw [q2]
      show AEnd.ret (.str (Lib.join (rowG a 0 n (fun _ => 0)) (sepK a.k))) = AEnd.ret (.str (oneL a n))
      rw [rowG_zero]
    · cases hk
  · injection hk with hk; subst hk
    exact ConOk.plain (fun (i : Nat × Nat × Nat) hi => (rmt_ok ho hi.1 i hi.2).mono fun _ _ ⟨y, q1, q2, q3⟩ => ⟨y, q1, q2, q3⟩) rfl rfl
  · exact conRf_ok _ _ _ _ hk
def plnK (a : Arr) (i : Nat) : List (List UInt8) := matK a (0 + i * (rwK a * clK a)) (rwK a) (clK a)
def runR (a : Arr) (i : Nat) : List (List UInt8) := sepC ((List.range i).map (plnK a))
theorem runR_step (a : Arr) (i : Nat) : runR a (i + 1) = if i = 0 then plnK a i else runR a i ++ ([] :: plnK a i) := by
  unfold runR
  rw [List.range_succ, List.map_append, List.map_singleton, sepC_snoc]
  by_cases h : i = 0
  · subst h; rfl
  · rw [if_neg h, if_neg (by simp [h])]
theorem runR_len (a : Arr) (i : Nat) : (runR a i).length ≤ (rwK a + 1) * i := by
  have := sepC_len (rwK a) ((List.range i).map (plnK a)) (by
    intro x hx
    obtain ⟨p, _, rfl⟩ := List.mem_map.1 hx
    rw [plnK, matK_len]; exact Nat.le_refl _)
  simpa [runR] using this
theorem size_R {a : Arr} (lo : LOk a) : sizeR a.k a.nu.length a.it.length = ((a.nu.length + a.it.length : Nat) : Int) := by
  have kd := lo.kd
  unfold sizeR
  by_cases h3 : a.k = 3
  · rw [if_neg (by omega), if_pos h3, lo.bx h3]; simp
  · rw [if_pos (by omega), lo.no h3]; simp
theorem one_dim {a : Arr} (lo : LOk a) (hv : (chkA a).1 = 0) (h1 : a.sh.length = 1) : (a.sh.getD 0 0).toNat = a.nu.length + a.it.length := by
  obtain ⟨hr, hs, hp⟩ := shape_ok hv
  have hm0 := hp _ (memI (l := a.sh) (i := 0) (by omega))
  have he : a.sh = [a.sh.getD 0 0] := by
    obtain ⟨x, hx⟩ := List.length_eq_one_iff.1 h1
    rw [hx]; rfl
  by_cases hz : sizeS a.sh = 0
  · rw [hz] at hs
    rw [he] at hz hr
    generalize a.sh.getD 0 0 = d at *
    by_cases hd : d = 0
    · subst hd; simp; omega
    · exfalso
      have hd1 : ∀ x ∈ [d], 1 ≤ x := by intro x hx; have := List.mem_singleton.1 hx; omega
      simp only [rightS, Bool.and_eq_true] at hr
      cases hg : goO [d] 1 with
      | none => rw [hg] at hr; exact absurd hr.2 (by simp)
      | some q =>
        have hq := goO_some hd1 hg
        rw [sizeS, not_zero hd1, hg] at hz
        simp [prodN] at hq hz
        omega
  · have fu := full_ok lo hv hz
    have hpr := fu.prod
    rw [he] at hpr
    simpa [prodN] using hpr
theorem join_one (x s : List UInt8) : Lib.join [x] s = x := by simp [join_cons, jT]
theorem lines_one {a : Arr} (lo : LOk a) (hv : (chkA a).1 = 0) (h : a.sh.length < 2) : linesK a = [oneL a (a.nu.length + a.it.length)] := by
  rw [linesK, if_neg (fun h => h hv)]
  by_cases h0 : a.sh.length = 0
  · rw [if_pos h0, lo.sc h0]
    simp [oneL, join_one]
  · have h1 : a.sh.length = 1 := by omega
    rw [if_neg h0, if_pos h1, one_dim lo hv h1]
    simp only [matK, List.range_one, List.map_singleton, lineK, oneL]
    congr 2
    unfold rowK
    refine List.map_congr_left fun j hj => ?_
    have hj := List.mem_range.1 hj
    rw [← wdC_eq _ _ _ _ hj]
    have e : 0 + 0 * (a.nu.length + a.it.length) + j = j := by omega
    rw [e]
    have ew : wdC (lenK a 0) (a.nu.length + a.it.length) 1 j = (cellK a j).length := by
      simp only [wdC, Nat.zero_mul, Nat.zero_add, lenK]
      split <;> omega
    rw [ew]
    simp [padK, Lib.repeatL]
noncomputable def Ern (a : Arr) : Senv := { EC (conRn a) 59 9 [11, 18, 25, 40, 47] (fun id => match id with | 6 => ([0, 1, 2, 3, 4, 5], [2, 3, 4]) | 9 => ([0, 1, 2, 3, 4, 5, 6, 7, 8, 9, 10, 11, 12, 13], []) | _ => ([], [])) with
  gh := fun b => match b with
    | 0 => [.slot 7]
    | _ => []
  ann := fun b _ S => match b with
    | 0 => some { slots := [8, 7], keep := [1, 3, 4, 5, 6], α := Nat × Nat, st := fun y => ([.int .i64 ((y.1 * (rwK a * clK a) : Nat) : Int), ssl (runR a y.1) (.tok 0 y.2)], ⟨S.objs, [(0, y.2)]⟩), inv := fun y => y.1 ≤ prodN (axD a 0), mu := fun y => prodN (axD a 0) - y.1 }
    | _ => none }
noncomputable section
def ln6q0 (p0 : Arr) : Int := Arr.k p0
def ln6q1 (p0 : Arr) : List Int := Arr.sh p0
def ln6q2 (p0 : Arr) : Nat := LN (ln6q1 p0)
def ln6q3 (p0 : Arr) (p1 : Nat) : List D := [ZI (GI (ln6q1 p0) p1)]
def ln6q4 (p0 : Arr) : Nat := LN (Arr.nu p0)
def ln6q5 (p0 : Arr) (p1 : Nat) : List D := [ZI (GI (Arr.nu p0) p1)]
def ln6q6 (p0 : Arr) : Nat := LN (Arr.it p0)
def ln6q7 : Arr := DA
def ln6q8 (p0 : Arr) (p1 : Nat) : Arr := List.getD (Arr.it p0) p1 ln6q7
def ln6q9 (p0 : Arr) (p1 : Nat) : List Int := Arr.sh (ln6q8 p0 p1)
def ln6q10 (p0 : Arr) (p1 : Nat) : List Int := Arr.nu (ln6q8 p0 p1)
def ln6q11 (p0 : Arr) (p1 : Nat) : List Arr := Arr.it (ln6q8 p0 p1)
def ln6q12 (p0 : Arr) (p1 : Nat) : List D := [ZI (Arr.k (ln6q8 p0 p1)), SI (ln6q9 p0 p1), SI (ln6q10 p0 p1), D.sl N4 (LN (ln6q11 p0 p1)) (fun (i : Nat) => Arr.row (List.getD (ln6q11 p0 p1) i ln6q7)) Mode.any]
def ln6q13 (p0 : Arr) : Nat := LN (linesK p0)
def ln6q14 (p0 : Arr) (p1 : Nat) : List D := [D.str (List.getD (linesK p0) p1 [])]
def ln6q15 (p0 : Arr) : Prop := True ∧ ∃ (_y : Unit), True ∧ (N0 = ln6q13 p0 ∧ (∀ (i : Nat), i < N0 → eqOf (List D) [] (ln6q14 p0 i)) ∧ True) ∧ True ∧ True
def ln6q16 (p0 : Arr) : Int := (NI (ln6q2 p0))
def ln6q17 (p0 : Arr) : Int := sizeR (ln6q0 p0) (ln6q4 p0) (ln6q6 p0)
def ln6q18 (p0 : Arr) : D := D.agg [ZI (ln6q0 p0), D.sl N1 (ln6q2 p0) (fun (i : Nat) => ln6q3 p0 i) Mode.any, D.sl N1 (ln6q4 p0) (fun (i : Nat) => ln6q5 p0 i) Mode.any, D.sl N4 (ln6q6 p0) (fun (i : Nat) => ln6q12 p0 i) Mode.any]
def ln6q19 (p0 : Arr) : Prop := SM (ln6q0 p0) ∧ (SM (ln6q2 p0) ∧ (∀ (i : Nat), i < ln6q2 p0 → SM (ln6q3 p0 i)) ∧ True) ∧ (SM (ln6q4 p0) ∧ (∀ (i : Nat), i < ln6q4 p0 → SM (ln6q5 p0 i)) ∧ True) ∧ (SM (ln6q6 p0) ∧ (∀ (i : Nat), i < ln6q6 p0 → SM (ln6q12 p0 i)) ∧ True) ∧ True
def ln6q20 (p0 : Arr) : Nat := Int.toNat (ln6q17 p0)
def ln6q21 (p0 : Arr) : Prop := SM (ln6q20 p0)
def ln6q22 (p0 : Arr) : Nat := ln6q4 p0 + ln6q6 p0
def ln6q23 (p0 : Arr) : Int := IntKind.wrap IntKind.i64 (ln6q16 p0 - (2 : Int))
def ln6q24 (p0 : Arr) : Int := IntKind.wrap IntKind.i64 (ln6q16 p0 - Z1)
def ln6q25 (p0 : Arr) : Nat := prodN (axD p0 N0)
def ln6q26 (p0 : Nat) (p1 : Arr) : Prop := p0 ≤ ln6q25 p1
def ln6q27 (p0 : Nat) (p1 : Arr) : Int := (NI (p0 * (rwK p1 * clK p1)))
def ln6q28 (p0 : Arr) (p1 : Nat) : Nat := LN (runR p0 p1)
def ln6q29 (p0 : Arr) (p1 p2 : Nat) : List D := [D.str (List.getD (runR p0 p1) p2 [])]
def ln6q30 (p0 : Nat) (p1 : Arr) (p2 p3 : Nat) : Prop := (SM p0 ∧ ln6q19 p1 ∧ True) ∧ p2 = p3 ∧ True
def ln6q31 (p0 : Arr) (p1 : Nat) : Nat := ln6q28 p0 p1 + N1
def ln6q32 (p0 : Arr) : Int := GI (ln6q1 p0) (Int.toNat (ln6q23 p0))
def ln6q33 (p0 : Arr) : Int := GI (ln6q1 p0) (Int.toNat (ln6q24 p0))
def ln6q34 (p0 : Arr) (p1 p2 p3 p4 : Nat) : Prop := ln6q19 p0 ∧ ln6q27 p1 p0 = (↑p2 : Int) ∧ ln6q32 p0 = (↑p3 : Int) ∧ ln6q33 p0 = (↑p4 : Int) ∧ True
def ln6q35 (p0 : Arr) (p1 p2 p3 : Nat) : Prop := Prod.fst (chkA p0) = Z0 ∧ p1 ≤ (65536 : Nat) ∧ p2 ≤ (65536 : Nat) ∧ p3 + p1 * p2 ≤ ln6q22 p0
def ln6q36 (p0 : Arr) (p1 p2 p3 p4 : Nat) : Nat := ln6q31 p0 p1 + LN (matK p0 p2 p3 p4)
def ln6q37 (p0 : Arr) : D := ZI (ln6q17 p0)
def ln6q38 (p0 : Arr) : D := ZI (ln6q32 p0)
def ln6q39 (p0 : Arr) : D := ZI (ln6q33 p0)
def ln6q40 (p0 : Nat) (p1 : Arr) : Prop := SM (D.ref N0 p0 N0) ∧ SM (ln6q37 p1) ∧ SM (ZI (ln6q16 p1)) ∧ SM (ln6q38 p1) ∧ SM (ln6q39 p1) ∧ True
def ln6q41 (p0 : Arr) (p1 : Nat) : Nat := ln6q25 p0 - p1
def ln6q42 (p0 : Arr) (p1 p2 : Nat) : Prop := ln6q41 p0 p1 < ln6q41 p0 p2
def ln6q43 (p0 : Nat) (p1 : Arr) (p2 : Nat) : Prop := IntKind.wrap IntKind.i64 (ln6q27 p0 p1 + IntKind.wrap IntKind.i64 (ln6q32 p1 * ln6q33 p1)) = ln6q27 p2 p1
def ln6q44 (p0 : Arr) (p1 p2 p3 p4 : Nat) : Nat := ln6q28 p0 p1 + LN (matK p0 p2 p3 p4)
end
theorem rlines_ok (a : Arr) (ho : a.ok) :
    ACalls Tryd.prog 12 ((sRc Arr.row2 (fun _ => True) (fun b => ssl (linesK b) .any)).args a) ⟨[], []⟩ (SpecR (sRc Arr.row2 (fun _ => True) (fun b => ssl (linesK b) .any)) a) := by
  refine con_of (A := sRc Arr.row2 (fun _ => True) (fun b => ssl (linesK b) .any)) (x := a) (E := Ern a) (eOk (conRn_ok ho) rfl) Tryd.func12 rfl (by kernel_rfl) rfl (by simp [sRc, Ern, EC, E0]) ?_
  refine vc_eq (T :=
    ∀ (x : Nat), True → SM x ∧ ∃ (x_1 : Arr), ((ln6q0 a = ln6q0 x_1 ∧ (ln6q2 a = ln6q2 x_1 ∧ (∀ (i : Nat), i < ln6q2 a → ln6q3 a i = ln6q3 x_1 i) ∧ True) ∧ (ln6q4 a = ln6q4 x_1 ∧ (∀ (i : Nat), i < ln6q4 a → ln6q5 a i = ln6q5 x_1 i) ∧ True) ∧ (ln6q6 a = ln6q6 x_1 ∧ (∀ (i : Nat), i < ln6q6 a → ln6q12 a i = ln6q12 x_1 i) ∧ True) ∧ True) ∧ True) ∧ (True ∧ True) ∧ x_1 = a ∧ ∀ (y : Unit), True → ifB (Prod.fst (chkA x_1) != Z0) (ln6q15 a) (SM x ∧ True ∧ ∀ (y : Unit), True → SM x ∧ ifB (decide (ln6q16 a < (2 : Int))) (SM x ∧ side (Z0 ≤ ln6q17 a ∧ ln6q17 a ≤ ln6q17 a ∧ (8 : Int) * ln6q17 a ≤ (281474976710656 : Int) ∧ ln6q17 a ≤ (9223372036854775807 : Int)) (∀ (x_2 : Nat), x ≠ x_2 ∧ True → (SM x ∧ SM (ln6q18 a)) ∧ ∃ (x : Unit), (ln6q19 a ∧ SM Z0 ∧ (SM x_2 ∧ ln6q21 a ∧ ln6q21 a) ∧ True) ∧ ((SM x_2 ∧ (ln6q21 a ∧ ln6q21 a ∧ ∀ (i : Nat), i < ln6q20 a → SM [ZI Z0]) ∧ True) ∧ True) ∧ (Prod.fst (chkA a) = Z0 ∧ ln6q20 a = ln6q22 a) ∧ ∀ (y : Unit), True → True ∧ ∃ (y : Unit), True ∧ (N1 = ln6q13 a ∧ (∀ (i : Nat), i < N1 → List.getD [[D.str (oneL a (ln6q20 a))]] i [] = ln6q14 a i) ∧ True) ∧ True ∧ True)) (ifB (ln6q17 a == Z0) (ln6q15 a) (SM x ∧ side (Z0 ≤ ln6q23 a ∧ ln6q23 a < ln6q16 a) (SM x ∧ side (Z0 ≤ ln6q24 a ∧ ln6q24 a < ln6q16 a) (∀ (t : Nat), (∃ (x_2 : Nat × Nat), ln6q26 x_2.1 a ∧ (Z0 = ln6q27 x_2.1 a ∧ (N0 = ln6q28 a x_2.1 ∧ (∀ (i : Nat), i < N0 → eqOf (List D) [] (ln6q29 a x_2.1 i)) ∧ t = x_2.2) ∧ True) ∧ ln6q30 x a t x_2.2) ∧ ∀ (x_2 : Nat × Nat), ln6q26 x_2.1 a → ifB (decide (ln6q27 x_2.1 a < ln6q17 a)) (ifB (decide (Z0 < ln6q27 x_2.1 a)) (SM x_2.2 ∧ side (ln6q31 a x_2.1 * (16 : Nat) ≤ (140737488355328 : Nat) ∧ ln6q31 a x_2.1 ≤ (9223372036854775807 : Nat)) (∀ (t : Nat), SM x ∧ ∃ (x_3 : Nat × Nat × Nat), ln6q34 a x_2.1 x_3.1 x_3.2.1 x_3.2.2 ∧ (True ∧ True) ∧ ln6q35 a x_3.2.1 x_3.2.2 x_3.1 ∧ ∀ (y : Unit), True → SM t ∧ side (ln6q36 a x_2.1 x_3.1 x_3.2.1 x_3.2.2 * (16 : Nat) ≤ (140737488355328 : Nat) ∧ ln6q36 a x_2.1 x_3.1 x_3.2.1 x_3.2.2 ≤ (9223372036854775807 : Nat)) (∀ (t : Nat), ln6q40 x a ∧ ∃ (y : Nat × Nat), ln6q26 y.1 a ∧ ln6q42 a y.1 x_2.1 ∧ (ln6q43 x_2.1 a y.1 ∧ (ln6q36 a x_2.1 x_3.1 x_3.2.1 x_3.2.2 = ln6q28 a y.1 ∧ (∀ (i : Nat), i < ln6q36 a x_2.1 x_3.1 x_3.2.1 x_3.2.2 → appF (ln6q31 a x_2.1) (appF (ln6q28 a x_2.1) (fun (i : Nat) => ln6q29 a x_2.1 i) fun (i : Nat) => List.getD [[D.str []]] i []) (fun (i : Nat) => [D.str (List.getD (matK a x_3.1 x_3.2.1 x_3.2.2) i [])]) i = ln6q29 a y.1 i) ∧ t = y.2) ∧ True) ∧ ln6q30 x a t y.2))) (SM x ∧ ∃ (x_3 : Nat × Nat × Nat), ln6q34 a x_2.1 x_3.1 x_3.2.1 x_3.2.2 ∧ (True ∧ True) ∧ ln6q35 a x_3.2.1 x_3.2.2 x_3.1 ∧ ∀ (y : Unit), True → SM x_2.2 ∧ side (ln6q44 a x_2.1 x_3.1 x_3.2.1 x_3.2.2 * (16 : Nat) ≤ (140737488355328 : Nat) ∧ ln6q44 a x_2.1 x_3.1 x_3.2.1 x_3.2.2 ≤ (9223372036854775807 : Nat)) (∀ (t : Nat), ln6q40 x a ∧ ∃ (y : Nat × Nat), ln6q26 y.1 a ∧ ln6q42 a y.1 x_2.1 ∧ (ln6q43 x_2.1 a y.1 ∧ (ln6q44 a x_2.1 x_3.1 x_3.2.1 x_3.2.2 = ln6q28 a y.1 ∧ (∀ (i : Nat), i < ln6q44 a x_2.1 x_3.1 x_3.2.1 x_3.2.2 → appF (ln6q28 a x_2.1) (fun (i : Nat) => ln6q29 a x_2.1 i) (fun (i : Nat) => [D.str (List.getD (matK a x_3.1 x_3.2.1 x_3.2.2) i [])]) i = ln6q29 a y.1 i) ∧ t = y.2) ∧ True) ∧ ln6q30 x a t y.2))) (True ∧ ∃ (y : Unit), True ∧ (ln6q28 a x_2.1 = ln6q13 a ∧ (∀ (i : Nat), i < ln6q28 a x_2.1 → ln6q29 a x_2.1 i = ln6q14 a i) ∧ True) ∧ True ∧ True))))))) (by kernel_rfl) ?_
  delta DA GI LN N0 N1 N4 NI SI SM Z0 Z1 ZI ln6q0 ln6q1 ln6q10 ln6q11 ln6q12 ln6q13 ln6q14 ln6q15 ln6q16 ln6q17 ln6q18 ln6q19 ln6q2 ln6q20 ln6q21 ln6q22 ln6q23 ln6q24 ln6q25 ln6q26 ln6q27 ln6q28 ln6q29 ln6q3 ln6q30 ln6q31 ln6q32 ln6q33 ln6q34 ln6q35 ln6q36 ln6q37 ln6q38 ln6q39 ln6q4 ln6q40 ln6q41 ln6q42 ln6q43 ln6q44 ln6q5 ln6q6 ln6q7 ln6q8 ln6q9
  have da : (default : Arr) = Arr.mk 0 [] [] [] := rfl
  simp only [← da, ifB_iff, side_iff, decide_eq_true_eq, decide_eq_false_iff_not, true_and, and_true, beq_iff_eq, bne_iff_ne, beq_eq_false_iff_ne, ne_eq, exists_const, forall_const, implies_true, Prod.exists]
  refine fun x => ⟨a, ⟨rfl, ⟨rfl, fun _ _ => rfl⟩, ⟨rfl, fun _ _ => rfl⟩, rfl, fun _ _ => rfl⟩, rfl, fun hn => ?_, fun hv => ?_⟩
  · have : linesK a = [] := by rw [linesK, if_pos hn]
    rw [this]
    exact ⟨rfl, fun i hi => absurd hi (by omega)⟩
  have hv : (chkA a).1 = 0 := by simpa using hv
  have lo := lok_of ho hv
  have s8 := lo.s8
  have hsz := lo_size lo
  obtain ⟨hr, hs, hp⟩ := shape_ok hv
  have hl : linesK a = if a.sh.length = 0 then [cellK a 0] else if a.sh.length = 1 then matK a 0 1 (a.sh.getD 0 0).toNat else if sizeS a.sh = 0 then [] else plK a (rwK a) (clK a) (axD a 0) 0 := by
    rw [linesK, if_neg (fun h => h hv)]
  rw [size_R lo]
  refine ⟨fun h2 => ⟨⟨by omega, by omega, by omega, by omega⟩, fun x2 _ => ⟨⟨hv, by omega⟩, ?_, ?_⟩⟩, fun h2 => ⟨fun hz => ?_, fun hz => ?_⟩⟩
  · rw [lines_one lo hv (by omega)]; rfl
  · intro i hi
    have : i = 0 := by omega
    subst this
    rw [lines_one lo hv (by omega), Int.toNat_natCast]; rfl
  · have : linesK a = [] := by rw [hl, if_neg (by omega), if_neg (by omega), if_pos (by omega)]
    rw [this]
    exact ⟨rfl, fun i hi => absurd hi (by omega)⟩
  · have h2 : 2 ≤ a.sh.length := by omega
    have hz : sizeS a.sh ≠ 0 := by omega
    have fu := full_ok lo hv hz
    obtain ⟨p1, p2⟩ := rc_pos fu h2
    obtain ⟨l1, l2, l3⟩ := rc_le fu h2
    have w2 : IntKind.i64.wrap ((a.sh.length : Int) - 2) = ((a.sh.length - 2 : Nat) : Int) := by rw [wrap_i64' (by omega) (by omega)]; omega
    have w1 : IntKind.i64.wrap ((a.sh.length : Int) - 1) = ((a.sh.length - 1 : Nat) : Int) := by rw [wrap_i64' (by omega) (by omega)]; omega
    have e1 : a.sh.getD (a.sh.length - 1) 0 = (clK a : Int) := by
      have := hp (a.sh.getD (a.sh.length - 1) 0) (memI (by omega))
      unfold clK; omega
    have e2 : a.sh.getD (a.sh.length - 2) 0 = (rwK a : Int) := by
      have := hp (a.sh.getD (a.sh.length - 2) 0) (memI (by omega))
      unfold rwK; omega
    have hk : linesK a = runR a (prodN (axD a 0)) := by
      rw [hl, if_neg (by omega), if_neg (by omega), if_neg hz, plK_run _ _ _ _ (axD_pos fu 0)]; rfl
    have hP := prod_ax' a h2 (ax := 0) (by omega)
    rw [List.drop_zero, fu.prod] at hP
    have q0 : 1 ≤ rwK a * clK a := Nat.mul_pos p1 p2
    have q2 : prodN (axD a 0) ≤ prodN (axD a 0) * (rwK a * clK a) := Nat.le_mul_of_pos_right _ q0
    have q3 : rwK a * prodN (axD a 0) ≤ prodN (axD a 0) * (rwK a * clK a) := by
      rw [Nat.mul_comm (rwK a)]
      exact Nat.mul_le_mul_left _ (Nat.le_mul_of_pos_right _ p2)
    have wm : IntKind.i64.wrap ((rwK a : Int) * (clK a : Int)) = ((rwK a * clK a : Nat) : Int) := by rw [← Int.natCast_mul]; exact wrap_i64' (by omega) (by omega)
    rw [w1, w2, Int.toNat_natCast, Int.toNat_natCast, e1, e2, hk, wm]
    refine ⟨⟨by omega, by omega⟩, ⟨by omega, by omega⟩, fun t => ⟨⟨0, t, Nat.zero_le _, ⟨by simp, rfl, fun i hi => absurd hi (by omega), rfl⟩, rfl⟩, ?_⟩⟩
    rintro ⟨i, t1⟩ hi
    simp only at hi ⊢
    have hil := runR_len a i
    have hib : (rwK a + 1) * i ≤ 131072 := by
      have h1 := Nat.mul_le_mul_left (rwK a + 1) hi
      rw [Nat.add_mul (rwK a) 1 (prodN (axD a 0))] at h1
      omega
    refine ⟨fun hlt => ?_, fun hge => ?_⟩
    · have hi1 : i < prodN (axD a 0) := by
        by_cases h : i < prodN (axD a 0)
        · exact h
        · have : i = prodN (axD a 0) := by omega
          rw [this] at hlt; omega
      have hmr := mul_row (cols := rwK a * clK a) hi1
      have hst := runR_step a i
      have hpl : plnK a i = matK a (i * (rwK a * clK a)) (rwK a) (clK a) := by rw [plnK, Nat.zero_add]
      rw [hpl] at hst
      have ws : IntKind.i64.wrap (((i * (rwK a * clK a) : Nat) : Int) + ((rwK a * clK a : Nat) : Int)) = (((i + 1) * (rwK a * clK a) : Nat) : Int) := by
        rw [← Int.natCast_add, Nat.add_mul, Nat.one_mul]; exact wrap_i64' (by omega) (by omega)
      have hml := matK_len a (i * (rwK a * clK a)) (rwK a) (clK a)
      refine ⟨fun h0 => ⟨⟨by omega, by omega⟩, i * (rwK a * clK a), rwK a, clK a, ⟨rfl, rfl, rfl⟩, ⟨hv, l2, l3, by omega⟩, ⟨by omega, by omega⟩, fun t2 => ⟨i + 1, t2, by omega, by omega, ⟨ws, ?_, ?_, rfl⟩, rfl⟩⟩,
        fun h0 => ⟨i * (rwK a * clK a), rwK a, clK a, ⟨rfl, rfl, rfl⟩, ⟨hv, l2, l3, by omega⟩, ⟨by omega, by omega⟩, fun t2 => ⟨i + 1, t2, by omega, by omega, ⟨ws, ?_, ?_, rfl⟩, rfl⟩⟩⟩
      · have hne : i ≠ 0 := fun e => by subst e; simp at h0
        rw [hst, if_neg hne]; simp only [List.length_append, List.length_cons]; omega
      · have hne : i ≠ 0 := fun e => by subst e; simp at h0
        rw [hst, if_neg hne]
        have := app_gs (n := (runR a i).length + 1) (l := runR a i ++ [[]]) (r := matK a (i * (rwK a * clK a)) (rwK a) (clK a)) (by simp) (app_str (l := runR a i) (s := [])) (fun _ _ => rfl)
        rw [List.append_assoc] at this
        exact this
      · have e : i = 0 := by
          by_cases e : i = 0
          · exact e
          · have := Nat.mul_pos (Nat.pos_of_ne_zero e) q0
            omega
        subst e
        rw [hst, if_pos rfl]
        show 0 + _ = _
        omega
      · have e : i = 0 := by
          by_cases e : i = 0
          · exact e
          · have := Nat.mul_pos (Nat.pos_of_ne_zero e) q0
            omega
        subst e
        rw [hst, if_pos rfl]
        exact app_gs (n := (runR a 0).length) (l := []) rfl (fun _ _ => rfl) (fun _ _ => rfl)
    · have e : i = prodN (axD a 0) := by
        by_cases h : i < prodN (axD a 0)
        · have := mul_row (cols := rwK a * clK a) h
          omega
        · omega
      rw [e]
      exact ⟨rfl, fun _ _ => rfl⟩
end Go.Proofs.YtpgepjefbhgblaaDoor
namespace Go.Proofs.YtpgepjefbhgblaaDoor
open Go Go.Ab
set_option maxRecDepth 100000
def conRsh (a : Arr) : Con := fun k ds S => match k with
  | 12 => some (sRc Arr.row2 (fun b => b = a) (fun b => ssl (linesK b) .any))
  | k => conJn k ds S
theorem conRsh_ok {a : Arr} (ho : a.ok) : ConOk Tryd.prog (conRsh a) := by
  intro k ds S A hk
  unfold conRsh at hk
  split at hk
  · injection hk with hk; subst hk
    refine ConOk.plain (fun (b : Arr) hb => ?_) rfl rfl
    have hb : b = a := hb
    rw [hb]
    exact (rlines_ok a ho).mono fun _ _ ⟨y, q1, q2, q3⟩ => ⟨y, q1, q2, q3⟩
  · exact conJn_ok _ _ _ _ hk
noncomputable def Ersh (a : Arr) : Senv := { EC (conRsh a) 26 6 [12] (fun _ => ([], [])) with
  gh := fun b => match b with
    | 0 => [.slot 3]
    | _ => []
  ann := fun b _ S => match b with
    | 0 => some { slots := [5, 3], keep := [4], α := Nat × Nat × List UInt8, st := fun y => ([.int .i64 y.1, bsl y.2.2 (.tok 0 y.2.1)], ⟨S.objs, [(0, y.2.1)]⟩), inv := fun y => y.1 ≤ (linesK a).length ∧ y.2.2 = showL ((linesK a).take y.1), mu := fun y => (linesK a).length - y.1 }
    | _ => none }
noncomputable section
def ln7q0 (p0 : Arr) : Int := Arr.k p0
def ln7q1 (p0 : Arr) : Nat := LN (Arr.sh p0)
def ln7q2 (p0 : Arr) (p1 : Nat) : List D := [ZI (GI (Arr.sh p0) p1)]
def ln7q3 (p0 : Arr) : Nat := LN (Arr.nu p0)
def ln7q4 (p0 : Arr) (p1 : Nat) : List D := [ZI (GI (Arr.nu p0) p1)]
def ln7q5 (p0 : Arr) : Nat := LN (Arr.it p0)
def ln7q6 : Arr := DA
def ln7q7 (p0 : Arr) (p1 : Nat) : Arr := List.getD (Arr.it p0) p1 ln7q6
def ln7q8 (p0 : Arr) (p1 : Nat) : List Int := Arr.sh (ln7q7 p0 p1)
def ln7q9 (p0 : Arr) (p1 : Nat) : List Int := Arr.nu (ln7q7 p0 p1)
def ln7q10 (p0 : Arr) (p1 : Nat) : List Arr := Arr.it (ln7q7 p0 p1)
def ln7q11 (p0 : Arr) (p1 : Nat) : List D := [ZI (Arr.k (ln7q7 p0 p1)), SI (ln7q8 p0 p1), SI (ln7q9 p0 p1), D.sl N4 (LN (ln7q10 p0 p1)) (fun (i : Nat) => Arr.row (List.getD (ln7q10 p0 p1) i ln7q6)) Mode.any]
def ln7q12 (p0 : Arr) : List (List UInt8) := linesK p0
def ln7q13 (p0 : Arr) : Nat := LN (ln7q12 p0)
def ln7q14 (p0 : Nat) (p1 : Arr) (p2 : List UInt8) : Prop := p0 ≤ ln7q13 p1 ∧ p2 = showL (List.take p0 (ln7q12 p1))
def ln7q15 (p0 : List UInt8) (p1 : Nat) : List D := [ZB (BI p0 p1)]
def ln7q16 (p0 : Nat) (p1 : Arr) (p2 p3 : Nat) : Prop := (SM p0 ∧ (SM (ln7q0 p1) ∧ (SM (ln7q1 p1) ∧ (∀ (i : Nat), i < ln7q1 p1 → SM (ln7q2 p1 i)) ∧ True) ∧ (SM (ln7q3 p1) ∧ (∀ (i : Nat), i < ln7q3 p1 → SM (ln7q4 p1 i)) ∧ True) ∧ (SM (ln7q5 p1) ∧ (∀ (i : Nat), i < ln7q5 p1 → SM (ln7q11 p1 i)) ∧ True) ∧ True) ∧ True) ∧ p2 = p3 ∧ True
def ln7q17 (p0 : List UInt8) (p1 : Arr) (p2 : Nat) : Nat := LN p0 + LN (List.getD (ln7q12 p1) (Int.toNat (↑p2 : Int)) [])
def ln7q18 (p0 : List UInt8) (p1 : Arr) (p2 : Nat) : Nat := ln7q17 p0 p1 p2 + N1
def ln7q19 (p0 : Arr) : D := D.sl N1 (ln7q13 p0) (fun (i : Nat) => [D.str (List.getD (ln7q12 p0) i [])]) Mode.any
end
theorem rsho_ok (a : Arr) (ho : a.ok) :
    ACalls Tryd.prog 14 ((sRc Arr.row2 (fun _ => True) (fun b => .str (showK b))).args a) ⟨[], []⟩ (SpecR (sRc Arr.row2 (fun _ => True) (fun b => .str (showK b))) a) := by
  refine con_of (A := sRc Arr.row2 (fun _ => True) (fun b => .str (showK b))) (x := a) (E := Ersh a) (eOk (conRsh_ok ho) rfl) Tryd.func14 rfl (by kernel_rfl) rfl (by simp [sRc, Ersh, EC, E0]) ?_
  refine vc_eq (T :=
    ∀ (x : Nat), True → SM x ∧ ∃ (x_1 : Arr), ((ln7q0 a = ln7q0 x_1 ∧ (ln7q1 a = ln7q1 x_1 ∧ (∀ (i : Nat), i < ln7q1 a → ln7q2 a i = ln7q2 x_1 i) ∧ True) ∧ (ln7q3 a = ln7q3 x_1 ∧ (∀ (i : Nat), i < ln7q3 a → ln7q4 a i = ln7q4 x_1 i) ∧ True) ∧ (ln7q5 a = ln7q5 x_1 ∧ (∀ (i : Nat), i < ln7q5 a → ln7q11 a i = ln7q11 x_1 i) ∧ True) ∧ True) ∧ True) ∧ (True ∧ True) ∧ x_1 = a ∧ ∀ (y : Unit), True → ∀ (t : Nat), (∃ (x_2 : Nat × Nat × List UInt8), ln7q14 x_2.1 a x_2.2.2 ∧ (Z0 = (NI x_2.1) ∧ (N0 = LN x_2.2.2 ∧ (∀ (i : Nat), i < N0 → eqOf (List D) [] (ln7q15 x_2.2.2 i)) ∧ t = x_2.2.1) ∧ True) ∧ ln7q16 x a t x_2.2.1) ∧ ∀ (x_2 : Nat × Nat × List UInt8), ln7q14 x_2.1 a x_2.2.2 → ifB (decide ((NI x_2.1) < (NI (ln7q13 x_1)))) (side (Z0 ≤ (NI x_2.1) ∧ (NI x_2.1) < (NI (ln7q13 x_1))) (SM x_2.2.1 ∧ side (ln7q17 x_2.2.2 x_1 x_2.1 * N1 ≤ (140737488355328 : Nat) ∧ ln7q17 x_2.2.2 x_1 x_2.1 ≤ (9223372036854775807 : Nat)) (∀ (t : Nat), SM t ∧ side (ln7q18 x_2.2.2 x_1 x_2.1 * N1 ≤ (140737488355328 : Nat) ∧ ln7q18 x_2.2.2 x_1 x_2.1 ≤ (9223372036854775807 : Nat)) (∀ (t : Nat), (SM (ln7q19 x_1) ∧ True) ∧ ∃ (y : Nat × Nat × List UInt8), ln7q14 y.1 a y.2.2 ∧ ln7q13 a - y.1 < ln7q13 a - x_2.1 ∧ (IntKind.wrap IntKind.i64 ((NI x_2.1) + Z1) = (NI y.1) ∧ (ln7q18 x_2.2.2 x_1 x_2.1 = LN y.2.2 ∧ (∀ (i : Nat), i < ln7q18 x_2.2.2 x_1 x_2.1 → appF (ln7q17 x_2.2.2 x_1 x_2.1) (appF (LN x_2.2.2) (fun (i : Nat) => ln7q15 x_2.2.2 i) fun (i : Nat) => [ZB (BI (List.getD (ln7q12 x_1) (TN x_2.1) []) i)]) (fun (i : Nat) => List.getD [[ZB (10 : Int)]] i []) i = ln7q15 y.2.2 i) ∧ t = y.2.1) ∧ True) ∧ ln7q16 x a t y.2.1)))) (True ∧ chk (true && rowsB (LN x_2.2.2) fun (i : Nat) => ln7q15 x_2.2.2 i) (True ∧ ∃ (y : Unit), True ∧ (bytesOf (LN x_2.2.2) fun (i : Nat) => ln7q15 x_2.2.2 i) = showK a ∧ True ∧ True))) (by kernel_rfl) ?_
  delta BI DA GI LN N0 N1 N4 NI SI SM TN U0 Z0 Z1 ZB ZI ln7q0 ln7q1 ln7q10 ln7q11 ln7q12 ln7q13 ln7q14 ln7q15 ln7q16 ln7q17 ln7q18 ln7q19 ln7q2 ln7q3 ln7q4 ln7q5 ln7q6 ln7q7 ln7q8 ln7q9
  have da : (default : Arr) = Arr.mk 0 [] [] [] := rfl
  simp only [← da, ifB_iff, side_iff, decide_eq_true_eq, decide_eq_false_iff_not, true_and, and_true, exists_const, forall_const, implies_true, Int.toNat_natCast]
  have ht := tot_lines ho
  have hlen : (linesK a).length ≤ 20000000000000 := by
    have key : ∀ l : List (List UInt8), l.length ≤ totS l := fun l => by
      induction l with
      | nil => simp
      | cons x l ih => simp only [totS, List.length_cons]; omega
    have := key (linesK a)
    omega
  refine ⟨a, ⟨rfl, ⟨rfl, fun _ _ => rfl⟩, ⟨rfl, fun _ _ => rfl⟩, rfl, fun _ _ => rfl⟩, rfl, fun t => ⟨⟨(0, t, []), ⟨Nat.zero_le _, rfl⟩, ⟨rfl, rfl, fun i hi => absurd hi (by omega), rfl⟩, rfl⟩, ?_⟩⟩
  rintro ⟨i, t1, out⟩ ⟨hi, he⟩
  simp only at hi he ⊢
  have h1 := showL_take_len (l := linesK a) i
  rw [← he] at h1
  refine ⟨fun hlt => ?_, fun hge => ?_⟩
  · have hlt' : i < (linesK a).length := by omega
    have h2 := showL_take hlt'
    have h3 := showL_take_len (l := linesK a) (i + 1)
    rw [h2, ← he] at h3
    simp only [List.length_append, List.length_cons, List.length_nil] at h3
    refine ⟨⟨by omega, by omega⟩, ⟨by omega, by omega⟩, ⟨by omega, by omega⟩, fun t2 => ⟨(i + 1, t2, out ++ (linesK a).getD i [] ++ [10]), ⟨by simp only; omega, by simp only; rw [h2, ← he]⟩, by simp only; omega, ⟨wrap_i64' (by omega) (by omega), by simp only [List.length_append, List.length_cons, List.length_nil], ?_, rfl⟩, rfl⟩⟩
    exact app_row' (b := 10) (by simp) (app_gen (l := out) (r := (linesK a).getD i []) rfl (fun _ _ => rfl) (fun _ _ => rfl)) rfl
  · rw [chk_iff, Bool.true_and]
    refine ⟨rowsB_bsl _, ?_⟩
    rw [bytesOf_bsl, he, showK, List.take_of_length_le (by omega)]
end Go.Proofs.YtpgepjefbhgblaaDoor
namespace Go.Proofs.YtpgepjefbhgblaaDoor
open Go Go.Ab
set_option maxRecDepth 100000
def rowI : List D → Bool
  | [.int .i64 _] => true
  | _ => false
def readA : Nat → List D → Arr
  | 0, _ => default
  | n + 1, [.int _ k, .sl _ ls f _, .sl _ ln g _, .sl _ li h _] => .mk k (intsD ls f) (intsD ln g) ((List.range li).map fun i => readA n (h i))
  | _ + 1, _ => default
def goodA : Nat → List D → Bool
  | 0, _ => false
  | n + 1, [.int .i64 _, .sl w1 ls f m1, .sl w2 ln g m2, .sl w3 li h m3] => (decide (w1 = 1) || nilMB m1 ls) && (decide (w2 = 1) || nilMB m2 ln) && (decide (w3 = 4) || nilMB m3 li) && ((List.range ls).all fun i => rowI (f i)) && ((List.range ln).all fun i => rowI (g i)) && (List.range li).all fun i => goodA n (h i)
  | _ + 1, _ => false
theorem rowI_eq {d : List D} (h : rowI d = true) : d = [.int .i64 (intD d)] := by
  unfold rowI at h
  split at h
  · rfl
  · cases h
theorem ints_wk {w n : Nat} {f : Nat → List D} {m : Ab.Mode} (hw : (decide (w = 1) || nilMB m n) = true) (h : ((List.range n).all fun i => rowI (f i)) = true) : wkD (.sl w n f m) (isl (intsD n f) .any) := by
  simp only [isl, wkD, chk_iff]
  refine ⟨hw, by simp [intsD], fun i hi => ?_, by simp [weakM]⟩
  have hr := rowI_eq (List.all_eq_true.1 h i (List.mem_range.2 hi))
  have e : (intsD n f).getD i 0 = intD (f i) := by simp [intsD, List.getD_eq_getElem?_getD, hi]
  rw [e, hr]
  exact wkL_refl _
theorem read_wk : ∀ (n : Nat) (ds : List D), goodA n ds = true → wkL ds (readA n ds).row
  | 0, _, h => by cases h
  | n + 1, ds, h => by
    unfold goodA at h
    split at h
    · cases h
    · rename_i m k w1 ls f m1 w2 ln g m2 w3 li h3 m3 e
      injection e with e; subst e
      simp only [Bool.and_eq_true] at h
      obtain ⟨⟨⟨⟨⟨h1, h2⟩, h3'⟩, h4⟩, h5⟩, h6⟩ := h
      simp only [readA, Arr.row, wkL, wkD]
      refine ⟨weakD_refl _, ints_wk h1 h4, ints_wk h2 h5, ?_, trivial⟩
      simp only [chk_iff]
      refine ⟨h3', by simp [row_len], fun i hi => ?_, by simp [weakM]⟩
      have hg := List.all_eq_true.1 h6 i (List.mem_range.2 hi)
      have e : (rowsL ((List.range li).map fun i => readA n (h3 i))).getD i [] = (readA n (h3 i)).row := by
        rw [rowsL_map]; simp [List.getD_eq_getElem?_getD, hi]
      rw [e]
      exact read_wk n (h3 i) hg
    · cases h
mutual
def okB : Arr → Bool
  | .mk k s n is => decide (-1000000 ≤ k ∧ k ≤ 1000000) && (s.all fun z => decide (-1000000 ≤ z ∧ z ≤ 1000000)) && (n.all fun z => decide (-1000000 ≤ z ∧ z ≤ 1000000)) && decide (s.length ≤ 1000) && decide (n.length ≤ 1000) && decide (is.length ≤ 1000) && okBL is
def okBL : List Arr → Bool
  | [] => true
  | a :: r => okB a && okBL r
end
mutual
theorem okB_ok : ∀ (a : Arr), okB a = true → a.ok
  | .mk k s n is, h => by
    simp only [okB, Bool.and_eq_true, decide_eq_true_eq] at h
    obtain ⟨⟨⟨⟨⟨⟨h1, h2⟩, h3⟩, h4⟩, h5⟩, h6⟩, h7⟩ := h
    simp only [Arr.ok, maxLen]
    refine ⟨⟨by omega, by omega⟩, fun z hz => ?_, fun z hz => ?_, by omega, by omega, by omega, okBL_ok is h7⟩
    · have := of_decide_eq_true (List.all_eq_true.1 h2 z hz)
      exact ⟨by omega, by omega⟩
    · have := of_decide_eq_true (List.all_eq_true.1 h3 z hz)
      exact ⟨by omega, by omega⟩
theorem okBL_ok : ∀ (l : List Arr), okBL l = true → okL l
  | [], _ => trivial
  | a :: r, h => by
    simp only [okBL, Bool.and_eq_true] at h
    exact ⟨okB_ok a h.1, okBL_ok r h.2⟩
end
theorem at_read {k : Nat} {r : Arr → D} {row : List D} {q : Arr → Prop} (hg : goodA 3 row = true) (h : ACalls Tryd.prog k ((sRc Arr.row2 q r).args (readA 3 row)) ⟨[], []⟩ (SpecR (sRc Arr.row2 q r) (readA 3 row))) : ACalls Tryd.prog k [.agg row] ⟨[], []⟩ (SpecR (sC [.agg row] (r (readA 3 row))) ()) := by
  have h1 := ACalls.wkArgs (ds := [.agg (readA 3 row).row1]) h (by simp only [sRc, wkL, wkD]; exact ⟨row1_wk _, trivial⟩)
  have h2 := ACalls.wkArgs (ds := [.agg (readA 3 row).row]) h1 (by simp only [wkL, wkD]; exact ⟨row_wk _, trivial⟩)
  have h3 := ACalls.wkArgs (ds := [.agg row]) h2 (by simp only [wkL, wkD]; exact ⟨read_wk 3 row hg, trivial⟩)
  exact h3.mono fun _ _ ⟨_, q1, q2, q3⟩ => ⟨(), trivial, q2, q3⟩
theorem litF2_ok (a : Arr) (ho : a.ok) : ACalls Tryd.prog 9 ((sRc Arr.row2 (fun _ => True) (fun b => .str (litF b))).args a) ⟨[], []⟩ (SpecR (sRc Arr.row2 (fun _ => True) (fun b => .str (litF b))) a) :=
  ((litF_ok a ho).wkArgs (by simp only [sRc, wkL, wkD]; exact ⟨row2_row1 a, trivial⟩)).mono fun _ _ ⟨y, q1, q2, q3⟩ => ⟨y, q1, q2, q3⟩
def conKw : Con := fun k ds _S => match k with
  | 9 => match ds with
    | [.agg row] => some (pC [.agg row] (.str (litF (readA 3 row))) (goodA 3 row = true ∧ (readA 3 row).ok))
    | _ => none
  | 11 => match ds with
    | [.agg row] => some (pC [.agg row] (ssl (linesK (readA 3 row)) .any) (goodA 3 row = true ∧ (readA 3 row).ok))
    | _ => none
  | 13 => match ds with
    | [.agg row] => some (pC [.agg row] (.str (showK (readA 3 row))) (goodA 3 row = true ∧ (readA 3 row).ok))
    | _ => none
  | _ => none
theorem conKw_ok : ConOk Tryd.prog conKw := by
  intro k ds S A h
  unfold conKw at h
  split at h
  · split at h
    · injection h with h; subst h
      exact pC_ok fun ⟨h1, h2⟩ => ⟨weakL_refl _, at_read (r := fun b => .str (litF b)) h1 (litF2_ok _ h2)⟩
    · cases h
  · split at h
    · injection h with h; subst h
      exact pC_ok fun ⟨h1, h2⟩ => ⟨weakL_refl _, at_read (r := fun b => ssl (linesK b) .any) h1 (lines_ok _ h2)⟩
    · cases h
  · split at h
    · injection h with h; subst h
      exact pC_ok fun ⟨h1, h2⟩ => ⟨weakL_refl _, at_read (r := fun b => .str (showK b)) h1 (fshow_ok _ h2)⟩
    · cases h
  · cases h
noncomputable def Ekw : Senv := EC conKw 61 4 [11, 44] (fun _ => ([], []))
noncomputable section
def kn1q0 : D := D.sl N1 N0 (fun (_x : Nat) => []) Mode.nil
def kn1q1 : List D := [kn1q0]
def kn1q2 : List D := ZI Z1 :: D.sl N1 N2 (fun (i : Nat) => List.getD [[ZI (2 : Int)], [ZI (2 : Int)]] i []) Mode.full :: D.sl N1 N4 (fun (i : Nat) => List.getD [[ZI Z1], [ZI (10 : Int)], [ZI (200 : Int)], [ZI (3 : Int)]] i []) Mode.full :: kn1q1
def kn1q3 : Arr := readA (3 : Nat) kn1q2
def kn1q4 : Prop := goodA (3 : Nat) kn1q2 = true ∧ Arr.ok kn1q3
def kn1q5 : List (List UInt8) := linesK kn1q3
def kn1q6 : Prop := True ∧ ∃ (_y : Unit), True ∧ false = true ∧ True ∧ True
def kn1q7 : D := D.sl N1 N1 (fun (i : Nat) => List.getD [[ZI (2 : Int)]] i []) Mode.full
def kn1q8 : D := D.sl N1 N1 (fun (i : Nat) => List.getD [[ZI Z1]] i []) Mode.full
def kn1q9 : List D := [ZI (3 : Int), kn1q7, kn1q0, D.sl N4 N2 (fun (i : Nat) => List.getD [ZI Z1 :: kn1q0 :: kn1q8 :: kn1q1, ZI (2 : Int) :: kn1q7 :: D.sl N1 N2 (fun (i : Nat) => List.getD [[ZI (97 : Int)], [ZI (98 : Int)]] i []) Mode.full :: kn1q1] i []) Mode.full]
def kn1q10 : Arr := readA (3 : Nat) kn1q9
def kn1q11 : Prop := goodA (3 : Nat) kn1q9 = true ∧ Arr.ok kn1q10
def kn1q12 : List D := ZI Z1 :: kn1q8 :: D.sl N1 N1 (fun (i : Nat) => List.getD [[ZI (-5 : Int)]] i []) Mode.full :: kn1q1
def kn1q13 : Arr := readA (3 : Nat) kn1q12
def kn1q14 : List D := kn1q0 :: kn1q1
def kn1q15 : List D := ZI (3 : Int) :: D.sl N1 N1 (fun (i : Nat) => List.getD [[ZI Z0]] i []) Mode.full :: kn1q14
def kn1q16 : Arr := readA (3 : Nat) kn1q15
def kn1q17 : List D := ZI Z0 :: kn1q0 :: kn1q14
def kn1q18 : Arr := readA (3 : Nat) kn1q17
end
theorem knows0 : ACalls Tryd.prog 8 [] ⟨[], []⟩ (SpecR (sC [] (.bool true)) ()) := by
  refine con_of (A := sC _ _) (x := ()) (E := Ekw) (eOk conKw_ok rfl) Tryd.func8 rfl (by kernel_rfl) rfl (by simp [sC, Ekw, EC, E0]) ?_
  refine vc_eq (T :=
    ∀ (x : Nat), True → SM x ∧ SM x ∧ kn1q4 ∧ ∀ (y : Unit), True → ∀ (x_1 : Nat), x ≠ x_1 ∧ True → SM x_1 ∧ ifB (List.getD kn1q5 N0 [] != [(32 : UInt8), (32 : UInt8), (49 : UInt8), (32 : UInt8), (49 : UInt8), (48 : UInt8)]) kn1q6 (ifB (List.getD kn1q5 N1 [] != [(50 : UInt8), (48 : UInt8), (48 : UInt8), (32 : UInt8), (32 : UInt8), (51 : UInt8)]) kn1q6 (SM x ∧ kn1q4 ∧ ∀ (y : Unit), True → ifB (litF kn1q3 != [(50 : UInt8), (32 : UInt8), (50 : UInt8), (32 : UInt8), (114 : UInt8), (101 : UInt8), (115 : UInt8), (104 : UInt8), (97 : UInt8), (112 : UInt8), (101 : UInt8), (32 : UInt8), (49 : UInt8), (32 : UInt8), (49 : UInt8), (48 : UInt8), (32 : UInt8), (50 : UInt8), (48 : UInt8), (48 : UInt8), (32 : UInt8), (51 : UInt8)]) kn1q6 (SM x_1 ∧ kn1q11 ∧ ∀ (y : Unit), True → ifB (litF kn1q10 != [(40 : UInt8), (98 : UInt8), (111 : UInt8), (120 : UInt8), (32 : UInt8), (49 : UInt8), (41 : UInt8), (32 : UInt8), (40 : UInt8), (98 : UInt8), (111 : UInt8), (120 : UInt8), (32 : UInt8), (34 : UInt8), (97 : UInt8), (98 : UInt8), (34 : UInt8), (41 : UInt8)]) kn1q6 (SM x_1 ∧ kn1q11 ∧ ∀ (y : Unit), True → ifB (showK kn1q10 != [(91 : UInt8), (49 : UInt8), (93 : UInt8), (32 : UInt8), (91 : UInt8), (34 : UInt8), (97 : UInt8), (98 : UInt8), (34 : UInt8), (93 : UInt8), (10 : UInt8)]) kn1q6 ((goodA (3 : Nat) kn1q12 = true ∧ Arr.ok kn1q13) ∧ ∀ (y : Unit), True → ifB (litF kn1q13 == [(49 : UInt8), (32 : UInt8), (114 : UInt8), (101 : UInt8), (115 : UInt8), (104 : UInt8), (97 : UInt8), (112 : UInt8), (101 : UInt8), (32 : UInt8), (95 : UInt8), (53 : UInt8)]) ((goodA (3 : Nat) kn1q15 = true ∧ Arr.ok kn1q16) ∧ ∀ (y : Unit), True → ifB (litF kn1q16 == [(48 : UInt8), (32 : UInt8), (114 : UInt8), (101 : UInt8), (115 : UInt8), (104 : UInt8), (97 : UInt8), (112 : UInt8), (101 : UInt8), (32 : UInt8), (98 : UInt8), (111 : UInt8), (120 : UInt8), (32 : UInt8), (48 : UInt8), (32 : UInt8), (114 : UInt8), (101 : UInt8), (115 : UInt8), (104 : UInt8), (97 : UInt8), (112 : UInt8), (101 : UInt8), (32 : UInt8), (48 : UInt8)]) ((goodA (3 : Nat) kn1q17 = true ∧ Arr.ok kn1q18) ∧ ∀ (y : Unit), True → True ∧ ∃ (y : Unit), True ∧ (showK kn1q18 == []) = true ∧ True ∧ True) kn1q6) kn1q6)))))) (by kernel_rfl) ?_
  delta N0 N1 N2 N4 SM Z0 Z1 ZI kn1q0 kn1q1 kn1q10 kn1q11 kn1q12 kn1q13 kn1q14 kn1q15 kn1q16 kn1q17 kn1q18 kn1q2 kn1q3 kn1q4 kn1q5 kn1q6 kn1q7 kn1q8 kn1q9
  simp only [ifB_iff, true_and, and_true, exists_const, forall_const]
  repeat' (first | decide +kernel | exact okB_ok _ (by decide +kernel) | refine And.intro ?_ ?_ | intro _)
end Go.Proofs.YtpgepjefbhgblaaDoor
namespace Go.Proofs.YtpgepjefbhgblaaDoor
open Go Go.Ab
set_option maxRecDepth 100000
def isA (bs : List Arr) : Arr → Prop := fun b => b ∈ bs
def conLw (bs : List Arr) : Con := fun k _ _ => match k with
  | 17 => some (sRc Arr.row1 (isA bs) (fun b => .int .i64 (wtA b)))
  | 8 => some (sC [] (.bool true))
  | 9 => some (sRc Arr.row1 (isA bs) (fun b => .str (litF b)))
  | 10 => some (sRc Arr.row1 (isA bs) (fun b => .str (litF b)))
  | 11 => some (sRc Arr.row1 (isA bs) (fun b => ssl (linesK b) .any))
  | 12 => some (sRc Arr.row1 (isA bs) (fun b => ssl (linesK b) .any))
  | 13 => some (sRc Arr.row1 (isA bs) (fun b => .str (showK b)))
  | 14 => some (sRc Arr.row1 (isA bs) (fun b => .str (showK b)))
  | 15 => some (sRc Arr.row1 (isA bs) errA)
  | _ => none
theorem plain_row {k : Nat} {ds : List D} {S : St} {bs : List Arr} {r : Arr → D} (h : ∀ b ∈ bs, ACalls Tryd.prog k ((sRc Arr.row2 (fun _ => True) r).args b) ⟨[], []⟩ (SpecR (sRc Arr.row2 (fun _ => True) r) b)) :
    (∀ y, (sRc Arr.row1 (isA bs) r).pre y → ACalls Tryd.prog k ((sRc Arr.row1 (isA bs) r).args y) ((sRc Arr.row1 (isA bs) r).st y) (SpecR (sRc Arr.row1 (isA bs) r) y)) ∧ (∀ y, (sRc Arr.row1 (isA bs) r).fit = some y → (sRc Arr.row1 (isA bs) r).pre y → weakL ds ((sRc Arr.row1 (isA bs) r).args y) ∧ leS ((sRc Arr.row1 (isA bs) r).st y) S) ∧ ((sRc Arr.row1 (isA bs) r).all = true → ∀ y, (sRc Arr.row1 (isA bs) r).pre y → weakL ds ((sRc Arr.row1 (isA bs) r).args y) ∧ (sRc Arr.row1 (isA bs) r).st y = S) :=
  ConOk.plain (A := sRc Arr.row1 (isA bs) r) (fun (b : Arr) hb => sRc_row (h b hb)) rfl rfl
theorem to_row2 {k : Nat} {r : Arr → D} {b : Arr} (h : ACalls Tryd.prog k ((sRc Arr.row1 (fun _ => True) r).args b) ⟨[], []⟩ (SpecR (sRc Arr.row1 (fun _ => True) r) b)) : ACalls Tryd.prog k ((sRc Arr.row2 (fun _ => True) r).args b) ⟨[], []⟩ (SpecR (sRc Arr.row2 (fun _ => True) r) b) :=
  (h.wkArgs (by simp only [sRc, wkL, wkD]; exact ⟨row2_row1 b, trivial⟩)).mono fun _ _ ⟨y, q1, q2, q3⟩ => ⟨y, q1, q2, q3⟩
theorem conLw_ok {bs : List Arr} (ho : ∀ b ∈ bs, b.ok) : ConOk Tryd.prog (conLw bs) := by
  intro k ds S A h
  unfold conLw at h
  split at h
  · injection h with h; subst h
    exact plain_row fun b hb => wt_all b (ho b hb)
  · injection h with h; subst h
    exact ConOk.plain (fun _ _ => knows0) rfl rfl
  · injection h with h; subst h
    exact plain_row fun b hb => litF2_ok b (ho b hb)
  · injection h with h; subst h
    exact plain_row fun b hb => to_row2 (rlitF_ok b (ho b hb))
  · injection h with h; subst h
    exact plain_row fun b hb => lines_ok b (ho b hb)
  · injection h with h; subst h
    exact plain_row fun b hb => rlines_ok b (ho b hb)
  · injection h with h; subst h
    exact plain_row fun b hb => fshow_ok b (ho b hb)
  · injection h with h; subst h
    exact plain_row fun b hb => rsho_ok b (ho b hb)
  · injection h with h; subst h
    exact plain_row fun b hb => rri_ok b (ho b hb)
  · cases h
theorem self1 (a : Arr) : a.k = a.k ∧ (a.sh.length = a.sh.length ∧ ∀ i, i < a.sh.length → [D.int .i64 (a.sh.getD i 0)] = [D.int .i64 (a.sh.getD i 0)]) ∧ (a.nu.length = a.nu.length ∧ ∀ i, i < a.nu.length → [D.int .i64 (a.nu.getD i 0)] = [D.int .i64 (a.nu.getD i 0)]) ∧ a.it.length = a.it.length ∧ ∀ i, i < a.it.length → (a.it.getD i (Arr.mk 0 [] [] [])).row = (a.it.getD i (Arr.mk 0 [] [] [])).row := ⟨rfl, ⟨rfl, fun _ _ => rfl⟩, ⟨rfl, fun _ _ => rfl⟩, rfl, fun _ _ => rfl⟩
end Go.Proofs.YtpgepjefbhgblaaDoor
namespace Go.Proofs.YtpgepjefbhgblaaDoor
open Go Go.Ab Go.RowKit
set_option maxRecDepth 100000
theorem own : ownKnob Tryd.prog.godebug = none := by kernel_rfl
theorem laid : laidOutB Tryd.prog = true := by kernel_rfl
theorem g32 : Tryd.prog.globalNamed "math/bits.deBruijn32tab" = some 2 := by kernel_rfl
theorem gPow : Tryd.prog.globalNamed "internal/strconv.uint64pow10" = some 1 := by kernel_rfl
theorem tab32 : (Tryd.prog.globals[2]?).map (·.type) = some 101 := by kernel_rfl
theorem tab64 : (Tryd.prog.globals[3]?).map (·.type) = some 102 := by kernel_rfl
theorem tabPow : (Tryd.prog.globals[1]?).map (·.type) = some 97 := by kernel_rfl
def laidL : List (String × DataW Unit) := [("math/bits.deBruijn32tab", Rows.laid_math_bits_deBruijn32tab), ("math/bits.deBruijn64tab", Rows.laid_math_bits_deBruijn64tab), ("internal/strconv.uint64pow10", Rows.laid_internal_strconv_uint64pow10)]
theorem g0_laid {W : World} (h : laidMetH Tryd.prog laidL W) : G0 W := by
  have h0 : laidMet Tryd.prog laidL W := h
  have h1 := h0.tail
  have h2 := h1.tail
  exact ⟨Lib.tabIs_of_head (rest := []) gPow tabPow Tryd.underlying97 Tryd.underlying86 (by kernel_rfl) (by kernel_rfl) h2,
    Lib.tabIs_of_head gTz tab64 Tryd.underlying102 Tryd.underlying5 (by kernel_rfl) (by kernel_rfl) h1,
    Lib.tabIs_of_head g32 tab32 Tryd.underlying101 Tryd.underlying5 (by kernel_rfl) (by kernel_rfl) h0⟩
noncomputable def layT (l : Array Value) : Obj → Obj
  | .cells _ t frozen => .cells l t frozen
  | o => o
noncomputable def laidWorld (os : Os) : World :=
  { World.holding Tryd.prog os ⟨#[], #[], []⟩ with heap := (((World.holding Tryd.prog os ⟨#[], #[], []⟩).heap.modify 1 (layT (Lib.pow10Tab.map fun z => Value.int .u64 z).toArray)).modify 2 (layT (Lib.deBruijn32tab.map fun z => Value.int .u8 (Int.ofNat z)).toArray)).modify 3 (layT (Lib.deBruijn64tab.map fun z => Value.int .u8 (Int.ofNat z)).toArray) }
noncomputable def arr0 : Value := .agg #[.int .i64 0, .slice none 0 0, .slice none 0 0, .slice none 0 0]
end Go.Proofs.YtpgepjefbhgblaaDoor
