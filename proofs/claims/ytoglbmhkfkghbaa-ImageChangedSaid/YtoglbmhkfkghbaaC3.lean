/- Functions of the given program and what each of them computes: lemmas towards the statement, their conditions stated with each of them. -/
import Derived.Test.YtoglbmhkfkghbaaC2
namespace Go.Proofs.Ytoglbmhkfkghbaa
open Go Go.Ab

/-- The code of the program that returns at once. -/
def in0 : List D := [.int .i64 25, .int .i64 0, .int .i64 0, .int .i64 0]
def fn0 (m : Ab.Mode) : List D := [.int .i64 0, .sl 4 1 (fun i => ([in0] : List (List D)).getD i []) m]
def nils : D := .sl 1 0 (fun _ => []) .nil
def c0 (m m' : Ab.Mode) : D := .agg [nils, .sl 2 1 (fun i => ([fn0 m'] : List (List D)).getD i []) m, nils, nils]
def b0 : List (List D) := [65, 76, 67, 49, 0, 2, 0, 2, 50, 0, 0, 0, 0, 0, 116, 248, 41, 197].map fun n => [.int .u8 n]
def d0 (m : Ab.Mode) : D := .sl 1 18 (fun i => b0.getD i []) m

theorem sum_fits {k n : Nat} {f : Nat → List D} {m : Ab.Mode} {S : St} (h : ∀ l m, l.length ≤ 9223372036854775807 → ACalls Try.prog k (sSum.args (l, m)) (sSum.st (l, m)) (SpecR sSum (l, m))) :
    (∀ y, (sSum.fits (bytesOf n f, m) (rowsB n f = true)).pre y → ACalls Try.prog k ((sSum.fits (bytesOf n f, m) (rowsB n f = true)).args y) ((sSum.fits (bytesOf n f, m) (rowsB n f = true)).st y) (SpecR (sSum.fits (bytesOf n f, m) (rowsB n f = true)) y)) ∧ (∀ y, (sSum.fits (bytesOf n f, m) (rowsB n f = true)).fit = some y → (sSum.fits (bytesOf n f, m) (rowsB n f = true)).pre y → weakL [.sl 1 n f m] ((sSum.fits (bytesOf n f, m) (rowsB n f = true)).args y) ∧ leS ((sSum.fits (bytesOf n f, m) (rowsB n f = true)).st y) S) ∧ ((sSum.fits (bytesOf n f, m) (rowsB n f = true)).all = true → ∀ y, (sSum.fits (bytesOf n f, m) (rowsB n f = true)).pre y → weakL [.sl 1 n f m] ((sSum.fits (bytesOf n f, m) (rowsB n f = true)).args y) ∧ (sSum.fits (bytesOf n f, m) (rowsB n f = true)).st y = S) := by
  refine FnSpec.fits_ok (A := sSum) (fun y hy => h y.1 y.2 hy) fun hr => ⟨?_, by simp [sSum, leS, leO, leT, nodupB, chk_iff]⟩
  simp only [sSum, weakL, weakD, chk_iff]
  refine ⟨⟨by simp, by simp [bytesOf], fun i hi => ?_, weakM_refl m⟩, trivial⟩
  have hb : rowB (f i) = true := List.all_eq_true.1 hr i (List.mem_range.2 hi)
  have hg : (bytesOf n f).getD i 0 = rowByte (f i) := by
    simp [bytesOf, List.getD_eq_getElem?_getD, hi]
  rw [hg]
  unfold rowB at hb
  split at hb
  · rename_i d hd
    rw [hd]
    have := byteB_eq hb
    simp only [rowByte]
    rw [← this]
  · cases hb
/-- Contracts that the closed runs use. -/
def conS (k : Nat) (ds : List D) (_ : St) : Option FnSpec :=
  match k with
  | 10 => match ds with
    | [.sl 1 n f m] => some (sSum.fits (bytesOf n f, m) (rowsB n f = true))
    | _ => none
  | 11 => match ds with
    | [.sl 1 n f m] => some (sSum.fits (bytesOf n f, m) (rowsB n f = true))
    | _ => none
  | _ => none
theorem conS_ok : ConOk Try.prog conS := by
  intro k ds S A h
  unfold conS at h
  split at h
  · split at h
    · injection h with h; subst h
      exact sum_fits sum_ok
    · cases h
  · split at h
    · injection h with h; subst h
      exact sum_fits rsum_ok
    · cases h
  · cases h
end Go.Proofs.Ytoglbmhkfkghbaa
namespace Go.Proofs.Ytoglbmhkfkghbaa
open Go Go.Ab

/-! ### the effects of instructions -/
/-- What is answered: the effect, if it is right. -/
def offD (e : Option Eff) (y : Eff) : D := .agg [.str y.1, .str y.2, .bool e.isSome]
def offQ (e : Option Eff) (y : Eff) : Prop := ∀ e', e = some e' → y = e'
theorem off_leaf {e : Option Eff} {p q : List UInt8} {b : Bool} (h : (b = false ∧ e = none) ∨ (b = true ∧ e = some (p, q))) : ∃ y : Eff, offQ e y ∧ (p = y.1 ∧ q = y.2 ∧ b = e.isSome) := by
  rcases h with ⟨rfl, rfl⟩ | ⟨rfl, rfl⟩
  · exact ⟨(p, q), by simp [offQ], rfl, rfl, rfl⟩
  · exact ⟨(p, q), by simp [offQ], rfl, rfl, rfl⟩
def plainC (main : Bool) (x : I4) : Option Eff := if x.b = 0 ∧ x.c = 0 then plainS main x.a else none
noncomputable def Eplain : Senv := EC conR2 73 3 [4, 5, 15, 16, 18, 20, 22, 25, 27, 29, 31, 33, 35, 37, 39, 67] (fun _ => ([], []))
theorem plain_ok (x : I4) (main : Bool) : ACalls Try.prog 82 [.agg x.row, .bool main] ⟨[], []⟩ (SpecR (pQ [.agg x.row, .bool main] (offD (plainC main x)) (offQ (plainC main x)) True) ()) := by
  refine con_of (A := pQ _ _ _ _) (x := ()) (E := Eplain) (eOk conR2_ok rfl) Try.func82 rfl (by kernel_rfl) rfl (by simp [pQ, Eplain, EC, E0]) ?_
  refine vc_eq (T :=
      ∀ (x_1 : Nat), True → ∀ (x_2 : Nat), x_1 ≠ x_2 ∧ True → (SM x_1 ∧ ifB (I4.b x == Z0) (SM x_1 ∧ ((I4.c x == Z0) = bif I4.b x == Z0 then I4.c x == Z0 else false) ∧ True) ((false = bif I4.b x == Z0 then I4.c x == Z0
      else false) ∧ True)) ∧ SM x_1 ∧ ifB (I4.a x == (13 : Int)) (ifB (bif I4.b x == Z0 then I4.c x == Z0 else false) (SM x_2 ∧ (SM x_2 ∧ True) ∧ ∃ (y : Eff), offQ (plainC main x) y ∧ (eqOf (List UInt8) [] y.1 ∧ [(102 :
      UInt8)] = y.2 ∧ (!main) = Option.isSome (plainC main x) ∧ True) ∧ True ∧ True) (SM x_2 ∧ (SM x_2 ∧ True) ∧ ∃ (y : Eff), offQ (plainC main x) y ∧ (eqOf (List UInt8) [] y.1 ∧ [(102 : UInt8)] = y.2 ∧ false =
      Option.isSome (plainC main x) ∧ True) ∧ True ∧ True)) (ifB (I4.a x == (14 : Int)) (ifB (bif I4.b x == Z0 then I4.c x == Z0 else false) (SM x_2 ∧ (SM x_2 ∧ True) ∧ ∃ (y : Eff), offQ (plainC main x) y ∧ (eqOf (List
      UInt8) [] y.1 ∧ [(102 : UInt8)] = y.2 ∧ (!main) = Option.isSome (plainC main x) ∧ True) ∧ True ∧ True) (SM x_2 ∧ (SM x_2 ∧ True) ∧ ∃ (y : Eff), offQ (plainC main x) y ∧ (eqOf (List UInt8) [] y.1 ∧ [(102 : UInt8)] =
      y.2 ∧ false = Option.isSome (plainC main x) ∧ True) ∧ True ∧ True)) (ifB (I4.a x == (15 : Int)) (ifB (bif I4.b x == Z0 then I4.c x == Z0 else false) (SM x_2 ∧ (SM x_2 ∧ True) ∧ ∃ (y : Eff), offQ (plainC main x) y ∧
      (eqOf (List UInt8) [] y.1 ∧ [(102 : UInt8)] = y.2 ∧ (!main) = Option.isSome (plainC main x) ∧ True) ∧ True ∧ True) (SM x_2 ∧ (SM x_2 ∧ True) ∧ ∃ (y : Eff), offQ (plainC main x) y ∧ (eqOf (List UInt8) [] y.1 ∧ [(102
      : UInt8)] = y.2 ∧ false = Option.isSome (plainC main x) ∧ True) ∧ True ∧ True)) (ifB (I4.a x == (3 : Int)) (ifB (I4.a x == (3 : Int)) (ifB (bif I4.b x == Z0 then I4.c x == Z0 else false) (SM x_2 ∧ (SM x_2 ∧ True) ∧
      ∃ (y : Eff), offQ (plainC main x) y ∧ (eqOf (List UInt8) [] y.1 ∧ [(97 : UInt8)] = y.2 ∧ (!main) = Option.isSome (plainC main x) ∧ True) ∧ True ∧ True) (SM x_2 ∧ (SM x_2 ∧ True) ∧ ∃ (y : Eff), offQ (plainC main x)
      y ∧ (eqOf (List UInt8) [] y.1 ∧ [(97 : UInt8)] = y.2 ∧ false = Option.isSome (plainC main x) ∧ True) ∧ True ∧ True)) (ifB (I4.a x == (2 : Int)) (SM x_2 ∧ (SM x_2 ∧ True) ∧ ∃ (y : Eff), offQ (plainC main x) y ∧
      (eqOf (List UInt8) [] y.1 ∧ [(97 : UInt8)] = y.2 ∧ (bif I4.b x == Z0 then I4.c x == Z0 else false) = Option.isSome (plainC main x) ∧ True) ∧ True ∧ True) (ifB (I4.a x == (19 : Int)) (SM x_2 ∧ (SM x_2 ∧ True) ∧ ∃ (y
      : Eff), offQ (plainC main x) y ∧ ([(97 : UInt8)] = y.1 ∧ [(102 : UInt8)] = y.2 ∧ (bif I4.b x == Z0 then I4.c x == Z0 else false) = Option.isSome (plainC main x) ∧ True) ∧ True ∧ True) (ifB (I4.a x == (20 : Int))
      (SM x_2 ∧ (SM x_2 ∧ True) ∧ ∃ (y : Eff), offQ (plainC main x) y ∧ ([(102 : UInt8), (102 : UInt8)] = y.1 ∧ [(102 : UInt8)] = y.2 ∧ (bif I4.b x == Z0 then I4.c x == Z0 else false) = Option.isSome (plainC main x) ∧
      True) ∧ True ∧ True) (ifB (I4.a x == (21 : Int)) (SM x_2 ∧ (SM x_2 ∧ True) ∧ ∃ (y : Eff), offQ (plainC main x) y ∧ ([(102 : UInt8), (102 : UInt8), (102 : UInt8)] = y.1 ∧ [(102 : UInt8)] = y.2 ∧ (bif I4.b x == Z0
      then I4.c x == Z0 else false) = Option.isSome (plainC main x) ∧ True) ∧ True ∧ True) (ifB (I4.a x == (22 : Int)) (SM x_2 ∧ (SM x_2 ∧ True) ∧ ∃ (y : Eff), offQ (plainC main x) y ∧ ([(102 : UInt8), (97 : UInt8)] =
      y.1 ∧ [(97 : UInt8)] = y.2 ∧ (bif I4.b x == Z0 then I4.c x == Z0 else false) = Option.isSome (plainC main x) ∧ True) ∧ True ∧ True) (ifB (I4.a x == (23 : Int)) (SM x_2 ∧ (SM x_2 ∧ True) ∧ ∃ (y : Eff), offQ (plainC
      main x) y ∧ ([(102 : UInt8), (97 : UInt8), (97 : UInt8)] = y.1 ∧ [(97 : UInt8)] = y.2 ∧ (bif I4.b x == Z0 then I4.c x == Z0 else false) = Option.isSome (plainC main x) ∧ True) ∧ True ∧ True) (ifB (I4.a x == (26 :
      Int)) (SM x_2 ∧ (SM x_2 ∧ True) ∧ ∃ (y : Eff), offQ (plainC main x) y ∧ ([(97 : UInt8)] = y.1 ∧ eqOf (List UInt8) [] y.2 ∧ (bif I4.b x == Z0 then I4.c x == Z0 else false) = Option.isSome (plainC main x) ∧ True) ∧
      True ∧ True) (ifB (I4.a x == (25 : Int)) (ifB main (SM x_2 ∧ (SM x_2 ∧ True) ∧ ∃ (y : Eff), offQ (plainC main x) y ∧ (eqOf (List UInt8) [] y.1 ∧ eqOf (List UInt8) [] y.2 ∧ (bif I4.b x == Z0 then I4.c x == Z0 else
      false) = Option.isSome (plainC main x) ∧ True) ∧ True ∧ True) (SM x_2 ∧ (SM x_2 ∧ True) ∧ ∃ (y : Eff), offQ (plainC main x) y ∧ ([(97 : UInt8)] = y.1 ∧ eqOf (List UInt8) [] y.2 ∧ (bif I4.b x == Z0 then I4.c x == Z0
      else false) = Option.isSome (plainC main x) ∧ True) ∧ True ∧ True)) (SM x_2 ∧ (SM x_2 ∧ True) ∧ ∃ (y : Eff), offQ (plainC main x) y ∧ (eqOf (List UInt8) [] y.1 ∧ eqOf (List UInt8) [] y.2 ∧ false = Option.isSome
      (plainC main x) ∧ True) ∧ True ∧ True)))))))))) (ifB (I4.a x == (4 : Int)) (ifB (bif I4.b x == Z0 then I4.c x == Z0 else false) (SM x_2 ∧ (SM x_2 ∧ True) ∧ ∃ (y : Eff), offQ (plainC main x) y ∧ (eqOf (List UInt8)
      [] y.1 ∧ [(97 : UInt8)] = y.2 ∧ (!main) = Option.isSome (plainC main x) ∧ True) ∧ True ∧ True) (SM x_2 ∧ (SM x_2 ∧ True) ∧ ∃ (y : Eff), offQ (plainC main x) y ∧ (eqOf (List UInt8) [] y.1 ∧ [(97 : UInt8)] = y.2 ∧
      false = Option.isSome (plainC main x) ∧ True) ∧ True ∧ True)) (ifB (I4.a x == (2 : Int)) (SM x_2 ∧ (SM x_2 ∧ True) ∧ ∃ (y : Eff), offQ (plainC main x) y ∧ (eqOf (List UInt8) [] y.1 ∧ [(97 : UInt8)] = y.2 ∧ (bif
      I4.b x == Z0 then I4.c x == Z0 else false) = Option.isSome (plainC main x) ∧ True) ∧ True ∧ True) (ifB (I4.a x == (19 : Int)) (SM x_2 ∧ (SM x_2 ∧ True) ∧ ∃ (y : Eff), offQ (plainC main x) y ∧ ([(97 : UInt8)] = y.1
      ∧ [(102 : UInt8)] = y.2 ∧ (bif I4.b x == Z0 then I4.c x == Z0 else false) = Option.isSome (plainC main x) ∧ True) ∧ True ∧ True) (ifB (I4.a x == (20 : Int)) (SM x_2 ∧ (SM x_2 ∧ True) ∧ ∃ (y : Eff), offQ (plainC
      main x) y ∧ ([(102 : UInt8), (102 : UInt8)] = y.1 ∧ [(102 : UInt8)] = y.2 ∧ (bif I4.b x == Z0 then I4.c x == Z0 else false) = Option.isSome (plainC main x) ∧ True) ∧ True ∧ True) (ifB (I4.a x == (21 : Int)) (SM x_2
      ∧ (SM x_2 ∧ True) ∧ ∃ (y : Eff), offQ (plainC main x) y ∧ ([(102 : UInt8), (102 : UInt8), (102 : UInt8)] = y.1 ∧ [(102 : UInt8)] = y.2 ∧ (bif I4.b x == Z0 then I4.c x == Z0 else false) = Option.isSome (plainC main
      x) ∧ True) ∧ True ∧ True) (ifB (I4.a x == (22 : Int)) (SM x_2 ∧ (SM x_2 ∧ True) ∧ ∃ (y : Eff), offQ (plainC main x) y ∧ ([(102 : UInt8), (97 : UInt8)] = y.1 ∧ [(97 : UInt8)] = y.2 ∧ (bif I4.b x == Z0 then I4.c x ==
      Z0 else false) = Option.isSome (plainC main x) ∧ True) ∧ True ∧ True) (ifB (I4.a x == (23 : Int)) (SM x_2 ∧ (SM x_2 ∧ True) ∧ ∃ (y : Eff), offQ (plainC main x) y ∧ ([(102 : UInt8), (97 : UInt8), (97 : UInt8)] = y.1
      ∧ [(97 : UInt8)] = y.2 ∧ (bif I4.b x == Z0 then I4.c x == Z0 else false) = Option.isSome (plainC main x) ∧ True) ∧ True ∧ True) (ifB (I4.a x == (26 : Int)) (SM x_2 ∧ (SM x_2 ∧ True) ∧ ∃ (y : Eff), offQ (plainC main
      x) y ∧ ([(97 : UInt8)] = y.1 ∧ eqOf (List UInt8) [] y.2 ∧ (bif I4.b x == Z0 then I4.c x == Z0 else false) = Option.isSome (plainC main x) ∧ True) ∧ True ∧ True) (ifB (I4.a x == (25 : Int)) (ifB main (SM x_2 ∧ (SM
      x_2 ∧ True) ∧ ∃ (y : Eff), offQ (plainC main x) y ∧ (eqOf (List UInt8) [] y.1 ∧ eqOf (List UInt8) [] y.2 ∧ (bif I4.b x == Z0 then I4.c x == Z0 else false) = Option.isSome (plainC main x) ∧ True) ∧ True ∧ True) (SM
      x_2 ∧ (SM x_2 ∧ True) ∧ ∃ (y : Eff), offQ (plainC main x) y ∧ ([(97 : UInt8)] = y.1 ∧ eqOf (List UInt8) [] y.2 ∧ (bif I4.b x == Z0 then I4.c x == Z0 else false) = Option.isSome (plainC main x) ∧ True) ∧ True ∧
      True)) (SM x_2 ∧ (SM x_2 ∧ True) ∧ ∃ (y : Eff), offQ (plainC main x) y ∧ (eqOf (List UInt8) [] y.1 ∧ eqOf (List UInt8) [] y.2 ∧ false = Option.isSome (plainC main x) ∧ True) ∧ True ∧ True)))))))))))))) (by kernel_rfl) ?_
  delta SM Z0
  simp only [ifB_iff, side_iff, decide_eq_true_eq, decide_eq_false_iff_not, true_and, and_true, beq_iff_eq, Bool.cond_false_right, Bool.and_eq_true, Bool.and_eq_false_iff, beq_eq_false_iff_ne, ne_eq]
  repeat' (first
    | refine off_leaf ?_
    | (refine And.intro ?_ ?_)
    | intro _)
  all_goals (first | (simp_all [plainC, plainS, gu]; done) | (cases main <;> simp_all [plainC, plainS, gu]; done) | grind [plainC, plainS, gu] | skip)
def derivedC (x : I4) : Option Eff :=
  if x.a = 16 then gu (between x.b 1 5 && decide (x.c = 0)) ([102], [102])
  else if x.a = 18 then gu (between x.b 2 3 && decide (x.c = 0)) (Lib.repeatL [102] x.b.toNat, [102])
  else if x.b = 6 ∨ x.b = 10 ∨ x.b = 11 then gu (decide (x.c = 1)) ([102, 102], [102])
  else gu (between x.b 7 9 && decide (x.c = 0)) ([102, 97], [102])
noncomputable def Ederived : Senv := EC conR2 55 4 [7, 8, 22, 37, 38, 46] (fun id => match id with | 6 => ([0, 1, 2, 4, 5, 3, 6, 7, 8, 9, 10, 11, 12, 13], [3, 6, 13]) | _ => ([], []))
theorem derived_ok (x : I4) (hb : inI64 x.b) : ACalls Try.prog 80 [.agg x.row] ⟨[], []⟩ (SpecR (pQ [.agg x.row] (offD (derivedC x)) (offQ (derivedC x)) True) ()) := by
  have hw : IntKind.i64.wrap x.b = x.b := wrap_i64' hb.1 hb.2
  refine con_of (A := pQ _ _ _ _) (x := ()) (E := Ederived) (eOk conR2_ok rfl) Try.func80 rfl (by kernel_rfl) rfl (by simp [pQ, Ederived, EC, E0]) ?_
  refine vc_eq (T :=
      ∀ (x_1 : Nat), True → ∀ (x_2 : Nat), x_1 ≠ x_2 ∧ True → SM x_1 ∧ SM x_1 ∧ ifB (I4.a x == (16 : Int)) (ifB (decide (Z1 ≤ I4.b x)) (ifB (decide (I4.b x ≤ (5 : Int))) (SM x_1 ∧ SM x_2 ∧ (SM x_2 ∧ True) ∧ ∃ (y : Eff),
      offQ (derivedC x) y ∧ ([(102 : UInt8)] = y.1 ∧ [(102 : UInt8)] = y.2 ∧ (I4.c x == Z0) = Option.isSome (derivedC x) ∧ True) ∧ True ∧ True) (SM x_2 ∧ (SM x_2 ∧ True) ∧ ∃ (y : Eff), offQ (derivedC x) y ∧ ([(102 :
      UInt8)] = y.1 ∧ [(102 : UInt8)] = y.2 ∧ false = Option.isSome (derivedC x) ∧ True) ∧ True ∧ True)) (SM x_2 ∧ (SM x_2 ∧ True) ∧ ∃ (y : Eff), offQ (derivedC x) y ∧ ([(102 : UInt8)] = y.1 ∧ [(102 : UInt8)] = y.2 ∧
      false = Option.isSome (derivedC x) ∧ True) ∧ True ∧ True)) (ifB (I4.a x == (18 : Int)) (SM x_1 ∧ SM x_1 ∧ ((Z0 ≤ if (if (4 : Int) < I4.b x then (4 : Int) else I4.b x) < Z0 then Z0 else if (4 : Int) < I4.b x then (4
      : Int) else I4.b x) ∧ (if (if (4 : Int) < I4.b x then (4 : Int) else I4.b x) < Z0 then Z0 else if (4 : Int) < I4.b x then (4 : Int) else I4.b x) ≤ (9223372036854775807 : Int) ∧ N1 * Int.toNat (if (if (4 : Int) <
      I4.b x then (4 : Int) else I4.b x) < Z0 then Z0 else if (4 : Int) < I4.b x then (4 : Int) else I4.b x) ≤ (140737488355328 : Nat)) ∧ ∀ (y : Unit), True → True ∧ (SM x_1 ∧ SM (ZI (I4.b x))) ∧ ifB (decide ((2 : Int) ≤
      I4.b x)) ((decide (I4.b x ≤ (3 : Int)) = bif decide ((2 : Int) ≤ I4.b x) then decide (I4.b x ≤ (3 : Int)) else false) ∧ True) ((false = bif decide ((2 : Int) ≤ I4.b x) then decide (I4.b x ≤ (3 : Int)) else false) ∧
      True) ∧ True ∧ ifB (bif decide ((2 : Int) ≤ I4.b x) then decide (I4.b x ≤ (3 : Int)) else false) (SM x_1 ∧ SM x_2 ∧ (SM x_2 ∧ True) ∧ ∃ (y : Eff), offQ (derivedC x) y ∧ (Lib.repeatL [(102 : UInt8)] (Int.toNat (if
      (if (4 : Int) < I4.b x then (4 : Int) else I4.b x) < Z0 then Z0 else if (4 : Int) < I4.b x then (4 : Int) else I4.b x)) = y.1 ∧ [(102 : UInt8)] = y.2 ∧ (I4.c x == Z0) = Option.isSome (derivedC x) ∧ True) ∧ True ∧
      True) (SM x_2 ∧ (SM x_2 ∧ True) ∧ ∃ (y : Eff), offQ (derivedC x) y ∧ (Lib.repeatL [(102 : UInt8)] (Int.toNat (if (if (4 : Int) < I4.b x then (4 : Int) else I4.b x) < Z0 then Z0 else if (4 : Int) < I4.b x then (4 :
      Int) else I4.b x)) = y.1 ∧ [(102 : UInt8)] = y.2 ∧ false = Option.isSome (derivedC x) ∧ True) ∧ True ∧ True)) (ifB (I4.b x == (6 : Int)) (ifB (I4.b x == (6 : Int)) (SM x_1 ∧ SM x_2 ∧ (SM x_2 ∧ True) ∧ ∃ (y : Eff),
      offQ (derivedC x) y ∧ ([(102 : UInt8), (102 : UInt8)] = y.1 ∧ [(102 : UInt8)] = y.2 ∧ (I4.c x == Z1) = Option.isSome (derivedC x) ∧ True) ∧ True ∧ True) (ifB (I4.b x == (7 : Int)) (ifB (I4.b x == (7 : Int)) (SM x_1
      ∧ SM x_2 ∧ (SM x_2 ∧ True) ∧ ∃ (y : Eff), offQ (derivedC x) y ∧ ([(102 : UInt8), (97 : UInt8)] = y.1 ∧ [(102 : UInt8)] = y.2 ∧ (I4.c x == Z0) = Option.isSome (derivedC x) ∧ True) ∧ True ∧ True) (SM x_2 ∧ (SM x_2 ∧
      True) ∧ ∃ (y : Eff), offQ (derivedC x) y ∧ (eqOf (List UInt8) [] y.1 ∧ eqOf (List UInt8) [] y.2 ∧ false = Option.isSome (derivedC x) ∧ True) ∧ True ∧ True)) (ifB (I4.b x == (8 : Int)) (ifB (I4.b x == (8 : Int)) (SM
      x_1 ∧ SM x_2 ∧ (SM x_2 ∧ True) ∧ ∃ (y : Eff), offQ (derivedC x) y ∧ ([(102 : UInt8), (97 : UInt8)] = y.1 ∧ [(102 : UInt8)] = y.2 ∧ (I4.c x == Z0) = Option.isSome (derivedC x) ∧ True) ∧ True ∧ True) (SM x_2 ∧ (SM
      x_2 ∧ True) ∧ ∃ (y : Eff), offQ (derivedC x) y ∧ (eqOf (List UInt8) [] y.1 ∧ eqOf (List UInt8) [] y.2 ∧ false = Option.isSome (derivedC x) ∧ True) ∧ True ∧ True)) (ifB (I4.b x == (9 : Int)) (SM x_1 ∧ SM x_2 ∧ (SM
      x_2 ∧ True) ∧ ∃ (y : Eff), offQ (derivedC x) y ∧ ([(102 : UInt8), (97 : UInt8)] = y.1 ∧ [(102 : UInt8)] = y.2 ∧ (I4.c x == Z0) = Option.isSome (derivedC x) ∧ True) ∧ True ∧ True) (SM x_2 ∧ (SM x_2 ∧ True) ∧ ∃ (y :
      Eff), offQ (derivedC x) y ∧ (eqOf (List UInt8) [] y.1 ∧ eqOf (List UInt8) [] y.2 ∧ false = Option.isSome (derivedC x) ∧ True) ∧ True ∧ True))))) (ifB (I4.b x == (10 : Int)) (ifB (I4.b x == (10 : Int)) (SM x_1 ∧ SM
      x_2 ∧ (SM x_2 ∧ True) ∧ ∃ (y : Eff), offQ (derivedC x) y ∧ ([(102 : UInt8), (102 : UInt8)] = y.1 ∧ [(102 : UInt8)] = y.2 ∧ (I4.c x == Z1) = Option.isSome (derivedC x) ∧ True) ∧ True ∧ True) (ifB (I4.b x == (7 :
      Int)) (ifB (I4.b x == (7 : Int)) (SM x_1 ∧ SM x_2 ∧ (SM x_2 ∧ True) ∧ ∃ (y : Eff), offQ (derivedC x) y ∧ ([(102 : UInt8), (97 : UInt8)] = y.1 ∧ [(102 : UInt8)] = y.2 ∧ (I4.c x == Z0) = Option.isSome (derivedC x) ∧
      True) ∧ True ∧ True) (SM x_2 ∧ (SM x_2 ∧ True) ∧ ∃ (y : Eff), offQ (derivedC x) y ∧ (eqOf (List UInt8) [] y.1 ∧ eqOf (List UInt8) [] y.2 ∧ false = Option.isSome (derivedC x) ∧ True) ∧ True ∧ True)) (ifB (I4.b x ==
      (8 : Int)) (ifB (I4.b x == (8 : Int)) (SM x_1 ∧ SM x_2 ∧ (SM x_2 ∧ True) ∧ ∃ (y : Eff), offQ (derivedC x) y ∧ ([(102 : UInt8), (97 : UInt8)] = y.1 ∧ [(102 : UInt8)] = y.2 ∧ (I4.c x == Z0) = Option.isSome (derivedC
      x) ∧ True) ∧ True ∧ True) (SM x_2 ∧ (SM x_2 ∧ True) ∧ ∃ (y : Eff), offQ (derivedC x) y ∧ (eqOf (List UInt8) [] y.1 ∧ eqOf (List UInt8) [] y.2 ∧ false = Option.isSome (derivedC x) ∧ True) ∧ True ∧ True)) (ifB (I4.b
      x == (9 : Int)) (SM x_1 ∧ SM x_2 ∧ (SM x_2 ∧ True) ∧ ∃ (y : Eff), offQ (derivedC x) y ∧ ([(102 : UInt8), (97 : UInt8)] = y.1 ∧ [(102 : UInt8)] = y.2 ∧ (I4.c x == Z0) = Option.isSome (derivedC x) ∧ True) ∧ True ∧
      True) (SM x_2 ∧ (SM x_2 ∧ True) ∧ ∃ (y : Eff), offQ (derivedC x) y ∧ (eqOf (List UInt8) [] y.1 ∧ eqOf (List UInt8) [] y.2 ∧ false = Option.isSome (derivedC x) ∧ True) ∧ True ∧ True))))) (ifB (I4.b x == (11 : Int))
      (SM x_1 ∧ SM x_2 ∧ (SM x_2 ∧ True) ∧ ∃ (y : Eff), offQ (derivedC x) y ∧ ([(102 : UInt8), (102 : UInt8)] = y.1 ∧ [(102 : UInt8)] = y.2 ∧ (I4.c x == Z1) = Option.isSome (derivedC x) ∧ True) ∧ True ∧ True) (ifB (I4.b
      x == (7 : Int)) (ifB (I4.b x == (7 : Int)) (SM x_1 ∧ SM x_2 ∧ (SM x_2 ∧ True) ∧ ∃ (y : Eff), offQ (derivedC x) y ∧ ([(102 : UInt8), (97 : UInt8)] = y.1 ∧ [(102 : UInt8)] = y.2 ∧ (I4.c x == Z0) = Option.isSome
      (derivedC x) ∧ True) ∧ True ∧ True) (SM x_2 ∧ (SM x_2 ∧ True) ∧ ∃ (y : Eff), offQ (derivedC x) y ∧ (eqOf (List UInt8) [] y.1 ∧ eqOf (List UInt8) [] y.2 ∧ false = Option.isSome (derivedC x) ∧ True) ∧ True ∧ True))
      (ifB (I4.b x == (8 : Int)) (ifB (I4.b x == (8 : Int)) (SM x_1 ∧ SM x_2 ∧ (SM x_2 ∧ True) ∧ ∃ (y : Eff), offQ (derivedC x) y ∧ ([(102 : UInt8), (97 : UInt8)] = y.1 ∧ [(102 : UInt8)] = y.2 ∧ (I4.c x == Z0) =
      Option.isSome (derivedC x) ∧ True) ∧ True ∧ True) (SM x_2 ∧ (SM x_2 ∧ True) ∧ ∃ (y : Eff), offQ (derivedC x) y ∧ (eqOf (List UInt8) [] y.1 ∧ eqOf (List UInt8) [] y.2 ∧ false = Option.isSome (derivedC x) ∧ True) ∧
      True ∧ True)) (ifB (I4.b x == (9 : Int)) (SM x_1 ∧ SM x_2 ∧ (SM x_2 ∧ True) ∧ ∃ (y : Eff), offQ (derivedC x) y ∧ ([(102 : UInt8), (97 : UInt8)] = y.1 ∧ [(102 : UInt8)] = y.2 ∧ (I4.c x == Z0) = Option.isSome
      (derivedC x) ∧ True) ∧ True ∧ True) (SM x_2 ∧ (SM x_2 ∧ True) ∧ ∃ (y : Eff), offQ (derivedC x) y ∧ (eqOf (List UInt8) [] y.1 ∧ eqOf (List UInt8) [] y.2 ∧ false = Option.isSome (derivedC x) ∧ True) ∧ True ∧
      True))))))))) (by kernel_rfl) ?_
  delta N1 SM Z0 Z1 ZI
  simp only [hw, ifB_iff, side_iff, decide_eq_true_eq, decide_eq_false_iff_not, true_and, and_true, beq_iff_eq, Bool.cond_false_right, Bool.and_eq_true, Bool.and_eq_false_iff, beq_eq_false_iff_ne, ne_eq]
  repeat' (first
    | refine off_leaf ?_
    | (refine And.intro ?_ ?_)
    | intro _)
  all_goals (first | (simp_all [derivedC, between, gu]; done) | grind [derivedC, between, gu] | skip)
  all_goals trace_state
end Go.Proofs.Ytoglbmhkfkghbaa
namespace Go.Proofs.Ytoglbmhkfkghbaa
open Go Go.Ab
def conE : Con := fun k ds S => match k with
  | 82 => match ds with
    | [.agg [.int .i64 a, .int .i64 b, .int .i64 c, .int .i64 d], .bool m] => some (pQ [.agg (I4.row ⟨a, b, c, d⟩), .bool m] (offD (plainC m ⟨a, b, c, d⟩)) (offQ (plainC m ⟨a, b, c, d⟩)) True)
    | _ => none
  | 80 => match ds with
    | [.agg [.int .i64 a, .int .i64 b, .int .i64 c, .int .i64 d]] => some (pQ [.agg (I4.row ⟨a, b, c, d⟩)] (offD (derivedC ⟨a, b, c, d⟩)) (offQ (derivedC ⟨a, b, c, d⟩)) (inI64 b))
    | _ => none
  | k => conR2 k ds S
theorem conE_ok : ConOk Try.prog conE := by
  intro k ds S A h
  unfold conE at h
  split at h
  · split at h
    · injection h with h; subst h
      exact pQ_ok fun _ => ⟨weakL_refl _, plain_ok ⟨_, _, _, _⟩ _⟩
    · cases h
  · split at h
    · injection h with h; subst h
      exact pQ_ok fun hb => ⟨weakL_refl _, (derived_ok ⟨_, _, _, _⟩ hb).mono fun _ _ h => h⟩
    · cases h
  · exact conR2_ok _ _ _ _ h
theorem off_pass {e e' : Option Eff} {y : Eff} (he : e = e') (hy : offQ e' y) : (e'.isSome = false ∧ e = none) ∨ (e'.isSome = true ∧ e = some (y.1, y.2)) := by
  subst he
  cases e with
  | none => exact .inl ⟨rfl, rfl⟩
  | some e => exact .inr ⟨rfl, by rw [hy e rfl]⟩
theorem eff_derived (c : CodD) (f : Nat) (x : I4) (h : x.a = 16 ∨ x.a = 17 ∨ x.a = 18) : effC c f x = derivedC x := by
  unfold effC effS derivedC
  rcases h with h | h | h <;> simp [h]
theorem eff_plain (c : CodD) (f : Nat) (x : I4) (h : ∀ k ∈ ([1, 5, 12, 6, 7, 8, 9, 10, 11, 16, 17, 18, 24, 27] : List Int), x.a ≠ k) : effC c f x = plainC (decide (f = 0)) x := by
  simp only [List.mem_cons, List.not_mem_nil, or_false, forall_eq_or_imp, forall_eq, ne_eq] at h
  obtain ⟨a1, a2, a3, a4, a5, a6, a7, a8, a9, b1, b2, b3, b4, b5⟩ := h
  unfold effC effS plainC
  simp only [a1, a2, a3, a4, a5, a6, a7, a8, a9, b1, b2, b3, b4, b5, if_false]
noncomputable def Eof : Senv := EC conE 151 4 [5, 6, 7, 8, 10, 11, 22, 33, 40, 45, 55, 68, 78, 84, 90, 96, 106, 120, 128] (fun id => match id with | 16 => ([0, 1, 2, 3, 4, 5, 6, 7, 8, 9, 10, 11], [9, 11]) | 18 => ([0, 1, 2, 4, 5, 3, 6, 7, 8], [3, 6, 8]) | 28 => ([0, 1, 2, 3, 4, 5, 6, 7, 8, 9, 10, 11, 12], [10, 12]) | _ => ([], []))
theorem getD_ok {α : Type} [Inhabited α] {P : α → Prop} {l : List α} (h : ∀ x ∈ l, P x) {i : Nat} (hi : i < l.length) : P (l.getD i default) := by
  rw [List.getD_eq_getElem?_getD, List.getElem?_eq_getElem hi]; exact h _ (List.getElem_mem hi)
set_option maxHeartbeats 4000000 in
theorem of_ok (c : CodD) (f : Nat) (x : I4) (hf : f < c.funs.length) (hc : c.ok) (hx : x.ok) : ACalls Try.prog 63 [.agg c.row, .int .i64 f, .agg x.row] ⟨[], []⟩ (SpecR (pQ [.agg c.row, .int .i64 f, .agg x.row] (offD (effC c f x)) (offQ (effC c f x)) True) ()) := by
  refine con_of (A := pQ _ _ _ _) (x := ()) (E := Eof) (eOk conE_ok rfl) Try.func63 rfl (by kernel_rfl) rfl (by simp [pQ, Eof, EC, E0]) ?_
  have hm : ∀ n : Nat, n ≤ maxLen → IntKind.i64.wrap ((n : Int) - 1) = (n : Int) - 1 := fun n hn => by simp only [maxLen] at hn; exact wrap_i64' (by omega) (by omega)
  obtain ⟨_, h2, h3, _, l1, l2, l3, _⟩ := hc
  have hfo := getD_ok h2 hf
  have w1 := hm _ l1
  have w2 := hm _ l2
  have w3 := hm _ l3
  have w4 := hm _ hfo.2.2
  have hk : ∀ i : Nat, i < c.kers.length → inI64 (c.kers.getD i default).inputs := fun i hi => (getD_ok h3 hi).1
  have de : (default : FnD) = ⟨0, []⟩ := rfl
  have dk : (default : KeD) = ⟨0, [], 0, 0⟩ := rfl
  have e0 : ((f : Int) == 0) = decide (f = 0) := by
    by_cases e : f = 0
    · subst e; rfl
    · simp [e]
  have wb : IntKind.i64.wrap x.b = x.b := wrap_i64' hx.2.1.1 hx.2.1.2
  refine vc_eq (T :=
      ∀ (x_1 : Nat), True → ∀ (x_2 : Nat), x_1 ≠ x_2 ∧ True → ∀ (x_3 : Nat), x_2 ≠ x_3 ∧ x_1 ≠ x_3 ∧ True → SM x_2 ∧ ifB (I4.a x == (5 : Int)) (SM x_2 ∧ ifB (decide (Z0 ≤ I4.b x)) (SM x_2 ∧ SM x_3 ∧ (SM x_3 ∧ True) ∧ ∃
      (y : Eff), offQ (effC c f x) y ∧ (eqOf (List UInt8) [] y.1 ∧ [(97 : UInt8)] = y.2 ∧ decide (Z0 ≤ I4.c x) = Option.isSome (effC c f x) ∧ True) ∧ True ∧ True) (SM x_3 ∧ (SM x_3 ∧ True) ∧ ∃ (y : Eff), offQ (effC c f
      x) y ∧ (eqOf (List UInt8) [] y.1 ∧ [(97 : UInt8)] = y.2 ∧ false = Option.isSome (effC c f x) ∧ True) ∧ True ∧ True)) (ifB (I4.a x == (12 : Int)) (SM x_2 ∧ ifB (decide (Z0 ≤ I4.b x)) (SM x_2 ∧ SM x_3 ∧ (SM x_3 ∧
      True) ∧ ∃ (y : Eff), offQ (effC c f x) y ∧ (eqOf (List UInt8) [] y.1 ∧ [(102 : UInt8)] = y.2 ∧ decide (Z0 ≤ I4.c x) = Option.isSome (effC c f x) ∧ True) ∧ True ∧ True) (SM x_3 ∧ (SM x_3 ∧ True) ∧ ∃ (y : Eff), offQ
      (effC c f x) y ∧ (eqOf (List UInt8) [] y.1 ∧ [(102 : UInt8)] = y.2 ∧ false = Option.isSome (effC c f x) ∧ True) ∧ True ∧ True)) (ifB (I4.a x == (16 : Int)) (ifB (I4.a x == (16 : Int)) (SM x_2 ∧ inI64 (I4.b x) ∧ ∀
      (y : Eff), offQ (derivedC (I4.mk (I4.a x) (I4.b x) (I4.c x) (I4.d x))) y → SM x_3 ∧ (SM x_3 ∧ True) ∧ ∃ (y_1 : Eff), offQ (effC c f x) y_1 ∧ (y.1 = y_1.1 ∧ y.2 = y_1.2 ∧ Option.isSome (derivedC (I4.mk (I4.a x)
      (I4.b x) (I4.c x) (I4.d x))) = Option.isSome (effC c f x) ∧ True) ∧ True ∧ True) (∀ (x_4 : Nat), x_3 ≠ x_4 ∧ x_2 ≠ x_4 ∧ x_1 ≠ x_4 ∧ True → SM x_2 ∧ ifB (I4.a x == Z1) (SM x_2 ∧ SM x_1 ∧ ifB (decide (Z0 ≤ I4.b x))
      ((decide (I4.b x ≤ IntKind.wrap IntKind.i64 ((LI (CodD.consts c)) - Z1)) = bif decide (Z0 ≤ I4.b x) then decide (I4.b x ≤ IntKind.wrap IntKind.i64 ((LI (CodD.consts c)) - Z1)) else false) ∧ True) ((false = bif
      decide (Z0 ≤ I4.b x) then decide (I4.b x ≤ IntKind.wrap IntKind.i64 ((LI (CodD.consts c)) - Z1)) else false) ∧ True) ∧ True ∧ SM x_4 ∧ SM x_4 ∧ ifB (bif decide (Z0 ≤ I4.b x) then decide (I4.b x ≤ IntKind.wrap
      IntKind.i64 ((LI (CodD.consts c)) - Z1)) else false) (SM x_2 ∧ SM x_4 ∧ SM x_4 ∧ SM x_3 ∧ (SM x_3 ∧ True) ∧ ∃ (y : Eff), offQ (effC c f x) y ∧ (eqOf (List UInt8) [] y.1 ∧ [(97 : UInt8)] = y.2 ∧ (I4.c x == Z0) =
      Option.isSome (effC c f x) ∧ True) ∧ True ∧ True) (SM x_4 ∧ SM x_4 ∧ SM x_3 ∧ (SM x_3 ∧ True) ∧ ∃ (y : Eff), offQ (effC c f x) y ∧ (eqOf (List UInt8) [] y.1 ∧ [(97 : UInt8)] = y.2 ∧ false = Option.isSome (effC c f
      x) ∧ True) ∧ True ∧ True)) (ifB (I4.a x == (6 : Int)) (SM x_2 ∧ SM x_1 ∧ side (Z0 ≤ (↑f : Int) ∧ (↑f : Int) < (LI (CodD.funs c))) (ifB (decide (Z0 ≤ I4.b x)) ((decide (I4.b x ≤ IntKind.wrap IntKind.i64 (FnD.slots
      (GF c (Int.toNat (↑f : Int))) - Z1)) = bif decide (Z0 ≤ I4.b x) then decide (I4.b x ≤ IntKind.wrap IntKind.i64 (FnD.slots (GF c (Int.toNat (↑f : Int))) - Z1)) else false) ∧ True) ((false = bif decide (Z0 ≤ I4.b x)
      then decide (I4.b x ≤ IntKind.wrap IntKind.i64 (FnD.slots (GF c (Int.toNat (↑f : Int))) - Z1)) else false) ∧ True) ∧ True ∧ SM x_4 ∧ SM x_4 ∧ ifB (bif decide (Z0 ≤ I4.b x) then decide (I4.b x ≤ IntKind.wrap
      IntKind.i64 (FnD.slots (GF c (Int.toNat (↑f : Int))) - Z1)) else false) (SM x_2 ∧ SM x_4 ∧ SM x_4 ∧ SM x_3 ∧ (SM x_3 ∧ True) ∧ ∃ (y : Eff), offQ (effC c f x) y ∧ ([(42 : UInt8)] = y.1 ∧ eqOf (List UInt8) [] y.2 ∧
      (I4.c x == Z0) = Option.isSome (effC c f x) ∧ True) ∧ True ∧ True) (SM x_4 ∧ SM x_4 ∧ SM x_3 ∧ (SM x_3 ∧ True) ∧ ∃ (y : Eff), offQ (effC c f x) y ∧ ([(42 : UInt8)] = y.1 ∧ eqOf (List UInt8) [] y.2 ∧ false =
      Option.isSome (effC c f x) ∧ True) ∧ True ∧ True))) (ifB (I4.a x == (7 : Int)) (SM x_2 ∧ SM x_2 ∧ ((Z0 ≤ if (if (1000 : Int) < I4.b x then (1000 : Int) else I4.b x) < Z0 then Z0 else if (1000 : Int) < I4.b x then
      (1000 : Int) else I4.b x) ∧ (if (if (1000 : Int) < I4.b x then (1000 : Int) else I4.b x) < Z0 then Z0 else if (1000 : Int) < I4.b x then (1000 : Int) else I4.b x) ≤ (9223372036854775807 : Int) ∧ N1 * Int.toNat (if
      (if (1000 : Int) < I4.b x then (1000 : Int) else I4.b x) < Z0 then Z0 else if (1000 : Int) < I4.b x then (1000 : Int) else I4.b x) ≤ (140737488355328 : Nat)) ∧ ∀ (y : Unit), True → True ∧ (SM x_2 ∧ SM (ZI (I4.b
      x))) ∧ ifB (decide ((2 : Int) ≤ I4.b x)) ((decide (I4.b x ≤ (1000 : Int)) = bif decide ((2 : Int) ≤ I4.b x) then decide (I4.b x ≤ (1000 : Int)) else false) ∧ True) ((false = bif decide ((2 : Int) ≤ I4.b x) then
      decide (I4.b x ≤ (1000 : Int)) else false) ∧ True) ∧ True ∧ SM x_4 ∧ SM x_4 ∧ ifB (bif decide ((2 : Int) ≤ I4.b x) then decide (I4.b x ≤ (1000 : Int)) else false) (SM x_2 ∧ SM x_4 ∧ SM x_4 ∧ SM x_3 ∧ (SM x_3 ∧
      True) ∧ ∃ (y : Eff), offQ (effC c f x) y ∧ (Lib.repeatL [(97 : UInt8)] (Int.toNat (if (if (1000 : Int) < I4.b x then (1000 : Int) else I4.b x) < Z0 then Z0 else if (1000 : Int) < I4.b x then (1000 : Int) else I4.b
      x)) = y.1 ∧ [(97 : UInt8)] = y.2 ∧ (I4.c x == Z0) = Option.isSome (effC c f x) ∧ True) ∧ True ∧ True) (SM x_4 ∧ SM x_4 ∧ SM x_3 ∧ (SM x_3 ∧ True) ∧ ∃ (y : Eff), offQ (effC c f x) y ∧ (Lib.repeatL [(97 : UInt8)]
      (Int.toNat (if (if (1000 : Int) < I4.b x then (1000 : Int) else I4.b x) < Z0 then Z0 else if (1000 : Int) < I4.b x then (1000 : Int) else I4.b x)) = y.1 ∧ [(97 : UInt8)] = y.2 ∧ false = Option.isSome (effC c f x) ∧
      True) ∧ True ∧ True)) (ifB (I4.a x == (8 : Int)) (SM x_2 ∧ ifB (decide (Z1 ≤ I4.b x)) ((decide (I4.b x ≤ (55 : Int)) = bif decide (Z1 ≤ I4.b x) then decide (I4.b x ≤ (55 : Int)) else false) ∧ True) ((false = bif
      decide (Z1 ≤ I4.b x) then decide (I4.b x ≤ (55 : Int)) else false) ∧ True) ∧ True ∧ True ∧ SM x_4 ∧ SM x_4 ∧ ifB (bif decide (Z1 ≤ I4.b x) then decide (I4.b x ≤ (55 : Int)) else false) (SM x_2 ∧ SM x_4 ∧ SM x_4 ∧
      SM x_3 ∧ (SM x_3 ∧ True) ∧ ∃ (y : Eff), offQ (effC c f x) y ∧ ([(97 : UInt8)] = y.1 ∧ [(97 : UInt8)] = y.2 ∧ (I4.c x == Z0) = Option.isSome (effC c f x) ∧ True) ∧ True ∧ True) (SM x_4 ∧ SM x_4 ∧ SM x_3 ∧ (SM x_3 ∧
      True) ∧ ∃ (y : Eff), offQ (effC c f x) y ∧ ([(97 : UInt8)] = y.1 ∧ [(97 : UInt8)] = y.2 ∧ false = Option.isSome (effC c f x) ∧ True) ∧ True ∧ True)) (ifB (I4.a x == (9 : Int)) (SM x_2 ∧ ifB (decide (Z1 ≤ I4.b x))
      ((decide (I4.b x ≤ (55 : Int)) = bif decide (Z1 ≤ I4.b x) then decide (I4.b x ≤ (55 : Int)) else false) ∧ True) ((false = bif decide (Z1 ≤ I4.b x) then decide (I4.b x ≤ (55 : Int)) else false) ∧ True) ∧ True ∧ True
      ∧ SM x_4 ∧ SM x_4 ∧ ifB (bif decide (Z1 ≤ I4.b x) then decide (I4.b x ≤ (55 : Int)) else false) (SM x_2 ∧ SM x_4 ∧ SM x_4 ∧ SM x_3 ∧ (SM x_3 ∧ True) ∧ ∃ (y : Eff), offQ (effC c f x) y ∧ ([(97 : UInt8), (97 :
      UInt8)] = y.1 ∧ [(97 : UInt8)] = y.2 ∧ (I4.c x == Z0) = Option.isSome (effC c f x) ∧ True) ∧ True ∧ True) (SM x_4 ∧ SM x_4 ∧ SM x_3 ∧ (SM x_3 ∧ True) ∧ ∃ (y : Eff), offQ (effC c f x) y ∧ ([(97 : UInt8), (97 :
      UInt8)] = y.1 ∧ [(97 : UInt8)] = y.2 ∧ false = Option.isSome (effC c f x) ∧ True) ∧ True ∧ True)) (ifB (I4.a x == (10 : Int)) (SM x_2 ∧ ifB (decide (Z1 ≤ I4.b x)) ((decide (I4.b x ≤ (55 : Int)) = bif decide (Z1 ≤
      I4.b x) then decide (I4.b x ≤ (55 : Int)) else false) ∧ True) ((false = bif decide (Z1 ≤ I4.b x) then decide (I4.b x ≤ (55 : Int)) else false) ∧ True) ∧ True ∧ True ∧ SM x_4 ∧ SM x_4 ∧ ifB (bif decide (Z1 ≤ I4.b x)
      then decide (I4.b x ≤ (55 : Int)) else false) (SM x_2 ∧ SM x_4 ∧ SM x_4 ∧ SM x_3 ∧ (SM x_3 ∧ True) ∧ ∃ (y : Eff), offQ (effC c f x) y ∧ (eqOf (List UInt8) [] y.1 ∧ [(102 : UInt8)] = y.2 ∧ (I4.c x == Z0) =
      Option.isSome (effC c f x) ∧ True) ∧ True ∧ True) (SM x_4 ∧ SM x_4 ∧ SM x_3 ∧ (SM x_3 ∧ True) ∧ ∃ (y : Eff), offQ (effC c f x) y ∧ (eqOf (List UInt8) [] y.1 ∧ [(102 : UInt8)] = y.2 ∧ false = Option.isSome (effC c f
      x) ∧ True) ∧ True ∧ True)) (ifB (I4.a x == (11 : Int)) (SM x_2 ∧ SM x_1 ∧ ifB (decide (Z1 ≤ I4.b x)) ((decide (I4.b x ≤ IntKind.wrap IntKind.i64 ((LI (CodD.funs c)) - Z1)) = bif decide (Z1 ≤ I4.b x) then decide
      (I4.b x ≤ IntKind.wrap IntKind.i64 ((LI (CodD.funs c)) - Z1)) else false) ∧ True) ((false = bif decide (Z1 ≤ I4.b x) then decide (I4.b x ≤ IntKind.wrap IntKind.i64 ((LI (CodD.funs c)) - Z1)) else false) ∧ True) ∧
      True ∧ SM x_4 ∧ SM x_4 ∧ ifB (bif decide (Z1 ≤ I4.b x) then decide (I4.b x ≤ IntKind.wrap IntKind.i64 ((LI (CodD.funs c)) - Z1)) else false) (SM x_2 ∧ SM x_4 ∧ SM x_4 ∧ SM x_3 ∧ (SM x_3 ∧ True) ∧ ∃ (y : Eff), offQ
      (effC c f x) y ∧ (eqOf (List UInt8) [] y.1 ∧ [(102 : UInt8)] = y.2 ∧ (I4.c x == Z0) = Option.isSome (effC c f x) ∧ True) ∧ True ∧ True) (SM x_4 ∧ SM x_4 ∧ SM x_3 ∧ (SM x_3 ∧ True) ∧ ∃ (y : Eff), offQ (effC c f x) y
      ∧ (eqOf (List UInt8) [] y.1 ∧ [(102 : UInt8)] = y.2 ∧ false = Option.isSome (effC c f x) ∧ True) ∧ True ∧ True)) (ifB (I4.a x == (24 : Int)) (SM x_2 ∧ SM x_1 ∧ side (Z0 ≤ (↑f : Int) ∧ (↑f : Int) < (LI (CodD.funs
      c))) (ifB (decide (Z0 ≤ I4.b x)) ((decide (I4.b x ≤ IntKind.wrap IntKind.i64 ((LI (FnD.code (GF c (Int.toNat (↑f : Int))))) - Z1)) = bif decide (Z0 ≤ I4.b x) then decide (I4.b x ≤ IntKind.wrap IntKind.i64 ((LI
      (FnD.code (GF c (Int.toNat (↑f : Int))))) - Z1)) else false) ∧ True) ((false = bif decide (Z0 ≤ I4.b x) then decide (I4.b x ≤ IntKind.wrap IntKind.i64 ((LI (FnD.code (GF c (Int.toNat (↑f : Int))))) - Z1)) else
      false) ∧ True) ∧ True ∧ SM x_4 ∧ SM x_4 ∧ ifB (bif decide (Z0 ≤ I4.b x) then decide (I4.b x ≤ IntKind.wrap IntKind.i64 ((LI (FnD.code (GF c (Int.toNat (↑f : Int))))) - Z1)) else false) (SM x_2 ∧ SM x_4 ∧ SM x_4 ∧
      SM x_3 ∧ (SM x_3 ∧ True) ∧ ∃ (y : Eff), offQ (effC c f x) y ∧ ([(97 : UInt8)] = y.1 ∧ eqOf (List UInt8) [] y.2 ∧ (I4.c x == Z0) = Option.isSome (effC c f x) ∧ True) ∧ True ∧ True) (SM x_4 ∧ SM x_4 ∧ SM x_3 ∧ (SM
      x_3 ∧ True) ∧ ∃ (y : Eff), offQ (effC c f x) y ∧ ([(97 : UInt8)] = y.1 ∧ eqOf (List UInt8) [] y.2 ∧ false = Option.isSome (effC c f x) ∧ True) ∧ True ∧ True))) (ifB (I4.a x == (27 : Int)) (SM x_2 ∧ SM x_1 ∧ ifB
      (decide (Z0 ≤ I4.b x)) ((decide (I4.b x ≤ IntKind.wrap IntKind.i64 ((LI (CodD.kers c)) - Z1)) = bif decide (Z0 ≤ I4.b x) then decide (I4.b x ≤ IntKind.wrap IntKind.i64 ((LI (CodD.kers c)) - Z1)) else false) ∧ True)
      ((false = bif decide (Z0 ≤ I4.b x) then decide (I4.b x ≤ IntKind.wrap IntKind.i64 ((LI (CodD.kers c)) - Z1)) else false) ∧ True) ∧ True ∧ ifB (bif decide (Z0 ≤ I4.b x) then decide (I4.b x ≤ IntKind.wrap IntKind.i64
      ((LI (CodD.kers c)) - Z1)) else false) (SM x_1 ∧ SM x_2 ∧ side (Z0 ≤ I4.b x ∧ I4.b x < (LI (CodD.kers c))) (((Z0 ≤ if (if (16 : Int) < KeD.inputs (GK c (Int.toNat (I4.b x))) then (16 : Int) else KeD.inputs (GK c
      (Int.toNat (I4.b x)))) < Z0 then Z0 else if (16 : Int) < KeD.inputs (GK c (Int.toNat (I4.b x))) then (16 : Int) else KeD.inputs (GK c (Int.toNat (I4.b x)))) ∧ (if (if (16 : Int) < KeD.inputs (GK c (Int.toNat (I4.b
      x))) then (16 : Int) else KeD.inputs (GK c (Int.toNat (I4.b x)))) < Z0 then Z0 else if (16 : Int) < KeD.inputs (GK c (Int.toNat (I4.b x))) then (16 : Int) else KeD.inputs (GK c (Int.toNat (I4.b x)))) ≤
      (9223372036854775807 : Int) ∧ N1 * Int.toNat (if (if (16 : Int) < KeD.inputs (GK c (Int.toNat (I4.b x))) then (16 : Int) else KeD.inputs (GK c (Int.toNat (I4.b x)))) < Z0 then Z0 else if (16 : Int) < KeD.inputs (GK
      c (Int.toNat (I4.b x))) then (16 : Int) else KeD.inputs (GK c (Int.toNat (I4.b x)))) ≤ (140737488355328 : Nat)) ∧ ∀ (y : Unit), True → True ∧ ifB (decide (Z1 ≤ KeD.inputs (GK c (Int.toNat (I4.b x))))) ((decide
      (KeD.inputs (GK c (Int.toNat (I4.b x))) ≤ (16 : Int)) = bif decide (Z1 ≤ KeD.inputs (GK c (Int.toNat (I4.b x)))) then decide (KeD.inputs (GK c (Int.toNat (I4.b x))) ≤ (16 : Int)) else false) ∧ True) ((false = bif
      decide (Z1 ≤ KeD.inputs (GK c (Int.toNat (I4.b x)))) then decide (KeD.inputs (GK c (Int.toNat (I4.b x))) ≤ (16 : Int)) else false) ∧ True) ∧ True ∧ SM x_4 ∧ SM x_4 ∧ ifB (bif decide (Z1 ≤ KeD.inputs (GK c
      (Int.toNat (I4.b x)))) then decide (KeD.inputs (GK c (Int.toNat (I4.b x))) ≤ (16 : Int)) else false) (SM x_2 ∧ SM x_4 ∧ SM x_4 ∧ SM x_3 ∧ (SM x_3 ∧ True) ∧ ∃ (y : Eff), offQ (effC c f x) y ∧ (Lib.repeatL [(97 :
      UInt8)] (Int.toNat (if (if (16 : Int) < KeD.inputs (GK c (Int.toNat (I4.b x))) then (16 : Int) else KeD.inputs (GK c (Int.toNat (I4.b x)))) < Z0 then Z0 else if (16 : Int) < KeD.inputs (GK c (Int.toNat (I4.b x)))
      then (16 : Int) else KeD.inputs (GK c (Int.toNat (I4.b x))))) = y.1 ∧ [(97 : UInt8)] = y.2 ∧ (I4.c x == Z0) = Option.isSome (effC c f x) ∧ True) ∧ True ∧ True) (SM x_4 ∧ SM x_4 ∧ SM x_3 ∧ (SM x_3 ∧ True) ∧ ∃ (y :
      Eff), offQ (effC c f x) y ∧ (Lib.repeatL [(97 : UInt8)] (Int.toNat (if (if (16 : Int) < KeD.inputs (GK c (Int.toNat (I4.b x))) then (16 : Int) else KeD.inputs (GK c (Int.toNat (I4.b x)))) < Z0 then Z0 else if (16 :
      Int) < KeD.inputs (GK c (Int.toNat (I4.b x))) then (16 : Int) else KeD.inputs (GK c (Int.toNat (I4.b x))))) = y.1 ∧ [(97 : UInt8)] = y.2 ∧ false = Option.isSome (effC c f x) ∧ True) ∧ True ∧ True))) (SM x_4 ∧ SM
      x_4 ∧ SM x_4 ∧ SM x_3 ∧ (SM x_3 ∧ True) ∧ ∃ (y : Eff), offQ (effC c f x) y ∧ (eqOf (List UInt8) [] y.1 ∧ eqOf (List UInt8) [] y.2 ∧ false = Option.isSome (effC c f x) ∧ True) ∧ True ∧ True)) (SM x_2 ∧ True ∧ ∀ (y :
      Eff), offQ (plainC ((↑f : Int) == Z0) (I4.mk (I4.a x) (I4.b x) (I4.c x) (I4.d x))) y → SM x_3 ∧ (SM x_3 ∧ True) ∧ ∃ (y_1 : Eff), offQ (effC c f x) y_1 ∧ (y.1 = y_1.1 ∧ y.2 = y_1.2 ∧ Option.isSome (plainC ((↑f :
      Int) == Z0) (I4.mk (I4.a x) (I4.b x) (I4.c x) (I4.d x))) = Option.isSome (effC c f x) ∧ True) ∧ True ∧ True))))))))))) (ifB (I4.a x == (17 : Int)) (ifB (I4.a x == (17 : Int)) (SM x_2 ∧ inI64 (I4.b x) ∧ ∀ (y : Eff),
      offQ (derivedC (I4.mk (I4.a x) (I4.b x) (I4.c x) (I4.d x))) y → SM x_3 ∧ (SM x_3 ∧ True) ∧ ∃ (y_1 : Eff), offQ (effC c f x) y_1 ∧ (y.1 = y_1.1 ∧ y.2 = y_1.2 ∧ Option.isSome (derivedC (I4.mk (I4.a x) (I4.b x) (I4.c
      x) (I4.d x))) = Option.isSome (effC c f x) ∧ True) ∧ True ∧ True) (∀ (x_4 : Nat), x_3 ≠ x_4 ∧ x_2 ≠ x_4 ∧ x_1 ≠ x_4 ∧ True → SM x_2 ∧ ifB (I4.a x == Z1) (SM x_2 ∧ SM x_1 ∧ ifB (decide (Z0 ≤ I4.b x)) ((decide (I4.b
      x ≤ IntKind.wrap IntKind.i64 ((LI (CodD.consts c)) - Z1)) = bif decide (Z0 ≤ I4.b x) then decide (I4.b x ≤ IntKind.wrap IntKind.i64 ((LI (CodD.consts c)) - Z1)) else false) ∧ True) ((false = bif decide (Z0 ≤ I4.b
      x) then decide (I4.b x ≤ IntKind.wrap IntKind.i64 ((LI (CodD.consts c)) - Z1)) else false) ∧ True) ∧ True ∧ SM x_4 ∧ SM x_4 ∧ ifB (bif decide (Z0 ≤ I4.b x) then decide (I4.b x ≤ IntKind.wrap IntKind.i64 ((LI
      (CodD.consts c)) - Z1)) else false) (SM x_2 ∧ SM x_4 ∧ SM x_4 ∧ SM x_3 ∧ (SM x_3 ∧ True) ∧ ∃ (y : Eff), offQ (effC c f x) y ∧ (eqOf (List UInt8) [] y.1 ∧ [(97 : UInt8)] = y.2 ∧ (I4.c x == Z0) = Option.isSome (effC
      c f x) ∧ True) ∧ True ∧ True) (SM x_4 ∧ SM x_4 ∧ SM x_3 ∧ (SM x_3 ∧ True) ∧ ∃ (y : Eff), offQ (effC c f x) y ∧ (eqOf (List UInt8) [] y.1 ∧ [(97 : UInt8)] = y.2 ∧ false = Option.isSome (effC c f x) ∧ True) ∧ True ∧
      True)) (ifB (I4.a x == (6 : Int)) (SM x_2 ∧ SM x_1 ∧ side (Z0 ≤ (↑f : Int) ∧ (↑f : Int) < (LI (CodD.funs c))) (ifB (decide (Z0 ≤ I4.b x)) ((decide (I4.b x ≤ IntKind.wrap IntKind.i64 (FnD.slots (GF c (Int.toNat (↑f
      : Int))) - Z1)) = bif decide (Z0 ≤ I4.b x) then decide (I4.b x ≤ IntKind.wrap IntKind.i64 (FnD.slots (GF c (Int.toNat (↑f : Int))) - Z1)) else false) ∧ True) ((false = bif decide (Z0 ≤ I4.b x) then decide (I4.b x ≤
      IntKind.wrap IntKind.i64 (FnD.slots (GF c (Int.toNat (↑f : Int))) - Z1)) else false) ∧ True) ∧ True ∧ SM x_4 ∧ SM x_4 ∧ ifB (bif decide (Z0 ≤ I4.b x) then decide (I4.b x ≤ IntKind.wrap IntKind.i64 (FnD.slots (GF c
      (Int.toNat (↑f : Int))) - Z1)) else false) (SM x_2 ∧ SM x_4 ∧ SM x_4 ∧ SM x_3 ∧ (SM x_3 ∧ True) ∧ ∃ (y : Eff), offQ (effC c f x) y ∧ ([(42 : UInt8)] = y.1 ∧ eqOf (List UInt8) [] y.2 ∧ (I4.c x == Z0) = Option.isSome
      (effC c f x) ∧ True) ∧ True ∧ True) (SM x_4 ∧ SM x_4 ∧ SM x_3 ∧ (SM x_3 ∧ True) ∧ ∃ (y : Eff), offQ (effC c f x) y ∧ ([(42 : UInt8)] = y.1 ∧ eqOf (List UInt8) [] y.2 ∧ false = Option.isSome (effC c f x) ∧ True) ∧
      True ∧ True))) (ifB (I4.a x == (7 : Int)) (SM x_2 ∧ SM x_2 ∧ ((Z0 ≤ if (if (1000 : Int) < I4.b x then (1000 : Int) else I4.b x) < Z0 then Z0 else if (1000 : Int) < I4.b x then (1000 : Int) else I4.b x) ∧ (if (if
      (1000 : Int) < I4.b x then (1000 : Int) else I4.b x) < Z0 then Z0 else if (1000 : Int) < I4.b x then (1000 : Int) else I4.b x) ≤ (9223372036854775807 : Int) ∧ N1 * Int.toNat (if (if (1000 : Int) < I4.b x then (1000
      : Int) else I4.b x) < Z0 then Z0 else if (1000 : Int) < I4.b x then (1000 : Int) else I4.b x) ≤ (140737488355328 : Nat)) ∧ ∀ (y : Unit), True → True ∧ (SM x_2 ∧ SM (ZI (I4.b x))) ∧ ifB (decide ((2 : Int) ≤ I4.b x))
      ((decide (I4.b x ≤ (1000 : Int)) = bif decide ((2 : Int) ≤ I4.b x) then decide (I4.b x ≤ (1000 : Int)) else false) ∧ True) ((false = bif decide ((2 : Int) ≤ I4.b x) then decide (I4.b x ≤ (1000 : Int)) else false) ∧
      True) ∧ True ∧ SM x_4 ∧ SM x_4 ∧ ifB (bif decide ((2 : Int) ≤ I4.b x) then decide (I4.b x ≤ (1000 : Int)) else false) (SM x_2 ∧ SM x_4 ∧ SM x_4 ∧ SM x_3 ∧ (SM x_3 ∧ True) ∧ ∃ (y : Eff), offQ (effC c f x) y ∧
      (Lib.repeatL [(97 : UInt8)] (Int.toNat (if (if (1000 : Int) < I4.b x then (1000 : Int) else I4.b x) < Z0 then Z0 else if (1000 : Int) < I4.b x then (1000 : Int) else I4.b x)) = y.1 ∧ [(97 : UInt8)] = y.2 ∧ (I4.c x
      == Z0) = Option.isSome (effC c f x) ∧ True) ∧ True ∧ True) (SM x_4 ∧ SM x_4 ∧ SM x_3 ∧ (SM x_3 ∧ True) ∧ ∃ (y : Eff), offQ (effC c f x) y ∧ (Lib.repeatL [(97 : UInt8)] (Int.toNat (if (if (1000 : Int) < I4.b x then
      (1000 : Int) else I4.b x) < Z0 then Z0 else if (1000 : Int) < I4.b x then (1000 : Int) else I4.b x)) = y.1 ∧ [(97 : UInt8)] = y.2 ∧ false = Option.isSome (effC c f x) ∧ True) ∧ True ∧ True)) (ifB (I4.a x == (8 :
      Int)) (SM x_2 ∧ ifB (decide (Z1 ≤ I4.b x)) ((decide (I4.b x ≤ (55 : Int)) = bif decide (Z1 ≤ I4.b x) then decide (I4.b x ≤ (55 : Int)) else false) ∧ True) ((false = bif decide (Z1 ≤ I4.b x) then decide (I4.b x ≤
      (55 : Int)) else false) ∧ True) ∧ True ∧ True ∧ SM x_4 ∧ SM x_4 ∧ ifB (bif decide (Z1 ≤ I4.b x) then decide (I4.b x ≤ (55 : Int)) else false) (SM x_2 ∧ SM x_4 ∧ SM x_4 ∧ SM x_3 ∧ (SM x_3 ∧ True) ∧ ∃ (y : Eff), offQ
      (effC c f x) y ∧ ([(97 : UInt8)] = y.1 ∧ [(97 : UInt8)] = y.2 ∧ (I4.c x == Z0) = Option.isSome (effC c f x) ∧ True) ∧ True ∧ True) (SM x_4 ∧ SM x_4 ∧ SM x_3 ∧ (SM x_3 ∧ True) ∧ ∃ (y : Eff), offQ (effC c f x) y ∧
      ([(97 : UInt8)] = y.1 ∧ [(97 : UInt8)] = y.2 ∧ false = Option.isSome (effC c f x) ∧ True) ∧ True ∧ True)) (ifB (I4.a x == (9 : Int)) (SM x_2 ∧ ifB (decide (Z1 ≤ I4.b x)) ((decide (I4.b x ≤ (55 : Int)) = bif decide
      (Z1 ≤ I4.b x) then decide (I4.b x ≤ (55 : Int)) else false) ∧ True) ((false = bif decide (Z1 ≤ I4.b x) then decide (I4.b x ≤ (55 : Int)) else false) ∧ True) ∧ True ∧ True ∧ SM x_4 ∧ SM x_4 ∧ ifB (bif decide (Z1 ≤
      I4.b x) then decide (I4.b x ≤ (55 : Int)) else false) (SM x_2 ∧ SM x_4 ∧ SM x_4 ∧ SM x_3 ∧ (SM x_3 ∧ True) ∧ ∃ (y : Eff), offQ (effC c f x) y ∧ ([(97 : UInt8), (97 : UInt8)] = y.1 ∧ [(97 : UInt8)] = y.2 ∧ (I4.c x
      == Z0) = Option.isSome (effC c f x) ∧ True) ∧ True ∧ True) (SM x_4 ∧ SM x_4 ∧ SM x_3 ∧ (SM x_3 ∧ True) ∧ ∃ (y : Eff), offQ (effC c f x) y ∧ ([(97 : UInt8), (97 : UInt8)] = y.1 ∧ [(97 : UInt8)] = y.2 ∧ false =
      Option.isSome (effC c f x) ∧ True) ∧ True ∧ True)) (ifB (I4.a x == (10 : Int)) (SM x_2 ∧ ifB (decide (Z1 ≤ I4.b x)) ((decide (I4.b x ≤ (55 : Int)) = bif decide (Z1 ≤ I4.b x) then decide (I4.b x ≤ (55 : Int)) else
      false) ∧ True) ((false = bif decide (Z1 ≤ I4.b x) then decide (I4.b x ≤ (55 : Int)) else false) ∧ True) ∧ True ∧ True ∧ SM x_4 ∧ SM x_4 ∧ ifB (bif decide (Z1 ≤ I4.b x) then decide (I4.b x ≤ (55 : Int)) else false)
      (SM x_2 ∧ SM x_4 ∧ SM x_4 ∧ SM x_3 ∧ (SM x_3 ∧ True) ∧ ∃ (y : Eff), offQ (effC c f x) y ∧ (eqOf (List UInt8) [] y.1 ∧ [(102 : UInt8)] = y.2 ∧ (I4.c x == Z0) = Option.isSome (effC c f x) ∧ True) ∧ True ∧ True) (SM
      x_4 ∧ SM x_4 ∧ SM x_3 ∧ (SM x_3 ∧ True) ∧ ∃ (y : Eff), offQ (effC c f x) y ∧ (eqOf (List UInt8) [] y.1 ∧ [(102 : UInt8)] = y.2 ∧ false = Option.isSome (effC c f x) ∧ True) ∧ True ∧ True)) (ifB (I4.a x == (11 :
      Int)) (SM x_2 ∧ SM x_1 ∧ ifB (decide (Z1 ≤ I4.b x)) ((decide (I4.b x ≤ IntKind.wrap IntKind.i64 ((LI (CodD.funs c)) - Z1)) = bif decide (Z1 ≤ I4.b x) then decide (I4.b x ≤ IntKind.wrap IntKind.i64 ((LI (CodD.funs
      c)) - Z1)) else false) ∧ True) ((false = bif decide (Z1 ≤ I4.b x) then decide (I4.b x ≤ IntKind.wrap IntKind.i64 ((LI (CodD.funs c)) - Z1)) else false) ∧ True) ∧ True ∧ SM x_4 ∧ SM x_4 ∧ ifB (bif decide (Z1 ≤ I4.b
      x) then decide (I4.b x ≤ IntKind.wrap IntKind.i64 ((LI (CodD.funs c)) - Z1)) else false) (SM x_2 ∧ SM x_4 ∧ SM x_4 ∧ SM x_3 ∧ (SM x_3 ∧ True) ∧ ∃ (y : Eff), offQ (effC c f x) y ∧ (eqOf (List UInt8) [] y.1 ∧ [(102 :
      UInt8)] = y.2 ∧ (I4.c x == Z0) = Option.isSome (effC c f x) ∧ True) ∧ True ∧ True) (SM x_4 ∧ SM x_4 ∧ SM x_3 ∧ (SM x_3 ∧ True) ∧ ∃ (y : Eff), offQ (effC c f x) y ∧ (eqOf (List UInt8) [] y.1 ∧ [(102 : UInt8)] = y.2
      ∧ false = Option.isSome (effC c f x) ∧ True) ∧ True ∧ True)) (ifB (I4.a x == (24 : Int)) (SM x_2 ∧ SM x_1 ∧ side (Z0 ≤ (↑f : Int) ∧ (↑f : Int) < (LI (CodD.funs c))) (ifB (decide (Z0 ≤ I4.b x)) ((decide (I4.b x ≤
      IntKind.wrap IntKind.i64 ((LI (FnD.code (GF c (Int.toNat (↑f : Int))))) - Z1)) = bif decide (Z0 ≤ I4.b x) then decide (I4.b x ≤ IntKind.wrap IntKind.i64 ((LI (FnD.code (GF c (Int.toNat (↑f : Int))))) - Z1)) else
      false) ∧ True) ((false = bif decide (Z0 ≤ I4.b x) then decide (I4.b x ≤ IntKind.wrap IntKind.i64 ((LI (FnD.code (GF c (Int.toNat (↑f : Int))))) - Z1)) else false) ∧ True) ∧ True ∧ SM x_4 ∧ SM x_4 ∧ ifB (bif decide
      (Z0 ≤ I4.b x) then decide (I4.b x ≤ IntKind.wrap IntKind.i64 ((LI (FnD.code (GF c (Int.toNat (↑f : Int))))) - Z1)) else false) (SM x_2 ∧ SM x_4 ∧ SM x_4 ∧ SM x_3 ∧ (SM x_3 ∧ True) ∧ ∃ (y : Eff), offQ (effC c f x) y
      ∧ ([(97 : UInt8)] = y.1 ∧ eqOf (List UInt8) [] y.2 ∧ (I4.c x == Z0) = Option.isSome (effC c f x) ∧ True) ∧ True ∧ True) (SM x_4 ∧ SM x_4 ∧ SM x_3 ∧ (SM x_3 ∧ True) ∧ ∃ (y : Eff), offQ (effC c f x) y ∧ ([(97 :
      UInt8)] = y.1 ∧ eqOf (List UInt8) [] y.2 ∧ false = Option.isSome (effC c f x) ∧ True) ∧ True ∧ True))) (ifB (I4.a x == (27 : Int)) (SM x_2 ∧ SM x_1 ∧ ifB (decide (Z0 ≤ I4.b x)) ((decide (I4.b x ≤ IntKind.wrap
      IntKind.i64 ((LI (CodD.kers c)) - Z1)) = bif decide (Z0 ≤ I4.b x) then decide (I4.b x ≤ IntKind.wrap IntKind.i64 ((LI (CodD.kers c)) - Z1)) else false) ∧ True) ((false = bif decide (Z0 ≤ I4.b x) then decide (I4.b x
      ≤ IntKind.wrap IntKind.i64 ((LI (CodD.kers c)) - Z1)) else false) ∧ True) ∧ True ∧ ifB (bif decide (Z0 ≤ I4.b x) then decide (I4.b x ≤ IntKind.wrap IntKind.i64 ((LI (CodD.kers c)) - Z1)) else false) (SM x_1 ∧ SM
      x_2 ∧ side (Z0 ≤ I4.b x ∧ I4.b x < (LI (CodD.kers c))) (((Z0 ≤ if (if (16 : Int) < KeD.inputs (GK c (Int.toNat (I4.b x))) then (16 : Int) else KeD.inputs (GK c (Int.toNat (I4.b x)))) < Z0 then Z0 else if (16 : Int)
      < KeD.inputs (GK c (Int.toNat (I4.b x))) then (16 : Int) else KeD.inputs (GK c (Int.toNat (I4.b x)))) ∧ (if (if (16 : Int) < KeD.inputs (GK c (Int.toNat (I4.b x))) then (16 : Int) else KeD.inputs (GK c (Int.toNat
      (I4.b x)))) < Z0 then Z0 else if (16 : Int) < KeD.inputs (GK c (Int.toNat (I4.b x))) then (16 : Int) else KeD.inputs (GK c (Int.toNat (I4.b x)))) ≤ (9223372036854775807 : Int) ∧ N1 * Int.toNat (if (if (16 : Int) <
      KeD.inputs (GK c (Int.toNat (I4.b x))) then (16 : Int) else KeD.inputs (GK c (Int.toNat (I4.b x)))) < Z0 then Z0 else if (16 : Int) < KeD.inputs (GK c (Int.toNat (I4.b x))) then (16 : Int) else KeD.inputs (GK c
      (Int.toNat (I4.b x)))) ≤ (140737488355328 : Nat)) ∧ ∀ (y : Unit), True → True ∧ ifB (decide (Z1 ≤ KeD.inputs (GK c (Int.toNat (I4.b x))))) ((decide (KeD.inputs (GK c (Int.toNat (I4.b x))) ≤ (16 : Int)) = bif decide
      (Z1 ≤ KeD.inputs (GK c (Int.toNat (I4.b x)))) then decide (KeD.inputs (GK c (Int.toNat (I4.b x))) ≤ (16 : Int)) else false) ∧ True) ((false = bif decide (Z1 ≤ KeD.inputs (GK c (Int.toNat (I4.b x)))) then decide
      (KeD.inputs (GK c (Int.toNat (I4.b x))) ≤ (16 : Int)) else false) ∧ True) ∧ True ∧ SM x_4 ∧ SM x_4 ∧ ifB (bif decide (Z1 ≤ KeD.inputs (GK c (Int.toNat (I4.b x)))) then decide (KeD.inputs (GK c (Int.toNat (I4.b x)))
      ≤ (16 : Int)) else false) (SM x_2 ∧ SM x_4 ∧ SM x_4 ∧ SM x_3 ∧ (SM x_3 ∧ True) ∧ ∃ (y : Eff), offQ (effC c f x) y ∧ (Lib.repeatL [(97 : UInt8)] (Int.toNat (if (if (16 : Int) < KeD.inputs (GK c (Int.toNat (I4.b x)))
      then (16 : Int) else KeD.inputs (GK c (Int.toNat (I4.b x)))) < Z0 then Z0 else if (16 : Int) < KeD.inputs (GK c (Int.toNat (I4.b x))) then (16 : Int) else KeD.inputs (GK c (Int.toNat (I4.b x))))) = y.1 ∧ [(97 :
      UInt8)] = y.2 ∧ (I4.c x == Z0) = Option.isSome (effC c f x) ∧ True) ∧ True ∧ True) (SM x_4 ∧ SM x_4 ∧ SM x_3 ∧ (SM x_3 ∧ True) ∧ ∃ (y : Eff), offQ (effC c f x) y ∧ (Lib.repeatL [(97 : UInt8)] (Int.toNat (if (if (16
      : Int) < KeD.inputs (GK c (Int.toNat (I4.b x))) then (16 : Int) else KeD.inputs (GK c (Int.toNat (I4.b x)))) < Z0 then Z0 else if (16 : Int) < KeD.inputs (GK c (Int.toNat (I4.b x))) then (16 : Int) else KeD.inputs
      (GK c (Int.toNat (I4.b x))))) = y.1 ∧ [(97 : UInt8)] = y.2 ∧ false = Option.isSome (effC c f x) ∧ True) ∧ True ∧ True))) (SM x_4 ∧ SM x_4 ∧ SM x_4 ∧ SM x_3 ∧ (SM x_3 ∧ True) ∧ ∃ (y : Eff), offQ (effC c f x) y ∧
      (eqOf (List UInt8) [] y.1 ∧ eqOf (List UInt8) [] y.2 ∧ false = Option.isSome (effC c f x) ∧ True) ∧ True ∧ True)) (SM x_2 ∧ True ∧ ∀ (y : Eff), offQ (plainC ((↑f : Int) == Z0) (I4.mk (I4.a x) (I4.b x) (I4.c x)
      (I4.d x))) y → SM x_3 ∧ (SM x_3 ∧ True) ∧ ∃ (y_1 : Eff), offQ (effC c f x) y_1 ∧ (y.1 = y_1.1 ∧ y.2 = y_1.2 ∧ Option.isSome (plainC ((↑f : Int) == Z0) (I4.mk (I4.a x) (I4.b x) (I4.c x) (I4.d x))) = Option.isSome
      (effC c f x) ∧ True) ∧ True ∧ True))))))))))) (ifB (I4.a x == (18 : Int)) (SM x_2 ∧ inI64 (I4.b x) ∧ ∀ (y : Eff), offQ (derivedC (I4.mk (I4.a x) (I4.b x) (I4.c x) (I4.d x))) y → SM x_3 ∧ (SM x_3 ∧ True) ∧ ∃ (y_1 :
      Eff), offQ (effC c f x) y_1 ∧ (y.1 = y_1.1 ∧ y.2 = y_1.2 ∧ Option.isSome (derivedC (I4.mk (I4.a x) (I4.b x) (I4.c x) (I4.d x))) = Option.isSome (effC c f x) ∧ True) ∧ True ∧ True) (∀ (x_4 : Nat), x_3 ≠ x_4 ∧ x_2 ≠
      x_4 ∧ x_1 ≠ x_4 ∧ True → SM x_2 ∧ ifB (I4.a x == Z1) (SM x_2 ∧ SM x_1 ∧ ifB (decide (Z0 ≤ I4.b x)) ((decide (I4.b x ≤ IntKind.wrap IntKind.i64 ((LI (CodD.consts c)) - Z1)) = bif decide (Z0 ≤ I4.b x) then decide
      (I4.b x ≤ IntKind.wrap IntKind.i64 ((LI (CodD.consts c)) - Z1)) else false) ∧ True) ((false = bif decide (Z0 ≤ I4.b x) then decide (I4.b x ≤ IntKind.wrap IntKind.i64 ((LI (CodD.consts c)) - Z1)) else false) ∧ True)
      ∧ True ∧ SM x_4 ∧ SM x_4 ∧ ifB (bif decide (Z0 ≤ I4.b x) then decide (I4.b x ≤ IntKind.wrap IntKind.i64 ((LI (CodD.consts c)) - Z1)) else false) (SM x_2 ∧ SM x_4 ∧ SM x_4 ∧ SM x_3 ∧ (SM x_3 ∧ True) ∧ ∃ (y : Eff),
      offQ (effC c f x) y ∧ (eqOf (List UInt8) [] y.1 ∧ [(97 : UInt8)] = y.2 ∧ (I4.c x == Z0) = Option.isSome (effC c f x) ∧ True) ∧ True ∧ True) (SM x_4 ∧ SM x_4 ∧ SM x_3 ∧ (SM x_3 ∧ True) ∧ ∃ (y : Eff), offQ (effC c f
      x) y ∧ (eqOf (List UInt8) [] y.1 ∧ [(97 : UInt8)] = y.2 ∧ false = Option.isSome (effC c f x) ∧ True) ∧ True ∧ True)) (ifB (I4.a x == (6 : Int)) (SM x_2 ∧ SM x_1 ∧ side (Z0 ≤ (↑f : Int) ∧ (↑f : Int) < (LI (CodD.funs
      c))) (ifB (decide (Z0 ≤ I4.b x)) ((decide (I4.b x ≤ IntKind.wrap IntKind.i64 (FnD.slots (GF c (Int.toNat (↑f : Int))) - Z1)) = bif decide (Z0 ≤ I4.b x) then decide (I4.b x ≤ IntKind.wrap IntKind.i64 (FnD.slots (GF
      c (Int.toNat (↑f : Int))) - Z1)) else false) ∧ True) ((false = bif decide (Z0 ≤ I4.b x) then decide (I4.b x ≤ IntKind.wrap IntKind.i64 (FnD.slots (GF c (Int.toNat (↑f : Int))) - Z1)) else false) ∧ True) ∧ True ∧ SM
      x_4 ∧ SM x_4 ∧ ifB (bif decide (Z0 ≤ I4.b x) then decide (I4.b x ≤ IntKind.wrap IntKind.i64 (FnD.slots (GF c (Int.toNat (↑f : Int))) - Z1)) else false) (SM x_2 ∧ SM x_4 ∧ SM x_4 ∧ SM x_3 ∧ (SM x_3 ∧ True) ∧ ∃ (y :
      Eff), offQ (effC c f x) y ∧ ([(42 : UInt8)] = y.1 ∧ eqOf (List UInt8) [] y.2 ∧ (I4.c x == Z0) = Option.isSome (effC c f x) ∧ True) ∧ True ∧ True) (SM x_4 ∧ SM x_4 ∧ SM x_3 ∧ (SM x_3 ∧ True) ∧ ∃ (y : Eff), offQ
      (effC c f x) y ∧ ([(42 : UInt8)] = y.1 ∧ eqOf (List UInt8) [] y.2 ∧ false = Option.isSome (effC c f x) ∧ True) ∧ True ∧ True))) (ifB (I4.a x == (7 : Int)) (SM x_2 ∧ SM x_2 ∧ ((Z0 ≤ if (if (1000 : Int) < I4.b x then
      (1000 : Int) else I4.b x) < Z0 then Z0 else if (1000 : Int) < I4.b x then (1000 : Int) else I4.b x) ∧ (if (if (1000 : Int) < I4.b x then (1000 : Int) else I4.b x) < Z0 then Z0 else if (1000 : Int) < I4.b x then
      (1000 : Int) else I4.b x) ≤ (9223372036854775807 : Int) ∧ N1 * Int.toNat (if (if (1000 : Int) < I4.b x then (1000 : Int) else I4.b x) < Z0 then Z0 else if (1000 : Int) < I4.b x then (1000 : Int) else I4.b x) ≤
      (140737488355328 : Nat)) ∧ ∀ (y : Unit), True → True ∧ (SM x_2 ∧ SM (ZI (I4.b x))) ∧ ifB (decide ((2 : Int) ≤ I4.b x)) ((decide (I4.b x ≤ (1000 : Int)) = bif decide ((2 : Int) ≤ I4.b x) then decide (I4.b x ≤ (1000
      : Int)) else false) ∧ True) ((false = bif decide ((2 : Int) ≤ I4.b x) then decide (I4.b x ≤ (1000 : Int)) else false) ∧ True) ∧ True ∧ SM x_4 ∧ SM x_4 ∧ ifB (bif decide ((2 : Int) ≤ I4.b x) then decide (I4.b x ≤
      (1000 : Int)) else false) (SM x_2 ∧ SM x_4 ∧ SM x_4 ∧ SM x_3 ∧ (SM x_3 ∧ True) ∧ ∃ (y : Eff), offQ (effC c f x) y ∧ (Lib.repeatL [(97 : UInt8)] (Int.toNat (if (if (1000 : Int) < I4.b x then (1000 : Int) else I4.b
      x) < Z0 then Z0 else if (1000 : Int) < I4.b x then (1000 : Int) else I4.b x)) = y.1 ∧ [(97 : UInt8)] = y.2 ∧ (I4.c x == Z0) = Option.isSome (effC c f x) ∧ True) ∧ True ∧ True) (SM x_4 ∧ SM x_4 ∧ SM x_3 ∧ (SM x_3 ∧
      True) ∧ ∃ (y : Eff), offQ (effC c f x) y ∧ (Lib.repeatL [(97 : UInt8)] (Int.toNat (if (if (1000 : Int) < I4.b x then (1000 : Int) else I4.b x) < Z0 then Z0 else if (1000 : Int) < I4.b x then (1000 : Int) else I4.b
      x)) = y.1 ∧ [(97 : UInt8)] = y.2 ∧ false = Option.isSome (effC c f x) ∧ True) ∧ True ∧ True)) (ifB (I4.a x == (8 : Int)) (SM x_2 ∧ ifB (decide (Z1 ≤ I4.b x)) ((decide (I4.b x ≤ (55 : Int)) = bif decide (Z1 ≤ I4.b
      x) then decide (I4.b x ≤ (55 : Int)) else false) ∧ True) ((false = bif decide (Z1 ≤ I4.b x) then decide (I4.b x ≤ (55 : Int)) else false) ∧ True) ∧ True ∧ True ∧ SM x_4 ∧ SM x_4 ∧ ifB (bif decide (Z1 ≤ I4.b x) then
      decide (I4.b x ≤ (55 : Int)) else false) (SM x_2 ∧ SM x_4 ∧ SM x_4 ∧ SM x_3 ∧ (SM x_3 ∧ True) ∧ ∃ (y : Eff), offQ (effC c f x) y ∧ ([(97 : UInt8)] = y.1 ∧ [(97 : UInt8)] = y.2 ∧ (I4.c x == Z0) = Option.isSome (effC
      c f x) ∧ True) ∧ True ∧ True) (SM x_4 ∧ SM x_4 ∧ SM x_3 ∧ (SM x_3 ∧ True) ∧ ∃ (y : Eff), offQ (effC c f x) y ∧ ([(97 : UInt8)] = y.1 ∧ [(97 : UInt8)] = y.2 ∧ false = Option.isSome (effC c f x) ∧ True) ∧ True ∧
      True)) (ifB (I4.a x == (9 : Int)) (SM x_2 ∧ ifB (decide (Z1 ≤ I4.b x)) ((decide (I4.b x ≤ (55 : Int)) = bif decide (Z1 ≤ I4.b x) then decide (I4.b x ≤ (55 : Int)) else false) ∧ True) ((false = bif decide (Z1 ≤ I4.b
      x) then decide (I4.b x ≤ (55 : Int)) else false) ∧ True) ∧ True ∧ True ∧ SM x_4 ∧ SM x_4 ∧ ifB (bif decide (Z1 ≤ I4.b x) then decide (I4.b x ≤ (55 : Int)) else false) (SM x_2 ∧ SM x_4 ∧ SM x_4 ∧ SM x_3 ∧ (SM x_3 ∧
      True) ∧ ∃ (y : Eff), offQ (effC c f x) y ∧ ([(97 : UInt8), (97 : UInt8)] = y.1 ∧ [(97 : UInt8)] = y.2 ∧ (I4.c x == Z0) = Option.isSome (effC c f x) ∧ True) ∧ True ∧ True) (SM x_4 ∧ SM x_4 ∧ SM x_3 ∧ (SM x_3 ∧ True)
      ∧ ∃ (y : Eff), offQ (effC c f x) y ∧ ([(97 : UInt8), (97 : UInt8)] = y.1 ∧ [(97 : UInt8)] = y.2 ∧ false = Option.isSome (effC c f x) ∧ True) ∧ True ∧ True)) (ifB (I4.a x == (10 : Int)) (SM x_2 ∧ ifB (decide (Z1 ≤
      I4.b x)) ((decide (I4.b x ≤ (55 : Int)) = bif decide (Z1 ≤ I4.b x) then decide (I4.b x ≤ (55 : Int)) else false) ∧ True) ((false = bif decide (Z1 ≤ I4.b x) then decide (I4.b x ≤ (55 : Int)) else false) ∧ True) ∧
      True ∧ True ∧ SM x_4 ∧ SM x_4 ∧ ifB (bif decide (Z1 ≤ I4.b x) then decide (I4.b x ≤ (55 : Int)) else false) (SM x_2 ∧ SM x_4 ∧ SM x_4 ∧ SM x_3 ∧ (SM x_3 ∧ True) ∧ ∃ (y : Eff), offQ (effC c f x) y ∧ (eqOf (List
      UInt8) [] y.1 ∧ [(102 : UInt8)] = y.2 ∧ (I4.c x == Z0) = Option.isSome (effC c f x) ∧ True) ∧ True ∧ True) (SM x_4 ∧ SM x_4 ∧ SM x_3 ∧ (SM x_3 ∧ True) ∧ ∃ (y : Eff), offQ (effC c f x) y ∧ (eqOf (List UInt8) [] y.1
      ∧ [(102 : UInt8)] = y.2 ∧ false = Option.isSome (effC c f x) ∧ True) ∧ True ∧ True)) (ifB (I4.a x == (11 : Int)) (SM x_2 ∧ SM x_1 ∧ ifB (decide (Z1 ≤ I4.b x)) ((decide (I4.b x ≤ IntKind.wrap IntKind.i64 ((LI
      (CodD.funs c)) - Z1)) = bif decide (Z1 ≤ I4.b x) then decide (I4.b x ≤ IntKind.wrap IntKind.i64 ((LI (CodD.funs c)) - Z1)) else false) ∧ True) ((false = bif decide (Z1 ≤ I4.b x) then decide (I4.b x ≤ IntKind.wrap
      IntKind.i64 ((LI (CodD.funs c)) - Z1)) else false) ∧ True) ∧ True ∧ SM x_4 ∧ SM x_4 ∧ ifB (bif decide (Z1 ≤ I4.b x) then decide (I4.b x ≤ IntKind.wrap IntKind.i64 ((LI (CodD.funs c)) - Z1)) else false) (SM x_2 ∧ SM
      x_4 ∧ SM x_4 ∧ SM x_3 ∧ (SM x_3 ∧ True) ∧ ∃ (y : Eff), offQ (effC c f x) y ∧ (eqOf (List UInt8) [] y.1 ∧ [(102 : UInt8)] = y.2 ∧ (I4.c x == Z0) = Option.isSome (effC c f x) ∧ True) ∧ True ∧ True) (SM x_4 ∧ SM x_4 ∧
      SM x_3 ∧ (SM x_3 ∧ True) ∧ ∃ (y : Eff), offQ (effC c f x) y ∧ (eqOf (List UInt8) [] y.1 ∧ [(102 : UInt8)] = y.2 ∧ false = Option.isSome (effC c f x) ∧ True) ∧ True ∧ True)) (ifB (I4.a x == (24 : Int)) (SM x_2 ∧ SM
      x_1 ∧ side (Z0 ≤ (↑f : Int) ∧ (↑f : Int) < (LI (CodD.funs c))) (ifB (decide (Z0 ≤ I4.b x)) ((decide (I4.b x ≤ IntKind.wrap IntKind.i64 ((LI (FnD.code (GF c (Int.toNat (↑f : Int))))) - Z1)) = bif decide (Z0 ≤ I4.b
      x) then decide (I4.b x ≤ IntKind.wrap IntKind.i64 ((LI (FnD.code (GF c (Int.toNat (↑f : Int))))) - Z1)) else false) ∧ True) ((false = bif decide (Z0 ≤ I4.b x) then decide (I4.b x ≤ IntKind.wrap IntKind.i64 ((LI
      (FnD.code (GF c (Int.toNat (↑f : Int))))) - Z1)) else false) ∧ True) ∧ True ∧ SM x_4 ∧ SM x_4 ∧ ifB (bif decide (Z0 ≤ I4.b x) then decide (I4.b x ≤ IntKind.wrap IntKind.i64 ((LI (FnD.code (GF c (Int.toNat (↑f :
      Int))))) - Z1)) else false) (SM x_2 ∧ SM x_4 ∧ SM x_4 ∧ SM x_3 ∧ (SM x_3 ∧ True) ∧ ∃ (y : Eff), offQ (effC c f x) y ∧ ([(97 : UInt8)] = y.1 ∧ eqOf (List UInt8) [] y.2 ∧ (I4.c x == Z0) = Option.isSome (effC c f x) ∧
      True) ∧ True ∧ True) (SM x_4 ∧ SM x_4 ∧ SM x_3 ∧ (SM x_3 ∧ True) ∧ ∃ (y : Eff), offQ (effC c f x) y ∧ ([(97 : UInt8)] = y.1 ∧ eqOf (List UInt8) [] y.2 ∧ false = Option.isSome (effC c f x) ∧ True) ∧ True ∧ True)))
      (ifB (I4.a x == (27 : Int)) (SM x_2 ∧ SM x_1 ∧ ifB (decide (Z0 ≤ I4.b x)) ((decide (I4.b x ≤ IntKind.wrap IntKind.i64 ((LI (CodD.kers c)) - Z1)) = bif decide (Z0 ≤ I4.b x) then decide (I4.b x ≤ IntKind.wrap
      IntKind.i64 ((LI (CodD.kers c)) - Z1)) else false) ∧ True) ((false = bif decide (Z0 ≤ I4.b x) then decide (I4.b x ≤ IntKind.wrap IntKind.i64 ((LI (CodD.kers c)) - Z1)) else false) ∧ True) ∧ True ∧ ifB (bif decide
      (Z0 ≤ I4.b x) then decide (I4.b x ≤ IntKind.wrap IntKind.i64 ((LI (CodD.kers c)) - Z1)) else false) (SM x_1 ∧ SM x_2 ∧ side (Z0 ≤ I4.b x ∧ I4.b x < (LI (CodD.kers c))) (((Z0 ≤ if (if (16 : Int) < KeD.inputs (GK c
      (Int.toNat (I4.b x))) then (16 : Int) else KeD.inputs (GK c (Int.toNat (I4.b x)))) < Z0 then Z0 else if (16 : Int) < KeD.inputs (GK c (Int.toNat (I4.b x))) then (16 : Int) else KeD.inputs (GK c (Int.toNat (I4.b
      x)))) ∧ (if (if (16 : Int) < KeD.inputs (GK c (Int.toNat (I4.b x))) then (16 : Int) else KeD.inputs (GK c (Int.toNat (I4.b x)))) < Z0 then Z0 else if (16 : Int) < KeD.inputs (GK c (Int.toNat (I4.b x))) then (16 :
      Int) else KeD.inputs (GK c (Int.toNat (I4.b x)))) ≤ (9223372036854775807 : Int) ∧ N1 * Int.toNat (if (if (16 : Int) < KeD.inputs (GK c (Int.toNat (I4.b x))) then (16 : Int) else KeD.inputs (GK c (Int.toNat (I4.b
      x)))) < Z0 then Z0 else if (16 : Int) < KeD.inputs (GK c (Int.toNat (I4.b x))) then (16 : Int) else KeD.inputs (GK c (Int.toNat (I4.b x)))) ≤ (140737488355328 : Nat)) ∧ ∀ (y : Unit), True → True ∧ ifB (decide (Z1 ≤
      KeD.inputs (GK c (Int.toNat (I4.b x))))) ((decide (KeD.inputs (GK c (Int.toNat (I4.b x))) ≤ (16 : Int)) = bif decide (Z1 ≤ KeD.inputs (GK c (Int.toNat (I4.b x)))) then decide (KeD.inputs (GK c (Int.toNat (I4.b x)))
      ≤ (16 : Int)) else false) ∧ True) ((false = bif decide (Z1 ≤ KeD.inputs (GK c (Int.toNat (I4.b x)))) then decide (KeD.inputs (GK c (Int.toNat (I4.b x))) ≤ (16 : Int)) else false) ∧ True) ∧ True ∧ SM x_4 ∧ SM x_4 ∧
      ifB (bif decide (Z1 ≤ KeD.inputs (GK c (Int.toNat (I4.b x)))) then decide (KeD.inputs (GK c (Int.toNat (I4.b x))) ≤ (16 : Int)) else false) (SM x_2 ∧ SM x_4 ∧ SM x_4 ∧ SM x_3 ∧ (SM x_3 ∧ True) ∧ ∃ (y : Eff), offQ
      (effC c f x) y ∧ (Lib.repeatL [(97 : UInt8)] (Int.toNat (if (if (16 : Int) < KeD.inputs (GK c (Int.toNat (I4.b x))) then (16 : Int) else KeD.inputs (GK c (Int.toNat (I4.b x)))) < Z0 then Z0 else if (16 : Int) <
      KeD.inputs (GK c (Int.toNat (I4.b x))) then (16 : Int) else KeD.inputs (GK c (Int.toNat (I4.b x))))) = y.1 ∧ [(97 : UInt8)] = y.2 ∧ (I4.c x == Z0) = Option.isSome (effC c f x) ∧ True) ∧ True ∧ True) (SM x_4 ∧ SM
      x_4 ∧ SM x_3 ∧ (SM x_3 ∧ True) ∧ ∃ (y : Eff), offQ (effC c f x) y ∧ (Lib.repeatL [(97 : UInt8)] (Int.toNat (if (if (16 : Int) < KeD.inputs (GK c (Int.toNat (I4.b x))) then (16 : Int) else KeD.inputs (GK c
      (Int.toNat (I4.b x)))) < Z0 then Z0 else if (16 : Int) < KeD.inputs (GK c (Int.toNat (I4.b x))) then (16 : Int) else KeD.inputs (GK c (Int.toNat (I4.b x))))) = y.1 ∧ [(97 : UInt8)] = y.2 ∧ false = Option.isSome
      (effC c f x) ∧ True) ∧ True ∧ True))) (SM x_4 ∧ SM x_4 ∧ SM x_4 ∧ SM x_3 ∧ (SM x_3 ∧ True) ∧ ∃ (y : Eff), offQ (effC c f x) y ∧ (eqOf (List UInt8) [] y.1 ∧ eqOf (List UInt8) [] y.2 ∧ false = Option.isSome (effC c f
      x) ∧ True) ∧ True ∧ True)) (SM x_2 ∧ True ∧ ∀ (y : Eff), offQ (plainC ((↑f : Int) == Z0) (I4.mk (I4.a x) (I4.b x) (I4.c x) (I4.d x))) y → SM x_3 ∧ (SM x_3 ∧ True) ∧ ∃ (y_1 : Eff), offQ (effC c f x) y_1 ∧ (y.1 =
      y_1.1 ∧ y.2 = y_1.2 ∧ Option.isSome (plainC ((↑f : Int) == Z0) (I4.mk (I4.a x) (I4.b x) (I4.c x) (I4.d x))) = Option.isSome (effC c f x) ∧ True) ∧ True ∧ True))))))))))))))) (by kernel_rfl) ?_
  delta DF DK GF GK LI LN N1 SM Z0 Z1 ZI
  simp only [← de, ← dk, e0, w1, w2, w3, w4, wb, Int.toNat_natCast, ifB_iff, side_iff, decide_eq_true_eq, decide_eq_false_iff_not, true_and, and_true, beq_iff_eq, Bool.cond_false_right, Bool.and_eq_true, Bool.and_eq_false_iff, beq_eq_false_iff_ne, ne_eq]
  repeat' (first
    | refine off_leaf ?_
    | (refine And.intro ?_ ?_)
    | intro _)
  all_goals (try first | exact hx.2.1.1 | exact hx.2.1.2 | exact off_pass (eff_derived c f x (by omega)) (by assumption) | exact off_pass (eff_plain c f x (by simp_all)) (by assumption))
  all_goals (first | (simp_all [effC, effS, between, primB, gu]; done) | grind [effC, effS, between, primB, gu] | skip)
end Go.Proofs.Ytoglbmhkfkghbaa
namespace Go.Proofs.Ytoglbmhkfkghbaa
open Go Go.Ab

/-! ### the reference's effects -/
noncomputable def Erplain : Senv := EC conR2 71 3 [4, 5, 15, 16, 20, 29, 39, 43, 47, 51, 55, 59, 63, 65] (fun _ => ([], []))
theorem rplain_ok (x : I4) (main : Bool) : ACalls Try.prog 90 [.agg x.row, .bool main] ⟨[], []⟩ (SpecR (pQ [.agg x.row, .bool main] (offD (plainC main x)) (offQ (plainC main x)) True) ()) := by
  refine con_of (A := pQ _ _ _ _) (x := ()) (E := Erplain) (eOk conR2_ok rfl) Try.func90 rfl (by kernel_rfl) rfl (by simp [pQ, Erplain, EC, E0]) ?_
  refine vc_eq (T :=
      ∀ (x_1 : Nat), True → ∀ (x_2 : Nat), x_1 ≠ x_2 ∧ True → (SM x_1 ∧ ifB (I4.b x == Z0) (SM x_1 ∧ ((I4.c x == Z0) = bif I4.b x == Z0 then I4.c x == Z0 else false) ∧ True) ((false = bif I4.b x == Z0 then I4.c x == Z0
      else false) ∧ True)) ∧ SM x_1 ∧ ifB (I4.a x == (2 : Int)) (SM x_2 ∧ (SM x_2 ∧ True) ∧ ∃ (y : Eff), offQ (plainC main x) y ∧ (eqOf (List UInt8) [] y.1 ∧ [(97 : UInt8)] = y.2 ∧ (bif I4.b x == Z0 then I4.c x == Z0
      else false) = Option.isSome (plainC main x) ∧ True) ∧ True ∧ True) (ifB (I4.a x == (3 : Int)) (ifB (I4.a x == (3 : Int)) (ifB (bif I4.b x == Z0 then I4.c x == Z0 else false) (SM x_2 ∧ (SM x_2 ∧ True) ∧ ∃ (y : Eff),
      offQ (plainC main x) y ∧ (eqOf (List UInt8) [] y.1 ∧ [(97 : UInt8)] = y.2 ∧ (!main) = Option.isSome (plainC main x) ∧ True) ∧ True ∧ True) (SM x_2 ∧ (SM x_2 ∧ True) ∧ ∃ (y : Eff), offQ (plainC main x) y ∧ (eqOf
      (List UInt8) [] y.1 ∧ [(97 : UInt8)] = y.2 ∧ false = Option.isSome (plainC main x) ∧ True) ∧ True ∧ True)) (ifB (I4.a x == (13 : Int)) (ifB (I4.a x == (13 : Int)) (ifB (bif I4.b x == Z0 then I4.c x == Z0 else
      false) (SM x_2 ∧ (SM x_2 ∧ True) ∧ ∃ (y : Eff), offQ (plainC main x) y ∧ (eqOf (List UInt8) [] y.1 ∧ [(102 : UInt8)] = y.2 ∧ (!main) = Option.isSome (plainC main x) ∧ True) ∧ True ∧ True) (SM x_2 ∧ (SM x_2 ∧ True)
      ∧ ∃ (y : Eff), offQ (plainC main x) y ∧ (eqOf (List UInt8) [] y.1 ∧ [(102 : UInt8)] = y.2 ∧ false = Option.isSome (plainC main x) ∧ True) ∧ True ∧ True)) (ifB (I4.a x == (19 : Int)) (SM x_2 ∧ (SM x_2 ∧ True) ∧ ∃ (y
      : Eff), offQ (plainC main x) y ∧ ([(97 : UInt8)] = y.1 ∧ [(102 : UInt8)] = y.2 ∧ (bif I4.b x == Z0 then I4.c x == Z0 else false) = Option.isSome (plainC main x) ∧ True) ∧ True ∧ True) (ifB (I4.a x == (20 : Int))
      (SM x_2 ∧ (SM x_2 ∧ True) ∧ ∃ (y : Eff), offQ (plainC main x) y ∧ ([(102 : UInt8), (102 : UInt8)] = y.1 ∧ [(102 : UInt8)] = y.2 ∧ (bif I4.b x == Z0 then I4.c x == Z0 else false) = Option.isSome (plainC main x) ∧
      True) ∧ True ∧ True) (ifB (I4.a x == (21 : Int)) (SM x_2 ∧ (SM x_2 ∧ True) ∧ ∃ (y : Eff), offQ (plainC main x) y ∧ ([(102 : UInt8), (102 : UInt8), (102 : UInt8)] = y.1 ∧ [(102 : UInt8)] = y.2 ∧ (bif I4.b x == Z0
      then I4.c x == Z0 else false) = Option.isSome (plainC main x) ∧ True) ∧ True ∧ True) (ifB (I4.a x == (22 : Int)) (SM x_2 ∧ (SM x_2 ∧ True) ∧ ∃ (y : Eff), offQ (plainC main x) y ∧ ([(102 : UInt8), (97 : UInt8)] =
      y.1 ∧ [(97 : UInt8)] = y.2 ∧ (bif I4.b x == Z0 then I4.c x == Z0 else false) = Option.isSome (plainC main x) ∧ True) ∧ True ∧ True) (ifB (I4.a x == (23 : Int)) (SM x_2 ∧ (SM x_2 ∧ True) ∧ ∃ (y : Eff), offQ (plainC
      main x) y ∧ ([(102 : UInt8), (97 : UInt8), (97 : UInt8)] = y.1 ∧ [(97 : UInt8)] = y.2 ∧ (bif I4.b x == Z0 then I4.c x == Z0 else false) = Option.isSome (plainC main x) ∧ True) ∧ True ∧ True) (ifB (I4.a x == (26 :
      Int)) (SM x_2 ∧ (SM x_2 ∧ True) ∧ ∃ (y : Eff), offQ (plainC main x) y ∧ ([(97 : UInt8)] = y.1 ∧ eqOf (List UInt8) [] y.2 ∧ (bif I4.b x == Z0 then I4.c x == Z0 else false) = Option.isSome (plainC main x) ∧ True) ∧
      True ∧ True) (ifB (I4.a x == (25 : Int)) (ifB main (SM x_2 ∧ (SM x_2 ∧ True) ∧ ∃ (y : Eff), offQ (plainC main x) y ∧ (eqOf (List UInt8) [] y.1 ∧ eqOf (List UInt8) [] y.2 ∧ (bif I4.b x == Z0 then I4.c x == Z0 else
      false) = Option.isSome (plainC main x) ∧ True) ∧ True ∧ True) (SM x_2 ∧ (SM x_2 ∧ True) ∧ ∃ (y : Eff), offQ (plainC main x) y ∧ ([(97 : UInt8)] = y.1 ∧ eqOf (List UInt8) [] y.2 ∧ (bif I4.b x == Z0 then I4.c x == Z0
      else false) = Option.isSome (plainC main x) ∧ True) ∧ True ∧ True)) (SM x_2 ∧ (SM x_2 ∧ True) ∧ ∃ (y : Eff), offQ (plainC main x) y ∧ (eqOf (List UInt8) [] y.1 ∧ eqOf (List UInt8) [] y.2 ∧ false = Option.isSome
      (plainC main x) ∧ True) ∧ True ∧ True))))))))) (ifB (I4.a x == (14 : Int)) (ifB (I4.a x == (14 : Int)) (ifB (bif I4.b x == Z0 then I4.c x == Z0 else false) (SM x_2 ∧ (SM x_2 ∧ True) ∧ ∃ (y : Eff), offQ (plainC main
      x) y ∧ (eqOf (List UInt8) [] y.1 ∧ [(102 : UInt8)] = y.2 ∧ (!main) = Option.isSome (plainC main x) ∧ True) ∧ True ∧ True) (SM x_2 ∧ (SM x_2 ∧ True) ∧ ∃ (y : Eff), offQ (plainC main x) y ∧ (eqOf (List UInt8) [] y.1
      ∧ [(102 : UInt8)] = y.2 ∧ false = Option.isSome (plainC main x) ∧ True) ∧ True ∧ True)) (ifB (I4.a x == (19 : Int)) (SM x_2 ∧ (SM x_2 ∧ True) ∧ ∃ (y : Eff), offQ (plainC main x) y ∧ ([(97 : UInt8)] = y.1 ∧ [(102 :
      UInt8)] = y.2 ∧ (bif I4.b x == Z0 then I4.c x == Z0 else false) = Option.isSome (plainC main x) ∧ True) ∧ True ∧ True) (ifB (I4.a x == (20 : Int)) (SM x_2 ∧ (SM x_2 ∧ True) ∧ ∃ (y : Eff), offQ (plainC main x) y ∧
      ([(102 : UInt8), (102 : UInt8)] = y.1 ∧ [(102 : UInt8)] = y.2 ∧ (bif I4.b x == Z0 then I4.c x == Z0 else false) = Option.isSome (plainC main x) ∧ True) ∧ True ∧ True) (ifB (I4.a x == (21 : Int)) (SM x_2 ∧ (SM x_2 ∧
      True) ∧ ∃ (y : Eff), offQ (plainC main x) y ∧ ([(102 : UInt8), (102 : UInt8), (102 : UInt8)] = y.1 ∧ [(102 : UInt8)] = y.2 ∧ (bif I4.b x == Z0 then I4.c x == Z0 else false) = Option.isSome (plainC main x) ∧ True) ∧
      True ∧ True) (ifB (I4.a x == (22 : Int)) (SM x_2 ∧ (SM x_2 ∧ True) ∧ ∃ (y : Eff), offQ (plainC main x) y ∧ ([(102 : UInt8), (97 : UInt8)] = y.1 ∧ [(97 : UInt8)] = y.2 ∧ (bif I4.b x == Z0 then I4.c x == Z0 else
      false) = Option.isSome (plainC main x) ∧ True) ∧ True ∧ True) (ifB (I4.a x == (23 : Int)) (SM x_2 ∧ (SM x_2 ∧ True) ∧ ∃ (y : Eff), offQ (plainC main x) y ∧ ([(102 : UInt8), (97 : UInt8), (97 : UInt8)] = y.1 ∧ [(97
      : UInt8)] = y.2 ∧ (bif I4.b x == Z0 then I4.c x == Z0 else false) = Option.isSome (plainC main x) ∧ True) ∧ True ∧ True) (ifB (I4.a x == (26 : Int)) (SM x_2 ∧ (SM x_2 ∧ True) ∧ ∃ (y : Eff), offQ (plainC main x) y ∧
      ([(97 : UInt8)] = y.1 ∧ eqOf (List UInt8) [] y.2 ∧ (bif I4.b x == Z0 then I4.c x == Z0 else false) = Option.isSome (plainC main x) ∧ True) ∧ True ∧ True) (ifB (I4.a x == (25 : Int)) (ifB main (SM x_2 ∧ (SM x_2 ∧
      True) ∧ ∃ (y : Eff), offQ (plainC main x) y ∧ (eqOf (List UInt8) [] y.1 ∧ eqOf (List UInt8) [] y.2 ∧ (bif I4.b x == Z0 then I4.c x == Z0 else false) = Option.isSome (plainC main x) ∧ True) ∧ True ∧ True) (SM x_2 ∧
      (SM x_2 ∧ True) ∧ ∃ (y : Eff), offQ (plainC main x) y ∧ ([(97 : UInt8)] = y.1 ∧ eqOf (List UInt8) [] y.2 ∧ (bif I4.b x == Z0 then I4.c x == Z0 else false) = Option.isSome (plainC main x) ∧ True) ∧ True ∧ True)) (SM
      x_2 ∧ (SM x_2 ∧ True) ∧ ∃ (y : Eff), offQ (plainC main x) y ∧ (eqOf (List UInt8) [] y.1 ∧ eqOf (List UInt8) [] y.2 ∧ false = Option.isSome (plainC main x) ∧ True) ∧ True ∧ True))))))))) (ifB (I4.a x == (15 : Int))
      (ifB (bif I4.b x == Z0 then I4.c x == Z0 else false) (SM x_2 ∧ (SM x_2 ∧ True) ∧ ∃ (y : Eff), offQ (plainC main x) y ∧ (eqOf (List UInt8) [] y.1 ∧ [(102 : UInt8)] = y.2 ∧ (!main) = Option.isSome (plainC main x) ∧
      True) ∧ True ∧ True) (SM x_2 ∧ (SM x_2 ∧ True) ∧ ∃ (y : Eff), offQ (plainC main x) y ∧ (eqOf (List UInt8) [] y.1 ∧ [(102 : UInt8)] = y.2 ∧ false = Option.isSome (plainC main x) ∧ True) ∧ True ∧ True)) (ifB (I4.a x
      == (19 : Int)) (SM x_2 ∧ (SM x_2 ∧ True) ∧ ∃ (y : Eff), offQ (plainC main x) y ∧ ([(97 : UInt8)] = y.1 ∧ [(102 : UInt8)] = y.2 ∧ (bif I4.b x == Z0 then I4.c x == Z0 else false) = Option.isSome (plainC main x) ∧
      True) ∧ True ∧ True) (ifB (I4.a x == (20 : Int)) (SM x_2 ∧ (SM x_2 ∧ True) ∧ ∃ (y : Eff), offQ (plainC main x) y ∧ ([(102 : UInt8), (102 : UInt8)] = y.1 ∧ [(102 : UInt8)] = y.2 ∧ (bif I4.b x == Z0 then I4.c x == Z0
      else false) = Option.isSome (plainC main x) ∧ True) ∧ True ∧ True) (ifB (I4.a x == (21 : Int)) (SM x_2 ∧ (SM x_2 ∧ True) ∧ ∃ (y : Eff), offQ (plainC main x) y ∧ ([(102 : UInt8), (102 : UInt8), (102 : UInt8)] = y.1
      ∧ [(102 : UInt8)] = y.2 ∧ (bif I4.b x == Z0 then I4.c x == Z0 else false) = Option.isSome (plainC main x) ∧ True) ∧ True ∧ True) (ifB (I4.a x == (22 : Int)) (SM x_2 ∧ (SM x_2 ∧ True) ∧ ∃ (y : Eff), offQ (plainC
      main x) y ∧ ([(102 : UInt8), (97 : UInt8)] = y.1 ∧ [(97 : UInt8)] = y.2 ∧ (bif I4.b x == Z0 then I4.c x == Z0 else false) = Option.isSome (plainC main x) ∧ True) ∧ True ∧ True) (ifB (I4.a x == (23 : Int)) (SM x_2 ∧
      (SM x_2 ∧ True) ∧ ∃ (y : Eff), offQ (plainC main x) y ∧ ([(102 : UInt8), (97 : UInt8), (97 : UInt8)] = y.1 ∧ [(97 : UInt8)] = y.2 ∧ (bif I4.b x == Z0 then I4.c x == Z0 else false) = Option.isSome (plainC main x) ∧
      True) ∧ True ∧ True) (ifB (I4.a x == (26 : Int)) (SM x_2 ∧ (SM x_2 ∧ True) ∧ ∃ (y : Eff), offQ (plainC main x) y ∧ ([(97 : UInt8)] = y.1 ∧ eqOf (List UInt8) [] y.2 ∧ (bif I4.b x == Z0 then I4.c x == Z0 else false)
      = Option.isSome (plainC main x) ∧ True) ∧ True ∧ True) (ifB (I4.a x == (25 : Int)) (ifB main (SM x_2 ∧ (SM x_2 ∧ True) ∧ ∃ (y : Eff), offQ (plainC main x) y ∧ (eqOf (List UInt8) [] y.1 ∧ eqOf (List UInt8) [] y.2 ∧
      (bif I4.b x == Z0 then I4.c x == Z0 else false) = Option.isSome (plainC main x) ∧ True) ∧ True ∧ True) (SM x_2 ∧ (SM x_2 ∧ True) ∧ ∃ (y : Eff), offQ (plainC main x) y ∧ ([(97 : UInt8)] = y.1 ∧ eqOf (List UInt8) []
      y.2 ∧ (bif I4.b x == Z0 then I4.c x == Z0 else false) = Option.isSome (plainC main x) ∧ True) ∧ True ∧ True)) (SM x_2 ∧ (SM x_2 ∧ True) ∧ ∃ (y : Eff), offQ (plainC main x) y ∧ (eqOf (List UInt8) [] y.1 ∧ eqOf (List
      UInt8) [] y.2 ∧ false = Option.isSome (plainC main x) ∧ True) ∧ True ∧ True)))))))))))) (ifB (I4.a x == (4 : Int)) (ifB (bif I4.b x == Z0 then I4.c x == Z0 else false) (SM x_2 ∧ (SM x_2 ∧ True) ∧ ∃ (y : Eff), offQ
      (plainC main x) y ∧ (eqOf (List UInt8) [] y.1 ∧ [(97 : UInt8)] = y.2 ∧ (!main) = Option.isSome (plainC main x) ∧ True) ∧ True ∧ True) (SM x_2 ∧ (SM x_2 ∧ True) ∧ ∃ (y : Eff), offQ (plainC main x) y ∧ (eqOf (List
      UInt8) [] y.1 ∧ [(97 : UInt8)] = y.2 ∧ false = Option.isSome (plainC main x) ∧ True) ∧ True ∧ True)) (ifB (I4.a x == (13 : Int)) (ifB (I4.a x == (13 : Int)) (ifB (bif I4.b x == Z0 then I4.c x == Z0 else false) (SM
      x_2 ∧ (SM x_2 ∧ True) ∧ ∃ (y : Eff), offQ (plainC main x) y ∧ (eqOf (List UInt8) [] y.1 ∧ [(102 : UInt8)] = y.2 ∧ (!main) = Option.isSome (plainC main x) ∧ True) ∧ True ∧ True) (SM x_2 ∧ (SM x_2 ∧ True) ∧ ∃ (y :
      Eff), offQ (plainC main x) y ∧ (eqOf (List UInt8) [] y.1 ∧ [(102 : UInt8)] = y.2 ∧ false = Option.isSome (plainC main x) ∧ True) ∧ True ∧ True)) (ifB (I4.a x == (19 : Int)) (SM x_2 ∧ (SM x_2 ∧ True) ∧ ∃ (y : Eff),
      offQ (plainC main x) y ∧ ([(97 : UInt8)] = y.1 ∧ [(102 : UInt8)] = y.2 ∧ (bif I4.b x == Z0 then I4.c x == Z0 else false) = Option.isSome (plainC main x) ∧ True) ∧ True ∧ True) (ifB (I4.a x == (20 : Int)) (SM x_2 ∧
      (SM x_2 ∧ True) ∧ ∃ (y : Eff), offQ (plainC main x) y ∧ ([(102 : UInt8), (102 : UInt8)] = y.1 ∧ [(102 : UInt8)] = y.2 ∧ (bif I4.b x == Z0 then I4.c x == Z0 else false) = Option.isSome (plainC main x) ∧ True) ∧ True
      ∧ True) (ifB (I4.a x == (21 : Int)) (SM x_2 ∧ (SM x_2 ∧ True) ∧ ∃ (y : Eff), offQ (plainC main x) y ∧ ([(102 : UInt8), (102 : UInt8), (102 : UInt8)] = y.1 ∧ [(102 : UInt8)] = y.2 ∧ (bif I4.b x == Z0 then I4.c x ==
      Z0 else false) = Option.isSome (plainC main x) ∧ True) ∧ True ∧ True) (ifB (I4.a x == (22 : Int)) (SM x_2 ∧ (SM x_2 ∧ True) ∧ ∃ (y : Eff), offQ (plainC main x) y ∧ ([(102 : UInt8), (97 : UInt8)] = y.1 ∧ [(97 :
      UInt8)] = y.2 ∧ (bif I4.b x == Z0 then I4.c x == Z0 else false) = Option.isSome (plainC main x) ∧ True) ∧ True ∧ True) (ifB (I4.a x == (23 : Int)) (SM x_2 ∧ (SM x_2 ∧ True) ∧ ∃ (y : Eff), offQ (plainC main x) y ∧
      ([(102 : UInt8), (97 : UInt8), (97 : UInt8)] = y.1 ∧ [(97 : UInt8)] = y.2 ∧ (bif I4.b x == Z0 then I4.c x == Z0 else false) = Option.isSome (plainC main x) ∧ True) ∧ True ∧ True) (ifB (I4.a x == (26 : Int)) (SM x_2
      ∧ (SM x_2 ∧ True) ∧ ∃ (y : Eff), offQ (plainC main x) y ∧ ([(97 : UInt8)] = y.1 ∧ eqOf (List UInt8) [] y.2 ∧ (bif I4.b x == Z0 then I4.c x == Z0 else false) = Option.isSome (plainC main x) ∧ True) ∧ True ∧ True)
      (ifB (I4.a x == (25 : Int)) (ifB main (SM x_2 ∧ (SM x_2 ∧ True) ∧ ∃ (y : Eff), offQ (plainC main x) y ∧ (eqOf (List UInt8) [] y.1 ∧ eqOf (List UInt8) [] y.2 ∧ (bif I4.b x == Z0 then I4.c x == Z0 else false) =
      Option.isSome (plainC main x) ∧ True) ∧ True ∧ True) (SM x_2 ∧ (SM x_2 ∧ True) ∧ ∃ (y : Eff), offQ (plainC main x) y ∧ ([(97 : UInt8)] = y.1 ∧ eqOf (List UInt8) [] y.2 ∧ (bif I4.b x == Z0 then I4.c x == Z0 else
      false) = Option.isSome (plainC main x) ∧ True) ∧ True ∧ True)) (SM x_2 ∧ (SM x_2 ∧ True) ∧ ∃ (y : Eff), offQ (plainC main x) y ∧ (eqOf (List UInt8) [] y.1 ∧ eqOf (List UInt8) [] y.2 ∧ false = Option.isSome (plainC
      main x) ∧ True) ∧ True ∧ True))))))))) (ifB (I4.a x == (14 : Int)) (ifB (I4.a x == (14 : Int)) (ifB (bif I4.b x == Z0 then I4.c x == Z0 else false) (SM x_2 ∧ (SM x_2 ∧ True) ∧ ∃ (y : Eff), offQ (plainC main x) y ∧
      (eqOf (List UInt8) [] y.1 ∧ [(102 : UInt8)] = y.2 ∧ (!main) = Option.isSome (plainC main x) ∧ True) ∧ True ∧ True) (SM x_2 ∧ (SM x_2 ∧ True) ∧ ∃ (y : Eff), offQ (plainC main x) y ∧ (eqOf (List UInt8) [] y.1 ∧ [(102
      : UInt8)] = y.2 ∧ false = Option.isSome (plainC main x) ∧ True) ∧ True ∧ True)) (ifB (I4.a x == (19 : Int)) (SM x_2 ∧ (SM x_2 ∧ True) ∧ ∃ (y : Eff), offQ (plainC main x) y ∧ ([(97 : UInt8)] = y.1 ∧ [(102 : UInt8)]
      = y.2 ∧ (bif I4.b x == Z0 then I4.c x == Z0 else false) = Option.isSome (plainC main x) ∧ True) ∧ True ∧ True) (ifB (I4.a x == (20 : Int)) (SM x_2 ∧ (SM x_2 ∧ True) ∧ ∃ (y : Eff), offQ (plainC main x) y ∧ ([(102 :
      UInt8), (102 : UInt8)] = y.1 ∧ [(102 : UInt8)] = y.2 ∧ (bif I4.b x == Z0 then I4.c x == Z0 else false) = Option.isSome (plainC main x) ∧ True) ∧ True ∧ True) (ifB (I4.a x == (21 : Int)) (SM x_2 ∧ (SM x_2 ∧ True) ∧
      ∃ (y : Eff), offQ (plainC main x) y ∧ ([(102 : UInt8), (102 : UInt8), (102 : UInt8)] = y.1 ∧ [(102 : UInt8)] = y.2 ∧ (bif I4.b x == Z0 then I4.c x == Z0 else false) = Option.isSome (plainC main x) ∧ True) ∧ True ∧
      True) (ifB (I4.a x == (22 : Int)) (SM x_2 ∧ (SM x_2 ∧ True) ∧ ∃ (y : Eff), offQ (plainC main x) y ∧ ([(102 : UInt8), (97 : UInt8)] = y.1 ∧ [(97 : UInt8)] = y.2 ∧ (bif I4.b x == Z0 then I4.c x == Z0 else false) =
      Option.isSome (plainC main x) ∧ True) ∧ True ∧ True) (ifB (I4.a x == (23 : Int)) (SM x_2 ∧ (SM x_2 ∧ True) ∧ ∃ (y : Eff), offQ (plainC main x) y ∧ ([(102 : UInt8), (97 : UInt8), (97 : UInt8)] = y.1 ∧ [(97 : UInt8)]
      = y.2 ∧ (bif I4.b x == Z0 then I4.c x == Z0 else false) = Option.isSome (plainC main x) ∧ True) ∧ True ∧ True) (ifB (I4.a x == (26 : Int)) (SM x_2 ∧ (SM x_2 ∧ True) ∧ ∃ (y : Eff), offQ (plainC main x) y ∧ ([(97 :
      UInt8)] = y.1 ∧ eqOf (List UInt8) [] y.2 ∧ (bif I4.b x == Z0 then I4.c x == Z0 else false) = Option.isSome (plainC main x) ∧ True) ∧ True ∧ True) (ifB (I4.a x == (25 : Int)) (ifB main (SM x_2 ∧ (SM x_2 ∧ True) ∧ ∃
      (y : Eff), offQ (plainC main x) y ∧ (eqOf (List UInt8) [] y.1 ∧ eqOf (List UInt8) [] y.2 ∧ (bif I4.b x == Z0 then I4.c x == Z0 else false) = Option.isSome (plainC main x) ∧ True) ∧ True ∧ True) (SM x_2 ∧ (SM x_2 ∧
      True) ∧ ∃ (y : Eff), offQ (plainC main x) y ∧ ([(97 : UInt8)] = y.1 ∧ eqOf (List UInt8) [] y.2 ∧ (bif I4.b x == Z0 then I4.c x == Z0 else false) = Option.isSome (plainC main x) ∧ True) ∧ True ∧ True)) (SM x_2 ∧ (SM
      x_2 ∧ True) ∧ ∃ (y : Eff), offQ (plainC main x) y ∧ (eqOf (List UInt8) [] y.1 ∧ eqOf (List UInt8) [] y.2 ∧ false = Option.isSome (plainC main x) ∧ True) ∧ True ∧ True))))))))) (ifB (I4.a x == (15 : Int)) (ifB (bif
      I4.b x == Z0 then I4.c x == Z0 else false) (SM x_2 ∧ (SM x_2 ∧ True) ∧ ∃ (y : Eff), offQ (plainC main x) y ∧ (eqOf (List UInt8) [] y.1 ∧ [(102 : UInt8)] = y.2 ∧ (!main) = Option.isSome (plainC main x) ∧ True) ∧
      True ∧ True) (SM x_2 ∧ (SM x_2 ∧ True) ∧ ∃ (y : Eff), offQ (plainC main x) y ∧ (eqOf (List UInt8) [] y.1 ∧ [(102 : UInt8)] = y.2 ∧ false = Option.isSome (plainC main x) ∧ True) ∧ True ∧ True)) (ifB (I4.a x == (19 :
      Int)) (SM x_2 ∧ (SM x_2 ∧ True) ∧ ∃ (y : Eff), offQ (plainC main x) y ∧ ([(97 : UInt8)] = y.1 ∧ [(102 : UInt8)] = y.2 ∧ (bif I4.b x == Z0 then I4.c x == Z0 else false) = Option.isSome (plainC main x) ∧ True) ∧ True
      ∧ True) (ifB (I4.a x == (20 : Int)) (SM x_2 ∧ (SM x_2 ∧ True) ∧ ∃ (y : Eff), offQ (plainC main x) y ∧ ([(102 : UInt8), (102 : UInt8)] = y.1 ∧ [(102 : UInt8)] = y.2 ∧ (bif I4.b x == Z0 then I4.c x == Z0 else false)
      = Option.isSome (plainC main x) ∧ True) ∧ True ∧ True) (ifB (I4.a x == (21 : Int)) (SM x_2 ∧ (SM x_2 ∧ True) ∧ ∃ (y : Eff), offQ (plainC main x) y ∧ ([(102 : UInt8), (102 : UInt8), (102 : UInt8)] = y.1 ∧ [(102 :
      UInt8)] = y.2 ∧ (bif I4.b x == Z0 then I4.c x == Z0 else false) = Option.isSome (plainC main x) ∧ True) ∧ True ∧ True) (ifB (I4.a x == (22 : Int)) (SM x_2 ∧ (SM x_2 ∧ True) ∧ ∃ (y : Eff), offQ (plainC main x) y ∧
      ([(102 : UInt8), (97 : UInt8)] = y.1 ∧ [(97 : UInt8)] = y.2 ∧ (bif I4.b x == Z0 then I4.c x == Z0 else false) = Option.isSome (plainC main x) ∧ True) ∧ True ∧ True) (ifB (I4.a x == (23 : Int)) (SM x_2 ∧ (SM x_2 ∧
      True) ∧ ∃ (y : Eff), offQ (plainC main x) y ∧ ([(102 : UInt8), (97 : UInt8), (97 : UInt8)] = y.1 ∧ [(97 : UInt8)] = y.2 ∧ (bif I4.b x == Z0 then I4.c x == Z0 else false) = Option.isSome (plainC main x) ∧ True) ∧
      True ∧ True) (ifB (I4.a x == (26 : Int)) (SM x_2 ∧ (SM x_2 ∧ True) ∧ ∃ (y : Eff), offQ (plainC main x) y ∧ ([(97 : UInt8)] = y.1 ∧ eqOf (List UInt8) [] y.2 ∧ (bif I4.b x == Z0 then I4.c x == Z0 else false) =
      Option.isSome (plainC main x) ∧ True) ∧ True ∧ True) (ifB (I4.a x == (25 : Int)) (ifB main (SM x_2 ∧ (SM x_2 ∧ True) ∧ ∃ (y : Eff), offQ (plainC main x) y ∧ (eqOf (List UInt8) [] y.1 ∧ eqOf (List UInt8) [] y.2 ∧
      (bif I4.b x == Z0 then I4.c x == Z0 else false) = Option.isSome (plainC main x) ∧ True) ∧ True ∧ True) (SM x_2 ∧ (SM x_2 ∧ True) ∧ ∃ (y : Eff), offQ (plainC main x) y ∧ ([(97 : UInt8)] = y.1 ∧ eqOf (List UInt8) []
      y.2 ∧ (bif I4.b x == Z0 then I4.c x == Z0 else false) = Option.isSome (plainC main x) ∧ True) ∧ True ∧ True)) (SM x_2 ∧ (SM x_2 ∧ True) ∧ ∃ (y : Eff), offQ (plainC main x) y ∧ (eqOf (List UInt8) [] y.1 ∧ eqOf (List
      UInt8) [] y.2 ∧ false = Option.isSome (plainC main x) ∧ True) ∧ True ∧ True)))))))))))))) (by kernel_rfl) ?_
  delta SM Z0
  simp only [ifB_iff, side_iff, decide_eq_true_eq, decide_eq_false_iff_not, true_and, and_true, beq_iff_eq, Bool.cond_false_right, Bool.and_eq_true, Bool.and_eq_false_iff, beq_eq_false_iff_ne, ne_eq]
  repeat' (first
    | refine off_leaf ?_
    | (refine And.intro ?_ ?_)
    | intro _)
  all_goals (first | (simp_all [plainC, plainS, gu]; done) | (cases main <;> simp_all [plainC, plainS, gu]; done) | grind [plainC, plainS, gu] | skip)
def conRE : Con := fun k ds S => match k with
  | 90 => match ds with
    | [.agg [.int .i64 a, .int .i64 b, .int .i64 c, .int .i64 d], .bool m] => some (pQ [.agg (I4.row ⟨a, b, c, d⟩), .bool m] (offD (plainC m ⟨a, b, c, d⟩)) (offQ (plainC m ⟨a, b, c, d⟩)) True)
    | _ => none
  | k => conR2 k ds S
theorem conRE_ok : ConOk Try.prog conRE := by
  intro k ds S A h
  unfold conRE at h
  split at h
  · split at h
    · injection h with h; subst h
      exact pQ_ok fun _ => ⟨weakL_refl _, rplain_ok ⟨_, _, _, _⟩ _⟩
    · cases h
  · exact conR2_ok _ _ _ _ h
noncomputable def Erof : Senv := EC conRE 242 4 [5, 6, 8, 9, 24, 35, 46, 64, 74, 80, 91, 102, 113, 128, 139, 153, 167, 177, 183, 202, 227] (fun id => match id with | 9 => ([0, 1, 2, 3, 4, 5, 6, 7, 8, 9, 10, 11, 12, 13, 14, 15, 16], [13, 16]) | 33 => ([0, 1, 2, 3, 4, 5, 6, 7, 8, 9, 10, 11, 12, 13, 14, 15, 16, 17], [14, 17]) | _ => ([], []))
set_option maxHeartbeats 4000000 in
theorem rof_ok (c : CodD) (f : Nat) (x : I4) (hf : f < c.funs.length) (hc : c.ok) (hx : x.ok) : ACalls Try.prog 69 [.agg c.row, .int .i64 f, .agg x.row] ⟨[], []⟩ (SpecR (pQ [.agg c.row, .int .i64 f, .agg x.row] (offD (effC c f x)) (offQ (effC c f x)) True) ()) := by
  refine con_of (A := pQ _ _ _ _) (x := ()) (E := Erof) (eOk conRE_ok rfl) Try.func69 rfl (by kernel_rfl) rfl (by simp [pQ, Erof, EC, E0]) ?_
  have hm : ∀ n : Nat, n ≤ maxLen → IntKind.i64.wrap ((n : Int) - 1) = (n : Int) - 1 := fun n hn => by simp only [maxLen] at hn; exact wrap_i64' (by omega) (by omega)
  obtain ⟨_, h2, h3, _, l1, l2, l3, _⟩ := hc
  have hfo := getD_ok h2 hf
  have w1 := hm _ l1
  have w2 := hm _ l2
  have w3 := hm _ l3
  have w4 := hm _ hfo.2.2
  have hk : ∀ i : Nat, i < c.kers.length → inI64 (c.kers.getD i default).inputs := fun i hi => (getD_ok h3 hi).1
  have de : (default : FnD) = ⟨0, []⟩ := rfl
  have dk : (default : KeD) = ⟨0, [], 0, 0⟩ := rfl
  have e0 : ((f : Int) == 0) = decide (f = 0) := by
    by_cases e : f = 0
    · subst e; rfl
    · simp [e]
  have wb : IntKind.i64.wrap x.b = x.b := wrap_i64' hx.2.1.1 hx.2.1.2
  refine vc_eq (T :=
      ∀ (x_1 : Nat), True → ∀ (x_2 : Nat), x_1 ≠ x_2 ∧ True → ∀ (x_3 : Nat), x_2 ≠ x_3 ∧ x_1 ≠ x_3 ∧ True → SM x_2 ∧ ifB (I4.a x == Z1) (SM x_2 ∧ ifB (I4.c x == Z0) (SM x_2 ∧ SM x_1 ∧ ifB (decide (Z0 ≤ I4.b x)) ((decide
      (I4.b x ≤ IntKind.wrap IntKind.i64 ((LI (CodD.consts c)) - Z1)) = bif decide (Z0 ≤ I4.b x) then decide (I4.b x ≤ IntKind.wrap IntKind.i64 ((LI (CodD.consts c)) - Z1)) else false) ∧ True) ((false = bif decide (Z0 ≤
      I4.b x) then decide (I4.b x ≤ IntKind.wrap IntKind.i64 ((LI (CodD.consts c)) - Z1)) else false) ∧ True) ∧ True ∧ SM x_3 ∧ (SM x_3 ∧ True) ∧ ∃ (y : Eff), offQ (effC c f x) y ∧ (eqOf (List UInt8) [] y.1 ∧ [(97 :
      UInt8)] = y.2 ∧ (bif decide (Z0 ≤ I4.b x) then decide (I4.b x ≤ IntKind.wrap IntKind.i64 ((LI (CodD.consts c)) - Z1)) else false) = Option.isSome (effC c f x) ∧ True) ∧ True ∧ True) (SM x_3 ∧ (SM x_3 ∧ True) ∧ ∃ (y
      : Eff), offQ (effC c f x) y ∧ (eqOf (List UInt8) [] y.1 ∧ [(97 : UInt8)] = y.2 ∧ false = Option.isSome (effC c f x) ∧ True) ∧ True ∧ True)) (ifB (I4.a x == (5 : Int)) (SM x_2 ∧ ifB (decide (Z0 ≤ I4.b x)) (SM x_2 ∧
      SM x_3 ∧ (SM x_3 ∧ True) ∧ ∃ (y : Eff), offQ (effC c f x) y ∧ (eqOf (List UInt8) [] y.1 ∧ [(97 : UInt8)] = y.2 ∧ decide (Z0 ≤ I4.c x) = Option.isSome (effC c f x) ∧ True) ∧ True ∧ True) (SM x_3 ∧ (SM x_3 ∧ True) ∧
      ∃ (y : Eff), offQ (effC c f x) y ∧ (eqOf (List UInt8) [] y.1 ∧ [(97 : UInt8)] = y.2 ∧ false = Option.isSome (effC c f x) ∧ True) ∧ True ∧ True)) (ifB (I4.a x == (12 : Int)) (SM x_2 ∧ ifB (decide (Z0 ≤ I4.b x)) (SM
      x_2 ∧ SM x_3 ∧ (SM x_3 ∧ True) ∧ ∃ (y : Eff), offQ (effC c f x) y ∧ (eqOf (List UInt8) [] y.1 ∧ [(102 : UInt8)] = y.2 ∧ decide (Z0 ≤ I4.c x) = Option.isSome (effC c f x) ∧ True) ∧ True ∧ True) (SM x_3 ∧ (SM x_3 ∧
      True) ∧ ∃ (y : Eff), offQ (effC c f x) y ∧ (eqOf (List UInt8) [] y.1 ∧ [(102 : UInt8)] = y.2 ∧ false = Option.isSome (effC c f x) ∧ True) ∧ True ∧ True)) (ifB (I4.a x == (6 : Int)) (SM x_2 ∧ ifB (I4.c x == Z0) (SM
      x_2 ∧ SM x_1 ∧ side (Z0 ≤ (↑f : Int) ∧ (↑f : Int) < (LI (CodD.funs c))) (ifB (decide (Z0 ≤ I4.b x)) ((decide (I4.b x ≤ IntKind.wrap IntKind.i64 (FnD.slots (GF c (Int.toNat (↑f : Int))) - Z1)) = bif decide (Z0 ≤
      I4.b x) then decide (I4.b x ≤ IntKind.wrap IntKind.i64 (FnD.slots (GF c (Int.toNat (↑f : Int))) - Z1)) else false) ∧ True) ((false = bif decide (Z0 ≤ I4.b x) then decide (I4.b x ≤ IntKind.wrap IntKind.i64
      (FnD.slots (GF c (Int.toNat (↑f : Int))) - Z1)) else false) ∧ True) ∧ True ∧ SM x_3 ∧ (SM x_3 ∧ True) ∧ ∃ (y : Eff), offQ (effC c f x) y ∧ ([(42 : UInt8)] = y.1 ∧ eqOf (List UInt8) [] y.2 ∧ (bif decide (Z0 ≤ I4.b
      x) then decide (I4.b x ≤ IntKind.wrap IntKind.i64 (FnD.slots (GF c (Int.toNat (↑f : Int))) - Z1)) else false) = Option.isSome (effC c f x) ∧ True) ∧ True ∧ True)) (SM x_3 ∧ (SM x_3 ∧ True) ∧ ∃ (y : Eff), offQ (effC
      c f x) y ∧ ([(42 : UInt8)] = y.1 ∧ eqOf (List UInt8) [] y.2 ∧ false = Option.isSome (effC c f x) ∧ True) ∧ True ∧ True)) (ifB (I4.a x == (7 : Int)) (SM x_2 ∧ ifB (I4.c x != Z0) (SM x_3 ∧ (SM x_3 ∧ True) ∧ ∃ (y :
      Eff), offQ (effC c f x) y ∧ (eqOf (List UInt8) [] y.1 ∧ eqOf (List UInt8) [] y.2 ∧ false = Option.isSome (effC c f x) ∧ True) ∧ True ∧ True) (SM x_2 ∧ ifB (decide ((2 : Int) ≤ I4.b x)) ((decide (I4.b x ≤ (1000 :
      Int)) = bif decide ((2 : Int) ≤ I4.b x) then decide (I4.b x ≤ (1000 : Int)) else false) ∧ True) ((false = bif decide ((2 : Int) ≤ I4.b x) then decide (I4.b x ≤ (1000 : Int)) else false) ∧ True) ∧ True ∧ ifB (!bif
      decide ((2 : Int) ≤ I4.b x) then decide (I4.b x ≤ (1000 : Int)) else false) (SM x_3 ∧ (SM x_3 ∧ True) ∧ ∃ (y : Eff), offQ (effC c f x) y ∧ (eqOf (List UInt8) [] y.1 ∧ eqOf (List UInt8) [] y.2 ∧ false =
      Option.isSome (effC c f x) ∧ True) ∧ True ∧ True) (SM x_2 ∧ (Z0 ≤ I4.b x ∧ I4.b x ≤ (1000 : Int) ∧ SM N1) ∧ ∀ (y : Unit), True → SM x_3 ∧ (SM x_3 ∧ True) ∧ ∃ (y : Eff), offQ (effC c f x) y ∧ (Lib.repeatL [(97 :
      UInt8)] (Int.toNat (I4.b x)) = y.1 ∧ [(97 : UInt8)] = y.2 ∧ true = Option.isSome (effC c f x) ∧ True) ∧ True ∧ True))) (ifB (I4.a x == (8 : Int)) (SM x_2 ∧ ifB (I4.c x == Z0) (SM x_2 ∧ ifB (decide (Z1 ≤ I4.b x))
      ((decide (I4.b x ≤ (55 : Int)) = bif decide (Z1 ≤ I4.b x) then decide (I4.b x ≤ (55 : Int)) else false) ∧ True) ((false = bif decide (Z1 ≤ I4.b x) then decide (I4.b x ≤ (55 : Int)) else false) ∧ True) ∧ True ∧ True
      ∧ SM x_3 ∧ (SM x_3 ∧ True) ∧ ∃ (y : Eff), offQ (effC c f x) y ∧ ([(97 : UInt8)] = y.1 ∧ [(97 : UInt8)] = y.2 ∧ (bif decide (Z1 ≤ I4.b x) then decide (I4.b x ≤ (55 : Int)) else false) = Option.isSome (effC c f x) ∧
      True) ∧ True ∧ True) (SM x_3 ∧ (SM x_3 ∧ True) ∧ ∃ (y : Eff), offQ (effC c f x) y ∧ ([(97 : UInt8)] = y.1 ∧ [(97 : UInt8)] = y.2 ∧ false = Option.isSome (effC c f x) ∧ True) ∧ True ∧ True)) (ifB (I4.a x == (9 :
      Int)) (SM x_2 ∧ ifB (I4.c x == Z0) (SM x_2 ∧ ifB (decide (Z1 ≤ I4.b x)) ((decide (I4.b x ≤ (55 : Int)) = bif decide (Z1 ≤ I4.b x) then decide (I4.b x ≤ (55 : Int)) else false) ∧ True) ((false = bif decide (Z1 ≤
      I4.b x) then decide (I4.b x ≤ (55 : Int)) else false) ∧ True) ∧ True ∧ True ∧ SM x_3 ∧ (SM x_3 ∧ True) ∧ ∃ (y : Eff), offQ (effC c f x) y ∧ ([(97 : UInt8), (97 : UInt8)] = y.1 ∧ [(97 : UInt8)] = y.2 ∧ (bif decide
      (Z1 ≤ I4.b x) then decide (I4.b x ≤ (55 : Int)) else false) = Option.isSome (effC c f x) ∧ True) ∧ True ∧ True) (SM x_3 ∧ (SM x_3 ∧ True) ∧ ∃ (y : Eff), offQ (effC c f x) y ∧ ([(97 : UInt8), (97 : UInt8)] = y.1 ∧
      [(97 : UInt8)] = y.2 ∧ false = Option.isSome (effC c f x) ∧ True) ∧ True ∧ True)) (ifB (I4.a x == (10 : Int)) (SM x_2 ∧ ifB (I4.c x == Z0) (SM x_2 ∧ ifB (decide (Z1 ≤ I4.b x)) ((decide (I4.b x ≤ (55 : Int)) = bif
      decide (Z1 ≤ I4.b x) then decide (I4.b x ≤ (55 : Int)) else false) ∧ True) ((false = bif decide (Z1 ≤ I4.b x) then decide (I4.b x ≤ (55 : Int)) else false) ∧ True) ∧ True ∧ True ∧ SM x_3 ∧ (SM x_3 ∧ True) ∧ ∃ (y :
      Eff), offQ (effC c f x) y ∧ (eqOf (List UInt8) [] y.1 ∧ [(102 : UInt8)] = y.2 ∧ (bif decide (Z1 ≤ I4.b x) then decide (I4.b x ≤ (55 : Int)) else false) = Option.isSome (effC c f x) ∧ True) ∧ True ∧ True) (SM x_3 ∧
      (SM x_3 ∧ True) ∧ ∃ (y : Eff), offQ (effC c f x) y ∧ (eqOf (List UInt8) [] y.1 ∧ [(102 : UInt8)] = y.2 ∧ false = Option.isSome (effC c f x) ∧ True) ∧ True ∧ True)) (ifB (I4.a x == (11 : Int)) (SM x_2 ∧ ifB (I4.c x
      == Z0) (SM x_2 ∧ SM x_1 ∧ ifB (decide (Z1 ≤ I4.b x)) ((decide (I4.b x ≤ IntKind.wrap IntKind.i64 ((LI (CodD.funs c)) - Z1)) = bif decide (Z1 ≤ I4.b x) then decide (I4.b x ≤ IntKind.wrap IntKind.i64 ((LI (CodD.funs
      c)) - Z1)) else false) ∧ True) ((false = bif decide (Z1 ≤ I4.b x) then decide (I4.b x ≤ IntKind.wrap IntKind.i64 ((LI (CodD.funs c)) - Z1)) else false) ∧ True) ∧ True ∧ SM x_3 ∧ (SM x_3 ∧ True) ∧ ∃ (y : Eff), offQ
      (effC c f x) y ∧ (eqOf (List UInt8) [] y.1 ∧ [(102 : UInt8)] = y.2 ∧ (bif decide (Z1 ≤ I4.b x) then decide (I4.b x ≤ IntKind.wrap IntKind.i64 ((LI (CodD.funs c)) - Z1)) else false) = Option.isSome (effC c f x) ∧
      True) ∧ True ∧ True) (SM x_3 ∧ (SM x_3 ∧ True) ∧ ∃ (y : Eff), offQ (effC c f x) y ∧ (eqOf (List UInt8) [] y.1 ∧ [(102 : UInt8)] = y.2 ∧ false = Option.isSome (effC c f x) ∧ True) ∧ True ∧ True)) (ifB (I4.a x == (16
      : Int)) (SM x_2 ∧ ifB (I4.c x == Z0) (SM x_2 ∧ ifB (decide (Z1 ≤ I4.b x)) ((decide (I4.b x ≤ (5 : Int)) = bif decide (Z1 ≤ I4.b x) then decide (I4.b x ≤ (5 : Int)) else false) ∧ True) ((false = bif decide (Z1 ≤
      I4.b x) then decide (I4.b x ≤ (5 : Int)) else false) ∧ True) ∧ True ∧ SM x_3 ∧ (SM x_3 ∧ True) ∧ ∃ (y : Eff), offQ (effC c f x) y ∧ ([(102 : UInt8)] = y.1 ∧ [(102 : UInt8)] = y.2 ∧ (bif decide (Z1 ≤ I4.b x) then
      decide (I4.b x ≤ (5 : Int)) else false) = Option.isSome (effC c f x) ∧ True) ∧ True ∧ True) (SM x_3 ∧ (SM x_3 ∧ True) ∧ ∃ (y : Eff), offQ (effC c f x) y ∧ ([(102 : UInt8)] = y.1 ∧ [(102 : UInt8)] = y.2 ∧ false =
      Option.isSome (effC c f x) ∧ True) ∧ True ∧ True)) (ifB (I4.a x == (17 : Int)) ((SM x_2 ∧ ifB (I4.b x == (6 : Int)) ((true = bif bif I4.b x == (6 : Int) then true else I4.b x == (10 : Int) then true else I4.b x ==
      (11 : Int)) ∧ True) (SM x_2 ∧ ifB (I4.b x == (10 : Int)) ((true = bif bif I4.b x == (6 : Int) then true else I4.b x == (10 : Int) then true else I4.b x == (11 : Int)) ∧ True) (SM x_2 ∧ ((I4.b x == (11 : Int)) = bif
      bif I4.b x == (6 : Int) then true else I4.b x == (10 : Int) then true else I4.b x == (11 : Int)) ∧ True))) ∧ ifB (bif bif I4.b x == (6 : Int) then true else I4.b x == (10 : Int) then true else I4.b x == (11 : Int))
      (SM x_2 ∧ SM x_3 ∧ (SM x_3 ∧ True) ∧ ∃ (y : Eff), offQ (effC c f x) y ∧ ([(102 : UInt8), (102 : UInt8)] = y.1 ∧ [(102 : UInt8)] = y.2 ∧ (I4.c x == Z1) = Option.isSome (effC c f x) ∧ True) ∧ True ∧ True) (SM x_2 ∧
      ifB (I4.c x == Z0) (SM x_2 ∧ ifB (decide ((7 : Int) ≤ I4.b x)) ((decide (I4.b x ≤ (9 : Int)) = bif decide ((7 : Int) ≤ I4.b x) then decide (I4.b x ≤ (9 : Int)) else false) ∧ True) ((false = bif decide ((7 : Int) ≤
      I4.b x) then decide (I4.b x ≤ (9 : Int)) else false) ∧ True) ∧ True ∧ SM x_3 ∧ (SM x_3 ∧ True) ∧ ∃ (y : Eff), offQ (effC c f x) y ∧ ([(102 : UInt8), (97 : UInt8)] = y.1 ∧ [(102 : UInt8)] = y.2 ∧ (bif decide ((7 :
      Int) ≤ I4.b x) then decide (I4.b x ≤ (9 : Int)) else false) = Option.isSome (effC c f x) ∧ True) ∧ True ∧ True) (SM x_3 ∧ (SM x_3 ∧ True) ∧ ∃ (y : Eff), offQ (effC c f x) y ∧ ([(102 : UInt8), (97 : UInt8)] = y.1 ∧
      [(102 : UInt8)] = y.2 ∧ false = Option.isSome (effC c f x) ∧ True) ∧ True ∧ True))) (ifB (I4.a x == (18 : Int)) (SM x_2 ∧ ifB (I4.c x != Z0) (SM x_3 ∧ (SM x_3 ∧ True) ∧ ∃ (y : Eff), offQ (effC c f x) y ∧ (eqOf
      (List UInt8) [] y.1 ∧ eqOf (List UInt8) [] y.2 ∧ false = Option.isSome (effC c f x) ∧ True) ∧ True ∧ True) (SM x_2 ∧ ifB (decide ((2 : Int) ≤ I4.b x)) ((decide (I4.b x ≤ (3 : Int)) = bif decide ((2 : Int) ≤ I4.b x)
      then decide (I4.b x ≤ (3 : Int)) else false) ∧ True) ((false = bif decide ((2 : Int) ≤ I4.b x) then decide (I4.b x ≤ (3 : Int)) else false) ∧ True) ∧ True ∧ ifB (!bif decide ((2 : Int) ≤ I4.b x) then decide (I4.b x
      ≤ (3 : Int)) else false) (SM x_3 ∧ (SM x_3 ∧ True) ∧ ∃ (y : Eff), offQ (effC c f x) y ∧ (eqOf (List UInt8) [] y.1 ∧ eqOf (List UInt8) [] y.2 ∧ false = Option.isSome (effC c f x) ∧ True) ∧ True ∧ True) (SM x_2 ∧ (Z0
      ≤ I4.b x ∧ I4.b x ≤ (1000 : Int) ∧ SM N1) ∧ ∀ (y : Unit), True → SM x_3 ∧ (SM x_3 ∧ True) ∧ ∃ (y : Eff), offQ (effC c f x) y ∧ (Lib.repeatL [(102 : UInt8)] (Int.toNat (I4.b x)) = y.1 ∧ [(102 : UInt8)] = y.2 ∧ true
      = Option.isSome (effC c f x) ∧ True) ∧ True ∧ True))) (ifB (I4.a x == (24 : Int)) (SM x_2 ∧ ifB (I4.c x == Z0) (SM x_2 ∧ SM x_1 ∧ side (Z0 ≤ (↑f : Int) ∧ (↑f : Int) < (LI (CodD.funs c))) (ifB (decide (Z0 ≤ I4.b x))
      ((decide (I4.b x ≤ IntKind.wrap IntKind.i64 ((LI (FnD.code (GF c (Int.toNat (↑f : Int))))) - Z1)) = bif decide (Z0 ≤ I4.b x) then decide (I4.b x ≤ IntKind.wrap IntKind.i64 ((LI (FnD.code (GF c (Int.toNat (↑f :
      Int))))) - Z1)) else false) ∧ True) ((false = bif decide (Z0 ≤ I4.b x) then decide (I4.b x ≤ IntKind.wrap IntKind.i64 ((LI (FnD.code (GF c (Int.toNat (↑f : Int))))) - Z1)) else false) ∧ True) ∧ True ∧ SM x_3 ∧ (SM
      x_3 ∧ True) ∧ ∃ (y : Eff), offQ (effC c f x) y ∧ ([(97 : UInt8)] = y.1 ∧ eqOf (List UInt8) [] y.2 ∧ (bif decide (Z0 ≤ I4.b x) then decide (I4.b x ≤ IntKind.wrap IntKind.i64 ((LI (FnD.code (GF c (Int.toNat (↑f :
      Int))))) - Z1)) else false) = Option.isSome (effC c f x) ∧ True) ∧ True ∧ True)) (SM x_3 ∧ (SM x_3 ∧ True) ∧ ∃ (y : Eff), offQ (effC c f x) y ∧ ([(97 : UInt8)] = y.1 ∧ eqOf (List UInt8) [] y.2 ∧ false =
      Option.isSome (effC c f x) ∧ True) ∧ True ∧ True)) (ifB (I4.a x == (27 : Int)) (SM x_2 ∧ ifB (I4.c x != Z0) (SM x_3 ∧ (SM x_3 ∧ True) ∧ ∃ (y : Eff), offQ (effC c f x) y ∧ (eqOf (List UInt8) [] y.1 ∧ eqOf (List
      UInt8) [] y.2 ∧ false = Option.isSome (effC c f x) ∧ True) ∧ True ∧ True) (SM x_2 ∧ SM x_1 ∧ ifB (decide (Z0 ≤ I4.b x)) ((decide (I4.b x ≤ IntKind.wrap IntKind.i64 ((LI (CodD.kers c)) - Z1)) = bif decide (Z0 ≤ I4.b
      x) then decide (I4.b x ≤ IntKind.wrap IntKind.i64 ((LI (CodD.kers c)) - Z1)) else false) ∧ True) ((false = bif decide (Z0 ≤ I4.b x) then decide (I4.b x ≤ IntKind.wrap IntKind.i64 ((LI (CodD.kers c)) - Z1)) else
      false) ∧ True) ∧ True ∧ ifB (!bif decide (Z0 ≤ I4.b x) then decide (I4.b x ≤ IntKind.wrap IntKind.i64 ((LI (CodD.kers c)) - Z1)) else false) (SM x_3 ∧ (SM x_3 ∧ True) ∧ ∃ (y : Eff), offQ (effC c f x) y ∧ (eqOf
      (List UInt8) [] y.1 ∧ eqOf (List UInt8) [] y.2 ∧ false = Option.isSome (effC c f x) ∧ True) ∧ True ∧ True) (SM x_1 ∧ SM x_2 ∧ side (Z0 ≤ I4.b x ∧ I4.b x < (LI (CodD.kers c))) (ifB (decide (Z1 ≤ KeD.inputs (GK c
      (Int.toNat (I4.b x))))) ((decide (KeD.inputs (GK c (Int.toNat (I4.b x))) ≤ (16 : Int)) = bif decide (Z1 ≤ KeD.inputs (GK c (Int.toNat (I4.b x)))) then decide (KeD.inputs (GK c (Int.toNat (I4.b x))) ≤ (16 : Int))
      else false) ∧ True) ((false = bif decide (Z1 ≤ KeD.inputs (GK c (Int.toNat (I4.b x)))) then decide (KeD.inputs (GK c (Int.toNat (I4.b x))) ≤ (16 : Int)) else false) ∧ True) ∧ True ∧ ifB (!bif decide (Z1 ≤
      KeD.inputs (GK c (Int.toNat (I4.b x)))) then decide (KeD.inputs (GK c (Int.toNat (I4.b x))) ≤ (16 : Int)) else false) (SM x_3 ∧ (SM x_3 ∧ True) ∧ ∃ (y : Eff), offQ (effC c f x) y ∧ (eqOf (List UInt8) [] y.1 ∧ eqOf
      (List UInt8) [] y.2 ∧ false = Option.isSome (effC c f x) ∧ True) ∧ True ∧ True) (SM x_1 ∧ SM x_2 ∧ side (Z0 ≤ I4.b x ∧ I4.b x < (LI (CodD.kers c))) ((Z0 ≤ KeD.inputs (GK c (Int.toNat (I4.b x))) ∧ KeD.inputs (GK c
      (Int.toNat (I4.b x))) ≤ (1000 : Int) ∧ SM N1) ∧ ∀ (y : Unit), True → SM x_3 ∧ (SM x_3 ∧ True) ∧ ∃ (y : Eff), offQ (effC c f x) y ∧ (Lib.repeatL [(97 : UInt8)] (Int.toNat (KeD.inputs (GK c (Int.toNat (I4.b x))))) =
      y.1 ∧ [(97 : UInt8)] = y.2 ∧ true = Option.isSome (effC c f x) ∧ True) ∧ True ∧ True)))))) (SM x_2 ∧ True ∧ ∀ (y : Eff), offQ (plainC ((↑f : Int) == Z0) (I4.mk (I4.a x) (I4.b x) (I4.c x) (I4.d x))) y → SM x_3 ∧ (SM
      x_3 ∧ True) ∧ ∃ (y_1 : Eff), offQ (effC c f x) y_1 ∧ (y.1 = y_1.1 ∧ y.2 = y_1.2 ∧ Option.isSome (plainC ((↑f : Int) == Z0) (I4.mk (I4.a x) (I4.b x) (I4.c x) (I4.d x))) = Option.isSome (effC c f x) ∧ True) ∧ True ∧
      True))))))))))))))) (by kernel_rfl) ?_
  delta DF DK GF GK LI LN N1 SM Z0 Z1
  simp only [← de, ← dk, e0, w1, w2, w3, w4, wb, Int.toNat_natCast, ifB_iff, side_iff, decide_eq_true_eq, decide_eq_false_iff_not, true_and, and_true, beq_iff_eq, Bool.cond_false_right, Bool.and_eq_true, Bool.and_eq_false_iff, beq_eq_false_iff_ne, ne_eq]
  repeat' (first
    | refine off_leaf ?_
    | (refine And.intro ?_ ?_)
    | intro _)
  all_goals (try first | exact off_pass (eff_plain c f x (by simp_all)) (by assumption))
  all_goals (first | (simp_all [effC, effS, between, primB, gu]; done) | grind [effC, effS, between, primB, gu] | skip)
end Go.Proofs.Ytoglbmhkfkghbaa
namespace Go.Proofs.Ytoglbmhkfkghbaa
open Go Go.Ab

/-! ### an effect on a stack -/
def brow (l : List UInt8) : Nat → List D := fun i => [.int .u8 ((l.getD i 0).toNat : Int)]
def popB (st p : List UInt8) (j : Nat) : Bool := p.getD j 0 == 42 || p.getD j 0 == st.getD (st.length - 1 - j) 0
def okA (st p : List UInt8) (r : Bool) : Bool := r && decide (p.length ≤ st.length) && (List.range p.length).all (popB st p)
def newA (st p q : List UInt8) : List UInt8 := st.take (st.length - p.length) ++ q
def nilB : D := .sl 1 0 (fun _ => []) .nil
def RnilA (p q : List UInt8) (r : Bool) (e : AEnd) (S : St) : Prop :=
  (okA [] p r = true ∧ ((q = [] ∧ e = .ret (.tup [nilB, .bool true]) ∧ S = ⟨[], []⟩) ∨ (q ≠ [] ∧ ∃ k x cap, q.length ≤ cap ∧ e = .ret (.tup [.vs k x q.length cap 1, .bool true]) ∧ S = ⟨[(k, x, .vec 1 q.length cap (brow q))], []⟩))) ∨
  (okA [] p r = false ∧ e = .ret (.tup [nilB, .bool false]) ∧ S = ⟨[], []⟩)
def RvsA (st p q : List UInt8) (r : Bool) (e : AEnd) (S : St) : Prop :=
  (okA st p r = true ∧ ∃ x cap, (newA st p q).length ≤ cap ∧ e = .ret (.tup [.vs 0 x (newA st p q).length cap 1, .bool true]) ∧ S = ⟨[(0, x, .vec 1 (newA st p q).length cap (brow (newA st p q)))], []⟩) ∨
  (okA st p r = false ∧ e = .ret (.tup [nilB, .bool false]) ∧ S = ⟨[], []⟩)
theorem bne_and {a b c : Int} (h : ¬ a = c) : (a != b) = (a != c && a != b) := by simp [h]
theorem bne_and' {a b c : Int} (h : (a != c) = false) : false = (a != c && a != b) := by simp [h]
theorem popB_of {st p : List UInt8} {j : Nat} (h : ((p.getD j 0).toNat : Int) = 42 ∨ ((p.getD j 0).toNat : Int) = ((st.getD (st.length - 1 - j) 0).toNat : Int)) : popB st p j = true := by
  unfold popB
  rw [Bool.or_eq_true, beq_iff_eq, beq_iff_eq]
  rcases h with h | h
  · left
    apply UInt8.toNat_inj.1
    show (p.getD j 0).toNat = 42
    omega
  · right
    apply UInt8.toNat_inj.1
    omega
theorem popB_not {st p : List UInt8} {j : Nat} (h1 : ¬ ((p.getD j 0).toNat : Int) = 42) (h2 : ¬ ((p.getD j 0).toNat : Int) = ((st.getD (st.length - 1 - j) 0).toNat : Int)) : popB st p j = false := by
  unfold popB
  rw [Bool.or_eq_false_iff, beq_eq_false_iff_ne, beq_eq_false_iff_ne]
  refine ⟨fun e => h1 ?_, fun e => h2 ?_⟩
  · rw [e]; rfl
  · rw [e]
theorem okA_false {st p : List UInt8} {r : Bool} {j : Nat} (hj : j < p.length) (h : popB st p j = false) : okA st p r = false := by
  have : (List.range p.length).all (popB st p) = false := by
    rw [List.all_eq_false]
    exact ⟨j, List.mem_range.2 hj, by simp [h]⟩
  simp [okA, this]
theorem okA_true {st p : List UInt8} {r : Bool} (hr : r = true) (hl : p.length ≤ st.length) (h : ∀ j, j < p.length → popB st p j = true) : okA st p r = true := by
  have : (List.range p.length).all (popB st p) = true := by
    rw [List.all_eq_true]
    exact fun j hj => h j (List.mem_range.1 hj)
  simp [okA, this, hr, hl]
theorem app_rows {st q : List UInt8} {a : Nat} (ha : a ≤ st.length) {i : Nat} (hi : i < a + q.length) : appF a (brow st) (brow q) i = brow (st.take a ++ q) i := by
  simp only [appF, brow]
  split
  · rename_i h
    simp [List.getD_eq_getElem?_getD, List.getElem?_append_left (show i < (st.take a).length by simp; omega), List.getElem?_take_of_lt h]
  · rename_i h
    have : (st.take a).length = a := by simp; omega
    simp [List.getD_eq_getElem?_getD, List.getElem?_append_right (show (st.take a).length ≤ i by omega), this]
def annA (st p q : List UInt8) (r : Bool) (os : List (Nat × Nat × AObj)) (k : Nat) (d : D) : Option LoopAnn :=
  match d with
  | .ref _ xe _ => some { slots := [21], keep := [0, 3, 20], α := Nat, st := fun i => ([.int .i64 i], ⟨(k, xe, .cells [.str p, .str q, .bool r]) :: os, []⟩), inv := fun i => i ≤ p.length ∧ ∀ j, j < i → popB st p j = true, mu := fun i => p.length - i }
  | _ => none
noncomputable def Eapp (own : Nat → Bool) (st p q : List UInt8) (r : Bool) (os : List (Nat × Nat × AObj)) (k : Nat) : Senv := { EC con0 56 2 [3, 4, 5, 6, 17, 20, 21, 22, 43] (fun id => match id with | 6 => ([0, 1, 2, 3, 4, 5, 6, 7, 8, 9, 10, 11, 12, 13, 14, 15, 16, 17, 18, 19], []) | 9 => ([0, 1, 2, 3, 4, 5, 6, 7, 8, 9, 10, 11, 12], [10]) | _ => ([], [])) with
  own := own
  ann := fun b env _ => match b with
    | 0 => annA st p q r os k (Ab.look env 3)
    | _ => none }
theorem app_vs (x len cap : Nat) (st p q : List UInt8) (r : Bool) (hl : st.length = len) (hq : r = true → st.length + q.length ≤ 1000000 ∧ p.length ≤ 1000000) (hc : len ≤ cap) :
    ACalls Try.prog 64 [.vs 0 x len cap 1, .agg [.str p, .str q, .bool r]] ⟨[(0, x, .vec 1 len cap (brow st))], []⟩ (fun e S => ∃ S', StTo S S' ∧ RvsA st p q r e S') := by
  refine call_of (E := Eapp (fun _ => false) st p q r [(0, x, .vec 1 len cap (brow st))] 1) (eOk con0_ok rfl) Try.func64 rfl (by kernel_rfl) rfl (by simp [Eapp, EC, E0]) ?_
  refine vc_eq (T :=
      ∀ (x_1 : Nat), x ≠ x_1 ∧ True → (SM x_1 ∧ ifB (!r) ((true = bif !r then true else decide ((↑len : Int) < (LI p))) ∧ True) (SM x_1 ∧ (decide ((↑len : Int) < (LI p)) = bif !r then true else decide ((↑len : Int) < (LI
      p))) ∧ True)) ∧ ifB (bif !r then true else decide ((↑len : Int) < (LI p))) (True ∧ ∃ (S' : St), StTo (St.mk [(N1, x_1, AObj.cells [D.str p, D.str q, D.bool r]), (N0, x, AObj.vec N1 len cap fun (i : Nat) => [ZB (BI
      st i)])] []) S' ∧ RvsA st p q r (AEnd.ret (D.tup [D.sl N1 N0 (fun (x : Nat) => []) Mode.nil, D.bool false])) S') (SM x_1 ∧ (∃ (x_2 : Nat), (x_2 ≤ LN p ∧ ∀ (j : Nat), j < x_2 → popB st p j = true) ∧ (Z0 = (↑x_2 :
      Int) ∧ True) ∧ (SM x_1 ∧ (SM p ∧ SM q ∧ SM r ∧ True) ∧ SM x ∧ (SM len ∧ SM cap ∧ ∀ (i : Nat), i < len → SM [ZB (BI st i)]) ∧ True) ∧ True) ∧ ∀ (x_2 : Nat), (x_2 ≤ LN p ∧ ∀ (j : Nat), j < x_2 → popB st p j = true) →
      ifB (decide ((↑x_2 : Int) < (LI p))) ((SM x_1 ∧ side (Z0 ≤ (↑x_2 : Int) ∧ (↑x_2 : Int) < (LI p)) (ifB ((BI p (Int.toNat (↑x_2 : Int))) != (42 : Int)) (SM x_1 ∧ side (Z0 ≤ (↑x_2 : Int) ∧ (↑x_2 : Int) < (LI p)) (side
      (Z0 ≤ IntKind.wrap IntKind.i64 (IntKind.wrap IntKind.i64 ((↑len : Int) - Z1) - (↑x_2 : Int)) ∧ IntKind.wrap IntKind.i64 (IntKind.wrap IntKind.i64 ((↑len : Int) - Z1) - (↑x_2 : Int)) < (↑len : Int)) (SM x ∧ side
      (Int.toNat (IntKind.wrap IntKind.i64 (IntKind.wrap IntKind.i64 ((↑len : Int) - Z1) - (↑x_2 : Int))) < len) ((((BI p (Int.toNat (↑x_2 : Int))) != (BI st (Int.toNat (IntKind.wrap IntKind.i64 (IntKind.wrap IntKind.i64
      ((↑len : Int) - Z1) - (↑x_2 : Int)))))) = bif (BI p (Int.toNat (↑x_2 : Int))) != (42 : Int) then (BI p (Int.toNat (↑x_2 : Int))) != (BI st (Int.toNat (IntKind.wrap IntKind.i64 (IntKind.wrap IntKind.i64 ((↑len :
      Int) - Z1) - (↑x_2 : Int))))) else false) ∧ True)))) ((false = bif (BI p (Int.toNat (↑x_2 : Int))) != (42 : Int) then (BI p (Int.toNat (↑x_2 : Int))) != (BI st (Int.toNat (IntKind.wrap IntKind.i64 (IntKind.wrap
      IntKind.i64 ((↑len : Int) - Z1) - (↑x_2 : Int))))) else false) ∧ True))) ∧ ifB (bif (BI p (Int.toNat (↑x_2 : Int))) != (42 : Int) then (BI p (Int.toNat (↑x_2 : Int))) != (BI st (Int.toNat (IntKind.wrap IntKind.i64
      (IntKind.wrap IntKind.i64 ((↑len : Int) - Z1) - (↑x_2 : Int))))) else false) (True ∧ ∃ (S' : St), StTo (St.mk [(N1, x_1, AObj.cells [D.str p, D.str q, D.bool r]), (N0, x, AObj.vec N1 len cap fun (i : Nat) => [ZB
      (BI st i)])] []) S' ∧ RvsA st p q r (AEnd.ret (D.tup [D.sl N1 N0 (fun (x : Nat) => []) Mode.nil, D.bool false])) S') ((SM (D.vs N0 x len cap N1) ∧ SM (D.ref N1 x_1 N0) ∧ SM (ZI (LI p)) ∧ True) ∧ ∃ (y : Nat), (y ≤
      LN p ∧ ∀ (j : Nat), j < y → popB st p j = true) ∧ LN p - y < LN p - x_2 ∧ (IntKind.wrap IntKind.i64 ((↑x_2 : Int) + Z1) = (↑y : Int) ∧ True) ∧ (SM x_1 ∧ (SM p ∧ SM q ∧ SM r ∧ True) ∧ SM x ∧ (SM len ∧ SM cap ∧ ∀ (i
      : Nat), i < len → SM [ZB (BI st i)]) ∧ True) ∧ True)) (SM x_1 ∧ side (Z0 ≤ IntKind.wrap IntKind.i64 ((↑len : Int) - (LI p)) ∧ IntKind.wrap IntKind.i64 ((↑len : Int) - (LI p)) ≤ (↑cap : Int)) (SM x_1 ∧ SM x ∧ SM cap
      ∧ side (Int.toNat (IntKind.wrap IntKind.i64 ((↑len : Int) - (LI p))) ≤ len ∧ (Int.toNat (IntKind.wrap IntKind.i64 ((↑len : Int) - (LI p))) + LN q) * N1 ≤ (140737488355328 : Nat) ∧ Int.toNat (IntKind.wrap
      IntKind.i64 ((↑len : Int) - (LI p))) + LN q ≤ (9223372036854775807 : Nat)) (∀ (y cap' : Nat), Int.toNat (IntKind.wrap IntKind.i64 ((↑len : Int) - (LI p))) + LN q ≤ cap' → True ∧ ∃ (S' : St), StTo (St.mk [(N0, y,
      AObj.vec N1 (Int.toNat (IntKind.wrap IntKind.i64 ((↑len : Int) - (LI p))) + LN q) cap' (appF (Int.toNat (IntKind.wrap IntKind.i64 ((↑len : Int) - (LI p)))) (fun (i : Nat) => [ZB (BI st i)]) fun (i : Nat) => [ZB (BI
      q i)])), (N1, x_1, AObj.cells [D.str p, D.str q, D.bool r])] []) S' ∧ RvsA st p q r (AEnd.ret (D.tup [D.vs N0 y (Int.toNat (IntKind.wrap IntKind.i64 ((↑len : Int) - (LI p))) + LN q) cap' N1, D.bool true])) S'))))) (by kernel_rfl) ?_
  delta BI LI LN N0 N1 SM U0 Z0 Z1 ZB ZI
  simp only [ifB_iff, side_iff, decide_eq_true_eq, decide_eq_false_iff_not, true_and, and_true, beq_iff_eq, bne_iff_ne, Bool.cond_false_right, Bool.cond_true_left, Bool.and_eq_true, Bool.and_eq_false_iff, beq_eq_false_iff_ne, ne_eq]
  intro xe hne
  subst hl
  have fail : ∀ S, okA st p r = false → ∃ S', StTo S S' ∧ RvsA st p q r (AEnd.ret (D.tup [D.sl 1 0 (fun _ => []) Mode.nil, D.bool false])) S' := fun S h => ⟨⟨[], []⟩, StTo.none _, .inr ⟨h, rfl, rfl⟩⟩
  refine ⟨⟨by cases r <;> simp, by cases r <;> simp⟩, fun h => fail _ ?_, fun h => ⟨⟨0, ⟨by omega, fun j hj => absurd hj (Nat.not_lt_zero j)⟩, rfl, fun _ _ => trivial⟩, fun i hi => ⟨fun hlt => ?_, fun hge => ?_⟩⟩⟩
  · simp only [Bool.or_eq_true, Bool.not_eq_true', decide_eq_true_eq] at h
    rcases h with h | h
    · simp [okA, h]
    · have : ¬ p.length ≤ st.length := by omega
      simp [okA, this]
  · simp only [Bool.or_eq_false_iff, Bool.not_eq_false', decide_eq_false_iff_not] at h
    obtain ⟨hq, hp⟩ := hq h.1
    have hlt' : i < p.length := by omega
    have hw : IntKind.i64.wrap (IntKind.i64.wrap ((st.length : Int) - 1) - (i : Int)) = ((st.length - 1 - i : Nat) : Int) := by
      rw [wrap_i64' (n := (st.length : Int) - 1) (by omega) (by omega), wrap_i64' (by omega) (by omega)]; omega
    simp only [hw, Int.toNat_natCast]
    refine ⟨⟨by omega, fun h42 => ⟨by omega, by omega, by omega, ?_⟩, fun h42 => ?_⟩, fun hb => fail _ (okA_false hlt' (popB_not hb.1 hb.2)), fun hb => ⟨i + 1, ⟨by omega, fun j hj => ?_⟩, by omega, wrap_i64' (by omega) (by omega), fun _ _ => trivial⟩⟩
    · exact bne_and h42
    · exact bne_and' h42
    · by_cases e : j = i
      · subst e
        refine popB_of (hb.imp (fun h => ?_) (fun h => ?_))
        · simpa using h
        · simpa using h
      · exact hi.2 j (by omega)
  · simp only [Bool.or_eq_false_iff, Bool.not_eq_false', decide_eq_false_iff_not] at h
    obtain ⟨hq, hp⟩ := hq h.1
    have hw : IntKind.i64.wrap ((st.length : Int) - (p.length : Int)) = ((st.length - p.length : Nat) : Int) := by
      rw [wrap_i64' (by omega) (by omega)]; omega
    have hip : i = p.length := by omega
    subst hip
    simp only [hw, Int.toNat_natCast]
    refine ⟨by omega, by omega, fun y cap' hcap => ⟨_, leS_to ?_, .inl ⟨okA_true h.1 (by omega) hi.2, y, cap', ?_, ?_, rfl⟩⟩⟩
    · simp only [leS, chk_iff, leO, leT, getO, nodupB, List.map_cons, List.map_nil, weakO]
      refine ⟨by simp, ⟨rfl, ?_, trivial⟩, trivial⟩
      simp only [chk_iff]
      refine ⟨by simp, by simp [newA], trivial, fun j hj => app_rows (by omega) hj⟩
    · simp [newA]; omega
    · have : (newA st p q).length = st.length - p.length + q.length := by simp [newA]
      rw [this]
theorem app_nil (p q : List UInt8) (r : Bool) (hq : r = true → q.length ≤ 1000000 ∧ p.length ≤ 1000000) :
    ACalls Try.prog 64 [nilB, .agg [.str p, .str q, .bool r]] ⟨[], []⟩ (fun e S => ∃ S', StTo S S' ∧ RnilA p q r e S') := by
  refine call_of (E := Eapp (fun k => Nat.beq k 22) [] p q r [] 0) (eOk con0_ok rfl) Try.func64 rfl (by kernel_rfl) rfl (by simp [Eapp, EC, E0]) ?_
  refine vc_eq (T :=
      ∀ (x : Nat), True → (SM x ∧ ifB (!r) ((true = bif !r then true else decide ((NI N0) < (LI p))) ∧ True) (SM x ∧ (decide (Z0 < (LI p)) = bif !r then true else decide ((NI N0) < (LI p))) ∧ True)) ∧ ifB (bif !r then
      true else decide ((NI N0) < (LI p))) (True ∧ ∃ (S' : St), StTo (St.mk [(N0, x, AObj.cells [D.str p, D.str q, D.bool r])] []) S' ∧ RnilA p q r (AEnd.ret (D.tup [D.sl N1 N0 (fun (x : Nat) => []) Mode.nil, D.bool
      false])) S') (SM x ∧ (∃ (x_1 : Nat), (x_1 ≤ LN p ∧ ∀ (j : Nat), j < x_1 → popB [] p j = true) ∧ (Z0 = (↑x_1 : Int) ∧ True) ∧ (SM x ∧ (SM p ∧ SM q ∧ SM r ∧ True) ∧ True) ∧ True) ∧ ∀ (x_1 : Nat), (x_1 ≤ LN p ∧ ∀ (j :
      Nat), j < x_1 → popB [] p j = true) → ifB (decide ((↑x_1 : Int) < (LI p))) ((SM x ∧ side (Z0 ≤ (↑x_1 : Int) ∧ (↑x_1 : Int) < (LI p)) (ifB ((BI p (Int.toNat (↑x_1 : Int))) != (42 : Int)) (SM x ∧ side (Z0 ≤ (↑x_1 :
      Int) ∧ (↑x_1 : Int) < (LI p)) (side (Z0 ≤ IntKind.wrap IntKind.i64 ((-1 : Int) - (↑x_1 : Int)) ∧ IntKind.wrap IntKind.i64 ((-1 : Int) - (↑x_1 : Int)) < Z0) False)) (True ∧ True))) ∧ False) (SM x ∧ side (Z0 ≤ Z0 ∧
      Z0 ≤ IntKind.wrap IntKind.i64 (Z0 - (LI p)) ∧ IntKind.wrap IntKind.i64 (Z0 - (LI p)) ≤ Z0) (SM x ∧ side (LN q * N1 ≤ (140737488355328 : Nat) ∧ LN q ≤ (9223372036854775807 : Nat)) (ifB (Nat.beq (LN q) N0) (True ∧ ∃
      (S' : St), StTo (St.mk [(N0, x, AObj.cells [D.str p, D.str q, D.bool r])] []) S' ∧ RnilA p q r (AEnd.ret (D.tup [D.sl N1 N0 (fun (x : Nat) => []) Mode.nil, D.bool true])) S') (∀ (y cap' : Nat), x ≠ y ∧ True → LN q
      ≤ cap' → True ∧ ∃ (S' : St), StTo (St.mk [((11 : Nat), y, AObj.vec N1 (LN q) cap' fun (i : Nat) => [ZB (BI q i)]), (N0, x, AObj.cells [D.str p, D.str q, D.bool r])] []) S' ∧ RnilA p q r (AEnd.ret (D.tup [D.vs (11 :
      Nat) y (LN q) cap' N1, D.bool true])) S')))))) (by kernel_rfl) ?_
  delta BI LI LN N0 N1 NI SM U0 Z0 ZB
  simp only [ifB_iff, side_iff, decide_eq_true_eq, decide_eq_false_iff_not, true_and, and_true, beq_iff_eq, bne_iff_ne, Bool.cond_false_right, Bool.cond_true_left, Bool.and_eq_true, Bool.and_eq_false_iff, beq_eq_false_iff_ne, ne_eq]
  intro xe _
  have fail : ∀ S, okA [] p r = false → ∃ S', StTo S S' ∧ RnilA p q r (AEnd.ret (D.tup [D.sl 1 0 (fun _ => []) Mode.nil, D.bool false])) S' := fun S h => ⟨⟨[], []⟩, StTo.none _, .inr ⟨h, rfl, rfl⟩⟩
  refine ⟨⟨by cases r <;> simp, by cases r <;> simp⟩, fun h => fail _ ?_, fun h => ⟨⟨0, ⟨by omega, fun j hj => absurd hj (Nat.not_lt_zero j)⟩, rfl⟩, fun i hi => ?_⟩⟩
  · simp only [Bool.or_eq_true, Bool.not_eq_true', decide_eq_true_eq] at h
    rcases h with h | h
    · simp [okA, h]
    · have : p ≠ [] := by rintro rfl; simp at h
      simp [okA, this]
  · simp only [Bool.or_eq_false_iff, Bool.not_eq_false', decide_eq_false_iff_not] at h
    obtain ⟨hq, hp⟩ := hq h.1
    have hp0 : p = [] := List.eq_nil_of_length_eq_zero (by omega)
    subst hp0
    have hi0 : i = 0 := by simpa using hi.1
    subst hi0
    refine ⟨fun hlt => by simp at hlt, fun _ => ?_⟩
    have hw : IntKind.i64.wrap (0 - (([] : List UInt8).length : Int)) = 0 := by rw [wrap_i64'] <;> simp
    have hok : okA [] [] r = true := by simp [okA, h.1]
    refine ⟨by rw [hw]; omega, by omega, fun hz => ?_, fun hz y cap' _ hcap => ?_⟩
    · have hq0 : q = [] := List.eq_nil_of_length_eq_zero (Nat.eq_of_beq_eq_true hz)
      exact ⟨⟨[], []⟩, StTo.none _, .inl ⟨hok, .inl ⟨hq0, rfl, rfl⟩⟩⟩
    · have hq0 : q ≠ [] := by rintro rfl; simp at hz
      refine ⟨_, leS_to ?_, .inl ⟨hok, .inr ⟨hq0, _, y, cap', hcap, rfl, rfl⟩⟩⟩
      simp only [leS, chk_iff, leO, leT, getO, nodupB, List.map_cons, List.map_nil, weakO]
      exact ⟨by simp, ⟨by simp, by simp [chk_iff, weakO, brow], trivial⟩, trivial⟩
end Go.Proofs.Ytoglbmhkfkghbaa
namespace Go.Proofs.Ytoglbmhkfkghbaa
open Go Go.Ab

/-! ### the call of apply, at any state -/
abbrev stT (k x len cap : Nat) (l : List UInt8) : St := ⟨[(k, x, .vec 1 len cap (brow l))], []⟩
def _root_.Go.Ab.inlA (k : Nat) (ds : List D) (S : St) (R : AEnd → St → Prop) : Prop :=
  match k with
  | 64 => match ds with
    | [.sl 1 0 _ .nil, .agg [.str p, .str q, .bool r]] => (r = true → q.length ≤ 1000000 ∧ p.length ≤ 1000000) ∧ ifB (okA [] p r)
        (ifB q.isEmpty (R (.ret (.tup [nilB, .bool true])) S) (∀ x cap, q.length ≤ cap → R (.ret (.tup [.vs (nextTag S.objs) x q.length cap 1, .bool true])) (S.new x (.vec 1 q.length cap (brow q)))))
        (R (.ret (.tup [nilB, .bool false])) S)
    | [.vs k x len cap 1, .agg [.str p, .str q, .bool r]] => ∃ st : List UInt8, (st.length = len ∧ len ≤ cap ∧ (r = true → st.length + q.length ≤ 1000000 ∧ p.length ≤ 1000000) ∧ leS ⟨[(k, x, .vec 1 len cap (brow st))], []⟩ S) ∧ ifB (okA st p r)
        (∀ x' cap', (newA st p q).length ≤ cap' → R (.ret (.tup [.vs k x' (newA st p q).length cap' 1, .bool true])) ((⟨[(k, x', .vec 1 (newA st p q).length cap' (brow (newA st p q)))], []⟩ : St).add (S.less ⟨[(k, x, .vec 1 len cap (brow st))], []⟩)))
        (R (.ret (.tup [nilB, .bool false])) (S.less ⟨[(k, x, .vec 1 len cap (brow st))], []⟩))
    | _ => False
  | _ => False
theorem StTo.pos {S S' : St} (h : posS S S') : StTo S S' := fun _ _ _ H => H.pos h
theorem StTo.frame {S S' : St} (h : StTo S S') (G : St) : StTo (S.add G) (S'.add G) := fun C F w H => by
  rw [St.add_assoc] at H ⊢
  exact h C (G.add F) w H
theorem posO_refl : ∀ (l : List (Nat × Nat × AObj)), posO l l
  | [] => trivial
  | (_, x, o) :: l => ⟨rfl, by cases o <;> simp [weakO, weakL_refl, chk_iff, kEq], posO_refl l⟩
theorem posT_refl : ∀ (l : List (Nat × Nat)), posT l l
  | [] => trivial
  | (_, x) :: l => ⟨rfl, posT_refl l⟩
theorem wEnd (d : D) : weakEnd (.ret d) (.ret d) := weakD_refl d
theorem ifB_true {b : Bool} {X Y : Prop} (h : ifB b X Y) (hb : b = true) : X := by subst hb; exact h
theorem ifB_false {b : Bool} {X Y : Prop} (h : ifB b X Y) (hb : b = false) : Y := by subst hb; exact h
theorem inlA_ok (k : Nat) (ds : List D) (S : St) (R : AEnd → St → Prop) (h : inlA k ds S R) : ACalls Try.prog k ds S R := by
  unfold inlA at h
  split at h
  · split at h
    · rename_i f p q r
      obtain ⟨h1, h3⟩ := h
      have hc := ((app_nil p q r h1).frame S).from (S := S) (fun C F w H => by simpa [St.add] using H)
      have hc := ACalls.weakArgs (ds := [.sl 1 0 f .nil, .agg [.str p, .str q, .bool r]]) hc ⟨by simp [nilB, weakD, chk_iff, weakM], weakL_refl _⟩
      refine hc.weaken ?_
      rintro e S2 ⟨S0, ⟨S0', hs, hR⟩, rfl⟩
      rcases hR with ⟨ho, ⟨hq, rfl, rfl⟩ | ⟨hq, k, x, cap, hcap, rfl, rfl⟩⟩ | ⟨ho, rfl, rfl⟩
      · subst hq
        exact ⟨_, S, wEnd _, fun C F w H => by simpa [St.add] using StTo.frame (S := S0) hs S C F w H, ifB_true (ifB_true h3 ho) rfl⟩
      · refine ⟨_, _, ?_, (StTo.frame (S := S0) hs S).trans (StTo.pos (S' := S.new x (.vec 1 q.length cap (brow q))) ?_), ifB_false (ifB_true h3 ho) (by cases q <;> simp_all) x cap hcap⟩
        · simp [weakEnd, weakD, weakL, chk_iff]
        · exact ⟨⟨rfl, by simp [weakO, chk_iff], posO_refl _⟩, posT_refl _⟩
      · exact ⟨_, S, wEnd _, fun C F w H => by simpa [St.add] using StTo.frame (S := S0) hs S C F w H, ifB_false h3 ho⟩
    · rename_i k x len cap p q r
      obtain ⟨st, ⟨h1, h2, h3, h5⟩, h6⟩ := h
      have hc := ((app_vs x len cap st p q r h1 h3 h2).frame (S.less (stT k x len cap st))).from (S := S) (fun C F w H => (StTo.frame (StTo.pos (S := stT k x len cap st) (S' := stT 0 x len cap st) ⟨⟨rfl, by simp [weakO, chk_iff], trivial⟩, trivial⟩) _) C F w (H.split h5))
      have hc := ACalls.weakArgs (ds := [.vs k x len cap 1, .agg [.str p, .str q, .bool r]]) hc ⟨by simp [weakD, chk_iff], weakL_refl _⟩
      refine hc.weaken ?_
      rintro e S2 ⟨S0, ⟨S0', hs, hR⟩, rfl⟩
      rcases hR with ⟨ho, x', cap', hcap, rfl, rfl⟩ | ⟨ho, rfl, rfl⟩
      · refine ⟨_, _, ?_, (StTo.frame (S := S0) hs _).trans (StTo.pos ?_), ifB_true h6 ho x' cap' hcap⟩
        · simp [weakEnd, weakD, weakL, chk_iff]
        · exact ⟨⟨rfl, by simp [weakO, chk_iff], posO_refl _⟩, posT_refl _⟩
      · exact ⟨_, S.less (stT k x len cap st), wEnd _, fun C F w H => by simpa [St.add] using StTo.frame (S := S0) hs _ C F w H, ifB_false h6 ho⟩
    · exact h.elim
  · exact h.elim
end Go.Proofs.Ytoglbmhkfkghbaa
namespace Go.Proofs.Ytoglbmhkfkghbaa
open Go Go.Ab

/-! ### functions of programs, in plain Lean -/
def stepS (c : CodD) (f i : Nat) (x : I4) (st : List UInt8) : Option (List UInt8) :=
  match effC c f x with
  | none => none
  | some e => if okA st e.1 true = true ∧ ¬ x.d < 0 ∧ ¬ ((x.a = 25 ∨ x.a = 24) ∧ newA st e.1 e.2 ≠ []) ∧ ¬ (x.a = 24 ∧ x.b ≤ i) then some (newA st e.1 e.2) else none
def runS (c : CodD) (f : Nat) : Nat → List I4 → List UInt8 → Nat → Option Nat
  | _, [], _, deep => some deep
  | i, x :: r, st, deep => match stepS c f i x st with
    | none => none
    | some nx => runS c f (i + 1) r nx (max deep nx.length)
def empS (c : CodD) (f : Nat) : Nat → List I4 → List UInt8 → List Bool
  | _, [], _ => []
  | i, x :: r, st => st.isEmpty :: match stepS c f i x st with
    | none => []
    | some nx => empS c f (i + 1) r nx
def guardsB (em : List Bool) (code : List I4) : Bool := code.all fun x => decide (x.a ≠ 24) || em.getD x.b.toNat false
/-- The greatest height of the stack, if the function is valid. -/
def funS (c : CodD) (f : Nat) : Option Nat :=
  let fd := c.funs.getD f default
  if between fd.slots 0 1000 = true ∧ fd.code ≠ [] ∧ (fd.code.getD (fd.code.length - 1) default).a = 25 then
    match runS c f 0 fd.code [] 0 with
    | none => none
    | some d => if guardsB (empS c f 0 fd.code []) fd.code then some d else none
  else none
def funD (e : Option Nat) : D := .tup [.int .i64 (e.getD 0 : Nat), .bool e.isSome]

/-! ### the walk -/
def conF (c : CodD) (f : Nat) : Con := fun k ds S => match k with
  | 63 => match ds with
    | [a0, a1, .agg [.int .i64 a, .int .i64 b, .int .i64 d, .int .i64 e]] => some (pQ [.agg c.row, .int .i64 f, .agg (I4.row ⟨a, b, d, e⟩)] (offD (effC c f ⟨a, b, d, e⟩)) (offQ (effC c f ⟨a, b, d, e⟩)) (weakL [a0, a1] [.agg c.row, .int .i64 f] ∧ I4.ok ⟨a, b, d, e⟩))
    | _ => none
  | k => conE k ds S
theorem conF_ok {c : CodD} {f : Nat} (hf : f < c.funs.length) (hc : c.ok) : ConOk Try.prog (conF c f) := by
  intro k ds S A h
  unfold conF at h
  split at h
  · split at h
    · injection h with h; subst h
      exact pQ_ok fun ⟨hw, hx⟩ => ⟨⟨hw.1, hw.2.1, weakD_refl _, trivial⟩, (of_ok c f ⟨_, _, _, _⟩ hf hc hx).mono fun _ _ h => h⟩
    · cases h
  · exact conE_ok _ _ _ _ h
noncomputable def _root_.Go.Ab.inlF (con : Con) (k : Nat) (ds : List D) (S : St) (R : AEnd → St → Prop) : Prop :=
  match Nat.beq k 64 with
  | true => inlA k ds S R
  | false => inlD { E0 con 0 0 [] (fun _ => ([], [])) with auto := true } (frmGet frames) 9 k ds S R
theorem inlF_ok {con : Con} (hc : ConOk Try.prog con) (k : Nat) (ds : List D) (S : St) (R : AEnd → St → Prop) (h : inlF con k ds S R) : ACalls Try.prog k ds S R := by
  unfold inlF at h
  split at h
  · exact inlA_ok _ _ _ _ h
  · exact inlD_ok (E := { E0 con 0 0 [] (fun _ => ([], [])) with auto := true }) tab_ok hc mix frames_ok eqs_ok 9 k ds S R h
noncomputable def EF (c : CodD) (f : Nat) : Senv := { EC (conF c f) 139 3 [4, 5, 6, 7, 8, 9, 10, 11, 12, 13, 14, 15, 16, 17, 19, 45, 49, 50, 51, 52, 73, 108, 116, 117, 118, 119, 136] (fun _ => ([], [])) with inl := inlF (conF c f) }
def erow (l : List Bool) : Nat → List D := fun i => [.bool (l.getD i false)]
/-- The head of the first loop: what holds. -/
structure FunHead (c : CodD) (f : Nat) (i : Nat) (st : List UInt8) (deep : Nat) (em : List Bool) : Prop where
  hi : i ≤ (c.funs.getD f default).code.length
  hs : st.length ≤ i
  hd : deep ≤ 65536
  hr : runS c f i ((c.funs.getD f default).code.drop i) st deep = runS c f 0 (c.funs.getD f default).code [] 0
  hl : em.length = (c.funs.getD f default).code.length
  he : em.take i ++ empS c f i ((c.funs.getD f default).code.drop i) st = empS c f 0 (c.funs.getD f default).code []
/-- The code's cells, unnamed. -/
abbrev O4 := D × D × D × D
def O4.row (d : O4) : List D := [d.1, d.2.1, d.2.2.1, d.2.2.2]
def CB (c : CodD) (d : O4) : Prop := d.row = c.row
/-- What is known behind the head: the function's row, the code's cells. -/
def cutF (c : CodD) (f : Nat) (d2 : D) : Option LoopAnn :=
  match d2 with
  | .ref _ x2 _ => some
    { slots := [6], keep := [], α := Nat × FnD × O4
      st := fun y => ([.ref 1 y.1 0], ⟨[(1, y.1, .cells (FnD.row y.2.1)), (0, x2, .cells (O4.row y.2.2))], []⟩)
      inv := fun y => y.2.1 = c.funs.getD f default ∧ CB c y.2.2, mu := fun _ => 0 }
  | _ => none
def annF1 (c : CodD) (f n : Nat) (os : List (Nat × Nat × AObj)) : Option (LoopAnn × LoopAnn) :=
  match os with
  | [(_, x9, .vec _ _ _ _), (_, x6, .cells fn), (_, x2, .cells cc)] => some
    ({ slots := [51, 8, 10], keep := [1, 2, 6, 7, 9, 11, 49, 50], α := Nat × Nat × List Bool
       st := fun y => ([.int .i64 y.1, nilB, .int .i64 y.2.1], ⟨[(2, x9, .vec 1 n n (erow y.2.2)), (1, x6, .cells fn), (0, x2, .cells cc)], []⟩)
       inv := fun y => FunHead c f y.1 [] y.2.1 y.2.2, mu := fun y => n - y.1 },
     { slots := [51, 8, 10], keep := [1, 2, 6, 7, 9, 11, 49, 50], α := (Nat × Nat × List Bool) × List UInt8 × Nat × Nat
       st := fun y => ([.int .i64 y.1.1, .vs 3 y.2.2.1 y.2.1.length y.2.2.2 1, .int .i64 y.1.2.1], ⟨[(3, y.2.2.1, .vec 1 y.2.1.length y.2.2.2 (brow y.2.1)), (2, x9, .vec 1 n n (erow y.1.2.2)), (1, x6, .cells fn), (0, x2, .cells cc)], []⟩)
       inv := fun y => FunHead c f y.1.1 y.2.1 y.1.2.1 y.1.2.2 ∧ y.2.1.length ≤ y.2.2.2, mu := fun y => n - y.1.1 })
  | _ => none
/-- Behind the first loop: what is known of the greatest height, of the heads, and whether all went well. -/
def MidInv (c : CodD) (f : Nat) (dp : Nat) (r : Bool) (em : List Bool) : Prop :=
  (r = true ∧ runS c f 0 (c.funs.getD f default).code [] 0 = some dp ∧ em = empS c f 0 (c.funs.getD f default).code []) ∨ (r = false ∧ runS c f 0 (c.funs.getD f default).code [] 0 = none)
def annB (c : CodD) (f n : Nat) (os : List (Nat × Nat × AObj)) : Option LoopAnn :=
  match os with
  | [(_, x9, .vec _ _ _ _), (_, x6, .cells fn), _] => some
    { slots := [10, 11], keep := [6, 9], α := Nat × Bool × List Bool
      st := fun y => ([.int .i64 y.1, .bool y.2.1], ⟨[(2, x9, .vec 1 n n (erow y.2.2)), (1, x6, .cells fn)], []⟩)
      inv := fun y => MidInv c f y.1 y.2.1 y.2.2, mu := fun _ => 0 }
  | _ => none
def annF2 (c : CodD) (f n : Nat) (d9 d10 d11 : D) (emOf : Nat → List D) : Option LoopAnn :=
  match d9, d10, d11 with
  | .vs _ x9 _ _ _, .int _ _, .bool r0 => some
    { slots := [118, 11], keep := [9, 10, 116, 117], α := Nat × Bool
      st := fun y => ([.int .i64 y.1, .bool y.2], ⟨[(2, x9, .vec 1 n n emOf)], []⟩)
      inv := fun y => y.1 ≤ n ∧ (y.2 = false → y.1 = 0 ∧ r0 = false) ∧ (y.2 = true → r0 = true ∧ guardsB (empS c f 0 (c.funs.getD f default).code []) ((c.funs.getD f default).code.take y.1) = true)
      mu := fun y => n - y.1 }
  | _, _, _ => none
def vecOf (S : St) : Nat → List D :=
  match S.objs with
  | (_, _, .vec _ _ _ f) :: _ => f
  | _ => fun _ => []
theorem gu_len {b : Bool} {p q : List UInt8} {e : Eff} (h : gu b (p, q) = some e) (hp : b = true → p.length ≤ 1000) (hq : q.length ≤ 1) : e.1.length ≤ 1000 ∧ e.2.length ≤ 1 := by
  unfold gu at h
  split at h
  · injection h with h; subst h; exact ⟨hp ‹_›, hq⟩
  · cases h
theorem some_len {p q : List UInt8} {e : Eff} (h : some (p, q) = some e) (hp : p.length ≤ 1000) (hq : q.length ≤ 1) : e.1.length ≤ 1000 ∧ e.2.length ≤ 1 := by
  injection h with h; subst h; exact ⟨hp, hq⟩
def LenOk (o : Option Eff) : Prop := ∀ e, o = some e → e.1.length ≤ 1000 ∧ e.2.length ≤ 1
theorem LenOk.ite {c : Prop} [Decidable c] {a b : Option Eff} (ha : LenOk a) (hb : LenOk b) : LenOk (if c then a else b) := by
  split <;> assumption
theorem LenOk.none : LenOk none := fun _ h => nomatch h
theorem eff_len {c : CodD} {f : Nat} {x : I4} : ∀ {e : Eff}, effC c f x = some e → e.1.length ≤ 1000 ∧ e.2.length ≤ 1 := by
  have : LenOk (effC c f x) := by
    unfold effC effS plainS
    repeat' (first
      | exact LenOk.none
      | refine fun e h => some_len h ?_ ?_
      | refine fun e h => gu_len h ?_ ?_
      | apply LenOk.ite)
    all_goals first
      | (simp; done)
      | (intro hb
         generalize (c.kers.getD x.b.toNat default).inputs = ki at *
         simp only [between, Bool.and_eq_true, decide_eq_true_eq] at hb
         rw [Lib.repeatL_length]
         simp only [List.length_singleton]
         omega)
  exact fun {e} h => this e h
theorem eff_guard {c : CodD} {f : Nat} {x : I4} {e : Eff} (h : effC c f x = some e) (ha : x.a = 24) : 0 ≤ x.b ∧ x.b < ((c.funs.getD f default).code.length : Int) := by
  unfold effC effS gu between at h
  generalize (c.funs.getD f default).code.length = n at *
  simp only [ha] at h
  simp at h
  omega
theorem newA_length (st p q : List UInt8) : (newA st p q).length = st.length - p.length + q.length := by simp [newA]
theorem step_len {c : CodD} {f i : Nat} {x : I4} {st nx : List UInt8} (h : stepS c f i x st = some nx) : nx.length ≤ st.length + 1 := by
  unfold stepS at h
  split at h
  · cases h
  · rename_i e he
    split at h
    · simp only [Option.some.injEq] at h
      subst h
      rw [newA_length]
      have := (eff_len he).2
      omega
    · cases h
theorem FunHead.next {c : CodD} {f i : Nat} {st : List UInt8} {deep : Nat} {em : List Bool} (h : FunHead c f i st deep em) (hn : (c.funs.getD f default).code.length ≤ 65536) (hlt : i < (c.funs.getD f default).code.length) {nx : List UInt8}
    (hs : stepS c f i ((c.funs.getD f default).code.getD i default) st = some nx) : FunHead c f (i + 1) nx (max deep nx.length) (em.set i st.isEmpty) := by
  have hl := step_len hs
  have h1 := h.hs
  have hd := drop_step hlt
  refine ⟨by omega, by omega, by have := h.hd; omega, ?_, by simpa using h.hl, ?_⟩
  · have := h.hr
    rw [hd, runS, hs] at this
    exact this
  · have := h.he
    rw [hd, empS, hs] at this
    rw [← this]
    have hlm := h.hl
    rw [List.take_add_one, List.take_set_of_le (Nat.le_refl i)]
    simp [show i < em.length by omega]
theorem FunHead.fail {c : CodD} {f i : Nat} {st : List UInt8} {deep : Nat} {em : List Bool} (h : FunHead c f i st deep em) (hlt : i < (c.funs.getD f default).code.length)
    (hs : stepS c f i ((c.funs.getD f default).code.getD i default) st = none) : runS c f 0 (c.funs.getD f default).code [] 0 = none := by
  have := h.hr
  rw [drop_step hlt, runS, hs] at this
  exact this.symm
theorem FunHead.done {c : CodD} {f i : Nat} {st : List UInt8} {deep : Nat} {em : List Bool} (h : FunHead c f i st deep em) (hge : ¬ i < (c.funs.getD f default).code.length) : MidInv c f deep true em := by
  have hi : i = (c.funs.getD f default).code.length := by have := h.hi; omega
  have h1 := h.hr
  have h2 := h.he
  rw [hi, List.drop_length] at h1 h2
  refine .inl ⟨rfl, ?_, ?_⟩
  · rw [← h1, runS]
  · rw [← h2, empS, List.append_nil, ← h.hl, List.take_length]
theorem upd_row (em : List Bool) (i : Nat) (b : Bool) (hi : i < em.length) (j : Nat) : updF (fun i => [D.bool (em.getD i false)]) i [D.bool b] j = [D.bool ((em.set i b).getD j false)] := by
  simp only [updF]
  split
  · rename_i e; subst e
    simp [List.getD_eq_getElem?_getD, hi]
  · rename_i e
    simp [List.getD_eq_getElem?_getD, List.getElem?_set_ne (Ne.symm e)]
theorem run_mem {c : CodD} {f : Nat} : ∀ (l : List I4) (i : Nat) (st : List UInt8) (d r : Nat), runS c f i l st d = some r → ∀ x ∈ l, ∃ e, effC c f x = some e
  | [], _, _, _, _, _, x, hx => by cases hx
  | y :: l, i, st, d, r, h, x, hx => by
    rw [runS] at h
    split at h
    · cases h
    · rename_i nx hs
      rcases List.mem_cons.1 hx with rfl | hx
      · unfold stepS at hs
        split at hs
        · cases hs
        · exact ⟨_, ‹_›⟩
      · exact run_mem l _ _ _ _ h x hx
theorem getD_mem {α : Type} [Inhabited α] {l : List α} {i : Nat} (h : i < l.length) : l.getD i default ∈ l := by
  rw [List.getD_eq_getElem?_getD, List.getElem?_eq_getElem h]; exact List.getElem_mem h
theorem guard_one {x : I4} {b : Bool} (h : (!(true && (x.a != 24 || b))) = false) : (decide (x.a ≠ 24) || b) = true ∧ (true && (x.a != 24 || b)) = true := by
  cases b <;> simp_all
theorem ops1 {a : Int} : (a = 25 → true = (a == 25 || a == 24)) ∧ (¬ a = 25 → (a == 24) = (a == 25 || a == 24)) := ⟨fun h => by simp [h], fun h => by simp [h]⟩
theorem ops2 {p : Bool} {a : Int} {d : Bool} : (p = true → (a = 24 → d = (p && false || a == 24 && d)) ∧ (¬ a = 24 → false = (p && false || a == 24 && d))) ∧ (p = false → (a = 24 → d = (p && false || a == 24 && d)) ∧ (¬ a = 24 → false = (p && false || a == 24 && d))) :=
  ⟨fun _ => ⟨fun h => by simp [h], fun h => by simp [h]⟩, fun _ => ⟨fun h => by simp [h], fun h => by simp [h]⟩⟩
theorem ops3 {p : Bool} {a : Int} {d : Bool} {n : Nat} : (p = true → (0 < (n : Int) → true = (p && decide (0 < (n : Int)) || a == 24 && d)) ∧ (¬ 0 < (n : Int) → (a = 24 → d = (p && decide (0 < (n : Int)) || a == 24 && d)) ∧ (¬ a = 24 → false = (p && decide (0 < (n : Int)) || a == 24 && d)))) ∧ (p = false → (a = 24 → d = (p && decide (0 < (n : Int)) || a == 24 && d)) ∧ (¬ a = 24 → false = (p && decide (0 < (n : Int)) || a == 24 && d))) :=
  ⟨fun hp => ⟨fun h => by rw [hp, decide_eq_true h]; rfl, fun h => ⟨fun ha => by rw [decide_eq_false h]; simp [ha], fun ha => by rw [decide_eq_false h]; simp [ha]⟩⟩, fun hp => ⟨fun ha => by rw [hp]; simp [ha], fun ha => by rw [hp]; simp [ha]⟩⟩
theorem step_cond {c : CodD} {f i : Nat} {x : I4} {st : List UInt8} {y : Eff} (he : effC c f x = some y) (hok : okA st y.1 true = true) (hd : ¬ x.d < 0) {b : Bool} (hb : b = decide (newA st y.1 y.2 ≠ [])) :
    (((x.a == 25 || x.a == 24) && b || x.a == 24 && decide (x.b ≤ i)) = true → stepS c f i x st = none) ∧ (((x.a == 25 || x.a == 24) && b || x.a == 24 && decide (x.b ≤ i)) = false → stepS c f i x st = some (newA st y.1 y.2)) := by
  subst hb
  unfold stepS
  rw [he]
  simp only [hok]
  refine ⟨fun h => ?_, fun h => ?_⟩
  · rw [if_neg]
    rintro ⟨_, _, h1, h2⟩
    simp only [Bool.or_eq_true, Bool.and_eq_true, beq_iff_eq, decide_eq_true_eq] at h
    rcases h with h | h
    · exact h1 h
    · exact h2 h
  · simp only [Bool.or_eq_false_iff] at h
    rw [if_pos]
    refine ⟨trivial, hd, fun h1 => ?_, fun h2 => ?_⟩
    · have := h.1
      rw [Bool.and_eq_false_iff] at this
      rcases this with h3 | h3
      · rcases h1.1 with h4 | h4 <;> simp [h4] at h3
      · simp [h1.2] at h3
    · have := h.2
      simp [h2.1, h2.2] at this
theorem lenB {l : List UInt8} : decide (0 < (l.length : Int)) = decide (l ≠ []) := by
  cases l with
  | nil => rfl
  | cons a l => simp
theorem maxI (a b : Nat) : (if (a : Int) < (b : Int) then (b : Int) else (a : Int)) = ((max a b : Nat) : Int) := by
  split <;> omega
theorem maxI0 (a : Nat) : (if (a : Int) < 0 then (0 : Int) else (a : Int)) = (a : Int) := by
  split <;> omega
noncomputable def E39 (c : CodD) (f : Nat) : Senv := { EF c f with
  mg := fun id => match id with
    | 13 => 2
    | _ => 0
  cut := fun id env _ => match id with
    | 1 => cutF c f (Ab.look env 2)
    | _ => none
  ann2 := fun b _ S => match b with
    | 0 => annF1 c f (c.funs.getD f default).code.length S.objs
    | _ => none
  ann := fun b env S => match b with
    | 2 => annF2 c f (c.funs.getD f default).code.length (Ab.look env 9) (Ab.look env 10) (Ab.look env 11) (vecOf S)
    | _ => none
  bcut := fun b _ S => match b with
    | 0 => annB c f (c.funs.getD f default).code.length S.objs
    | _ => none }
set_option maxHeartbeats 4000000 in
theorem fun_ok (c : CodD) (f : Nat) (hf : f < c.funs.length) (hc : c.ok) (hn : (c.funs.getD f default).code.length ≤ 65536) : ACalls Try.prog 39 [.agg c.row, .int .i64 f] ⟨[], []⟩ (SpecR (sC [.agg c.row, .int .i64 f] (funD (funS c f))) ()) := by
  refine con_of (A := sC _ _) (x := ()) (E := E39 c f) ⟨tab_ok, conF_ok hf hc, mix, inlF_ok (conF_ok hf hc), eqs_ok⟩ Try.func39 rfl (by kernel_rfl) rfl (by simp [sC, E39, EF, EC, E0]) ?_
  refine vc_eq (T :=
      ∀ (x : Nat), True → (SM x ∧ side (Z0 ≤ (↑f : Int) ∧ (↑f : Int) < (LI (CodD.funs c))) (∀ (x_1 : Nat), x ≠ x_1 ∧ True → SM x_1 ∧ ∃ (x_2 : Nat × FnD × O4), (x_2.2.1 = GF c f ∧ CB c x_2.2.2) ∧ (x_1 = x_2.1 ∧ True) ∧
      (x_1 = x_2.1 ∧ (FnD.slots (GF c (Int.toNat (↑f : Int))) = FnD.slots x_2.2.1 ∧ (LN (FnD.code (GF c (Int.toNat (↑f : Int)))) = LN (FnD.code x_2.2.1) ∧ (∀ (i : Nat), i < LN (FnD.code (GF c (Int.toNat (↑f : Int)))) →
      (R4 (G4 (FnD.code (GF c (Int.toNat (↑f : Int)))) i)) = (R4 (G4 (FnD.code x_2.2.1) i))) ∧ True) ∧ True) ∧ SM x ∧ (weakD (D.sl N4 (LN (CodD.consts c)) (fun (i : Nat) => Arr.row (GC c i)) Mode.any) x_2.2.2.1 ∧ weakD
      (D.sl N2 (LN (CodD.funs c)) (fun (i : Nat) => [ZI (FnD.slots (GF c i)), S4 (FnD.code (GF c i))]) Mode.any) x_2.2.2.2.1 ∧ weakD (D.sl N4 (LN (CodD.kers c)) (fun (i : Nat) => KeD.row (GK c i)) Mode.any) x_2.2.2.2.2.1
      ∧ weakD (D.sl N2 (LN (CodD.lanes c)) (fun (i : Nat) => LaD.row (GL c i)) Mode.any) x_2.2.2.2.2.2 ∧ True) ∧ True) ∧ True)) ∧ ∀ (x_1 : Nat × FnD × O4), x_1.2.1 = GF c f ∧ CB c x_1.2.2 → SM x_1.1 ∧ SM x_1.1 ∧ ifB
      (decide (Z0 ≤ FnD.slots x_1.2.1)) ((decide (FnD.slots x_1.2.1 ≤ (1000 : Int)) = bif decide (Z0 ≤ FnD.slots x_1.2.1) then decide (FnD.slots x_1.2.1 ≤ (1000 : Int)) else false) ∧ True) ((false = bif decide (Z0 ≤
      FnD.slots x_1.2.1) then decide (FnD.slots x_1.2.1 ≤ (1000 : Int)) else false) ∧ True) ∧ True ∧ ifB (!bif decide (Z0 ≤ FnD.slots x_1.2.1) then decide (FnD.slots x_1.2.1 ≤ (1000 : Int)) else false) (True ∧ ∃ (y :
      Unit), True ∧ (Z0 = (NI (Option.getD (funS c f) N0)) ∧ false = Option.isSome (funS c f) ∧ True) ∧ True ∧ True) (ifB ((LI (FnD.code x_1.2.1)) == Z0) (True ∧ ∃ (y : Unit), True ∧ (Z0 = (NI (Option.getD (funS c f)
      N0)) ∧ false = Option.isSome (funS c f) ∧ True) ∧ True ∧ True) (SM x_1.1 ∧ side (Z0 ≤ IntKind.wrap IntKind.i64 ((LI (FnD.code x_1.2.1)) - Z1) ∧ IntKind.wrap IntKind.i64 ((LI (FnD.code x_1.2.1)) - Z1) < (LI
      (FnD.code x_1.2.1))) (ifB (I4.a (G4 (FnD.code x_1.2.1) (Int.toNat (IntKind.wrap IntKind.i64 ((LI (FnD.code x_1.2.1)) - Z1)))) != (25 : Int)) (True ∧ ∃ (y : Unit), True ∧ (Z0 = (NI (Option.getD (funS c f) N0)) ∧
      false = Option.isSome (funS c f) ∧ True) ∧ True ∧ True) (side (Z0 ≤ (LI (FnD.code x_1.2.1)) ∧ (LI (FnD.code x_1.2.1)) ≤ (LI (FnD.code x_1.2.1)) ∧ Z1 * (LI (FnD.code x_1.2.1)) ≤ (281474976710656 : Int) ∧ (LI
      (FnD.code x_1.2.1)) ≤ (9223372036854775807 : Int)) (∀ (x_2 : Nat), x_1.1 ≠ x_2 ∧ x ≠ x_2 ∧ True → SM x_1.1 ∧ (((∃ (x_3 : Nat × Nat × List Bool), FunHead c f x_3.1 [] x_3.2.1 x_3.2.2 ∧ True ∧ (Z0 = (NI x_3.1) ∧ (SM
      N0 ∧ (∀ (i : Nat), i < N0 → eqOf (List D) [] []) ∧ True) ∧ Z0 = (NI x_3.2.1) ∧ True) ∧ StTo (St.mk [(N2, x_2, AObj.vec N1 (TL (FnD.code x_1.2.1)) (TL (FnD.code x_1.2.1)) fun (x : Nat) => [D.bool false]), (N1,
      x_1.1, AObj.cells [ZI (FnD.slots x_1.2.1), S4 (FnD.code x_1.2.1)]), (N0, x, AObj.cells [x_1.2.2.1, x_1.2.2.2.1, x_1.2.2.2.2.1, x_1.2.2.2.2.2])] []) (St.mk [(N2, x_2, AObj.vec N1 (LN (FnD.code (GF c f))) (LN
      (FnD.code (GF c f))) fun (i : Nat) => [D.bool (List.getD x_3.2.2 i false)]), (N1, x_1.1, AObj.cells [ZI (FnD.slots x_1.2.1), S4 (FnD.code x_1.2.1)]), (N0, x, AObj.cells [x_1.2.2.1, x_1.2.2.2.1, x_1.2.2.2.2.1,
      x_1.2.2.2.2.2])] [])) ∨ ∃ (x_3 : (Nat × Nat × List Bool) × List UInt8 × Nat × Nat), (FunHead c f x_3.1.1 x_3.2.1 x_3.1.2.1 x_3.1.2.2 ∧ LN x_3.2.1 ≤ x_3.2.2.2) ∧ True ∧ (Z0 = (NI x_3.1.1) ∧ D.sl N1 N0 (fun (x : Nat)
      => []) Mode.nil = D.vs (3 : Nat) x_3.2.2.1 (LN x_3.2.1) x_3.2.2.2 N1 ∧ Z0 = (NI x_3.1.2.1) ∧ True) ∧ StTo (St.mk [(N2, x_2, AObj.vec N1 (TL (FnD.code x_1.2.1)) (TL (FnD.code x_1.2.1)) fun (x : Nat) => [D.bool
      false]), (N1, x_1.1, AObj.cells [ZI (FnD.slots x_1.2.1), S4 (FnD.code x_1.2.1)]), (N0, x, AObj.cells [x_1.2.2.1, x_1.2.2.2.1, x_1.2.2.2.2.1, x_1.2.2.2.2.2])] []) (St.mk [((3 : Nat), x_3.2.2.1, AObj.vec N1 (LN
      x_3.2.1) x_3.2.2.2 fun (i : Nat) => [ZB (BI x_3.2.1 i)]), (N2, x_2, AObj.vec N1 (LN (FnD.code (GF c f))) (LN (FnD.code (GF c f))) fun (i : Nat) => [D.bool (List.getD x_3.1.2.2 i false)]), (N1, x_1.1, AObj.cells [ZI
      (FnD.slots x_1.2.1), S4 (FnD.code x_1.2.1)]), (N0, x, AObj.cells [x_1.2.2.1, x_1.2.2.2.1, x_1.2.2.2.2.1, x_1.2.2.2.2.2])] [])) ∧ (∀ (x_3 : Nat × Nat × List Bool), FunHead c f x_3.1 [] x_3.2.1 x_3.2.2 → ifB (decide
      ((NI x_3.1) < (LI (FnD.code x_1.2.1)))) (side (Z0 ≤ (NI x_3.1) ∧ (NI x_3.1) < (LI (FnD.code x_1.2.1))) (∀ (x_4 : Nat), x_2 ≠ x_4 ∧ x_1.1 ≠ x_4 ∧ x ≠ x_4 ∧ True → SM x_4 ∧ side (Z0 ≤ (NI x_3.1) ∧ (NI x_3.1) < (NI
      (TL (FnD.code x_1.2.1)))) (SM x_2 ∧ side (TN x_3.1 < LN (FnD.code (GF c f))) (SM x ∧ SM x_4 ∧ (((weakD x_1.2.2.1 (D.sl N4 (LN (CodD.consts c)) (fun (i : Nat) => Arr.row (GC c i)) Mode.any) ∧ weakD x_1.2.2.2.1 (D.sl
      N2 (LN (CodD.funs c)) (fun (i : Nat) => [ZI (FnD.slots (GF c i)), S4 (FnD.code (GF c i))]) Mode.any) ∧ weakD x_1.2.2.2.2.1 (D.sl N4 (LN (CodD.kers c)) (fun (i : Nat) => KeD.row (GK c i)) Mode.any) ∧ weakD
      x_1.2.2.2.2.2 (D.sl N2 (LN (CodD.lanes c)) (fun (i : Nat) => LaD.row (GL c i)) Mode.any) ∧ True) ∧ SM (↑f : Int) ∧ True) ∧ I4.ok (I4.mk (I4.a (G4 (FnD.code x_1.2.1) (TN x_3.1))) (I4.b (G4 (FnD.code x_1.2.1) (TN
      x_3.1))) (I4.c (G4 (FnD.code x_1.2.1) (TN x_3.1))) (I4.d (G4 (FnD.code x_1.2.1) (TN x_3.1))))) ∧ ∀ (y : Eff), offQ (effC c f (I4.mk (I4.a (G4 (FnD.code x_1.2.1) (TN x_3.1))) (I4.b (G4 (FnD.code x_1.2.1) (TN
      x_3.1))) (I4.c (G4 (FnD.code x_1.2.1) (TN x_3.1))) (I4.d (G4 (FnD.code x_1.2.1) (TN x_3.1))))) y → ∀ (x_5 : Nat), x_4 ≠ x_5 ∧ x_2 ≠ x_5 ∧ x_1.1 ≠ x_5 ∧ x ≠ x_5 ∧ True → SM x_5 ∧ SM x_5 ∧ ifB (y.1 == [] && (y.2 ==
      [] && (Option.isSome (effC c f (I4.mk (I4.a (G4 (FnD.code x_1.2.1) (TN x_3.1))) (I4.b (G4 (FnD.code x_1.2.1) (TN x_3.1))) (I4.c (G4 (FnD.code x_1.2.1) (TN x_3.1))) (I4.d (G4 (FnD.code x_1.2.1) (TN x_3.1))))) ==
      false && true))) ((SM (D.ref N1 x_1.1 N0) ∧ SM (D.vs N2 x_2 (TL (FnD.code x_1.2.1)) (TL (FnD.code x_1.2.1)) N1) ∧ True) ∧ ∃ (x : Nat × Bool × List Bool), MidInv c f x.1 x.2.1 x.2.2 ∧ ((NI x_3.2.1) = (NI x.1) ∧
      false = x.2.1 ∧ True) ∧ (SM x_2 ∧ (SM (LN (FnD.code (GF c f))) ∧ SM (LN (FnD.code (GF c f))) ∧ ∀ (i : Nat), i < LN (FnD.code (GF c f)) → updF (fun (i : Nat) => [D.bool (List.getD x_3.2.2 i false)]) (TN x_3.1)
      [D.bool true] i = [D.bool (List.getD x.2.2 i false)]) ∧ SM x_1.1 ∧ (SM (FnD.slots x_1.2.1) ∧ (SM (LN (FnD.code x_1.2.1)) ∧ (∀ (i : Nat), i < LN (FnD.code x_1.2.1) → SM (R4 (G4 (FnD.code x_1.2.1) i))) ∧ True) ∧
      True) ∧ True) ∧ True) (SM x_4 ∧ ifB (decide (I4.d (G4 (FnD.code x_1.2.1) (TN x_3.1)) < Z0)) ((SM (D.ref N1 x_1.1 N0) ∧ SM (D.vs N2 x_2 (TL (FnD.code x_1.2.1)) (TL (FnD.code x_1.2.1)) N1) ∧ True) ∧ ∃ (x : Nat × Bool
      × List Bool), MidInv c f x.1 x.2.1 x.2.2 ∧ ((NI x_3.2.1) = (NI x.1) ∧ false = x.2.1 ∧ True) ∧ (SM x_2 ∧ (SM (LN (FnD.code (GF c f))) ∧ SM (LN (FnD.code (GF c f))) ∧ ∀ (i : Nat), i < LN (FnD.code (GF c f)) → updF
      (fun (i : Nat) => [D.bool (List.getD x_3.2.2 i false)]) (TN x_3.1) [D.bool true] i = [D.bool (List.getD x.2.2 i false)]) ∧ SM x_1.1 ∧ (SM (FnD.slots x_1.2.1) ∧ (SM (LN (FnD.code x_1.2.1)) ∧ (∀ (i : Nat), i < LN
      (FnD.code x_1.2.1) → SM (R4 (G4 (FnD.code x_1.2.1) i))) ∧ True) ∧ True) ∧ True) ∧ True) (SM x_5 ∧ (Option.isSome (effC c f (I4.mk (I4.a (G4 (FnD.code x_1.2.1) (TN x_3.1))) (I4.b (G4 (FnD.code x_1.2.1) (TN x_3.1)))
      (I4.c (G4 (FnD.code x_1.2.1) (TN x_3.1))) (I4.d (G4 (FnD.code x_1.2.1) (TN x_3.1))))) = true → LN y.2 ≤ (1000000 : Nat) ∧ LN y.1 ≤ (1000000 : Nat)) ∧ ifB (okA [] y.1 (Option.isSome (effC c f (I4.mk (I4.a (G4
      (FnD.code x_1.2.1) (TN x_3.1))) (I4.b (G4 (FnD.code x_1.2.1) (TN x_3.1))) (I4.c (G4 (FnD.code x_1.2.1) (TN x_3.1))) (I4.d (G4 (FnD.code x_1.2.1) (TN x_3.1))))))) (ifB (List.isEmpty y.2) ((SM x_4 ∧ ifB (I4.a (G4
      (FnD.code x_1.2.1) (TN x_3.1)) == (25 : Int)) ((true = bif I4.a (G4 (FnD.code x_1.2.1) (TN x_3.1)) == (25 : Int) then true else I4.a (G4 (FnD.code x_1.2.1) (TN x_3.1)) == (24 : Int)) ∧ True) (SM x_4 ∧ ((I4.a (G4
      (FnD.code x_1.2.1) (TN x_3.1)) == (24 : Int)) = bif I4.a (G4 (FnD.code x_1.2.1) (TN x_3.1)) == (25 : Int) then true else I4.a (G4 (FnD.code x_1.2.1) (TN x_3.1)) == (24 : Int)) ∧ True)) ∧ ifB (bif I4.a (G4 (FnD.code
      x_1.2.1) (TN x_3.1)) == (25 : Int) then true else I4.a (G4 (FnD.code x_1.2.1) (TN x_3.1)) == (24 : Int)) (SM x_4 ∧ ifB (I4.a (G4 (FnD.code x_1.2.1) (TN x_3.1)) == (24 : Int)) (SM x_4 ∧ (decide (I4.b (G4 (FnD.code
      x_1.2.1) (TN x_3.1)) ≤ (NI x_3.1)) = bif bif bif I4.a (G4 (FnD.code x_1.2.1) (TN x_3.1)) == (25 : Int) then true else I4.a (G4 (FnD.code x_1.2.1) (TN x_3.1)) == (24 : Int) then false else false then true else bif
      I4.a (G4 (FnD.code x_1.2.1) (TN x_3.1)) == (24 : Int) then decide (I4.b (G4 (FnD.code x_1.2.1) (TN x_3.1)) ≤ (NI x_3.1)) else false) ∧ True) ((false = bif bif bif I4.a (G4 (FnD.code x_1.2.1) (TN x_3.1)) == (25 :
      Int) then true else I4.a (G4 (FnD.code x_1.2.1) (TN x_3.1)) == (24 : Int) then false else false then true else bif I4.a (G4 (FnD.code x_1.2.1) (TN x_3.1)) == (24 : Int) then decide (I4.b (G4 (FnD.code x_1.2.1) (TN
      x_3.1)) ≤ (NI x_3.1)) else false) ∧ True)) (SM x_4 ∧ ifB (I4.a (G4 (FnD.code x_1.2.1) (TN x_3.1)) == (24 : Int)) (SM x_4 ∧ (decide (I4.b (G4 (FnD.code x_1.2.1) (TN x_3.1)) ≤ (NI x_3.1)) = bif bif bif I4.a (G4
      (FnD.code x_1.2.1) (TN x_3.1)) == (25 : Int) then true else I4.a (G4 (FnD.code x_1.2.1) (TN x_3.1)) == (24 : Int) then false else false then true else bif I4.a (G4 (FnD.code x_1.2.1) (TN x_3.1)) == (24 : Int) then
      decide (I4.b (G4 (FnD.code x_1.2.1) (TN x_3.1)) ≤ (NI x_3.1)) else false) ∧ True) ((false = bif bif bif I4.a (G4 (FnD.code x_1.2.1) (TN x_3.1)) == (25 : Int) then true else I4.a (G4 (FnD.code x_1.2.1) (TN x_3.1))
      == (24 : Int) then false else false then true else bif I4.a (G4 (FnD.code x_1.2.1) (TN x_3.1)) == (24 : Int) then decide (I4.b (G4 (FnD.code x_1.2.1) (TN x_3.1)) ≤ (NI x_3.1)) else false) ∧ True)) ∧ ifB (bif bif
      bif I4.a (G4 (FnD.code x_1.2.1) (TN x_3.1)) == (25 : Int) then true else I4.a (G4 (FnD.code x_1.2.1) (TN x_3.1)) == (24 : Int) then false else false then true else bif I4.a (G4 (FnD.code x_1.2.1) (TN x_3.1)) == (24
      : Int) then decide (I4.b (G4 (FnD.code x_1.2.1) (TN x_3.1)) ≤ (NI x_3.1)) else false) ((SM (D.ref N1 x_1.1 N0) ∧ SM (D.vs N2 x_2 (TL (FnD.code x_1.2.1)) (TL (FnD.code x_1.2.1)) N1) ∧ True) ∧ ∃ (x : Nat × Bool ×
      List Bool), MidInv c f x.1 x.2.1 x.2.2 ∧ ((NI x_3.2.1) = (NI x.1) ∧ false = x.2.1 ∧ True) ∧ (SM x_2 ∧ (SM (LN (FnD.code (GF c f))) ∧ SM (LN (FnD.code (GF c f))) ∧ ∀ (i : Nat), i < LN (FnD.code (GF c f)) → updF (fun
      (i : Nat) => [D.bool (List.getD x_3.2.2 i false)]) (TN x_3.1) [D.bool true] i = [D.bool (List.getD x.2.2 i false)]) ∧ SM x_1.1 ∧ (SM (FnD.slots x_1.2.1) ∧ (SM (LN (FnD.code x_1.2.1)) ∧ (∀ (i : Nat), i < LN
      (FnD.code x_1.2.1) → SM (R4 (G4 (FnD.code x_1.2.1) i))) ∧ True) ∧ True) ∧ True) ∧ True) ((SM (ZI (↑f : Int)) ∧ SM (D.ref N0 x N0) ∧ SM (D.ref N1 x_1.1 N0) ∧ SM (ZI (LI (FnD.code x_1.2.1))) ∧ SM (D.vs N2 x_2 (TL
      (FnD.code x_1.2.1)) (TL (FnD.code x_1.2.1)) N1) ∧ SM (D.bool true) ∧ SM (S4 (FnD.code x_1.2.1)) ∧ SM (ZI (LI (FnD.code x_1.2.1))) ∧ True) ∧ ((∃ (x_6 : Nat × Nat × List Bool), FunHead c f x_6.1 [] x_6.2.1 x_6.2.2 ∧
      LN (FnD.code (GF c f)) - x_6.1 < LN (FnD.code (GF c f)) - x_3.1 ∧ (IntKind.wrap IntKind.i64 ((NI x_3.1) + Z1) = (NI x_6.1) ∧ (SM N0 ∧ (∀ (i : Nat), i < N0 → eqOf (List D) [] []) ∧ True) ∧ (if (NI x_3.2.1) < Z0 then
      Z0 else (NI x_3.2.1)) = (NI x_6.2.1) ∧ True) ∧ StTo (St.mk [(N4, x_5, AObj.cells [D.str y.1, D.str y.2, D.bool (Option.isSome (effC c f (I4.mk (I4.a (G4 (FnD.code x_1.2.1) (TN x_3.1))) (I4.b (G4 (FnD.code x_1.2.1)
      (TN x_3.1))) (I4.c (G4 (FnD.code x_1.2.1) (TN x_3.1))) (I4.d (G4 (FnD.code x_1.2.1) (TN x_3.1))))))]), ((3 : Nat), x_4, AObj.cells (R4 (G4 (FnD.code x_1.2.1) (TN x_3.1)))), (N2, x_2, AObj.vec N1 (LN (FnD.code (GF c
      f))) (LN (FnD.code (GF c f))) (updF (fun (i : Nat) => [D.bool (List.getD x_3.2.2 i false)]) (TN x_3.1) [D.bool true])), (N1, x_1.1, AObj.cells [ZI (FnD.slots x_1.2.1), S4 (FnD.code x_1.2.1)]), (N0, x, AObj.cells
      [x_1.2.2.1, x_1.2.2.2.1, x_1.2.2.2.2.1, x_1.2.2.2.2.2])] []) (St.mk [(N2, x_2, AObj.vec N1 (LN (FnD.code (GF c f))) (LN (FnD.code (GF c f))) fun (i : Nat) => [D.bool (List.getD x_6.2.2 i false)]), (N1, x_1.1,
      AObj.cells [ZI (FnD.slots x_1.2.1), S4 (FnD.code x_1.2.1)]), (N0, x, AObj.cells [x_1.2.2.1, x_1.2.2.2.1, x_1.2.2.2.2.1, x_1.2.2.2.2.2])] [])) ∨ ∃ (x_6 : (Nat × Nat × List Bool) × List UInt8 × Nat × Nat), (FunHead c
      f x_6.1.1 x_6.2.1 x_6.1.2.1 x_6.1.2.2 ∧ LN x_6.2.1 ≤ x_6.2.2.2) ∧ LN (FnD.code (GF c f)) - x_6.1.1 < LN (FnD.code (GF c f)) - x_3.1 ∧ (IntKind.wrap IntKind.i64 ((NI x_3.1) + Z1) = (NI x_6.1.1) ∧ D.sl N1 N0 (fun (x
      : Nat) => []) Mode.nil = D.vs (3 : Nat) x_6.2.2.1 (LN x_6.2.1) x_6.2.2.2 N1 ∧ (if (NI x_3.2.1) < Z0 then Z0 else (NI x_3.2.1)) = (NI x_6.1.2.1) ∧ True) ∧ StTo (St.mk [(N4, x_5, AObj.cells [D.str y.1, D.str y.2,
      D.bool (Option.isSome (effC c f (I4.mk (I4.a (G4 (FnD.code x_1.2.1) (TN x_3.1))) (I4.b (G4 (FnD.code x_1.2.1) (TN x_3.1))) (I4.c (G4 (FnD.code x_1.2.1) (TN x_3.1))) (I4.d (G4 (FnD.code x_1.2.1) (TN x_3.1))))))]),
      ((3 : Nat), x_4, AObj.cells (R4 (G4 (FnD.code x_1.2.1) (TN x_3.1)))), (N2, x_2, AObj.vec N1 (LN (FnD.code (GF c f))) (LN (FnD.code (GF c f))) (updF (fun (i : Nat) => [D.bool (List.getD x_3.2.2 i false)]) (TN x_3.1)
      [D.bool true])), (N1, x_1.1, AObj.cells [ZI (FnD.slots x_1.2.1), S4 (FnD.code x_1.2.1)]), (N0, x, AObj.cells [x_1.2.2.1, x_1.2.2.2.1, x_1.2.2.2.2.1, x_1.2.2.2.2.2])] []) (St.mk [((3 : Nat), x_6.2.2.1, AObj.vec N1
      (LN x_6.2.1) x_6.2.2.2 fun (i : Nat) => [ZB (BI x_6.2.1 i)]), (N2, x_2, AObj.vec N1 (LN (FnD.code (GF c f))) (LN (FnD.code (GF c f))) fun (i : Nat) => [D.bool (List.getD x_6.1.2.2 i false)]), (N1, x_1.1, AObj.cells
      [ZI (FnD.slots x_1.2.1), S4 (FnD.code x_1.2.1)]), (N0, x, AObj.cells [x_1.2.2.1, x_1.2.2.2.1, x_1.2.2.2.2.1, x_1.2.2.2.2.2])] [])))) (∀ (x_6 cap : Nat), LN y.2 ≤ cap → (SM x_4 ∧ ifB (I4.a (G4 (FnD.code x_1.2.1) (TN
      x_3.1)) == (25 : Int)) ((true = bif I4.a (G4 (FnD.code x_1.2.1) (TN x_3.1)) == (25 : Int) then true else I4.a (G4 (FnD.code x_1.2.1) (TN x_3.1)) == (24 : Int)) ∧ True) (SM x_4 ∧ ((I4.a (G4 (FnD.code x_1.2.1) (TN
      x_3.1)) == (24 : Int)) = bif I4.a (G4 (FnD.code x_1.2.1) (TN x_3.1)) == (25 : Int) then true else I4.a (G4 (FnD.code x_1.2.1) (TN x_3.1)) == (24 : Int)) ∧ True)) ∧ ifB (bif I4.a (G4 (FnD.code x_1.2.1) (TN x_3.1))
      == (25 : Int) then true else I4.a (G4 (FnD.code x_1.2.1) (TN x_3.1)) == (24 : Int)) (ifB (decide (Z0 < (LI y.2))) ((true = bif bif bif I4.a (G4 (FnD.code x_1.2.1) (TN x_3.1)) == (25 : Int) then true else I4.a (G4
      (FnD.code x_1.2.1) (TN x_3.1)) == (24 : Int) then decide (Z0 < (LI y.2)) else false then true else bif I4.a (G4 (FnD.code x_1.2.1) (TN x_3.1)) == (24 : Int) then decide (I4.b (G4 (FnD.code x_1.2.1) (TN x_3.1)) ≤
      (NI x_3.1)) else false) ∧ True) (SM x_4 ∧ ifB (I4.a (G4 (FnD.code x_1.2.1) (TN x_3.1)) == (24 : Int)) (SM x_4 ∧ (decide (I4.b (G4 (FnD.code x_1.2.1) (TN x_3.1)) ≤ (NI x_3.1)) = bif bif bif I4.a (G4 (FnD.code
      x_1.2.1) (TN x_3.1)) == (25 : Int) then true else I4.a (G4 (FnD.code x_1.2.1) (TN x_3.1)) == (24 : Int) then decide (Z0 < (LI y.2)) else false then true else bif I4.a (G4 (FnD.code x_1.2.1) (TN x_3.1)) == (24 :
      Int) then decide (I4.b (G4 (FnD.code x_1.2.1) (TN x_3.1)) ≤ (NI x_3.1)) else false) ∧ True) ((false = bif bif bif I4.a (G4 (FnD.code x_1.2.1) (TN x_3.1)) == (25 : Int) then true else I4.a (G4 (FnD.code x_1.2.1) (TN
      x_3.1)) == (24 : Int) then decide (Z0 < (LI y.2)) else false then true else bif I4.a (G4 (FnD.code x_1.2.1) (TN x_3.1)) == (24 : Int) then decide (I4.b (G4 (FnD.code x_1.2.1) (TN x_3.1)) ≤ (NI x_3.1)) else false) ∧
      True))) (SM x_4 ∧ ifB (I4.a (G4 (FnD.code x_1.2.1) (TN x_3.1)) == (24 : Int)) (SM x_4 ∧ (decide (I4.b (G4 (FnD.code x_1.2.1) (TN x_3.1)) ≤ (NI x_3.1)) = bif bif bif I4.a (G4 (FnD.code x_1.2.1) (TN x_3.1)) == (25 :
      Int) then true else I4.a (G4 (FnD.code x_1.2.1) (TN x_3.1)) == (24 : Int) then decide (Z0 < (LI y.2)) else false then true else bif I4.a (G4 (FnD.code x_1.2.1) (TN x_3.1)) == (24 : Int) then decide (I4.b (G4
      (FnD.code x_1.2.1) (TN x_3.1)) ≤ (NI x_3.1)) else false) ∧ True) ((false = bif bif bif I4.a (G4 (FnD.code x_1.2.1) (TN x_3.1)) == (25 : Int) then true else I4.a (G4 (FnD.code x_1.2.1) (TN x_3.1)) == (24 : Int) then
      decide (Z0 < (LI y.2)) else false then true else bif I4.a (G4 (FnD.code x_1.2.1) (TN x_3.1)) == (24 : Int) then decide (I4.b (G4 (FnD.code x_1.2.1) (TN x_3.1)) ≤ (NI x_3.1)) else false) ∧ True)) ∧ ifB (bif bif bif
      I4.a (G4 (FnD.code x_1.2.1) (TN x_3.1)) == (25 : Int) then true else I4.a (G4 (FnD.code x_1.2.1) (TN x_3.1)) == (24 : Int) then decide (Z0 < (LI y.2)) else false then true else bif I4.a (G4 (FnD.code x_1.2.1) (TN
      x_3.1)) == (24 : Int) then decide (I4.b (G4 (FnD.code x_1.2.1) (TN x_3.1)) ≤ (NI x_3.1)) else false) ((SM (D.ref N1 x_1.1 N0) ∧ SM (D.vs N2 x_2 (TL (FnD.code x_1.2.1)) (TL (FnD.code x_1.2.1)) N1) ∧ True) ∧ ∃ (x :
      Nat × Bool × List Bool), MidInv c f x.1 x.2.1 x.2.2 ∧ ((NI x_3.2.1) = (NI x.1) ∧ false = x.2.1 ∧ True) ∧ (SM x_2 ∧ (SM (LN (FnD.code (GF c f))) ∧ SM (LN (FnD.code (GF c f))) ∧ ∀ (i : Nat), i < LN (FnD.code (GF c
      f)) → updF (fun (i : Nat) => [D.bool (List.getD x_3.2.2 i false)]) (TN x_3.1) [D.bool true] i = [D.bool (List.getD x.2.2 i false)]) ∧ SM x_1.1 ∧ (SM (FnD.slots x_1.2.1) ∧ (SM (LN (FnD.code x_1.2.1)) ∧ (∀ (i : Nat),
      i < LN (FnD.code x_1.2.1) → SM (R4 (G4 (FnD.code x_1.2.1) i))) ∧ True) ∧ True) ∧ True) ∧ True) ((SM (ZI (↑f : Int)) ∧ SM (D.ref N0 x N0) ∧ SM (D.ref N1 x_1.1 N0) ∧ SM (ZI (LI (FnD.code x_1.2.1))) ∧ SM (D.vs N2 x_2
      (TL (FnD.code x_1.2.1)) (TL (FnD.code x_1.2.1)) N1) ∧ SM (D.bool true) ∧ SM (S4 (FnD.code x_1.2.1)) ∧ SM (ZI (LI (FnD.code x_1.2.1))) ∧ True) ∧ ((∃ (x_7 : Nat × Nat × List Bool), FunHead c f x_7.1 [] x_7.2.1
      x_7.2.2 ∧ LN (FnD.code (GF c f)) - x_7.1 < LN (FnD.code (GF c f)) - x_3.1 ∧ (IntKind.wrap IntKind.i64 ((NI x_3.1) + Z1) = (NI x_7.1) ∧ D.vs (5 : Nat) x_6 (LN y.2) cap N1 = D.sl N1 N0 (fun (x : Nat) => []) Mode.nil
      ∧ (if (NI x_3.2.1) < (LI y.2) then (LI y.2) else (NI x_3.2.1)) = (NI x_7.2.1) ∧ True) ∧ StTo (St.mk [((5 : Nat), x_6, AObj.vec N1 (LN y.2) cap fun (i : Nat) => [ZB (BI y.2 i)]), (N4, x_5, AObj.cells [D.str y.1,
      D.str y.2, D.bool (Option.isSome (effC c f (I4.mk (I4.a (G4 (FnD.code x_1.2.1) (TN x_3.1))) (I4.b (G4 (FnD.code x_1.2.1) (TN x_3.1))) (I4.c (G4 (FnD.code x_1.2.1) (TN x_3.1))) (I4.d (G4 (FnD.code x_1.2.1) (TN
      x_3.1))))))]), ((3 : Nat), x_4, AObj.cells (R4 (G4 (FnD.code x_1.2.1) (TN x_3.1)))), (N2, x_2, AObj.vec N1 (LN (FnD.code (GF c f))) (LN (FnD.code (GF c f))) (updF (fun (i : Nat) => [D.bool (List.getD x_3.2.2 i
      false)]) (TN x_3.1) [D.bool true])), (N1, x_1.1, AObj.cells [ZI (FnD.slots x_1.2.1), S4 (FnD.code x_1.2.1)]), (N0, x, AObj.cells [x_1.2.2.1, x_1.2.2.2.1, x_1.2.2.2.2.1, x_1.2.2.2.2.2])] []) (St.mk [(N2, x_2,
      AObj.vec N1 (LN (FnD.code (GF c f))) (LN (FnD.code (GF c f))) fun (i : Nat) => [D.bool (List.getD x_7.2.2 i false)]), (N1, x_1.1, AObj.cells [ZI (FnD.slots x_1.2.1), S4 (FnD.code x_1.2.1)]), (N0, x, AObj.cells
      [x_1.2.2.1, x_1.2.2.2.1, x_1.2.2.2.2.1, x_1.2.2.2.2.2])] [])) ∨ ∃ (x_7 : (Nat × Nat × List Bool) × List UInt8 × Nat × Nat), (FunHead c f x_7.1.1 x_7.2.1 x_7.1.2.1 x_7.1.2.2 ∧ LN x_7.2.1 ≤ x_7.2.2.2) ∧ LN (FnD.code
      (GF c f)) - x_7.1.1 < LN (FnD.code (GF c f)) - x_3.1 ∧ (IntKind.wrap IntKind.i64 ((NI x_3.1) + Z1) = (NI x_7.1.1) ∧ (x_6 = x_7.2.2.1 ∧ LN y.2 = LN x_7.2.1 ∧ cap = x_7.2.2.2) ∧ (if (NI x_3.2.1) < (LI y.2) then (LI
      y.2) else (NI x_3.2.1)) = (NI x_7.1.2.1) ∧ True) ∧ StTo (St.mk [((5 : Nat), x_6, AObj.vec N1 (LN y.2) cap fun (i : Nat) => [ZB (BI y.2 i)]), (N4, x_5, AObj.cells [D.str y.1, D.str y.2, D.bool (Option.isSome (effC c
      f (I4.mk (I4.a (G4 (FnD.code x_1.2.1) (TN x_3.1))) (I4.b (G4 (FnD.code x_1.2.1) (TN x_3.1))) (I4.c (G4 (FnD.code x_1.2.1) (TN x_3.1))) (I4.d (G4 (FnD.code x_1.2.1) (TN x_3.1))))))]), ((3 : Nat), x_4, AObj.cells (R4
      (G4 (FnD.code x_1.2.1) (TN x_3.1)))), (N2, x_2, AObj.vec N1 (LN (FnD.code (GF c f))) (LN (FnD.code (GF c f))) (updF (fun (i : Nat) => [D.bool (List.getD x_3.2.2 i false)]) (TN x_3.1) [D.bool true])), (N1, x_1.1,
      AObj.cells [ZI (FnD.slots x_1.2.1), S4 (FnD.code x_1.2.1)]), (N0, x, AObj.cells [x_1.2.2.1, x_1.2.2.2.1, x_1.2.2.2.2.1, x_1.2.2.2.2.2])] []) (St.mk [((3 : Nat), x_7.2.2.1, AObj.vec N1 (LN x_7.2.1) x_7.2.2.2 fun (i
      : Nat) => [ZB (BI x_7.2.1 i)]), (N2, x_2, AObj.vec N1 (LN (FnD.code (GF c f))) (LN (FnD.code (GF c f))) fun (i : Nat) => [D.bool (List.getD x_7.1.2.2 i false)]), (N1, x_1.1, AObj.cells [ZI (FnD.slots x_1.2.1), S4
      (FnD.code x_1.2.1)]), (N0, x, AObj.cells [x_1.2.2.1, x_1.2.2.2.1, x_1.2.2.2.2.1, x_1.2.2.2.2.2])] []))))) ((SM x_4 ∧ ifB (I4.a (G4 (FnD.code x_1.2.1) (TN x_3.1)) == (25 : Int)) ((true = bif I4.a (G4 (FnD.code
      x_1.2.1) (TN x_3.1)) == (25 : Int) then true else I4.a (G4 (FnD.code x_1.2.1) (TN x_3.1)) == (24 : Int)) ∧ True) (SM x_4 ∧ ((I4.a (G4 (FnD.code x_1.2.1) (TN x_3.1)) == (24 : Int)) = bif I4.a (G4 (FnD.code x_1.2.1)
      (TN x_3.1)) == (25 : Int) then true else I4.a (G4 (FnD.code x_1.2.1) (TN x_3.1)) == (24 : Int)) ∧ True)) ∧ (SM true ∧ True) ∧ (SM (D.ref N1 x_1.1 N0) ∧ SM (D.vs N2 x_2 (TL (FnD.code x_1.2.1)) (TL (FnD.code
      x_1.2.1)) N1) ∧ True) ∧ ∃ (x : Nat × Bool × List Bool), MidInv c f x.1 x.2.1 x.2.2 ∧ ((NI x_3.2.1) = (NI x.1) ∧ false = x.2.1 ∧ True) ∧ (SM x_2 ∧ (SM (LN (FnD.code (GF c f))) ∧ SM (LN (FnD.code (GF c f))) ∧ ∀ (i :
      Nat), i < LN (FnD.code (GF c f)) → updF (fun (i : Nat) => [D.bool (List.getD x_3.2.2 i false)]) (TN x_3.1) [D.bool true] i = [D.bool (List.getD x.2.2 i false)]) ∧ SM x_1.1 ∧ (SM (FnD.slots x_1.2.1) ∧ (SM (LN
      (FnD.code x_1.2.1)) ∧ (∀ (i : Nat), i < LN (FnD.code x_1.2.1) → SM (R4 (G4 (FnD.code x_1.2.1) i))) ∧ True) ∧ True) ∧ True) ∧ True))))))) ((SM (D.ref N1 x_1.1 N0) ∧ SM (D.vs N2 x_2 (TL (FnD.code x_1.2.1)) (TL
      (FnD.code x_1.2.1)) N1) ∧ True) ∧ ∃ (x : Nat × Bool × List Bool), MidInv c f x.1 x.2.1 x.2.2 ∧ ((NI x_3.2.1) = (NI x.1) ∧ true = x.2.1 ∧ True) ∧ (SM x_2 ∧ (SM (LN (FnD.code (GF c f))) ∧ SM (LN (FnD.code (GF c f)))
      ∧ ∀ (i : Nat), i < LN (FnD.code (GF c f)) → [D.bool (List.getD x_3.2.2 i false)] = [D.bool (List.getD x.2.2 i false)]) ∧ SM x_1.1 ∧ (SM (FnD.slots x_1.2.1) ∧ (SM (LN (FnD.code x_1.2.1)) ∧ (∀ (i : Nat), i < LN
      (FnD.code x_1.2.1) → SM (R4 (G4 (FnD.code x_1.2.1) i))) ∧ True) ∧ True) ∧ True) ∧ True)) ∧ ∀ (x_3 : (Nat × Nat × List Bool) × List UInt8 × Nat × Nat), FunHead c f x_3.1.1 x_3.2.1 x_3.1.2.1 x_3.1.2.2 ∧ LN x_3.2.1 ≤
      x_3.2.2.2 → ifB (decide ((NI x_3.1.1) < (LI (FnD.code x_1.2.1)))) (side (Z0 ≤ (NI x_3.1.1) ∧ (NI x_3.1.1) < (LI (FnD.code x_1.2.1))) (∀ (x_4 : Nat), x_3.2.2.1 ≠ x_4 ∧ x_2 ≠ x_4 ∧ x_1.1 ≠ x_4 ∧ x ≠ x_4 ∧ True → SM
      x_4 ∧ side (Z0 ≤ (NI x_3.1.1) ∧ (NI x_3.1.1) < (NI (TL (FnD.code x_1.2.1)))) (SM x_2 ∧ side (TN x_3.1.1 < LN (FnD.code (GF c f))) (SM x ∧ SM x_4 ∧ (((weakD x_1.2.2.1 (D.sl N4 (LN (CodD.consts c)) (fun (i : Nat) =>
      Arr.row (GC c i)) Mode.any) ∧ weakD x_1.2.2.2.1 (D.sl N2 (LN (CodD.funs c)) (fun (i : Nat) => [ZI (FnD.slots (GF c i)), S4 (FnD.code (GF c i))]) Mode.any) ∧ weakD x_1.2.2.2.2.1 (D.sl N4 (LN (CodD.kers c)) (fun (i :
      Nat) => KeD.row (GK c i)) Mode.any) ∧ weakD x_1.2.2.2.2.2 (D.sl N2 (LN (CodD.lanes c)) (fun (i : Nat) => LaD.row (GL c i)) Mode.any) ∧ True) ∧ SM (↑f : Int) ∧ True) ∧ I4.ok (I4.mk (I4.a (G4 (FnD.code x_1.2.1) (TN
      x_3.1.1))) (I4.b (G4 (FnD.code x_1.2.1) (TN x_3.1.1))) (I4.c (G4 (FnD.code x_1.2.1) (TN x_3.1.1))) (I4.d (G4 (FnD.code x_1.2.1) (TN x_3.1.1))))) ∧ ∀ (y : Eff), offQ (effC c f (I4.mk (I4.a (G4 (FnD.code x_1.2.1) (TN
      x_3.1.1))) (I4.b (G4 (FnD.code x_1.2.1) (TN x_3.1.1))) (I4.c (G4 (FnD.code x_1.2.1) (TN x_3.1.1))) (I4.d (G4 (FnD.code x_1.2.1) (TN x_3.1.1))))) y → ∀ (x_5 : Nat), x_4 ≠ x_5 ∧ x_3.2.2.1 ≠ x_5 ∧ x_2 ≠ x_5 ∧ x_1.1 ≠
      x_5 ∧ x ≠ x_5 ∧ True → SM x_5 ∧ SM x_5 ∧ ifB (y.1 == [] && (y.2 == [] && (Option.isSome (effC c f (I4.mk (I4.a (G4 (FnD.code x_1.2.1) (TN x_3.1.1))) (I4.b (G4 (FnD.code x_1.2.1) (TN x_3.1.1))) (I4.c (G4 (FnD.code
      x_1.2.1) (TN x_3.1.1))) (I4.d (G4 (FnD.code x_1.2.1) (TN x_3.1.1))))) == false && true))) ((SM (D.ref N1 x_1.1 N0) ∧ SM (D.vs N2 x_2 (TL (FnD.code x_1.2.1)) (TL (FnD.code x_1.2.1)) N1) ∧ True) ∧ ∃ (x : Nat × Bool ×
      List Bool), MidInv c f x.1 x.2.1 x.2.2 ∧ ((NI x_3.1.2.1) = (NI x.1) ∧ false = x.2.1 ∧ True) ∧ (SM x_2 ∧ (SM (LN (FnD.code (GF c f))) ∧ SM (LN (FnD.code (GF c f))) ∧ ∀ (i : Nat), i < LN (FnD.code (GF c f)) → updF
      (fun (i : Nat) => [D.bool (List.getD x_3.1.2.2 i false)]) (TN x_3.1.1) [D.bool ((LI x_3.2.1) == Z0)] i = [D.bool (List.getD x.2.2 i false)]) ∧ SM x_1.1 ∧ (SM (FnD.slots x_1.2.1) ∧ (SM (LN (FnD.code x_1.2.1)) ∧ (∀
      (i : Nat), i < LN (FnD.code x_1.2.1) → SM (R4 (G4 (FnD.code x_1.2.1) i))) ∧ True) ∧ True) ∧ True) ∧ True) (SM x_4 ∧ ifB (decide (I4.d (G4 (FnD.code x_1.2.1) (TN x_3.1.1)) < Z0)) ((SM (D.ref N1 x_1.1 N0) ∧ SM (D.vs
      N2 x_2 (TL (FnD.code x_1.2.1)) (TL (FnD.code x_1.2.1)) N1) ∧ True) ∧ ∃ (x : Nat × Bool × List Bool), MidInv c f x.1 x.2.1 x.2.2 ∧ ((NI x_3.1.2.1) = (NI x.1) ∧ false = x.2.1 ∧ True) ∧ (SM x_2 ∧ (SM (LN (FnD.code (GF
      c f))) ∧ SM (LN (FnD.code (GF c f))) ∧ ∀ (i : Nat), i < LN (FnD.code (GF c f)) → updF (fun (i : Nat) => [D.bool (List.getD x_3.1.2.2 i false)]) (TN x_3.1.1) [D.bool ((LI x_3.2.1) == Z0)] i = [D.bool (List.getD
      x.2.2 i false)]) ∧ SM x_1.1 ∧ (SM (FnD.slots x_1.2.1) ∧ (SM (LN (FnD.code x_1.2.1)) ∧ (∀ (i : Nat), i < LN (FnD.code x_1.2.1) → SM (R4 (G4 (FnD.code x_1.2.1) i))) ∧ True) ∧ True) ∧ True) ∧ True) (SM x_5 ∧ ∃ (st :
      List UInt8), (LN st = LN x_3.2.1 ∧ LN x_3.2.1 ≤ x_3.2.2.2 ∧ (Option.isSome (effC c f (I4.mk (I4.a (G4 (FnD.code x_1.2.1) (TN x_3.1.1))) (I4.b (G4 (FnD.code x_1.2.1) (TN x_3.1.1))) (I4.c (G4 (FnD.code x_1.2.1) (TN
      x_3.1.1))) (I4.d (G4 (FnD.code x_1.2.1) (TN x_3.1.1))))) = true → LN st + LN y.2 ≤ (1000000 : Nat) ∧ LN y.1 ≤ (1000000 : Nat)) ∧ (SM x_3.2.2.1 ∧ (SM (LN x_3.2.1) ∧ SM x_3.2.2.2 ∧ ∀ (i : Nat), i < LN x_3.2.1 → [ZB
      (BI x_3.2.1 i)] = [ZB (BI st i)]) ∧ True) ∧ True) ∧ ifB (okA st y.1 (Option.isSome (effC c f (I4.mk (I4.a (G4 (FnD.code x_1.2.1) (TN x_3.1.1))) (I4.b (G4 (FnD.code x_1.2.1) (TN x_3.1.1))) (I4.c (G4 (FnD.code
      x_1.2.1) (TN x_3.1.1))) (I4.d (G4 (FnD.code x_1.2.1) (TN x_3.1.1))))))) (∀ (x' cap' : Nat), LN (newA st y.1 y.2) ≤ cap' → (SM x_4 ∧ ifB (I4.a (G4 (FnD.code x_1.2.1) (TN x_3.1.1)) == (25 : Int)) ((true = bif I4.a
      (G4 (FnD.code x_1.2.1) (TN x_3.1.1)) == (25 : Int) then true else I4.a (G4 (FnD.code x_1.2.1) (TN x_3.1.1)) == (24 : Int)) ∧ True) (SM x_4 ∧ ((I4.a (G4 (FnD.code x_1.2.1) (TN x_3.1.1)) == (24 : Int)) = bif I4.a (G4
      (FnD.code x_1.2.1) (TN x_3.1.1)) == (25 : Int) then true else I4.a (G4 (FnD.code x_1.2.1) (TN x_3.1.1)) == (24 : Int)) ∧ True)) ∧ ifB (bif I4.a (G4 (FnD.code x_1.2.1) (TN x_3.1.1)) == (25 : Int) then true else I4.a
      (G4 (FnD.code x_1.2.1) (TN x_3.1.1)) == (24 : Int)) (ifB (decide (Z0 < (LI (newA st y.1 y.2)))) ((true = bif bif bif I4.a (G4 (FnD.code x_1.2.1) (TN x_3.1.1)) == (25 : Int) then true else I4.a (G4 (FnD.code
      x_1.2.1) (TN x_3.1.1)) == (24 : Int) then decide (Z0 < (LI (newA st y.1 y.2))) else false then true else bif I4.a (G4 (FnD.code x_1.2.1) (TN x_3.1.1)) == (24 : Int) then decide (I4.b (G4 (FnD.code x_1.2.1) (TN
      x_3.1.1)) ≤ (NI x_3.1.1)) else false) ∧ True) (SM x_4 ∧ ifB (I4.a (G4 (FnD.code x_1.2.1) (TN x_3.1.1)) == (24 : Int)) (SM x_4 ∧ (decide (I4.b (G4 (FnD.code x_1.2.1) (TN x_3.1.1)) ≤ (NI x_3.1.1)) = bif bif bif I4.a
      (G4 (FnD.code x_1.2.1) (TN x_3.1.1)) == (25 : Int) then true else I4.a (G4 (FnD.code x_1.2.1) (TN x_3.1.1)) == (24 : Int) then decide (Z0 < (LI (newA st y.1 y.2))) else false then true else bif I4.a (G4 (FnD.code
      x_1.2.1) (TN x_3.1.1)) == (24 : Int) then decide (I4.b (G4 (FnD.code x_1.2.1) (TN x_3.1.1)) ≤ (NI x_3.1.1)) else false) ∧ True) ((false = bif bif bif I4.a (G4 (FnD.code x_1.2.1) (TN x_3.1.1)) == (25 : Int) then
      true else I4.a (G4 (FnD.code x_1.2.1) (TN x_3.1.1)) == (24 : Int) then decide (Z0 < (LI (newA st y.1 y.2))) else false then true else bif I4.a (G4 (FnD.code x_1.2.1) (TN x_3.1.1)) == (24 : Int) then decide (I4.b
      (G4 (FnD.code x_1.2.1) (TN x_3.1.1)) ≤ (NI x_3.1.1)) else false) ∧ True))) (SM x_4 ∧ ifB (I4.a (G4 (FnD.code x_1.2.1) (TN x_3.1.1)) == (24 : Int)) (SM x_4 ∧ (decide (I4.b (G4 (FnD.code x_1.2.1) (TN x_3.1.1)) ≤ (NI
      x_3.1.1)) = bif bif bif I4.a (G4 (FnD.code x_1.2.1) (TN x_3.1.1)) == (25 : Int) then true else I4.a (G4 (FnD.code x_1.2.1) (TN x_3.1.1)) == (24 : Int) then decide (Z0 < (LI (newA st y.1 y.2))) else false then true
      else bif I4.a (G4 (FnD.code x_1.2.1) (TN x_3.1.1)) == (24 : Int) then decide (I4.b (G4 (FnD.code x_1.2.1) (TN x_3.1.1)) ≤ (NI x_3.1.1)) else false) ∧ True) ((false = bif bif bif I4.a (G4 (FnD.code x_1.2.1) (TN
      x_3.1.1)) == (25 : Int) then true else I4.a (G4 (FnD.code x_1.2.1) (TN x_3.1.1)) == (24 : Int) then decide (Z0 < (LI (newA st y.1 y.2))) else false then true else bif I4.a (G4 (FnD.code x_1.2.1) (TN x_3.1.1)) ==
      (24 : Int) then decide (I4.b (G4 (FnD.code x_1.2.1) (TN x_3.1.1)) ≤ (NI x_3.1.1)) else false) ∧ True)) ∧ ifB (bif bif bif I4.a (G4 (FnD.code x_1.2.1) (TN x_3.1.1)) == (25 : Int) then true else I4.a (G4 (FnD.code
      x_1.2.1) (TN x_3.1.1)) == (24 : Int) then decide (Z0 < (LI (newA st y.1 y.2))) else false then true else bif I4.a (G4 (FnD.code x_1.2.1) (TN x_3.1.1)) == (24 : Int) then decide (I4.b (G4 (FnD.code x_1.2.1) (TN
      x_3.1.1)) ≤ (NI x_3.1.1)) else false) ((SM (D.ref N1 x_1.1 N0) ∧ SM (D.vs N2 x_2 (TL (FnD.code x_1.2.1)) (TL (FnD.code x_1.2.1)) N1) ∧ True) ∧ ∃ (x : Nat × Bool × List Bool), MidInv c f x.1 x.2.1 x.2.2 ∧ ((NI
      x_3.1.2.1) = (NI x.1) ∧ false = x.2.1 ∧ True) ∧ (SM x_2 ∧ (SM (LN (FnD.code (GF c f))) ∧ SM (LN (FnD.code (GF c f))) ∧ ∀ (i : Nat), i < LN (FnD.code (GF c f)) → updF (fun (i : Nat) => [D.bool (List.getD x_3.1.2.2 i
      false)]) (TN x_3.1.1) [D.bool ((LI x_3.2.1) == Z0)] i = [D.bool (List.getD x.2.2 i false)]) ∧ SM x_1.1 ∧ (SM (FnD.slots x_1.2.1) ∧ (SM (LN (FnD.code x_1.2.1)) ∧ (∀ (i : Nat), i < LN (FnD.code x_1.2.1) → SM (R4 (G4
      (FnD.code x_1.2.1) i))) ∧ True) ∧ True) ∧ True) ∧ True) ((SM (ZI (↑f : Int)) ∧ SM (D.ref N0 x N0) ∧ SM (D.ref N1 x_1.1 N0) ∧ SM (ZI (LI (FnD.code x_1.2.1))) ∧ SM (D.vs N2 x_2 (TL (FnD.code x_1.2.1)) (TL (FnD.code
      x_1.2.1)) N1) ∧ SM (D.bool true) ∧ SM (S4 (FnD.code x_1.2.1)) ∧ SM (ZI (LI (FnD.code x_1.2.1))) ∧ True) ∧ ((∃ (x_6 : Nat × Nat × List Bool), FunHead c f x_6.1 [] x_6.2.1 x_6.2.2 ∧ LN (FnD.code (GF c f)) - x_6.1 <
      LN (FnD.code (GF c f)) - x_3.1.1 ∧ (IntKind.wrap IntKind.i64 ((NI x_3.1.1) + Z1) = (NI x_6.1) ∧ D.vs (3 : Nat) x' (LN (newA st y.1 y.2)) cap' N1 = D.sl N1 N0 (fun (x : Nat) => []) Mode.nil ∧ (if (NI x_3.1.2.1) <
      (LI (newA st y.1 y.2)) then (LI (newA st y.1 y.2)) else (NI x_3.1.2.1)) = (NI x_6.2.1) ∧ True) ∧ StTo (St.mk [((3 : Nat), x', AObj.vec N1 (LN (newA st y.1 y.2)) cap' fun (i : Nat) => [ZB (BI (newA st y.1 y.2) i)]),
      ((5 : Nat), x_5, AObj.cells [D.str y.1, D.str y.2, D.bool (Option.isSome (effC c f (I4.mk (I4.a (G4 (FnD.code x_1.2.1) (TN x_3.1.1))) (I4.b (G4 (FnD.code x_1.2.1) (TN x_3.1.1))) (I4.c (G4 (FnD.code x_1.2.1) (TN
      x_3.1.1))) (I4.d (G4 (FnD.code x_1.2.1) (TN x_3.1.1))))))]), (N4, x_4, AObj.cells (R4 (G4 (FnD.code x_1.2.1) (TN x_3.1.1)))), (N2, x_2, AObj.vec N1 (LN (FnD.code (GF c f))) (LN (FnD.code (GF c f))) (updF (fun (i :
      Nat) => [D.bool (List.getD x_3.1.2.2 i false)]) (TN x_3.1.1) [D.bool ((LI x_3.2.1) == Z0)])), (N1, x_1.1, AObj.cells [ZI (FnD.slots x_1.2.1), S4 (FnD.code x_1.2.1)]), (N0, x, AObj.cells [x_1.2.2.1, x_1.2.2.2.1,
      x_1.2.2.2.2.1, x_1.2.2.2.2.2])] []) (St.mk [(N2, x_2, AObj.vec N1 (LN (FnD.code (GF c f))) (LN (FnD.code (GF c f))) fun (i : Nat) => [D.bool (List.getD x_6.2.2 i false)]), (N1, x_1.1, AObj.cells [ZI (FnD.slots
      x_1.2.1), S4 (FnD.code x_1.2.1)]), (N0, x, AObj.cells [x_1.2.2.1, x_1.2.2.2.1, x_1.2.2.2.2.1, x_1.2.2.2.2.2])] [])) ∨ ∃ (x_6 : (Nat × Nat × List Bool) × List UInt8 × Nat × Nat), (FunHead c f x_6.1.1 x_6.2.1
      x_6.1.2.1 x_6.1.2.2 ∧ LN x_6.2.1 ≤ x_6.2.2.2) ∧ LN (FnD.code (GF c f)) - x_6.1.1 < LN (FnD.code (GF c f)) - x_3.1.1 ∧ (IntKind.wrap IntKind.i64 ((NI x_3.1.1) + Z1) = (NI x_6.1.1) ∧ (x' = x_6.2.2.1 ∧ LN (newA st y.1
      y.2) = LN x_6.2.1 ∧ cap' = x_6.2.2.2) ∧ (if (NI x_3.1.2.1) < (LI (newA st y.1 y.2)) then (LI (newA st y.1 y.2)) else (NI x_3.1.2.1)) = (NI x_6.1.2.1) ∧ True) ∧ StTo (St.mk [((3 : Nat), x', AObj.vec N1 (LN (newA st
      y.1 y.2)) cap' fun (i : Nat) => [ZB (BI (newA st y.1 y.2) i)]), ((5 : Nat), x_5, AObj.cells [D.str y.1, D.str y.2, D.bool (Option.isSome (effC c f (I4.mk (I4.a (G4 (FnD.code x_1.2.1) (TN x_3.1.1))) (I4.b (G4
      (FnD.code x_1.2.1) (TN x_3.1.1))) (I4.c (G4 (FnD.code x_1.2.1) (TN x_3.1.1))) (I4.d (G4 (FnD.code x_1.2.1) (TN x_3.1.1))))))]), (N4, x_4, AObj.cells (R4 (G4 (FnD.code x_1.2.1) (TN x_3.1.1)))), (N2, x_2, AObj.vec N1
      (LN (FnD.code (GF c f))) (LN (FnD.code (GF c f))) (updF (fun (i : Nat) => [D.bool (List.getD x_3.1.2.2 i false)]) (TN x_3.1.1) [D.bool ((LI x_3.2.1) == Z0)])), (N1, x_1.1, AObj.cells [ZI (FnD.slots x_1.2.1), S4
      (FnD.code x_1.2.1)]), (N0, x, AObj.cells [x_1.2.2.1, x_1.2.2.2.1, x_1.2.2.2.2.1, x_1.2.2.2.2.2])] []) (St.mk [((3 : Nat), x_6.2.2.1, AObj.vec N1 (LN x_6.2.1) x_6.2.2.2 fun (i : Nat) => [ZB (BI x_6.2.1 i)]), (N2,
      x_2, AObj.vec N1 (LN (FnD.code (GF c f))) (LN (FnD.code (GF c f))) fun (i : Nat) => [D.bool (List.getD x_6.1.2.2 i false)]), (N1, x_1.1, AObj.cells [ZI (FnD.slots x_1.2.1), S4 (FnD.code x_1.2.1)]), (N0, x,
      AObj.cells [x_1.2.2.1, x_1.2.2.2.1, x_1.2.2.2.2.1, x_1.2.2.2.2.2])] [])))) ((SM x_4 ∧ ifB (I4.a (G4 (FnD.code x_1.2.1) (TN x_3.1.1)) == (25 : Int)) ((true = bif I4.a (G4 (FnD.code x_1.2.1) (TN x_3.1.1)) == (25 :
      Int) then true else I4.a (G4 (FnD.code x_1.2.1) (TN x_3.1.1)) == (24 : Int)) ∧ True) (SM x_4 ∧ ((I4.a (G4 (FnD.code x_1.2.1) (TN x_3.1.1)) == (24 : Int)) = bif I4.a (G4 (FnD.code x_1.2.1) (TN x_3.1.1)) == (25 :
      Int) then true else I4.a (G4 (FnD.code x_1.2.1) (TN x_3.1.1)) == (24 : Int)) ∧ True)) ∧ (SM true ∧ True) ∧ (SM (D.ref N1 x_1.1 N0) ∧ SM (D.vs N2 x_2 (TL (FnD.code x_1.2.1)) (TL (FnD.code x_1.2.1)) N1) ∧ True) ∧ ∃
      (x : Nat × Bool × List Bool), MidInv c f x.1 x.2.1 x.2.2 ∧ ((NI x_3.1.2.1) = (NI x.1) ∧ false = x.2.1 ∧ True) ∧ (SM x_2 ∧ (SM (LN (FnD.code (GF c f))) ∧ SM (LN (FnD.code (GF c f))) ∧ ∀ (i : Nat), i < LN (FnD.code
      (GF c f)) → updF (fun (i : Nat) => [D.bool (List.getD x_3.1.2.2 i false)]) (TN x_3.1.1) [D.bool ((LI x_3.2.1) == Z0)] i = [D.bool (List.getD x.2.2 i false)]) ∧ SM x_1.1 ∧ (SM (FnD.slots x_1.2.1) ∧ (SM (LN (FnD.code
      x_1.2.1)) ∧ (∀ (i : Nat), i < LN (FnD.code x_1.2.1) → SM (R4 (G4 (FnD.code x_1.2.1) i))) ∧ True) ∧ True) ∧ True) ∧ True))))))) ((SM (D.ref N1 x_1.1 N0) ∧ SM (D.vs N2 x_2 (TL (FnD.code x_1.2.1)) (TL (FnD.code
      x_1.2.1)) N1) ∧ True) ∧ ∃ (x : Nat × Bool × List Bool), MidInv c f x.1 x.2.1 x.2.2 ∧ ((NI x_3.1.2.1) = (NI x.1) ∧ true = x.2.1 ∧ True) ∧ (SM x_2 ∧ (SM (LN (FnD.code (GF c f))) ∧ SM (LN (FnD.code (GF c f))) ∧ ∀ (i :
      Nat), i < LN (FnD.code (GF c f)) → [D.bool (List.getD x_3.1.2.2 i false)] = [D.bool (List.getD x.2.2 i false)]) ∧ SM x_1.1 ∧ (SM (FnD.slots x_1.2.1) ∧ (SM (LN (FnD.code x_1.2.1)) ∧ (∀ (i : Nat), i < LN (FnD.code
      x_1.2.1) → SM (R4 (G4 (FnD.code x_1.2.1) i))) ∧ True) ∧ True) ∧ True) ∧ True)) ∧ ∀ (x : Nat × Bool × List Bool), MidInv c f x.1 x.2.1 x.2.2 → SM x_1.1 ∧ (∃ (x_3 : Nat × Bool), (x_3.1 ≤ LN (FnD.code (GF c f)) ∧
      (x_3.2 = false → x_3.1 = N0 ∧ x.2.1 = false) ∧ (x_3.2 = true → x.2.1 = true ∧ guardsB (empS c f N0 (FnD.code (GF c f)) []) (List.take x_3.1 (FnD.code (GF c f))) = true)) ∧ (Z0 = (NI x_3.1) ∧ x.2.1 = x_3.2 ∧ True) ∧
      (SM x_2 ∧ (SM (LN (FnD.code (GF c f))) ∧ SM (LN (FnD.code (GF c f))) ∧ ∀ (i : Nat), i < LN (FnD.code (GF c f)) → SM [D.bool (List.getD x.2.2 i false)]) ∧ True) ∧ True) ∧ ∀ (x_3 : Nat × Bool), x_3.1 ≤ LN (FnD.code
      (GF c f)) ∧ (x_3.2 = false → x_3.1 = N0 ∧ x.2.1 = false) ∧ (x_3.2 = true → x.2.1 = true ∧ guardsB (empS c f N0 (FnD.code (GF c f)) []) (List.take x_3.1 (FnD.code (GF c f))) = true) → ifB (decide ((NI x_3.1) < (LI
      (FnD.code x_1.2.1)))) (side (Z0 ≤ (NI x_3.1) ∧ (NI x_3.1) < (LI (FnD.code x_1.2.1))) (∀ (x_4 : Nat), x_2 ≠ x_4 ∧ True → SM x_4 ∧ ifB x_3.2 (SM x_4 ∧ ifB (I4.a (G4 (FnD.code x_1.2.1) (TN x_3.1)) != (24 : Int))
      ((true = bif x_3.2 then bif I4.a (G4 (FnD.code x_1.2.1) (TN x_3.1)) != (24 : Int) then true else List.getD x.2.2 (Int.toNat (I4.b (G4 (FnD.code x_1.2.1) (TN x_3.1)))) false else false) ∧ True) (SM x_4 ∧ side (Z0 ≤
      I4.b (G4 (FnD.code x_1.2.1) (TN x_3.1)) ∧ I4.b (G4 (FnD.code x_1.2.1) (TN x_3.1)) < (NI (TL (FnD.code x_1.2.1)))) (SM x_2 ∧ side (Int.toNat (I4.b (G4 (FnD.code x_1.2.1) (TN x_3.1))) < LN (FnD.code (GF c f)))
      ((List.getD x.2.2 (Int.toNat (I4.b (G4 (FnD.code x_1.2.1) (TN x_3.1)))) false = bif x_3.2 then bif I4.a (G4 (FnD.code x_1.2.1) (TN x_3.1)) != (24 : Int) then true else List.getD x.2.2 (Int.toNat (I4.b (G4 (FnD.code
      x_1.2.1) (TN x_3.1)))) false else false) ∧ True)))) ((false = bif x_3.2 then bif I4.a (G4 (FnD.code x_1.2.1) (TN x_3.1)) != (24 : Int) then true else List.getD x.2.2 (Int.toNat (I4.b (G4 (FnD.code x_1.2.1) (TN
      x_3.1)))) false else false) ∧ True) ∧ ifB (!bif x_3.2 then bif I4.a (G4 (FnD.code x_1.2.1) (TN x_3.1)) != (24 : Int) then true else List.getD x.2.2 (Int.toNat (I4.b (G4 (FnD.code x_1.2.1) (TN x_3.1)))) false else
      false) (True ∧ ∃ (y : Unit), True ∧ (Z0 = (NI (Option.getD (funS c f) N0)) ∧ false = Option.isSome (funS c f) ∧ True) ∧ True ∧ True) ((SM (D.vs N2 x_2 (TL (FnD.code x_1.2.1)) (TL (FnD.code x_1.2.1)) N1) ∧ SM (ZI
      (NI x.1)) ∧ SM (S4 (FnD.code x_1.2.1)) ∧ SM (ZI (LI (FnD.code x_1.2.1))) ∧ True) ∧ ∃ (y : Nat × Bool), (y.1 ≤ LN (FnD.code (GF c f)) ∧ (y.2 = false → y.1 = N0 ∧ x.2.1 = false) ∧ (y.2 = true → x.2.1 = true ∧ guardsB
      (empS c f N0 (FnD.code (GF c f)) []) (List.take y.1 (FnD.code (GF c f))) = true)) ∧ LN (FnD.code (GF c f)) - y.1 < LN (FnD.code (GF c f)) - x_3.1 ∧ (IntKind.wrap IntKind.i64 ((NI x_3.1) + Z1) = (NI y.1) ∧ (bif
      x_3.2 then bif I4.a (G4 (FnD.code x_1.2.1) (TN x_3.1)) != (24 : Int) then true else List.getD x.2.2 (Int.toNat (I4.b (G4 (FnD.code x_1.2.1) (TN x_3.1)))) false else false) = y.2 ∧ True) ∧ (SM x_2 ∧ (SM (LN
      (FnD.code (GF c f))) ∧ SM (LN (FnD.code (GF c f))) ∧ ∀ (i : Nat), i < LN (FnD.code (GF c f)) → SM [D.bool (List.getD x.2.2 i false)]) ∧ True) ∧ True))) (True ∧ ∃ (y : Unit), True ∧ ((NI x.1) = (NI (Option.getD
      (funS c f) N0)) ∧ true = Option.isSome (funS c f) ∧ True) ∧ True ∧ True))))))) (by kernel_rfl) ?_
  delta BI D4 DA DF DK DL G4 GC GF GK GL LI LN N0 N1 N2 N4 NI R4 S4 SM TL TN U0 Z0 Z1 ZB ZI
  have de : (default : FnD) = ⟨0, []⟩ := rfl
  have d4 : (default : I4) = ⟨0, 0, 0, 0⟩ := rfl
  simp only [← de, ← d4, Int.toNat_natCast]
  simp only [ifB_iff, side_iff, decide_eq_true_eq, decide_eq_false_iff_not, true_and, and_true, beq_iff_eq, bne_iff_ne, Bool.cond_false_right, Bool.cond_true_left, Bool.and_eq_true, Bool.and_eq_false_iff, beq_eq_false_iff_ne, ne_eq]
  intro x2 _
  refine ⟨⟨by omega, fun x6 _ => ⟨(x6, c.funs.getD f default, (gsl 4 Arr.row c.consts, gsl 2 FnD.row c.funs, gsl 4 KeD.row c.kers, gsl 2 LaD.row c.lanes)), ⟨rfl, rfl⟩, rfl, rfl, ⟨rfl, rfl, fun _ _ => rfl⟩, weakD_refl _, weakD_refl _, weakD_refl _, weakD_refl _⟩⟩, ?_⟩
  rintro ⟨x6, F, dd⟩ ⟨hF, hdd⟩
  simp only at hF hdd ⊢
  subst hF
  have hco : ∀ i : Nat, i < (c.funs.getD f default).code.length → ((c.funs.getD f default).code.getD i default).ok := fun i hi => getD_ok (getD_ok hc.2.1 hf).2.1 hi
  have hD : weakD dd.1 (gsl 4 Arr.row c.consts) ∧ weakD dd.2.1 (gsl 2 FnD.row c.funs) ∧ weakD dd.2.2.1 (gsl 4 KeD.row c.kers) ∧ weakD dd.2.2.2 (gsl 2 LaD.row c.lanes) := by
    have h := hdd
    simp only [CB, O4.row, CodD.row, List.cons.injEq, and_true] at h
    obtain ⟨h1, h2, h3, h4⟩ := h
    rw [h1, h2, h3, h4]
    exact ⟨weakD_refl _, weakD_refl _, weakD_refl _, weakD_refl _⟩
  have hw1 : IntKind.i64.wrap (((c.funs.getD f default).code.length : Int) - 1) = ((c.funs.getD f default).code.length : Int) - 1 := wrap_i64' (by omega) (by omega)
  have no : funS c f = none → ∃ y : Unit, (0 : Int) = ((funS c f).getD 0 : Nat) ∧ false = (funS c f).isSome := fun h => ⟨(), by simp [h], by simp [h]⟩
  have gen : ∃ CO : List I4, CO = (c.funs.getD f default).code := ⟨_, rfl⟩
  refine ⟨⟨fun h => by rw [decide_eq_true h, Bool.true_and], fun h => by rw [decide_eq_false h, Bool.false_and]⟩, fun h => no ?_, fun h1 => ⟨fun h => no ?_, fun h2 => ⟨by rw [hw1]; omega, fun h => no ?_, fun h3 => ⟨by omega, fun x9 _ => ⟨⟨?_, ?_, ?_⟩, ?_⟩⟩⟩⟩⟩
  · simp only [funS]
    rw [if_neg]
    intro hh
    simp only [between] at hh
    rw [hh.1] at h
    cases h
  · simp only [funS]
    rw [if_neg]
    exact fun hh => hh.2.1 (List.eq_nil_of_length_eq_zero (by omega))
  · simp only [funS]
    rw [if_neg]
    intro hh
    apply h
    rw [hw1, show (((c.funs.getD f default).code.length : Int) - 1).toNat = (c.funs.getD f default).code.length - 1 by omega]
    exact hh.2.2
  · refine .inl ⟨(0, 0, List.replicate (c.funs.getD f default).code.length false), ⟨Nat.zero_le _, Nat.le_refl _, Nat.zero_le _, by simp, by simp, by simp⟩, ⟨rfl, fun _ _ => trivial, rfl⟩, leS_to ?_⟩
    simp [leS, chk_iff, leO, leT, getO, nodupB, weakO, weakL_refl, weakD_refl, weakL, List.getD_eq_getElem?_getD, List.getElem?_replicate]
    intro i hi
    simp [hi]
  · rintro ⟨i, deep, em⟩ hh
    simp only at hh ⊢
    refine ⟨fun hlt => ?_, fun hge => ⟨(deep, true, em), hh.done (by omega), ⟨rfl, rfl⟩, fun _ _ => rfl, fun _ _ => trivial⟩⟩
    have hlt : i < (c.funs.getD f default).code.length := by omega
    have hx := hco i hlt
    have hiem : i < em.length := by rw [hh.hl]; exact hlt
    have fl := fun h => hh.fail hlt h
    have nxt := fun {nx : List UInt8} (h : stepS c f i ((c.funs.getD f default).code.getD i default) [] = some nx) => hh.next hn hlt h
    generalize (c.funs.getD f default).code.getD i default = x at *
    have fail : stepS c f i x [] = none → ∃ y : Nat × Bool × List Bool, MidInv c f y.1 y.2.1 y.2.2 ∧ ((deep : Int) = (y.1 : Int) ∧ false = y.2.1) ∧ (∀ j, j < (c.funs.getD f default).code.length → updF (fun j => [D.bool (em.getD j false)]) i [D.bool true] j = [D.bool (y.2.2.getD j false)]) ∧ ∀ j, j < (c.funs.getD f default).code.length → True :=
      fun h => ⟨(deep, false, em.set i true), .inr ⟨rfl, fl h⟩, ⟨rfl, rfl⟩, fun j _ => upd_row em i true hiem j, fun _ _ => trivial⟩
    refine ⟨by omega, fun x4 _ => ⟨by omega, hlt, ⟨hD, hx⟩, fun y hy x5 _ => ?_⟩⟩
    generalize he : effC c f ⟨x.a, x.b, x.c, x.d⟩ = e at *
    have he : effC c f x = e := he
    cases e with
    | none =>
      have flw := fail (by simp [stepS, he])
      refine ⟨fun _ => flw, fun _ => ⟨fun _ => flw, fun _ => ⟨fun h => (by cases h), fun h => (by simp [okA] at h), fun _ => ⟨⟨fun h => by simp [h], fun h => by simp [h]⟩, flw⟩⟩⟩⟩
    | some e' =>
      have hye : y = e' := hy e' rfl
      subst hye
      have hlen := eff_len he
      refine ⟨fun h => (by simp at h), fun _ => ⟨fun hd => fail (by simp [stepS, he, hd]), fun hd => ⟨fun _ => by omega, fun hok => ⟨fun hq => ⟨?_, ?_, fun hcond => fail ?_, fun hcond => .inl ?_⟩, fun hq xs cap hcap => ⟨?_, ?_, fun hcond => fail ?_, fun hcond => .inr ?_⟩⟩, fun hok => ⟨⟨fun h => by simp [h], fun h => by simp [h]⟩, fail (by simp only [Option.isSome] at hok; simp [stepS, he, hok])⟩⟩⟩⟩
      · exact ops1
      · exact ops2
      · have hq0 : y.2 = [] := by simpa using hq
        exact (step_cond he hok hd (b := false) (by simp [newA, hq0])).1 hcond
      · have hq0 : y.2 = [] := by simpa using hq
        have hs := (step_cond he hok hd (b := false) (by simp [newA, hq0])).2 hcond
        have hn0 : newA [] y.1 y.2 = [] := by simp [newA, hq0]
        rw [hn0] at hs
        refine ⟨(i + 1, max deep 0, em.set i true), nxt hs, by simp only; omega, ⟨wrap_i64' (by omega) (by omega), fun _ _ => trivial, by rw [maxI0]; simp⟩, leS_to ?_⟩
        simp only [leS, chk_iff, leO, leT, getO, nodupB, weakO, List.map_cons, List.map_nil]
        simp [chk_iff, weakL_refl]
        exact fun j _ => by simpa [List.getD_eq_getElem?_getD] using upd_row em i true hiem j
      · exact ops1
      · exact ops3
      · exact (step_cond he hok hd (b := decide (0 < (y.2.length : Int))) (by rw [lenB]; simp [newA])).1 hcond
      · have hs := (step_cond he hok hd (b := decide (0 < (y.2.length : Int))) (by rw [lenB]; simp [newA])).2 hcond
        have hn0 : newA [] y.1 y.2 = y.2 := by simp [newA]
        rw [hn0] at hs
        refine ⟨((i + 1, max deep y.2.length, em.set i true), y.2, xs, cap), ⟨nxt hs, hcap⟩, by simp only; omega, ⟨wrap_i64' (by omega) (by omega), ⟨rfl, rfl, rfl⟩, maxI _ _⟩, ?_⟩
        refine StTo.trans (B := ⟨[(5, xs, .vec 1 y.2.length cap (brow y.2)), (2, x9, .vec 1 (c.funs.getD f default).code.length (c.funs.getD f default).code.length (erow (em.set i true))), (1, x6, .cells (FnD.row (c.funs.getD f default))), (0, x2, .cells (O4.row dd))], []⟩) (leS_to ?_) (StTo.pos ⟨⟨rfl, ?_, rfl, ?_, rfl, ?_, rfl, ?_, trivial⟩, trivial⟩)
        · simp only [leS, chk_iff, leO, leT, getO, nodupB, weakO, List.map_cons, List.map_nil]
          simp [chk_iff, weakL_refl, O4.row, FnD.row, gsl, I4.row, brow, erow]
          exact fun j _ => by simpa [List.getD_eq_getElem?_getD] using upd_row em i true hiem j
        · simp [weakO, chk_iff, brow]
        · simp [weakO, chk_iff, erow]
        · simp only [weakO]; exact weakL_refl _
        · simp only [weakO]; exact weakL_refl _
  · rintro ⟨⟨i, deep, em⟩, st, xs, cap⟩ ⟨hh, hcap⟩
    simp only at hh hcap ⊢
    refine ⟨fun hlt => ?_, fun hge => ⟨(deep, true, em), hh.done (by omega), ⟨rfl, rfl⟩, fun _ _ => rfl, fun _ _ => trivial⟩⟩
    have hlt : i < (c.funs.getD f default).code.length := by omega
    have hx := hco i hlt
    have hiem : i < em.length := by rw [hh.hl]; exact hlt
    have hsl := hh.hs
    have fl := fun h => hh.fail hlt h
    have nxt := fun {nx : List UInt8} (h : stepS c f i ((c.funs.getD f default).code.getD i default) st = some nx) => hh.next hn hlt h
    generalize (c.funs.getD f default).code.getD i default = x at *
    have fail : stepS c f i x st = none → ∃ y : Nat × Bool × List Bool, MidInv c f y.1 y.2.1 y.2.2 ∧ ((deep : Int) = (y.1 : Int) ∧ false = y.2.1) ∧ (∀ j, j < (c.funs.getD f default).code.length → updF (fun j => [D.bool (em.getD j false)]) i [D.bool st.isEmpty] j = [D.bool (y.2.2.getD j false)]) ∧ ∀ j, j < (c.funs.getD f default).code.length → True :=
      fun h => ⟨(deep, false, em.set i st.isEmpty), .inr ⟨rfl, fl h⟩, ⟨rfl, rfl⟩, fun j _ => upd_row em i _ hiem j, fun _ _ => trivial⟩
    have hie : ((st.length : Int) == 0) = st.isEmpty := by cases st with
      | nil => rfl
      | cons a l => simp; omega
    simp only [hie]
    refine ⟨by omega, fun x4 _ => ⟨by omega, hlt, ⟨hD, hx⟩, fun y hy x5 _ => ?_⟩⟩
    generalize he : effC c f ⟨x.a, x.b, x.c, x.d⟩ = e at *
    have he : effC c f x = e := he
    cases e with
    | none =>
      have flw := fail (by simp [stepS, he])
      refine ⟨fun _ => flw, fun _ => ⟨fun _ => flw, fun _ => ⟨st, ⟨rfl, hcap, fun h => (by cases h), fun _ _ => rfl⟩, fun h => (by simp [okA] at h), fun _ => ⟨ops1, flw⟩⟩⟩⟩
    | some e' =>
      have hye : y = e' := hy e' rfl
      subst hye
      have hlen := eff_len he
      refine ⟨fun h => (by simp at h), fun _ => ⟨fun hd => fail (by simp [stepS, he, hd]), fun hd => ⟨st, ⟨rfl, hcap, fun _ => by omega, fun _ _ => rfl⟩, fun hok x' cap' hcap' => ⟨ops1, ops3, fun hcond => fail ?_, fun hcond => .inr ?_⟩, fun hok => ⟨ops1, fail (by simp only [Option.isSome] at hok; simp [stepS, he, hok])⟩⟩⟩⟩
      · exact (step_cond he hok hd (b := decide (0 < ((newA st y.1 y.2).length : Int))) lenB).1 hcond
      · have hs := (step_cond he hok hd (b := decide (0 < ((newA st y.1 y.2).length : Int))) lenB).2 hcond
        refine ⟨((i + 1, max deep (newA st y.1 y.2).length, em.set i st.isEmpty), newA st y.1 y.2, x', cap'), ⟨nxt hs, hcap'⟩, by simp only; omega, ⟨wrap_i64' (by omega) (by omega), ⟨rfl, rfl, rfl⟩, maxI _ _⟩, leS_to ?_⟩
        simp only [leS, chk_iff, leO, leT, getO, nodupB, weakO, List.map_cons, List.map_nil]
        simp [chk_iff, weakL_refl]
        exact fun j _ => by simpa [List.getD_eq_getElem?_getD] using upd_row em i st.isEmpty hiem j
  · rintro ⟨dp, r, em⟩ hm
    simp only at hm ⊢
    have hN : 0 < (c.funs.getD f default).code.length := by omega
    have hok : between (c.funs.getD f default).slots 0 1000 = true ∧ (c.funs.getD f default).code ≠ [] ∧ ((c.funs.getD f default).code.getD ((c.funs.getD f default).code.length - 1) default).a = 25 := by
      refine ⟨by simpa [between] using h1, (fun e => by rw [e] at hN; cases hN), ?_⟩
      rw [hw1, show (((c.funs.getD f default).code.length : Int) - 1).toNat = (c.funs.getD f default).code.length - 1 by omega] at h3
      simpa using h3
    have none_of : runS c f 0 (c.funs.getD f default).code [] 0 = none → funS c f = none := fun h => by simp only [funS]; rw [if_pos hok, h]
    refine ⟨⟨(0, r), ⟨Nat.zero_le _, fun h => ⟨rfl, h⟩, fun h => ⟨h, by simp [guardsB]⟩⟩, ⟨rfl, rfl⟩, fun _ _ => trivial⟩, ?_⟩
    rintro ⟨j, q⟩ ⟨hj, hjf, hjt⟩
    simp only at hj hjf hjt ⊢
    refine ⟨fun hlt => ⟨by omega, fun x4 _ => ?_⟩, fun hge => ?_⟩
    · have hlt : j < (c.funs.getD f default).code.length := by omega
      have hmem : (c.funs.getD f default).code.getD j default ∈ (c.funs.getD f default).code := getD_mem hlt
      have htk := take_step hlt
      generalize (c.funs.getD f default).code.getD j default = x at *
      cases q with
      | false =>
        obtain ⟨hj0, hr0⟩ := hjf rfl
        rcases hm with ⟨hr1, _⟩ | ⟨_, hrun⟩
        · rw [hr0] at hr1; cases hr1
        · refine ⟨⟨fun h => (by cases h), fun _ => rfl⟩, fun _ => no (none_of hrun), fun h => (by simp at h)⟩
      | true =>
        obtain ⟨hr1, hgs⟩ := hjt rfl
        rcases hm with ⟨_, hrun, rfl⟩ | ⟨hr2, _⟩
        · have hrng : x.a = 24 → 0 ≤ x.b ∧ x.b < ((c.funs.getD f default).code.length : Int) := fun ha => (let ⟨_, he⟩ := run_mem _ _ _ _ _ hrun x hmem; eff_guard he ha)
          refine ⟨⟨fun _ => ⟨fun ha => by simp [ha], fun ha => ?_⟩, fun h => (by cases h)⟩, fun hno => no ?_, fun hyes => ⟨(j + 1, true), ⟨by omega, fun h => (by cases h), fun _ => ⟨hr1, ?_⟩⟩, by omega, ⟨wrap_i64' (by omega) (by omega), ?_⟩, fun _ _ => trivial⟩⟩
          · have ha : x.a = 24 := by simpa using ha
            have := hrng ha
            exact ⟨this, by omega, by simp [ha]⟩
          · simp only [funS]
            rw [if_pos hok, hrun]
            simp only
            rw [if_neg]
            intro hg
            have := List.all_eq_true.1 hg x hmem
            simp at hno this
            rcases this with h | h
            · exact absurd hno.1 h
            · rw [hno.2] at h; cases h
          · rw [htk]
            simp only [guardsB, List.all_append, Bool.and_eq_true] at hgs ⊢
            refine ⟨hgs, ?_⟩
            simp only [List.all_cons, List.all_nil, Bool.and_true]
            exact (guard_one hyes).1
          · exact (guard_one hyes).2
        · rw [hr1] at hr2; cases hr2
    · have hjN : j = (c.funs.getD f default).code.length := by omega
      cases q with
      | false => obtain ⟨hj0, _⟩ := hjf rfl; omega
      | true =>
        obtain ⟨hr1, hgs⟩ := hjt rfl
        rcases hm with ⟨_, hrun, rfl⟩ | ⟨hr2, _⟩
        · rw [hjN, List.take_length] at hgs
          have : funS c f = some dp := by simp only [funS]; rw [if_pos hok, hrun]; simp only; rw [if_pos hgs]
          exact ⟨(), by rw [this]; rfl, by rw [this]; rfl⟩
        · rw [hr1] at hr2; cases hr2
end Go.Proofs.Ytoglbmhkfkghbaa
