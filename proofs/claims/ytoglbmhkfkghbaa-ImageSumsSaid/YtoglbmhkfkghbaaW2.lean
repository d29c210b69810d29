/- The examples that the laws check come out true, and the law of the checksums itself. -/
import Derived.Test.YtoglbmhkfkghbaaW1
namespace Go.Proofs.Ytoglbmhkfkghbaa
open Go Go.Ab
set_option maxRecDepth 100000

theorem rows_eq {n : Nat} {f g : Nat → List D} (h : (List.range n).map f = (List.range n).map g) : ∀ i, i < n → f i = g i := by
  intro i hi
  have := congrArg (fun l => l[i]?) h
  simpa [hi] using this
theorem right0 (m m' : Ab.Mode) : ACalls Try.prog 20 [c0 m m'] ⟨[], []⟩ (fun r _ => weakEnd r (.ret (.int .i64 0))) := by
  refine inlS conS_ok _ _ _ _ ?_
  refine vc_eq (T :=
      ∀ (x : Nat), True → x = x ∧ ∀ (x_1 : Nat), x ≠ x_1 ∧ True → x_1 = x_1 ∧ x_1 = x_1 ∧ x = x ∧ x = x ∧ x = x ∧ x = x ∧ True ∧ True ∧ x = x ∧ x = x ∧ x = x ∧ True ∧ True ∧ x = x ∧ x = x ∧ ∀ (x_2 : Nat), x_1 ≠ x_2 ∧ x ≠
      x_2 ∧ True → x_2 = x_2 ∧ ∀ (x_3 : Nat), x_2 ≠ x_3 ∧ x_1 ≠ x_3 ∧ x ≠ x_3 ∧ True → x_3 = x_3 ∧ x_3 = x_3 ∧ x_3 = x_3 ∧ True ∧ x_3 = x_3 ∧ ∀ (x_4 : Nat), x_3 ≠ x_4 ∧ x_2 ≠ x_4 ∧ x_1 ≠ x_4 ∧ x ≠ x_4 ∧ True → x_3 = x_3
      ∧ ∀ (x_5 : Nat), x_4 ≠ x_5 ∧ x_3 ≠ x_5 ∧ x_2 ≠ x_5 ∧ x_1 ≠ x_5 ∧ x ≠ x_5 ∧ True → x_5 = x_5 ∧ x_4 = x_4 ∧ x_2 = x_2 ∧ x_5 = x_5 ∧ ∀ (x_6 : Nat), x_5 ≠ x_6 ∧ x_4 ≠ x_6 ∧ x_3 ≠ x_6 ∧ x_2 ≠ x_6 ∧ x_1 ≠ x_6 ∧ x ≠ x_6 ∧
      True → ∀ (x_7 : Nat), x_6 ≠ x_7 ∧ x_5 ≠ x_7 ∧ x_4 ≠ x_7 ∧ x_3 ≠ x_7 ∧ x_2 ≠ x_7 ∧ x_1 ≠ x_7 ∧ x ≠ x_7 ∧ True → ∀ (x_8 : Nat), x_7 ≠ x_8 ∧ x_6 ≠ x_8 ∧ x_5 ≠ x_8 ∧ x_4 ≠ x_8 ∧ x_3 ≠ x_8 ∧ x_2 ≠ x_8 ∧ x_1 ≠ x_8 ∧ x ≠
      x_8 ∧ True → x_7 = x_7 ∧ ∀ (x_9 : Nat), x_8 ≠ x_9 ∧ x_7 ≠ x_9 ∧ x_6 ≠ x_9 ∧ x_5 ≠ x_9 ∧ x_4 ≠ x_9 ∧ x_3 ≠ x_9 ∧ x_2 ≠ x_9 ∧ x_1 ≠ x_9 ∧ x ≠ x_9 ∧ True → x_7 = x_7 ∧ x_7 = x_7 ∧ ∀ (x_10 : Nat), x_9 ≠ x_10 ∧ x_8 ≠
      x_10 ∧ x_7 ≠ x_10 ∧ x_6 ≠ x_10 ∧ x_5 ≠ x_10 ∧ x_4 ≠ x_10 ∧ x_3 ≠ x_10 ∧ x_2 ≠ x_10 ∧ x_1 ≠ x_10 ∧ x ≠ x_10 ∧ True → ∀ (x_11 : Nat), x_10 ≠ x_11 ∧ x_9 ≠ x_11 ∧ x_8 ≠ x_11 ∧ x_7 ≠ x_11 ∧ x_6 ≠ x_11 ∧ x_5 ≠ x_11 ∧ x_4
      ≠ x_11 ∧ x_3 ≠ x_11 ∧ x_2 ≠ x_11 ∧ x_1 ≠ x_11 ∧ x ≠ x_11 ∧ True → x_10 = x_10 ∧ x_10 = x_10 ∧ x_10 = x_10 ∧ x_11 = x_11 ∧ (x_11 = x_11 ∧ True) ∧ x_8 = x_8 ∧ (x_8 = x_8 ∧ True) ∧ ∀ (x_12 : Nat), x_11 ≠ x_12 ∧ x_10 ≠
      x_12 ∧ x_9 ≠ x_12 ∧ x_8 ≠ x_12 ∧ x_7 ≠ x_12 ∧ x_6 ≠ x_12 ∧ x_5 ≠ x_12 ∧ x_4 ≠ x_12 ∧ x_3 ≠ x_12 ∧ x_2 ≠ x_12 ∧ x_1 ≠ x_12 ∧ x ≠ x_12 ∧ True → x_12 = x_12 ∧ x_12 = x_12 ∧ x_5 = x_5 ∧ x_12 = x_12 ∧ ∀ (x_13 : Nat),
      x_12 ≠ x_13 ∧ x_11 ≠ x_13 ∧ x_10 ≠ x_13 ∧ x_9 ≠ x_13 ∧ x_8 ≠ x_13 ∧ x_7 ≠ x_13 ∧ x_6 ≠ x_13 ∧ x_5 ≠ x_13 ∧ x_4 ≠ x_13 ∧ x_3 ≠ x_13 ∧ x_2 ≠ x_13 ∧ x_1 ≠ x_13 ∧ x ≠ x_13 ∧ True → x_13 = x_13 ∧ x_13 = x_13 ∧ x_13 =
      x_13 ∧ x_13 = x_13 ∧ x_13 = x_13 ∧ ∀ (t : Nat), True ∧ x_5 = x_5 ∧ x_5 = x_5 ∧ x_3 = x_3 ∧ ∀ (x_14 : Nat), x_13 ≠ x_14 ∧ x_12 ≠ x_14 ∧ x_11 ≠ x_14 ∧ x_10 ≠ x_14 ∧ x_9 ≠ x_14 ∧ x_8 ≠ x_14 ∧ x_7 ≠ x_14 ∧ x_6 ≠ x_14 ∧
      x_5 ≠ x_14 ∧ x_4 ≠ x_14 ∧ x_3 ≠ x_14 ∧ x_2 ≠ x_14 ∧ x_1 ≠ x_14 ∧ x ≠ x_14 ∧ True → x_14 = x_14 ∧ x_14 = x_14 ∧ True ∧ True ∧ (0 : Int) = (0 : Int)) (by kernel_rfl) ?_
  repeat' (first | exact trivial | refine And.intro ?_ ?_ | exact rows_eq (by kernel_rfl) | intro _ | kernel_rfl | exact weakM_refl _ | exact Nat.le_of_ble_eq_true (by kernel_rfl))
def conR (k : Nat) (ds : List D) (S : St) : Option FnSpec :=
  match k with
  | 20 => match ds with
    | [.agg [_, .sl 2 1 f m, _, _]] => match f 0 with
      | [_, .sl 4 1 _ m'] => some (sC [c0 m m'] (.int .i64 0))
      | _ => none
    | _ => none
  | _ => conS k ds S
theorem conR_ok : ConOk Try.prog conR := by
  intro k ds S A h
  unfold conR at h
  split at h
  · split at h
    · split at h
      · injection h with h; subst h
        exact ConOk.closed (right0 _ _)
      · cases h
    · cases h
  · exact conS_ok _ _ _ _ h
end Go.Proofs.Ytoglbmhkfkghbaa
namespace Go.Proofs.Ytoglbmhkfkghbaa
open Go Go.Ab
set_option maxRecDepth 100000
theorem tokIs_one (a : Nat) : tokIs [(0, a)] 0 a := rfl
theorem put0 (m m' : Ab.Mode) : ACalls Try.prog 13 [c0 m m'] ⟨[], []⟩ (fun r _ => weakEnd r (.ret (.tup [d0 .any, .int .i64 0]))) := by
  refine inlS (conW_ok conR_ok) _ _ _ _ ?_
  refine vc_eq (T :=
      ∀ (x : Nat), True → x = x ∧ ∃ (x_1 : Unit), ((((0 : Nat) = (0 : Nat) ∧ (∀ (i : Nat), i < (0 : Nat) → eqOf (List D) [] []) ∧ True) ∧ ((1 : Nat) = (1 : Nat) ∧ (∀ (i : Nat), i < (1 : Nat) → List.getD [[D.int
      IntKind.i64 (0 : Int), D.sl (4 : Nat) (1 : Nat) (fun (i : Nat) => List.getD [[D.int IntKind.i64 (25 : Int), D.int IntKind.i64 (0 : Int), D.int IntKind.i64 (0 : Int), D.int IntKind.i64 (0 : Int)]] i []) m']] i [] =
      List.getD [[D.int IntKind.i64 (0 : Int), D.sl (4 : Nat) (1 : Nat) (fun (i : Nat) => List.getD [[D.int IntKind.i64 (25 : Int), D.int IntKind.i64 (0 : Int), D.int IntKind.i64 (0 : Int), D.int IntKind.i64 (0 : Int)]]
      i []) m']] i []) ∧ weakM m m) ∧ ((0 : Nat) = (0 : Nat) ∧ (∀ (i : Nat), i < (0 : Nat) → eqOf (List D) [] []) ∧ True) ∧ ((0 : Nat) = (0 : Nat) ∧ (∀ (i : Nat), i < (0 : Nat) → eqOf (List D) [] []) ∧ True) ∧ True) ∧
      True) ∧ (True ∧ True) ∧ True ∧ ∀ (y : Unit), True → True ∧ ∀ (x_2 : Nat), x ≠ x_2 ∧ True → x = x ∧ ∀ (x_3 : Nat), x_2 ≠ x_3 ∧ x ≠ x_3 ∧ True → x_3 = x_3 ∧ ((x_2 = x_2 ∧ fitP (4 : Nat) (fun (i : Nat) => List.getD
      [[D.int IntKind.u8 (65 : Int)], [D.int IntKind.u8 (76 : Int)], [D.int IntKind.u8 (67 : Int)], [D.int IntKind.u8 (49 : Int)]] i []) (1 : Nat) fun (i : Nat) => List.getD [[D.int IntKind.i64 (0 : Int)]] i []) ∧ True)
      ∧ ∀ (y : Nat × List UInt8), Prod.snd y = [(65 : UInt8), (76 : UInt8), (67 : UInt8), (49 : UInt8), (0 : UInt8)] → x_3 = x_3 ∧ x_3 = x_3 ∧ ((x_2 = x_2 ∧ tokIs [((0 : Nat), Prod.fst y)] (0 : Nat) (Prod.fst y) ∧ fitP
      (List.length (Prod.snd y)) (fun (i : Nat) => [D.int IntKind.u8 (↑(UInt8.toNat (List.getD (Prod.snd y) i (0 : UInt8))) : Int)]) (1 : Nat) fun (i : Nat) => List.getD [[D.int IntKind.i64 (1 : Int)]] i []) ∧ True) ∧ ∀
      (y_1 : Nat × List UInt8), Prod.snd y_1 = (bytesOf (List.length (Prod.snd y)) fun (i : Nat) => [D.int IntKind.u8 (↑(UInt8.toNat (List.getD (Prod.snd y) i (0 : UInt8))) : Int)]) ++ [(2 : UInt8)] → x_3 = x_3 ∧ ∀ (x_4
      : Nat), x_2 ≠ x_4 ∧ x_3 ≠ x_4 ∧ x ≠ x_4 ∧ True → x_4 = x_4 ∧ x_4 = x_4 ∧ x_4 = x_4 ∧ ((x_2 = x_2 ∧ tokIs [((0 : Nat), Prod.fst y_1)] (0 : Nat) (Prod.fst y_1) ∧ fitP (List.length (Prod.snd y_1)) (fun (i : Nat) =>
      [D.int IntKind.u8 (↑(UInt8.toNat (List.getD (Prod.snd y_1) i (0 : UInt8))) : Int)]) (2 : Nat) fun (i : Nat) => List.getD [[D.int IntKind.i64 (0 : Int)], [D.int IntKind.i64 (1 : Int)]] i []) ∧ True) ∧ ∀ (y : Nat ×
      List UInt8), Prod.snd y = (bytesOf (List.length (Prod.snd y_1)) fun (i : Nat) => [D.int IntKind.u8 (↑(UInt8.toNat (List.getD (Prod.snd y_1) i (0 : UInt8))) : Int)]) ++ [(0 : UInt8), (2 : UInt8)] → x_4 = x_4 ∧ ∀
      (x_5 : Nat), x_2 ≠ x_5 ∧ x_4 ≠ x_5 ∧ x_3 ≠ x_5 ∧ x ≠ x_5 ∧ True → x_5 = x_5 ∧ x_5 = x_5 ∧ x_5 = x_5 ∧ x_5 = x_5 ∧ x_5 = x_5 ∧ ((x_2 = x_2 ∧ tokIs [((0 : Nat), Prod.fst y)] (0 : Nat) (Prod.fst y) ∧ fitP (List.length
      (Prod.snd y)) (fun (i : Nat) => [D.int IntKind.u8 (↑(UInt8.toNat (List.getD (Prod.snd y) i (0 : UInt8))) : Int)]) (4 : Nat) fun (i : Nat) => List.getD [[D.int IntKind.i64 (25 : Int)], [D.int IntKind.i64 (0 : Int)],
      [D.int IntKind.i64 (0 : Int)], [D.int IntKind.i64 (0 : Int)]] i []) ∧ True) ∧ ∀ (y_2 : Nat × List UInt8), Prod.snd y_2 = (bytesOf (List.length (Prod.snd y)) fun (i : Nat) => [D.int IntKind.u8 (↑(UInt8.toNat
      (List.getD (Prod.snd y) i (0 : UInt8))) : Int)]) ++ [(50 : UInt8), (0 : UInt8), (0 : UInt8), (0 : UInt8)] → x_3 = x_3 ∧ ((x_2 = x_2 ∧ tokIs [((0 : Nat), Prod.fst y_2)] (0 : Nat) (Prod.fst y_2) ∧ fitP (List.length
      (Prod.snd y_2)) (fun (i : Nat) => [D.int IntKind.u8 (↑(UInt8.toNat (List.getD (Prod.snd y_2) i (0 : UInt8))) : Int)]) (1 : Nat) fun (i : Nat) => List.getD [[D.int IntKind.i64 (0 : Int)]] i []) ∧ True) ∧ ∀ (y : Nat
      × List UInt8), Prod.snd y = (bytesOf (List.length (Prod.snd y_2)) fun (i : Nat) => [D.int IntKind.u8 (↑(UInt8.toNat (List.getD (Prod.snd y_2) i (0 : UInt8))) : Int)]) ++ [(0 : UInt8)] → x_3 = x_3 ∧ x_3 = x_3 ∧
      ((x_2 = x_2 ∧ tokIs [((0 : Nat), Prod.fst y)] (0 : Nat) (Prod.fst y) ∧ fitP (List.length (Prod.snd y)) (fun (i : Nat) => [D.int IntKind.u8 (↑(UInt8.toNat (List.getD (Prod.snd y) i (0 : UInt8))) : Int)]) (1 : Nat)
      fun (i : Nat) => List.getD [[D.int IntKind.i64 (0 : Int)]] i []) ∧ True) ∧ ∀ (y_3 : Nat × List UInt8), Prod.snd y_3 = (bytesOf (List.length (Prod.snd y)) fun (i : Nat) => [D.int IntKind.u8 (↑(UInt8.toNat (List.getD
      (Prod.snd y) i (0 : UInt8))) : Int)]) ++ [(0 : UInt8)] → x_3 = x_3 ∧ True ∧ x_2 = x_2 ∧ ((rowsB (List.length (Prod.snd y_3)) fun (i : Nat) => [D.int IntKind.u8 (↑(UInt8.toNat (List.getD (Prod.snd y_3) i (0 :
      UInt8))) : Int)]) = true ∧ List.length (bytesOf (List.length (Prod.snd y_3)) fun (i : Nat) => [D.int IntKind.u8 (↑(UInt8.toNat (List.getD (Prod.snd y_3) i (0 : UInt8))) : Int)]) ≤ (9223372036854775807 : Nat)) ∧ ∀
      (y : Unit), True → x_2 = x_2 ∧ (x_2 = x_2 ∧ D.sl (1 : Nat) (List.length (Prod.snd y_3)) (fun (i : Nat) => [D.int IntKind.u8 (↑(UInt8.toNat (List.getD (Prod.snd y_3) i (0 : UInt8))) : Int)]) (Mode.tok (0 : Nat)
      (Prod.fst y_3)) = D.sl (1 : Nat) (List.length (Prod.snd y_3)) (fun (i : Nat) => [D.int IntKind.u8 (↑(UInt8.toNat (List.getD (Prod.snd y_3) i (0 : UInt8))) : Int)]) (Mode.tok (0 : Nat) (Prod.fst y_3))) ∧ (x_2 = x_2
      ∧ D.sl (1 : Nat) (List.length (Prod.snd y_3)) (fun (i : Nat) => [D.int IntKind.u8 (↑(UInt8.toNat (List.getD (Prod.snd y_3) i (0 : UInt8))) : Int)]) (Mode.tok (0 : Nat) (Prod.fst y_3)) = D.sl (1 : Nat) (List.length
      (Prod.snd y_3)) (fun (i : Nat) => [D.int IntKind.u8 (↑(UInt8.toNat (List.getD (Prod.snd y_3) i (0 : UInt8))) : Int)]) (Mode.tok (0 : Nat) (Prod.fst y_3))) ∧ Prod.fst y_3 = Prod.fst y_3 ∧ side ((List.length
      (Prod.snd y_3) + (1 : Nat)) * (1 : Nat) ≤ (140737488355328 : Nat) ∧ List.length (Prod.snd y_3) + (1 : Nat) ≤ (9223372036854775807 : Nat)) (∀ (t : Nat), x_2 = x_2 ∧ x_2 = x_2 ∧ (x_2 = x_2 ∧ D.sl (1 : Nat)
      (List.length (Prod.snd y_3) + (1 : Nat)) (appF (List.length (Prod.snd y_3)) (fun (i : Nat) => [D.int IntKind.u8 (↑(UInt8.toNat (List.getD (Prod.snd y_3) i (0 : UInt8))) : Int)]) fun (i : Nat) => List.getD [[D.int
      IntKind.u8 (IntKind.wrap IntKind.u8 (Int.fdiv (↑(sumN (bytesOf (List.length (Prod.snd y_3)) fun (i : Nat) => [D.int IntKind.u8 (↑(UInt8.toNat (List.getD (Prod.snd y_3) i (0 : UInt8))) : Int)])) : Int) (16777216 :
      Int)))]] i []) (Mode.tok (0 : Nat) t) = D.sl (1 : Nat) (List.length (Prod.snd y_3) + (1 : Nat)) (appF (List.length (Prod.snd y_3)) (fun (i : Nat) => [D.int IntKind.u8 (↑(UInt8.toNat (List.getD (Prod.snd y_3) i (0 :
      UInt8))) : Int)]) fun (i : Nat) => List.getD [[D.int IntKind.u8 (IntKind.wrap IntKind.u8 (Int.fdiv (↑(sumN (bytesOf (List.length (Prod.snd y_3)) fun (i : Nat) => [D.int IntKind.u8 (↑(UInt8.toNat (List.getD
      (Prod.snd y_3) i (0 : UInt8))) : Int)])) : Int) (16777216 : Int)))]] i []) (Mode.tok (0 : Nat) t)) ∧ (x_2 = x_2 ∧ D.sl (1 : Nat) (List.length (Prod.snd y_3) + (1 : Nat)) (appF (List.length (Prod.snd y_3)) (fun (i :
      Nat) => [D.int IntKind.u8 (↑(UInt8.toNat (List.getD (Prod.snd y_3) i (0 : UInt8))) : Int)]) fun (i : Nat) => List.getD [[D.int IntKind.u8 (IntKind.wrap IntKind.u8 (Int.fdiv (↑(sumN (bytesOf (List.length (Prod.snd
      y_3)) fun (i : Nat) => [D.int IntKind.u8 (↑(UInt8.toNat (List.getD (Prod.snd y_3) i (0 : UInt8))) : Int)])) : Int) (16777216 : Int)))]] i []) (Mode.tok (0 : Nat) t) = D.sl (1 : Nat) (List.length (Prod.snd y_3) + (1
      : Nat)) (appF (List.length (Prod.snd y_3)) (fun (i : Nat) => [D.int IntKind.u8 (↑(UInt8.toNat (List.getD (Prod.snd y_3) i (0 : UInt8))) : Int)]) fun (i : Nat) => List.getD [[D.int IntKind.u8 (IntKind.wrap
      IntKind.u8 (Int.fdiv (↑(sumN (bytesOf (List.length (Prod.snd y_3)) fun (i : Nat) => [D.int IntKind.u8 (↑(UInt8.toNat (List.getD (Prod.snd y_3) i (0 : UInt8))) : Int)])) : Int) (16777216 : Int)))]] i []) (Mode.tok
      (0 : Nat) t)) ∧ t = t ∧ side ((List.length (Prod.snd y_3) + (1 : Nat) + (1 : Nat)) * (1 : Nat) ≤ (140737488355328 : Nat) ∧ List.length (Prod.snd y_3) + (1 : Nat) + (1 : Nat) ≤ (9223372036854775807 : Nat)) (∀ (t :
      Nat), x_2 = x_2 ∧ x_2 = x_2 ∧ (x_2 = x_2 ∧ D.sl (1 : Nat) (List.length (Prod.snd y_3) + (1 : Nat) + (1 : Nat)) (appF (List.length (Prod.snd y_3) + (1 : Nat)) (appF (List.length (Prod.snd y_3)) (fun (i : Nat) =>
      [D.int IntKind.u8 (↑(UInt8.toNat (List.getD (Prod.snd y_3) i (0 : UInt8))) : Int)]) fun (i : Nat) => List.getD [[D.int IntKind.u8 (IntKind.wrap IntKind.u8 (Int.fdiv (↑(sumN (bytesOf (List.length (Prod.snd y_3)) fun
      (i : Nat) => [D.int IntKind.u8 (↑(UInt8.toNat (List.getD (Prod.snd y_3) i (0 : UInt8))) : Int)])) : Int) (16777216 : Int)))]] i []) fun (i : Nat) => List.getD [[D.int IntKind.u8 (IntKind.wrap IntKind.u8 (Int.fdiv
      (↑(sumN (bytesOf (List.length (Prod.snd y_3)) fun (i : Nat) => [D.int IntKind.u8 (↑(UInt8.toNat (List.getD (Prod.snd y_3) i (0 : UInt8))) : Int)])) : Int) (65536 : Int)))]] i []) (Mode.tok (0 : Nat) t) = D.sl (1 :
      Nat) (List.length (Prod.snd y_3) + (1 : Nat) + (1 : Nat)) (appF (List.length (Prod.snd y_3) + (1 : Nat)) (appF (List.length (Prod.snd y_3)) (fun (i : Nat) => [D.int IntKind.u8 (↑(UInt8.toNat (List.getD (Prod.snd
      y_3) i (0 : UInt8))) : Int)]) fun (i : Nat) => List.getD [[D.int IntKind.u8 (IntKind.wrap IntKind.u8 (Int.fdiv (↑(sumN (bytesOf (List.length (Prod.snd y_3)) fun (i : Nat) => [D.int IntKind.u8 (↑(UInt8.toNat
      (List.getD (Prod.snd y_3) i (0 : UInt8))) : Int)])) : Int) (16777216 : Int)))]] i []) fun (i : Nat) => List.getD [[D.int IntKind.u8 (IntKind.wrap IntKind.u8 (Int.fdiv (↑(sumN (bytesOf (List.length (Prod.snd y_3))
      fun (i : Nat) => [D.int IntKind.u8 (↑(UInt8.toNat (List.getD (Prod.snd y_3) i (0 : UInt8))) : Int)])) : Int) (65536 : Int)))]] i []) (Mode.tok (0 : Nat) t)) ∧ (x_2 = x_2 ∧ D.sl (1 : Nat) (List.length (Prod.snd y_3)
      + (1 : Nat) + (1 : Nat)) (appF (List.length (Prod.snd y_3) + (1 : Nat)) (appF (List.length (Prod.snd y_3)) (fun (i : Nat) => [D.int IntKind.u8 (↑(UInt8.toNat (List.getD (Prod.snd y_3) i (0 : UInt8))) : Int)]) fun
      (i : Nat) => List.getD [[D.int IntKind.u8 (IntKind.wrap IntKind.u8 (Int.fdiv (↑(sumN (bytesOf (List.length (Prod.snd y_3)) fun (i : Nat) => [D.int IntKind.u8 (↑(UInt8.toNat (List.getD (Prod.snd y_3) i (0 : UInt8)))
      : Int)])) : Int) (16777216 : Int)))]] i []) fun (i : Nat) => List.getD [[D.int IntKind.u8 (IntKind.wrap IntKind.u8 (Int.fdiv (↑(sumN (bytesOf (List.length (Prod.snd y_3)) fun (i : Nat) => [D.int IntKind.u8
      (↑(UInt8.toNat (List.getD (Prod.snd y_3) i (0 : UInt8))) : Int)])) : Int) (65536 : Int)))]] i []) (Mode.tok (0 : Nat) t) = D.sl (1 : Nat) (List.length (Prod.snd y_3) + (1 : Nat) + (1 : Nat)) (appF (List.length
      (Prod.snd y_3) + (1 : Nat)) (appF (List.length (Prod.snd y_3)) (fun (i : Nat) => [D.int IntKind.u8 (↑(UInt8.toNat (List.getD (Prod.snd y_3) i (0 : UInt8))) : Int)]) fun (i : Nat) => List.getD [[D.int IntKind.u8
      (IntKind.wrap IntKind.u8 (Int.fdiv (↑(sumN (bytesOf (List.length (Prod.snd y_3)) fun (i : Nat) => [D.int IntKind.u8 (↑(UInt8.toNat (List.getD (Prod.snd y_3) i (0 : UInt8))) : Int)])) : Int) (16777216 : Int)))]] i
      []) fun (i : Nat) => List.getD [[D.int IntKind.u8 (IntKind.wrap IntKind.u8 (Int.fdiv (↑(sumN (bytesOf (List.length (Prod.snd y_3)) fun (i : Nat) => [D.int IntKind.u8 (↑(UInt8.toNat (List.getD (Prod.snd y_3) i (0 :
      UInt8))) : Int)])) : Int) (65536 : Int)))]] i []) (Mode.tok (0 : Nat) t)) ∧ t = t ∧ side ((List.length (Prod.snd y_3) + (1 : Nat) + (1 : Nat) + (1 : Nat)) * (1 : Nat) ≤ (140737488355328 : Nat) ∧ List.length
      (Prod.snd y_3) + (1 : Nat) + (1 : Nat) + (1 : Nat) ≤ (9223372036854775807 : Nat)) (∀ (t : Nat), x_2 = x_2 ∧ x_2 = x_2 ∧ (x_2 = x_2 ∧ D.sl (1 : Nat) (List.length (Prod.snd y_3) + (1 : Nat) + (1 : Nat) + (1 : Nat))
      (appF (List.length (Prod.snd y_3) + (1 : Nat) + (1 : Nat)) (appF (List.length (Prod.snd y_3) + (1 : Nat)) (appF (List.length (Prod.snd y_3)) (fun (i : Nat) => [D.int IntKind.u8 (↑(UInt8.toNat (List.getD (Prod.snd
      y_3) i (0 : UInt8))) : Int)]) fun (i : Nat) => List.getD [[D.int IntKind.u8 (IntKind.wrap IntKind.u8 (Int.fdiv (↑(sumN (bytesOf (List.length (Prod.snd y_3)) fun (i : Nat) => [D.int IntKind.u8 (↑(UInt8.toNat
      (List.getD (Prod.snd y_3) i (0 : UInt8))) : Int)])) : Int) (16777216 : Int)))]] i []) fun (i : Nat) => List.getD [[D.int IntKind.u8 (IntKind.wrap IntKind.u8 (Int.fdiv (↑(sumN (bytesOf (List.length (Prod.snd y_3))
      fun (i : Nat) => [D.int IntKind.u8 (↑(UInt8.toNat (List.getD (Prod.snd y_3) i (0 : UInt8))) : Int)])) : Int) (65536 : Int)))]] i []) fun (i : Nat) => List.getD [[D.int IntKind.u8 (IntKind.wrap IntKind.u8 (Int.fdiv
      (↑(sumN (bytesOf (List.length (Prod.snd y_3)) fun (i : Nat) => [D.int IntKind.u8 (↑(UInt8.toNat (List.getD (Prod.snd y_3) i (0 : UInt8))) : Int)])) : Int) (256 : Int)))]] i []) (Mode.tok (0 : Nat) t) = D.sl (1 :
      Nat) (List.length (Prod.snd y_3) + (1 : Nat) + (1 : Nat) + (1 : Nat)) (appF (List.length (Prod.snd y_3) + (1 : Nat) + (1 : Nat)) (appF (List.length (Prod.snd y_3) + (1 : Nat)) (appF (List.length (Prod.snd y_3))
      (fun (i : Nat) => [D.int IntKind.u8 (↑(UInt8.toNat (List.getD (Prod.snd y_3) i (0 : UInt8))) : Int)]) fun (i : Nat) => List.getD [[D.int IntKind.u8 (IntKind.wrap IntKind.u8 (Int.fdiv (↑(sumN (bytesOf (List.length
      (Prod.snd y_3)) fun (i : Nat) => [D.int IntKind.u8 (↑(UInt8.toNat (List.getD (Prod.snd y_3) i (0 : UInt8))) : Int)])) : Int) (16777216 : Int)))]] i []) fun (i : Nat) => List.getD [[D.int IntKind.u8 (IntKind.wrap
      IntKind.u8 (Int.fdiv (↑(sumN (bytesOf (List.length (Prod.snd y_3)) fun (i : Nat) => [D.int IntKind.u8 (↑(UInt8.toNat (List.getD (Prod.snd y_3) i (0 : UInt8))) : Int)])) : Int) (65536 : Int)))]] i []) fun (i : Nat)
      => List.getD [[D.int IntKind.u8 (IntKind.wrap IntKind.u8 (Int.fdiv (↑(sumN (bytesOf (List.length (Prod.snd y_3)) fun (i : Nat) => [D.int IntKind.u8 (↑(UInt8.toNat (List.getD (Prod.snd y_3) i (0 : UInt8))) : Int)]))
      : Int) (256 : Int)))]] i []) (Mode.tok (0 : Nat) t)) ∧ (x_2 = x_2 ∧ D.sl (1 : Nat) (List.length (Prod.snd y_3) + (1 : Nat) + (1 : Nat) + (1 : Nat)) (appF (List.length (Prod.snd y_3) + (1 : Nat) + (1 : Nat)) (appF
      (List.length (Prod.snd y_3) + (1 : Nat)) (appF (List.length (Prod.snd y_3)) (fun (i : Nat) => [D.int IntKind.u8 (↑(UInt8.toNat (List.getD (Prod.snd y_3) i (0 : UInt8))) : Int)]) fun (i : Nat) => List.getD [[D.int
      IntKind.u8 (IntKind.wrap IntKind.u8 (Int.fdiv (↑(sumN (bytesOf (List.length (Prod.snd y_3)) fun (i : Nat) => [D.int IntKind.u8 (↑(UInt8.toNat (List.getD (Prod.snd y_3) i (0 : UInt8))) : Int)])) : Int) (16777216 :
      Int)))]] i []) fun (i : Nat) => List.getD [[D.int IntKind.u8 (IntKind.wrap IntKind.u8 (Int.fdiv (↑(sumN (bytesOf (List.length (Prod.snd y_3)) fun (i : Nat) => [D.int IntKind.u8 (↑(UInt8.toNat (List.getD (Prod.snd
      y_3) i (0 : UInt8))) : Int)])) : Int) (65536 : Int)))]] i []) fun (i : Nat) => List.getD [[D.int IntKind.u8 (IntKind.wrap IntKind.u8 (Int.fdiv (↑(sumN (bytesOf (List.length (Prod.snd y_3)) fun (i : Nat) => [D.int
      IntKind.u8 (↑(UInt8.toNat (List.getD (Prod.snd y_3) i (0 : UInt8))) : Int)])) : Int) (256 : Int)))]] i []) (Mode.tok (0 : Nat) t) = D.sl (1 : Nat) (List.length (Prod.snd y_3) + (1 : Nat) + (1 : Nat) + (1 : Nat))
      (appF (List.length (Prod.snd y_3) + (1 : Nat) + (1 : Nat)) (appF (List.length (Prod.snd y_3) + (1 : Nat)) (appF (List.length (Prod.snd y_3)) (fun (i : Nat) => [D.int IntKind.u8 (↑(UInt8.toNat (List.getD (Prod.snd
      y_3) i (0 : UInt8))) : Int)]) fun (i : Nat) => List.getD [[D.int IntKind.u8 (IntKind.wrap IntKind.u8 (Int.fdiv (↑(sumN (bytesOf (List.length (Prod.snd y_3)) fun (i : Nat) => [D.int IntKind.u8 (↑(UInt8.toNat
      (List.getD (Prod.snd y_3) i (0 : UInt8))) : Int)])) : Int) (16777216 : Int)))]] i []) fun (i : Nat) => List.getD [[D.int IntKind.u8 (IntKind.wrap IntKind.u8 (Int.fdiv (↑(sumN (bytesOf (List.length (Prod.snd y_3))
      fun (i : Nat) => [D.int IntKind.u8 (↑(UInt8.toNat (List.getD (Prod.snd y_3) i (0 : UInt8))) : Int)])) : Int) (65536 : Int)))]] i []) fun (i : Nat) => List.getD [[D.int IntKind.u8 (IntKind.wrap IntKind.u8 (Int.fdiv
      (↑(sumN (bytesOf (List.length (Prod.snd y_3)) fun (i : Nat) => [D.int IntKind.u8 (↑(UInt8.toNat (List.getD (Prod.snd y_3) i (0 : UInt8))) : Int)])) : Int) (256 : Int)))]] i []) (Mode.tok (0 : Nat) t)) ∧ t = t ∧
      side ((List.length (Prod.snd y_3) + (1 : Nat) + (1 : Nat) + (1 : Nat) + (1 : Nat)) * (1 : Nat) ≤ (140737488355328 : Nat) ∧ List.length (Prod.snd y_3) + (1 : Nat) + (1 : Nat) + (1 : Nat) + (1 : Nat) ≤
      (9223372036854775807 : Nat)) (∀ (t : Nat), x_2 = x_2 ∧ x_2 = x_2 ∧ ifB (decide ((1048576 : Int) < (↑(List.length (Prod.snd y_3) + (1 : Nat) + (1 : Nat) + (1 : Nat) + (1 : Nat)) : Int))) (True ∧ ((0 : Nat) = (18 :
      Nat) ∧ (∀ (i : Nat), i < (0 : Nat) → eqOf (List D) [] (List.getD [[D.int IntKind.u8 (65 : Int)], [D.int IntKind.u8 (76 : Int)], [D.int IntKind.u8 (67 : Int)], [D.int IntKind.u8 (49 : Int)], [D.int IntKind.u8 (0 :
      Int)], [D.int IntKind.u8 (2 : Int)], [D.int IntKind.u8 (0 : Int)], [D.int IntKind.u8 (2 : Int)], [D.int IntKind.u8 (50 : Int)], [D.int IntKind.u8 (0 : Int)], [D.int IntKind.u8 (0 : Int)], [D.int IntKind.u8 (0 :
      Int)], [D.int IntKind.u8 (0 : Int)], [D.int IntKind.u8 (0 : Int)], [D.int IntKind.u8 (116 : Int)], [D.int IntKind.u8 (248 : Int)], [D.int IntKind.u8 (41 : Int)], [D.int IntKind.u8 (197 : Int)]] i [])) ∧ True) ∧ (21
      : Int) = (0 : Int) ∧ True) (x_2 = x_2 ∧ True ∧ (List.length (Prod.snd y_3) + (1 : Nat) + (1 : Nat) + (1 : Nat) + (1 : Nat) = (18 : Nat) ∧ (∀ (i : Nat), i < List.length (Prod.snd y_3) + (1 : Nat) + (1 : Nat) + (1 :
      Nat) + (1 : Nat) → appF (List.length (Prod.snd y_3) + (1 : Nat) + (1 : Nat) + (1 : Nat)) (appF (List.length (Prod.snd y_3) + (1 : Nat) + (1 : Nat)) (appF (List.length (Prod.snd y_3) + (1 : Nat)) (appF (List.length
      (Prod.snd y_3)) (fun (i : Nat) => [D.int IntKind.u8 (↑(UInt8.toNat (List.getD (Prod.snd y_3) i (0 : UInt8))) : Int)]) fun (i : Nat) => List.getD [[D.int IntKind.u8 (IntKind.wrap IntKind.u8 (Int.fdiv (↑(sumN
      (bytesOf (List.length (Prod.snd y_3)) fun (i : Nat) => [D.int IntKind.u8 (↑(UInt8.toNat (List.getD (Prod.snd y_3) i (0 : UInt8))) : Int)])) : Int) (16777216 : Int)))]] i []) fun (i : Nat) => List.getD [[D.int
      IntKind.u8 (IntKind.wrap IntKind.u8 (Int.fdiv (↑(sumN (bytesOf (List.length (Prod.snd y_3)) fun (i : Nat) => [D.int IntKind.u8 (↑(UInt8.toNat (List.getD (Prod.snd y_3) i (0 : UInt8))) : Int)])) : Int) (65536 :
      Int)))]] i []) fun (i : Nat) => List.getD [[D.int IntKind.u8 (IntKind.wrap IntKind.u8 (Int.fdiv (↑(sumN (bytesOf (List.length (Prod.snd y_3)) fun (i : Nat) => [D.int IntKind.u8 (↑(UInt8.toNat (List.getD (Prod.snd
      y_3) i (0 : UInt8))) : Int)])) : Int) (256 : Int)))]] i []) (fun (i : Nat) => List.getD [[D.int IntKind.u8 (IntKind.wrap IntKind.u8 (Int.fdiv (↑(sumN (bytesOf (List.length (Prod.snd y_3)) fun (i : Nat) => [D.int
      IntKind.u8 (↑(UInt8.toNat (List.getD (Prod.snd y_3) i (0 : UInt8))) : Int)])) : Int) (1 : Int)))]] i []) i = List.getD [[D.int IntKind.u8 (65 : Int)], [D.int IntKind.u8 (76 : Int)], [D.int IntKind.u8 (67 : Int)],
      [D.int IntKind.u8 (49 : Int)], [D.int IntKind.u8 (0 : Int)], [D.int IntKind.u8 (2 : Int)], [D.int IntKind.u8 (0 : Int)], [D.int IntKind.u8 (2 : Int)], [D.int IntKind.u8 (50 : Int)], [D.int IntKind.u8 (0 : Int)],
      [D.int IntKind.u8 (0 : Int)], [D.int IntKind.u8 (0 : Int)], [D.int IntKind.u8 (0 : Int)], [D.int IntKind.u8 (0 : Int)], [D.int IntKind.u8 (116 : Int)], [D.int IntKind.u8 (248 : Int)], [D.int IntKind.u8 (41 : Int)],
      [D.int IntKind.u8 (197 : Int)]] i []) ∧ True) ∧ (0 : Int) = (0 : Int) ∧ True)))))) (by kernel_rfl) ?_
  simp only [Prod.forall, forall_eq, bytesOf_bsl, rowsB_bsl, side_iff, ifB_iff, true_and, and_true, fitP, List.cons_append, List.nil_append, List.length_cons, List.length_nil, Nat.reduceAdd, Nat.reduceMul, Int.cast_ofNat_Int, Int.reduceLT, decide_eq_true_eq, decide_eq_false_iff_not, false_implies, not_false_eq_true, true_implies, forall_const]
  repeat' (first | exact trivial | exact tokIs_one _ | refine Exists.intro () ?_ | refine And.intro ?_ ?_ | exact rows_eq (by kernel_rfl) | intro _ | kernel_rfl | exact weakM_refl _ | exact Nat.le_of_ble_eq_true (by kernel_rfl))
  all_goals trace_state
end Go.Proofs.Ytoglbmhkfkghbaa
namespace Go.Proofs.Ytoglbmhkfkghbaa
open Go Go.Ab
set_option maxRecDepth 100000
theorem takeN (m : Ab.Mode) : ACalls Try.prog 15 [.sl 1 0 (fun _ => []) m] ⟨[], []⟩ (fun r _ => weakEnd r (.ret (.tup [.agg [nils, nils, nils, nils], .int .i64 7]))) := by
  refine inlS conR_ok _ _ _ _ ?_
  refine vc_eq (T :=
      ∀ (x : Nat), True → x = x ∧ (x = x ∧ True) ∧ (((0 : Nat) = (0 : Nat) ∧ (∀ (i : Nat), i < (0 : Nat) → eqOf (List D) [] []) ∧ True) ∧ ((0 : Nat) = (0 : Nat) ∧ (∀ (i : Nat), i < (0 : Nat) → eqOf (List D) [] []) ∧
      True) ∧ ((0 : Nat) = (0 : Nat) ∧ (∀ (i : Nat), i < (0 : Nat) → eqOf (List D) [] []) ∧ True) ∧ ((0 : Nat) = (0 : Nat) ∧ (∀ (i : Nat), i < (0 : Nat) → eqOf (List D) [] []) ∧ True) ∧ True) ∧ (7 : Int) = (7 : Int) ∧
      True) (by kernel_rfl) ?_
  simp only [true_and, and_true]
  repeat' (first | exact trivial | refine Exists.intro () ?_ | refine And.intro ?_ ?_ | exact rows_eq (by kernel_rfl) | intro _ | kernel_rfl | exact weakM_refl _ | exact Nat.le_of_ble_eq_true (by kernel_rfl))
theorem take0 : ACalls Try.prog 15 [d0 .any] ⟨[], []⟩ (fun r _ => ∃ t, weakEnd r (.ret (.tup [c0 .any (.tok 0 t), .int .i64 0]))) := by
  refine inlS conR_ok _ _ _ _ ?_
  refine vc_eq (T :=
      ∀ (x : Nat), True → True ∧ (true = true ∧ (14 : Nat) ≤ (9223372036854775807 : Nat)) ∧ ∀ (y : Unit), True → True ∧ ∀ (x_1 : Nat), x ≠ x_1 ∧ True → ∀ (x_2 : Nat), x_1 ≠ x_2 ∧ x ≠ x_2 ∧ True → ∀ (x_3 : Nat), x_2 ≠ x_3
      ∧ x_1 ≠ x_3 ∧ x ≠ x_3 ∧ True → ∀ (x_4 : Nat), x_3 ≠ x_4 ∧ x_2 ≠ x_4 ∧ x_1 ≠ x_4 ∧ x ≠ x_4 ∧ True → ∀ (x_5 : Nat), x_4 ≠ x_5 ∧ x_3 ≠ x_5 ∧ x_2 ≠ x_5 ∧ x_1 ≠ x_5 ∧ x ≠ x_5 ∧ True → x_3 = x_3 ∧ True ∧ x_3 = x_3 ∧ x_3
      = x_3 ∧ x_3 = x_3 ∧ True ∧ True ∧ True ∧ x_3 = x_3 ∧ True ∧ True ∧ x_3 = x_3 ∧ True ∧ x_3 = x_3 ∧ x_3 = x_3 ∧ x_3 = x_3 ∧ True ∧ True ∧ True ∧ x_3 = x_3 ∧ True ∧ True ∧ x_3 = x_3 ∧ True ∧ x_3 = x_3 ∧ x_3 = x_3 ∧
      x_3 = x_3 ∧ True ∧ True ∧ True ∧ ∀ (x_6 : Nat), x_5 ≠ x_6 ∧ x_4 ≠ x_6 ∧ x_3 ≠ x_6 ∧ x_2 ≠ x_6 ∧ x_1 ≠ x_6 ∧ x ≠ x_6 ∧ True → x_6 = x_6 ∧ x_3 = x_3 ∧ True ∧ x_3 = x_3 ∧ x_3 = x_3 ∧ x_3 = x_3 ∧ True ∧ True ∧ True ∧
      x_3 = x_3 ∧ True ∧ True ∧ x_6 = x_6 ∧ x_3 = x_3 ∧ True ∧ x_3 = x_3 ∧ x_3 = x_3 ∧ x_3 = x_3 ∧ True ∧ True ∧ True ∧ (x_6 = x_6 ∧ D.sl (1 : Nat) (0 : Nat) (fun (x : Nat) => []) Mode.nil = D.sl (1 : Nat) (0 : Nat) (fun
      (x : Nat) => []) Mode.nil) ∧ x_3 = x_3 ∧ True ∧ x_3 = x_3 ∧ x_3 = x_3 ∧ x_3 = x_3 ∧ True ∧ True ∧ True ∧ (x_6 = x_6 ∧ D.sl (1 : Nat) (0 : Nat) (fun (x : Nat) => []) Mode.nil = D.sl (1 : Nat) (0 : Nat) (fun (x :
      Nat) => []) Mode.nil) ∧ x_3 = x_3 ∧ True ∧ x_3 = x_3 ∧ x_3 = x_3 ∧ x_3 = x_3 ∧ True ∧ True ∧ True ∧ (x_6 = x_6 ∧ D.sl (1 : Nat) (0 : Nat) (fun (x : Nat) => []) Mode.nil = D.sl (1 : Nat) (0 : Nat) (fun (x : Nat) =>
      []) Mode.nil) ∧ x_3 = x_3 ∧ True ∧ x_3 = x_3 ∧ x_3 = x_3 ∧ x_3 = x_3 ∧ True ∧ True ∧ True ∧ (x_6 = x_6 ∧ D.sl (1 : Nat) (0 : Nat) (fun (x : Nat) => []) Mode.nil = D.sl (1 : Nat) (0 : Nat) (fun (x : Nat) => [])
      Mode.nil) ∧ (x_6 = x_6 ∧ D.sl (1 : Nat) (0 : Nat) (fun (x : Nat) => []) Mode.nil = D.sl (1 : Nat) (0 : Nat) (fun (x : Nat) => []) Mode.nil) ∧ ∀ (t : Nat), x_6 = x_6 ∧ x_5 = x_5 ∧ x_6 = x_6 ∧ ∀ (t_1 : Nat), x_5 =
      x_5 ∧ x_3 = x_3 ∧ True ∧ x_3 = x_3 ∧ x_3 = x_3 ∧ x_3 = x_3 ∧ True ∧ True ∧ True ∧ x_3 = x_3 ∧ True ∧ True ∧ x_3 = x_3 ∧ True ∧ x_3 = x_3 ∧ x_3 = x_3 ∧ x_3 = x_3 ∧ True ∧ True ∧ True ∧ x_3 = x_3 ∧ True ∧ True ∧ x_3
      = x_3 ∧ True ∧ x_5 = x_5 ∧ x_4 = x_4 ∧ (x_4 = x_4 ∧ True) ∧ x_1 = x_1 ∧ x_2 = x_2 ∧ (x_1 = x_1 ∧ x_2 = x_2 ∧ True) ∧ ∀ (x_7 : Nat), x_6 ≠ x_7 ∧ x_5 ≠ x_7 ∧ x_4 ≠ x_7 ∧ x_3 ≠ x_7 ∧ x_2 ≠ x_7 ∧ x_1 ≠ x_7 ∧ x ≠ x_7 ∧
      True → x_7 = x_7 ∧ x_7 = x_7 ∧ ∃ (x_8 : Unit), ((((0 : Nat) = (0 : Nat) ∧ (∀ (i : Nat), i < (0 : Nat) → eqOf (List D) [] []) ∧ True) ∧ ((1 : Nat) = (1 : Nat) ∧ (∀ (i : Nat), i < (1 : Nat) → appF (0 : Nat) (fun (x :
      Nat) => []) (fun (i : Nat) => List.getD [[D.int IntKind.i64 (0 : Int), D.sl (4 : Nat) (1 : Nat) (fun (i : Nat) => List.getD [[D.int IntKind.i64 (25 : Int), D.int IntKind.i64 (0 : Int), D.int IntKind.i64 (0 : Int),
      D.int IntKind.i64 (0 : Int)]] (i - (0 : Nat)) []) (Mode.tok (0 : Nat) t)]] i []) i = List.getD [[D.int IntKind.i64 (0 : Int), D.sl (4 : Nat) (1 : Nat) (fun (i : Nat) => List.getD [[D.int IntKind.i64 (25 : Int),
      D.int IntKind.i64 (0 : Int), D.int IntKind.i64 (0 : Int), D.int IntKind.i64 (0 : Int)]] i []) (Mode.tok (0 : Nat) t)]] i []) ∧ t_1 = t_1) ∧ ((0 : Nat) = (0 : Nat) ∧ (∀ (i : Nat), i < (0 : Nat) → eqOf (List D) []
      []) ∧ True) ∧ ((0 : Nat) = (0 : Nat) ∧ (∀ (i : Nat), i < (0 : Nat) → eqOf (List D) [] []) ∧ True) ∧ True) ∧ True) ∧ (True ∧ True) ∧ True ∧ ∀ (y : Unit), True → x_7 = x_7 ∧ x_7 = x_7 ∧ x = x ∧ (x = x ∧ True) ∧ ∃
      (t_2 : Nat), (((0 : Nat) = (0 : Nat) ∧ (∀ (i : Nat), i < (0 : Nat) → eqOf (List D) [] []) ∧ True) ∧ ((1 : Nat) = (1 : Nat) ∧ (∀ (i : Nat), i < (1 : Nat) → appF (0 : Nat) (fun (x : Nat) => []) (fun (i : Nat) =>
      List.getD [[D.int IntKind.i64 (0 : Int), D.sl (4 : Nat) (1 : Nat) (fun (i : Nat) => List.getD [[D.int IntKind.i64 (25 : Int), D.int IntKind.i64 (0 : Int), D.int IntKind.i64 (0 : Int), D.int IntKind.i64 (0 : Int)]]
      (i - (0 : Nat)) []) (Mode.tok (0 : Nat) t)]] i []) i = List.getD [[D.int IntKind.i64 (0 : Int), D.sl (4 : Nat) (1 : Nat) (fun (i : Nat) => List.getD [[D.int IntKind.i64 (25 : Int), D.int IntKind.i64 (0 : Int),
      D.int IntKind.i64 (0 : Int), D.int IntKind.i64 (0 : Int)]] i []) (Mode.tok (0 : Nat) t_2)]] i []) ∧ True) ∧ ((0 : Nat) = (0 : Nat) ∧ (∀ (i : Nat), i < (0 : Nat) → eqOf (List D) [] []) ∧ True) ∧ ((0 : Nat) = (0 :
      Nat) ∧ (∀ (i : Nat), i < (0 : Nat) → eqOf (List D) [] []) ∧ True) ∧ True) ∧ (0 : Int) = (0 : Int) ∧ True) (by kernel_rfl) ?_
  simp only [true_and, and_true]
  repeat' (first | exact trivial | refine Exists.intro () ?_ | refine And.intro ?_ ?_ | exact rows_eq (by kernel_rfl) | intro _ | kernel_rfl | exact weakM_refl _ | exact Nat.le_of_ble_eq_true (by kernel_rfl))
  rename_i t1 t2 x7 h1 u h2
  refine ⟨t1, ?_⟩
  repeat' (first | exact trivial | refine Exists.intro () ?_ | refine And.intro ?_ ?_ | exact rows_eq (by kernel_rfl) | intro _ | kernel_rfl | exact weakM_refl _ | exact Nat.le_of_ble_eq_true (by kernel_rfl))
end Go.Proofs.Ytoglbmhkfkghbaa
namespace Go.Proofs.Ytoglbmhkfkghbaa
open Go Go.Ab
set_option maxRecDepth 100000
theorem same0 (t : Nat) : ACalls Try.prog 17 [c0 .any .full, c0 .any (.tok 0 t)] ⟨[], []⟩ (fun r _ => weakEnd r (.ret (.bool true))) := by
  refine inlS conS_ok _ _ _ _ ?_
  refine vc_eq (T :=
      ∀ (x : Nat), True → ∀ (x_1 : Nat), x ≠ x_1 ∧ True → x = x ∧ x_1 = x_1 ∧ x = x ∧ x = x ∧ x_1 = x_1 ∧ True ∧ x = x ∧ x_1 = x_1 ∧ True ∧ x = x ∧ x_1 = x_1 ∧ True ∧ True ∧ true = true) (by kernel_rfl) ?_
  simp only [true_and, and_true]
  repeat' (first | exact trivial | refine Exists.intro () ?_ | refine And.intro ?_ ?_ | exact rows_eq (by kernel_rfl) | intro _ | kernel_rfl | exact weakM_refl _ | exact Nat.le_of_ble_eq_true (by kernel_rfl))
end Go.Proofs.Ytoglbmhkfkghbaa
namespace Go.Proofs.Ytoglbmhkfkghbaa
open Go Go.Ab
set_option maxRecDepth 100000

def sTake : FnSpec where
  β := Unit
  α := Nat
  args := fun _ => [d0 .any]
  st := fun _ => ⟨[], []⟩
  pre := fun _ => True
  post := fun _ _ => True
  res := fun _ t => .ret (.tup [c0 .any (.tok 0 t), .int .i64 0])
  out := fun _ _ => ⟨[], []⟩
def b9 : List (List D) := [[.int .u8 49], [.int .u8 50], [.int .u8 51], [.int .u8 52], [.int .u8 53], [.int .u8 54], [.int .u8 55], [.int .u8 56], [.int .u8 57]]
theorem sum9 : ACalls Try.prog 10 [.sl 1 9 (fun i => b9.getD i []) .any] ⟨[], []⟩ (fun r _ => weakEnd r (.ret (.int .u32 3421780262))) := by
  refine (sum_ok [49, 50, 51, 52, 53, 54, 55, 56, 57] .any (by simp)).respec (A' := sC [.sl 1 9 (fun i => b9.getD i []) .any] (.int .u32 3421780262)) (x' := ()) ?_ ?_ (fun y _ => ⟨(), trivial, ?_, ?_⟩) |>.mono ?_
  · exact ⟨⟨rfl, rows_eq rfl, trivial⟩, trivial⟩
  · simp [sC, sSum, posS, posO, posT]
  · show (sumN [49, 50, 51, 52, 53, 54, 55, 56, 57] : Int) = 3421780262
    kernel_rfl
  · simp [sC, sSum, posS, posO, posT]
  · rintro r S' ⟨_, _, rfl, _⟩
    exact weakD_refl _
def conK (k : Nat) (ds : List D) (S : St) : Option FnSpec :=
  match k with
  | 10 => match ds with
    | [.sl 1 9 _ _] => some (sC [.sl 1 9 (fun i => b9.getD i []) .any] (.int .u32 3421780262))
    | _ => none
  | 13 => match ds with
    | [.agg [_, .sl 2 1 f m, _, _]] => match f 0 with
      | [_, .sl 4 1 _ m'] => some (sC [c0 m m'] (.tup [d0 .any, .int .i64 0]))
      | _ => none
    | _ => none
  | 15 => match ds with
    | [.sl 1 18 _ _] => some sTake
    | [.sl 1 0 _ m] => some (sC [.sl 1 0 (fun _ => []) m] (.tup [.agg [nils, nils, nils, nils], .int .i64 7]))
    | _ => none
  | 17 => match ds with
    | [_, .agg [_, .sl 2 1 f _, _, _]] => match f 0 with
      | [_, .sl 4 1 _ (.tok 0 t)] => some (sC [c0 .any .full, c0 .any (.tok 0 t)] (.bool true))
      | _ => none
    | _ => none
  | _ => conS k ds S
theorem conK_ok : ConOk Try.prog conK := by
  intro k ds S A h
  unfold conK at h
  split at h
  · split at h
    · injection h with h; subst h
      exact ConOk.closed sum9
    · cases h
  · split at h
    · split at h
      · injection h with h; subst h
        exact ConOk.closed (put0 _ _)
      · cases h
    · cases h
  · split at h
    · injection h with h; subst h
      refine ConOk.plain (A := sTake) (fun _ _ => take0.weaken ?_) rfl rfl
      rintro r S' ⟨t, hw⟩
      exact ⟨_, ⟨[], []⟩, hw, .none S', t, trivial, rfl, rfl⟩
    · injection h with h; subst h
      exact ConOk.closed (takeN _)
    · cases h
  · split at h
    · split at h
      · injection h with h; subst h
        exact ConOk.closed (same0 _)
      · cases h
    · cases h
  · exact conS_ok _ _ _ _ h
theorem awake0 : ACalls Try.prog 9 [] ⟨[], []⟩ (fun r _ => weakEnd r (.ret (.bool true))) := by
  refine inlS conK_ok _ _ _ _ ?_
  refine vc_eq (T :=
      ∀ (x : Nat), True → x = x ∧ x = x ∧ ∃ (x_1 : Unit), ((((0 : Nat) = (0 : Nat) ∧ (∀ (i : Nat), i < (0 : Nat) → eqOf (List D) [] []) ∧ True) ∧ ((1 : Nat) = (1 : Nat) ∧ (∀ (i : Nat), i < (1 : Nat) → List.getD [[D.int
      IntKind.i64 (0 : Int), D.sl (4 : Nat) (1 : Nat) (fun (i : Nat) => List.getD [[D.int IntKind.i64 (25 : Int), D.int IntKind.i64 (0 : Int), D.int IntKind.i64 (0 : Int), D.int IntKind.i64 (0 : Int)]] i []) Mode.full]]
      i [] = List.getD [[D.int IntKind.i64 (0 : Int), D.sl (4 : Nat) (1 : Nat) (fun (i : Nat) => List.getD [[D.int IntKind.i64 (25 : Int), D.int IntKind.i64 (0 : Int), D.int IntKind.i64 (0 : Int), D.int IntKind.i64 (0 :
      Int)]] i []) Mode.full]] i []) ∧ True) ∧ ((0 : Nat) = (0 : Nat) ∧ (∀ (i : Nat), i < (0 : Nat) → eqOf (List D) [] []) ∧ True) ∧ ((0 : Nat) = (0 : Nat) ∧ (∀ (i : Nat), i < (0 : Nat) → eqOf (List D) [] []) ∧ True) ∧
      True) ∧ True) ∧ (True ∧ True) ∧ True ∧ ∀ (y : Unit), True → ∃ (x_2 : Unit), (((18 : Nat) = (18 : Nat) ∧ (∀ (i : Nat), i < (18 : Nat) → List.getD [[D.int IntKind.u8 (65 : Int)], [D.int IntKind.u8 (76 : Int)], [D.int
      IntKind.u8 (67 : Int)], [D.int IntKind.u8 (49 : Int)], [D.int IntKind.u8 (0 : Int)], [D.int IntKind.u8 (2 : Int)], [D.int IntKind.u8 (0 : Int)], [D.int IntKind.u8 (2 : Int)], [D.int IntKind.u8 (50 : Int)], [D.int
      IntKind.u8 (0 : Int)], [D.int IntKind.u8 (0 : Int)], [D.int IntKind.u8 (0 : Int)], [D.int IntKind.u8 (0 : Int)], [D.int IntKind.u8 (0 : Int)], [D.int IntKind.u8 (116 : Int)], [D.int IntKind.u8 (248 : Int)], [D.int
      IntKind.u8 (41 : Int)], [D.int IntKind.u8 (197 : Int)]] i [] = List.getD [[D.int IntKind.u8 (65 : Int)], [D.int IntKind.u8 (76 : Int)], [D.int IntKind.u8 (67 : Int)], [D.int IntKind.u8 (49 : Int)], [D.int
      IntKind.u8 (0 : Int)], [D.int IntKind.u8 (2 : Int)], [D.int IntKind.u8 (0 : Int)], [D.int IntKind.u8 (2 : Int)], [D.int IntKind.u8 (50 : Int)], [D.int IntKind.u8 (0 : Int)], [D.int IntKind.u8 (0 : Int)], [D.int
      IntKind.u8 (0 : Int)], [D.int IntKind.u8 (0 : Int)], [D.int IntKind.u8 (0 : Int)], [D.int IntKind.u8 (116 : Int)], [D.int IntKind.u8 (248 : Int)], [D.int IntKind.u8 (41 : Int)], [D.int IntKind.u8 (197 : Int)]] i
      []) ∧ True) ∧ True) ∧ (True ∧ True) ∧ True ∧ ∀ (y : Nat), True → ∀ (x_3 : Nat), x ≠ x_3 ∧ True → x_3 = x_3 ∧ ∃ (x_4 : Unit), (((0 : Nat) = (0 : Nat) ∧ (∀ (i : Nat), i < (0 : Nat) → eqOf (List D) [] []) ∧ True) ∧
      True) ∧ (True ∧ True) ∧ True ∧ ∀ (y_1 : Unit), True → ∀ (x_5 : Nat), x_3 ≠ x_5 ∧ x ≠ x_5 ∧ True → x_5 = x_5 ∧ True ∧ x = x ∧ x_3 = x_3 ∧ ∃ (x : Unit), ((((0 : Nat) = (0 : Nat) ∧ (∀ (i : Nat), i < (0 : Nat) → eqOf
      (List D) [] []) ∧ True) ∧ ((1 : Nat) = (1 : Nat) ∧ (∀ (i : Nat), i < (1 : Nat) → List.getD [[D.int IntKind.i64 (0 : Int), D.sl (4 : Nat) (1 : Nat) (fun (i : Nat) => List.getD [[D.int IntKind.i64 (25 : Int), D.int
      IntKind.i64 (0 : Int), D.int IntKind.i64 (0 : Int), D.int IntKind.i64 (0 : Int)]] i []) Mode.full]] i [] = List.getD [[D.int IntKind.i64 (0 : Int), D.sl (4 : Nat) (1 : Nat) (fun (i : Nat) => List.getD [[D.int
      IntKind.i64 (25 : Int), D.int IntKind.i64 (0 : Int), D.int IntKind.i64 (0 : Int), D.int IntKind.i64 (0 : Int)]] i []) Mode.full]] i []) ∧ True) ∧ ((0 : Nat) = (0 : Nat) ∧ (∀ (i : Nat), i < (0 : Nat) → eqOf (List D)
      [] []) ∧ True) ∧ ((0 : Nat) = (0 : Nat) ∧ (∀ (i : Nat), i < (0 : Nat) → eqOf (List D) [] []) ∧ True) ∧ True) ∧ (((0 : Nat) = (0 : Nat) ∧ (∀ (i : Nat), i < (0 : Nat) → eqOf (List D) [] []) ∧ True) ∧ ((1 : Nat) = (1
      : Nat) ∧ (∀ (i : Nat), i < (1 : Nat) → List.getD [[D.int IntKind.i64 (0 : Int), D.sl (4 : Nat) (1 : Nat) (fun (i : Nat) => List.getD [[D.int IntKind.i64 (25 : Int), D.int IntKind.i64 (0 : Int), D.int IntKind.i64 (0
      : Int), D.int IntKind.i64 (0 : Int)]] i []) (Mode.tok (0 : Nat) y)]] i [] = List.getD [[D.int IntKind.i64 (0 : Int), D.sl (4 : Nat) (1 : Nat) (fun (i : Nat) => List.getD [[D.int IntKind.i64 (25 : Int), D.int
      IntKind.i64 (0 : Int), D.int IntKind.i64 (0 : Int), D.int IntKind.i64 (0 : Int)]] i []) (Mode.tok (0 : Nat) y)]] i []) ∧ True) ∧ ((0 : Nat) = (0 : Nat) ∧ (∀ (i : Nat), i < (0 : Nat) → eqOf (List D) [] []) ∧ True) ∧
      ((0 : Nat) = (0 : Nat) ∧ (∀ (i : Nat), i < (0 : Nat) → eqOf (List D) [] []) ∧ True) ∧ True) ∧ True) ∧ (True ∧ True) ∧ True ∧ ∀ (y : Unit), True → True ∧ ∃ (x : Unit), (((9 : Nat) = (9 : Nat) ∧ (∀ (i : Nat), i < (9
      : Nat) → List.getD [[D.int IntKind.u8 (49 : Int)], [D.int IntKind.u8 (50 : Int)], [D.int IntKind.u8 (51 : Int)], [D.int IntKind.u8 (52 : Int)], [D.int IntKind.u8 (53 : Int)], [D.int IntKind.u8 (54 : Int)], [D.int
      IntKind.u8 (55 : Int)], [D.int IntKind.u8 (56 : Int)], [D.int IntKind.u8 (57 : Int)]] i [] = List.getD [[D.int IntKind.u8 (49 : Int)], [D.int IntKind.u8 (50 : Int)], [D.int IntKind.u8 (51 : Int)], [D.int IntKind.u8
      (52 : Int)], [D.int IntKind.u8 (53 : Int)], [D.int IntKind.u8 (54 : Int)], [D.int IntKind.u8 (55 : Int)], [D.int IntKind.u8 (56 : Int)], [D.int IntKind.u8 (57 : Int)]] i []) ∧ True) ∧ True) ∧ (True ∧ True) ∧ True ∧
      ∀ (y : Unit), True → True ∧ true = true) (by kernel_rfl) ?_
  simp only [true_and, and_true]
  repeat' (first | exact trivial | refine Exists.intro () ?_ | refine And.intro ?_ ?_ | exact rows_eq (by kernel_rfl) | intro _ | kernel_rfl | exact weakM_refl _ | exact Nat.le_of_ble_eq_true (by kernel_rfl))
  all_goals trace_state
end Go.Proofs.Ytoglbmhkfkghbaa
namespace Go.Proofs.Ytoglbmhkfkghbaa
open Go Go.Ab

/-! ### ImageSums -/
def con3 (k : Nat) (ds : List D) (S : St) : Option FnSpec :=
  match k with
  | 9 => some (sC [] (.bool true))
  | _ => conS k ds S
theorem con3_ok : ConOk Try.prog con3 := by
  intro k ds S A h
  unfold con3 at h
  split at h
  · injection h with h; subst h
    exact ConOk.closed awake0
  · exact conS_ok _ _ _ _ h
theorem law_sums (l : List UInt8) : ACalls Try.prog 3 [bsl l .any] ⟨[], []⟩ (fun r _ => r = .ret (.bool true)) := by
  refine inlS con3_ok _ _ _ _ ?_
  refine vc_eq (T :=
      ifB (decide ((3000 : Int) < (↑(List.length l) : Int))) (∃ (x : Unit), True ∧ (True ∧ True) ∧ True ∧ ∀ (y : Unit), True → True ∧ AEnd.ret (D.bool true) = AEnd.ret (D.bool true)) (ifB (decide ((↑(List.length l) :
      Int) ≤ (3000 : Int))) (((rowsB (List.length l) fun (i : Nat) => [D.int IntKind.u8 (↑(UInt8.toNat (List.getD l i (0 : UInt8))) : Int)]) = true ∧ List.length (bytesOf (List.length l) fun (i : Nat) => [D.int
      IntKind.u8 (↑(UInt8.toNat (List.getD l i (0 : UInt8))) : Int)]) ≤ (9223372036854775807 : Nat)) ∧ ∀ (y : Unit), True → ((rowsB (List.length l) fun (i : Nat) => [D.int IntKind.u8 (↑(UInt8.toNat (List.getD l i (0 :
      UInt8))) : Int)]) = true ∧ List.length (bytesOf (List.length l) fun (i : Nat) => [D.int IntKind.u8 (↑(UInt8.toNat (List.getD l i (0 : UInt8))) : Int)]) ≤ (9223372036854775807 : Nat)) ∧ ∀ (y : Unit), True → ifB
      ((↑(sumN (bytesOf (List.length l) fun (i : Nat) => [D.int IntKind.u8 (↑(UInt8.toNat (List.getD l i (0 : UInt8))) : Int)])) : Int) == (↑(sumN (bytesOf (List.length l) fun (i : Nat) => [D.int IntKind.u8
      (↑(UInt8.toNat (List.getD l i (0 : UInt8))) : Int)])) : Int)) (∃ (x : Unit), True ∧ (True ∧ True) ∧ True ∧ ∀ (y : Unit), True → True ∧ AEnd.ret (D.bool true) = AEnd.ret (D.bool true)) (True ∧ AEnd.ret (D.bool
      false) = AEnd.ret (D.bool true))) (True ∧ AEnd.ret (D.bool false) = AEnd.ret (D.bool true)))) (by kernel_rfl) ?_
  simp only [ifB_iff, bytesOf_bsl, rowsB_bsl, decide_eq_true_eq, decide_eq_false_iff_not, true_and, and_true, forall_const, exists_const, beq_self_eq_true, implies_true]
  refine fun h => ?_
  have h1 : l.length ≤ 3000 := by omega
  exact ⟨fun _ => ⟨by omega, by omega, fun hf => nomatch hf⟩, fun h2 => (h2 (by omega)).elim⟩
end Go.Proofs.Ytoglbmhkfkghbaa
