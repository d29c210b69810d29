/- Functions of the given program and what each of them computes: lemmas towards the statement, their conditions stated with each of them. -/
import Derived.Test.YtoglbmhkfkghbaaB4
namespace Go.Proofs.Ytoglbmhkfkghbaa
open Go Go.Ab
set_option maxRecDepth 100000
def _root_.Go.Ab.byX0 (L : List UInt8) (ok : Bool) (n : Nat) (S : St) (R : AEnd → St → Prop) : Prop :=
  (ok = true ∧ n ≤ 4294967296 ∧ ∀ c, bodyP L = some c → c.consts = []) ∧
    (∀ c, bodyP L = some c → R (.ret (.tup [.agg [.sl 1 0 (fun _ => []) .nil, gsl 2 FnD.row c.funs, gsl 4 KeD.row c.kers, gsl 2 LaD.row c.lanes], .int .i64 0])) S) ∧
    (bodyP L = none → R (.ret (.tup [.agg [.sl 1 0 (fun _ => []) .nil, .sl 1 0 (fun _ => []) .nil, .sl 1 0 (fun _ => []) .nil, .sl 1 0 (fun _ => []) .nil], .int .i64 25])) S)
def _root_.Go.Ab.byX1 (L : List UInt8) (ok : Bool) (n : Nat) (S : St) (R : AEnd → St → Prop) : Prop :=
  (ok = true ∧ n ≤ 4294967296 ∧ ∀ c, bodyP L = some c → c.consts ≠ []) ∧
    (∀ c, bodyP L = some c → ∀ b cap, R (.ret (.tup [.agg [.vs (nextTag S.objs) b c.consts.length cap 4, gsl 2 FnD.row c.funs, gsl 4 KeD.row c.kers, gsl 2 LaD.row c.lanes], .int .i64 0])) ((⟨[(nextTag S.objs, b, .vec 4 c.consts.length cap (fun i => (c.consts.getD i default).row1))], []⟩ : St).add S)) ∧
    (bodyP L = none → R (.ret (.tup [.agg [.sl 1 0 (fun _ => []) .nil, .sl 1 0 (fun _ => []) .nil, .sl 1 0 (fun _ => []) .nil, .sl 1 0 (fun _ => []) .nil], .int .i64 25])) S)
theorem byX0_X {L : List UInt8} {ok : Bool} {n : Nat} {S : St} {R : AEnd → St → Prop} (h : byX0 L ok n S R) : byX L ok n S R :=
  ⟨⟨h.1.1, h.1.2.1⟩, fun c hc _ => h.2.1 c hc, fun c hc he => (he (h.1.2.2 c hc)).elim, h.2.2⟩
theorem byX1_X {L : List UInt8} {ok : Bool} {n : Nat} {S : St} {R : AEnd → St → Prop} (h : byX1 L ok n S R) : byX L ok n S R :=
  ⟨⟨h.1.1, h.1.2.1⟩, fun c hc he => (h.1.2.2 c hc he).elim, fun c hc _ => h.2.1 c hc, h.2.2⟩
noncomputable def _root_.Go.Ab.inlT (v : Bool) (con : Con) (k : Nat) (ds : List D) (S : St) (R : AEnd → St → Prop) : Prop :=
  match Nat.beq k 25 with
  | true => match ds with
    | [.sl 1 n f _] => match v with
      | false => byX0 (bytesOf n f) (rowsB n f) n S R
      | true => byX1 (bytesOf n f) (rowsB n f) n S R
    | _ => False
  | false => inlD { E0 con 0 0 [] (fun _ => ([], [])) with auto := true } (frmGet frames) 9 k ds S R
theorem inlT_ok {v : Bool} {con : Con} (hc : ConOk Try.prog con) (k : Nat) (ds : List D) (S : St) (R : AEnd → St → Prop) (h : inlT v con k ds S R) : ACalls Try.prog k ds S R := by
  unfold inlT at h
  split at h
  · rename_i hk
    have hk := Nat.eq_of_beq_eq_true hk
    subst hk
    split at h
    · split at h
      · exact byX_ok (byX0_X h)
      · exact byX_ok (byX1_X h)
    · exact h.elim
  · exact inlD_ok (E := { E0 con 0 0 [] (fun _ => ([], [])) with auto := true }) tab_ok hc mix frames_ok eqs_ok 9 k ds S R h
def midB (b : List UInt8) : List UInt8 := (b.drop 4).take (b.length - 8)
def takeE (b : List UInt8) : Int := if ekB b ≠ 0 then ekB b else match bodyP (midB b) with
  | none => 25
  | some c => if rightC c ≠ 0 then 26 else 0
theorem takeE_ek {b : List UInt8} (h : ekB b ≠ 0) : takeE b = ekB b := by unfold takeE; rw [if_pos h]
theorem takeE_none {b : List UInt8} (h : ekB b = 0) (hn : bodyP (midB b) = none) : takeE b = 25 := by unfold takeE; rw [if_neg (by simpa using h), hn]
theorem takeE_some {b : List UInt8} {c : CodD} (h : ekB b = 0) (hn : bodyP (midB b) = some c) : takeE b = if rightC c ≠ 0 then 26 else 0 := by unfold takeE; rw [if_neg (by simpa using h), hn]
def _root_.Go.Ab.endT (b : List UInt8) (e : AEnd) (_ : St) : Prop :=
  match e with
  | .ret (.tup [.agg [dc, df, dk, dl], .int .i64 z]) => z = takeE b ∧ (z ≠ 0 → weakL [dc, df, dk, dl] [.sl 1 0 (fun _ => []) .nil, .sl 1 0 (fun _ => []) .nil, .sl 1 0 (fun _ => []) .nil, .sl 1 0 (fun _ => []) .nil]) ∧
      (z = 0 → ∃ c : CodD, bodyP (midB b) = some c ∧ rightC c = 0 ∧ weakD df (gsl 2 FnD.row c.funs) ∧ weakD dk (gsl 4 KeD.row c.kers) ∧ weakD dl (gsl 2 LaD.row c.lanes) ∧ (match dc with
        | .sl w n _ .nil => c.consts = [] ∧ w = 1 ∧ n = 0
        | dc => weakD dc (gsl 4 Arr.row1 c.consts)))
  | _ => False
noncomputable def Ett (v : Bool) (b : List UInt8) : Senv := { EC (conTt (fun c => bodyP (midB b) = some c)) 86 1 [2, 3, 4, 5, 6, 7, 8, 9, 10, 15, 20, 51, 63, 68, 71, 72, 73, 74] (fun id => match id with | 19 => ([0, 1, 2, 3, 4, 5, 6], [4, 6]) | _ => ([], [])) with
  inl := inlT v (conTt (fun c => bodyP (midB b) = some c))
  gz := fun r => match v with
    | false => []
    | true => match r with
      | 21 => [.cell 2 0]
      | _ => []
  ann := fun k env S => match k with
    | 1 => some { slots := [73], keep := [2, 6, 71, 72], α := Nat, st := fun i => ([.int .i64 i], S), inv := fun i => i ≤ natOfR (Ab.look env 72), mu := fun i => natOfR (Ab.look env 72) - i }
    | _ => none }
noncomputable section
def rdbq0 (p0 : List UInt8) : Int := takeE p0
def rdbq1 : Prop := SM N0 ∧ (∀ (i : Nat), i < N0 → eqOf (List D) [] []) ∧ True
def rdbq2 : Prop := rdbq1 ∧ rdbq1 ∧ rdbq1 ∧ rdbq1 ∧ True
def rdbq3 (p0 : List UInt8) (p1 : CodD) : Prop := bodyP (midB p0) = some p1
def rdbq4 (p0 : CodD) : List Arr := CodD.consts p0
def rdbq5 (p0 : List UInt8) : Prop := ∃ (c : CodD), rdbq3 p0 c ∧ rightC c = Z0 ∧ False ∧ False ∧ False ∧ eqOf (List Arr) (rdbq4 c) [] ∧ SM N1 ∧ SM N0
def rdbq6 (p0 : List UInt8) (p1 : Nat) : List D := [ZB (BI p0 (N0 + p1))]
def rdbq7 (p0 : Nat) (p1 : List UInt8) : Prop := SM p0 ∧ (SM p0 ∧ True) ∧ (25 : Int) = rdbq0 p1 ∧ ((25 : Int) ≠ Z0 → rdbq2) ∧ ((25 : Int) = Z0 → rdbq5 p1)
def rdbq8 (p0 : List UInt8) : Int := IntKind.wrap IntKind.i64 ((LI p0) - (4 : Int))
def rdbq9 (p0 : List UInt8) : Nat := Int.toNat (rdbq8 p0)
def rdbq10 (p0 : List UInt8) : List UInt8 := bytesOf (rdbq9 p0 - N0) fun (i : Nat) => rdbq6 p0 i
def rdbq11 (p0 : List UInt8) : Int := (NI (sumN (rdbq10 p0)))
def rdbq12 (p0 : List UInt8) (p1 : Nat) : List D := List.getD [[ZB (IntKind.wrap IntKind.u8 (Int.fdiv (rdbq11 p0) (16777216 : Int)))], [ZB (IntKind.wrap IntKind.u8 (Int.fdiv (rdbq11 p0) (65536 : Int)))], [ZB (IntKind.wrap IntKind.u8 (Int.fdiv (rdbq11 p0) (256 : Int)))], [ZB (IntKind.wrap IntKind.u8 (rdbq11 p0))]] p1 []
def rdbq13 (p0 : List UInt8) : Nat := TL p0 - rdbq9 p0
def rdbq14 (p0 : List UInt8) (p1 : Nat) : List D := [ZB (BI p0 (rdbq9 p0 + p1))]
def rdbq15 (p0 : List UInt8) : Nat := rdbq9 p0 - N4
def rdbq16 (p0 : List UInt8) : Option CodD := bodyP (bytesOf (rdbq15 p0) fun (i : Nat) => [ZB (BI p0 (N4 + i))])
def rdbq17 (p0 : List UInt8) (p1 : CodD) : Prop := rdbq16 p0 = some p1
def rdbq18 (p0 : CodD) : Nat := LN (rdbq4 p0)
def rdbq19 (p0 p1 : CodD) : Prop := rdbq18 p0 = rdbq18 p1
def rdbq20 (p0 : CodD) : Nat := LN (CodD.funs p0)
def rdbq21 (p0 : CodD) (p1 : Nat) : List D := FnD.row (GF p0 p1)
def rdbq22 (p0 p1 : CodD) : Prop := rdbq20 p0 = rdbq20 p1 ∧ (∀ (i : Nat), i < rdbq20 p0 → rdbq21 p0 i = rdbq21 p1 i) ∧ True
def rdbq23 (p0 : CodD) : Nat := LN (CodD.kers p0)
def rdbq24 (p0 : CodD) (p1 : Nat) : List D := KeD.row (GK p0 p1)
def rdbq25 (p0 p1 : CodD) : Prop := rdbq23 p0 = rdbq23 p1 ∧ (∀ (i : Nat), i < rdbq23 p0 → rdbq24 p0 i = rdbq24 p1 i) ∧ True
def rdbq26 (p0 : CodD) : Nat := LN (CodD.lanes p0)
def rdbq27 (p0 : CodD) (p1 : Nat) : List D := LaD.row (GL p0 p1)
def rdbq28 (p0 p1 : CodD) : Prop := rdbq26 p0 = rdbq26 p1 ∧ (∀ (i : Nat), i < rdbq26 p0 → rdbq27 p0 i = rdbq27 p1 i) ∧ True
def rdbq29 (p0 : Nat) (p1 : CodD) : Prop := p0 < rdbq18 p1
def rdbq30 : Arr := DA
def rdbq31 (p0 : CodD) (p1 : Nat) : Arr := List.getD (rdbq4 p0) p1 rdbq30
def rdbq32 (p0 : CodD) (p1 : Nat) : List Int := Arr.sh (rdbq31 p0 p1)
def rdbq33 (p0 : CodD) (p1 : Nat) : List Int := Arr.nu (rdbq31 p0 p1)
def rdbq34 (p0 : CodD) (p1 : Nat) : List Arr := Arr.it (rdbq31 p0 p1)
def rdbq35 (p0 : CodD) (p1 : Nat) : List D := [ZI (Arr.k (rdbq31 p0 p1)), SI (rdbq32 p0 p1), SI (rdbq33 p0 p1), D.sl N4 (LN (rdbq34 p0 p1)) (fun (i : Nat) => Arr.row (List.getD (rdbq34 p0 p1) i rdbq30)) Mode.any]
def rdbq36 (p0 : CodD) (p1 : Nat) (p2 : CodD) : Prop := rdbq35 p0 p1 = rdbq35 p2 p1
def rdbq37 (p0 : CodD) : Int := (NI (rdbq18 p0))
def rdbq38 (p0 : CodD) : D := ZI (rdbq37 p0)
def rdbq39 (p0 : CodD) : Nat := natOfR (rdbq38 p0)
def rdbq40 (p0 : Nat) (p1 : CodD) : Prop := p0 ≤ rdbq39 p1
def rdbq41 (p0 : CodD) : Prop := SM (rdbq18 p0)
def rdbq42 (p0 p1 : Nat) (p2 : CodD) (p3 p4 : Nat) : Prop := SM p0 ∧ ((SM p1 ∧ rdbq41 p2 ∧ SM p3) ∧ (SM (rdbq20 p2) ∧ (∀ (i : Nat), i < rdbq20 p2 → SM (rdbq21 p2 i)) ∧ True) ∧ (SM (rdbq23 p2) ∧ (∀ (i : Nat), i < rdbq23 p2 → SM (rdbq24 p2 i)) ∧ True) ∧ (SM (rdbq26 p2) ∧ (∀ (i : Nat), i < rdbq26 p2 → SM (rdbq27 p2 i)) ∧ True) ∧ True) ∧ SM p4 ∧ rdbq2 ∧ True
def rdbq43 (p0 : CodD) (p1 : Nat) : Arr := List.getD (rdbq4 p0) (Int.toNat (↑p1 : Int)) rdbq30
def rdbq44 (p0 : CodD) (p1 : Nat) : List Int := Arr.sh (rdbq43 p0 p1)
def rdbq45 (p0 : CodD) (p1 : Nat) : Nat := LN (rdbq44 p0 p1)
def rdbq46 (p0 : CodD) (p1 : Nat) : List Int := Arr.nu (rdbq43 p0 p1)
def rdbq47 (p0 : CodD) (p1 : Nat) : Nat := LN (rdbq46 p0 p1)
def rdbq48 (p0 : CodD) (p1 : Nat) : List Arr := Arr.it (rdbq43 p0 p1)
def rdbq49 (p0 : CodD) (p1 : Nat) : Nat := LN (rdbq48 p0 p1)
def rdbq50 (p0 : Arr) (p1 : Nat) : List D := Arr.row (List.getD (Arr.it p0) p1 rdbq30)
def rdbq51 (p0 : Nat) (p1 : CodD) (p2 : Nat) : Prop := SM (D.vs N1 p0 (rdbq18 p1) p2 N4)
def rdbq52 (p0 : CodD) (p1 : Nat) : Nat := rdbq39 p0 - p1
end
theorem tt1 (b : List UInt8) (hb : b.length ≤ 1048576) (hmk : ∀ c, bodyP (midB b) = some c → okC c) (hv : ∀ c, bodyP (midB b) = some c → c.consts ≠ []) : ACalls Try.prog 15 [bsl b .any] ⟨[], []⟩ (endT b) := by
  refine call_of (E := Ett true b) (erOk (conTt_ok hmk) (inlT_ok (conTt_ok hmk)) rfl) Try.func15 rfl (by kernel_rfl) rfl (by simp [Ett, EC, E0]) ?_
  refine vc_eq (T :=
    ∀ (x : Nat), True → ifB (decide ((1048576 : Int) < (LI b))) (SM x ∧ (SM x ∧ True) ∧ (2 : Int) = rdbq0 b ∧ ((2 : Int) ≠ Z0 → rdbq2) ∧ ((2 : Int) = Z0 → rdbq5 b)) (ifB (decide ((LI b) < (8 : Int))) (SM x ∧ (SM x ∧ True) ∧ (7 : Int) = rdbq0 b ∧ ((7 : Int) ≠ Z0 → rdbq2) ∧ ((7 : Int) = Z0 → rdbq5 b)) (side (Z0 ≤ Z0 ∧ Z0 ≤ (4 : Int) ∧ (4 : Int) ≤ (LI b)) (True ∧ chk (true && rowsB N4 fun (i : Nat) => rdbq6 b i) (ifB ((bytesOf N4 fun (i : Nat) => rdbq6 b i) != [(65 : UInt8), (76 : UInt8), (67 : UInt8), (49 : UInt8)]) (rdbq7 x b) (side (Z0 ≤ Z0 ∧ Z0 ≤ rdbq8 b ∧ rdbq8 b ≤ (LI b)) (((rowsB (rdbq9 b - N0) fun (i : Nat) => rdbq6 b i) = true ∧ LN (rdbq10 b) ≤ (9223372036854775807 : Nat)) ∧ ∀ (y : Unit), True → side (Z0 ≤ rdbq8 b ∧ rdbq8 b ≤ (LI b) ∧ (LI b) ≤ (LI b)) (((rowsB N4 fun (i : Nat) => rdbq12 b i) = true ∧ (rowsB (rdbq13 b) fun (i : Nat) => rdbq14 b i) = true ∧ N4 ≤ (9223372036854775807 : Nat) ∧ rdbq13 b ≤ (9223372036854775807 : Nat)) ∧ ∀ (y : Unit), True → ifB (! (bytesOf N4 fun (i : Nat) => rdbq12 b i) == bytesOf (rdbq13 b) fun (i : Nat) => rdbq14 b i) (SM x ∧ (SM x ∧ True) ∧ (27 : Int) = rdbq0 b ∧ ((27 : Int) ≠ Z0 → rdbq2) ∧ ((27 : Int) = Z0 → rdbq5 b)) (side (Z0 ≤ (4 : Int) ∧ (4 : Int) ≤ rdbq8 b ∧ rdbq8 b ≤ (LI b)) (((rowsB (rdbq15 b) fun (i : Nat) => [ZB (BI b (N4 + i))]) = true ∧ rdbq15 b ≤ (4294967296 : Nat) ∧ ∀ (c : CodD), rdbq17 b c → rdbq4 c ≠ []) ∧ (∀ (c : CodD), rdbq17 b c → ∀ (b_1 cap x_1 : Nat), b_1 ≠ x_1 ∧ x ≠ x_1 ∧ True → SM x_1 ∧ SM x_1 ∧ ∃ (x_2 : CodD × Nat × Nat), (((b_1 = x_2.2.1 ∧ rdbq19 c x_2.1 ∧ cap = x_2.2.2) ∧ rdbq22 c x_2.1 ∧ rdbq25 c x_2.1 ∧ rdbq28 c x_2.1 ∧ True) ∧ True) ∧ ((b_1 = x_2.2.1 ∧ (rdbq19 c x_2.1 ∧ cap = x_2.2.2 ∧ ∀ (i : Nat), rdbq29 i c → rdbq36 c i x_2.1) ∧ True) ∧ True) ∧ rdbq3 b x_2.1 ∧ ∀ (y : Unit), True → ifB (rightC x_2.1 != Z0) (SM x ∧ (SM x ∧ True) ∧ (26 : Int) = rdbq0 b ∧ ((26 : Int) ≠ Z0 → rdbq2) ∧ ((26 : Int) = Z0 → rdbq5 b)) (SM x_1 ∧ (∃ (x_3 : Nat), rdbq40 x_3 c ∧ (Z0 = (↑x_3 : Int) ∧ True) ∧ (SM x_2.2.1 ∧ (rdbq41 x_2.1 ∧ SM x_2.2.2 ∧ ∀ (i : Nat), rdbq29 i x_2.1 → SM (rdbq35 x_2.1 i)) ∧ rdbq42 x_1 b_1 c cap x) ∧ True) ∧ ∀ (x_3 : Nat), rdbq40 x_3 c → ifB (decide ((↑x_3 : Int) < rdbq37 c)) (side (Z0 ≤ (↑x_3 : Int) ∧ (↑x_3 : Int) < rdbq37 c) (x_2.2.1 = b_1 ∧ side (Int.toNat (↑x_3 : Int) < rdbq18 x_2.1) (∀ (x_4 : Nat), x_2.2.1 ≠ x_4 ∧ x_1 ≠ x_4 ∧ x ≠ x_4 ∧ True → SM x_4 ∧ SM x_1 ∧ SM x_4 ∧ ∃ (x_5 : Arr), ((Arr.k (rdbq43 x_2.1 x_3) = Arr.k x_5 ∧ (rdbq45 x_2.1 x_3 = LN (Arr.sh x_5) ∧ (∀ (i : Nat), i < rdbq45 x_2.1 x_3 → [ZI (GI (rdbq44 x_2.1 x_3) i)] = [ZI (GI (Arr.sh x_5) i)]) ∧ True) ∧ (rdbq47 x_2.1 x_3 = LN (Arr.nu x_5) ∧ (∀ (i : Nat), i < rdbq47 x_2.1 x_3 → [ZI (GI (rdbq46 x_2.1 x_3) i)] = [ZI (GI (Arr.nu x_5) i)]) ∧ True) ∧ (rdbq49 x_2.1 x_3 = LN (Arr.it x_5) ∧ (∀ (i : Nat), i < rdbq49 x_2.1 x_3 → Arr.row (List.getD (rdbq48 x_2.1 x_3) i rdbq30) = rdbq50 x_5 i) ∧ True) ∧ True) ∧ True) ∧ (True ∧ True) ∧ Prod.fst (chkA x_5) = Z0 ∧ ∀ (y : Unit), True → (SM x_1 ∧ rdbq51 b_1 c cap) ∧ side (Z0 ≤ (↑x_3 : Int) ∧ (↑x_3 : Int) < rdbq37 c) (x_2.2.1 = b_1 ∧ side (Int.toNat (↑x_3 : Int) < rdbq18 x_2.1) ((SM (D.ref N0 x N0) ∧ SM (D.ref (max (N1 + N1) N1) x_1 N0) ∧ rdbq51 b_1 c cap ∧ SM (rdbq38 c) ∧ True) ∧ ∃ (y : Nat), rdbq40 y c ∧ rdbq52 c y < rdbq52 c x_3 ∧ (IntKind.wrap IntKind.i64 ((↑x_3 : Int) + Z1) = (↑y : Int) ∧ True) ∧ (SM x_2.2.1 ∧ (rdbq41 x_2.1 ∧ SM x_2.2.2 ∧ ∀ (i : Nat), rdbq29 i x_2.1 → updF (fun (i : Nat) => rdbq35 x_2.1 i) (Int.toNat (↑x_3 : Int)) [ZI (Arr.k x_5), SI (Arr.sh x_5), SI (Arr.nu x_5), D.sl N4 (LN (Arr.it x_5)) (fun (i : Nat) => rdbq50 x_5 i) Mode.any] i = rdbq35 x_2.1 i) ∧ rdbq42 x_1 b_1 c cap x) ∧ True))))) (x_2.2.1 = b_1 ∧ x_2.2.2 = cap ∧ side (rdbq18 c ≤ rdbq18 x_2.1) ((∀ (i : Nat), rdbq29 i c → (List.all (rdbq35 x_2.1 i) fun (x : D) => match x with | D.unk => false | D.agg cs => false | D.tup ds => false | x => true) = true) ∧ ∀ (t : Nat), SM x_1 ∧ SM x ∧ (SM x ∧ True) ∧ Z0 = rdbq0 b ∧ (Z0 ≠ Z0 → False ∧ False ∧ False ∧ False ∧ True) ∧ (SM Z0 → ∃ (c_1 : CodD), rdbq3 b c_1 ∧ rightC c_1 = Z0 ∧ rdbq22 c c_1 ∧ rdbq25 c c_1 ∧ rdbq28 c c_1 ∧ rdbq19 c c_1 ∧ (∀ (i : Nat), rdbq29 i c → rdbq36 x_2.1 i c_1) ∧ True))))) ∧ (rdbq16 b = none → ∀ (x_1 : Nat), x ≠ x_1 ∧ True → SM x_1 ∧ rdbq7 x b))))))))))) (by kernel_rfl) ?_
  delta BI DA DF DK DL GF GI GK GL LI LN N0 N1 N4 NI SI SM TL U0 Z0 Z1 ZB ZI rdbq0 rdbq1 rdbq10 rdbq11 rdbq12 rdbq13 rdbq14 rdbq15 rdbq16 rdbq17 rdbq18 rdbq19 rdbq2 rdbq20 rdbq21 rdbq22 rdbq23 rdbq24 rdbq25 rdbq26 rdbq27 rdbq28 rdbq29 rdbq3 rdbq30 rdbq31 rdbq32 rdbq33 rdbq34 rdbq35 rdbq36 rdbq37 rdbq38 rdbq39 rdbq4 rdbq40 rdbq41 rdbq42 rdbq43 rdbq44 rdbq45 rdbq46 rdbq47 rdbq48 rdbq49 rdbq5 rdbq50 rdbq51 rdbq52 rdbq6 rdbq7 rdbq8 rdbq9
  have da : (default : Arr) = Arr.mk 0 [] [] [] := rfl
  have dF : (default : FnD) = ⟨0, []⟩ := rfl
  have dK : (default : KeD) = ⟨0, [], 0, 0⟩ := rfl
  have dL : (default : LaD) = ⟨0, []⟩ := rfl
  simp only [← da, ← dF, ← dK, ← dL, eq_self, ne_eq, implies_true, Int.toNat_natCast, ifB_iff, side_iff, decide_eq_true_eq, decide_eq_false_iff_not, true_and, and_true, beq_iff_eq, Bool.not_eq_true', Bool.not_eq_false', beq_eq_false_iff_ne, forall_const, natOfR]
  have z : ∀ n : Int, n ≠ 0 → ∀ {p : Prop}, n = 0 → p := fun n h p e => (h e).elim
  intro x
  refine ⟨fun h1 => ⟨?_, z _ (by decide)⟩, fun h1 => ⟨fun h2 => ⟨?_, z _ (by decide)⟩, fun h2 => ?_⟩⟩
  · rw [takeE_ek (by unfold ekB; rw [if_pos (by omega)]; decide)]; unfold ekB; rw [if_pos (by omega)]
  · rw [takeE_ek (by unfold ekB; rw [if_neg (by omega), if_pos (by omega)]; decide)]; unfold ekB; rw [if_neg (by omega), if_pos (by omega)]
  have hw : (IntKind.i64.wrap ((b.length : Int) - 4)).toNat = b.length - 4 := by rw [wrap_i64' (by omega) (by omega)]; omega
  have e1 := bytesOf_part b 0 4 (by omega)
  have e2 := rowsB_part b 0 4 (by omega)
  have e3 := bytesOf_part b 0 (b.length - 4) (by omega)
  have e4 := rowsB_part b 0 (b.length - 4) (by omega)
  have e5 := bytesOf_part b (b.length - 4) (b.length - (b.length - 4)) (by omega)
  have e6 := rowsB_part b (b.length - 4) (b.length - (b.length - 4)) (by omega)
  have e7 := bytesOf_part b 4 (b.length - 4 - 4) (by omega)
  have e8 := rowsB_part b 4 (b.length - 4 - 4) (by omega)
  have em : (b.drop 4).take (b.length - 4 - 4) = midB b := by unfold midB; congr 1
  rw [em] at e7
  rw [List.take_of_length_le (by rw [List.length_drop]; exact Nat.le_refl _)] at e5
  simp only [List.drop_zero] at e1 e3
  simp only [hw, Nat.sub_zero, e1, e2, e3, e4, e5, e6, e7, e8, bytesOf_sum4, rowsB_sum4]
  have hw2 : IntKind.i64.wrap ((b.length : Int) - 4) = (b.length : Int) - 4 := wrap_i64' (by omega) (by omega)
  simp only [hw2]
  refine ⟨by omega, fun hm => ⟨?_, z _ (by decide)⟩, fun hmg => ⟨by omega, ⟨trivial, by rw [List.length_take]; omega⟩, by omega, ⟨trivial, trivial, by omega, by omega⟩, fun hs => ⟨?_, z _ (by decide)⟩, fun hs => ?_⟩⟩
  · have hm' : ¬ b.take 4 = [65, 76, 67, 49] := by simpa using hm
    have e : ekB b = 25 := by unfold ekB; rw [if_neg (by omega), if_neg (by omega), if_pos hm']
    rw [takeE_ek (by rw [e]; decide), e]
  · have hm' : b.take 4 = [65, 76, 67, 49] := by simpa using hmg
    have e : ekB b = 27 := by unfold ekB; rw [if_neg (by omega), if_neg (by omega), if_neg (by simpa using hm'), if_pos hs]
    rw [takeE_ek (by rw [e]; decide), e]
  have hm' : b.take 4 = [65, 76, 67, 49] := by simpa using hmg
  have ek0 : ekB b = 0 := by unfold ekB; rw [if_neg (by omega), if_neg (by omega), if_neg (by simpa using hm'), if_neg (by simpa using hs)]
  refine ⟨by omega, ⟨trivial, by omega, hv⟩, fun c hc b1 cap x1 _ => have hcl : c.consts.length ≤ 9223372036854775807 := (by have := (hmk c hc).1.2.2.2.2.1; simpa [maxLen] using this); ⟨(c, b1, cap), ⟨⟨rfl, rfl, rfl⟩, ⟨rfl, fun _ _ => rfl⟩, ⟨rfl, fun _ _ => rfl⟩, rfl, fun _ _ => rfl⟩, ⟨rfl, rfl, rfl, fun _ _ => rfl⟩, hc, fun hr => ⟨?_, z _ (by decide)⟩, fun hr => ⟨⟨0, Nat.zero_le _, rfl⟩, fun i hi => ⟨fun hlt => ⟨⟨by omega, hlt⟩, rfl, by simp only; omega, fun x4 _ => ⟨c.consts.getD i default, ⟨rfl, ⟨rfl, fun _ _ => rfl⟩, ⟨rfl, fun _ _ => rfl⟩, rfl, fun _ _ => rfl⟩, ?_, ⟨by omega, hlt⟩, rfl, by simp only; omega, i + 1, by omega, by omega, wrap_i64' (by omega) (by omega), ?_⟩⟩, fun hge => ⟨rfl, rfl, Nat.le_refl _, fun _ _ => rfl, ?_, fun h => (h trivial).elim, c, hc, ?_, ⟨rfl, fun _ _ => rfl⟩, ⟨rfl, fun _ _ => rfl⟩, ⟨rfl, fun _ _ => rfl⟩, rfl, fun _ _ => rfl⟩⟩⟩⟩, fun hn x1 _ => ⟨(takeE_none ek0 hn).symm, z _ (by decide)⟩⟩
  · have hr' : ¬ rightC c = 0 := by simpa using hr
    rw [takeE_some ek0 hc, if_pos hr']
  · have hr' : rightC c = 0 := by simpa using hr
    exact right_consts hr' _ (mem_getD (by omega))
  · intro j hj
    by_cases hji : j = i
    · subst hji; simp only [updF, if_pos]
    · simp only [updF, if_neg hji]
  · have hr' : rightC c = 0 := by simpa using hr
    rw [takeE_some ek0 hc, if_neg (by simpa using hr')]
  · simpa using hr
noncomputable section
def rdbq53 (p0 : List UInt8) : Int := takeE p0
def rdbq54 : Prop := SM N0 ∧ (∀ (i : Nat), i < N0 → eqOf (List D) [] []) ∧ True
def rdbq55 : Prop := rdbq54 ∧ rdbq54 ∧ rdbq54 ∧ rdbq54 ∧ True
def rdbq56 (p0 : List UInt8) (p1 : CodD) : Prop := bodyP (midB p0) = some p1
def rdbq57 (p0 : CodD) : Prop := eqOf (List Arr) (CodD.consts p0) []
def rdbq58 (p0 : CodD) : Prop := rdbq57 p0 ∧ SM N1 ∧ SM N0
def rdbq59 (p0 : List UInt8) : Prop := ∃ (c : CodD), rdbq56 p0 c ∧ rightC c = Z0 ∧ False ∧ False ∧ False ∧ rdbq58 c
def rdbq60 (p0 : List UInt8) (p1 : Nat) : List D := [ZB (BI p0 (N0 + p1))]
def rdbq61 (p0 : Nat) (p1 : List UInt8) : Prop := SM p0 ∧ (SM p0 ∧ True) ∧ (25 : Int) = rdbq53 p1 ∧ ((25 : Int) ≠ Z0 → rdbq55) ∧ ((25 : Int) = Z0 → rdbq59 p1)
def rdbq62 (p0 : List UInt8) : Int := IntKind.wrap IntKind.i64 ((LI p0) - (4 : Int))
def rdbq63 (p0 : List UInt8) : Nat := Int.toNat (rdbq62 p0)
def rdbq64 (p0 : List UInt8) : List UInt8 := bytesOf (rdbq63 p0 - N0) fun (i : Nat) => rdbq60 p0 i
def rdbq65 (p0 : List UInt8) : Int := (NI (sumN (rdbq64 p0)))
def rdbq66 (p0 : List UInt8) (p1 : Nat) : List D := List.getD [[ZB (IntKind.wrap IntKind.u8 (Int.fdiv (rdbq65 p0) (16777216 : Int)))], [ZB (IntKind.wrap IntKind.u8 (Int.fdiv (rdbq65 p0) (65536 : Int)))], [ZB (IntKind.wrap IntKind.u8 (Int.fdiv (rdbq65 p0) (256 : Int)))], [ZB (IntKind.wrap IntKind.u8 (rdbq65 p0))]] p1 []
def rdbq67 (p0 : List UInt8) : Nat := TL p0 - rdbq63 p0
def rdbq68 (p0 : List UInt8) (p1 : Nat) : List D := [ZB (BI p0 (rdbq63 p0 + p1))]
def rdbq69 (p0 : List UInt8) : Nat := rdbq63 p0 - N4
def rdbq70 (p0 : List UInt8) : Option CodD := bodyP (bytesOf (rdbq69 p0) fun (i : Nat) => [ZB (BI p0 (N4 + i))])
def rdbq71 (p0 : List UInt8) (p1 : CodD) : Prop := rdbq70 p0 = some p1
def rdbq72 (p0 : CodD) : Nat := LN (CodD.funs p0)
def rdbq73 (p0 : CodD) (p1 : Nat) : List D := FnD.row (GF p0 p1)
def rdbq74 (p0 p1 : CodD) : Prop := rdbq72 p0 = rdbq72 p1 ∧ (∀ (i : Nat), i < rdbq72 p0 → rdbq73 p0 i = rdbq73 p1 i) ∧ True
def rdbq75 (p0 : CodD) : Nat := LN (CodD.kers p0)
def rdbq76 (p0 : CodD) (p1 : Nat) : List D := KeD.row (GK p0 p1)
def rdbq77 (p0 p1 : CodD) : Prop := rdbq75 p0 = rdbq75 p1 ∧ (∀ (i : Nat), i < rdbq75 p0 → rdbq76 p0 i = rdbq76 p1 i) ∧ True
def rdbq78 (p0 : CodD) : Nat := LN (CodD.lanes p0)
def rdbq79 (p0 : CodD) (p1 : Nat) : List D := LaD.row (GL p0 p1)
def rdbq80 (p0 p1 : CodD) : Prop := rdbq78 p0 = rdbq78 p1 ∧ (∀ (i : Nat), i < rdbq78 p0 → rdbq79 p0 i = rdbq79 p1 i) ∧ True
end
theorem tt0 (b : List UInt8) (hb : b.length ≤ 1048576) (hmk : ∀ c, bodyP (midB b) = some c → okC c) (hv : ∀ c, bodyP (midB b) = some c → c.consts = []) : ACalls Try.prog 15 [bsl b .any] ⟨[], []⟩ (endT b) := by
  refine call_of (E := Ett false b) (erOk (conTt_ok hmk) (inlT_ok (conTt_ok hmk)) rfl) Try.func15 rfl (by kernel_rfl) rfl (by simp [Ett, EC, E0]) ?_
  refine vc_eq (T :=
    ∀ (x : Nat), True → ifB (decide ((1048576 : Int) < (LI b))) (SM x ∧ (SM x ∧ True) ∧ (2 : Int) = rdbq53 b ∧ ((2 : Int) ≠ Z0 → rdbq55) ∧ ((2 : Int) = Z0 → rdbq59 b)) (ifB (decide ((LI b) < (8 : Int))) (SM x ∧ (SM x ∧ True) ∧ (7 : Int) = rdbq53 b ∧ ((7 : Int) ≠ Z0 → rdbq55) ∧ ((7 : Int) = Z0 → rdbq59 b)) (side (Z0 ≤ Z0 ∧ Z0 ≤ (4 : Int) ∧ (4 : Int) ≤ (LI b)) (True ∧ chk (true && rowsB N4 fun (i : Nat) => rdbq60 b i) (ifB ((bytesOf N4 fun (i : Nat) => rdbq60 b i) != [(65 : UInt8), (76 : UInt8), (67 : UInt8), (49 : UInt8)]) (rdbq61 x b) (side (Z0 ≤ Z0 ∧ Z0 ≤ rdbq62 b ∧ rdbq62 b ≤ (LI b)) (((rowsB (rdbq63 b - N0) fun (i : Nat) => rdbq60 b i) = true ∧ LN (rdbq64 b) ≤ (9223372036854775807 : Nat)) ∧ ∀ (y : Unit), True → side (Z0 ≤ rdbq62 b ∧ rdbq62 b ≤ (LI b) ∧ (LI b) ≤ (LI b)) (((rowsB N4 fun (i : Nat) => rdbq66 b i) = true ∧ (rowsB (rdbq67 b) fun (i : Nat) => rdbq68 b i) = true ∧ N4 ≤ (9223372036854775807 : Nat) ∧ rdbq67 b ≤ (9223372036854775807 : Nat)) ∧ ∀ (y : Unit), True → ifB (! (bytesOf N4 fun (i : Nat) => rdbq66 b i) == bytesOf (rdbq67 b) fun (i : Nat) => rdbq68 b i) (SM x ∧ (SM x ∧ True) ∧ (27 : Int) = rdbq53 b ∧ ((27 : Int) ≠ Z0 → rdbq55) ∧ ((27 : Int) = Z0 → rdbq59 b)) (side (Z0 ≤ (4 : Int) ∧ (4 : Int) ≤ rdbq62 b ∧ rdbq62 b ≤ (LI b)) (((rowsB (rdbq69 b) fun (i : Nat) => [ZB (BI b (N4 + i))]) = true ∧ rdbq69 b ≤ (4294967296 : Nat) ∧ ∀ (c : CodD), rdbq71 b c → rdbq57 c) ∧ (∀ (c : CodD), rdbq71 b c → ∀ (x_1 : Nat), x ≠ x_1 ∧ True → SM x_1 ∧ SM x_1 ∧ ∃ (x_2 : CodD), ((rdbq54 ∧ rdbq74 c x_2 ∧ rdbq77 c x_2 ∧ rdbq80 c x_2 ∧ True) ∧ True) ∧ (True ∧ True) ∧ (rdbq56 b x_2 ∧ rdbq57 x_2) ∧ ∀ (y : Unit), True → ifB (rightC x_2 != Z0) (SM x ∧ (SM x ∧ True) ∧ (26 : Int) = rdbq53 b ∧ ((26 : Int) ≠ Z0 → rdbq55) ∧ ((26 : Int) = Z0 → rdbq59 b)) (SM x_1 ∧ (∃ (x_3 : Nat), x_3 ≤ natOfR (ZI Z0) ∧ (Z0 = (↑x_3 : Int) ∧ True) ∧ (SM x_1 ∧ (rdbq54 ∧ (SM (rdbq72 c) ∧ (∀ (i : Nat), i < rdbq72 c → SM (rdbq73 c i)) ∧ True) ∧ (SM (rdbq75 c) ∧ (∀ (i : Nat), i < rdbq75 c → SM (rdbq76 c i)) ∧ True) ∧ (SM (rdbq78 c) ∧ (∀ (i : Nat), i < rdbq78 c → SM (rdbq79 c i)) ∧ True) ∧ True) ∧ SM x ∧ rdbq55 ∧ True) ∧ True) ∧ ∀ (x_3 : Nat), x_3 ≤ natOfR (ZI Z0) → SM x_1 ∧ SM x ∧ (SM x ∧ True) ∧ Z0 = rdbq53 b ∧ (Z0 ≠ Z0 → rdbq54 ∧ False ∧ False ∧ False ∧ True) ∧ (SM Z0 → ∃ (c_1 : CodD), rdbq56 b c_1 ∧ rightC c_1 = Z0 ∧ rdbq74 c c_1 ∧ rdbq77 c c_1 ∧ rdbq80 c c_1 ∧ rdbq58 c_1))) ∧ (rdbq70 b = none → ∀ (x_1 : Nat), x ≠ x_1 ∧ True → SM x_1 ∧ rdbq61 x b))))))))))) (by kernel_rfl) ?_
  delta BI DF DK DL GF GK GL LI LN N0 N1 N4 NI SM TL U0 Z0 ZB ZI rdbq53 rdbq54 rdbq55 rdbq56 rdbq57 rdbq58 rdbq59 rdbq60 rdbq61 rdbq62 rdbq63 rdbq64 rdbq65 rdbq66 rdbq67 rdbq68 rdbq69 rdbq70 rdbq71 rdbq72 rdbq73 rdbq74 rdbq75 rdbq76 rdbq77 rdbq78 rdbq79 rdbq80
  have da : (default : Arr) = Arr.mk 0 [] [] [] := rfl
  have dF : (default : FnD) = ⟨0, []⟩ := rfl
  have dK : (default : KeD) = ⟨0, [], 0, 0⟩ := rfl
  have dL : (default : LaD) = ⟨0, []⟩ := rfl
  simp only [← dF, ← dK, ← dL, eq_self, ne_eq, implies_true, Int.toNat_natCast, ifB_iff, side_iff, decide_eq_true_eq, decide_eq_false_iff_not, true_and, and_true, beq_iff_eq, Bool.not_eq_true', Bool.not_eq_false', beq_eq_false_iff_ne, forall_const, natOfR]
  have z : ∀ n : Int, n ≠ 0 → ∀ {p : Prop}, n = 0 → p := fun n h p e => (h e).elim
  intro x
  refine ⟨fun h1 => ⟨?_, z _ (by decide)⟩, fun h1 => ⟨fun h2 => ⟨?_, z _ (by decide)⟩, fun h2 => ?_⟩⟩
  · rw [takeE_ek (by unfold ekB; rw [if_pos (by omega)]; decide)]; unfold ekB; rw [if_pos (by omega)]
  · rw [takeE_ek (by unfold ekB; rw [if_neg (by omega), if_pos (by omega)]; decide)]; unfold ekB; rw [if_neg (by omega), if_pos (by omega)]
  have hw : (IntKind.i64.wrap ((b.length : Int) - 4)).toNat = b.length - 4 := by rw [wrap_i64' (by omega) (by omega)]; omega
  have e1 := bytesOf_part b 0 4 (by omega)
  have e2 := rowsB_part b 0 4 (by omega)
  have e3 := bytesOf_part b 0 (b.length - 4) (by omega)
  have e4 := rowsB_part b 0 (b.length - 4) (by omega)
  have e5 := bytesOf_part b (b.length - 4) (b.length - (b.length - 4)) (by omega)
  have e6 := rowsB_part b (b.length - 4) (b.length - (b.length - 4)) (by omega)
  have e7 := bytesOf_part b 4 (b.length - 4 - 4) (by omega)
  have e8 := rowsB_part b 4 (b.length - 4 - 4) (by omega)
  have em : (b.drop 4).take (b.length - 4 - 4) = midB b := by unfold midB; congr 1
  rw [em] at e7
  rw [List.take_of_length_le (by rw [List.length_drop]; exact Nat.le_refl _)] at e5
  simp only [List.drop_zero] at e1 e3
  simp only [hw, Nat.sub_zero, e1, e2, e3, e4, e5, e6, e7, e8, bytesOf_sum4, rowsB_sum4]
  have hw2 : IntKind.i64.wrap ((b.length : Int) - 4) = (b.length : Int) - 4 := wrap_i64' (by omega) (by omega)
  simp only [hw2]
  refine ⟨by omega, fun hm => ⟨?_, z _ (by decide)⟩, fun hmg => ⟨by omega, ⟨trivial, by rw [List.length_take]; omega⟩, by omega, ⟨trivial, trivial, by omega, by omega⟩, fun hs => ⟨?_, z _ (by decide)⟩, fun hs => ?_⟩⟩
  · have hm' : ¬ b.take 4 = [65, 76, 67, 49] := by simpa using hm
    have e : ekB b = 25 := by unfold ekB; rw [if_neg (by omega), if_neg (by omega), if_pos hm']
    rw [takeE_ek (by rw [e]; decide), e]
  · have hm' : b.take 4 = [65, 76, 67, 49] := by simpa using hmg
    have e : ekB b = 27 := by unfold ekB; rw [if_neg (by omega), if_neg (by omega), if_neg (by simpa using hm'), if_pos hs]
    rw [takeE_ek (by rw [e]; decide), e]
  have hm' : b.take 4 = [65, 76, 67, 49] := by simpa using hmg
  have ek0 : ekB b = 0 := by unfold ekB; rw [if_neg (by omega), if_neg (by omega), if_neg (by simpa using hm'), if_neg (by simpa using hs)]
  refine ⟨by omega, ⟨trivial, by omega, hv⟩, fun c hc x1 _ => ⟨c, ⟨⟨rfl, fun _ _ => rfl⟩, ⟨rfl, fun _ _ => rfl⟩, rfl, fun _ _ => rfl⟩, ⟨hc, hv c hc⟩, fun hr => ⟨?_, z _ (by decide)⟩, fun hr => ⟨⟨0, Nat.zero_le _, rfl⟩, fun i hi => ⟨?_, fun h => (h trivial).elim, c, hc, ?_, ⟨rfl, fun _ _ => rfl⟩, ⟨rfl, fun _ _ => rfl⟩, ⟨rfl, fun _ _ => rfl⟩, hv c hc⟩⟩⟩, fun hn x1 _ => ⟨(takeE_none ek0 hn).symm, z _ (by decide)⟩⟩
  · have hr' : ¬ rightC c = 0 := by simpa using hr
    rw [takeE_some ek0 hc, if_pos hr']
  · have hr' : rightC c = 0 := by simpa using hr
    rw [takeE_some ek0 hc, if_neg (by simpa using hr')]
  · simpa using hr
theorem take_ok (b : List UInt8) (hb : b.length ≤ 1048576) (hmk : ∀ c, bodyP (midB b) = some c → okC c) : ACalls Try.prog 15 [bsl b .any] ⟨[], []⟩ (endT b) := by
  by_cases h : ∀ c, bodyP (midB b) = some c → c.consts = []
  · exact tt0 b hb hmk h
  · refine tt1 b hb hmk fun c hc e => h fun c' hc' => ?_
    rw [hc] at hc'; injection hc' with hc'; rw [← hc']; exact e
end Go.Proofs.Ytoglbmhkfkghbaa
namespace Go.Proofs.Ytoglbmhkfkghbaa
open Go Go.Ab
set_option maxRecDepth 100000
noncomputable def Esh (l : List Int) : Senv := { EC con0 26 2 [4, 5, 10, 14, 25] (fun id => match id with | 6 => ([0, 1, 2, 3, 4, 5, 6, 7, 8], []) | _ => ([], [])) with
  ann := fun b _ S => match b with
    | 0 => some { slots := [5], keep := [0, 1], α := Nat, st := fun i => ([.int .i64 i], S), inv := fun i => i ≤ l.length, mu := fun i => l.length - i }
    | _ => none }
noncomputable section
def sm1q0 : Prop := True ∧ ∃ (_y : Unit), True ∧ false = true ∧ True ∧ True
def sm1q1 (p0 : List Int) : D := SI p0
def sm1q2 (p0 : List Int) : Prop := SM (sm1q1 p0)
end
theorem shp_ok (l : List Int) (hl : l.length ≤ maxLen) : ACalls Try.prog 54 [isl l .any, isl l .any] ⟨[], []⟩ (SpecR (sC [isl l .any, isl l .any] (.bool true)) ()) := by
  refine con_of (A := sC _ _) (x := ()) (E := Esh l) (eOk con0_ok rfl) Try.func54 rfl (by kernel_rfl) rfl (by simp [sC, Esh, EC, E0]) ?_
  refine vc_eq (T :=
    ifB ((LI l) != (LI l)) sm1q0 ((∃ (x : Nat), x ≤ LN l ∧ (Z0 = (↑x : Int) ∧ True) ∧ True ∧ True) ∧ ∀ (x : Nat), x ≤ LN l → ifB (decide ((↑x : Int) < (LI l))) (side (Z0 ≤ (↑x : Int) ∧ (↑x : Int) < (LI l)) (side (Z0 ≤ (↑x : Int) ∧ (↑x : Int) < (LI l)) (ifB (GI l (Int.toNat (↑x : Int)) != GI l (Int.toNat (↑x : Int))) sm1q0 ((sm1q2 l ∧ sm1q2 l ∧ True) ∧ ∃ (y : Nat), y ≤ LN l ∧ LN l - y < LN l - x ∧ (IntKind.wrap IntKind.i64 ((↑x : Int) + Z1) = (↑y : Int) ∧ True) ∧ True ∧ True)))) (True ∧ ∃ (y : Unit), True ∧ SM true ∧ True ∧ True))) (by kernel_rfl) ?_
  delta GI LI LN N1 SI SM Z0 Z1 ZI sm1q0 sm1q1 sm1q2
  simp only [eq_self, implies_true, Int.toNat_natCast, ifB_iff, side_iff, decide_eq_true_eq, decide_eq_false_iff_not, true_and, and_true, bne_self_eq_false, Bool.false_eq_true, false_implies, exists_const, forall_const]
  simp only [maxLen] at hl
  exact ⟨⟨0, Nat.zero_le _, rfl⟩, fun i hi hlt => ⟨⟨by omega, hlt⟩, ⟨by omega, hlt⟩, i + 1, by omega, by omega, wrap_i64' (by omega) (by omega)⟩⟩
def sSm (row : Arr → List D) (q : Arr → Prop) : FnSpec where
  β := Arr
  α := Unit
  args := fun a => [.agg (row a), .agg (row a)]
  st := fun _ => ⟨[], []⟩
  pre := q
  post := fun _ _ => True
  res := fun _ _ => .ret (.bool true)
  out := fun _ _ => ⟨[], []⟩
theorem sSm_row {k : Nat} {q q' : Arr → Prop} {b : Arr} (h : ACalls Try.prog k ((sSm Arr.row2 q).args b) ⟨[], []⟩ (SpecR (sSm Arr.row2 q) b)) : ACalls Try.prog k ((sSm Arr.row1 q').args b) ⟨[], []⟩ (SpecR (sSm Arr.row1 q') b) := by
  refine (h.wkArgs ?_).mono fun _ _ ⟨y, h1, h2, h3⟩ => ⟨y, h1, h2, h3⟩
  simp only [sSm, wkL, wkD]
  exact ⟨row1_wk b, row1_wk b, trivial⟩
def conSm (its : List Arr) : Con := fun k ds _ => match k with
  | 54 => match ds with
    | [.sl 1 n f _, .sl 1 n' f' _] => some (pC ds (.bool true) (IntsP n f ∧ n ≤ maxLen ∧ n' = n ∧ ∀ i, i < n → f' i = f i))
    | _ => none
  | 28 => some (sSm Arr.row1 (fun b => b ∈ its))
  | _ => none
theorem conSm_ok {its : List Arr} (ih : ∀ b ∈ its, ACalls Try.prog 28 ((sSm Arr.row2 (fun _ => True)).args b) ⟨[], []⟩ (SpecR (sSm Arr.row2 (fun _ => True)) b)) : ConOk Try.prog (conSm its) := by
  intro k ds S A h
  unfold conSm at h
  split at h
  · split at h
    · rename_i n f m n' f' m'
      injection h with h; subst h
      refine pC_ok fun ⟨h1, h2, h3, h4⟩ => ⟨weakL_refl _, ?_⟩
      subst h3
      have hl : (intsD n' f).length = n' := by simp [intsD]
      have w1 := (isl_weak (m := m) h1).1
      have w2 : weakD (.sl 1 n' f' m') (isl (intsD n' f) .any) := by
        have := (isl_weak (m := m') (f := f') (n := n') (fun i hi => by rw [h4 i hi]; exact h1 i hi)).1
        have e : intsD n' f' = intsD n' f := List.map_congr_left fun i hi => by rw [h4 i (List.mem_range.1 hi)]
        rw [e] at this; exact this
      have w : weakL [.sl 1 n' f m, .sl 1 n' f' m'] [isl (intsD n' f) .any, isl (intsD n' f) .any] := ⟨w1, w2, trivial⟩
      exact sC_weak w (shp_ok _ (by rw [hl]; exact h2))
    · cases h
  · injection h with h; subst h
    exact ConOk.plain (fun b hb => sSm_row (ih b hb)) rfl rfl
  · cases h
noncomputable def Esm (a : Arr) : Senv := { EC (conSm a.it) 55 6 [35, 40, 54] (fun id => match id with | 6 => ([0, 1, 2, 3, 4, 5, 6, 7, 8, 9, 10, 11], [10]) | _ => ([], [])) with
  ann := fun b _ S => match b with
    | 0 => some { slots := [5], keep := [0, 1, 2, 3], α := Nat, st := fun i => ([.int .i64 i], S), inv := fun i => i ≤ a.it.length, mu := fun i => a.it.length - i }
    | _ => none }
noncomputable section
def sm1q3 (p0 : Arr) : Int := Arr.k p0
def sm1q4 : Prop := True ∧ ∃ (_y : Unit), True ∧ false = true ∧ True ∧ True
def sm1q5 (p0 : Arr) : Nat := LN (Arr.sh p0)
def sm1q6 (p0 : Arr) (p1 : Nat) : List D := [ZI (GI (Arr.sh p0) p1)]
def sm1q7 (p0 : Arr) : Prop := SM (sm1q5 p0)
def sm1q8 (p0 : Arr) : Prop := ∀ (i : Nat), i < sm1q5 p0 → SM (sm1q6 p0 i)
def sm1q9 (p0 : Arr) : Nat := LN (Arr.nu p0)
def sm1q10 (p0 : Arr) (p1 : Nat) : List D := [ZI (GI (Arr.nu p0) p1)]
def sm1q11 (p0 : Arr) : Prop := SM (sm1q9 p0)
def sm1q12 (p0 : Arr) : Prop := ∀ (i : Nat), i < sm1q9 p0 → SM (sm1q10 p0 i)
def sm1q13 (p0 : Arr) : List Arr := Arr.it p0
def sm1q14 (p0 : Arr) : Nat := LN (sm1q13 p0)
def sm1q15 (p0 : Arr) : Int := (NI (sm1q14 p0))
def sm1q16 : Arr := DA
def sm1q17 (p0 : Arr) (p1 : Nat) : Arr := List.getD (sm1q13 p0) p1 sm1q16
def sm1q18 (p0 : Arr) (p1 : Nat) : List Int := Arr.sh (sm1q17 p0 p1)
def sm1q19 (p0 : Arr) (p1 : Nat) : List Int := Arr.nu (sm1q17 p0 p1)
def sm1q20 (p0 : Arr) (p1 : Nat) : List Arr := Arr.it (sm1q17 p0 p1)
def sm1q21 (p0 : Arr) (p1 : Nat) : List D := [ZI (Arr.k (sm1q17 p0 p1)), SI (sm1q18 p0 p1), SI (sm1q19 p0 p1), D.sl N4 (LN (sm1q20 p0 p1)) (fun (i : Nat) => Arr.row (List.getD (sm1q20 p0 p1) i sm1q16)) Mode.any]
def sm1q22 (p0 : Arr) : Prop := SM (sm1q3 p0) ∧ (sm1q7 p0 ∧ sm1q8 p0 ∧ True) ∧ (sm1q11 p0 ∧ sm1q12 p0 ∧ True) ∧ (SM (sm1q14 p0) ∧ (∀ (i : Nat), i < sm1q14 p0 → SM (sm1q21 p0 i)) ∧ True) ∧ True
def sm1q23 (p0 : Nat) (p1 : Arr) (p2 : Nat) : Prop := (SM p0 ∧ sm1q22 p1 ∧ SM p2 ∧ sm1q22 p1 ∧ True) ∧ True
def sm1q24 (p0 : Arr) (p1 : Nat) : Arr := List.getD (sm1q13 p0) (Int.toNat (↑p1 : Int)) sm1q16
def sm1q25 (p0 : Arr) (p1 : Nat) : List Int := Arr.sh (sm1q24 p0 p1)
def sm1q26 (p0 : Arr) (p1 : Nat) : Nat := LN (sm1q25 p0 p1)
def sm1q27 (p0 : Arr) (p1 : Nat) : List Int := Arr.nu (sm1q24 p0 p1)
def sm1q28 (p0 : Arr) (p1 : Nat) : Nat := LN (sm1q27 p0 p1)
def sm1q29 (p0 : Arr) (p1 : Nat) : List Arr := Arr.it (sm1q24 p0 p1)
def sm1q30 (p0 : Arr) (p1 : Nat) : Nat := LN (sm1q29 p0 p1)
def sm1q31 (p0 : Arr) (p1 : Nat) (p2 : Arr) : Prop := Arr.k (sm1q24 p0 p1) = sm1q3 p2 ∧ (sm1q26 p0 p1 = sm1q5 p2 ∧ (∀ (i : Nat), i < sm1q26 p0 p1 → [ZI (GI (sm1q25 p0 p1) i)] = sm1q6 p2 i) ∧ True) ∧ (sm1q28 p0 p1 = sm1q9 p2 ∧ (∀ (i : Nat), i < sm1q28 p0 p1 → [ZI (GI (sm1q27 p0 p1) i)] = sm1q10 p2 i) ∧ True) ∧ (sm1q30 p0 p1 = sm1q14 p2 ∧ (∀ (i : Nat), i < sm1q30 p0 p1 → Arr.row (List.getD (sm1q29 p0 p1) i sm1q16) = Arr.row (sm1q17 p2 i)) ∧ True) ∧ True
def sm1q32 (p0 : Arr) : D := D.agg [ZI (sm1q3 p0), D.sl N1 (sm1q5 p0) (fun (i : Nat) => sm1q6 p0 i) Mode.any, D.sl N1 (sm1q9 p0) (fun (i : Nat) => sm1q10 p0 i) Mode.any, D.sl N4 (sm1q14 p0) (fun (i : Nat) => sm1q21 p0 i) Mode.any]
def sm1q33 (p0 : Arr) : Prop := SM (sm1q32 p0)
end
theorem sm_step (a : Arr) (ha : a.nu.length ≤ maxLen ∧ a.it.length ≤ maxLen ∧ a.sh.length ≤ maxLen) (ih : ∀ b ∈ a.it, ACalls Try.prog 28 ((sSm Arr.row2 (fun _ => True)).args b) ⟨[], []⟩ (SpecR (sSm Arr.row2 (fun _ => True)) b)) :
    ACalls Try.prog 28 ((sSm Arr.row2 (fun _ => True)).args a) ⟨[], []⟩ (SpecR (sSm Arr.row2 (fun _ => True)) a) := by
  refine con_of (A := sSm Arr.row2 (fun _ => True)) (x := a) (E := Esm a) (eOk (conSm_ok ih) rfl) Try.func28 rfl (by kernel_rfl) rfl (by simp [sSm, Esm, EC, E0]) ?_
  refine vc_eq (T :=
    ∀ (x : Nat), True → ∀ (x_1 : Nat), x ≠ x_1 ∧ True → SM x ∧ SM x_1 ∧ ifB (sm1q3 a != sm1q3 a) sm1q4 (SM x ∧ SM x_1 ∧ ((IntsP (sm1q5 a) fun (i : Nat) => sm1q6 a i) ∧ sm1q5 a ≤ (9223372036854775807 : Nat) ∧ sm1q7 a ∧ sm1q8 a) ∧ ∀ (y : Unit), True → SM x ∧ SM x_1 ∧ ((IntsP (sm1q9 a) fun (i : Nat) => sm1q10 a i) ∧ sm1q9 a ≤ (9223372036854775807 : Nat) ∧ sm1q11 a ∧ sm1q12 a) ∧ ∀ (y : Unit), True → SM x ∧ SM x_1 ∧ ifB (sm1q15 a != sm1q15 a) sm1q4 ((∃ (x_2 : Nat), x_2 ≤ sm1q14 a ∧ (Z0 = (↑x_2 : Int) ∧ True) ∧ sm1q23 x_1 a x) ∧ ∀ (x_2 : Nat), x_2 ≤ sm1q14 a → SM x ∧ ifB (decide ((↑x_2 : Int) < sm1q15 a)) (SM x ∧ side (Z0 ≤ (↑x_2 : Int) ∧ (↑x_2 : Int) < sm1q15 a) (SM x_1 ∧ side (Z0 ≤ (↑x_2 : Int) ∧ (↑x_2 : Int) < sm1q15 a) (∃ (x_3 : Arr), (sm1q31 a x_2 x_3 ∧ sm1q31 a x_2 x_3 ∧ True) ∧ (True ∧ True) ∧ x_3 ∈ sm1q13 a ∧ ∀ (y : Unit), True → (sm1q33 a ∧ sm1q33 a ∧ SM (D.ref N0 x N0) ∧ SM (D.ref (max (N0 + N1) N0) x_1 N0) ∧ True) ∧ ∃ (y : Nat), y ≤ sm1q14 a ∧ sm1q14 a - y < sm1q14 a - x_2 ∧ (IntKind.wrap IntKind.i64 ((↑x_2 : Int) + Z1) = (↑y : Int) ∧ True) ∧ sm1q23 x_1 a x))) (True ∧ ∃ (y : Unit), True ∧ SM true ∧ True ∧ True)))) (by kernel_rfl) ?_
  delta DA GI LN N0 N1 N4 NI SI SM Z0 Z1 ZI sm1q10 sm1q11 sm1q12 sm1q13 sm1q14 sm1q15 sm1q16 sm1q17 sm1q18 sm1q19 sm1q20 sm1q21 sm1q22 sm1q23 sm1q24 sm1q25 sm1q26 sm1q27 sm1q28 sm1q29 sm1q3 sm1q30 sm1q31 sm1q32 sm1q33 sm1q4 sm1q5 sm1q6 sm1q7 sm1q8 sm1q9
  have da : (default : Arr) = Arr.mk 0 [] [] [] := rfl
  simp only [← da, eq_self, ne_eq, implies_true, Int.toNat_natCast, ifB_iff, side_iff, decide_eq_true_eq, decide_eq_false_iff_not, true_and, and_true, bne_self_eq_false, Bool.false_eq_true, false_implies, exists_const, forall_const]
  obtain ⟨l1, l2, l3⟩ := ha
  simp only [maxLen] at l1 l2 l3
  refine fun x x1 _ => ⟨⟨intsP_isl _, l3⟩, ⟨intsP_isl _, l1⟩, ⟨0, Nat.zero_le _, rfl⟩, fun i hi hlt => ⟨⟨by omega, hlt⟩, ⟨by omega, hlt⟩, a.it.getD i default, ⟨⟨rfl, ⟨rfl, fun _ _ => rfl⟩, ⟨rfl, fun _ _ => rfl⟩, rfl, fun _ _ => rfl⟩, rfl, ⟨rfl, fun _ _ => rfl⟩, ⟨rfl, fun _ _ => rfl⟩, rfl, fun _ _ => rfl⟩, mem_getD (by omega), i + 1, by omega, by omega, wrap_i64' (by omega) (by omega)⟩⟩
theorem sm_all : ∀ (a : Arr), a.ok → ACalls Try.prog 28 ((sSm Arr.row2 (fun _ => True)).args a) ⟨[], []⟩ (SpecR (sSm Arr.row2 (fun _ => True)) a)
  | .mk k s n is, h => by
    have h' := h
    simp only [Arr.ok] at h'
    obtain ⟨_, _, _, h1, h2, h3, h4⟩ := h'
    refine sm_step (.mk k s n is) ⟨h2, h3, h1⟩ fun b hb => ?_
    have hb' : b ∈ is := hb
    exact sm_all b ((okL_iff _).1 h4 b hb')
termination_by a => SizeOf.sizeOf a
decreasing_by
  have := List.sizeOf_lt_of_mem hb'
  simp; omega
def sGG {α : Type} [Inhabited α] (w : Nat) (row : α → List D) (q : List α → Prop) : FnSpec where
  β := List α
  α := Unit
  args := fun l => [gsl w row l, gsl w row l]
  st := fun _ => ⟨[], []⟩
  pre := q
  post := fun _ _ => True
  res := fun _ _ => .ret (.bool true)
  out := fun _ _ => ⟨[], []⟩
noncomputable def Esf (l : List FnD) : Senv := { EC con0 71 2 [4, 5, 6, 11, 15, 43, 51, 70] (fun id => match id with | 6 => ([0, 1, 2, 3, 4, 5, 6, 7, 8, 9, 10, 11, 12, 13, 14, 15, 16, 17, 18, 19, 20, 21, 22, 23, 24, 25], []) | 11 => ([0, 1, 2, 3, 4, 5, 6, 7, 8, 9, 10, 11, 12, 13, 14, 15, 16], []) | _ => ([], [])) with
  ann := fun b env S => match b with
    | 0 => some { slots := [5], keep := [0, 1], α := Nat, st := fun i => ([.int .i64 i], S), inv := fun i => i ≤ l.length, mu := fun i => l.length - i }
    | 2 => match Ab.look env 5 with
      | .int _ z => some { slots := [6], keep := [0, 1, 5], α := Nat, st := fun j => ([.int .i64 j], S), inv := fun j => j ≤ (l.getD z.toNat default).code.length, mu := fun j => (l.getD z.toNat default).code.length - j }
      | _ => none
    | _ => none }
noncomputable section
def sm1q34 : Prop := True ∧ ∃ (_y : Unit), True ∧ false = true ∧ True ∧ True
def sm1q35 (p0 : List FnD) (p1 : Nat) : Int := FnD.slots (List.getD p0 (Int.toNat (↑p1 : Int)) DF)
def sm1q36 (p0 : List FnD) (p1 : Nat) : Bool := sm1q35 p0 p1 != sm1q35 p0 p1
def sm1q37 (p0 : List FnD) (p1 : Nat) : List I4 := FnD.code (List.getD p0 (Int.toNat (↑p1 : Int)) DF)
def sm1q38 (p0 : List FnD) (p1 : Nat) : Nat := LN (sm1q37 p0 p1)
def sm1q39 (p0 : List FnD) (p1 : Nat) : Int := (NI (sm1q38 p0 p1))
def sm1q40 (p0 : List FnD) (p1 : Nat) : Bool := sm1q39 p0 p1 != sm1q39 p0 p1
def sm1q41 (p0 : List FnD) (p1 : Nat) : Bool := bif sm1q36 p0 p1 then true else sm1q40 p0 p1
def sm1q42 (p0 : Nat) (p1 : List FnD) (p2 : Nat) : Prop := p0 ≤ sm1q38 p1 p2
def sm1q43 (p0 : List FnD) (p1 p2 : Nat) : I4 := G4 (sm1q37 p0 p1) (Int.toNat (↑p2 : Int))
def sm1q44 (p0 : List FnD) (p1 p2 : Nat) : Int := I4.a (sm1q43 p0 p1 p2)
def sm1q45 (p0 : List FnD) (p1 p2 : Nat) : Int := I4.b (sm1q43 p0 p1 p2)
def sm1q46 (p0 : List FnD) (p1 p2 : Nat) : Int := I4.c (sm1q43 p0 p1 p2)
def sm1q47 (p0 : List FnD) (p1 p2 : Nat) : Int := I4.d (sm1q43 p0 p1 p2)
def sm1q48 (p0 : List FnD) (p1 : Nat) : List I4 := FnD.code (List.getD p0 p1 DF)
def sm1q49 (p0 : List FnD) (p1 p2 : Nat) : I4 := G4 (sm1q48 p0 p1) p2
def sm1q50 (p0 : List FnD) : D := D.sl N2 (LN p0) (fun (i : Nat) => [ZI (FnD.slots (List.getD p0 i DF)), D.sl N4 (LN (sm1q48 p0 i)) (fun (i_1 : Nat) => (R4 (sm1q49 p0 i i_1))) Mode.any]) Mode.any
def sm1q51 (p0 : List FnD) : Prop := SM (sm1q50 p0)
def sm1q52 (p0 : List FnD) (p1 p2 : Nat) : Nat := sm1q38 p0 p1 - p2
def sm1q53 (p0 p1 : Nat) : Prop := (IntKind.wrap IntKind.i64 ((↑p0 : Int) + Z1) = (↑p1 : Int) ∧ True) ∧ True ∧ True
end
theorem sf_ok (l : List FnD) (hl : l.length ≤ maxLen) (ho : ∀ x ∈ l, x.ok) : ACalls Try.prog 29 ((sGG 2 FnD.row (fun _ => True)).args l) ⟨[], []⟩ (SpecR (sGG 2 FnD.row (fun _ => True)) l) := by
  refine con_of (A := sGG 2 FnD.row (fun _ => True)) (x := l) (E := Esf l) (eOk con0_ok rfl) Try.func29 rfl (by kernel_rfl) rfl (by simp [sGG, Esf, EC, E0]) ?_
  refine vc_eq (T :=
    ifB ((LI l) != (LI l)) sm1q34 ((∃ (x : Nat), x ≤ LN l ∧ (Z0 = (↑x : Int) ∧ True) ∧ True ∧ True) ∧ ∀ (x : Nat), x ≤ LN l → ifB (decide ((↑x : Int) < (LI l))) (side (Z0 ≤ (↑x : Int) ∧ (↑x : Int) < (LI l)) (side (Z0 ≤ (↑x : Int) ∧ (↑x : Int) < (LI l)) (ifB (sm1q36 l x) (true = sm1q41 l x ∧ True) (side (Z0 ≤ (↑x : Int) ∧ (↑x : Int) < (LI l)) (side (Z0 ≤ (↑x : Int) ∧ (↑x : Int) < (LI l)) (sm1q40 l x = sm1q41 l x ∧ True))))) ∧ ifB (sm1q41 l x) sm1q34 ((∃ (x_1 : Nat), sm1q42 x_1 l x ∧ (Z0 = (↑x_1 : Int) ∧ True) ∧ True ∧ True) ∧ ∀ (x_1 : Nat), sm1q42 x_1 l x → side (Z0 ≤ (↑x : Int) ∧ (↑x : Int) < (LI l)) (ifB (decide ((↑x_1 : Int) < sm1q39 l x)) (side (Z0 ≤ (↑x : Int) ∧ (↑x : Int) < (LI l)) (side (Z0 ≤ (↑x_1 : Int) ∧ (↑x_1 : Int) < sm1q39 l x) (side (Z0 ≤ (↑x : Int) ∧ (↑x : Int) < (LI l)) (side (Z0 ≤ (↑x_1 : Int) ∧ (↑x_1 : Int) < sm1q39 l x) (ifB (! (sm1q44 l x x_1 == sm1q44 l x x_1 && (sm1q45 l x x_1 == sm1q45 l x x_1 && (sm1q46 l x x_1 == sm1q46 l x x_1 && (sm1q47 l x x_1 == sm1q47 l x x_1 && true))))) sm1q34 ((sm1q51 l ∧ sm1q51 l ∧ SM (ZI (↑x : Int)) ∧ True) ∧ ∃ (y : Nat), sm1q42 y l x ∧ sm1q52 l x y < sm1q52 l x x_1 ∧ sm1q53 x_1 y)))))) ((sm1q51 l ∧ sm1q51 l ∧ True) ∧ ∃ (y : Nat), y ≤ LN l ∧ LN l - y < LN l - x ∧ sm1q53 x y)))) (True ∧ ∃ (y : Unit), True ∧ SM true ∧ True ∧ True))) (by kernel_rfl) ?_
  delta D4 DF G4 LI LN N2 N4 NI R4 SM Z0 Z1 ZI sm1q34 sm1q35 sm1q36 sm1q37 sm1q38 sm1q39 sm1q40 sm1q41 sm1q42 sm1q43 sm1q44 sm1q45 sm1q46 sm1q47 sm1q48 sm1q49 sm1q50 sm1q51 sm1q52 sm1q53
  have dF : (default : FnD) = ⟨0, []⟩ := rfl
  have d4 : (default : I4) = ⟨0, 0, 0, 0⟩ := rfl
  simp only [← dF, ← d4, eq_self, implies_true, Int.toNat_natCast, ifB_iff, side_iff, decide_eq_true_eq, decide_eq_false_iff_not, true_and, and_true, bne_self_eq_false, beq_self_eq_true, Bool.and_self, Bool.not_true, Bool.cond_false, Bool.false_eq_true, false_implies, exists_const, forall_const]
  simp only [maxLen] at hl
  refine ⟨⟨0, Nat.zero_le _, rfl⟩, fun i hi hlt => ?_⟩
  have hx : (l.getD i default).code.length ≤ 9223372036854775807 := (ho _ (mem_getD (by omega))).2.2
  refine ⟨⟨⟨by omega, hlt⟩, ⟨by omega, hlt⟩, ⟨by omega, hlt⟩, by omega, hlt⟩, ⟨0, Nat.zero_le _, rfl⟩, fun j hj => ⟨⟨by omega, hlt⟩, fun hjl => ⟨⟨by omega, hlt⟩, ⟨by omega, hjl⟩, ⟨by omega, hlt⟩, ⟨by omega, hjl⟩, j + 1, by omega, by omega, wrap_i64' (by omega) (by omega)⟩, fun hjg => ⟨i + 1, by omega, by omega, wrap_i64' (by omega) (by omega)⟩⟩⟩
noncomputable def Esk (l : List KeD) : Senv := { EC con0 97 2 [4, 5, 6, 11, 15, 69, 77, 96] (fun id => match id with | 6 => ([0, 1, 2, 3, 4, 5, 6, 7, 8, 9, 10, 11, 12, 13, 14, 15, 16, 17, 18, 19, 20, 21, 22, 23, 24, 25, 26, 27, 28, 29, 30, 31, 32, 33, 34, 35, 36, 37, 38, 39, 40, 41, 42, 43, 44, 45, 46, 47, 48, 49, 50, 51], []) | 11 => ([0, 1, 2, 3, 4, 5, 6, 7, 8, 9, 10, 11, 12, 13, 14, 15, 16], []) | _ => ([], [])) with
  ann := fun b env S => match b with
    | 0 => some { slots := [5], keep := [0, 1], α := Nat, st := fun i => ([.int .i64 i], S), inv := fun i => i ≤ l.length, mu := fun i => l.length - i }
    | 2 => match Ab.look env 5 with
      | .int _ z => some { slots := [6], keep := [0, 1, 5], α := Nat, st := fun j => ([.int .i64 j], S), inv := fun j => j ≤ (l.getD z.toNat default).ops.length, mu := fun j => (l.getD z.toNat default).ops.length - j }
      | _ => none
    | _ => none }
noncomputable section
def sm1q54 : Prop := True ∧ ∃ (_y : Unit), True ∧ false = true ∧ True ∧ True
def sm1q55 : KeD := DK
def sm1q56 (p0 : List KeD) (p1 : Nat) : KeD := List.getD p0 (Int.toNat (↑p1 : Int)) sm1q55
def sm1q57 (p0 : List KeD) (p1 : Nat) : Int := KeD.inputs (sm1q56 p0 p1)
def sm1q58 (p0 : List KeD) (p1 : Nat) : Bool := sm1q57 p0 p1 != sm1q57 p0 p1
def sm1q59 (p0 : List KeD) (p1 : Nat) : Int := KeD.reduce (sm1q56 p0 p1)
def sm1q60 (p0 : List KeD) (p1 : Nat) : Bool := sm1q59 p0 p1 != sm1q59 p0 p1
def sm1q61 (p0 : List KeD) (p1 : Nat) : Int := KeD.at_ (sm1q56 p0 p1)
def sm1q62 (p0 : List KeD) (p1 : Nat) : Bool := sm1q61 p0 p1 != sm1q61 p0 p1
def sm1q63 (p0 : List KeD) (p1 : Nat) : List I4 := KeD.ops (sm1q56 p0 p1)
def sm1q64 (p0 : List KeD) (p1 : Nat) : Nat := LN (sm1q63 p0 p1)
def sm1q65 (p0 : List KeD) (p1 : Nat) : Int := (NI (sm1q64 p0 p1))
def sm1q66 (p0 : List KeD) (p1 : Nat) : Bool := sm1q65 p0 p1 != sm1q65 p0 p1
def sm1q67 (p0 : List KeD) (p1 : Nat) : Bool := bif bif bif sm1q58 p0 p1 then true else sm1q60 p0 p1 then true else sm1q62 p0 p1 then true else sm1q66 p0 p1
def sm1q68 (p0 : List KeD) (p1 : Nat) : Prop := true = sm1q67 p0 p1 ∧ True
def sm1q69 (p0 : Nat) (p1 : List KeD) (p2 : Nat) : Prop := p0 ≤ sm1q64 p1 p2
def sm1q70 (p0 : List KeD) (p1 p2 : Nat) : I4 := G4 (sm1q63 p0 p1) (Int.toNat (↑p2 : Int))
def sm1q71 (p0 : List KeD) (p1 p2 : Nat) : Int := I4.a (sm1q70 p0 p1 p2)
def sm1q72 (p0 : List KeD) (p1 p2 : Nat) : Int := I4.b (sm1q70 p0 p1 p2)
def sm1q73 (p0 : List KeD) (p1 p2 : Nat) : Int := I4.c (sm1q70 p0 p1 p2)
def sm1q74 (p0 : List KeD) (p1 p2 : Nat) : Int := I4.d (sm1q70 p0 p1 p2)
def sm1q75 (p0 : List KeD) (p1 : Nat) : KeD := List.getD p0 p1 sm1q55
def sm1q76 (p0 : List KeD) (p1 : Nat) : List I4 := KeD.ops (sm1q75 p0 p1)
def sm1q77 (p0 : List KeD) (p1 p2 : Nat) : I4 := G4 (sm1q76 p0 p1) p2
def sm1q78 (p0 : List KeD) : D := D.sl N4 (LN p0) (fun (i : Nat) => [ZI (KeD.inputs (sm1q75 p0 i)), D.sl N4 (LN (sm1q76 p0 i)) (fun (i_1 : Nat) => (R4 (sm1q77 p0 i i_1))) Mode.any, ZI (KeD.reduce (sm1q75 p0 i)), ZI (KeD.at_ (sm1q75 p0 i))]) Mode.any
def sm1q79 (p0 : List KeD) : Prop := SM (sm1q78 p0)
def sm1q80 (p0 : List KeD) (p1 p2 : Nat) : Nat := sm1q64 p0 p1 - p2
def sm1q81 (p0 p1 : Nat) : Prop := (IntKind.wrap IntKind.i64 ((↑p0 : Int) + Z1) = (↑p1 : Int) ∧ True) ∧ True ∧ True
end
theorem sk_ok (l : List KeD) (hl : l.length ≤ maxLen) (ho : ∀ x ∈ l, x.ok) : ACalls Try.prog 30 ((sGG 4 KeD.row (fun _ => True)).args l) ⟨[], []⟩ (SpecR (sGG 4 KeD.row (fun _ => True)) l) := by
  refine con_of (A := sGG 4 KeD.row (fun _ => True)) (x := l) (E := Esk l) (eOk con0_ok rfl) Try.func30 rfl (by kernel_rfl) rfl (by simp [sGG, Esk, EC, E0]) ?_
  refine vc_eq (T :=
    ifB ((LI l) != (LI l)) sm1q54 ((∃ (x : Nat), x ≤ LN l ∧ (Z0 = (↑x : Int) ∧ True) ∧ True ∧ True) ∧ ∀ (x : Nat), x ≤ LN l → ifB (decide ((↑x : Int) < (LI l))) (side (Z0 ≤ (↑x : Int) ∧ (↑x : Int) < (LI l)) (side (Z0 ≤ (↑x : Int) ∧ (↑x : Int) < (LI l)) (ifB (sm1q58 l x) (sm1q68 l x) (side (Z0 ≤ (↑x : Int) ∧ (↑x : Int) < (LI l)) (side (Z0 ≤ (↑x : Int) ∧ (↑x : Int) < (LI l)) (ifB (sm1q60 l x) (sm1q68 l x) (side (Z0 ≤ (↑x : Int) ∧ (↑x : Int) < (LI l)) (side (Z0 ≤ (↑x : Int) ∧ (↑x : Int) < (LI l)) (ifB (sm1q62 l x) (sm1q68 l x) (side (Z0 ≤ (↑x : Int) ∧ (↑x : Int) < (LI l)) (side (Z0 ≤ (↑x : Int) ∧ (↑x : Int) < (LI l)) (sm1q66 l x = sm1q67 l x ∧ True))))))))))) ∧ ifB (sm1q67 l x) sm1q54 ((∃ (x_1 : Nat), sm1q69 x_1 l x ∧ (Z0 = (↑x_1 : Int) ∧ True) ∧ True ∧ True) ∧ ∀ (x_1 : Nat), sm1q69 x_1 l x → side (Z0 ≤ (↑x : Int) ∧ (↑x : Int) < (LI l)) (ifB (decide ((↑x_1 : Int) < sm1q65 l x)) (side (Z0 ≤ (↑x : Int) ∧ (↑x : Int) < (LI l)) (side (Z0 ≤ (↑x_1 : Int) ∧ (↑x_1 : Int) < sm1q65 l x) (side (Z0 ≤ (↑x : Int) ∧ (↑x : Int) < (LI l)) (side (Z0 ≤ (↑x_1 : Int) ∧ (↑x_1 : Int) < sm1q65 l x) (ifB (! (sm1q71 l x x_1 == sm1q71 l x x_1 && (sm1q72 l x x_1 == sm1q72 l x x_1 && (sm1q73 l x x_1 == sm1q73 l x x_1 && (sm1q74 l x x_1 == sm1q74 l x x_1 && true))))) sm1q54 ((sm1q79 l ∧ sm1q79 l ∧ SM (ZI (↑x : Int)) ∧ True) ∧ ∃ (y : Nat), sm1q69 y l x ∧ sm1q80 l x y < sm1q80 l x x_1 ∧ sm1q81 x_1 y)))))) ((sm1q79 l ∧ sm1q79 l ∧ True) ∧ ∃ (y : Nat), y ≤ LN l ∧ LN l - y < LN l - x ∧ sm1q81 x y)))) (True ∧ ∃ (y : Unit), True ∧ SM true ∧ True ∧ True))) (by kernel_rfl) ?_
  delta D4 DK G4 LI LN N4 NI R4 SM Z0 Z1 ZI sm1q54 sm1q55 sm1q56 sm1q57 sm1q58 sm1q59 sm1q60 sm1q61 sm1q62 sm1q63 sm1q64 sm1q65 sm1q66 sm1q67 sm1q68 sm1q69 sm1q70 sm1q71 sm1q72 sm1q73 sm1q74 sm1q75 sm1q76 sm1q77 sm1q78 sm1q79 sm1q80 sm1q81
  have dK : (default : KeD) = ⟨0, [], 0, 0⟩ := rfl
  have d4 : (default : I4) = ⟨0, 0, 0, 0⟩ := rfl
  simp only [← dK, ← d4, eq_self, implies_true, Int.toNat_natCast, ifB_iff, side_iff, decide_eq_true_eq, decide_eq_false_iff_not, true_and, and_true, bne_self_eq_false, beq_self_eq_true, Bool.and_self, Bool.not_true, Bool.cond_false, Bool.false_eq_true, false_implies, exists_const, forall_const]
  simp only [maxLen] at hl
  refine ⟨⟨0, Nat.zero_le _, rfl⟩, fun i hi hlt => ?_⟩
  have hx : (l.getD i default).ops.length ≤ 9223372036854775807 := (ho _ (mem_getD (by omega))).2.2.1
  refine ⟨⟨⟨by omega, hlt⟩, ⟨by omega, hlt⟩, ⟨by omega, hlt⟩, ⟨by omega, hlt⟩, ⟨by omega, hlt⟩, ⟨by omega, hlt⟩, ⟨by omega, hlt⟩, by omega, hlt⟩, ⟨0, Nat.zero_le _, rfl⟩, fun j hj => ⟨⟨by omega, hlt⟩, fun hjl => ⟨⟨by omega, hlt⟩, ⟨by omega, hjl⟩, ⟨by omega, hlt⟩, ⟨by omega, hjl⟩, j + 1, by omega, by omega, wrap_i64' (by omega) (by omega)⟩, fun hjg => ⟨i + 1, by omega, by omega, wrap_i64' (by omega) (by omega)⟩⟩⟩
noncomputable def Esl2 (l : List LaD) : Senv := { EC con0 71 2 [4, 5, 6, 11, 15, 43, 51, 70] (fun id => match id with | 6 => ([0, 1, 2, 3, 4, 5, 6, 7, 8, 9, 10, 11, 12, 13, 14, 15, 16, 17, 18, 19, 20, 21, 22, 23, 24, 25], []) | 11 => ([0, 1, 2, 3, 4, 5, 6, 7, 8, 9, 10, 11, 12, 13, 14, 15, 16], []) | _ => ([], [])) with
  ann := fun b env S => match b with
    | 0 => some { slots := [5], keep := [0, 1], α := Nat, st := fun i => ([.int .i64 i], S), inv := fun i => i ≤ l.length, mu := fun i => l.length - i }
    | 2 => match Ab.look env 5 with
      | .int _ z => some { slots := [6], keep := [0, 1, 5], α := Nat, st := fun j => ([.int .i64 j], S), inv := fun j => j ≤ (l.getD z.toNat default).code.length, mu := fun j => (l.getD z.toNat default).code.length - j }
      | _ => none
    | _ => none }
noncomputable section
def sm1q82 : Prop := True ∧ ∃ (_y : Unit), True ∧ false = true ∧ True ∧ True
def sm1q83 (p0 : List LaD) (p1 : Nat) : Int := LaD.regs (List.getD p0 (Int.toNat (↑p1 : Int)) DL)
def sm1q84 (p0 : List LaD) (p1 : Nat) : Bool := sm1q83 p0 p1 != sm1q83 p0 p1
def sm1q85 (p0 : List LaD) (p1 : Nat) : List I6 := LaD.code (List.getD p0 (Int.toNat (↑p1 : Int)) DL)
def sm1q86 (p0 : List LaD) (p1 : Nat) : Nat := LN (sm1q85 p0 p1)
def sm1q87 (p0 : List LaD) (p1 : Nat) : Int := (NI (sm1q86 p0 p1))
def sm1q88 (p0 : List LaD) (p1 : Nat) : Bool := sm1q87 p0 p1 != sm1q87 p0 p1
def sm1q89 (p0 : List LaD) (p1 : Nat) : Bool := bif sm1q84 p0 p1 then true else sm1q88 p0 p1
def sm1q90 (p0 : Nat) (p1 : List LaD) (p2 : Nat) : Prop := p0 ≤ sm1q86 p1 p2
def sm1q91 : I6 := D6
def sm1q92 (p0 : List LaD) (p1 p2 : Nat) : I6 := List.getD (sm1q85 p0 p1) (Int.toNat (↑p2 : Int)) sm1q91
def sm1q93 (p0 : List LaD) (p1 p2 : Nat) : Int := I6.a (sm1q92 p0 p1 p2)
def sm1q94 (p0 : List LaD) (p1 p2 : Nat) : Int := I6.b (sm1q92 p0 p1 p2)
def sm1q95 (p0 : List LaD) (p1 p2 : Nat) : Int := I6.c (sm1q92 p0 p1 p2)
def sm1q96 (p0 : List LaD) (p1 p2 : Nat) : Int := I6.d (sm1q92 p0 p1 p2)
def sm1q97 (p0 : List LaD) (p1 p2 : Nat) : Int := I6.e (sm1q92 p0 p1 p2)
def sm1q98 (p0 : List LaD) (p1 p2 : Nat) : Int := I6.f (sm1q92 p0 p1 p2)
def sm1q99 (p0 : List LaD) (p1 : Nat) : List I6 := LaD.code (List.getD p0 p1 DL)
def sm1q100 (p0 : List LaD) (p1 p2 : Nat) : I6 := List.getD (sm1q99 p0 p1) p2 sm1q91
def sm1q101 (p0 : List LaD) : D := D.sl N2 (LN p0) (fun (i : Nat) => [ZI (LaD.regs (List.getD p0 i DL)), D.sl N6 (LN (sm1q99 p0 i)) (fun (i_1 : Nat) => (R6 (sm1q100 p0 i i_1))) Mode.any]) Mode.any
def sm1q102 (p0 : List LaD) : Prop := SM (sm1q101 p0)
def sm1q103 (p0 : List LaD) (p1 p2 : Nat) : Nat := sm1q86 p0 p1 - p2
def sm1q104 (p0 p1 : Nat) : Prop := (IntKind.wrap IntKind.i64 ((↑p0 : Int) + Z1) = (↑p1 : Int) ∧ True) ∧ True ∧ True
end
theorem sl2_ok (l : List LaD) (hl : l.length ≤ maxLen) (ho : ∀ x ∈ l, x.ok) : ACalls Try.prog 31 ((sGG 2 LaD.row (fun _ => True)).args l) ⟨[], []⟩ (SpecR (sGG 2 LaD.row (fun _ => True)) l) := by
  refine con_of (A := sGG 2 LaD.row (fun _ => True)) (x := l) (E := Esl2 l) (eOk con0_ok rfl) Try.func31 rfl (by kernel_rfl) rfl (by simp [sGG, Esl2, EC, E0]) ?_
  refine vc_eq (T :=
    ifB ((LI l) != (LI l)) sm1q82 ((∃ (x : Nat), x ≤ LN l ∧ (Z0 = (↑x : Int) ∧ True) ∧ True ∧ True) ∧ ∀ (x : Nat), x ≤ LN l → ifB (decide ((↑x : Int) < (LI l))) (side (Z0 ≤ (↑x : Int) ∧ (↑x : Int) < (LI l)) (side (Z0 ≤ (↑x : Int) ∧ (↑x : Int) < (LI l)) (ifB (sm1q84 l x) (true = sm1q89 l x ∧ True) (side (Z0 ≤ (↑x : Int) ∧ (↑x : Int) < (LI l)) (side (Z0 ≤ (↑x : Int) ∧ (↑x : Int) < (LI l)) (sm1q88 l x = sm1q89 l x ∧ True))))) ∧ ifB (sm1q89 l x) sm1q82 ((∃ (x_1 : Nat), sm1q90 x_1 l x ∧ (Z0 = (↑x_1 : Int) ∧ True) ∧ True ∧ True) ∧ ∀ (x_1 : Nat), sm1q90 x_1 l x → side (Z0 ≤ (↑x : Int) ∧ (↑x : Int) < (LI l)) (ifB (decide ((↑x_1 : Int) < sm1q87 l x)) (side (Z0 ≤ (↑x : Int) ∧ (↑x : Int) < (LI l)) (side (Z0 ≤ (↑x_1 : Int) ∧ (↑x_1 : Int) < sm1q87 l x) (side (Z0 ≤ (↑x : Int) ∧ (↑x : Int) < (LI l)) (side (Z0 ≤ (↑x_1 : Int) ∧ (↑x_1 : Int) < sm1q87 l x) (ifB (! (sm1q93 l x x_1 == sm1q93 l x x_1 && (sm1q94 l x x_1 == sm1q94 l x x_1 && (sm1q95 l x x_1 == sm1q95 l x x_1 && (sm1q96 l x x_1 == sm1q96 l x x_1 && (sm1q97 l x x_1 == sm1q97 l x x_1 && (sm1q98 l x x_1 == sm1q98 l x x_1 && true))))))) sm1q82 ((sm1q102 l ∧ sm1q102 l ∧ SM (ZI (↑x : Int)) ∧ True) ∧ ∃ (y : Nat), sm1q90 y l x ∧ sm1q103 l x y < sm1q103 l x x_1 ∧ sm1q104 x_1 y)))))) ((sm1q102 l ∧ sm1q102 l ∧ True) ∧ ∃ (y : Nat), y ≤ LN l ∧ LN l - y < LN l - x ∧ sm1q104 x y)))) (True ∧ ∃ (y : Unit), True ∧ SM true ∧ True ∧ True))) (by kernel_rfl) ?_
  delta D6 DL LI LN N2 N6 NI R6 SM Z0 Z1 ZI sm1q100 sm1q101 sm1q102 sm1q103 sm1q104 sm1q82 sm1q83 sm1q84 sm1q85 sm1q86 sm1q87 sm1q88 sm1q89 sm1q90 sm1q91 sm1q92 sm1q93 sm1q94 sm1q95 sm1q96 sm1q97 sm1q98 sm1q99
  have dL : (default : LaD) = ⟨0, []⟩ := rfl
  have d6 : (default : I6) = ⟨0, 0, 0, 0, 0, 0⟩ := rfl
  simp only [← dL, ← d6, eq_self, implies_true, Int.toNat_natCast, ifB_iff, side_iff, decide_eq_true_eq, decide_eq_false_iff_not, true_and, and_true, bne_self_eq_false, beq_self_eq_true, Bool.and_self, Bool.not_true, Bool.cond_false, Bool.false_eq_true, false_implies, exists_const, forall_const]
  simp only [maxLen] at hl
  refine ⟨⟨0, Nat.zero_le _, rfl⟩, fun i hi hlt => ?_⟩
  have hx : (l.getD i default).code.length ≤ 9223372036854775807 := (ho _ (mem_getD (by omega))).2.2
  refine ⟨⟨⟨by omega, hlt⟩, ⟨by omega, hlt⟩, ⟨by omega, hlt⟩, by omega, hlt⟩, ⟨0, Nat.zero_le _, rfl⟩, fun j hj => ⟨⟨by omega, hlt⟩, fun hjl => ⟨⟨by omega, hlt⟩, ⟨by omega, hjl⟩, ⟨by omega, hlt⟩, ⟨by omega, hjl⟩, j + 1, by omega, by omega, wrap_i64' (by omega) (by omega)⟩, fun hjg => ⟨i + 1, by omega, by omega, wrap_i64' (by omega) (by omega)⟩⟩⟩
end Go.Proofs.Ytoglbmhkfkghbaa
namespace Go.Proofs.Ytoglbmhkfkghbaa
open Go Go.Ab
set_option maxRecDepth 100000
def conSs (c : CodD) : Con := fun k _ds _ => match k with
  | 28 => some (sSm Arr.row (fun b => b ∈ c.consts))
  | 29 => some (sGG 2 FnD.row (fun l => l = c.funs))
  | 30 => some (sGG 4 KeD.row (fun l => l = c.kers))
  | 31 => some (sGG 2 LaD.row (fun l => l = c.lanes))
  | _ => none
theorem conSs_ok {c : CodD} (hc : c.ok) : ConOk Try.prog (conSs c) := by
  obtain ⟨h1, h2, h3, h4, h5, h6, h7, h8⟩ := hc
  intro k ds S A h
  unfold conSs at h
  split at h
  · injection h with h; subst h
    refine ConOk.plain (fun b hb => ?_) rfl rfl
    refine (((sSm_row (q' := fun _ => True) (sm_all b (h1 b hb))).wkArgs ?_)).mono fun _ _ ⟨y, h1, h2, h3⟩ => ⟨y, h1, h2, h3⟩
    simp only [sSm, wkL, wkD]
    exact ⟨row_wk b, row_wk b, trivial⟩
  · injection h with h; subst h
    refine ConOk.plain (fun l (hl : l = c.funs) => ?_) rfl rfl
    subst hl
    exact (sf_ok _ h6 h2).mono fun _ _ ⟨y, h1, h2, h3⟩ => ⟨y, h1, h2, h3⟩
  · injection h with h; subst h
    refine ConOk.plain (fun l (hl : l = c.kers) => ?_) rfl rfl
    subst hl
    exact (sk_ok _ h7 h3).mono fun _ _ ⟨y, h1, h2, h3⟩ => ⟨y, h1, h2, h3⟩
  · injection h with h; subst h
    refine ConOk.plain (fun l (hl : l = c.lanes) => ?_) rfl rfl
    subst hl
    exact (sl2_ok _ h8 h4).mono fun _ _ ⟨y, h1, h2, h3⟩ => ⟨y, h1, h2, h3⟩
  · cases h
noncomputable def Ess (c : CodD) : Senv := { EC (conSs c) 51 6 [12, 17, 31] (fun id => match id with | 6 => ([0, 1, 2, 3, 4, 5, 6, 7, 8, 9, 10, 11], [10]) | _ => ([], [])) with
  ann := fun b _ S => match b with
    | 0 => some { slots := [5], keep := [0, 1, 2, 3], α := Nat, st := fun i => ([.int .i64 i], S), inv := fun i => i ≤ c.consts.length, mu := fun i => c.consts.length - i }
    | _ => none }
noncomputable section
def sm2q0 (p0 : CodD) : List Arr := CodD.consts p0
def sm2q1 (p0 : CodD) : Nat := LN (sm2q0 p0)
def sm2q2 (p0 : CodD) : Int := (NI (sm2q1 p0))
def sm2q3 (p0 : Nat) (p1 : CodD) : Prop := p0 ≤ sm2q1 p1
def sm2q4 : Arr := DA
def sm2q5 (p0 : CodD) (p1 : Nat) : List D := Arr.row (List.getD (sm2q0 p0) p1 sm2q4)
def sm2q6 (p0 : CodD) : Nat := LN (CodD.funs p0)
def sm2q7 (p0 : CodD) (p1 : Nat) : List D := FnD.row (GF p0 p1)
def sm2q8 (p0 : CodD) : Nat := LN (CodD.kers p0)
def sm2q9 : KeD := DK
def sm2q10 (p0 : CodD) (p1 : Nat) : List D := KeD.row (List.getD (CodD.kers p0) p1 sm2q9)
def sm2q11 (p0 : CodD) : Nat := LN (CodD.lanes p0)
def sm2q12 (p0 : CodD) (p1 : Nat) : List D := LaD.row (GL p0 p1)
def sm2q13 (p0 : CodD) : Prop := (SM (sm2q1 p0) ∧ (∀ (i : Nat), i < sm2q1 p0 → SM (sm2q5 p0 i)) ∧ True) ∧ (SM (sm2q6 p0) ∧ (∀ (i : Nat), i < sm2q6 p0 → SM (sm2q7 p0 i)) ∧ True) ∧ (SM (sm2q8 p0) ∧ (∀ (i : Nat), i < sm2q8 p0 → SM (sm2q10 p0 i)) ∧ True) ∧ (SM (sm2q11 p0) ∧ (∀ (i : Nat), i < sm2q11 p0 → SM (sm2q12 p0 i)) ∧ True) ∧ True
def sm2q14 (p0 : Nat) (p1 : CodD) (p2 : Nat) : Prop := (SM p0 ∧ sm2q13 p1 ∧ SM p2 ∧ sm2q13 p1 ∧ True) ∧ True
def sm2q15 (p0 : CodD) (p1 : Nat) : List D := Arr.row (List.getD (sm2q0 p0) (Int.toNat (↑p1 : Int)) sm2q4)
def sm2q16 (p0 : CodD) (p1 : Nat) : Nat := LN (sm2q15 p0 p1)
def sm2q17 (p0 : CodD) (p1 : Nat) (p2 : Arr) : Prop := weakL (List.take N4 (List.drop N0 (sm2q15 p0 p1))) (Arr.row p2)
def sm2q18 (p0 : CodD) : D := D.agg [D.sl N4 (sm2q1 p0) (fun (i : Nat) => sm2q5 p0 i) Mode.any, D.sl N2 (sm2q6 p0) (fun (i : Nat) => sm2q7 p0 i) Mode.any, D.sl N4 (sm2q8 p0) (fun (i : Nat) => sm2q10 p0 i) Mode.any, D.sl N2 (sm2q11 p0) (fun (i : Nat) => sm2q12 p0 i) Mode.any]
def sm2q19 (p0 : CodD) : Prop := SM (sm2q18 p0)
def sm2q20 (p0 : CodD) (p1 : List FnD) : Prop := sm2q6 p0 = LN p1 ∧ (∀ (i : Nat), i < sm2q6 p0 → sm2q7 p0 i = FnD.row (List.getD p1 i DF)) ∧ True
def sm2q21 (p0 : CodD) (p1 : List KeD) : Prop := sm2q8 p0 = LN p1 ∧ (∀ (i : Nat), i < sm2q8 p0 → sm2q10 p0 i = KeD.row (List.getD p1 i sm2q9)) ∧ True
def sm2q22 (p0 : CodD) (p1 : List LaD) : Prop := sm2q11 p0 = LN p1 ∧ (∀ (i : Nat), i < sm2q11 p0 → sm2q12 p0 i = LaD.row (List.getD p1 i DL)) ∧ True
end
theorem same_ok (c : CodD) (hc : c.ok) : ACalls Try.prog 17 [.agg c.row, .agg c.row] ⟨[], []⟩ (SpecR (sC [.agg c.row, .agg c.row] (.bool true)) ()) := by
  refine con_of (A := sC _ _) (x := ()) (E := Ess c) (eOk (conSs_ok hc) rfl) Try.func17 rfl (by kernel_rfl) rfl (by simp [sC, Ess, EC, E0]) ?_
  refine vc_eq (T :=
    ∀ (x : Nat), True → ∀ (x_1 : Nat), x ≠ x_1 ∧ True → SM x ∧ SM x_1 ∧ ifB (sm2q2 c != sm2q2 c) (True ∧ ∃ (y : Unit), True ∧ false = true ∧ True ∧ True) ((∃ (x_2 : Nat), sm2q3 x_2 c ∧ (Z0 = (↑x_2 : Int) ∧ True) ∧ sm2q14 x_1 c x) ∧ ∀ (x_2 : Nat), sm2q3 x_2 c → SM x ∧ ifB (decide ((↑x_2 : Int) < sm2q2 c)) (SM x ∧ side (Z0 ≤ (↑x_2 : Int) ∧ (↑x_2 : Int) < sm2q2 c) (side (N4 ≤ sm2q16 c x_2) (SM x_1 ∧ side (Z0 ≤ (↑x_2 : Int) ∧ (↑x_2 : Int) < sm2q2 c) (side (N4 ≤ sm2q16 c x_2) (∃ (x_3 : Arr), (sm2q17 c x_2 x_3 ∧ sm2q17 c x_2 x_3 ∧ True) ∧ (True ∧ True) ∧ x_3 ∈ sm2q0 c ∧ ∀ (y : Unit), True → (sm2q19 c ∧ sm2q19 c ∧ SM (D.ref N0 x N0) ∧ SM (D.ref (max (N0 + N1) N0) x_1 N0) ∧ True) ∧ ∃ (y : Nat), sm2q3 y c ∧ sm2q1 c - y < sm2q1 c - x_2 ∧ (IntKind.wrap IntKind.i64 ((↑x_2 : Int) + Z1) = (↑y : Int) ∧ True) ∧ sm2q14 x_1 c x))))) (SM x ∧ SM x_1 ∧ ∃ (x_3 : List FnD), (sm2q20 c x_3 ∧ sm2q20 c x_3 ∧ True) ∧ (True ∧ True) ∧ x_3 = CodD.funs c ∧ ∀ (y : Unit), True → SM x ∧ SM x_1 ∧ ∃ (x_4 : List KeD), (sm2q21 c x_4 ∧ sm2q21 c x_4 ∧ True) ∧ (True ∧ True) ∧ x_4 = CodD.kers c ∧ ∀ (y : Unit), True → SM x ∧ SM x_1 ∧ ∃ (x : List LaD), (sm2q22 c x ∧ sm2q22 c x ∧ True) ∧ (True ∧ True) ∧ x = CodD.lanes c ∧ ∀ (y : Unit), True → True ∧ ∃ (y : Unit), True ∧ SM true ∧ True ∧ True))) (by kernel_rfl) ?_
  delta DA DF DK DL GF GL LN N0 N1 N2 N4 NI SM Z0 Z1 sm2q0 sm2q1 sm2q10 sm2q11 sm2q12 sm2q13 sm2q14 sm2q15 sm2q16 sm2q17 sm2q18 sm2q19 sm2q2 sm2q20 sm2q21 sm2q22 sm2q3 sm2q4 sm2q5 sm2q6 sm2q7 sm2q8 sm2q9
  have da : (default : Arr) = Arr.mk 0 [] [] [] := rfl
  have dF : (default : FnD) = ⟨0, []⟩ := rfl
  have dK : (default : KeD) = ⟨0, [], 0, 0⟩ := rfl
  have dL : (default : LaD) = ⟨0, []⟩ := rfl
  simp only [← da, ← dF, ← dK, ← dL, eq_self, ne_eq, implies_true, Int.toNat_natCast, ifB_iff, side_iff, decide_eq_true_eq, decide_eq_false_iff_not, true_and, and_true, bne_self_eq_false, Bool.false_eq_true, false_implies, exists_const, forall_const]
  have hl : c.consts.length ≤ 9223372036854775807 := by have := hc.2.2.2.2.1; simpa [maxLen] using this
  have r4 : ∀ a : Arr, a.row.length = 4 := fun a => by cases a; rfl
  have t4 : ∀ a : Arr, List.take 4 (List.drop 0 a.row) = a.row := fun a => by rw [List.drop_zero, List.take_of_length_le (by rw [r4]; exact Nat.le_refl _)]
  have g0 : ∀ {α : Type} [Inhabited α] (g : α → List D) (l : List α), l.length = l.length ∧ ∀ i, i < l.length → g (l.getD i default) = g (l.getD i default) := fun g l => ⟨rfl, fun _ _ => rfl⟩
  simp only [t4, r4]
  exact fun x x1 _ => ⟨⟨0, Nat.zero_le _, rfl⟩, fun i hi => ⟨fun hlt => ⟨⟨by omega, hlt⟩, Nat.le_refl _, ⟨by omega, hlt⟩, Nat.le_refl _, c.consts.getD i default, ⟨weakL_refl _, weakL_refl _⟩, mem_getD (by omega), i + 1, by omega, by omega, wrap_i64' (by omega) (by omega)⟩, fun hge => ⟨c.funs, ⟨g0 _ _, g0 _ _⟩, rfl, c.kers, ⟨g0 _ _, g0 _ _⟩, rfl, c.lanes, ⟨g0 _ _, g0 _ _⟩, rfl⟩⟩⟩
end Go.Proofs.Ytoglbmhkfkghbaa
namespace Go.Proofs.Ytoglbmhkfkghbaa
open Go Go.Ab
set_option maxRecDepth 100000
def nilCode : CodD := ⟨[], [], [], []⟩
def takeC (b : List UInt8) : CodD := if takeE b = 0 then (bodyP (midB b)).getD nilCode else nilCode
theorem takeC_some {b : List UInt8} {c : CodD} (h : takeE b = 0) (hc : bodyP (midB b) = some c) : takeC b = c := by unfold takeC; rw [if_pos h, hc]; rfl
theorem takeC_nil {b : List UInt8} (h : takeE b ≠ 0) : takeC b = nilCode := by unfold takeC; rw [if_neg h]
theorem repL_cons {C : Ctx} {d u : D} {ds us : List D} {vs : List Value} (h1 : ∀ v, Rep C d v → Rep C u v) (h2 : ∀ ws, RepL C ds ws → RepL C us ws) (h : RepL C (d :: ds) vs) : RepL C (u :: us) vs := by
  simp only [RepL] at h ⊢
  obtain ⟨v, r, e, a, b⟩ := h
  exact ⟨v, r, e, h1 v a, h2 r b⟩
theorem nil_row {C : Ctx} {α : Type} [Inhabited α] (w : Nat) (g : α → List D) {v : Value} (h : Rep C (.sl 1 0 (fun _ => []) .nil) v) : Rep C (gsl w g ([] : List α)) v := nil_any h
theorem nils_row {C : Ctx} {vs : List Value} (h : RepL C [.sl 1 0 (fun _ => []) .nil, .sl 1 0 (fun _ => []) .nil, .sl 1 0 (fun _ => []) .nil, .sl 1 0 (fun _ => []) .nil] vs) : RepL C nilCode.row vs :=
  repL_cons (fun _ => nil_row 4 Arr.row) (fun _ => repL_cons (fun _ => nil_row 2 FnD.row) (fun _ => repL_cons (fun _ => nil_row 4 KeD.row) (fun _ => repL_cons (fun _ => nil_row 2 LaD.row) (fun _ h => h)))) h
theorem tup_rep {C : Ctx} {ds us : List D} {z : Int} (h : ∀ cs, RepL C ds cs → RepL C us cs) {e : Ending} (he : RepEnd C (.ret (.tup [.agg ds, .int .i64 z])) e) : RepEnd C (.ret (.tup [.agg us, .int .i64 z])) e := by
  cases e with
  | returned v =>
    simp only [RepEnd, Rep] at he ⊢
    obtain ⟨vs, e1, h1⟩ := he
    refine ⟨vs, e1, repL_cons (fun v hv => ?_) (fun _ h => h) h1⟩
    simp only [Rep] at hv ⊢
    obtain ⟨cs, e2, h2⟩ := hv
    exact ⟨cs, e2, h _ h2⟩
  | panicked _ => exact he.elim
  | outgrown => exact he.elim
theorem row_rep {C : Ctx} {c : CodD} {d1 d2 d3 d4 : D} {vs : List Value} (h1 : ∀ v, Rep C d1 v → Rep C (gsl 4 Arr.row c.consts) v) (h2 : weakD d2 (gsl 2 FnD.row c.funs)) (h3 : weakD d3 (gsl 4 KeD.row c.kers)) (h4 : weakD d4 (gsl 2 LaD.row c.lanes)) (h : RepL C [d1, d2, d3, d4] vs) : RepL C c.row vs :=
  repL_cons h1 (fun _ => repL_cons (weakD_weak _ _ h2 C) (fun _ => repL_cons (weakD_weak _ _ h3 C) (fun _ => repL_cons (weakD_weak _ _ h4 C) (fun _ h => h)))) h
theorem drop_st {k : Nat} {ds : List D} {S : St} {Q : AEnd → Prop} (h : ACalls Try.prog k ds S (fun r _ => Q r)) : ACalls Try.prog k ds S (fun r S' => Q r ∧ S' = ⟨[], []⟩) :=
  h.weaken fun r S' hr => ⟨r, ⟨[], []⟩, by cases r <;> exact weakD_refl _, StTo.none S', hr, rfl⟩
theorem take_j (b : List UInt8) (hb : b.length ≤ 1048576) (hmk : ∀ c, bodyP (midB b) = some c → okC c) : ACalls Try.prog 15 [bsl b .any] ⟨[], []⟩ (SpecR (sC [bsl b .any] (.tup [.agg (takeC b).row, .int .i64 (takeE b)])) ()) := by
  refine ACalls.wkEnd (drop_st (Q := fun r => endT b r ⟨[], []⟩) (take_ok b hb hmk)) fun r S' hr => ?_
  obtain ⟨hr, rfl⟩ := hr
  refine ⟨.ret (.tup [.agg (takeC b).row, .int .i64 (takeE b)]), ?_, (), trivial, rfl, rfl⟩
  · unfold endT at hr
    split at hr
    · rename_i dc df dk dl z
      obtain ⟨rfl, q1, q2⟩ := hr
      intro C e he
      refine tup_rep (fun cs hcs => ?_) he
      by_cases h0 : takeE b = 0
      · obtain ⟨c, k1, k2, k3, k4, k5, k6⟩ := q2 h0
        rw [takeC_some h0 k1]
        refine row_rep (fun v hv => ?_) k3 k4 k5 hcs
        split at k6
        · obtain ⟨k6, rfl, rfl⟩ := k6
          rw [k6]
          exact nil_any hv
        · refine wkD_weak _ _ ?_ C v (weakD_weak _ _ k6 C v hv)
          simp only [wkD, gsl]
          exact chk_iff.2 ⟨rfl, trivial, fun i _ => row1_row _, by simp [weakM]⟩
      · rw [takeC_nil h0]
        exact nils_row (weakL_weak _ _ (q1 h0) C _ hcs)
    · exact hr.elim
end Go.Proofs.Ytoglbmhkfkghbaa
namespace Go.Proofs.Ytoglbmhkfkghbaa
open Go Go.Ab
set_option maxRecDepth 100000
theorem numsB_cons (a : Int) (l : List Int) : numsB (a :: l) = uBf 9 (zig a) ++ numsB l := by simp [numsB]
theorem numsB_nil : numsB [] = [] := rfl
theorem uP_back : ∀ (k i u v : Nat) (r : List UInt8), k + i = 9 → v < 2 ^ (64 - 7 * i) → (i ≠ 0 → 0 < v) → uP i u (uBf k v ++ r) = some (u + v * 2 ^ (7 * i), r)
  | 0, i, u, v, r, hk, hv, hp => by
    have hi : i = 9 := by omega
    subst hi
    have : v = 1 := by have := hp (by decide); simp at hv; omega
    subst this
    simp [uBf, uP]
  | k + 1, i, u, v, r, hk, hv, hp => by
    by_cases h : v < 128
    · rw [uBf_end h]
      have hc : (UInt8.ofNat v).toNat = v := by rw [UInt8.toNat_ofNat']; omega
      simp only [List.cons_append, List.nil_append, uP, hc]
      rw [if_neg (by omega), if_pos h, if_neg (by intro e; have := hp e.2; omega), Nat.mod_eq_of_lt h]
    · rw [uBf_go (by omega)]
      have hc : (UInt8.ofNat (v % 128 + 128)).toNat = v % 128 + 128 := by rw [UInt8.toNat_ofNat']; omega
      have hlt : v / 128 < 2 ^ (64 - 7 * (i + 1)) := by
        rw [Nat.div_lt_iff_lt_mul (by decide)]
        have e : (2 : Nat) ^ (64 - 7 * (i + 1)) * 128 = 2 ^ (64 - 7 * i) := by
          rw [show (128 : Nat) = 2 ^ 7 from rfl, ← Nat.pow_add]; congr 1; omega
        rw [e]; exact hv
      simp only [List.cons_append, uP, hc]
      rw [if_neg (by omega), if_neg (by omega), uP_back k (i + 1) _ (v / 128) r (by omega) hlt (by omega)]
      congr 2
      rw [show 7 * (i + 1) = 7 + 7 * i by omega, Nat.pow_add, show (v % 128 + 128) % 128 = v % 128 by omega]
      have : v = v % 128 + 128 * (v / 128) := by omega
      conv => rhs; rw [this]
      rw [Nat.add_mul, ← Nat.mul_assoc, Nat.mul_comm (v / 128) (2 ^ 7), Nat.add_assoc]
theorem zig_lt {z : Int} (h : inI64 z) : zig z < 2 ^ 64 := by
  unfold inI64 at h
  cases z with
  | ofNat k =>
    have e : Int.ofNat k = (k : Int) := rfl
    rw [e] at h
    simp only [zig]; omega
  | negSucc k => simp only [zig]; omega
theorem unzig_zig (z : Int) : unzig (zig z) = z := by
  cases z with
  | ofNat k => simp only [zig]; unfold unzig; rw [if_neg (by omega)]; simp
  | negSucc k => simp only [zig]; unfold unzig; rw [if_pos (by omega), Int.negSucc_eq]; omega
theorem num_back {z : Int} (h : inI64 z) (r : List UInt8) : numP (uBf 9 (zig z) ++ r) = some (z, r) := by
  unfold numP
  rw [uP_back 9 0 0 _ r rfl (zig_lt h) (fun e => (e rfl).elim)]
  simp only [Nat.zero_add, Nat.mul_zero, Nat.pow_zero, Nat.mul_one, unzig_zig]
theorem cnt_back {n : Nat} {r : List UInt8} (h : n ≤ r.length) (hn : n ≤ maxLen) : cntP (uBf 9 (zig (n : Int)) ++ r) = some (n, r) := by
  unfold cntP
  rw [num_back (by simp only [inI64, maxLen] at *; omega)]
  simp only
  rw [if_pos ⟨by omega, by omega⟩]
  simp
theorem list_back {α : Type} {p : List UInt8 → Option (α × List UInt8)} {q : α → List UInt8} : ∀ (l : List α) (r : List UInt8), (∀ a ∈ l, ∀ r, p (q a ++ r) = some (a, r)) → listP p l.length (l.flatMap q ++ r) = some (l, r)
  | [], r, _ => by simp [listP]
  | a :: l, r, h => by
    rw [List.length_cons, listP, List.flatMap_cons, List.append_assoc, h a (by simp)]
    simp only
    rw [list_back l r fun b hb => h b (by simp [hb])]
theorem arrBL_flat : ∀ l : List Arr, arrBL l = l.flatMap arrB
  | [] => rfl
  | a :: l => by rw [arrBL, List.flatMap_cons, arrBL_flat l]
theorem flat_ge {α : Type} {q : α → List UInt8} : ∀ (l : List α), (∀ a ∈ l, 1 ≤ (q a).length) → l.length ≤ (l.flatMap q).length
  | [], _ => by simp
  | a :: l, h => by
    have h1 := h a (by simp)
    have h2 := flat_ge l fun b hb => h b (by simp [hb])
    simp only [List.flatMap_cons, List.length_append, List.length_cons]; omega
theorem nums_ge (l : List Int) : l.length ≤ (numsB l).length := flat_ge l fun _a _ => (uBf_len _ _).2
theorem nums_list (l : List Int) (r : List UInt8) (h : ∀ z ∈ l, inI64 z) : listP numP l.length (numsB l ++ r) = some (l, r) := list_back l r fun a ha r => num_back (h a ha) r
theorem chkL_all : ∀ (l : List Arr) (d w d' w' : Int), chkL l d w = some (d', w') → d ≤ d' ∧ ∀ x ∈ l, (chkA x).1 = 0 ∧ (chkA x).2.1 + 1 ≤ d'
  | [], d, w, d', w', h => by
    rw [chkL] at h; injection h with h; injection h with h _
    exact ⟨by omega, by simp⟩
  | x :: r, d, w, d', w', h => by
    rw [chkL] at h
    split at h
    · cases h
    · rename_i hx
      have hx : (chkA x).1 = 0 := by simpa using hx
      obtain ⟨h1, h2⟩ := chkL_all r _ _ _ _ h
      refine ⟨?_, ?_⟩
      · split at h1 <;> omega
      · intro y hy
        rcases List.mem_cons.1 hy with rfl | hy
        · exact ⟨hx, by split at h1 <;> omega⟩
        · exact h2 y hy
theorem form_zeros {k : Int} {s : List Int} {nn ni : Nat} (h : formS k s nn ni = 0) : (1 ≤ k ∧ k ≤ 3) ∧ rightS s = true ∧ (k = 3 → nn = 0 ∧ (ni : Int) = sizeS s) ∧ (k ≠ 3 → ni = 0 ∧ (nn : Int) = sizeS s) := by
  unfold formS at h
  by_cases hk : k = 1 ∨ k = 2 ∨ k = 3
  · rw [if_pos hk] at h
    by_cases hd : dimsS s ≠ 0
    · rw [if_pos hd] at h; exact (hd h).elim
    · rw [if_neg hd] at h
      have hd : dimsS s = 0 := by simpa using hd
      have hr : rightS s = true := by
        unfold dimsS at hd
        by_cases h8 : 8 < s.length
        · rw [if_pos h8] at hd; omega
        · rw [if_neg h8] at hd
          by_cases hn : (s.any fun d => decide (d < 0)) = true
          · rw [if_pos hn] at hd; omega
          · rw [if_neg hn] at hd
            by_cases hg : (goO s 1).isSome = true
            · unfold rightS; rw [hg]; simpa using by omega
            · rw [if_neg hg] at hd; omega
      refine ⟨by omega, hr, fun h3 => ?_, fun h3 => ?_⟩
      · rw [if_pos h3, if_pos h3] at h
        by_cases h2 : (ni : Int) ≠ sizeS s ∨ (nn : Int) ≠ 0
        · rw [if_pos h2] at h; omega
        · omega
      · rw [if_neg h3, if_neg h3] at h
        by_cases h2 : (nn : Int) ≠ sizeS s ∨ (ni : Int) ≠ 0
        · rw [if_pos h2] at h; omega
        · omega
  · rw [if_neg hk] at h; omega
theorem arrB_ge (a : Arr) : 1 ≤ (arrB a).length := by
  rw [arrB_eq, numsB_cons]
  have := (uBf_len 9 (zig a.k)).2
  simp only [List.length_append]; omega
theorem arr_back : ∀ (a : Arr) (f : Nat) (r : List UInt8), a.ok → (chkA a).1 = 0 → (chkA a).2.1 < (f : Int) → arrP f (arrB a ++ r) = some (a, r)
  | .mk k s n is, f, r, ho, hc, hf => by
    have hb := chkA_bounds (.mk k s n is)
    simp only [Arr.ok] at ho
    obtain ⟨o1, o2, o3, m1, m2, m3, o4⟩ := ho
    cases f with
    | zero => omega
    | succ f =>
      rw [chkA] at hc hf
      split at hc
      · rename_i h1; exact (h1 hc).elim
      · rename_i h1
        rw [if_neg h1] at hf
        have h1 : formS k s n.length is.length = 0 := by simpa using h1
        split at hc
        · omega
        · rename_i h2
          rw [if_neg h2] at hf
          obtain ⟨hk, hr, hs⟩ := form_zeros h1
          cases hl : chkL is 0 ((n.length : Int) + is.length) with
          | none => rw [hl] at hc; simp at hc
          | some q =>
            rw [hl] at hc hf
            simp only at hc hf
            obtain ⟨d, w⟩ := q
            split at hc
            · omega
            · rename_i h3
              rw [if_neg h3] at hf
              simp only at hf
              obtain ⟨_, hi⟩ := chkL_all _ _ _ _ _ hl
              rw [arrB]
              simp only [numsB_cons, numsB_nil, List.append_nil, List.append_assoc]
              have e1 := num_back o1 (uBf 9 (zig (s.length : Int)) ++ (numsB s ++ (numsB n ++ (arrBL is ++ r))))
              have e2 : cntP (uBf 9 (zig (s.length : Int)) ++ (numsB s ++ (numsB n ++ (arrBL is ++ r)))) = some (s.length, numsB s ++ (numsB n ++ (arrBL is ++ r))) :=
                cnt_back (by have := nums_ge s; simp only [List.length_append]; omega) m1
              have e3 := nums_list s (numsB n ++ (arrBL is ++ r)) o2
              by_cases h3 : k = 3
              · replace hs := hs.1 h3
                have hn : n = [] := List.length_eq_zero_iff.1 hs.1
                subst hn
                have ez : (sizeS s).toNat = is.length := by omega
                have e4 : listP (arrP f) (sizeS s).toNat (numsB [] ++ (arrBL is ++ r)) = some (is, r) := by
                  rw [ez, numsB_nil, List.nil_append, arrBL_flat]
                  exact list_back is r fun a ha r => by
                    have := hi a ha
                    exact arr_back a f r ((okL_iff _).1 o4 a ha) this.1 (by omega)
                rw [arrP_items e1 hk e2 e3 hr h3, e4]
              · replace hs := hs.2 h3
                have hn : is = [] := List.length_eq_zero_iff.1 hs.1
                subst hn
                have ez : (sizeS s).toNat = n.length := by omega
                have e4 : listP numP (sizeS s).toNat (numsB n ++ (arrBL [] ++ r)) = some (n, r) := by
                  rw [ez, arrBL, List.nil_append]; exact nums_list n r o3
                rw [arrP_nums e1 hk e2 e3 hr h3, e4]
termination_by a => SizeOf.sizeOf a
decreasing_by
  have := List.sizeOf_lt_of_mem ha
  simp only [Arr.mk.sizeOf_spec]
  omega
theorem p4_back {x : I4} (h : x.ok) (r : List UInt8) : p4 (i4B x ++ r) = some (x, r) := by
  obtain ⟨a, b, c, d⟩ := h
  simp only [i4B, numsB_cons, numsB_nil, List.append_nil, List.append_assoc, p4]
  rw [bindP_some (num_back a _), bindP_some (num_back b _), bindP_some (num_back c _), bindP_some (num_back d _)]
theorem p6_back {x : I6} (h : x.ok) (r : List UInt8) : p6 (i6B x ++ r) = some (x, r) := by
  obtain ⟨a, b, c, d, e, f⟩ := h
  simp only [i6B, numsB_cons, numsB_nil, List.append_nil, List.append_assoc, p6]
  rw [bindP_some (num_back a _), bindP_some (num_back b _), bindP_some (num_back c _), bindP_some (num_back d _), bindP_some (num_back e _), bindP_some (num_back f _)]
theorem i4_ge (x : I4) : 1 ≤ (i4B x).length := by
  have := nums_ge [x.a, x.b, x.c, x.d]
  simp only [List.length_cons] at this; unfold i4B; omega
theorem i6_ge (x : I6) : 1 ≤ (i6B x).length := by
  have := nums_ge [x.a, x.b, x.c, x.d, x.e, x.f]
  simp only [List.length_cons] at this; unfold i6B; omega
theorem fun_back {x : FnD} (h : x.ok) (r : List UInt8) : funP (funB x ++ r) = some (x, r) := by
  obtain ⟨a, b, c⟩ := h
  simp only [funB, numsB_cons, numsB_nil, List.append_nil, List.append_assoc, funP]
  rw [bindP_some (num_back a _), bindP_some (cnt_back (by have := flat_ge x.code (q := i4B) fun a _ => i4_ge a; simp only [List.length_append]; omega) c), bindP_some (list_back x.code r fun y hy r => p4_back (b y hy) r)]
theorem ker_back {x : KeD} (h : x.ok) (r : List UInt8) : kerP (kerY x ++ r) = some (x, r) := by
  obtain ⟨a, b, c, d, e⟩ := h
  simp only [kerY, numsB_cons, numsB_nil, List.append_nil, List.append_assoc, kerP]
  rw [bindP_some (num_back a _), bindP_some (cnt_back (by have := flat_ge x.ops (q := i4B) fun a _ => i4_ge a; simp only [List.length_append]; omega) c), bindP_some (list_back x.ops _ fun y hy r => p4_back (b y hy) r), bindP_some (num_back d _), bindP_some (num_back e _)]
theorem lan_back {x : LaD} (h : x.ok) (r : List UInt8) : lanP (lanB x ++ r) = some (x, r) := by
  obtain ⟨a, b, c⟩ := h
  simp only [lanB, numsB_cons, numsB_nil, List.append_nil, List.append_assoc, lanP]
  rw [bindP_some (num_back a _), bindP_some (cnt_back (by have := flat_ge x.code (q := i6B) fun a _ => i6_ge a; simp only [List.length_append]; omega) c), bindP_some (list_back x.code r fun y hy r => p6_back (b y hy) r)]
theorem hd_ge {a : Int} {l : List Int} {r : List UInt8} : 1 ≤ (numsB (a :: l) ++ r).length := by
  rw [numsB_cons]; have := (uBf_len 9 (zig a)).2; simp only [List.length_append]; omega
theorem fun_ge (x : FnD) : 1 ≤ (funB x).length := hd_ge
theorem ker_ge (x : KeD) : 1 ≤ (kerY x).length := hd_ge
theorem lan_ge (x : LaD) : 1 ≤ (lanB x).length := hd_ge
theorem body_back {c : CodD} (h : c.ok) (hr : rightC c = 0) : bodyP (codeB c) = some c := by
  refine bodyP_of ?_
  obtain ⟨a1, a2, a3, a4, b1, b2, b3, b4⟩ := h
  have hc := right_consts hr
  simp only [codeB, tl2, tl3, tl4, numsB_cons, numsB_nil, List.append_nil, codP]
  rw [bindP_some (cnt_back (by have := flat_ge c.consts (q := arrB) fun a _ => arrB_ge a; rw [arrBL_flat]; simp only [List.length_append]; omega) b1)]
  rw [arrBL_flat, bindP_some (list_back c.consts _ fun a ha r => arr_back a 17 r (a1 a ha) (hc a ha) (by have := chkA_bounds a; omega))]
  unfold codT
  rw [bindP_some (cnt_back (by have := flat_ge c.funs (q := funB) fun a _ => fun_ge a; simp only [List.length_append]; omega) b2)]
  rw [bindP_some (list_back c.funs _ fun a ha r => fun_back (a2 a ha) r)]
  rw [bindP_some (cnt_back (by have := flat_ge c.kers (q := kerY) fun a _ => ker_ge a; simp only [List.length_append]; omega) b3)]
  rw [bindP_some (list_back c.kers _ fun a ha r => ker_back (a3 a ha) r)]
  rw [bindP_some (cnt_back (flat_ge c.lanes (q := lanB) fun a _ => lan_ge a) b4)]
  have e := list_back c.lanes [] fun a ha r => lan_back (a4 a ha) r
  rw [List.append_nil] at e
  rw [bindP_some e]
theorem sumB_len (s : Nat) : (sumB s).length = 4 := rfl
theorem seal_len (l : List UInt8) : (sealB l).length = l.length + 8 := by simp [sealB, sumB_len]
theorem mid_seal (l : List UInt8) : midB (sealB l) = l := by
  unfold midB
  rw [seal_len]
  simp only [sealB, List.append_assoc]
  rw [List.drop_append_of_le_length (by simp)]
  simp []
theorem ek_seal {l : List UInt8} (h : l.length ≤ 1048568) : ekB (sealB l) = 0 := by
  unfold ekB
  have hl := seal_len l
  have e1 : (sealB l).take ((sealB l).length - 4) = [65, 76, 67, 49] ++ l := by
    rw [hl]; unfold sealB
    rw [List.take_append_of_le_length (by simp), List.take_of_length_le (by simp)]
  have e2 : (sealB l).drop ((sealB l).length - 4) = sumB (sumN ([65, 76, 67, 49] ++ l)) := by
    rw [hl]; unfold sealB
    rw [List.drop_append_of_le_length (by simp), List.drop_of_length_le (by simp)]; rfl
  have e3 : (sealB l).take 4 = [65, 76, 67, 49] := by simp [sealB]
  rw [if_neg (by omega), if_neg (by omega), if_neg (by simp [e3]), if_neg (by rw [e1, e2]; simp)]
end Go.Proofs.Ytoglbmhkfkghbaa
namespace Go.Proofs.Ytoglbmhkfkghbaa
open Go Go.Ab
set_option maxRecDepth 100000
theorem right_c0 (m m' : Ab.Mode) : ACalls Try.prog 20 [c0 m m'] ⟨[], []⟩ (fun r _ => weakEnd r (.ret (.int .i64 0))) := by
  refine inlS conS_ok _ _ _ _ ?_
  refine vc_eq (T :=
    ∀ (x : Nat), True → SM x ∧ ∀ (x_1 : Nat), x ≠ x_1 ∧ True → SM x_1 ∧ SM x_1 ∧ SM x ∧ SM x ∧ SM x ∧ SM x ∧ True ∧ True ∧ SM x ∧ SM x ∧ SM x ∧ True ∧ True ∧ SM x ∧ SM x ∧ ∀ (x_2 : Nat), x_1 ≠ x_2 ∧ x ≠ x_2 ∧ True → SM x_2 ∧ ∀ (x_3 : Nat), x_2 ≠ x_3 ∧ x_1 ≠ x_3 ∧ x ≠ x_3 ∧ True → SM x_3 ∧ SM x_3 ∧ SM x_3 ∧ True ∧ SM x_3 ∧ ∀ (x_4 : Nat), x_3 ≠ x_4 ∧ x_2 ≠ x_4 ∧ x_1 ≠ x_4 ∧ x ≠ x_4 ∧ True → SM x_3 ∧ ∀ (x_5 : Nat), x_4 ≠ x_5 ∧ x_3 ≠ x_5 ∧ x_2 ≠ x_5 ∧ x_1 ≠ x_5 ∧ x ≠ x_5 ∧ True → SM x_5 ∧ SM x_4 ∧ SM x_2 ∧ SM x_5 ∧ ∀ (x_6 : Nat), x_5 ≠ x_6 ∧ x_4 ≠ x_6 ∧ x_3 ≠ x_6 ∧ x_2 ≠ x_6 ∧ x_1 ≠ x_6 ∧ x ≠ x_6 ∧ True → ∀ (x_7 : Nat), x_6 ≠ x_7 ∧ x_5 ≠ x_7 ∧ x_4 ≠ x_7 ∧ x_3 ≠ x_7 ∧ x_2 ≠ x_7 ∧ x_1 ≠ x_7 ∧ x ≠ x_7 ∧ True → ∀ (x_8 : Nat), x_7 ≠ x_8 ∧ x_6 ≠ x_8 ∧ x_5 ≠ x_8 ∧ x_4 ≠ x_8 ∧ x_3 ≠ x_8 ∧ x_2 ≠ x_8 ∧ x_1 ≠ x_8 ∧ x ≠ x_8 ∧ True → SM x_7 ∧ ∀ (x_9 : Nat), x_8 ≠ x_9 ∧ x_7 ≠ x_9 ∧ x_6 ≠ x_9 ∧ x_5 ≠ x_9 ∧ x_4 ≠ x_9 ∧ x_3 ≠ x_9 ∧ x_2 ≠ x_9 ∧ x_1 ≠ x_9 ∧ x ≠ x_9 ∧ True → SM x_7 ∧ SM x_7 ∧ ∀ (x_10 : Nat), x_9 ≠ x_10 ∧ x_8 ≠ x_10 ∧ x_7 ≠ x_10 ∧ x_6 ≠ x_10 ∧ x_5 ≠ x_10 ∧ x_4 ≠ x_10 ∧ x_3 ≠ x_10 ∧ x_2 ≠ x_10 ∧ x_1 ≠ x_10 ∧ x ≠ x_10 ∧ True → ∀ (x_11 : Nat), x_10 ≠ x_11 ∧ x_9 ≠ x_11 ∧ x_8 ≠ x_11 ∧ x_7 ≠ x_11 ∧ x_6 ≠ x_11 ∧ x_5 ≠ x_11 ∧ x_4 ≠ x_11 ∧ x_3 ≠ x_11 ∧ x_2 ≠ x_11 ∧ x_1 ≠ x_11 ∧ x ≠ x_11 ∧ True → SM x_10 ∧ SM x_10 ∧ SM x_10 ∧ SM x_11 ∧ (SM x_11 ∧ True) ∧ SM x_8 ∧ (SM x_8 ∧ True) ∧ ∀ (x_12 : Nat), x_11 ≠ x_12 ∧ x_10 ≠ x_12 ∧ x_9 ≠ x_12 ∧ x_8 ≠ x_12 ∧ x_7 ≠ x_12 ∧ x_6 ≠ x_12 ∧ x_5 ≠ x_12 ∧ x_4 ≠ x_12 ∧ x_3 ≠ x_12 ∧ x_2 ≠ x_12 ∧ x_1 ≠ x_12 ∧ x ≠ x_12 ∧ True → SM x_12 ∧ SM x_12 ∧ SM x_5 ∧ SM x_12 ∧ ∀ (x_13 : Nat), x_12 ≠ x_13 ∧ x_11 ≠ x_13 ∧ x_10 ≠ x_13 ∧ x_9 ≠ x_13 ∧ x_8 ≠ x_13 ∧ x_7 ≠ x_13 ∧ x_6 ≠ x_13 ∧ x_5 ≠ x_13 ∧ x_4 ≠ x_13 ∧ x_3 ≠ x_13 ∧ x_2 ≠ x_13 ∧ x_1 ≠ x_13 ∧ x ≠ x_13 ∧ True → SM x_13 ∧ SM x_13 ∧ SM x_13 ∧ SM x_13 ∧ SM x_13 ∧ ∀ (t : Nat), True ∧ SM x_5 ∧ SM x_5 ∧ SM x_3 ∧ ∀ (x_14 : Nat), x_13 ≠ x_14 ∧ x_12 ≠ x_14 ∧ x_11 ≠ x_14 ∧ x_10 ≠ x_14 ∧ x_9 ≠ x_14 ∧ x_8 ≠ x_14 ∧ x_7 ≠ x_14 ∧ x_6 ≠ x_14 ∧ x_5 ≠ x_14 ∧ x_4 ≠ x_14 ∧ x_3 ≠ x_14 ∧ x_2 ≠ x_14 ∧ x_1 ≠ x_14 ∧ x ≠ x_14 ∧ True → SM x_14 ∧ SM x_14 ∧ True ∧ True ∧ SM Z0) (by kernel_rfl) ?_
  delta SM Z0
  repeat' (first | exact trivial | refine And.intro ?_ ?_ | exact rows_eq (by kernel_rfl) | intro _ | kernel_rfl | exact weakM_refl _ | exact Nat.le_of_ble_eq_true (by kernel_rfl))
def conA1 (k : Nat) (ds : List D) (S : St) : Option FnSpec :=
  match k with
  | 20 => match ds with
    | [.agg [_, .sl 2 1 f m, _, _]] => match f 0 with
      | [_, .sl 4 1 _ m'] => some (sC [c0 m m'] (.int .i64 0))
      | _ => none
    | _ => none
  | _ => conS k ds S
theorem conA1_ok : ConOk Try.prog conA1 := by
  intro k ds S A h
  unfold conA1 at h
  split at h
  · split at h
    · split at h
      · injection h with h; subst h
        exact ConOk.closed (right_c0 _ _)
      · cases h
    · cases h
  · exact conS_ok _ _ _ _ h
end Go.Proofs.Ytoglbmhkfkghbaa
namespace Go.Proofs.Ytoglbmhkfkghbaa
open Go Go.Ab
set_option maxRecDepth 100000
theorem tokIs_one (a : Nat) : tokIs [(0, a)] 0 a := rfl
noncomputable section
def aw2q0 : Prop := SM N0 ∧ (∀ (i : Nat), i < N0 → eqOf (List D) [] []) ∧ True
def aw2q1 : List D := [ZI Z0]
def aw2q2 (p0 : Ab.Mode) (p1 : Nat) : List D := List.getD [[ZI Z0, D.sl N4 N1 (fun (i : Nat) => List.getD [ZI (25 : Int) :: ZI Z0 :: ZI Z0 :: aw2q1] i []) p0]] p1 []
def aw2q3 (p0 : Nat) : Prop := tokIs [(N0, p0)] N0 p0
def aw2q4 (p0 : List UInt8) (p1 : Nat) : List D := [ZB (BI p0 p1)]
def aw2q5 (p0 : List UInt8) : List UInt8 := bytesOf (LN p0) fun (i : Nat) => aw2q4 p0 i
def aw2q6 (p0 p1 : Nat) (p2 : List UInt8) : Prop := (SM p0 ∧ aw2q3 p1 ∧ fitP (LN p2) (fun (i : Nat) => aw2q4 p2 i) N1 fun (i : Nat) => List.getD [aw2q1] i []) ∧ True
def aw2q7 (p0 p1 : List UInt8) : Prop := p0 = aw2q5 p1 ++ [U0]
def aw2q8 (p0 : List UInt8) (p1 : Nat) : D := D.sl N1 (LN p0) (fun (i : Nat) => aw2q4 p0 i) (Mode.tok N0 p1)
def aw2q9 (p0 : Nat) (p1 : List UInt8) (p2 : Nat) : Prop := SM p0 ∧ SM (aw2q8 p1 p2)
def aw2q10 (p0 : List UInt8) : Int := (NI (sumN (aw2q5 p0)))
def aw2q11 (p0 : List UInt8) (p1 : Nat) : D := D.sl N1 (LN p0 + N1) (appF (LN p0) (fun (i : Nat) => aw2q4 p0 i) fun (i : Nat) => List.getD [[ZB (IntKind.wrap IntKind.u8 (Int.fdiv (aw2q10 p0) (16777216 : Int)))]] i []) (Mode.tok N0 p1)
def aw2q12 (p0 : Nat) (p1 : List UInt8) (p2 : Nat) : Prop := SM p0 ∧ SM (aw2q11 p1 p2)
def aw2q13 (p0 : List UInt8) (p1 : Nat) : D := D.sl N1 (LN p0 + N1 + N1) (appF (LN p0 + N1) (appF (LN p0) (fun (i : Nat) => aw2q4 p0 i) fun (i : Nat) => List.getD [[ZB (IntKind.wrap IntKind.u8 (Int.fdiv (aw2q10 p0) (16777216 : Int)))]] i []) fun (i : Nat) => List.getD [[ZB (IntKind.wrap IntKind.u8 (Int.fdiv (aw2q10 p0) (65536 : Int)))]] i []) (Mode.tok N0 p1)
def aw2q14 (p0 : Nat) (p1 : List UInt8) (p2 : Nat) : Prop := SM p0 ∧ SM (aw2q13 p1 p2)
def aw2q15 (p0 : List UInt8) : Nat := LN p0 + N1 + N1 + N1
def aw2q16 (p0 : List UInt8) (p1 : Nat) : D := D.sl N1 (aw2q15 p0) (appF (LN p0 + N1 + N1) (appF (LN p0 + N1) (appF (LN p0) (fun (i : Nat) => aw2q4 p0 i) fun (i : Nat) => List.getD [[ZB (IntKind.wrap IntKind.u8 (Int.fdiv (aw2q10 p0) (16777216 : Int)))]] i []) fun (i : Nat) => List.getD [[ZB (IntKind.wrap IntKind.u8 (Int.fdiv (aw2q10 p0) (65536 : Int)))]] i []) fun (i : Nat) => List.getD [[ZB (IntKind.wrap IntKind.u8 (Int.fdiv (aw2q10 p0) (256 : Int)))]] i []) (Mode.tok N0 p1)
def aw2q17 (p0 : Nat) (p1 : List UInt8) (p2 : Nat) : Prop := SM p0 ∧ SM (aw2q16 p1 p2)
def aw2q18 (p0 : List UInt8) : Nat := aw2q15 p0 + N1
def aw2q19 : List D := [ZB Z0]
def aw2q20 (p0 : Nat) : List D := List.getD [[ZB (65 : Int)], [ZB (76 : Int)], [ZB (67 : Int)], [ZB (49 : Int)], aw2q19, [ZB (2 : Int)], aw2q19, [ZB (2 : Int)], [ZB (50 : Int)], aw2q19, aw2q19, aw2q19, aw2q19, aw2q19, [ZB (116 : Int)], [ZB (248 : Int)], [ZB (41 : Int)], [ZB (197 : Int)]] p0 []
end
theorem put0 (m m' : Ab.Mode) : ACalls Try.prog 13 [c0 m m'] ⟨[], []⟩ (fun r _ => weakEnd r (.ret (.tup [d0 .any, .int .i64 0]))) := by
  refine inlS (conW_ok conA1_ok) _ _ _ _ ?_
  refine vc_eq (T :=
    ∀ (x : Nat), True → SM x ∧ ∃ (x_1 : Unit), ((aw2q0 ∧ (SM N1 ∧ (∀ (i : Nat), i < N1 → SM (aw2q2 m' i)) ∧ weakM m m) ∧ aw2q0 ∧ aw2q0 ∧ True) ∧ True) ∧ (True ∧ True) ∧ True ∧ ∀ (y : Unit), True → True ∧ ∀ (x_2 : Nat), x ≠ x_2 ∧ True → SM x ∧ ∀ (x_3 : Nat), x_2 ≠ x_3 ∧ x ≠ x_3 ∧ True → SM x_3 ∧ ((SM x_2 ∧ fitP N4 (fun (i : Nat) => List.getD [[ZB (65 : Int)], [ZB (76 : Int)], [ZB (67 : Int)], [ZB (49 : Int)]] i []) N1 fun (i : Nat) => List.getD [aw2q1] i []) ∧ True) ∧ ∀ (y : Nat × List UInt8), y.2 = [(65 : UInt8), (76 : UInt8), (67 : UInt8), (49 : UInt8), U0] → SM x_3 ∧ SM x_3 ∧ ((SM x_2 ∧ aw2q3 y.1 ∧ fitP (LN y.2) (fun (i : Nat) => aw2q4 y.2 i) N1 fun (i : Nat) => List.getD [[ZI Z1]] i []) ∧ True) ∧ ∀ (y_1 : Nat × List UInt8), y_1.2 = aw2q5 y.2 ++ [(2 : UInt8)] → SM x_3 ∧ ∀ (x_4 : Nat), x_2 ≠ x_4 ∧ x_3 ≠ x_4 ∧ x ≠ x_4 ∧ True → SM x_4 ∧ SM x_4 ∧ SM x_4 ∧ ((SM x_2 ∧ aw2q3 y_1.1 ∧ fitP (LN y_1.2) (fun (i : Nat) => aw2q4 y_1.2 i) N2 fun (i : Nat) => List.getD [aw2q1, [ZI Z1]] i []) ∧ True) ∧ ∀ (y : Nat × List UInt8), y.2 = aw2q5 y_1.2 ++ [U0, (2 : UInt8)] → SM x_4 ∧ ∀ (x_5 : Nat), x_2 ≠ x_5 ∧ x_4 ≠ x_5 ∧ x_3 ≠ x_5 ∧ x ≠ x_5 ∧ True → SM x_5 ∧ SM x_5 ∧ SM x_5 ∧ SM x_5 ∧ SM x_5 ∧ ((SM x_2 ∧ aw2q3 y.1 ∧ fitP (LN y.2) (fun (i : Nat) => aw2q4 y.2 i) N4 fun (i : Nat) => List.getD [[ZI (25 : Int)], aw2q1, aw2q1, aw2q1] i []) ∧ True) ∧ ∀ (y_2 : Nat × List UInt8), y_2.2 = aw2q5 y.2 ++ [(50 : UInt8), U0, U0, U0] → SM x_3 ∧ aw2q6 x_2 y_2.1 y_2.2 ∧ ∀ (y : Nat × List UInt8), aw2q7 y.2 y_2.2 → SM x_3 ∧ SM x_3 ∧ aw2q6 x_2 y.1 y.2 ∧ ∀ (y_3 : Nat × List UInt8), aw2q7 y_3.2 y.2 → SM x_3 ∧ True ∧ SM x_2 ∧ ((rowsB (LN y_3.2) fun (i : Nat) => aw2q4 y_3.2 i) = true ∧ LN (aw2q5 y_3.2) ≤ (9223372036854775807 : Nat)) ∧ ∀ (y : Unit), True → SM x_2 ∧ aw2q9 x_2 y_3.2 y_3.1 ∧ aw2q9 x_2 y_3.2 y_3.1 ∧ SM y_3.1 ∧ side ((LN y_3.2 + N1) * N1 ≤ (140737488355328 : Nat) ∧ LN y_3.2 + N1 ≤ (9223372036854775807 : Nat)) (∀ (t : Nat), SM x_2 ∧ SM x_2 ∧ aw2q12 x_2 y_3.2 t ∧ aw2q12 x_2 y_3.2 t ∧ SM t ∧ side ((LN y_3.2 + N1 + N1) * N1 ≤ (140737488355328 : Nat) ∧ LN y_3.2 + N1 + N1 ≤ (9223372036854775807 : Nat)) (∀ (t : Nat), SM x_2 ∧ SM x_2 ∧ aw2q14 x_2 y_3.2 t ∧ aw2q14 x_2 y_3.2 t ∧ SM t ∧ side (aw2q15 y_3.2 * N1 ≤ (140737488355328 : Nat) ∧ aw2q15 y_3.2 ≤ (9223372036854775807 : Nat)) (∀ (t : Nat), SM x_2 ∧ SM x_2 ∧ aw2q17 x_2 y_3.2 t ∧ aw2q17 x_2 y_3.2 t ∧ SM t ∧ side (aw2q18 y_3.2 * N1 ≤ (140737488355328 : Nat) ∧ aw2q18 y_3.2 ≤ (9223372036854775807 : Nat)) (∀ (t : Nat), SM x_2 ∧ SM x_2 ∧ ifB (decide ((1048576 : Int) < (NI (aw2q18 y_3.2)))) (True ∧ (N0 = (18 : Nat) ∧ (∀ (i : Nat), i < N0 → eqOf (List D) [] (aw2q20 i)) ∧ True) ∧ (21 : Int) = Z0 ∧ True) (SM x_2 ∧ True ∧ (aw2q18 y_3.2 = (18 : Nat) ∧ (∀ (i : Nat), i < aw2q18 y_3.2 → appF (aw2q15 y_3.2) (appF (LN y_3.2 + N1 + N1) (appF (LN y_3.2 + N1) (appF (LN y_3.2) (fun (i : Nat) => aw2q4 y_3.2 i) fun (i : Nat) => List.getD [[ZB (IntKind.wrap IntKind.u8 (Int.fdiv (aw2q10 y_3.2) (16777216 : Int)))]] i []) fun (i : Nat) => List.getD [[ZB (IntKind.wrap IntKind.u8 (Int.fdiv (aw2q10 y_3.2) (65536 : Int)))]] i []) fun (i : Nat) => List.getD [[ZB (IntKind.wrap IntKind.u8 (Int.fdiv (aw2q10 y_3.2) (256 : Int)))]] i []) (fun (i : Nat) => List.getD [[ZB (IntKind.wrap IntKind.u8 (Int.fdiv (aw2q10 y_3.2) Z1))]] i []) i = aw2q20 i) ∧ True) ∧ SM Z0 ∧ True)))))) (by kernel_rfl) ?_
  delta BI LN N0 N1 N2 N4 NI SM U0 Z0 Z1 ZB ZI aw2q0 aw2q1 aw2q10 aw2q11 aw2q12 aw2q13 aw2q14 aw2q15 aw2q16 aw2q17 aw2q18 aw2q19 aw2q2 aw2q20 aw2q3 aw2q4 aw2q5 aw2q6 aw2q7 aw2q8 aw2q9
  simp only [Prod.forall, forall_eq, bytesOf_bsl, rowsB_bsl, side_iff, ifB_iff, true_and, and_true, fitP, List.cons_append, List.nil_append, List.length_cons, List.length_nil, Nat.reduceAdd, Nat.reduceMul, Int.cast_ofNat_Int, Int.reduceLT, decide_eq_true_eq, decide_eq_false_iff_not, false_implies, not_false_eq_true, forall_const]
  repeat' (first | exact trivial | exact tokIs_one _ | refine Exists.intro () ?_ | refine And.intro ?_ ?_ | exact rows_eq (by kernel_rfl) | intro _ | kernel_rfl | exact weakM_refl _ | exact Nat.le_of_ble_eq_true (by kernel_rfl))
  all_goals trace_state
end Go.Proofs.Ytoglbmhkfkghbaa
namespace Go.Proofs.Ytoglbmhkfkghbaa
open Go Go.Ab
set_option maxRecDepth 100000
noncomputable section
def aw3q0 : Prop := SM N0 ∧ (∀ (i : Nat), i < N0 → eqOf (List D) [] []) ∧ True
end
theorem takeN (m : Ab.Mode) : ACalls Try.prog 15 [.sl 1 0 (fun _ => []) m] ⟨[], []⟩ (fun r _ => weakEnd r (.ret (.tup [.agg [nils, nils, nils, nils], .int .i64 7]))) := by
  refine inlS conA1_ok _ _ _ _ ?_
  refine vc_eq (T :=
    ∀ (x : Nat), True → SM x ∧ (SM x ∧ True) ∧ (aw3q0 ∧ aw3q0 ∧ aw3q0 ∧ aw3q0 ∧ True) ∧ SM (7 : Int) ∧ True) (by kernel_rfl) ?_
  delta N0 SM aw3q0
  simp only [true_and, and_true]
  repeat' (first | exact trivial | refine Exists.intro () ?_ | refine And.intro ?_ ?_ | exact rows_eq (by kernel_rfl) | intro _ | kernel_rfl | exact weakM_refl _ | exact Nat.le_of_ble_eq_true (by kernel_rfl))
noncomputable section
def aw3q1 (p0 : Nat) : Prop := SM p0 ∧ SM (D.sl N1 N0 (fun (_x : Nat) => []) Mode.nil)
def aw3q2 : Prop := SM N0 ∧ (∀ (i : Nat), i < N0 → eqOf (List D) [] []) ∧ True
def aw3q3 : List (List D) := [[ZI (25 : Int), ZI Z0, ZI Z0, ZI Z0]]
def aw3q4 (p0 p1 : Nat) : List D := appF N0 (fun (_x : Nat) => []) (fun (i : Nat) => List.getD [[ZI Z0, D.sl N4 N1 (fun (i : Nat) => List.getD aw3q3 (i - N0) []) (Mode.tok N0 p0)]] i []) p1
def aw3q5 (p0 p1 : Nat) : List D := List.getD [[ZI Z0, D.sl N4 N1 (fun (i : Nat) => List.getD aw3q3 i []) (Mode.tok N0 p0)]] p1 []
def aw3q6 : Prop := aw3q2 ∧ aw3q2 ∧ True
end
theorem take0 : ACalls Try.prog 15 [d0 .any] ⟨[], []⟩ (fun r _ => ∃ t, weakEnd r (.ret (.tup [c0 .any (.tok 0 t), .int .i64 0]))) := by
  refine inlS conA1_ok _ _ _ _ ?_
  refine vc_eq (T :=
    ∀ (x : Nat), True → True ∧ (SM true ∧ (14 : Nat) ≤ (9223372036854775807 : Nat)) ∧ ∀ (y : Unit), True → True ∧ ∀ (x_1 : Nat), x ≠ x_1 ∧ True → ∀ (x_2 : Nat), x_1 ≠ x_2 ∧ x ≠ x_2 ∧ True → ∀ (x_3 : Nat), x_2 ≠ x_3 ∧ x_1 ≠ x_3 ∧ x ≠ x_3 ∧ True → ∀ (x_4 : Nat), x_3 ≠ x_4 ∧ x_2 ≠ x_4 ∧ x_1 ≠ x_4 ∧ x ≠ x_4 ∧ True → ∀ (x_5 : Nat), x_4 ≠ x_5 ∧ x_3 ≠ x_5 ∧ x_2 ≠ x_5 ∧ x_1 ≠ x_5 ∧ x ≠ x_5 ∧ True → SM x_3 ∧ True ∧ SM x_3 ∧ SM x_3 ∧ SM x_3 ∧ True ∧ True ∧ True ∧ SM x_3 ∧ True ∧ True ∧ SM x_3 ∧ True ∧ SM x_3 ∧ SM x_3 ∧ SM x_3 ∧ True ∧ True ∧ True ∧ SM x_3 ∧ True ∧ True ∧ SM x_3 ∧ True ∧ SM x_3 ∧ SM x_3 ∧ SM x_3 ∧ True ∧ True ∧ True ∧ ∀ (x_6 : Nat), x_5 ≠ x_6 ∧ x_4 ≠ x_6 ∧ x_3 ≠ x_6 ∧ x_2 ≠ x_6 ∧ x_1 ≠ x_6 ∧ x ≠ x_6 ∧ True → SM x_6 ∧ SM x_3 ∧ True ∧ SM x_3 ∧ SM x_3 ∧ SM x_3 ∧ True ∧ True ∧ True ∧ SM x_3 ∧ True ∧ True ∧ SM x_6 ∧ SM x_3 ∧ True ∧ SM x_3 ∧ SM x_3 ∧ SM x_3 ∧ True ∧ True ∧ True ∧ aw3q1 x_6 ∧ SM x_3 ∧ True ∧ SM x_3 ∧ SM x_3 ∧ SM x_3 ∧ True ∧ True ∧ True ∧ aw3q1 x_6 ∧ SM x_3 ∧ True ∧ SM x_3 ∧ SM x_3 ∧ SM x_3 ∧ True ∧ True ∧ True ∧ aw3q1 x_6 ∧ SM x_3 ∧ True ∧ SM x_3 ∧ SM x_3 ∧ SM x_3 ∧ True ∧ True ∧ True ∧ aw3q1 x_6 ∧ aw3q1 x_6 ∧ ∀ (t : Nat), SM x_6 ∧ SM x_5 ∧ SM x_6 ∧ ∀ (t_1 : Nat), SM x_5 ∧ SM x_3 ∧ True ∧ SM x_3 ∧ SM x_3 ∧ SM x_3 ∧ True ∧ True ∧ True ∧ SM x_3 ∧ True ∧ True ∧ SM x_3 ∧ True ∧ SM x_3 ∧ SM x_3 ∧ SM x_3 ∧ True ∧ True ∧ True ∧ SM x_3 ∧ True ∧ True ∧ SM x_3 ∧ True ∧ SM x_5 ∧ SM x_4 ∧ (SM x_4 ∧ True) ∧ SM x_1 ∧ SM x_2 ∧ (SM x_1 ∧ SM x_2 ∧ True) ∧ ∀ (x_7 : Nat), x_6 ≠ x_7 ∧ x_5 ≠ x_7 ∧ x_4 ≠ x_7 ∧ x_3 ≠ x_7 ∧ x_2 ≠ x_7 ∧ x_1 ≠ x_7 ∧ x ≠ x_7 ∧ True → SM x_7 ∧ SM x_7 ∧ ∃ (x_8 : Unit), ((aw3q2 ∧ (SM N1 ∧ (∀ (i : Nat), i < N1 → aw3q4 t i = aw3q5 t i) ∧ SM t_1) ∧ aw3q6) ∧ True) ∧ (True ∧ True) ∧ True ∧ ∀ (y : Unit), True → SM x_7 ∧ SM x_7 ∧ SM x ∧ (SM x ∧ True) ∧ ∃ (t_2 : Nat), (aw3q2 ∧ (SM N1 ∧ (∀ (i : Nat), i < N1 → aw3q4 t i = aw3q5 t_2 i) ∧ True) ∧ aw3q6) ∧ SM Z0 ∧ True) (by kernel_rfl) ?_
  delta N0 N1 N4 SM Z0 ZI aw3q1 aw3q2 aw3q3 aw3q4 aw3q5 aw3q6
  simp only [true_and, and_true]
  repeat' (first | exact trivial | refine Exists.intro () ?_ | refine And.intro ?_ ?_ | exact rows_eq (by kernel_rfl) | intro _ | kernel_rfl | exact weakM_refl _ | exact Nat.le_of_ble_eq_true (by kernel_rfl))
  rename_i t1 t2 x7 h1 u h2
  refine ⟨t1, ?_⟩
  repeat' (first | exact trivial | refine Exists.intro () ?_ | refine And.intro ?_ ?_ | exact rows_eq (by kernel_rfl) | intro _ | kernel_rfl | exact weakM_refl _ | exact Nat.le_of_ble_eq_true (by kernel_rfl))
end Go.Proofs.Ytoglbmhkfkghbaa
namespace Go.Proofs.Ytoglbmhkfkghbaa
open Go Go.Ab
set_option maxRecDepth 100000
theorem same0 (t : Nat) : ACalls Try.prog 17 [c0 .any .full, c0 .any (.tok 0 t)] ⟨[], []⟩ (fun r _ => weakEnd r (.ret (.bool true))) := by
  refine inlS conS_ok _ _ _ _ ?_
  refine vc_eq (T :=
    ∀ (x : Nat), True → ∀ (x_1 : Nat), x ≠ x_1 ∧ True → SM x ∧ SM x_1 ∧ SM x ∧ SM x ∧ SM x_1 ∧ True ∧ SM x ∧ SM x_1 ∧ True ∧ SM x ∧ SM x_1 ∧ True ∧ True ∧ SM true) (by kernel_rfl) ?_
  delta SM
  simp only [and_true]
  repeat' (first | exact trivial | refine Exists.intro () ?_ | refine And.intro ?_ ?_ | exact rows_eq (by kernel_rfl) | intro _ | kernel_rfl | exact weakM_refl _ | exact Nat.le_of_ble_eq_true (by kernel_rfl))
end Go.Proofs.Ytoglbmhkfkghbaa
namespace Go.Proofs.Ytoglbmhkfkghbaa
open Go Go.Ab
set_option maxRecDepth 100000
def sTake : FnSpec where
  β := Unit
  α := Nat
  args := fun _ => [d0 .any]
  st := fun _ => ⟨[], []⟩
  pre := fun _ => True
  post := fun _ _ => True
  res := fun _ t => .ret (.tup [c0 .any (.tok 0 t), .int .i64 0])
  out := fun _ _ => ⟨[], []⟩
def b9 : List (List D) := [[.int .u8 49], [.int .u8 50], [.int .u8 51], [.int .u8 52], [.int .u8 53], [.int .u8 54], [.int .u8 55], [.int .u8 56], [.int .u8 57]]
theorem sum9 : ACalls Try.prog 10 [.sl 1 9 (fun i => b9.getD i []) .any] ⟨[], []⟩ (fun r _ => weakEnd r (.ret (.int .u32 3421780262))) := by
  refine (sum_ok [49, 50, 51, 52, 53, 54, 55, 56, 57] .any (by simp)).respec (A' := sC [.sl 1 9 (fun i => b9.getD i []) .any] (.int .u32 3421780262)) (x' := ()) ?_ ?_ (fun y _ => ⟨(), trivial, ?_, ?_⟩) |>.mono ?_
  · exact ⟨⟨rfl, rows_eq rfl, trivial⟩, trivial⟩
  · simp [sC, sSum, posS, posO, posT]
  · show (sumN [49, 50, 51, 52, 53, 54, 55, 56, 57] : Int) = 3421780262
    kernel_rfl
  · simp [sC, sSum, posS, posO, posT]
  · rintro r S' ⟨_, _, rfl, _⟩
    exact weakD_refl _
def conK (k : Nat) (ds : List D) (S : St) : Option FnSpec :=
  match k with
  | 10 => match ds with
    | [.sl 1 9 _ _] => some (sC [.sl 1 9 (fun i => b9.getD i []) .any] (.int .u32 3421780262))
    | _ => none
  | 13 => match ds with
    | [.agg [_, .sl 2 1 f m, _, _]] => match f 0 with
      | [_, .sl 4 1 _ m'] => some (sC [c0 m m'] (.tup [d0 .any, .int .i64 0]))
      | _ => none
    | _ => none
  | 15 => match ds with
    | [.sl 1 18 _ _] => some sTake
    | [.sl 1 0 _ m] => some (sC [.sl 1 0 (fun _ => []) m] (.tup [.agg [nils, nils, nils, nils], .int .i64 7]))
    | _ => none
  | 17 => match ds with
    | [_, .agg [_, .sl 2 1 f _, _, _]] => match f 0 with
      | [_, .sl 4 1 _ (.tok 0 t)] => some (sC [c0 .any .full, c0 .any (.tok 0 t)] (.bool true))
      | _ => none
    | _ => none
  | _ => conS k ds S
theorem conK_ok : ConOk Try.prog conK := by
  intro k ds S A h
  unfold conK at h
  split at h
  · split at h
    · injection h with h; subst h
      exact ConOk.closed sum9
    · cases h
  · split at h
    · split at h
      · injection h with h; subst h
        exact ConOk.closed (put0 _ _)
      · cases h
    · cases h
  · split at h
    · injection h with h; subst h
      refine ConOk.plain (A := sTake) (fun _ _ => take0.weaken ?_) rfl rfl
      rintro r S' ⟨t, hw⟩
      exact ⟨_, ⟨[], []⟩, hw, .none S', t, trivial, rfl, rfl⟩
    · injection h with h; subst h
      exact ConOk.closed (takeN _)
    · cases h
  · split at h
    · split at h
      · injection h with h; subst h
        exact ConOk.closed (same0 _)
      · cases h
    · cases h
  · exact conS_ok _ _ _ _ h
noncomputable section
def aw4q0 : Prop := SM N0 ∧ (∀ (i : Nat), i < N0 → eqOf (List D) [] []) ∧ True
def aw4q1 (p0 : Nat) : List D := List.getD [[ZI (25 : Int), ZI Z0, ZI Z0, ZI Z0]] p0 []
def aw4q2 (p0 : Nat) : List D := List.getD [[ZI Z0, D.sl N4 N1 (fun (i : Nat) => aw4q1 i) Mode.full]] p0 []
def aw4q3 : Prop := aw4q0 ∧ True
def aw4q4 : Prop := aw4q0 ∧ aw4q3
def aw4q5 : Prop := aw4q0 ∧ (SM N1 ∧ (∀ (i : Nat), i < N1 → SM (aw4q2 i)) ∧ True) ∧ aw4q4
def aw4q6 : List D := [ZB Z0]
def aw4q7 (p0 : Nat) : List D := List.getD [[ZB (65 : Int)], [ZB (76 : Int)], [ZB (67 : Int)], [ZB (49 : Int)], aw4q6, [ZB (2 : Int)], aw4q6, [ZB (2 : Int)], [ZB (50 : Int)], aw4q6, aw4q6, aw4q6, aw4q6, aw4q6, [ZB (116 : Int)], [ZB (248 : Int)], [ZB (41 : Int)], [ZB (197 : Int)]] p0 []
def aw4q8 (p0 p1 : Nat) : List D := List.getD [[ZI Z0, D.sl N4 N1 (fun (i : Nat) => aw4q1 i) (Mode.tok N0 p0)]] p1 []
def aw4q9 (p0 : Nat) : List D := List.getD [[ZB (49 : Int)], [ZB (50 : Int)], [ZB (51 : Int)], [ZB (52 : Int)], [ZB (53 : Int)], [ZB (54 : Int)], [ZB (55 : Int)], [ZB (56 : Int)], [ZB (57 : Int)]] p0 []
end
theorem awake0 : ACalls Try.prog 9 [] ⟨[], []⟩ (fun r _ => weakEnd r (.ret (.bool true))) := by
  refine inlS conK_ok _ _ _ _ ?_
  refine vc_eq (T :=
    ∀ (x : Nat), True → SM x ∧ SM x ∧ ∃ (x_1 : Unit), (aw4q5 ∧ True) ∧ (True ∧ True) ∧ True ∧ ∀ (y : Unit), True → ∃ (x_2 : Unit), ((SM (18 : Nat) ∧ (∀ (i : Nat), i < (18 : Nat) → SM (aw4q7 i)) ∧ True) ∧ True) ∧ (True ∧ True) ∧ True ∧ ∀ (y : Nat), True → ∀ (x_3 : Nat), x ≠ x_3 ∧ True → SM x_3 ∧ ∃ (x_4 : Unit), aw4q3 ∧ (True ∧ True) ∧ True ∧ ∀ (y_1 : Unit), True → ∀ (x_5 : Nat), x_3 ≠ x_5 ∧ x ≠ x_5 ∧ True → SM x_5 ∧ True ∧ SM x ∧ SM x_3 ∧ ∃ (x : Unit), (aw4q5 ∧ (aw4q0 ∧ (SM N1 ∧ (∀ (i : Nat), i < N1 → SM (aw4q8 y i)) ∧ True) ∧ aw4q4) ∧ True) ∧ (True ∧ True) ∧ True ∧ ∀ (y : Unit), True → True ∧ ∃ (x : Unit), ((SM (9 : Nat) ∧ (∀ (i : Nat), i < (9 : Nat) → SM (aw4q9 i)) ∧ True) ∧ True) ∧ (True ∧ True) ∧ True ∧ ∀ (y : Unit), True → True ∧ SM true) (by kernel_rfl) ?_
  delta N0 N1 N4 SM Z0 ZB ZI aw4q0 aw4q1 aw4q2 aw4q3 aw4q4 aw4q5 aw4q6 aw4q7 aw4q8 aw4q9
  simp only [true_and, and_true]
  repeat' (first | exact trivial | refine Exists.intro () ?_ | refine And.intro ?_ ?_ | exact rows_eq (by kernel_rfl) | intro _ | kernel_rfl | exact weakM_refl _ | exact Nat.le_of_ble_eq_true (by kernel_rfl))
  all_goals trace_state
end Go.Proofs.Ytoglbmhkfkghbaa
namespace Go.Proofs.Ytoglbmhkfkghbaa
open Go Go.Ab
set_option maxRecDepth 100000
def conAw : Con := fun k ds S => match k with
  | 9 => some (sC [] (.bool true))
  | k => conS k ds S
theorem conAw_ok : ConOk Try.prog conAw := by
  intro k ds S A h
  unfold conAw at h
  split at h
  · injection h with h; subst h
    exact ConOk.closed awake0
  · exact conS_ok _ _ _ _ h
end Go.Proofs.Ytoglbmhkfkghbaa
namespace Go.Proofs.Ytoglbmhkfkghbaa
open Go Go.Ab
set_option maxRecDepth 100000
theorem bsl_weakA {n : Nat} {g : Nat → List D} {m : Ab.Mode} (h : rowsB n g = true) : weakD (.sl 1 n g m) (bsl (bytesOf n g) .any) := by
  have := bsl_weak (m := m) h
  simp only [bsl, weakD, chk_iff] at this ⊢
  exact ⟨this.1, this.2.1, this.2.2.1, by cases m <;> simp [weakM]⟩
end Go.Proofs.Ytoglbmhkfkghbaa
namespace Go.Proofs.Ytoglbmhkfkghbaa
open Go Go.Ab
set_option maxRecDepth 100000
theorem putE_zero {c : CodD} (h : putE c = 0) : rightC c = 0 ∧ (codeB c).length ≤ 1048568 ∧ putL c = sealB (codeB c) := by
  have hp : putL c = sealB (codeB c) := by unfold putL; rw [if_neg (by rw [h]; simp)]
  unfold putE at h
  by_cases e1 : rightC c ≠ 0
  · rw [if_pos e1] at h; exact (e1 h).elim
  · rw [if_neg e1] at h
    by_cases e2 : 1048576 < (sealB (codeB c)).length
    · rw [if_pos e2] at h; omega
    · rw [seal_len] at e2
      exact ⟨by simpa using e1, by omega, hp⟩
theorem take_put {c : CodD} (hc : c.ok) (h : putE c = 0) : takeE (putL c) = 0 ∧ takeC (putL c) = c ∧ bodyP (midB (putL c)) = some c := by
  obtain ⟨h1, h2, h3⟩ := putE_zero h
  have hb : bodyP (midB (putL c)) = some c := by rw [h3, mid_seal, body_back hc h1]
  have he : takeE (putL c) = 0 := by
    rw [takeE_some (by rw [h3]; exact ek_seal h2) hb, if_neg (by simpa using h1)]
  exact ⟨he, takeC_some he hb, hb⟩
def conBq (c : CodD) : Con := fun k ds S => match k with
  | 12 => some (pC ds (.bool (fewC c)) (weakL ds [.agg c.row]))
  | 13 => some (pC ds (.tup [bsl (putL c) .any, .int .i64 (putE c)]) (weakL ds [.agg c.row] ∧ fewC c = true))
  | 15 => match ds with
    | [.sl 1 n f _] => some (pC [bsl (bytesOf n f) .any] (.tup [.agg c.row, .int .i64 0]) (rowsB n f = true ∧ bytesOf n f = putL c ∧ putE c = 0 ∧ fewC c = true))
    | _ => none
  | 17 => some (pC ds (.bool true) (weakL ds [.agg c.row, .agg c.row]))
  | k => conAw k ds S
theorem conBq_ok {c : CodD} (hc : c.ok) : ConOk Try.prog (conBq c) := by
  intro k ds S A h
  unfold conBq at h
  split at h
  · injection h with h; subst h
    exact pC_ok fun e => ⟨weakL_refl _, sC_weak e (fc_ok c hc)⟩
  · injection h with h; subst h
    exact pC_ok fun e => ⟨weakL_refl _, sC_weak e.1 (pu_ok c hc (few_hs e.2) (few_sz e.2))⟩
  · split at h
    · rename_i n f m
      injection h with h; subst h
      refine pC_ok fun e => ⟨⟨bsl_weakA e.1, trivial⟩, ?_⟩
      obtain ⟨_, e2, e3, e4⟩ := e
      rw [e2]
      obtain ⟨t1, t2, t3⟩ := take_put hc e3
      have hl : (putL c).length ≤ 1048576 := by
        obtain ⟨_, h2, h3⟩ := putE_zero e3
        rw [h3, seal_len]; omega
      have := take_j (putL c) hl fun c' h' => by rw [t3] at h'; injection h' with h'; subst h'; exact ⟨hc, few_hs e4⟩
      rw [t1, t2] at this
      exact this
    · cases h
  · injection h with h; subst h
    exact pC_ok fun e => ⟨weakL_refl _, sC_weak e (same_ok c hc)⟩
  · exact conAw_ok _ _ _ _ h
noncomputable def Ebq (c : CodD) : Senv := EC (conBq c) 39 7 [9, 17] (fun _ => ([], []))
noncomputable section
def lo1q0 (p0 : CodD) : Nat := LN (CodD.consts p0)
def lo1q1 (p0 : CodD) (p1 : Nat) : List D := Arr.row (GC p0 p1)
def lo1q2 (p0 : CodD) : Nat := LN (CodD.funs p0)
def lo1q3 (p0 : CodD) (p1 : Nat) : FnD := GF p0 p1
def lo1q4 (p0 : CodD) (p1 : Nat) : List I4 := FnD.code (lo1q3 p0 p1)
def lo1q5 (p0 : CodD) (p1 p2 : Nat) : I4 := G4 (lo1q4 p0 p1) p2
def lo1q6 (p0 : CodD) (p1 : Nat) : List D := [ZI (FnD.slots (lo1q3 p0 p1)), D.sl N4 (LN (lo1q4 p0 p1)) (fun (i : Nat) => (R4 (lo1q5 p0 p1 i))) Mode.any]
def lo1q7 (p0 : CodD) : Nat := LN (CodD.kers p0)
def lo1q8 (p0 : CodD) (p1 : Nat) : KeD := GK p0 p1
def lo1q9 (p0 : CodD) (p1 : Nat) : List I4 := KeD.ops (lo1q8 p0 p1)
def lo1q10 (p0 : CodD) (p1 p2 : Nat) : I4 := G4 (lo1q9 p0 p1) p2
def lo1q11 (p0 : CodD) (p1 : Nat) : List D := [ZI (KeD.inputs (lo1q8 p0 p1)), D.sl N4 (LN (lo1q9 p0 p1)) (fun (i : Nat) => (R4 (lo1q10 p0 p1 i))) Mode.any, ZI (KeD.reduce (lo1q8 p0 p1)), ZI (KeD.at_ (lo1q8 p0 p1))]
def lo1q12 (p0 : CodD) : Nat := LN (CodD.lanes p0)
def lo1q13 (p0 : CodD) (p1 : Nat) : LaD := GL p0 p1
def lo1q14 (p0 : CodD) (p1 : Nat) : List I6 := LaD.code (lo1q13 p0 p1)
def lo1q15 (p0 : CodD) (p1 p2 : Nat) : I6 := G6 (lo1q14 p0 p1) p2
def lo1q16 (p0 : CodD) (p1 : Nat) : List D := [ZI (LaD.regs (lo1q13 p0 p1)), D.sl N6 (LN (lo1q14 p0 p1)) (fun (i : Nat) => (R6 (lo1q15 p0 p1 i))) Mode.any]
def lo1q17 (p0 : CodD) : Prop := (SM (lo1q0 p0) ∧ (∀ (i : Nat), i < lo1q0 p0 → SM (lo1q1 p0 i)) ∧ True) ∧ (SM (lo1q2 p0) ∧ (∀ (i : Nat), i < lo1q2 p0 → SM (lo1q6 p0 i)) ∧ True) ∧ (SM (lo1q7 p0) ∧ (∀ (i : Nat), i < lo1q7 p0 → SM (lo1q11 p0 i)) ∧ True) ∧ (SM (lo1q12 p0) ∧ (∀ (i : Nat), i < lo1q12 p0 → SM (lo1q16 p0 i)) ∧ True) ∧ True
def lo1q18 (p0 : CodD) : Prop := lo1q17 p0 ∧ True
def lo1q19 : Prop := ∃ (_x : Unit), True ∧ (True ∧ True) ∧ True ∧ ∀ (_y : Unit), True → True ∧ ∃ (_y : Unit), True ∧ SM true ∧ True ∧ True
def lo1q20 (p0 : CodD) (p1 : Nat) : List D := [ZB (BI (putL p0) p1)]
end
theorem law_back (c : CodD) (hc : c.ok) : ACalls Try.prog 7 [.agg c.row] ⟨[], []⟩ (SpecR (sC [.agg c.row] (.bool true)) ()) := by
  refine con_of (A := sC _ _) (x := ()) (E := Ebq c) (eOk (conBq_ok hc) rfl) Try.func7 rfl (by kernel_rfl) rfl (by simp [sC, Ebq, EC, E0]) ?_
  refine vc_eq (T :=
    ∀ (x : Nat), True → SM x ∧ lo1q18 c ∧ ∀ (y : Unit), True → ifB (!fewC c) lo1q19 (SM x ∧ (lo1q18 c ∧ fewC c = true) ∧ ∀ (y : Unit), True → ifB (putE c != Z0) (ifB ((LI (putL c)) == Z0) lo1q19 (True ∧ ∃ (y : Unit), True ∧ false = true ∧ True ∧ True)) (((rowsB (LN (putL c)) fun (i : Nat) => lo1q20 c i) = true ∧ (bytesOf (LN (putL c)) fun (i : Nat) => lo1q20 c i) = putL c ∧ putE c = Z0 ∧ fewC c = true) ∧ ∀ (y : Unit), True → ∀ (x_1 : Nat), x ≠ x_1 ∧ True → SM x_1 ∧ SM x ∧ SM x_1 ∧ (lo1q17 c ∧ lo1q18 c) ∧ ∀ (y : Unit), True → lo1q19))) (by kernel_rfl) ?_
  delta BI D4 D6 DA DF DK DL G4 G6 GC GF GK GL LI LN N4 N6 R4 R6 SM U0 Z0 ZB ZI lo1q0 lo1q1 lo1q10 lo1q11 lo1q12 lo1q13 lo1q14 lo1q15 lo1q16 lo1q17 lo1q18 lo1q19 lo1q2 lo1q20 lo1q3 lo1q4 lo1q5 lo1q6 lo1q7 lo1q8 lo1q9
  simp only [eq_self, ne_eq, implies_true, ifB_iff, true_and, and_true, beq_iff_eq, beq_eq_false_iff_ne, exists_const, forall_const, bytesOf_bsl, rowsB_bsl]
  intro h
  have h : fewC c = true := by simpa using h
  refine ⟨h, fun he hl => ?_, fun he => ⟨by simpa using he, h⟩⟩
  refine (hl ?_).elim
  have he : putE c ≠ 0 := by simpa using he
  unfold putL; rw [if_pos he]; rfl
end Go.Proofs.Ytoglbmhkfkghbaa
