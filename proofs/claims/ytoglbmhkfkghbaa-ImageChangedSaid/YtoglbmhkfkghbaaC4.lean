/- Functions of the given program and what each of them computes: lemmas towards the statement, their conditions stated with each of them. -/
import Derived.Test.YtoglbmhkfkghbaaC3
namespace Go.Proofs.Ytoglbmhkfkghbaa
open Go Go.Ab

/-! ### the reference's stack, a string -/
def aftD (st : List UInt8) (p q : List UInt8) (r : Bool) : D := .tup [.str (if okA st p r then newA st p q else []), .bool (okA st p r)]
def annR (st p q : List UInt8) (r : Bool) (d : D) : Option LoopAnn :=
  match d with
  | .ref _ xe _ => some { slots := [6], keep := [0, 3], α := Nat, st := fun i => ([.int .i64 i], ⟨[(0, xe, .cells [.str p, .str q, .bool r])], []⟩), inv := fun i => i ≤ p.length ∧ ∀ j, j < i → popB st p j = true, mu := fun i => p.length - i }
  | _ => none
noncomputable def Eaft (st p q : List UInt8) (r : Bool) : Senv := { EC con0 55 2 [3, 4, 5, 6, 17, 22, 43] (fun id => match id with | 6 => ([0, 1, 2, 3, 4, 5, 6, 7, 8, 9, 10, 11, 12, 13, 14, 15, 16, 17, 18], []) | 8 => ([0, 1, 2, 3, 4, 5, 6, 7, 8, 9, 10, 11, 12], []) | _ => ([], [])) with
  ann := fun b env _ => match b with
    | 0 => annR st p q r (Ab.look env 3)
    | _ => none }
theorem aft_ok (st p q : List UInt8) (r : Bool) (hq : r = true → st.length + q.length ≤ 1000000 ∧ p.length ≤ 1000000) (hs : st.length ≤ 1000000) :
    ACalls Try.prog 68 [.str st, .agg [.str p, .str q, .bool r]] ⟨[], []⟩ (SpecR (sC [.str st, .agg [.str p, .str q, .bool r]] (aftD st p q r)) ()) := by
  refine con_of (A := sC _ _) (x := ()) (E := Eaft st p q r) (eOk con0_ok rfl) Try.func68 rfl (by kernel_rfl) rfl (by simp [sC, Eaft, EC, E0]) ?_
  refine vc_eq (T :=
      ∀ (x : Nat), True → (SM x ∧ ifB (!r) ((true = bif !r then true else decide ((LI st) < (LI p))) ∧ True) (SM x ∧ (decide ((LI st) < (LI p)) = bif !r then true else decide ((LI st) < (LI p))) ∧ True)) ∧ ifB (bif !r
      then true else decide ((LI st) < (LI p))) (True ∧ ∃ (y : Unit), True ∧ (eqOf (List UInt8) [] (if okA st p r = true then newA st p q else []) ∧ false = okA st p r ∧ True) ∧ True ∧ True) ((∃ (x_1 : Nat), (x_1 ≤ LN p
      ∧ ∀ (j : Nat), j < x_1 → popB st p j = true) ∧ (Z0 = (↑x_1 : Int) ∧ True) ∧ (SM x ∧ (SM p ∧ SM q ∧ SM r ∧ True) ∧ True) ∧ True) ∧ ∀ (x_1 : Nat), (x_1 ≤ LN p ∧ ∀ (j : Nat), j < x_1 → popB st p j = true) → SM x ∧ ifB
      (decide ((↑x_1 : Int) < (LI p))) ((SM x ∧ side (Z0 ≤ (↑x_1 : Int) ∧ (↑x_1 : Int) < (LI p)) (ifB ((BI p (Int.toNat (↑x_1 : Int))) != (42 : Int)) (SM x ∧ side (Z0 ≤ (↑x_1 : Int) ∧ (↑x_1 : Int) < (LI p)) (side (Z0 ≤
      IntKind.wrap IntKind.i64 (IntKind.wrap IntKind.i64 ((LI st) - Z1) - (↑x_1 : Int)) ∧ IntKind.wrap IntKind.i64 (IntKind.wrap IntKind.i64 ((LI st) - Z1) - (↑x_1 : Int)) < (LI st)) ((((BI p (Int.toNat (↑x_1 : Int))) !=
      (BI st (Int.toNat (IntKind.wrap IntKind.i64 (IntKind.wrap IntKind.i64 ((LI st) - Z1) - (↑x_1 : Int)))))) = bif (BI p (Int.toNat (↑x_1 : Int))) != (42 : Int) then (BI p (Int.toNat (↑x_1 : Int))) != (BI st (Int.toNat
      (IntKind.wrap IntKind.i64 (IntKind.wrap IntKind.i64 ((LI st) - Z1) - (↑x_1 : Int))))) else false) ∧ True))) ((false = bif (BI p (Int.toNat (↑x_1 : Int))) != (42 : Int) then (BI p (Int.toNat (↑x_1 : Int))) != (BI st
      (Int.toNat (IntKind.wrap IntKind.i64 (IntKind.wrap IntKind.i64 ((LI st) - Z1) - (↑x_1 : Int))))) else false) ∧ True))) ∧ ifB (bif (BI p (Int.toNat (↑x_1 : Int))) != (42 : Int) then (BI p (Int.toNat (↑x_1 : Int)))
      != (BI st (Int.toNat (IntKind.wrap IntKind.i64 (IntKind.wrap IntKind.i64 ((LI st) - Z1) - (↑x_1 : Int))))) else false) (True ∧ ∃ (y : Unit), True ∧ (eqOf (List UInt8) [] (if okA st p r = true then newA st p q else
      []) ∧ false = okA st p r ∧ True) ∧ True ∧ True) ((SM (D.str st) ∧ SM (D.ref N0 x N0) ∧ True) ∧ ∃ (y : Nat), (y ≤ LN p ∧ ∀ (j : Nat), j < y → popB st p j = true) ∧ LN p - y < LN p - x_1 ∧ (IntKind.wrap IntKind.i64
      ((↑x_1 : Int) + Z1) = (↑y : Int) ∧ True) ∧ (SM x ∧ (SM p ∧ SM q ∧ SM r ∧ True) ∧ True) ∧ True)) (SM x ∧ side (Z0 ≤ Z0 ∧ Z0 ≤ IntKind.wrap IntKind.i64 ((LI st) - (LI p)) ∧ IntKind.wrap IntKind.i64 ((LI st) - (LI p))
      ≤ (LI st)) (SM x ∧ side (LN (List.drop N0 (List.take (Int.toNat (IntKind.wrap IntKind.i64 ((LI st) - (LI p)))) st)) + LN q ≤ (9223372036854775807 : Nat)) (True ∧ ∃ (y : Unit), True ∧ ((List.drop N0 (List.take
      (Int.toNat (IntKind.wrap IntKind.i64 ((LI st) - (LI p)))) st) ++ q = if okA st p r = true then newA st p q else []) ∧ true = okA st p r ∧ True) ∧ True ∧ True))))) (by kernel_rfl) ?_
  delta BI LI LN N0 SM U0 Z0 Z1
  simp only [ifB_iff, side_iff, decide_eq_true_eq, decide_eq_false_iff_not, true_and, and_true, beq_iff_eq, bne_iff_ne, Bool.cond_false_right, Bool.cond_true_left, Bool.and_eq_true, Bool.and_eq_false_iff, beq_eq_false_iff_ne, ne_eq]
  intro xe _
  have fail : okA st p r = false → ∃ y : Unit, eqOf (List UInt8) [] (if okA st p r = true then newA st p q else []) ∧ false = okA st p r := fun h => ⟨(), by simp [h], h.symm⟩
  refine ⟨⟨by cases r <;> simp, by cases r <;> simp⟩, fun h => fail ?_, fun h => ⟨⟨0, ⟨by omega, fun j hj => absurd hj (Nat.not_lt_zero j)⟩, rfl⟩, fun i hi => ⟨fun hlt => ?_, fun hge => ?_⟩⟩⟩
  · simp only [Bool.or_eq_true, Bool.not_eq_true', decide_eq_true_eq] at h
    rcases h with h | h
    · simp [okA, h]
    · have : ¬ p.length ≤ st.length := by omega
      simp [okA, this]
  · simp only [Bool.or_eq_false_iff, Bool.not_eq_false', decide_eq_false_iff_not] at h
    obtain ⟨hq, hp⟩ := hq h.1
    have hlt' : i < p.length := by omega
    have hw : IntKind.i64.wrap (IntKind.i64.wrap ((st.length : Int) - 1) - (i : Int)) = ((st.length - 1 - i : Nat) : Int) := by
      rw [wrap_i64' (n := (st.length : Int) - 1) (by omega) (by omega), wrap_i64' (by omega) (by omega)]; omega
    simp only [hw, Int.toNat_natCast]
    refine ⟨⟨by omega, fun h42 => ⟨by omega, by omega, ?_⟩, fun h42 => ?_⟩, fun hb => fail (okA_false hlt' (popB_not hb.1 hb.2)), fun hb => ⟨i + 1, ⟨by omega, fun j hj => ?_⟩, by omega, wrap_i64' (by omega) (by omega)⟩⟩
    · exact bne_and h42
    · exact bne_and' h42
    · by_cases e : j = i
      · subst e
        refine popB_of (hb.imp (fun h => ?_) (fun h => ?_))
        · simpa using h
        · simpa using h
      · exact hi.2 j (by omega)
  · simp only [Bool.or_eq_false_iff, Bool.not_eq_false', decide_eq_false_iff_not] at h
    obtain ⟨hq, hp⟩ := hq h.1
    have hw : IntKind.i64.wrap ((st.length : Int) - (p.length : Int)) = ((st.length - p.length : Nat) : Int) := by
      rw [wrap_i64' (by omega) (by omega)]; omega
    have hip : i = p.length := by omega
    subst hip
    have hok : okA st p r = true := okA_true h.1 (by omega) hi.2
    simp only [hw, Int.toNat_natCast, List.drop_zero]
    refine ⟨by omega, ?_, (), by simp [hok, newA], hok.symm⟩
    simp; omega

/-! ### the reference's functions of programs -/
def conG (c : CodD) (f : Nat) : Con := fun k ds S => match k with
  | 69 => match ds with
    | [a0, a1, .agg [.int .i64 a, .int .i64 b, .int .i64 d, .int .i64 e]] => some (pQ [.agg c.row, .int .i64 f, .agg (I4.row ⟨a, b, d, e⟩)] (offD (effC c f ⟨a, b, d, e⟩)) (offQ (effC c f ⟨a, b, d, e⟩)) (weakL [a0, a1] [.agg c.row, .int .i64 f] ∧ I4.ok ⟨a, b, d, e⟩))
    | _ => none
  | 68 => match ds with
    | [.str st, .agg [.str p, .str q, .bool r]] => some (pC [.str st, .agg [.str p, .str q, .bool r]] (aftD st p q r) ((r = true → st.length + q.length ≤ 1000000 ∧ p.length ≤ 1000000) ∧ st.length ≤ 1000000))
    | _ => none
  | k => conRE k ds S
theorem conG_ok {c : CodD} {f : Nat} (hf : f < c.funs.length) (hc : c.ok) : ConOk Try.prog (conG c f) := by
  intro k ds S A h
  unfold conG at h
  split at h
  · split at h
    · injection h with h; subst h
      exact pQ_ok fun ⟨hw, hx⟩ => ⟨⟨hw.1, hw.2.1, weakD_refl _, trivial⟩, (rof_ok c f ⟨_, _, _, _⟩ hf hc hx).mono fun _ _ h => h⟩
    · cases h
  · split at h
    · injection h with h; subst h
      exact pC_ok fun ⟨h1, h2⟩ => ⟨weakL_refl _, aft_ok _ _ _ _ h1 h2⟩
    · cases h
  · exact conRE_ok _ _ _ _ h
theorem step_all {c : CodD} {f i : Nat} {x : I4} {st : List UInt8} {y : Eff} {e : Option Eff} (he : effC c f x = e) (hy : offQ e y) :
    ((!okA st y.1 e.isSome || decide (x.d < 0) || (x.a == 25 || x.a == 24) && decide (0 < (((if okA st y.1 e.isSome = true then newA st y.1 y.2 else []) : List UInt8).length : Int)) || x.a == 24 && decide (x.b ≤ i)) = true → stepS c f i x st = none) ∧
    ((!okA st y.1 e.isSome || decide (x.d < 0) || (x.a == 25 || x.a == 24) && decide (0 < (((if okA st y.1 e.isSome = true then newA st y.1 y.2 else []) : List UInt8).length : Int)) || x.a == 24 && decide (x.b ≤ i)) = false → okA st y.1 e.isSome = true ∧ stepS c f i x st = some (newA st y.1 y.2)) := by
  cases e with
  | none => exact ⟨fun _ => by simp [stepS, he], fun h => by simp [okA] at h⟩
  | some e' =>
    obtain rfl := hy e' rfl
    simp only [Option.isSome]
    by_cases hq : okA st y.1 true = true
    case neg => exact ⟨fun _ => by simp [stepS, he, hq], fun h => by simp [hq] at h⟩
    case pos =>
      by_cases hd : x.d < 0
      · exact ⟨fun _ => by simp [stepS, he, hd], fun h => by simp [hd] at h⟩
      · have hs := step_cond (i := i) he hq hd (b := decide (0 < ((newA st y.1 y.2).length : Int))) lenB
        simp only [hq, Bool.not_true, decide_eq_false hd, Bool.false_or, if_true]
        exact ⟨hs.1, fun h => ⟨trivial, hs.2 h⟩⟩
theorem app_bools {em : List Bool} {b : Bool} {j : Nat} (hj : j < em.length + 1) : appF em.length (fun i => [D.bool (em.getD i false)]) (fun i => [[D.bool b]].getD i []) j = [D.bool ((em ++ [b]).getD j false)] := by
  simp only [appF]
  split
  · rename_i h
    simp [List.getD_eq_getElem?_getD, List.getElem?_append_left h]
  · have : j = em.length := by omega
    subst this
    simp [List.getD_eq_getElem?_getD]
structure RunHead (c : CodD) (f : Nat) (i : Nat) (st : List UInt8) (deep : Nat) (em : List Bool) : Prop where
  hi : i ≤ (c.funs.getD f default).code.length
  hs : st.length ≤ i
  hd : deep ≤ 65536
  hr : runS c f i ((c.funs.getD f default).code.drop i) st deep = runS c f 0 (c.funs.getD f default).code [] 0
  hl : em.length = i
  he : em ++ empS c f i ((c.funs.getD f default).code.drop i) st = empS c f 0 (c.funs.getD f default).code []
def okHead (fd : FnD) : Bool := between fd.slots 0 1000 && decide (fd.code ≠ []) && decide ((fd.code.getD (fd.code.length - 1) default).a = 25)
def cutG1 (c : CodD) (f : Nat) (d2 : D) : Option LoopAnn :=
  match d2 with
  | .ref _ x2 _ => some { slots := [6], keep := [], α := FnD, st := fun y => ([gsl 4 I4.row y.code], ⟨[(0, x2, .cells c.row)], []⟩), inv := fun y => y = c.funs.getD f default, mu := fun _ => 0 }
  | _ => none
def cutG2 (c : CodD) (f : Nat) (d2 : D) : Option LoopAnn :=
  match d2 with
  | .ref _ x2 _ => some { slots := [42], keep := [], α := Bool × O4, st := fun y => ([.bool y.1], ⟨[(0, x2, .cells (O4.row y.2))], []⟩), inv := fun y => y.1 = !(okHead (c.funs.getD f default)) ∧ CB c y.2, mu := fun _ => 0 }
  | _ => none
def annG1 (c : CodD) (f n : Nat) (os : List (Nat × Nat × AObj)) : Option LoopAnn :=
  match os with
  | [(_, x2, .cells cc)] => some { slots := [10, 7, 8, 9], keep := [1, 2, 6], α := (Nat × Nat × List Bool) × List UInt8 × Nat, st := fun y => ([.int .i64 y.1.1, .str y.2.1, .int .i64 y.1.2.1, .sl 1 y.1.2.2.length (erow y.1.2.2) (.tok 0 y.2.2)], ⟨[(0, x2, .cells cc)], [(0, y.2.2)]⟩), inv := fun y => RunHead c f y.1.1 y.2.1 y.1.2.1 y.1.2.2, mu := fun y => n - y.1.1 }
  | _ => none
def annG2 (c : CodD) (f n : Nat) : LoopAnn := { slots := [13], keep := [6, 8, 9], α := Nat, st := fun y => ([.int .i64 y], ⟨[], []⟩), inv := fun y => y ≤ n ∧ guardsB (empS c f 0 (c.funs.getD f default).code []) ((c.funs.getD f default).code.take y) = true, mu := fun y => n - y }
noncomputable def E44 (c : CodD) (f : Nat) : Senv := { EC (conG c f) 144 3 [4, 5, 6, 7, 8, 9, 10, 11, 12, 13, 42, 46, 114, 123, 142] (fun id => match id with | 10 => ([0, 1, 2, 3, 4, 5, 6, 7, 8, 9, 10, 11, 12, 13], [7, 8]) | _ => ([], [])) with
  cut := fun id env _ => match id with
    | 1 => cutG1 c f (Ab.look env 2)
    | 2 => cutG2 c f (Ab.look env 2)
    | _ => none
  gh := fun b => match b with
    | 0 => [.slot 9]
    | _ => []
  ann := fun b _ S => match b with
    | 0 => annG1 c f (c.funs.getD f default).code.length S.objs
    | 2 => some (annG2 c f (c.funs.getD f default).code.length)
    | _ => none }
set_option maxHeartbeats 4000000 in
theorem rfun_ok (c : CodD) (f : Nat) (hf : f < c.funs.length) (hc : c.ok) (hn : (c.funs.getD f default).code.length ≤ 65536) : ACalls Try.prog 44 [.agg c.row, .int .i64 f] ⟨[], []⟩ (SpecR (sC [.agg c.row, .int .i64 f] (funD (funS c f))) ()) := by
  refine con_of (A := sC _ _) (x := ()) (E := E44 c f) (eOk (conG_ok hf hc) rfl) Try.func44 rfl (by kernel_rfl) rfl (by simp [sC, E44, EC, E0]) ?_
  refine vc_eq (T :=
      ∀ (x : Nat), True → (SM x ∧ side (Z0 ≤ (↑f : Int) ∧ (↑f : Int) < (LI (CodD.funs c))) (∃ (x_1 : FnD), x_1 = GF c f ∧ ((LN (FnD.code (GF c (Int.toNat (↑f : Int)))) = LN (FnD.code x_1) ∧ (∀ (i : Nat), i < LN (FnD.code
      (GF c (Int.toNat (↑f : Int)))) → (R4 (G4 (FnD.code (GF c (Int.toNat (↑f : Int)))) i)) = (R4 (G4 (FnD.code x_1) i))) ∧ True) ∧ True) ∧ (SM x ∧ ((SM (LN (CodD.consts c)) ∧ (∀ (i : Nat), i < LN (CodD.consts c) → SM
      (Arr.row (GC c i))) ∧ True) ∧ (SM (LN (CodD.funs c)) ∧ (∀ (i : Nat), i < LN (CodD.funs c) → SM [ZI (FnD.slots (GF c i)), S4 (FnD.code (GF c i))]) ∧ True) ∧ (SM (LN (CodD.kers c)) ∧ (∀ (i : Nat), i < LN (CodD.kers
      c) → SM (KeD.row (GK c i))) ∧ True) ∧ (SM (LN (CodD.lanes c)) ∧ (∀ (i : Nat), i < LN (CodD.lanes c) → SM (LaD.row (GL c i))) ∧ True) ∧ True) ∧ True) ∧ True)) ∧ ∀ (x_1 : FnD), x_1 = GF c f → (SM x ∧ side (Z0 ≤ (↑f :
      Int) ∧ (↑f : Int) < (LI (CodD.funs c))) (ifB (decide (Z0 ≤ FnD.slots (GF c (Int.toNat (↑f : Int))))) ((decide (FnD.slots (GF c (Int.toNat (↑f : Int))) ≤ (1000 : Int)) = bif decide (Z0 ≤ FnD.slots (GF c (Int.toNat
      (↑f : Int)))) then decide (FnD.slots (GF c (Int.toNat (↑f : Int))) ≤ (1000 : Int)) else false) ∧ True) ((false = bif decide (Z0 ≤ FnD.slots (GF c (Int.toNat (↑f : Int)))) then decide (FnD.slots (GF c (Int.toNat (↑f
      : Int))) ≤ (1000 : Int)) else false) ∧ True) ∧ True ∧ ifB (!bif decide (Z0 ≤ FnD.slots (GF c (Int.toNat (↑f : Int)))) then decide (FnD.slots (GF c (Int.toNat (↑f : Int))) ≤ (1000 : Int)) else false) (∃ (x_2 : Bool
      × O4), (x_2.1 = !okHead (GF c f) ∧ CB c x_2.2) ∧ (true = x_2.1 ∧ True) ∧ (SM x ∧ (weakD (D.sl N4 (LN (CodD.consts c)) (fun (i : Nat) => Arr.row (GC c i)) Mode.any) x_2.2.1 ∧ weakD (D.sl N2 (LN (CodD.funs c)) (fun
      (i : Nat) => [ZI (FnD.slots (GF c i)), S4 (FnD.code (GF c i))]) Mode.any) x_2.2.2.1 ∧ weakD (D.sl N4 (LN (CodD.kers c)) (fun (i : Nat) => KeD.row (GK c i)) Mode.any) x_2.2.2.2.1 ∧ weakD (D.sl N2 (LN (CodD.lanes c))
      (fun (i : Nat) => LaD.row (GL c i)) Mode.any) x_2.2.2.2.2 ∧ True) ∧ True) ∧ True) (ifB ((LI (FnD.code x_1)) == Z0) (∃ (x_2 : Bool × O4), (x_2.1 = !okHead (GF c f) ∧ CB c x_2.2) ∧ (true = x_2.1 ∧ True) ∧ (SM x ∧
      (weakD (D.sl N4 (LN (CodD.consts c)) (fun (i : Nat) => Arr.row (GC c i)) Mode.any) x_2.2.1 ∧ weakD (D.sl N2 (LN (CodD.funs c)) (fun (i : Nat) => [ZI (FnD.slots (GF c i)), S4 (FnD.code (GF c i))]) Mode.any)
      x_2.2.2.1 ∧ weakD (D.sl N4 (LN (CodD.kers c)) (fun (i : Nat) => KeD.row (GK c i)) Mode.any) x_2.2.2.2.1 ∧ weakD (D.sl N2 (LN (CodD.lanes c)) (fun (i : Nat) => LaD.row (GL c i)) Mode.any) x_2.2.2.2.2 ∧ True) ∧ True)
      ∧ True) (side (Z0 ≤ IntKind.wrap IntKind.i64 ((LI (FnD.code x_1)) - Z1) ∧ IntKind.wrap IntKind.i64 ((LI (FnD.code x_1)) - Z1) < (LI (FnD.code x_1))) (∃ (x_2 : Bool × O4), (x_2.1 = !okHead (GF c f) ∧ CB c x_2.2) ∧
      ((I4.a (G4 (FnD.code x_1) (Int.toNat (IntKind.wrap IntKind.i64 ((LI (FnD.code x_1)) - Z1)))) != (25 : Int)) = x_2.1 ∧ True) ∧ (SM x ∧ (weakD (D.sl N4 (LN (CodD.consts c)) (fun (i : Nat) => Arr.row (GC c i))
      Mode.any) x_2.2.1 ∧ weakD (D.sl N2 (LN (CodD.funs c)) (fun (i : Nat) => [ZI (FnD.slots (GF c i)), S4 (FnD.code (GF c i))]) Mode.any) x_2.2.2.1 ∧ weakD (D.sl N4 (LN (CodD.kers c)) (fun (i : Nat) => KeD.row (GK c i))
      Mode.any) x_2.2.2.2.1 ∧ weakD (D.sl N2 (LN (CodD.lanes c)) (fun (i : Nat) => LaD.row (GL c i)) Mode.any) x_2.2.2.2.2 ∧ True) ∧ True) ∧ True))))) ∧ ∀ (x_2 : Bool × O4), x_2.1 = !okHead (GF c f) ∧ CB c x_2.2 → ifB
      x_2.1 (True ∧ ∃ (y : Unit), True ∧ (Z0 = (NI (Option.getD (funS c f) N0)) ∧ false = Option.isSome (funS c f) ∧ True) ∧ True ∧ True) (∀ (t : Nat), (∃ (x_3 : (Nat × Nat × List Bool) × List UInt8 × Nat), RunHead c f
      x_3.1.1 x_3.2.1 x_3.1.2.1 x_3.1.2.2 ∧ (Z0 = (NI x_3.1.1) ∧ eqOf (List UInt8) [] x_3.2.1 ∧ Z0 = (NI x_3.1.2.1) ∧ (N0 = LN x_3.1.2.2 ∧ (∀ (i : Nat), i < N0 → eqOf (List D) [] [D.bool (List.getD x_3.1.2.2 i false)]) ∧
      t = x_3.2.2) ∧ True) ∧ (SM x ∧ (weakD x_2.2.1 x_2.2.1 ∧ weakD x_2.2.2.1 x_2.2.2.1 ∧ weakD x_2.2.2.2.1 x_2.2.2.2.1 ∧ weakD x_2.2.2.2.2 x_2.2.2.2.2 ∧ True) ∧ True) ∧ t = x_3.2.2 ∧ True) ∧ ∀ (x_3 : (Nat × Nat × List
      Bool) × List UInt8 × Nat), RunHead c f x_3.1.1 x_3.2.1 x_3.1.2.1 x_3.1.2.2 → ifB (decide ((NI x_3.1.1) < (LI (FnD.code x_1)))) (SM x_3.2.2 ∧ side ((LN x_3.1.2.2 + N1) * N1 ≤ (140737488355328 : Nat) ∧ LN x_3.1.2.2 +
      N1 ≤ (9223372036854775807 : Nat)) (∀ (t : Nat), SM x ∧ side (Z0 ≤ (NI x_3.1.1) ∧ (NI x_3.1.1) < (LI (FnD.code x_1))) ((((weakD x_2.2.1 (D.sl N4 (LN (CodD.consts c)) (fun (i : Nat) => Arr.row (GC c i)) Mode.any) ∧
      weakD x_2.2.2.1 (D.sl N2 (LN (CodD.funs c)) (fun (i : Nat) => [ZI (FnD.slots (GF c i)), S4 (FnD.code (GF c i))]) Mode.any) ∧ weakD x_2.2.2.2.1 (D.sl N4 (LN (CodD.kers c)) (fun (i : Nat) => KeD.row (GK c i))
      Mode.any) ∧ weakD x_2.2.2.2.2 (D.sl N2 (LN (CodD.lanes c)) (fun (i : Nat) => LaD.row (GL c i)) Mode.any) ∧ True) ∧ SM (↑f : Int) ∧ True) ∧ I4.ok (I4.mk (I4.a (G4 (FnD.code x_1) (TN x_3.1.1))) (I4.b (G4 (FnD.code
      x_1) (TN x_3.1.1))) (I4.c (G4 (FnD.code x_1) (TN x_3.1.1))) (I4.d (G4 (FnD.code x_1) (TN x_3.1.1))))) ∧ ∀ (y : Eff), offQ (effC c f (I4.mk (I4.a (G4 (FnD.code x_1) (TN x_3.1.1))) (I4.b (G4 (FnD.code x_1) (TN
      x_3.1.1))) (I4.c (G4 (FnD.code x_1) (TN x_3.1.1))) (I4.d (G4 (FnD.code x_1) (TN x_3.1.1))))) y → ((Option.isSome (effC c f (I4.mk (I4.a (G4 (FnD.code x_1) (TN x_3.1.1))) (I4.b (G4 (FnD.code x_1) (TN x_3.1.1)))
      (I4.c (G4 (FnD.code x_1) (TN x_3.1.1))) (I4.d (G4 (FnD.code x_1) (TN x_3.1.1))))) = true → LN x_3.2.1 + LN y.2 ≤ (1000000 : Nat) ∧ LN y.1 ≤ (1000000 : Nat)) ∧ LN x_3.2.1 ≤ (1000000 : Nat)) ∧ ∀ (y_1 : Unit), True →
      ifB (!okA x_3.2.1 y.1 (Option.isSome (effC c f (I4.mk (I4.a (G4 (FnD.code x_1) (TN x_3.1.1))) (I4.b (G4 (FnD.code x_1) (TN x_3.1.1))) (I4.c (G4 (FnD.code x_1) (TN x_3.1.1))) (I4.d (G4 (FnD.code x_1) (TN
      x_3.1.1))))))) ((true = bif bif bif !okA x_3.2.1 y.1 (Option.isSome (effC c f (I4.mk (I4.a (G4 (FnD.code x_1) (TN x_3.1.1))) (I4.b (G4 (FnD.code x_1) (TN x_3.1.1))) (I4.c (G4 (FnD.code x_1) (TN x_3.1.1))) (I4.d (G4
      (FnD.code x_1) (TN x_3.1.1)))))) then true else decide (I4.d (G4 (FnD.code x_1) (TN x_3.1.1)) < Z0) then true else bif bif I4.a (G4 (FnD.code x_1) (TN x_3.1.1)) == (25 : Int) then true else I4.a (G4 (FnD.code x_1)
      (TN x_3.1.1)) == (24 : Int) then decide (Z0 < (LI (if okA x_3.2.1 y.1 (Option.isSome (effC c f (I4.mk (I4.a (G4 (FnD.code x_1) (TN x_3.1.1))) (I4.b (G4 (FnD.code x_1) (TN x_3.1.1))) (I4.c (G4 (FnD.code x_1) (TN
      x_3.1.1))) (I4.d (G4 (FnD.code x_1) (TN x_3.1.1)))))) = true then newA x_3.2.1 y.1 y.2 else []))) else false then true else bif I4.a (G4 (FnD.code x_1) (TN x_3.1.1)) == (24 : Int) then decide (I4.b (G4 (FnD.code
      x_1) (TN x_3.1.1)) ≤ (NI x_3.1.1)) else false) ∧ True) (side (Z0 ≤ (NI x_3.1.1) ∧ (NI x_3.1.1) < (LI (FnD.code x_1))) (ifB (decide (I4.d (G4 (FnD.code x_1) (TN x_3.1.1)) < Z0)) ((true = bif bif bif !okA x_3.2.1 y.1
      (Option.isSome (effC c f (I4.mk (I4.a (G4 (FnD.code x_1) (TN x_3.1.1))) (I4.b (G4 (FnD.code x_1) (TN x_3.1.1))) (I4.c (G4 (FnD.code x_1) (TN x_3.1.1))) (I4.d (G4 (FnD.code x_1) (TN x_3.1.1)))))) then true else
      decide (I4.d (G4 (FnD.code x_1) (TN x_3.1.1)) < Z0) then true else bif bif I4.a (G4 (FnD.code x_1) (TN x_3.1.1)) == (25 : Int) then true else I4.a (G4 (FnD.code x_1) (TN x_3.1.1)) == (24 : Int) then decide (Z0 <
      (LI (if okA x_3.2.1 y.1 (Option.isSome (effC c f (I4.mk (I4.a (G4 (FnD.code x_1) (TN x_3.1.1))) (I4.b (G4 (FnD.code x_1) (TN x_3.1.1))) (I4.c (G4 (FnD.code x_1) (TN x_3.1.1))) (I4.d (G4 (FnD.code x_1) (TN
      x_3.1.1)))))) = true then newA x_3.2.1 y.1 y.2 else []))) else false then true else bif I4.a (G4 (FnD.code x_1) (TN x_3.1.1)) == (24 : Int) then decide (I4.b (G4 (FnD.code x_1) (TN x_3.1.1)) ≤ (NI x_3.1.1)) else
      false) ∧ True) (side (Z0 ≤ (NI x_3.1.1) ∧ (NI x_3.1.1) < (LI (FnD.code x_1))) (ifB (I4.a (G4 (FnD.code x_1) (TN x_3.1.1)) == (25 : Int)) (ifB (decide (Z0 < (LI (if okA x_3.2.1 y.1 (Option.isSome (effC c f (I4.mk
      (I4.a (G4 (FnD.code x_1) (TN x_3.1.1))) (I4.b (G4 (FnD.code x_1) (TN x_3.1.1))) (I4.c (G4 (FnD.code x_1) (TN x_3.1.1))) (I4.d (G4 (FnD.code x_1) (TN x_3.1.1)))))) = true then newA x_3.2.1 y.1 y.2 else [])))) ((true
      = bif bif bif !okA x_3.2.1 y.1 (Option.isSome (effC c f (I4.mk (I4.a (G4 (FnD.code x_1) (TN x_3.1.1))) (I4.b (G4 (FnD.code x_1) (TN x_3.1.1))) (I4.c (G4 (FnD.code x_1) (TN x_3.1.1))) (I4.d (G4 (FnD.code x_1) (TN
      x_3.1.1)))))) then true else decide (I4.d (G4 (FnD.code x_1) (TN x_3.1.1)) < Z0) then true else bif bif I4.a (G4 (FnD.code x_1) (TN x_3.1.1)) == (25 : Int) then true else I4.a (G4 (FnD.code x_1) (TN x_3.1.1)) ==
      (24 : Int) then decide (Z0 < (LI (if okA x_3.2.1 y.1 (Option.isSome (effC c f (I4.mk (I4.a (G4 (FnD.code x_1) (TN x_3.1.1))) (I4.b (G4 (FnD.code x_1) (TN x_3.1.1))) (I4.c (G4 (FnD.code x_1) (TN x_3.1.1))) (I4.d (G4
      (FnD.code x_1) (TN x_3.1.1)))))) = true then newA x_3.2.1 y.1 y.2 else []))) else false then true else bif I4.a (G4 (FnD.code x_1) (TN x_3.1.1)) == (24 : Int) then decide (I4.b (G4 (FnD.code x_1) (TN x_3.1.1)) ≤
      (NI x_3.1.1)) else false) ∧ True) (side (Z0 ≤ (NI x_3.1.1) ∧ (NI x_3.1.1) < (LI (FnD.code x_1))) (ifB (I4.a (G4 (FnD.code x_1) (TN x_3.1.1)) == (24 : Int)) (side (Z0 ≤ (NI x_3.1.1) ∧ (NI x_3.1.1) < (LI (FnD.code
      x_1))) ((decide (I4.b (G4 (FnD.code x_1) (TN x_3.1.1)) ≤ (NI x_3.1.1)) = bif bif bif !okA x_3.2.1 y.1 (Option.isSome (effC c f (I4.mk (I4.a (G4 (FnD.code x_1) (TN x_3.1.1))) (I4.b (G4 (FnD.code x_1) (TN x_3.1.1)))
      (I4.c (G4 (FnD.code x_1) (TN x_3.1.1))) (I4.d (G4 (FnD.code x_1) (TN x_3.1.1)))))) then true else decide (I4.d (G4 (FnD.code x_1) (TN x_3.1.1)) < Z0) then true else bif bif I4.a (G4 (FnD.code x_1) (TN x_3.1.1)) ==
      (25 : Int) then true else I4.a (G4 (FnD.code x_1) (TN x_3.1.1)) == (24 : Int) then decide (Z0 < (LI (if okA x_3.2.1 y.1 (Option.isSome (effC c f (I4.mk (I4.a (G4 (FnD.code x_1) (TN x_3.1.1))) (I4.b (G4 (FnD.code
      x_1) (TN x_3.1.1))) (I4.c (G4 (FnD.code x_1) (TN x_3.1.1))) (I4.d (G4 (FnD.code x_1) (TN x_3.1.1)))))) = true then newA x_3.2.1 y.1 y.2 else []))) else false then true else bif I4.a (G4 (FnD.code x_1) (TN x_3.1.1))
      == (24 : Int) then decide (I4.b (G4 (FnD.code x_1) (TN x_3.1.1)) ≤ (NI x_3.1.1)) else false) ∧ True)) ((false = bif bif bif !okA x_3.2.1 y.1 (Option.isSome (effC c f (I4.mk (I4.a (G4 (FnD.code x_1) (TN x_3.1.1)))
      (I4.b (G4 (FnD.code x_1) (TN x_3.1.1))) (I4.c (G4 (FnD.code x_1) (TN x_3.1.1))) (I4.d (G4 (FnD.code x_1) (TN x_3.1.1)))))) then true else decide (I4.d (G4 (FnD.code x_1) (TN x_3.1.1)) < Z0) then true else bif bif
      I4.a (G4 (FnD.code x_1) (TN x_3.1.1)) == (25 : Int) then true else I4.a (G4 (FnD.code x_1) (TN x_3.1.1)) == (24 : Int) then decide (Z0 < (LI (if okA x_3.2.1 y.1 (Option.isSome (effC c f (I4.mk (I4.a (G4 (FnD.code
      x_1) (TN x_3.1.1))) (I4.b (G4 (FnD.code x_1) (TN x_3.1.1))) (I4.c (G4 (FnD.code x_1) (TN x_3.1.1))) (I4.d (G4 (FnD.code x_1) (TN x_3.1.1)))))) = true then newA x_3.2.1 y.1 y.2 else []))) else false then true else
      bif I4.a (G4 (FnD.code x_1) (TN x_3.1.1)) == (24 : Int) then decide (I4.b (G4 (FnD.code x_1) (TN x_3.1.1)) ≤ (NI x_3.1.1)) else false) ∧ True)))) (side (Z0 ≤ (NI x_3.1.1) ∧ (NI x_3.1.1) < (LI (FnD.code x_1))) (ifB
      (I4.a (G4 (FnD.code x_1) (TN x_3.1.1)) == (24 : Int)) (ifB (decide (Z0 < (LI (if okA x_3.2.1 y.1 (Option.isSome (effC c f (I4.mk (I4.a (G4 (FnD.code x_1) (TN x_3.1.1))) (I4.b (G4 (FnD.code x_1) (TN x_3.1.1))) (I4.c
      (G4 (FnD.code x_1) (TN x_3.1.1))) (I4.d (G4 (FnD.code x_1) (TN x_3.1.1)))))) = true then newA x_3.2.1 y.1 y.2 else [])))) ((true = bif bif bif !okA x_3.2.1 y.1 (Option.isSome (effC c f (I4.mk (I4.a (G4 (FnD.code
      x_1) (TN x_3.1.1))) (I4.b (G4 (FnD.code x_1) (TN x_3.1.1))) (I4.c (G4 (FnD.code x_1) (TN x_3.1.1))) (I4.d (G4 (FnD.code x_1) (TN x_3.1.1)))))) then true else decide (I4.d (G4 (FnD.code x_1) (TN x_3.1.1)) < Z0) then
      true else bif bif I4.a (G4 (FnD.code x_1) (TN x_3.1.1)) == (25 : Int) then true else I4.a (G4 (FnD.code x_1) (TN x_3.1.1)) == (24 : Int) then decide (Z0 < (LI (if okA x_3.2.1 y.1 (Option.isSome (effC c f (I4.mk
      (I4.a (G4 (FnD.code x_1) (TN x_3.1.1))) (I4.b (G4 (FnD.code x_1) (TN x_3.1.1))) (I4.c (G4 (FnD.code x_1) (TN x_3.1.1))) (I4.d (G4 (FnD.code x_1) (TN x_3.1.1)))))) = true then newA x_3.2.1 y.1 y.2 else []))) else
      false then true else bif I4.a (G4 (FnD.code x_1) (TN x_3.1.1)) == (24 : Int) then decide (I4.b (G4 (FnD.code x_1) (TN x_3.1.1)) ≤ (NI x_3.1.1)) else false) ∧ True) (side (Z0 ≤ (NI x_3.1.1) ∧ (NI x_3.1.1) < (LI
      (FnD.code x_1))) (ifB (I4.a (G4 (FnD.code x_1) (TN x_3.1.1)) == (24 : Int)) (side (Z0 ≤ (NI x_3.1.1) ∧ (NI x_3.1.1) < (LI (FnD.code x_1))) ((decide (I4.b (G4 (FnD.code x_1) (TN x_3.1.1)) ≤ (NI x_3.1.1)) = bif bif
      bif !okA x_3.2.1 y.1 (Option.isSome (effC c f (I4.mk (I4.a (G4 (FnD.code x_1) (TN x_3.1.1))) (I4.b (G4 (FnD.code x_1) (TN x_3.1.1))) (I4.c (G4 (FnD.code x_1) (TN x_3.1.1))) (I4.d (G4 (FnD.code x_1) (TN
      x_3.1.1)))))) then true else decide (I4.d (G4 (FnD.code x_1) (TN x_3.1.1)) < Z0) then true else bif bif I4.a (G4 (FnD.code x_1) (TN x_3.1.1)) == (25 : Int) then true else I4.a (G4 (FnD.code x_1) (TN x_3.1.1)) ==
      (24 : Int) then decide (Z0 < (LI (if okA x_3.2.1 y.1 (Option.isSome (effC c f (I4.mk (I4.a (G4 (FnD.code x_1) (TN x_3.1.1))) (I4.b (G4 (FnD.code x_1) (TN x_3.1.1))) (I4.c (G4 (FnD.code x_1) (TN x_3.1.1))) (I4.d (G4
      (FnD.code x_1) (TN x_3.1.1)))))) = true then newA x_3.2.1 y.1 y.2 else []))) else false then true else bif I4.a (G4 (FnD.code x_1) (TN x_3.1.1)) == (24 : Int) then decide (I4.b (G4 (FnD.code x_1) (TN x_3.1.1)) ≤
      (NI x_3.1.1)) else false) ∧ True)) ((false = bif bif bif !okA x_3.2.1 y.1 (Option.isSome (effC c f (I4.mk (I4.a (G4 (FnD.code x_1) (TN x_3.1.1))) (I4.b (G4 (FnD.code x_1) (TN x_3.1.1))) (I4.c (G4 (FnD.code x_1) (TN
      x_3.1.1))) (I4.d (G4 (FnD.code x_1) (TN x_3.1.1)))))) then true else decide (I4.d (G4 (FnD.code x_1) (TN x_3.1.1)) < Z0) then true else bif bif I4.a (G4 (FnD.code x_1) (TN x_3.1.1)) == (25 : Int) then true else
      I4.a (G4 (FnD.code x_1) (TN x_3.1.1)) == (24 : Int) then decide (Z0 < (LI (if okA x_3.2.1 y.1 (Option.isSome (effC c f (I4.mk (I4.a (G4 (FnD.code x_1) (TN x_3.1.1))) (I4.b (G4 (FnD.code x_1) (TN x_3.1.1))) (I4.c
      (G4 (FnD.code x_1) (TN x_3.1.1))) (I4.d (G4 (FnD.code x_1) (TN x_3.1.1)))))) = true then newA x_3.2.1 y.1 y.2 else []))) else false then true else bif I4.a (G4 (FnD.code x_1) (TN x_3.1.1)) == (24 : Int) then decide
      (I4.b (G4 (FnD.code x_1) (TN x_3.1.1)) ≤ (NI x_3.1.1)) else false) ∧ True)))) (side (Z0 ≤ (NI x_3.1.1) ∧ (NI x_3.1.1) < (LI (FnD.code x_1))) (ifB (I4.a (G4 (FnD.code x_1) (TN x_3.1.1)) == (24 : Int)) (side (Z0 ≤
      (NI x_3.1.1) ∧ (NI x_3.1.1) < (LI (FnD.code x_1))) ((decide (I4.b (G4 (FnD.code x_1) (TN x_3.1.1)) ≤ (NI x_3.1.1)) = bif bif bif !okA x_3.2.1 y.1 (Option.isSome (effC c f (I4.mk (I4.a (G4 (FnD.code x_1) (TN
      x_3.1.1))) (I4.b (G4 (FnD.code x_1) (TN x_3.1.1))) (I4.c (G4 (FnD.code x_1) (TN x_3.1.1))) (I4.d (G4 (FnD.code x_1) (TN x_3.1.1)))))) then true else decide (I4.d (G4 (FnD.code x_1) (TN x_3.1.1)) < Z0) then true
      else bif bif I4.a (G4 (FnD.code x_1) (TN x_3.1.1)) == (25 : Int) then true else I4.a (G4 (FnD.code x_1) (TN x_3.1.1)) == (24 : Int) then decide (Z0 < (LI (if okA x_3.2.1 y.1 (Option.isSome (effC c f (I4.mk (I4.a
      (G4 (FnD.code x_1) (TN x_3.1.1))) (I4.b (G4 (FnD.code x_1) (TN x_3.1.1))) (I4.c (G4 (FnD.code x_1) (TN x_3.1.1))) (I4.d (G4 (FnD.code x_1) (TN x_3.1.1)))))) = true then newA x_3.2.1 y.1 y.2 else []))) else false
      then true else bif I4.a (G4 (FnD.code x_1) (TN x_3.1.1)) == (24 : Int) then decide (I4.b (G4 (FnD.code x_1) (TN x_3.1.1)) ≤ (NI x_3.1.1)) else false) ∧ True)) ((false = bif bif bif !okA x_3.2.1 y.1 (Option.isSome
      (effC c f (I4.mk (I4.a (G4 (FnD.code x_1) (TN x_3.1.1))) (I4.b (G4 (FnD.code x_1) (TN x_3.1.1))) (I4.c (G4 (FnD.code x_1) (TN x_3.1.1))) (I4.d (G4 (FnD.code x_1) (TN x_3.1.1)))))) then true else decide (I4.d (G4
      (FnD.code x_1) (TN x_3.1.1)) < Z0) then true else bif bif I4.a (G4 (FnD.code x_1) (TN x_3.1.1)) == (25 : Int) then true else I4.a (G4 (FnD.code x_1) (TN x_3.1.1)) == (24 : Int) then decide (Z0 < (LI (if okA x_3.2.1
      y.1 (Option.isSome (effC c f (I4.mk (I4.a (G4 (FnD.code x_1) (TN x_3.1.1))) (I4.b (G4 (FnD.code x_1) (TN x_3.1.1))) (I4.c (G4 (FnD.code x_1) (TN x_3.1.1))) (I4.d (G4 (FnD.code x_1) (TN x_3.1.1)))))) = true then
      newA x_3.2.1 y.1 y.2 else []))) else false then true else bif I4.a (G4 (FnD.code x_1) (TN x_3.1.1)) == (24 : Int) then decide (I4.b (G4 (FnD.code x_1) (TN x_3.1.1)) ≤ (NI x_3.1.1)) else false) ∧ True))))))))) ∧ ifB
      (bif bif bif !okA x_3.2.1 y.1 (Option.isSome (effC c f (I4.mk (I4.a (G4 (FnD.code x_1) (TN x_3.1.1))) (I4.b (G4 (FnD.code x_1) (TN x_3.1.1))) (I4.c (G4 (FnD.code x_1) (TN x_3.1.1))) (I4.d (G4 (FnD.code x_1) (TN
      x_3.1.1)))))) then true else decide (I4.d (G4 (FnD.code x_1) (TN x_3.1.1)) < Z0) then true else bif bif I4.a (G4 (FnD.code x_1) (TN x_3.1.1)) == (25 : Int) then true else I4.a (G4 (FnD.code x_1) (TN x_3.1.1)) ==
      (24 : Int) then decide (Z0 < (LI (if okA x_3.2.1 y.1 (Option.isSome (effC c f (I4.mk (I4.a (G4 (FnD.code x_1) (TN x_3.1.1))) (I4.b (G4 (FnD.code x_1) (TN x_3.1.1))) (I4.c (G4 (FnD.code x_1) (TN x_3.1.1))) (I4.d (G4
      (FnD.code x_1) (TN x_3.1.1)))))) = true then newA x_3.2.1 y.1 y.2 else []))) else false then true else bif I4.a (G4 (FnD.code x_1) (TN x_3.1.1)) == (24 : Int) then decide (I4.b (G4 (FnD.code x_1) (TN x_3.1.1)) ≤
      (NI x_3.1.1)) else false) (True ∧ ∃ (y : Unit), True ∧ (Z0 = (NI (Option.getD (funS c f) N0)) ∧ false = Option.isSome (funS c f) ∧ True) ∧ True ∧ True) ((SM (ZI (↑f : Int)) ∧ SM (D.ref N0 x N0) ∧ SM (S4 (FnD.code
      x_1)) ∧ True) ∧ ∃ (y_2 : (Nat × Nat × List Bool) × List UInt8 × Nat), RunHead c f y_2.1.1 y_2.2.1 y_2.1.2.1 y_2.1.2.2 ∧ LN (FnD.code (GF c f)) - y_2.1.1 < LN (FnD.code (GF c f)) - x_3.1.1 ∧ (IntKind.wrap
      IntKind.i64 ((NI x_3.1.1) + Z1) = (NI y_2.1.1) ∧ (if okA x_3.2.1 y.1 (Option.isSome (effC c f (I4.mk (I4.a (G4 (FnD.code x_1) (TN x_3.1.1))) (I4.b (G4 (FnD.code x_1) (TN x_3.1.1))) (I4.c (G4 (FnD.code x_1) (TN
      x_3.1.1))) (I4.d (G4 (FnD.code x_1) (TN x_3.1.1)))))) = true then newA x_3.2.1 y.1 y.2 else []) = y_2.2.1 ∧ (if (NI x_3.1.2.1) < (LI (if okA x_3.2.1 y.1 (Option.isSome (effC c f (I4.mk (I4.a (G4 (FnD.code x_1) (TN
      x_3.1.1))) (I4.b (G4 (FnD.code x_1) (TN x_3.1.1))) (I4.c (G4 (FnD.code x_1) (TN x_3.1.1))) (I4.d (G4 (FnD.code x_1) (TN x_3.1.1)))))) = true then newA x_3.2.1 y.1 y.2 else [])) then (LI (if okA x_3.2.1 y.1
      (Option.isSome (effC c f (I4.mk (I4.a (G4 (FnD.code x_1) (TN x_3.1.1))) (I4.b (G4 (FnD.code x_1) (TN x_3.1.1))) (I4.c (G4 (FnD.code x_1) (TN x_3.1.1))) (I4.d (G4 (FnD.code x_1) (TN x_3.1.1)))))) = true then newA
      x_3.2.1 y.1 y.2 else [])) else (NI x_3.1.2.1)) = (NI y_2.1.2.1) ∧ (LN x_3.1.2.2 + N1 = LN y_2.1.2.2 ∧ (∀ (i : Nat), i < LN x_3.1.2.2 + N1 → appF (LN x_3.1.2.2) (fun (i : Nat) => [D.bool (List.getD x_3.1.2.2 i
      false)]) (fun (i : Nat) => List.getD [[D.bool ((LI x_3.2.1) == Z0)]] i []) i = [D.bool (List.getD y_2.1.2.2 i false)]) ∧ t = y_2.2.2) ∧ True) ∧ (SM x ∧ (weakD x_2.2.1 x_2.2.1 ∧ weakD x_2.2.2.1 x_2.2.2.1 ∧ weakD
      x_2.2.2.2.1 x_2.2.2.2.1 ∧ weakD x_2.2.2.2.2 x_2.2.2.2.2 ∧ True) ∧ True) ∧ t = y_2.2.2 ∧ True)))) ((∃ (x : Nat), (x ≤ LN (FnD.code (GF c f)) ∧ guardsB (empS c f N0 (FnD.code (GF c f)) []) (List.take x (FnD.code (GF
      c f))) = true) ∧ (Z0 = (↑x : Int) ∧ True) ∧ True ∧ True) ∧ ∀ (x : Nat), x ≤ LN (FnD.code (GF c f)) ∧ guardsB (empS c f N0 (FnD.code (GF c f)) []) (List.take x (FnD.code (GF c f))) = true → ifB (decide ((↑x : Int) <
      (LI (FnD.code x_1)))) (side (Z0 ≤ (↑x : Int) ∧ (↑x : Int) < (LI (FnD.code x_1))) (ifB (I4.a (G4 (FnD.code x_1) (Int.toNat (↑x : Int))) == (24 : Int)) (side (Z0 ≤ (↑x : Int) ∧ (↑x : Int) < (LI (FnD.code x_1))) (side
      (Z0 ≤ I4.b (G4 (FnD.code x_1) (Int.toNat (↑x : Int))) ∧ I4.b (G4 (FnD.code x_1) (Int.toNat (↑x : Int))) < (LI x_3.1.2.2)) (((!List.getD x_3.1.2.2 (Int.toNat (I4.b (G4 (FnD.code x_1) (Int.toNat (↑x : Int))))) false)
      = bif I4.a (G4 (FnD.code x_1) (Int.toNat (↑x : Int))) == (24 : Int) then !List.getD x_3.1.2.2 (Int.toNat (I4.b (G4 (FnD.code x_1) (Int.toNat (↑x : Int))))) false else false) ∧ True))) ((false = bif I4.a (G4
      (FnD.code x_1) (Int.toNat (↑x : Int))) == (24 : Int) then !List.getD x_3.1.2.2 (Int.toNat (I4.b (G4 (FnD.code x_1) (Int.toNat (↑x : Int))))) false else false) ∧ True)) ∧ ifB (bif I4.a (G4 (FnD.code x_1) (Int.toNat
      (↑x : Int))) == (24 : Int) then !List.getD x_3.1.2.2 (Int.toNat (I4.b (G4 (FnD.code x_1) (Int.toNat (↑x : Int))))) false else false) (True ∧ ∃ (y : Unit), True ∧ (Z0 = (NI (Option.getD (funS c f) N0)) ∧ false =
      Option.isSome (funS c f) ∧ True) ∧ True ∧ True) ((SM (S4 (FnD.code x_1)) ∧ SM (ZI (NI x_3.1.2.1)) ∧ SM (D.sl N1 (LN x_3.1.2.2) (fun (i : Nat) => [D.bool (List.getD x_3.1.2.2 i false)]) (Mode.tok N0 x_3.2.2)) ∧
      True) ∧ ∃ (y : Nat), (y ≤ LN (FnD.code (GF c f)) ∧ guardsB (empS c f N0 (FnD.code (GF c f)) []) (List.take y (FnD.code (GF c f))) = true) ∧ LN (FnD.code (GF c f)) - y < LN (FnD.code (GF c f)) - x ∧ (IntKind.wrap
      IntKind.i64 ((↑x : Int) + Z1) = (↑y : Int) ∧ True) ∧ True ∧ True)) (True ∧ ∃ (y : Unit), True ∧ ((NI x_3.1.2.1) = (NI (Option.getD (funS c f) N0)) ∧ true = Option.isSome (funS c f) ∧ True) ∧ True ∧ True)))) (by kernel_rfl) ?_
  delta D4 DA DF DK DL G4 GC GF GK GL LI LN N0 N1 N2 N4 NI R4 S4 SM TN Z0 Z1 ZI
  have de : (default : FnD) = ⟨0, []⟩ := rfl
  have d4 : (default : I4) = ⟨0, 0, 0, 0⟩ := rfl
  simp only [← de, ← d4, Int.toNat_natCast]
  simp only [ifB_iff, side_iff, decide_eq_true_eq, decide_eq_false_iff_not, true_and, and_true, beq_iff_eq, bne_iff_ne, Bool.cond_false_right, Bool.cond_true_left, Bool.and_eq_true, Bool.and_eq_false_iff, beq_eq_false_iff_ne, ne_eq]
  intro x2 _
  refine ⟨⟨by omega, c.funs.getD f default, rfl, ⟨rfl, fun _ _ => rfl⟩, fun _ _ => trivial, fun _ _ => trivial, fun _ _ => trivial, fun _ _ => trivial⟩, ?_⟩
  rintro _ rfl
  have hco : ∀ i : Nat, i < (c.funs.getD f default).code.length → ((c.funs.getD f default).code.getD i default).ok := fun i hi => getD_ok (getD_ok hc.2.1 hf).2.1 hi
  have hw1 : IntKind.i64.wrap (((c.funs.getD f default).code.length : Int) - 1) = ((c.funs.getD f default).code.length : Int) - 1 := wrap_i64' (by omega) (by omega)
  have hw2 : (((c.funs.getD f default).code.length : Int) - 1).toNat = (c.funs.getD f default).code.length - 1 := by omega
  have no : funS c f = none → ∃ y : Unit, (0 : Int) = ((funS c f).getD 0 : Nat) ∧ false = (funS c f).isSome := fun h => ⟨(), by simp [h], by simp [h]⟩
  have okp : okHead (c.funs.getD f default) = true ↔ (between (c.funs.getD f default).slots 0 1000 = true ∧ (c.funs.getD f default).code ≠ [] ∧ ((c.funs.getD f default).code.getD ((c.funs.getD f default).code.length - 1) default).a = 25) := by
    simp only [okHead, Bool.and_eq_true, decide_eq_true_eq, and_assoc]
  have fcut : ∀ b, b = !okHead (c.funs.getD f default) → ∃ y : Bool × O4, (y.1 = (!okHead (c.funs.getD f default)) ∧ CB c y.2) ∧ b = y.1 ∧ weakD (gsl 4 Arr.row c.consts) y.2.1 ∧ weakD (gsl 2 FnD.row c.funs) y.2.2.1 ∧ weakD (gsl 4 KeD.row c.kers) y.2.2.2.1 ∧ weakD (gsl 2 LaD.row c.lanes) y.2.2.2.2 :=
    fun b h => ⟨(b, (gsl 4 Arr.row c.consts, gsl 2 FnD.row c.funs, gsl 4 KeD.row c.kers, gsl 2 LaD.row c.lanes)), ⟨h, rfl⟩, rfl, weakD_refl _, weakD_refl _, weakD_refl _, weakD_refl _⟩
  refine ⟨⟨by omega, ⟨fun h => by rw [decide_eq_true h, Bool.true_and], fun h => by rw [decide_eq_false h, Bool.false_and]⟩, fun h => fcut _ ?_, fun h1 => ⟨fun h => fcut _ ?_, fun h2 => ⟨by rw [hw1]; omega, fcut _ ?_⟩⟩⟩, ?_⟩
  · symm
    rw [Bool.not_eq_true', ← Bool.not_eq_true]
    intro ho
    have := (okp.1 ho).1
    simp only [between] at this
    rw [this] at h
    cases h
  · symm
    rw [Bool.not_eq_true', ← Bool.not_eq_true]
    exact fun ho => (okp.1 ho).2.1 (List.eq_nil_of_length_eq_zero (by omega))
  · rw [hw1, hw2]
    have hb : between (c.funs.getD f default).slots 0 1000 = true := by simpa [between] using h1
    have hn : (c.funs.getD f default).code ≠ [] := by
      intro e; rw [e] at h2; exact h2 rfl
    simp only [okHead, hb, hn, Bool.true_and, decide_true, ne_eq, not_false_eq_true]
    rfl
  rintro ⟨b, dd⟩ ⟨hb, hdd⟩
  simp only at hb hdd ⊢
  have hD : weakD dd.1 (gsl 4 Arr.row c.consts) ∧ weakD dd.2.1 (gsl 2 FnD.row c.funs) ∧ weakD dd.2.2.1 (gsl 4 KeD.row c.kers) ∧ weakD dd.2.2.2 (gsl 2 LaD.row c.lanes) := by
    have h := hdd
    simp only [CB, O4.row, CodD.row, List.cons.injEq, and_true] at h
    obtain ⟨h1, h2, h3, h4⟩ := h
    rw [h1, h2, h3, h4]
    exact ⟨weakD_refl _, weakD_refl _, weakD_refl _, weakD_refl _⟩
  refine ⟨fun h => no ?_, fun h t => ?_⟩
  · rw [h] at hb
    simp only [funS]
    rw [if_neg]
    intro hh
    rw [okp.2 hh] at hb
    cases hb
  have hok := okp.1 (by rw [h] at hb; simpa using hb.symm)
  refine ⟨⟨((0, 0, []), [], t), ⟨Nat.zero_le _, Nat.le_refl _, Nat.zero_le _, by simp, rfl, by simp⟩, ⟨rfl, rfl, rfl, rfl, fun _ h => absurd h (Nat.not_lt_zero _), rfl⟩, ⟨weakD_refl _, weakD_refl _, weakD_refl _, weakD_refl _⟩, rfl⟩, ?_⟩
  rintro ⟨⟨i, deep, em⟩, st, t1⟩ hh
  simp only at hh ⊢
  refine ⟨fun hlt => ?_, fun hge => ?_⟩
  · have hlt : i < (c.funs.getD f default).code.length := by omega
    have hx := hco i hlt
    have hr := hh.hr
    have he0 := hh.he
    have hhi := hh.hi
    have hhs := hh.hs
    have hhd := hh.hd
    have hhl := hh.hl
    rw [drop_step hlt] at hr he0
    generalize (c.funs.getD f default).code.getD i default = x at *
    refine ⟨by omega, fun t2 => ⟨by omega, ⟨hD, hx⟩, fun y hy => ?_⟩⟩
    generalize he : effC c f ⟨x.a, x.b, x.c, x.d⟩ = e at *
    have he : effC c f x = e := he
    have hlen : e.isSome = true → st.length + y.2.length ≤ 1000000 ∧ y.1.length ≤ 1000000 := by
      intro h
      cases e with
      | none => cases h
      | some e' =>
        obtain rfl := hy e' rfl
        have := eff_len he
        omega
    have hst := step_all (i := i) (st := st) he hy
    have hie : ((st.length : Int) == 0) = st.isEmpty := by
      cases st with
      | nil => rfl
      | cons a l => simp; omega
    refine ⟨⟨hlen, by omega⟩, fun _ _ => ⟨?_, fun h => no ?_, fun h => ?_⟩⟩
    · clear hst hlen hr he0 hh hco no okp fcut hD hdd hok hy he hx hhl hhd hc hw1 hw2 hb hf hn
      generalize okA st y.1 e.isSome = q
      generalize (if q = true then newA st y.1 y.2 else []) = nx
      cases q with
      | false => exact ⟨fun _ => rfl, fun h => by cases h⟩
      | true =>
        refine ⟨fun h => (by cases h), fun _ => ?_⟩
        (repeat' (first | refine And.intro ?_ ?_ | intro _))
        all_goals first
          | omega
          | (simp_all; done)
          | (simp_all; omega)
    · have hn0 := hst.1 h
      rw [runS, hn0] at hr
      simp only [funS]
      rw [if_pos hok, ← hr]
    · obtain ⟨hq, hs⟩ := hst.2 h
      simp only [hq, if_true]
      have hnl := step_len hs
      rw [runS, hs] at hr
      rw [empS, hs] at he0
      refine ⟨((i + 1, max deep (newA st y.1 y.2).length, em ++ [st.isEmpty]), newA st y.1 y.2, t2), ⟨by simp only; omega, by simp only; omega, by simp only; omega, hr, by simp [hhl], by simpa using he0⟩, by simp only; omega, ⟨wrap_i64' (by omega) (by omega), rfl, maxI _ _, by simp, fun j hj => ?_, rfl⟩, ⟨weakD_refl _, weakD_refl _, weakD_refl _, weakD_refl _⟩, rfl⟩
      rw [hie]
      exact app_bools hj
  · have hiN : i = (c.funs.getD f default).code.length := by have := hh.hi; omega
    have hr := hh.hr
    have he0 := hh.he
    have hl := hh.hl
    rw [hiN, List.drop_length] at hr he0
    rw [runS] at hr
    rw [empS, List.append_nil] at he0
    refine ⟨⟨0, ⟨Nat.zero_le _, by simp [guardsB]⟩, rfl⟩, fun j hj => ⟨fun hlt => ?_, fun hge => ⟨(), ?_⟩⟩⟩
    · have hlt : j < (c.funs.getD f default).code.length := by omega
      have hmem : (c.funs.getD f default).code.getD j default ∈ (c.funs.getD f default).code := getD_mem hlt
      have htk := take_step hlt
      have hj2 := hj.2
      rw [← he0] at hj2 ⊢
      generalize (c.funs.getD f default).code.getD j default = x at *
      have hrng : x.a = 24 → 0 ≤ x.b ∧ x.b < ((c.funs.getD f default).code.length : Int) := fun ha => (let ⟨_, he⟩ := run_mem _ _ _ _ _ hr.symm x hmem; eff_guard he ha)
      refine ⟨⟨by omega, fun ha => ⟨by omega, by rw [hl, hiN]; exact hrng ha, by simp [ha]⟩, fun ha => by simp [ha]⟩, fun hb => no ?_, fun hb => ⟨j + 1, ⟨by omega, ?_⟩, by omega, wrap_i64' (by omega) (by omega)⟩⟩
      · simp only [funS]
        rw [if_pos hok, ← hr]
        simp only
        rw [if_neg]
        intro hg
        have := List.all_eq_true.1 hg x hmem
        rw [← he0] at this
        have h2 : em.getD x.b.toNat false = false := by simpa using hb.2
        rw [h2] at this
        simp [hb.1] at this
      · rw [htk]
        simp only [guardsB, List.all_append, Bool.and_eq_true] at hj2 ⊢
        refine ⟨hj2, ?_⟩
        simp only [List.all_cons, List.all_nil, Bool.and_true, Bool.or_eq_true, decide_eq_true_eq]
        rcases hb with hb | hb
        · exact .inl hb
        · exact .inr (by simpa using hb)
    · have hjN : j = (c.funs.getD f default).code.length := by omega
      have hg := hj.2
      rw [hjN, List.take_length] at hg
      have : funS c f = some deep := by simp only [funS]; rw [if_pos hok, ← hr]; simp only; rw [if_pos hg]
      rw [this]
      exact ⟨rfl, rfl⟩
end Go.Proofs.Ytoglbmhkfkghbaa
namespace Go.Proofs.Ytoglbmhkfkghbaa
open Go Go.Ab

/-! ### kernels of programs -/
theorem eOk0 {E : Senv} (h : E = { E0 con0 E.n E.V E.cross E.ord with ann := E.ann, inl := inlD (E0 con0 0 0 [] (fun _ => ([], []))) (frmGet frames) 5 }) : EnvOk E := by
  rw [h]
  exact ⟨tab_ok, con0_ok, mix, fun k ds S R h => inlD_ok (E := E0 con0 0 0 [] (fun _ => ([], []))) tab_ok con0_ok mix frames_ok eqs_ok 5 k ds S R h, eqs_ok⟩
def opB (inp : Int) (i : Nat) (o : I4) : Bool := primB o.a && between o.c 0 (inp + i - 1) && between o.b (-1) (inp + i - 1) && decide (0 ≤ o.d)
def kerB (k : KeD) : Bool := between k.inputs 1 16 && between k.ops.length 1 64 && decide (0 ≤ k.at_) && (decide (k.reduce = 0) || primB k.reduce) && (List.range k.ops.length).all fun i => opB k.inputs i (k.ops.getD i default)
def sKer : FnSpec where
  β := KeD
  α := Unit
  args := fun k => [.agg k.row]
  st := fun _ => ⟨[], []⟩
  pre := fun _ => True
  post := fun _ _ => True
  res := fun k _ => .ret (.bool (kerB k))
  out := fun _ _ => ⟨[], []⟩
theorem kerB_no {k : KeD} {i : Nat} (h : i < k.ops.length) (ho : opB k.inputs i (k.ops.getD i default) = false) : false = kerB k := by
  have : ((List.range k.ops.length).all fun i => opB k.inputs i (k.ops.getD i default)) = false := by
    rw [List.all_eq_false]
    exact ⟨i, List.mem_range.2 h, by simp only [ho]; simp⟩
  simp only [kerB, this, Bool.and_false]
theorem kerB_yes {k : KeD} (h1 : 1 ≤ k.inputs) (h2 : k.inputs ≤ 16) (h3 : 1 ≤ (k.ops.length : Int)) (h4 : (k.ops.length : Int) ≤ 64) (h5 : ¬ k.at_ < 0) (h6 : k.reduce = 0 ∨ (1 ≤ k.reduce ∧ k.reduce ≤ 55)) (ho : ∀ j, j < k.ops.length → opB k.inputs j (k.ops.getD j default) = true) : true = kerB k := by
  have : ((List.range k.ops.length).all fun i => opB k.inputs i (k.ops.getD i default)) = true := by
    rw [List.all_eq_true]
    exact fun i hi => ho i (List.mem_range.1 hi)
  symm
  simp only [kerB, this, between, primB, Bool.and_true, Bool.and_eq_true, Bool.or_eq_true, decide_eq_true_eq]
  refine ⟨⟨⟨⟨h1, h2⟩, h3, h4⟩, by omega⟩, h6⟩
def kerAnn (k : KeD) (d : D) : Option LoopAnn :=
  match d with
  | .ref t x _ => some { slots := [36], keep := [1, 34, 35], α := Nat, st := fun i => ([.int .i64 i], ⟨[(t, x, .cells k.row)], []⟩), inv := fun i => i ≤ k.ops.length ∧ ∀ j, j < i → opB k.inputs j (k.ops.getD j default) = true, mu := fun i => k.ops.length - i }
  | _ => none
noncomputable def Eker (k : KeD) : Senv := { E0 con0 70 6 [32, 34, 35, 36, 37, 68] (fun _ => ([], [])) with
  inl := inlD (E0 con0 0 0 [] (fun _ => ([], []))) (frmGet frames) 5
  ann := fun b env _ => match b with
    | 0 => kerAnn k (Ab.look env 1)
    | _ => none }
theorem ker_ok (k : KeD) (h : k.ok) : ACalls Try.prog 38 (sKer.args k) (sKer.st k) (SpecR sKer k) := by
  refine con_of (A := sKer) (x := k) (E := Eker k) (eOk0 rfl) Try.func38 rfl (by kernel_rfl) rfl (by simp [sKer, Eker, E0]) ?_
  refine vc_eq (T :=
      ∀ (x : Nat), True → SM x ∧ ifB (decide (Z1 ≤ KeD.inputs k)) (True ∧ ifB (!decide (KeD.inputs k ≤ (16 : Int))) (True ∧ ∃ (y : Unit), True ∧ false = kerB k ∧ True ∧ True) (SM x ∧ ifB (decide (Z1 ≤ (LI (KeD.ops k))))
      (True ∧ ifB (!decide ((LI (KeD.ops k)) ≤ (64 : Int))) (True ∧ ∃ (y : Unit), True ∧ false = kerB k ∧ True ∧ True) (SM x ∧ ifB (decide (KeD.at_ k < Z0)) (True ∧ ∃ (y : Unit), True ∧ false = kerB k ∧ True ∧ True) (SM
      x ∧ ifB (KeD.reduce k != Z0) (SM x ∧ ifB (decide (Z1 ≤ KeD.reduce k)) (True ∧ True ∧ ifB (!decide (KeD.reduce k ≤ (55 : Int))) (True ∧ ∃ (y : Unit), True ∧ false = kerB k ∧ True ∧ True) (SM x ∧ (∃ (x_1 : Nat), (x_1
      ≤ LN (KeD.ops k) ∧ ∀ (j : Nat), j < x_1 → opB (KeD.inputs k) j (G4 (KeD.ops k) j) = true) ∧ (Z0 = (↑x_1 : Int) ∧ True) ∧ (SM x ∧ (SM (KeD.inputs k) ∧ (SM (LN (KeD.ops k)) ∧ (∀ (i : Nat), i < LN (KeD.ops k) → SM (R4
      (G4 (KeD.ops k) i))) ∧ True) ∧ SM (KeD.reduce k) ∧ SM (KeD.at_ k) ∧ True) ∧ True) ∧ True) ∧ ∀ (x_1 : Nat), (x_1 ≤ LN (KeD.ops k) ∧ ∀ (j : Nat), j < x_1 → opB (KeD.inputs k) j (G4 (KeD.ops k) j) = true) → ifB
      (decide ((↑x_1 : Int) < (LI (KeD.ops k)))) (side (Z0 ≤ (↑x_1 : Int) ∧ (↑x_1 : Int) < (LI (KeD.ops k))) (∀ (x_2 : Nat), x ≠ x_2 ∧ True → SM x_2 ∧ SM x ∧ SM x_2 ∧ ifB (decide (Z1 ≤ I4.a (G4 (KeD.ops k) (Int.toNat
      (↑x_1 : Int))))) (True ∧ True ∧ ifB (!decide (I4.a (G4 (KeD.ops k) (Int.toNat (↑x_1 : Int))) ≤ (55 : Int))) (True ∧ ∃ (y : Unit), True ∧ false = kerB k ∧ True ∧ True) (SM x_2 ∧ ifB (decide (Z0 ≤ I4.c (G4 (KeD.ops
      k) (Int.toNat (↑x_1 : Int))))) (True ∧ ifB (!decide (I4.c (G4 (KeD.ops k) (Int.toNat (↑x_1 : Int))) ≤ IntKind.wrap IntKind.i64 (IntKind.wrap IntKind.i64 (KeD.inputs k + (↑x_1 : Int)) - Z1))) (True ∧ ∃ (y : Unit),
      True ∧ false = kerB k ∧ True ∧ True) (SM x_2 ∧ ifB (decide ((-1 : Int) ≤ I4.b (G4 (KeD.ops k) (Int.toNat (↑x_1 : Int))))) (True ∧ ifB (!decide (I4.b (G4 (KeD.ops k) (Int.toNat (↑x_1 : Int))) ≤ IntKind.wrap
      IntKind.i64 (IntKind.wrap IntKind.i64 (KeD.inputs k + (↑x_1 : Int)) - Z1))) (True ∧ ∃ (y : Unit), True ∧ false = kerB k ∧ True ∧ True) (SM x_2 ∧ ifB (decide (I4.d (G4 (KeD.ops k) (Int.toNat (↑x_1 : Int))) < Z0))
      (True ∧ ∃ (y : Unit), True ∧ false = kerB k ∧ True ∧ True) ((SM (D.ref N0 x N0) ∧ SM (S4 (KeD.ops k)) ∧ SM (ZI (LI (KeD.ops k))) ∧ True) ∧ ∃ (y : Nat), (y ≤ LN (KeD.ops k) ∧ ∀ (j : Nat), j < y → opB (KeD.inputs k)
      j (G4 (KeD.ops k) j) = true) ∧ LN (KeD.ops k) - y < LN (KeD.ops k) - x_1 ∧ (IntKind.wrap IntKind.i64 ((↑x_1 : Int) + Z1) = (↑y : Int) ∧ True) ∧ (SM x ∧ (SM (KeD.inputs k) ∧ (SM (LN (KeD.ops k)) ∧ (∀ (i : Nat), i <
      LN (KeD.ops k) → SM (R4 (G4 (KeD.ops k) i))) ∧ True) ∧ SM (KeD.reduce k) ∧ SM (KeD.at_ k) ∧ True) ∧ True) ∧ True))) (True ∧ True ∧ ∃ (y : Unit), True ∧ false = kerB k ∧ True ∧ True))) (True ∧ True ∧ ∃ (y : Unit),
      True ∧ false = kerB k ∧ True ∧ True))) (True ∧ True ∧ True ∧ ∃ (y : Unit), True ∧ false = kerB k ∧ True ∧ True))) (True ∧ ∃ (y : Unit), True ∧ true = kerB k ∧ True ∧ True))) (True ∧ True ∧ True ∧ ∃ (y : Unit), True
      ∧ false = kerB k ∧ True ∧ True)) (SM x ∧ (∃ (x_1 : Nat), (x_1 ≤ LN (KeD.ops k) ∧ ∀ (j : Nat), j < x_1 → opB (KeD.inputs k) j (G4 (KeD.ops k) j) = true) ∧ (Z0 = (↑x_1 : Int) ∧ True) ∧ (SM x ∧ (SM (KeD.inputs k) ∧
      (SM (LN (KeD.ops k)) ∧ (∀ (i : Nat), i < LN (KeD.ops k) → SM (R4 (G4 (KeD.ops k) i))) ∧ True) ∧ SM (KeD.reduce k) ∧ SM (KeD.at_ k) ∧ True) ∧ True) ∧ True) ∧ ∀ (x_1 : Nat), (x_1 ≤ LN (KeD.ops k) ∧ ∀ (j : Nat), j <
      x_1 → opB (KeD.inputs k) j (G4 (KeD.ops k) j) = true) → ifB (decide ((↑x_1 : Int) < (LI (KeD.ops k)))) (side (Z0 ≤ (↑x_1 : Int) ∧ (↑x_1 : Int) < (LI (KeD.ops k))) (∀ (x_2 : Nat), x ≠ x_2 ∧ True → SM x_2 ∧ SM x ∧ SM
      x_2 ∧ ifB (decide (Z1 ≤ I4.a (G4 (KeD.ops k) (Int.toNat (↑x_1 : Int))))) (True ∧ True ∧ ifB (!decide (I4.a (G4 (KeD.ops k) (Int.toNat (↑x_1 : Int))) ≤ (55 : Int))) (True ∧ ∃ (y : Unit), True ∧ false = kerB k ∧ True
      ∧ True) (SM x_2 ∧ ifB (decide (Z0 ≤ I4.c (G4 (KeD.ops k) (Int.toNat (↑x_1 : Int))))) (True ∧ ifB (!decide (I4.c (G4 (KeD.ops k) (Int.toNat (↑x_1 : Int))) ≤ IntKind.wrap IntKind.i64 (IntKind.wrap IntKind.i64
      (KeD.inputs k + (↑x_1 : Int)) - Z1))) (True ∧ ∃ (y : Unit), True ∧ false = kerB k ∧ True ∧ True) (SM x_2 ∧ ifB (decide ((-1 : Int) ≤ I4.b (G4 (KeD.ops k) (Int.toNat (↑x_1 : Int))))) (True ∧ ifB (!decide (I4.b (G4
      (KeD.ops k) (Int.toNat (↑x_1 : Int))) ≤ IntKind.wrap IntKind.i64 (IntKind.wrap IntKind.i64 (KeD.inputs k + (↑x_1 : Int)) - Z1))) (True ∧ ∃ (y : Unit), True ∧ false = kerB k ∧ True ∧ True) (SM x_2 ∧ ifB (decide
      (I4.d (G4 (KeD.ops k) (Int.toNat (↑x_1 : Int))) < Z0)) (True ∧ ∃ (y : Unit), True ∧ false = kerB k ∧ True ∧ True) ((SM (D.ref N0 x N0) ∧ SM (S4 (KeD.ops k)) ∧ SM (ZI (LI (KeD.ops k))) ∧ True) ∧ ∃ (y : Nat), (y ≤ LN
      (KeD.ops k) ∧ ∀ (j : Nat), j < y → opB (KeD.inputs k) j (G4 (KeD.ops k) j) = true) ∧ LN (KeD.ops k) - y < LN (KeD.ops k) - x_1 ∧ (IntKind.wrap IntKind.i64 ((↑x_1 : Int) + Z1) = (↑y : Int) ∧ True) ∧ (SM x ∧ (SM
      (KeD.inputs k) ∧ (SM (LN (KeD.ops k)) ∧ (∀ (i : Nat), i < LN (KeD.ops k) → SM (R4 (G4 (KeD.ops k) i))) ∧ True) ∧ SM (KeD.reduce k) ∧ SM (KeD.at_ k) ∧ True) ∧ True) ∧ True))) (True ∧ True ∧ ∃ (y : Unit), True ∧
      false = kerB k ∧ True ∧ True))) (True ∧ True ∧ ∃ (y : Unit), True ∧ false = kerB k ∧ True ∧ True))) (True ∧ True ∧ True ∧ ∃ (y : Unit), True ∧ false = kerB k ∧ True ∧ True))) (True ∧ ∃ (y : Unit), True ∧ true =
      kerB k ∧ True ∧ True))))) (True ∧ True ∧ ∃ (y : Unit), True ∧ false = kerB k ∧ True ∧ True))) (True ∧ True ∧ ∃ (y : Unit), True ∧ false = kerB k ∧ True ∧ True)) (by kernel_rfl) ?_
  delta D4 G4 LI LN N0 N4 R4 S4 SM Z0 Z1 ZI
  intro x _
  simp only [ifB_iff, side_iff, decide_eq_true_eq, decide_eq_false_iff_not, true_and, and_true, Bool.not_eq_true', Bool.not_eq_false', Int.toNat_natCast, exists_const, forall_const, bne_iff_ne, ne_eq, bne_eq_false_iff_eq]
  refine ⟨fun h1 => ⟨fun n => by simp [kerB, between, n], fun h2 => ⟨fun h3 => ⟨fun n => by simp [kerB, between]; omega, fun h4 => ⟨fun n => by simp [kerB]; omega, fun h5 => ⟨fun r0 => ⟨fun r1 => ⟨fun n => by simp [kerB, primB, between]; omega, fun r2 => ?_⟩, fun n => by simp [kerB, primB, between]; omega⟩, fun r0 => ?_⟩⟩⟩, fun n => by simp [kerB, between]; omega⟩⟩, fun n => by simp [kerB, between, n]⟩
  · have H6 : k.reduce = 0 ∨ (1 ≤ k.reduce ∧ k.reduce ≤ 55) := .inr ⟨r1, r2⟩
    refine ⟨⟨0, ⟨Nat.zero_le _, fun j hj => absurd hj (Nat.not_lt_zero j)⟩, rfl, fun _ _ => trivial⟩, fun i hi => ⟨fun hlt => ⟨⟨by omega, hlt⟩, fun y _ => ?_⟩, fun hge => ?_⟩⟩
    · have hl : i < k.ops.length := by omega
      have hw : IntKind.i64.wrap (IntKind.i64.wrap (k.inputs + (i : Int)) - 1) = k.inputs + i - 1 := by
        rw [wrap_i64' (n := k.inputs + i) (by omega) (by omega), wrap_i64' (by omega) (by omega)]
      rw [hw]
      have no : ∀ {b : Bool}, opB k.inputs i (k.ops.getD i default) = b → b = false → false = kerB k := fun h1 h2 => kerB_no hl (h1.trans h2)
      have de : (default : I4) = ⟨0, 0, 0, 0⟩ := rfl
      rw [← de] at *
      generalize hk : k.ops.getD i default = o at *
      refine ⟨fun a1 => ⟨fun a2 => no rfl (by simp [opB, primB, between]; omega), fun a2 => ⟨fun c1 => ⟨fun c2 => no rfl (by simp [opB, primB, between]; omega), fun c2 => ⟨fun b1 => ⟨fun b2 => no rfl (by simp [opB, primB, between]; omega), fun b2 => ⟨fun d1 => no rfl (by simp [opB, primB, between]; omega), fun d1 => ⟨i + 1, ⟨by omega, fun j hj => ?_⟩, by omega, wrap_i64' (by omega) (by omega), fun _ _ => trivial⟩⟩⟩, fun b1 => no rfl (by simp [opB, primB, between]; omega)⟩⟩, fun c1 => no rfl (by simp [opB, primB, between]; omega)⟩⟩, fun a1 => no rfl (by simp [opB, primB, between]; omega)⟩
      by_cases e : j = i
      · subst e; rw [hk]; simp only [opB, primB, between, Bool.and_eq_true, decide_eq_true_eq]; omega
      · exact hi.2 j (by omega)
    · exact kerB_yes h1 h2 h3 h4 h5 H6 fun j hj => hi.2 j (by omega)
  · have H6 : k.reduce = 0 ∨ (1 ≤ k.reduce ∧ k.reduce ≤ 55) := .inl r0
    refine ⟨⟨0, ⟨Nat.zero_le _, fun j hj => absurd hj (Nat.not_lt_zero j)⟩, rfl, fun _ _ => trivial⟩, fun i hi => ⟨fun hlt => ⟨⟨by omega, hlt⟩, fun y _ => ?_⟩, fun hge => ?_⟩⟩
    · have hl : i < k.ops.length := by omega
      have hw : IntKind.i64.wrap (IntKind.i64.wrap (k.inputs + (i : Int)) - 1) = k.inputs + i - 1 := by
        rw [wrap_i64' (n := k.inputs + i) (by omega) (by omega), wrap_i64' (by omega) (by omega)]
      rw [hw]
      have no : ∀ {b : Bool}, opB k.inputs i (k.ops.getD i default) = b → b = false → false = kerB k := fun h1 h2 => kerB_no hl (h1.trans h2)
      have de : (default : I4) = ⟨0, 0, 0, 0⟩ := rfl
      rw [← de] at *
      generalize hk : k.ops.getD i default = o at *
      refine ⟨fun a1 => ⟨fun a2 => no rfl (by simp [opB, primB, between]; omega), fun a2 => ⟨fun c1 => ⟨fun c2 => no rfl (by simp [opB, primB, between]; omega), fun c2 => ⟨fun b1 => ⟨fun b2 => no rfl (by simp [opB, primB, between]; omega), fun b2 => ⟨fun d1 => no rfl (by simp [opB, primB, between]; omega), fun d1 => ⟨i + 1, ⟨by omega, fun j hj => ?_⟩, by omega, wrap_i64' (by omega) (by omega), fun _ _ => trivial⟩⟩⟩, fun b1 => no rfl (by simp [opB, primB, between]; omega)⟩⟩, fun c1 => no rfl (by simp [opB, primB, between]; omega)⟩⟩, fun a1 => no rfl (by simp [opB, primB, between]; omega)⟩
      by_cases e : j = i
      · subst e; rw [hk]; simp only [opB, primB, between, Bool.and_eq_true, decide_eq_true_eq]; omega
      · exact hi.2 j (by omega)
    · exact kerB_yes h1 h2 h3 h4 h5 H6 fun j hj => hi.2 j (by omega)
end Go.Proofs.Ytoglbmhkfkghbaa
namespace Go.Proofs.Ytoglbmhkfkghbaa
open Go Go.Ab

/-! ### kernels over lists -/
def sKq (q : KeD → Prop) (r : KeD → Bool) : FnSpec where
  β := KeD
  α := Unit
  args := fun k => [.agg k.row]
  st := fun _ => ⟨[], []⟩
  pre := q
  post := fun _ _ => True
  res := fun k _ => .ret (.bool (r k))
  out := fun _ _ => ⟨[], []⟩
def conKe (k : KeD) : Con := fun f _ _ => match f with
  | 38 => some (sKq (fun x => x = k) kerB)
  | _ => none
theorem conKe_ok {k : KeD} (hk : k.ok) : ConOk Try.prog (conKe k) := by
  intro f ds S A h
  unfold conKe at h
  split at h
  · injection h with h; subst h
    refine ConOk.plain (fun b hb => ?_) rfl rfl
    have hb : b = k := hb
    rw [hb]
    exact (ker_ok k hk).mono fun _ _ ⟨y, h1, h2, h3⟩ => ⟨y, h1, h2, h3⟩
  · cases h
noncomputable def Ebk (k : KeD) : Senv := EC (conKe k) 6 3 [] (fun _ => ([], []))
theorem badk_ok (k : KeD) (hk : k.ok) : ACalls Try.prog 37 ((sKq (fun _ => True) (fun k => !kerB k)).args k) ⟨[], []⟩ (SpecR (sKq (fun _ => True) (fun k => !kerB k)) k) := by
  refine con_of (A := sKq (fun _ => True) (fun k => !kerB k)) (x := k) (E := Ebk k) (eOk (conKe_ok hk) rfl) Try.func37 rfl (by kernel_rfl) rfl (by simp [sKq, Ebk, EC, E0]) ?_
  simp only [sKq]
  refine vc_eq (T :=
      ∀ (x : Nat), True → SM x ∧ ∃ (x : KeD), ((KeD.inputs k = KeD.inputs x ∧ (LN (KeD.ops k) = LN (KeD.ops x) ∧ (∀ (i : Nat), i < LN (KeD.ops k) → (R4 (G4 (KeD.ops k) i)) = (R4 (G4 (KeD.ops x) i))) ∧ True) ∧ KeD.reduce
      k = KeD.reduce x ∧ KeD.at_ k = KeD.at_ x ∧ True) ∧ True) ∧ (True ∧ True) ∧ x = k ∧ ∀ (y : Unit), True → True ∧ ∃ (y : Unit), True ∧ (!kerB x) = !kerB k ∧ True ∧ True) (by kernel_rfl) ?_
  delta D4 G4 LN R4 SM Z0 ZI
  simp only [and_true, exists_const]
  intro x _
  exact ⟨trivial, k, ⟨rfl, ⟨rfl, fun _ _ => rfl⟩, rfl, rfl⟩, trivial, rfl, fun _ _ => ⟨trivial, trivial, rfl⟩⟩
def conBk (l : List KeD) : Con := fun k _ _ => match k with
  | 37 => some (sKq (fun b => b ∈ l) (fun b => !kerB b))
  | _ => none
theorem conBk_ok {l : List KeD} (h : ∀ a ∈ l, a.ok) : ConOk Try.prog (conBk l) := by
  intro k ds S A hh
  unfold conBk at hh
  split at hh
  · injection hh with hh; subst hh
    exact ConOk.plain (fun b hb => (badk_ok b (h b hb)).mono fun _ _ ⟨y, h1, h2, h3⟩ => ⟨y, h1, h2, h3⟩) rfl rfl
  · cases hh
noncomputable def Eixk (l : List KeD) : Senv := { EC (conBk l) 19 2 [4, 5, 7, 8, 9, 16] (fun _ => ([], [])) with
  ann := fun b _ _ => match b with
    | 0 => some { slots := [8], keep := [0, 1, 6, 7], α := Nat, st := fun i => ([.int .i64 i], ⟨[], []⟩), inv := fun i => IdxG (fun a => !kerB a) l i, mu := fun i => l.length - i }
    | _ => none }
theorem ixk_ok (l : List KeD) (h : ∀ a ∈ l, a.ok) (hl : l.length ≤ maxLen) : ACalls Try.prog 60 [gsl 4 KeD.row l, .fn (.func 37) [] []] ⟨[], []⟩ (SpecR (sC [gsl 4 KeD.row l, .fn (.func 37) [] []] (.int .i64 (idxG (fun a => !kerB a) l 0))) ()) := by
  refine con_of (A := sC _ _) (x := ()) (E := Eixk l) (eOk (conBk_ok h) rfl) Try.func60 rfl (by kernel_rfl) rfl (by simp [sC, Eixk, EC, E0]) ?_
  refine vc_eq (T :=
      (∃ (x : Nat), IdxG (fun (a : KeD) => !kerB a) l x ∧ (Z0 = (↑x : Int) ∧ True) ∧ True ∧ True) ∧ ∀ (x : Nat), IdxG (fun (a : KeD) => !kerB a) l x → ifB (decide ((↑x : Int) < (LI l))) (side (Z0 ≤ (↑x : Int) ∧ (↑x :
      Int) < (LI l)) (∃ (x_1 : KeD), ((KeD.inputs (List.getD l (Int.toNat (↑x : Int)) DK) = KeD.inputs x_1 ∧ (LN (KeD.ops (List.getD l (Int.toNat (↑x : Int)) DK)) = LN (KeD.ops x_1) ∧ (∀ (i : Nat), i < LN (KeD.ops
      (List.getD l (Int.toNat (↑x : Int)) DK)) → (R4 (G4 (KeD.ops (List.getD l (Int.toNat (↑x : Int)) DK)) i)) = (R4 (G4 (KeD.ops x_1) i))) ∧ True) ∧ KeD.reduce (List.getD l (Int.toNat (↑x : Int)) DK) = KeD.reduce x_1 ∧
      KeD.at_ (List.getD l (Int.toNat (↑x : Int)) DK) = KeD.at_ x_1 ∧ True) ∧ True) ∧ (True ∧ True) ∧ x_1 ∈ l ∧ ∀ (y : Unit), True → ifB (!kerB x_1) (True ∧ ∃ (y : Unit), True ∧ (↑x : Int) = idxG (fun (a : KeD) => !kerB
      a) l Z0 ∧ True ∧ True) ((SM (D.sl N4 (LN l) (fun (i : Nat) => KeD.row (List.getD l i DK)) Mode.any) ∧ SM (D.fn (Fn.func (37 : Nat)) [] []) ∧ SM D.unk ∧ SM (ZI (LI l)) ∧ True) ∧ ∃ (y : Nat), IdxG (fun (a : KeD) =>
      !kerB a) l y ∧ LN l - y < LN l - x ∧ (IntKind.wrap IntKind.i64 ((↑x : Int) + Z1) = (↑y : Int) ∧ True) ∧ True ∧ True))) (True ∧ ∃ (y : Unit), True ∧ (-1 : Int) = idxG (fun (a : KeD) => !kerB a) l Z0 ∧ True ∧ True)) (by kernel_rfl) ?_
  delta D4 DK G4 LI LN N4 R4 SM Z0 Z1 ZI
  simp only [Int.toNat_natCast, ifB_iff, side_iff, decide_eq_true_eq, decide_eq_false_iff_not, true_and, and_true, exists_const]
  simp only [maxLen] at hl
  refine ⟨⟨0, ⟨Nat.zero_le _, by simp⟩, rfl⟩, fun i hh => ⟨fun hlt => ?_, fun hge => (hh.done hge).symm⟩⟩
  have hlt' : i < l.length := by omega
  obtain ⟨s1, s2⟩ := hh.step hlt'
  exact ⟨⟨by omega, hlt⟩, l.getD i default, ⟨rfl, ⟨rfl, fun _ _ => rfl⟩, rfl, rfl⟩, mem_getD hlt', fun _ _ => ⟨fun e => (s1 e).symm, fun e => ⟨i + 1, s2 e, by omega, wrap_i64' (by omega) (by omega)⟩⟩⟩
noncomputable def Ecfk (l : List KeD) : Senv := EC (fun k ds _ => match k with
  | 60 => some (pC ds (.int .i64 (idxG (fun a => !kerB a) l 0)) (ds = [gsl 4 KeD.row l, .fn (.func 37) [] []]))
  | _ => none) 9 2 [4] (fun _ => ([], []))
theorem cfk_ok (l : List KeD) (h : ∀ a ∈ l, a.ok) (hl : l.length ≤ maxLen) : ACalls Try.prog 36 [gsl 4 KeD.row l, .fn (.func 37) [] []] ⟨[], []⟩ (SpecR (sC [gsl 4 KeD.row l, .fn (.func 37) [] []] (.bool (l.any fun a => !kerB a))) ()) := by
  refine con_of (A := sC _ _) (x := ()) (E := Ecfk l) (eOk ?_ rfl) Try.func36 rfl (by kernel_rfl) rfl (by simp [sC, Ecfk, EC, E0]) ?_
  · intro k ds S A hh
    dsimp only at hh
    split at hh
    · injection hh with hh; subst hh
      refine pC_ok fun e => ⟨weakL_refl _, ?_⟩
      rw [e]
      exact ixk_ok l h hl
    · cases hh
  refine vc_eq (T :=
      SM [D.sl N4 (LN l) (fun (i : Nat) => KeD.row (List.getD l i DK)) Mode.any, D.fn (Fn.func (37 : Nat)) [] []] ∧ ∀ (y : Unit), True → True ∧ ∃ (y : Unit), True ∧ (decide (Z0 ≤ idxG (fun (a : KeD) => !kerB a) l Z0) =
      List.any l fun (a : KeD) => !kerB a) ∧ True ∧ True) (by kernel_rfl) ?_
  delta DK LN N4 SM Z0
  simp only [Int.toNat_natCast, ifB_iff, side_iff, decide_eq_true_eq, decide_eq_false_iff_not, true_and, and_true, exists_const]
  exact fun _ _ => idxG_any _ l 0 (Int.le_refl _)
end Go.Proofs.Ytoglbmhkfkghbaa
namespace Go.Proofs.Ytoglbmhkfkghbaa
open Go Go.Ab

/-! ### bytecode.Right -/
def totI : List FnD → Int → Int
  | [], t => t
  | x :: r, t => totI r (IntKind.i64.wrap (t + x.code.length))
def conRt (c : CodD) : Con := fun k ds _ => match k with
  | 33 => some (pC ds (.bool (c.consts.any fun a => (chkA a).1 != 0)) (weakL ds [gsl 4 Arr.row c.consts, .fn (.func 34) [] []]))
  | 36 => some (pC ds (.bool (c.kers.any fun a => !kerB a)) (weakL ds [gsl 4 KeD.row c.kers, .fn (.func 37) [] []]))
  | 39 => match ds with
    | [_, .int .i64 z] => some (pC ds (funD (funS c z.toNat)) (weakL ds [.agg c.row, .int .i64 z.toNat] ∧ z.toNat < c.funs.length))
    | _ => none
  | _ => none
theorem conRt_ok {c : CodD} (hc : c.ok) (hs : ∀ f, f < c.funs.length → (c.funs.getD f default).code.length ≤ 65536) : ConOk Try.prog (conRt c) := by
  intro k ds S A h
  unfold conRt at h
  split at h
  · injection h with h; subst h
    exact pC_ok fun e => ⟨weakL_refl _, sC_weak e (cf_ok _ hc.1 hc.2.2.2.2.1)⟩
  · injection h with h; subst h
    exact pC_ok fun e => ⟨weakL_refl _, sC_weak e (cfk_ok _ hc.2.2.1 hc.2.2.2.2.2.2.1)⟩
  · split at h
    · injection h with h; subst h
      exact pC_ok fun ⟨e, hf⟩ => ⟨weakL_refl _, sC_weak e (fun_ok c _ hf hc (hs _ hf))⟩
    · cases h
  · cases h
noncomputable def Ert (c : CodD) : Senv := { EC (conRt c) 82 4 [5, 6, 7, 8, 10, 11, 12, 13, 41, 44, 63, 66, 69, 70, 71, 80] (fun _ => ([], [])) with
  ann := fun b _ S => match b with
    | 0 => some { slots := [12, 3], keep := [0, 1, 2, 10, 11], α := Nat × Int, st := fun y => ([.int .i64 y.1, .int .i64 y.2], S), inv := fun y => y.1 ≤ c.funs.length ∧ totI (c.funs.drop y.1) y.2 = totI c.funs 0, mu := fun y => c.funs.length - y.1 }
    | 2 => some { slots := [70], keep := [0, 1, 2, 68, 69], α := Nat, st := fun i => ([.int .i64 i], S), inv := fun i => i ≤ c.funs.length ∧ ∀ j, j < i → (funS c j).isSome = true, mu := fun i => c.funs.length - i }
    | _ => none }
def rightC (c : CodD) : Int :=
  if 1024 < c.funs.length ∨ 65536 < totI c.funs 0 ∨ 65536 < c.consts.length ∨ 4096 < c.kers.length then 21
  else if (c.consts.any fun a => (chkA a).1 != 0) = true then 1
  else if c.funs.length = 0 ∨ (c.lanes.length ≠ 0 ∧ c.lanes.length ≠ c.kers.length) then 26
  else if (c.kers.any fun a => !kerB a) = true then 26
  else if ((List.range c.funs.length).all fun f => (funS c f).isSome) = true then 0 else 26
theorem rt_ok (c : CodD) (hc : c.ok) (hs : ∀ f, f < c.funs.length → (c.funs.getD f default).code.length ≤ 65536) : ACalls Try.prog 20 [.agg c.row] ⟨[], []⟩ (SpecR (sC [.agg c.row] (.int .i64 (rightC c))) ()) := by
  refine con_of (A := sC _ _) (x := ()) (E := Ert c) (eOk (conRt_ok hc hs) rfl) Try.func20 rfl (by kernel_rfl) rfl (by simp [sC, Ert, EC, E0]) ?_
  refine vc_eq (T :=
      ∀ (x : Nat), True → SM x ∧ (∃ (x_1 : Nat × Int), (x_1.1 ≤ LN (CodD.funs c) ∧ totI (List.drop x_1.1 (CodD.funs c)) x_1.2 = totI (CodD.funs c) Z0) ∧ (Z0 = (NI x_1.1) ∧ Z0 = x_1.2 ∧ True) ∧ (SM x ∧ ((SM (LN
      (CodD.consts c)) ∧ (∀ (i : Nat), i < LN (CodD.consts c) → SM (Arr.row (GC c i))) ∧ True) ∧ (SM (LN (CodD.funs c)) ∧ (∀ (i : Nat), i < LN (CodD.funs c) → SM [ZI (FnD.slots (GF c i)), S4 (FnD.code (GF c i))]) ∧ True)
      ∧ (SM (LN (CodD.kers c)) ∧ (∀ (i : Nat), i < LN (CodD.kers c) → SM (KeD.row (GK c i))) ∧ True) ∧ (SM (LN (CodD.lanes c)) ∧ (∀ (i : Nat), i < LN (CodD.lanes c) → SM (LaD.row (GL c i))) ∧ True) ∧ True) ∧ True) ∧
      True) ∧ ∀ (x_1 : Nat × Int), x_1.1 ≤ LN (CodD.funs c) ∧ totI (List.drop x_1.1 (CodD.funs c)) x_1.2 = totI (CodD.funs c) Z0 → ifB (decide ((NI x_1.1) < (LI (CodD.funs c)))) (side (Z0 ≤ (NI x_1.1) ∧ (NI x_1.1) < (LI
      (CodD.funs c))) (∀ (x_2 : Nat), x ≠ x_2 ∧ True → SM x_2 ∧ SM x_2 ∧ (SM (D.agg [D.sl N4 (LN (CodD.consts c)) (fun (i : Nat) => Arr.row (GC c i)) Mode.any, D.sl N2 (LN (CodD.funs c)) (fun (i : Nat) => [ZI (FnD.slots
      (GF c i)), S4 (FnD.code (GF c i))]) Mode.any, D.sl N4 (LN (CodD.kers c)) (fun (i : Nat) => KeD.row (GK c i)) Mode.any, D.sl N2 (LN (CodD.lanes c)) (fun (i : Nat) => LaD.row (GL c i)) Mode.any]) ∧ SM (D.ref N0 x N0)
      ∧ SM (ZI Z0) ∧ SM (D.sl N2 (LN (CodD.funs c)) (fun (i : Nat) => [ZI (FnD.slots (GF c i)), S4 (FnD.code (GF c i))]) Mode.any) ∧ SM (ZI (LI (CodD.funs c))) ∧ True) ∧ ∃ (y : Nat × Int), (y.1 ≤ LN (CodD.funs c) ∧ totI
      (List.drop y.1 (CodD.funs c)) y.2 = totI (CodD.funs c) Z0) ∧ LN (CodD.funs c) - y.1 < LN (CodD.funs c) - x_1.1 ∧ (IntKind.wrap IntKind.i64 ((NI x_1.1) + Z1) = (NI y.1) ∧ IntKind.wrap IntKind.i64 (x_1.2 + (LI
      (FnD.code (GF c (TN x_1.1))))) = y.2 ∧ True) ∧ (SM x ∧ ((SM (LN (CodD.consts c)) ∧ (∀ (i : Nat), i < LN (CodD.consts c) → SM (Arr.row (GC c i))) ∧ True) ∧ (SM (LN (CodD.funs c)) ∧ (∀ (i : Nat), i < LN (CodD.funs c)
      → SM [ZI (FnD.slots (GF c i)), S4 (FnD.code (GF c i))]) ∧ True) ∧ (SM (LN (CodD.kers c)) ∧ (∀ (i : Nat), i < LN (CodD.kers c) → SM (KeD.row (GK c i))) ∧ True) ∧ (SM (LN (CodD.lanes c)) ∧ (∀ (i : Nat), i < LN
      (CodD.lanes c) → SM (LaD.row (GL c i))) ∧ True) ∧ True) ∧ True) ∧ True)) ((SM x ∧ ifB (decide ((1024 : Int) < (LI (CodD.funs c)))) ((true = bif bif bif decide ((1024 : Int) < (LI (CodD.funs c))) then true else
      decide ((65536 : Int) < x_1.2) then true else decide ((65536 : Int) < (LI (CodD.consts c))) then true else decide ((4096 : Int) < (LI (CodD.kers c)))) ∧ True) (ifB (decide ((65536 : Int) < x_1.2)) ((true = bif bif
      bif decide ((1024 : Int) < (LI (CodD.funs c))) then true else decide ((65536 : Int) < x_1.2) then true else decide ((65536 : Int) < (LI (CodD.consts c))) then true else decide ((4096 : Int) < (LI (CodD.kers c)))) ∧
      True) (SM x ∧ ifB (decide ((65536 : Int) < (LI (CodD.consts c)))) ((true = bif bif bif decide ((1024 : Int) < (LI (CodD.funs c))) then true else decide ((65536 : Int) < x_1.2) then true else decide ((65536 : Int) <
      (LI (CodD.consts c))) then true else decide ((4096 : Int) < (LI (CodD.kers c)))) ∧ True) (SM x ∧ (decide ((4096 : Int) < (LI (CodD.kers c))) = bif bif bif decide ((1024 : Int) < (LI (CodD.funs c))) then true else
      decide ((65536 : Int) < x_1.2) then true else decide ((65536 : Int) < (LI (CodD.consts c))) then true else decide ((4096 : Int) < (LI (CodD.kers c)))) ∧ True)))) ∧ ifB (bif bif bif decide ((1024 : Int) < (LI
      (CodD.funs c))) then true else decide ((65536 : Int) < x_1.2) then true else decide ((65536 : Int) < (LI (CodD.consts c))) then true else decide ((4096 : Int) < (LI (CodD.kers c)))) (True ∧ ∃ (y : Unit), True ∧ (21
      : Int) = rightC c ∧ True ∧ True) (SM x ∧ ((SM (LN (CodD.consts c)) ∧ (∀ (i : Nat), i < LN (CodD.consts c) → SM (Arr.row (GC c i))) ∧ True) ∧ SM (D.fn (Fn.func (34 : Nat)) [] []) ∧ True) ∧ ∀ (y : Unit), True → ifB
      (List.any (CodD.consts c) fun (a : Arr) => Prod.fst (chkA a) != Z0) (True ∧ ∃ (y : Unit), True ∧ Z1 = rightC c ∧ True ∧ True) ((SM x ∧ ifB ((LI (CodD.funs c)) == Z0) ((true = bif (LI (CodD.funs c)) == Z0 then true
      else bif (LI (CodD.lanes c)) != Z0 then (LI (CodD.lanes c)) != (LI (CodD.kers c)) else false) ∧ True) (SM x ∧ ifB ((LI (CodD.lanes c)) != Z0) (SM x ∧ SM x ∧ (((LI (CodD.lanes c)) != (LI (CodD.kers c))) = bif (LI
      (CodD.funs c)) == Z0 then true else bif (LI (CodD.lanes c)) != Z0 then (LI (CodD.lanes c)) != (LI (CodD.kers c)) else false) ∧ True) ((false = bif (LI (CodD.funs c)) == Z0 then true else bif (LI (CodD.lanes c)) !=
      Z0 then (LI (CodD.lanes c)) != (LI (CodD.kers c)) else false) ∧ True))) ∧ ifB (bif (LI (CodD.funs c)) == Z0 then true else bif (LI (CodD.lanes c)) != Z0 then (LI (CodD.lanes c)) != (LI (CodD.kers c)) else false)
      (True ∧ ∃ (y : Unit), True ∧ (26 : Int) = rightC c ∧ True ∧ True) (SM x ∧ ((SM (LN (CodD.kers c)) ∧ (∀ (i : Nat), i < LN (CodD.kers c) → SM (KeD.row (GK c i))) ∧ True) ∧ SM (D.fn (Fn.func (37 : Nat)) [] []) ∧ True)
      ∧ ∀ (y : Unit), True → ifB (List.any (CodD.kers c) fun (a : KeD) => !kerB a) (True ∧ ∃ (y : Unit), True ∧ (26 : Int) = rightC c ∧ True ∧ True) (SM x ∧ (∃ (x_2 : Nat), (x_2 ≤ LN (CodD.funs c) ∧ ∀ (j : Nat), j < x_2
      → Option.isSome (funS c j) = true) ∧ (Z0 = (↑x_2 : Int) ∧ True) ∧ (SM x ∧ ((SM (LN (CodD.consts c)) ∧ (∀ (i : Nat), i < LN (CodD.consts c) → SM (Arr.row (GC c i))) ∧ True) ∧ (SM (LN (CodD.funs c)) ∧ (∀ (i : Nat), i
      < LN (CodD.funs c) → SM [ZI (FnD.slots (GF c i)), S4 (FnD.code (GF c i))]) ∧ True) ∧ (SM (LN (CodD.kers c)) ∧ (∀ (i : Nat), i < LN (CodD.kers c) → SM (KeD.row (GK c i))) ∧ True) ∧ (SM (LN (CodD.lanes c)) ∧ (∀ (i :
      Nat), i < LN (CodD.lanes c) → SM (LaD.row (GL c i))) ∧ True) ∧ True) ∧ True) ∧ True) ∧ ∀ (x_2 : Nat), (x_2 ≤ LN (CodD.funs c) ∧ ∀ (j : Nat), j < x_2 → Option.isSome (funS c j) = true) → ifB (decide ((↑x_2 : Int) <
      (LI (CodD.funs c)))) (SM x ∧ ((((SM (LN (CodD.consts c)) ∧ (∀ (i : Nat), i < LN (CodD.consts c) → SM (Arr.row (GC c i))) ∧ True) ∧ (SM (LN (CodD.funs c)) ∧ (∀ (i : Nat), i < LN (CodD.funs c) → SM [ZI (FnD.slots (GF
      c i)), S4 (FnD.code (GF c i))]) ∧ True) ∧ (SM (LN (CodD.kers c)) ∧ (∀ (i : Nat), i < LN (CodD.kers c) → SM (KeD.row (GK c i))) ∧ True) ∧ (SM (LN (CodD.lanes c)) ∧ (∀ (i : Nat), i < LN (CodD.lanes c) → SM (LaD.row
      (GL c i))) ∧ True) ∧ True) ∧ (↑x_2 : Int) = (NI (Int.toNat (↑x_2 : Int))) ∧ True) ∧ Int.toNat (↑x_2 : Int) < LN (CodD.funs c)) ∧ ∀ (y : Unit), True → ifB (!Option.isSome (funS c (Int.toNat (↑x_2 : Int)))) (True ∧ ∃
      (y : Unit), True ∧ (26 : Int) = rightC c ∧ True ∧ True) ((SM (D.agg [D.sl N4 (LN (CodD.consts c)) (fun (i : Nat) => Arr.row (GC c i)) Mode.any, D.sl N2 (LN (CodD.funs c)) (fun (i : Nat) => [ZI (FnD.slots (GF c i)),
      S4 (FnD.code (GF c i))]) Mode.any, D.sl N4 (LN (CodD.kers c)) (fun (i : Nat) => KeD.row (GK c i)) Mode.any, D.sl N2 (LN (CodD.lanes c)) (fun (i : Nat) => LaD.row (GL c i)) Mode.any]) ∧ SM (D.ref N0 x N0) ∧ SM (ZI
      Z0) ∧ SM D.unk ∧ SM (ZI (LI (CodD.funs c))) ∧ True) ∧ ∃ (y : Nat), (y ≤ LN (CodD.funs c) ∧ ∀ (j : Nat), j < y → Option.isSome (funS c j) = true) ∧ LN (CodD.funs c) - y < LN (CodD.funs c) - x_2 ∧ (IntKind.wrap
      IntKind.i64 ((↑x_2 : Int) + Z1) = (↑y : Int) ∧ True) ∧ (SM x ∧ ((SM (LN (CodD.consts c)) ∧ (∀ (i : Nat), i < LN (CodD.consts c) → SM (Arr.row (GC c i))) ∧ True) ∧ (SM (LN (CodD.funs c)) ∧ (∀ (i : Nat), i < LN
      (CodD.funs c) → SM [ZI (FnD.slots (GF c i)), S4 (FnD.code (GF c i))]) ∧ True) ∧ (SM (LN (CodD.kers c)) ∧ (∀ (i : Nat), i < LN (CodD.kers c) → SM (KeD.row (GK c i))) ∧ True) ∧ (SM (LN (CodD.lanes c)) ∧ (∀ (i : Nat),
      i < LN (CodD.lanes c) → SM (LaD.row (GL c i))) ∧ True) ∧ True) ∧ True) ∧ True)) (True ∧ ∃ (y : Unit), True ∧ Z0 = rightC c ∧ True ∧ True))))))) (by kernel_rfl) ?_
  delta D4 DA DF DK DL G4 GC GF GK GL LI LN N0 N2 N4 NI R4 S4 SM TN Z0 Z1 ZI
  intro x _
  simp only [eq_self, ne_eq, implies_true, weakL_refl, Int.toNat_natCast, ifB_iff, side_iff, decide_eq_true_eq, decide_eq_false_iff_not, true_and, and_true, beq_iff_eq, Bool.cond_false_right, Bool.cond_true_left, Bool.and_eq_true, Bool.and_eq_false_iff, Bool.or_eq_true, Bool.or_eq_false_iff, beq_eq_false_iff_ne, exists_const, forall_const]
  have hfl : c.funs.length ≤ maxLen := hc.2.2.2.2.2.1
  simp only [maxLen] at hfl
  refine ⟨⟨(0, 0), ⟨Nat.zero_le _, rfl⟩, rfl, rfl⟩, ?_⟩
  rintro ⟨i, t⟩ ⟨hi, ht⟩
  simp only at hi ht ⊢
  refine ⟨fun hlt => ⟨⟨by omega, hlt⟩, fun y _ => ?_⟩, fun hge => ?_⟩
  · have hlt' : i < c.funs.length := by omega
    rw [drop_step hlt', totI] at ht
    exact ⟨(i + 1, _), ⟨by simp only; omega, ht⟩, by simp only; omega, wrap_i64' (by omega) (by omega), rfl⟩
  have hi' : i = c.funs.length := by omega
  rw [hi', List.drop_length, totI] at ht
  rw [ht]
  refine ⟨⟨fun h => by simp [h], fun h => ⟨fun h2 => by simp [h2], fun h2 => ⟨fun h3 => by simp [h3], fun h3 => by simp [h, h2, h3]⟩⟩⟩, fun h => ?_, fun h => ⟨fun h1 => ?_, fun h1 => ⟨⟨fun h2 => by simp [h2], fun h2 => ⟨fun h3 => by rw [h3, beq_eq_false_iff_ne.2 h2]; rfl, fun h3 => by rw [h3, beq_eq_false_iff_ne.2 h2]; rfl⟩⟩, fun h2 => ?_, fun h2 => ⟨fun h3 => ?_, fun h3 => ⟨⟨0, ⟨Nat.zero_le _, fun j hj => absurd hj (Nat.not_lt_zero j)⟩, rfl⟩, fun j hj => ⟨fun hl => ⟨by omega, fun e => ?_, fun e => ⟨j + 1, ⟨by omega, fun k hk => ?_⟩, by omega, wrap_i64' (by omega) (by omega)⟩⟩, fun hg => ?_⟩⟩⟩⟩⟩⟩
  · unfold rightC; rw [if_pos (by omega)]
  · unfold rightC; rw [if_neg (by omega), if_pos h1]
  · simp only [bne_iff_ne, ne_eq] at h2
    unfold rightC; rw [if_neg (by omega), if_neg (by rw [h1]; exact Bool.false_ne_true), if_pos (by omega)]
  · simp only [bne_eq_false_iff_eq] at h2
    unfold rightC; rw [if_neg (by omega), if_neg (by rw [h1]; exact Bool.false_ne_true), if_neg (by omega), if_pos h3]
  · simp only [bne_eq_false_iff_eq] at h2
    have hj' : j < c.funs.length := by omega
    have e' : (funS c j).isSome = false := by simpa using e
    have hall : ¬ ((List.range c.funs.length).all fun f => (funS c f).isSome) = true := by
      rw [List.all_eq_true]
      intro hh
      have := hh j (List.mem_range.2 hj')
      rw [e'] at this; cases this
    unfold rightC; rw [if_neg (by omega), if_neg (by rw [h1]; exact Bool.false_ne_true), if_neg (by omega), if_neg (by rw [h3]; exact Bool.false_ne_true), if_neg hall]
  · have e' : (funS c j).isSome = true := by simpa using e
    by_cases hk' : k = j
    · rw [hk']; exact e'
    · exact hj.2 k (by omega)
  · simp only [bne_eq_false_iff_eq] at h2
    have hall : ((List.range c.funs.length).all fun f => (funS c f).isSome) = true := by
      rw [List.all_eq_true]
      intro f hf
      exact hj.2 f (by have := List.mem_range.1 hf; omega)
    unfold rightC; rw [if_neg (by omega), if_neg (by rw [h1]; exact Bool.false_ne_true), if_neg (by omega), if_neg (by rw [h3]; exact Bool.false_ne_true), if_pos hall]
end Go.Proofs.Ytoglbmhkfkghbaa
namespace Go.Proofs.Ytoglbmhkfkghbaa
open Go Go.Ab
set_option maxRecDepth 100000

/-! ### image.Put -/
def sumB (s : Nat) : List UInt8 := [UInt8.ofNat (s / 16777216), UInt8.ofNat (s / 65536), UInt8.ofNat (s / 256), UInt8.ofNat s]
def sealB (b : List UInt8) : List UInt8 := [65, 76, 67, 49] ++ b ++ sumB (sumN ([65, 76, 67, 49] ++ b))
def putE (c : CodD) : Int := if rightC c ≠ 0 then rightC c else if 1048576 < (sealB (codeB c)).length then 21 else 0
def putL (c : CodD) : List UInt8 := if putE c ≠ 0 then [] else sealB (codeB c)
def szOk (c : CodD) : Prop := (codeB c).length ≤ 1099511627776 ∧ ∀ a ∈ c.consts, 10 * szA a ≤ 1099511627776
theorem app_row' {n : Nat} {l : List UInt8} {F : Nat → List D} {z : Int} {b : UInt8} (hn : n = l.length) (hF : ∀ i, i < n → F i = [D.int .u8 ((l.getD i 0).toNat : Int)]) (h : z = (b.toNat : Int)) :
    ∀ i, i < n + 1 → appF n F (fun i => [[D.int .u8 z]].getD i []) i = [D.int .u8 (((l ++ [b]).getD i 0).toNat : Int)] := by
  intro i hi
  subst hn
  simp only [appF]
  split
  · rename_i hlt
    rw [hF i hlt]
    simp [List.getD_eq_getElem?_getD, List.getElem?_append_left hlt]
  · have : i = l.length := by omega
    subst this
    simp [List.getD_eq_getElem?_getD, h]
theorem wrapD (s k : Nat) : IntKind.u8.wrap (Int.fdiv (s : Int) (k : Int)) = ((UInt8.ofNat (s / k)).toNat : Int) := by
  rw [fdiv_nat, IntKind.wrap_u8, UInt8.toNat_ofNat']; omega
def sWcK (k kt : Nat) (c : CodD) (row : List D) : FnSpec where
  β := Nat × List UInt8
  α := Nat × List UInt8
  args := fun b => [.ref k b.1 0, .agg row]
  st := fun b => ⟨[(k, b.1, .cells [bsl b.2 .full])], []⟩
  pre := fun b => b.2.length + (codeB c).length ≤ 35184372088832 ∧ ∀ a ∈ c.consts, 10 * szA a ≤ 35184372088832
  post := fun b y => y.2 = b.2 ++ codeB c
  res := fun _ _ => .ret (.tup [])
  out := fun b y => ⟨[(k, b.1, .cells [bsl y.2 (.tok kt y.1)])], [(kt, y.1)]⟩
theorem wcK_ok (k kt : Nat) (c : CodD) (hc : c.ok) (b : Nat × List UInt8) (h : (sWcK k kt c c.row).pre b) : ACalls Try.prog 21 ((sWcK k kt c c.row).args b) ((sWcK k kt c c.row).st b) (SpecR (sWcK k kt c c.row) b) := by
  obtain ⟨x, l⟩ := b
  have h1 : ACalls Try.prog 21 ((sWcK k kt c c.row1).args (x, l)) ((sWcK k kt c c.row1).st (x, l)) (SpecR (sWcK k kt c c.row1) (x, l)) := by
    refine (wc_ok x l c hc h.1 h.2).respec (A' := sWcK k kt c c.row1) (x' := (x, l)) ?_ ?_ fun y hy => ⟨y, hy, ?_, ?_⟩
    · simp [sWcK, sWc, weakL, weakD, chk, CodD.row1, gsl, weakM]
    · simp [sWcK, sWc, posS, posO, posT, weakO, weakL, weakD, chk, bsl, weakM]
    · simp [sWcK, sWc, weakEnd, weakD, weakL]
    · simp [sWcK, sWc, posS, posO, posT, weakO, weakL, weakD, chk, bsl, weakM]
  refine (h1.wkArgs ?_).mono fun _ _ ⟨y, h1, h2, h3⟩ => ⟨y, h1, h2, h3⟩
  simp only [sWcK, wkL, wkD]
  exact ⟨by simp [weakD, chk_iff, kEq], code_wk c, trivial⟩
def conPu (c : CodD) : Con := fun k ds S => match k with
  | 20 => some (pC ds (.int .i64 (rightC c)) (weakL ds [.agg c.row]))
  | 21 => match ds with
    | [.ref k _ _, _] => some (sWcK k (nextTok S.toks) c c.row)
    | _ => none
  | k => conS k ds S
theorem conPu_ok {c : CodD} (hc : c.ok) (hs : ∀ f, f < c.funs.length → (c.funs.getD f default).code.length ≤ 65536) : ConOk Try.prog (conPu c) := by
  intro k ds S A h
  unfold conPu at h
  split at h
  · injection h with h; subst h
    exact pC_ok fun e => ⟨weakL_refl _, sC_weak e (rt_ok c hc hs)⟩
  · split at h
    · injection h with h; subst h
      exact ConOk.plain (fun b hb => wcK_ok _ _ c hc b hb) rfl rfl
    · cases h
  · exact conS_ok _ _ _ _ h
noncomputable def Epu (c : CodD) : Senv := { EC (conPu c) 52 8 [11, 26, 47] (fun id => match id with | 10 => ([0, 1, 2, 3, 4, 5, 6, 7, 8, 9, 10, 11, 12, 13], [8, 9, 10, 13]) | _ => ([], [])) with unr := fun b => match b with | 0 => 6 | _ => 0 }
theorem pu_ok (c : CodD) (hc : c.ok) (hs : ∀ f, f < c.funs.length → (c.funs.getD f default).code.length ≤ 65536) (hz : rightC c = 0 → szOk c) :
    ACalls Try.prog 13 [.agg c.row] ⟨[], []⟩ (SpecR (sC [.agg c.row] (.tup [bsl (putL c) .any, .int .i64 (putE c)])) ()) := by
  refine con_of (A := sC _ _) (x := ()) (E := Epu c) (eOk (conPu_ok hc hs) rfl) Try.func13 rfl (by kernel_rfl) rfl (by simp [sC, Epu, EC, E0]) ?_
  refine vc_eq (T :=
      ∀ (x : Nat), True → SM x ∧ (((SM (LN (CodD.consts c)) ∧ (∀ (i : Nat), i < LN (CodD.consts c) → SM (Arr.row (GC c i))) ∧ True) ∧ (SM (LN (CodD.funs c)) ∧ (∀ (i : Nat), i < LN (CodD.funs c) → SM [ZI (FnD.slots (GF c
      i)), S4 (FnD.code (GF c i))]) ∧ True) ∧ (SM (LN (CodD.kers c)) ∧ (∀ (i : Nat), i < LN (CodD.kers c) → SM [ZI (KeD.inputs (GK c i)), S4 (KeD.ops (GK c i)), ZI (KeD.reduce (GK c i)), ZI (KeD.at_ (GK c i))]) ∧ True) ∧
      (SM (LN (CodD.lanes c)) ∧ (∀ (i : Nat), i < LN (CodD.lanes c) → SM [ZI (LaD.regs (GL c i)), S6 (LaD.code (GL c i))]) ∧ True) ∧ True) ∧ True) ∧ ∀ (y : Unit), True → ifB (rightC c != Z0) (True ∧ ∃ (y : Unit), True ∧
      ((N0 = LN (putL c) ∧ (∀ (i : Nat), i < N0 → eqOf (List D) [] [ZB (BI (putL c) i)]) ∧ True) ∧ rightC c = putE c ∧ True) ∧ True ∧ True) (True ∧ ∀ (x_1 : Nat), x ≠ x_1 ∧ True → SM x ∧ ∃ (x : Nat × List UInt8), (x_1 =
      x.1 ∧ ((SM (LN (CodD.consts c)) ∧ (∀ (i : Nat), i < LN (CodD.consts c) → SM (Arr.row (GC c i))) ∧ True) ∧ (SM (LN (CodD.funs c)) ∧ (∀ (i : Nat), i < LN (CodD.funs c) → SM [ZI (FnD.slots (GF c i)), S4 (FnD.code (GF
      c i))]) ∧ True) ∧ (SM (LN (CodD.kers c)) ∧ (∀ (i : Nat), i < LN (CodD.kers c) → SM [ZI (KeD.inputs (GK c i)), S4 (KeD.ops (GK c i)), ZI (KeD.reduce (GK c i)), ZI (KeD.at_ (GK c i))]) ∧ True) ∧ (SM (LN (CodD.lanes
      c)) ∧ (∀ (i : Nat), i < LN (CodD.lanes c) → SM [ZI (LaD.regs (GL c i)), S6 (LaD.code (GL c i))]) ∧ True) ∧ True) ∧ True) ∧ ((x_1 = x.1 ∧ ((N4 = LN x.2 ∧ (∀ (i : Nat), i < N4 → List.getD [[ZB (65 : Int)], [ZB (76 :
      Int)], [ZB (67 : Int)], [ZB (49 : Int)]] i [] = [ZB (BI x.2 i)]) ∧ True) ∧ True) ∧ True) ∧ True) ∧ (LN x.2 + LN (codeB c) ≤ (35184372088832 : Nat) ∧ ∀ (a : Arr), a ∈ CodD.consts c → (10 : Nat) * szA a ≤
      (35184372088832 : Nat)) ∧ ∀ (y : Nat × List UInt8), y.2 = x.2 ++ codeB c → x.1 = x_1 ∧ ((rowsB (LN y.2) fun (i : Nat) => [ZB (BI y.2 i)]) = true ∧ LN (bytesOf (LN y.2) fun (i : Nat) => [ZB (BI y.2 i)]) ≤
      (9223372036854775807 : Nat)) ∧ ∀ (y_1 : Unit), True → x.1 = x_1 ∧ (x.1 = x_1 ∧ SM (D.sl N1 (LN y.2) (fun (i : Nat) => [ZB (BI y.2 i)]) (Mode.tok N0 y.1))) ∧ (x.1 = x_1 ∧ SM (D.sl N1 (LN y.2) (fun (i : Nat) => [ZB
      (BI y.2 i)]) (Mode.tok N0 y.1))) ∧ SM y.1 ∧ side ((LN y.2 + N1) * N1 ≤ (140737488355328 : Nat) ∧ LN y.2 + N1 ≤ (9223372036854775807 : Nat)) (∀ (t : Nat), x.1 = x_1 ∧ x.1 = x_1 ∧ (x.1 = x_1 ∧ SM (D.sl N1 (LN y.2 +
      N1) (appF (LN y.2) (fun (i : Nat) => [ZB (BI y.2 i)]) fun (i : Nat) => List.getD [[ZB (IntKind.wrap IntKind.u8 (Int.fdiv (NI (sumN (bytesOf (LN y.2) fun (i : Nat) => [ZB (BI y.2 i)]))) (16777216 : Int)))]] i [])
      (Mode.tok N0 t))) ∧ (x.1 = x_1 ∧ SM (D.sl N1 (LN y.2 + N1) (appF (LN y.2) (fun (i : Nat) => [ZB (BI y.2 i)]) fun (i : Nat) => List.getD [[ZB (IntKind.wrap IntKind.u8 (Int.fdiv (NI (sumN (bytesOf (LN y.2) fun (i :
      Nat) => [ZB (BI y.2 i)]))) (16777216 : Int)))]] i []) (Mode.tok N0 t))) ∧ SM t ∧ side ((LN y.2 + N1 + N1) * N1 ≤ (140737488355328 : Nat) ∧ LN y.2 + N1 + N1 ≤ (9223372036854775807 : Nat)) (∀ (t : Nat), x.1 = x_1 ∧
      x.1 = x_1 ∧ (x.1 = x_1 ∧ SM (D.sl N1 (LN y.2 + N1 + N1) (appF (LN y.2 + N1) (appF (LN y.2) (fun (i : Nat) => [ZB (BI y.2 i)]) fun (i : Nat) => List.getD [[ZB (IntKind.wrap IntKind.u8 (Int.fdiv (NI (sumN (bytesOf
      (LN y.2) fun (i : Nat) => [ZB (BI y.2 i)]))) (16777216 : Int)))]] i []) fun (i : Nat) => List.getD [[ZB (IntKind.wrap IntKind.u8 (Int.fdiv (NI (sumN (bytesOf (LN y.2) fun (i : Nat) => [ZB (BI y.2 i)]))) (65536 :
      Int)))]] i []) (Mode.tok N0 t))) ∧ (x.1 = x_1 ∧ SM (D.sl N1 (LN y.2 + N1 + N1) (appF (LN y.2 + N1) (appF (LN y.2) (fun (i : Nat) => [ZB (BI y.2 i)]) fun (i : Nat) => List.getD [[ZB (IntKind.wrap IntKind.u8
      (Int.fdiv (NI (sumN (bytesOf (LN y.2) fun (i : Nat) => [ZB (BI y.2 i)]))) (16777216 : Int)))]] i []) fun (i : Nat) => List.getD [[ZB (IntKind.wrap IntKind.u8 (Int.fdiv (NI (sumN (bytesOf (LN y.2) fun (i : Nat) =>
      [ZB (BI y.2 i)]))) (65536 : Int)))]] i []) (Mode.tok N0 t))) ∧ SM t ∧ side ((LN y.2 + N1 + N1 + N1) * N1 ≤ (140737488355328 : Nat) ∧ LN y.2 + N1 + N1 + N1 ≤ (9223372036854775807 : Nat)) (∀ (t : Nat), x.1 = x_1 ∧
      x.1 = x_1 ∧ (x.1 = x_1 ∧ SM (D.sl N1 (LN y.2 + N1 + N1 + N1) (appF (LN y.2 + N1 + N1) (appF (LN y.2 + N1) (appF (LN y.2) (fun (i : Nat) => [ZB (BI y.2 i)]) fun (i : Nat) => List.getD [[ZB (IntKind.wrap IntKind.u8
      (Int.fdiv (NI (sumN (bytesOf (LN y.2) fun (i : Nat) => [ZB (BI y.2 i)]))) (16777216 : Int)))]] i []) fun (i : Nat) => List.getD [[ZB (IntKind.wrap IntKind.u8 (Int.fdiv (NI (sumN (bytesOf (LN y.2) fun (i : Nat) =>
      [ZB (BI y.2 i)]))) (65536 : Int)))]] i []) fun (i : Nat) => List.getD [[ZB (IntKind.wrap IntKind.u8 (Int.fdiv (NI (sumN (bytesOf (LN y.2) fun (i : Nat) => [ZB (BI y.2 i)]))) (256 : Int)))]] i []) (Mode.tok N0 t)))
      ∧ (x.1 = x_1 ∧ SM (D.sl N1 (LN y.2 + N1 + N1 + N1) (appF (LN y.2 + N1 + N1) (appF (LN y.2 + N1) (appF (LN y.2) (fun (i : Nat) => [ZB (BI y.2 i)]) fun (i : Nat) => List.getD [[ZB (IntKind.wrap IntKind.u8 (Int.fdiv
      (NI (sumN (bytesOf (LN y.2) fun (i : Nat) => [ZB (BI y.2 i)]))) (16777216 : Int)))]] i []) fun (i : Nat) => List.getD [[ZB (IntKind.wrap IntKind.u8 (Int.fdiv (NI (sumN (bytesOf (LN y.2) fun (i : Nat) => [ZB (BI y.2
      i)]))) (65536 : Int)))]] i []) fun (i : Nat) => List.getD [[ZB (IntKind.wrap IntKind.u8 (Int.fdiv (NI (sumN (bytesOf (LN y.2) fun (i : Nat) => [ZB (BI y.2 i)]))) (256 : Int)))]] i []) (Mode.tok N0 t))) ∧ SM t ∧
      side ((LN y.2 + N1 + N1 + N1 + N1) * N1 ≤ (140737488355328 : Nat) ∧ LN y.2 + N1 + N1 + N1 + N1 ≤ (9223372036854775807 : Nat)) (∀ (t : Nat), x.1 = x_1 ∧ x.1 = x_1 ∧ ifB (decide ((1048576 : Int) < (NI (LN y.2 + N1 +
      N1 + N1 + N1)))) (True ∧ ∃ (y : Unit), True ∧ ((N0 = LN (putL c) ∧ (∀ (i : Nat), i < N0 → eqOf (List D) [] [ZB (BI (putL c) i)]) ∧ True) ∧ (21 : Int) = putE c ∧ True) ∧ True ∧ True) (x.1 = x_1 ∧ True ∧ ∃ (y_2 :
      Unit), True ∧ ((LN y.2 + N1 + N1 + N1 + N1 = LN (putL c) ∧ (∀ (i : Nat), i < LN y.2 + N1 + N1 + N1 + N1 → appF (LN y.2 + N1 + N1 + N1) (appF (LN y.2 + N1 + N1) (appF (LN y.2 + N1) (appF (LN y.2) (fun (i : Nat) =>
      [ZB (BI y.2 i)]) fun (i : Nat) => List.getD [[ZB (IntKind.wrap IntKind.u8 (Int.fdiv (NI (sumN (bytesOf (LN y.2) fun (i : Nat) => [ZB (BI y.2 i)]))) (16777216 : Int)))]] i []) fun (i : Nat) => List.getD [[ZB
      (IntKind.wrap IntKind.u8 (Int.fdiv (NI (sumN (bytesOf (LN y.2) fun (i : Nat) => [ZB (BI y.2 i)]))) (65536 : Int)))]] i []) fun (i : Nat) => List.getD [[ZB (IntKind.wrap IntKind.u8 (Int.fdiv (NI (sumN (bytesOf (LN
      y.2) fun (i : Nat) => [ZB (BI y.2 i)]))) (256 : Int)))]] i []) (fun (i : Nat) => List.getD [[ZB (IntKind.wrap IntKind.u8 (Int.fdiv (NI (sumN (bytesOf (LN y.2) fun (i : Nat) => [ZB (BI y.2 i)]))) Z1))]] i []) i =
      [ZB (BI (putL c) i)]) ∧ True) ∧ Z0 = putE c ∧ True) ∧ True ∧ True))))))) (by kernel_rfl) ?_
  delta BI D4 D6 DA DF DK DL G4 G6 GC GF GK GL LN N0 N1 N4 N6 NI R4 R6 S4 S6 SM U0 Z0 Z1 ZB ZI
  simp only [eq_self, ne_eq, implies_true, weakL_refl, Int.toNat_natCast, ifB_iff, side_iff, decide_eq_true_eq, decide_eq_false_iff_not, true_and, and_true, beq_iff_eq, Bool.cond_false_right, Bool.cond_true_left, Bool.and_eq_true, Bool.and_eq_false_iff, Bool.or_eq_true, Bool.or_eq_false_iff, beq_eq_false_iff_ne, exists_const, forall_const, Prod.forall, forall_eq, bytesOf_bsl, rowsB_bsl]
  refine fun x => ⟨fun hr => ?_, fun hr x1 _ => ?_⟩
  · have hr' : rightC c ≠ 0 := by simpa using hr
    have e : putE c = rightC c := by unfold putE; rw [if_pos hr']
    have e2 : putL c = [] := by unfold putL; rw [if_pos (by rw [e]; exact hr')]
    exact ⟨⟨by rw [e2]; rfl, fun i hi => absurd hi (Nat.not_lt_zero i)⟩, e.symm⟩
  have hr' : rightC c = 0 := by simpa using hr
  obtain ⟨z1, z2⟩ := hz hr'
  have hlen : ([65, 76, 67, 49] ++ codeB c : List UInt8).length = (codeB c).length + 4 := by simp
  have hsl : (sealB (codeB c)).length = (codeB c).length + 8 := by simp [sealB, sumB]
  refine ⟨(x1, [65, 76, 67, 49]), rfl, ⟨rfl, rfl, rows_eq (by kernel_rfl)⟩, ⟨by simp only [List.length_cons, List.length_nil]; omega, fun a ha => by have := z2 a ha; omega⟩, rfl, ?_⟩
  simp only [hlen, true_and]
  refine ⟨by omega, by omega, by omega, by omega, by omega, fun hg => ?_, fun hg => ?_⟩
  · have e : putE c = 21 := by unfold putE; rw [if_neg (by rw [hr']; simp), if_pos (by omega)]
    have e2 : putL c = [] := by unfold putL; rw [if_pos (by rw [e]; simp)]
    exact ⟨⟨by rw [e2]; rfl, fun i hi => absurd hi (Nat.not_lt_zero i)⟩, e.symm⟩
  · have e : putE c = 0 := by unfold putE; rw [if_neg (by rw [hr']; simp), if_neg (by omega)]
    have e2 : putL c = sealB (codeB c) := by unfold putL; rw [if_neg (by rw [e]; simp)]
    rw [e, e2, hsl]
    refine ⟨⟨by omega, fun i hi => ?_⟩, rfl⟩
    have es : sealB (codeB c) = ((([65, 76, 67, 49] ++ codeB c ++ [UInt8.ofNat (sumN ([65, 76, 67, 49] ++ codeB c) / 16777216)]) ++ [UInt8.ofNat (sumN ([65, 76, 67, 49] ++ codeB c) / 65536)]) ++ [UInt8.ofNat (sumN ([65, 76, 67, 49] ++ codeB c) / 256)]) ++ [UInt8.ofNat (sumN ([65, 76, 67, 49] ++ codeB c))] := by
      simp [sealB, sumB]
    rw [es]
    refine app_row' (by simp) (app_row' (by simp) (app_row' (by simp) (app_row' (by simp) (fun _ _ => rfl) (wrapD _ 16777216)) (wrapD _ 65536)) (wrapD _ 256)) ?_ i (by omega)
    have := wrapD (sumN ([65, 76, 67, 49] ++ codeB c)) 1
    rw [Nat.div_one] at this
    exact this
end Go.Proofs.Ytoglbmhkfkghbaa
namespace Go.Proofs.Ytoglbmhkfkghbaa
open Go Go.Ab
set_option maxRecDepth 100000

/-! ### the reference's body -/
theorem loop_init2 {n t : Nat} {b T : List UInt8} (R : Nat → List UInt8) (h : b ++ R 0 = T) :
    ∃ y : Nat × Nat × List UInt8, (y.1 ≤ n ∧ y.2.2 ++ R y.1 = T) ∧ ((0 : Int) = (y.1 : Int) ∧ b.length = y.2.2.length ∧ (∀ i, i < b.length → [D.int .u8 ((b.getD i 0).toNat : Int)] = [D.int .u8 ((y.2.2.getD i 0).toNat : Int)]) ∧ t = y.2.1) ∧ t = y.2.1 :=
  ⟨(0, t, b), ⟨Nat.zero_le _, h⟩, ⟨rfl, rfl, fun _ _ => rfl, rfl⟩, rfl⟩
theorem loop_next2 {n t a : Nat} {b T : List UInt8} (R : Nat → List UInt8) (ha : a < n) (hn : n ≤ maxLen) (h : b ++ R (a + 1) = T) :
    ∃ y : Nat × Nat × List UInt8, (y.1 ≤ n ∧ y.2.2 ++ R y.1 = T) ∧ n - y.1 < n - a ∧ (IntKind.i64.wrap ((a : Int) + 1) = (y.1 : Int) ∧ b.length = y.2.2.length ∧ (∀ i, i < b.length → [D.int .u8 ((b.getD i 0).toNat : Int)] = [D.int .u8 ((y.2.2.getD i 0).toNat : Int)]) ∧ t = y.2.1) ∧ t = y.2.1 := by
  simp only [maxLen] at hn
  exact ⟨(a + 1, t, b), ⟨by simp only; omega, h⟩, by simp only; omega, ⟨wrap_i64' (by omega) (by omega), rfl, fun _ _ => rfl, rfl⟩, rfl⟩
def sBd (c : CodD) (row : List D) : FnSpec where
  β := Unit
  α := Nat × List UInt8
  args := fun _ => [.agg row]
  st := fun _ => ⟨[], []⟩
  pre := fun _ => True
  post := fun _ y => y.2 = codeB c
  res := fun _ y => .ret (bsl y.2 (.tok 0 y.1))
  out := fun _ y => ⟨[], [(0, y.1)]⟩
def conBd (c : CodD) : Con := fun k ds S => match k with
  | 46 => some (sRa Arr.row1 (fun b => b ∈ c.consts))
  | k => conNs k ds S
theorem conBd_ok {c : CodD} (hc : c.ok) : ConOk Try.prog (conBd c) := by
  intro k' ds S A hk
  unfold conBd at hk
  split at hk
  · injection hk with hk; subst hk
    refine ConOk.plain (fun b hb => ?_) rfl rfl
    obtain ⟨t', l', b'⟩ := b
    exact sRa_row (row1_wk b') (ra_all b' (hc.1 b' hb.1) t' l' hb.2)
  · exact conNs_ok _ _ _ _ hk
noncomputable def Ebd (c : CodD) : Senv := { EC (conBd c) 214 15 [23, 43, 63, 103, 123, 170, 190] (fun id => match id with | 15 => ([0, 1, 2, 3, 4, 5, 6, 7, 8, 9, 10, 11, 12, 13, 14, 15, 16, 17, 18, 19, 20, 21, 22, 23, 24, 25, 26, 27], [25, 26]) | 25 => ([0, 1, 2, 3, 4, 5, 6, 7, 8, 9, 10, 11, 12, 13, 14, 15, 16, 17, 18, 19, 20, 21, 22, 23, 24, 25, 26, 27], [25, 26]) | _ => ([], [])) with
  ann := fun b env S => match b with
    | 0 => some { slots := [4, 3], keep := [1], α := Nat × Nat × List UInt8, st := fun y => ([.int .i64 y.1, bsl y.2.2 (.tok 0 y.2.1)], ⟨S.objs, [(0, y.2.1)]⟩), inv := fun y => y.1 ≤ c.consts.length ∧ y.2.2 ++ (arrBL (c.consts.drop y.1) ++ tl2 c) = codeB c, mu := fun y => c.consts.length - y.1 }
    | 2 => some { slots := [5, 3], keep := [1], α := Nat × Nat × List UInt8, st := fun y => ([.int .i64 y.1, bsl y.2.2 (.tok 0 y.2.1)], ⟨S.objs, [(0, y.2.1)]⟩), inv := fun y => y.1 ≤ c.funs.length ∧ y.2.2 ++ ((c.funs.drop y.1).flatMap funB ++ tl3 c) = codeB c, mu := fun y => c.funs.length - y.1 }
    | 4 => some { slots := [7, 3], keep := [1, 5, 6], α := Nat × Nat × List UInt8, st := fun y => ([.int .i64 y.1, bsl y.2.2 (.tok 0 y.2.1)], ⟨S.objs, [(0, y.2.1)]⟩), inv := fun y => y.1 ≤ (c.funs.getD (natOf (Ab.look env 5)) default).code.length ∧ y.2.2 ++ (((c.funs.getD (natOf (Ab.look env 5)) default).code.drop y.1).flatMap i4B ++ ((c.funs.drop (natOf (Ab.look env 5) + 1)).flatMap funB ++ tl3 c)) = codeB c, mu := fun y => (c.funs.getD (natOf (Ab.look env 5)) default).code.length - y.1 }
    | 6 => some { slots := [8, 3], keep := [1], α := Nat × Nat × List UInt8, st := fun y => ([.int .i64 y.1, bsl y.2.2 (.tok 0 y.2.1)], ⟨S.objs, [(0, y.2.1)]⟩), inv := fun y => y.1 ≤ c.kers.length ∧ y.2.2 ++ ((c.kers.drop y.1).flatMap kerY ++ tl4 c) = codeB c, mu := fun y => c.kers.length - y.1 }
    | 8 => some { slots := [10, 3], keep := [1, 8, 9], α := Nat × Nat × List UInt8, st := fun y => ([.int .i64 y.1, bsl y.2.2 (.tok 0 y.2.1)], ⟨S.objs, [(0, y.2.1)]⟩), inv := fun y => y.1 ≤ (c.kers.getD (natOf (Ab.look env 8)) default).ops.length ∧ y.2.2 ++ (((c.kers.getD (natOf (Ab.look env 8)) default).ops.drop y.1).flatMap i4B ++ (numsB [(c.kers.getD (natOf (Ab.look env 8)) default).reduce, (c.kers.getD (natOf (Ab.look env 8)) default).at_] ++ ((c.kers.drop (natOf (Ab.look env 8) + 1)).flatMap kerY ++ tl4 c))) = codeB c, mu := fun y => (c.kers.getD (natOf (Ab.look env 8)) default).ops.length - y.1 }
    | 10 => some { slots := [11, 3], keep := [1], α := Nat × Nat × List UInt8, st := fun y => ([.int .i64 y.1, bsl y.2.2 (.tok 0 y.2.1)], ⟨S.objs, [(0, y.2.1)]⟩), inv := fun y => y.1 ≤ c.lanes.length ∧ y.2.2 ++ ((c.lanes.drop y.1).flatMap lanB) = codeB c, mu := fun y => c.lanes.length - y.1 }
    | 12 => some { slots := [13, 3], keep := [1, 11, 12], α := Nat × Nat × List UInt8, st := fun y => ([.int .i64 y.1, bsl y.2.2 (.tok 0 y.2.1)], ⟨S.objs, [(0, y.2.1)]⟩), inv := fun y => y.1 ≤ (c.lanes.getD (natOf (Ab.look env 11)) default).code.length ∧ y.2.2 ++ (((c.lanes.getD (natOf (Ab.look env 11)) default).code.drop y.1).flatMap i6B ++ ((c.lanes.drop (natOf (Ab.look env 11) + 1)).flatMap lanB)) = codeB c, mu := fun y => (c.lanes.getD (natOf (Ab.look env 11)) default).code.length - y.1 }
    | _ => none }
theorem bd_ok (c : CodD) (hc : c.ok) (hl : (codeB c).length ≤ 35184372088832) (hs : ∀ a ∈ c.consts, 10 * szA a ≤ 35184372088832) :
    ACalls Try.prog 23 [.agg c.row1] ⟨[], []⟩ (SpecR (sBd c c.row1) ()) := by
  refine con_of (A := sBd c c.row1) (x := ()) (E := Ebd c) (eOk (conBd_ok hc) rfl) Try.func23 rfl (by kernel_rfl) rfl (by simp [sBd, Ebd, EC, E0]) ?_
  refine vc_eq (T :=
      ∀ (x : Nat), True → SM x ∧ (inI64 (LI (CodD.consts c)) ∧ True) ∧ ∀ (y : Nat), True → (∃ (x_1 : Nat × Nat × List UInt8), (x_1.1 ≤ LN (CodD.consts c) ∧ x_1.2.2 ++ (arrBL (List.drop x_1.1 (CodD.consts c)) ++ tl2 c) =
      codeB c) ∧ (Z0 = (NI x_1.1) ∧ (LN (uBf (9 : Nat) (zig (LI (CodD.consts c)))) = LN x_1.2.2 ∧ (∀ (i : Nat), i < LN (uBf (9 : Nat) (zig (LI (CodD.consts c)))) → [ZB (BI (uBf (9 : Nat) (zig (LI (CodD.consts c)))) i)] =
      [ZB (BI x_1.2.2 i)]) ∧ y = x_1.2.1) ∧ True) ∧ (SM x ∧ ((SM (LN (CodD.consts c)) ∧ (∀ (i : Nat), i < LN (CodD.consts c) → SM [ZI (Arr.k (GC c i)), SI (Arr.sh (GC c i)), SI (Arr.nu (GC c i)), D.sl N4 (LN (Arr.it (GC
      c i))) (fun (i_1 : Nat) => Arr.row (GA (Arr.it (GC c i)) i_1)) Mode.any]) ∧ True) ∧ (SM (LN (CodD.funs c)) ∧ (∀ (i : Nat), i < LN (CodD.funs c) → SM [ZI (FnD.slots (GF c i)), S4 (FnD.code (GF c i))]) ∧ True) ∧ (SM
      (LN (CodD.kers c)) ∧ (∀ (i : Nat), i < LN (CodD.kers c) → SM [ZI (KeD.inputs (GK c i)), S4 (KeD.ops (GK c i)), ZI (KeD.reduce (GK c i)), ZI (KeD.at_ (GK c i))]) ∧ True) ∧ (SM (LN (CodD.lanes c)) ∧ (∀ (i : Nat), i <
      LN (CodD.lanes c) → SM [ZI (LaD.regs (GL c i)), S6 (LaD.code (GL c i))]) ∧ True) ∧ True) ∧ True) ∧ y = x_1.2.1 ∧ True) ∧ ∀ (x_1 : Nat × Nat × List UInt8), x_1.1 ≤ LN (CodD.consts c) ∧ x_1.2.2 ++ (arrBL (List.drop
      x_1.1 (CodD.consts c)) ++ tl2 c) = codeB c → SM x ∧ ifB (decide ((NI x_1.1) < (LI (CodD.consts c)))) (SM x ∧ side (Z0 ≤ (NI x_1.1) ∧ (NI x_1.1) < (LI (CodD.consts c))) (∃ (x_2 : Nat × List UInt8 × Arr), ((LN
      x_1.2.2 = LN x_2.2.1 ∧ (∀ (i : Nat), i < LN x_1.2.2 → [ZB (BI x_1.2.2 i)] = [ZB (BI x_2.2.1 i)]) ∧ x_1.2.1 = x_2.1) ∧ (Arr.k (GC c (TN x_1.1)) = Arr.k x_2.2.2 ∧ (LN (Arr.sh (GC c (TN x_1.1))) = LN (Arr.sh x_2.2.2)
      ∧ (∀ (i : Nat), i < LN (Arr.sh (GC c (TN x_1.1))) → [ZI (GI (Arr.sh (GC c (TN x_1.1))) i)] = [ZI (GI (Arr.sh x_2.2.2) i)]) ∧ True) ∧ (LN (Arr.nu (GC c (TN x_1.1))) = LN (Arr.nu x_2.2.2) ∧ (∀ (i : Nat), i < LN
      (Arr.nu (GC c (TN x_1.1))) → [ZI (GI (Arr.nu (GC c (TN x_1.1))) i)] = [ZI (GI (Arr.nu x_2.2.2) i)]) ∧ True) ∧ (LN (Arr.it (GC c (TN x_1.1))) = LN (Arr.it x_2.2.2) ∧ (∀ (i : Nat), i < LN (Arr.it (GC c (TN x_1.1))) →
      Arr.row (GA (Arr.it (GC c (TN x_1.1))) i) = Arr.row (GA (Arr.it x_2.2.2) i)) ∧ True) ∧ True) ∧ True) ∧ (True ∧ x_1.2.1 = x_2.1 ∧ True) ∧ (x_2.2.2 ∈ CodD.consts c ∧ LN x_2.2.1 + (10 : Nat) * szA x_2.2.2 ≤
      (70368744177664 : Nat)) ∧ ∀ (y : Nat × List UInt8), y.2 = x_2.2.1 ++ arrB x_2.2.2 → (SM (D.ref N0 x N0) ∧ True) ∧ ∃ (y_1 : Nat × Nat × List UInt8), (y_1.1 ≤ LN (CodD.consts c) ∧ y_1.2.2 ++ (arrBL (List.drop y_1.1
      (CodD.consts c)) ++ tl2 c) = codeB c) ∧ LN (CodD.consts c) - y_1.1 < LN (CodD.consts c) - x_1.1 ∧ (IntKind.wrap IntKind.i64 ((NI x_1.1) + Z1) = (NI y_1.1) ∧ (LN y.2 = LN y_1.2.2 ∧ (∀ (i : Nat), i < LN y.2 → [ZB (BI
      y.2 i)] = [ZB (BI y_1.2.2 i)]) ∧ y.1 = y_1.2.1) ∧ True) ∧ (SM x ∧ ((SM (LN (CodD.consts c)) ∧ (∀ (i : Nat), i < LN (CodD.consts c) → SM [ZI (Arr.k (GC c i)), SI (Arr.sh (GC c i)), SI (Arr.nu (GC c i)), D.sl N4 (LN
      (Arr.it (GC c i))) (fun (i_1 : Nat) => Arr.row (GA (Arr.it (GC c i)) i_1)) Mode.any]) ∧ True) ∧ (SM (LN (CodD.funs c)) ∧ (∀ (i : Nat), i < LN (CodD.funs c) → SM [ZI (FnD.slots (GF c i)), S4 (FnD.code (GF c i))]) ∧
      True) ∧ (SM (LN (CodD.kers c)) ∧ (∀ (i : Nat), i < LN (CodD.kers c) → SM [ZI (KeD.inputs (GK c i)), S4 (KeD.ops (GK c i)), ZI (KeD.reduce (GK c i)), ZI (KeD.at_ (GK c i))]) ∧ True) ∧ (SM (LN (CodD.lanes c)) ∧ (∀ (i
      : Nat), i < LN (CodD.lanes c) → SM [ZI (LaD.regs (GL c i)), S6 (LaD.code (GL c i))]) ∧ True) ∧ True) ∧ True) ∧ y.1 = y_1.2.1 ∧ True)) (SM x ∧ ((tokIs [(N0, x_1.2.1)] N0 x_1.2.1 ∧ fitP (LN x_1.2.2) (fun (i : Nat) =>
      [ZB (BI x_1.2.2 i)]) N1 fun (i : Nat) => List.getD [[ZI (LI (CodD.funs c))]] i []) ∧ True) ∧ ∀ (y : Nat × List UInt8), y.2 = (bytesOf (LN x_1.2.2) fun (i : Nat) => [ZB (BI x_1.2.2 i)]) ++ numsB [rowInt [ZI (LI
      (CodD.funs c))]] → (∃ (x_2 : Nat × Nat × List UInt8), (x_2.1 ≤ LN (CodD.funs c) ∧ x_2.2.2 ++ (List.flatMap funB (List.drop x_2.1 (CodD.funs c)) ++ tl3 c) = codeB c) ∧ (Z0 = (NI x_2.1) ∧ (LN y.2 = LN x_2.2.2 ∧ (∀ (i
      : Nat), i < LN y.2 → [ZB (BI y.2 i)] = [ZB (BI x_2.2.2 i)]) ∧ y.1 = x_2.2.1) ∧ True) ∧ (SM x ∧ ((SM (LN (CodD.consts c)) ∧ (∀ (i : Nat), i < LN (CodD.consts c) → SM [ZI (Arr.k (GC c i)), SI (Arr.sh (GC c i)), SI
      (Arr.nu (GC c i)), D.sl N4 (LN (Arr.it (GC c i))) (fun (i_1 : Nat) => Arr.row (GA (Arr.it (GC c i)) i_1)) Mode.any]) ∧ True) ∧ (SM (LN (CodD.funs c)) ∧ (∀ (i : Nat), i < LN (CodD.funs c) → SM [ZI (FnD.slots (GF c
      i)), S4 (FnD.code (GF c i))]) ∧ True) ∧ (SM (LN (CodD.kers c)) ∧ (∀ (i : Nat), i < LN (CodD.kers c) → SM [ZI (KeD.inputs (GK c i)), S4 (KeD.ops (GK c i)), ZI (KeD.reduce (GK c i)), ZI (KeD.at_ (GK c i))]) ∧ True) ∧
      (SM (LN (CodD.lanes c)) ∧ (∀ (i : Nat), i < LN (CodD.lanes c) → SM [ZI (LaD.regs (GL c i)), S6 (LaD.code (GL c i))]) ∧ True) ∧ True) ∧ True) ∧ y.1 = x_2.2.1 ∧ True) ∧ ∀ (x_2 : Nat × Nat × List UInt8), x_2.1 ≤ LN
      (CodD.funs c) ∧ x_2.2.2 ++ (List.flatMap funB (List.drop x_2.1 (CodD.funs c)) ++ tl3 c) = codeB c → SM x ∧ ifB (decide ((NI x_2.1) < (LI (CodD.funs c)))) (SM x ∧ side (Z0 ≤ (NI x_2.1) ∧ (NI x_2.1) < (LI (CodD.funs
      c))) (∀ (x_3 : Nat), x ≠ x_3 ∧ True → SM x_3 ∧ SM x_3 ∧ SM x_3 ∧ ((tokIs [(N0, x_2.2.1)] N0 x_2.2.1 ∧ fitP (LN x_2.2.2) (fun (i : Nat) => [ZB (BI x_2.2.2 i)]) N2 fun (i : Nat) => List.getD [[ZI (FnD.slots (GF c (TN
      x_2.1)))], [ZI (LI (FnD.code (GF c (TN x_2.1))))]] i []) ∧ True) ∧ ∀ (y : Nat × List UInt8), y.2 = (bytesOf (LN x_2.2.2) fun (i : Nat) => [ZB (BI x_2.2.2 i)]) ++ numsB [rowInt [ZI (FnD.slots (GF c (TN x_2.1)))],
      rowInt [ZI (LI (FnD.code (GF c (TN x_2.1))))]] → (∃ (x_4 : Nat × Nat × List UInt8), (x_4.1 ≤ LN (FnD.code (GF c (natOf (ZI (NI x_2.1))))) ∧ x_4.2.2 ++ (List.flatMap i4B (List.drop x_4.1 (FnD.code (GF c (natOf (ZI
      (NI x_2.1)))))) ++ (List.flatMap funB (List.drop (natOf (ZI (NI x_2.1)) + N1) (CodD.funs c)) ++ tl3 c)) = codeB c) ∧ (Z0 = (NI x_4.1) ∧ (LN y.2 = LN x_4.2.2 ∧ (∀ (i : Nat), i < LN y.2 → [ZB (BI y.2 i)] = [ZB (BI
      x_4.2.2 i)]) ∧ y.1 = x_4.2.1) ∧ True) ∧ (SM x_3 ∧ (SM (FnD.slots (GF c (TN x_2.1))) ∧ (SM (LN (FnD.code (GF c (TN x_2.1)))) ∧ (∀ (i : Nat), i < LN (FnD.code (GF c (TN x_2.1))) → SM (R4 (G4 (FnD.code (GF c (TN
      x_2.1))) i))) ∧ True) ∧ True) ∧ SM x ∧ ((SM (LN (CodD.consts c)) ∧ (∀ (i : Nat), i < LN (CodD.consts c) → SM [ZI (Arr.k (GC c i)), SI (Arr.sh (GC c i)), SI (Arr.nu (GC c i)), D.sl N4 (LN (Arr.it (GC c i))) (fun
      (i_1 : Nat) => Arr.row (GA (Arr.it (GC c i)) i_1)) Mode.any]) ∧ True) ∧ (SM (LN (CodD.funs c)) ∧ (∀ (i : Nat), i < LN (CodD.funs c) → SM [ZI (FnD.slots (GF c i)), S4 (FnD.code (GF c i))]) ∧ True) ∧ (SM (LN
      (CodD.kers c)) ∧ (∀ (i : Nat), i < LN (CodD.kers c) → SM [ZI (KeD.inputs (GK c i)), S4 (KeD.ops (GK c i)), ZI (KeD.reduce (GK c i)), ZI (KeD.at_ (GK c i))]) ∧ True) ∧ (SM (LN (CodD.lanes c)) ∧ (∀ (i : Nat), i < LN
      (CodD.lanes c) → SM [ZI (LaD.regs (GL c i)), S6 (LaD.code (GL c i))]) ∧ True) ∧ True) ∧ True) ∧ y.1 = x_4.2.1 ∧ True) ∧ ∀ (x_4 : Nat × Nat × List UInt8), x_4.1 ≤ LN (FnD.code (GF c (natOf (ZI (NI x_2.1))))) ∧
      x_4.2.2 ++ (List.flatMap i4B (List.drop x_4.1 (FnD.code (GF c (natOf (ZI (NI x_2.1)))))) ++ (List.flatMap funB (List.drop (natOf (ZI (NI x_2.1)) + N1) (CodD.funs c)) ++ tl3 c)) = codeB c → SM x_3 ∧ ifB (decide ((NI
      x_4.1) < (LI (FnD.code (GF c (TN x_2.1)))))) (SM x_3 ∧ side (Z0 ≤ (NI x_4.1) ∧ (NI x_4.1) < (LI (FnD.code (GF c (TN x_2.1))))) (SM x_3 ∧ side (Z0 ≤ (NI x_4.1) ∧ (NI x_4.1) < (LI (FnD.code (GF c (TN x_2.1))))) (SM
      x_3 ∧ side (Z0 ≤ (NI x_4.1) ∧ (NI x_4.1) < (LI (FnD.code (GF c (TN x_2.1))))) (SM x_3 ∧ side (Z0 ≤ (NI x_4.1) ∧ (NI x_4.1) < (LI (FnD.code (GF c (TN x_2.1))))) (((tokIs [(N0, x_4.2.1)] N0 x_4.2.1 ∧ fitP (LN
      x_4.2.2) (fun (i : Nat) => [ZB (BI x_4.2.2 i)]) N4 fun (i : Nat) => List.getD [[ZI (I4.a (G4 (FnD.code (GF c (TN x_2.1))) (TN x_4.1)))], [ZI (I4.b (G4 (FnD.code (GF c (TN x_2.1))) (TN x_4.1)))], [ZI (I4.c (G4
      (FnD.code (GF c (TN x_2.1))) (TN x_4.1)))], [ZI (I4.d (G4 (FnD.code (GF c (TN x_2.1))) (TN x_4.1)))]] i []) ∧ True) ∧ ∀ (y : Nat × List UInt8), y.2 = (bytesOf (LN x_4.2.2) fun (i : Nat) => [ZB (BI x_4.2.2 i)]) ++
      numsB [rowInt [ZI (I4.a (G4 (FnD.code (GF c (TN x_2.1))) (TN x_4.1)))], rowInt [ZI (I4.b (G4 (FnD.code (GF c (TN x_2.1))) (TN x_4.1)))], rowInt [ZI (I4.c (G4 (FnD.code (GF c (TN x_2.1))) (TN x_4.1)))], rowInt [ZI
      (I4.d (G4 (FnD.code (GF c (TN x_2.1))) (TN x_4.1)))]] → (SM (D.ref N0 x N0) ∧ SM (ZI (NI x_2.1)) ∧ SM (D.ref (max (N0 + N1) N0) x_3 N0) ∧ True) ∧ ∃ (y_1 : Nat × Nat × List UInt8), (y_1.1 ≤ LN (FnD.code (GF c (natOf
      (ZI (NI x_2.1))))) ∧ y_1.2.2 ++ (List.flatMap i4B (List.drop y_1.1 (FnD.code (GF c (natOf (ZI (NI x_2.1)))))) ++ (List.flatMap funB (List.drop (natOf (ZI (NI x_2.1)) + N1) (CodD.funs c)) ++ tl3 c)) = codeB c) ∧ LN
      (FnD.code (GF c (natOf (ZI (NI x_2.1))))) - y_1.1 < LN (FnD.code (GF c (natOf (ZI (NI x_2.1))))) - x_4.1 ∧ (IntKind.wrap IntKind.i64 ((NI x_4.1) + Z1) = (NI y_1.1) ∧ (LN y.2 = LN y_1.2.2 ∧ (∀ (i : Nat), i < LN y.2
      → [ZB (BI y.2 i)] = [ZB (BI y_1.2.2 i)]) ∧ y.1 = y_1.2.1) ∧ True) ∧ (SM x_3 ∧ (SM (FnD.slots (GF c (TN x_2.1))) ∧ (SM (LN (FnD.code (GF c (TN x_2.1)))) ∧ (∀ (i : Nat), i < LN (FnD.code (GF c (TN x_2.1))) → SM (R4
      (G4 (FnD.code (GF c (TN x_2.1))) i))) ∧ True) ∧ True) ∧ SM x ∧ ((SM (LN (CodD.consts c)) ∧ (∀ (i : Nat), i < LN (CodD.consts c) → SM [ZI (Arr.k (GC c i)), SI (Arr.sh (GC c i)), SI (Arr.nu (GC c i)), D.sl N4 (LN
      (Arr.it (GC c i))) (fun (i_1 : Nat) => Arr.row (GA (Arr.it (GC c i)) i_1)) Mode.any]) ∧ True) ∧ (SM (LN (CodD.funs c)) ∧ (∀ (i : Nat), i < LN (CodD.funs c) → SM [ZI (FnD.slots (GF c i)), S4 (FnD.code (GF c i))]) ∧
      True) ∧ (SM (LN (CodD.kers c)) ∧ (∀ (i : Nat), i < LN (CodD.kers c) → SM [ZI (KeD.inputs (GK c i)), S4 (KeD.ops (GK c i)), ZI (KeD.reduce (GK c i)), ZI (KeD.at_ (GK c i))]) ∧ True) ∧ (SM (LN (CodD.lanes c)) ∧ (∀ (i
      : Nat), i < LN (CodD.lanes c) → SM [ZI (LaD.regs (GL c i)), S6 (LaD.code (GL c i))]) ∧ True) ∧ True) ∧ True) ∧ y.1 = y_1.2.1 ∧ True))))) ((SM (D.ref N0 x N0) ∧ True) ∧ ∃ (y : Nat × Nat × List UInt8), (y.1 ≤ LN
      (CodD.funs c) ∧ y.2.2 ++ (List.flatMap funB (List.drop y.1 (CodD.funs c)) ++ tl3 c) = codeB c) ∧ LN (CodD.funs c) - y.1 < LN (CodD.funs c) - x_2.1 ∧ (IntKind.wrap IntKind.i64 ((NI x_2.1) + Z1) = (NI y.1) ∧ (LN
      x_4.2.2 = LN y.2.2 ∧ (∀ (i : Nat), i < LN x_4.2.2 → [ZB (BI x_4.2.2 i)] = [ZB (BI y.2.2 i)]) ∧ x_4.2.1 = y.2.1) ∧ True) ∧ (SM x ∧ ((SM (LN (CodD.consts c)) ∧ (∀ (i : Nat), i < LN (CodD.consts c) → SM [ZI (Arr.k (GC
      c i)), SI (Arr.sh (GC c i)), SI (Arr.nu (GC c i)), D.sl N4 (LN (Arr.it (GC c i))) (fun (i_1 : Nat) => Arr.row (GA (Arr.it (GC c i)) i_1)) Mode.any]) ∧ True) ∧ (SM (LN (CodD.funs c)) ∧ (∀ (i : Nat), i < LN
      (CodD.funs c) → SM [ZI (FnD.slots (GF c i)), S4 (FnD.code (GF c i))]) ∧ True) ∧ (SM (LN (CodD.kers c)) ∧ (∀ (i : Nat), i < LN (CodD.kers c) → SM [ZI (KeD.inputs (GK c i)), S4 (KeD.ops (GK c i)), ZI (KeD.reduce (GK
      c i)), ZI (KeD.at_ (GK c i))]) ∧ True) ∧ (SM (LN (CodD.lanes c)) ∧ (∀ (i : Nat), i < LN (CodD.lanes c) → SM [ZI (LaD.regs (GL c i)), S6 (LaD.code (GL c i))]) ∧ True) ∧ True) ∧ True) ∧ x_4.2.1 = y.2.1 ∧ True))) (SM
      x ∧ ((tokIs [(N0, x_2.2.1)] N0 x_2.2.1 ∧ fitP (LN x_2.2.2) (fun (i : Nat) => [ZB (BI x_2.2.2 i)]) N1 fun (i : Nat) => List.getD [[ZI (LI (CodD.kers c))]] i []) ∧ True) ∧ ∀ (y : Nat × List UInt8), y.2 = (bytesOf (LN
      x_2.2.2) fun (i : Nat) => [ZB (BI x_2.2.2 i)]) ++ numsB [rowInt [ZI (LI (CodD.kers c))]] → (∃ (x_3 : Nat × Nat × List UInt8), (x_3.1 ≤ LN (CodD.kers c) ∧ x_3.2.2 ++ (List.flatMap kerY (List.drop x_3.1 (CodD.kers
      c)) ++ tl4 c) = codeB c) ∧ (Z0 = (NI x_3.1) ∧ (LN y.2 = LN x_3.2.2 ∧ (∀ (i : Nat), i < LN y.2 → [ZB (BI y.2 i)] = [ZB (BI x_3.2.2 i)]) ∧ y.1 = x_3.2.1) ∧ True) ∧ (SM x ∧ ((SM (LN (CodD.consts c)) ∧ (∀ (i : Nat), i
      < LN (CodD.consts c) → SM [ZI (Arr.k (GC c i)), SI (Arr.sh (GC c i)), SI (Arr.nu (GC c i)), D.sl N4 (LN (Arr.it (GC c i))) (fun (i_1 : Nat) => Arr.row (GA (Arr.it (GC c i)) i_1)) Mode.any]) ∧ True) ∧ (SM (LN
      (CodD.funs c)) ∧ (∀ (i : Nat), i < LN (CodD.funs c) → SM [ZI (FnD.slots (GF c i)), S4 (FnD.code (GF c i))]) ∧ True) ∧ (SM (LN (CodD.kers c)) ∧ (∀ (i : Nat), i < LN (CodD.kers c) → SM [ZI (KeD.inputs (GK c i)), S4
      (KeD.ops (GK c i)), ZI (KeD.reduce (GK c i)), ZI (KeD.at_ (GK c i))]) ∧ True) ∧ (SM (LN (CodD.lanes c)) ∧ (∀ (i : Nat), i < LN (CodD.lanes c) → SM [ZI (LaD.regs (GL c i)), S6 (LaD.code (GL c i))]) ∧ True) ∧ True) ∧
      True) ∧ y.1 = x_3.2.1 ∧ True) ∧ ∀ (x_3 : Nat × Nat × List UInt8), x_3.1 ≤ LN (CodD.kers c) ∧ x_3.2.2 ++ (List.flatMap kerY (List.drop x_3.1 (CodD.kers c)) ++ tl4 c) = codeB c → SM x ∧ ifB (decide ((NI x_3.1) < (LI
      (CodD.kers c)))) (SM x ∧ side (Z0 ≤ (NI x_3.1) ∧ (NI x_3.1) < (LI (CodD.kers c))) (∀ (x_4 : Nat), x ≠ x_4 ∧ True → SM x_4 ∧ SM x_4 ∧ SM x_4 ∧ ((tokIs [(N0, x_3.2.1)] N0 x_3.2.1 ∧ fitP (LN x_3.2.2) (fun (i : Nat) =>
      [ZB (BI x_3.2.2 i)]) N2 fun (i : Nat) => List.getD [[ZI (KeD.inputs (GK c (TN x_3.1)))], [ZI (LI (KeD.ops (GK c (TN x_3.1))))]] i []) ∧ True) ∧ ∀ (y : Nat × List UInt8), y.2 = (bytesOf (LN x_3.2.2) fun (i : Nat) =>
      [ZB (BI x_3.2.2 i)]) ++ numsB [rowInt [ZI (KeD.inputs (GK c (TN x_3.1)))], rowInt [ZI (LI (KeD.ops (GK c (TN x_3.1))))]] → (∃ (x_5 : Nat × Nat × List UInt8), (x_5.1 ≤ LN (KeD.ops (GK c (natOf (ZI (NI x_3.1))))) ∧
      x_5.2.2 ++ (List.flatMap i4B (List.drop x_5.1 (KeD.ops (GK c (natOf (ZI (NI x_3.1)))))) ++ (numsB [KeD.reduce (GK c (natOf (ZI (NI x_3.1)))), KeD.at_ (GK c (natOf (ZI (NI x_3.1))))] ++ (List.flatMap kerY (List.drop
      (natOf (ZI (NI x_3.1)) + N1) (CodD.kers c)) ++ tl4 c))) = codeB c) ∧ (Z0 = (NI x_5.1) ∧ (LN y.2 = LN x_5.2.2 ∧ (∀ (i : Nat), i < LN y.2 → [ZB (BI y.2 i)] = [ZB (BI x_5.2.2 i)]) ∧ y.1 = x_5.2.1) ∧ True) ∧ (SM x_4 ∧
      (SM (KeD.inputs (GK c (TN x_3.1))) ∧ (SM (LN (KeD.ops (GK c (TN x_3.1)))) ∧ (∀ (i : Nat), i < LN (KeD.ops (GK c (TN x_3.1))) → SM (R4 (G4 (KeD.ops (GK c (TN x_3.1))) i))) ∧ True) ∧ SM (KeD.reduce (GK c (TN x_3.1)))
      ∧ SM (KeD.at_ (GK c (TN x_3.1))) ∧ True) ∧ SM x ∧ ((SM (LN (CodD.consts c)) ∧ (∀ (i : Nat), i < LN (CodD.consts c) → SM [ZI (Arr.k (GC c i)), SI (Arr.sh (GC c i)), SI (Arr.nu (GC c i)), D.sl N4 (LN (Arr.it (GC c
      i))) (fun (i_1 : Nat) => Arr.row (GA (Arr.it (GC c i)) i_1)) Mode.any]) ∧ True) ∧ (SM (LN (CodD.funs c)) ∧ (∀ (i : Nat), i < LN (CodD.funs c) → SM [ZI (FnD.slots (GF c i)), S4 (FnD.code (GF c i))]) ∧ True) ∧ (SM
      (LN (CodD.kers c)) ∧ (∀ (i : Nat), i < LN (CodD.kers c) → SM [ZI (KeD.inputs (GK c i)), S4 (KeD.ops (GK c i)), ZI (KeD.reduce (GK c i)), ZI (KeD.at_ (GK c i))]) ∧ True) ∧ (SM (LN (CodD.lanes c)) ∧ (∀ (i : Nat), i <
      LN (CodD.lanes c) → SM [ZI (LaD.regs (GL c i)), S6 (LaD.code (GL c i))]) ∧ True) ∧ True) ∧ True) ∧ y.1 = x_5.2.1 ∧ True) ∧ ∀ (x_5 : Nat × Nat × List UInt8), x_5.1 ≤ LN (KeD.ops (GK c (natOf (ZI (NI x_3.1))))) ∧
      x_5.2.2 ++ (List.flatMap i4B (List.drop x_5.1 (KeD.ops (GK c (natOf (ZI (NI x_3.1)))))) ++ (numsB [KeD.reduce (GK c (natOf (ZI (NI x_3.1)))), KeD.at_ (GK c (natOf (ZI (NI x_3.1))))] ++ (List.flatMap kerY (List.drop
      (natOf (ZI (NI x_3.1)) + N1) (CodD.kers c)) ++ tl4 c))) = codeB c → SM x_4 ∧ ifB (decide ((NI x_5.1) < (LI (KeD.ops (GK c (TN x_3.1)))))) (SM x_4 ∧ side (Z0 ≤ (NI x_5.1) ∧ (NI x_5.1) < (LI (KeD.ops (GK c (TN
      x_3.1))))) (SM x_4 ∧ side (Z0 ≤ (NI x_5.1) ∧ (NI x_5.1) < (LI (KeD.ops (GK c (TN x_3.1))))) (SM x_4 ∧ side (Z0 ≤ (NI x_5.1) ∧ (NI x_5.1) < (LI (KeD.ops (GK c (TN x_3.1))))) (SM x_4 ∧ side (Z0 ≤ (NI x_5.1) ∧ (NI
      x_5.1) < (LI (KeD.ops (GK c (TN x_3.1))))) (((tokIs [(N0, x_5.2.1)] N0 x_5.2.1 ∧ fitP (LN x_5.2.2) (fun (i : Nat) => [ZB (BI x_5.2.2 i)]) N4 fun (i : Nat) => List.getD [[ZI (I4.a (G4 (KeD.ops (GK c (TN x_3.1))) (TN
      x_5.1)))], [ZI (I4.b (G4 (KeD.ops (GK c (TN x_3.1))) (TN x_5.1)))], [ZI (I4.c (G4 (KeD.ops (GK c (TN x_3.1))) (TN x_5.1)))], [ZI (I4.d (G4 (KeD.ops (GK c (TN x_3.1))) (TN x_5.1)))]] i []) ∧ True) ∧ ∀ (y : Nat ×
      List UInt8), y.2 = (bytesOf (LN x_5.2.2) fun (i : Nat) => [ZB (BI x_5.2.2 i)]) ++ numsB [rowInt [ZI (I4.a (G4 (KeD.ops (GK c (TN x_3.1))) (TN x_5.1)))], rowInt [ZI (I4.b (G4 (KeD.ops (GK c (TN x_3.1))) (TN
      x_5.1)))], rowInt [ZI (I4.c (G4 (KeD.ops (GK c (TN x_3.1))) (TN x_5.1)))], rowInt [ZI (I4.d (G4 (KeD.ops (GK c (TN x_3.1))) (TN x_5.1)))]] → (SM (D.ref N0 x N0) ∧ SM (ZI (NI x_3.1)) ∧ SM (D.ref (max (N0 + N1) N0)
      x_4 N0) ∧ True) ∧ ∃ (y_1 : Nat × Nat × List UInt8), (y_1.1 ≤ LN (KeD.ops (GK c (natOf (ZI (NI x_3.1))))) ∧ y_1.2.2 ++ (List.flatMap i4B (List.drop y_1.1 (KeD.ops (GK c (natOf (ZI (NI x_3.1)))))) ++ (numsB
      [KeD.reduce (GK c (natOf (ZI (NI x_3.1)))), KeD.at_ (GK c (natOf (ZI (NI x_3.1))))] ++ (List.flatMap kerY (List.drop (natOf (ZI (NI x_3.1)) + N1) (CodD.kers c)) ++ tl4 c))) = codeB c) ∧ LN (KeD.ops (GK c (natOf (ZI
      (NI x_3.1))))) - y_1.1 < LN (KeD.ops (GK c (natOf (ZI (NI x_3.1))))) - x_5.1 ∧ (IntKind.wrap IntKind.i64 ((NI x_5.1) + Z1) = (NI y_1.1) ∧ (LN y.2 = LN y_1.2.2 ∧ (∀ (i : Nat), i < LN y.2 → [ZB (BI y.2 i)] = [ZB (BI
      y_1.2.2 i)]) ∧ y.1 = y_1.2.1) ∧ True) ∧ (SM x_4 ∧ (SM (KeD.inputs (GK c (TN x_3.1))) ∧ (SM (LN (KeD.ops (GK c (TN x_3.1)))) ∧ (∀ (i : Nat), i < LN (KeD.ops (GK c (TN x_3.1))) → SM (R4 (G4 (KeD.ops (GK c (TN
      x_3.1))) i))) ∧ True) ∧ SM (KeD.reduce (GK c (TN x_3.1))) ∧ SM (KeD.at_ (GK c (TN x_3.1))) ∧ True) ∧ SM x ∧ ((SM (LN (CodD.consts c)) ∧ (∀ (i : Nat), i < LN (CodD.consts c) → SM [ZI (Arr.k (GC c i)), SI (Arr.sh (GC
      c i)), SI (Arr.nu (GC c i)), D.sl N4 (LN (Arr.it (GC c i))) (fun (i_1 : Nat) => Arr.row (GA (Arr.it (GC c i)) i_1)) Mode.any]) ∧ True) ∧ (SM (LN (CodD.funs c)) ∧ (∀ (i : Nat), i < LN (CodD.funs c) → SM [ZI
      (FnD.slots (GF c i)), S4 (FnD.code (GF c i))]) ∧ True) ∧ (SM (LN (CodD.kers c)) ∧ (∀ (i : Nat), i < LN (CodD.kers c) → SM [ZI (KeD.inputs (GK c i)), S4 (KeD.ops (GK c i)), ZI (KeD.reduce (GK c i)), ZI (KeD.at_ (GK
      c i))]) ∧ True) ∧ (SM (LN (CodD.lanes c)) ∧ (∀ (i : Nat), i < LN (CodD.lanes c) → SM [ZI (LaD.regs (GL c i)), S6 (LaD.code (GL c i))]) ∧ True) ∧ True) ∧ True) ∧ y.1 = y_1.2.1 ∧ True))))) (SM x_4 ∧ SM x_4 ∧ ((tokIs
      [(N0, x_5.2.1)] N0 x_5.2.1 ∧ fitP (LN x_5.2.2) (fun (i : Nat) => [ZB (BI x_5.2.2 i)]) N2 fun (i : Nat) => List.getD [[ZI (KeD.reduce (GK c (TN x_3.1)))], [ZI (KeD.at_ (GK c (TN x_3.1)))]] i []) ∧ True) ∧ ∀ (y : Nat
      × List UInt8), y.2 = (bytesOf (LN x_5.2.2) fun (i : Nat) => [ZB (BI x_5.2.2 i)]) ++ numsB [rowInt [ZI (KeD.reduce (GK c (TN x_3.1)))], rowInt [ZI (KeD.at_ (GK c (TN x_3.1)))]] → (SM (D.ref N0 x N0) ∧ True) ∧ ∃ (y_1
      : Nat × Nat × List UInt8), (y_1.1 ≤ LN (CodD.kers c) ∧ y_1.2.2 ++ (List.flatMap kerY (List.drop y_1.1 (CodD.kers c)) ++ tl4 c) = codeB c) ∧ LN (CodD.kers c) - y_1.1 < LN (CodD.kers c) - x_3.1 ∧ (IntKind.wrap
      IntKind.i64 ((NI x_3.1) + Z1) = (NI y_1.1) ∧ (LN y.2 = LN y_1.2.2 ∧ (∀ (i : Nat), i < LN y.2 → [ZB (BI y.2 i)] = [ZB (BI y_1.2.2 i)]) ∧ y.1 = y_1.2.1) ∧ True) ∧ (SM x ∧ ((SM (LN (CodD.consts c)) ∧ (∀ (i : Nat), i <
      LN (CodD.consts c) → SM [ZI (Arr.k (GC c i)), SI (Arr.sh (GC c i)), SI (Arr.nu (GC c i)), D.sl N4 (LN (Arr.it (GC c i))) (fun (i_1 : Nat) => Arr.row (GA (Arr.it (GC c i)) i_1)) Mode.any]) ∧ True) ∧ (SM (LN
      (CodD.funs c)) ∧ (∀ (i : Nat), i < LN (CodD.funs c) → SM [ZI (FnD.slots (GF c i)), S4 (FnD.code (GF c i))]) ∧ True) ∧ (SM (LN (CodD.kers c)) ∧ (∀ (i : Nat), i < LN (CodD.kers c) → SM [ZI (KeD.inputs (GK c i)), S4
      (KeD.ops (GK c i)), ZI (KeD.reduce (GK c i)), ZI (KeD.at_ (GK c i))]) ∧ True) ∧ (SM (LN (CodD.lanes c)) ∧ (∀ (i : Nat), i < LN (CodD.lanes c) → SM [ZI (LaD.regs (GL c i)), S6 (LaD.code (GL c i))]) ∧ True) ∧ True) ∧
      True) ∧ y.1 = y_1.2.1 ∧ True))) (SM x ∧ ((tokIs [(N0, x_3.2.1)] N0 x_3.2.1 ∧ fitP (LN x_3.2.2) (fun (i : Nat) => [ZB (BI x_3.2.2 i)]) N1 fun (i : Nat) => List.getD [[ZI (LI (CodD.lanes c))]] i []) ∧ True) ∧ ∀ (y :
      Nat × List UInt8), y.2 = (bytesOf (LN x_3.2.2) fun (i : Nat) => [ZB (BI x_3.2.2 i)]) ++ numsB [rowInt [ZI (LI (CodD.lanes c))]] → (∃ (x_4 : Nat × Nat × List UInt8), (x_4.1 ≤ LN (CodD.lanes c) ∧ x_4.2.2 ++
      List.flatMap lanB (List.drop x_4.1 (CodD.lanes c)) = codeB c) ∧ (Z0 = (NI x_4.1) ∧ (LN y.2 = LN x_4.2.2 ∧ (∀ (i : Nat), i < LN y.2 → [ZB (BI y.2 i)] = [ZB (BI x_4.2.2 i)]) ∧ y.1 = x_4.2.1) ∧ True) ∧ (SM x ∧ ((SM
      (LN (CodD.consts c)) ∧ (∀ (i : Nat), i < LN (CodD.consts c) → SM [ZI (Arr.k (GC c i)), SI (Arr.sh (GC c i)), SI (Arr.nu (GC c i)), D.sl N4 (LN (Arr.it (GC c i))) (fun (i_1 : Nat) => Arr.row (GA (Arr.it (GC c i))
      i_1)) Mode.any]) ∧ True) ∧ (SM (LN (CodD.funs c)) ∧ (∀ (i : Nat), i < LN (CodD.funs c) → SM [ZI (FnD.slots (GF c i)), S4 (FnD.code (GF c i))]) ∧ True) ∧ (SM (LN (CodD.kers c)) ∧ (∀ (i : Nat), i < LN (CodD.kers c) →
      SM [ZI (KeD.inputs (GK c i)), S4 (KeD.ops (GK c i)), ZI (KeD.reduce (GK c i)), ZI (KeD.at_ (GK c i))]) ∧ True) ∧ (SM (LN (CodD.lanes c)) ∧ (∀ (i : Nat), i < LN (CodD.lanes c) → SM [ZI (LaD.regs (GL c i)), S6
      (LaD.code (GL c i))]) ∧ True) ∧ True) ∧ True) ∧ y.1 = x_4.2.1 ∧ True) ∧ ∀ (x_4 : Nat × Nat × List UInt8), x_4.1 ≤ LN (CodD.lanes c) ∧ x_4.2.2 ++ List.flatMap lanB (List.drop x_4.1 (CodD.lanes c)) = codeB c → SM x ∧
      ifB (decide ((NI x_4.1) < (LI (CodD.lanes c)))) (SM x ∧ side (Z0 ≤ (NI x_4.1) ∧ (NI x_4.1) < (LI (CodD.lanes c))) (∀ (x_5 : Nat), x ≠ x_5 ∧ True → SM x_5 ∧ SM x_5 ∧ SM x_5 ∧ ((tokIs [(N0, x_4.2.1)] N0 x_4.2.1 ∧
      fitP (LN x_4.2.2) (fun (i : Nat) => [ZB (BI x_4.2.2 i)]) N2 fun (i : Nat) => List.getD [[ZI (LaD.regs (GL c (TN x_4.1)))], [ZI (LI (LaD.code (GL c (TN x_4.1))))]] i []) ∧ True) ∧ ∀ (y : Nat × List UInt8), y.2 =
      (bytesOf (LN x_4.2.2) fun (i : Nat) => [ZB (BI x_4.2.2 i)]) ++ numsB [rowInt [ZI (LaD.regs (GL c (TN x_4.1)))], rowInt [ZI (LI (LaD.code (GL c (TN x_4.1))))]] → (∃ (x_6 : Nat × Nat × List UInt8), (x_6.1 ≤ LN
      (LaD.code (GL c (natOf (ZI (NI x_4.1))))) ∧ x_6.2.2 ++ (List.flatMap i6B (List.drop x_6.1 (LaD.code (GL c (natOf (ZI (NI x_4.1)))))) ++ List.flatMap lanB (List.drop (natOf (ZI (NI x_4.1)) + N1) (CodD.lanes c))) =
      codeB c) ∧ (Z0 = (NI x_6.1) ∧ (LN y.2 = LN x_6.2.2 ∧ (∀ (i : Nat), i < LN y.2 → [ZB (BI y.2 i)] = [ZB (BI x_6.2.2 i)]) ∧ y.1 = x_6.2.1) ∧ True) ∧ (SM x_5 ∧ (SM (LaD.regs (GL c (TN x_4.1))) ∧ (SM (LN (LaD.code (GL c
      (TN x_4.1)))) ∧ (∀ (i : Nat), i < LN (LaD.code (GL c (TN x_4.1))) → SM (R6 (G6 (LaD.code (GL c (TN x_4.1))) i))) ∧ True) ∧ True) ∧ SM x ∧ ((SM (LN (CodD.consts c)) ∧ (∀ (i : Nat), i < LN (CodD.consts c) → SM [ZI
      (Arr.k (GC c i)), SI (Arr.sh (GC c i)), SI (Arr.nu (GC c i)), D.sl N4 (LN (Arr.it (GC c i))) (fun (i_1 : Nat) => Arr.row (GA (Arr.it (GC c i)) i_1)) Mode.any]) ∧ True) ∧ (SM (LN (CodD.funs c)) ∧ (∀ (i : Nat), i <
      LN (CodD.funs c) → SM [ZI (FnD.slots (GF c i)), S4 (FnD.code (GF c i))]) ∧ True) ∧ (SM (LN (CodD.kers c)) ∧ (∀ (i : Nat), i < LN (CodD.kers c) → SM [ZI (KeD.inputs (GK c i)), S4 (KeD.ops (GK c i)), ZI (KeD.reduce
      (GK c i)), ZI (KeD.at_ (GK c i))]) ∧ True) ∧ (SM (LN (CodD.lanes c)) ∧ (∀ (i : Nat), i < LN (CodD.lanes c) → SM [ZI (LaD.regs (GL c i)), S6 (LaD.code (GL c i))]) ∧ True) ∧ True) ∧ True) ∧ y.1 = x_6.2.1 ∧ True) ∧ ∀
      (x_6 : Nat × Nat × List UInt8), x_6.1 ≤ LN (LaD.code (GL c (natOf (ZI (NI x_4.1))))) ∧ x_6.2.2 ++ (List.flatMap i6B (List.drop x_6.1 (LaD.code (GL c (natOf (ZI (NI x_4.1)))))) ++ List.flatMap lanB (List.drop (natOf
      (ZI (NI x_4.1)) + N1) (CodD.lanes c))) = codeB c → SM x_5 ∧ ifB (decide ((NI x_6.1) < (LI (LaD.code (GL c (TN x_4.1)))))) (SM x_5 ∧ side (Z0 ≤ (NI x_6.1) ∧ (NI x_6.1) < (LI (LaD.code (GL c (TN x_4.1))))) (∀ (x_7 :
      Nat), x_5 ≠ x_7 ∧ x ≠ x_7 ∧ True → SM x_7 ∧ SM x_7 ∧ SM x_7 ∧ SM x_7 ∧ SM x_7 ∧ SM x_7 ∧ SM x_7 ∧ ((tokIs [(N0, x_6.2.1)] N0 x_6.2.1 ∧ fitP (LN x_6.2.2) (fun (i : Nat) => [ZB (BI x_6.2.2 i)]) N6 fun (i : Nat) =>
      List.getD [[ZI (I6.a (G6 (LaD.code (GL c (TN x_4.1))) (TN x_6.1)))], [ZI (I6.b (G6 (LaD.code (GL c (TN x_4.1))) (TN x_6.1)))], [ZI (I6.c (G6 (LaD.code (GL c (TN x_4.1))) (TN x_6.1)))], [ZI (I6.d (G6 (LaD.code (GL c
      (TN x_4.1))) (TN x_6.1)))], [ZI (I6.e (G6 (LaD.code (GL c (TN x_4.1))) (TN x_6.1)))], [ZI (I6.f (G6 (LaD.code (GL c (TN x_4.1))) (TN x_6.1)))]] i []) ∧ True) ∧ ∀ (y : Nat × List UInt8), y.2 = (bytesOf (LN x_6.2.2)
      fun (i : Nat) => [ZB (BI x_6.2.2 i)]) ++ numsB [rowInt [ZI (I6.a (G6 (LaD.code (GL c (TN x_4.1))) (TN x_6.1)))], rowInt [ZI (I6.b (G6 (LaD.code (GL c (TN x_4.1))) (TN x_6.1)))], rowInt [ZI (I6.c (G6 (LaD.code (GL c
      (TN x_4.1))) (TN x_6.1)))], rowInt [ZI (I6.d (G6 (LaD.code (GL c (TN x_4.1))) (TN x_6.1)))], rowInt [ZI (I6.e (G6 (LaD.code (GL c (TN x_4.1))) (TN x_6.1)))], rowInt [ZI (I6.f (G6 (LaD.code (GL c (TN x_4.1))) (TN
      x_6.1)))]] → (SM (D.ref N0 x N0) ∧ SM (ZI (NI x_4.1)) ∧ SM (D.ref (max (N0 + N1) N0) x_5 N0) ∧ True) ∧ ∃ (y_1 : Nat × Nat × List UInt8), (y_1.1 ≤ LN (LaD.code (GL c (natOf (ZI (NI x_4.1))))) ∧ y_1.2.2 ++
      (List.flatMap i6B (List.drop y_1.1 (LaD.code (GL c (natOf (ZI (NI x_4.1)))))) ++ List.flatMap lanB (List.drop (natOf (ZI (NI x_4.1)) + N1) (CodD.lanes c))) = codeB c) ∧ LN (LaD.code (GL c (natOf (ZI (NI x_4.1)))))
      - y_1.1 < LN (LaD.code (GL c (natOf (ZI (NI x_4.1))))) - x_6.1 ∧ (IntKind.wrap IntKind.i64 ((NI x_6.1) + Z1) = (NI y_1.1) ∧ (LN y.2 = LN y_1.2.2 ∧ (∀ (i : Nat), i < LN y.2 → [ZB (BI y.2 i)] = [ZB (BI y_1.2.2 i)]) ∧
      y.1 = y_1.2.1) ∧ True) ∧ (SM x_5 ∧ (SM (LaD.regs (GL c (TN x_4.1))) ∧ (SM (LN (LaD.code (GL c (TN x_4.1)))) ∧ (∀ (i : Nat), i < LN (LaD.code (GL c (TN x_4.1))) → SM (R6 (G6 (LaD.code (GL c (TN x_4.1))) i))) ∧ True)
      ∧ True) ∧ SM x ∧ ((SM (LN (CodD.consts c)) ∧ (∀ (i : Nat), i < LN (CodD.consts c) → SM [ZI (Arr.k (GC c i)), SI (Arr.sh (GC c i)), SI (Arr.nu (GC c i)), D.sl N4 (LN (Arr.it (GC c i))) (fun (i_1 : Nat) => Arr.row
      (GA (Arr.it (GC c i)) i_1)) Mode.any]) ∧ True) ∧ (SM (LN (CodD.funs c)) ∧ (∀ (i : Nat), i < LN (CodD.funs c) → SM [ZI (FnD.slots (GF c i)), S4 (FnD.code (GF c i))]) ∧ True) ∧ (SM (LN (CodD.kers c)) ∧ (∀ (i : Nat),
      i < LN (CodD.kers c) → SM [ZI (KeD.inputs (GK c i)), S4 (KeD.ops (GK c i)), ZI (KeD.reduce (GK c i)), ZI (KeD.at_ (GK c i))]) ∧ True) ∧ (SM (LN (CodD.lanes c)) ∧ (∀ (i : Nat), i < LN (CodD.lanes c) → SM [ZI
      (LaD.regs (GL c i)), S6 (LaD.code (GL c i))]) ∧ True) ∧ True) ∧ True) ∧ y.1 = y_1.2.1 ∧ True)) ((SM (D.ref N0 x N0) ∧ True) ∧ ∃ (y : Nat × Nat × List UInt8), (y.1 ≤ LN (CodD.lanes c) ∧ y.2.2 ++ List.flatMap lanB
      (List.drop y.1 (CodD.lanes c)) = codeB c) ∧ LN (CodD.lanes c) - y.1 < LN (CodD.lanes c) - x_4.1 ∧ (IntKind.wrap IntKind.i64 ((NI x_4.1) + Z1) = (NI y.1) ∧ (LN x_6.2.2 = LN y.2.2 ∧ (∀ (i : Nat), i < LN x_6.2.2 → [ZB
      (BI x_6.2.2 i)] = [ZB (BI y.2.2 i)]) ∧ x_6.2.1 = y.2.1) ∧ True) ∧ (SM x ∧ ((SM (LN (CodD.consts c)) ∧ (∀ (i : Nat), i < LN (CodD.consts c) → SM [ZI (Arr.k (GC c i)), SI (Arr.sh (GC c i)), SI (Arr.nu (GC c i)), D.sl
      N4 (LN (Arr.it (GC c i))) (fun (i_1 : Nat) => Arr.row (GA (Arr.it (GC c i)) i_1)) Mode.any]) ∧ True) ∧ (SM (LN (CodD.funs c)) ∧ (∀ (i : Nat), i < LN (CodD.funs c) → SM [ZI (FnD.slots (GF c i)), S4 (FnD.code (GF c
      i))]) ∧ True) ∧ (SM (LN (CodD.kers c)) ∧ (∀ (i : Nat), i < LN (CodD.kers c) → SM [ZI (KeD.inputs (GK c i)), S4 (KeD.ops (GK c i)), ZI (KeD.reduce (GK c i)), ZI (KeD.at_ (GK c i))]) ∧ True) ∧ (SM (LN (CodD.lanes c))
      ∧ (∀ (i : Nat), i < LN (CodD.lanes c) → SM [ZI (LaD.regs (GL c i)), S6 (LaD.code (GL c i))]) ∧ True) ∧ True) ∧ True) ∧ x_6.2.1 = y.2.1 ∧ True))) (True ∧ ∃ (y : Nat × List UInt8), y.2 = codeB c ∧ (LN x_4.2.2 = LN
      y.2 ∧ (∀ (i : Nat), i < LN x_4.2.2 → [ZB (BI x_4.2.2 i)] = [ZB (BI y.2 i)]) ∧ x_4.2.1 = y.1) ∧ True ∧ x_4.2.1 = y.1 ∧ True))))) (by kernel_rfl) ?_
  delta BI D4 D6 DA DF DK DL G4 G6 GA GC GF GI GK GL LI LN N0 N1 N2 N4 N6 NI R4 R6 S4 S6 SI SM TN U0 Z0 Z1 ZB ZI
  have da : (default : Arr) = Arr.mk 0 [] [] [] := rfl
  have dF : (default : FnD) = ⟨0, []⟩ := rfl
  have dK : (default : KeD) = ⟨0, [], 0, 0⟩ := rfl
  have dL : (default : LaD) = ⟨0, []⟩ := rfl
  have d4 : (default : I4) = ⟨0, 0, 0, 0⟩ := rfl
  have d6 : (default : I6) = ⟨0, 0, 0, 0, 0, 0⟩ := rfl
  simp only [← da, ← dF, ← dK, ← dL, ← d4, ← d6, eq_self, implies_true, Int.toNat_natCast, ifB_iff, side_iff, decide_eq_true_eq, decide_eq_false_iff_not, true_and, and_true, exists_const, forall_const, Prod.forall, forall_eq, bytesOf_bsl, rowsB_bsl, rowInt, natOf]
  have hT : (codeB c).length ≤ 35184372088832 := hl
  have hn1 : uBf 9 (zig (c.consts.length : Int)) = numsB [(c.consts.length : Int)] := by simp [numsB]
  rw [hn1]
  obtain ⟨k1, k2, k3, k4, m1, m2, m3, m4⟩ := hc
  intro xb
  refine ⟨len_i64 m1, fun t0 => ⟨loop_init2 (fun i => arrBL (c.consts.drop i) ++ tl2 c) (by simp only [List.drop_zero, List.append_assoc, codeB]), ?_⟩⟩
  rintro i t b ⟨hi, hb⟩
  refine ⟨fun hlt => ⟨⟨by omega, hlt⟩, ?_⟩, fun hge => ?_⟩
  · have hlt' : i < c.consts.length := by omega
    have hbl : b.length ≤ 35184372088832 := by
      have := congrArg List.length hb
      rw [List.length_append] at this
      omega
    have hs' := hs _ (mem_getD hlt')
    have e : (b ++ arrB (c.consts.getD i default)) ++ (arrBL (c.consts.drop (i + 1)) ++ tl2 c) = codeB c := by
      rw [← hb, drop_step hlt', arrBL]; simp only [List.append_assoc]
    refine ⟨(t, b, c.consts.getD i default), ⟨⟨rfl, fun _ _ => rfl, rfl⟩, rfl, ⟨rfl, fun _ _ => rfl⟩, ⟨rfl, fun _ _ => rfl⟩, rfl, fun _ _ => rfl⟩, rfl, ⟨mem_getD hlt', by simp only; omega⟩, fun t' => loop_next2 (fun i => arrBL (c.consts.drop i) ++ tl2 c) hlt' m1 e⟩
  have hi' : i = c.consts.length := by omega
  rw [hi', List.drop_length, arrBL, List.nil_append] at hb
  refine ⟨fit_U [(c.funs.length : Int)] hb hT (all1 (len_i64 m2)) (by simp), fun t0 => ⟨loop_init2 (fun i => (c.funs.drop i).flatMap funB ++ tl3 c) (by rw [← hb]; simp only [List.drop_zero, List.append_assoc, tl2]), ?_⟩⟩
  clear hb hge hi hi' i t b t0
  rintro i t b ⟨hi, hb⟩
  refine ⟨fun hlt => ⟨⟨by omega, hlt⟩, fun _ _ => ?_⟩, fun hge => ?_⟩
  · have hlt' : i < c.funs.length := by omega
    have kf := k2 _ (mem_getD hlt')
    rw [drop_step hlt', List.flatMap_cons, funB] at hb
    refine ⟨fit_U [(c.funs.getD i default).slots, ((c.funs.getD i default).code.length : Int)] hb hT (all2 kf.1 (len_i64 kf.2.2)) (by simp), fun t0 => ⟨loop_init2 (fun j => ((c.funs.getD i default).code.drop j).flatMap i4B ++ ((c.funs.drop (i + 1)).flatMap funB ++ tl3 c)) (by rw [← hb]; simp only [List.drop_zero, List.append_assoc]), ?_⟩⟩
    clear hb t b
    rintro j t b ⟨hj, hb⟩
    refine ⟨fun hjl => ⟨⟨by omega, hjl⟩, ⟨by omega, hjl⟩, ⟨by omega, hjl⟩, ⟨by omega, hjl⟩, ?_⟩, fun hjg => ?_⟩
    · have hj' : j < (c.funs.getD i default).code.length := by omega
      rw [drop_step hj', List.flatMap_cons, i4B] at hb
      exact ⟨fit_U [((c.funs.getD i default).code.getD j default).a, ((c.funs.getD i default).code.getD j default).b, ((c.funs.getD i default).code.getD j default).c, ((c.funs.getD i default).code.getD j default).d] hb hT (all4 (kf.2.1 _ (mem_getD hj'))) (by simp), fun t1 => loop_next2 (fun j => ((c.funs.getD i default).code.drop j).flatMap i4B ++ ((c.funs.drop (i + 1)).flatMap funB ++ tl3 c)) hj' kf.2.2 (by rw [← hb]; simp only [List.append_assoc])⟩
    · have hj' : j = (c.funs.getD i default).code.length := by omega
      rw [hj', List.drop_length, List.flatMap_nil, List.nil_append] at hb
      exact loop_next2 (fun i => (c.funs.drop i).flatMap funB ++ tl3 c) hlt' m2 hb
  have hi' : i = c.funs.length := by omega
  rw [hi', List.drop_length, List.flatMap_nil, List.nil_append] at hb
  refine ⟨fit_U [(c.kers.length : Int)] hb hT (all1 (len_i64 m3)) (by simp), fun t0 => ⟨loop_init2 (fun i => (c.kers.drop i).flatMap kerY ++ tl4 c) (by rw [← hb]; simp only [List.drop_zero, List.append_assoc, tl3]), ?_⟩⟩
  clear hb hge hi hi' i t b t0
  rintro i t b ⟨hi, hb⟩
  refine ⟨fun hlt => ⟨⟨by omega, hlt⟩, fun _ _ => ?_⟩, fun hge => ?_⟩
  · have hlt' : i < c.kers.length := by omega
    have kf := k3 _ (mem_getD hlt')
    rw [drop_step hlt', List.flatMap_cons, kerY] at hb
    refine ⟨fit_U [(c.kers.getD i default).inputs, ((c.kers.getD i default).ops.length : Int)] hb hT (all2 kf.1 (len_i64 kf.2.2.1)) (by simp), fun t0 => ⟨loop_init2 (fun j => ((c.kers.getD i default).ops.drop j).flatMap i4B ++ (numsB [(c.kers.getD i default).reduce, (c.kers.getD i default).at_] ++ ((c.kers.drop (i + 1)).flatMap kerY ++ tl4 c))) (by rw [← hb]; simp only [List.drop_zero, List.append_assoc]), ?_⟩⟩
    clear hb t b
    rintro j t b ⟨hj, hb⟩
    refine ⟨fun hjl => ⟨⟨by omega, hjl⟩, ⟨by omega, hjl⟩, ⟨by omega, hjl⟩, ⟨by omega, hjl⟩, ?_⟩, fun hjg => ?_⟩
    · have hj' : j < (c.kers.getD i default).ops.length := by omega
      rw [drop_step hj', List.flatMap_cons, i4B] at hb
      exact ⟨fit_U [((c.kers.getD i default).ops.getD j default).a, ((c.kers.getD i default).ops.getD j default).b, ((c.kers.getD i default).ops.getD j default).c, ((c.kers.getD i default).ops.getD j default).d] hb hT (all4 (kf.2.1 _ (mem_getD hj'))) (by simp), fun t1 => loop_next2 (fun j => ((c.kers.getD i default).ops.drop j).flatMap i4B ++ (numsB [(c.kers.getD i default).reduce, (c.kers.getD i default).at_] ++ ((c.kers.drop (i + 1)).flatMap kerY ++ tl4 c))) hj' kf.2.2.1 (by rw [← hb]; simp only [List.append_assoc])⟩
    · have hj' : j = (c.kers.getD i default).ops.length := by omega
      rw [hj', List.drop_length, List.flatMap_nil, List.nil_append] at hb
      exact ⟨fit_U [(c.kers.getD i default).reduce, (c.kers.getD i default).at_] hb hT (all2 kf.2.2.2.1 kf.2.2.2.2) (by simp), fun t1 => loop_next2 (fun i => (c.kers.drop i).flatMap kerY ++ tl4 c) hlt' m3 (by rw [← hb]; simp only [List.append_assoc])⟩
  have hi' : i = c.kers.length := by omega
  rw [hi', List.drop_length, List.flatMap_nil, List.nil_append] at hb
  refine ⟨fit_U [(c.lanes.length : Int)] hb hT (all1 (len_i64 m4)) (by simp), fun t0 => ⟨loop_init2 (fun i => (c.lanes.drop i).flatMap lanB) (by rw [← hb]; simp only [List.drop_zero, List.append_assoc, tl4]), ?_⟩⟩
  clear hb hge hi hi' i t b t0
  rintro i t b ⟨hi, hb⟩
  refine ⟨fun hlt => ⟨⟨by omega, hlt⟩, fun _ _ => ?_⟩, fun hge => ?_⟩
  · have hlt' : i < c.lanes.length := by omega
    have kf := k4 _ (mem_getD hlt')
    rw [drop_step hlt', List.flatMap_cons, lanB] at hb
    refine ⟨fit_U [(c.lanes.getD i default).regs, ((c.lanes.getD i default).code.length : Int)] hb hT (all2 kf.1 (len_i64 kf.2.2)) (by simp), fun t0 => ⟨loop_init2 (fun j => ((c.lanes.getD i default).code.drop j).flatMap i6B ++ ((c.lanes.drop (i + 1)).flatMap lanB)) (by rw [← hb]; simp only [List.drop_zero, List.append_assoc]), ?_⟩⟩
    clear hb t b
    rintro j t b ⟨hj, hb⟩
    refine ⟨fun hjl => ⟨⟨by omega, hjl⟩, fun _ _ => ?_⟩, fun hjg => ?_⟩
    · have hj' : j < (c.lanes.getD i default).code.length := by omega
      rw [drop_step hj', List.flatMap_cons, i6B] at hb
      exact ⟨fit_U [((c.lanes.getD i default).code.getD j default).a, ((c.lanes.getD i default).code.getD j default).b, ((c.lanes.getD i default).code.getD j default).c, ((c.lanes.getD i default).code.getD j default).d, ((c.lanes.getD i default).code.getD j default).e, ((c.lanes.getD i default).code.getD j default).f] hb hT (all6 (kf.2.1 _ (mem_getD hj'))) (by simp), fun t1 => loop_next2 (fun j => ((c.lanes.getD i default).code.drop j).flatMap i6B ++ ((c.lanes.drop (i + 1)).flatMap lanB)) hj' kf.2.2 (by rw [← hb]; simp only [List.append_assoc])⟩
    · have hj' : j = (c.lanes.getD i default).code.length := by omega
      rw [hj', List.drop_length, List.flatMap_nil, List.nil_append] at hb
      exact loop_next2 (fun i => (c.lanes.drop i).flatMap lanB) hlt' m4 hb
  have hi' : i = c.lanes.length := by omega
  rw [hi', List.drop_length, List.flatMap_nil, List.append_nil] at hb
  exact ⟨(t, b), hb, ⟨rfl, fun _ _ => rfl, rfl⟩, rfl⟩
end Go.Proofs.Ytoglbmhkfkghbaa
namespace Go.Proofs.Ytoglbmhkfkghbaa
open Go Go.Ab

/-! ### kernels of programs: the reference -/
def rkerAnn (k : KeD) (d : D) : Option LoopAnn :=
  match d with
  | .ref t x _ => some { slots := [3], keep := [1], α := Nat, st := fun i => ([.int .i64 i], ⟨[(t, x, .cells k.row)], []⟩), inv := fun i => i ≤ k.ops.length ∧ ∀ j, j < i → opB k.inputs j (k.ops.getD j default) = true, mu := fun i => k.ops.length - i }
  | _ => none
noncomputable def Erker (k : KeD) : Senv := { E0 con0 75 5 [31, 36, 74] (fun _ => ([], [])) with
  inl := inlD (E0 con0 0 0 [] (fun _ => ([], []))) (frmGet frames) 5
  ann := fun b env _ => match b with
    | 0 => rkerAnn k (Ab.look env 1)
    | _ => none }
theorem rker_ok (k : KeD) (h : k.ok) : ACalls Try.prog 43 (sKer.args k) (sKer.st k) (SpecR sKer k) := by
  refine con_of (A := sKer) (x := k) (E := Erker k) (eOk0 rfl) Try.func43 rfl (by kernel_rfl) rfl (by simp [sKer, Erker, E0]) ?_
  refine vc_eq (T :=
      ∀ (x : Nat), True → SM x ∧ ifB (decide (Z1 ≤ KeD.inputs k)) (True ∧ ifB (!decide (KeD.inputs k ≤ (16 : Int))) (True ∧ ∃ (y : Unit), True ∧ false = kerB k ∧ True ∧ True) (SM x ∧ ifB (decide (Z1 ≤ (LI (KeD.ops k))))
      (True ∧ ifB (!decide ((LI (KeD.ops k)) ≤ (64 : Int))) (True ∧ ∃ (y : Unit), True ∧ false = kerB k ∧ True ∧ True) (SM x ∧ ifB (decide (KeD.at_ k < Z0)) (True ∧ ∃ (y : Unit), True ∧ false = kerB k ∧ True ∧ True) (SM
      x ∧ ifB (KeD.reduce k != Z0) (SM x ∧ ifB (decide (Z1 ≤ KeD.reduce k)) (True ∧ True ∧ ifB (!decide (KeD.reduce k ≤ (55 : Int))) (True ∧ ∃ (y : Unit), True ∧ false = kerB k ∧ True ∧ True) ((∃ (x_1 : Nat), (x_1 ≤ LN
      (KeD.ops k) ∧ ∀ (j : Nat), j < x_1 → opB (KeD.inputs k) j (G4 (KeD.ops k) j) = true) ∧ (Z0 = (↑x_1 : Int) ∧ True) ∧ (SM x ∧ (SM (KeD.inputs k) ∧ (SM (LN (KeD.ops k)) ∧ (∀ (i : Nat), i < LN (KeD.ops k) → SM (R4 (G4
      (KeD.ops k) i))) ∧ True) ∧ SM (KeD.reduce k) ∧ SM (KeD.at_ k) ∧ True) ∧ True) ∧ True) ∧ ∀ (x_1 : Nat), (x_1 ≤ LN (KeD.ops k) ∧ ∀ (j : Nat), j < x_1 → opB (KeD.inputs k) j (G4 (KeD.ops k) j) = true) → SM x ∧ ifB
      (decide ((↑x_1 : Int) < (LI (KeD.ops k)))) (SM x ∧ side (Z0 ≤ (↑x_1 : Int) ∧ (↑x_1 : Int) < (LI (KeD.ops k))) (∀ (x_2 : Nat), x ≠ x_2 ∧ True → SM x_2 ∧ SM x_2 ∧ ifB (decide (Z1 ≤ I4.a (G4 (KeD.ops k) (Int.toNat
      (↑x_1 : Int))))) (True ∧ True ∧ ifB (!decide (I4.a (G4 (KeD.ops k) (Int.toNat (↑x_1 : Int))) ≤ (55 : Int))) (True ∧ ∃ (y : Unit), True ∧ false = kerB k ∧ True ∧ True) (SM x_2 ∧ SM x ∧ ifB (decide (Z0 ≤ I4.c (G4
      (KeD.ops k) (Int.toNat (↑x_1 : Int))))) (True ∧ ifB (!decide (I4.c (G4 (KeD.ops k) (Int.toNat (↑x_1 : Int))) ≤ IntKind.wrap IntKind.i64 (IntKind.wrap IntKind.i64 (KeD.inputs k + (↑x_1 : Int)) - Z1))) (True ∧ ∃ (y :
      Unit), True ∧ false = kerB k ∧ True ∧ True) (SM x_2 ∧ SM x ∧ ifB (decide ((-1 : Int) ≤ I4.b (G4 (KeD.ops k) (Int.toNat (↑x_1 : Int))))) (True ∧ ifB (!decide (I4.b (G4 (KeD.ops k) (Int.toNat (↑x_1 : Int))) ≤
      IntKind.wrap IntKind.i64 (IntKind.wrap IntKind.i64 (KeD.inputs k + (↑x_1 : Int)) - Z1))) (True ∧ ∃ (y : Unit), True ∧ false = kerB k ∧ True ∧ True) (SM x_2 ∧ ifB (decide (I4.d (G4 (KeD.ops k) (Int.toNat (↑x_1 :
      Int))) < Z0)) (True ∧ ∃ (y : Unit), True ∧ false = kerB k ∧ True ∧ True) ((SM (D.ref N0 x N0) ∧ True) ∧ ∃ (y : Nat), (y ≤ LN (KeD.ops k) ∧ ∀ (j : Nat), j < y → opB (KeD.inputs k) j (G4 (KeD.ops k) j) = true) ∧ LN
      (KeD.ops k) - y < LN (KeD.ops k) - x_1 ∧ (IntKind.wrap IntKind.i64 ((↑x_1 : Int) + Z1) = (↑y : Int) ∧ True) ∧ (SM x ∧ (SM (KeD.inputs k) ∧ (SM (LN (KeD.ops k)) ∧ (∀ (i : Nat), i < LN (KeD.ops k) → SM (R4 (G4
      (KeD.ops k) i))) ∧ True) ∧ SM (KeD.reduce k) ∧ SM (KeD.at_ k) ∧ True) ∧ True) ∧ True))) (True ∧ True ∧ ∃ (y : Unit), True ∧ false = kerB k ∧ True ∧ True))) (True ∧ True ∧ ∃ (y : Unit), True ∧ false = kerB k ∧ True
      ∧ True))) (True ∧ True ∧ True ∧ ∃ (y : Unit), True ∧ false = kerB k ∧ True ∧ True))) (True ∧ ∃ (y : Unit), True ∧ true = kerB k ∧ True ∧ True))) (True ∧ True ∧ True ∧ ∃ (y : Unit), True ∧ false = kerB k ∧ True ∧
      True)) ((∃ (x_1 : Nat), (x_1 ≤ LN (KeD.ops k) ∧ ∀ (j : Nat), j < x_1 → opB (KeD.inputs k) j (G4 (KeD.ops k) j) = true) ∧ (Z0 = (↑x_1 : Int) ∧ True) ∧ (SM x ∧ (SM (KeD.inputs k) ∧ (SM (LN (KeD.ops k)) ∧ (∀ (i :
      Nat), i < LN (KeD.ops k) → SM (R4 (G4 (KeD.ops k) i))) ∧ True) ∧ SM (KeD.reduce k) ∧ SM (KeD.at_ k) ∧ True) ∧ True) ∧ True) ∧ ∀ (x_1 : Nat), (x_1 ≤ LN (KeD.ops k) ∧ ∀ (j : Nat), j < x_1 → opB (KeD.inputs k) j (G4
      (KeD.ops k) j) = true) → SM x ∧ ifB (decide ((↑x_1 : Int) < (LI (KeD.ops k)))) (SM x ∧ side (Z0 ≤ (↑x_1 : Int) ∧ (↑x_1 : Int) < (LI (KeD.ops k))) (∀ (x_2 : Nat), x ≠ x_2 ∧ True → SM x_2 ∧ SM x_2 ∧ ifB (decide (Z1 ≤
      I4.a (G4 (KeD.ops k) (Int.toNat (↑x_1 : Int))))) (True ∧ True ∧ ifB (!decide (I4.a (G4 (KeD.ops k) (Int.toNat (↑x_1 : Int))) ≤ (55 : Int))) (True ∧ ∃ (y : Unit), True ∧ false = kerB k ∧ True ∧ True) (SM x_2 ∧ SM x
      ∧ ifB (decide (Z0 ≤ I4.c (G4 (KeD.ops k) (Int.toNat (↑x_1 : Int))))) (True ∧ ifB (!decide (I4.c (G4 (KeD.ops k) (Int.toNat (↑x_1 : Int))) ≤ IntKind.wrap IntKind.i64 (IntKind.wrap IntKind.i64 (KeD.inputs k + (↑x_1 :
      Int)) - Z1))) (True ∧ ∃ (y : Unit), True ∧ false = kerB k ∧ True ∧ True) (SM x_2 ∧ SM x ∧ ifB (decide ((-1 : Int) ≤ I4.b (G4 (KeD.ops k) (Int.toNat (↑x_1 : Int))))) (True ∧ ifB (!decide (I4.b (G4 (KeD.ops k)
      (Int.toNat (↑x_1 : Int))) ≤ IntKind.wrap IntKind.i64 (IntKind.wrap IntKind.i64 (KeD.inputs k + (↑x_1 : Int)) - Z1))) (True ∧ ∃ (y : Unit), True ∧ false = kerB k ∧ True ∧ True) (SM x_2 ∧ ifB (decide (I4.d (G4
      (KeD.ops k) (Int.toNat (↑x_1 : Int))) < Z0)) (True ∧ ∃ (y : Unit), True ∧ false = kerB k ∧ True ∧ True) ((SM (D.ref N0 x N0) ∧ True) ∧ ∃ (y : Nat), (y ≤ LN (KeD.ops k) ∧ ∀ (j : Nat), j < y → opB (KeD.inputs k) j
      (G4 (KeD.ops k) j) = true) ∧ LN (KeD.ops k) - y < LN (KeD.ops k) - x_1 ∧ (IntKind.wrap IntKind.i64 ((↑x_1 : Int) + Z1) = (↑y : Int) ∧ True) ∧ (SM x ∧ (SM (KeD.inputs k) ∧ (SM (LN (KeD.ops k)) ∧ (∀ (i : Nat), i < LN
      (KeD.ops k) → SM (R4 (G4 (KeD.ops k) i))) ∧ True) ∧ SM (KeD.reduce k) ∧ SM (KeD.at_ k) ∧ True) ∧ True) ∧ True))) (True ∧ True ∧ ∃ (y : Unit), True ∧ false = kerB k ∧ True ∧ True))) (True ∧ True ∧ ∃ (y : Unit), True
      ∧ false = kerB k ∧ True ∧ True))) (True ∧ True ∧ True ∧ ∃ (y : Unit), True ∧ false = kerB k ∧ True ∧ True))) (True ∧ ∃ (y : Unit), True ∧ true = kerB k ∧ True ∧ True))))) (True ∧ True ∧ ∃ (y : Unit), True ∧ false =
      kerB k ∧ True ∧ True))) (True ∧ True ∧ ∃ (y : Unit), True ∧ false = kerB k ∧ True ∧ True)) (by kernel_rfl) ?_
  delta D4 G4 LI LN N0 R4 SM Z0 Z1 ZI
  intro x _
  simp only [ifB_iff, side_iff, decide_eq_true_eq, decide_eq_false_iff_not, true_and, and_true, Bool.not_eq_true', Bool.not_eq_false', Int.toNat_natCast, exists_const, forall_const, bne_iff_ne, ne_eq, bne_eq_false_iff_eq]
  refine ⟨fun h1 => ⟨fun n => by simp [kerB, between, n], fun h2 => ⟨fun h3 => ⟨fun n => by simp [kerB, between]; omega, fun h4 => ⟨fun n => by simp [kerB]; omega, fun h5 => ⟨fun r0 => ⟨fun r1 => ⟨fun n => by simp [kerB, primB, between]; omega, fun r2 => ?_⟩, fun n => by simp [kerB, primB, between]; omega⟩, fun r0 => ?_⟩⟩⟩, fun n => by simp [kerB, between]; omega⟩⟩, fun n => by simp [kerB, between, n]⟩
  · have H6 : k.reduce = 0 ∨ (1 ≤ k.reduce ∧ k.reduce ≤ 55) := .inr ⟨r1, r2⟩
    refine ⟨⟨0, ⟨Nat.zero_le _, fun j hj => absurd hj (Nat.not_lt_zero j)⟩, rfl, fun _ _ => trivial⟩, fun i hi => ⟨fun hlt => ⟨⟨by omega, hlt⟩, fun y _ => ?_⟩, fun hge => ?_⟩⟩
    · have hl : i < k.ops.length := by omega
      have hw : IntKind.i64.wrap (IntKind.i64.wrap (k.inputs + (i : Int)) - 1) = k.inputs + i - 1 := by
        rw [wrap_i64' (n := k.inputs + i) (by omega) (by omega), wrap_i64' (by omega) (by omega)]
      rw [hw]
      have no : ∀ {b : Bool}, opB k.inputs i (k.ops.getD i default) = b → b = false → false = kerB k := fun h1 h2 => kerB_no hl (h1.trans h2)
      have de : (default : I4) = ⟨0, 0, 0, 0⟩ := rfl
      rw [← de] at *
      generalize hk : k.ops.getD i default = o at *
      refine ⟨fun a1 => ⟨fun a2 => no rfl (by simp [opB, primB, between]; omega), fun a2 => ⟨fun c1 => ⟨fun c2 => no rfl (by simp [opB, primB, between]; omega), fun c2 => ⟨fun b1 => ⟨fun b2 => no rfl (by simp [opB, primB, between]; omega), fun b2 => ⟨fun d1 => no rfl (by simp [opB, primB, between]; omega), fun d1 => ⟨i + 1, ⟨by omega, fun j hj => ?_⟩, by omega, wrap_i64' (by omega) (by omega), fun _ _ => trivial⟩⟩⟩, fun b1 => no rfl (by simp [opB, primB, between]; omega)⟩⟩, fun c1 => no rfl (by simp [opB, primB, between]; omega)⟩⟩, fun a1 => no rfl (by simp [opB, primB, between]; omega)⟩
      by_cases e : j = i
      · subst e; rw [hk]; simp only [opB, primB, between, Bool.and_eq_true, decide_eq_true_eq]; omega
      · exact hi.2 j (by omega)
    · exact kerB_yes h1 h2 h3 h4 h5 H6 fun j hj => hi.2 j (by omega)
  · have H6 : k.reduce = 0 ∨ (1 ≤ k.reduce ∧ k.reduce ≤ 55) := .inl r0
    refine ⟨⟨0, ⟨Nat.zero_le _, fun j hj => absurd hj (Nat.not_lt_zero j)⟩, rfl, fun _ _ => trivial⟩, fun i hi => ⟨fun hlt => ⟨⟨by omega, hlt⟩, fun y _ => ?_⟩, fun hge => ?_⟩⟩
    · have hl : i < k.ops.length := by omega
      have hw : IntKind.i64.wrap (IntKind.i64.wrap (k.inputs + (i : Int)) - 1) = k.inputs + i - 1 := by
        rw [wrap_i64' (n := k.inputs + i) (by omega) (by omega), wrap_i64' (by omega) (by omega)]
      rw [hw]
      have no : ∀ {b : Bool}, opB k.inputs i (k.ops.getD i default) = b → b = false → false = kerB k := fun h1 h2 => kerB_no hl (h1.trans h2)
      have de : (default : I4) = ⟨0, 0, 0, 0⟩ := rfl
      rw [← de] at *
      generalize hk : k.ops.getD i default = o at *
      refine ⟨fun a1 => ⟨fun a2 => no rfl (by simp [opB, primB, between]; omega), fun a2 => ⟨fun c1 => ⟨fun c2 => no rfl (by simp [opB, primB, between]; omega), fun c2 => ⟨fun b1 => ⟨fun b2 => no rfl (by simp [opB, primB, between]; omega), fun b2 => ⟨fun d1 => no rfl (by simp [opB, primB, between]; omega), fun d1 => ⟨i + 1, ⟨by omega, fun j hj => ?_⟩, by omega, wrap_i64' (by omega) (by omega), fun _ _ => trivial⟩⟩⟩, fun b1 => no rfl (by simp [opB, primB, between]; omega)⟩⟩, fun c1 => no rfl (by simp [opB, primB, between]; omega)⟩⟩, fun a1 => no rfl (by simp [opB, primB, between]; omega)⟩
      by_cases e : j = i
      · subst e; rw [hk]; simp only [opB, primB, between, Bool.and_eq_true, decide_eq_true_eq]; omega
      · exact hi.2 j (by omega)
    · exact kerB_yes h1 h2 h3 h4 h5 H6 fun j hj => hi.2 j (by omega)
end Go.Proofs.Ytoglbmhkfkghbaa
namespace Go.Proofs.Ytoglbmhkfkghbaa
open Go Go.Ab

/-! ### bytecode.Right, the reference -/
def conRu (c : CodD) : Con := fun k ds _ => match k with
  | 42 => some (sRc Arr.row (fun b => b ∈ c.consts) (fun b => .int .i64 (chkA b).1))
  | 43 => some (sKq (fun b => b ∈ c.kers) kerB)
  | 44 => match ds with
    | [_, .int .i64 z] => some (pC ds (funD (funS c z.toNat)) (weakL ds [.agg c.row, .int .i64 z.toNat] ∧ z.toNat < c.funs.length))
    | _ => none
  | _ => none
theorem conRu_ok {c : CodD} (hc : c.ok) (hs : ∀ f, f < c.funs.length → (c.funs.getD f default).code.length ≤ 65536) : ConOk Try.prog (conRu c) := by
  intro k ds S A h
  unfold conRu at h
  split at h
  · injection h with h; subst h
    exact ConOk.plain (fun b hb => sRc_row0 (q := fun _ => True) (r := errA) (sRc_row (rri_ok b (hc.1 b hb)))) rfl rfl
  · injection h with h; subst h
    exact ConOk.plain (fun b hb => (rker_ok b (hc.2.2.1 b hb)).mono fun _ _ ⟨y, h1, h2, h3⟩ => ⟨y, h1, h2, h3⟩) rfl rfl
  · split at h
    · injection h with h; subst h
      exact pC_ok fun ⟨e, hf⟩ => ⟨weakL_refl _, sC_weak e (rfun_ok c _ hf hc (hs _ hf))⟩
    · cases h
  · cases h
noncomputable def Eru (c : CodD) : Senv := { EC (conRu c) 108 10 [14, 45, 50, 59, 78, 83, 92, 97, 107] (fun _ => ([], [])) with
  ann := fun b _ S => match b with
    | 0 => some { slots := [4, 3], keep := [0, 1, 2], α := Nat × Int, st := fun y => ([.int .i64 y.1, .int .i64 y.2], S), inv := fun y => y.1 ≤ c.funs.length ∧ totI (c.funs.drop y.1) y.2 = totI c.funs 0, mu := fun y => c.funs.length - y.1 }
    | 2 => some { slots := [5], keep := [0, 1, 2], α := Nat, st := fun i => ([.int .i64 i], S), inv := fun i => IdxG (fun a => (chkA a).1 != 0) c.consts i, mu := fun i => c.consts.length - i }
    | 4 => some { slots := [6], keep := [0, 1, 2], α := Nat, st := fun i => ([.int .i64 i], S), inv := fun i => IdxG (fun a => !kerB a) c.kers i, mu := fun i => c.kers.length - i }
    | 6 => some { slots := [7], keep := [0, 1, 2], α := Nat, st := fun i => ([.int .i64 i], S), inv := fun i => i ≤ c.funs.length ∧ ∀ j, j < i → (funS c j).isSome = true, mu := fun i => c.funs.length - i }
    | _ => none }
theorem rrt_ok (c : CodD) (hc : c.ok) (hs : ∀ f, f < c.funs.length → (c.funs.getD f default).code.length ≤ 65536) : ACalls Try.prog 22 [.agg c.row] ⟨[], []⟩ (SpecR (sC [.agg c.row] (.int .i64 (rightC c))) ()) := by
  refine con_of (A := sC _ _) (x := ()) (E := Eru c) (eOk (conRu_ok hc hs) rfl) Try.func22 rfl (by kernel_rfl) rfl (by simp [sC, Eru, EC, E0]) ?_
  refine vc_eq (T :=
      ∀ (x : Nat), True → (∃ (x_1 : Nat × Int), (x_1.1 ≤ LN (CodD.funs c) ∧ totI (List.drop x_1.1 (CodD.funs c)) x_1.2 = totI (CodD.funs c) Z0) ∧ (Z0 = (NI x_1.1) ∧ Z0 = x_1.2 ∧ True) ∧ (SM x ∧ ((SM (LN (CodD.consts c))
      ∧ (∀ (i : Nat), i < LN (CodD.consts c) → SM (Arr.row (GC c i))) ∧ True) ∧ (SM (LN (CodD.funs c)) ∧ (∀ (i : Nat), i < LN (CodD.funs c) → SM [ZI (FnD.slots (GF c i)), S4 (FnD.code (GF c i))]) ∧ True) ∧ (SM (LN
      (CodD.kers c)) ∧ (∀ (i : Nat), i < LN (CodD.kers c) → SM (KeD.row (GK c i))) ∧ True) ∧ (SM (LN (CodD.lanes c)) ∧ (∀ (i : Nat), i < LN (CodD.lanes c) → SM (LaD.row (GL c i))) ∧ True) ∧ True) ∧ True) ∧ True) ∧ ∀ (x_1
      : Nat × Int), x_1.1 ≤ LN (CodD.funs c) ∧ totI (List.drop x_1.1 (CodD.funs c)) x_1.2 = totI (CodD.funs c) Z0 → SM x ∧ ifB (decide ((NI x_1.1) < (LI (CodD.funs c)))) (SM x ∧ side (Z0 ≤ (NI x_1.1) ∧ (NI x_1.1) < (LI
      (CodD.funs c))) ((SM (D.agg [D.sl N4 (LN (CodD.consts c)) (fun (i : Nat) => Arr.row (GC c i)) Mode.any, D.sl N2 (LN (CodD.funs c)) (fun (i : Nat) => [ZI (FnD.slots (GF c i)), S4 (FnD.code (GF c i))]) Mode.any, D.sl
      N4 (LN (CodD.kers c)) (fun (i : Nat) => KeD.row (GK c i)) Mode.any, D.sl N2 (LN (CodD.lanes c)) (fun (i : Nat) => LaD.row (GL c i)) Mode.any]) ∧ SM (D.ref N0 x N0) ∧ SM (ZI Z0) ∧ True) ∧ ∃ (y : Nat × Int), (y.1 ≤
      LN (CodD.funs c) ∧ totI (List.drop y.1 (CodD.funs c)) y.2 = totI (CodD.funs c) Z0) ∧ LN (CodD.funs c) - y.1 < LN (CodD.funs c) - x_1.1 ∧ (IntKind.wrap IntKind.i64 ((NI x_1.1) + Z1) = (NI y.1) ∧ IntKind.wrap
      IntKind.i64 (x_1.2 + (LI (FnD.code (GF c (TN x_1.1))))) = y.2 ∧ True) ∧ (SM x ∧ ((SM (LN (CodD.consts c)) ∧ (∀ (i : Nat), i < LN (CodD.consts c) → SM (Arr.row (GC c i))) ∧ True) ∧ (SM (LN (CodD.funs c)) ∧ (∀ (i :
      Nat), i < LN (CodD.funs c) → SM [ZI (FnD.slots (GF c i)), S4 (FnD.code (GF c i))]) ∧ True) ∧ (SM (LN (CodD.kers c)) ∧ (∀ (i : Nat), i < LN (CodD.kers c) → SM (KeD.row (GK c i))) ∧ True) ∧ (SM (LN (CodD.lanes c)) ∧
      (∀ (i : Nat), i < LN (CodD.lanes c) → SM (LaD.row (GL c i))) ∧ True) ∧ True) ∧ True) ∧ True)) ((SM x ∧ ifB (decide ((1024 : Int) < (LI (CodD.funs c)))) ((true = bif bif bif decide ((1024 : Int) < (LI (CodD.funs
      c))) then true else decide ((65536 : Int) < x_1.2) then true else decide ((65536 : Int) < (LI (CodD.consts c))) then true else decide ((4096 : Int) < (LI (CodD.kers c)))) ∧ True) (ifB (decide ((65536 : Int) <
      x_1.2)) ((true = bif bif bif decide ((1024 : Int) < (LI (CodD.funs c))) then true else decide ((65536 : Int) < x_1.2) then true else decide ((65536 : Int) < (LI (CodD.consts c))) then true else decide ((4096 : Int)
      < (LI (CodD.kers c)))) ∧ True) (SM x ∧ ifB (decide ((65536 : Int) < (LI (CodD.consts c)))) ((true = bif bif bif decide ((1024 : Int) < (LI (CodD.funs c))) then true else decide ((65536 : Int) < x_1.2) then true
      else decide ((65536 : Int) < (LI (CodD.consts c))) then true else decide ((4096 : Int) < (LI (CodD.kers c)))) ∧ True) (SM x ∧ (decide ((4096 : Int) < (LI (CodD.kers c))) = bif bif bif decide ((1024 : Int) < (LI
      (CodD.funs c))) then true else decide ((65536 : Int) < x_1.2) then true else decide ((65536 : Int) < (LI (CodD.consts c))) then true else decide ((4096 : Int) < (LI (CodD.kers c)))) ∧ True)))) ∧ ifB (bif bif bif
      decide ((1024 : Int) < (LI (CodD.funs c))) then true else decide ((65536 : Int) < x_1.2) then true else decide ((65536 : Int) < (LI (CodD.consts c))) then true else decide ((4096 : Int) < (LI (CodD.kers c)))) (True
      ∧ ∃ (y : Unit), True ∧ (21 : Int) = rightC c ∧ True ∧ True) ((∃ (x_2 : Nat), IdxG (fun (a : Arr) => Prod.fst (chkA a) != Z0) (CodD.consts c) x_2 ∧ (Z0 = (↑x_2 : Int) ∧ True) ∧ (SM x ∧ ((SM (LN (CodD.consts c)) ∧ (∀
      (i : Nat), i < LN (CodD.consts c) → SM (Arr.row (GC c i))) ∧ True) ∧ (SM (LN (CodD.funs c)) ∧ (∀ (i : Nat), i < LN (CodD.funs c) → SM [ZI (FnD.slots (GF c i)), S4 (FnD.code (GF c i))]) ∧ True) ∧ (SM (LN (CodD.kers
      c)) ∧ (∀ (i : Nat), i < LN (CodD.kers c) → SM (KeD.row (GK c i))) ∧ True) ∧ (SM (LN (CodD.lanes c)) ∧ (∀ (i : Nat), i < LN (CodD.lanes c) → SM (LaD.row (GL c i))) ∧ True) ∧ True) ∧ True) ∧ True) ∧ ∀ (x_2 : Nat),
      IdxG (fun (a : Arr) => Prod.fst (chkA a) != Z0) (CodD.consts c) x_2 → SM x ∧ ifB (decide ((↑x_2 : Int) < (LI (CodD.consts c)))) (SM x ∧ side (Z0 ≤ (↑x_2 : Int) ∧ (↑x_2 : Int) < (LI (CodD.consts c))) (side (N4 ≤ LN
      (Arr.row (GC c (Int.toNat (↑x_2 : Int))))) (∃ (x_3 : Arr), (weakL (List.take N4 (List.drop N0 (Arr.row (GC c (Int.toNat (↑x_2 : Int)))))) (Arr.row x_3) ∧ True) ∧ (True ∧ True) ∧ x_3 ∈ CodD.consts c ∧ ∀ (y : Unit),
      True → ifB (Prod.fst (chkA x_3) != Z0) (True ∧ ∃ (y : Unit), True ∧ Z1 = rightC c ∧ True ∧ True) ((SM (D.agg [D.sl N4 (LN (CodD.consts c)) (fun (i : Nat) => Arr.row (GC c i)) Mode.any, D.sl N2 (LN (CodD.funs c))
      (fun (i : Nat) => [ZI (FnD.slots (GF c i)), S4 (FnD.code (GF c i))]) Mode.any, D.sl N4 (LN (CodD.kers c)) (fun (i : Nat) => KeD.row (GK c i)) Mode.any, D.sl N2 (LN (CodD.lanes c)) (fun (i : Nat) => LaD.row (GL c
      i)) Mode.any]) ∧ SM (D.ref N0 x N0) ∧ SM (ZI Z0) ∧ True) ∧ ∃ (y : Nat), IdxG (fun (a : Arr) => Prod.fst (chkA a) != Z0) (CodD.consts c) y ∧ LN (CodD.consts c) - y < LN (CodD.consts c) - x_2 ∧ (IntKind.wrap
      IntKind.i64 ((↑x_2 : Int) + Z1) = (↑y : Int) ∧ True) ∧ (SM x ∧ ((SM (LN (CodD.consts c)) ∧ (∀ (i : Nat), i < LN (CodD.consts c) → SM (Arr.row (GC c i))) ∧ True) ∧ (SM (LN (CodD.funs c)) ∧ (∀ (i : Nat), i < LN
      (CodD.funs c) → SM [ZI (FnD.slots (GF c i)), S4 (FnD.code (GF c i))]) ∧ True) ∧ (SM (LN (CodD.kers c)) ∧ (∀ (i : Nat), i < LN (CodD.kers c) → SM (KeD.row (GK c i))) ∧ True) ∧ (SM (LN (CodD.lanes c)) ∧ (∀ (i : Nat),
      i < LN (CodD.lanes c) → SM (LaD.row (GL c i))) ∧ True) ∧ True) ∧ True) ∧ True)))) ((SM x ∧ ifB ((LI (CodD.funs c)) == Z0) ((true = bif (LI (CodD.funs c)) == Z0 then true else bif (LI (CodD.lanes c)) != Z0 then (LI
      (CodD.lanes c)) != (LI (CodD.kers c)) else false) ∧ True) (SM x ∧ ifB ((LI (CodD.lanes c)) != Z0) (SM x ∧ SM x ∧ (((LI (CodD.lanes c)) != (LI (CodD.kers c))) = bif (LI (CodD.funs c)) == Z0 then true else bif (LI
      (CodD.lanes c)) != Z0 then (LI (CodD.lanes c)) != (LI (CodD.kers c)) else false) ∧ True) ((false = bif (LI (CodD.funs c)) == Z0 then true else bif (LI (CodD.lanes c)) != Z0 then (LI (CodD.lanes c)) != (LI
      (CodD.kers c)) else false) ∧ True))) ∧ ifB (bif (LI (CodD.funs c)) == Z0 then true else bif (LI (CodD.lanes c)) != Z0 then (LI (CodD.lanes c)) != (LI (CodD.kers c)) else false) (True ∧ ∃ (y : Unit), True ∧ (26 :
      Int) = rightC c ∧ True ∧ True) ((∃ (x_3 : Nat), IdxG (fun (a : KeD) => !kerB a) (CodD.kers c) x_3 ∧ (Z0 = (↑x_3 : Int) ∧ True) ∧ (SM x ∧ ((SM (LN (CodD.consts c)) ∧ (∀ (i : Nat), i < LN (CodD.consts c) → SM
      (Arr.row (GC c i))) ∧ True) ∧ (SM (LN (CodD.funs c)) ∧ (∀ (i : Nat), i < LN (CodD.funs c) → SM [ZI (FnD.slots (GF c i)), S4 (FnD.code (GF c i))]) ∧ True) ∧ (SM (LN (CodD.kers c)) ∧ (∀ (i : Nat), i < LN (CodD.kers
      c) → SM (KeD.row (GK c i))) ∧ True) ∧ (SM (LN (CodD.lanes c)) ∧ (∀ (i : Nat), i < LN (CodD.lanes c) → SM (LaD.row (GL c i))) ∧ True) ∧ True) ∧ True) ∧ True) ∧ ∀ (x_3 : Nat), IdxG (fun (a : KeD) => !kerB a)
      (CodD.kers c) x_3 → SM x ∧ ifB (decide ((↑x_3 : Int) < (LI (CodD.kers c)))) (SM x ∧ side (Z0 ≤ (↑x_3 : Int) ∧ (↑x_3 : Int) < (LI (CodD.kers c))) (∃ (x_4 : KeD), ((KeD.inputs (GK c (Int.toNat (↑x_3 : Int))) =
      KeD.inputs x_4 ∧ (LN (KeD.ops (GK c (Int.toNat (↑x_3 : Int)))) = LN (KeD.ops x_4) ∧ (∀ (i : Nat), i < LN (KeD.ops (GK c (Int.toNat (↑x_3 : Int)))) → (R4 (G4 (KeD.ops (GK c (Int.toNat (↑x_3 : Int)))) i)) = (R4 (G4
      (KeD.ops x_4) i))) ∧ True) ∧ KeD.reduce (GK c (Int.toNat (↑x_3 : Int))) = KeD.reduce x_4 ∧ KeD.at_ (GK c (Int.toNat (↑x_3 : Int))) = KeD.at_ x_4 ∧ True) ∧ True) ∧ (True ∧ True) ∧ x_4 ∈ CodD.kers c ∧ ∀ (y : Unit),
      True → ifB (!kerB x_4) (True ∧ ∃ (y : Unit), True ∧ (26 : Int) = rightC c ∧ True ∧ True) ((SM (D.agg [D.sl N4 (LN (CodD.consts c)) (fun (i : Nat) => Arr.row (GC c i)) Mode.any, D.sl N2 (LN (CodD.funs c)) (fun (i :
      Nat) => [ZI (FnD.slots (GF c i)), S4 (FnD.code (GF c i))]) Mode.any, D.sl N4 (LN (CodD.kers c)) (fun (i : Nat) => KeD.row (GK c i)) Mode.any, D.sl N2 (LN (CodD.lanes c)) (fun (i : Nat) => LaD.row (GL c i))
      Mode.any]) ∧ SM (D.ref N0 x N0) ∧ SM (ZI Z0) ∧ True) ∧ ∃ (y : Nat), IdxG (fun (a : KeD) => !kerB a) (CodD.kers c) y ∧ LN (CodD.kers c) - y < LN (CodD.kers c) - x_3 ∧ (IntKind.wrap IntKind.i64 ((↑x_3 : Int) + Z1) =
      (↑y : Int) ∧ True) ∧ (SM x ∧ ((SM (LN (CodD.consts c)) ∧ (∀ (i : Nat), i < LN (CodD.consts c) → SM (Arr.row (GC c i))) ∧ True) ∧ (SM (LN (CodD.funs c)) ∧ (∀ (i : Nat), i < LN (CodD.funs c) → SM [ZI (FnD.slots (GF c
      i)), S4 (FnD.code (GF c i))]) ∧ True) ∧ (SM (LN (CodD.kers c)) ∧ (∀ (i : Nat), i < LN (CodD.kers c) → SM (KeD.row (GK c i))) ∧ True) ∧ (SM (LN (CodD.lanes c)) ∧ (∀ (i : Nat), i < LN (CodD.lanes c) → SM (LaD.row (GL
      c i))) ∧ True) ∧ True) ∧ True) ∧ True))) ((∃ (x_4 : Nat), (x_4 ≤ LN (CodD.funs c) ∧ ∀ (j : Nat), j < x_4 → Option.isSome (funS c j) = true) ∧ (Z0 = (↑x_4 : Int) ∧ True) ∧ (SM x ∧ ((SM (LN (CodD.consts c)) ∧ (∀ (i :
      Nat), i < LN (CodD.consts c) → SM (Arr.row (GC c i))) ∧ True) ∧ (SM (LN (CodD.funs c)) ∧ (∀ (i : Nat), i < LN (CodD.funs c) → SM [ZI (FnD.slots (GF c i)), S4 (FnD.code (GF c i))]) ∧ True) ∧ (SM (LN (CodD.kers c)) ∧
      (∀ (i : Nat), i < LN (CodD.kers c) → SM (KeD.row (GK c i))) ∧ True) ∧ (SM (LN (CodD.lanes c)) ∧ (∀ (i : Nat), i < LN (CodD.lanes c) → SM (LaD.row (GL c i))) ∧ True) ∧ True) ∧ True) ∧ True) ∧ ∀ (x_4 : Nat), (x_4 ≤
      LN (CodD.funs c) ∧ ∀ (j : Nat), j < x_4 → Option.isSome (funS c j) = true) → SM x ∧ ifB (decide ((↑x_4 : Int) < (LI (CodD.funs c)))) (SM x ∧ ((((SM (LN (CodD.consts c)) ∧ (∀ (i : Nat), i < LN (CodD.consts c) → SM
      (Arr.row (GC c i))) ∧ True) ∧ (SM (LN (CodD.funs c)) ∧ (∀ (i : Nat), i < LN (CodD.funs c) → SM [ZI (FnD.slots (GF c i)), S4 (FnD.code (GF c i))]) ∧ True) ∧ (SM (LN (CodD.kers c)) ∧ (∀ (i : Nat), i < LN (CodD.kers
      c) → SM (KeD.row (GK c i))) ∧ True) ∧ (SM (LN (CodD.lanes c)) ∧ (∀ (i : Nat), i < LN (CodD.lanes c) → SM (LaD.row (GL c i))) ∧ True) ∧ True) ∧ (↑x_4 : Int) = (NI (Int.toNat (↑x_4 : Int))) ∧ True) ∧ Int.toNat (↑x_4
      : Int) < LN (CodD.funs c)) ∧ ∀ (y : Unit), True → ifB (!Option.isSome (funS c (Int.toNat (↑x_4 : Int)))) (True ∧ ∃ (y : Unit), True ∧ (26 : Int) = rightC c ∧ True ∧ True) ((SM (D.agg [D.sl N4 (LN (CodD.consts c))
      (fun (i : Nat) => Arr.row (GC c i)) Mode.any, D.sl N2 (LN (CodD.funs c)) (fun (i : Nat) => [ZI (FnD.slots (GF c i)), S4 (FnD.code (GF c i))]) Mode.any, D.sl N4 (LN (CodD.kers c)) (fun (i : Nat) => KeD.row (GK c i))
      Mode.any, D.sl N2 (LN (CodD.lanes c)) (fun (i : Nat) => LaD.row (GL c i)) Mode.any]) ∧ SM (D.ref N0 x N0) ∧ SM (ZI Z0) ∧ True) ∧ ∃ (y : Nat), (y ≤ LN (CodD.funs c) ∧ ∀ (j : Nat), j < y → Option.isSome (funS c j) =
      true) ∧ LN (CodD.funs c) - y < LN (CodD.funs c) - x_4 ∧ (IntKind.wrap IntKind.i64 ((↑x_4 : Int) + Z1) = (↑y : Int) ∧ True) ∧ (SM x ∧ ((SM (LN (CodD.consts c)) ∧ (∀ (i : Nat), i < LN (CodD.consts c) → SM (Arr.row
      (GC c i))) ∧ True) ∧ (SM (LN (CodD.funs c)) ∧ (∀ (i : Nat), i < LN (CodD.funs c) → SM [ZI (FnD.slots (GF c i)), S4 (FnD.code (GF c i))]) ∧ True) ∧ (SM (LN (CodD.kers c)) ∧ (∀ (i : Nat), i < LN (CodD.kers c) → SM
      (KeD.row (GK c i))) ∧ True) ∧ (SM (LN (CodD.lanes c)) ∧ (∀ (i : Nat), i < LN (CodD.lanes c) → SM (LaD.row (GL c i))) ∧ True) ∧ True) ∧ True) ∧ True)) (True ∧ ∃ (y : Unit), True ∧ Z0 = rightC c ∧ True ∧ True))))))) (by kernel_rfl) ?_
  delta D4 DA DF DK DL G4 GC GF GK GL LI LN N0 N2 N4 NI R4 S4 SM TN Z0 Z1 ZI
  intro x _
  simp only [eq_self, ne_eq, implies_true, weakL_refl, Int.toNat_natCast, ifB_iff, side_iff, decide_eq_true_eq, decide_eq_false_iff_not, true_and, and_true, beq_iff_eq, Bool.cond_false_right, Bool.cond_true_left, Bool.and_eq_true, Bool.and_eq_false_iff, Bool.or_eq_true, Bool.or_eq_false_iff, beq_eq_false_iff_ne, exists_const, forall_const]
  have hfl : c.funs.length ≤ maxLen := hc.2.2.2.2.2.1
  have hcl : c.consts.length ≤ maxLen := hc.2.2.2.2.1
  have hkl : c.kers.length ≤ maxLen := hc.2.2.2.2.2.2.1
  simp only [maxLen] at hfl hcl hkl
  have da : (default : Arr) = Arr.mk 0 [] [] [] := rfl
  rw [← da]
  refine ⟨⟨(0, 0), ⟨Nat.zero_le _, rfl⟩, rfl, rfl⟩, ?_⟩
  rintro ⟨i, t⟩ ⟨hi, ht⟩
  simp only at hi ht ⊢
  refine ⟨fun hlt => ⟨⟨by omega, hlt⟩, ?_⟩, fun hge => ?_⟩
  · have hlt' : i < c.funs.length := by omega
    rw [drop_step hlt', totI] at ht
    exact ⟨(i + 1, _), ⟨by simp only; omega, ht⟩, by simp only; omega, wrap_i64' (by omega) (by omega), rfl⟩
  have hi' : i = c.funs.length := by omega
  rw [hi', List.drop_length, totI] at ht
  rw [ht]
  refine ⟨⟨fun h => by simp [h], fun h => ⟨fun h2 => by simp [h2], fun h2 => ⟨fun h3 => by simp [h3], fun h3 => by simp [h, h2, h3]⟩⟩⟩, fun h => ?_, fun h => ⟨⟨0, ⟨Nat.zero_le _, by simp⟩, rfl⟩, fun a ha => ⟨fun al => ⟨⟨by omega, al⟩, ?_⟩, fun ag => ?_⟩⟩⟩
  · unfold rightC; rw [if_pos (by omega)]
  · have al' : a < c.consts.length := by omega
    have r4 := row_four (c.consts.getD a default)
    obtain ⟨s1, s2⟩ := ha.step al'
    refine ⟨Nat.le_of_eq r4.symm, c.consts.getD a default, ?_, mem_getD al', fun e => ?_, fun e => ⟨a + 1, s2 e, by omega, wrap_i64' (by omega) (by omega)⟩⟩
    · rw [List.drop_zero, List.take_of_length_le (Nat.le_of_eq r4)]
      exact weakL_refl _
    · have h1 : (c.consts.any fun a => (chkA a).1 != 0) = true := List.any_eq_true.2 ⟨_, mem_getD al', e⟩
      unfold rightC; rw [if_neg (by omega), if_pos h1]
  have h1 : (c.consts.any fun a => (chkA a).1 != 0) = false := by
    rw [← idxG_any _ _ 0 (Int.le_refl _), ha.done ag]; rfl
  refine ⟨⟨fun h2 => by simp [h2], fun h2 => ⟨fun h3 => by rw [h3, beq_eq_false_iff_ne.2 h2]; rfl, fun h3 => by rw [h3, beq_eq_false_iff_ne.2 h2]; rfl⟩⟩, fun h2 => ?_, fun h2 => ⟨⟨0, ⟨Nat.zero_le _, by simp⟩, rfl⟩, fun b hb => ⟨fun bl => ⟨⟨by omega, bl⟩, ?_⟩, fun bg => ?_⟩⟩⟩
  · simp only [bne_iff_ne, ne_eq] at h2
    unfold rightC; rw [if_neg (by omega), if_neg (by rw [h1]; exact Bool.false_ne_true), if_pos (by omega)]
  · have bl' : b < c.kers.length := by omega
    obtain ⟨s1, s2⟩ := hb.step bl'
    refine ⟨c.kers.getD b default, ⟨rfl, ⟨rfl, fun _ _ => rfl⟩, rfl, rfl⟩, mem_getD bl', fun e => ?_, fun e => ⟨b + 1, s2 e, by omega, wrap_i64' (by omega) (by omega)⟩⟩
    have h3 : (c.kers.any fun a => !kerB a) = true := List.any_eq_true.2 ⟨_, mem_getD bl', e⟩
    simp only [bne_eq_false_iff_eq] at h2
    unfold rightC; rw [if_neg (by omega), if_neg (by rw [h1]; exact Bool.false_ne_true), if_neg (by omega), if_pos h3]
  have h3 : (c.kers.any fun a => !kerB a) = false := by
    rw [← idxG_any _ _ 0 (Int.le_refl _), hb.done bg]; rfl
  simp only [bne_eq_false_iff_eq] at h2
  refine ⟨⟨0, ⟨Nat.zero_le _, fun j hj => absurd hj (Nat.not_lt_zero j)⟩, rfl⟩, fun j hj => ⟨fun hl => ⟨by omega, fun e => ?_, fun e => ⟨j + 1, ⟨by omega, fun k hk => ?_⟩, by omega, wrap_i64' (by omega) (by omega)⟩⟩, fun hg => ?_⟩⟩
  · have hj' : j < c.funs.length := by omega
    have e' : (funS c j).isSome = false := by simpa using e
    have hall : ¬ ((List.range c.funs.length).all fun f => (funS c f).isSome) = true := by
      rw [List.all_eq_true]
      intro hh
      have := hh j (List.mem_range.2 hj')
      rw [e'] at this; cases this
    unfold rightC; rw [if_neg (by omega), if_neg (by rw [h1]; exact Bool.false_ne_true), if_neg (by omega), if_neg (by rw [h3]; exact Bool.false_ne_true), if_neg hall]
  · have e' : (funS c j).isSome = true := by simpa using e
    by_cases hk' : k = j
    · rw [hk']; exact e'
    · exact hj.2 k (by omega)
  · have hall : ((List.range c.funs.length).all fun f => (funS c f).isSome) = true := by
      rw [List.all_eq_true]
      intro f hf
      exact hj.2 f (by have := List.mem_range.1 hf; omega)
    unfold rightC; rw [if_neg (by omega), if_neg (by rw [h1]; exact Bool.false_ne_true), if_neg (by omega), if_neg (by rw [h3]; exact Bool.false_ne_true), if_pos hall]
end Go.Proofs.Ytoglbmhkfkghbaa
namespace Go.Proofs.Ytoglbmhkfkghbaa
open Go Go.Ab
set_option maxRecDepth 100000

/-! ### the reference's Sealed and Put -/
theorem app_gen {n : Nat} {l r : List UInt8} {F G : Nat → List D} (hn : n = l.length) (hF : ∀ i, i < n → F i = [D.int .u8 ((l.getD i 0).toNat : Int)]) (hG : ∀ i, i < r.length → G i = [D.int .u8 ((r.getD i 0).toNat : Int)]) :
    ∀ i, i < n + r.length → appF n F G i = [D.int .u8 (((l ++ r).getD i 0).toNat : Int)] := by
  intro i hi
  subst hn
  rw [← app_bsl l r hi]
  simp only [appF]
  split
  · exact hF i (by assumption)
  · exact hG _ (by omega)
theorem bytesOf_eq {n : Nat} {l : List UInt8} {F : Nat → List D} (hn : n = l.length) (hF : ∀ i, i < n → F i = [D.int .u8 ((l.getD i 0).toNat : Int)]) : bytesOf n F = l := by
  subst hn
  conv => rhs; rw [← bytesOf_bsl l]
  unfold bytesOf
  exact List.map_congr_left fun i hi => by rw [hF i (List.mem_range.1 hi)]
theorem rowsB_eq {n : Nat} {l : List UInt8} {F : Nat → List D} (hn : n = l.length) (hF : ∀ i, i < n → F i = [D.int .u8 ((l.getD i 0).toNat : Int)]) : rowsB n F = true := by
  subst hn
  have h := rowsB_bsl l
  simp only [rowsB, List.all_eq_true, List.mem_range] at h ⊢
  intro i hi
  rw [hF i hi]; exact h i hi
noncomputable def Esl : Senv := EC conS 25 1 [2, 3, 4] (fun _ => ([], []))
theorem sl_ok (l : List UInt8) (m : Ab.Mode) (hl : l.length ≤ 70368744177664) : ACalls Try.prog 18 [bsl l m] ⟨[], []⟩ (SpecR (sC [bsl l m] (bsl (sealB l) .any)) ()) := by
  refine con_of (A := sC _ _) (x := ()) (E := Esl) (eOk conS_ok rfl) Try.func18 rfl (by kernel_rfl) rfl (by simp [sC, Esl, EC, E0]) ?_
  refine vc_eq (T :=
      True ∧ side ((N4 + LN l) * N1 ≤ (140737488355328 : Nat) ∧ N4 + LN l ≤ (9223372036854775807 : Nat)) (∀ (t : Nat), (rowsB (N4 + LN l) (appF N4 (fun (i : Nat) => List.getD [[ZB (65 : Int)], [ZB (76 : Int)], [ZB (67 :
      Int)], [ZB (49 : Int)]] i []) fun (i : Nat) => [ZB (BI l i)]) = true ∧ LN (bytesOf (N4 + LN l) (appF N4 (fun (i : Nat) => List.getD [[ZB (65 : Int)], [ZB (76 : Int)], [ZB (67 : Int)], [ZB (49 : Int)]] i []) fun (i
      : Nat) => [ZB (BI l i)])) ≤ (9223372036854775807 : Nat)) ∧ ∀ (y : Unit), True → SM t ∧ side ((N4 + LN l + N4) * N1 ≤ (140737488355328 : Nat) ∧ N4 + LN l + N4 ≤ (9223372036854775807 : Nat)) (∀ (t : Nat), True ∧ ∃ (y
      : Unit), True ∧ (N4 + LN l + N4 = LN (sealB l) ∧ (∀ (i : Nat), i < N4 + LN l + N4 → appF (N4 + LN l) (appF N4 (fun (i : Nat) => List.getD [[ZB (65 : Int)], [ZB (76 : Int)], [ZB (67 : Int)], [ZB (49 : Int)]] i [])
      fun (i : Nat) => [ZB (BI l i)]) (fun (i : Nat) => List.getD [[ZB (IntKind.wrap IntKind.u8 (Int.fdiv (NI (sumN (bytesOf (N4 + LN l) (appF N4 (fun (i : Nat) => List.getD [[ZB (65 : Int)], [ZB (76 : Int)], [ZB (67 :
      Int)], [ZB (49 : Int)]] i []) fun (i : Nat) => [ZB (BI l i)])))) (16777216 : Int)))], [ZB (IntKind.wrap IntKind.u8 (Int.fdiv (NI (sumN (bytesOf (N4 + LN l) (appF N4 (fun (i : Nat) => List.getD [[ZB (65 : Int)], [ZB
      (76 : Int)], [ZB (67 : Int)], [ZB (49 : Int)]] i []) fun (i : Nat) => [ZB (BI l i)])))) (65536 : Int)))], [ZB (IntKind.wrap IntKind.u8 (Int.fdiv (NI (sumN (bytesOf (N4 + LN l) (appF N4 (fun (i : Nat) => List.getD
      [[ZB (65 : Int)], [ZB (76 : Int)], [ZB (67 : Int)], [ZB (49 : Int)]] i []) fun (i : Nat) => [ZB (BI l i)])))) (256 : Int)))], [ZB (IntKind.wrap IntKind.u8 (NI (sumN (bytesOf (N4 + LN l) (appF N4 (fun (i : Nat) =>
      List.getD [[ZB (65 : Int)], [ZB (76 : Int)], [ZB (67 : Int)], [ZB (49 : Int)]] i []) fun (i : Nat) => [ZB (BI l i)])))))]] i []) i = [ZB (BI (sealB l) i)]) ∧ True) ∧ True ∧ True))) (by kernel_rfl) ?_
  delta BI LN N1 N4 NI SM U0 ZB
  simp only [eq_self, ne_eq, implies_true, weakL_refl, Int.toNat_natCast, ifB_iff, side_iff, decide_eq_true_eq, decide_eq_false_iff_not, true_and, and_true, beq_iff_eq, exists_const, forall_const, Prod.forall, forall_eq, bytesOf_bsl, rowsB_bsl]
  have h4 : ∀ i, i < 4 → ([[D.int .u8 65], [D.int .u8 76], [D.int .u8 67], [D.int .u8 49]] : List (List D)).getD i [] = [D.int .u8 (((([65, 76, 67, 49] : List UInt8).getD i 0).toNat : Nat) : Int)] := rows_eq (by kernel_rfl)
  have hF := app_gen (n := 4) (l := [65, 76, 67, 49]) (r := l) rfl h4 (fun i _ => rfl)
  have hb := bytesOf_eq (n := 4 + l.length) (l := [65, 76, 67, 49] ++ l) (by simp; omega) hF
  have hr := rowsB_eq (n := 4 + l.length) (l := [65, 76, 67, 49] ++ l) (by simp; omega) hF
  have hL : ([65, 76, 67, 49] ++ l : List UInt8).length = 4 + l.length := by simp; omega
  have hsl : (sealB l).length = 4 + l.length + 4 := by simp [sealB, sumB]; omega
  rw [hb, hr, hL, hsl]
  refine ⟨by omega, ⟨rfl, by omega⟩, by omega, rfl, ?_⟩
  refine app_gen (n := 4 + l.length) (r := sumB (sumN ([65, 76, 67, 49] ++ l))) hL.symm hF ?_
  intro i hi
  have hi : i < 4 := hi
  match i, hi with
  | 0, _ => simp only [List.getD_cons_zero, sumB]; exact congrArg (fun z => [D.int .u8 z]) (wrapD _ 16777216)
  | 1, _ => simp only [List.getD_cons_zero, List.getD_cons_succ, sumB]; exact congrArg (fun z => [D.int .u8 z]) (wrapD _ 65536)
  | 2, _ => simp only [List.getD_cons_zero, List.getD_cons_succ, sumB]; exact congrArg (fun z => [D.int .u8 z]) (wrapD _ 256)
  | 3, _ =>
    simp only [List.getD_cons_zero, List.getD_cons_succ, sumB]
    rw [IntKind.wrap_u8, UInt8.toNat_ofNat']
    congr 2
    try omega
def conSl : Con := fun k ds S => match k with
  | 18 => match ds with
    | [.sl 1 n f m] => some (pC [bsl (bytesOf n f) m] (bsl (sealB (bytesOf n f)) .any) (rowsB n f = true ∧ n ≤ 70368744177664))
    | _ => none
  | k => conS k ds S
theorem conSl_ok : ConOk Try.prog conSl := by
  intro k ds S A h
  unfold conSl at h
  split at h
  · split at h
    · rename_i n f m
      injection h with h; subst h
      refine pC_ok fun e => ⟨⟨bsl_weak e.1, trivial⟩, sl_ok _ _ (by simpa [bytesOf] using e.2)⟩
    · cases h
  · exact conS_ok _ _ _ _ h
def sBd' (c : CodD) (row : List D) (p : Prop) : FnSpec := { sBd c row with pre := fun _ => p }
def conRp (c : CodD) : Con := fun k ds S => match k with
  | 22 => some (pC ds (.int .i64 (rightC c)) (weakL ds [.agg c.row]))
  | 23 => some (sBd' c c.row ((codeB c).length ≤ 35184372088832 ∧ ∀ a ∈ c.consts, 10 * szA a ≤ 35184372088832))
  | k => conSl k ds S
theorem conRp_ok {c : CodD} (hc : c.ok) (hs : ∀ f, f < c.funs.length → (c.funs.getD f default).code.length ≤ 65536) : ConOk Try.prog (conRp c) := by
  intro k ds S A h
  unfold conRp at h
  split at h
  · injection h with h; subst h
    exact pC_ok fun e => ⟨weakL_refl _, sC_weak e (rrt_ok c hc hs)⟩
  · injection h with h; subst h
    refine ConOk.plain (fun b hb => ?_) rfl rfl
    show ACalls Try.prog 23 [.agg c.row] ⟨[], []⟩ _
    refine ((bd_ok c hc hb.1 hb.2).wkArgs ?_).mono fun _ _ ⟨y, h1, h2, h3⟩ => ⟨y, h1, h2, h3⟩
    simp only [wkL, wkD]
    exact ⟨code_wk c, trivial⟩
  · exact conSl_ok _ _ _ _ h
noncomputable def Erp (c : CodD) : Senv := EC (conRp c) 18 6 [9, 16] (fun _ => ([], []))
theorem rp_ok (c : CodD) (hc : c.ok) (hs : ∀ f, f < c.funs.length → (c.funs.getD f default).code.length ≤ 65536) (hz : rightC c = 0 → szOk c) :
    ACalls Try.prog 14 [.agg c.row] ⟨[], []⟩ (SpecR (sC [.agg c.row] (.tup [bsl (putL c) .any, .int .i64 (putE c)])) ()) := by
  refine con_of (A := sC _ _) (x := ()) (E := Erp c) (eOk (conRp_ok hc hs) rfl) Try.func14 rfl (by kernel_rfl) rfl (by simp [sC, Erp, EC, E0]) ?_
  refine vc_eq (T :=
      ∀ (x : Nat), True → SM x ∧ (((SM (LN (CodD.consts c)) ∧ (∀ (i : Nat), i < LN (CodD.consts c) → SM (Arr.row (GC c i))) ∧ True) ∧ (SM (LN (CodD.funs c)) ∧ (∀ (i : Nat), i < LN (CodD.funs c) → SM [ZI (FnD.slots (GF c
      i)), S4 (FnD.code (GF c i))]) ∧ True) ∧ (SM (LN (CodD.kers c)) ∧ (∀ (i : Nat), i < LN (CodD.kers c) → SM [ZI (KeD.inputs (GK c i)), S4 (KeD.ops (GK c i)), ZI (KeD.reduce (GK c i)), ZI (KeD.at_ (GK c i))]) ∧ True) ∧
      (SM (LN (CodD.lanes c)) ∧ (∀ (i : Nat), i < LN (CodD.lanes c) → SM [ZI (LaD.regs (GL c i)), S6 (LaD.code (GL c i))]) ∧ True) ∧ True) ∧ True) ∧ ∀ (y : Unit), True → ifB (rightC c != Z0) (True ∧ ∃ (y : Unit), True ∧
      ((N0 = LN (putL c) ∧ (∀ (i : Nat), i < N0 → eqOf (List D) [] [ZB (BI (putL c) i)]) ∧ True) ∧ rightC c = putE c ∧ True) ∧ True ∧ True) (SM x ∧ ∃ (x : Unit), (((SM (LN (CodD.consts c)) ∧ (∀ (i : Nat), i < LN
      (CodD.consts c) → SM (Arr.row (GC c i))) ∧ True) ∧ (SM (LN (CodD.funs c)) ∧ (∀ (i : Nat), i < LN (CodD.funs c) → SM [ZI (FnD.slots (GF c i)), S4 (FnD.code (GF c i))]) ∧ True) ∧ (SM (LN (CodD.kers c)) ∧ (∀ (i :
      Nat), i < LN (CodD.kers c) → SM [ZI (KeD.inputs (GK c i)), S4 (KeD.ops (GK c i)), ZI (KeD.reduce (GK c i)), ZI (KeD.at_ (GK c i))]) ∧ True) ∧ (SM (LN (CodD.lanes c)) ∧ (∀ (i : Nat), i < LN (CodD.lanes c) → SM [ZI
      (LaD.regs (GL c i)), S6 (LaD.code (GL c i))]) ∧ True) ∧ True) ∧ True) ∧ (True ∧ True) ∧ (LN (codeB c) ≤ (35184372088832 : Nat) ∧ ∀ (a : Arr), a ∈ CodD.consts c → (10 : Nat) * szA a ≤ (35184372088832 : Nat)) ∧ ∀ (y
      : Nat × List UInt8), y.2 = codeB c → ((rowsB (LN y.2) fun (i : Nat) => [ZB (BI y.2 i)]) = true ∧ LN y.2 ≤ (70368744177664 : Nat)) ∧ ∀ (y_1 : Unit), True → ifB (decide ((1048576 : Int) < (LI (sealB (bytesOf (LN y.2)
      fun (i : Nat) => [ZB (BI y.2 i)]))))) (True ∧ ∃ (y : Unit), True ∧ ((N0 = LN (putL c) ∧ (∀ (i : Nat), i < N0 → eqOf (List D) [] [ZB (BI (putL c) i)]) ∧ True) ∧ (21 : Int) = putE c ∧ True) ∧ True ∧ True) (True ∧ ∃
      (y_2 : Unit), True ∧ ((LN (sealB (bytesOf (LN y.2) fun (i : Nat) => [ZB (BI y.2 i)])) = LN (putL c) ∧ (∀ (i : Nat), i < LN (sealB (bytesOf (LN y.2) fun (i : Nat) => [ZB (BI y.2 i)])) → [ZB (BI (sealB (bytesOf (LN
      y.2) fun (i : Nat) => [ZB (BI y.2 i)])) i)] = [ZB (BI (putL c) i)]) ∧ True) ∧ Z0 = putE c ∧ True) ∧ True ∧ True))) (by kernel_rfl) ?_
  delta BI D4 D6 DA DF DK DL G4 G6 GC GF GK GL LI LN N0 N4 N6 R4 R6 S4 S6 SM U0 Z0 ZB ZI
  simp only [eq_self, ne_eq, implies_true, weakL_refl, Int.toNat_natCast, ifB_iff, side_iff, decide_eq_true_eq, decide_eq_false_iff_not, true_and, and_true, beq_iff_eq, Bool.cond_false_right, Bool.cond_true_left, Bool.and_eq_true, Bool.and_eq_false_iff, Bool.or_eq_true, Bool.or_eq_false_iff, beq_eq_false_iff_ne, exists_const, forall_const, Prod.forall, forall_eq, bytesOf_bsl, rowsB_bsl]
  refine ⟨fun hr => ?_, fun hr => ?_⟩
  · have hr' : rightC c ≠ 0 := by simpa using hr
    have e : putE c = rightC c := by unfold putE; rw [if_pos hr']
    have e2 : putL c = [] := by unfold putL; rw [if_pos (by rw [e]; exact hr')]
    exact ⟨⟨by rw [e2]; rfl, fun i hi => absurd hi (Nat.not_lt_zero i)⟩, e.symm⟩
  have hr' : rightC c = 0 := by simpa using hr
  obtain ⟨z1, z2⟩ := hz hr'
  refine ⟨⟨by omega, fun a ha => by have := z2 a ha; omega⟩, by omega, fun hg => ?_, fun hg => ?_⟩
  · have e : putE c = 21 := by unfold putE; rw [if_neg (by rw [hr']; simp), if_pos (by omega)]
    have e2 : putL c = [] := by unfold putL; rw [if_pos (by rw [e]; simp)]
    exact ⟨⟨by rw [e2]; rfl, fun i hi => absurd hi (Nat.not_lt_zero i)⟩, e.symm⟩
  · have e : putE c = 0 := by unfold putE; rw [if_neg (by rw [hr']; simp), if_neg (by omega)]
    have e2 : putL c = sealB (codeB c) := by unfold putL; rw [if_neg (by rw [e]; simp)]
    rw [e, e2]
    exact ⟨⟨rfl, fun _ _ => rfl⟩, rfl⟩
end Go.Proofs.Ytoglbmhkfkghbaa
namespace Go.Proofs.Ytoglbmhkfkghbaa
open Go Go.Ab

/-! ### the count of an array's parts -/
mutual
def cntA : Arr → Int
  | .mk _ _ n is => cntL is (IntKind.i64.wrap ((n.length : Int) + is.length))
def cntL : List Arr → Int → Int
  | [], t => t
  | x :: r, t => cntL r (IntKind.i64.wrap (t + cntA x))
end
theorem cntA_eq (a : Arr) : cntA a = cntL a.it (IntKind.i64.wrap ((a.nu.length : Int) + a.it.length)) := by
  cases a with
  | mk k s n is => rw [cntA]; rfl
def conCn (its : List Arr) : Con := fun k _ _ => match k with
  | 32 => some (sRc Arr.row1 (fun b => b ∈ its) (fun b => .int .i64 (cntA b)))
  | _ => none
theorem conCn_ok {its : List Arr} (ih : ∀ b ∈ its, ACalls Try.prog 32 ((sRc Arr.row2 (fun _ => True) (fun b => .int .i64 (cntA b))).args b) ⟨[], []⟩ (SpecR (sRc Arr.row2 (fun _ => True) (fun b => .int .i64 (cntA b))) b)) : ConOk Try.prog (conCn its) := by
  intro k ds S A h
  unfold conCn at h
  split at h
  · injection h with h; subst h
    exact ConOk.plain (fun b hb => sRc_row (ih b hb)) rfl rfl
  · cases h
noncomputable def Ecn (a : Arr) : Senv := { EC (conCn a.it) 28 5 [16] (fun _ => ([], [])) with
  ann := fun b _ S => match b with
    | 0 => some { slots := [3, 4], keep := [0, 1, 2], α := Nat × Int, st := fun y => ([.int .i64 y.2, .int .i64 y.1], S), inv := fun y => y.1 ≤ a.it.length ∧ cntL (a.it.drop y.1) y.2 = cntA a, mu := fun y => a.it.length - y.1 }
    | _ => none }
theorem cn_step (a : Arr) (ha : a.nu.length ≤ maxLen ∧ a.it.length ≤ maxLen ∧ a.sh.length ≤ maxLen) (ih : ∀ b ∈ a.it, ACalls Try.prog 32 ((sRc Arr.row2 (fun _ => True) (fun b => .int .i64 (cntA b))).args b) ⟨[], []⟩ (SpecR (sRc Arr.row2 (fun _ => True) (fun b => .int .i64 (cntA b))) b)) :
    ACalls Try.prog 32 ((sRc Arr.row2 (fun _ => True) (fun b => .int .i64 (cntA b))).args a) ⟨[], []⟩ (SpecR (sRc Arr.row2 (fun _ => True) (fun b => .int .i64 (cntA b))) a) := by
  refine con_of (A := sRc Arr.row2 (fun _ => True) (fun b => .int .i64 (cntA b))) (x := a) (E := Ecn a) (eOk (conCn_ok ih) rfl) Try.func32 rfl (by kernel_rfl) rfl (by simp [sRc, Ecn, EC, E0]) ?_
  refine vc_eq (T :=
      ∀ (x : Nat), True → SM x ∧ SM x ∧ (∃ (x_1 : Nat × Int), (x_1.1 ≤ LN (Arr.it a) ∧ cntL (List.drop x_1.1 (Arr.it a)) x_1.2 = cntA a) ∧ (IntKind.wrap IntKind.i64 ((LI (Arr.nu a)) + (LI (Arr.it a))) = x_1.2 ∧ Z0 = (NI
      x_1.1) ∧ True) ∧ (SM x ∧ (SM (Arr.k a) ∧ (SM (LN (Arr.sh a)) ∧ (∀ (i : Nat), i < LN (Arr.sh a) → SM [ZI (GI (Arr.sh a) i)]) ∧ True) ∧ (SM (LN (Arr.nu a)) ∧ (∀ (i : Nat), i < LN (Arr.nu a) → SM [ZI (GI (Arr.nu a)
      i)]) ∧ True) ∧ (SM (LN (Arr.it a)) ∧ (∀ (i : Nat), i < LN (Arr.it a) → SM [ZI (Arr.k (GA (Arr.it a) i)), SI (Arr.sh (GA (Arr.it a) i)), SI (Arr.nu (GA (Arr.it a) i)), D.sl N4 (LN (Arr.it (GA (Arr.it a) i))) (fun
      (i_1 : Nat) => Arr.row (GA (Arr.it (GA (Arr.it a) i)) i_1)) Mode.any]) ∧ True) ∧ True) ∧ True) ∧ True) ∧ ∀ (x_1 : Nat × Int), x_1.1 ≤ LN (Arr.it a) ∧ cntL (List.drop x_1.1 (Arr.it a)) x_1.2 = cntA a → SM x ∧ ifB
      (decide ((NI x_1.1) < (LI (Arr.it a)))) (SM x ∧ side (Z0 ≤ (NI x_1.1) ∧ (NI x_1.1) < (LI (Arr.it a))) (∃ (x_2 : Arr), ((Arr.k (GA (Arr.it a) (TN x_1.1)) = Arr.k x_2 ∧ (LN (Arr.sh (GA (Arr.it a) (TN x_1.1))) = LN
      (Arr.sh x_2) ∧ (∀ (i : Nat), i < LN (Arr.sh (GA (Arr.it a) (TN x_1.1))) → [ZI (GI (Arr.sh (GA (Arr.it a) (TN x_1.1))) i)] = [ZI (GI (Arr.sh x_2) i)]) ∧ True) ∧ (LN (Arr.nu (GA (Arr.it a) (TN x_1.1))) = LN (Arr.nu
      x_2) ∧ (∀ (i : Nat), i < LN (Arr.nu (GA (Arr.it a) (TN x_1.1))) → [ZI (GI (Arr.nu (GA (Arr.it a) (TN x_1.1))) i)] = [ZI (GI (Arr.nu x_2) i)]) ∧ True) ∧ (LN (Arr.it (GA (Arr.it a) (TN x_1.1))) = LN (Arr.it x_2) ∧ (∀
      (i : Nat), i < LN (Arr.it (GA (Arr.it a) (TN x_1.1))) → Arr.row (GA (Arr.it (GA (Arr.it a) (TN x_1.1))) i) = Arr.row (GA (Arr.it x_2) i)) ∧ True) ∧ True) ∧ True) ∧ (True ∧ True) ∧ x_2 ∈ Arr.it a ∧ ∀ (y : Unit),
      True → (SM (D.agg [ZI (Arr.k a), SI (Arr.sh a), SI (Arr.nu a), D.sl N4 (LN (Arr.it a)) (fun (i : Nat) => [ZI (Arr.k (GA (Arr.it a) i)), SI (Arr.sh (GA (Arr.it a) i)), SI (Arr.nu (GA (Arr.it a) i)), D.sl N4 (LN
      (Arr.it (GA (Arr.it a) i))) (fun (i_1 : Nat) => Arr.row (GA (Arr.it (GA (Arr.it a) i)) i_1)) Mode.any]) Mode.any]) ∧ SM (D.ref N0 x N0) ∧ SM (ZI Z0) ∧ True) ∧ ∃ (y : Nat × Int), (y.1 ≤ LN (Arr.it a) ∧ cntL
      (List.drop y.1 (Arr.it a)) y.2 = cntA a) ∧ LN (Arr.it a) - y.1 < LN (Arr.it a) - x_1.1 ∧ (IntKind.wrap IntKind.i64 (x_1.2 + cntA x_2) = y.2 ∧ IntKind.wrap IntKind.i64 ((NI x_1.1) + Z1) = (NI y.1) ∧ True) ∧ (SM x ∧
      (SM (Arr.k a) ∧ (SM (LN (Arr.sh a)) ∧ (∀ (i : Nat), i < LN (Arr.sh a) → SM [ZI (GI (Arr.sh a) i)]) ∧ True) ∧ (SM (LN (Arr.nu a)) ∧ (∀ (i : Nat), i < LN (Arr.nu a) → SM [ZI (GI (Arr.nu a) i)]) ∧ True) ∧ (SM (LN
      (Arr.it a)) ∧ (∀ (i : Nat), i < LN (Arr.it a) → SM [ZI (Arr.k (GA (Arr.it a) i)), SI (Arr.sh (GA (Arr.it a) i)), SI (Arr.nu (GA (Arr.it a) i)), D.sl N4 (LN (Arr.it (GA (Arr.it a) i))) (fun (i_1 : Nat) => Arr.row
      (GA (Arr.it (GA (Arr.it a) i)) i_1)) Mode.any]) ∧ True) ∧ True) ∧ True) ∧ True)) (True ∧ ∃ (y : Unit), True ∧ x_1.2 = cntA a ∧ True ∧ True)) (by kernel_rfl) ?_
  delta DA GA GI LI LN N0 N1 N4 NI SI SM TN Z0 Z1 ZI
  have da : (default : Arr) = Arr.mk 0 [] [] [] := rfl
  simp only [← da, eq_self, implies_true, Int.toNat_natCast, ifB_iff, side_iff, decide_eq_true_eq, decide_eq_false_iff_not, true_and, and_true, exists_const, forall_const]
  obtain ⟨l1, l2, l3⟩ := ha
  simp only [maxLen] at l1 l2 l3
  refine ⟨⟨(0, _), ⟨Nat.zero_le _, (cntA_eq a).symm⟩, rfl, rfl⟩, ?_⟩
  rintro ⟨j, n⟩ ⟨b1, hch⟩
  simp only at b1 hch ⊢
  refine ⟨fun h1 => ⟨by omega, ?_⟩, fun hc => ?_⟩
  · have hlt' : j < a.it.length := by omega
    rw [drop_step hlt', cntL] at hch
    exact ⟨a.it.getD j default, ⟨rfl, ⟨rfl, fun _ _ => rfl⟩, ⟨rfl, fun _ _ => rfl⟩, rfl, fun _ _ => rfl⟩, mem_getD hlt', (j + 1, _), ⟨by simp only; omega, hch⟩, by simp only; omega, rfl, wrap_i64' (by omega) (by omega)⟩
  · have hj : j = a.it.length := by omega
    rw [hj, List.drop_length, cntL] at hch
    exact hch
theorem cn_all : ∀ (a : Arr), a.ok → ACalls Try.prog 32 ((sRc Arr.row2 (fun _ => True) (fun b => .int .i64 (cntA b))).args a) ⟨[], []⟩ (SpecR (sRc Arr.row2 (fun _ => True) (fun b => .int .i64 (cntA b))) a)
  | .mk k s n is, h => by
    have h' := h
    simp only [Arr.ok] at h'
    obtain ⟨_, _, _, h1, h2, h3, h4⟩ := h'
    refine cn_step (.mk k s n is) ⟨h2, h3, h1⟩ fun b hb => ?_
    have hb' : b ∈ is := hb
    exact cn_all b ((okL_iff _).1 h4 b hb')
termination_by a => SizeOf.sizeOf a
decreasing_by
  have := List.sizeOf_lt_of_mem hb'
  simp; omega
end Go.Proofs.Ytoglbmhkfkghbaa
namespace Go.Proofs.Ytoglbmhkfkghbaa
open Go Go.Ab

/-! ### few parts -/
def fewA (a : Arr) (z : Int) : Bool := decide ((a.sh.length : Int) ≤ 20) && decide (cntA a ≤ z)
def sFw (row : Arr → List D) (q : Arr → Prop) : FnSpec where
  β := Arr × Int
  α := Unit
  args := fun y => [.agg (row y.1), .int .i64 y.2]
  st := fun _ => ⟨[], []⟩
  pre := fun y => q y.1
  post := fun _ _ => True
  res := fun y _ => .ret (.bool (fewA y.1 y.2))
  out := fun _ _ => ⟨[], []⟩
def conFw (a : Arr) : Con := fun k _ _ => match k with
  | 32 => some (sRc Arr.row1 (fun b => b = a) (fun b => .int .i64 (cntA b)))
  | _ => none
theorem conFw_ok {a : Arr} (ha : a.ok) : ConOk Try.prog (conFw a) := by
  intro k ds S A h
  unfold conFw at h
  split at h
  · injection h with h; subst h
    refine ConOk.plain (fun b hb => ?_) rfl rfl
    have hb : b = a := hb
    rw [hb]
    exact sRc_row (cn_all a ha)
  · cases h
noncomputable def Efw (a : Arr) : Senv := EC (conFw a) 15 3 [4] (fun _ => ([], []))
theorem fw_ok (a : Arr) (ha : a.ok) (z : Int) : ACalls Try.prog 19 ((sFw Arr.row1 (fun _ => True)).args (a, z)) ⟨[], []⟩ (SpecR (sFw Arr.row1 (fun _ => True)) (a, z)) := by
  refine con_of (A := sFw Arr.row1 (fun _ => True)) (x := (a, z)) (E := Efw a) (eOk (conFw_ok ha) rfl) Try.func19 rfl (by kernel_rfl) rfl (by simp [sFw, Efw, EC, E0]) ?_
  simp only [sFw]
  refine vc_eq (T :=
      ∀ (x : Nat), True → SM x ∧ ifB (decide ((LI (Arr.sh a)) ≤ (20 : Int))) (SM x ∧ ∃ (x : Arr), ((Arr.k a = Arr.k x ∧ (LN (Arr.sh a) = LN (Arr.sh x) ∧ (∀ (i : Nat), i < LN (Arr.sh a) → [ZI (GI (Arr.sh a) i)] = [ZI (GI
      (Arr.sh x) i)]) ∧ True) ∧ (LN (Arr.nu a) = LN (Arr.nu x) ∧ (∀ (i : Nat), i < LN (Arr.nu a) → [ZI (GI (Arr.nu a) i)] = [ZI (GI (Arr.nu x) i)]) ∧ True) ∧ (LN (Arr.it a) = LN (Arr.it x) ∧ (∀ (i : Nat), i < LN (Arr.it
      a) → Arr.row (GA (Arr.it a) i) = Arr.row (GA (Arr.it x) i)) ∧ True) ∧ True) ∧ True) ∧ (True ∧ True) ∧ x = a ∧ ∀ (y : Unit), True → True ∧ ∃ (y : Unit), True ∧ decide (cntA x ≤ z) = fewA a z ∧ True ∧ True) (True ∧ ∃
      (y : Unit), True ∧ false = fewA a z ∧ True ∧ True)) (by kernel_rfl) ?_
  delta DA GA GI LI LN SM Z0 ZI
  intro x _
  simp only [eq_self, implies_true, weakL_refl, Int.toNat_natCast, ifB_iff, side_iff, decide_eq_true_eq, decide_eq_false_iff_not, true_and, and_true, Bool.cond_false_right, Bool.cond_true_left, exists_const, forall_const]
  refine ⟨fun h => ⟨a, ⟨rfl, ⟨rfl, fun _ _ => rfl⟩, ⟨rfl, fun _ _ => rfl⟩, rfl, fun _ _ => rfl⟩, rfl, by simp [fewA, h]⟩, fun h => by simp [fewA, h]⟩
end Go.Proofs.Ytoglbmhkfkghbaa
