/- Functions of the given program and what each of them computes: lemmas towards the statement, their conditions stated with each of them. -/
import Derived.Test.YtoglbmhkfkghbaaB3
namespace Go.Proofs.Ytoglbmhkfkghbaa
open Go Go.Ab
def sKq (q : KeD → Prop) (r : KeD → Bool) : FnSpec where
  β := KeD
  α := Unit
  args := fun k => [.agg k.row]
  st := fun _ => ⟨[], []⟩
  pre := q
  post := fun _ _ => True
  res := fun k _ => .ret (.bool (r k))
  out := fun _ _ => ⟨[], []⟩
def conKe (k : KeD) : Con := fun f _ _ => match f with
  | 38 => some (sKq (fun x => x = k) kerB)
  | _ => none
theorem conKe_ok {k : KeD} (hk : k.ok) : ConOk Try.prog (conKe k) := by
  intro f ds S A h
  unfold conKe at h
  split at h
  · injection h with h; subst h
    refine ConOk.plain (fun b hb => ?_) rfl rfl
    have hb : b = k := hb
    rw [hb]
    exact (ker_ok k hk).mono fun _ _ ⟨y, h1, h2, h3⟩ => ⟨y, h1, h2, h3⟩
  · cases h
noncomputable def Ebk (k : KeD) : Senv := EC (conKe k) 6 3 [] (fun _ => ([], []))
noncomputable section
def ke3q0 (p0 : KeD) : Nat := LN (KeD.ops p0)
def ke3q1 (p0 : KeD) (p1 : Nat) : I4 := G4 (KeD.ops p0) p1
def ke3q2 (p0 : KeD) (p1 : Nat) : List D := (R4 (ke3q1 p0 p1))
end
theorem badk_ok (k : KeD) (hk : k.ok) : ACalls Try.prog 37 ((sKq (fun _ => True) (fun k => !kerB k)).args k) ⟨[], []⟩ (SpecR (sKq (fun _ => True) (fun k => !kerB k)) k) := by
  refine con_of (A := sKq (fun _ => True) (fun k => !kerB k)) (x := k) (E := Ebk k) (eOk (conKe_ok hk) rfl) Try.func37 rfl (by kernel_rfl) rfl (by simp [sKq, Ebk, EC, E0]) ?_
  simp only [sKq]
  refine vc_eq (T :=
    ∀ (x : Nat), True → SM x ∧ ∃ (x : KeD), ((KeD.inputs k = KeD.inputs x ∧ (ke3q0 k = ke3q0 x ∧ (∀ (i : Nat), i < ke3q0 k → ke3q2 k i = ke3q2 x i) ∧ True) ∧ KeD.reduce k = KeD.reduce x ∧ KeD.at_ k = KeD.at_ x ∧ True) ∧ True) ∧ (True ∧ True) ∧ x = k ∧ ∀ (y : Unit), True → True ∧ ∃ (y : Unit), True ∧ (!kerB x) = !kerB k ∧ True ∧ True) (by kernel_rfl) ?_
  delta D4 G4 LN R4 SM Z0 ZI ke3q0 ke3q1 ke3q2
  simp only [and_true, exists_const]
  intro x _
  exact ⟨trivial, k, ⟨rfl, ⟨rfl, fun _ _ => rfl⟩, rfl, rfl⟩, trivial, rfl, fun _ _ => ⟨trivial, trivial, rfl⟩⟩
def conBk (l : List KeD) : Con := fun k _ _ => match k with
  | 37 => some (sKq (fun b => b ∈ l) (fun b => !kerB b))
  | _ => none
theorem conBk_ok {l : List KeD} (h : ∀ a ∈ l, a.ok) : ConOk Try.prog (conBk l) := by
  intro k ds S A hh
  unfold conBk at hh
  split at hh
  · injection hh with hh; subst hh
    exact ConOk.plain (fun b hb => (badk_ok b (h b hb)).mono fun _ _ ⟨y, h1, h2, h3⟩ => ⟨y, h1, h2, h3⟩) rfl rfl
  · cases hh
noncomputable def Eixk (l : List KeD) : Senv := { EC (conBk l) 19 2 [4, 5, 7, 8, 9, 16] (fun _ => ([], [])) with
  ann := fun b _ _ => match b with
    | 0 => some { slots := [8], keep := [0, 1, 6, 7], α := Nat, st := fun i => ([.int .i64 i], ⟨[], []⟩), inv := fun i => IdxG (fun a => !kerB a) l i, mu := fun i => l.length - i }
    | _ => none }
noncomputable section
def ke3q3 (p0 : KeD) : Bool := !kerB p0
def ke3q4 (p0 : List KeD) (p1 : Nat) : Prop := IdxG (fun (a : KeD) => ke3q3 a) p0 p1
def ke3q5 : KeD := DK
def ke3q6 (p0 : List KeD) (p1 : Nat) : KeD := List.getD p0 (Int.toNat (↑p1 : Int)) ke3q5
def ke3q7 (p0 : List KeD) (p1 : Nat) : List I4 := KeD.ops (ke3q6 p0 p1)
def ke3q8 (p0 : List KeD) (p1 : Nat) : Nat := LN (ke3q7 p0 p1)
def ke3q9 (p0 : List KeD) (p1 p2 : Nat) : I4 := G4 (ke3q7 p0 p1) p2
def ke3q10 (p0 : KeD) (p1 : Nat) : I4 := G4 (KeD.ops p0) p1
def ke3q11 (p0 : List KeD) : Int := idxG (fun (a : KeD) => ke3q3 a) p0 Z0
def ke3q12 (p0 : List KeD) : D := D.sl N4 (LN p0) (fun (i : Nat) => KeD.row (List.getD p0 i ke3q5)) Mode.any
end
theorem ixk_ok (l : List KeD) (h : ∀ a ∈ l, a.ok) (hl : l.length ≤ maxLen) : ACalls Try.prog 60 [gsl 4 KeD.row l, .fn (.func 37) [] []] ⟨[], []⟩ (SpecR (sC [gsl 4 KeD.row l, .fn (.func 37) [] []] (.int .i64 (idxG (fun a => !kerB a) l 0))) ()) := by
  refine con_of (A := sC _ _) (x := ()) (E := Eixk l) (eOk (conBk_ok h) rfl) Try.func60 rfl (by kernel_rfl) rfl (by simp [sC, Eixk, EC, E0]) ?_
  refine vc_eq (T :=
    (∃ (x : Nat), ke3q4 l x ∧ (Z0 = (↑x : Int) ∧ True) ∧ True ∧ True) ∧ ∀ (x : Nat), ke3q4 l x → ifB (decide ((↑x : Int) < (LI l))) (side (Z0 ≤ (↑x : Int) ∧ (↑x : Int) < (LI l)) (∃ (x_1 : KeD), ((KeD.inputs (ke3q6 l x) = KeD.inputs x_1 ∧ (ke3q8 l x = LN (KeD.ops x_1) ∧ (∀ (i : Nat), i < ke3q8 l x → (R4 (ke3q9 l x i)) = (R4 (ke3q10 x_1 i))) ∧ True) ∧ KeD.reduce (ke3q6 l x) = KeD.reduce x_1 ∧ KeD.at_ (ke3q6 l x) = KeD.at_ x_1 ∧ True) ∧ True) ∧ (True ∧ True) ∧ x_1 ∈ l ∧ ∀ (y : Unit), True → ifB (ke3q3 x_1) (True ∧ ∃ (y : Unit), True ∧ (↑x : Int) = ke3q11 l ∧ True ∧ True) ((SM (ke3q12 l) ∧ SM (D.fn (Fn.func (37 : Nat)) [] []) ∧ SM D.unk ∧ SM (ZI (LI l)) ∧ True) ∧ ∃ (y : Nat), ke3q4 l y ∧ LN l - y < LN l - x ∧ (IntKind.wrap IntKind.i64 ((↑x : Int) + Z1) = (↑y : Int) ∧ True) ∧ True ∧ True))) (True ∧ ∃ (y : Unit), True ∧ (-1 : Int) = ke3q11 l ∧ True ∧ True)) (by kernel_rfl) ?_
  delta D4 DK G4 LI LN N4 R4 SM Z0 Z1 ZI ke3q10 ke3q11 ke3q12 ke3q3 ke3q4 ke3q5 ke3q6 ke3q7 ke3q8 ke3q9
  simp only [Int.toNat_natCast, ifB_iff, side_iff, decide_eq_true_eq, decide_eq_false_iff_not, true_and, and_true, exists_const]
  simp only [maxLen] at hl
  refine ⟨⟨0, ⟨Nat.zero_le _, by simp⟩, rfl⟩, fun i hh => ⟨fun hlt => ?_, fun hge => (hh.done hge).symm⟩⟩
  have hlt' : i < l.length := by omega
  obtain ⟨s1, s2⟩ := hh.step hlt'
  exact ⟨⟨by omega, hlt⟩, l.getD i default, ⟨rfl, ⟨rfl, fun _ _ => rfl⟩, rfl, rfl⟩, mem_getD hlt', fun _ _ => ⟨fun e => (s1 e).symm, fun e => ⟨i + 1, s2 e, by omega, wrap_i64' (by omega) (by omega)⟩⟩⟩
noncomputable def Ecfk (l : List KeD) : Senv := EC (fun k ds _ => match k with
  | 60 => some (pC ds (.int .i64 (idxG (fun a => !kerB a) l 0)) (ds = [gsl 4 KeD.row l, .fn (.func 37) [] []]))
  | _ => none) 9 2 [4] (fun _ => ([], []))
noncomputable section
def ke3q13 (p0 : List KeD) : List D := [D.sl N4 (LN p0) (fun (i : Nat) => KeD.row (List.getD p0 i DK)) Mode.any, D.fn (Fn.func (37 : Nat)) [] []]
end
theorem cfk_ok (l : List KeD) (h : ∀ a ∈ l, a.ok) (hl : l.length ≤ maxLen) : ACalls Try.prog 36 [gsl 4 KeD.row l, .fn (.func 37) [] []] ⟨[], []⟩ (SpecR (sC [gsl 4 KeD.row l, .fn (.func 37) [] []] (.bool (l.any fun a => !kerB a))) ()) := by
  refine con_of (A := sC _ _) (x := ()) (E := Ecfk l) (eOk ?_ rfl) Try.func36 rfl (by kernel_rfl) rfl (by simp [sC, Ecfk, EC, E0]) ?_
  · intro k ds S A hh
    dsimp only at hh
    split at hh
    · injection hh with hh; subst hh
      refine pC_ok fun e => ⟨weakL_refl _, ?_⟩
      rw [e]
      exact ixk_ok l h hl
    · cases hh
  refine vc_eq (T :=
    SM (ke3q13 l) ∧ ∀ (y : Unit), True → True ∧ ∃ (y : Unit), True ∧ (decide (Z0 ≤ idxG (fun (a : KeD) => !kerB a) l Z0) = List.any l fun (a : KeD) => !kerB a) ∧ True ∧ True) (by kernel_rfl) ?_
  delta DK LN N4 SM Z0 ke3q13
  simp only [true_and, and_true, exists_const]
  exact fun _ _ => idxG_any _ l 0 (Int.le_refl _)
end Go.Proofs.Ytoglbmhkfkghbaa
namespace Go.Proofs.Ytoglbmhkfkghbaa
open Go Go.Ab
def totI : List FnD → Int → Int
  | [], t => t
  | x :: r, t => totI r (IntKind.i64.wrap (t + x.code.length))
def conRt (c : CodD) : Con := fun k ds _ => match k with
  | 33 => some (pC ds (.bool (c.consts.any fun a => (chkA a).1 != 0)) (weakL ds [gsl 4 Arr.row c.consts, .fn (.func 34) [] []]))
  | 36 => some (pC ds (.bool (c.kers.any fun a => !kerB a)) (weakL ds [gsl 4 KeD.row c.kers, .fn (.func 37) [] []]))
  | 39 => match ds with
    | [_, .int .i64 z] => some (pC ds (funD (funS c z.toNat)) (weakL ds [.agg c.row, .int .i64 z.toNat] ∧ z.toNat < c.funs.length))
    | _ => none
  | _ => none
theorem conRt_ok {c : CodD} (hc : c.ok) (hs : ∀ f, f < c.funs.length → (c.funs.getD f default).code.length ≤ 65536) : ConOk Try.prog (conRt c) := by
  intro k ds S A h
  unfold conRt at h
  split at h
  · injection h with h; subst h
    exact pC_ok fun e => ⟨weakL_refl _, sC_weak e (cf_ok _ hc.1 hc.2.2.2.2.1)⟩
  · injection h with h; subst h
    exact pC_ok fun e => ⟨weakL_refl _, sC_weak e (cfk_ok _ hc.2.2.1 hc.2.2.2.2.2.2.1)⟩
  · split at h
    · injection h with h; subst h
      exact pC_ok fun ⟨e, hf⟩ => ⟨weakL_refl _, sC_weak e (fun_ok c _ hf hc (hs _ hf))⟩
    · cases h
  · cases h
noncomputable def Ert (c : CodD) : Senv := { EC (conRt c) 82 4 [5, 6, 7, 8, 10, 11, 12, 13, 41, 44, 63, 66, 69, 70, 71, 80] (fun _ => ([], [])) with
  ann := fun b _ S => match b with
    | 0 => some { slots := [12, 3], keep := [0, 1, 2, 10, 11], α := Nat × Int, st := fun y => ([.int .i64 y.1, .int .i64 y.2], S), inv := fun y => y.1 ≤ c.funs.length ∧ totI (c.funs.drop y.1) y.2 = totI c.funs 0, mu := fun y => c.funs.length - y.1 }
    | 2 => some { slots := [70], keep := [0, 1, 2, 68, 69], α := Nat, st := fun i => ([.int .i64 i], S), inv := fun i => i ≤ c.funs.length ∧ ∀ j, j < i → (funS c j).isSome = true, mu := fun i => c.funs.length - i }
    | _ => none }
def rightC (c : CodD) : Int :=
  if 1024 < c.funs.length ∨ 65536 < totI c.funs 0 ∨ 65536 < c.consts.length ∨ 4096 < c.kers.length then 21
  else if (c.consts.any fun a => (chkA a).1 != 0) = true then 1
  else if c.funs.length = 0 ∨ (c.lanes.length ≠ 0 ∧ c.lanes.length ≠ c.kers.length) then 26
  else if (c.kers.any fun a => !kerB a) = true then 26
  else if ((List.range c.funs.length).all fun f => (funS c f).isSome) = true then 0 else 26
noncomputable section
def ri1q0 (p0 : CodD) : List FnD := CodD.funs p0
def ri1q1 (p0 : CodD) : Nat := LN (ri1q0 p0)
def ri1q2 (p0 : Nat) (p1 : CodD) (p2 : Int) : Prop := p0 ≤ ri1q1 p1 ∧ totI (List.drop p0 (ri1q0 p1)) p2 = totI (ri1q0 p1) Z0
def ri1q3 (p0 : CodD) : Nat := LN (CodD.consts p0)
def ri1q4 (p0 : CodD) (p1 : Nat) : List D := Arr.row (GC p0 p1)
def ri1q5 (p0 : CodD) : Prop := SM (ri1q3 p0) ∧ (∀ (i : Nat), i < ri1q3 p0 → SM (ri1q4 p0 i)) ∧ True
def ri1q6 (p0 : CodD) (p1 : Nat) : FnD := List.getD (ri1q0 p0) p1 DF
def ri1q7 (p0 : CodD) (p1 : Nat) : List I4 := FnD.code (ri1q6 p0 p1)
def ri1q8 (p0 : CodD) (p1 p2 : Nat) : I4 := G4 (ri1q7 p0 p1) p2
def ri1q9 (p0 : CodD) (p1 : Nat) : List D := [ZI (FnD.slots (ri1q6 p0 p1)), D.sl N4 (LN (ri1q7 p0 p1)) (fun (i : Nat) => (R4 (ri1q8 p0 p1 i))) Mode.any]
def ri1q10 (p0 : CodD) : Nat := LN (CodD.kers p0)
def ri1q11 (p0 : CodD) (p1 : Nat) : List D := KeD.row (GK p0 p1)
def ri1q12 (p0 : CodD) : Prop := SM (ri1q10 p0) ∧ (∀ (i : Nat), i < ri1q10 p0 → SM (ri1q11 p0 i)) ∧ True
def ri1q13 (p0 : CodD) : Nat := LN (CodD.lanes p0)
def ri1q14 (p0 : CodD) (p1 : Nat) : List D := LaD.row (GL p0 p1)
def ri1q15 (p0 : CodD) : Prop := ri1q5 p0 ∧ (SM (ri1q1 p0) ∧ (∀ (i : Nat), i < ri1q1 p0 → SM (ri1q9 p0 i)) ∧ True) ∧ ri1q12 p0 ∧ (SM (ri1q13 p0) ∧ (∀ (i : Nat), i < ri1q13 p0 → SM (ri1q14 p0 i)) ∧ True) ∧ True
def ri1q16 (p0 : Nat) (p1 : CodD) : Prop := (SM p0 ∧ ri1q15 p1 ∧ True) ∧ True
def ri1q17 (p0 : CodD) : Int := (NI (ri1q1 p0))
def ri1q18 (p0 : CodD) : D := D.sl N2 (ri1q1 p0) (fun (i : Nat) => ri1q9 p0 i) Mode.any
def ri1q19 (p0 : CodD) : D := D.agg [D.sl N4 (ri1q3 p0) (fun (i : Nat) => ri1q4 p0 i) Mode.any, ri1q18 p0, D.sl N4 (ri1q10 p0) (fun (i : Nat) => ri1q11 p0 i) Mode.any, D.sl N2 (ri1q13 p0) (fun (i : Nat) => ri1q14 p0 i) Mode.any]
def ri1q20 (p0 : CodD) : Prop := SM (ri1q19 p0)
def ri1q21 (p0 : CodD) : Prop := SM (ZI (ri1q17 p0)) ∧ True
def ri1q22 (p0 : CodD) (p1 p2 : Nat) : Prop := ri1q1 p0 - p1 < ri1q1 p0 - p2
def ri1q23 (p0 : CodD) : Bool := decide ((1024 : Int) < ri1q17 p0)
def ri1q24 (p0 : CodD) : Bool := decide ((65536 : Int) < (NI (ri1q3 p0)))
def ri1q25 (p0 : CodD) : Bool := decide ((4096 : Int) < (NI (ri1q10 p0)))
def ri1q26 (p0 : CodD) (p1 : Int) : Bool := bif bif bif ri1q23 p0 then true else decide ((65536 : Int) < p1) then true else ri1q24 p0 then true else ri1q25 p0
def ri1q27 (p0 : CodD) (p1 : Int) : Prop := true = ri1q26 p0 p1 ∧ True
def ri1q28 (p0 : CodD) : Int := rightC p0
def ri1q29 (p0 : CodD) : Bool := (NI (ri1q13 p0)) != (NI (ri1q10 p0))
def ri1q30 (p0 : CodD) : Bool := bif ri1q17 p0 == Z0 then true else bif (NI (ri1q13 p0)) != Z0 then ri1q29 p0 else false
def ri1q31 (p0 : CodD) : Prop := True ∧ ∃ (_y : Unit), True ∧ (26 : Int) = ri1q28 p0 ∧ True ∧ True
def ri1q32 (p0 : Nat) (p1 : CodD) : Prop := p0 ≤ ri1q1 p1 ∧ ∀ (j : Nat), j < p0 → Option.isSome (funS p1 j) = true
end
theorem rt_ok (c : CodD) (hc : c.ok) (hs : ∀ f, f < c.funs.length → (c.funs.getD f default).code.length ≤ 65536) : ACalls Try.prog 20 [.agg c.row] ⟨[], []⟩ (SpecR (sC [.agg c.row] (.int .i64 (rightC c))) ()) := by
  refine con_of (A := sC _ _) (x := ()) (E := Ert c) (eOk (conRt_ok hc hs) rfl) Try.func20 rfl (by kernel_rfl) rfl (by simp [sC, Ert, EC, E0]) ?_
  refine vc_eq (T :=
    ∀ (x : Nat), True → SM x ∧ (∃ (x_1 : Nat × Int), ri1q2 x_1.1 c x_1.2 ∧ (Z0 = (NI x_1.1) ∧ Z0 = x_1.2 ∧ True) ∧ ri1q16 x c) ∧ ∀ (x_1 : Nat × Int), ri1q2 x_1.1 c x_1.2 → ifB (decide ((NI x_1.1) < ri1q17 c)) (side (Z0 ≤ (NI x_1.1) ∧ (NI x_1.1) < ri1q17 c) (∀ (x_2 : Nat), x ≠ x_2 ∧ True → SM x_2 ∧ SM x_2 ∧ (ri1q20 c ∧ SM (D.ref N0 x N0) ∧ SM (ZI Z0) ∧ SM (ri1q18 c) ∧ ri1q21 c) ∧ ∃ (y : Nat × Int), ri1q2 y.1 c y.2 ∧ ri1q22 c y.1 x_1.1 ∧ (IntKind.wrap IntKind.i64 ((NI x_1.1) + Z1) = (NI y.1) ∧ IntKind.wrap IntKind.i64 (x_1.2 + (LI (FnD.code (List.getD (ri1q0 c) (TN x_1.1) DF)))) = y.2 ∧ True) ∧ ri1q16 x c)) ((SM x ∧ ifB (ri1q23 c) (ri1q27 c x_1.2) (ifB (decide ((65536 : Int) < x_1.2)) (ri1q27 c x_1.2) (SM x ∧ ifB (ri1q24 c) (ri1q27 c x_1.2) (SM x ∧ ri1q25 c = ri1q26 c x_1.2 ∧ True)))) ∧ ifB (ri1q26 c x_1.2) (True ∧ ∃ (y : Unit), True ∧ (21 : Int) = ri1q28 c ∧ True ∧ True) (SM x ∧ (ri1q5 c ∧ SM (D.fn (Fn.func (34 : Nat)) [] []) ∧ True) ∧ ∀ (y : Unit), True → ifB (List.any (CodD.consts c) fun (a : Arr) => Prod.fst (chkA a) != Z0) (True ∧ ∃ (y : Unit), True ∧ Z1 = ri1q28 c ∧ True ∧ True) ((SM x ∧ ifB (ri1q17 c == Z0) (true = ri1q30 c ∧ True) (SM x ∧ ifB ((NI (ri1q13 c)) != Z0) (SM x ∧ SM x ∧ ri1q29 c = ri1q30 c ∧ True) (false = ri1q30 c ∧ True))) ∧ ifB (ri1q30 c) (ri1q31 c) (SM x ∧ (ri1q12 c ∧ SM (D.fn (Fn.func (37 : Nat)) [] []) ∧ True) ∧ ∀ (y : Unit), True → ifB (List.any (CodD.kers c) fun (a : KeD) => !kerB a) (ri1q31 c) (SM x ∧ (∃ (x_2 : Nat), ri1q32 x_2 c ∧ (Z0 = (↑x_2 : Int) ∧ True) ∧ ri1q16 x c) ∧ ∀ (x_2 : Nat), ri1q32 x_2 c → ifB (decide ((↑x_2 : Int) < ri1q17 c)) (SM x ∧ ((ri1q15 c ∧ (↑x_2 : Int) = (NI (Int.toNat (↑x_2 : Int))) ∧ True) ∧ Int.toNat (↑x_2 : Int) < ri1q1 c) ∧ ∀ (y : Unit), True → ifB (!Option.isSome (funS c (Int.toNat (↑x_2 : Int)))) (ri1q31 c) ((ri1q20 c ∧ SM (D.ref N0 x N0) ∧ SM (ZI Z0) ∧ SM D.unk ∧ ri1q21 c) ∧ ∃ (y : Nat), ri1q32 y c ∧ ri1q22 c y x_2 ∧ (IntKind.wrap IntKind.i64 ((↑x_2 : Int) + Z1) = (↑y : Int) ∧ True) ∧ ri1q16 x c)) (True ∧ ∃ (y : Unit), True ∧ Z0 = ri1q28 c ∧ True ∧ True))))))) (by kernel_rfl) ?_
  delta D4 DA DF DK DL G4 GC GK GL LI LN N0 N2 N4 NI R4 SM TN Z0 Z1 ZI ri1q0 ri1q1 ri1q10 ri1q11 ri1q12 ri1q13 ri1q14 ri1q15 ri1q16 ri1q17 ri1q18 ri1q19 ri1q2 ri1q20 ri1q21 ri1q22 ri1q23 ri1q24 ri1q25 ri1q26 ri1q27 ri1q28 ri1q29 ri1q3 ri1q30 ri1q31 ri1q32 ri1q4 ri1q5 ri1q6 ri1q7 ri1q8 ri1q9
  intro x _
  simp only [eq_self, ne_eq, implies_true, Int.toNat_natCast, ifB_iff, side_iff, decide_eq_true_eq, decide_eq_false_iff_not, true_and, and_true, beq_iff_eq, Bool.cond_false_right, Bool.cond_true_left, Bool.and_eq_true, Bool.and_eq_false_iff, Bool.or_eq_true, Bool.or_eq_false_iff, beq_eq_false_iff_ne, exists_const, forall_const]
  have hfl : c.funs.length ≤ maxLen := hc.2.2.2.2.2.1
  simp only [maxLen] at hfl
  refine ⟨⟨(0, 0), ⟨Nat.zero_le _, rfl⟩, rfl, rfl⟩, ?_⟩
  rintro ⟨i, t⟩ ⟨hi, ht⟩
  simp only at hi ht ⊢
  refine ⟨fun hlt => ⟨⟨by omega, hlt⟩, fun y _ => ?_⟩, fun hge => ?_⟩
  · have hlt' : i < c.funs.length := by omega
    rw [drop_step hlt', totI] at ht
    exact ⟨(i + 1, _), ⟨by simp only; omega, ht⟩, by simp only; omega, wrap_i64' (by omega) (by omega), rfl⟩
  have hi' : i = c.funs.length := by omega
  rw [hi', List.drop_length, totI] at ht
  rw [ht]
  refine ⟨⟨fun h => by simp [h], fun h => ⟨fun h2 => by simp [h2], fun h2 => ⟨fun h3 => by simp [h3], fun h3 => by simp [h, h2, h3]⟩⟩⟩, fun h => ?_, fun h => ⟨fun h1 => ?_, fun h1 => ⟨⟨fun h2 => by simp [h2], fun h2 => ⟨fun h3 => by rw [h3, beq_eq_false_iff_ne.2 h2]; rfl, fun h3 => by rw [h3, beq_eq_false_iff_ne.2 h2]; rfl⟩⟩, fun h2 => ?_, fun h2 => ⟨fun h3 => ?_, fun h3 => ⟨⟨0, ⟨Nat.zero_le _, fun j hj => absurd hj (Nat.not_lt_zero j)⟩, rfl⟩, fun j hj => ⟨fun hl => ⟨by omega, fun e => ?_, fun e => ⟨j + 1, ⟨by omega, fun k hk => ?_⟩, by omega, wrap_i64' (by omega) (by omega)⟩⟩, fun hg => ?_⟩⟩⟩⟩⟩⟩
  · unfold rightC; rw [if_pos (by omega)]
  · unfold rightC; rw [if_neg (by omega), if_pos h1]
  · simp only [bne_iff_ne, ne_eq] at h2
    unfold rightC; rw [if_neg (by omega), if_neg (by rw [h1]; exact Bool.false_ne_true), if_pos (by omega)]
  · simp only [bne_eq_false_iff_eq] at h2
    unfold rightC; rw [if_neg (by omega), if_neg (by rw [h1]; exact Bool.false_ne_true), if_neg (by omega), if_pos h3]
  · simp only [bne_eq_false_iff_eq] at h2
    have hj' : j < c.funs.length := by omega
    have e' : (funS c j).isSome = false := by simpa using e
    have hall : ¬ ((List.range c.funs.length).all fun f => (funS c f).isSome) = true := by
      rw [List.all_eq_true]
      intro hh
      have := hh j (List.mem_range.2 hj')
      rw [e'] at this; cases this
    unfold rightC; rw [if_neg (by omega), if_neg (by rw [h1]; exact Bool.false_ne_true), if_neg (by omega), if_neg (by rw [h3]; exact Bool.false_ne_true), if_neg hall]
  · have e' : (funS c j).isSome = true := by simpa using e
    by_cases hk' : k = j
    · rw [hk']; exact e'
    · exact hj.2 k (by omega)
  · simp only [bne_eq_false_iff_eq] at h2
    have hall : ((List.range c.funs.length).all fun f => (funS c f).isSome) = true := by
      rw [List.all_eq_true]
      intro f hf
      exact hj.2 f (by have := List.mem_range.1 hf; omega)
    unfold rightC; rw [if_neg (by omega), if_neg (by rw [h1]; exact Bool.false_ne_true), if_neg (by omega), if_neg (by rw [h3]; exact Bool.false_ne_true), if_pos hall]
end Go.Proofs.Ytoglbmhkfkghbaa
namespace Go.Proofs.Ytoglbmhkfkghbaa
open Go Go.Ab
set_option maxRecDepth 100000
def sumB (s : Nat) : List UInt8 := [UInt8.ofNat (s / 16777216), UInt8.ofNat (s / 65536), UInt8.ofNat (s / 256), UInt8.ofNat s]
def sealB (b : List UInt8) : List UInt8 := [65, 76, 67, 49] ++ b ++ sumB (sumN ([65, 76, 67, 49] ++ b))
def putE (c : CodD) : Int := if rightC c ≠ 0 then rightC c else if 1048576 < (sealB (codeB c)).length then 21 else 0
def putL (c : CodD) : List UInt8 := if putE c ≠ 0 then [] else sealB (codeB c)
def szOk (c : CodD) : Prop := (codeB c).length ≤ 1099511627776 ∧ ∀ a ∈ c.consts, 10 * szA a ≤ 1099511627776
theorem app_row' {n : Nat} {l : List UInt8} {F : Nat → List D} {z : Int} {b : UInt8} (hn : n = l.length) (hF : ∀ i, i < n → F i = [D.int .u8 ((l.getD i 0).toNat : Int)]) (h : z = (b.toNat : Int)) :
    ∀ i, i < n + 1 → appF n F (fun i => [[D.int .u8 z]].getD i []) i = [D.int .u8 (((l ++ [b]).getD i 0).toNat : Int)] := by
  intro i hi
  subst hn
  simp only [appF]
  split
  · rename_i hlt
    rw [hF i hlt]
    simp [List.getD_eq_getElem?_getD, List.getElem?_append_left hlt]
  · have : i = l.length := by omega
    subst this
    simp [List.getD_eq_getElem?_getD, h]
theorem wrapD (s k : Nat) : IntKind.u8.wrap (Int.fdiv (s : Int) (k : Int)) = ((UInt8.ofNat (s / k)).toNat : Int) := by
  rw [fdiv_nat, IntKind.wrap_u8, UInt8.toNat_ofNat']; omega
def sWcK (k kt : Nat) (c : CodD) (row : List D) : FnSpec where
  β := Nat × List UInt8
  α := Nat × List UInt8
  args := fun b => [.ref k b.1 0, .agg row]
  st := fun b => ⟨[(k, b.1, .cells [bsl b.2 .full])], []⟩
  pre := fun b => b.2.length + (codeB c).length ≤ 35184372088832 ∧ ∀ a ∈ c.consts, 10 * szA a ≤ 35184372088832
  post := fun b y => y.2 = b.2 ++ codeB c
  res := fun _ _ => .ret (.tup [])
  out := fun b y => ⟨[(k, b.1, .cells [bsl y.2 (.tok kt y.1)])], [(kt, y.1)]⟩
theorem wcK_ok (k kt : Nat) (c : CodD) (hc : c.ok) (b : Nat × List UInt8) (h : (sWcK k kt c c.row).pre b) : ACalls Try.prog 21 ((sWcK k kt c c.row).args b) ((sWcK k kt c c.row).st b) (SpecR (sWcK k kt c c.row) b) := by
  obtain ⟨x, l⟩ := b
  have h1 : ACalls Try.prog 21 ((sWcK k kt c c.row1).args (x, l)) ((sWcK k kt c c.row1).st (x, l)) (SpecR (sWcK k kt c c.row1) (x, l)) := by
    refine (wc_ok x l c hc h.1 h.2).respec (A' := sWcK k kt c c.row1) (x' := (x, l)) ?_ ?_ fun y hy => ⟨y, hy, ?_, ?_⟩
    · simp [sWcK, sWc, weakL, weakD, chk, CodD.row1, gsl, weakM]
    · simp [sWcK, sWc, posS, posO, posT, weakO, weakL, weakD, chk, bsl, weakM]
    · simp [sWcK, sWc, weakEnd, weakD, weakL]
    · simp [sWcK, sWc, posS, posO, posT, weakO, weakL, weakD, chk, bsl, weakM]
  refine (h1.wkArgs ?_).mono fun _ _ ⟨y, h1, h2, h3⟩ => ⟨y, h1, h2, h3⟩
  simp only [sWcK, wkL, wkD]
  exact ⟨by simp [weakD, chk_iff], code_wk c, trivial⟩
def conPu (c : CodD) : Con := fun k ds S => match k with
  | 20 => some (pC ds (.int .i64 (rightC c)) (weakL ds [.agg c.row]))
  | 21 => match ds with
    | [.ref k _ _, _] => some (sWcK k (nextTok S.toks) c c.row)
    | _ => none
  | k => conS k ds S
theorem conPu_ok {c : CodD} (hc : c.ok) (hs : ∀ f, f < c.funs.length → (c.funs.getD f default).code.length ≤ 65536) : ConOk Try.prog (conPu c) := by
  intro k ds S A h
  unfold conPu at h
  split at h
  · injection h with h; subst h
    exact pC_ok fun e => ⟨weakL_refl _, sC_weak e (rt_ok c hc hs)⟩
  · split at h
    · injection h with h; subst h
      exact ConOk.plain (fun b hb => wcK_ok _ _ c hc b hb) rfl rfl
    · cases h
  · exact conS_ok _ _ _ _ h
noncomputable def Epu (c : CodD) : Senv := { EC (conPu c) 52 8 [11, 26, 47] (fun id => match id with | 10 => ([0, 1, 2, 3, 4, 5, 6, 7, 8, 9, 10, 11, 12, 13], [8, 9, 10, 13]) | _ => ([], [])) with unr := fun b => match b with | 0 => 6 | _ => 0 }
noncomputable section
def pu1q0 (p0 : CodD) : Nat := LN (CodD.consts p0)
def pu1q1 (p0 : CodD) (p1 : Nat) : List D := Arr.row (GC p0 p1)
def pu1q2 (p0 : CodD) : Nat := LN (CodD.funs p0)
def pu1q3 (p0 : CodD) (p1 : Nat) : FnD := GF p0 p1
def pu1q4 (p0 : CodD) (p1 : Nat) : List I4 := FnD.code (pu1q3 p0 p1)
def pu1q5 (p0 : CodD) (p1 p2 : Nat) : I4 := G4 (pu1q4 p0 p1) p2
def pu1q6 (p0 : CodD) (p1 : Nat) : List D := [ZI (FnD.slots (pu1q3 p0 p1)), D.sl N4 (LN (pu1q4 p0 p1)) (fun (i : Nat) => (R4 (pu1q5 p0 p1 i))) Mode.any]
def pu1q7 (p0 : CodD) : Nat := LN (CodD.kers p0)
def pu1q8 (p0 : CodD) (p1 : Nat) : KeD := GK p0 p1
def pu1q9 (p0 : CodD) (p1 : Nat) : List I4 := KeD.ops (pu1q8 p0 p1)
def pu1q10 (p0 : CodD) (p1 p2 : Nat) : I4 := G4 (pu1q9 p0 p1) p2
def pu1q11 (p0 : CodD) (p1 : Nat) : List D := [ZI (KeD.inputs (pu1q8 p0 p1)), D.sl N4 (LN (pu1q9 p0 p1)) (fun (i : Nat) => (R4 (pu1q10 p0 p1 i))) Mode.any, ZI (KeD.reduce (pu1q8 p0 p1)), ZI (KeD.at_ (pu1q8 p0 p1))]
def pu1q12 (p0 : CodD) : Nat := LN (CodD.lanes p0)
def pu1q13 (p0 : CodD) (p1 : Nat) : LaD := GL p0 p1
def pu1q14 (p0 : CodD) (p1 : Nat) : List I6 := LaD.code (pu1q13 p0 p1)
def pu1q15 (p0 : CodD) (p1 p2 : Nat) : I6 := G6 (pu1q14 p0 p1) p2
def pu1q16 (p0 : CodD) (p1 : Nat) : List D := [ZI (LaD.regs (pu1q13 p0 p1)), D.sl N6 (LN (pu1q14 p0 p1)) (fun (i : Nat) => (R6 (pu1q15 p0 p1 i))) Mode.any]
def pu1q17 (p0 : CodD) : Prop := ((SM (pu1q0 p0) ∧ (∀ (i : Nat), i < pu1q0 p0 → SM (pu1q1 p0 i)) ∧ True) ∧ (SM (pu1q2 p0) ∧ (∀ (i : Nat), i < pu1q2 p0 → SM (pu1q6 p0 i)) ∧ True) ∧ (SM (pu1q7 p0) ∧ (∀ (i : Nat), i < pu1q7 p0 → SM (pu1q11 p0 i)) ∧ True) ∧ (SM (pu1q12 p0) ∧ (∀ (i : Nat), i < pu1q12 p0 → SM (pu1q16 p0 i)) ∧ True) ∧ True) ∧ True
def pu1q18 (p0 : CodD) (p1 : Nat) : List D := [ZB (BI (putL p0) p1)]
def pu1q19 (p0 : CodD) : Prop := N0 = LN (putL p0) ∧ (∀ (i : Nat), i < N0 → eqOf (List D) [] (pu1q18 p0 i)) ∧ True
def pu1q20 (p0 : List UInt8) (p1 : Nat) : List D := [ZB (BI p0 p1)]
def pu1q21 (p0 : List UInt8) : List UInt8 := bytesOf (LN p0) fun (i : Nat) => pu1q20 p0 i
def pu1q22 (p0 : List UInt8) (p1 : Nat) : D := D.sl N1 (LN p0) (fun (i : Nat) => pu1q20 p0 i) (Mode.tok N0 p1)
def pu1q23 (p0 p1 : Nat) (p2 : List UInt8) (p3 : Nat) : Prop := p0 = p1 ∧ SM (pu1q22 p2 p3)
def pu1q24 (p0 : List UInt8) : Int := (NI (sumN (pu1q21 p0)))
def pu1q25 (p0 : List UInt8) (p1 : Nat) : D := D.sl N1 (LN p0 + N1) (appF (LN p0) (fun (i : Nat) => pu1q20 p0 i) fun (i : Nat) => List.getD [[ZB (IntKind.wrap IntKind.u8 (Int.fdiv (pu1q24 p0) (16777216 : Int)))]] i []) (Mode.tok N0 p1)
def pu1q26 (p0 p1 : Nat) (p2 : List UInt8) (p3 : Nat) : Prop := p0 = p1 ∧ SM (pu1q25 p2 p3)
def pu1q27 (p0 : List UInt8) (p1 : Nat) : D := D.sl N1 (LN p0 + N1 + N1) (appF (LN p0 + N1) (appF (LN p0) (fun (i : Nat) => pu1q20 p0 i) fun (i : Nat) => List.getD [[ZB (IntKind.wrap IntKind.u8 (Int.fdiv (pu1q24 p0) (16777216 : Int)))]] i []) fun (i : Nat) => List.getD [[ZB (IntKind.wrap IntKind.u8 (Int.fdiv (pu1q24 p0) (65536 : Int)))]] i []) (Mode.tok N0 p1)
def pu1q28 (p0 p1 : Nat) (p2 : List UInt8) (p3 : Nat) : Prop := p0 = p1 ∧ SM (pu1q27 p2 p3)
def pu1q29 (p0 : List UInt8) : Nat := LN p0 + N1 + N1 + N1
def pu1q30 (p0 : List UInt8) (p1 : Nat) : D := D.sl N1 (pu1q29 p0) (appF (LN p0 + N1 + N1) (appF (LN p0 + N1) (appF (LN p0) (fun (i : Nat) => pu1q20 p0 i) fun (i : Nat) => List.getD [[ZB (IntKind.wrap IntKind.u8 (Int.fdiv (pu1q24 p0) (16777216 : Int)))]] i []) fun (i : Nat) => List.getD [[ZB (IntKind.wrap IntKind.u8 (Int.fdiv (pu1q24 p0) (65536 : Int)))]] i []) fun (i : Nat) => List.getD [[ZB (IntKind.wrap IntKind.u8 (Int.fdiv (pu1q24 p0) (256 : Int)))]] i []) (Mode.tok N0 p1)
def pu1q31 (p0 p1 : Nat) (p2 : List UInt8) (p3 : Nat) : Prop := p0 = p1 ∧ SM (pu1q30 p2 p3)
def pu1q32 (p0 : List UInt8) : Nat := pu1q29 p0 + N1
end
theorem pu_ok (c : CodD) (hc : c.ok) (hs : ∀ f, f < c.funs.length → (c.funs.getD f default).code.length ≤ 65536) (hz : rightC c = 0 → szOk c) :
    ACalls Try.prog 13 [.agg c.row] ⟨[], []⟩ (SpecR (sC [.agg c.row] (.tup [bsl (putL c) .any, .int .i64 (putE c)])) ()) := by
  refine con_of (A := sC _ _) (x := ()) (E := Epu c) (eOk (conPu_ok hc hs) rfl) Try.func13 rfl (by kernel_rfl) rfl (by simp [sC, Epu, EC, E0]) ?_
  refine vc_eq (T :=
    ∀ (x : Nat), True → SM x ∧ pu1q17 c ∧ ∀ (y : Unit), True → ifB (rightC c != Z0) (True ∧ ∃ (y : Unit), True ∧ (pu1q19 c ∧ rightC c = putE c ∧ True) ∧ True ∧ True) (True ∧ ∀ (x_1 : Nat), x ≠ x_1 ∧ True → SM x ∧ ∃ (x : Nat × List UInt8), (x_1 = x.1 ∧ pu1q17 c) ∧ ((x_1 = x.1 ∧ ((N4 = LN x.2 ∧ (∀ (i : Nat), i < N4 → List.getD [[ZB (65 : Int)], [ZB (76 : Int)], [ZB (67 : Int)], [ZB (49 : Int)]] i [] = pu1q20 x.2 i) ∧ True) ∧ True) ∧ True) ∧ True) ∧ (LN x.2 + LN (codeB c) ≤ (35184372088832 : Nat) ∧ ∀ (a : Arr), a ∈ CodD.consts c → (10 : Nat) * szA a ≤ (35184372088832 : Nat)) ∧ ∀ (y : Nat × List UInt8), y.2 = x.2 ++ codeB c → x.1 = x_1 ∧ ((rowsB (LN y.2) fun (i : Nat) => pu1q20 y.2 i) = true ∧ LN (pu1q21 y.2) ≤ (9223372036854775807 : Nat)) ∧ ∀ (y_1 : Unit), True → x.1 = x_1 ∧ pu1q23 x.1 x_1 y.2 y.1 ∧ pu1q23 x.1 x_1 y.2 y.1 ∧ SM y.1 ∧ side ((LN y.2 + N1) * N1 ≤ (140737488355328 : Nat) ∧ LN y.2 + N1 ≤ (9223372036854775807 : Nat)) (∀ (t : Nat), x.1 = x_1 ∧ x.1 = x_1 ∧ pu1q26 x.1 x_1 y.2 t ∧ pu1q26 x.1 x_1 y.2 t ∧ SM t ∧ side ((LN y.2 + N1 + N1) * N1 ≤ (140737488355328 : Nat) ∧ LN y.2 + N1 + N1 ≤ (9223372036854775807 : Nat)) (∀ (t : Nat), x.1 = x_1 ∧ x.1 = x_1 ∧ pu1q28 x.1 x_1 y.2 t ∧ pu1q28 x.1 x_1 y.2 t ∧ SM t ∧ side (pu1q29 y.2 * N1 ≤ (140737488355328 : Nat) ∧ pu1q29 y.2 ≤ (9223372036854775807 : Nat)) (∀ (t : Nat), x.1 = x_1 ∧ x.1 = x_1 ∧ pu1q31 x.1 x_1 y.2 t ∧ pu1q31 x.1 x_1 y.2 t ∧ SM t ∧ side (pu1q32 y.2 * N1 ≤ (140737488355328 : Nat) ∧ pu1q32 y.2 ≤ (9223372036854775807 : Nat)) (∀ (t : Nat), x.1 = x_1 ∧ x.1 = x_1 ∧ ifB (decide ((1048576 : Int) < (NI (pu1q32 y.2)))) (True ∧ ∃ (y : Unit), True ∧ (pu1q19 c ∧ (21 : Int) = putE c ∧ True) ∧ True ∧ True) (x.1 = x_1 ∧ True ∧ ∃ (y_2 : Unit), True ∧ ((pu1q32 y.2 = LN (putL c) ∧ (∀ (i : Nat), i < pu1q32 y.2 → appF (pu1q29 y.2) (appF (LN y.2 + N1 + N1) (appF (LN y.2 + N1) (appF (LN y.2) (fun (i : Nat) => pu1q20 y.2 i) fun (i : Nat) => List.getD [[ZB (IntKind.wrap IntKind.u8 (Int.fdiv (pu1q24 y.2) (16777216 : Int)))]] i []) fun (i : Nat) => List.getD [[ZB (IntKind.wrap IntKind.u8 (Int.fdiv (pu1q24 y.2) (65536 : Int)))]] i []) fun (i : Nat) => List.getD [[ZB (IntKind.wrap IntKind.u8 (Int.fdiv (pu1q24 y.2) (256 : Int)))]] i []) (fun (i : Nat) => List.getD [[ZB (IntKind.wrap IntKind.u8 (Int.fdiv (pu1q24 y.2) Z1))]] i []) i = pu1q18 c i) ∧ True) ∧ Z0 = putE c ∧ True) ∧ True ∧ True))))))) (by kernel_rfl) ?_
  delta BI D4 D6 DA DF DK DL G4 G6 GC GF GK GL LN N0 N1 N4 N6 NI R4 R6 SM U0 Z0 Z1 ZB ZI pu1q0 pu1q1 pu1q10 pu1q11 pu1q12 pu1q13 pu1q14 pu1q15 pu1q16 pu1q17 pu1q18 pu1q19 pu1q2 pu1q20 pu1q21 pu1q22 pu1q23 pu1q24 pu1q25 pu1q26 pu1q27 pu1q28 pu1q29 pu1q3 pu1q30 pu1q31 pu1q32 pu1q4 pu1q5 pu1q6 pu1q7 pu1q8 pu1q9
  simp only [eq_self, ne_eq, implies_true, ifB_iff, side_iff, decide_eq_true_eq, decide_eq_false_iff_not, true_and, and_true, exists_const, forall_const, Prod.forall, forall_eq, bytesOf_bsl, rowsB_bsl]
  refine fun x => ⟨fun hr => ?_, fun hr x1 _ => ?_⟩
  · have hr' : rightC c ≠ 0 := by simpa using hr
    have e : putE c = rightC c := by unfold putE; rw [if_pos hr']
    have e2 : putL c = [] := by unfold putL; rw [if_pos (by rw [e]; exact hr')]
    exact ⟨⟨by rw [e2]; rfl, fun i hi => absurd hi (Nat.not_lt_zero i)⟩, e.symm⟩
  have hr' : rightC c = 0 := by simpa using hr
  obtain ⟨z1, z2⟩ := hz hr'
  have hlen : ([65, 76, 67, 49] ++ codeB c : List UInt8).length = (codeB c).length + 4 := by simp
  have hsl : (sealB (codeB c)).length = (codeB c).length + 8 := by simp [sealB, sumB]
  refine ⟨(x1, [65, 76, 67, 49]), rfl, ⟨rfl, rfl, rows_eq (by kernel_rfl)⟩, ⟨by simp only [List.length_cons, List.length_nil]; omega, fun a ha => by have := z2 a ha; omega⟩, rfl, ?_⟩
  simp only [hlen, true_and]
  refine ⟨by omega, by omega, by omega, by omega, by omega, fun hg => ?_, fun hg => ?_⟩
  · have e : putE c = 21 := by unfold putE; rw [if_neg (by rw [hr']; simp), if_pos (by omega)]
    have e2 : putL c = [] := by unfold putL; rw [if_pos (by rw [e]; simp)]
    exact ⟨⟨by rw [e2]; rfl, fun i hi => absurd hi (Nat.not_lt_zero i)⟩, e.symm⟩
  · have e : putE c = 0 := by unfold putE; rw [if_neg (by rw [hr']; simp), if_neg (by omega)]
    have e2 : putL c = sealB (codeB c) := by unfold putL; rw [if_neg (by rw [e]; simp)]
    rw [e, e2, hsl]
    refine ⟨⟨by omega, fun i hi => ?_⟩, rfl⟩
    have es : sealB (codeB c) = ((([65, 76, 67, 49] ++ codeB c ++ [UInt8.ofNat (sumN ([65, 76, 67, 49] ++ codeB c) / 16777216)]) ++ [UInt8.ofNat (sumN ([65, 76, 67, 49] ++ codeB c) / 65536)]) ++ [UInt8.ofNat (sumN ([65, 76, 67, 49] ++ codeB c) / 256)]) ++ [UInt8.ofNat (sumN ([65, 76, 67, 49] ++ codeB c))] := by
      simp [sealB, sumB]
    rw [es]
    refine app_row' (by simp) (app_row' (by simp) (app_row' (by simp) (app_row' (by simp) (fun _ _ => rfl) (wrapD _ 16777216)) (wrapD _ 65536)) (wrapD _ 256)) ?_ i (by omega)
    have := wrapD (sumN ([65, 76, 67, 49] ++ codeB c)) 1
    rw [Nat.div_one] at this
    exact this
end Go.Proofs.Ytoglbmhkfkghbaa
namespace Go.Proofs.Ytoglbmhkfkghbaa
open Go Go.Ab
set_option maxRecDepth 100000
theorem bytesOf_eq {n : Nat} {l : List UInt8} {F : Nat → List D} (hn : n = l.length) (hF : ∀ i, i < n → F i = [D.int .u8 ((l.getD i 0).toNat : Int)]) : bytesOf n F = l := by
  subst hn
  conv => rhs; rw [← bytesOf_bsl l]
  unfold bytesOf
  exact List.map_congr_left fun i hi => by rw [hF i (List.mem_range.1 hi)]
theorem rowsB_eq {n : Nat} {l : List UInt8} {F : Nat → List D} (hn : n = l.length) (hF : ∀ i, i < n → F i = [D.int .u8 ((l.getD i 0).toNat : Int)]) : rowsB n F = true := by
  subst hn
  have h := rowsB_bsl l
  simp only [rowsB, List.all_eq_true, List.mem_range] at h ⊢
  intro i hi
  rw [hF i hi]; exact h i hi
end Go.Proofs.Ytoglbmhkfkghbaa
namespace Go.Proofs.Ytoglbmhkfkghbaa
open Go Go.Ab
mutual
def cntA : Arr → Int
  | .mk _ _ n is => cntL is (IntKind.i64.wrap ((n.length : Int) + is.length))
def cntL : List Arr → Int → Int
  | [], t => t
  | x :: r, t => cntL r (IntKind.i64.wrap (t + cntA x))
end
theorem cntA_eq (a : Arr) : cntA a = cntL a.it (IntKind.i64.wrap ((a.nu.length : Int) + a.it.length)) := by
  cases a with
  | mk k s n is => rw [cntA]; rfl
def conCn (its : List Arr) : Con := fun k _ _ => match k with
  | 32 => some (sRc Arr.row1 (fun b => b ∈ its) (fun b => .int .i64 (cntA b)))
  | _ => none
theorem conCn_ok {its : List Arr} (ih : ∀ b ∈ its, ACalls Try.prog 32 ((sRc Arr.row2 (fun _ => True) (fun b => .int .i64 (cntA b))).args b) ⟨[], []⟩ (SpecR (sRc Arr.row2 (fun _ => True) (fun b => .int .i64 (cntA b))) b)) : ConOk Try.prog (conCn its) := by
  intro k ds S A h
  unfold conCn at h
  split at h
  · injection h with h; subst h
    exact ConOk.plain (fun b hb => sRc_row (ih b hb)) rfl rfl
  · cases h
noncomputable def Ecn (a : Arr) : Senv := { EC (conCn a.it) 28 5 [16] (fun _ => ([], [])) with
  ann := fun b _ S => match b with
    | 0 => some { slots := [3, 4], keep := [0, 1, 2], α := Nat × Int, st := fun y => ([.int .i64 y.2, .int .i64 y.1], S), inv := fun y => y.1 ≤ a.it.length ∧ cntL (a.it.drop y.1) y.2 = cntA a, mu := fun y => a.it.length - y.1 }
    | _ => none }
noncomputable section
def fe1q0 (p0 : Arr) : List Arr := Arr.it p0
def fe1q1 (p0 : Arr) : Nat := LN (fe1q0 p0)
def fe1q2 (p0 : Nat) (p1 : Arr) (p2 : Int) : Prop := p0 ≤ fe1q1 p1 ∧ cntL (List.drop p0 (fe1q0 p1)) p2 = cntA p1
def fe1q3 (p0 : Arr) : Nat := LN (Arr.nu p0)
def fe1q4 (p0 : Arr) : Int := (NI (fe1q1 p0))
def fe1q5 (p0 : Arr) : Int := Arr.k p0
def fe1q6 (p0 : Arr) : Nat := LN (Arr.sh p0)
def fe1q7 (p0 : Arr) (p1 : Nat) : List D := [ZI (GI (Arr.sh p0) p1)]
def fe1q8 (p0 : Arr) (p1 : Nat) : List D := [ZI (GI (Arr.nu p0) p1)]
def fe1q9 : Arr := DA
def fe1q10 (p0 : Arr) (p1 : Nat) : Arr := List.getD (fe1q0 p0) p1 fe1q9
def fe1q11 (p0 : Arr) (p1 : Nat) : List Int := Arr.sh (fe1q10 p0 p1)
def fe1q12 (p0 : Arr) (p1 : Nat) : List Int := Arr.nu (fe1q10 p0 p1)
def fe1q13 (p0 : Arr) (p1 : Nat) : List Arr := Arr.it (fe1q10 p0 p1)
def fe1q14 (p0 : Arr) (p1 : Nat) : List D := [ZI (Arr.k (fe1q10 p0 p1)), SI (fe1q11 p0 p1), SI (fe1q12 p0 p1), D.sl N4 (LN (fe1q13 p0 p1)) (fun (i : Nat) => Arr.row (List.getD (fe1q13 p0 p1) i fe1q9)) Mode.any]
def fe1q15 (p0 : Nat) (p1 : Arr) : Prop := (SM p0 ∧ (SM (fe1q5 p1) ∧ (SM (fe1q6 p1) ∧ (∀ (i : Nat), i < fe1q6 p1 → SM (fe1q7 p1 i)) ∧ True) ∧ (SM (fe1q3 p1) ∧ (∀ (i : Nat), i < fe1q3 p1 → SM (fe1q8 p1 i)) ∧ True) ∧ (SM (fe1q1 p1) ∧ (∀ (i : Nat), i < fe1q1 p1 → SM (fe1q14 p1 i)) ∧ True) ∧ True) ∧ True) ∧ True
def fe1q16 (p0 : Arr) (p1 : Nat) : Arr := List.getD (fe1q0 p0) (Int.toNat (↑p1 : Int)) fe1q9
def fe1q17 (p0 : Arr) (p1 : Nat) : List Int := Arr.sh (fe1q16 p0 p1)
def fe1q18 (p0 : Arr) (p1 : Nat) : Nat := LN (fe1q17 p0 p1)
def fe1q19 (p0 : Arr) (p1 : Nat) : List Int := Arr.nu (fe1q16 p0 p1)
def fe1q20 (p0 : Arr) (p1 : Nat) : Nat := LN (fe1q19 p0 p1)
def fe1q21 (p0 : Arr) (p1 : Nat) : List Arr := Arr.it (fe1q16 p0 p1)
def fe1q22 (p0 : Arr) (p1 : Nat) : Nat := LN (fe1q21 p0 p1)
def fe1q23 (p0 : Arr) : D := D.agg [ZI (fe1q5 p0), D.sl N1 (fe1q6 p0) (fun (i : Nat) => fe1q7 p0 i) Mode.any, D.sl N1 (fe1q3 p0) (fun (i : Nat) => fe1q8 p0 i) Mode.any, D.sl N4 (fe1q1 p0) (fun (i : Nat) => fe1q14 p0 i) Mode.any]
end
theorem cn_step (a : Arr) (ha : a.nu.length ≤ maxLen ∧ a.it.length ≤ maxLen ∧ a.sh.length ≤ maxLen) (ih : ∀ b ∈ a.it, ACalls Try.prog 32 ((sRc Arr.row2 (fun _ => True) (fun b => .int .i64 (cntA b))).args b) ⟨[], []⟩ (SpecR (sRc Arr.row2 (fun _ => True) (fun b => .int .i64 (cntA b))) b)) :
    ACalls Try.prog 32 ((sRc Arr.row2 (fun _ => True) (fun b => .int .i64 (cntA b))).args a) ⟨[], []⟩ (SpecR (sRc Arr.row2 (fun _ => True) (fun b => .int .i64 (cntA b))) a) := by
  refine con_of (A := sRc Arr.row2 (fun _ => True) (fun b => .int .i64 (cntA b))) (x := a) (E := Ecn a) (eOk (conCn_ok ih) rfl) Try.func32 rfl (by kernel_rfl) rfl (by simp [sRc, Ecn, EC, E0]) ?_
  refine vc_eq (T :=
    ∀ (x : Nat), True → SM x ∧ SM x ∧ (∃ (x_1 : Nat × Int), fe1q2 x_1.1 a x_1.2 ∧ (IntKind.wrap IntKind.i64 ((NI (fe1q3 a)) + fe1q4 a) = x_1.2 ∧ Z0 = (NI x_1.1) ∧ True) ∧ fe1q15 x a) ∧ ∀ (x_1 : Nat × Int), fe1q2 x_1.1 a x_1.2 → SM x ∧ ifB (decide ((NI x_1.1) < fe1q4 a)) (SM x ∧ side (Z0 ≤ (NI x_1.1) ∧ (NI x_1.1) < fe1q4 a) (∃ (x_2 : Arr), ((Arr.k (fe1q16 a x_1.1) = fe1q5 x_2 ∧ (fe1q18 a x_1.1 = fe1q6 x_2 ∧ (∀ (i : Nat), i < fe1q18 a x_1.1 → [ZI (GI (fe1q17 a x_1.1) i)] = fe1q7 x_2 i) ∧ True) ∧ (fe1q20 a x_1.1 = fe1q3 x_2 ∧ (∀ (i : Nat), i < fe1q20 a x_1.1 → [ZI (GI (fe1q19 a x_1.1) i)] = fe1q8 x_2 i) ∧ True) ∧ (fe1q22 a x_1.1 = fe1q1 x_2 ∧ (∀ (i : Nat), i < fe1q22 a x_1.1 → Arr.row (List.getD (fe1q21 a x_1.1) i fe1q9) = Arr.row (fe1q10 x_2 i)) ∧ True) ∧ True) ∧ True) ∧ (True ∧ True) ∧ x_2 ∈ fe1q0 a ∧ ∀ (y : Unit), True → (SM (fe1q23 a) ∧ SM (D.ref N0 x N0) ∧ SM (ZI Z0) ∧ True) ∧ ∃ (y : Nat × Int), fe1q2 y.1 a y.2 ∧ fe1q1 a - y.1 < fe1q1 a - x_1.1 ∧ (IntKind.wrap IntKind.i64 (x_1.2 + cntA x_2) = y.2 ∧ IntKind.wrap IntKind.i64 ((NI x_1.1) + Z1) = (NI y.1) ∧ True) ∧ fe1q15 x a)) (True ∧ ∃ (y : Unit), True ∧ x_1.2 = cntA a ∧ True ∧ True)) (by kernel_rfl) ?_
  delta DA GI LN N0 N1 N4 NI SI SM Z0 Z1 ZI fe1q0 fe1q1 fe1q10 fe1q11 fe1q12 fe1q13 fe1q14 fe1q15 fe1q16 fe1q17 fe1q18 fe1q19 fe1q2 fe1q20 fe1q21 fe1q22 fe1q23 fe1q3 fe1q4 fe1q5 fe1q6 fe1q7 fe1q8 fe1q9
  have da : (default : Arr) = Arr.mk 0 [] [] [] := rfl
  simp only [← da, eq_self, implies_true, Int.toNat_natCast, ifB_iff, side_iff, decide_eq_true_eq, decide_eq_false_iff_not, true_and, and_true, exists_const, forall_const]
  obtain ⟨l1, l2, l3⟩ := ha
  simp only [maxLen] at l1 l2 l3
  refine ⟨⟨(0, _), ⟨Nat.zero_le _, (cntA_eq a).symm⟩, rfl, rfl⟩, ?_⟩
  rintro ⟨j, n⟩ ⟨b1, hch⟩
  simp only at b1 hch ⊢
  refine ⟨fun h1 => ⟨by omega, ?_⟩, fun hc => ?_⟩
  · have hlt' : j < a.it.length := by omega
    rw [drop_step hlt', cntL] at hch
    exact ⟨a.it.getD j default, ⟨rfl, ⟨rfl, fun _ _ => rfl⟩, ⟨rfl, fun _ _ => rfl⟩, rfl, fun _ _ => rfl⟩, mem_getD hlt', (j + 1, _), ⟨by simp only; omega, hch⟩, by simp only; omega, rfl, wrap_i64' (by omega) (by omega)⟩
  · have hj : j = a.it.length := by omega
    rw [hj, List.drop_length, cntL] at hch
    exact hch
theorem cn_all : ∀ (a : Arr), a.ok → ACalls Try.prog 32 ((sRc Arr.row2 (fun _ => True) (fun b => .int .i64 (cntA b))).args a) ⟨[], []⟩ (SpecR (sRc Arr.row2 (fun _ => True) (fun b => .int .i64 (cntA b))) a)
  | .mk k s n is, h => by
    have h' := h
    simp only [Arr.ok] at h'
    obtain ⟨_, _, _, h1, h2, h3, h4⟩ := h'
    refine cn_step (.mk k s n is) ⟨h2, h3, h1⟩ fun b hb => ?_
    have hb' : b ∈ is := hb
    exact cn_all b ((okL_iff _).1 h4 b hb')
termination_by a => SizeOf.sizeOf a
decreasing_by
  have := List.sizeOf_lt_of_mem hb'
  simp; omega
end Go.Proofs.Ytoglbmhkfkghbaa
namespace Go.Proofs.Ytoglbmhkfkghbaa
open Go Go.Ab
def fewA (a : Arr) (z : Int) : Bool := decide ((a.sh.length : Int) ≤ 20) && decide (cntA a ≤ z)
def sFw (row : Arr → List D) (q : Arr → Prop) : FnSpec where
  β := Arr × Int
  α := Unit
  args := fun y => [.agg (row y.1), .int .i64 y.2]
  st := fun _ => ⟨[], []⟩
  pre := fun y => q y.1
  post := fun _ _ => True
  res := fun y _ => .ret (.bool (fewA y.1 y.2))
  out := fun _ _ => ⟨[], []⟩
def conFw (a : Arr) : Con := fun k _ _ => match k with
  | 32 => some (sRc Arr.row1 (fun b => b = a) (fun b => .int .i64 (cntA b)))
  | _ => none
theorem conFw_ok {a : Arr} (ha : a.ok) : ConOk Try.prog (conFw a) := by
  intro k ds S A h
  unfold conFw at h
  split at h
  · injection h with h; subst h
    refine ConOk.plain (fun b hb => ?_) rfl rfl
    have hb : b = a := hb
    rw [hb]
    exact sRc_row (cn_all a ha)
  · cases h
noncomputable def Efw (a : Arr) : Senv := EC (conFw a) 15 3 [4] (fun _ => ([], []))
noncomputable section
def fe2q0 (p0 : Arr) : Nat := LN (Arr.sh p0)
def fe2q1 (p0 : Arr) (p1 : Nat) : List D := Arr.row (GA (Arr.it p0) p1)
end
theorem fw_ok (a : Arr) (ha : a.ok) (z : Int) : ACalls Try.prog 19 ((sFw Arr.row1 (fun _ => True)).args (a, z)) ⟨[], []⟩ (SpecR (sFw Arr.row1 (fun _ => True)) (a, z)) := by
  refine con_of (A := sFw Arr.row1 (fun _ => True)) (x := (a, z)) (E := Efw a) (eOk (conFw_ok ha) rfl) Try.func19 rfl (by kernel_rfl) rfl (by simp [sFw, Efw, EC, E0]) ?_
  simp only [sFw]
  refine vc_eq (T :=
    ∀ (x : Nat), True → SM x ∧ ifB (decide ((NI (fe2q0 a)) ≤ (20 : Int))) (SM x ∧ ∃ (x : Arr), ((Arr.k a = Arr.k x ∧ (fe2q0 a = fe2q0 x ∧ (∀ (i : Nat), i < fe2q0 a → [ZI (GI (Arr.sh a) i)] = [ZI (GI (Arr.sh x) i)]) ∧ True) ∧ (LN (Arr.nu a) = LN (Arr.nu x) ∧ (∀ (i : Nat), i < LN (Arr.nu a) → [ZI (GI (Arr.nu a) i)] = [ZI (GI (Arr.nu x) i)]) ∧ True) ∧ (LN (Arr.it a) = LN (Arr.it x) ∧ (∀ (i : Nat), i < LN (Arr.it a) → fe2q1 a i = fe2q1 x i) ∧ True) ∧ True) ∧ True) ∧ (True ∧ True) ∧ x = a ∧ ∀ (y : Unit), True → True ∧ ∃ (y : Unit), True ∧ decide (cntA x ≤ z) = fewA a z ∧ True ∧ True) (True ∧ ∃ (y : Unit), True ∧ false = fewA a z ∧ True ∧ True)) (by kernel_rfl) ?_
  delta DA GA GI LN NI SM Z0 ZI fe2q0 fe2q1
  intro x _
  simp only [eq_self, ifB_iff, decide_eq_true_eq, decide_eq_false_iff_not, true_and, and_true, exists_const, forall_const]
  refine ⟨fun h => ⟨a, ⟨rfl, ⟨rfl, fun _ _ => rfl⟩, ⟨rfl, fun _ _ => rfl⟩, rfl, fun _ _ => rfl⟩, rfl, by simp [fewA, h]⟩, fun h => by simp [fewA, h]⟩
end Go.Proofs.Ytoglbmhkfkghbaa
namespace Go.Proofs.Ytoglbmhkfkghbaa
open Go Go.Ab
def fewC (c : CodD) : Bool :=
  decide ((c.consts.length : Int) ≤ 40) && decide ((c.funs.length : Int) ≤ 20) && decide ((c.kers.length : Int) ≤ 20) && decide ((c.lanes.length : Int) ≤ 20) &&
  !(c.consts.any fun a => !fewA a 100) && !(c.funs.any fun f => decide (300 < (f.code.length : Int))) && !(c.kers.any fun f => decide (300 < (f.ops.length : Int))) && !(c.lanes.any fun f => decide (300 < (f.code.length : Int)))
def conFc (c : CodD) : Con := fun k _ _ => match k with
  | 19 => some (sFw Arr.row (fun b => b ∈ c.consts))
  | _ => none
theorem conFc_ok {c : CodD} (hc : c.ok) : ConOk Try.prog (conFc c) := by
  intro k ds S A h
  unfold conFc at h
  split at h
  · injection h with h; subst h
    refine ConOk.plain (fun b hb => ?_) rfl rfl
    obtain ⟨a, z⟩ := b
    refine ((fw_ok a (hc.1 a hb) z).wkArgs ?_).mono fun _ _ ⟨y, h1, h2, h3⟩ => ⟨y, h1, h2, h3⟩
    simp only [sFw, wkL, wkD]
    exact ⟨row_wk a, by simp [weakD, chk_iff, kEq]⟩
  · cases h
noncomputable def Efc (c : CodD) : Senv := { EC (conFc c) 88 7 [28, 33, 42, 47, 57, 62, 72, 77, 87] (fun _ => ([], [])) with
  ann := fun b _ S => match b with
    | 0 => some { slots := [3], keep := [0, 1, 2], α := Nat, st := fun i => ([.int .i64 i], S), inv := fun i => IdxG (fun a => !fewA a 100) c.consts i, mu := fun i => c.consts.length - i }
    | 2 => some { slots := [4], keep := [0, 1, 2], α := Nat, st := fun i => ([.int .i64 i], S), inv := fun i => IdxG (fun f => decide (300 < (f.code.length : Int))) c.funs i, mu := fun i => c.funs.length - i }
    | 4 => some { slots := [5], keep := [0, 1, 2], α := Nat, st := fun i => ([.int .i64 i], S), inv := fun i => IdxG (fun f => decide (300 < (f.ops.length : Int))) c.kers i, mu := fun i => c.kers.length - i }
    | 6 => some { slots := [6], keep := [0, 1, 2], α := Nat, st := fun i => ([.int .i64 i], S), inv := fun i => IdxG (fun f => decide (300 < (f.code.length : Int))) c.lanes i, mu := fun i => c.lanes.length - i }
    | _ => none }
noncomputable section
def fe3q0 (p0 : CodD) : List Arr := CodD.consts p0
def fe3q1 (p0 : CodD) : Nat := LN (fe3q0 p0)
def fe3q2 (p0 : CodD) : Int := (NI (fe3q1 p0))
def fe3q3 (p0 : CodD) : Bool := decide ((40 : Int) < fe3q2 p0)
def fe3q4 (p0 : CodD) : List FnD := CodD.funs p0
def fe3q5 (p0 : CodD) : Nat := LN (fe3q4 p0)
def fe3q6 (p0 : CodD) : Int := (NI (fe3q5 p0))
def fe3q7 (p0 : CodD) : Bool := decide ((20 : Int) < fe3q6 p0)
def fe3q8 (p0 : CodD) : List KeD := CodD.kers p0
def fe3q9 (p0 : CodD) : Nat := LN (fe3q8 p0)
def fe3q10 (p0 : CodD) : Int := (NI (fe3q9 p0))
def fe3q11 (p0 : CodD) : Bool := decide ((20 : Int) < fe3q10 p0)
def fe3q12 (p0 : CodD) : List LaD := CodD.lanes p0
def fe3q13 (p0 : CodD) : Nat := LN (fe3q12 p0)
def fe3q14 (p0 : CodD) : Int := (NI (fe3q13 p0))
def fe3q15 (p0 : CodD) : Bool := decide ((20 : Int) < fe3q14 p0)
def fe3q16 (p0 : CodD) : Bool := bif bif bif fe3q3 p0 then true else fe3q7 p0 then true else fe3q11 p0 then true else fe3q15 p0
def fe3q17 (p0 : CodD) : Prop := true = fe3q16 p0 ∧ True
def fe3q18 (p0 : CodD) : Prop := True ∧ ∃ (_y : Unit), True ∧ false = fewC p0 ∧ True ∧ True
def fe3q19 (p0 : CodD) (p1 : Nat) : Prop := IdxG (fun (a : Arr) => !fewA a (100 : Int)) (fe3q0 p0) p1
def fe3q20 : Arr := DA
def fe3q21 (p0 : CodD) (p1 : Nat) : List D := Arr.row (List.getD (fe3q0 p0) p1 fe3q20)
def fe3q22 (p0 : CodD) (p1 : Nat) : FnD := List.getD (fe3q4 p0) p1 DF
def fe3q23 (p0 : CodD) (p1 : Nat) : List I4 := FnD.code (fe3q22 p0 p1)
def fe3q24 (p0 : CodD) (p1 p2 : Nat) : I4 := G4 (fe3q23 p0 p1) p2
def fe3q25 (p0 : CodD) (p1 : Nat) : List D := [ZI (FnD.slots (fe3q22 p0 p1)), D.sl N4 (LN (fe3q23 p0 p1)) (fun (i : Nat) => (R4 (fe3q24 p0 p1 i))) Mode.any]
def fe3q26 : KeD := DK
def fe3q27 (p0 : CodD) (p1 : Nat) : KeD := List.getD (fe3q8 p0) p1 fe3q26
def fe3q28 (p0 : CodD) (p1 : Nat) : List I4 := KeD.ops (fe3q27 p0 p1)
def fe3q29 (p0 : CodD) (p1 p2 : Nat) : I4 := G4 (fe3q28 p0 p1) p2
def fe3q30 (p0 : CodD) (p1 : Nat) : List D := [ZI (KeD.inputs (fe3q27 p0 p1)), D.sl N4 (LN (fe3q28 p0 p1)) (fun (i : Nat) => (R4 (fe3q29 p0 p1 i))) Mode.any, ZI (KeD.reduce (fe3q27 p0 p1)), ZI (KeD.at_ (fe3q27 p0 p1))]
def fe3q31 (p0 : CodD) (p1 : Nat) : LaD := List.getD (fe3q12 p0) p1 DL
def fe3q32 (p0 : CodD) (p1 : Nat) : List I6 := LaD.code (fe3q31 p0 p1)
def fe3q33 (p0 : CodD) (p1 p2 : Nat) : I6 := G6 (fe3q32 p0 p1) p2
def fe3q34 (p0 : CodD) (p1 : Nat) : List D := [ZI (LaD.regs (fe3q31 p0 p1)), D.sl N6 (LN (fe3q32 p0 p1)) (fun (i : Nat) => (R6 (fe3q33 p0 p1 i))) Mode.any]
def fe3q35 (p0 : Nat) (p1 : CodD) : Prop := (SM p0 ∧ ((SM (fe3q1 p1) ∧ (∀ (i : Nat), i < fe3q1 p1 → SM (fe3q21 p1 i)) ∧ True) ∧ (SM (fe3q5 p1) ∧ (∀ (i : Nat), i < fe3q5 p1 → SM (fe3q25 p1 i)) ∧ True) ∧ (SM (fe3q9 p1) ∧ (∀ (i : Nat), i < fe3q9 p1 → SM (fe3q30 p1 i)) ∧ True) ∧ (SM (fe3q13 p1) ∧ (∀ (i : Nat), i < fe3q13 p1 → SM (fe3q34 p1 i)) ∧ True) ∧ True) ∧ True) ∧ True
def fe3q36 (p0 p1 : Nat) (p2 : CodD) : Prop := (Z0 = (↑p0 : Int) ∧ True) ∧ fe3q35 p1 p2
def fe3q37 (p0 : CodD) (p1 : Nat) : List D := Arr.row (List.getD (fe3q0 p0) (Int.toNat (↑p1 : Int)) fe3q20)
def fe3q38 (p0 : CodD) : D := D.agg [D.sl N4 (fe3q1 p0) (fun (i : Nat) => fe3q21 p0 i) Mode.any, D.sl N2 (fe3q5 p0) (fun (i : Nat) => fe3q25 p0 i) Mode.any, D.sl N4 (fe3q9 p0) (fun (i : Nat) => fe3q30 p0 i) Mode.any, D.sl N2 (fe3q13 p0) (fun (i : Nat) => fe3q34 p0 i) Mode.any]
def fe3q39 (p0 : CodD) (p1 : Nat) : Prop := SM (fe3q38 p0) ∧ SM (D.ref N0 p1 N0) ∧ SM (D.bool false) ∧ True
def fe3q40 (p0 p1 p2 : Nat) (p3 : CodD) : Prop := (IntKind.wrap IntKind.i64 ((↑p0 : Int) + Z1) = (↑p1 : Int) ∧ True) ∧ fe3q35 p2 p3
def fe3q41 (p0 : CodD) (p1 : Nat) : Prop := IdxG (fun (f : FnD) => decide ((300 : Int) < (LI (FnD.code f)))) (fe3q4 p0) p1
def fe3q42 (p0 : CodD) (p1 : Nat) : Prop := IdxG (fun (f : KeD) => decide ((300 : Int) < (LI (KeD.ops f)))) (fe3q8 p0) p1
def fe3q43 (p0 : CodD) (p1 : Nat) : Prop := IdxG (fun (f : LaD) => decide ((300 : Int) < (LI (LaD.code f)))) (fe3q12 p0) p1
end
theorem fc_ok (c : CodD) (hc : c.ok) : ACalls Try.prog 12 [.agg c.row] ⟨[], []⟩ (SpecR (sC [.agg c.row] (.bool (fewC c))) ()) := by
  refine con_of (A := sC _ _) (x := ()) (E := Efc c) (eOk (conFc_ok hc) rfl) Try.func12 rfl (by kernel_rfl) rfl (by simp [sC, Efc, EC, E0]) ?_
  refine vc_eq (T :=
    ∀ (x : Nat), True → (SM x ∧ ifB (fe3q3 c) (fe3q17 c) (SM x ∧ ifB (fe3q7 c) (fe3q17 c) (SM x ∧ ifB (fe3q11 c) (fe3q17 c) (SM x ∧ fe3q15 c = fe3q16 c ∧ True)))) ∧ ifB (fe3q16 c) (fe3q18 c) ((∃ (x_1 : Nat), fe3q19 c x_1 ∧ fe3q36 x_1 x c) ∧ ∀ (x_1 : Nat), fe3q19 c x_1 → SM x ∧ ifB (decide ((↑x_1 : Int) < fe3q2 c)) (SM x ∧ side (Z0 ≤ (↑x_1 : Int) ∧ (↑x_1 : Int) < fe3q2 c) (side (N4 ≤ LN (fe3q37 c x_1)) (∃ (x_2 : Arr × Int), (weakL (List.take N4 (List.drop N0 (fe3q37 c x_1))) (Arr.row x_2.1) ∧ (100 : Int) = x_2.2 ∧ True) ∧ (True ∧ True) ∧ x_2.1 ∈ fe3q0 c ∧ ∀ (y : Unit), True → ifB (!fewA x_2.1 x_2.2) (fe3q18 c) (fe3q39 c x ∧ ∃ (y : Nat), fe3q19 c y ∧ fe3q1 c - y < fe3q1 c - x_1 ∧ fe3q40 x_1 y x c)))) ((∃ (x_2 : Nat), fe3q41 c x_2 ∧ fe3q36 x_2 x c) ∧ ∀ (x_2 : Nat), fe3q41 c x_2 → SM x ∧ ifB (decide ((↑x_2 : Int) < fe3q6 c)) (SM x ∧ side (Z0 ≤ (↑x_2 : Int) ∧ (↑x_2 : Int) < fe3q6 c) (ifB (decide ((300 : Int) < (LI (FnD.code (List.getD (fe3q4 c) (Int.toNat (↑x_2 : Int)) DF))))) (fe3q18 c) (fe3q39 c x ∧ ∃ (y : Nat), fe3q41 c y ∧ fe3q5 c - y < fe3q5 c - x_2 ∧ fe3q40 x_2 y x c))) ((∃ (x_3 : Nat), fe3q42 c x_3 ∧ fe3q36 x_3 x c) ∧ ∀ (x_3 : Nat), fe3q42 c x_3 → SM x ∧ ifB (decide ((↑x_3 : Int) < fe3q10 c)) (SM x ∧ side (Z0 ≤ (↑x_3 : Int) ∧ (↑x_3 : Int) < fe3q10 c) (ifB (decide ((300 : Int) < (LI (KeD.ops (List.getD (fe3q8 c) (Int.toNat (↑x_3 : Int)) fe3q26))))) (fe3q18 c) (fe3q39 c x ∧ ∃ (y : Nat), fe3q42 c y ∧ fe3q9 c - y < fe3q9 c - x_3 ∧ fe3q40 x_3 y x c))) ((∃ (x_4 : Nat), fe3q43 c x_4 ∧ fe3q36 x_4 x c) ∧ ∀ (x_4 : Nat), fe3q43 c x_4 → SM x ∧ ifB (decide ((↑x_4 : Int) < fe3q14 c)) (SM x ∧ side (Z0 ≤ (↑x_4 : Int) ∧ (↑x_4 : Int) < fe3q14 c) (ifB (decide ((300 : Int) < (LI (LaD.code (List.getD (fe3q12 c) (Int.toNat (↑x_4 : Int)) DL))))) (fe3q18 c) (fe3q39 c x ∧ ∃ (y : Nat), fe3q43 c y ∧ fe3q13 c - y < fe3q13 c - x_4 ∧ fe3q40 x_4 y x c))) (True ∧ ∃ (y : Unit), True ∧ true = fewC c ∧ True ∧ True)))))) (by kernel_rfl) ?_
  delta D4 D6 DA DF DK DL G4 G6 LI LN N0 N2 N4 N6 NI R4 R6 SM Z0 Z1 ZI fe3q0 fe3q1 fe3q10 fe3q11 fe3q12 fe3q13 fe3q14 fe3q15 fe3q16 fe3q17 fe3q18 fe3q19 fe3q2 fe3q20 fe3q21 fe3q22 fe3q23 fe3q24 fe3q25 fe3q26 fe3q27 fe3q28 fe3q29 fe3q3 fe3q30 fe3q31 fe3q32 fe3q33 fe3q34 fe3q35 fe3q36 fe3q37 fe3q38 fe3q39 fe3q4 fe3q40 fe3q41 fe3q42 fe3q43 fe3q5 fe3q6 fe3q7 fe3q8 fe3q9
  intro x _
  simp only [eq_self, implies_true, Int.toNat_natCast, ifB_iff, side_iff, decide_eq_true_eq, decide_eq_false_iff_not, true_and, and_true, Bool.cond_true_left, Bool.or_eq_true, Bool.or_eq_false_iff, exists_const, forall_const]
  have da : (default : Arr) = Arr.mk 0 [] [] [] := rfl
  rw [← da]
  refine ⟨⟨fun h => by simp [h], fun h => ⟨fun h2 => by simp [h2], fun h2 => ⟨fun h3 => by simp [h3], fun h3 => by simp [h, h2, h3]⟩⟩⟩, fun h => ?_, fun h => ⟨⟨0, ⟨Nat.zero_le _, by simp⟩, rfl⟩, fun a ha => ⟨fun al => ⟨⟨by omega, al⟩, ?_⟩, fun ag => ?_⟩⟩⟩
  · symm
    simp only [fewC, Bool.and_eq_false_iff, decide_eq_false_iff_not]
    omega
  · have al' : a < c.consts.length := by omega
    have r4 := row_four (c.consts.getD a default)
    obtain ⟨s1, s2⟩ := ha.step al'
    refine ⟨Nat.le_of_eq r4.symm, (c.consts.getD a default, 100), ⟨?_, rfl⟩, mem_getD al', fun e => ?_, fun e => ⟨a + 1, s2 e, by omega, wrap_i64' (by omega) (by omega)⟩⟩
    · rw [List.drop_zero, List.take_of_length_le (Nat.le_of_eq r4)]
      exact weakL_refl _
    · have h5 : (c.consts.any fun a => !fewA a 100) = true := List.any_eq_true.2 ⟨_, mem_getD al', e⟩
      simp only [fewC, h5, Bool.not_true, Bool.and_false, Bool.false_and]
  have na : (c.consts.any fun a => !fewA a 100) = false := by
    rw [← idxG_any _ _ 0 (Int.le_refl _), ha.done ag]; rfl
  refine ⟨⟨0, ⟨Nat.zero_le _, by simp⟩, rfl⟩, fun f hf => ⟨fun lf => ⟨⟨by omega, lf⟩, fun e => ?_, fun e => ⟨f + 1, (hf.step (by omega)).2 (decide_eq_false e), by omega, wrap_i64' (by omega) (by omega)⟩⟩, fun gf => ?_⟩⟩
  · have h5 : (c.funs.any fun f => decide (300 < (f.code.length : Int))) = true := List.any_eq_true.2 ⟨_, mem_getD (by omega), decide_eq_true e⟩
    simp only [fewC, h5, Bool.not_true, Bool.and_false, Bool.false_and]
  have nf : (c.funs.any fun f => decide (300 < (f.code.length : Int))) = false := by
    rw [← idxG_any _ _ 0 (Int.le_refl _), hf.done gf]; rfl
  refine ⟨⟨0, ⟨Nat.zero_le _, by simp⟩, rfl⟩, fun k hk => ⟨fun lk => ⟨⟨by omega, lk⟩, fun e => ?_, fun e => ⟨k + 1, (hk.step (by omega)).2 (decide_eq_false e), by omega, wrap_i64' (by omega) (by omega)⟩⟩, fun gk => ?_⟩⟩
  · have h5 : (c.kers.any fun f => decide (300 < (f.ops.length : Int))) = true := List.any_eq_true.2 ⟨_, mem_getD (by omega), decide_eq_true e⟩
    simp only [fewC, h5, Bool.not_true, Bool.and_false, Bool.false_and]
  have nk : (c.kers.any fun f => decide (300 < (f.ops.length : Int))) = false := by
    rw [← idxG_any _ _ 0 (Int.le_refl _), hk.done gk]; rfl
  refine ⟨⟨0, ⟨Nat.zero_le _, by simp⟩, rfl⟩, fun p hp => ⟨fun lp => ⟨⟨by omega, lp⟩, fun e => ?_, fun e => ⟨p + 1, (hp.step (by omega)).2 (decide_eq_false e), by omega, wrap_i64' (by omega) (by omega)⟩⟩, fun gp => ?_⟩⟩
  · have h5 : (c.lanes.any fun f => decide (300 < (f.code.length : Int))) = true := List.any_eq_true.2 ⟨_, mem_getD (by omega), decide_eq_true e⟩
    simp only [fewC, h5, Bool.not_true, Bool.and_false]
  have np : (c.lanes.any fun f => decide (300 < (f.code.length : Int))) = false := by
    rw [← idxG_any _ _ 0 (Int.le_refl _), hp.done gp]; rfl
  simp only [fewC, na, nf, nk, np, Bool.not_false, Bool.and_true]
  symm
  simp only [Bool.and_eq_true, decide_eq_true_eq]
  omega
end Go.Proofs.Ytoglbmhkfkghbaa
namespace Go.Proofs.Ytoglbmhkfkghbaa
open Go Go.Ab
theorem form_len {k : Int} {s : List Int} {nn ni : Nat} (h : formS k s nn ni = 0) : s.length ≤ 8 := by
  unfold formS at h
  by_cases hk : k = 1 ∨ k = 2 ∨ k = 3
  · rw [if_pos hk] at h
    by_cases hd : dimsS s ≠ 0
    · rw [if_pos hd] at h; exact (hd h).elim
    · have hd : dimsS s = 0 := by simpa using hd
      unfold dimsS at hd
      by_cases h8 : 8 < s.length
      · rw [if_pos h8] at hd; omega
      · omega
  · rw [if_neg hk] at h; omega
theorem szL_chk : ∀ (l : List Arr) (d w d' w' : Int), chkL l d w = some (d', w') → w' ≤ 262144 → (∀ x ∈ l, (chkA x).1 = 0 → (szA x : Int) ≤ 20 * (1 + (chkA x).2.2)) → (szL l : Int) ≤ 20 * (l.length : Int) + 20 * (w' - w)
  | [], d, w, d', w', h, _, _ => by
    rw [chkL] at h; injection h with h; injection h with e1 e2
    simp only [szL, List.length_nil]; omega
  | x :: r, d, w, d', w', h, hw, h3 => by
    rw [chkL] at h
    split at h
    · cases h
    · rename_i hx
      have hx : (chkA x).1 = 0 := by simpa using hx
      have h5 := h3 x (by simp) hx
      by_cases hs : 262145 < w + (chkA x).2.2
      · rw [if_pos hs] at h
        have := chkL_sat r _ _ _ h
        omega
      · rw [if_neg hs] at h
        have ih := szL_chk r _ _ d' w' h hw fun y hy => h3 y (by simp [hy])
        simp only [szL, List.length_cons]
        omega
theorem szA_chk : ∀ (a : Arr), (chkA a).1 = 0 → (szA a : Int) ≤ 20 * (1 + (chkA a).2.2)
  | .mk k s n is, h => by
    have ih : ∀ x ∈ is, (chkA x).1 = 0 → (szA x : Int) ≤ 20 * (1 + (chkA x).2.2) := fun x hx => szA_chk x
    rw [chkA] at h ⊢
    by_cases h0 : formS k s n.length is.length ≠ 0
    · rw [if_pos h0] at h; exact (h0 h).elim
    · rw [if_neg h0] at h ⊢
      have h0 : formS k s n.length is.length = 0 := by simpa using h0
      have hl := form_len h0
      by_cases hb : n.any (badK k) = true
      · rw [if_pos hb] at h; simp at h
      · rw [if_neg hb] at h ⊢
        cases hr : chkL is 0 ((n.length : Int) + is.length) with
        | none => rw [hr] at h; simp at h
        | some r =>
          rw [hr] at h
          simp only at h ⊢
          by_cases hg : 16 < r.1 ∨ 262144 < r.2
          · rw [if_pos hg] at h; simp at h
          · rw [if_neg hg]
            have := szL_chk is 0 _ r.1 r.2 hr (by omega) ih
            simp only [szA]
            omega
termination_by a => SizeOf.sizeOf a
decreasing_by
  have := List.sizeOf_lt_of_mem hx
  simp; omega
theorem flat_len {α : Type} (f : α → List UInt8) (m : Nat) : ∀ (l : List α), (∀ x ∈ l, (f x).length ≤ m) → (l.flatMap f).length ≤ l.length * m
  | [], _ => by simp
  | x :: r, h => by
    have h1 := h x (by simp)
    have h2 := flat_len f m r fun y hy => h y (by simp [hy])
    rw [List.flatMap_cons, List.length_append, List.length_cons, Nat.succ_mul]
    omega
theorem arrBL_bound (m : Nat) : ∀ (l : List Arr), (∀ x ∈ l, 10 * szA x ≤ m) → (arrBL l).length ≤ l.length * m
  | [], _ => by simp [arrBL]
  | x :: r, h => by
    have h1 := h x (by simp)
    have h2 := arrBL_bound m r fun y hy => h y (by simp [hy])
    have h3 := arrB_len x
    rw [arrBL, List.length_append, List.length_cons, Nat.succ_mul]
    omega
theorem few_code {c : CodD} (h : fewC c = true) : c.consts.length ≤ 40 ∧ c.funs.length ≤ 20 ∧ c.kers.length ≤ 20 ∧ c.lanes.length ≤ 20 ∧ (∀ f ∈ c.funs, f.code.length ≤ 300) ∧ (∀ f ∈ c.kers, f.ops.length ≤ 300) ∧ (∀ f ∈ c.lanes, f.code.length ≤ 300) := by
  simp only [fewC, Bool.and_eq_true, decide_eq_true_eq, Bool.not_eq_true', List.any_eq_false] at h
  obtain ⟨⟨⟨⟨⟨⟨⟨h1, h2⟩, h3⟩, h4⟩, _⟩, h6⟩, h7⟩, h8⟩ := h
  refine ⟨by omega, by omega, by omega, by omega, fun f hf => ?_, fun f hf => ?_, fun f hf => ?_⟩
  · have := h6 f hf; omega
  · have := h7 f hf; omega
  · have := h8 f hf; omega
theorem right_consts {c : CodD} (h : rightC c = 0) : ∀ a ∈ c.consts, (chkA a).1 = 0 := by
  unfold rightC at h
  by_cases h1 : 1024 < c.funs.length ∨ 65536 < totI c.funs 0 ∨ 65536 < c.consts.length ∨ 4096 < c.kers.length
  · rw [if_pos h1] at h; omega
  · rw [if_neg h1] at h
    by_cases h2 : (c.consts.any fun a => (chkA a).1 != 0) = true
    · rw [if_pos h2] at h; omega
    · intro a ha
      simp only [List.any_eq_true, not_exists, not_and] at h2
      have := h2 a ha
      simpa using this
theorem few_sz {c : CodD} (hf : fewC c = true) (hr : rightC c = 0) : szOk c := by
  obtain ⟨f1, f2, f3, f4, f5, f6, f7⟩ := few_code hf
  have hs : ∀ a ∈ c.consts, 10 * szA a ≤ 52429000 := fun a ha => by
    have h1 := szA_chk a (right_consts hr a ha)
    have h2 := (chkA_bounds a).2.2
    omega
  refine ⟨?_, fun a ha => by have := hs a ha; omega⟩
  have a1 := arrBL_bound 52429000 c.consts hs
  have n1 : ∀ z : Int, (numsB [z]).length ≤ 10 := fun z => by simpa using numsB_len [z]
  have n2 : ∀ y z : Int, (numsB [y, z]).length ≤ 20 := fun y z => by simpa using numsB_len [y, z]
  have b4 : ∀ (l : List I4), l.length ≤ 300 → (l.flatMap i4B).length ≤ 12000 := fun l hl => by
    have := flat_len i4B 40 l (fun x _ => by simpa [i4B] using numsB_len [x.a, x.b, x.c, x.d])
    omega
  have b6 : ∀ (l : List I6), l.length ≤ 300 → (l.flatMap i6B).length ≤ 18000 := fun l hl => by
    have := flat_len i6B 60 l (fun x _ => by simpa [i6B] using numsB_len [x.a, x.b, x.c, x.d, x.e, x.f])
    omega
  have a2 := flat_len funB 12020 c.funs fun f hf => by
    have := b4 f.code (f5 f hf); have := n2 f.slots f.code.length
    rw [funB, List.length_append]; omega
  have a3 := flat_len kerY 12040 c.kers fun f hf => by
    have := b4 f.ops (f6 f hf); have := n2 f.inputs f.ops.length; have := n2 f.reduce f.at_
    rw [kerY, List.length_append, List.length_append]; omega
  have a4 := flat_len lanB 18020 c.lanes fun f hf => by
    have := b6 f.code (f7 f hf); have := n2 f.regs f.code.length
    rw [lanB, List.length_append]; omega
  have m1 := n1 c.consts.length
  have m2 := n1 c.funs.length
  have m3 := n1 c.kers.length
  have m4 := n1 c.lanes.length
  simp only [codeB, tl2, tl3, tl4, List.length_append]
  have k1 := Nat.mul_le_mul_right 52429000 f1
  have k2 := Nat.mul_le_mul_right 12020 f2
  have k3 := Nat.mul_le_mul_right 12040 f3
  have k4 := Nat.mul_le_mul_right 18020 f4
  omega
theorem few_hs {c : CodD} (hf : fewC c = true) : ∀ f, f < c.funs.length → (c.funs.getD f default).code.length ≤ 65536 := fun f hf' => by
  have := (few_code hf).2.2.2.2.1 _ (mem_getD hf')
  omega
end Go.Proofs.Ytoglbmhkfkghbaa
namespace Go.Proofs.Ytoglbmhkfkghbaa
open Go Go.Ab
set_option maxRecDepth 100000
def _root_.Go.Ab.refKey : D → Nat
  | .ref k _ _ => k
  | _ => 0
def _root_.Go.Ab.vkey (os : List (Nat × Nat × AObj)) (k : Nat) : Nat := match cellsO os k with
  | [_, _, _, .vs kv _ _ _ _] => kv
  | _ => 0
def zrow : List D := [.int .i64 0, .sl 1 0 (fun _ => []) .nil, .sl 1 0 (fun _ => []) .nil, .sl 1 0 (fun _ => []) .nil]
def clR (its : List Arr) (i j : Nat) : List D := match Nat.blt j i with
  | true => (its.getD j default).row1
  | false => zrow
def sCl (row row' : Arr → List D) (q : Arr → Prop) : FnSpec where
  β := Arr
  α := Unit
  args := fun a => [.agg (row a)]
  st := fun _ => ⟨[], []⟩
  pre := q
  post := fun _ _ => True
  res := fun a _ => .ret (.agg (row' a))
  out := fun _ _ => ⟨[], []⟩
def conCl (its : List Arr) : Con := fun k _ _ => match k with
  | 26 => some (sCl Arr.row1 Arr.row1 (fun b => b ∈ its))
  | _ => none
theorem clR_lt {its : List Arr} {i j : Nat} (h : j < i) : clR its i j = (its.getD j default).row1 := by
  unfold clR
  have : Nat.blt j i = true := by simpa using h
  rw [this]
theorem clR_ge {its : List Arr} {i j : Nat} (h : ¬ j < i) : clR its i j = zrow := by
  unfold clR
  cases hb : Nat.blt j i with
  | false => rfl
  | true => exact (h (by simpa using hb)).elim
noncomputable def Ecl (a : Arr) : Senv := { EC (conCl a.it) 47 6 [32, 33, 34, 35] (fun id => match id with | 1 => ([0, 1, 2, 3, 4, 6, 7, 8, 10, 11, 12, 5, 9, 13, 14, 15, 16], [5, 9, 13, 15, 16]) | 7 => ([0, 1, 2, 3, 4, 5, 6], [4, 6]) | _ => ([], [])) with
  gz := fun r => match r with
    | 9 => [.cell 17 1, .cell 17 2, .cell 17 3]
    | _ => []
  cut := fun id _ S => match id with
    | 1 => some { slots := [3], keep := [], α := (Nat × Nat) × Nat × Nat, st := fun y => ([.ref 17 y.2.2 0], ⟨[(17, y.2.2, .cells [.int .i64 a.k, .vs 7 y.1.1 a.sh.length a.sh.length 1, .vs 11 y.1.2 a.nu.length a.nu.length 1, .vs 15 y.2.1 a.it.length a.it.length 4]), (15, y.2.1, .vec 4 a.it.length a.it.length (clR a.it 0)), (11, y.1.2, .vec 1 a.nu.length a.nu.length (fun _ => [.int .i64 0])), (7, y.1.1, .vec 1 a.sh.length a.sh.length (fun _ => [.int .i64 0]))] ++ S.objs, []⟩), inv := fun _ => True, mu := fun _ => 0 }
    | _ => none
  ann := fun b env S => match b with
    | 0 => some { slots := [34], keep := [1, 2, 3, 32, 33], α := Nat, st := fun i => ([.int .i64 i], ⟨setO S.objs (vkey S.objs (refKey (Ab.look env 3))) (.vec 4 a.it.length a.it.length (clR a.it i)), S.toks⟩), inv := fun i => i ≤ a.it.length, mu := fun i => a.it.length - i }
    | _ => none }
noncomputable section
def rd8q0 (p0 : Arr) : Nat := LN (Arr.sh p0)
def rd8q1 (p0 : Arr) : Int := (NI (rd8q0 p0))
def rd8q2 (p0 : Arr) : Int := (8 : Int) * rd8q1 p0
def rd8q3 (p0 : Arr) : List Arr := Arr.it p0
def rd8q4 (p0 : Arr) : Nat := LN (rd8q3 p0)
def rd8q5 : Arr := DA
def rd8q6 (p0 : Arr) (p1 : Nat) : Arr := List.getD (rd8q3 p0) p1 rd8q5
def rd8q7 (p0 : Arr) (p1 : Nat) : List Int := Arr.sh (rd8q6 p0 p1)
def rd8q8 (p0 : Arr) (p1 : Nat) : List Int := Arr.nu (rd8q6 p0 p1)
def rd8q9 (p0 : Arr) (p1 : Nat) : List Arr := Arr.it (rd8q6 p0 p1)
def rd8q10 (p0 : Arr) (p1 : Nat) : List D := [ZI (Arr.k (rd8q6 p0 p1)), SI (rd8q7 p0 p1), SI (rd8q8 p0 p1), D.sl N4 (LN (rd8q9 p0 p1)) (fun (i : Nat) => Arr.row (List.getD (rd8q9 p0 p1) i rd8q5)) Mode.any]
def rd8q11 (p0 : Arr) : D := D.sl N4 (rd8q4 p0) (fun (i : Nat) => rd8q10 p0 i) Mode.any
def rd8q12 (p0 : Arr) : Prop := SM (rd8q11 p0)
def rd8q13 (p0 : Nat) (p1 : Arr) : Prop := SM p0 ∧ rd8q12 p1
def rd8q14 (p0 : Arr) : Nat := LN (Arr.nu p0)
def rd8q15 (p0 : Arr) (p1 : Nat) : List D := [ZI (GI (Arr.nu p0) p1)]
def rd8q16 (p0 : Arr) : D := D.sl N1 (rd8q14 p0) (fun (i : Nat) => rd8q15 p0 i) Mode.any
def rd8q17 (p0 : Nat) (p1 : Arr) : Prop := SM p0 ∧ SM (rd8q16 p1)
def rd8q18 (p0 : Arr) : Int := Arr.k p0
def rd8q19 (p0 : Arr) : D := ZI (rd8q18 p0)
def rd8q20 (p0 : Nat) (p1 : Arr) : Prop := SM p0 ∧ SM (rd8q19 p1)
def rd8q21 (p0 : Arr) : Int := (NI (rd8q14 p0))
def rd8q22 (p0 : Arr) : Int := (8 : Int) * rd8q21 p0
def rd8q23 (p0 p1 p2 p3 : Nat) : Prop := p0 ≠ p1 ∧ p2 ≠ p1 ∧ p3 ≠ p1 ∧ True
def rd8q24 (p0 : Arr) : Int := (NI (rd8q4 p0))
def rd8q25 (p0 : Arr) : Int := (80 : Int) * rd8q24 p0
def rd8q26 (p0 p1 p2 p3 p4 : Nat) : Prop := p0 ≠ p1 ∧ rd8q23 p2 p1 p3 p4
def rd8q27 (p0 p1 p2 p3 p4 p5 : Nat) : Prop := p0 ≠ p1 ∧ rd8q26 p2 p1 p3 p4 p5
def rd8q28 (p0 : Arr) : Prop := SM (rd8q18 p0)
def rd8q29 (p0 : Arr) : Prop := Int.toNat (rd8q1 p0) = rd8q0 p0
def rd8q30 (p0 : Arr) : Prop := Int.toNat (rd8q21 p0) = rd8q14 p0
def rd8q31 (p0 : Arr) : Prop := Int.toNat (rd8q24 p0) = rd8q4 p0
def rd8q32 : D := D.sl N1 N0 (fun (_x : Nat) => []) Mode.nil
def rd8q33 : Prop := SM [ZI Z0]
def rd8q34 : Prop := SM N0 ∧ (∀ (i : Nat), i < N0 → eqOf (List D) [] []) ∧ True
def rd8q35 (p0 : Arr) : Prop := SM (rd8q0 p0)
def rd8q36 (p0 : Arr) (p1 : Nat) : List D := [ZI (GI (Arr.sh p0) p1)]
def rd8q37 (p0 : Arr) : Prop := ∀ (i : Nat), i < rd8q0 p0 → SM (rd8q36 p0 i)
def rd8q38 (p0 : Arr) : Prop := rd8q35 p0 ∧ rd8q37 p0 ∧ True
def rd8q39 (p0 : Arr) : Prop := SM (rd8q14 p0)
def rd8q40 (p0 : Arr) : Prop := ∀ (i : Nat), i < rd8q14 p0 → SM (rd8q15 p0 i)
def rd8q41 (p0 : Arr) : Prop := rd8q39 p0 ∧ rd8q40 p0 ∧ True
def rd8q42 (p0 : Arr) : Prop := SM (rd8q4 p0)
def rd8q43 (p0 : Nat) (p1 : Arr) : Prop := p0 < rd8q4 p1
def rd8q44 (p0 p1 : Nat) (p2 : Arr) : Prop := SM p0 ∧ (SM Z0 ∧ rd8q34 ∧ rd8q34 ∧ rd8q34 ∧ True) ∧ SM p1 ∧ (rd8q28 p2 ∧ rd8q38 p2 ∧ rd8q41 p2 ∧ (rd8q42 p2 ∧ (∀ (i : Nat), rd8q43 i p2 → SM (rd8q10 p2 i)) ∧ True) ∧ True) ∧ True
def rd8q45 (p0 : Nat) (p1 : Arr) (p2 p3 p4 p5 p6 : Nat) : Prop := rd8q20 p0 p1 ∧ SM p2 ∧ ∃ (x : (Nat × Nat) × Nat × Nat), True ∧ (p2 = x.2.2 ∧ True) ∧ (p2 = x.2.2 ∧ (rd8q28 p1 ∧ (p3 = x.1.1 ∧ rd8q29 p1 ∧ rd8q29 p1) ∧ (p4 = x.1.2 ∧ rd8q30 p1 ∧ rd8q30 p1) ∧ (p5 = x.2.1 ∧ rd8q31 p1 ∧ rd8q31 p1) ∧ True) ∧ p5 = x.2.1 ∧ (rd8q31 p1 ∧ rd8q31 p1 ∧ ∀ (i : Nat), i < Int.toNat (rd8q24 p1) → [ZI Z0, rd8q32, rd8q32, rd8q32] = clR (rd8q3 p1) N0 i) ∧ p4 = x.1.2 ∧ (rd8q30 p1 ∧ rd8q30 p1 ∧ ∀ (i : Nat), i < Int.toNat (rd8q21 p1) → rd8q33) ∧ p3 = x.1.1 ∧ (rd8q29 p1 ∧ rd8q29 p1 ∧ ∀ (i : Nat), i < Int.toNat (rd8q1 p1) → rd8q33) ∧ rd8q44 p6 p0 p1) ∧ True
def rd8q46 (p0 : Arr) : D := D.sl N1 (rd8q0 p0) (fun (i : Nat) => rd8q36 p0 i) Mode.any
def rd8q47 (p0 : Nat) (p1 : Arr) : Prop := SM p0 ∧ SM (rd8q46 p1)
def rd8q48 (p0 : Arr) (p1 p2 p3 : Nat) : Prop := rd8q28 p0 ∧ (SM p1 ∧ rd8q35 p0 ∧ rd8q35 p0) ∧ (SM p2 ∧ rd8q39 p0 ∧ rd8q39 p0) ∧ (SM p3 ∧ rd8q42 p0 ∧ rd8q42 p0) ∧ True
def rd8q49 (p0 : Arr) (p1 p2 : Nat) : List D := clR (rd8q3 p0) p1 p2
def rd8q50 (p0 : Nat) (p1 : Arr) (p2 p3 p4 : Nat) : Prop := SM p0 ∧ (rd8q39 p1 ∧ rd8q39 p1 ∧ rd8q40 p1) ∧ SM p2 ∧ (rd8q35 p1 ∧ rd8q35 p1 ∧ rd8q37 p1) ∧ rd8q44 p3 p4 p1
def rd8q51 (p0 : Arr) (p1 : Nat) : Arr := List.getD (rd8q3 p0) (Int.toNat (↑p1 : Int)) rd8q5
def rd8q52 (p0 : Arr) (p1 : Nat) : List Int := Arr.sh (rd8q51 p0 p1)
def rd8q53 (p0 : Arr) (p1 : Nat) : Nat := LN (rd8q52 p0 p1)
def rd8q54 (p0 : Arr) (p1 : Nat) : List Int := Arr.nu (rd8q51 p0 p1)
def rd8q55 (p0 : Arr) (p1 : Nat) : Nat := LN (rd8q54 p0 p1)
def rd8q56 (p0 : Arr) (p1 : Nat) : List Arr := Arr.it (rd8q51 p0 p1)
def rd8q57 (p0 : Arr) (p1 : Nat) : Nat := LN (rd8q56 p0 p1)
def rd8q58 (p0 : Arr) (p1 : Nat) : List D := Arr.row (rd8q6 p0 p1)
def rd8q59 (p0 : Nat) (p1 : Arr) : D := D.vs (15 : Nat) p0 (rd8q4 p1) (rd8q4 p1) N4
def rd8q60 (p0 : D) : Bool := match p0 with | D.unk => false | D.agg _cs => false | D.tup _ds => false | _x => true
end
theorem cl_step (a : Arr) (ha : a.nu.length ≤ 1000000 ∧ a.it.length ≤ 1000000 ∧ a.sh.length ≤ 1000000) (hc : ConOk Try.prog (conCl a.it)) :
    ACalls Try.prog 26 ((sCl Arr.row2 Arr.row2 (fun _ => True)).args a) ⟨[], []⟩ (SpecR (sCl Arr.row2 Arr.row2 (fun _ => True)) a) := by
  refine con_of (A := sCl Arr.row2 Arr.row2 (fun _ => True)) (x := a) (E := Ecl a) (eOk hc rfl) Try.func26 rfl (by kernel_rfl) rfl (by simp [sCl, Ecl, EC, E0]) ?_
  refine vc_eq (T :=
    ∀ (x : Nat), True → ∀ (x_1 : Nat), x ≠ x_1 ∧ True → (SM x ∧ SM x ∧ SM x ∧ SM x ∧ side (Z0 ≤ rd8q1 a ∧ rd8q1 a ≤ rd8q1 a ∧ rd8q2 a ≤ (281474976710656 : Int) ∧ rd8q1 a ≤ (9223372036854775807 : Int)) (∀ (x_2 : Nat), x_1 ≠ x_2 ∧ x ≠ x_2 ∧ True → rd8q13 x a ∧ rd8q17 x a ∧ rd8q20 x a ∧ side (Z0 ≤ rd8q21 a ∧ rd8q21 a ≤ rd8q21 a ∧ rd8q22 a ≤ (281474976710656 : Int) ∧ rd8q21 a ≤ (9223372036854775807 : Int)) (∀ (x_3 : Nat), rd8q23 x_2 x_3 x_1 x → rd8q13 x a ∧ rd8q20 x a ∧ side (Z0 ≤ rd8q24 a ∧ rd8q24 a ≤ rd8q24 a ∧ rd8q25 a ≤ (281474976710656 : Int) ∧ rd8q24 a ≤ (9223372036854775807 : Int)) (∀ (x_4 : Nat), rd8q26 x_3 x_4 x_2 x_1 x → rd8q20 x a ∧ ∀ (x_5 : Nat), rd8q27 x_4 x_5 x_3 x_2 x_1 x → rd8q45 x a x_5 x_2 x_3 x_4 x_1) ∧ ∀ (x_4 : Nat), rd8q26 x_3 x_4 x_2 x_1 x → rd8q13 x a ∧ rd8q20 x a ∧ side (Z0 ≤ rd8q24 a ∧ rd8q24 a ≤ rd8q24 a ∧ rd8q25 a ≤ (281474976710656 : Int) ∧ rd8q24 a ≤ (9223372036854775807 : Int)) (∀ (x_5 : Nat), rd8q27 x_4 x_5 x_3 x_2 x_1 x → rd8q45 x a x_4 x_2 x_3 x_5 x_1)) ∧ side (Z0 ≤ rd8q24 a ∧ rd8q24 a ≤ rd8q24 a ∧ rd8q25 a ≤ (281474976710656 : Int) ∧ rd8q24 a ≤ (9223372036854775807 : Int)) (∀ (x_3 : Nat), rd8q23 x_2 x_3 x_1 x → rd8q17 x a ∧ rd8q20 x a ∧ side (Z0 ≤ rd8q21 a ∧ rd8q21 a ≤ rd8q21 a ∧ rd8q22 a ≤ (281474976710656 : Int) ∧ rd8q21 a ≤ (9223372036854775807 : Int)) (∀ (x_4 : Nat), rd8q26 x_3 x_4 x_2 x_1 x → rd8q20 x a ∧ ∀ (x_5 : Nat), rd8q27 x_4 x_5 x_3 x_2 x_1 x → rd8q45 x a x_5 x_2 x_4 x_3 x_1) ∧ ∀ (x_4 : Nat), rd8q26 x_3 x_4 x_2 x_1 x → rd8q17 x a ∧ rd8q20 x a ∧ side (Z0 ≤ rd8q21 a ∧ rd8q21 a ≤ rd8q21 a ∧ rd8q22 a ≤ (281474976710656 : Int) ∧ rd8q21 a ≤ (9223372036854775807 : Int)) (∀ (x_5 : Nat), rd8q27 x_4 x_5 x_3 x_2 x_1 x → rd8q45 x a x_4 x_2 x_5 x_3 x_1)) ∧ ∀ (x_3 : Nat), rd8q23 x_2 x_3 x_1 x → rd8q13 x a ∧ rd8q17 x a ∧ rd8q20 x a ∧ side (Z0 ≤ rd8q21 a ∧ rd8q21 a ≤ rd8q21 a ∧ rd8q22 a ≤ (281474976710656 : Int) ∧ rd8q21 a ≤ (9223372036854775807 : Int)) (∀ (x_4 : Nat), rd8q26 x_3 x_4 x_2 x_1 x → rd8q13 x a ∧ rd8q20 x a ∧ side (Z0 ≤ rd8q24 a ∧ rd8q24 a ≤ rd8q24 a ∧ rd8q25 a ≤ (281474976710656 : Int) ∧ rd8q24 a ≤ (9223372036854775807 : Int)) (∀ (x_5 : Nat), rd8q27 x_4 x_5 x_3 x_2 x_1 x → rd8q45 x a x_3 x_2 x_4 x_5 x_1)) ∧ side (Z0 ≤ rd8q24 a ∧ rd8q24 a ≤ rd8q24 a ∧ rd8q25 a ≤ (281474976710656 : Int) ∧ rd8q24 a ≤ (9223372036854775807 : Int)) (∀ (x_4 : Nat), rd8q26 x_3 x_4 x_2 x_1 x → rd8q17 x a ∧ rd8q20 x a ∧ side (Z0 ≤ rd8q21 a ∧ rd8q21 a ≤ rd8q21 a ∧ rd8q22 a ≤ (281474976710656 : Int) ∧ rd8q21 a ≤ (9223372036854775807 : Int)) (∀ (x_5 : Nat), rd8q27 x_4 x_5 x_3 x_2 x_1 x → rd8q45 x a x_3 x_2 x_5 x_4 x_1))) ∧ side (Z0 ≤ rd8q21 a ∧ rd8q21 a ≤ rd8q21 a ∧ rd8q22 a ≤ (281474976710656 : Int) ∧ rd8q21 a ≤ (9223372036854775807 : Int)) (∀ (x_2 : Nat), x_1 ≠ x_2 ∧ x ≠ x_2 ∧ True → rd8q13 x a ∧ rd8q47 x a ∧ rd8q20 x a ∧ side (Z0 ≤ rd8q1 a ∧ rd8q1 a ≤ rd8q1 a ∧ rd8q2 a ≤ (281474976710656 : Int) ∧ rd8q1 a ≤ (9223372036854775807 : Int)) (∀ (x_3 : Nat), rd8q23 x_2 x_3 x_1 x → rd8q13 x a ∧ rd8q20 x a ∧ side (Z0 ≤ rd8q24 a ∧ rd8q24 a ≤ rd8q24 a ∧ rd8q25 a ≤ (281474976710656 : Int) ∧ rd8q24 a ≤ (9223372036854775807 : Int)) (∀ (x_4 : Nat), rd8q26 x_3 x_4 x_2 x_1 x → rd8q20 x a ∧ ∀ (x_5 : Nat), rd8q27 x_4 x_5 x_3 x_2 x_1 x → rd8q45 x a x_5 x_3 x_2 x_4 x_1) ∧ ∀ (x_4 : Nat), rd8q26 x_3 x_4 x_2 x_1 x → rd8q13 x a ∧ rd8q20 x a ∧ side (Z0 ≤ rd8q24 a ∧ rd8q24 a ≤ rd8q24 a ∧ rd8q25 a ≤ (281474976710656 : Int) ∧ rd8q24 a ≤ (9223372036854775807 : Int)) (∀ (x_5 : Nat), rd8q27 x_4 x_5 x_3 x_2 x_1 x → rd8q45 x a x_4 x_3 x_2 x_5 x_1)) ∧ side (Z0 ≤ rd8q24 a ∧ rd8q24 a ≤ rd8q24 a ∧ rd8q25 a ≤ (281474976710656 : Int) ∧ rd8q24 a ≤ (9223372036854775807 : Int)) (∀ (x_3 : Nat), rd8q23 x_2 x_3 x_1 x → rd8q47 x a ∧ rd8q20 x a ∧ side (Z0 ≤ rd8q1 a ∧ rd8q1 a ≤ rd8q1 a ∧ rd8q2 a ≤ (281474976710656 : Int) ∧ rd8q1 a ≤ (9223372036854775807 : Int)) (∀ (x_4 : Nat), rd8q26 x_3 x_4 x_2 x_1 x → rd8q20 x a ∧ ∀ (x_5 : Nat), rd8q27 x_4 x_5 x_3 x_2 x_1 x → rd8q45 x a x_5 x_4 x_2 x_3 x_1) ∧ ∀ (x_4 : Nat), rd8q26 x_3 x_4 x_2 x_1 x → rd8q47 x a ∧ rd8q20 x a ∧ side (Z0 ≤ rd8q1 a ∧ rd8q1 a ≤ rd8q1 a ∧ rd8q2 a ≤ (281474976710656 : Int) ∧ rd8q1 a ≤ (9223372036854775807 : Int)) (∀ (x_5 : Nat), rd8q27 x_4 x_5 x_3 x_2 x_1 x → rd8q45 x a x_4 x_5 x_2 x_3 x_1)) ∧ ∀ (x_3 : Nat), rd8q23 x_2 x_3 x_1 x → rd8q13 x a ∧ rd8q47 x a ∧ rd8q20 x a ∧ side (Z0 ≤ rd8q1 a ∧ rd8q1 a ≤ rd8q1 a ∧ rd8q2 a ≤ (281474976710656 : Int) ∧ rd8q1 a ≤ (9223372036854775807 : Int)) (∀ (x_4 : Nat), rd8q26 x_3 x_4 x_2 x_1 x → rd8q13 x a ∧ rd8q20 x a ∧ side (Z0 ≤ rd8q24 a ∧ rd8q24 a ≤ rd8q24 a ∧ rd8q25 a ≤ (281474976710656 : Int) ∧ rd8q24 a ≤ (9223372036854775807 : Int)) (∀ (x_5 : Nat), rd8q27 x_4 x_5 x_3 x_2 x_1 x → rd8q45 x a x_3 x_4 x_2 x_5 x_1)) ∧ side (Z0 ≤ rd8q24 a ∧ rd8q24 a ≤ rd8q24 a ∧ rd8q25 a ≤ (281474976710656 : Int) ∧ rd8q24 a ≤ (9223372036854775807 : Int)) (∀ (x_4 : Nat), rd8q26 x_3 x_4 x_2 x_1 x → rd8q47 x a ∧ rd8q20 x a ∧ side (Z0 ≤ rd8q1 a ∧ rd8q1 a ≤ rd8q1 a ∧ rd8q2 a ≤ (281474976710656 : Int) ∧ rd8q1 a ≤ (9223372036854775807 : Int)) (∀ (x_5 : Nat), rd8q27 x_4 x_5 x_3 x_2 x_1 x → rd8q45 x a x_3 x_5 x_2 x_4 x_1))) ∧ side (Z0 ≤ rd8q24 a ∧ rd8q24 a ≤ rd8q24 a ∧ rd8q25 a ≤ (281474976710656 : Int) ∧ rd8q24 a ≤ (9223372036854775807 : Int)) (∀ (x_2 : Nat), x_1 ≠ x_2 ∧ x ≠ x_2 ∧ True → rd8q17 x a ∧ rd8q47 x a ∧ rd8q20 x a ∧ side (Z0 ≤ rd8q1 a ∧ rd8q1 a ≤ rd8q1 a ∧ rd8q2 a ≤ (281474976710656 : Int) ∧ rd8q1 a ≤ (9223372036854775807 : Int)) (∀ (x_3 : Nat), rd8q23 x_2 x_3 x_1 x → rd8q17 x a ∧ rd8q20 x a ∧ side (Z0 ≤ rd8q21 a ∧ rd8q21 a ≤ rd8q21 a ∧ rd8q22 a ≤ (281474976710656 : Int) ∧ rd8q21 a ≤ (9223372036854775807 : Int)) (∀ (x_4 : Nat), rd8q26 x_3 x_4 x_2 x_1 x → rd8q20 x a ∧ ∀ (x_5 : Nat), rd8q27 x_4 x_5 x_3 x_2 x_1 x → rd8q45 x a x_5 x_3 x_4 x_2 x_1) ∧ ∀ (x_4 : Nat), rd8q26 x_3 x_4 x_2 x_1 x → rd8q17 x a ∧ rd8q20 x a ∧ side (Z0 ≤ rd8q21 a ∧ rd8q21 a ≤ rd8q21 a ∧ rd8q22 a ≤ (281474976710656 : Int) ∧ rd8q21 a ≤ (9223372036854775807 : Int)) (∀ (x_5 : Nat), rd8q27 x_4 x_5 x_3 x_2 x_1 x → rd8q45 x a x_4 x_3 x_5 x_2 x_1)) ∧ side (Z0 ≤ rd8q21 a ∧ rd8q21 a ≤ rd8q21 a ∧ rd8q22 a ≤ (281474976710656 : Int) ∧ rd8q21 a ≤ (9223372036854775807 : Int)) (∀ (x_3 : Nat), rd8q23 x_2 x_3 x_1 x → rd8q47 x a ∧ rd8q20 x a ∧ side (Z0 ≤ rd8q1 a ∧ rd8q1 a ≤ rd8q1 a ∧ rd8q2 a ≤ (281474976710656 : Int) ∧ rd8q1 a ≤ (9223372036854775807 : Int)) (∀ (x_4 : Nat), rd8q26 x_3 x_4 x_2 x_1 x → rd8q20 x a ∧ ∀ (x_5 : Nat), rd8q27 x_4 x_5 x_3 x_2 x_1 x → rd8q45 x a x_5 x_4 x_3 x_2 x_1) ∧ ∀ (x_4 : Nat), rd8q26 x_3 x_4 x_2 x_1 x → rd8q47 x a ∧ rd8q20 x a ∧ side (Z0 ≤ rd8q1 a ∧ rd8q1 a ≤ rd8q1 a ∧ rd8q2 a ≤ (281474976710656 : Int) ∧ rd8q1 a ≤ (9223372036854775807 : Int)) (∀ (x_5 : Nat), rd8q27 x_4 x_5 x_3 x_2 x_1 x → rd8q45 x a x_4 x_5 x_3 x_2 x_1)) ∧ ∀ (x_3 : Nat), rd8q23 x_2 x_3 x_1 x → rd8q17 x a ∧ rd8q47 x a ∧ rd8q20 x a ∧ side (Z0 ≤ rd8q1 a ∧ rd8q1 a ≤ rd8q1 a ∧ rd8q2 a ≤ (281474976710656 : Int) ∧ rd8q1 a ≤ (9223372036854775807 : Int)) (∀ (x_4 : Nat), rd8q26 x_3 x_4 x_2 x_1 x → rd8q17 x a ∧ rd8q20 x a ∧ side (Z0 ≤ rd8q21 a ∧ rd8q21 a ≤ rd8q21 a ∧ rd8q22 a ≤ (281474976710656 : Int) ∧ rd8q21 a ≤ (9223372036854775807 : Int)) (∀ (x_5 : Nat), rd8q27 x_4 x_5 x_3 x_2 x_1 x → rd8q45 x a x_3 x_4 x_5 x_2 x_1)) ∧ side (Z0 ≤ rd8q21 a ∧ rd8q21 a ≤ rd8q21 a ∧ rd8q22 a ≤ (281474976710656 : Int) ∧ rd8q21 a ≤ (9223372036854775807 : Int)) (∀ (x_4 : Nat), rd8q26 x_3 x_4 x_2 x_1 x → rd8q47 x a ∧ rd8q20 x a ∧ side (Z0 ≤ rd8q1 a ∧ rd8q1 a ≤ rd8q1 a ∧ rd8q2 a ≤ (281474976710656 : Int) ∧ rd8q1 a ≤ (9223372036854775807 : Int)) (∀ (x_5 : Nat), rd8q27 x_4 x_5 x_3 x_2 x_1 x → rd8q45 x a x_3 x_5 x_4 x_2 x_1))) ∧ ∀ (x_2 : Nat), x_1 ≠ x_2 ∧ x ≠ x_2 ∧ True → rd8q13 x a ∧ rd8q17 x a ∧ rd8q47 x a ∧ rd8q20 x a ∧ side (Z0 ≤ rd8q1 a ∧ rd8q1 a ≤ rd8q1 a ∧ rd8q2 a ≤ (281474976710656 : Int) ∧ rd8q1 a ≤ (9223372036854775807 : Int)) (∀ (x_3 : Nat), rd8q23 x_2 x_3 x_1 x → rd8q13 x a ∧ rd8q17 x a ∧ rd8q20 x a ∧ side (Z0 ≤ rd8q21 a ∧ rd8q21 a ≤ rd8q21 a ∧ rd8q22 a ≤ (281474976710656 : Int) ∧ rd8q21 a ≤ (9223372036854775807 : Int)) (∀ (x_4 : Nat), rd8q26 x_3 x_4 x_2 x_1 x → rd8q13 x a ∧ rd8q20 x a ∧ side (Z0 ≤ rd8q24 a ∧ rd8q24 a ≤ rd8q24 a ∧ rd8q25 a ≤ (281474976710656 : Int) ∧ rd8q24 a ≤ (9223372036854775807 : Int)) (∀ (x_5 : Nat), rd8q27 x_4 x_5 x_3 x_2 x_1 x → rd8q45 x a x_2 x_3 x_4 x_5 x_1)) ∧ side (Z0 ≤ rd8q24 a ∧ rd8q24 a ≤ rd8q24 a ∧ rd8q25 a ≤ (281474976710656 : Int) ∧ rd8q24 a ≤ (9223372036854775807 : Int)) (∀ (x_4 : Nat), rd8q26 x_3 x_4 x_2 x_1 x → rd8q17 x a ∧ rd8q20 x a ∧ side (Z0 ≤ rd8q21 a ∧ rd8q21 a ≤ rd8q21 a ∧ rd8q22 a ≤ (281474976710656 : Int) ∧ rd8q21 a ≤ (9223372036854775807 : Int)) (∀ (x_5 : Nat), rd8q27 x_4 x_5 x_3 x_2 x_1 x → rd8q45 x a x_2 x_3 x_5 x_4 x_1))) ∧ side (Z0 ≤ rd8q21 a ∧ rd8q21 a ≤ rd8q21 a ∧ rd8q22 a ≤ (281474976710656 : Int) ∧ rd8q21 a ≤ (9223372036854775807 : Int)) (∀ (x_3 : Nat), rd8q23 x_2 x_3 x_1 x → rd8q13 x a ∧ rd8q47 x a ∧ rd8q20 x a ∧ side (Z0 ≤ rd8q1 a ∧ rd8q1 a ≤ rd8q1 a ∧ rd8q2 a ≤ (281474976710656 : Int) ∧ rd8q1 a ≤ (9223372036854775807 : Int)) (∀ (x_4 : Nat), rd8q26 x_3 x_4 x_2 x_1 x → rd8q13 x a ∧ rd8q20 x a ∧ side (Z0 ≤ rd8q24 a ∧ rd8q24 a ≤ rd8q24 a ∧ rd8q25 a ≤ (281474976710656 : Int) ∧ rd8q24 a ≤ (9223372036854775807 : Int)) (∀ (x_5 : Nat), rd8q27 x_4 x_5 x_3 x_2 x_1 x → rd8q45 x a x_2 x_4 x_3 x_5 x_1)) ∧ side (Z0 ≤ rd8q24 a ∧ rd8q24 a ≤ rd8q24 a ∧ rd8q25 a ≤ (281474976710656 : Int) ∧ rd8q24 a ≤ (9223372036854775807 : Int)) (∀ (x_4 : Nat), rd8q26 x_3 x_4 x_2 x_1 x → rd8q47 x a ∧ rd8q20 x a ∧ side (Z0 ≤ rd8q1 a ∧ rd8q1 a ≤ rd8q1 a ∧ rd8q2 a ≤ (281474976710656 : Int) ∧ rd8q1 a ≤ (9223372036854775807 : Int)) (∀ (x_5 : Nat), rd8q27 x_4 x_5 x_3 x_2 x_1 x → rd8q45 x a x_2 x_5 x_3 x_4 x_1))) ∧ side (Z0 ≤ rd8q24 a ∧ rd8q24 a ≤ rd8q24 a ∧ rd8q25 a ≤ (281474976710656 : Int) ∧ rd8q24 a ≤ (9223372036854775807 : Int)) (∀ (x_3 : Nat), rd8q23 x_2 x_3 x_1 x → rd8q17 x a ∧ rd8q47 x a ∧ rd8q20 x a ∧ side (Z0 ≤ rd8q1 a ∧ rd8q1 a ≤ rd8q1 a ∧ rd8q2 a ≤ (281474976710656 : Int) ∧ rd8q1 a ≤ (9223372036854775807 : Int)) (∀ (x_4 : Nat), rd8q26 x_3 x_4 x_2 x_1 x → rd8q17 x a ∧ rd8q20 x a ∧ side (Z0 ≤ rd8q21 a ∧ rd8q21 a ≤ rd8q21 a ∧ rd8q22 a ≤ (281474976710656 : Int) ∧ rd8q21 a ≤ (9223372036854775807 : Int)) (∀ (x_5 : Nat), rd8q27 x_4 x_5 x_3 x_2 x_1 x → rd8q45 x a x_2 x_4 x_5 x_3 x_1)) ∧ side (Z0 ≤ rd8q21 a ∧ rd8q21 a ≤ rd8q21 a ∧ rd8q22 a ≤ (281474976710656 : Int) ∧ rd8q21 a ≤ (9223372036854775807 : Int)) (∀ (x_4 : Nat), rd8q26 x_3 x_4 x_2 x_1 x → rd8q47 x a ∧ rd8q20 x a ∧ side (Z0 ≤ rd8q1 a ∧ rd8q1 a ≤ rd8q1 a ∧ rd8q2 a ≤ (281474976710656 : Int) ∧ rd8q1 a ≤ (9223372036854775807 : Int)) (∀ (x_5 : Nat), rd8q27 x_4 x_5 x_3 x_2 x_1 x → rd8q45 x a x_2 x_5 x_4 x_3 x_1)))) ∧ ∀ (x_2 : (Nat × Nat) × Nat × Nat), True → SM x_2.2.2 ∧ SM x ∧ SM x_2.1.1 ∧ rd8q35 a ∧ rd8q35 a ∧ SM x_2.2.2 ∧ SM x ∧ SM x_2.1.2 ∧ rd8q39 a ∧ rd8q39 a ∧ SM x ∧ (∃ (x_3 : Nat), x_3 ≤ rd8q4 a ∧ (Z0 = (↑x_3 : Int) ∧ True) ∧ (SM x_2.2.2 ∧ rd8q48 a x_2.1.1 x_2.1.2 x_2.2.1 ∧ SM x_2.2.1 ∧ (rd8q42 a ∧ rd8q42 a ∧ ∀ (i : Nat), rd8q43 i a → clR (rd8q3 a) N0 i = rd8q49 a x_3 i) ∧ rd8q50 x_2.1.2 a x_2.1.1 x_1 x) ∧ True) ∧ ∀ (x_3 : Nat), x_3 ≤ rd8q4 a → ifB (decide ((↑x_3 : Int) < rd8q24 a)) (side (Z0 ≤ (↑x_3 : Int) ∧ (↑x_3 : Int) < rd8q24 a) (∀ (x_4 : Nat), x_2.2.2 ≠ x_4 ∧ rd8q27 x_2.2.1 x_4 x_2.1.2 x_2.1.1 x_1 x → SM x_4 ∧ SM x_2.2.2 ∧ SM x_4 ∧ ∃ (x_5 : Arr), ((Arr.k (rd8q51 a x_3) = rd8q18 x_5 ∧ (rd8q53 a x_3 = rd8q0 x_5 ∧ (∀ (i : Nat), i < rd8q53 a x_3 → [ZI (GI (rd8q52 a x_3) i)] = rd8q36 x_5 i) ∧ True) ∧ (rd8q55 a x_3 = rd8q14 x_5 ∧ (∀ (i : Nat), i < rd8q55 a x_3 → [ZI (GI (rd8q54 a x_3) i)] = rd8q15 x_5 i) ∧ True) ∧ (rd8q57 a x_3 = rd8q4 x_5 ∧ (∀ (i : Nat), i < rd8q57 a x_3 → Arr.row (List.getD (rd8q56 a x_3) i rd8q5) = rd8q58 x_5 i) ∧ True) ∧ True) ∧ True) ∧ (True ∧ True) ∧ x_5 ∈ rd8q3 a ∧ ∀ (y : Unit), True → (SM x_2.2.2 ∧ SM (rd8q59 x_2.2.1 a)) ∧ side (Z0 ≤ (↑x_3 : Int) ∧ (↑x_3 : Int) < rd8q24 a) (SM x_2.2.1 ∧ side (Int.toNat (↑x_3 : Int) < rd8q4 a) ((SM (D.ref N0 x N0) ∧ SM (D.ref (max (N0 + N1) N0) x_1 N0) ∧ SM (D.ref (17 : Nat) x_2.2.2 N0) ∧ rd8q12 a ∧ SM (ZI (rd8q24 a)) ∧ True) ∧ ∃ (y : Nat), y ≤ rd8q4 a ∧ rd8q4 a - y < rd8q4 a - x_3 ∧ (IntKind.wrap IntKind.i64 ((↑x_3 : Int) + Z1) = (↑y : Int) ∧ True) ∧ (SM x_2.2.2 ∧ rd8q48 a x_2.1.1 x_2.1.2 x_2.2.1 ∧ SM x_2.2.1 ∧ (rd8q42 a ∧ rd8q42 a ∧ ∀ (i : Nat), rd8q43 i a → updF (clR (rd8q3 a) x_3) (Int.toNat (↑x_3 : Int)) (List.set (List.set (List.set (List.set (clR (rd8q3 a) x_3 (Int.toNat (↑x_3 : Int))) N0 (rd8q19 x_5)) (N0 + N1) (rd8q46 x_5)) N2 (rd8q16 x_5)) (3 : Nat) (D.sl N4 (rd8q4 x_5) (fun (i : Nat) => rd8q58 x_5 i) Mode.any)) i = rd8q49 a y i) ∧ rd8q50 x_2.1.2 a x_2.1.1 x_1 x) ∧ True)))) (SM x_2.1.1 ∧ rd8q35 a ∧ side (rd8q0 a ≤ rd8q0 a) ((∀ (i : Nat), i < rd8q0 a → (List.all (rd8q36 a i) fun (x : D) => rd8q60 x) = true) ∧ ∀ (t : Nat), SM x_2.1.2 ∧ rd8q39 a ∧ side (rd8q14 a ≤ rd8q14 a) ((∀ (i : Nat), i < rd8q14 a → (List.all (rd8q15 a i) fun (x : D) => rd8q60 x) = true) ∧ ∀ (t : Nat), SM x_2.2.1 ∧ rd8q42 a ∧ side (rd8q4 a ≤ rd8q4 a) ((∀ (i : Nat), rd8q43 i a → (List.all (rd8q49 a x_3 i) fun (x : D) => rd8q60 x) = true) ∧ ∀ (t : Nat), SM x_2.2.2 ∧ SM x_1 ∧ (SM x_1 ∧ True) ∧ ∃ (y : Unit), True ∧ (rd8q28 a ∧ rd8q38 a ∧ rd8q41 a ∧ (rd8q42 a ∧ (∀ (i : Nat), rd8q43 i a → rd8q49 a x_3 i = rd8q10 a i) ∧ True) ∧ True) ∧ True ∧ True))))) (by kernel_rfl) ?_
  delta DA GI LN N0 N1 N2 N4 NI SI SM Z0 Z1 ZI rd8q0 rd8q1 rd8q10 rd8q11 rd8q12 rd8q13 rd8q14 rd8q15 rd8q16 rd8q17 rd8q18 rd8q19 rd8q2 rd8q20 rd8q21 rd8q22 rd8q23 rd8q24 rd8q25 rd8q26 rd8q27 rd8q28 rd8q29 rd8q3 rd8q30 rd8q31 rd8q32 rd8q33 rd8q34 rd8q35 rd8q36 rd8q37 rd8q38 rd8q39 rd8q4 rd8q40 rd8q41 rd8q42 rd8q43 rd8q44 rd8q45 rd8q46 rd8q47 rd8q48 rd8q49 rd8q5 rd8q50 rd8q51 rd8q52 rd8q53 rd8q54 rd8q55 rd8q56 rd8q57 rd8q58 rd8q59 rd8q6 rd8q60 rd8q7 rd8q8 rd8q9
  have da : (default : Arr) = Arr.mk 0 [] [] [] := rfl
  simp only [← da, eq_self, implies_true, Int.toNat_natCast, ifB_iff, side_iff, decide_eq_true_eq, decide_eq_false_iff_not, true_and, and_true, exists_const, forall_const]
  obtain ⟨l1, l2, l3⟩ := ha
  refine fun x x1 hx => ⟨?_, ?_⟩
  · repeat' (first | (refine ⟨((_, _), _, _), rfl, rfl, ⟨rfl, rfl, rfl⟩, rfl, fun _ _ => rfl, rfl, rfl⟩) | (refine And.intro ?_ ?_) | intro _ | omega)
  refine fun y => ⟨⟨0, Nat.zero_le _, rfl, fun _ _ => rfl⟩, fun i hi => ⟨fun hlt => ⟨⟨by omega, hlt⟩, fun x4 _ => ⟨a.it.getD i default, ⟨rfl, ⟨rfl, fun _ _ => rfl⟩, ⟨rfl, fun _ _ => rfl⟩, rfl, fun _ _ => rfl⟩, mem_getD (by omega), ⟨by omega, hlt⟩, by omega, i + 1, by omega, by omega, wrap_i64' (by omega) (by omega), fun j hj => ?_⟩⟩, fun hge => ⟨Nat.le_refl _, fun _ _ => rfl, Nat.le_refl _, fun _ _ => rfl, Nat.le_refl _, fun j hj => ?_, fun j hj => ?_⟩⟩⟩
  · rw [clR_ge (its := a.it) (i := i) (j := i) (by omega)]
    by_cases e : j = i
    · subst e
      rw [clR_lt (by omega)]
      simp only [updF, if_true]
      rfl
    · simp only [updF, e, if_false]
      by_cases e2 : j < i
      · rw [clR_lt e2, clR_lt (by omega)]
      · rw [clR_ge e2, clR_ge (by omega)]
  · rw [clR_lt (by omega)]; rfl
  · rw [clR_lt (by omega)]; rfl
theorem row2_row1 (a : Arr) : wkL a.row2 a.row1 := by
  simp only [Arr.row1, Arr.row2, gsl, isl, wkL, wkD, weakD, chk_iff]
  exact ⟨⟨by simp [kEq], trivial⟩, ⟨by simp, trivial, fun i _ => by simp [kEq], by simp [weakM]⟩, ⟨by simp, trivial, fun i _ => by simp [kEq], by simp [weakM]⟩, ⟨by simp, trivial, fun i _ => row1_row _, by simp [weakM]⟩, trivial⟩
theorem chkL_zero : ∀ (l : List Arr) (d w : Int) (r : Int × Int), chkL l d w = some r → ∀ x ∈ l, (chkA x).1 = 0
  | [], _, _, _, _, x, hx => by cases hx
  | y :: l, d, w, r, h, x, hx => by
    rw [chkL] at h
    split at h
    · cases h
    · rename_i hy
      rcases List.mem_cons.1 hx with rfl | hx
      · simpa using hy
      · exact chkL_zero l _ _ r h x hx
theorem chkA_zero {k : Int} {s n : List Int} {is : List Arr} (h : (chkA (.mk k s n is)).1 = 0) : s.length ≤ 8 ∧ n.length ≤ 65536 ∧ is.length ≤ 65536 ∧ ∀ x ∈ is, (chkA x).1 = 0 := by
  rw [chkA] at h
  by_cases h0 : formS k s n.length is.length ≠ 0
  · rw [if_pos h0] at h; exact (h0 h).elim
  · rw [if_neg h0] at h
    have h0 : formS k s n.length is.length = 0 := by simpa using h0
    have hs := form_small h0
    refine ⟨form_len h0, hs.1, hs.2, ?_⟩
    by_cases hb : n.any (badK k) = true
    · rw [if_pos hb] at h; simp at h
    · rw [if_neg hb] at h
      cases hr : chkL is 0 ((n.length : Int) + is.length) with
      | none => rw [hr] at h; simp at h
      | some r => exact chkL_zero _ _ _ r hr
theorem cl_all : ∀ (a : Arr), (chkA a).1 = 0 → ACalls Try.prog 26 [.agg a.row1] ⟨[], []⟩ (SpecR (sCl Arr.row1 Arr.row1 (fun _ => True)) a)
  | .mk k s n is, h => by
    obtain ⟨h1, h2, h3, h4⟩ := chkA_zero h
    have hc : ConOk Try.prog (conCl (Arr.mk k s n is).it) := by
      intro k' ds S A hk
      unfold conCl at hk
      split at hk
      · injection hk with hk; subst hk
        refine ConOk.plain (fun (b : Arr) hb => ?_) rfl rfl
        have hb' : b ∈ is := hb
        exact (cl_all b (h4 b hb')).mono fun _ _ ⟨y, q1, q2, q3⟩ => ⟨y, q1, q2, q3⟩
      · cases hk
    have hm := cl_step (.mk k s n is) ⟨by show n.length ≤ _; omega, by show is.length ≤ _; omega, by show s.length ≤ _; omega⟩ hc
    have hm2 : ACalls Try.prog 26 [.agg (Arr.mk k s n is).row1] ⟨[], []⟩ (SpecR (sCl Arr.row2 Arr.row2 (fun _ => True)) (.mk k s n is)) := by
      refine ACalls.wkArgs hm ?_
      simp only [sCl, wkL, wkD]
      exact ⟨row1_wk _, trivial⟩
    refine ACalls.wkEnd hm2 fun r S' ⟨y, q1, q2, q3⟩ => ?_
    subst q2 q3
    refine ⟨.ret (.agg (Arr.mk k s n is).row1), fun C e he => ?_, ⟨(), trivial, rfl, rfl⟩⟩
    cases e with
    | returned v =>
      refine wkD_weak (.agg (Arr.mk k s n is).row2) _ ?_ C v he
      simp only [wkD]
      exact row2_row1 _
    | panicked _ => exact he.elim
    | outgrown => exact he.elim
termination_by a => SizeOf.sizeOf a
decreasing_by
  have := List.sizeOf_lt_of_mem hb'
  simp; omega
end Go.Proofs.Ytoglbmhkfkghbaa
namespace Go.Proofs.Ytoglbmhkfkghbaa
open Go Go.Ab
def rowV (c : CodD) (bV cV : Nat) : List D := [.vs 0 bV c.consts.length cV 4, gsl 2 FnD.row c.funs, gsl 4 KeD.row c.kers, gsl 2 LaD.row c.lanes]
noncomputable section
def bc3vq0 (p0 : I4) : Int := I4.a p0
def bc3vq1 (p0 : I4) : Int := I4.b p0
def bc3vq2 (p0 : I4) : Bool := decide (Z0 ≤ bc3vq1 p0)
def bc3vq3 (p0 : Nat) : Prop := SM p0 ∧ True
def bc3vq4 (p0 : CodD) (p1 : Nat) (p2 : I4) (p3 : Eff) : Prop := offQ (effC p0 p1 p2) p3
def bc3vq5 (p0 : List UInt8) : Prop := eqOf (List UInt8) [] p0
def bc3vq6 (p0 : CodD) (p1 : Nat) (p2 : I4) : Bool := Option.isSome (effC p0 p1 p2)
def bc3vq7 (p0 : I4) (p1 : CodD) (p2 : Nat) : Prop := decide (Z0 ≤ I4.c p0) = bc3vq6 p1 p2 p0 ∧ True
def bc3vq8 : Prop := True ∧ True
def bc3vq9 (p0 : CodD) (p1 : Nat) (p2 : I4) : Prop := false = bc3vq6 p0 p1 p2 ∧ True
def bc3vq10 (p0 : List UInt8) (p1 : CodD) (p2 : Nat) (p3 : I4) : Prop := [(97 : UInt8)] = p0 ∧ bc3vq9 p1 p2 p3
def bc3vq11 (p0 : Nat) (p1 : CodD) (p2 : Nat) (p3 : I4) : Prop := SM p0 ∧ bc3vq3 p0 ∧ ∃ (y : Eff), bc3vq4 p1 p2 p3 y ∧ (bc3vq5 y.1 ∧ bc3vq10 y.2 p1 p2 p3) ∧ bc3vq8
def bc3vq12 (p0 : Nat) (p1 : CodD) (p2 : Nat) (p3 : I4) : Prop := SM p0 ∧ bc3vq3 p0 ∧ ∃ (y : Eff), bc3vq4 p1 p2 p3 y ∧ (bc3vq5 y.1 ∧ [(102 : UInt8)] = y.2 ∧ bc3vq9 p1 p2 p3) ∧ bc3vq8
def bc3vq13 (p0 : I4) : I4 := I4.mk (bc3vq0 p0) (bc3vq1 p0) (I4.c p0) (I4.d p0)
def bc3vq14 (p0 : I4) : Option Eff := derivedC (bc3vq13 p0)
def bc3vq15 (p0 : Nat) (p1 : I4) (p2 : Nat) (p3 : CodD) (p4 : Nat) : Prop := SM p0 ∧ inI64 (bc3vq1 p1) ∧ ∀ (y : Eff), offQ (bc3vq14 p1) y → SM p2 ∧ bc3vq3 p2 ∧ ∃ (y_1 : Eff), bc3vq4 p3 p4 p1 y_1 ∧ (y.1 = y_1.1 ∧ y.2 = y_1.2 ∧ Option.isSome (bc3vq14 p1) = bc3vq6 p3 p4 p1 ∧ True) ∧ bc3vq8
def bc3vq16 (p0 : I4) (p1 : CodD) : Bool := decide (bc3vq1 p0 ≤ IntKind.wrap IntKind.i64 ((LI (CodD.consts p1)) - Z1))
def bc3vq17 (p0 : I4) (p1 : CodD) : Bool := bif bc3vq2 p0 then bc3vq16 p0 p1 else false
def bc3vq18 (p0 : I4) (p1 : CodD) (p2 : Nat) : Prop := (I4.c p0 == Z0) = bc3vq6 p1 p2 p0 ∧ True
def bc3vq19 (p0 : List UInt8) (p1 : I4) (p2 : CodD) (p3 : Nat) : Prop := [(97 : UInt8)] = p0 ∧ bc3vq18 p1 p2 p3
def bc3vq20 (p0 : CodD) : Int := (LI (CodD.funs p0))
def bc3vq21 (p0 : CodD) (p1 : Nat) : FnD := GF p0 (Int.toNat (↑p1 : Int))
def bc3vq22 (p0 : I4) (p1 : CodD) (p2 : Nat) : Bool := decide (bc3vq1 p0 ≤ IntKind.wrap IntKind.i64 (FnD.slots (bc3vq21 p1 p2) - Z1))
def bc3vq23 (p0 : I4) (p1 : CodD) (p2 : Nat) : Bool := bif bc3vq2 p0 then bc3vq22 p0 p1 p2 else false
def bc3vq24 (p0 : List UInt8) (p1 : I4) (p2 : CodD) (p3 : Nat) : Prop := bc3vq5 p0 ∧ bc3vq18 p1 p2 p3
def bc3vq25 (p0 : List UInt8) (p1 : CodD) (p2 : Nat) (p3 : I4) : Prop := bc3vq5 p0 ∧ bc3vq9 p1 p2 p3
def bc3vq26 (p0 : I4) : Int := if (1000 : Int) < bc3vq1 p0 then (1000 : Int) else bc3vq1 p0
def bc3vq27 (p0 : I4) : Int := if bc3vq26 p0 < Z0 then Z0 else bc3vq26 p0
def bc3vq28 (p0 : I4) : Nat := Int.toNat (bc3vq27 p0)
def bc3vq29 (p0 : I4) : Bool := bif decide ((2 : Int) ≤ bc3vq1 p0) then decide (bc3vq1 p0 ≤ (1000 : Int)) else false
def bc3vq30 (p0 : I4) (p1 : List UInt8) : Prop := Lib.repeatL [(97 : UInt8)] (bc3vq28 p0) = p1
def bc3vq31 (p0 : I4) : Bool := decide (Z1 ≤ bc3vq1 p0)
def bc3vq32 (p0 : I4) : Bool := bif bc3vq31 p0 then decide (bc3vq1 p0 ≤ (55 : Int)) else false
def bc3vq33 (p0 : I4) : Prop := ifB (bc3vq31 p0) (decide (bc3vq1 p0 ≤ (55 : Int)) = bc3vq32 p0 ∧ True) (false = bc3vq32 p0 ∧ True)
def bc3vq34 (p0 p1 p2 : Nat) (p3 : CodD) (p4 : Nat) (p5 : I4) : Prop := SM p0 ∧ SM p1 ∧ SM p1 ∧ SM p2 ∧ bc3vq3 p2 ∧ ∃ (y : Eff), bc3vq4 p3 p4 p5 y ∧ (bc3vq5 y.1 ∧ [(102 : UInt8)] = y.2 ∧ bc3vq18 p5 p3 p4) ∧ bc3vq8
def bc3vq35 (p0 p1 : Nat) (p2 : CodD) (p3 : Nat) (p4 : I4) : Prop := SM p0 ∧ SM p0 ∧ bc3vq12 p1 p2 p3 p4
def bc3vq36 (p0 : I4) (p1 : CodD) : Bool := decide (bc3vq1 p0 ≤ IntKind.wrap IntKind.i64 (bc3vq20 p1 - Z1))
def bc3vq37 (p0 : I4) (p1 : CodD) : Bool := bif bc3vq31 p0 then bc3vq36 p0 p1 else false
def bc3vq38 (p0 : I4) (p1 : CodD) (p2 : Nat) : Bool := decide (bc3vq1 p0 ≤ IntKind.wrap IntKind.i64 ((LI (FnD.code (bc3vq21 p1 p2))) - Z1))
def bc3vq39 (p0 : I4) (p1 : CodD) (p2 : Nat) : Bool := bif bc3vq2 p0 then bc3vq38 p0 p1 p2 else false
def bc3vq40 (p0 : I4) (p1 : CodD) : Bool := decide (bc3vq1 p0 ≤ IntKind.wrap IntKind.i64 ((LI (CodD.kers p1)) - Z1))
def bc3vq41 (p0 : I4) (p1 : CodD) : Bool := bif bc3vq2 p0 then bc3vq40 p0 p1 else false
def bc3vq42 (p0 : CodD) (p1 : I4) : Int := KeD.inputs (GK p0 (Int.toNat (bc3vq1 p1)))
def bc3vq43 (p0 : CodD) (p1 : I4) : Int := if (16 : Int) < bc3vq42 p0 p1 then (16 : Int) else bc3vq42 p0 p1
def bc3vq44 (p0 : CodD) (p1 : I4) : Int := if bc3vq43 p0 p1 < Z0 then Z0 else bc3vq43 p0 p1
def bc3vq45 (p0 : CodD) (p1 : I4) : Nat := Int.toNat (bc3vq44 p0 p1)
def bc3vq46 (p0 : CodD) (p1 : I4) : Bool := decide (Z1 ≤ bc3vq42 p0 p1)
def bc3vq47 (p0 : CodD) (p1 : I4) : Bool := decide (bc3vq42 p0 p1 ≤ (16 : Int))
def bc3vq48 (p0 : CodD) (p1 : I4) : Bool := bif bc3vq46 p0 p1 then bc3vq47 p0 p1 else false
def bc3vq49 (p0 : CodD) (p1 : I4) (p2 : List UInt8) : Prop := Lib.repeatL [(97 : UInt8)] (bc3vq45 p0 p1) = p2
def bc3vq50 (p0 : Nat) (p1 : I4) : Option Eff := plainC ((↑p0 : Int) == Z0) (bc3vq13 p1)
def bc3vq51 (p0 p1 p2 : Nat) (p3 : I4) (p4 : CodD) (p5 : Nat) : Prop := ∀ (x : Nat), p0 ≠ x ∧ p1 ≠ x ∧ p2 ≠ x ∧ True → SM p1 ∧ ifB (bc3vq0 p3 == Z1) (SM p1 ∧ SM p2 ∧ ifB (bc3vq2 p3) (bc3vq16 p3 p4 = bc3vq17 p3 p4 ∧ True) (false = bc3vq17 p3 p4 ∧ True) ∧ True ∧ SM x ∧ SM x ∧ ifB (bc3vq17 p3 p4) (SM p1 ∧ SM x ∧ SM x ∧ SM p0 ∧ bc3vq3 p0 ∧ ∃ (y : Eff), bc3vq4 p4 p5 p3 y ∧ (bc3vq5 y.1 ∧ bc3vq19 y.2 p3 p4 p5) ∧ bc3vq8) (SM x ∧ SM x ∧ bc3vq11 p0 p4 p5 p3)) (ifB (bc3vq0 p3 == (6 : Int)) (SM p1 ∧ SM p2 ∧ side (Z0 ≤ (↑p5 : Int) ∧ (↑p5 : Int) < bc3vq20 p4) (ifB (bc3vq2 p3) (bc3vq22 p3 p4 p5 = bc3vq23 p3 p4 p5 ∧ True) (false = bc3vq23 p3 p4 p5 ∧ True) ∧ True ∧ SM x ∧ SM x ∧ ifB (bc3vq23 p3 p4 p5) (SM p1 ∧ SM x ∧ SM x ∧ SM p0 ∧ bc3vq3 p0 ∧ ∃ (y : Eff), bc3vq4 p4 p5 p3 y ∧ ([(42 : UInt8)] = y.1 ∧ bc3vq24 y.2 p3 p4 p5) ∧ bc3vq8) (SM x ∧ SM x ∧ SM p0 ∧ bc3vq3 p0 ∧ ∃ (y : Eff), bc3vq4 p4 p5 p3 y ∧ ([(42 : UInt8)] = y.1 ∧ bc3vq25 y.2 p4 p5 p3) ∧ bc3vq8))) (ifB (bc3vq0 p3 == (7 : Int)) (SM p1 ∧ SM p1 ∧ (Z0 ≤ bc3vq27 p3 ∧ bc3vq27 p3 ≤ (9223372036854775807 : Int) ∧ N1 * bc3vq28 p3 ≤ (140737488355328 : Nat)) ∧ ∀ (_y : Unit), True → True ∧ (SM p1 ∧ SM (ZI (bc3vq1 p3))) ∧ ifB (decide ((2 : Int) ≤ bc3vq1 p3)) (decide (bc3vq1 p3 ≤ (1000 : Int)) = bc3vq29 p3 ∧ True) (false = bc3vq29 p3 ∧ True) ∧ True ∧ SM x ∧ SM x ∧ ifB (bc3vq29 p3) (SM p1 ∧ SM x ∧ SM x ∧ SM p0 ∧ bc3vq3 p0 ∧ ∃ (y : Eff), bc3vq4 p4 p5 p3 y ∧ (bc3vq30 p3 y.1 ∧ bc3vq19 y.2 p3 p4 p5) ∧ bc3vq8) (SM x ∧ SM x ∧ SM p0 ∧ bc3vq3 p0 ∧ ∃ (y : Eff), bc3vq4 p4 p5 p3 y ∧ (bc3vq30 p3 y.1 ∧ bc3vq10 y.2 p4 p5 p3) ∧ bc3vq8)) (ifB (bc3vq0 p3 == (8 : Int)) (SM p1 ∧ bc3vq33 p3 ∧ True ∧ True ∧ SM x ∧ SM x ∧ ifB (bc3vq32 p3) (SM p1 ∧ SM x ∧ SM x ∧ SM p0 ∧ bc3vq3 p0 ∧ ∃ (y : Eff), bc3vq4 p4 p5 p3 y ∧ ([(97 : UInt8)] = y.1 ∧ bc3vq19 y.2 p3 p4 p5) ∧ bc3vq8) (SM x ∧ SM x ∧ SM p0 ∧ bc3vq3 p0 ∧ ∃ (y : Eff), bc3vq4 p4 p5 p3 y ∧ ([(97 : UInt8)] = y.1 ∧ bc3vq10 y.2 p4 p5 p3) ∧ bc3vq8)) (ifB (bc3vq0 p3 == (9 : Int)) (SM p1 ∧ bc3vq33 p3 ∧ True ∧ True ∧ SM x ∧ SM x ∧ ifB (bc3vq32 p3) (SM p1 ∧ SM x ∧ SM x ∧ SM p0 ∧ bc3vq3 p0 ∧ ∃ (y : Eff), bc3vq4 p4 p5 p3 y ∧ ([(97 : UInt8), (97 : UInt8)] = y.1 ∧ bc3vq19 y.2 p3 p4 p5) ∧ bc3vq8) (SM x ∧ SM x ∧ SM p0 ∧ bc3vq3 p0 ∧ ∃ (y : Eff), bc3vq4 p4 p5 p3 y ∧ ([(97 : UInt8), (97 : UInt8)] = y.1 ∧ bc3vq10 y.2 p4 p5 p3) ∧ bc3vq8)) (ifB (bc3vq0 p3 == (10 : Int)) (SM p1 ∧ bc3vq33 p3 ∧ True ∧ True ∧ SM x ∧ SM x ∧ ifB (bc3vq32 p3) (bc3vq34 p1 x p0 p4 p5 p3) (bc3vq35 x p0 p4 p5 p3)) (ifB (bc3vq0 p3 == (11 : Int)) (SM p1 ∧ SM p2 ∧ ifB (bc3vq31 p3) (bc3vq36 p3 p4 = bc3vq37 p3 p4 ∧ True) (false = bc3vq37 p3 p4 ∧ True) ∧ True ∧ SM x ∧ SM x ∧ ifB (bc3vq37 p3 p4) (bc3vq34 p1 x p0 p4 p5 p3) (bc3vq35 x p0 p4 p5 p3)) (ifB (bc3vq0 p3 == (24 : Int)) (SM p1 ∧ SM p2 ∧ side (Z0 ≤ (↑p5 : Int) ∧ (↑p5 : Int) < bc3vq20 p4) (ifB (bc3vq2 p3) (bc3vq38 p3 p4 p5 = bc3vq39 p3 p4 p5 ∧ True) (false = bc3vq39 p3 p4 p5 ∧ True) ∧ True ∧ SM x ∧ SM x ∧ ifB (bc3vq39 p3 p4 p5) (SM p1 ∧ SM x ∧ SM x ∧ SM p0 ∧ bc3vq3 p0 ∧ ∃ (y : Eff), bc3vq4 p4 p5 p3 y ∧ ([(97 : UInt8)] = y.1 ∧ bc3vq24 y.2 p3 p4 p5) ∧ bc3vq8) (SM x ∧ SM x ∧ SM p0 ∧ bc3vq3 p0 ∧ ∃ (y : Eff), bc3vq4 p4 p5 p3 y ∧ ([(97 : UInt8)] = y.1 ∧ bc3vq25 y.2 p4 p5 p3) ∧ bc3vq8))) (ifB (bc3vq0 p3 == (27 : Int)) (SM p1 ∧ SM p2 ∧ ifB (bc3vq2 p3) (bc3vq40 p3 p4 = bc3vq41 p3 p4 ∧ True) (false = bc3vq41 p3 p4 ∧ True) ∧ True ∧ ifB (bc3vq41 p3 p4) (SM p2 ∧ SM p1 ∧ side (Z0 ≤ bc3vq1 p3 ∧ bc3vq1 p3 < (LI (CodD.kers p4))) ((Z0 ≤ bc3vq44 p4 p3 ∧ bc3vq44 p4 p3 ≤ (9223372036854775807 : Int) ∧ N1 * bc3vq45 p4 p3 ≤ (140737488355328 : Nat)) ∧ ∀ (_y : Unit), True → True ∧ ifB (bc3vq46 p4 p3) (bc3vq47 p4 p3 = bc3vq48 p4 p3 ∧ True) (false = bc3vq48 p4 p3 ∧ True) ∧ True ∧ SM x ∧ SM x ∧ ifB (bc3vq48 p4 p3) (SM p1 ∧ SM x ∧ SM x ∧ SM p0 ∧ bc3vq3 p0 ∧ ∃ (y : Eff), bc3vq4 p4 p5 p3 y ∧ (bc3vq49 p4 p3 y.1 ∧ bc3vq19 y.2 p3 p4 p5) ∧ bc3vq8) (SM x ∧ SM x ∧ SM p0 ∧ bc3vq3 p0 ∧ ∃ (y : Eff), bc3vq4 p4 p5 p3 y ∧ (bc3vq49 p4 p3 y.1 ∧ bc3vq10 y.2 p4 p5 p3) ∧ bc3vq8))) (SM x ∧ SM x ∧ SM x ∧ SM p0 ∧ bc3vq3 p0 ∧ ∃ (y : Eff), bc3vq4 p4 p5 p3 y ∧ (bc3vq5 y.1 ∧ bc3vq25 y.2 p4 p5 p3) ∧ bc3vq8)) (SM p1 ∧ True ∧ ∀ (y : Eff), offQ (bc3vq50 p5 p3) y → SM p0 ∧ bc3vq3 p0 ∧ ∃ (y_1 : Eff), bc3vq4 p4 p5 p3 y_1 ∧ (y.1 = y_1.1 ∧ y.2 = y_1.2 ∧ Option.isSome (bc3vq50 p5 p3) = bc3vq6 p4 p5 p3 ∧ True) ∧ bc3vq8)))))))))
end
set_option maxHeartbeats 4000000 in
theorem of_okV (bV cV : Nat) (c : CodD) (f : Nat) (x : I4) (hf : f < c.funs.length) (hc : c.ok) (hx : x.ok) : ACalls Try.prog 63 [.agg (rowV c bV cV), .int .i64 f, .agg x.row] ⟨[], []⟩ (SpecR (pQ [.agg (rowV c bV cV), .int .i64 f, .agg x.row] (offD (effC c f x)) (offQ (effC c f x)) True) ()) := by
  refine con_of (A := pQ _ _ _ _) (x := ()) (E := Eof) (eOk conE_ok rfl) Try.func63 rfl (by kernel_rfl) rfl (by simp [pQ, Eof, EC, E0]) ?_
  have hm : ∀ n : Nat, n ≤ maxLen → IntKind.i64.wrap ((n : Int) - 1) = (n : Int) - 1 := fun n hn => by simp only [maxLen] at hn; exact wrap_i64' (by omega) (by omega)
  obtain ⟨_, h2, h3, _, l1, l2, l3, _⟩ := hc
  have hfo := getD_ok h2 hf
  have w1 := hm _ l1
  have w2 := hm _ l2
  have w3 := hm _ l3
  have w4 := hm _ hfo.2.2
  have hk : ∀ i : Nat, i < c.kers.length → inI64 (c.kers.getD i default).inputs := fun i hi => (getD_ok h3 hi).1
  have de : (default : FnD) = ⟨0, []⟩ := rfl
  have dk : (default : KeD) = ⟨0, [], 0, 0⟩ := rfl
  have e0 : ((f : Int) == 0) = decide (f = 0) := by
    by_cases e : f = 0
    · subst e; rfl
    · simp [e]
  have wb : IntKind.i64.wrap x.b = x.b := wrap_i64' hx.2.1.1 hx.2.1.2
  refine vc_eq (T :=
    ∀ (x_1 : Nat), True → ∀ (x_2 : Nat), x_1 ≠ x_2 ∧ True → ∀ (x_3 : Nat), x_2 ≠ x_3 ∧ x_1 ≠ x_3 ∧ True → SM x_2 ∧ ifB (bc3vq0 x == (5 : Int)) (SM x_2 ∧ ifB (bc3vq2 x) (SM x_2 ∧ SM x_3 ∧ bc3vq3 x_3 ∧ ∃ (y : Eff), bc3vq4 c f x y ∧ (bc3vq5 y.1 ∧ [(97 : UInt8)] = y.2 ∧ bc3vq7 x c f) ∧ bc3vq8) (bc3vq11 x_3 c f x)) (ifB (bc3vq0 x == (12 : Int)) (SM x_2 ∧ ifB (bc3vq2 x) (SM x_2 ∧ SM x_3 ∧ bc3vq3 x_3 ∧ ∃ (y : Eff), bc3vq4 c f x y ∧ (bc3vq5 y.1 ∧ [(102 : UInt8)] = y.2 ∧ bc3vq7 x c f) ∧ bc3vq8) (bc3vq12 x_3 c f x)) (ifB (bc3vq0 x == (16 : Int)) (ifB (bc3vq0 x == (16 : Int)) (bc3vq15 x_2 x x_3 c f) (bc3vq51 x_3 x_2 x_1 x c f)) (ifB (bc3vq0 x == (17 : Int)) (ifB (bc3vq0 x == (17 : Int)) (bc3vq15 x_2 x x_3 c f) (bc3vq51 x_3 x_2 x_1 x c f)) (ifB (bc3vq0 x == (18 : Int)) (bc3vq15 x_2 x x_3 c f) (bc3vq51 x_3 x_2 x_1 x c f)))))) (by kernel_rfl) ?_
  delta DF DK GF GK LI LN N1 SM Z0 Z1 ZI bc3vq0 bc3vq1 bc3vq10 bc3vq11 bc3vq12 bc3vq13 bc3vq14 bc3vq15 bc3vq16 bc3vq17 bc3vq18 bc3vq19 bc3vq2 bc3vq20 bc3vq21 bc3vq22 bc3vq23 bc3vq24 bc3vq25 bc3vq26 bc3vq27 bc3vq28 bc3vq29 bc3vq3 bc3vq30 bc3vq31 bc3vq32 bc3vq33 bc3vq34 bc3vq35 bc3vq36 bc3vq37 bc3vq38 bc3vq39 bc3vq4 bc3vq40 bc3vq41 bc3vq42 bc3vq43 bc3vq44 bc3vq45 bc3vq46 bc3vq47 bc3vq48 bc3vq49 bc3vq5 bc3vq50 bc3vq51 bc3vq6 bc3vq7 bc3vq8 bc3vq9
  simp only [← de, ← dk, e0, w1, w2, w3, w4, Int.toNat_natCast, ifB_iff, side_iff, decide_eq_true_eq, decide_eq_false_iff_not, true_and, and_true, beq_iff_eq, Bool.cond_false_right, Bool.and_eq_true, Bool.and_eq_false_iff, beq_eq_false_iff_ne, ne_eq]
  repeat' (first
    | refine off_leaf ?_
    | (refine And.intro ?_ ?_)
    | intro _)
  all_goals (try first | exact hx.2.1.1 | exact hx.2.1.2 | exact off_pass (eff_derived c f x (by omega)) (by assumption) | exact off_pass (eff_plain c f x (by simp_all)) (by assumption))
  all_goals (first | (simp_all [effC, effS, between, primB, gu]; done) | grind [effC, effS, between, primB, gu] | skip)
end Go.Proofs.Ytoglbmhkfkghbaa
namespace Go.Proofs.Ytoglbmhkfkghbaa
open Go Go.Ab
def conFV (bV cV : Nat) (c : CodD) (f : Nat) : Con := fun k ds S => match k with
  | 63 => match ds with
    | [a0, a1, .agg [.int .i64 a, .int .i64 b, .int .i64 d, .int .i64 e]] => some (pQ [.agg (rowV c bV cV), .int .i64 f, .agg (I4.row ⟨a, b, d, e⟩)] (offD (effC c f ⟨a, b, d, e⟩)) (offQ (effC c f ⟨a, b, d, e⟩)) (weakL [a0, a1] [.agg (rowV c bV cV), .int .i64 f] ∧ I4.ok ⟨a, b, d, e⟩))
    | _ => none
  | k => conE k ds S
theorem conF_okV {bV cV : Nat} {c : CodD} {f : Nat} (hf : f < c.funs.length) (hc : c.ok) : ConOk Try.prog (conFV bV cV c f) := by
  intro k ds S A h
  unfold conFV at h
  split at h
  · split at h
    · injection h with h; subst h
      exact pQ_ok fun ⟨hw, hx⟩ => ⟨⟨hw.1, hw.2.1, weakD_refl _, trivial⟩, (of_okV bV cV c f ⟨_, _, _, _⟩ hf hc hx).mono fun _ _ h => h⟩
    · cases h
  · exact conE_ok _ _ _ _ h
noncomputable def EFV (bV cV : Nat) (c : CodD) (f : Nat) : Senv := { EC (conFV bV cV c f) 139 3 [4, 5, 6, 7, 8, 9, 10, 11, 12, 13, 14, 15, 16, 17, 19, 45, 49, 50, 51, 52, 73, 108, 116, 117, 118, 119, 136] (fun _ => ([], [])) with inl := inlF (conFV bV cV c f) }
def CBV (bV cV : Nat) (c : CodD) (d : O4) : Prop := d.row = (rowV c bV cV)
def cutFV (bV cV : Nat) (c : CodD) (f : Nat) (d2 : D) : Option LoopAnn :=
  match d2 with
  | .ref _ x2 _ => some
    { slots := [6], keep := [], α := Nat × FnD × O4
      st := fun y => ([.ref 1 y.1 0], ⟨[(1, y.1, .cells (FnD.row y.2.1)), (0, x2, .cells (O4.row y.2.2))], []⟩)
      inv := fun y => y.2.1 = c.funs.getD f default ∧ CBV bV cV c y.2.2, mu := fun _ => 0 }
  | _ => none
noncomputable def E39V (bV cV : Nat) (c : CodD) (f : Nat) : Senv := { EFV bV cV c f with
  mg := fun id => match id with
    | 13 => 2
    | _ => 0
  cut := fun id env _ => match id with
    | 1 => cutFV bV cV c f (Ab.look env 2)
    | _ => none
  ann2 := fun b _ S => match b with
    | 0 => annF1 c f (c.funs.getD f default).code.length S.objs
    | _ => none
  ann := fun b env S => match b with
    | 2 => annF2 c f (c.funs.getD f default).code.length (Ab.look env 9) (Ab.look env 10) (Ab.look env 11) (vecOf S)
    | _ => none
  bcut := fun b _ S => match b with
    | 0 => annB c f (c.funs.getD f default).code.length S.objs
    | _ => none }
noncomputable section
def bc7vq0 (p0 : CodD) (p1 : Nat) : FnD := GF p0 p1
def bc7vq1 (p0 : FnD) (p1 : CodD) (p2 p3 p4 : Nat) (p5 : O4) : Prop := p0 = bc7vq0 p1 p2 ∧ CBV p3 p4 p1 p5
def bc7vq2 (p0 : Nat) : Nat := Int.toNat (↑p0 : Int)
def bc7vq3 (p0 : CodD) (p1 : Nat) : FnD := GF p0 (bc7vq2 p1)
def bc7vq4 (p0 : FnD) : Int := FnD.slots p0
def bc7vq5 (p0 : CodD) (p1 : Nat) : List I4 := FnD.code (bc7vq3 p0 p1)
def bc7vq6 (p0 : CodD) (p1 : Nat) : Nat := LN (bc7vq5 p0 p1)
def bc7vq7 (p0 : FnD) : List I4 := FnD.code p0
def bc7vq8 (p0 : FnD) : Nat := LN (bc7vq7 p0)
def bc7vq9 : I4 := D4
def bc7vq10 (p0 : CodD) (p1 p2 : Nat) : I4 := List.getD (bc7vq5 p0 p1) p2 bc7vq9
def bc7vq11 (p0 : FnD) (p1 : Nat) : I4 := List.getD (bc7vq7 p0) p1 bc7vq9
def bc7vq12 (p0 : FnD) (p1 : Nat) : List D := (R4 (bc7vq11 p0 p1))
def bc7vq13 (p0 : CodD) (p1 : Nat) : List I4 := FnD.code (bc7vq0 p0 p1)
def bc7vq14 (p0 : CodD) (p1 : Nat) : Nat := LN (bc7vq13 p0 p1)
def bc7vq15 (p0 : CodD) (p1 p2 : Nat) : I4 := List.getD (bc7vq13 p0 p1) p2 bc7vq9
def bc7vq16 (p0 : CodD) : D := D.sl N2 (LN (CodD.funs p0)) (fun (i : Nat) => [ZI (FnD.slots (bc7vq0 p0 i)), D.sl N4 (bc7vq14 p0 i) (fun (i_1 : Nat) => (R4 (bc7vq15 p0 i i_1))) Mode.any]) Mode.any
def bc7vq17 (p0 : CodD) : D := D.sl N4 (LN (CodD.kers p0)) (fun (i : Nat) => KeD.row (GK p0 i)) Mode.any
def bc7vq18 (p0 : CodD) : D := D.sl N2 (LN (CodD.lanes p0)) (fun (i : Nat) => LaD.row (GL p0 i)) Mode.any
def bc7vq19 (p0 : FnD) : Bool := bif decide (Z0 ≤ bc7vq4 p0) then decide (bc7vq4 p0 ≤ (1000 : Int)) else false
def bc7vq20 (p0 : CodD) (p1 : Nat) : Prop := True ∧ ∃ (_y : Unit), True ∧ (Z0 = (NI (Option.getD (funS p0 p1) N0)) ∧ false = Option.isSome (funS p0 p1) ∧ True) ∧ True ∧ True
def bc7vq21 (p0 : FnD) : Int := (NI (bc7vq8 p0))
def bc7vq22 (p0 : FnD) : Int := IntKind.wrap IntKind.i64 (bc7vq21 p0 - Z1)
def bc7vq23 (p0 : CodD) (p1 p2 p3 : Nat) (p4 : List Bool) : Prop := FunHead p0 p1 p2 [] p3 p4
def bc7vq24 : Prop := SM N0 ∧ (∀ (i : Nat), i < N0 → eqOf (List D) [] []) ∧ True
def bc7vq25 (p0 : FnD) : Nat := Int.toNat (bc7vq21 p0)
def bc7vq26 (p0 : FnD) : D := D.sl N4 (bc7vq8 p0) (fun (i : Nat) => bc7vq12 p0 i) Mode.any
def bc7vq27 (p0 : Nat) (p1 : FnD) (p2 : Nat) (p3 p4 p5 p6 : D) : List (Nat × Nat × AObj) := [(N1, p0, AObj.cells [ZI (bc7vq4 p1), bc7vq26 p1]), (N0, p2, AObj.cells [p3, p4, p5, p6])]
def bc7vq28 (p0 : Nat) (p1 : FnD) (p2 p3 : Nat) (p4 p5 p6 p7 : D) : St := St.mk ((N2, p0, AObj.vec N1 (bc7vq25 p1) (bc7vq25 p1) fun (_x : Nat) => [D.bool false]) :: bc7vq27 p2 p1 p3 p4 p5 p6 p7) []
def bc7vq29 (p0 : List Bool) (p1 : Nat) : List D := [D.bool (List.getD p0 p1 false)]
def bc7vq30 (p0 : Nat) (p1 : CodD) (p2 : Nat) (p3 : List Bool) (p4 : Nat) (p5 : FnD) (p6 : Nat) (p7 p8 p9 p10 : D) : List (Nat × Nat × AObj) := (N2, p0, AObj.vec N1 (bc7vq14 p1 p2) (bc7vq14 p1 p2) fun (i : Nat) => bc7vq29 p3 i) :: bc7vq27 p4 p5 p6 p7 p8 p9 p10
def bc7vq31 (p0 : Nat) (p1 : CodD) (p2 : Nat) (p3 : List Bool) (p4 : Nat) (p5 : FnD) (p6 : Nat) (p7 p8 p9 p10 : D) : St := St.mk (bc7vq30 p0 p1 p2 p3 p4 p5 p6 p7 p8 p9 p10) []
def bc7vq32 (p0 : CodD) (p1 p2 : Nat) (p3 : List UInt8) (p4 : Nat) (p5 : List Bool) (p6 : Nat) : Prop := FunHead p0 p1 p2 p3 p4 p5 ∧ LN p3 ≤ p6
def bc7vq33 : D := D.sl N1 N0 (fun (_x : Nat) => []) Mode.nil
def bc7vq34 (p0 : List UInt8) (p1 : Nat) : List D := [ZB (BI p0 p1)]
def bc7vq35 (p0 : Nat) (p1 : List UInt8) (p2 : Nat) : Nat × AObj := (p0, AObj.vec N1 (LN p1) p2 fun (i : Nat) => bc7vq34 p1 i)
def bc7vq36 (p0 : Nat) (p1 : FnD) : Bool := decide ((↑p0 : Int) < bc7vq21 p1)
def bc7vq37 (p0 : FnD) : Int := (NI (bc7vq25 p0))
def bc7vq38 (p0 : FnD) (p1 : Nat) : I4 := List.getD (bc7vq7 p0) (bc7vq2 p1) bc7vq9
def bc7vq39 (p0 : FnD) (p1 : Nat) : Int := I4.a (bc7vq38 p0 p1)
def bc7vq40 (p0 : FnD) (p1 : Nat) : Int := I4.b (bc7vq38 p0 p1)
def bc7vq41 (p0 : FnD) (p1 : Nat) : Int := I4.c (bc7vq38 p0 p1)
def bc7vq42 (p0 : FnD) (p1 : Nat) : Int := I4.d (bc7vq38 p0 p1)
def bc7vq43 (p0 : FnD) (p1 : Nat) : I4 := I4.mk (bc7vq39 p0 p1) (bc7vq40 p0 p1) (bc7vq41 p0 p1) (bc7vq42 p0 p1)
def bc7vq44 (p0 : D) (p1 : Nat) (p2 : CodD) (p3 : Nat) (p4 p5 p6 : D) (p7 : Nat) (p8 : FnD) (p9 : Nat) : Prop := ((weakD p0 (D.vs N0 p1 (LN (CodD.consts p2)) p3 N4) ∧ weakD p4 (bc7vq16 p2) ∧ weakD p5 (bc7vq17 p2) ∧ weakD p6 (bc7vq18 p2) ∧ True) ∧ SM (↑p7 : Int) ∧ True) ∧ I4.ok (bc7vq43 p8 p9)
def bc7vq45 (p0 : CodD) (p1 : Nat) (p2 : FnD) (p3 : Nat) : Option Eff := effC p0 p1 (bc7vq43 p2 p3)
def bc7vq46 (p0 : CodD) (p1 : Nat) (p2 : FnD) (p3 : Nat) (p4 : Eff) : Prop := offQ (bc7vq45 p0 p1 p2 p3) p4
def bc7vq47 (p0 : CodD) (p1 : Nat) (p2 : FnD) (p3 : Nat) : Bool := Option.isSome (bc7vq45 p0 p1 p2 p3)
def bc7vq48 (p0 p1 : List UInt8) (p2 : CodD) (p3 : Nat) (p4 : FnD) (p5 : Nat) : Bool := p0 == [] && (p1 == [] && (bc7vq47 p2 p3 p4 p5 == false && true))
def bc7vq49 (p0 : Nat) (p1 : FnD) : D := D.vs N2 p0 (bc7vq25 p1) (bc7vq25 p1) N1
def bc7vq50 (p0 : Nat) (p1 : FnD) : Prop := SM (bc7vq49 p0 p1)
def bc7vq51 (p0 p1 : Nat) (p2 : FnD) : Prop := SM (D.ref N1 p0 N0) ∧ bc7vq50 p1 p2 ∧ True
def bc7vq52 (p0 : CodD) (p1 : Nat) : Prop := SM (bc7vq14 p0 p1)
def bc7vq53 (p0 : Nat) (p1 : CodD) (p2 : Nat) : Prop := p0 < bc7vq14 p1 p2
def bc7vq54 (p0 : Nat) (p1 : FnD) : Prop := SM p0 ∧ (SM (bc7vq4 p1) ∧ (SM (bc7vq8 p1) ∧ (∀ (i : Nat), i < bc7vq8 p1 → SM (bc7vq12 p1 i)) ∧ True) ∧ True) ∧ True
def bc7vq55 (p0 p1 : Nat) (p2 : FnD) (p3 : CodD) (p4 p5 : Nat) (p6 : List Bool) (p7 : Nat) : Prop := bc7vq51 p0 p1 p2 ∧ ∃ (x : Nat × Bool × List Bool), MidInv p3 p4 x.1 x.2.1 x.2.2 ∧ ((↑p5 : Int) = (NI x.1) ∧ false = x.2.1 ∧ True) ∧ (SM p1 ∧ (bc7vq52 p3 p4 ∧ bc7vq52 p3 p4 ∧ ∀ (i : Nat), bc7vq53 i p3 p4 → updF (fun (i : Nat) => bc7vq29 p6 i) (bc7vq2 p7) [D.bool true] i = bc7vq29 x.2.2 i) ∧ bc7vq54 p0 p2) ∧ True
def bc7vq56 (p0 : FnD) (p1 : Nat) : Bool := decide (bc7vq42 p0 p1 < Z0)
def bc7vq57 (p0 : CodD) (p1 : Nat) (p2 : FnD) (p3 : Nat) : Prop := bc7vq47 p0 p1 p2 p3 = true
def bc7vq58 (p0 : FnD) (p1 : Nat) : Bool := bc7vq39 p0 p1 == (25 : Int)
def bc7vq59 (p0 : FnD) (p1 : Nat) : Bool := bc7vq39 p0 p1 == (24 : Int)
def bc7vq60 (p0 : FnD) (p1 : Nat) : Bool := bif bc7vq58 p0 p1 then true else bc7vq59 p0 p1
def bc7vq61 (p0 : Nat) (p1 : FnD) (p2 : Nat) : Prop := SM p0 ∧ ifB (bc7vq58 p1 p2) (true = bc7vq60 p1 p2 ∧ True) (SM p0 ∧ bc7vq59 p1 p2 = bc7vq60 p1 p2 ∧ True)
def bc7vq62 (p0 : FnD) (p1 : Nat) : Bool := decide (bc7vq40 p0 p1 ≤ (↑p1 : Int))
def bc7vq63 (p0 : FnD) (p1 : Nat) : Bool := bif bc7vq59 p0 p1 then bc7vq62 p0 p1 else false
def bc7vq64 (p0 : FnD) (p1 : Nat) : Bool := bif bif bc7vq60 p0 p1 then false else false then true else bc7vq63 p0 p1
def bc7vq65 (p0 : Nat) (p1 : FnD) (p2 : Nat) : Prop := SM p0 ∧ ifB (bc7vq59 p1 p2) (SM p0 ∧ bc7vq62 p1 p2 = bc7vq64 p1 p2 ∧ True) (false = bc7vq64 p1 p2 ∧ True)
def bc7vq66 (p0 : FnD) : Prop := SM (ZI (bc7vq21 p0))
def bc7vq67 (p0 : FnD) : Prop := SM (bc7vq26 p0) ∧ bc7vq66 p0 ∧ True
def bc7vq68 (p0 p1 p2 : Nat) (p3 : FnD) (p4 : Nat) : Prop := SM (ZI (↑p0 : Int)) ∧ SM (D.ref N0 p1 N0) ∧ SM (D.ref N1 p2 N0) ∧ bc7vq66 p3 ∧ bc7vq50 p4 p3 ∧ SM (D.bool true) ∧ bc7vq67 p3
def bc7vq69 (p0 : CodD) (p1 p2 : Nat) : Nat := bc7vq14 p0 p1 - p2
def bc7vq70 (p0 : CodD) (p1 p2 p3 : Nat) : Prop := bc7vq69 p0 p1 p2 < bc7vq69 p0 p1 p3
def bc7vq71 (p0 p1 : Nat) : Prop := IntKind.wrap IntKind.i64 ((↑p0 : Int) + Z1) = (↑p1 : Int)
def bc7vq72 (p0 : Nat) (p1 p2 : List UInt8) (p3 : CodD) (p4 : Nat) (p5 : FnD) (p6 : Nat) : Nat × AObj := (p0, AObj.cells [D.str p1, D.str p2, D.bool (bc7vq47 p3 p4 p5 p6)])
def bc7vq73 (p0 : Nat) (p1 : FnD) (p2 : Nat) : Nat × AObj := (p0, AObj.cells [ZI (bc7vq39 p1 p2), ZI (bc7vq40 p1 p2), ZI (bc7vq41 p1 p2), ZI (bc7vq42 p1 p2)])
def bc7vq74 (p0 : FnD) (p1 : Nat) (p2 : List UInt8) : Bool := bif bif bc7vq60 p0 p1 then decide (Z0 < (LI p2)) else false then true else bc7vq63 p0 p1
def bc7vq75 (p0 : Nat) (p1 : FnD) (p2 : Nat) (p3 : List UInt8) : Prop := SM p0 ∧ ifB (bc7vq59 p1 p2) (SM p0 ∧ bc7vq62 p1 p2 = bc7vq74 p1 p2 p3 ∧ True) (false = bc7vq74 p1 p2 p3 ∧ True)
def bc7vq76 (p0 p1 : Nat) (p2 : FnD) (p3 : CodD) (p4 p5 : Nat) (p6 : List Bool) : Prop := bc7vq51 p0 p1 p2 ∧ ∃ (x : Nat × Bool × List Bool), MidInv p3 p4 x.1 x.2.1 x.2.2 ∧ ((↑p5 : Int) = (NI x.1) ∧ true = x.2.1 ∧ True) ∧ (SM p1 ∧ (bc7vq52 p3 p4 ∧ bc7vq52 p3 p4 ∧ ∀ (i : Nat), bc7vq53 i p3 p4 → bc7vq29 p6 i = bc7vq29 x.2.2 i) ∧ bc7vq54 p0 p2) ∧ True
def bc7vq77 (p0 p1 : Nat) (p2 : FnD) (p3 : CodD) (p4 p5 : Nat) (p6 : List Bool) (p7 : Nat) (p8 : List UInt8) : Prop := bc7vq51 p0 p1 p2 ∧ ∃ (x : Nat × Bool × List Bool), MidInv p3 p4 x.1 x.2.1 x.2.2 ∧ ((↑p5 : Int) = (NI x.1) ∧ false = x.2.1 ∧ True) ∧ (SM p1 ∧ (bc7vq52 p3 p4 ∧ bc7vq52 p3 p4 ∧ ∀ (i : Nat), bc7vq53 i p3 p4 → updF (fun (i : Nat) => bc7vq29 p6 i) (bc7vq2 p7) [D.bool ((LI p8) == Z0)] i = bc7vq29 x.2.2 i) ∧ bc7vq54 p0 p2) ∧ True
def bc7vq78 (p0 p1 p2 : List UInt8) : Nat := LN (newA p0 p1 p2)
def bc7vq79 (p0 : FnD) (p1 : Nat) (p2 p3 p4 : List UInt8) : Bool := bif bif bc7vq60 p0 p1 then decide (Z0 < (NI (bc7vq78 p2 p3 p4))) else false then true else bc7vq63 p0 p1
def bc7vq80 (p0 : Nat) (p1 : FnD) (p2 : Nat) (p3 p4 p5 : List UInt8) : Prop := SM p0 ∧ ifB (bc7vq59 p1 p2) (SM p0 ∧ bc7vq62 p1 p2 = bc7vq79 p1 p2 p3 p4 p5 ∧ True) (false = bc7vq79 p1 p2 p3 p4 p5 ∧ True)
def bc7vq81 (p0 : Nat) (p1 p2 p3 : List UInt8) (p4 : Nat) : Prop := (if (↑p0 : Int) < (NI (bc7vq78 p1 p2 p3)) then (NI (bc7vq78 p1 p2 p3)) else (↑p0 : Int)) = (↑p4 : Int) ∧ True
def bc7vq82 (p0 : Nat) (p1 : CodD) (p2 : Nat) (p3 p4 : Bool) : Prop := p0 ≤ bc7vq14 p1 p2 ∧ (p3 = false → p0 = N0 ∧ p4 = false) ∧ (p3 = true → p4 = true ∧ guardsB (empS p1 p2 N0 (bc7vq13 p1 p2) []) (List.take p0 (bc7vq13 p1 p2)) = true)
def bc7vq83 (p0 : Nat) (p1 : CodD) (p2 : Nat) (p3 : List Bool) : Prop := (SM p0 ∧ (bc7vq52 p1 p2 ∧ bc7vq52 p1 p2 ∧ ∀ (i : Nat), bc7vq53 i p1 p2 → SM (bc7vq29 p3 i)) ∧ True) ∧ True
def bc7vq84 (p0 : FnD) (p1 : Nat) : Bool := bc7vq39 p0 p1 != (24 : Int)
def bc7vq85 (p0 : FnD) (p1 : Nat) : Nat := Int.toNat (bc7vq40 p0 p1)
def bc7vq86 (p0 : List Bool) (p1 : FnD) (p2 : Nat) : Bool := List.getD p0 (bc7vq85 p1 p2) false
def bc7vq87 (p0 : Bool) (p1 : FnD) (p2 : Nat) (p3 : List Bool) : Bool := bif p0 then bif bc7vq84 p1 p2 then true else bc7vq86 p3 p1 p2 else false
end
set_option maxHeartbeats 4000000 in
theorem fun_okV (bV cV : Nat) (c : CodD) (f : Nat) (hf : f < c.funs.length) (hc : c.ok) (hn : (c.funs.getD f default).code.length ≤ 65536) : ACalls Try.prog 39 [.agg (rowV c bV cV), .int .i64 f] ⟨[], []⟩ (SpecR (sC [.agg (rowV c bV cV), .int .i64 f] (funD (funS c f))) ()) := by
  refine con_of (A := sC _ _) (x := ()) (E := E39V bV cV c f) ⟨tab_ok, conF_okV hf hc, mix, inlF_ok (conF_okV hf hc), eqs_ok⟩ Try.func39 rfl (by kernel_rfl) rfl (by simp [sC, E39V, EFV, EC, E0]) ?_
  refine vc_eq (T :=
    ∀ (x : Nat), True → (SM x ∧ side (Z0 ≤ (↑f : Int) ∧ (↑f : Int) < (LI (CodD.funs c))) (∀ (x_1 : Nat), x ≠ x_1 ∧ True → SM x_1 ∧ ∃ (x_2 : Nat × FnD × O4), bc7vq1 x_2.2.1 c f bV cV x_2.2.2 ∧ (x_1 = x_2.1 ∧ True) ∧ (x_1 = x_2.1 ∧ (FnD.slots (bc7vq3 c f) = bc7vq4 x_2.2.1 ∧ (bc7vq6 c f = bc7vq8 x_2.2.1 ∧ (∀ (i : Nat), i < bc7vq6 c f → (R4 (bc7vq10 c f i)) = bc7vq12 x_2.2.1 i) ∧ True) ∧ True) ∧ SM x ∧ (weakD (D.vs N0 bV (LN (CodD.consts c)) cV N4) x_2.2.2.1 ∧ weakD (bc7vq16 c) x_2.2.2.2.1 ∧ weakD (bc7vq17 c) x_2.2.2.2.2.1 ∧ weakD (bc7vq18 c) x_2.2.2.2.2.2 ∧ True) ∧ True) ∧ True)) ∧ ∀ (x_1 : Nat × FnD × O4), bc7vq1 x_1.2.1 c f bV cV x_1.2.2 → SM x_1.1 ∧ SM x_1.1 ∧ ifB (decide (Z0 ≤ bc7vq4 x_1.2.1)) (decide (bc7vq4 x_1.2.1 ≤ (1000 : Int)) = bc7vq19 x_1.2.1 ∧ True) (false = bc7vq19 x_1.2.1 ∧ True) ∧ True ∧ ifB (!bc7vq19 x_1.2.1) (bc7vq20 c f) (ifB (bc7vq21 x_1.2.1 == Z0) (bc7vq20 c f) (SM x_1.1 ∧ side (Z0 ≤ bc7vq22 x_1.2.1 ∧ bc7vq22 x_1.2.1 < bc7vq21 x_1.2.1) (ifB (I4.a (List.getD (bc7vq7 x_1.2.1) (Int.toNat (bc7vq22 x_1.2.1)) bc7vq9) != (25 : Int)) (bc7vq20 c f) (side (Z0 ≤ bc7vq21 x_1.2.1 ∧ bc7vq21 x_1.2.1 ≤ bc7vq21 x_1.2.1 ∧ Z1 * bc7vq21 x_1.2.1 ≤ (281474976710656 : Int) ∧ bc7vq21 x_1.2.1 ≤ (9223372036854775807 : Int)) (∀ (x_2 : Nat), x_1.1 ≠ x_2 ∧ x ≠ x_2 ∧ True → SM x_1.1 ∧ (((∃ (x_3 : Nat × Nat × List Bool), bc7vq23 c f x_3.1 x_3.2.1 x_3.2.2 ∧ True ∧ (Z0 = (NI x_3.1) ∧ bc7vq24 ∧ Z0 = (NI x_3.2.1) ∧ True) ∧ StTo (bc7vq28 x_2 x_1.2.1 x_1.1 x x_1.2.2.1 x_1.2.2.2.1 x_1.2.2.2.2.1 x_1.2.2.2.2.2) (bc7vq31 x_2 c f x_3.2.2 x_1.1 x_1.2.1 x x_1.2.2.1 x_1.2.2.2.1 x_1.2.2.2.2.1 x_1.2.2.2.2.2)) ∨ ∃ (x_3 : (Nat × Nat × List Bool) × List UInt8 × Nat × Nat), bc7vq32 c f x_3.1.1 x_3.2.1 x_3.1.2.1 x_3.1.2.2 x_3.2.2.2 ∧ True ∧ (Z0 = (NI x_3.1.1) ∧ bc7vq33 = D.vs (3 : Nat) x_3.2.2.1 (LN x_3.2.1) x_3.2.2.2 N1 ∧ Z0 = (NI x_3.1.2.1) ∧ True) ∧ StTo (bc7vq28 x_2 x_1.2.1 x_1.1 x x_1.2.2.1 x_1.2.2.2.1 x_1.2.2.2.2.1 x_1.2.2.2.2.2) (St.mk (((3 : Nat), bc7vq35 x_3.2.2.1 x_3.2.1 x_3.2.2.2) :: bc7vq30 x_2 c f x_3.1.2.2 x_1.1 x_1.2.1 x x_1.2.2.1 x_1.2.2.2.1 x_1.2.2.2.2.1 x_1.2.2.2.2.2) [])) ∧ (∀ (x_3 : Nat × Nat × List Bool), bc7vq23 c f x_3.1 x_3.2.1 x_3.2.2 → ifB (bc7vq36 x_3.1 x_1.2.1) (side (Z0 ≤ (NI x_3.1) ∧ (NI x_3.1) < bc7vq21 x_1.2.1) (∀ (x_4 : Nat), x_2 ≠ x_4 ∧ x_1.1 ≠ x_4 ∧ x ≠ x_4 ∧ True → SM x_4 ∧ side (Z0 ≤ (NI x_3.1) ∧ (NI x_3.1) < bc7vq37 x_1.2.1) (SM x_2 ∧ side (bc7vq2 x_3.1 < bc7vq14 c f) (SM x ∧ SM x_4 ∧ bc7vq44 x_1.2.2.1 bV c cV x_1.2.2.2.1 x_1.2.2.2.2.1 x_1.2.2.2.2.2 f x_1.2.1 x_3.1 ∧ ∀ (y : Eff), bc7vq46 c f x_1.2.1 x_3.1 y → ∀ (x_5 : Nat), x_4 ≠ x_5 ∧ x_2 ≠ x_5 ∧ x_1.1 ≠ x_5 ∧ x ≠ x_5 ∧ True → SM x_5 ∧ SM x_5 ∧ ifB (bc7vq48 y.1 y.2 c f x_1.2.1 x_3.1) (bc7vq55 x_1.1 x_2 x_1.2.1 c f x_3.2.1 x_3.2.2 x_3.1) (SM x_4 ∧ ifB (bc7vq56 x_1.2.1 x_3.1) (bc7vq55 x_1.1 x_2 x_1.2.1 c f x_3.2.1 x_3.2.2 x_3.1) (SM x_5 ∧ (bc7vq57 c f x_1.2.1 x_3.1 → LN y.2 ≤ (1000000 : Nat) ∧ LN y.1 ≤ (1000000 : Nat)) ∧ ifB (okA [] y.1 (bc7vq47 c f x_1.2.1 x_3.1)) (ifB (List.isEmpty y.2) (bc7vq61 x_4 x_1.2.1 x_3.1 ∧ ifB (bc7vq60 x_1.2.1 x_3.1) (bc7vq65 x_4 x_1.2.1 x_3.1) (bc7vq65 x_4 x_1.2.1 x_3.1) ∧ ifB (bc7vq64 x_1.2.1 x_3.1) (bc7vq55 x_1.1 x_2 x_1.2.1 c f x_3.2.1 x_3.2.2 x_3.1) (bc7vq68 f x x_1.1 x_1.2.1 x_2 ∧ ((∃ (x_6 : Nat × Nat × List Bool), bc7vq23 c f x_6.1 x_6.2.1 x_6.2.2 ∧ bc7vq70 c f x_6.1 x_3.1 ∧ (bc7vq71 x_3.1 x_6.1 ∧ bc7vq24 ∧ (if (NI x_3.2.1) < Z0 then Z0 else (NI x_3.2.1)) = (NI x_6.2.1) ∧ True) ∧ StTo (St.mk ((N4, bc7vq72 x_5 y.1 y.2 c f x_1.2.1 x_3.1) :: ((3 : Nat), bc7vq73 x_4 x_1.2.1 x_3.1) :: (N2, x_2, AObj.vec N1 (bc7vq14 c f) (bc7vq14 c f) (updF (fun (i : Nat) => bc7vq29 x_3.2.2 i) (bc7vq2 x_3.1) [D.bool true])) :: bc7vq27 x_1.1 x_1.2.1 x x_1.2.2.1 x_1.2.2.2.1 x_1.2.2.2.2.1 x_1.2.2.2.2.2) []) (bc7vq31 x_2 c f x_6.2.2 x_1.1 x_1.2.1 x x_1.2.2.1 x_1.2.2.2.1 x_1.2.2.2.2.1 x_1.2.2.2.2.2)) ∨ ∃ (x_6 : (Nat × Nat × List Bool) × List UInt8 × Nat × Nat), bc7vq32 c f x_6.1.1 x_6.2.1 x_6.1.2.1 x_6.1.2.2 x_6.2.2.2 ∧ bc7vq70 c f x_6.1.1 x_3.1 ∧ (bc7vq71 x_3.1 x_6.1.1 ∧ bc7vq33 = D.vs (3 : Nat) x_6.2.2.1 (LN x_6.2.1) x_6.2.2.2 N1 ∧ (if (NI x_3.2.1) < Z0 then Z0 else (NI x_3.2.1)) = (NI x_6.1.2.1) ∧ True) ∧ StTo (St.mk ((N4, bc7vq72 x_5 y.1 y.2 c f x_1.2.1 x_3.1) :: ((3 : Nat), bc7vq73 x_4 x_1.2.1 x_3.1) :: (N2, x_2, AObj.vec N1 (bc7vq14 c f) (bc7vq14 c f) (updF (fun (i : Nat) => bc7vq29 x_3.2.2 i) (bc7vq2 x_3.1) [D.bool true])) :: bc7vq27 x_1.1 x_1.2.1 x x_1.2.2.1 x_1.2.2.2.1 x_1.2.2.2.2.1 x_1.2.2.2.2.2) []) (St.mk (((3 : Nat), bc7vq35 x_6.2.2.1 x_6.2.1 x_6.2.2.2) :: bc7vq30 x_2 c f x_6.1.2.2 x_1.1 x_1.2.1 x x_1.2.2.1 x_1.2.2.2.1 x_1.2.2.2.2.1 x_1.2.2.2.2.2) [])))) (∀ (x_6 cap : Nat), LN y.2 ≤ cap → bc7vq61 x_4 x_1.2.1 x_3.1 ∧ ifB (bc7vq60 x_1.2.1 x_3.1) (ifB (decide (Z0 < (LI y.2))) (true = bc7vq74 x_1.2.1 x_3.1 y.2 ∧ True) (bc7vq75 x_4 x_1.2.1 x_3.1 y.2)) (bc7vq75 x_4 x_1.2.1 x_3.1 y.2) ∧ ifB (bc7vq74 x_1.2.1 x_3.1 y.2) (bc7vq55 x_1.1 x_2 x_1.2.1 c f x_3.2.1 x_3.2.2 x_3.1) (bc7vq68 f x x_1.1 x_1.2.1 x_2 ∧ ((∃ (x_7 : Nat × Nat × List Bool), bc7vq23 c f x_7.1 x_7.2.1 x_7.2.2 ∧ bc7vq70 c f x_7.1 x_3.1 ∧ (bc7vq71 x_3.1 x_7.1 ∧ D.vs (5 : Nat) x_6 (LN y.2) cap N1 = bc7vq33 ∧ (if (NI x_3.2.1) < (LI y.2) then (LI y.2) else (NI x_3.2.1)) = (NI x_7.2.1) ∧ True) ∧ StTo (St.mk (((5 : Nat), bc7vq35 x_6 y.2 cap) :: (N4, bc7vq72 x_5 y.1 y.2 c f x_1.2.1 x_3.1) :: ((3 : Nat), bc7vq73 x_4 x_1.2.1 x_3.1) :: (N2, x_2, AObj.vec N1 (bc7vq14 c f) (bc7vq14 c f) (updF (fun (i : Nat) => bc7vq29 x_3.2.2 i) (bc7vq2 x_3.1) [D.bool true])) :: bc7vq27 x_1.1 x_1.2.1 x x_1.2.2.1 x_1.2.2.2.1 x_1.2.2.2.2.1 x_1.2.2.2.2.2) []) (bc7vq31 x_2 c f x_7.2.2 x_1.1 x_1.2.1 x x_1.2.2.1 x_1.2.2.2.1 x_1.2.2.2.2.1 x_1.2.2.2.2.2)) ∨ ∃ (x_7 : (Nat × Nat × List Bool) × List UInt8 × Nat × Nat), bc7vq32 c f x_7.1.1 x_7.2.1 x_7.1.2.1 x_7.1.2.2 x_7.2.2.2 ∧ bc7vq70 c f x_7.1.1 x_3.1 ∧ (bc7vq71 x_3.1 x_7.1.1 ∧ (x_6 = x_7.2.2.1 ∧ LN y.2 = LN x_7.2.1 ∧ cap = x_7.2.2.2) ∧ (if (NI x_3.2.1) < (LI y.2) then (LI y.2) else (NI x_3.2.1)) = (NI x_7.1.2.1) ∧ True) ∧ StTo (St.mk (((5 : Nat), bc7vq35 x_6 y.2 cap) :: (N4, bc7vq72 x_5 y.1 y.2 c f x_1.2.1 x_3.1) :: ((3 : Nat), bc7vq73 x_4 x_1.2.1 x_3.1) :: (N2, x_2, AObj.vec N1 (bc7vq14 c f) (bc7vq14 c f) (updF (fun (i : Nat) => bc7vq29 x_3.2.2 i) (bc7vq2 x_3.1) [D.bool true])) :: bc7vq27 x_1.1 x_1.2.1 x x_1.2.2.1 x_1.2.2.2.1 x_1.2.2.2.2.1 x_1.2.2.2.2.2) []) (St.mk (((3 : Nat), bc7vq35 x_7.2.2.1 x_7.2.1 x_7.2.2.2) :: bc7vq30 x_2 c f x_7.1.2.2 x_1.1 x_1.2.1 x x_1.2.2.1 x_1.2.2.2.1 x_1.2.2.2.2.1 x_1.2.2.2.2.2) []))))) (bc7vq61 x_4 x_1.2.1 x_3.1 ∧ (SM true ∧ True) ∧ bc7vq55 x_1.1 x_2 x_1.2.1 c f x_3.2.1 x_3.2.2 x_3.1))))))) (bc7vq76 x_1.1 x_2 x_1.2.1 c f x_3.2.1 x_3.2.2)) ∧ ∀ (x_3 : (Nat × Nat × List Bool) × List UInt8 × Nat × Nat), bc7vq32 c f x_3.1.1 x_3.2.1 x_3.1.2.1 x_3.1.2.2 x_3.2.2.2 → ifB (bc7vq36 x_3.1.1 x_1.2.1) (side (Z0 ≤ (NI x_3.1.1) ∧ (NI x_3.1.1) < bc7vq21 x_1.2.1) (∀ (x_4 : Nat), x_3.2.2.1 ≠ x_4 ∧ x_2 ≠ x_4 ∧ x_1.1 ≠ x_4 ∧ x ≠ x_4 ∧ True → SM x_4 ∧ side (Z0 ≤ (NI x_3.1.1) ∧ (NI x_3.1.1) < bc7vq37 x_1.2.1) (SM x_2 ∧ side (bc7vq2 x_3.1.1 < bc7vq14 c f) (SM x ∧ SM x_4 ∧ bc7vq44 x_1.2.2.1 bV c cV x_1.2.2.2.1 x_1.2.2.2.2.1 x_1.2.2.2.2.2 f x_1.2.1 x_3.1.1 ∧ ∀ (y : Eff), bc7vq46 c f x_1.2.1 x_3.1.1 y → ∀ (x_5 : Nat), x_4 ≠ x_5 ∧ x_3.2.2.1 ≠ x_5 ∧ x_2 ≠ x_5 ∧ x_1.1 ≠ x_5 ∧ x ≠ x_5 ∧ True → SM x_5 ∧ SM x_5 ∧ ifB (bc7vq48 y.1 y.2 c f x_1.2.1 x_3.1.1) (bc7vq77 x_1.1 x_2 x_1.2.1 c f x_3.1.2.1 x_3.1.2.2 x_3.1.1 x_3.2.1) (SM x_4 ∧ ifB (bc7vq56 x_1.2.1 x_3.1.1) (bc7vq77 x_1.1 x_2 x_1.2.1 c f x_3.1.2.1 x_3.1.2.2 x_3.1.1 x_3.2.1) (SM x_5 ∧ ∃ (st : List UInt8), (LN st = LN x_3.2.1 ∧ LN x_3.2.1 ≤ x_3.2.2.2 ∧ (bc7vq57 c f x_1.2.1 x_3.1.1 → LN st + LN y.2 ≤ (1000000 : Nat) ∧ LN y.1 ≤ (1000000 : Nat)) ∧ (SM x_3.2.2.1 ∧ (SM (LN x_3.2.1) ∧ SM x_3.2.2.2 ∧ ∀ (i : Nat), i < LN x_3.2.1 → bc7vq34 x_3.2.1 i = bc7vq34 st i) ∧ True) ∧ True) ∧ ifB (okA st y.1 (bc7vq47 c f x_1.2.1 x_3.1.1)) (∀ (x' cap' : Nat), bc7vq78 st y.1 y.2 ≤ cap' → bc7vq61 x_4 x_1.2.1 x_3.1.1 ∧ ifB (bc7vq60 x_1.2.1 x_3.1.1) (ifB (decide (Z0 < (NI (bc7vq78 st y.1 y.2)))) (true = bc7vq79 x_1.2.1 x_3.1.1 st y.1 y.2 ∧ True) (bc7vq80 x_4 x_1.2.1 x_3.1.1 st y.1 y.2)) (bc7vq80 x_4 x_1.2.1 x_3.1.1 st y.1 y.2) ∧ ifB (bc7vq79 x_1.2.1 x_3.1.1 st y.1 y.2) (bc7vq77 x_1.1 x_2 x_1.2.1 c f x_3.1.2.1 x_3.1.2.2 x_3.1.1 x_3.2.1) (bc7vq68 f x x_1.1 x_1.2.1 x_2 ∧ ((∃ (x_6 : Nat × Nat × List Bool), bc7vq23 c f x_6.1 x_6.2.1 x_6.2.2 ∧ bc7vq70 c f x_6.1 x_3.1.1 ∧ (bc7vq71 x_3.1.1 x_6.1 ∧ D.vs (3 : Nat) x' (bc7vq78 st y.1 y.2) cap' N1 = bc7vq33 ∧ bc7vq81 x_3.1.2.1 st y.1 y.2 x_6.2.1) ∧ StTo (St.mk (((3 : Nat), x', AObj.vec N1 (bc7vq78 st y.1 y.2) cap' fun (i : Nat) => [ZB (BI (newA st y.1 y.2) i)]) :: ((5 : Nat), bc7vq72 x_5 y.1 y.2 c f x_1.2.1 x_3.1.1) :: (N4, bc7vq73 x_4 x_1.2.1 x_3.1.1) :: (N2, x_2, AObj.vec N1 (bc7vq14 c f) (bc7vq14 c f) (updF (fun (i : Nat) => bc7vq29 x_3.1.2.2 i) (bc7vq2 x_3.1.1) [D.bool ((LI x_3.2.1) == Z0)])) :: bc7vq27 x_1.1 x_1.2.1 x x_1.2.2.1 x_1.2.2.2.1 x_1.2.2.2.2.1 x_1.2.2.2.2.2) []) (bc7vq31 x_2 c f x_6.2.2 x_1.1 x_1.2.1 x x_1.2.2.1 x_1.2.2.2.1 x_1.2.2.2.2.1 x_1.2.2.2.2.2)) ∨ ∃ (x_6 : (Nat × Nat × List Bool) × List UInt8 × Nat × Nat), bc7vq32 c f x_6.1.1 x_6.2.1 x_6.1.2.1 x_6.1.2.2 x_6.2.2.2 ∧ bc7vq70 c f x_6.1.1 x_3.1.1 ∧ (bc7vq71 x_3.1.1 x_6.1.1 ∧ (x' = x_6.2.2.1 ∧ bc7vq78 st y.1 y.2 = LN x_6.2.1 ∧ cap' = x_6.2.2.2) ∧ bc7vq81 x_3.1.2.1 st y.1 y.2 x_6.1.2.1) ∧ StTo (St.mk (((3 : Nat), x', AObj.vec N1 (bc7vq78 st y.1 y.2) cap' fun (i : Nat) => [ZB (BI (newA st y.1 y.2) i)]) :: ((5 : Nat), bc7vq72 x_5 y.1 y.2 c f x_1.2.1 x_3.1.1) :: (N4, bc7vq73 x_4 x_1.2.1 x_3.1.1) :: (N2, x_2, AObj.vec N1 (bc7vq14 c f) (bc7vq14 c f) (updF (fun (i : Nat) => bc7vq29 x_3.1.2.2 i) (bc7vq2 x_3.1.1) [D.bool ((LI x_3.2.1) == Z0)])) :: bc7vq27 x_1.1 x_1.2.1 x x_1.2.2.1 x_1.2.2.2.1 x_1.2.2.2.2.1 x_1.2.2.2.2.2) []) (St.mk (((3 : Nat), bc7vq35 x_6.2.2.1 x_6.2.1 x_6.2.2.2) :: bc7vq30 x_2 c f x_6.1.2.2 x_1.1 x_1.2.1 x x_1.2.2.1 x_1.2.2.2.1 x_1.2.2.2.2.1 x_1.2.2.2.2.2) [])))) (bc7vq61 x_4 x_1.2.1 x_3.1.1 ∧ (SM true ∧ True) ∧ bc7vq77 x_1.1 x_2 x_1.2.1 c f x_3.1.2.1 x_3.1.2.2 x_3.1.1 x_3.2.1))))))) (bc7vq76 x_1.1 x_2 x_1.2.1 c f x_3.1.2.1 x_3.1.2.2)) ∧ ∀ (x : Nat × Bool × List Bool), MidInv c f x.1 x.2.1 x.2.2 → SM x_1.1 ∧ (∃ (x_3 : Nat × Bool), bc7vq82 x_3.1 c f x_3.2 x.2.1 ∧ (Z0 = (NI x_3.1) ∧ x.2.1 = x_3.2 ∧ True) ∧ bc7vq83 x_2 c f x.2.2) ∧ ∀ (x_3 : Nat × Bool), bc7vq82 x_3.1 c f x_3.2 x.2.1 → ifB (bc7vq36 x_3.1 x_1.2.1) (side (Z0 ≤ (NI x_3.1) ∧ (NI x_3.1) < bc7vq21 x_1.2.1) (∀ (x_4 : Nat), x_2 ≠ x_4 ∧ True → SM x_4 ∧ ifB x_3.2 (SM x_4 ∧ ifB (bc7vq84 x_1.2.1 x_3.1) (true = bc7vq87 x_3.2 x_1.2.1 x_3.1 x.2.2 ∧ True) (SM x_4 ∧ side (Z0 ≤ bc7vq40 x_1.2.1 x_3.1 ∧ bc7vq40 x_1.2.1 x_3.1 < bc7vq37 x_1.2.1) (SM x_2 ∧ side (bc7vq85 x_1.2.1 x_3.1 < bc7vq14 c f) (bc7vq86 x.2.2 x_1.2.1 x_3.1 = bc7vq87 x_3.2 x_1.2.1 x_3.1 x.2.2 ∧ True)))) (false = bc7vq87 x_3.2 x_1.2.1 x_3.1 x.2.2 ∧ True) ∧ ifB (!bc7vq87 x_3.2 x_1.2.1 x_3.1 x.2.2) (bc7vq20 c f) ((bc7vq50 x_2 x_1.2.1 ∧ SM (ZI (NI x.1)) ∧ bc7vq67 x_1.2.1) ∧ ∃ (y : Nat × Bool), bc7vq82 y.1 c f y.2 x.2.1 ∧ bc7vq70 c f y.1 x_3.1 ∧ (bc7vq71 x_3.1 y.1 ∧ bc7vq87 x_3.2 x_1.2.1 x_3.1 x.2.2 = y.2 ∧ True) ∧ bc7vq83 x_2 c f x.2.2))) (True ∧ ∃ (y : Unit), True ∧ ((NI x.1) = (NI (Option.getD (funS c f) N0)) ∧ true = Option.isSome (funS c f) ∧ True) ∧ True ∧ True))))))) (by kernel_rfl) ?_
  delta BI D4 DF DK DL GF GK GL LI LN N0 N1 N2 N4 NI R4 SM U0 Z0 Z1 ZB ZI bc7vq0 bc7vq1 bc7vq10 bc7vq11 bc7vq12 bc7vq13 bc7vq14 bc7vq15 bc7vq16 bc7vq17 bc7vq18 bc7vq19 bc7vq2 bc7vq20 bc7vq21 bc7vq22 bc7vq23 bc7vq24 bc7vq25 bc7vq26 bc7vq27 bc7vq28 bc7vq29 bc7vq3 bc7vq30 bc7vq31 bc7vq32 bc7vq33 bc7vq34 bc7vq35 bc7vq36 bc7vq37 bc7vq38 bc7vq39 bc7vq4 bc7vq40 bc7vq41 bc7vq42 bc7vq43 bc7vq44 bc7vq45 bc7vq46 bc7vq47 bc7vq48 bc7vq49 bc7vq5 bc7vq50 bc7vq51 bc7vq52 bc7vq53 bc7vq54 bc7vq55 bc7vq56 bc7vq57 bc7vq58 bc7vq59 bc7vq6 bc7vq60 bc7vq61 bc7vq62 bc7vq63 bc7vq64 bc7vq65 bc7vq66 bc7vq67 bc7vq68 bc7vq69 bc7vq7 bc7vq70 bc7vq71 bc7vq72 bc7vq73 bc7vq74 bc7vq75 bc7vq76 bc7vq77 bc7vq78 bc7vq79 bc7vq8 bc7vq80 bc7vq81 bc7vq82 bc7vq83 bc7vq84 bc7vq85 bc7vq86 bc7vq87 bc7vq9
  have de : (default : FnD) = ⟨0, []⟩ := rfl
  have d4 : (default : I4) = ⟨0, 0, 0, 0⟩ := rfl
  simp only [← de, ← d4, Int.toNat_natCast]
  simp only [ifB_iff, side_iff, decide_eq_true_eq, decide_eq_false_iff_not, true_and, and_true, beq_iff_eq, bne_iff_ne, Bool.cond_false_right, Bool.cond_true_left, Bool.and_eq_true, Bool.and_eq_false_iff, beq_eq_false_iff_ne, ne_eq]
  intro x2 _
  refine ⟨⟨by omega, fun x6 _ => ⟨(x6, c.funs.getD f default, ((D.vs 0 bV c.consts.length cV 4), gsl 2 FnD.row c.funs, gsl 4 KeD.row c.kers, gsl 2 LaD.row c.lanes)), ⟨rfl, rfl⟩, rfl, rfl, ⟨rfl, rfl, fun _ _ => rfl⟩, weakD_refl _, weakD_refl _, weakD_refl _, weakD_refl _⟩⟩, ?_⟩
  rintro ⟨x6, F, dd⟩ ⟨hF, hdd⟩
  simp only at hF hdd ⊢
  subst hF
  have hco : ∀ i : Nat, i < (c.funs.getD f default).code.length → ((c.funs.getD f default).code.getD i default).ok := fun i hi => getD_ok (getD_ok hc.2.1 hf).2.1 hi
  have hD : weakD dd.1 ((D.vs 0 bV c.consts.length cV 4)) ∧ weakD dd.2.1 (gsl 2 FnD.row c.funs) ∧ weakD dd.2.2.1 (gsl 4 KeD.row c.kers) ∧ weakD dd.2.2.2 (gsl 2 LaD.row c.lanes) := by
    have h := hdd
    simp only [CBV, O4.row, rowV, List.cons.injEq, and_true] at h
    obtain ⟨h1, h2, h3, h4⟩ := h
    rw [h1, h2, h3, h4]
    exact ⟨weakD_refl _, weakD_refl _, weakD_refl _, weakD_refl _⟩
  have hw1 : IntKind.i64.wrap (((c.funs.getD f default).code.length : Int) - 1) = ((c.funs.getD f default).code.length : Int) - 1 := wrap_i64' (by omega) (by omega)
  have no : funS c f = none → ∃ y : Unit, (0 : Int) = ((funS c f).getD 0 : Nat) ∧ false = (funS c f).isSome := fun h => ⟨(), by simp [h], by simp [h]⟩
  have gen : ∃ CO : List I4, CO = (c.funs.getD f default).code := ⟨_, rfl⟩
  refine ⟨⟨fun h => by rw [decide_eq_true h, Bool.true_and], fun h => by rw [decide_eq_false h, Bool.false_and]⟩, fun h => no ?_, fun h1 => ⟨fun h => no ?_, fun h2 => ⟨by rw [hw1]; omega, fun h => no ?_, fun h3 => ⟨by omega, fun x9 _ => ⟨⟨?_, ?_, ?_⟩, ?_⟩⟩⟩⟩⟩
  · simp only [funS]
    rw [if_neg]
    intro hh
    simp only [between] at hh
    rw [hh.1] at h
    cases h
  · simp only [funS]
    rw [if_neg]
    exact fun hh => hh.2.1 (List.eq_nil_of_length_eq_zero (by omega))
  · simp only [funS]
    rw [if_neg]
    intro hh
    apply h
    rw [hw1, show (((c.funs.getD f default).code.length : Int) - 1).toNat = (c.funs.getD f default).code.length - 1 by omega]
    exact hh.2.2
  · refine .inl ⟨(0, 0, List.replicate (c.funs.getD f default).code.length false), ⟨Nat.zero_le _, Nat.le_refl _, Nat.zero_le _, by simp, by simp, by simp⟩, ⟨rfl, fun _ _ => trivial, rfl⟩, leS_to ?_⟩
    simp [leS, chk_iff, leO, leT, getO, nodupB, weakO, weakD_refl, weakL, List.getD_eq_getElem?_getD, List.getElem?_replicate]
    intro i hi
    simp [hi]
  · rintro ⟨i, deep, em⟩ hh
    simp only at hh ⊢
    refine ⟨fun hlt => ?_, fun hge => ⟨(deep, true, em), hh.done (by omega), ⟨rfl, rfl⟩, fun _ _ => rfl, fun _ _ => trivial⟩⟩
    have hlt : i < (c.funs.getD f default).code.length := by omega
    have hx := hco i hlt
    have hiem : i < em.length := by rw [hh.hl]; exact hlt
    have fl := fun h => hh.fail hlt h
    have nxt := fun {nx : List UInt8} (h : stepS c f i ((c.funs.getD f default).code.getD i default) [] = some nx) => hh.next hn hlt h
    generalize (c.funs.getD f default).code.getD i default = x at *
    have fail : stepS c f i x [] = none → ∃ y : Nat × Bool × List Bool, MidInv c f y.1 y.2.1 y.2.2 ∧ ((deep : Int) = (y.1 : Int) ∧ false = y.2.1) ∧ (∀ j, j < (c.funs.getD f default).code.length → updF (fun j => [D.bool (em.getD j false)]) i [D.bool true] j = [D.bool (y.2.2.getD j false)]) ∧ ∀ j, j < (c.funs.getD f default).code.length → True :=
      fun h => ⟨(deep, false, em.set i true), .inr ⟨rfl, fl h⟩, ⟨rfl, rfl⟩, fun j _ => upd_row em i true hiem j, fun _ _ => trivial⟩
    refine ⟨by omega, fun x4 _ => ⟨by omega, hlt, ⟨hD, hx⟩, fun y hy x5 _ => ?_⟩⟩
    generalize he : effC c f ⟨x.a, x.b, x.c, x.d⟩ = e at *
    have he : effC c f x = e := he
    cases e with
    | none =>
      have flw := fail (by simp [stepS, he])
      refine ⟨fun _ => flw, fun _ => ⟨fun _ => flw, fun _ => ⟨fun h => (by cases h), fun h => (by simp [okA] at h), fun _ => ⟨⟨fun h => by simp [h], fun h => by simp [h]⟩, flw⟩⟩⟩⟩
    | some e' =>
      have hye : y = e' := hy e' rfl
      subst hye
      have hlen := eff_len he
      refine ⟨fun h => (by simp at h), fun _ => ⟨fun hd => fail (by simp [stepS, he, hd]), fun hd => ⟨fun _ => by omega, fun hok => ⟨fun hq => ⟨?_, ?_, fun hcond => fail ?_, fun hcond => .inl ?_⟩, fun hq xs cap hcap => ⟨?_, ?_, fun hcond => fail ?_, fun hcond => .inr ?_⟩⟩, fun hok => ⟨⟨fun h => by simp [h], fun h => by simp [h]⟩, fail (by simp only [Option.isSome] at hok; simp [stepS, he, hok])⟩⟩⟩⟩
      · exact ops1
      · exact ops2
      · have hq0 : y.2 = [] := by simpa using hq
        exact (step_cond he hok hd (b := false) (by simp [newA, hq0])).1 hcond
      · have hq0 : y.2 = [] := by simpa using hq
        have hs := (step_cond he hok hd (b := false) (by simp [newA, hq0])).2 hcond
        have hn0 : newA [] y.1 y.2 = [] := by simp [newA, hq0]
        rw [hn0] at hs
        refine ⟨(i + 1, max deep 0, em.set i true), nxt hs, by simp only; omega, ⟨wrap_i64' (by omega) (by omega), fun _ _ => trivial, by rw [maxI0]; simp⟩, leS_to ?_⟩
        simp only [leS, chk_iff, leO, leT, getO, nodupB, weakO, List.map_cons, List.map_nil]
        simp [weakL_refl]
        exact fun j _ => by simpa [List.getD_eq_getElem?_getD] using upd_row em i true hiem j
      · exact ops1
      · exact ops3
      · exact (step_cond he hok hd (b := decide (0 < (y.2.length : Int))) (by rw [lenB]; simp [newA])).1 hcond
      · have hs := (step_cond he hok hd (b := decide (0 < (y.2.length : Int))) (by rw [lenB]; simp [newA])).2 hcond
        have hn0 : newA [] y.1 y.2 = y.2 := by simp [newA]
        rw [hn0] at hs
        refine ⟨((i + 1, max deep y.2.length, em.set i true), y.2, xs, cap), ⟨nxt hs, hcap⟩, by simp only; omega, ⟨wrap_i64' (by omega) (by omega), ⟨rfl, rfl, rfl⟩, maxI _ _⟩, ?_⟩
        refine StTo.trans (B := ⟨[(5, xs, .vec 1 y.2.length cap (brow y.2)), (2, x9, .vec 1 (c.funs.getD f default).code.length (c.funs.getD f default).code.length (erow (em.set i true))), (1, x6, .cells (FnD.row (c.funs.getD f default))), (0, x2, .cells (O4.row dd))], []⟩) (leS_to ?_) (StTo.pos ⟨⟨rfl, ?_, rfl, ?_, rfl, ?_, rfl, ?_, trivial⟩, trivial⟩)
        · simp only [leS, chk_iff, leO, leT, getO, nodupB, weakO, List.map_cons, List.map_nil]
          simp [weakL_refl, O4.row, FnD.row, gsl, I4.row, brow, erow]
          exact fun j _ => by simpa [List.getD_eq_getElem?_getD] using upd_row em i true hiem j
        · simp [weakO, chk_iff, brow]
        · simp [weakO, chk_iff, erow]
        · simp only [weakO]; exact weakL_refl _
        · simp only [weakO]; exact weakL_refl _
  · rintro ⟨⟨i, deep, em⟩, st, xs, cap⟩ ⟨hh, hcap⟩
    simp only at hh hcap ⊢
    refine ⟨fun hlt => ?_, fun hge => ⟨(deep, true, em), hh.done (by omega), ⟨rfl, rfl⟩, fun _ _ => rfl, fun _ _ => trivial⟩⟩
    have hlt : i < (c.funs.getD f default).code.length := by omega
    have hx := hco i hlt
    have hiem : i < em.length := by rw [hh.hl]; exact hlt
    have hsl := hh.hs
    have fl := fun h => hh.fail hlt h
    have nxt := fun {nx : List UInt8} (h : stepS c f i ((c.funs.getD f default).code.getD i default) st = some nx) => hh.next hn hlt h
    generalize (c.funs.getD f default).code.getD i default = x at *
    have fail : stepS c f i x st = none → ∃ y : Nat × Bool × List Bool, MidInv c f y.1 y.2.1 y.2.2 ∧ ((deep : Int) = (y.1 : Int) ∧ false = y.2.1) ∧ (∀ j, j < (c.funs.getD f default).code.length → updF (fun j => [D.bool (em.getD j false)]) i [D.bool st.isEmpty] j = [D.bool (y.2.2.getD j false)]) ∧ ∀ j, j < (c.funs.getD f default).code.length → True :=
      fun h => ⟨(deep, false, em.set i st.isEmpty), .inr ⟨rfl, fl h⟩, ⟨rfl, rfl⟩, fun j _ => upd_row em i _ hiem j, fun _ _ => trivial⟩
    have hie : ((st.length : Int) == 0) = st.isEmpty := by cases st with
      | nil => rfl
      | cons a l => simp; omega
    simp only [hie]
    refine ⟨by omega, fun x4 _ => ⟨by omega, hlt, ⟨hD, hx⟩, fun y hy x5 _ => ?_⟩⟩
    generalize he : effC c f ⟨x.a, x.b, x.c, x.d⟩ = e at *
    have he : effC c f x = e := he
    cases e with
    | none =>
      have flw := fail (by simp [stepS, he])
      refine ⟨fun _ => flw, fun _ => ⟨fun _ => flw, fun _ => ⟨st, ⟨rfl, hcap, fun h => (by cases h), fun _ _ => rfl⟩, fun h => (by simp [okA] at h), fun _ => ⟨ops1, flw⟩⟩⟩⟩
    | some e' =>
      have hye : y = e' := hy e' rfl
      subst hye
      have hlen := eff_len he
      refine ⟨fun h => (by simp at h), fun _ => ⟨fun hd => fail (by simp [stepS, he, hd]), fun hd => ⟨st, ⟨rfl, hcap, fun _ => by omega, fun _ _ => rfl⟩, fun hok x' cap' hcap' => ⟨ops1, ops3, fun hcond => fail ?_, fun hcond => .inr ?_⟩, fun hok => ⟨ops1, fail (by simp only [Option.isSome] at hok; simp [stepS, he, hok])⟩⟩⟩⟩
      · exact (step_cond he hok hd (b := decide (0 < ((newA st y.1 y.2).length : Int))) lenB).1 hcond
      · have hs := (step_cond he hok hd (b := decide (0 < ((newA st y.1 y.2).length : Int))) lenB).2 hcond
        refine ⟨((i + 1, max deep (newA st y.1 y.2).length, em.set i st.isEmpty), newA st y.1 y.2, x', cap'), ⟨nxt hs, hcap'⟩, by simp only; omega, ⟨wrap_i64' (by omega) (by omega), ⟨rfl, rfl, rfl⟩, maxI _ _⟩, leS_to ?_⟩
        simp only [leS, chk_iff, leO, leT, getO, nodupB, weakO, List.map_cons, List.map_nil]
        simp [weakL_refl]
        exact fun j _ => by simpa [List.getD_eq_getElem?_getD] using upd_row em i st.isEmpty hiem j
  · rintro ⟨dp, r, em⟩ hm
    simp only at hm ⊢
    have hN : 0 < (c.funs.getD f default).code.length := by omega
    have hok : between (c.funs.getD f default).slots 0 1000 = true ∧ (c.funs.getD f default).code ≠ [] ∧ ((c.funs.getD f default).code.getD ((c.funs.getD f default).code.length - 1) default).a = 25 := by
      refine ⟨by simpa [between] using h1, (fun e => by rw [e] at hN; cases hN), ?_⟩
      rw [hw1, show (((c.funs.getD f default).code.length : Int) - 1).toNat = (c.funs.getD f default).code.length - 1 by omega] at h3
      simpa using h3
    have none_of : runS c f 0 (c.funs.getD f default).code [] 0 = none → funS c f = none := fun h => by simp only [funS]; rw [if_pos hok, h]
    refine ⟨⟨(0, r), ⟨Nat.zero_le _, fun h => ⟨rfl, h⟩, fun h => ⟨h, by simp [guardsB]⟩⟩, ⟨rfl, rfl⟩, fun _ _ => trivial⟩, ?_⟩
    rintro ⟨j, q⟩ ⟨hj, hjf, hjt⟩
    simp only at hj hjf hjt ⊢
    refine ⟨fun hlt => ⟨by omega, fun x4 _ => ?_⟩, fun hge => ?_⟩
    · have hlt : j < (c.funs.getD f default).code.length := by omega
      have hmem : (c.funs.getD f default).code.getD j default ∈ (c.funs.getD f default).code := getD_mem hlt
      have htk := take_step hlt
      generalize (c.funs.getD f default).code.getD j default = x at *
      cases q with
      | false =>
        obtain ⟨hj0, hr0⟩ := hjf rfl
        rcases hm with ⟨hr1, _⟩ | ⟨_, hrun⟩
        · rw [hr0] at hr1; cases hr1
        · refine ⟨⟨fun h => (by cases h), fun _ => rfl⟩, fun _ => no (none_of hrun), fun h => (by simp at h)⟩
      | true =>
        obtain ⟨hr1, hgs⟩ := hjt rfl
        rcases hm with ⟨_, hrun, rfl⟩ | ⟨hr2, _⟩
        · have hrng : x.a = 24 → 0 ≤ x.b ∧ x.b < ((c.funs.getD f default).code.length : Int) := fun ha => (let ⟨_, he⟩ := run_mem _ _ _ _ _ hrun x hmem; eff_guard he ha)
          refine ⟨⟨fun _ => ⟨fun ha => by simp [ha], fun ha => ?_⟩, fun h => (by cases h)⟩, fun hno => no ?_, fun hyes => ⟨(j + 1, true), ⟨by omega, fun h => (by cases h), fun _ => ⟨hr1, ?_⟩⟩, by omega, ⟨wrap_i64' (by omega) (by omega), ?_⟩, fun _ _ => trivial⟩⟩
          · have ha : x.a = 24 := by simpa using ha
            have := hrng ha
            exact ⟨this, by omega, by simp [ha]⟩
          · simp only [funS]
            rw [if_pos hok, hrun]
            simp only
            rw [if_neg]
            intro hg
            have := List.all_eq_true.1 hg x hmem
            simp at hno this
            rcases this with h | h
            · exact absurd hno.1 h
            · rw [hno.2] at h; cases h
          · rw [htk]
            simp only [guardsB, List.all_append, Bool.and_eq_true] at hgs ⊢
            refine ⟨hgs, ?_⟩
            simp only [List.all_cons, List.all_nil, Bool.and_true]
            exact (guard_one hyes).1
          · exact (guard_one hyes).2
        · rw [hr1] at hr2; cases hr2
    · have hjN : j = (c.funs.getD f default).code.length := by omega
      cases q with
      | false => obtain ⟨hj0, _⟩ := hjf rfl; omega
      | true =>
        obtain ⟨hr1, hgs⟩ := hjt rfl
        rcases hm with ⟨_, hrun, rfl⟩ | ⟨hr2, _⟩
        · rw [hjN, List.take_length] at hgs
          have : funS c f = some dp := by simp only [funS]; rw [if_pos hok, hrun]; simp only; rw [if_pos hgs]
          exact ⟨(), by rw [this]; rfl, by rw [this]; rfl⟩
        · rw [hr1] at hr2; cases hr2
end Go.Proofs.Ytoglbmhkfkghbaa
namespace Go.Proofs.Ytoglbmhkfkghbaa
open Go Go.Ab
def vecL4 (l : List Arr) (bV cV : Nat) : St := ⟨[(0, bV, .vec 4 l.length cV (fun i => (l.getD i default).row1))], []⟩
def sSt (ds : List D) (d : D) (S : St) : FnSpec where
  β := Unit
  α := Unit
  args := fun _ => ds
  st := fun _ => S
  pre := fun _ => True
  post := fun _ _ => True
  res := fun _ _ => .ret d
  out := fun _ _ => S
def conBaV (l : List Arr) : Con := fun k _ _ => match k with
  | 34 => some (sRc Arr.row1 (fun b => b ∈ l) badA)
  | _ => none
theorem conBaV_ok {l : List Arr} (hl : ∀ a ∈ l, a.ok) : ConOk Try.prog (conBaV l) := by
  intro k ds S A h
  unfold conBaV at h
  split at h
  · injection h with h; subst h
    exact ConOk.plain (fun b hb => sRc_q (bad_ok b (hl b hb))) rfl rfl
  · cases h
noncomputable def EixV (l : List Arr) : Senv := { EC (conBaV l) 19 2 [4, 5, 7, 8, 9, 16] (fun _ => ([], [])) with
  ann := fun b _ S => match b with
    | 0 => some { slots := [8], keep := [0, 1, 6, 7], α := Nat, st := fun i => ([.int .i64 i], S), inv := fun i => IdxG (fun a => (chkA a).1 != 0) l i, mu := fun i => l.length - i }
    | _ => none }
noncomputable section
def ar7vq0 (p0 : Arr) : Bool := Prod.fst (chkA p0) != Z0
def ar7vq1 (p0 : List Arr) (p1 : Nat) : Prop := IdxG (fun (a : Arr) => ar7vq0 a) p0 p1
def ar7vq2 : Arr := DA
def ar7vq3 (p0 : List Arr) (p1 : Nat) : Arr := List.getD p0 p1 ar7vq2
def ar7vq4 (p0 : List Arr) (p1 : Nat) : List Int := Arr.sh (ar7vq3 p0 p1)
def ar7vq5 (p0 : List Arr) (p1 : Nat) : List Int := Arr.nu (ar7vq3 p0 p1)
def ar7vq6 (p0 : List Arr) (p1 : Nat) : List Arr := Arr.it (ar7vq3 p0 p1)
def ar7vq7 (p0 : List Arr) (p1 : Nat) : List D := [ZI (Arr.k (ar7vq3 p0 p1)), SI (ar7vq4 p0 p1), SI (ar7vq5 p0 p1), D.sl N4 (LN (ar7vq6 p0 p1)) (fun (i : Nat) => Arr.row (List.getD (ar7vq6 p0 p1) i ar7vq2)) Mode.any]
def ar7vq8 (p0 : Nat) (p1 : List Arr) (p2 : Nat) : Prop := (SM p0 ∧ (SM (LN p1) ∧ SM p2 ∧ ∀ (i : Nat), i < LN p1 → SM (ar7vq7 p1 i)) ∧ True) ∧ True
def ar7vq9 (p0 : List Arr) (p1 : Nat) : Arr := List.getD p0 (Int.toNat (↑p1 : Int)) ar7vq2
def ar7vq10 (p0 : List Arr) (p1 : Nat) : List Int := Arr.sh (ar7vq9 p0 p1)
def ar7vq11 (p0 : List Arr) (p1 : Nat) : Nat := LN (ar7vq10 p0 p1)
def ar7vq12 (p0 : List Arr) (p1 : Nat) : List Int := Arr.nu (ar7vq9 p0 p1)
def ar7vq13 (p0 : List Arr) (p1 : Nat) : Nat := LN (ar7vq12 p0 p1)
def ar7vq14 (p0 : List Arr) (p1 : Nat) : List Arr := Arr.it (ar7vq9 p0 p1)
def ar7vq15 (p0 : List Arr) (p1 : Nat) : Nat := LN (ar7vq14 p0 p1)
def ar7vq16 (p0 : List Arr) : Int := idxG (fun (a : Arr) => ar7vq0 a) p0 Z0
end
theorem ixv_ok (bV cV : Nat) (l : List Arr) (h : ∀ a ∈ l, a.ok) (hl : l.length ≤ maxLen) : ACalls Try.prog 55 [.vs 0 bV l.length cV 4, .fn (.func 34) [] []] (vecL4 l bV cV) (SpecR (sSt [.vs 0 bV l.length cV 4, .fn (.func 34) [] []] (.int .i64 (idxG (fun a => (chkA a).1 != 0) l 0)) (vecL4 l bV cV)) ()) := by
  refine con_of (A := sSt _ _ _) (x := ()) (E := EixV l) (eOk (conBaV_ok h) rfl) Try.func55 rfl (by kernel_rfl) rfl (by simp [sSt, EixV, EC, E0]) ?_
  refine vc_eq (T :=
    (∃ (x : Nat), ar7vq1 l x ∧ (Z0 = (↑x : Int) ∧ True) ∧ ar7vq8 bV l cV) ∧ ∀ (x : Nat), ar7vq1 l x → ifB (decide ((↑x : Int) < (LI l))) (side (Z0 ≤ (↑x : Int) ∧ (↑x : Int) < (LI l)) (SM bV ∧ side (Int.toNat (↑x : Int) < LN l) (∃ (x_1 : Arr), ((Arr.k (ar7vq9 l x) = Arr.k x_1 ∧ (ar7vq11 l x = LN (Arr.sh x_1) ∧ (∀ (i : Nat), i < ar7vq11 l x → [ZI (GI (ar7vq10 l x) i)] = [ZI (GI (Arr.sh x_1) i)]) ∧ True) ∧ (ar7vq13 l x = LN (Arr.nu x_1) ∧ (∀ (i : Nat), i < ar7vq13 l x → [ZI (GI (ar7vq12 l x) i)] = [ZI (GI (Arr.nu x_1) i)]) ∧ True) ∧ (ar7vq15 l x = LN (Arr.it x_1) ∧ (∀ (i : Nat), i < ar7vq15 l x → Arr.row (List.getD (ar7vq14 l x) i ar7vq2) = Arr.row (List.getD (Arr.it x_1) i ar7vq2)) ∧ True) ∧ True) ∧ True) ∧ (True ∧ True) ∧ x_1 ∈ l ∧ ∀ (y : Unit), True → ifB (ar7vq0 x_1) (True ∧ ∃ (y : Unit), True ∧ (↑x : Int) = ar7vq16 l ∧ ar7vq8 bV l cV) ((SM (D.vs N0 bV (LN l) cV N4) ∧ SM (D.fn (Fn.func (34 : Nat)) [] []) ∧ SM D.unk ∧ SM (ZI (LI l)) ∧ True) ∧ ∃ (y : Nat), ar7vq1 l y ∧ LN l - y < LN l - x ∧ (IntKind.wrap IntKind.i64 ((↑x : Int) + Z1) = (↑y : Int) ∧ True) ∧ ar7vq8 bV l cV)))) (True ∧ ∃ (y : Unit), True ∧ (-1 : Int) = ar7vq16 l ∧ ar7vq8 bV l cV)) (by kernel_rfl) ?_
  delta DA GI LI LN N0 N1 N4 SI SM Z0 Z1 ZI ar7vq0 ar7vq1 ar7vq10 ar7vq11 ar7vq12 ar7vq13 ar7vq14 ar7vq15 ar7vq16 ar7vq2 ar7vq3 ar7vq4 ar7vq5 ar7vq6 ar7vq7 ar7vq8 ar7vq9
  have da : (default : Arr) = Arr.mk 0 [] [] [] := rfl
  simp only [← da, eq_self, implies_true, Int.toNat_natCast, ifB_iff, side_iff, decide_eq_true_eq, decide_eq_false_iff_not, true_and, and_true, exists_const, forall_const]
  simp only [maxLen] at hl
  refine ⟨⟨0, ⟨Nat.zero_le _, by simp⟩, rfl⟩, fun i hh => ⟨fun hlt => ?_, fun hge => ?_⟩⟩
  · have hlt' : i < l.length := by omega
    obtain ⟨s1, s2⟩ := hh.step hlt'
    exact ⟨⟨by omega, hlt⟩, hlt', l.getD i default, ⟨rfl, ⟨rfl, fun _ _ => rfl⟩, ⟨rfl, fun _ _ => rfl⟩, rfl, fun _ _ => rfl⟩, mem_getD hlt', fun e => (s1 e).symm, fun e => ⟨i + 1, s2 e, by omega, wrap_i64' (by omega) (by omega)⟩⟩
  · exact (hh.done hge).symm
def conCfV (bV cV : Nat) (l : List Arr) : Con := fun k _ _ => match k with
  | 55 => some (sSt [.vs 0 bV l.length cV 4, .fn (.func 34) [] []] (.int .i64 (idxG (fun a => (chkA a).1 != 0) l 0)) (vecL4 l bV cV))
  | _ => none
noncomputable section
def ar7vq17 : Arr := DA
def ar7vq18 (p0 : List Arr) (p1 : Nat) : Arr := List.getD p0 p1 ar7vq17
def ar7vq19 (p0 : List Arr) (p1 : Nat) : List Int := Arr.sh (ar7vq18 p0 p1)
def ar7vq20 (p0 : List Arr) (p1 : Nat) : List Int := Arr.nu (ar7vq18 p0 p1)
def ar7vq21 (p0 : List Arr) (p1 : Nat) : List Arr := Arr.it (ar7vq18 p0 p1)
def ar7vq22 (p0 : List Arr) (p1 : Nat) : List D := [ZI (Arr.k (ar7vq18 p0 p1)), SI (ar7vq19 p0 p1), SI (ar7vq20 p0 p1), D.sl N4 (LN (ar7vq21 p0 p1)) (fun (i : Nat) => Arr.row (List.getD (ar7vq21 p0 p1) i ar7vq17)) Mode.any]
def ar7vq23 (p0 : Nat) (p1 : List Arr) (p2 : Nat) : Prop := (SM p0 ∧ (SM (LN p1) ∧ SM p2 ∧ ∀ (i : Nat), i < LN p1 → SM (ar7vq22 p1 i)) ∧ True) ∧ True
end
theorem cfv_ok (bV cV : Nat) (l : List Arr) (h : ∀ a ∈ l, a.ok) (hl : l.length ≤ maxLen) : ACalls Try.prog 33 [.vs 0 bV l.length cV 4, .fn (.func 34) [] []] (vecL4 l bV cV) (SpecR (sSt [.vs 0 bV l.length cV 4, .fn (.func 34) [] []] (.bool (l.any fun a => (chkA a).1 != 0)) (vecL4 l bV cV)) ()) := by
  refine con_of (A := sSt _ _ _) (x := ()) (E := EC (conCfV bV cV l) 9 2 [4] (fun _ => ([], []))) (eOk ?_ rfl) Try.func33 rfl (by kernel_rfl) rfl (by simp [sSt, EC, E0]) ?_
  · intro k ds S A hh
    dsimp only [conCfV] at hh
    split at hh
    · injection hh with hh; subst hh
      exact ConOk.plain (fun b hb => ixv_ok bV cV l h hl) rfl rfl
    · cases hh
  refine vc_eq (T :=
    ∃ (x : Unit), ((SM bV ∧ SM (LN l) ∧ SM cV) ∧ SM (D.fn (Fn.func (34 : Nat)) [] []) ∧ True) ∧ ar7vq23 bV l cV ∧ True ∧ ∀ (y : Unit), True → True ∧ ∃ (y : Unit), True ∧ (decide (Z0 ≤ idxG (fun (a : Arr) => Prod.fst (chkA a) != Z0) l Z0) = List.any l fun (a : Arr) => Prod.fst (chkA a) != Z0) ∧ ar7vq23 bV l cV) (by kernel_rfl) ?_
  delta DA GI LN N1 N4 SI SM Z0 ZI ar7vq17 ar7vq18 ar7vq19 ar7vq20 ar7vq21 ar7vq22 ar7vq23
  have da : (default : Arr) = Arr.mk 0 [] [] [] := rfl
  simp only [← da, eq_self, implies_true, true_and, and_true, exists_const, forall_const]
  exact idxG_any _ l 0 (Int.le_refl _)
end Go.Proofs.Ytoglbmhkfkghbaa
namespace Go.Proofs.Ytoglbmhkfkghbaa
open Go Go.Ab
def conRtV (bV cV : Nat) (c : CodD) : Con := fun k ds _ => match k with
  | 33 => some (sSt [.vs 0 bV c.consts.length cV 4, .fn (.func 34) [] []] (.bool (c.consts.any fun a => (chkA a).1 != 0)) (vecL4 c.consts bV cV))
  | 36 => some (pC ds (.bool (c.kers.any fun a => !kerB a)) (weakL ds [gsl 4 KeD.row c.kers, .fn (.func 37) [] []]))
  | 39 => match ds with
    | [_, .int .i64 z] => some (pC ds (funD (funS c z.toNat)) (weakL ds [.agg (rowV c bV cV), .int .i64 z.toNat] ∧ z.toNat < c.funs.length))
    | _ => none
  | _ => none
theorem conRt_okV {bV cV : Nat} {c : CodD} (hc : c.ok) (hs : ∀ f, f < c.funs.length → (c.funs.getD f default).code.length ≤ 65536) : ConOk Try.prog (conRtV bV cV c) := by
  intro k ds S A h
  unfold conRtV at h
  split at h
  · injection h with h; subst h
    exact ConOk.plain (fun _ _ => cfv_ok bV cV _ hc.1 hc.2.2.2.2.1) rfl rfl
  · injection h with h; subst h
    exact pC_ok fun e => ⟨weakL_refl _, sC_weak e (cfk_ok _ hc.2.2.1 hc.2.2.2.2.2.2.1)⟩
  · split at h
    · injection h with h; subst h
      exact pC_ok fun ⟨e, hf⟩ => ⟨weakL_refl _, sC_weak e (fun_okV bV cV c _ hf hc (hs _ hf))⟩
    · cases h
  · cases h
noncomputable def ErtV (bV cV : Nat) (c : CodD) : Senv := { EC (conRtV bV cV c) 82 4 [5, 6, 7, 8, 10, 11, 12, 13, 41, 44, 63, 66, 69, 70, 71, 80] (fun _ => ([], [])) with
  ann := fun b _ S => match b with
    | 0 => some { slots := [12, 3], keep := [0, 1, 2, 10, 11], α := Nat × Int, st := fun y => ([.int .i64 y.1, .int .i64 y.2], S), inv := fun y => y.1 ≤ c.funs.length ∧ totI (c.funs.drop y.1) y.2 = totI c.funs 0, mu := fun y => c.funs.length - y.1 }
    | 2 => some { slots := [70], keep := [0, 1, 2, 68, 69], α := Nat, st := fun i => ([.int .i64 i], S), inv := fun i => i ≤ c.funs.length ∧ ∀ j, j < i → (funS c j).isSome = true, mu := fun i => c.funs.length - i }
    | _ => none }
noncomputable section
def ri1vq0 (p0 : CodD) : List FnD := CodD.funs p0
def ri1vq1 (p0 : CodD) : Nat := LN (ri1vq0 p0)
def ri1vq2 (p0 : Nat) (p1 : CodD) (p2 : Int) : Prop := p0 ≤ ri1vq1 p1 ∧ totI (List.drop p0 (ri1vq0 p1)) p2 = totI (ri1vq0 p1) Z0
def ri1vq3 (p0 : CodD) : Nat := LN (CodD.consts p0)
def ri1vq4 (p0 : CodD) : Prop := SM (ri1vq3 p0)
def ri1vq5 (p0 : Nat) (p1 : CodD) (p2 : Nat) : Prop := SM p0 ∧ ri1vq4 p1 ∧ SM p2
def ri1vq6 (p0 : CodD) (p1 : Nat) : FnD := List.getD (ri1vq0 p0) p1 DF
def ri1vq7 (p0 : CodD) (p1 : Nat) : List I4 := FnD.code (ri1vq6 p0 p1)
def ri1vq8 (p0 : CodD) (p1 p2 : Nat) : I4 := G4 (ri1vq7 p0 p1) p2
def ri1vq9 (p0 : CodD) (p1 : Nat) : List D := [ZI (FnD.slots (ri1vq6 p0 p1)), D.sl N4 (LN (ri1vq7 p0 p1)) (fun (i : Nat) => (R4 (ri1vq8 p0 p1 i))) Mode.any]
def ri1vq10 (p0 : CodD) : Nat := LN (CodD.kers p0)
def ri1vq11 (p0 : CodD) (p1 : Nat) : List D := KeD.row (GK p0 p1)
def ri1vq12 (p0 : CodD) : Prop := SM (ri1vq10 p0) ∧ (∀ (i : Nat), i < ri1vq10 p0 → SM (ri1vq11 p0 i)) ∧ True
def ri1vq13 (p0 : CodD) : Nat := LN (CodD.lanes p0)
def ri1vq14 (p0 : CodD) (p1 : Nat) : List D := LaD.row (GL p0 p1)
def ri1vq15 (p0 : Nat) (p1 : CodD) (p2 : Nat) : Prop := ri1vq5 p0 p1 p2 ∧ (SM (ri1vq1 p1) ∧ (∀ (i : Nat), i < ri1vq1 p1 → SM (ri1vq9 p1 i)) ∧ True) ∧ ri1vq12 p1 ∧ (SM (ri1vq13 p1) ∧ (∀ (i : Nat), i < ri1vq13 p1 → SM (ri1vq14 p1 i)) ∧ True) ∧ True
def ri1vq16 : Arr := DA
def ri1vq17 (p0 : CodD) (p1 : Nat) : Arr := List.getD (CodD.consts p0) p1 ri1vq16
def ri1vq18 (p0 : CodD) (p1 : Nat) : List Int := Arr.sh (ri1vq17 p0 p1)
def ri1vq19 (p0 : CodD) (p1 : Nat) : List Int := Arr.nu (ri1vq17 p0 p1)
def ri1vq20 (p0 : CodD) (p1 : Nat) : List Arr := Arr.it (ri1vq17 p0 p1)
def ri1vq21 (p0 : CodD) (p1 : Nat) : List D := [ZI (Arr.k (ri1vq17 p0 p1)), SI (ri1vq18 p0 p1), SI (ri1vq19 p0 p1), D.sl N4 (LN (ri1vq20 p0 p1)) (fun (i : Nat) => Arr.row (List.getD (ri1vq20 p0 p1) i ri1vq16)) Mode.any]
def ri1vq22 (p0 : CodD) (p1 : Nat) : Prop := ri1vq4 p0 ∧ SM p1 ∧ ∀ (i : Nat), i < ri1vq3 p0 → SM (ri1vq21 p0 i)
def ri1vq23 (p0 : Nat) (p1 : CodD) (p2 : Nat) : Prop := SM p0 ∧ ri1vq22 p1 p2 ∧ True
def ri1vq24 (p0 p1 : Nat) (p2 : CodD) (p3 : Nat) : Prop := (SM p0 ∧ ri1vq15 p1 p2 p3 ∧ ri1vq23 p1 p2 p3) ∧ True
def ri1vq25 (p0 : CodD) : Int := (NI (ri1vq1 p0))
def ri1vq26 (p0 : CodD) : D := D.sl N2 (ri1vq1 p0) (fun (i : Nat) => ri1vq9 p0 i) Mode.any
def ri1vq27 (p0 : Nat) (p1 : CodD) (p2 : Nat) : D := D.agg [D.vs N0 p0 (ri1vq3 p1) p2 N4, ri1vq26 p1, D.sl N4 (ri1vq10 p1) (fun (i : Nat) => ri1vq11 p1 i) Mode.any, D.sl N2 (ri1vq13 p1) (fun (i : Nat) => ri1vq14 p1 i) Mode.any]
def ri1vq28 (p0 : Nat) (p1 : CodD) (p2 : Nat) : Prop := SM (ri1vq27 p0 p1 p2)
def ri1vq29 (p0 : Nat) : Prop := SM (D.ref (max (N0 + N1) N0) p0 N0)
def ri1vq30 (p0 : CodD) : Prop := SM (ZI (ri1vq25 p0)) ∧ True
def ri1vq31 (p0 : CodD) (p1 p2 : Nat) : Prop := ri1vq1 p0 - p1 < ri1vq1 p0 - p2
def ri1vq32 (p0 : CodD) : Bool := decide ((1024 : Int) < ri1vq25 p0)
def ri1vq33 (p0 : CodD) : Bool := decide ((65536 : Int) < (NI (ri1vq3 p0)))
def ri1vq34 (p0 : CodD) : Bool := decide ((4096 : Int) < (NI (ri1vq10 p0)))
def ri1vq35 (p0 : CodD) (p1 : Int) : Bool := bif bif bif ri1vq32 p0 then true else decide ((65536 : Int) < p1) then true else ri1vq33 p0 then true else ri1vq34 p0
def ri1vq36 (p0 : CodD) (p1 : Int) : Prop := true = ri1vq35 p0 p1 ∧ True
def ri1vq37 (p0 : CodD) : Int := rightC p0
def ri1vq38 (p0 : Nat) (p1 : CodD) (p2 : Nat) : Prop := ri1vq23 p0 p1 p2 ∧ True
def ri1vq39 (p0 : CodD) : Bool := (NI (ri1vq13 p0)) != (NI (ri1vq10 p0))
def ri1vq40 (p0 : CodD) : Bool := bif ri1vq25 p0 == Z0 then true else bif (NI (ri1vq13 p0)) != Z0 then ri1vq39 p0 else false
def ri1vq41 (p0 : CodD) (p1 p2 : Nat) : Prop := True ∧ ∃ (_y : Unit), True ∧ (26 : Int) = ri1vq37 p0 ∧ ri1vq38 p1 p0 p2
def ri1vq42 (p0 : Nat) (p1 : CodD) : Prop := p0 ≤ ri1vq1 p1 ∧ ∀ (j : Nat), j < p0 → Option.isSome (funS p1 j) = true
def ri1vq43 (p0 : Nat) (p1 : CodD) (p2 p3 : Nat) : Prop := (SM p0 ∧ ri1vq22 p1 p2 ∧ SM p3 ∧ ri1vq15 p0 p1 p2 ∧ True) ∧ True
end
theorem rt_okV (bV cV : Nat) (c : CodD) (hc : c.ok) (hs : ∀ f, f < c.funs.length → (c.funs.getD f default).code.length ≤ 65536) : ACalls Try.prog 20 [.agg (rowV c bV cV)] (vecL4 c.consts bV cV) (SpecR (sSt [.agg (rowV c bV cV)] (.int .i64 (rightC c)) (vecL4 c.consts bV cV)) ()) := by
  refine con_of (A := sSt _ _ _) (x := ()) (E := ErtV bV cV c) (eOk (conRt_okV hc hs) rfl) Try.func20 rfl (by kernel_rfl) rfl (by simp [sSt, ErtV, EC, E0]) ?_
  refine vc_eq (T :=
    ∀ (x : Nat), bV ≠ x ∧ True → SM x ∧ (∃ (x_1 : Nat × Int), ri1vq2 x_1.1 c x_1.2 ∧ (Z0 = (NI x_1.1) ∧ Z0 = x_1.2 ∧ True) ∧ ri1vq24 x bV c cV) ∧ ∀ (x_1 : Nat × Int), ri1vq2 x_1.1 c x_1.2 → ifB (decide ((NI x_1.1) < ri1vq25 c)) (side (Z0 ≤ (NI x_1.1) ∧ (NI x_1.1) < ri1vq25 c) (∀ (x_2 : Nat), x ≠ x_2 ∧ bV ≠ x_2 ∧ True → SM x_2 ∧ SM x_2 ∧ (ri1vq28 bV c cV ∧ ri1vq29 x ∧ SM (ZI Z0) ∧ SM (ri1vq26 c) ∧ ri1vq30 c) ∧ ∃ (y : Nat × Int), ri1vq2 y.1 c y.2 ∧ ri1vq31 c y.1 x_1.1 ∧ (IntKind.wrap IntKind.i64 ((NI x_1.1) + Z1) = (NI y.1) ∧ IntKind.wrap IntKind.i64 (x_1.2 + (LI (FnD.code (List.getD (ri1vq0 c) (TN x_1.1) DF)))) = y.2 ∧ True) ∧ ri1vq24 x bV c cV)) ((SM x ∧ ifB (ri1vq32 c) (ri1vq36 c x_1.2) (ifB (decide ((65536 : Int) < x_1.2)) (ri1vq36 c x_1.2) (SM x ∧ ifB (ri1vq33 c) (ri1vq36 c x_1.2) (SM x ∧ ri1vq34 c = ri1vq35 c x_1.2 ∧ True)))) ∧ ifB (ri1vq35 c x_1.2) (True ∧ ∃ (y : Unit), True ∧ (21 : Int) = ri1vq37 c ∧ ri1vq38 bV c cV) (SM x ∧ ∃ (x_2 : Unit), (ri1vq5 bV c cV ∧ SM (D.fn (Fn.func (34 : Nat)) [] []) ∧ True) ∧ ri1vq38 bV c cV ∧ True ∧ ∀ (y : Unit), True → ifB (List.any (CodD.consts c) fun (a : Arr) => Prod.fst (chkA a) != Z0) (True ∧ ∃ (y : Unit), True ∧ Z1 = ri1vq37 c ∧ ri1vq38 bV c cV) ((SM x ∧ ifB (ri1vq25 c == Z0) (true = ri1vq40 c ∧ True) (SM x ∧ ifB ((NI (ri1vq13 c)) != Z0) (SM x ∧ SM x ∧ ri1vq39 c = ri1vq40 c ∧ True) (false = ri1vq40 c ∧ True))) ∧ ifB (ri1vq40 c) (ri1vq41 c bV cV) (SM x ∧ (ri1vq12 c ∧ SM (D.fn (Fn.func (37 : Nat)) [] []) ∧ True) ∧ ∀ (y : Unit), True → ifB (List.any (CodD.kers c) fun (a : KeD) => !kerB a) (ri1vq41 c bV cV) (SM x ∧ (∃ (x_3 : Nat), ri1vq42 x_3 c ∧ (Z0 = (↑x_3 : Int) ∧ True) ∧ ri1vq43 bV c cV x) ∧ ∀ (x_3 : Nat), ri1vq42 x_3 c → ifB (decide ((↑x_3 : Int) < ri1vq25 c)) (SM x ∧ ((ri1vq15 bV c cV ∧ (↑x_3 : Int) = (NI (Int.toNat (↑x_3 : Int))) ∧ True) ∧ Int.toNat (↑x_3 : Int) < ri1vq1 c) ∧ ∀ (y : Unit), True → ifB (!Option.isSome (funS c (Int.toNat (↑x_3 : Int)))) (ri1vq41 c bV cV) ((ri1vq28 bV c cV ∧ ri1vq29 x ∧ SM (ZI Z0) ∧ SM D.unk ∧ ri1vq30 c) ∧ ∃ (y : Nat), ri1vq42 y c ∧ ri1vq31 c y x_3 ∧ (IntKind.wrap IntKind.i64 ((↑x_3 : Int) + Z1) = (↑y : Int) ∧ True) ∧ ri1vq43 bV c cV x)) (True ∧ ∃ (y : Unit), True ∧ Z0 = ri1vq37 c ∧ ri1vq38 bV c cV))))))) (by kernel_rfl) ?_
  delta D4 DA DF DK DL G4 GI GK GL LI LN N0 N1 N2 N4 NI R4 SI SM TN Z0 Z1 ZI ri1vq0 ri1vq1 ri1vq10 ri1vq11 ri1vq12 ri1vq13 ri1vq14 ri1vq15 ri1vq16 ri1vq17 ri1vq18 ri1vq19 ri1vq2 ri1vq20 ri1vq21 ri1vq22 ri1vq23 ri1vq24 ri1vq25 ri1vq26 ri1vq27 ri1vq28 ri1vq29 ri1vq3 ri1vq30 ri1vq31 ri1vq32 ri1vq33 ri1vq34 ri1vq35 ri1vq36 ri1vq37 ri1vq38 ri1vq39 ri1vq4 ri1vq40 ri1vq41 ri1vq42 ri1vq43 ri1vq5 ri1vq6 ri1vq7 ri1vq8 ri1vq9
  intro x _
  simp only [eq_self, ne_eq, implies_true, Int.toNat_natCast, ifB_iff, side_iff, decide_eq_true_eq, decide_eq_false_iff_not, true_and, and_true, beq_iff_eq, Bool.cond_false_right, Bool.cond_true_left, Bool.and_eq_true, Bool.and_eq_false_iff, Bool.or_eq_true, Bool.or_eq_false_iff, beq_eq_false_iff_ne, exists_const, forall_const]
  have hfl : c.funs.length ≤ maxLen := hc.2.2.2.2.2.1
  simp only [maxLen] at hfl
  refine ⟨⟨(0, 0), ⟨Nat.zero_le _, rfl⟩, rfl, rfl⟩, ?_⟩
  rintro ⟨i, t⟩ ⟨hi, ht⟩
  simp only at hi ht ⊢
  refine ⟨fun hlt => ⟨⟨by omega, hlt⟩, fun y _ => ?_⟩, fun hge => ?_⟩
  · have hlt' : i < c.funs.length := by omega
    rw [drop_step hlt', totI] at ht
    exact ⟨(i + 1, _), ⟨by simp only; omega, ht⟩, by simp only; omega, wrap_i64' (by omega) (by omega), rfl⟩
  have hi' : i = c.funs.length := by omega
  rw [hi', List.drop_length, totI] at ht
  rw [ht]
  refine ⟨⟨fun h => by simp [h], fun h => ⟨fun h2 => by simp [h2], fun h2 => ⟨fun h3 => by simp [h3], fun h3 => by simp [h, h2, h3]⟩⟩⟩, fun h => ?_, fun h => ⟨fun h1 => ?_, fun h1 => ⟨⟨fun h2 => by simp [h2], fun h2 => ⟨fun h3 => by rw [h3, beq_eq_false_iff_ne.2 h2]; rfl, fun h3 => by rw [h3, beq_eq_false_iff_ne.2 h2]; rfl⟩⟩, fun h2 => ?_, fun h2 => ⟨fun h3 => ?_, fun h3 => ⟨⟨0, ⟨Nat.zero_le _, fun j hj => absurd hj (Nat.not_lt_zero j)⟩, rfl⟩, fun j hj => ⟨fun hl => ⟨by omega, fun e => ?_, fun e => ⟨j + 1, ⟨by omega, fun k hk => ?_⟩, by omega, wrap_i64' (by omega) (by omega)⟩⟩, fun hg => ?_⟩⟩⟩⟩⟩⟩
  · unfold rightC; rw [if_pos (by omega)]
  · unfold rightC; rw [if_neg (by omega), if_pos h1]
  · simp only [bne_iff_ne, ne_eq] at h2
    unfold rightC; rw [if_neg (by omega), if_neg (by rw [h1]; exact Bool.false_ne_true), if_pos (by omega)]
  · simp only [bne_eq_false_iff_eq] at h2
    unfold rightC; rw [if_neg (by omega), if_neg (by rw [h1]; exact Bool.false_ne_true), if_neg (by omega), if_pos h3]
  · simp only [bne_eq_false_iff_eq] at h2
    have hj' : j < c.funs.length := by omega
    have e' : (funS c j).isSome = false := by simpa using e
    have hall : ¬ ((List.range c.funs.length).all fun f => (funS c f).isSome) = true := by
      rw [List.all_eq_true]
      intro hh
      have := hh j (List.mem_range.2 hj')
      rw [e'] at this; cases this
    unfold rightC; rw [if_neg (by omega), if_neg (by rw [h1]; exact Bool.false_ne_true), if_neg (by omega), if_neg (by rw [h3]; exact Bool.false_ne_true), if_neg hall]
  · have e' : (funS c j).isSome = true := by simpa using e
    by_cases hk' : k = j
    · rw [hk']; exact e'
    · exact hj.2 k (by omega)
  · simp only [bne_eq_false_iff_eq] at h2
    have hall : ((List.range c.funs.length).all fun f => (funS c f).isSome) = true := by
      rw [List.all_eq_true]
      intro f hf
      exact hj.2 f (by have := List.mem_range.1 hf; omega)
    unfold rightC; rw [if_neg (by omega), if_neg (by rw [h1]; exact Bool.false_ne_true), if_neg (by omega), if_neg (by rw [h3]; exact Bool.false_ne_true), if_pos hall]
end Go.Proofs.Ytoglbmhkfkghbaa
namespace Go.Proofs.Ytoglbmhkfkghbaa
open Go Go.Ab
set_option maxRecDepth 100000
noncomputable def Eeq (a b : List UInt8) : Senv := { EC con0 26 2 [4, 5, 10, 12, 13, 14, 24] (fun id => match id with | 6 => ([0, 1, 2, 3, 4, 5, 6, 7, 8], []) | _ => ([], [])) with
  ann := fun k _ S => match k with
    | 0 => some { slots := [13], keep := [0, 1, 12], α := Nat, st := fun i => ([.int .i64 i], S), inv := fun i => i ≤ a.length ∧ a.take i = b.take i, mu := fun i => a.length - i }
    | _ => none }
theorem getD_nat {a b : List UInt8} {i : Nat} : (((a.getD i 0).toNat : Int) = ((b.getD i 0).toNat : Int)) ↔ a.getD i 0 = b.getD i 0 :=
  ⟨fun h => UInt8.toNat_inj.1 (by omega), fun h => by rw [h]⟩
noncomputable section
def eq1q0 (p0 : List UInt8) (p1 : Ab.Mode) : D := D.sl N1 (LN p0) (fun (i : Nat) => [ZB (BI p0 i)]) p1
def eq1q1 (p0 : List UInt8) (p1 : Ab.Mode) : Prop := SM (eq1q0 p0 p1)
end
theorem equal_ok (a b : List UInt8) (m m' : Ab.Mode) (ha : a.length ≤ maxLen) (hb : b.length ≤ maxLen) : ACalls Try.prog 24 [bsl a m, bsl b m'] ⟨[], []⟩ (SpecR (sC [bsl a m, bsl b m'] (.bool (a == b))) ()) := by
  refine con_of (A := sC _ _) (x := ()) (E := Eeq a b) (eOk con0_ok rfl) Try.func24 rfl (by kernel_rfl) rfl (by simp [sC, Eeq, EC, E0]) ?_
  refine vc_eq (T :=
    ifB ((LI a) != (LI b)) (True ∧ ∃ (y : Unit), True ∧ false = (a == b) ∧ True ∧ True) ((∃ (x : Nat), (x ≤ LN a ∧ List.take x a = List.take x b) ∧ (Z0 = (↑x : Int) ∧ True) ∧ True ∧ True) ∧ ∀ (x : Nat), x ≤ LN a ∧ List.take x a = List.take x b → ifB (decide ((↑x : Int) < (LI a))) (side (Z0 ≤ (↑x : Int) ∧ (↑x : Int) < (LI a)) (side (Z0 ≤ (↑x : Int) ∧ (↑x : Int) < (LI b)) (ifB ((BI a (Int.toNat (↑x : Int))) != (BI b (Int.toNat (↑x : Int)))) (True ∧ ∃ (y : Unit), True ∧ false = (a == b) ∧ True ∧ True) ((eq1q1 a m ∧ eq1q1 b m' ∧ SM (ZI (LI a)) ∧ True) ∧ ∃ (y : Nat), (y ≤ LN a ∧ List.take y a = List.take y b) ∧ LN a - y < LN a - x ∧ (IntKind.wrap IntKind.i64 ((↑x : Int) + Z1) = (↑y : Int) ∧ True) ∧ True ∧ True)))) (True ∧ ∃ (y : Unit), True ∧ true = (a == b) ∧ True ∧ True))) (by kernel_rfl) ?_
  delta BI LI LN N1 SM U0 Z0 Z1 ZB ZI eq1q0 eq1q1
  simp only [eq_self, Int.toNat_natCast, ifB_iff, side_iff, decide_eq_true_eq, decide_eq_false_iff_not, true_and, and_true, exists_const]
  simp only [maxLen] at ha hb
  refine ⟨fun h => ?_, fun h => ⟨⟨0, ⟨Nat.zero_le _, rfl⟩, rfl⟩, fun i hi => ⟨fun hlt => ⟨⟨by omega, hlt⟩, ?_, fun hn => ?_, fun hn => ⟨i + 1, ⟨by omega, ?_⟩, by omega, wrap_i64' (by omega) (by omega)⟩⟩, fun hge => ?_⟩⟩⟩
  · symm
    rw [beq_eq_false_iff_ne]
    intro e
    subst e
    simp at h
  all_goals have hl : a.length = b.length := Int.ofNat.inj (by simpa using h)
  · omega
  · symm
    rw [beq_eq_false_iff_ne]
    intro e
    subst e
    simp at hn
  · have hn : (a.getD i 0) = (b.getD i 0) := getD_nat.1 (by simpa using hn)
    rw [take_step (show i < a.length by omega), take_step (show i < b.length by omega), hi.2]
    exact congrArg (fun z => b.take i ++ [z]) hn
  · symm
    rw [beq_iff_eq]
    have e : i = a.length := by omega
    have := hi.2
    rw [e, List.take_length, hl, List.take_length] at this
    exact this
end Go.Proofs.Ytoglbmhkfkghbaa
namespace Go.Proofs.Ytoglbmhkfkghbaa
open Go Go.Ab
set_option maxRecDepth 100000
theorem part_rows (b : List UInt8) (o n : Nat) (_h : o + n ≤ b.length) : ∀ i, i < n → [D.int .u8 ((b.getD (o + i) 0).toNat : Int)] = [D.int .u8 ((((b.drop o).take n).getD i 0).toNat : Int)] := by
  intro i hi
  simp [List.getD_eq_getElem?_getD, List.getElem?_take_of_lt hi, List.getElem?_drop]
theorem part_len (b : List UInt8) (o n : Nat) (h : o + n ≤ b.length) : n = ((b.drop o).take n).length := by simp; omega
theorem bytesOf_part (b : List UInt8) (o n : Nat) (h : o + n ≤ b.length) : bytesOf n (fun i => [D.int .u8 ((b.getD (o + i) 0).toNat : Int)]) = (b.drop o).take n := bytesOf_eq (part_len b o n h) (part_rows b o n h)
theorem rowsB_part (b : List UInt8) (o n : Nat) (h : o + n ≤ b.length) : rowsB n (fun i => [D.int .u8 ((b.getD (o + i) 0).toNat : Int)]) = true := rowsB_eq (part_len b o n h) (part_rows b o n h)
theorem sum4 (s : Nat) : ∀ i, i < 4 → ([[D.int .u8 (IntKind.u8.wrap ((s : Int).fdiv 16777216))], [D.int .u8 (IntKind.u8.wrap ((s : Int).fdiv 65536))], [D.int .u8 (IntKind.u8.wrap ((s : Int).fdiv 256))], [D.int .u8 (IntKind.u8.wrap (s : Int))]] : List (List D)).getD i [] = [D.int .u8 (((sumB s).getD i 0).toNat : Int)] := by
  intro i hi
  match i, hi with
  | 0, _ => simp only [List.getD_cons_zero, sumB]; exact congrArg (fun z => [D.int .u8 z]) (wrapD _ 16777216)
  | 1, _ => simp only [List.getD_cons_zero, List.getD_cons_succ, sumB]; exact congrArg (fun z => [D.int .u8 z]) (wrapD _ 65536)
  | 2, _ => simp only [List.getD_cons_zero, List.getD_cons_succ, sumB]; exact congrArg (fun z => [D.int .u8 z]) (wrapD _ 256)
  | 3, _ =>
    simp only [List.getD_cons_zero, List.getD_cons_succ, sumB]
    rw [IntKind.wrap_u8, UInt8.toNat_ofNat']
    congr 2
    try omega
theorem bytesOf_sum4 (s : Nat) : bytesOf 4 (fun i => ([[D.int .u8 (IntKind.u8.wrap ((s : Int).fdiv 16777216))], [D.int .u8 (IntKind.u8.wrap ((s : Int).fdiv 65536))], [D.int .u8 (IntKind.u8.wrap ((s : Int).fdiv 256))], [D.int .u8 (IntKind.u8.wrap (s : Int))]] : List (List D)).getD i []) = sumB s := bytesOf_eq rfl (sum4 s)
theorem rowsB_sum4 (s : Nat) : rowsB 4 (fun i => ([[D.int .u8 (IntKind.u8.wrap ((s : Int).fdiv 16777216))], [D.int .u8 (IntKind.u8.wrap ((s : Int).fdiv 65536))], [D.int .u8 (IntKind.u8.wrap ((s : Int).fdiv 256))], [D.int .u8 (IntKind.u8.wrap (s : Int))]] : List (List D)).getD i []) = true := rowsB_eq rfl (sum4 s)
def ekB (b : List UInt8) : Int :=
  if 1048576 < b.length then 2 else if b.length < 8 then 7 else if b.take 4 ≠ [65, 76, 67, 49] then 25
  else if sumB (sumN (b.take (b.length - 4))) ≠ b.drop (b.length - 4) then 27 else 0
def conEa : Con := fun k ds S => match k with
  | 24 => match ds with
    | [.sl 1 n f m, .sl 1 n' f' m'] => some (pC [bsl (bytesOf n f) m, bsl (bytesOf n' f') m'] (.bool (bytesOf n f == bytesOf n' f')) (rowsB n f = true ∧ rowsB n' f' = true ∧ n ≤ maxLen ∧ n' ≤ maxLen))
    | _ => none
  | k => conS k ds S
theorem conEa_ok : ConOk Try.prog conEa := by
  intro k ds S A h
  unfold conEa at h
  split at h
  · split at h
    · injection h with h; subst h
      refine pC_ok fun e => ⟨⟨bsl_weak e.1, bsl_weak e.2.1, trivial⟩, equal_ok _ _ _ _ ?_ ?_⟩
      · simpa [bytesOf] using e.2.2.1
      · simpa [bytesOf] using e.2.2.2
    · cases h
  · exact conS_ok _ _ _ _ h
end Go.Proofs.Ytoglbmhkfkghbaa
namespace Go.Proofs.Ytoglbmhkfkghbaa
open Go Go.Ab
set_option maxRecDepth 100000
def _root_.Go.Ab.byX (L : List UInt8) (ok : Bool) (n : Nat) (S : St) (R : AEnd → St → Prop) : Prop :=
  (ok = true ∧ n ≤ 4294967296) ∧
    (∀ c, bodyP L = some c → c.consts = [] → R (.ret (.tup [.agg [.sl 1 0 (fun _ => []) .nil, gsl 2 FnD.row c.funs, gsl 4 KeD.row c.kers, gsl 2 LaD.row c.lanes], .int .i64 0])) S) ∧
    (∀ c, bodyP L = some c → c.consts ≠ [] → ∀ b cap, R (.ret (.tup [.agg [.vs (nextTag S.objs) b c.consts.length cap 4, gsl 2 FnD.row c.funs, gsl 4 KeD.row c.kers, gsl 2 LaD.row c.lanes], .int .i64 0])) ((⟨[(nextTag S.objs, b, .vec 4 c.consts.length cap (fun i => (c.consts.getD i default).row1))], []⟩ : St).add S)) ∧
    (bodyP L = none → R (.ret (.tup [.agg [.sl 1 0 (fun _ => []) .nil, .sl 1 0 (fun _ => []) .nil, .sl 1 0 (fun _ => []) .nil, .sl 1 0 (fun _ => []) .nil], .int .i64 25])) S)
theorem byX_ok {n : Nat} {f : Nat → List D} {m : Ab.Mode} {S : St} {R : AEnd → St → Prop} (h : byX (bytesOf n f) (rowsB n f) n S R) : ACalls Try.prog 25 [.sl 1 n f m] S R := by
  obtain ⟨⟨h1, h2⟩, h4, h5, h6⟩ := h
  have hl : (bytesOf n f).length ≤ 4294967296 := by simpa [bytesOf] using h2
  have wa : weakL [D.sl 1 n f m] [bsl (bytesOf n f) .any] := by
    have := bsl_weak (m := m) h1
    simp only [bsl, weakD, chk_iff] at this
    refine ⟨?_, trivial⟩
    simp only [bsl, weakD, chk_iff]
    exact ⟨this.1, this.2.1, this.2.2.1, by cases m <;> simp [weakM]⟩
  generalize bytesOf n f = L at *
  have hc := ACalls.weakArgs (((by_ok L hl).frame S).from (S := S) (fun C F w H => by simpa [St.add] using H)) wa
  refine hc.weaken ?_
  rintro e S2 ⟨S0, hR, rfl⟩
  have drop : StTo (S0.add S) S := (StTo.frame (StTo.none S0) _).trans (fun C F w H => by simpa [St.add] using H)
  unfold endY at hR
  split at hR
  · rename_i dc df dk dl z
    obtain ⟨h25, hn25⟩ := hR
    by_cases hz : z = 25
    · obtain ⟨q1, q2⟩ := h25 hz
      subst hz
      exact ⟨.ret (.tup [.agg _, .int .i64 25]), _, (show weakL [D.agg [dc, df, dk, dl], D.int .i64 25] [D.agg _, D.int .i64 25] from ⟨q2, weakD_refl _, trivial⟩), drop, h6 q1⟩
    · obtain ⟨rfl, c, q1, q3, q4, q5, q6⟩ := hn25 hz
      unfold conIs at q6
      split at q6
      · rename_i w n0 f0
        obtain ⟨e, rfl, rfl⟩ := q6
        exact ⟨.ret (.tup [D.agg [.sl 1 0 (fun _ => []) .nil, gsl 2 FnD.row c.funs, gsl 4 KeD.row c.kers, gsl 2 LaD.row c.lanes], .int .i64 0]), _, (show weakL [D.agg [_, df, dk, dl], D.int .i64 0] [D.agg [.sl 1 0 (fun _ => []) .nil, gsl 2 FnD.row c.funs, gsl 4 KeD.row c.kers, gsl 2 LaD.row c.lanes], D.int .i64 0] from ⟨⟨chk_iff.2 ⟨rfl, rfl, fun i hi => absurd hi (Nat.not_lt_zero i), trivial⟩, q3, q4, q5, trivial⟩, weakD_refl _, trivial⟩), drop, h4 c q1 e⟩
      · obtain ⟨q6, hne⟩ := q6
        unfold vecIs at q6
        split at q6
        · rename_i k0 b len cap wd _
          obtain ⟨w4, e4, q7⟩ := chk_iff.1 q6
          have w4 : wd = 4 := of_decide_eq_true w4
          subst w4
          subst e4
          exact ⟨.ret (.tup [.agg [.vs (nextTag S.objs) b c.consts.length cap 4, gsl 2 FnD.row c.funs, gsl 4 KeD.row c.kers, gsl 2 LaD.row c.lanes], .int .i64 0]), _, (show weakL [D.agg [_, df, dk, dl], D.int .i64 0] [D.agg [.vs (nextTag S.objs) b c.consts.length cap 4, gsl 2 FnD.row c.funs, gsl 4 KeD.row c.kers, gsl 2 LaD.row c.lanes], D.int .i64 0] from ⟨⟨chk_iff.2 ⟨rfl, rfl, rfl, rfl⟩, q3, q4, q5, trivial⟩, weakD_refl _, trivial⟩), StTo.frame ((leS_to q7).trans (StTo.pos (S := ⟨[(k0, b, .vec 4 c.consts.length cap (fun i => (c.consts.getD i default).row1))], []⟩) (S' := ⟨[(nextTag S.objs, b, .vec 4 c.consts.length cap (fun i => (c.consts.getD i default).row1))], []⟩) ⟨⟨rfl, chk_iff.2 ⟨rfl, rfl, rfl, fun _ _ => rfl⟩, trivial⟩, trivial⟩)) _, h5 c q1 hne b cap⟩
        · exact q6.elim
  · exact hR.elim
def sRg (n : CodD → Prop) : FnSpec where
  β := CodD
  α := Unit
  args := fun c => [.agg [.sl 1 0 (fun _ => []) .nil, gsl 2 FnD.row c.funs, gsl 4 KeD.row c.kers, gsl 2 LaD.row c.lanes]]
  st := fun _ => ⟨[], []⟩
  pre := fun c => n c ∧ c.consts = []
  post := fun _ _ => True
  res := fun c _ => .ret (.int .i64 (rightC c))
  out := fun _ _ => ⟨[], []⟩
def sRv (k : Nat) (n : CodD → Prop) : FnSpec where
  β := CodD × Nat × Nat
  α := Unit
  args := fun y => [.agg [.vs k y.2.1 y.1.consts.length y.2.2 4, gsl 2 FnD.row y.1.funs, gsl 4 KeD.row y.1.kers, gsl 2 LaD.row y.1.lanes]]
  st := fun y => ⟨[(k, y.2.1, .vec 4 y.1.consts.length y.2.2 (fun i => (y.1.consts.getD i default).row1))], []⟩
  pre := fun y => n y.1
  post := fun _ _ => True
  res := fun y _ => .ret (.int .i64 (rightC y.1))
  out := fun y _ => ⟨[(k, y.2.1, .vec 4 y.1.consts.length y.2.2 (fun i => (y.1.consts.getD i default).row1))], []⟩
def okC (c : CodD) : Prop := c.ok ∧ ∀ f, f < c.funs.length → (c.funs.getD f default).code.length ≤ 65536
theorem nil_any {C : Ctx} {w w' : Nat} {f f' : Nat → List D} {v : Value} (h : Rep C (.sl w 0 f .nil) v) : Rep C (.sl w' 0 f' .any) v := by
  simp only [Rep] at h ⊢
  obtain ⟨a, len, cap, e, hh, _⟩ := h
  exact ⟨a, len, cap, e, ⟨hh.1, hh.2.1, hh.2.2.1, hh.2.2.2.1, hh.2.2.2.2.1, trivial⟩, fun x _ i hi => absurd hi (Nat.not_lt_zero i)⟩
theorem ACalls.semArgs {P : Program} {k : FuncId} {ds us : List D} {S : St} {R : AEnd → St → Prop} (h : ACalls P k us S R) (hw : ∀ C vs, RepL C ds vs → RepL C us vs) : ACalls P k ds S R :=
  ⟨h.1, fun C F args w ha hs => h.2 C F args w (hw _ _ ha) hs⟩
def conTt (n : CodD → Prop) : Con := fun k ds S => match k with
  | 20 => match ds with
    | [.agg [.vs kk _ _ _ _, _, _, _]] => some (sRv kk n)
    | [.agg [.sl _ _ _ _, _, _, _]] => some (sRg n)
    | _ => none
  | 26 => some (sCl Arr.row1 Arr.row1 (fun b => (chkA b).1 = 0))
  | k => conEa k ds S
theorem conTt_ok {n : CodD → Prop} (hn : ∀ c, n c → okC c) : ConOk Try.prog (conTt n) := by
  intro k ds S A h
  unfold conTt at h
  split at h
  · split at h
    · rename_i kk _ _ _ _ _ _ _
      injection h with h; subst h
      refine ConOk.plain (fun y hy => ?_) rfl rfl
      obtain ⟨c, b, cap⟩ := y
      obtain ⟨o1, o2⟩ := hn c hy
      refine ACalls.respec (A := sSt [.agg (rowV c b cap)] (.int .i64 (rightC c)) (vecL4 c.consts b cap)) (x := ()) (rt_okV b cap c o1 o2) (A' := sRv kk n) (x' := (c, b, cap)) ?_ ?_ fun y _ => ⟨(), trivial, ?_, ?_⟩
      · exact ⟨⟨chk_iff.2 ⟨rfl, rfl, rfl, rfl⟩, weakD_refl _, weakD_refl _, weakD_refl _, trivial⟩, trivial⟩
      · exact ⟨⟨rfl, chk_iff.2 ⟨rfl, rfl, rfl, fun _ _ => rfl⟩, trivial⟩, trivial⟩
      · exact weakD_refl _
      · exact ⟨⟨rfl, chk_iff.2 ⟨rfl, rfl, rfl, fun _ _ => rfl⟩, trivial⟩, trivial⟩
    · injection h with h; subst h
      refine ConOk.plain (fun c hy => ?_) rfl rfl
      obtain ⟨o1, o2⟩ := hn c hy.1
      refine (ACalls.semArgs (rt_ok c o1 o2) ?_).mono fun _ _ ⟨y, q1, q2, q3⟩ => ⟨(), trivial, q2, q3⟩
      intro C vs hv
      have e : c.row = [.sl 4 0 (fun i => Arr.row (c.consts.getD i default)) .any, gsl 2 FnD.row c.funs, gsl 4 KeD.row c.kers, gsl 2 LaD.row c.lanes] := by
        simp only [CodD.row, gsl, hy.2, List.length_nil]
      simp only [sRg, RepL] at hv
      obtain ⟨v, vs', e1, hv, e2⟩ := hv
      simp only [Rep, RepL] at hv
      obtain ⟨cs, e3, v1, r1, e4, q1, q2⟩ := hv
      simp only [RepL]
      refine ⟨v, vs', e1, ?_, e2⟩
      rw [e]
      simp only [Rep, RepL]
      exact ⟨cs, e3, v1, r1, e4, nil_any q1, q2⟩
    · cases h
  · injection h with h; subst h
    exact ConOk.plain (fun b hb => (cl_all b hb).mono fun _ _ ⟨y, q1, q2, q3⟩ => ⟨y, q1, q2, q3⟩) rfl rfl
  · exact conEa_ok _ _ _ _ h
end Go.Proofs.Ytoglbmhkfkghbaa
