/- The calls on nil, the contracts in the form that the law needs, a family of scopes, and the law itself. -/
import Derived.Test.YtkmgikcdlbibdaaW1
namespace Go.Proofs.Ytkmgikcdlbibdaa
open Go Go.Ab
/-! ### calls on a scope that is nil -/
def nilR (d : D) : AEnd → St → Prop := fun r S' => r = .ret d ∧ S' = ⟨[], []⟩
theorem nopen : ACalls Try.prog 9 [.nilp] ⟨[], []⟩ (nilR .nilp) := by
  refine call_of (E := E0 con0 12 1 [2, 3, 5]) ⟨tab_ok, con0_ok, mix, fun _ _ _ _ h => h.elim, fun _ h => nomatch h⟩ Try.func9 rfl rfl rfl (by simp [E0]) ?_
  refine vc_eq (T :=
      True ∧ nilR D.nilp (AEnd.ret D.nilp) (St.mk [] [])) (by kernel_rfl) ?_
  simp [nilR]
theorem nropen : ACalls Try.prog 10 [.nilp] ⟨[], []⟩ (nilR .nilp) := by
  refine call_of (E := E0 con0 8 1 [2, 4]) ⟨tab_ok, con0_ok, mix, fun _ _ _ _ h => h.elim, fun _ h => nomatch h⟩ Try.func10 rfl rfl rfl (by simp [E0]) ?_
  refine vc_eq (T :=
      True ∧ nilR D.nilp (AEnd.ret D.nilp) (St.mk [] [])) (by kernel_rfl) ?_
  simp [nilR]
theorem ndefine (nm : List UInt8) (c : Int) : ACalls Try.prog 11 [.nilp, .str nm, .int .i64 c] ⟨[], []⟩ (nilR (.int .i64 1)) := by
  refine call_of (E := E0 con0 59 3 [6, 7, 8, 9, 20, 33, 38]) ⟨tab_ok, con0_ok, mix, fun _ _ _ _ h => h.elim, fun _ h => nomatch h⟩ Try.func11 rfl rfl rfl (by simp [E0]) ?_
  refine vc_eq (T :=
      True ∧ nilR (D.int IntKind.i64 (1 : Int)) (AEnd.ret (D.int IntKind.i64 (1 : Int))) (St.mk [] [])) (by kernel_rfl) ?_
  simp [nilR]
theorem nrdefine (nm : List UInt8) (c : Int) : ACalls Try.prog 12 [.nilp, .str nm, .int .i64 c] ⟨[], []⟩ (nilR (.int .i64 1)) := by
  refine call_of (E := E0 con0 44 3 [6, 16, 19, 23]) ⟨tab_ok, con0_ok, mix, fun _ _ _ _ h => h.elim, fun _ h => nomatch h⟩ Try.func12 rfl rfl rfl (by simp [E0]) ?_
  refine vc_eq (T :=
      True ∧ nilR (D.int IntKind.i64 (1 : Int)) (AEnd.ret (D.int IntKind.i64 (1 : Int))) (St.mk [] [])) (by kernel_rfl) ?_
  simp [nilR]
noncomputable def Eun (n V : Nat) (cross : List Nat) : Senv := { E0 con0 n V cross with unr := fun _ => 1 }
theorem nfind (nm : List UInt8) : ACalls Try.prog 13 [.nilp, .str nm] ⟨[], []⟩ (nilR (.tup [.int .i64 0, .bool false])) := by
  refine call_of (E := Eun 25 2 [4, 5, 6, 7, 9, 23]) ⟨tab_ok, con0_ok, mix, fun _ _ _ _ h => h.elim, fun _ h => nomatch h⟩ Try.func13 rfl rfl rfl (by simp [Eun, E0]) ?_
  refine vc_eq (T :=
      True ∧ nilR (D.tup [D.int IntKind.i64 (0 : Int), D.bool false]) (AEnd.ret (D.tup [D.int IntKind.i64 (0 : Int), D.bool false])) (St.mk [] [])) (by kernel_rfl) ?_
  simp [nilR]
theorem nrfind (nm : List UInt8) : ACalls Try.prog 14 [.nilp, .str nm] ⟨[], []⟩ (nilR (.tup [.int .i64 0, .bool false])) := by
  refine call_of (E := Eun 25 2 [4, 5, 6, 8, 13]) ⟨tab_ok, con0_ok, mix, fun _ _ _ _ h => h.elim, fun _ h => nomatch h⟩ Try.func14 rfl rfl rfl (by simp [Eun, E0]) ?_
  refine vc_eq (T :=
      True ∧ nilR (D.tup [D.int IntKind.i64 (0 : Int), D.bool false]) (AEnd.ret (D.tup [D.int IntKind.i64 (0 : Int), D.bool false])) (St.mk [] [])) (by kernel_rfl) ?_
  simp [nilR]
theorem ndepth : ACalls Try.prog 15 [.nilp] ⟨[], []⟩ (nilR (.int .i64 0)) := by
  refine call_of (E := Eun 20 1 [2, 3, 12]) ⟨tab_ok, con0_ok, mix, fun _ _ _ _ h => h.elim, fun _ h => nomatch h⟩ Try.func15 rfl rfl rfl (by simp [Eun, E0]) ?_
  refine vc_eq (T :=
      True ∧ nilR (D.int IntKind.i64 (0 : Int)) (AEnd.ret (D.int IntKind.i64 (0 : Int))) (St.mk [] [])) (by kernel_rfl) ?_
  simp [nilR]
theorem nrdepth : ACalls Try.prog 16 [.nilp] ⟨[], []⟩ (nilR (.int .i64 0)) := by
  refine call_of (E := Eun 20 1 [2, 3, 12]) ⟨tab_ok, con0_ok, mix, fun _ _ _ _ h => h.elim, fun _ h => nomatch h⟩ Try.func16 rfl rfl rfl (by simp [Eun, E0]) ?_
  refine vc_eq (T :=
      True ∧ nilR (D.int IntKind.i64 (0 : Int)) (AEnd.ret (D.int IntKind.i64 (0 : Int))) (St.mk [] [])) (by kernel_rfl) ?_
  simp [nilR]
theorem nnames : ACalls Try.prog 18 [.nilp] ⟨[], []⟩ (nilR (.sl 1 0 (fun _ => []) .nil)) := by
  refine call_of (E := E0 con0 10 1 [2, 4]) ⟨tab_ok, con0_ok, mix, fun _ _ _ _ h => h.elim, fun _ h => nomatch h⟩ Try.func18 rfl rfl rfl (by simp [E0]) ?_
  refine vc_eq (T :=
      True ∧ nilR (D.sl (1 : Nat) (0 : Nat) (fun (x : Nat) => []) Mode.nil) (AEnd.ret (D.sl (1 : Nat) (0 : Nat) (fun (x : Nat) => []) Mode.nil)) (St.mk [] [])) (by kernel_rfl) ?_
  simp [nilR]
theorem nrnames : ACalls Try.prog 19 [.nilp] ⟨[], []⟩ (nilR (.sl 1 0 (fun _ => []) .nil)) := by
  refine call_of (E := E0 con0 11 1 [2, 4]) ⟨tab_ok, con0_ok, mix, fun _ _ _ _ h => h.elim, fun _ h => nomatch h⟩ Try.func19 rfl rfl rfl (by simp [E0]) ?_
  refine vc_eq (T :=
      True ∧ nilR (D.sl (1 : Nat) (0 : Nat) (fun (x : Nat) => []) Mode.nil) (AEnd.ret (D.sl (1 : Nat) (0 : Nat) (fun (x : Nat) => []) Mode.nil)) (St.mk [] [])) (by kernel_rfl) ?_
  simp [nilR]
/-! ### the reference's Names -/
def namesR (l : List (List UInt8 × Int)) (T : St) : AEnd → St → Prop := fun r S' => ∃ m, r = .ret (.sl 1 l.length (nmsF l) m) ∧ StTo S' T
theorem rnames (o : D) (s : Rc) (hl : s.l.length ≤ 1000) : ACalls Try.prog 19 [.ref 0 s.x 0] (rSt o s) (namesR s.l (rSt o s)) := by
  refine call_of (E := E0 con0 11 1 [2, 4]) ⟨tab_ok, con0_ok, mix, fun _ _ _ _ h => h.elim, fun _ h => nomatch h⟩ Try.func19 rfl rfl rfl (by simp [E0]) ?_
  refine vc_eq (T :=
      Rc.x s = Rc.x s ∧ side (((0 : Nat) + List.length (Rc.l s)) * (16 : Nat) ≤ (140737488355328 : Nat) ∧ (0 : Nat) + List.length (Rc.l s) ≤ (9223372036854775807 : Nat)) (∀ (t : Nat), True ∧ namesR (Rc.l s) (St.mk [((0 :
      Nat), Rc.x s, AObj.cells [o, D.sl (1 : Nat) (List.length (Rc.l s)) (fun (i : Nat) => [D.str (Prod.fst (List.getD (Rc.l s) i ([], (0 : Int))))]) (Mode.tok (0 : Nat) (Rc.u s)), D.sl (1 : Nat) (List.length (Rc.l s))
      (fun (i : Nat) => [D.int IntKind.i64 (Prod.snd (List.getD (Rc.l s) i ([], (0 : Int))))]) (Mode.tok (1 : Nat) (Rc.v s))])] [((0 : Nat), Rc.u s), ((1 : Nat), Rc.v s)]) (AEnd.ret (D.sl (1 : Nat) ((0 : Nat) +
      List.length (Rc.l s)) (appF (0 : Nat) (fun (i : Nat) => []) fun (i : Nat) => [D.str (Prod.fst (List.getD (Rc.l s) i ([], (0 : Int))))]) (Mode.tok (2 : Nat) t))) (St.mk [((0 : Nat), Rc.x s, AObj.cells [o, D.sl (1 :
      Nat) (List.length (Rc.l s)) (fun (i : Nat) => [D.str (Prod.fst (List.getD (Rc.l s) i ([], (0 : Int))))]) (Mode.tok (0 : Nat) (Rc.u s)), D.sl (1 : Nat) (List.length (Rc.l s)) (fun (i : Nat) => [D.int IntKind.i64
      (Prod.snd (List.getD (Rc.l s) i ([], (0 : Int))))]) (Mode.tok (1 : Nat) (Rc.v s))])] [((2 : Nat), t), ((0 : Nat), Rc.u s), ((1 : Nat), Rc.v s)]))) (by kernel_rfl) ?_
  try simp only [side_and]
  try simp only [side_iff]
  refine ⟨trivial, by omega, by omega, fun t => ⟨trivial, .tok 2 t, ?_, ?_⟩⟩
  · have : appF 0 (fun _ => []) (nmsF s.l) = nmsF s.l := by funext i; simp [appF]
    rw [Nat.zero_add]
    exact congrArg (fun f => AEnd.ret (.sl 1 s.l.length f (.tok 2 t))) this
  · exact StTo.perm (r1 := []) (r2 := [t]) (by simp [rSt]) (by simp only [rSt, List.map_cons, List.map_nil]; exact (List.perm_append_comm (l₁ := [s.u, s.v]) (l₂ := [t])))
end Go.Proofs.Ytkmgikcdlbibdaa
namespace Go.Proofs.Ytkmgikcdlbibdaa
open Go Go.Ab

theorem rune_ascii (s : List UInt8) (pos : Nat) (hp : pos < s.length) : ((s.getD pos 0).toNat < 128 → runeAt s pos = ((s.getD pos 0).toNat, 1)) ∧ (128 ≤ (s.getD pos 0).toNat → 128 ≤ (runeAt s pos).1) := by
  have hg : ((⟨s.toArray⟩ : ByteArray).get! (pos + 0)) = s.getD pos 0 := by
    simp [ByteArray.get!, List.getD_eq_getElem?_getD, List.getElem?_eq_getElem hp, getElem!_def]
  unfold runeAt Utf8.decode
  simp only [hg]
  refine ⟨fun h => by rw [if_pos (by omega)], fun h => ?_⟩
  rw [if_neg (by omega)]
  (repeat' split) <;> first
    | (simp only [Utf8.runeError]; omega)
    | (rename_i h; simp only [ge_iff_le, Bool.and_eq_true, decide_eq_true_eq] at h; simp only; omega)

theorem validR_eq (s : List UInt8) : validR s = validS s := by
  have key : ∀ (n pos : Nat), s.length ≤ pos + n → pos ≤ s.length → vgo s n pos = ((!s.isEmpty && decide (s.length ≤ 32)) && (List.range s.length).all fun i => decide (i < pos) || !badAt s i) := by
    intro n
    induction n with
    | zero =>
      intro pos h1 h2
      have : (List.range s.length).all (fun i => decide (i < pos) || !badAt s i) = true := List.all_eq_true.2 fun i hi => by
        have := List.mem_range.1 hi
        have : decide (i < pos) = true := decide_eq_true (by omega)
        rw [this]; rfl
      rw [this, vgo, Bool.and_true, Bool.and_comm]
    | succ n ih =>
      intro pos h1 h2
      rw [vgo]
      split
      · rename_i hp
        obtain ⟨r1, r2⟩ := rune_ascii s pos hp
        have hfalse : badAt s pos = true → ((!s.isEmpty && decide (s.length ≤ 32)) && (List.range s.length).all fun i => decide (i < pos) || !badAt s i) = false := by
          intro hb
          have : (List.range s.length).all (fun i => decide (i < pos) || !badAt s i) = false := by
            cases h : (List.range s.length).all (fun i => decide (i < pos) || !badAt s i) with
            | false => rfl
            | true =>
              have := List.all_eq_true.1 h pos (List.mem_range.2 hp)
              simp [hb] at this
          rw [this, Bool.and_false]
        by_cases hb : (s.getD pos 0).toNat < 128
        · have hr := r1 hb
          rw [hr]
          simp only
          have hbad : badAt s pos = true ↔ (((s.getD pos 0).toNat < 97 ∨ 122 < (s.getD pos 0).toNat) ∧ (pos = 0 ∨ (s.getD pos 0).toNat < 48 ∨ 57 < (s.getD pos 0).toNat)) := by
            simp only [badAt, letB, digB, Bool.and_eq_true, Bool.not_eq_true', Bool.or_eq_true, decide_eq_true_eq, Bool.and_eq_false_iff, decide_eq_false_iff_not]
            omega
          split
          · rename_i hc; exact (hfalse (hbad.2 hc)).symm
          · rename_i hc
            have hnb : badAt s pos = false := by
              cases h : badAt s pos with
              | false => rfl
              | true => exact (hc (hbad.1 h)).elim
            rw [ih (pos + 1) (by omega) (by omega)]
            congr 1
            have : (fun i => decide (i < pos + 1) || !badAt s i) = fun i => decide (i < pos) || !badAt s i := by
              funext i
              by_cases e : i = pos
              · subst e; simp [hnb]
              · by_cases h : i < pos
                · have : i < pos + 1 := by omega
                  simp [h, this]
                · have : ¬ i < pos + 1 := by omega
                  simp [h, this]
            rw [this]
        · have h128 := r2 (by omega)
          rw [if_pos (by omega)]
          refine (hfalse ?_).symm
          simp only [badAt, letB, digB, Bool.and_eq_true, Bool.not_eq_true', Bool.or_eq_true, decide_eq_true_eq, Bool.and_eq_false_iff, decide_eq_false_iff_not]
          omega
      · rename_i hp
        have : (List.range s.length).all (fun i => decide (i < pos) || !badAt s i) = true := List.all_eq_true.2 fun i hi => by
          have := List.mem_range.1 hi
          have : decide (i < pos) = true := decide_eq_true (by omega)
          rw [this]; rfl
        rw [this, Bool.and_true, Bool.and_comm]
  unfold validS validR
  rw [key s.length 0 (by omega) (by omega)]
  congr 1
end Go.Proofs.Ytkmgikcdlbibdaa
namespace Go.Proofs.Ytkmgikcdlbibdaa
open Go Go.Ab

theorem defR_eq (l : List (List UInt8 × Int)) (nm : List UInt8) (c : Int) : defR l nm c = defE l nm c := by
  unfold defR defE; rw [validR_eq]; try rfl
def addL (l : List (List UInt8 × Int)) (nm : List UInt8) (c : Int) : List (List UInt8 × Int) := if defE l nm c = 0 then l ++ [(nm, c)] else l
theorem addR_eq (l : List (List UInt8 × Int)) (nm : List UInt8) (c : Int) : addR l nm c = addL l nm c := by
  unfold addR addL; rw [defR_eq]
theorem sput_none {l : List (List UInt8 × Int)} {nm : List UInt8} {c : Int} (h : sget l nm = none) : sput l nm c = l ++ [(nm, c)] := by
  induction l with
  | nil => rfl
  | cons p l ih =>
    simp only [sget] at h
    split at h
    · cases h
    · rename_i hp
      simp only [sput, if_neg hp, ih h, List.cons_append]

/-- A contract's end, said otherwise. -/
theorem SpecR.conv {k : FuncId} {ds : List D} {A : FnSpec} {x : A.β} {S : St} {R : AEnd → St → Prop} (h : ACalls Try.prog k ds S (SpecR A x)) (hr : ∀ y, A.post x y → ∃ S'', StTo (A.out x y) S'' ∧ R (A.res x y) S'') : ACalls Try.prog k ds S R :=
  h.to fun r S' hs => by
    obtain ⟨y, hy, rfl, rfl⟩ := hs
    exact hr y hy

def wDef (nm : List UInt8) (c : Int) : FnSpec where
  β := D × Sc
  α := Nat
  args := fun _ => []
  st := fun b => iSt b.1 b.2
  pre := fun _ => True
  post := fun _ _ => True
  res := fun b _ => .ret (.int .i64 (defE b.2.l nm c))
  out := fun b t => iSt b.1 { b.2 with t := t, l := addL b.2.l nm c }
theorem wdef_ok (k x : Nat) (nm : List UInt8) (c : Int) (b : D × Sc) (hb : b.2.x = x ∧ b.2.l.length ≤ 1000) : ACalls Try.prog 11 [.ref k x 0, .str nm, .int .i64 c] ((wDef nm c).st b) (SpecR (wDef nm c) b) := by
  obtain ⟨rfl, hl⟩ := hb
  have h0 := define_ok 0 b.2.x nm c b.1 1 b.2.m b.2.l.length (nmsF b.2.l) 0 b.2.t b.2.l hl
  have h1 : ACalls Try.prog 11 [.ref k b.2.x 0, .str nm, .int .i64 c] (iSt b.1 b.2) (SpecR (sDefine 0 b.2.x nm c b.1 1 b.2.m b.2.l.length (nmsF b.2.l) 0 b.2.t b.2.l) ()) :=
    h0.weakArgs (by simp [sDefine, weakL, weakD, chk_iff, kEq])
  refine SpecR.conv h1 fun t' _ => ⟨_, ?_, t', trivial, rfl, rfl⟩
  refine leS_to ?_
  have hN : defN b.2.l nm c b.2.l.length = (addL b.2.l nm c).length := by unfold defN addL; split <;> simp
  have hM : defM b.2.l nm c = addL b.2.l nm c := by
    unfold defM addL
    split
    · rename_i h; exact sput_none (defE_zero h).2.2.2
    · rfl
  have hF : ∀ i, i < defN b.2.l nm c b.2.l.length → defF b.2.l nm c b.2.l.length (nmsF b.2.l) i = nmsF (addL b.2.l nm c) i := by
    intro i hi
    unfold defN at hi
    unfold defF addL
    split
    · rename_i h; rw [if_pos h] at hi; exact nms_app _ nm c i hi _ rfl
    · rfl
  have hd := weakD_refl b.1
  unfold defN at hN hF
  unfold defM at hM
  unfold defF at hF
  simp only [sDefine, iSt, leS, leO, leT, nodupB, List.map_cons, List.map_nil, chk_iff, wDef]
  refine ⟨rfl, ?_, ?_⟩
  · simp [getO, weakO, weakL, weakD, chk_iff, weakM, kEq, hd, hN, hM]
    exact ⟨fun i hi => hF i (by rw [hN]; exact hi), rfl⟩
  · simp [getT]; rfl

def wRDef (nm : List UInt8) (c : Int) : FnSpec where
  β := D × Rc
  α := Nat × Nat
  args := fun _ => []
  st := fun b => rSt b.1 b.2
  pre := fun _ => True
  post := fun _ _ => True
  res := fun b _ => .ret (.int .i64 (defE b.2.l nm c))
  out := fun b t => rSt b.1 { b.2 with u := t.1, v := t.2, l := addL b.2.l nm c }
theorem wrdef_ok (k x : Nat) (nm : List UInt8) (c : Int) (b : D × Rc) (hb : b.2.x = x ∧ b.2.l.length ≤ 1000) : ACalls Try.prog 12 [.ref k x 0, .str nm, .int .i64 c] ((wRDef nm c).st b) (SpecR (wRDef nm c) b) := by
  obtain ⟨rfl, hl⟩ := hb
  have h0 := rdefine_ok 0 b.2.x nm c b.1 b.2.l 0 b.2.u 1 b.2.v hl
  have h1 : ACalls Try.prog 12 [.ref k b.2.x 0, .str nm, .int .i64 c] (rSt b.1 b.2) (SpecR (sRDef 0 b.2.x nm c b.1 b.2.l 0 b.2.u 1 b.2.v) ()) :=
    ACalls.weakArgs h0 (by simp [sRDef, weakL, weakD, chk_iff, kEq])
  refine SpecR.conv h1 fun t' _ => ⟨_, StTo.refl _, t', trivial, ?_, ?_⟩
  · show AEnd.ret (.int .i64 (defR b.2.l nm c)) = _
    rw [defR_eq]; rfl
  · show (⟨[(0, b.2.x, .cells [b.1, .sl 1 (addR b.2.l nm c).length (nmsF (addR b.2.l nm c)) (.tok 0 t'.1), .sl 1 (addR b.2.l nm c).length (clsF (addR b.2.l nm c)) (.tok 1 t'.2)])], [(0, t'.1), (1, t'.2)]⟩ : St) = _
    rw [addR_eq]; rfl

def wFind (nm : List UInt8) : FnSpec where
  β := List Sc
  α := Unit
  args := fun _ => []
  st := fun L => chG iSt iRef L
  pre := fun _ => True
  post := fun _ _ => True
  res := fun L _ => .ret (.tup [.int .i64 (findL (L.map (·.l)) nm).1, .bool (findL (L.map (·.l)) nm).2])
  out := fun L _ => chG iSt iRef L
theorem wfind_ok (k x : Nat) (nm : List UInt8) (L : List Sc) (hL : ∃ s r, L = s :: r ∧ s.x = x) : ACalls Try.prog 13 [.ref k x 0, .str nm] ((wFind nm).st L) (SpecR (wFind nm) L) := by
  obtain ⟨s, r, rfl, rfl⟩ := hL
  have h := ACalls.weakArgs (ds := [.ref k s.x 0, .str nm]) (find_ch (s :: r) nm) (by simp [hdG, iRef, weakL, weakD, chk_iff])
  exact h.to fun q S' hs => ⟨_, hs.2, (), trivial, hs.1, rfl⟩
def wRFind (nm : List UInt8) : FnSpec where
  β := List Rc
  α := Unit
  args := fun _ => []
  st := fun L => chG rSt rRef L
  pre := fun _ => True
  post := fun _ _ => True
  res := fun L _ => .ret (.tup [.int .i64 (findL (L.map (·.l)) nm).1, .bool (findL (L.map (·.l)) nm).2])
  out := fun L _ => chG rSt rRef L
theorem wrfind_ok (k x : Nat) (nm : List UInt8) (L : List Rc) (hL : (∃ s r, L = s :: r ∧ s.x = x) ∧ ∀ s ∈ L, s.l.length ≤ 1000) : ACalls Try.prog 14 [.ref k x 0, .str nm] ((wRFind nm).st L) (SpecR (wRFind nm) L) := by
  obtain ⟨⟨s, r, rfl, rfl⟩, hl⟩ := hL
  have h := ACalls.weakArgs (ds := [.ref k s.x 0, .str nm]) (rfind_ch (s :: r) nm hl) (by simp [hdG, rRef, weakL, weakD, chk_iff])
  exact h.to fun q S' hs => ⟨_, hs.2, (), trivial, hs.1, rfl⟩
def wDepth : FnSpec where
  β := List Sc
  α := Unit
  args := fun _ => []
  st := fun L => chG iSt iRef L
  pre := fun _ => True
  post := fun _ _ => True
  res := fun L _ => .ret (.int .i64 ((L.length - 1 : Nat) : Int))
  out := fun L _ => chG iSt iRef L
theorem wdepth_ok (k x : Nat) (L : List Sc) (hL : (∃ s r, L = s :: r ∧ s.x = x) ∧ L.length ≤ 1000) : ACalls Try.prog 15 [.ref k x 0] (wDepth.st L) (SpecR wDepth L) := by
  obtain ⟨⟨s, r, rfl, rfl⟩, hl⟩ := hL
  have h := ACalls.weakArgs (ds := [.ref k s.x 0]) (depth_ch (s :: r) (by simp) hl) (by simp [weakL, weakD, chk_iff])
  exact h.to fun q S' hs => ⟨_, hs.2, (), trivial, hs.1, rfl⟩
def wRDepth : FnSpec where
  β := List Rc
  α := Unit
  args := fun _ => []
  st := fun L => chG rSt rRef L
  pre := fun _ => True
  post := fun _ _ => True
  res := fun L _ => .ret (.int .i64 ((L.length - 1 : Nat) : Int))
  out := fun L _ => chG rSt rRef L
theorem wrdepth_ok (k x : Nat) (L : List Rc) (hL : (∃ s r, L = s :: r ∧ s.x = x) ∧ L.length ≤ 1000) : ACalls Try.prog 16 [.ref k x 0] (wRDepth.st L) (SpecR wRDepth L) := by
  obtain ⟨⟨s, r, rfl, rfl⟩, hl⟩ := hL
  have h := ACalls.weakArgs (ds := [.ref k s.x 0]) (rdepth_ch (s :: r) (by simp) hl) (by simp [weakL, weakD, chk_iff])
  exact h.to fun q S' hs => ⟨_, hs.2, (), trivial, hs.1, rfl⟩
def wNames : FnSpec where
  β := D × Sc
  α := Unit
  args := fun _ => []
  st := fun b => iSt b.1 b.2
  pre := fun _ => True
  post := fun _ _ => True
  res := fun b _ => .ret (.sl 1 b.2.l.length (nmsF b.2.l) .any)
  out := fun b _ => iSt b.1 b.2
def wRNames : FnSpec where
  β := D × Rc
  α := Ab.Mode
  args := fun _ => []
  st := fun b => rSt b.1 b.2
  pre := fun _ => True
  post := fun _ _ => True
  res := fun b m => .ret (.sl 1 b.2.l.length (nmsF b.2.l) m)
  out := fun b _ => rSt b.1 b.2
theorem wrnames_ok (k x : Nat) (b : D × Rc) (hb : b.2.x = x ∧ b.2.l.length ≤ 1000) : ACalls Try.prog 19 [.ref k x 0] (wRNames.st b) (SpecR wRNames b) := by
  obtain ⟨rfl, hl⟩ := hb
  have h := ACalls.weakArgs (ds := [.ref k b.2.x 0]) (rnames b.1 b.2 hl) (by simp [weakL, weakD, chk_iff])
  exact h.to fun q S' ⟨m, h1, h2⟩ => ⟨_, h2, m, trivial, h1, rfl⟩
theorem wnames_ok (k x : Nat) (b : D × Sc) (hb : b.2.x = x ∧ b.2.l.length ≤ 1000) : ACalls Try.prog 18 [.ref k x 0] (wNames.st b) (SpecR wNames b) := by
  obtain ⟨rfl, hl⟩ := hb
  have h0 := names_ok 0 b.2.x b.1 (.map 1 b.2.m) b.2.l.length (nmsF b.2.l) 0 b.2.t (by omega)
  have h1 := ACalls.weakArgs (ds := [.ref k b.2.x 0]) h0 (by simp [sNames, weakL, weakD, chk_iff])
  have h2 := h1.frame ⟨[(1, b.2.m, .amap .i64 b.2.l)], [(0, b.2.t)]⟩
  refine ACalls.to h2 ?_
  rintro r S' ⟨S0, ⟨y, _, rfl, rfl⟩, rfl⟩
  exact ⟨iSt b.1 b.2, StTo.refl _, (), trivial, rfl, rfl⟩
end Go.Proofs.Ytkmgikcdlbibdaa
namespace Go.Proofs.Ytkmgikcdlbibdaa
open Go Go.Ab

/-! ### Open, New of both; the table for the law -/
def wOpen (a b kt k x : Nat) : FnSpec where
  β := Unit
  α := Sc
  args := fun _ => [.ref k x 0]
  st := fun _ => ⟨[], []⟩
  pre := fun _ => True
  post := fun _ y => y.l = []
  res := fun _ y => .ret (.ref a y.x 0)
  out := fun _ y => ⟨[(a, y.x, .cells [.ref k x 0, .map b y.m, .sl 1 0 (fun _ => []) (.tok kt y.t)]), (b, y.m, .amap .i64 [])], [(kt, y.t)]⟩
theorem wopen_ok (a b kt k x : Nat) (u : Unit) : ACalls Try.prog 9 ((wOpen a b kt k x).args u) ((wOpen a b kt k x).st u) (SpecR (wOpen a b kt k x) u) := by
  refine ACalls.mono (open_ok a b kt k x) ?_
  rintro r S' ⟨y, _, rfl, rfl⟩
  exact ⟨⟨y.1, y.2.1, y.2.2, []⟩, rfl, rfl, rfl⟩
def wROpen (a kt ku : Nat) (k x : Nat) : FnSpec where
  β := Unit
  α := Rc
  args := fun _ => [.ref k x 0]
  st := fun _ => ⟨[], []⟩
  pre := fun _ => True
  post := fun _ y => y.l = []
  res := fun _ y => .ret (.ref a y.x 0)
  out := fun _ y => ⟨[(a, y.x, .cells [.ref k x 0, .sl 1 0 (fun _ => []) (.tok kt y.u), .sl 1 0 (fun _ => []) (.tok ku y.v)])], [(ku, y.v), (kt, y.u)]⟩
theorem wropen_ok (a kt ku k x : Nat) (u : Unit) : ACalls Try.prog 10 ((wROpen a kt ku k x).args u) ((wROpen a kt ku k x).st u) (SpecR (wROpen a kt ku k x) u) := by
  exact (ropen_ok k x).respec (A' := wROpen a kt ku k x) (x' := u) (by simp [sRNew, wROpen, weakL, weakD, chk_iff]) (by simp [sRNew, wROpen, posS, posO, posT]) fun y _ => ⟨⟨y.1, y.2.1, y.2.2, []⟩, rfl, by simp [sRNew, wROpen, weakEnd, weakD, chk_iff], by simp [sRNew, wROpen, posS, posO, posT, weakO, weakL, weakD, chk_iff, weakM]⟩
def wRNew (a kt ku : Nat) : FnSpec where
  β := Unit
  α := Rc
  args := fun _ => []
  st := fun _ => ⟨[], []⟩
  pre := fun _ => True
  post := fun _ y => y.l = []
  res := fun _ y => .ret (.ref a y.x 0)
  out := fun _ y => ⟨[(a, y.x, .cells [.nilp, .sl 1 0 (fun _ => []) (.tok kt y.u), .sl 1 0 (fun _ => []) (.tok ku y.v)])], [(ku, y.v), (kt, y.u)]⟩
theorem wrnew_ok (a kt ku : Nat) (u : Unit) : ACalls Try.prog 8 ((wRNew a kt ku).args u) ((wRNew a kt ku).st u) (SpecR (wRNew a kt ku) u) := by
  exact rnew_ok.respec (A' := wRNew a kt ku) (x' := u) (by simp [sRNew, wRNew, weakL]) (by simp [sRNew, wRNew, posS, posO, posT]) fun y _ => ⟨⟨y.1, y.2.1, y.2.2, []⟩, rfl, by simp [sRNew, wRNew, weakEnd, weakD, chk_iff], by simp [sRNew, wRNew, posS, posO, posT, weakO, weakL, weakD, chk_iff, weakM]⟩
def sNil (ds : List D) (d : D) : FnSpec where
  β := Unit
  α := Unit
  args := fun _ => ds
  st := fun _ => ⟨[], []⟩
  pre := fun _ => True
  post := fun _ _ => True
  res := fun _ _ => .ret d
  out := fun _ _ => ⟨[], []⟩
theorem nil_ok {k : Nat} {ds : List D} {d : D} {S : St} (h : ACalls Try.prog k ds ⟨[], []⟩ (nilR d)) : OkAt k ds S ((sNil ds d).fits () True) :=
  FnSpec.fits_ok (fun _ _ => h.mono fun r S' hs => ⟨(), trivial, hs.1, hs.2⟩) fun _ => ⟨weakL_refl ds, by simp [sNil, leS, leO, leT, nodupB, chk_iff]⟩
def con3 (k : Nat) (ds : List D) (S : St) : Option FnSpec :=
  match k with
  | 6 => match ds with
    | [] => some (sAwake.fits () True)
    | _ => none
  | 7 => conB 7 ds S
  | 8 => match ds with
    | [] => some ((wRNew (nextTag S.objs) (nextTok S.toks) (nextTok S.toks + 1)).fits () True)
    | _ => none
  | 9 => match ds with
    | [.nilp] => some ((sNil [.nilp] .nilp).fits () True)
    | [.ref k x 0] => some ((wOpen 0 1 0 k x).fits () True)
    | _ => none
  | 10 => match ds with
    | [.nilp] => some ((sNil [.nilp] .nilp).fits () True)
    | [.ref k x 0] => some ((wROpen 2 2 3 k x).fits () True)
    | _ => none
  | 11 => match ds with
    | [.nilp, .str nm, .int .i64 c] => some ((sNil [.nilp, .str nm, .int .i64 c] (.int .i64 1)).fits () True)
    | [.ref k x 0, .str nm, .int .i64 c] => some ((wDef nm c).foc [.ref k x 0, .str nm, .int .i64 c] S fun b => b.2.x = x ∧ b.2.l.length ≤ 1000)
    | _ => none
  | 12 => match ds with
    | [.nilp, .str nm, .int .i64 c] => some ((sNil [.nilp, .str nm, .int .i64 c] (.int .i64 1)).fits () True)
    | [.ref k x 0, .str nm, .int .i64 c] => some ((wRDef nm c).foc [.ref k x 0, .str nm, .int .i64 c] S fun b => b.2.x = x ∧ b.2.l.length ≤ 1000)
    | _ => none
  | 13 => match ds with
    | [.nilp, .str nm] => some ((sNil [.nilp, .str nm] (.tup [.int .i64 0, .bool false])).fits () True)
    | [.ref k x 0, .str nm] => some ((wFind nm).foc [.ref k x 0, .str nm] S fun (L : List Sc) => ∃ s r, L = s :: r ∧ s.x = x)
    | _ => none
  | 14 => match ds with
    | [.nilp, .str nm] => some ((sNil [.nilp, .str nm] (.tup [.int .i64 0, .bool false])).fits () True)
    | [.ref k x 0, .str nm] => some ((wRFind nm).foc [.ref k x 0, .str nm] S fun (L : List Rc) => (∃ s r, L = s :: r ∧ s.x = x) ∧ ∀ s ∈ L, s.l.length ≤ 1000)
    | _ => none
  | 15 => match ds with
    | [.nilp] => some ((sNil [.nilp] (.int .i64 0)).fits () True)
    | [.ref k x 0] => some (wDepth.foc [.ref k x 0] S fun (L : List Sc) => (∃ s r, L = s :: r ∧ s.x = x) ∧ L.length ≤ 1000)
    | _ => none
  | 16 => match ds with
    | [.nilp] => some ((sNil [.nilp] (.int .i64 0)).fits () True)
    | [.ref k x 0] => some (wRDepth.foc [.ref k x 0] S fun (L : List Rc) => (∃ s r, L = s :: r ∧ s.x = x) ∧ L.length ≤ 1000)
    | _ => none
  | 17 => some sSame
  | 18 => match ds with
    | [.nilp] => some ((sNil [.nilp] (.sl 1 0 (fun _ => []) .nil)).fits () True)
    | [.ref k x 0] => some (wNames.foc [.ref k x 0] S fun b => b.2.x = x ∧ b.2.l.length ≤ 1000)
    | _ => none
  | 19 => match ds with
    | [.nilp] => some ((sNil [.nilp] (.sl 1 0 (fun _ => []) .nil)).fits () True)
    | [.ref k x 0] => some (wRNames.foc [.ref k x 0] S fun b => b.2.x = x ∧ b.2.l.length ≤ 1000)
    | _ => none
  | _ => none
theorem con3_ok : ConOk Try.prog con3 := by
  intro k ds S A h
  unfold con3 at h
  split at h
  · split at h
    · injection h with h; subst h
      exact FnSpec.fits_ok (fun _ _ => awake_ok) fun _ => by simp [sAwake, weakL, leS, leO, leT, nodupB, chk_iff]
    · cases h
  · exact conB_ok _ _ _ _ h
  all_goals first
    | (split at h <;> first | (injection h with h; subst h) | cases h)
    | (injection h with h; subst h)
    | cases h
  · exact FnSpec.fits_ok (fun u _ => wrnew_ok _ _ _ u) fun _ => by simp [wRNew, weakL, leS, leO, leT, nodupB, chk_iff]
  · exact nil_ok nopen
  · exact FnSpec.fits_ok (fun u _ => wopen_ok _ _ _ _ _ u) fun _ => by simp [wOpen, weakL, weakD, leS, leO, leT, nodupB, chk_iff]
  · exact nil_ok nropen
  · exact FnSpec.fits_ok (fun u _ => wropen_ok _ _ _ _ _ u) fun _ => by simp [wROpen, weakL, weakD, leS, leO, leT, nodupB, chk_iff]
  · exact nil_ok (ndefine _ _)
  · exact FnSpec.foc_ok fun b hb => wdef_ok _ _ _ _ b hb
  · exact nil_ok (nrdefine _ _)
  · exact FnSpec.foc_ok fun b hb => wrdef_ok _ _ _ _ b hb
  · exact nil_ok (nfind _)
  · exact FnSpec.foc_ok fun b hb => wfind_ok _ _ _ b hb
  · exact nil_ok (nrfind _)
  · exact FnSpec.foc_ok fun b hb => wrfind_ok _ _ _ b hb
  · exact nil_ok ndepth
  · exact FnSpec.foc_ok fun b hb => wdepth_ok _ _ b hb
  · exact nil_ok nrdepth
  · exact FnSpec.foc_ok fun b hb => wrdepth_ok _ _ b hb
  · exact ConOk.plain (fun x hx => same_ok x hx) rfl rfl
  · exact nil_ok nnames
  · exact FnSpec.foc_ok fun b hb => wnames_ok _ _ b hb
  · exact nil_ok nrnames
  · exact FnSpec.foc_ok fun b hb => wrnames_ok _ _ b hb
end Go.Proofs.Ytkmgikcdlbibdaa
namespace Go.Proofs.Ytkmgikcdlbibdaa
open Go Go.Ab
theorem range_perm {n : Nat} {P : List Nat} (h1 : P.Nodup) (h2 : ∀ j ∈ P, j < n) : List.Perm (List.range n) (P ++ (List.range n).filter fun j => !P.contains j) := by
  refine (List.perm_ext_iff_of_nodup List.nodup_range ?_).2 fun a => ?_
  · refine List.nodup_append.2 ⟨h1, List.nodup_range.filter _, fun a ha b hb => ?_⟩
    rintro rfl
    have := (List.mem_filter.1 hb).2
    simp [ha] at this
  · simp only [List.mem_range, List.mem_append, List.mem_filter, Bool.not_eq_true', List.contains_eq_mem, decide_eq_false_iff_not]
    refine ⟨fun h => ?_, fun h => ?_⟩
    · by_cases hp : a ∈ P
      · exact .inl hp
      · exact .inr ⟨h, hp⟩
    · rcases h with h | h
      · exact h2 a h
      · exact h.1
theorem flat_perm {α : Type} (f g : Nat → List α) : ∀ (P : List Nat), List.Perm (P.flatMap fun i => f i ++ g i) (P.flatMap f ++ P.flatMap g)
  | [] => by simp
  | i :: P => by
    simp only [List.flatMap_cons]
    have h := flat_perm f g P
    have h1 : List.Perm ((f i ++ g i) ++ P.flatMap fun i => f i ++ g i) ((f i ++ g i) ++ (P.flatMap f ++ P.flatMap g)) := h.append_left _
    refine h1.trans ?_
    rw [List.append_assoc, List.append_assoc]
    exact (List.perm_append_comm_assoc (g i) (P.flatMap f) (P.flatMap g)).append_left (f i)
theorem flat_split {α : Type} (f g : Nat → List α) {n : Nat} {P : List Nat} (h1 : P.Nodup) (h2 : ∀ j ∈ P, j < n) :
    List.Perm ((List.range n).flatMap fun i => f i ++ g i) (P.flatMap f ++ (P.flatMap g ++ ((List.range n).filter fun j => !P.contains j).flatMap fun i => f i ++ g i)) := by
  have := (range_perm h1 h2).flatMap_right (fun i => f i ++ g i)
  refine this.trans ?_
  rw [List.flatMap_append, ← List.append_assoc]
  exact (flat_perm f g P).append_right _

structure OpR where
  kind : Int
  scope : Int
  nm : List UInt8
  c : Int
  deriving Inhabited
def opsF (l : List OpR) : Nat → List D := fun i => [.int .i64 (l.getD i default).kind, .int .i64 (l.getD i default).scope, .str (l.getD i default).nm, .int .i64 (l.getD i default).c]
/-- A family of scopes: path i is i and what lies outside of it; none if scope i is nil. -/
structure Fam where
  n : Nat
  sc : Nat → Sc
  rc : Nat → Rc
  path : Nat → List Nat
  ga : Nat → Nat
  gb : Nat → Nat
def iO (F : Fam) (i : Nat) : St := match F.path i with
  | [] => ⟨[], []⟩
  | _ :: r => iSt (hdG iRef (r.map F.sc)) (F.sc i)
def rO (F : Fam) (i : Nat) : St := match F.path i with
  | [] => ⟨[], []⟩
  | _ :: r => rSt (hdG rRef (r.map F.rc)) (F.rc i)
def famO (F : Fam) : List (Nat × Nat × AObj) := (List.range F.n).flatMap fun i => (iO F i).objs ++ (rO F i).objs
def famT (F : Fam) : List (Nat × Nat) := (List.range F.n).flatMap fun i => (iO F i).toks ++ (rO F i).toks
def rowA (F : Fam) (i : Nat) : D := match F.path i with
  | [] => .nilp
  | _ => .ref (F.ga i) (F.sc i).x 0
def rowB (F : Fam) (i : Nat) : D := match F.path i with
  | [] => .nilp
  | _ => .ref (F.gb i) (F.rc i).x 0
structure FamOk (F : Fam) : Prop where
  hd : ∀ i, F.path i = [] ∨ ∃ r, F.path i = i :: r ∧ (r = [] ∨ ∃ j, j < i ∧ F.path j = r)
  same : ∀ i, (F.sc i).l = (F.rc i).l

theorem path_lt {F : Fam} (h : FamOk F) : ∀ i, (F.path i).Nodup ∧ ∀ j ∈ F.path i, j ≤ i := by
  intro i
  induction i using Nat.strongRecOn with
  | ind i ih =>
    rcases h.hd i with e | ⟨r, e, hr⟩
    · rw [e]; simp
    · rw [e]
      rcases hr with rfl | ⟨j, hj, rfl⟩
      · simp
      · obtain ⟨h1, h2⟩ := ih j hj
        refine ⟨List.nodup_cons.2 ⟨fun hm => by have := h2 i hm; omega, h1⟩, fun k hk => ?_⟩
        rcases List.mem_cons.1 hk with rfl | hk
        · exact Nat.le_refl _
        · have := h2 k hk; omega
theorem ch_flat {F : Fam} (h : FamOk F) : ∀ i, (chG iSt iRef ((F.path i).map F.sc)).objs = (F.path i).flatMap (fun j => (iO F j).objs) ∧ (chG iSt iRef ((F.path i).map F.sc)).toks = (F.path i).flatMap (fun j => (iO F j).toks) ∧
    (chG rSt rRef ((F.path i).map F.rc)).objs = (F.path i).flatMap (fun j => (rO F j).objs) ∧ (chG rSt rRef ((F.path i).map F.rc)).toks = (F.path i).flatMap (fun j => (rO F j).toks) := by
  intro i
  induction i using Nat.strongRecOn with
  | ind i ih =>
    rcases h.hd i with e | ⟨r, e, hr⟩
    · rw [e]; simp [chG]
    · have hi : iO F i = iSt (hdG iRef (r.map F.sc)) (F.sc i) := by unfold iO; rw [e]
      have hq : rO F i = rSt (hdG rRef (r.map F.rc)) (F.rc i) := by unfold rO; rw [e]
      rw [e]
      have hrest : (chG iSt iRef (r.map F.sc)).objs = r.flatMap (fun j => (iO F j).objs) ∧ (chG iSt iRef (r.map F.sc)).toks = r.flatMap (fun j => (iO F j).toks) ∧
          (chG rSt rRef (r.map F.rc)).objs = r.flatMap (fun j => (rO F j).objs) ∧ (chG rSt rRef (r.map F.rc)).toks = r.flatMap (fun j => (rO F j).toks) := by
        rcases hr with rfl | ⟨j, hj, rfl⟩
        · simp [chG]
        · exact ih j hj
      obtain ⟨a1, a2, a3, a4⟩ := hrest
      simp only [List.map_cons, chG, St.add, List.flatMap_cons, hi, hq, a1, a2, a3, a4]
      exact ⟨trivial, trivial, trivial, trivial⟩

/-- The state at the loop's head. -/
def lawS (F : Fam) (ta tb : Nat) : St := ⟨famO F, (100, ta) :: (101, tb) :: famT F⟩
def restI (F : Fam) (P : List Nat) (ta tb : Nat) : St := ⟨P.flatMap (fun j => (rO F j).objs) ++ ((List.range F.n).filter fun j => !P.contains j).flatMap fun i => (iO F i).objs ++ (rO F i).objs,
  (100, ta) :: (101, tb) :: (P.flatMap (fun j => (rO F j).toks) ++ ((List.range F.n).filter fun j => !P.contains j).flatMap fun i => (iO F i).toks ++ (rO F i).toks)⟩
theorem mid2 {α : Type} {x y : α} {a b c : List α} (h : List.Perm (a ++ b) c) : List.Perm (a ++ (x :: y :: b)) (x :: y :: c) :=
  (List.perm_append_comm_assoc a [x, y] b).trans (h.append_left [x, y])
theorem law_chI {F : Fam} (h : FamOk F) (ta tb : Nat) {i : Nat} (hi : i < F.n) : StTo (lawS F ta tb) ((chG iSt iRef ((F.path i).map F.sc)).add (restI F (F.path i) ta tb)) ∧ StTo ((chG iSt iRef ((F.path i).map F.sc)).add (restI F (F.path i) ta tb)) (lawS F ta tb) := by
  obtain ⟨n1, n2⟩ := path_lt h i
  obtain ⟨a1, a2, _, _⟩ := ch_flat h i
  have hb : ∀ j ∈ F.path i, j < F.n := fun j hj => by have := n2 j hj; omega
  have p1 := flat_split (fun j => (iO F j).objs) (fun j => (rO F j).objs) n1 hb
  have p2 := flat_split (fun j => (iO F j).toks) (fun j => (rO F j).toks) n1 hb
  have q1 : List.Perm (((chG iSt iRef ((F.path i).map F.sc)).add (restI F (F.path i) ta tb)).objs) (lawS F ta tb).objs := by
    simp only [St.add, restI, lawS, a1, famO]; exact p1.symm
  have q2 : List.Perm (((chG iSt iRef ((F.path i).map F.sc)).add (restI F (F.path i) ta tb)).toks) (lawS F ta tb).toks := by
    simp only [St.add, restI, lawS, a2, famT]; exact mid2 p2.symm
  exact ⟨StTo.perm (r1 := []) (r2 := []) (by simpa using q1.map (·.2)) (by simpa using q2.map (·.2)), StTo.perm (r1 := []) (r2 := []) (by simpa using (q1.map (·.2)).symm) (by simpa using (q2.map (·.2)).symm)⟩

theorem flat_split' {α : Type} (f g : Nat → List α) {n : Nat} {P : List Nat} (h1 : P.Nodup) (h2 : ∀ j ∈ P, j < n) :
    List.Perm ((List.range n).flatMap fun i => f i ++ g i) (P.flatMap g ++ (P.flatMap f ++ ((List.range n).filter fun j => !P.contains j).flatMap fun i => f i ++ g i)) :=
  (flat_split f g h1 h2).trans (List.perm_append_comm_assoc _ _ _)
def restR (F : Fam) (P : List Nat) (ta tb : Nat) : St := ⟨P.flatMap (fun j => (iO F j).objs) ++ ((List.range F.n).filter fun j => !P.contains j).flatMap fun i => (iO F i).objs ++ (rO F i).objs,
  (100, ta) :: (101, tb) :: (P.flatMap (fun j => (iO F j).toks) ++ ((List.range F.n).filter fun j => !P.contains j).flatMap fun i => (iO F i).toks ++ (rO F i).toks)⟩
theorem to_both {S S' : St} (q1 : List.Perm S'.objs S.objs) (q2 : List.Perm S'.toks S.toks) : StTo S S' ∧ StTo S' S :=
  ⟨StTo.perm (r1 := []) (r2 := []) (by simpa using q1.map (·.2)) (by simpa using q2.map (·.2)), StTo.perm (r1 := []) (r2 := []) (by simpa using (q1.map (·.2)).symm) (by simpa using (q2.map (·.2)).symm)⟩
theorem law_chR {F : Fam} (h : FamOk F) (ta tb : Nat) {i : Nat} (hi : i < F.n) : StTo (lawS F ta tb) ((chG rSt rRef ((F.path i).map F.rc)).add (restR F (F.path i) ta tb)) ∧ StTo ((chG rSt rRef ((F.path i).map F.rc)).add (restR F (F.path i) ta tb)) (lawS F ta tb) := by
  obtain ⟨n1, n2⟩ := path_lt h i
  obtain ⟨_, _, a1, a2⟩ := ch_flat h i
  have hb : ∀ j ∈ F.path i, j < F.n := fun j hj => by have := n2 j hj; omega
  have p1 := flat_split' (fun j => (iO F j).objs) (fun j => (rO F j).objs) n1 hb
  have p2 := flat_split' (fun j => (iO F j).toks) (fun j => (rO F j).toks) n1 hb
  refine to_both ?_ ?_
  · simp only [St.add, restR, lawS, a1, famO]; exact p1.symm
  · simp only [St.add, restR, lawS, a2, famT]; exact mid2 p2.symm
/-- One scope, and the rest. -/
theorem law_oneI (F : Fam) (ta tb : Nat) {i : Nat} (hi : i < F.n) : StTo (lawS F ta tb) ((iO F i).add (restI F [i] ta tb)) ∧ StTo ((iO F i).add (restI F [i] ta tb)) (lawS F ta tb) := by
  have p1 := flat_split (fun j => (iO F j).objs) (fun j => (rO F j).objs) (P := [i]) (n := F.n) (by simp) (by simpa using hi)
  have p2 := flat_split (fun j => (iO F j).toks) (fun j => (rO F j).toks) (P := [i]) (n := F.n) (by simp) (by simpa using hi)
  refine to_both ?_ ?_
  · simp only [St.add, restI, lawS, famO]; simpa using p1.symm
  · simp only [St.add, restI, lawS, famT]; refine mid2 ?_; simpa using p2.symm
theorem law_oneR (F : Fam) (ta tb : Nat) {i : Nat} (hi : i < F.n) : StTo (lawS F ta tb) ((rO F i).add (restR F [i] ta tb)) ∧ StTo ((rO F i).add (restR F [i] ta tb)) (lawS F ta tb) := by
  have p1 := flat_split' (fun j => (iO F j).objs) (fun j => (rO F j).objs) (P := [i]) (n := F.n) (by simp) (by simpa using hi)
  have p2 := flat_split' (fun j => (iO F j).toks) (fun j => (rO F j).toks) (P := [i]) (n := F.n) (by simp) (by simpa using hi)
  refine to_both ?_ ?_
  · simp only [St.add, restR, lawS, famO]; simpa using p1.symm
  · simp only [St.add, restR, lawS, famT]; refine mid2 ?_; simpa using p2.symm
/-- A scope is put in another's place, its address the same. -/
def setI (F : Fam) (i : Nat) (s : Sc) : Fam := { F with sc := fun j => if j = i then s else F.sc j }
def setR (F : Fam) (i : Nat) (s : Rc) : Fam := { F with rc := fun j => if j = i then s else F.rc j }
theorem hdI {F : Fam} {i : Nat} {s : Sc} (hx : s.x = (F.sc i).x) : ∀ r : List Nat, hdG iRef (r.map (setI F i s).sc) = hdG iRef (r.map F.sc)
  | [] => rfl
  | j :: r => by
    simp only [List.map_cons, hdG, iRef, setI]
    split
    · rename_i e; subst e; rw [hx]
    · rfl
theorem hdR {F : Fam} {i : Nat} {s : Rc} (hx : s.x = (F.rc i).x) : ∀ r : List Nat, hdG rRef (r.map (setR F i s).rc) = hdG rRef (r.map F.rc)
  | [] => rfl
  | j :: r => by
    simp only [List.map_cons, hdG, rRef, setR]
    split
    · rename_i e; subst e; rw [hx]
    · rfl
theorem iO_set {F : Fam} {i : Nat} {s : Sc} (hx : s.x = (F.sc i).x) {j : Nat} (hj : j ≠ i) : iO (setI F i s) j = iO F j := by
  unfold iO
  show (match F.path j with
    | [] => _
    | _ :: r => iSt (hdG iRef (r.map (setI F i s).sc)) ((setI F i s).sc j)) = _
  split
  · rfl
  · simp only [hdI hx]; simp [setI, hj]
theorem rO_set {F : Fam} {i : Nat} {s : Rc} (hx : s.x = (F.rc i).x) {j : Nat} (hj : j ≠ i) : rO (setR F i s) j = rO F j := by
  unfold rO
  show (match F.path j with
    | [] => _
    | _ :: r => rSt (hdG rRef (r.map (setR F i s).rc)) ((setR F i s).rc j)) = _
  split
  · rfl
  · simp only [hdR hx]; simp [setR, hj]
theorem flat_congr {α : Type} {f g : Nat → List α} : ∀ {P : List Nat}, (∀ j ∈ P, f j = g j) → P.flatMap f = P.flatMap g
  | [], _ => rfl
  | i :: P, h => by
    rw [List.flatMap_cons, List.flatMap_cons, h i (List.mem_cons_self ..), flat_congr fun j hj => h j (List.mem_cons_of_mem _ hj)]
theorem rest_setI {F : Fam} {i : Nat} {s : Sc} (hx : s.x = (F.sc i).x) (ta tb : Nat) : restI (setI F i s) [i] ta tb = restI F [i] ta tb := by
  have h : ∀ j, j ∈ ((List.range F.n).filter fun j => !([i] : List Nat).contains j) → iO (setI F i s) j = iO F j := by
    intro j hj
    have := (List.mem_filter.1 hj).2
    exact iO_set hx (by simpa using this)
  have hr : ∀ j, rO (setI F i s) j = rO F j := fun j => rfl
  unfold restI
  show St.mk (_ ++ ((List.range F.n).filter fun j => !([i] : List Nat).contains j).flatMap _) (_ :: _ :: (_ ++ ((List.range F.n).filter fun j => !([i] : List Nat).contains j).flatMap _)) = _
  rw [flat_congr (P := (List.range F.n).filter fun j => !([i] : List Nat).contains j) (g := fun j => (iO F j).objs ++ (rO F j).objs) fun j hj => by rw [h j hj, hr],
    flat_congr (P := (List.range F.n).filter fun j => !([i] : List Nat).contains j) (g := fun j => (iO F j).toks ++ (rO F j).toks) fun j hj => by rw [h j hj, hr]]
  rfl
theorem rest_setR {F : Fam} {i : Nat} {s : Rc} (hx : s.x = (F.rc i).x) (ta tb : Nat) : restR (setR F i s) [i] ta tb = restR F [i] ta tb := by
  have h : ∀ j, j ∈ ((List.range F.n).filter fun j => !([i] : List Nat).contains j) → rO (setR F i s) j = rO F j := by
    intro j hj
    have := (List.mem_filter.1 hj).2
    exact rO_set hx (by simpa using this)
  have hr : ∀ j, iO (setR F i s) j = iO F j := fun j => rfl
  unfold restR
  show St.mk (_ ++ ((List.range F.n).filter fun j => !([i] : List Nat).contains j).flatMap _) (_ :: _ :: (_ ++ ((List.range F.n).filter fun j => !([i] : List Nat).contains j).flatMap _)) = _
  rw [flat_congr (P := (List.range F.n).filter fun j => !([i] : List Nat).contains j) (g := fun j => (iO F j).objs ++ (rO F j).objs) fun j hj => by rw [h j hj, hr],
    flat_congr (P := (List.range F.n).filter fun j => !([i] : List Nat).contains j) (g := fun j => (iO F j).toks ++ (rO F j).toks) fun j hj => by rw [h j hj, hr]]
  rfl
end Go.Proofs.Ytkmgikcdlbibdaa
namespace Go.Proofs.Ytkmgikcdlbibdaa
open Go Go.Ab

theorem StTo.fr {A B : St} (h : StTo A B) (G : St) : StTo (A.add G) (B.add G) := by
  intro C F w H
  rw [St.add_assoc] at H ⊢
  exact h C _ w H
theorem newTo {s : Sc} {r : Rc} {o o' : D} (h1 : s.l = []) (h2 : r.l = []) (G : St) :
    StTo ⟨(2, r.x, .cells [o', .sl 1 0 (fun _ => []) (.tok 2 r.u), .sl 1 0 (fun _ => []) (.tok 3 r.v)]) :: (0, s.x, .cells [o, .map 1 s.m, .sl 1 0 (fun _ => []) (.tok 0 s.t)]) :: (1, s.m, .amap .i64 []) :: G.objs,
      (3, r.v) :: (2, r.u) :: (0, s.t) :: G.toks⟩ (((iSt o s).add (rSt o' r)).add G) := by
  have h : StTo (⟨[(2, r.x, .cells [o', .sl 1 0 (fun _ => []) (.tok 2 r.u), .sl 1 0 (fun _ => []) (.tok 3 r.v)]), (0, s.x, .cells [o, .map 1 s.m, .sl 1 0 (fun _ => []) (.tok 0 s.t)]), (1, s.m, .amap .i64 [])],
      [(3, r.v), (2, r.u), (0, s.t)]⟩ : St) ⟨[(0, s.x, .cells [o, .map 1 s.m, .sl 1 0 (nmsF []) (.tok 0 s.t)]), (1, s.m, .amap .i64 []), (2, r.x, .cells [o', .sl 1 0 (nmsF []) (.tok 0 r.u), .sl 1 0 (clsF []) (.tok 1 r.v)])],
      [(0, s.t), (2, r.u), (3, r.v)]⟩ := by
    refine leS_to ?_
    have d1 := weakD_refl o
    have d2 := weakD_refl o'
    simp [leS, leO, leT, nodupB, chk_iff, getO, getT, weakO, weakL, weakD, weakM, d1, d2, kEq]
  have h' := StTo.fr h G
  refine StTo.trans h' ?_
  rw [iSt, rSt, h1, h2]
  exact StTo.perm (r1 := []) (r2 := []) (by simp [St.add]) (by simp [St.add])
theorem newTo0 {s : Sc} {r : Rc} (t t1 : Nat) (h1 : s.l = []) (h2 : r.l = []) :
    StTo ⟨[(2, r.x, .cells [.nilp, .sl 1 0 (fun _ => []) (.tok 1 r.u), .sl 1 0 (fun _ => []) (.tok 2 r.v)]), (1, s.x, .cells [.nilp, .map 0 s.m, .sl 1 0 (fun _ => []) (.tok 0 s.t)]), (0, s.m, .amap .i64 [])],
      [(4, t1), (3, t), (2, r.v), (1, r.u), (0, s.t)]⟩ ((⟨[], [(100, t), (101, t1)]⟩ : St).add ((iSt .nilp s).add (rSt .nilp r))) := by
  have h : StTo (⟨[(2, r.x, .cells [.nilp, .sl 1 0 (fun _ => []) (.tok 1 r.u), .sl 1 0 (fun _ => []) (.tok 2 r.v)]), (1, s.x, .cells [.nilp, .map 0 s.m, .sl 1 0 (fun _ => []) (.tok 0 s.t)]), (0, s.m, .amap .i64 [])],
      [(4, t1), (3, t), (2, r.v), (1, r.u), (0, s.t)]⟩ : St) ⟨[(1, s.x, .cells [.nilp, .map 1 s.m, .sl 1 0 (nmsF []) (.tok 0 s.t)]), (0, s.m, .amap .i64 []), (2, r.x, .cells [.nilp, .sl 1 0 (nmsF []) (.tok 0 r.u), .sl 1 0 (clsF []) (.tok 1 r.v)])],
      [(3, t), (4, t1), (0, s.t), (1, r.u), (2, r.v)]⟩ := by
    refine leS_to ?_
    simp [leS, leO, leT, nodupB, chk_iff, getO, getT, weakO, weakL, weakD, weakM, kEq]
  refine StTo.trans h ?_
  rw [iSt, rSt, h1, h2]
  exact StTo.perm (r1 := []) (r2 := []) (by simp [St.add]) (by simp [St.add])

theorem hd_row {F : Fam} (h : FamOk F) {k : Nat} (hp : F.path k ≠ []) : hdG iRef ((F.path k).map F.sc) = .ref 0 (F.sc k).x 0 ∧ hdG rRef ((F.path k).map F.rc) = .ref 0 (F.rc k).x 0 := by
  rcases h.hd k with e | ⟨r, e, _⟩
  · exact (hp e).elim
  · simp [e, hdG]
def opn (F : Fam) (k : Nat) (s : Sc) (r : Rc) : Fam := ⟨F.n + 1, fun j => if j = F.n then s else F.sc j, fun j => if j = F.n then r else F.rc j,
  fun j => if j = F.n then (if F.path k = [] then [] else F.n :: F.path k) else if j < F.n then F.path j else [],
  fun j => if j = F.n then 0 else F.ga j, fun j => if j = F.n then 2 else F.gb j⟩
section
variable {F : Fam} (h : FamOk F) {k : Nat} (hk : k < F.n) (s : Sc) (r : Rc)
include h hk
theorem opn_ok (hl : s.l = r.l) : FamOk (opn F k s r) := by
  refine ⟨fun i => ?_, fun i => ?_⟩
  · by_cases hi : i = F.n
    · by_cases hp : F.path k = []
      · left; simp [opn, hi, hp]
      · right; exact ⟨F.path k, by simp [opn, hi, hp], .inr ⟨k, by omega, by simp only [opn]; rw [if_neg (by omega), if_pos hk]⟩⟩
    · by_cases hlt : i < F.n
      · have e : (opn F k s r).path i = F.path i := by simp only [opn]; rw [if_neg hi, if_pos hlt]
        rw [e]
        rcases h.hd i with e | ⟨q, e, hq⟩
        · exact .inl e
        · refine .inr ⟨q, e, ?_⟩
          rcases hq with hq | ⟨j, hj, hq⟩
          · exact .inl hq
          · exact .inr ⟨j, hj, by simp only [opn]; rw [if_neg (by omega), if_pos (by omega)]; exact hq⟩
      · left; simp only [opn]; rw [if_neg hi, if_neg hlt]
  · by_cases hi : i = F.n
    · simp [opn, hi, hl]
    · simp only [opn]; rw [if_neg hi, if_neg hi]; exact h.same i
theorem opn_map (j : Nat) (hj : j < F.n) : (F.path j).map (opn F k s r).sc = (F.path j).map F.sc ∧ (F.path j).map (opn F k s r).rc = (F.path j).map F.rc := by
  have _ := hk
  have hp := (path_lt h j).2
  constructor <;> refine List.map_congr_left fun a ha => ?_
  · have := hp a ha
    simp only [opn]; rw [if_neg (by omega)]
  · have := hp a ha
    simp only [opn]; rw [if_neg (by omega)]
theorem opn_old (j : Nat) (hj : j < F.n) : iO (opn F k s r) j = iO F j ∧ rO (opn F k s r) j = rO F j ∧ rowA (opn F k s r) j = rowA F j ∧ rowB (opn F k s r) j = rowB F j := by
  have e : (opn F k s r).path j = F.path j := by simp only [opn]; rw [if_neg (by omega), if_pos hj]
  have e1 : (opn F k s r).sc j = F.sc j := by simp only [opn]; rw [if_neg (by omega)]
  have e2 : (opn F k s r).rc j = F.rc j := by simp only [opn]; rw [if_neg (by omega)]
  have e3 : (opn F k s r).ga j = F.ga j := by simp only [opn]; rw [if_neg (by omega)]
  have e4 : (opn F k s r).gb j = F.gb j := by simp only [opn]; rw [if_neg (by omega)]
  obtain ⟨m1, m2⟩ := opn_map h hk s r j hj
  unfold iO rO rowA rowB
  rw [e, e1, e2, e3, e4]
  rcases h.hd j with p | ⟨q, p, _⟩
  · rw [p]; exact ⟨rfl, rfl, rfl, rfl⟩
  · rw [p] at m1 m2 ⊢
    simp only [List.map_cons, List.cons.injEq] at m1 m2
    simp only [m1.2, m2.2]
    exact ⟨trivial, trivial, trivial, trivial⟩
theorem opn_new (hp : F.path k ≠ []) : iO (opn F k s r) F.n = iSt (.ref 0 (F.sc k).x 0) s ∧ rO (opn F k s r) F.n = rSt (.ref 0 (F.rc k).x 0) r ∧ rowA (opn F k s r) F.n = .ref 0 s.x 0 ∧ rowB (opn F k s r) F.n = .ref 2 r.x 0 := by
  have e : (opn F k s r).path F.n = F.n :: F.path k := by simp [opn, hp]
  have e1 : (opn F k s r).sc F.n = s := by simp [opn]
  have e2 : (opn F k s r).rc F.n = r := by simp [opn]
  obtain ⟨m1, m2⟩ := opn_map h hk s r k hk
  have e3 : (opn F k s r).ga F.n = 0 := by simp [opn]
  have e4 : (opn F k s r).gb F.n = 2 := by simp [opn]
  obtain ⟨d1, d2⟩ := hd_row h hp
  unfold iO rO
  simp only [rowA, rowB]
  simp only [e, e1, e2, e3, e4, m1, m2, d1, d2]
  exact ⟨trivial, trivial, trivial, trivial⟩
theorem opn_nil (hp : F.path k = []) : iO (opn F k s r) F.n = ⟨[], []⟩ ∧ rO (opn F k s r) F.n = ⟨[], []⟩ ∧ rowA (opn F k s r) F.n = .nilp ∧ rowB (opn F k s r) F.n = .nilp := by
  have _ := And.intro h hk
  have e : (opn F k s r).path F.n = [] := by simp [opn, hp]
  unfold iO rO rowA rowB
  simp only [e]
  exact ⟨trivial, trivial, trivial, trivial⟩
theorem opn_fam : famO (opn F k s r) = famO F ++ ((iO (opn F k s r) F.n).objs ++ (rO (opn F k s r) F.n).objs) ∧ famT (opn F k s r) = famT F ++ ((iO (opn F k s r) F.n).toks ++ (rO (opn F k s r) F.n).toks) := by
  have hn : (opn F k s r).n = F.n + 1 := rfl
  unfold famO famT
  rw [hn, List.range_succ, List.flatMap_append, List.flatMap_append]
  constructor
  · rw [flat_congr (P := List.range F.n) (g := fun j => (iO F j).objs ++ (rO F j).objs) fun j hj => by
      obtain ⟨q1, q2, _⟩ := opn_old h hk s r j (List.mem_range.1 hj); rw [q1, q2]]
    simp
  · rw [flat_congr (P := List.range F.n) (g := fun j => (iO F j).toks ++ (rO F j).toks) fun j hj => by
      obtain ⟨q1, q2, _⟩ := opn_old h hk s r j (List.mem_range.1 hj); rw [q1, q2]]
    simp
theorem law_opn (ta tb : Nat) (hp : F.path k ≠ []) (h1 : s.l = []) (h2 : r.l = []) :
    StTo ⟨(2, r.x, .cells [.ref 0 (F.rc k).x 0, .sl 1 0 (fun _ => []) (.tok 2 r.u), .sl 1 0 (fun _ => []) (.tok 3 r.v)]) :: (0, s.x, .cells [.ref 0 (F.sc k).x 0, .map 1 s.m, .sl 1 0 (fun _ => []) (.tok 0 s.t)]) :: (1, s.m, .amap .i64 []) :: famO F,
      (101, tb) :: (100, ta) :: (3, r.v) :: (2, r.u) :: (0, s.t) :: famT F⟩ (lawS (opn F k s r) ta tb) := by
  have a := newTo (o := .ref 0 (F.sc k).x 0) (o' := .ref 0 (F.rc k).x 0) h1 h2 (⟨famO F, (101, tb) :: (100, ta) :: famT F⟩ : St)
  refine StTo.trans (B := ⟨(2, r.x, .cells [.ref 0 (F.rc k).x 0, .sl 1 0 (fun _ => []) (.tok 2 r.u), .sl 1 0 (fun _ => []) (.tok 3 r.v)]) :: (0, s.x, .cells [.ref 0 (F.sc k).x 0, .map 1 s.m, .sl 1 0 (fun _ => []) (.tok 0 s.t)]) :: (1, s.m, .amap .i64 []) :: famO F,
      (3, r.v) :: (2, r.u) :: (0, s.t) :: (101, tb) :: (100, ta) :: famT F⟩) (StTo.perm (r1 := []) (r2 := []) (by simp) ?_) (a.trans ?_)
  · simp only [List.append_nil, List.map_cons]
    exact (List.perm_append_comm_assoc [r.v, r.u, s.t] [tb, ta] _)
  · obtain ⟨f1, f2⟩ := opn_fam h hk s r
    obtain ⟨g1, g2, _⟩ := opn_new h hk s r hp
    rw [g1, g2] at f1 f2
    refine StTo.perm (r1 := []) (r2 := []) ?_ ?_
    · simp only [lawS, f1, St.add, List.append_nil, List.map_append]
      exact List.perm_append_comm
    · simp only [lawS, f2, St.add, List.append_nil, List.map_append, List.map_cons]
      refine List.Perm.trans (List.Perm.swap _ _ _) ?_
      refine List.Perm.trans ((List.perm_append_comm.cons _).cons _) ?_
      exact (List.perm_append_comm_assoc ((iSt (.ref 0 (F.sc k).x 0) s).toks.map (·.2) ++ (rSt (.ref 0 (F.rc k).x 0) r).toks.map (·.2)) [tb, ta] ((famT F).map (·.2))).symm
theorem law_opn0 (ta tb : Nat) (hp : F.path k = []) : StTo ⟨famO F, (101, tb) :: (100, ta) :: famT F⟩ (lawS (opn F k s r) ta tb) := by
  obtain ⟨f1, f2⟩ := opn_fam h hk s r
  obtain ⟨g1, g2, _⟩ := opn_nil h hk s r hp
  rw [g1, g2] at f1 f2
  simp only [List.append_nil] at f1 f2
  refine StTo.perm (r1 := []) (r2 := []) ?_ ?_
  · simp [lawS, f1]
  · simp only [lawS, f2, List.append_nil, List.map_cons]
    exact List.Perm.swap _ _ _
end
theorem path_len {F : Fam} (h : FamOk F) : ∀ i, (F.path i).length ≤ i + 1 := by
  intro i
  induction i using Nat.strongRecOn with
  | ind i ih =>
    rcases h.hd i with e | ⟨r, e, hr⟩
    · rw [e]; simp
    · rw [e]
      rcases hr with rfl | ⟨j, hj, rfl⟩
      · simp
      · have := ih j hj; simp; omega
theorem law_setI {F : Fam} {k : Nat} {q : List Nat} {s : Sc} (ta tb : Nat) (hk : k < F.n) (e : F.path k = k :: q) (hx : s.x = (F.sc k).x) : StTo ((iSt (hdG iRef (q.map F.sc)) s).add (restI F [k] ta tb)) (lawS (setI F k s) ta tb) := by
  have h := (law_oneI (setI F k s) ta tb (i := k) hk).2
  rw [rest_setI hx] at h
  have h2 : iO (setI F k s) k = iSt (hdG iRef (q.map F.sc)) s := by
    unfold iO
    have e' : (setI F k s).path k = k :: q := e
    rw [e']
    show iSt (hdG iRef (q.map (setI F k s).sc)) ((setI F k s).sc k) = _
    rw [hdI hx]
    simp [setI]
  rw [h2] at h
  exact h
theorem law_setR {F : Fam} {k : Nat} {q : List Nat} {s : Rc} (ta tb : Nat) (hk : k < F.n) (e : F.path k = k :: q) (hx : s.x = (F.rc k).x) : StTo ((rSt (hdG rRef (q.map F.rc)) s).add (restR F [k] ta tb)) (lawS (setR F k s) ta tb) := by
  have h := (law_oneR (setR F k s) ta tb (i := k) hk).2
  rw [rest_setR hx] at h
  have h2 : rO (setR F k s) k = rSt (hdG rRef (q.map F.rc)) s := by
    unfold rO
    have e' : (setR F k s).path k = k :: q := e
    rw [e']
    show rSt (hdG rRef (q.map (setR F k s).rc)) ((setR F k s).rc k) = _
    rw [hdR hx]
    simp [setR]
  rw [h2] at h
  exact h
theorem one_I {F : Fam} {k : Nat} {q : List Nat} (ta tb : Nat) (hk : k < F.n) (e : F.path k = k :: q) : StTo (lawS F ta tb) ((iSt (hdG iRef (q.map F.sc)) (F.sc k)).add (restI F [k] ta tb)) := by
  have h := (law_oneI F ta tb (i := k) hk).1
  unfold iO at h
  rw [e] at h
  exact h
theorem one_R {F : Fam} {k : Nat} {q : List Nat} (ta tb : Nat) (hk : k < F.n) (e : F.path k = k :: q) : StTo (lawS F ta tb) ((rSt (hdG rRef (q.map F.rc)) (F.rc k)).add (restR F [k] ta tb)) := by
  have h := (law_oneR F ta tb (i := k) hk).1
  unfold rO at h
  rw [e] at h
  exact h
theorem row_ref {F : Fam} (h : FamOk F) {k a b : Nat} (h1 : ∃ t, rowA F k = .ref t a 0) (h2 : ∃ t, rowB F k = .ref t b 0) : ∃ q, F.path k = k :: q ∧ (F.sc k).x = a ∧ (F.rc k).x = b := by
  obtain ⟨t1, h1⟩ := h1
  obtain ⟨t2, h2⟩ := h2
  rcases h.hd k with e | ⟨q, e, _⟩
  · simp [rowA, e] at h1
  · simp [rowA, e] at h1; simp [rowB, e] at h2; exact ⟨q, e, h1.2, h2.2⟩
theorem row_nil {F : Fam} (h : FamOk F) {k : Nat} (h1 : rowA F k = .nilp) : F.path k = [] := by
  rcases h.hd k with e | ⟨q, e, _⟩
  · exact e
  · simp [rowA, e] at h1
theorem row_or {F : Fam} (h : FamOk F) (k : Nat) : (∃ a b, (∃ t, rowA F k = .ref t a 0) ∧ ∃ t, rowB F k = .ref t b 0) ∨ (rowA F k = .nilp ∧ rowB F k = .nilp) := by
  rcases h.hd k with e | ⟨q, e, _⟩
  · right; simp [rowA, rowB, e]
  · left; simp [rowA, rowB, e]
theorem addL_len (l : List (List UInt8 × Int)) (nm : List UInt8) (c : Int) : (addL l nm c).length ≤ l.length + 1 := by
  unfold addL; split <;> simp
theorem ls_eq {F : Fam} (h : FamOk F) (P : List Nat) : (P.map F.sc).map (·.l) = (P.map F.rc).map (·.l) := by
  simp only [List.map_map]
  refine List.map_congr_left fun j _ => ?_
  exact h.same j
theorem filt_true {α : Type} (l : List α) : l.filter (fun _ => true) = l := by simp
structure LSt where
  F : Fam
  i : Nat
  ta : Nat
  tb : Nat
def fam0 (s : Sc) (r : Rc) : Fam := ⟨2, fun _ => s, fun _ => r, fun j => if j = 0 then [0] else [], fun _ => 1, fun _ => 2⟩
theorem fam0_ok {s : Sc} {r : Rc} (h : s.l = r.l) : FamOk (fam0 s r) := by
  refine ⟨fun i => ?_, fun i => h⟩
  by_cases hi : i = 0
  · subst hi; exact .inr ⟨[], rfl, .inl rfl⟩
  · left; simp [fam0, hi]
theorem law_0 {s : Sc} {r : Rc} (t t1 : Nat) (h1 : s.l = []) (h2 : r.l = []) :
    StTo ⟨[(2, r.x, .cells [.nilp, .sl 1 0 (fun _ => []) (.tok 1 r.u), .sl 1 0 (fun _ => []) (.tok 2 r.v)]), (1, s.x, .cells [.nilp, .map 0 s.m, .sl 1 0 (fun _ => []) (.tok 0 s.t)]), (0, s.m, .amap .i64 [])],
      [(4, t1), (3, t), (2, r.v), (1, r.u), (0, s.t)]⟩ (lawS (fam0 s r) t t1) := by
  refine StTo.trans (newTo0 t t1 h1 h2) ?_
  exact StTo.perm (r1 := []) (r2 := []) (by simp [St.add, lawS, famO, famT, fam0, iO, rO, List.range_succ, hdG]) (by simp [St.add, lawS, famO, famT, fam0, iO, rO, List.range_succ, hdG])
theorem nxt {l : List OpR} {x : LSt} {m : Nat} {A B : Nat → List D} {ta tb : Nat} {S' : St} (F' : Fam) (hlt : (x.i : Int) < l.length) (h100 : l.length ≤ 100) (hF : FamOk F') (hm : m = F'.n) (hn : F'.n ≤ x.i + 3) (hl : ∀ j, (F'.sc j).l.length ≤ x.i + 1)
    (hA : ∀ i, i < m → A i = [rowA F' i]) (hB : ∀ i, i < m → B i = [rowB F' i]) (hS : StTo S' (lawS F' ta tb)) :
    ∃ x_1 : LSt, (FamOk x_1.F ∧ x_1.i ≤ l.length ∧ x_1.F.n ≤ x_1.i + 2 ∧ ∀ (j : Nat), (x_1.F.sc j).l.length ≤ x_1.i) ∧ l.length - x_1.i < l.length - x.i ∧
      ((m = x_1.F.n ∧ (∀ i, i < m → A i = [rowA x_1.F i]) ∧ ta = x_1.ta) ∧ (m = x_1.F.n ∧ (∀ i, i < m → B i = [rowB x_1.F i]) ∧ tb = x_1.tb) ∧ IntKind.i64.wrap (↑x.i + 1) = ↑x_1.i) ∧ StTo S' ⟨famO x_1.F, (100, x_1.ta) :: (101, x_1.tb) :: famT x_1.F⟩ := by
  refine ⟨⟨F', x.i + 1, ta, tb⟩, ⟨hF, by dsimp only; omega, by dsimp only; omega, hl⟩, by dsimp only; omega, ⟨⟨hm, hA, rfl⟩, ⟨hm, hB, rfl⟩, ?_⟩, hS⟩
  rw [IntKind.wrap_i64] <;> dsimp only <;> omega
end Go.Proofs.Ytkmgikcdlbibdaa
namespace Go.Proofs.Ytkmgikcdlbibdaa
open Go Go.Ab
/-! ### NamesPlays: the family of scopes, and the law -/
def sPlays : FnSpec where
  β := List OpR
  α := Unit
  args := fun l => [.sl 4 l.length (opsF l) .any]
  st := fun _ => ⟨[], []⟩
  pre := fun _ => True
  post := fun _ _ => True
  res := fun _ _ => .ret (.bool true)
  out := fun _ _ => ⟨[], []⟩
noncomputable def E3 (l : List OpR) : Senv := { E0 con3 148 1 [2, 3, 4, 5, 6, 7, 8, 9, 10, 11, 12, 19, 28, 43, 56, 57, 67, 76, 102, 103, 132, 133, 139, 140, 147] with
  gh := fun b => match b with
    | 0 => [.slot 3, .slot 4]
    | _ => []
  ann2 := fun b _ _ => match b with
    | 0 => some
      ({ slots := [3, 4, 5], keep := [0], α := LSt, st := fun x => ([.sl 1 x.F.n (fun i => [rowA x.F i]) (.tok 100 x.ta), .sl 1 x.F.n (fun i => [rowB x.F i]) (.tok 101 x.tb), .int .i64 x.i], lawS x.F x.ta x.tb), inv := fun x => FamOk x.F ∧ x.i ≤ l.length ∧ x.F.n ≤ x.i + 2 ∧ ∀ j, (x.F.sc j).l.length ≤ x.i, mu := fun x => l.length - x.i },
       { slots := [], keep := [], α := Unit, st := fun _ => ([], ⟨[], []⟩), inv := fun _ => False, mu := fun _ => 0 })
    | _ => none
  cut2 := fun id env _ => match id with
    | 9 => match Ab.look env 6, Ab.look env 3, Ab.look env 4 with
      | .int _ n, .sl _ _ f _, .sl _ _ g _ => some
        ({ slots := [7, 8], keep := [], α := Nat × Nat, st := fun p => ([.ref 0 p.1 0, .ref 0 p.2 0], ⟨[], []⟩), inv := fun p => (∃ t, (f n.toNat).getD 0 .unk = .ref t p.1 0) ∧ ∃ t, (g n.toNat).getD 0 .unk = .ref t p.2 0, mu := fun _ => 0 },
         { slots := [7, 8], keep := [], α := Unit, st := fun _ => ([.nilp, .nilp], ⟨[], []⟩), inv := fun _ => (f n.toNat).getD 0 .unk = .nilp ∧ (g n.toNat).getD 0 .unk = .nilp, mu := fun _ => 0 })
      | _, _, _ => none
    | _ => none
  ord := fun id => match id with
    | 9 => ([], [])
    | 17 => ([], [11, 23])
    | _ => ([], []) }
theorem plays_ok (l : List OpR) : ACalls Try.prog 3 (sPlays.args l) (sPlays.st l) (SpecR sPlays l) := by
  refine con_of (A := sPlays) (x := l) (E := E3 l) ⟨tab_ok, con3_ok, mix, fun _ _ _ _ h => h.elim, fun _ h => nomatch h⟩ Try.func3 rfl rfl rfl (by simp [sPlays, E3, E0]) ?_
  refine vc_eq (T :=
      ifB (decide ((100 : Int) < (↑(List.length l) : Int))) ((True ∧ True) ∧ ∀ (y : Unit), True → True ∧ ∃ (y : Unit), True ∧ true = true ∧ True ∧ True) ((True ∧ True) ∧ ∀ (y : Unit), True → (True ∧ True) ∧ ∀ (y : Nat ×
      Nat × Nat), True → (True ∧ True) ∧ ∀ (y_1 : Rc), eqOf (List (List UInt8 × Int)) (Rc.l y_1) [] → ∀ (t t_1 : Nat), ((∃ (x : LSt), (FamOk (LSt.F x) ∧ LSt.i x ≤ List.length l ∧ Fam.n (LSt.F x) ≤ LSt.i x + (2 : Nat) ∧ ∀
      (j : Nat), List.length (Sc.l (Fam.sc (LSt.F x) j)) ≤ LSt.i x) ∧ True ∧ (((2 : Nat) = Fam.n (LSt.F x) ∧ (∀ (i : Nat), i < (2 : Nat) → List.getD [[D.ref (1 : Nat) (Prod.fst y) (0 : Nat)], [D.nilp]] i [] = [rowA
      (LSt.F x) i]) ∧ t = LSt.ta x) ∧ ((2 : Nat) = Fam.n (LSt.F x) ∧ (∀ (i : Nat), i < (2 : Nat) → List.getD [[D.ref (2 : Nat) (Rc.x y_1) (0 : Nat)], [D.nilp]] i [] = [rowB (LSt.F x) i]) ∧ t_1 = LSt.tb x) ∧ (0 : Int) =
      (↑(LSt.i x) : Int) ∧ True) ∧ StTo (St.mk [((2 : Nat), Rc.x y_1, AObj.cells [D.nilp, D.sl (1 : Nat) (0 : Nat) (fun (x : Nat) => []) (Mode.tok (1 : Nat) (Rc.u y_1)), D.sl (1 : Nat) (0 : Nat) (fun (x : Nat) => [])
      (Mode.tok (2 : Nat) (Rc.v y_1))]), ((1 : Nat), Prod.fst y, AObj.cells [D.nilp, D.map (0 : Nat) (Prod.fst (Prod.snd y)), D.sl (1 : Nat) (0 : Nat) (fun (x : Nat) => []) (Mode.tok (0 : Nat) (Prod.snd (Prod.snd y)))]),
      ((0 : Nat), Prod.fst (Prod.snd y), AObj.amap IntKind.i64 [])] [((4 : Nat), t_1), ((3 : Nat), t), ((2 : Nat), Rc.v y_1), ((1 : Nat), Rc.u y_1), ((0 : Nat), Prod.snd (Prod.snd y))]) (St.mk (famO (LSt.F x) ++ [])
      (((100 : Nat), LSt.ta x) :: ((101 : Nat), LSt.tb x) :: List.append (famT (LSt.F x)) []))) ∨ ∃ (x : Unit), False ∧ True ∧ True ∧ StTo (St.mk [((2 : Nat), Rc.x y_1, AObj.cells [D.nilp, D.sl (1 : Nat) (0 : Nat) (fun
      (x : Nat) => []) (Mode.tok (1 : Nat) (Rc.u y_1)), D.sl (1 : Nat) (0 : Nat) (fun (x : Nat) => []) (Mode.tok (2 : Nat) (Rc.v y_1))]), ((1 : Nat), Prod.fst y, AObj.cells [D.nilp, D.map (0 : Nat) (Prod.fst (Prod.snd
      y)), D.sl (1 : Nat) (0 : Nat) (fun (x : Nat) => []) (Mode.tok (0 : Nat) (Prod.snd (Prod.snd y)))]), ((0 : Nat), Prod.fst (Prod.snd y), AObj.amap IntKind.i64 [])] [((4 : Nat), t_1), ((3 : Nat), t), ((2 : Nat), Rc.v
      y_1), ((1 : Nat), Rc.u y_1), ((0 : Nat), Prod.snd (Prod.snd y))]) (St.mk [] [])) ∧ (∀ (x : LSt), (FamOk (LSt.F x) ∧ LSt.i x ≤ List.length l ∧ Fam.n (LSt.F x) ≤ LSt.i x + (2 : Nat) ∧ ∀ (j : Nat), List.length (Sc.l
      (Fam.sc (LSt.F x) j)) ≤ LSt.i x) → ifB (decide ((↑(LSt.i x) : Int) < (↑(List.length l) : Int))) (side ((0 : Int) ≤ (↑(LSt.i x) : Int) ∧ (↑(LSt.i x) : Int) < (↑(List.length l) : Int)) (ifB (decide (OpR.scope
      (List.getD l (Int.toNat (↑(LSt.i x) : Int)) (OpR.mk (0 : Int) (0 : Int) [] (0 : Int))) < (0 : Int))) ((D.sl (4 : Nat) (List.length l) (fun (i : Nat) => [D.int IntKind.i64 (OpR.kind (List.getD l i (OpR.mk (0 : Int)
      (0 : Int) [] (0 : Int)))), D.int IntKind.i64 (OpR.scope (List.getD l i (OpR.mk (0 : Int) (0 : Int) [] (0 : Int)))), D.str (OpR.nm (List.getD l i (OpR.mk (0 : Int) (0 : Int) [] (0 : Int)))), D.int IntKind.i64 (OpR.c
      (List.getD l i (OpR.mk (0 : Int) (0 : Int) [] (0 : Int))))]) Mode.any = D.sl (4 : Nat) (List.length l) (fun (i : Nat) => [D.int IntKind.i64 (OpR.kind (List.getD l i (OpR.mk (0 : Int) (0 : Int) [] (0 : Int)))),
      D.int IntKind.i64 (OpR.scope (List.getD l i (OpR.mk (0 : Int) (0 : Int) [] (0 : Int)))), D.str (OpR.nm (List.getD l i (OpR.mk (0 : Int) (0 : Int) [] (0 : Int)))), D.int IntKind.i64 (OpR.c (List.getD l i (OpR.mk (0
      : Int) (0 : Int) [] (0 : Int))))]) Mode.any ∧ True) ∧ ((∃ (x_1 : LSt), (FamOk (LSt.F x_1) ∧ LSt.i x_1 ≤ List.length l ∧ Fam.n (LSt.F x_1) ≤ LSt.i x_1 + (2 : Nat) ∧ ∀ (j : Nat), List.length (Sc.l (Fam.sc (LSt.F x_1)
      j)) ≤ LSt.i x_1) ∧ List.length l - LSt.i x_1 < List.length l - LSt.i x ∧ ((Fam.n (LSt.F x) = Fam.n (LSt.F x_1) ∧ (∀ (i : Nat), i < Fam.n (LSt.F x) → [rowA (LSt.F x) i] = [rowA (LSt.F x_1) i]) ∧ LSt.ta x = LSt.ta
      x_1) ∧ (Fam.n (LSt.F x) = Fam.n (LSt.F x_1) ∧ (∀ (i : Nat), i < Fam.n (LSt.F x) → [rowB (LSt.F x) i] = [rowB (LSt.F x_1) i]) ∧ LSt.tb x = LSt.tb x_1) ∧ IntKind.wrap IntKind.i64 ((↑(LSt.i x) : Int) + (1 : Int)) =
      (↑(LSt.i x_1) : Int) ∧ True) ∧ StTo (St.mk (famO (LSt.F x) ++ []) (((100 : Nat), LSt.ta x) :: ((101 : Nat), LSt.tb x) :: List.append (famT (LSt.F x)) [])) (St.mk (famO (LSt.F x_1) ++ []) (((100 : Nat), LSt.ta x_1)
      :: ((101 : Nat), LSt.tb x_1) :: List.append (famT (LSt.F x_1)) []))) ∨ ∃ (x_1 : Unit), False ∧ (0 : Nat) < List.length l - LSt.i x ∧ True ∧ StTo (St.mk (famO (LSt.F x) ++ []) (((100 : Nat), LSt.ta x) :: ((101 :
      Nat), LSt.tb x) :: List.append (famT (LSt.F x)) [])) (St.mk [] []))) (ifB (decide ((↑(Fam.n (LSt.F x)) : Int) ≤ OpR.scope (List.getD l (Int.toNat (↑(LSt.i x) : Int)) (OpR.mk (0 : Int) (0 : Int) [] (0 : Int)))))
      ((D.sl (4 : Nat) (List.length l) (fun (i : Nat) => [D.int IntKind.i64 (OpR.kind (List.getD l i (OpR.mk (0 : Int) (0 : Int) [] (0 : Int)))), D.int IntKind.i64 (OpR.scope (List.getD l i (OpR.mk (0 : Int) (0 : Int) []
      (0 : Int)))), D.str (OpR.nm (List.getD l i (OpR.mk (0 : Int) (0 : Int) [] (0 : Int)))), D.int IntKind.i64 (OpR.c (List.getD l i (OpR.mk (0 : Int) (0 : Int) [] (0 : Int))))]) Mode.any = D.sl (4 : Nat) (List.length
      l) (fun (i : Nat) => [D.int IntKind.i64 (OpR.kind (List.getD l i (OpR.mk (0 : Int) (0 : Int) [] (0 : Int)))), D.int IntKind.i64 (OpR.scope (List.getD l i (OpR.mk (0 : Int) (0 : Int) [] (0 : Int)))), D.str (OpR.nm
      (List.getD l i (OpR.mk (0 : Int) (0 : Int) [] (0 : Int)))), D.int IntKind.i64 (OpR.c (List.getD l i (OpR.mk (0 : Int) (0 : Int) [] (0 : Int))))]) Mode.any ∧ True) ∧ ((∃ (x_1 : LSt), (FamOk (LSt.F x_1) ∧ LSt.i x_1 ≤
      List.length l ∧ Fam.n (LSt.F x_1) ≤ LSt.i x_1 + (2 : Nat) ∧ ∀ (j : Nat), List.length (Sc.l (Fam.sc (LSt.F x_1) j)) ≤ LSt.i x_1) ∧ List.length l - LSt.i x_1 < List.length l - LSt.i x ∧ ((Fam.n (LSt.F x) = Fam.n
      (LSt.F x_1) ∧ (∀ (i : Nat), i < Fam.n (LSt.F x) → [rowA (LSt.F x) i] = [rowA (LSt.F x_1) i]) ∧ LSt.ta x = LSt.ta x_1) ∧ (Fam.n (LSt.F x) = Fam.n (LSt.F x_1) ∧ (∀ (i : Nat), i < Fam.n (LSt.F x) → [rowB (LSt.F x) i]
      = [rowB (LSt.F x_1) i]) ∧ LSt.tb x = LSt.tb x_1) ∧ IntKind.wrap IntKind.i64 ((↑(LSt.i x) : Int) + (1 : Int)) = (↑(LSt.i x_1) : Int) ∧ True) ∧ StTo (St.mk (famO (LSt.F x) ++ []) (((100 : Nat), LSt.ta x) :: ((101 :
      Nat), LSt.tb x) :: List.append (famT (LSt.F x)) [])) (St.mk (famO (LSt.F x_1) ++ []) (((100 : Nat), LSt.ta x_1) :: ((101 : Nat), LSt.tb x_1) :: List.append (famT (LSt.F x_1)) []))) ∨ ∃ (x_1 : Unit), False ∧ (0 :
      Nat) < List.length l - LSt.i x ∧ True ∧ StTo (St.mk (famO (LSt.F x) ++ []) (((100 : Nat), LSt.ta x) :: ((101 : Nat), LSt.tb x) :: List.append (famT (LSt.F x)) [])) (St.mk [] []))) (side ((0 : Int) ≤ OpR.scope
      (List.getD l (Int.toNat (↑(LSt.i x) : Int)) (OpR.mk (0 : Int) (0 : Int) [] (0 : Int))) ∧ OpR.scope (List.getD l (Int.toNat (↑(LSt.i x) : Int)) (OpR.mk (0 : Int) (0 : Int) [] (0 : Int))) < (↑(Fam.n (LSt.F x)) :
      Int)) (side ((0 : Int) ≤ OpR.scope (List.getD l (Int.toNat (↑(LSt.i x) : Int)) (OpR.mk (0 : Int) (0 : Int) [] (0 : Int))) ∧ OpR.scope (List.getD l (Int.toNat (↑(LSt.i x) : Int)) (OpR.mk (0 : Int) (0 : Int) [] (0 :
      Int))) < (↑(Fam.n (LSt.F x)) : Int)) ((∃ (x_1 : Nat × Nat), ((∃ (t : Nat), List.getD [rowA (LSt.F x) (Int.toNat (OpR.scope (List.getD l (Int.toNat (↑(LSt.i x) : Int)) (OpR.mk (0 : Int) (0 : Int) [] (0 : Int)))))]
      (0 : Nat) D.unk = D.ref t (Prod.fst x_1) (0 : Nat)) ∧ ∃ (t : Nat), List.getD [rowB (LSt.F x) (Int.toNat (OpR.scope (List.getD l (Int.toNat (↑(LSt.i x) : Int)) (OpR.mk (0 : Int) (0 : Int) [] (0 : Int)))))] (0 : Nat)
      D.unk = D.ref t (Prod.snd x_1) (0 : Nat)) ∧ weakD (List.getD [rowA (LSt.F x) (Int.toNat (OpR.scope (List.getD l (Int.toNat (↑(LSt.i x) : Int)) (OpR.mk (0 : Int) (0 : Int) [] (0 : Int)))))] (0 : Nat) D.unk) (D.ref
      (0 : Nat) (Prod.fst x_1) (0 : Nat)) ∧ weakD (List.getD [rowB (LSt.F x) (Int.toNat (OpR.scope (List.getD l (Int.toNat (↑(LSt.i x) : Int)) (OpR.mk (0 : Int) (0 : Int) [] (0 : Int)))))] (0 : Nat) D.unk) (D.ref (0 :
      Nat) (Prod.snd x_1) (0 : Nat)) ∧ True) ∨ ∃ (x_1 : Unit), (List.getD [rowA (LSt.F x) (Int.toNat (OpR.scope (List.getD l (Int.toNat (↑(LSt.i x) : Int)) (OpR.mk (0 : Int) (0 : Int) [] (0 : Int)))))] (0 : Nat) D.unk =
      D.nilp ∧ List.getD [rowB (LSt.F x) (Int.toNat (OpR.scope (List.getD l (Int.toNat (↑(LSt.i x) : Int)) (OpR.mk (0 : Int) (0 : Int) [] (0 : Int)))))] (0 : Nat) D.unk = D.nilp) ∧ weakD (List.getD [rowA (LSt.F x)
      (Int.toNat (OpR.scope (List.getD l (Int.toNat (↑(LSt.i x) : Int)) (OpR.mk (0 : Int) (0 : Int) [] (0 : Int)))))] (0 : Nat) D.unk) D.nilp ∧ weakD (List.getD [rowB (LSt.F x) (Int.toNat (OpR.scope (List.getD l
      (Int.toNat (↑(LSt.i x) : Int)) (OpR.mk (0 : Int) (0 : Int) [] (0 : Int)))))] (0 : Nat) D.unk) D.nilp ∧ True)) ∧ (∀ (x_1 : Nat × Nat), ((∃ (t : Nat), List.getD [rowA (LSt.F x) (Int.toNat (OpR.scope (List.getD l
      (Int.toNat (↑(LSt.i x) : Int)) (OpR.mk (0 : Int) (0 : Int) [] (0 : Int)))))] (0 : Nat) D.unk = D.ref t (Prod.fst x_1) (0 : Nat)) ∧ ∃ (t : Nat), List.getD [rowB (LSt.F x) (Int.toNat (OpR.scope (List.getD l
      (Int.toNat (↑(LSt.i x) : Int)) (OpR.mk (0 : Int) (0 : Int) [] (0 : Int)))))] (0 : Nat) D.unk = D.ref t (Prod.snd x_1) (0 : Nat)) → side ((0 : Int) ≤ (↑(LSt.i x) : Int) ∧ (↑(LSt.i x) : Int) < (↑(List.length l) :
      Int)) (ifB (OpR.kind (List.getD l (Int.toNat (↑(LSt.i x) : Int)) (OpR.mk (0 : Int) (0 : Int) [] (0 : Int))) == (0 : Int)) ((True ∧ True) ∧ ∀ (y : Sc), eqOf (List (List UInt8 × Int)) (Sc.l y) [] → (True ∧ True) ∧ ∀
      (y_2 : Rc), eqOf (List (List UInt8 × Int)) (Rc.l y_2) [] → LSt.ta x = LSt.ta x ∧ side ((Fam.n (LSt.F x) + (1 : Nat)) * (8 : Nat) ≤ (140737488355328 : Nat) ∧ Fam.n (LSt.F x) + (1 : Nat) ≤ (9223372036854775807 :
      Nat)) (∀ (t : Nat), LSt.tb x = LSt.tb x ∧ side ((Fam.n (LSt.F x) + (1 : Nat)) * (8 : Nat) ≤ (140737488355328 : Nat) ∧ Fam.n (LSt.F x) + (1 : Nat) ≤ (9223372036854775807 : Nat)) (∀ (t_2 : Nat), (D.sl (4 : Nat)
      (List.length l) (fun (i : Nat) => [D.int IntKind.i64 (OpR.kind (List.getD l i (OpR.mk (0 : Int) (0 : Int) [] (0 : Int)))), D.int IntKind.i64 (OpR.scope (List.getD l i (OpR.mk (0 : Int) (0 : Int) [] (0 : Int)))),
      D.str (OpR.nm (List.getD l i (OpR.mk (0 : Int) (0 : Int) [] (0 : Int)))), D.int IntKind.i64 (OpR.c (List.getD l i (OpR.mk (0 : Int) (0 : Int) [] (0 : Int))))]) Mode.any = D.sl (4 : Nat) (List.length l) (fun (i :
      Nat) => [D.int IntKind.i64 (OpR.kind (List.getD l i (OpR.mk (0 : Int) (0 : Int) [] (0 : Int)))), D.int IntKind.i64 (OpR.scope (List.getD l i (OpR.mk (0 : Int) (0 : Int) [] (0 : Int)))), D.str (OpR.nm (List.getD l i
      (OpR.mk (0 : Int) (0 : Int) [] (0 : Int)))), D.int IntKind.i64 (OpR.c (List.getD l i (OpR.mk (0 : Int) (0 : Int) [] (0 : Int))))]) Mode.any ∧ True) ∧ ((∃ (x_2 : LSt), (FamOk (LSt.F x_2) ∧ LSt.i x_2 ≤ List.length l
      ∧ Fam.n (LSt.F x_2) ≤ LSt.i x_2 + (2 : Nat) ∧ ∀ (j : Nat), List.length (Sc.l (Fam.sc (LSt.F x_2) j)) ≤ LSt.i x_2) ∧ List.length l - LSt.i x_2 < List.length l - LSt.i x ∧ ((Fam.n (LSt.F x) + (1 : Nat) = Fam.n (LSt.F
      x_2) ∧ (∀ (i : Nat), i < Fam.n (LSt.F x) + (1 : Nat) → appF (Fam.n (LSt.F x)) (fun (i : Nat) => [rowA (LSt.F x) i]) (fun (i : Nat) => List.getD [[D.ref (0 : Nat) (Sc.x y) (0 : Nat)]] i []) i = [rowA (LSt.F x_2) i])
      ∧ t = LSt.ta x_2) ∧ (Fam.n (LSt.F x) + (1 : Nat) = Fam.n (LSt.F x_2) ∧ (∀ (i : Nat), i < Fam.n (LSt.F x) + (1 : Nat) → appF (Fam.n (LSt.F x)) (fun (i : Nat) => [rowB (LSt.F x) i]) (fun (i : Nat) => List.getD
      [[D.ref (2 : Nat) (Rc.x y_2) (0 : Nat)]] i []) i = [rowB (LSt.F x_2) i]) ∧ t_2 = LSt.tb x_2) ∧ IntKind.wrap IntKind.i64 ((↑(LSt.i x) : Int) + (1 : Int)) = (↑(LSt.i x_2) : Int) ∧ True) ∧ StTo (St.mk (((2 : Nat),
      Rc.x y_2, AObj.cells [D.ref (0 : Nat) (Prod.snd x_1) (0 : Nat), D.sl (1 : Nat) (0 : Nat) (fun (x : Nat) => []) (Mode.tok (2 : Nat) (Rc.u y_2)), D.sl (1 : Nat) (0 : Nat) (fun (x : Nat) => []) (Mode.tok (3 : Nat)
      (Rc.v y_2))]) :: ((0 : Nat), Sc.x y, AObj.cells [D.ref (0 : Nat) (Prod.fst x_1) (0 : Nat), D.map (1 : Nat) (Sc.m y), D.sl (1 : Nat) (0 : Nat) (fun (x : Nat) => []) (Mode.tok (0 : Nat) (Sc.t y))]) :: ((1 : Nat),
      Sc.m y, AObj.amap IntKind.i64 []) :: List.append (List.filter (fun (p : Nat × Nat × AObj) => !List.contains [] (Prod.fst p)) (List.append [] (List.filter (fun (p : Nat × Nat × AObj) => !List.contains [] (Prod.fst
      p)) (famO (LSt.F x))))) []) (((101 : Nat), t_2) :: ((100 : Nat), t) :: ((3 : Nat), Rc.v y_2) :: ((2 : Nat), Rc.u y_2) :: ((0 : Nat), Sc.t y) :: List.append (List.filter (fun (p : Nat × Nat) => !List.contains []
      (Prod.fst p)) (List.filter (fun (p : Nat × Nat) => !List.contains [] (Prod.fst p)) (famT (LSt.F x)))) [])) (St.mk (famO (LSt.F x_2) ++ []) (((100 : Nat), LSt.ta x_2) :: ((101 : Nat), LSt.tb x_2) :: List.append
      (famT (LSt.F x_2)) []))) ∨ ∃ (x_2 : Unit), False ∧ (0 : Nat) < List.length l - LSt.i x ∧ True ∧ StTo (St.mk (((2 : Nat), Rc.x y_2, AObj.cells [D.ref (0 : Nat) (Prod.snd x_1) (0 : Nat), D.sl (1 : Nat) (0 : Nat) (fun
      (x : Nat) => []) (Mode.tok (2 : Nat) (Rc.u y_2)), D.sl (1 : Nat) (0 : Nat) (fun (x : Nat) => []) (Mode.tok (3 : Nat) (Rc.v y_2))]) :: ((0 : Nat), Sc.x y, AObj.cells [D.ref (0 : Nat) (Prod.fst x_1) (0 : Nat), D.map
      (1 : Nat) (Sc.m y), D.sl (1 : Nat) (0 : Nat) (fun (x : Nat) => []) (Mode.tok (0 : Nat) (Sc.t y))]) :: ((1 : Nat), Sc.m y, AObj.amap IntKind.i64 []) :: List.append (List.filter (fun (p : Nat × Nat × AObj) =>
      !List.contains [] (Prod.fst p)) (List.append [] (List.filter (fun (p : Nat × Nat × AObj) => !List.contains [] (Prod.fst p)) (famO (LSt.F x))))) []) (((101 : Nat), t_2) :: ((100 : Nat), t) :: ((3 : Nat), Rc.v y_2)
      :: ((2 : Nat), Rc.u y_2) :: ((0 : Nat), Sc.t y) :: List.append (List.filter (fun (p : Nat × Nat) => !List.contains [] (Prod.fst p)) (List.filter (fun (p : Nat × Nat) => !List.contains [] (Prod.fst p)) (famT (LSt.F
      x)))) [])) (St.mk [] []))))) (ifB (OpR.kind (List.getD l (Int.toNat (↑(LSt.i x) : Int)) (OpR.mk (0 : Int) (0 : Int) [] (0 : Int))) == (1 : Int)) (side ((0 : Int) ≤ (↑(LSt.i x) : Int) ∧ (↑(LSt.i x) : Int) <
      (↑(List.length l) : Int)) (side ((0 : Int) ≤ (↑(LSt.i x) : Int) ∧ (↑(LSt.i x) : Int) < (↑(List.length l) : Int)) (side ((0 : Int) ≤ (↑(LSt.i x) : Int) ∧ (↑(LSt.i x) : Int) < (↑(List.length l) : Int)) (side ((0 :
      Int) ≤ (↑(LSt.i x) : Int) ∧ (↑(LSt.i x) : Int) < (↑(List.length l) : Int)) (∃ (x_2 : (D × Sc) × St), ((Sc.x (Prod.snd (Prod.fst x_2)) = Prod.fst x_1 ∧ List.length (Sc.l (Prod.snd (Prod.fst x_2))) ≤ (1000 : Nat)) ∧
      StTo (St.mk (famO (LSt.F x)) (((100 : Nat), LSt.ta x) :: ((101 : Nat), LSt.tb x) :: famT (LSt.F x))) (St.mk (((0 : Nat), Sc.x (Prod.snd (Prod.fst x_2)), AObj.cells [Prod.fst (Prod.fst x_2), D.map (1 : Nat) (Sc.m
      (Prod.snd (Prod.fst x_2))), D.sl (1 : Nat) (List.length (Sc.l (Prod.snd (Prod.fst x_2)))) (fun (i : Nat) => [D.str (Prod.fst (List.getD (Sc.l (Prod.snd (Prod.fst x_2))) i ([], (0 : Int))))]) (Mode.tok (0 : Nat)
      (Sc.t (Prod.snd (Prod.fst x_2))))]) :: ((1 : Nat), Sc.m (Prod.snd (Prod.fst x_2)), AObj.amap IntKind.i64 (Sc.l (Prod.snd (Prod.fst x_2)))) :: List.append [] (St.objs (Prod.snd x_2))) (((0 : Nat), Sc.t (Prod.snd
      (Prod.fst x_2))) :: List.append [] (St.toks (Prod.snd x_2))))) ∧ ∀ (y : Nat), True → ∃ (x_3 : (D × Rc) × St), ((Rc.x (Prod.snd (Prod.fst x_3)) = Prod.snd x_1 ∧ List.length (Rc.l (Prod.snd (Prod.fst x_3))) ≤ (1000 :
      Nat)) ∧ StTo (St.mk (((0 : Nat), Sc.x (Prod.snd (Prod.fst x_2)), AObj.cells [Prod.fst (Prod.fst x_2), D.map (1 : Nat) (Sc.m (Prod.snd (Prod.fst x_2))), D.sl (1 : Nat) (List.length (addL (Sc.l (Prod.snd (Prod.fst
      x_2))) (OpR.nm (List.getD l (Int.toNat (↑(LSt.i x) : Int)) (OpR.mk (0 : Int) (0 : Int) [] (0 : Int)))) (OpR.c (List.getD l (Int.toNat (↑(LSt.i x) : Int)) (OpR.mk (0 : Int) (0 : Int) [] (0 : Int)))))) (fun (i : Nat)
      => [D.str (Prod.fst (List.getD (addL (Sc.l (Prod.snd (Prod.fst x_2))) (OpR.nm (List.getD l (Int.toNat (↑(LSt.i x) : Int)) (OpR.mk (0 : Int) (0 : Int) [] (0 : Int)))) (OpR.c (List.getD l (Int.toNat (↑(LSt.i x) :
      Int)) (OpR.mk (0 : Int) (0 : Int) [] (0 : Int))))) i ([], (0 : Int))))]) (Mode.tok (0 : Nat) y)]) :: ((1 : Nat), Sc.m (Prod.snd (Prod.fst x_2)), AObj.amap IntKind.i64 (addL (Sc.l (Prod.snd (Prod.fst x_2))) (OpR.nm
      (List.getD l (Int.toNat (↑(LSt.i x) : Int)) (OpR.mk (0 : Int) (0 : Int) [] (0 : Int)))) (OpR.c (List.getD l (Int.toNat (↑(LSt.i x) : Int)) (OpR.mk (0 : Int) (0 : Int) [] (0 : Int)))))) :: List.append [] (St.objs
      (Prod.snd x_2))) (((0 : Nat), y) :: List.append [] (St.toks (Prod.snd x_2)))) (St.mk (((0 : Nat), Rc.x (Prod.snd (Prod.fst x_3)), AObj.cells [Prod.fst (Prod.fst x_3), D.sl (1 : Nat) (List.length (Rc.l (Prod.snd
      (Prod.fst x_3)))) (fun (i : Nat) => [D.str (Prod.fst (List.getD (Rc.l (Prod.snd (Prod.fst x_3))) i ([], (0 : Int))))]) (Mode.tok (0 : Nat) (Rc.u (Prod.snd (Prod.fst x_3)))), D.sl (1 : Nat) (List.length (Rc.l
      (Prod.snd (Prod.fst x_3)))) (fun (i : Nat) => [D.int IntKind.i64 (Prod.snd (List.getD (Rc.l (Prod.snd (Prod.fst x_3))) i ([], (0 : Int))))]) (Mode.tok (1 : Nat) (Rc.v (Prod.snd (Prod.fst x_3))))]) :: List.append []
      (St.objs (Prod.snd x_3))) (((0 : Nat), Rc.u (Prod.snd (Prod.fst x_3))) :: ((1 : Nat), Rc.v (Prod.snd (Prod.fst x_3))) :: List.append [] (St.toks (Prod.snd x_3))))) ∧ ∀ (y : Nat × Nat), True → ifB (defE (Sc.l
      (Prod.snd (Prod.fst x_2))) (OpR.nm (List.getD l (Int.toNat (↑(LSt.i x) : Int)) (OpR.mk (0 : Int) (0 : Int) [] (0 : Int)))) (OpR.c (List.getD l (Int.toNat (↑(LSt.i x) : Int)) (OpR.mk (0 : Int) (0 : Int) [] (0 :
      Int)))) != defE (Rc.l (Prod.snd (Prod.fst x_3))) (OpR.nm (List.getD l (Int.toNat (↑(LSt.i x) : Int)) (OpR.mk (0 : Int) (0 : Int) [] (0 : Int)))) (OpR.c (List.getD l (Int.toNat (↑(LSt.i x) : Int)) (OpR.mk (0 : Int)
      (0 : Int) [] (0 : Int))))) (True ∧ ∃ (y : Unit), True ∧ false = true ∧ True ∧ True) ((D.sl (4 : Nat) (List.length l) (fun (i : Nat) => [D.int IntKind.i64 (OpR.kind (List.getD l i (OpR.mk (0 : Int) (0 : Int) [] (0 :
      Int)))), D.int IntKind.i64 (OpR.scope (List.getD l i (OpR.mk (0 : Int) (0 : Int) [] (0 : Int)))), D.str (OpR.nm (List.getD l i (OpR.mk (0 : Int) (0 : Int) [] (0 : Int)))), D.int IntKind.i64 (OpR.c (List.getD l i
      (OpR.mk (0 : Int) (0 : Int) [] (0 : Int))))]) Mode.any = D.sl (4 : Nat) (List.length l) (fun (i : Nat) => [D.int IntKind.i64 (OpR.kind (List.getD l i (OpR.mk (0 : Int) (0 : Int) [] (0 : Int)))), D.int IntKind.i64
      (OpR.scope (List.getD l i (OpR.mk (0 : Int) (0 : Int) [] (0 : Int)))), D.str (OpR.nm (List.getD l i (OpR.mk (0 : Int) (0 : Int) [] (0 : Int)))), D.int IntKind.i64 (OpR.c (List.getD l i (OpR.mk (0 : Int) (0 : Int)
      [] (0 : Int))))]) Mode.any ∧ True) ∧ ((∃ (x_4 : LSt), (FamOk (LSt.F x_4) ∧ LSt.i x_4 ≤ List.length l ∧ Fam.n (LSt.F x_4) ≤ LSt.i x_4 + (2 : Nat) ∧ ∀ (j : Nat), List.length (Sc.l (Fam.sc (LSt.F x_4) j)) ≤ LSt.i x_4)
      ∧ List.length l - LSt.i x_4 < List.length l - LSt.i x ∧ ((Fam.n (LSt.F x) = Fam.n (LSt.F x_4) ∧ (∀ (i : Nat), i < Fam.n (LSt.F x) → [rowA (LSt.F x) i] = [rowA (LSt.F x_4) i]) ∧ LSt.ta x = LSt.ta x_4) ∧ (Fam.n
      (LSt.F x) = Fam.n (LSt.F x_4) ∧ (∀ (i : Nat), i < Fam.n (LSt.F x) → [rowB (LSt.F x) i] = [rowB (LSt.F x_4) i]) ∧ LSt.tb x = LSt.tb x_4) ∧ IntKind.wrap IntKind.i64 ((↑(LSt.i x) : Int) + (1 : Int)) = (↑(LSt.i x_4) :
      Int) ∧ True) ∧ StTo (St.mk (((0 : Nat), Rc.x (Prod.snd (Prod.fst x_3)), AObj.cells [Prod.fst (Prod.fst x_3), D.sl (1 : Nat) (List.length (addL (Rc.l (Prod.snd (Prod.fst x_3))) (OpR.nm (List.getD l (Int.toNat
      (↑(LSt.i x) : Int)) (OpR.mk (0 : Int) (0 : Int) [] (0 : Int)))) (OpR.c (List.getD l (Int.toNat (↑(LSt.i x) : Int)) (OpR.mk (0 : Int) (0 : Int) [] (0 : Int)))))) (fun (i : Nat) => [D.str (Prod.fst (List.getD (addL
      (Rc.l (Prod.snd (Prod.fst x_3))) (OpR.nm (List.getD l (Int.toNat (↑(LSt.i x) : Int)) (OpR.mk (0 : Int) (0 : Int) [] (0 : Int)))) (OpR.c (List.getD l (Int.toNat (↑(LSt.i x) : Int)) (OpR.mk (0 : Int) (0 : Int) [] (0
      : Int))))) i ([], (0 : Int))))]) (Mode.tok (0 : Nat) (Prod.fst y)), D.sl (1 : Nat) (List.length (addL (Rc.l (Prod.snd (Prod.fst x_3))) (OpR.nm (List.getD l (Int.toNat (↑(LSt.i x) : Int)) (OpR.mk (0 : Int) (0 : Int)
      [] (0 : Int)))) (OpR.c (List.getD l (Int.toNat (↑(LSt.i x) : Int)) (OpR.mk (0 : Int) (0 : Int) [] (0 : Int)))))) (fun (i : Nat) => [D.int IntKind.i64 (Prod.snd (List.getD (addL (Rc.l (Prod.snd (Prod.fst x_3)))
      (OpR.nm (List.getD l (Int.toNat (↑(LSt.i x) : Int)) (OpR.mk (0 : Int) (0 : Int) [] (0 : Int)))) (OpR.c (List.getD l (Int.toNat (↑(LSt.i x) : Int)) (OpR.mk (0 : Int) (0 : Int) [] (0 : Int))))) i ([], (0 : Int))))])
      (Mode.tok (1 : Nat) (Prod.snd y))]) :: List.append (List.append [] (St.objs (Prod.snd x_3))) []) (((0 : Nat), Prod.fst y) :: ((1 : Nat), Prod.snd y) :: List.append (List.append [] (St.toks (Prod.snd x_3))) []))
      (St.mk (famO (LSt.F x_4) ++ []) (((100 : Nat), LSt.ta x_4) :: ((101 : Nat), LSt.tb x_4) :: List.append (famT (LSt.F x_4)) []))) ∨ ∃ (x_4 : Unit), False ∧ (0 : Nat) < List.length l - LSt.i x ∧ True ∧ StTo (St.mk
      (((0 : Nat), Rc.x (Prod.snd (Prod.fst x_3)), AObj.cells [Prod.fst (Prod.fst x_3), D.sl (1 : Nat) (List.length (addL (Rc.l (Prod.snd (Prod.fst x_3))) (OpR.nm (List.getD l (Int.toNat (↑(LSt.i x) : Int)) (OpR.mk (0 :
      Int) (0 : Int) [] (0 : Int)))) (OpR.c (List.getD l (Int.toNat (↑(LSt.i x) : Int)) (OpR.mk (0 : Int) (0 : Int) [] (0 : Int)))))) (fun (i : Nat) => [D.str (Prod.fst (List.getD (addL (Rc.l (Prod.snd (Prod.fst x_3)))
      (OpR.nm (List.getD l (Int.toNat (↑(LSt.i x) : Int)) (OpR.mk (0 : Int) (0 : Int) [] (0 : Int)))) (OpR.c (List.getD l (Int.toNat (↑(LSt.i x) : Int)) (OpR.mk (0 : Int) (0 : Int) [] (0 : Int))))) i ([], (0 : Int))))])
      (Mode.tok (0 : Nat) (Prod.fst y)), D.sl (1 : Nat) (List.length (addL (Rc.l (Prod.snd (Prod.fst x_3))) (OpR.nm (List.getD l (Int.toNat (↑(LSt.i x) : Int)) (OpR.mk (0 : Int) (0 : Int) [] (0 : Int)))) (OpR.c
      (List.getD l (Int.toNat (↑(LSt.i x) : Int)) (OpR.mk (0 : Int) (0 : Int) [] (0 : Int)))))) (fun (i : Nat) => [D.int IntKind.i64 (Prod.snd (List.getD (addL (Rc.l (Prod.snd (Prod.fst x_3))) (OpR.nm (List.getD l
      (Int.toNat (↑(LSt.i x) : Int)) (OpR.mk (0 : Int) (0 : Int) [] (0 : Int)))) (OpR.c (List.getD l (Int.toNat (↑(LSt.i x) : Int)) (OpR.mk (0 : Int) (0 : Int) [] (0 : Int))))) i ([], (0 : Int))))]) (Mode.tok (1 : Nat)
      (Prod.snd y))]) :: List.append (List.append [] (St.objs (Prod.snd x_3))) []) (((0 : Nat), Prod.fst y) :: ((1 : Nat), Prod.snd y) :: List.append (List.append [] (St.toks (Prod.snd x_3))) [])) (St.mk [] []))))))))
      (ifB (OpR.kind (List.getD l (Int.toNat (↑(LSt.i x) : Int)) (OpR.mk (0 : Int) (0 : Int) [] (0 : Int))) == (2 : Int)) (side ((0 : Int) ≤ (↑(LSt.i x) : Int) ∧ (↑(LSt.i x) : Int) < (↑(List.length l) : Int)) (∃ (x_2 :
      List Sc × St), ((∃ (s : Sc), ∃ (r : List Sc), Prod.fst x_2 = s :: r ∧ Sc.x s = Prod.fst x_1) ∧ StTo (St.mk (famO (LSt.F x)) (((100 : Nat), LSt.ta x) :: ((101 : Nat), LSt.tb x) :: famT (LSt.F x))) (St.mk (St.objs
      (chG (fun (o : D) (s : Sc) => St.mk [((0 : Nat), Sc.x s, AObj.cells [o, D.map (1 : Nat) (Sc.m s), D.sl (1 : Nat) (List.length (Sc.l s)) (fun (i : Nat) => [D.str (Prod.fst (List.getD (Sc.l s) i ([], (0 : Int))))])
      (Mode.tok (0 : Nat) (Sc.t s))]), ((1 : Nat), Sc.m s, AObj.amap IntKind.i64 (Sc.l s))] [((0 : Nat), Sc.t s)]) (fun (s : Sc) => D.ref (0 : Nat) (Sc.x s) (0 : Nat)) (Prod.fst x_2)) ++ St.objs (Prod.snd x_2)) (St.toks
      (chG (fun (o : D) (s : Sc) => St.mk [((0 : Nat), Sc.x s, AObj.cells [o, D.map (1 : Nat) (Sc.m s), D.sl (1 : Nat) (List.length (Sc.l s)) (fun (i : Nat) => [D.str (Prod.fst (List.getD (Sc.l s) i ([], (0 : Int))))])
      (Mode.tok (0 : Nat) (Sc.t s))]), ((1 : Nat), Sc.m s, AObj.amap IntKind.i64 (Sc.l s))] [((0 : Nat), Sc.t s)]) (fun (s : Sc) => D.ref (0 : Nat) (Sc.x s) (0 : Nat)) (Prod.fst x_2)) ++ St.toks (Prod.snd x_2)))) ∧ ∀ (y
      : Unit), True → side ((0 : Int) ≤ (↑(LSt.i x) : Int) ∧ (↑(LSt.i x) : Int) < (↑(List.length l) : Int)) (∃ (x_3 : List Rc × St), (((∃ (s : Rc), ∃ (r : List Rc), Prod.fst x_3 = s :: r ∧ Rc.x s = Prod.snd x_1) ∧ ∀ (s :
      Rc), s ∈ Prod.fst x_3 → List.length (Rc.l s) ≤ (1000 : Nat)) ∧ StTo (St.mk (St.objs (chG (fun (o : D) (s : Sc) => St.mk [((0 : Nat), Sc.x s, AObj.cells [o, D.map (1 : Nat) (Sc.m s), D.sl (1 : Nat) (List.length
      (Sc.l s)) (fun (i : Nat) => [D.str (Prod.fst (List.getD (Sc.l s) i ([], (0 : Int))))]) (Mode.tok (0 : Nat) (Sc.t s))]), ((1 : Nat), Sc.m s, AObj.amap IntKind.i64 (Sc.l s))] [((0 : Nat), Sc.t s)]) (fun (s : Sc) =>
      D.ref (0 : Nat) (Sc.x s) (0 : Nat)) (Prod.fst x_2)) ++ St.objs (Prod.snd x_2)) (St.toks (chG (fun (o : D) (s : Sc) => St.mk [((0 : Nat), Sc.x s, AObj.cells [o, D.map (1 : Nat) (Sc.m s), D.sl (1 : Nat) (List.length
      (Sc.l s)) (fun (i : Nat) => [D.str (Prod.fst (List.getD (Sc.l s) i ([], (0 : Int))))]) (Mode.tok (0 : Nat) (Sc.t s))]), ((1 : Nat), Sc.m s, AObj.amap IntKind.i64 (Sc.l s))] [((0 : Nat), Sc.t s)]) (fun (s : Sc) =>
      D.ref (0 : Nat) (Sc.x s) (0 : Nat)) (Prod.fst x_2)) ++ St.toks (Prod.snd x_2))) (St.mk (St.objs (chG (fun (o : D) (s : Rc) => St.mk [((0 : Nat), Rc.x s, AObj.cells [o, D.sl (1 : Nat) (List.length (Rc.l s)) (fun (i
      : Nat) => [D.str (Prod.fst (List.getD (Rc.l s) i ([], (0 : Int))))]) (Mode.tok (0 : Nat) (Rc.u s)), D.sl (1 : Nat) (List.length (Rc.l s)) (fun (i : Nat) => [D.int IntKind.i64 (Prod.snd (List.getD (Rc.l s) i ([], (0
      : Int))))]) (Mode.tok (1 : Nat) (Rc.v s))])] [((0 : Nat), Rc.u s), ((1 : Nat), Rc.v s)]) (fun (s : Rc) => D.ref (0 : Nat) (Rc.x s) (0 : Nat)) (Prod.fst x_3)) ++ St.objs (Prod.snd x_3)) (St.toks (chG (fun (o : D) (s
      : Rc) => St.mk [((0 : Nat), Rc.x s, AObj.cells [o, D.sl (1 : Nat) (List.length (Rc.l s)) (fun (i : Nat) => [D.str (Prod.fst (List.getD (Rc.l s) i ([], (0 : Int))))]) (Mode.tok (0 : Nat) (Rc.u s)), D.sl (1 : Nat)
      (List.length (Rc.l s)) (fun (i : Nat) => [D.int IntKind.i64 (Prod.snd (List.getD (Rc.l s) i ([], (0 : Int))))]) (Mode.tok (1 : Nat) (Rc.v s))])] [((0 : Nat), Rc.u s), ((1 : Nat), Rc.v s)]) (fun (s : Rc) => D.ref (0
      : Nat) (Rc.x s) (0 : Nat)) (Prod.fst x_3)) ++ St.toks (Prod.snd x_3)))) ∧ ∀ (y : Unit), True → ifB (Prod.fst (findL (List.map (fun (x : Sc) => Sc.l x) (Prod.fst x_2)) (OpR.nm (List.getD l (Int.toNat (↑(LSt.i x) :
      Int)) (OpR.mk (0 : Int) (0 : Int) [] (0 : Int))))) != Prod.fst (findL (List.map (fun (x : Rc) => Rc.l x) (Prod.fst x_3)) (OpR.nm (List.getD l (Int.toNat (↑(LSt.i x) : Int)) (OpR.mk (0 : Int) (0 : Int) [] (0 :
      Int)))))) (True ∧ ∃ (y : Unit), True ∧ false = true ∧ True ∧ True) (ifB (!Prod.snd (findL (List.map (fun (x : Sc) => Sc.l x) (Prod.fst x_2)) (OpR.nm (List.getD l (Int.toNat (↑(LSt.i x) : Int)) (OpR.mk (0 : Int) (0
      : Int) [] (0 : Int))))) == Prod.snd (findL (List.map (fun (x : Rc) => Rc.l x) (Prod.fst x_3)) (OpR.nm (List.getD l (Int.toNat (↑(LSt.i x) : Int)) (OpR.mk (0 : Int) (0 : Int) [] (0 : Int)))))) (True ∧ ∃ (y : Unit),
      True ∧ false = true ∧ True ∧ True) ((D.sl (4 : Nat) (List.length l) (fun (i : Nat) => [D.int IntKind.i64 (OpR.kind (List.getD l i (OpR.mk (0 : Int) (0 : Int) [] (0 : Int)))), D.int IntKind.i64 (OpR.scope (List.getD
      l i (OpR.mk (0 : Int) (0 : Int) [] (0 : Int)))), D.str (OpR.nm (List.getD l i (OpR.mk (0 : Int) (0 : Int) [] (0 : Int)))), D.int IntKind.i64 (OpR.c (List.getD l i (OpR.mk (0 : Int) (0 : Int) [] (0 : Int))))])
      Mode.any = D.sl (4 : Nat) (List.length l) (fun (i : Nat) => [D.int IntKind.i64 (OpR.kind (List.getD l i (OpR.mk (0 : Int) (0 : Int) [] (0 : Int)))), D.int IntKind.i64 (OpR.scope (List.getD l i (OpR.mk (0 : Int) (0
      : Int) [] (0 : Int)))), D.str (OpR.nm (List.getD l i (OpR.mk (0 : Int) (0 : Int) [] (0 : Int)))), D.int IntKind.i64 (OpR.c (List.getD l i (OpR.mk (0 : Int) (0 : Int) [] (0 : Int))))]) Mode.any ∧ True) ∧ ((∃ (x_4 :
      LSt), (FamOk (LSt.F x_4) ∧ LSt.i x_4 ≤ List.length l ∧ Fam.n (LSt.F x_4) ≤ LSt.i x_4 + (2 : Nat) ∧ ∀ (j : Nat), List.length (Sc.l (Fam.sc (LSt.F x_4) j)) ≤ LSt.i x_4) ∧ List.length l - LSt.i x_4 < List.length l -
      LSt.i x ∧ ((Fam.n (LSt.F x) = Fam.n (LSt.F x_4) ∧ (∀ (i : Nat), i < Fam.n (LSt.F x) → [rowA (LSt.F x) i] = [rowA (LSt.F x_4) i]) ∧ LSt.ta x = LSt.ta x_4) ∧ (Fam.n (LSt.F x) = Fam.n (LSt.F x_4) ∧ (∀ (i : Nat), i <
      Fam.n (LSt.F x) → [rowB (LSt.F x) i] = [rowB (LSt.F x_4) i]) ∧ LSt.tb x = LSt.tb x_4) ∧ IntKind.wrap IntKind.i64 ((↑(LSt.i x) : Int) + (1 : Int)) = (↑(LSt.i x_4) : Int) ∧ True) ∧ StTo (St.mk (St.objs (chG (fun (o :
      D) (s : Rc) => St.mk [((0 : Nat), Rc.x s, AObj.cells [o, D.sl (1 : Nat) (List.length (Rc.l s)) (fun (i : Nat) => [D.str (Prod.fst (List.getD (Rc.l s) i ([], (0 : Int))))]) (Mode.tok (0 : Nat) (Rc.u s)), D.sl (1 :
      Nat) (List.length (Rc.l s)) (fun (i : Nat) => [D.int IntKind.i64 (Prod.snd (List.getD (Rc.l s) i ([], (0 : Int))))]) (Mode.tok (1 : Nat) (Rc.v s))])] [((0 : Nat), Rc.u s), ((1 : Nat), Rc.v s)]) (fun (s : Rc) =>
      D.ref (0 : Nat) (Rc.x s) (0 : Nat)) (Prod.fst x_3)) ++ St.objs (Prod.snd x_3) ++ []) (St.toks (chG (fun (o : D) (s : Rc) => St.mk [((0 : Nat), Rc.x s, AObj.cells [o, D.sl (1 : Nat) (List.length (Rc.l s)) (fun (i :
      Nat) => [D.str (Prod.fst (List.getD (Rc.l s) i ([], (0 : Int))))]) (Mode.tok (0 : Nat) (Rc.u s)), D.sl (1 : Nat) (List.length (Rc.l s)) (fun (i : Nat) => [D.int IntKind.i64 (Prod.snd (List.getD (Rc.l s) i ([], (0 :
      Int))))]) (Mode.tok (1 : Nat) (Rc.v s))])] [((0 : Nat), Rc.u s), ((1 : Nat), Rc.v s)]) (fun (s : Rc) => D.ref (0 : Nat) (Rc.x s) (0 : Nat)) (Prod.fst x_3)) ++ St.toks (Prod.snd x_3) ++ [])) (St.mk (famO (LSt.F x_4)
      ++ []) (((100 : Nat), LSt.ta x_4) :: ((101 : Nat), LSt.tb x_4) :: List.append (famT (LSt.F x_4)) []))) ∨ ∃ (x_4 : Unit), False ∧ (0 : Nat) < List.length l - LSt.i x ∧ True ∧ StTo (St.mk (St.objs (chG (fun (o : D)
      (s : Rc) => St.mk [((0 : Nat), Rc.x s, AObj.cells [o, D.sl (1 : Nat) (List.length (Rc.l s)) (fun (i : Nat) => [D.str (Prod.fst (List.getD (Rc.l s) i ([], (0 : Int))))]) (Mode.tok (0 : Nat) (Rc.u s)), D.sl (1 : Nat)
      (List.length (Rc.l s)) (fun (i : Nat) => [D.int IntKind.i64 (Prod.snd (List.getD (Rc.l s) i ([], (0 : Int))))]) (Mode.tok (1 : Nat) (Rc.v s))])] [((0 : Nat), Rc.u s), ((1 : Nat), Rc.v s)]) (fun (s : Rc) => D.ref (0
      : Nat) (Rc.x s) (0 : Nat)) (Prod.fst x_3)) ++ St.objs (Prod.snd x_3) ++ []) (St.toks (chG (fun (o : D) (s : Rc) => St.mk [((0 : Nat), Rc.x s, AObj.cells [o, D.sl (1 : Nat) (List.length (Rc.l s)) (fun (i : Nat) =>
      [D.str (Prod.fst (List.getD (Rc.l s) i ([], (0 : Int))))]) (Mode.tok (0 : Nat) (Rc.u s)), D.sl (1 : Nat) (List.length (Rc.l s)) (fun (i : Nat) => [D.int IntKind.i64 (Prod.snd (List.getD (Rc.l s) i ([], (0 :
      Int))))]) (Mode.tok (1 : Nat) (Rc.v s))])] [((0 : Nat), Rc.u s), ((1 : Nat), Rc.v s)]) (fun (s : Rc) => D.ref (0 : Nat) (Rc.x s) (0 : Nat)) (Prod.fst x_3)) ++ St.toks (Prod.snd x_3) ++ [])) (St.mk [] []))))))) (ifB
      (OpR.kind (List.getD l (Int.toNat (↑(LSt.i x) : Int)) (OpR.mk (0 : Int) (0 : Int) [] (0 : Int))) == (3 : Int)) (∃ (x_2 : List Sc × St), (((∃ (s : Sc), ∃ (r : List Sc), Prod.fst x_2 = s :: r ∧ Sc.x s = Prod.fst x_1)
      ∧ List.length (Prod.fst x_2) ≤ (1000 : Nat)) ∧ StTo (St.mk (famO (LSt.F x)) (((100 : Nat), LSt.ta x) :: ((101 : Nat), LSt.tb x) :: famT (LSt.F x))) (St.mk (St.objs (chG (fun (o : D) (s : Sc) => St.mk [((0 : Nat),
      Sc.x s, AObj.cells [o, D.map (1 : Nat) (Sc.m s), D.sl (1 : Nat) (List.length (Sc.l s)) (fun (i : Nat) => [D.str (Prod.fst (List.getD (Sc.l s) i ([], (0 : Int))))]) (Mode.tok (0 : Nat) (Sc.t s))]), ((1 : Nat), Sc.m
      s, AObj.amap IntKind.i64 (Sc.l s))] [((0 : Nat), Sc.t s)]) (fun (s : Sc) => D.ref (0 : Nat) (Sc.x s) (0 : Nat)) (Prod.fst x_2)) ++ St.objs (Prod.snd x_2)) (St.toks (chG (fun (o : D) (s : Sc) => St.mk [((0 : Nat),
      Sc.x s, AObj.cells [o, D.map (1 : Nat) (Sc.m s), D.sl (1 : Nat) (List.length (Sc.l s)) (fun (i : Nat) => [D.str (Prod.fst (List.getD (Sc.l s) i ([], (0 : Int))))]) (Mode.tok (0 : Nat) (Sc.t s))]), ((1 : Nat), Sc.m
      s, AObj.amap IntKind.i64 (Sc.l s))] [((0 : Nat), Sc.t s)]) (fun (s : Sc) => D.ref (0 : Nat) (Sc.x s) (0 : Nat)) (Prod.fst x_2)) ++ St.toks (Prod.snd x_2)))) ∧ ∀ (y : Unit), True → ∃ (x_3 : List Rc × St), (((∃ (s :
      Rc), ∃ (r : List Rc), Prod.fst x_3 = s :: r ∧ Rc.x s = Prod.snd x_1) ∧ List.length (Prod.fst x_3) ≤ (1000 : Nat)) ∧ StTo (St.mk (St.objs (chG (fun (o : D) (s : Sc) => St.mk [((0 : Nat), Sc.x s, AObj.cells [o, D.map
      (1 : Nat) (Sc.m s), D.sl (1 : Nat) (List.length (Sc.l s)) (fun (i : Nat) => [D.str (Prod.fst (List.getD (Sc.l s) i ([], (0 : Int))))]) (Mode.tok (0 : Nat) (Sc.t s))]), ((1 : Nat), Sc.m s, AObj.amap IntKind.i64
      (Sc.l s))] [((0 : Nat), Sc.t s)]) (fun (s : Sc) => D.ref (0 : Nat) (Sc.x s) (0 : Nat)) (Prod.fst x_2)) ++ St.objs (Prod.snd x_2)) (St.toks (chG (fun (o : D) (s : Sc) => St.mk [((0 : Nat), Sc.x s, AObj.cells [o,
      D.map (1 : Nat) (Sc.m s), D.sl (1 : Nat) (List.length (Sc.l s)) (fun (i : Nat) => [D.str (Prod.fst (List.getD (Sc.l s) i ([], (0 : Int))))]) (Mode.tok (0 : Nat) (Sc.t s))]), ((1 : Nat), Sc.m s, AObj.amap
      IntKind.i64 (Sc.l s))] [((0 : Nat), Sc.t s)]) (fun (s : Sc) => D.ref (0 : Nat) (Sc.x s) (0 : Nat)) (Prod.fst x_2)) ++ St.toks (Prod.snd x_2))) (St.mk (St.objs (chG (fun (o : D) (s : Rc) => St.mk [((0 : Nat), Rc.x
      s, AObj.cells [o, D.sl (1 : Nat) (List.length (Rc.l s)) (fun (i : Nat) => [D.str (Prod.fst (List.getD (Rc.l s) i ([], (0 : Int))))]) (Mode.tok (0 : Nat) (Rc.u s)), D.sl (1 : Nat) (List.length (Rc.l s)) (fun (i :
      Nat) => [D.int IntKind.i64 (Prod.snd (List.getD (Rc.l s) i ([], (0 : Int))))]) (Mode.tok (1 : Nat) (Rc.v s))])] [((0 : Nat), Rc.u s), ((1 : Nat), Rc.v s)]) (fun (s : Rc) => D.ref (0 : Nat) (Rc.x s) (0 : Nat))
      (Prod.fst x_3)) ++ St.objs (Prod.snd x_3)) (St.toks (chG (fun (o : D) (s : Rc) => St.mk [((0 : Nat), Rc.x s, AObj.cells [o, D.sl (1 : Nat) (List.length (Rc.l s)) (fun (i : Nat) => [D.str (Prod.fst (List.getD (Rc.l
      s) i ([], (0 : Int))))]) (Mode.tok (0 : Nat) (Rc.u s)), D.sl (1 : Nat) (List.length (Rc.l s)) (fun (i : Nat) => [D.int IntKind.i64 (Prod.snd (List.getD (Rc.l s) i ([], (0 : Int))))]) (Mode.tok (1 : Nat) (Rc.v
      s))])] [((0 : Nat), Rc.u s), ((1 : Nat), Rc.v s)]) (fun (s : Rc) => D.ref (0 : Nat) (Rc.x s) (0 : Nat)) (Prod.fst x_3)) ++ St.toks (Prod.snd x_3)))) ∧ ∀ (y : Unit), True → ifB ((↑(List.length (Prod.fst x_2) - (1 :
      Nat)) : Int) != (↑(List.length (Prod.fst x_3) - (1 : Nat)) : Int)) (True ∧ ∃ (y : Unit), True ∧ false = true ∧ True ∧ True) ((D.sl (4 : Nat) (List.length l) (fun (i : Nat) => [D.int IntKind.i64 (OpR.kind (List.getD
      l i (OpR.mk (0 : Int) (0 : Int) [] (0 : Int)))), D.int IntKind.i64 (OpR.scope (List.getD l i (OpR.mk (0 : Int) (0 : Int) [] (0 : Int)))), D.str (OpR.nm (List.getD l i (OpR.mk (0 : Int) (0 : Int) [] (0 : Int)))),
      D.int IntKind.i64 (OpR.c (List.getD l i (OpR.mk (0 : Int) (0 : Int) [] (0 : Int))))]) Mode.any = D.sl (4 : Nat) (List.length l) (fun (i : Nat) => [D.int IntKind.i64 (OpR.kind (List.getD l i (OpR.mk (0 : Int) (0 :
      Int) [] (0 : Int)))), D.int IntKind.i64 (OpR.scope (List.getD l i (OpR.mk (0 : Int) (0 : Int) [] (0 : Int)))), D.str (OpR.nm (List.getD l i (OpR.mk (0 : Int) (0 : Int) [] (0 : Int)))), D.int IntKind.i64 (OpR.c
      (List.getD l i (OpR.mk (0 : Int) (0 : Int) [] (0 : Int))))]) Mode.any ∧ True) ∧ ((∃ (x_4 : LSt), (FamOk (LSt.F x_4) ∧ LSt.i x_4 ≤ List.length l ∧ Fam.n (LSt.F x_4) ≤ LSt.i x_4 + (2 : Nat) ∧ ∀ (j : Nat), List.length
      (Sc.l (Fam.sc (LSt.F x_4) j)) ≤ LSt.i x_4) ∧ List.length l - LSt.i x_4 < List.length l - LSt.i x ∧ ((Fam.n (LSt.F x) = Fam.n (LSt.F x_4) ∧ (∀ (i : Nat), i < Fam.n (LSt.F x) → [rowA (LSt.F x) i] = [rowA (LSt.F x_4)
      i]) ∧ LSt.ta x = LSt.ta x_4) ∧ (Fam.n (LSt.F x) = Fam.n (LSt.F x_4) ∧ (∀ (i : Nat), i < Fam.n (LSt.F x) → [rowB (LSt.F x) i] = [rowB (LSt.F x_4) i]) ∧ LSt.tb x = LSt.tb x_4) ∧ IntKind.wrap IntKind.i64 ((↑(LSt.i x)
      : Int) + (1 : Int)) = (↑(LSt.i x_4) : Int) ∧ True) ∧ StTo (St.mk (St.objs (chG (fun (o : D) (s : Rc) => St.mk [((0 : Nat), Rc.x s, AObj.cells [o, D.sl (1 : Nat) (List.length (Rc.l s)) (fun (i : Nat) => [D.str
      (Prod.fst (List.getD (Rc.l s) i ([], (0 : Int))))]) (Mode.tok (0 : Nat) (Rc.u s)), D.sl (1 : Nat) (List.length (Rc.l s)) (fun (i : Nat) => [D.int IntKind.i64 (Prod.snd (List.getD (Rc.l s) i ([], (0 : Int))))])
      (Mode.tok (1 : Nat) (Rc.v s))])] [((0 : Nat), Rc.u s), ((1 : Nat), Rc.v s)]) (fun (s : Rc) => D.ref (0 : Nat) (Rc.x s) (0 : Nat)) (Prod.fst x_3)) ++ St.objs (Prod.snd x_3) ++ []) (St.toks (chG (fun (o : D) (s : Rc)
      => St.mk [((0 : Nat), Rc.x s, AObj.cells [o, D.sl (1 : Nat) (List.length (Rc.l s)) (fun (i : Nat) => [D.str (Prod.fst (List.getD (Rc.l s) i ([], (0 : Int))))]) (Mode.tok (0 : Nat) (Rc.u s)), D.sl (1 : Nat)
      (List.length (Rc.l s)) (fun (i : Nat) => [D.int IntKind.i64 (Prod.snd (List.getD (Rc.l s) i ([], (0 : Int))))]) (Mode.tok (1 : Nat) (Rc.v s))])] [((0 : Nat), Rc.u s), ((1 : Nat), Rc.v s)]) (fun (s : Rc) => D.ref (0
      : Nat) (Rc.x s) (0 : Nat)) (Prod.fst x_3)) ++ St.toks (Prod.snd x_3) ++ [])) (St.mk (famO (LSt.F x_4) ++ []) (((100 : Nat), LSt.ta x_4) :: ((101 : Nat), LSt.tb x_4) :: List.append (famT (LSt.F x_4)) []))) ∨ ∃ (x_4
      : Unit), False ∧ (0 : Nat) < List.length l - LSt.i x ∧ True ∧ StTo (St.mk (St.objs (chG (fun (o : D) (s : Rc) => St.mk [((0 : Nat), Rc.x s, AObj.cells [o, D.sl (1 : Nat) (List.length (Rc.l s)) (fun (i : Nat) =>
      [D.str (Prod.fst (List.getD (Rc.l s) i ([], (0 : Int))))]) (Mode.tok (0 : Nat) (Rc.u s)), D.sl (1 : Nat) (List.length (Rc.l s)) (fun (i : Nat) => [D.int IntKind.i64 (Prod.snd (List.getD (Rc.l s) i ([], (0 :
      Int))))]) (Mode.tok (1 : Nat) (Rc.v s))])] [((0 : Nat), Rc.u s), ((1 : Nat), Rc.v s)]) (fun (s : Rc) => D.ref (0 : Nat) (Rc.x s) (0 : Nat)) (Prod.fst x_3)) ++ St.objs (Prod.snd x_3) ++ []) (St.toks (chG (fun (o :
      D) (s : Rc) => St.mk [((0 : Nat), Rc.x s, AObj.cells [o, D.sl (1 : Nat) (List.length (Rc.l s)) (fun (i : Nat) => [D.str (Prod.fst (List.getD (Rc.l s) i ([], (0 : Int))))]) (Mode.tok (0 : Nat) (Rc.u s)), D.sl (1 :
      Nat) (List.length (Rc.l s)) (fun (i : Nat) => [D.int IntKind.i64 (Prod.snd (List.getD (Rc.l s) i ([], (0 : Int))))]) (Mode.tok (1 : Nat) (Rc.v s))])] [((0 : Nat), Rc.u s), ((1 : Nat), Rc.v s)]) (fun (s : Rc) =>
      D.ref (0 : Nat) (Rc.x s) (0 : Nat)) (Prod.fst x_3)) ++ St.toks (Prod.snd x_3) ++ [])) (St.mk [] [])))) (ifB (OpR.kind (List.getD l (Int.toNat (↑(LSt.i x) : Int)) (OpR.mk (0 : Int) (0 : Int) [] (0 : Int))) == (4 :
      Int)) (∃ (x_2 : (D × Sc) × St), ((Sc.x (Prod.snd (Prod.fst x_2)) = Prod.fst x_1 ∧ List.length (Sc.l (Prod.snd (Prod.fst x_2))) ≤ (1000 : Nat)) ∧ StTo (St.mk (famO (LSt.F x)) (((100 : Nat), LSt.ta x) :: ((101 :
      Nat), LSt.tb x) :: famT (LSt.F x))) (St.mk (((0 : Nat), Sc.x (Prod.snd (Prod.fst x_2)), AObj.cells [Prod.fst (Prod.fst x_2), D.map (1 : Nat) (Sc.m (Prod.snd (Prod.fst x_2))), D.sl (1 : Nat) (List.length (Sc.l
      (Prod.snd (Prod.fst x_2)))) (fun (i : Nat) => [D.str (Prod.fst (List.getD (Sc.l (Prod.snd (Prod.fst x_2))) i ([], (0 : Int))))]) (Mode.tok (0 : Nat) (Sc.t (Prod.snd (Prod.fst x_2))))]) :: ((1 : Nat), Sc.m (Prod.snd
      (Prod.fst x_2)), AObj.amap IntKind.i64 (Sc.l (Prod.snd (Prod.fst x_2)))) :: List.append [] (St.objs (Prod.snd x_2))) (((0 : Nat), Sc.t (Prod.snd (Prod.fst x_2))) :: List.append [] (St.toks (Prod.snd x_2))))) ∧ ∀ (y
      : Unit), True → ∃ (x_3 : (D × Rc) × St), ((Rc.x (Prod.snd (Prod.fst x_3)) = Prod.snd x_1 ∧ List.length (Rc.l (Prod.snd (Prod.fst x_3))) ≤ (1000 : Nat)) ∧ StTo (St.mk (((0 : Nat), Sc.x (Prod.snd (Prod.fst x_2)),
      AObj.cells [Prod.fst (Prod.fst x_2), D.map (1 : Nat) (Sc.m (Prod.snd (Prod.fst x_2))), D.sl (1 : Nat) (List.length (Sc.l (Prod.snd (Prod.fst x_2)))) (fun (i : Nat) => [D.str (Prod.fst (List.getD (Sc.l (Prod.snd
      (Prod.fst x_2))) i ([], (0 : Int))))]) (Mode.tok (0 : Nat) (Sc.t (Prod.snd (Prod.fst x_2))))]) :: ((1 : Nat), Sc.m (Prod.snd (Prod.fst x_2)), AObj.amap IntKind.i64 (Sc.l (Prod.snd (Prod.fst x_2)))) :: List.append
      [] (St.objs (Prod.snd x_2))) (((0 : Nat), Sc.t (Prod.snd (Prod.fst x_2))) :: List.append [] (St.toks (Prod.snd x_2)))) (St.mk (((0 : Nat), Rc.x (Prod.snd (Prod.fst x_3)), AObj.cells [Prod.fst (Prod.fst x_3), D.sl
      (1 : Nat) (List.length (Rc.l (Prod.snd (Prod.fst x_3)))) (fun (i : Nat) => [D.str (Prod.fst (List.getD (Rc.l (Prod.snd (Prod.fst x_3))) i ([], (0 : Int))))]) (Mode.tok (0 : Nat) (Rc.u (Prod.snd (Prod.fst x_3)))),
      D.sl (1 : Nat) (List.length (Rc.l (Prod.snd (Prod.fst x_3)))) (fun (i : Nat) => [D.int IntKind.i64 (Prod.snd (List.getD (Rc.l (Prod.snd (Prod.fst x_3))) i ([], (0 : Int))))]) (Mode.tok (1 : Nat) (Rc.v (Prod.snd
      (Prod.fst x_3))))]) :: List.append [] (St.objs (Prod.snd x_3))) (((0 : Nat), Rc.u (Prod.snd (Prod.fst x_3))) :: ((1 : Nat), Rc.v (Prod.snd (Prod.fst x_3))) :: List.append [] (St.toks (Prod.snd x_3))))) ∧ ∀ (y :
      Ab.Mode), True → ∃ (x_4 : List (List UInt8) × List (List UInt8)), ((List.length (Sc.l (Prod.snd (Prod.fst x_2))) = List.length (Prod.fst x_4) ∧ (∀ (i : Nat), i < List.length (Sc.l (Prod.snd (Prod.fst x_2))) →
      [D.str (Prod.fst (List.getD (Sc.l (Prod.snd (Prod.fst x_2))) i ([], (0 : Int))))] = [D.str (List.getD (Prod.fst x_4) i [])]) ∧ True) ∧ (List.length (Rc.l (Prod.snd (Prod.fst x_3))) = List.length (Prod.snd x_4) ∧ (∀
      (i : Nat), i < List.length (Rc.l (Prod.snd (Prod.fst x_3))) → [D.str (Prod.fst (List.getD (Rc.l (Prod.snd (Prod.fst x_3))) i ([], (0 : Int))))] = [D.str (List.getD (Prod.snd x_4) i [])]) ∧ True) ∧ True) ∧ (True ∧
      True) ∧ List.length (Prod.fst x_4) ≤ (1000000 : Nat) ∧ ∀ (y : Unit), True → ifB (!decide (Prod.fst x_4 = Prod.snd x_4)) (True ∧ ∃ (y : Unit), True ∧ false = true ∧ True ∧ True) ((D.sl (4 : Nat) (List.length l) (fun
      (i : Nat) => [D.int IntKind.i64 (OpR.kind (List.getD l i (OpR.mk (0 : Int) (0 : Int) [] (0 : Int)))), D.int IntKind.i64 (OpR.scope (List.getD l i (OpR.mk (0 : Int) (0 : Int) [] (0 : Int)))), D.str (OpR.nm
      (List.getD l i (OpR.mk (0 : Int) (0 : Int) [] (0 : Int)))), D.int IntKind.i64 (OpR.c (List.getD l i (OpR.mk (0 : Int) (0 : Int) [] (0 : Int))))]) Mode.any = D.sl (4 : Nat) (List.length l) (fun (i : Nat) => [D.int
      IntKind.i64 (OpR.kind (List.getD l i (OpR.mk (0 : Int) (0 : Int) [] (0 : Int)))), D.int IntKind.i64 (OpR.scope (List.getD l i (OpR.mk (0 : Int) (0 : Int) [] (0 : Int)))), D.str (OpR.nm (List.getD l i (OpR.mk (0 :
      Int) (0 : Int) [] (0 : Int)))), D.int IntKind.i64 (OpR.c (List.getD l i (OpR.mk (0 : Int) (0 : Int) [] (0 : Int))))]) Mode.any ∧ True) ∧ ((∃ (x_5 : LSt), (FamOk (LSt.F x_5) ∧ LSt.i x_5 ≤ List.length l ∧ Fam.n
      (LSt.F x_5) ≤ LSt.i x_5 + (2 : Nat) ∧ ∀ (j : Nat), List.length (Sc.l (Fam.sc (LSt.F x_5) j)) ≤ LSt.i x_5) ∧ List.length l - LSt.i x_5 < List.length l - LSt.i x ∧ ((Fam.n (LSt.F x) = Fam.n (LSt.F x_5) ∧ (∀ (i :
      Nat), i < Fam.n (LSt.F x) → [rowA (LSt.F x) i] = [rowA (LSt.F x_5) i]) ∧ LSt.ta x = LSt.ta x_5) ∧ (Fam.n (LSt.F x) = Fam.n (LSt.F x_5) ∧ (∀ (i : Nat), i < Fam.n (LSt.F x) → [rowB (LSt.F x) i] = [rowB (LSt.F x_5)
      i]) ∧ LSt.tb x = LSt.tb x_5) ∧ IntKind.wrap IntKind.i64 ((↑(LSt.i x) : Int) + (1 : Int)) = (↑(LSt.i x_5) : Int) ∧ True) ∧ StTo (St.mk (((0 : Nat), Rc.x (Prod.snd (Prod.fst x_3)), AObj.cells [Prod.fst (Prod.fst
      x_3), D.sl (1 : Nat) (List.length (Rc.l (Prod.snd (Prod.fst x_3)))) (fun (i : Nat) => [D.str (Prod.fst (List.getD (Rc.l (Prod.snd (Prod.fst x_3))) i ([], (0 : Int))))]) (Mode.tok (0 : Nat) (Rc.u (Prod.snd (Prod.fst
      x_3)))), D.sl (1 : Nat) (List.length (Rc.l (Prod.snd (Prod.fst x_3)))) (fun (i : Nat) => [D.int IntKind.i64 (Prod.snd (List.getD (Rc.l (Prod.snd (Prod.fst x_3))) i ([], (0 : Int))))]) (Mode.tok (1 : Nat) (Rc.v
      (Prod.snd (Prod.fst x_3))))]) :: List.append (List.filter (fun (p : Nat × Nat × AObj) => !List.contains [] (Prod.fst p)) (List.append [] (St.objs (Prod.snd x_3)))) []) (((0 : Nat), Rc.u (Prod.snd (Prod.fst x_3)))
      :: ((1 : Nat), Rc.v (Prod.snd (Prod.fst x_3))) :: List.append (List.filter (fun (p : Nat × Nat) => !List.contains [] (Prod.fst p)) (List.append [] (St.toks (Prod.snd x_3)))) [])) (St.mk (famO (LSt.F x_5) ++ [])
      (((100 : Nat), LSt.ta x_5) :: ((101 : Nat), LSt.tb x_5) :: List.append (famT (LSt.F x_5)) []))) ∨ ∃ (x_5 : Unit), False ∧ (0 : Nat) < List.length l - LSt.i x ∧ True ∧ StTo (St.mk (((0 : Nat), Rc.x (Prod.snd
      (Prod.fst x_3)), AObj.cells [Prod.fst (Prod.fst x_3), D.sl (1 : Nat) (List.length (Rc.l (Prod.snd (Prod.fst x_3)))) (fun (i : Nat) => [D.str (Prod.fst (List.getD (Rc.l (Prod.snd (Prod.fst x_3))) i ([], (0 :
      Int))))]) (Mode.tok (0 : Nat) (Rc.u (Prod.snd (Prod.fst x_3)))), D.sl (1 : Nat) (List.length (Rc.l (Prod.snd (Prod.fst x_3)))) (fun (i : Nat) => [D.int IntKind.i64 (Prod.snd (List.getD (Rc.l (Prod.snd (Prod.fst
      x_3))) i ([], (0 : Int))))]) (Mode.tok (1 : Nat) (Rc.v (Prod.snd (Prod.fst x_3))))]) :: List.append (List.filter (fun (p : Nat × Nat × AObj) => !List.contains [] (Prod.fst p)) (List.append [] (St.objs (Prod.snd
      x_3)))) []) (((0 : Nat), Rc.u (Prod.snd (Prod.fst x_3))) :: ((1 : Nat), Rc.v (Prod.snd (Prod.fst x_3))) :: List.append (List.filter (fun (p : Nat × Nat) => !List.contains [] (Prod.fst p)) (List.append [] (St.toks
      (Prod.snd x_3)))) [])) (St.mk [] [])))) ((D.sl (4 : Nat) (List.length l) (fun (i : Nat) => [D.int IntKind.i64 (OpR.kind (List.getD l i (OpR.mk (0 : Int) (0 : Int) [] (0 : Int)))), D.int IntKind.i64 (OpR.scope
      (List.getD l i (OpR.mk (0 : Int) (0 : Int) [] (0 : Int)))), D.str (OpR.nm (List.getD l i (OpR.mk (0 : Int) (0 : Int) [] (0 : Int)))), D.int IntKind.i64 (OpR.c (List.getD l i (OpR.mk (0 : Int) (0 : Int) [] (0 :
      Int))))]) Mode.any = D.sl (4 : Nat) (List.length l) (fun (i : Nat) => [D.int IntKind.i64 (OpR.kind (List.getD l i (OpR.mk (0 : Int) (0 : Int) [] (0 : Int)))), D.int IntKind.i64 (OpR.scope (List.getD l i (OpR.mk (0
      : Int) (0 : Int) [] (0 : Int)))), D.str (OpR.nm (List.getD l i (OpR.mk (0 : Int) (0 : Int) [] (0 : Int)))), D.int IntKind.i64 (OpR.c (List.getD l i (OpR.mk (0 : Int) (0 : Int) [] (0 : Int))))]) Mode.any ∧ True) ∧
      ((∃ (x_2 : LSt), (FamOk (LSt.F x_2) ∧ LSt.i x_2 ≤ List.length l ∧ Fam.n (LSt.F x_2) ≤ LSt.i x_2 + (2 : Nat) ∧ ∀ (j : Nat), List.length (Sc.l (Fam.sc (LSt.F x_2) j)) ≤ LSt.i x_2) ∧ List.length l - LSt.i x_2 <
      List.length l - LSt.i x ∧ ((Fam.n (LSt.F x) = Fam.n (LSt.F x_2) ∧ (∀ (i : Nat), i < Fam.n (LSt.F x) → [rowA (LSt.F x) i] = [rowA (LSt.F x_2) i]) ∧ LSt.ta x = LSt.ta x_2) ∧ (Fam.n (LSt.F x) = Fam.n (LSt.F x_2) ∧ (∀
      (i : Nat), i < Fam.n (LSt.F x) → [rowB (LSt.F x) i] = [rowB (LSt.F x_2) i]) ∧ LSt.tb x = LSt.tb x_2) ∧ IntKind.wrap IntKind.i64 ((↑(LSt.i x) : Int) + (1 : Int)) = (↑(LSt.i x_2) : Int) ∧ True) ∧ StTo (St.mk (famO
      (LSt.F x) ++ []) (((100 : Nat), LSt.ta x) :: ((101 : Nat), LSt.tb x) :: List.append (famT (LSt.F x)) [])) (St.mk (famO (LSt.F x_2) ++ []) (((100 : Nat), LSt.ta x_2) :: ((101 : Nat), LSt.tb x_2) :: List.append (famT
      (LSt.F x_2)) []))) ∨ ∃ (x_2 : Unit), False ∧ (0 : Nat) < List.length l - LSt.i x ∧ True ∧ StTo (St.mk (famO (LSt.F x) ++ []) (((100 : Nat), LSt.ta x) :: ((101 : Nat), LSt.tb x) :: List.append (famT (LSt.F x)) []))
      (St.mk [] []))))))))) ∧ ∀ (x_1 : Unit), List.getD [rowA (LSt.F x) (Int.toNat (OpR.scope (List.getD l (Int.toNat (↑(LSt.i x) : Int)) (OpR.mk (0 : Int) (0 : Int) [] (0 : Int)))))] (0 : Nat) D.unk = D.nilp ∧ List.getD
      [rowB (LSt.F x) (Int.toNat (OpR.scope (List.getD l (Int.toNat (↑(LSt.i x) : Int)) (OpR.mk (0 : Int) (0 : Int) [] (0 : Int)))))] (0 : Nat) D.unk = D.nilp → side ((0 : Int) ≤ (↑(LSt.i x) : Int) ∧ (↑(LSt.i x) : Int) <
      (↑(List.length l) : Int)) (ifB (OpR.kind (List.getD l (Int.toNat (↑(LSt.i x) : Int)) (OpR.mk (0 : Int) (0 : Int) [] (0 : Int))) == (0 : Int)) ((True ∧ True) ∧ ∀ (y : Unit), True → (True ∧ True) ∧ ∀ (y : Unit), True
      → LSt.ta x = LSt.ta x ∧ side ((Fam.n (LSt.F x) + (1 : Nat)) * (8 : Nat) ≤ (140737488355328 : Nat) ∧ Fam.n (LSt.F x) + (1 : Nat) ≤ (9223372036854775807 : Nat)) (∀ (t : Nat), LSt.tb x = LSt.tb x ∧ side ((Fam.n (LSt.F
      x) + (1 : Nat)) * (8 : Nat) ≤ (140737488355328 : Nat) ∧ Fam.n (LSt.F x) + (1 : Nat) ≤ (9223372036854775807 : Nat)) (∀ (t_2 : Nat), (D.sl (4 : Nat) (List.length l) (fun (i : Nat) => [D.int IntKind.i64 (OpR.kind
      (List.getD l i (OpR.mk (0 : Int) (0 : Int) [] (0 : Int)))), D.int IntKind.i64 (OpR.scope (List.getD l i (OpR.mk (0 : Int) (0 : Int) [] (0 : Int)))), D.str (OpR.nm (List.getD l i (OpR.mk (0 : Int) (0 : Int) [] (0 :
      Int)))), D.int IntKind.i64 (OpR.c (List.getD l i (OpR.mk (0 : Int) (0 : Int) [] (0 : Int))))]) Mode.any = D.sl (4 : Nat) (List.length l) (fun (i : Nat) => [D.int IntKind.i64 (OpR.kind (List.getD l i (OpR.mk (0 :
      Int) (0 : Int) [] (0 : Int)))), D.int IntKind.i64 (OpR.scope (List.getD l i (OpR.mk (0 : Int) (0 : Int) [] (0 : Int)))), D.str (OpR.nm (List.getD l i (OpR.mk (0 : Int) (0 : Int) [] (0 : Int)))), D.int IntKind.i64
      (OpR.c (List.getD l i (OpR.mk (0 : Int) (0 : Int) [] (0 : Int))))]) Mode.any ∧ True) ∧ ((∃ (x_2 : LSt), (FamOk (LSt.F x_2) ∧ LSt.i x_2 ≤ List.length l ∧ Fam.n (LSt.F x_2) ≤ LSt.i x_2 + (2 : Nat) ∧ ∀ (j : Nat),
      List.length (Sc.l (Fam.sc (LSt.F x_2) j)) ≤ LSt.i x_2) ∧ List.length l - LSt.i x_2 < List.length l - LSt.i x ∧ ((Fam.n (LSt.F x) + (1 : Nat) = Fam.n (LSt.F x_2) ∧ (∀ (i : Nat), i < Fam.n (LSt.F x) + (1 : Nat) →
      appF (Fam.n (LSt.F x)) (fun (i : Nat) => [rowA (LSt.F x) i]) (fun (i : Nat) => List.getD [[D.nilp]] i []) i = [rowA (LSt.F x_2) i]) ∧ t = LSt.ta x_2) ∧ (Fam.n (LSt.F x) + (1 : Nat) = Fam.n (LSt.F x_2) ∧ (∀ (i :
      Nat), i < Fam.n (LSt.F x) + (1 : Nat) → appF (Fam.n (LSt.F x)) (fun (i : Nat) => [rowB (LSt.F x) i]) (fun (i : Nat) => List.getD [[D.nilp]] i []) i = [rowB (LSt.F x_2) i]) ∧ t_2 = LSt.tb x_2) ∧ IntKind.wrap
      IntKind.i64 ((↑(LSt.i x) : Int) + (1 : Int)) = (↑(LSt.i x_2) : Int) ∧ True) ∧ StTo (St.mk ([] ++ List.filter (fun (p : Nat × Nat × AObj) => !List.contains [] (Prod.fst p)) ([] ++ List.filter (fun (p : Nat × Nat ×
      AObj) => !List.contains [] (Prod.fst p)) (famO (LSt.F x))) ++ []) (((101 : Nat), t_2) :: ((100 : Nat), t) :: List.append (List.filter (fun (p : Nat × Nat) => !List.contains [] (Prod.fst p)) (List.filter (fun (p :
      Nat × Nat) => !List.contains [] (Prod.fst p)) (famT (LSt.F x)))) [])) (St.mk (famO (LSt.F x_2) ++ []) (((100 : Nat), LSt.ta x_2) :: ((101 : Nat), LSt.tb x_2) :: List.append (famT (LSt.F x_2)) []))) ∨ ∃ (x_2 :
      Unit), False ∧ (0 : Nat) < List.length l - LSt.i x ∧ True ∧ StTo (St.mk ([] ++ List.filter (fun (p : Nat × Nat × AObj) => !List.contains [] (Prod.fst p)) ([] ++ List.filter (fun (p : Nat × Nat × AObj) =>
      !List.contains [] (Prod.fst p)) (famO (LSt.F x))) ++ []) (((101 : Nat), t_2) :: ((100 : Nat), t) :: List.append (List.filter (fun (p : Nat × Nat) => !List.contains [] (Prod.fst p)) (List.filter (fun (p : Nat × Nat)
      => !List.contains [] (Prod.fst p)) (famT (LSt.F x)))) [])) (St.mk [] []))))) (ifB (OpR.kind (List.getD l (Int.toNat (↑(LSt.i x) : Int)) (OpR.mk (0 : Int) (0 : Int) [] (0 : Int))) == (1 : Int)) (side ((0 : Int) ≤
      (↑(LSt.i x) : Int) ∧ (↑(LSt.i x) : Int) < (↑(List.length l) : Int)) (side ((0 : Int) ≤ (↑(LSt.i x) : Int) ∧ (↑(LSt.i x) : Int) < (↑(List.length l) : Int)) (side ((0 : Int) ≤ (↑(LSt.i x) : Int) ∧ (↑(LSt.i x) : Int)
      < (↑(List.length l) : Int)) (side ((0 : Int) ≤ (↑(LSt.i x) : Int) ∧ (↑(LSt.i x) : Int) < (↑(List.length l) : Int)) ((True ∧ True) ∧ ∀ (y : Unit), True → (True ∧ True) ∧ ∀ (y : Unit), True → (D.sl (4 : Nat)
      (List.length l) (fun (i : Nat) => [D.int IntKind.i64 (OpR.kind (List.getD l i (OpR.mk (0 : Int) (0 : Int) [] (0 : Int)))), D.int IntKind.i64 (OpR.scope (List.getD l i (OpR.mk (0 : Int) (0 : Int) [] (0 : Int)))),
      D.str (OpR.nm (List.getD l i (OpR.mk (0 : Int) (0 : Int) [] (0 : Int)))), D.int IntKind.i64 (OpR.c (List.getD l i (OpR.mk (0 : Int) (0 : Int) [] (0 : Int))))]) Mode.any = D.sl (4 : Nat) (List.length l) (fun (i :
      Nat) => [D.int IntKind.i64 (OpR.kind (List.getD l i (OpR.mk (0 : Int) (0 : Int) [] (0 : Int)))), D.int IntKind.i64 (OpR.scope (List.getD l i (OpR.mk (0 : Int) (0 : Int) [] (0 : Int)))), D.str (OpR.nm (List.getD l i
      (OpR.mk (0 : Int) (0 : Int) [] (0 : Int)))), D.int IntKind.i64 (OpR.c (List.getD l i (OpR.mk (0 : Int) (0 : Int) [] (0 : Int))))]) Mode.any ∧ True) ∧ ((∃ (x_2 : LSt), (FamOk (LSt.F x_2) ∧ LSt.i x_2 ≤ List.length l
      ∧ Fam.n (LSt.F x_2) ≤ LSt.i x_2 + (2 : Nat) ∧ ∀ (j : Nat), List.length (Sc.l (Fam.sc (LSt.F x_2) j)) ≤ LSt.i x_2) ∧ List.length l - LSt.i x_2 < List.length l - LSt.i x ∧ ((Fam.n (LSt.F x) = Fam.n (LSt.F x_2) ∧ (∀
      (i : Nat), i < Fam.n (LSt.F x) → [rowA (LSt.F x) i] = [rowA (LSt.F x_2) i]) ∧ LSt.ta x = LSt.ta x_2) ∧ (Fam.n (LSt.F x) = Fam.n (LSt.F x_2) ∧ (∀ (i : Nat), i < Fam.n (LSt.F x) → [rowB (LSt.F x) i] = [rowB (LSt.F
      x_2) i]) ∧ LSt.tb x = LSt.tb x_2) ∧ IntKind.wrap IntKind.i64 ((↑(LSt.i x) : Int) + (1 : Int)) = (↑(LSt.i x_2) : Int) ∧ True) ∧ StTo (St.mk ([] ++ List.filter (fun (p : Nat × Nat × AObj) => !List.contains []
      (Prod.fst p)) ([] ++ List.filter (fun (p : Nat × Nat × AObj) => !List.contains [] (Prod.fst p)) (famO (LSt.F x))) ++ []) (((100 : Nat), LSt.ta x) :: ((101 : Nat), LSt.tb x) :: List.append (List.filter (fun (p : Nat
      × Nat) => !List.contains [] (Prod.fst p)) (List.filter (fun (p : Nat × Nat) => !List.contains [] (Prod.fst p)) (famT (LSt.F x)))) [])) (St.mk (famO (LSt.F x_2) ++ []) (((100 : Nat), LSt.ta x_2) :: ((101 : Nat),
      LSt.tb x_2) :: List.append (famT (LSt.F x_2)) []))) ∨ ∃ (x_2 : Unit), False ∧ (0 : Nat) < List.length l - LSt.i x ∧ True ∧ StTo (St.mk ([] ++ List.filter (fun (p : Nat × Nat × AObj) => !List.contains [] (Prod.fst
      p)) ([] ++ List.filter (fun (p : Nat × Nat × AObj) => !List.contains [] (Prod.fst p)) (famO (LSt.F x))) ++ []) (((100 : Nat), LSt.ta x) :: ((101 : Nat), LSt.tb x) :: List.append (List.filter (fun (p : Nat × Nat) =>
      !List.contains [] (Prod.fst p)) (List.filter (fun (p : Nat × Nat) => !List.contains [] (Prod.fst p)) (famT (LSt.F x)))) [])) (St.mk [] []))))))) (ifB (OpR.kind (List.getD l (Int.toNat (↑(LSt.i x) : Int)) (OpR.mk (0
      : Int) (0 : Int) [] (0 : Int))) == (2 : Int)) (side ((0 : Int) ≤ (↑(LSt.i x) : Int) ∧ (↑(LSt.i x) : Int) < (↑(List.length l) : Int)) ((True ∧ True) ∧ ∀ (y : Unit), True → side ((0 : Int) ≤ (↑(LSt.i x) : Int) ∧
      (↑(LSt.i x) : Int) < (↑(List.length l) : Int)) ((True ∧ True) ∧ ∀ (y : Unit), True → (D.sl (4 : Nat) (List.length l) (fun (i : Nat) => [D.int IntKind.i64 (OpR.kind (List.getD l i (OpR.mk (0 : Int) (0 : Int) [] (0 :
      Int)))), D.int IntKind.i64 (OpR.scope (List.getD l i (OpR.mk (0 : Int) (0 : Int) [] (0 : Int)))), D.str (OpR.nm (List.getD l i (OpR.mk (0 : Int) (0 : Int) [] (0 : Int)))), D.int IntKind.i64 (OpR.c (List.getD l i
      (OpR.mk (0 : Int) (0 : Int) [] (0 : Int))))]) Mode.any = D.sl (4 : Nat) (List.length l) (fun (i : Nat) => [D.int IntKind.i64 (OpR.kind (List.getD l i (OpR.mk (0 : Int) (0 : Int) [] (0 : Int)))), D.int IntKind.i64
      (OpR.scope (List.getD l i (OpR.mk (0 : Int) (0 : Int) [] (0 : Int)))), D.str (OpR.nm (List.getD l i (OpR.mk (0 : Int) (0 : Int) [] (0 : Int)))), D.int IntKind.i64 (OpR.c (List.getD l i (OpR.mk (0 : Int) (0 : Int)
      [] (0 : Int))))]) Mode.any ∧ True) ∧ ((∃ (x_2 : LSt), (FamOk (LSt.F x_2) ∧ LSt.i x_2 ≤ List.length l ∧ Fam.n (LSt.F x_2) ≤ LSt.i x_2 + (2 : Nat) ∧ ∀ (j : Nat), List.length (Sc.l (Fam.sc (LSt.F x_2) j)) ≤ LSt.i x_2)
      ∧ List.length l - LSt.i x_2 < List.length l - LSt.i x ∧ ((Fam.n (LSt.F x) = Fam.n (LSt.F x_2) ∧ (∀ (i : Nat), i < Fam.n (LSt.F x) → [rowA (LSt.F x) i] = [rowA (LSt.F x_2) i]) ∧ LSt.ta x = LSt.ta x_2) ∧ (Fam.n
      (LSt.F x) = Fam.n (LSt.F x_2) ∧ (∀ (i : Nat), i < Fam.n (LSt.F x) → [rowB (LSt.F x) i] = [rowB (LSt.F x_2) i]) ∧ LSt.tb x = LSt.tb x_2) ∧ IntKind.wrap IntKind.i64 ((↑(LSt.i x) : Int) + (1 : Int)) = (↑(LSt.i x_2) :
      Int) ∧ True) ∧ StTo (St.mk ([] ++ List.filter (fun (p : Nat × Nat × AObj) => !List.contains [] (Prod.fst p)) ([] ++ List.filter (fun (p : Nat × Nat × AObj) => !List.contains [] (Prod.fst p)) (famO (LSt.F x))) ++
      []) (((100 : Nat), LSt.ta x) :: ((101 : Nat), LSt.tb x) :: List.append (List.filter (fun (p : Nat × Nat) => !List.contains [] (Prod.fst p)) (List.filter (fun (p : Nat × Nat) => !List.contains [] (Prod.fst p)) (famT
      (LSt.F x)))) [])) (St.mk (famO (LSt.F x_2) ++ []) (((100 : Nat), LSt.ta x_2) :: ((101 : Nat), LSt.tb x_2) :: List.append (famT (LSt.F x_2)) []))) ∨ ∃ (x_2 : Unit), False ∧ (0 : Nat) < List.length l - LSt.i x ∧ True
      ∧ StTo (St.mk ([] ++ List.filter (fun (p : Nat × Nat × AObj) => !List.contains [] (Prod.fst p)) ([] ++ List.filter (fun (p : Nat × Nat × AObj) => !List.contains [] (Prod.fst p)) (famO (LSt.F x))) ++ []) (((100 :
      Nat), LSt.ta x) :: ((101 : Nat), LSt.tb x) :: List.append (List.filter (fun (p : Nat × Nat) => !List.contains [] (Prod.fst p)) (List.filter (fun (p : Nat × Nat) => !List.contains [] (Prod.fst p)) (famT (LSt.F x))))
      [])) (St.mk [] []))))) (ifB (OpR.kind (List.getD l (Int.toNat (↑(LSt.i x) : Int)) (OpR.mk (0 : Int) (0 : Int) [] (0 : Int))) == (3 : Int)) ((True ∧ True) ∧ ∀ (y : Unit), True → (True ∧ True) ∧ ∀ (y : Unit), True →
      (D.sl (4 : Nat) (List.length l) (fun (i : Nat) => [D.int IntKind.i64 (OpR.kind (List.getD l i (OpR.mk (0 : Int) (0 : Int) [] (0 : Int)))), D.int IntKind.i64 (OpR.scope (List.getD l i (OpR.mk (0 : Int) (0 : Int) []
      (0 : Int)))), D.str (OpR.nm (List.getD l i (OpR.mk (0 : Int) (0 : Int) [] (0 : Int)))), D.int IntKind.i64 (OpR.c (List.getD l i (OpR.mk (0 : Int) (0 : Int) [] (0 : Int))))]) Mode.any = D.sl (4 : Nat) (List.length
      l) (fun (i : Nat) => [D.int IntKind.i64 (OpR.kind (List.getD l i (OpR.mk (0 : Int) (0 : Int) [] (0 : Int)))), D.int IntKind.i64 (OpR.scope (List.getD l i (OpR.mk (0 : Int) (0 : Int) [] (0 : Int)))), D.str (OpR.nm
      (List.getD l i (OpR.mk (0 : Int) (0 : Int) [] (0 : Int)))), D.int IntKind.i64 (OpR.c (List.getD l i (OpR.mk (0 : Int) (0 : Int) [] (0 : Int))))]) Mode.any ∧ True) ∧ ((∃ (x_2 : LSt), (FamOk (LSt.F x_2) ∧ LSt.i x_2 ≤
      List.length l ∧ Fam.n (LSt.F x_2) ≤ LSt.i x_2 + (2 : Nat) ∧ ∀ (j : Nat), List.length (Sc.l (Fam.sc (LSt.F x_2) j)) ≤ LSt.i x_2) ∧ List.length l - LSt.i x_2 < List.length l - LSt.i x ∧ ((Fam.n (LSt.F x) = Fam.n
      (LSt.F x_2) ∧ (∀ (i : Nat), i < Fam.n (LSt.F x) → [rowA (LSt.F x) i] = [rowA (LSt.F x_2) i]) ∧ LSt.ta x = LSt.ta x_2) ∧ (Fam.n (LSt.F x) = Fam.n (LSt.F x_2) ∧ (∀ (i : Nat), i < Fam.n (LSt.F x) → [rowB (LSt.F x) i]
      = [rowB (LSt.F x_2) i]) ∧ LSt.tb x = LSt.tb x_2) ∧ IntKind.wrap IntKind.i64 ((↑(LSt.i x) : Int) + (1 : Int)) = (↑(LSt.i x_2) : Int) ∧ True) ∧ StTo (St.mk ([] ++ List.filter (fun (p : Nat × Nat × AObj) =>
      !List.contains [] (Prod.fst p)) ([] ++ List.filter (fun (p : Nat × Nat × AObj) => !List.contains [] (Prod.fst p)) (famO (LSt.F x))) ++ []) (((100 : Nat), LSt.ta x) :: ((101 : Nat), LSt.tb x) :: List.append
      (List.filter (fun (p : Nat × Nat) => !List.contains [] (Prod.fst p)) (List.filter (fun (p : Nat × Nat) => !List.contains [] (Prod.fst p)) (famT (LSt.F x)))) [])) (St.mk (famO (LSt.F x_2) ++ []) (((100 : Nat),
      LSt.ta x_2) :: ((101 : Nat), LSt.tb x_2) :: List.append (famT (LSt.F x_2)) []))) ∨ ∃ (x_2 : Unit), False ∧ (0 : Nat) < List.length l - LSt.i x ∧ True ∧ StTo (St.mk ([] ++ List.filter (fun (p : Nat × Nat × AObj) =>
      !List.contains [] (Prod.fst p)) ([] ++ List.filter (fun (p : Nat × Nat × AObj) => !List.contains [] (Prod.fst p)) (famO (LSt.F x))) ++ []) (((100 : Nat), LSt.ta x) :: ((101 : Nat), LSt.tb x) :: List.append
      (List.filter (fun (p : Nat × Nat) => !List.contains [] (Prod.fst p)) (List.filter (fun (p : Nat × Nat) => !List.contains [] (Prod.fst p)) (famT (LSt.F x)))) [])) (St.mk [] []))) (ifB (OpR.kind (List.getD l
      (Int.toNat (↑(LSt.i x) : Int)) (OpR.mk (0 : Int) (0 : Int) [] (0 : Int))) == (4 : Int)) ((True ∧ True) ∧ ∀ (y : Unit), True → (True ∧ True) ∧ ∀ (y : Unit), True → ∃ (x_2 : List (List UInt8) × List (List UInt8)),
      (((0 : Nat) = List.length (Prod.fst x_2) ∧ (∀ (i : Nat), i < (0 : Nat) → eqOf (List D) [] [D.str (List.getD (Prod.fst x_2) i [])]) ∧ True) ∧ ((0 : Nat) = List.length (Prod.snd x_2) ∧ (∀ (i : Nat), i < (0 : Nat) →
      eqOf (List D) [] [D.str (List.getD (Prod.snd x_2) i [])]) ∧ True) ∧ True) ∧ (True ∧ True) ∧ List.length (Prod.fst x_2) ≤ (1000000 : Nat) ∧ ∀ (y : Unit), True → ifB (!decide (Prod.fst x_2 = Prod.snd x_2)) (True ∧ ∃
      (y : Unit), True ∧ false = true ∧ True ∧ True) ((D.sl (4 : Nat) (List.length l) (fun (i : Nat) => [D.int IntKind.i64 (OpR.kind (List.getD l i (OpR.mk (0 : Int) (0 : Int) [] (0 : Int)))), D.int IntKind.i64
      (OpR.scope (List.getD l i (OpR.mk (0 : Int) (0 : Int) [] (0 : Int)))), D.str (OpR.nm (List.getD l i (OpR.mk (0 : Int) (0 : Int) [] (0 : Int)))), D.int IntKind.i64 (OpR.c (List.getD l i (OpR.mk (0 : Int) (0 : Int)
      [] (0 : Int))))]) Mode.any = D.sl (4 : Nat) (List.length l) (fun (i : Nat) => [D.int IntKind.i64 (OpR.kind (List.getD l i (OpR.mk (0 : Int) (0 : Int) [] (0 : Int)))), D.int IntKind.i64 (OpR.scope (List.getD l i
      (OpR.mk (0 : Int) (0 : Int) [] (0 : Int)))), D.str (OpR.nm (List.getD l i (OpR.mk (0 : Int) (0 : Int) [] (0 : Int)))), D.int IntKind.i64 (OpR.c (List.getD l i (OpR.mk (0 : Int) (0 : Int) [] (0 : Int))))]) Mode.any
      ∧ True) ∧ ((∃ (x_3 : LSt), (FamOk (LSt.F x_3) ∧ LSt.i x_3 ≤ List.length l ∧ Fam.n (LSt.F x_3) ≤ LSt.i x_3 + (2 : Nat) ∧ ∀ (j : Nat), List.length (Sc.l (Fam.sc (LSt.F x_3) j)) ≤ LSt.i x_3) ∧ List.length l - LSt.i
      x_3 < List.length l - LSt.i x ∧ ((Fam.n (LSt.F x) = Fam.n (LSt.F x_3) ∧ (∀ (i : Nat), i < Fam.n (LSt.F x) → [rowA (LSt.F x) i] = [rowA (LSt.F x_3) i]) ∧ LSt.ta x = LSt.ta x_3) ∧ (Fam.n (LSt.F x) = Fam.n (LSt.F x_3)
      ∧ (∀ (i : Nat), i < Fam.n (LSt.F x) → [rowB (LSt.F x) i] = [rowB (LSt.F x_3) i]) ∧ LSt.tb x = LSt.tb x_3) ∧ IntKind.wrap IntKind.i64 ((↑(LSt.i x) : Int) + (1 : Int)) = (↑(LSt.i x_3) : Int) ∧ True) ∧ StTo (St.mk ([]
      ++ List.filter (fun (p : Nat × Nat × AObj) => !List.contains [] (Prod.fst p)) ([] ++ List.filter (fun (p : Nat × Nat × AObj) => !List.contains [] (Prod.fst p)) ([] ++ List.filter (fun (p : Nat × Nat × AObj) =>
      !List.contains [] (Prod.fst p)) (famO (LSt.F x)))) ++ []) (((100 : Nat), LSt.ta x) :: ((101 : Nat), LSt.tb x) :: List.append (List.filter (fun (p : Nat × Nat) => !List.contains [] (Prod.fst p)) (List.filter (fun (p
      : Nat × Nat) => !List.contains [] (Prod.fst p)) (List.filter (fun (p : Nat × Nat) => !List.contains [] (Prod.fst p)) (famT (LSt.F x))))) [])) (St.mk (famO (LSt.F x_3) ++ []) (((100 : Nat), LSt.ta x_3) :: ((101 :
      Nat), LSt.tb x_3) :: List.append (famT (LSt.F x_3)) []))) ∨ ∃ (x_3 : Unit), False ∧ (0 : Nat) < List.length l - LSt.i x ∧ True ∧ StTo (St.mk ([] ++ List.filter (fun (p : Nat × Nat × AObj) => !List.contains []
      (Prod.fst p)) ([] ++ List.filter (fun (p : Nat × Nat × AObj) => !List.contains [] (Prod.fst p)) ([] ++ List.filter (fun (p : Nat × Nat × AObj) => !List.contains [] (Prod.fst p)) (famO (LSt.F x)))) ++ []) (((100 :
      Nat), LSt.ta x) :: ((101 : Nat), LSt.tb x) :: List.append (List.filter (fun (p : Nat × Nat) => !List.contains [] (Prod.fst p)) (List.filter (fun (p : Nat × Nat) => !List.contains [] (Prod.fst p)) (List.filter (fun
      (p : Nat × Nat) => !List.contains [] (Prod.fst p)) (famT (LSt.F x))))) [])) (St.mk [] [])))) ((D.sl (4 : Nat) (List.length l) (fun (i : Nat) => [D.int IntKind.i64 (OpR.kind (List.getD l i (OpR.mk (0 : Int) (0 :
      Int) [] (0 : Int)))), D.int IntKind.i64 (OpR.scope (List.getD l i (OpR.mk (0 : Int) (0 : Int) [] (0 : Int)))), D.str (OpR.nm (List.getD l i (OpR.mk (0 : Int) (0 : Int) [] (0 : Int)))), D.int IntKind.i64 (OpR.c
      (List.getD l i (OpR.mk (0 : Int) (0 : Int) [] (0 : Int))))]) Mode.any = D.sl (4 : Nat) (List.length l) (fun (i : Nat) => [D.int IntKind.i64 (OpR.kind (List.getD l i (OpR.mk (0 : Int) (0 : Int) [] (0 : Int)))),
      D.int IntKind.i64 (OpR.scope (List.getD l i (OpR.mk (0 : Int) (0 : Int) [] (0 : Int)))), D.str (OpR.nm (List.getD l i (OpR.mk (0 : Int) (0 : Int) [] (0 : Int)))), D.int IntKind.i64 (OpR.c (List.getD l i (OpR.mk (0
      : Int) (0 : Int) [] (0 : Int))))]) Mode.any ∧ True) ∧ ((∃ (x_2 : LSt), (FamOk (LSt.F x_2) ∧ LSt.i x_2 ≤ List.length l ∧ Fam.n (LSt.F x_2) ≤ LSt.i x_2 + (2 : Nat) ∧ ∀ (j : Nat), List.length (Sc.l (Fam.sc (LSt.F x_2)
      j)) ≤ LSt.i x_2) ∧ List.length l - LSt.i x_2 < List.length l - LSt.i x ∧ ((Fam.n (LSt.F x) = Fam.n (LSt.F x_2) ∧ (∀ (i : Nat), i < Fam.n (LSt.F x) → [rowA (LSt.F x) i] = [rowA (LSt.F x_2) i]) ∧ LSt.ta x = LSt.ta
      x_2) ∧ (Fam.n (LSt.F x) = Fam.n (LSt.F x_2) ∧ (∀ (i : Nat), i < Fam.n (LSt.F x) → [rowB (LSt.F x) i] = [rowB (LSt.F x_2) i]) ∧ LSt.tb x = LSt.tb x_2) ∧ IntKind.wrap IntKind.i64 ((↑(LSt.i x) : Int) + (1 : Int)) =
      (↑(LSt.i x_2) : Int) ∧ True) ∧ StTo (St.mk (famO (LSt.F x) ++ []) (((100 : Nat), LSt.ta x) :: ((101 : Nat), LSt.tb x) :: List.append (famT (LSt.F x)) [])) (St.mk (famO (LSt.F x_2) ++ []) (((100 : Nat), LSt.ta x_2)
      :: ((101 : Nat), LSt.tb x_2) :: List.append (famT (LSt.F x_2)) []))) ∨ ∃ (x_2 : Unit), False ∧ (0 : Nat) < List.length l - LSt.i x ∧ True ∧ StTo (St.mk (famO (LSt.F x) ++ []) (((100 : Nat), LSt.ta x) :: ((101 :
      Nat), LSt.tb x) :: List.append (famT (LSt.F x)) [])) (St.mk [] [])))))))))))) (True ∧ ∃ (y : Unit), True ∧ true = true ∧ True ∧ True)) ∧ ∀ (x : Unit), False → False)) (by kernel_rfl) ?_
  try simp only [side_and]
  try simp only [side_iff]
  simp only [ifB_iff, decide_eq_true_eq, decide_eq_false_iff_not, true_and, and_true, forall_const, exists_const, eq_self, List.append_eq, List.append_nil, List.nil_append, false_and, exists_false, or_false, Int.toNat_natCast, implies_true, List.contains_nil, Bool.not_false, filt_true, List.getD_cons_zero]
  intro hlen y y1 hy1 t t1
  have h100 : l.length ≤ 100 := by omega
  refine ⟨⟨⟨fam0 ⟨y.1, y.2.1, y.2.2, []⟩ y1, 0, t, t1⟩, ⟨fam0_ok hy1.symm, Nat.zero_le _, Nat.le_refl _, fun _ => Nat.le_refl _⟩, ⟨⟨rfl, ?_, rfl⟩, ⟨rfl, ?_, rfl⟩, rfl⟩, law_0 (s := ⟨y.1, y.2.1, y.2.2, []⟩) t t1 rfl hy1⟩, ?_⟩
  · intro i hi
    rcases Nat.lt_succ_iff_lt_or_eq.1 hi with h | rfl
    · have : i = 0 := by omega
      subst this; rfl
    · rfl
  · intro i hi
    rcases Nat.lt_succ_iff_lt_or_eq.1 hi with h | rfl
    · have : i = 0 := by omega
      subst this; rfl
    · rfl
  refine ⟨?_, fun h => h⟩
  rintro x ⟨hF, hi, hn, hl⟩ hlt
  generalize l.getD x.i ⟨0, 0, [], 0⟩ = o
  have skip : ∀ {m : Nat}, m = x.F.n → _ := fun {m} hm => nxt (m := m) (A := fun i => [rowA x.F i]) (B := fun i => [rowB x.F i]) (ta := x.ta) (tb := x.tb) (S' := lawS x.F x.ta x.tb) x.F hlt h100 hF hm (by omega) (fun j => Nat.le_succ_of_le (hl j)) (fun _ _ => rfl) (fun _ _ => rfl) (StTo.refl _)
  have skip := skip rfl
  have h0 : (0 : Int) ≤ x.i := by omega
  refine ⟨h0, hlt, fun _ => skip, fun hneg => ⟨fun _ => skip, fun hin => ⟨⟨by omega, by omega, by omega, by omega, ?_⟩, ?_, ?_⟩⟩⟩
  all_goals
    obtain ⟨k, hk⟩ : ∃ k : Nat, o.scope.toNat = k := ⟨_, rfl⟩
    have hkn : k < x.F.n := by omega
    rw [hk]
  · rcases row_or hF k with ⟨a, b, e1, e2⟩ | ⟨e1, e2⟩
    · left; refine ⟨(a, b), ⟨e1, e2⟩, ?_, ?_⟩
      · obtain ⟨t, e⟩ := e1; rw [e]; simp [weakD, chk_iff]
      · obtain ⟨t, e⟩ := e2; rw [e]; simp [weakD, chk_iff]
    · right; exact ⟨⟨e1, e2⟩, by rw [e1]; exact weakD_refl _, by rw [e2]; exact weakD_refl _⟩
  · rintro ⟨a, b⟩ ⟨e1, e2⟩
    dsimp only at e1 e2 ⊢
    obtain ⟨q, ep, ea, eb⟩ := row_ref hF e1 e2
    have hpk : x.F.path k ≠ [] := by rw [ep]; simp
    refine ⟨h0, hlt, ?_, fun _ => ⟨?_, fun _ => ⟨?_, fun _ => ⟨?_, fun _ => ⟨?_, fun _ => skip⟩⟩⟩⟩⟩
    · intro _ s hs r hr
      refine ⟨by omega, by omega, fun ta => ⟨by omega, by omega, fun tb => ?_⟩⟩
      obtain ⟨_, _, n3, n4⟩ := opn_new hF hkn s r hpk
      refine nxt (opn x.F k s r) hlt h100 (opn_ok hF hkn s r (hs.trans hr.symm)) rfl (by show x.F.n + 1 ≤ _; omega) ?_ ?_ ?_ ?_
      · intro j; simp only [opn]; split
        · rw [hs]; simp
        · exact Nat.le_succ_of_le (hl j)
      · intro i hi
        by_cases hin : i < x.F.n
        · simp only [appF, hin, if_true, (opn_old hF hkn s r i hin).2.2.1]
        · have : i = x.F.n := by omega
          rw [this]; simp [appF, n3]
      · intro i hi
        by_cases hin : i < x.F.n
        · simp only [appF, hin, if_true, (opn_old hF hkn s r i hin).2.2.2]
        · have : i = x.F.n := by omega
          rw [this]; simp [appF, n4]
      · have h := law_opn hF hkn s r ta tb hpk hs hr
        rw [ea, eb] at h
        exact h
    · intro _
      have hlk := hl k
      have hle : (x.F.rc k).l.length ≤ 1000 := by rw [← hF.same k]; omega
      refine ⟨h0, hlt, h0, hlt, h0, hlt, h0, hlt, ((hdG iRef (q.map x.F.sc), x.F.sc k), restI x.F [k] x.ta x.tb), ⟨⟨ea, by dsimp only; omega⟩, one_I x.ta x.tb hkn ep⟩, fun t2 => ?_⟩
      refine ⟨((hdG rRef (q.map x.F.rc), x.F.rc k), restR (setI x.F k { x.F.sc k with t := t2, l := addL (x.F.sc k).l o.nm o.c }) [k] x.ta x.tb), ⟨⟨eb, hle⟩, (law_setI (s := { x.F.sc k with t := t2, l := addL (x.F.sc k).l o.nm o.c }) x.ta x.tb hkn ep rfl).trans (one_R (F := setI x.F k { x.F.sc k with t := t2, l := addL (x.F.sc k).l o.nm o.c }) x.ta x.tb hkn ep)⟩, fun y => ⟨fun hne => ?_, fun _ => ?_⟩⟩
      · simp [hF.same k] at hne
      · refine nxt (setR (setI x.F k { x.F.sc k with t := t2, l := addL (x.F.sc k).l o.nm o.c }) k { x.F.rc k with u := y.1, v := y.2, l := addL (x.F.rc k).l o.nm o.c }) hlt h100 ⟨hF.hd, ?_⟩ rfl (by show x.F.n ≤ _; omega) ?_ ?_ ?_ ?_
        · intro j
          simp only [setR, setI]
          split
          · simp only [hF.same k]
          · exact hF.same j
        · intro j
          simp only [setR, setI]
          split
          · have := addL_len (x.F.sc k).l o.nm o.c; dsimp only; omega
          · exact Nat.le_succ_of_le (hl j)
        · intro i _
          simp only [rowA, setR, setI]
          split
          · rfl
          · split
            · rename_i h; rw [h]
            · rfl
        · intro i _
          simp only [rowB, setR, setI]
          split
          · rfl
          · split
            · rename_i h; rw [h]
            · rfl
        · exact law_setR (F := setI x.F k { x.F.sc k with t := t2, l := addL (x.F.sc k).l o.nm o.c }) (s := { x.F.rc k with u := y.1, v := y.2, l := addL (x.F.rc k).l o.nm o.c }) x.ta x.tb hkn ep rfl
    · intro _
      refine ⟨h0, hlt, ((x.F.path k).map x.F.sc, restI x.F (x.F.path k) x.ta x.tb), ⟨⟨x.F.sc k, q.map x.F.sc, by rw [ep]; rfl, ea⟩, (law_chI hF x.ta x.tb hkn).1⟩, h0, hlt,
        ((x.F.path k).map x.F.rc, restR x.F (x.F.path k) x.ta x.tb), ⟨⟨⟨x.F.rc k, q.map x.F.rc, by rw [ep]; rfl, eb⟩, ?_⟩, (law_chI hF x.ta x.tb hkn).2.trans (law_chR hF x.ta x.tb hkn).1⟩, fun hne => ?_, fun _ => ⟨fun hne => ?_, fun _ => ?_⟩⟩
      · intro s hs
        obtain ⟨j, _, rfl⟩ := List.mem_map.1 hs
        have := hl j
        rw [← hF.same j]; omega
      · rw [ls_eq hF] at hne; simp at hne
      · rw [ls_eq hF] at hne; simp at hne
      · exact nxt x.F hlt h100 hF rfl (by omega) (fun j => Nat.le_succ_of_le (hl j)) (fun _ _ => rfl) (fun _ _ => rfl) (law_chR hF x.ta x.tb hkn).2
    · intro _
      have hpl := path_len hF k
      refine ⟨((x.F.path k).map x.F.sc, restI x.F (x.F.path k) x.ta x.tb), ⟨⟨⟨x.F.sc k, q.map x.F.sc, by rw [ep]; rfl, ea⟩, by rw [List.length_map]; omega⟩, (law_chI hF x.ta x.tb hkn).1⟩,
        ((x.F.path k).map x.F.rc, restR x.F (x.F.path k) x.ta x.tb), ⟨⟨⟨x.F.rc k, q.map x.F.rc, by rw [ep]; rfl, eb⟩, by rw [List.length_map]; omega⟩, (law_chI hF x.ta x.tb hkn).2.trans (law_chR hF x.ta x.tb hkn).1⟩, fun hne => ?_, fun _ => ?_⟩
      · simp at hne
      · exact nxt x.F hlt h100 hF rfl (by omega) (fun j => Nat.le_succ_of_le (hl j)) (fun _ _ => rfl) (fun _ _ => rfl) (law_chR hF x.ta x.tb hkn).2
    · intro _
      have hlk := hl k
      have hle : (x.F.rc k).l.length ≤ 1000 := by rw [← hF.same k]; omega
      refine ⟨((hdG iRef (q.map x.F.sc), x.F.sc k), restI x.F [k] x.ta x.tb), ⟨⟨ea, by dsimp only; omega⟩, one_I x.ta x.tb hkn ep⟩, ((hdG rRef (q.map x.F.rc), x.F.rc k), restR x.F [k] x.ta x.tb), ⟨⟨eb, hle⟩, ?_⟩, fun md => ?_⟩
      · refine StTo.trans (B := lawS x.F x.ta x.tb) ?_ (one_R x.ta x.tb hkn ep)
        have h := (law_oneI x.F x.ta x.tb (i := k) hkn).2
        unfold iO at h
        rw [ep] at h
        exact h
      · refine ⟨((x.F.sc k).l.map (·.1), (x.F.rc k).l.map (·.1)), ⟨⟨by simp, ?_⟩, by simp, ?_⟩, by simp; omega, fun hne => ?_, fun _ => ?_⟩
        · intro i hi; simp [List.getElem?_eq_getElem hi]
        · intro i hi; simp [List.getElem?_eq_getElem hi]
        · simp [hF.same k] at hne
        · refine nxt x.F hlt h100 hF rfl (by omega) (fun j => Nat.le_succ_of_le (hl j)) (fun _ _ => rfl) (fun _ _ => rfl) ?_
          have h := (law_oneR x.F x.ta x.tb (i := k) hkn).2
          unfold rO at h
          rw [ep] at h
          exact h
  · rintro ⟨e1, e2⟩
    have hpk := row_nil hF e1
    refine ⟨h0, hlt, ?_, fun _ => ⟨?_, fun _ => ⟨?_, fun _ => ⟨?_, fun _ => ⟨?_, fun _ => skip⟩⟩⟩⟩⟩
    · intro _
      refine ⟨by omega, by omega, fun ta => ⟨by omega, by omega, fun tb => ?_⟩⟩
      obtain ⟨_, _, n3, n4⟩ := opn_nil hF hkn (x.F.sc k) (x.F.rc k) hpk
      refine nxt (opn x.F k (x.F.sc k) (x.F.rc k)) hlt h100 (opn_ok hF hkn _ _ (hF.same k)) rfl (by show x.F.n + 1 ≤ _; omega) ?_ ?_ ?_ ?_
      · intro j; simp only [opn]; split
        · exact Nat.le_succ_of_le (hl k)
        · exact Nat.le_succ_of_le (hl j)
      · intro i hi
        by_cases hin : i < x.F.n
        · simp only [appF, hin, if_true, (opn_old hF hkn (x.F.sc k) (x.F.rc k) i hin).2.2.1]
        · have : i = x.F.n := by omega
          rw [this]; simp [appF, n3]
      · intro i hi
        by_cases hin : i < x.F.n
        · simp only [appF, hin, if_true, (opn_old hF hkn (x.F.sc k) (x.F.rc k) i hin).2.2.2]
        · have : i = x.F.n := by omega
          rw [this]; simp [appF, n4]
      · exact law_opn0 hF hkn (x.F.sc k) (x.F.rc k) ta tb hpk
    · intro _
      exact ⟨h0, hlt, h0, hlt, h0, hlt, h0, hlt, skip⟩
    · intro _
      exact ⟨h0, hlt, h0, hlt, skip⟩
    · intro _
      exact skip
    · intro _
      refine ⟨([], []), ⟨⟨rfl, fun i hi => absurd hi (Nat.not_lt_zero i)⟩, rfl, fun i hi => absurd hi (Nat.not_lt_zero i)⟩, by simp, fun hne => by simp at hne, fun _ => skip⟩
end Go.Proofs.Ytkmgikcdlbibdaa
